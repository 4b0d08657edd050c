/-
  WHAT IS PROVED HERE, TEXT BY TEXT (several texts of one prover, joined to one file; the conditions stand in each statement):
  * WHAT IS PROVED HERE: what functions of layer 10 hand back, each out of its own code; the conditions stand in each statement.
  * WHAT IS PROVED HERE: what functions of layer 10 hand back, each out of its own code; the conditions stand in each statement.
  * WHAT IS PROVED HERE: what TasteRanked's function that is given each list keeps: what leads where, and with a step that shows better. Conditions stand in each statement.
  * WHAT IS PROVED HERE: what functions of layer 10 hand back, each out of its own code; the conditions stand in each statement.
  * WHAT IS PROVED HERE: what functions of layer 10 hand back, each out of its own code; the conditions stand in each statement.
  * WHAT IS PROVED HERE: what functions of layer 10 hand back, each out of its own code; the conditions stand in each statement.
-/
import Derived.Test.YtjbcpggikaeleaaProg
import Derived.Test.YtjbcpggikaeleaaU2
import Derived.Test.YtjbcpggikaeleaaU5
import Derived.Test.YtjbcpggikaeleaaU3

set_option linter.unusedVariables false
set_option linter.unusedSimpArgs false

namespace Go.Proofs.Ytjbcpggikaeleaa
open Go.Wk Go.RowKit Go.Lib
set_option linter.unusedVariables false
set_option linter.unusedSimpArgs false
theorem foLl_66_0 : fldOff Try.prog 66 0 = some 0 := by kernel_rfl
theorem foLl_66_1 : fldOff Try.prog 66 1 = some 1 := by kernel_rfl
theorem foLl_66_3 : fldOff Try.prog 66 3 = some 3 := by kernel_rfl
theorem elLl_39 : ElemI Try.prog 39 3 (.int .i64 0) 1 8 := ElemI.of Try.underlying39 (by kernel_rfl) (by first | rfl | kernel_rfl) (by decide)
theorem foLl_66_4 : fldOff Try.prog 66 4 = some 21 := by kernel_rfl
theorem foLl_66_2 : fldOff Try.prog 66 2 = some 2 := by kernel_rfl
theorem elLl_22 : ElemI Try.prog 22 62 (.agg #[(.slice none 0 0), (.slice none 0 0)]) 2 48 := ElemI.of Try.underlying22 (by kernel_rfl) (by first | rfl | kernel_rfl) (by decide)
theorem foLl_62_0 : fldOff Try.prog 62 0 = some 0 := by kernel_rfl
theorem mixedLl_ : Try.prog.follows .mixedOrders = true := by kernel_rfl
theorem foLl_62_1 : fldOff Try.prog 62 1 = some 1 := by kernel_rfl

set_option maxHeartbeats 2000000 in
set_option maxRecDepth 10000 in
theorem F46 {zs : List Int} {most : Int} {O : List (Option Nat)} {w : World} (n_zs : zs.length = 39) (i_zs : ∀ z ∈ zs, InK .u8 z) (i_most : InK .i64 most) (p_m : 0 ≤ most) (p_6 : most ≤ 6) (hO : ∀ b, some b ∈ O → b < w.heap.size) : Calls Try.prog 46 #[.agg (List.map (Value.int .u8) zs).toArray, .int .i64 most] w (Ret w (fun r w' => ∃ l : List Sale, (shopP zs most l) ∧ ∃ rv, r = .tuple #[.int .i64 (shG zs), rv] ∧ FreshO (tP (tSl (tI .i64)) (tSl (tI .i64))) 62 l rv O w.heap.size w')) := by
  have b_most := bd_i64 i_most
  have hz0 := ix_u8 i_zs 0
  have hz1 := ix_u8 i_zs 1
  have hz2 := ix_u8 i_zs 2
  have hN0 := Int.emod_nonneg (ix 0 zs 1) (show most + 1 ≠ 0 by omega)
  have hN1 := Int.emod_lt_of_pos (ix 0 zs 1) (show 0 < most + 1 by omega)
  have hS := St.start w O hO
  refine enterR Try.func46 rfl Try.ntmps46 Try.results46 rfl ?_
  refine W.seq ?_
  refine W.reg ?_
  refine Wx.box (cs := List.map (Value.int .u8) zs) hS rfl rfl rfl (fun g_1 w_2 hx_4 hb_3 hS => ?_)
  refine Wx.rd (v := .int .i64 0) (rd_assign rfl) rfl ?_
  refine Wx.rd (v := (.slice none 0 0)) (rd_assign rfl) rfl ?_
  refine Wx.nil ?_
  refine W.seq ?_
  refine W.reg ?_
  refine Wx.rd (v := .pointer (some ⟨g_1, 0 + 0, none⟩)) (rd_fieldAddr (o := 0) rfl foLl_66_0) rfl ?_
  have bz_5 := ix_u8 i_zs 0
  refine Wx.rd (v := .int .u8 (ix 0 zs 0)) (rd_loadXa (d := 0) (f := (Value.int .u8)) (j := 0) hS 0 rfl rfl (by omega) (by omega) (by omega) Try.isAgg5) rfl ?_
  refine Wx.rd (v := .int .i64 (ix 0 zs 0)) (rd_convIn rfl Try.underlying5 Try.underlying3 (in_i64 (by omega) (by omega))) rfl ?_
  refine Wx.rd (v := .int .i64 ((ix 0 zs 0) % 3)) (rd_rem rfl rfl (by omega) (by omega)) rfl ?_
  refine Wx.rd (v := .int .i64 (1 + ((ix 0 zs 0) % 3))) (rd_add rfl rfl (in_i64 (by omega) (by omega))) rfl ?_
  refine Wx.rd (v := .int .i64 (1 + ((ix 0 zs 0) % 3))) (rd_assign rfl) rfl ?_
  refine Wx.nil ?_
  refine W.seq ?_
  refine W.reg ?_
  refine Wx.rd (v := (.slice none 0 0)) (rd_assign rfl) rfl ?_
  refine Wx.nil ?_
  refine W.seq ?_
  refine W.seq ?_
  refine W.reg ?_
  refine Wx.rd (v := .pointer (some ⟨g_1, 0 + 1, none⟩)) (rd_fieldAddr (o := 0) rfl foLl_66_1) rfl ?_
  have bz_6 := ix_u8 i_zs 1
  refine Wx.rd (v := .int .u8 (ix 0 zs 1)) (rd_loadXa (d := 0) (f := (Value.int .u8)) (j := 1) hS 0 rfl rfl (by omega) (by omega) (by omega) Try.isAgg5) rfl ?_
  refine Wx.rd (v := .int .i64 (ix 0 zs 1)) (rd_convIn rfl Try.underlying5 Try.underlying3 (in_i64 (by omega) (by omega))) rfl ?_
  refine Wx.rd (v := .int .i64 most) (rd_move rfl) rfl ?_
  refine Wx.rd (v := .int .i64 (most + 1)) (rd_add rfl rfl (in_i64 (by omega) (by omega))) rfl ?_
  refine Wx.rd (v := .int .i64 ((ix 0 zs 1) % (most + 1))) (rd_rem rfl rfl (by omega) (by omega)) rfl ?_
  refine Wx.rd (v := .int .i64 0) (rd_move rfl) rfl ?_
  refine Wx.nil ?_
  refine W.block ?_
  have hS := hS.addNil (tP (tSl (tI .i64)) (tSl (tI .i64))) 62
  refine W.loop [7, 8, 9, 10, 11, 12, 13, 14, 15, 16, 17, 18, 19, 20, 21, 33, 34, 35, 36, 37, 38, 39, 40, 41, 42, 43, 44, 45, 46, 47, 48, 49, 50, 51, 52, 53, 54, 55, 56, 57, 58, 59, 60, 61, 62, 63, 64, 65, 66, 67, 68, 69, 70, 71, 72, 73, 74, 75, 76, 77, 78, 79, 80, 81, 82, 83, 84, 85, 86, 87, 88, 89, 90, 91, 92, 93, 94, 95, 96, 97, 98, 99, 100, 101, 102, 103, 104, 105, 106, 107, 108, 109, 110, 111, 112, 113, 114, 115, 116, 117, 118, 119, 120, 121, 122, 123, 124, 125, 126, 127, 128, 129, 130, 131, 132, 133, 134, 135, 136, 137, 138, 139] (fun x : Int × Value × (List ((List Int) × (List Int))) => match x with | (i, ov, out) => [(33, .int .i64 i), (7, ov)]) (fun (x : Int × Value × (List ((List Int) × (List Int)))) w' => match x with | (i, ov, out) => St w O w' [.row (tP (tSl (tI .i64)) (tSl (tI .i64))) 62 ov out, .box g_1 66 (List.map (Value.int .u8) zs)] ∧ 0 ≤ i ∧ i ≤ (ix 0 zs 1 % (most + 1)) ∧ (out.length : Int) = i ∧ (∀ s ∈ out, shS (shG zs) s)) (fun x : Int × Value × (List ((List Int) × (List Int))) => match x with | (i, ov, out) => ((ix 0 zs 1 % (most + 1)) - i).toNat) (0, (.slice none 0 0), []) ⟨rfl, rfl, trivial⟩ ⟨hS, (by first | omega | simp), (by first | omega | simp), (rfl), (fun s hs => nomatch hs)⟩ ?_
  rintro ⟨i, ov, out⟩ u_8 w_7 ⟨hS, h0, h1, h2, h3⟩
  refine W.seq ?_
  refine W.reg ?_
  refine Wx.rd (v := .bool (decide (i < ((ix 0 zs 1) % (most + 1))))) (rd_lss rfl rfl) rfl ?_
  refine Wx.nil ?_
  refine W.seq ?_
  refine W.condD rfl (fun c0 => ?_) (fun c0 => ?_)
  · -- yes
    refine W.skip ?_
    refine W.seq ?_
    refine W.block ?_
    refine W.seq ?_
    refine W.reg ?_
    refine Wx.rd (v := .int .i64 i) (rd_move rfl) rfl ?_
    refine Wx.rd (v := .int .i64 i) (rd_assign rfl) rfl ?_
    refine Wx.nil ?_
    refine W.seq ?_
    refine W.reg ?_
    refine Wx.rd (v := (.slice none 0 0)) (rd_assign rfl) rfl ?_
    refine Wx.rd (v := (.slice none 0 0)) (rd_assign rfl) rfl ?_
    refine Wx.nil ?_
    refine W.seq ?_
    refine W.seq ?_
    refine W.reg ?_
    refine Wx.rd (v := .int .i64 (1 + ((ix 0 zs 0) % 3))) (rd_move rfl) rfl ?_
    refine Wx.rd (v := .int .i64 0) (rd_move rfl) rfl ?_
    refine Wx.nil ?_
    refine W.block ?_
    have hS := hS.addNil (tI .i64) 3
    have hS := hS.addNil (tI .i64) 3
    refine W.loop [9, 10, 11, 37, 38, 39, 40, 41, 42, 43, 44, 45, 46, 47, 48, 49, 50, 51, 52, 53, 54, 55, 56, 57, 58, 59, 60, 61, 62, 63] (fun x : Int × Value × (List Int) × Value × (List Int) => match x with | (k, pv, p, tv, t) => [(37, .int .i64 k), (9, pv), (10, tv)]) (fun (x : Int × Value × (List Int) × Value × (List Int)) w' => match x with | (k, pv, p, tv, t) => St w O w' [.row (tI .i64) 3 tv t, .row (tI .i64) 3 pv p, .row (tP (tSl (tI .i64)) (tSl (tI .i64))) 62 ov out, .box g_1 66 (List.map (Value.int .u8) zs)] ∧ 0 ≤ k ∧ k ≤ (1 + ix 0 zs 0 % 3) ∧ (p.length : Int) = k ∧ (t.length : Int) = k ∧ (∀ x ∈ p, 1 ≤ x ∧ x ≤ 4) ∧ (∀ x ∈ t, 0 ≤ x ∧ x ≤ 4)) (fun x : Int × Value × (List Int) × Value × (List Int) => match x with | (k, pv, p, tv, t) => ((1 + ix 0 zs 0 % 3) - k).toNat) (0, (.slice none 0 0), [], (.slice none 0 0), []) ⟨rfl, rfl, rfl, trivial⟩ ⟨hS, (by first | omega | simp), (by first | omega | simp), (rfl), (rfl), (fun s hs => nomatch hs), (fun s hs => nomatch hs)⟩ ?_
    rintro ⟨k, pv, p, tv, t⟩ u_10 w_9 ⟨hS, k0, k1, k2, k3, k4, k5⟩
    refine W.seq ?_
    refine W.reg ?_
    refine Wx.rd (v := .bool (decide (k < (1 + ((ix 0 zs 0) % 3))))) (rd_lss rfl rfl) rfl ?_
    refine Wx.nil ?_
    refine W.seq ?_
    refine W.condD rfl (fun c1 => ?_) (fun c1 => ?_)
    · -- yes
      refine W.skip ?_
      refine W.seq ?_
      refine W.block ?_
      refine W.seq ?_
      refine W.reg ?_
      refine Wx.rd (v := .int .i64 k) (rd_move rfl) rfl ?_
      refine Wx.rd (v := .int .i64 k) (rd_assign rfl) rfl ?_
      refine Wx.nil ?_
      refine W.seq ?_
      refine W.reg ?_
      refine Wx.rd (v := pv) (rd_move rfl) rfl ?_
      refine Wx.rd (v := .int .i64 i) (rd_move rfl) rfl ?_
      refine Wx.rd (v := .int .i64 k) (rd_move rfl) rfl ?_
      refine Wx.rd (v := .pointer (some ⟨g_1, 0 + 3, none⟩)) (rd_fieldAddr (o := 0) rfl foLl_66_3) rfl ?_
      refine Wx.rd (v := .pointer (some ⟨g_1, 0 + 3 + i.toNat * 3, none⟩)) (rd_indexArr rfl rfl Try.underlying64 Try.sizeOf63 (by omega) (by omega)) rfl ?_
      refine Wx.rd (v := .pointer (some ⟨g_1, 0 + 3 + i.toNat * 3 + k.toNat * 1, none⟩)) (rd_indexArr rfl rfl Try.underlying63 Try.sizeOf5 (by omega) (by omega)) rfl ?_
      have bz_11 := ix_u8 i_zs (3 + i * 3 + k)
      refine Wx.rd (v := .int .u8 (ix 0 zs (3 + i * 3 + k))) (rd_loadXa (d := 0) (f := (Value.int .u8)) (j := 3 + i * 3 + k) hS 3 rfl rfl (by omega) (by omega) (by omega) Try.isAgg5) rfl ?_
      refine Wx.rd (v := .int .i64 (ix 0 zs (3 + i * 3 + k))) (rd_convIn rfl Try.underlying5 Try.underlying3 (in_i64 (by omega) (by omega))) rfl ?_
      refine Wx.rd (v := .int .i64 ((ix 0 zs (3 + i * 3 + k)) % 4)) (rd_rem rfl rfl (by omega) (by omega)) rfl ?_
      refine Wx.rd (v := .int .i64 (1 + ((ix 0 zs (3 + i * 3 + k)) % 4))) (rd_add rfl rfl (in_i64 (by omega) (by omega))) rfl ?_
      refine Wx.lit (t := (tI .i64)) (ys := [1 + ((ix 0 zs (3 + i * 3 + k)) % 4)]) (vs := [.int .i64 (1 + ((ix 0 zs (3 + i * 3 + k)) % 4))]) elLl_39 hS rfl rfl ⟨(V.mkInt (in_i64 (by omega) (by omega))), trivial⟩ (by decide) rfl (fun v_12 w_13 hx_14 hS => ?_)
      refine Wx.append elLl_39 hS 2 rfl rfl rfl (Src.ofR hS 0 rfl) (by simp only [maxLen]; simp; omega) (by simp; omega) rfl (fun v_15 w_16 hz_17 hS => ?_)
      refine Wx.rd (v := v_15) (rd_assign rfl) rfl ?_
      refine Wx.nil ?_
      refine W.reg ?_
      refine Wx.rd (v := tv) (rd_move rfl) rfl ?_
      refine Wx.rd (v := .int .i64 i) (rd_move rfl) rfl ?_
      refine Wx.rd (v := .int .i64 k) (rd_move rfl) rfl ?_
      refine Wx.rd (v := .pointer (some ⟨g_1, 0 + 21, none⟩)) (rd_fieldAddr (o := 0) rfl foLl_66_4) rfl ?_
      refine Wx.rd (v := .pointer (some ⟨g_1, 0 + 21 + i.toNat * 3, none⟩)) (rd_indexArr rfl rfl Try.underlying64 Try.sizeOf63 (by omega) (by omega)) rfl ?_
      refine Wx.rd (v := .pointer (some ⟨g_1, 0 + 21 + i.toNat * 3 + k.toNat * 1, none⟩)) (rd_indexArr rfl rfl Try.underlying63 Try.sizeOf5 (by omega) (by omega)) rfl ?_
      have bz_18 := ix_u8 i_zs (21 + i * 3 + k)
      refine Wx.rd (v := .int .u8 (ix 0 zs (21 + i * 3 + k))) (rd_loadXa (d := 0) (f := (Value.int .u8)) (j := 21 + i * 3 + k) hS 4 rfl rfl (by omega) (by omega) (by omega) Try.isAgg5) rfl ?_
      refine Wx.rd (v := .int .i64 (ix 0 zs (21 + i * 3 + k))) (rd_convIn rfl Try.underlying5 Try.underlying3 (in_i64 (by omega) (by omega))) rfl ?_
      refine Wx.rd (v := .int .i64 ((ix 0 zs (21 + i * 3 + k)) % 5)) (rd_rem rfl rfl (by omega) (by omega)) rfl ?_
      refine Wx.lit (t := (tI .i64)) (ys := [(ix 0 zs (21 + i * 3 + k)) % 5]) (vs := [.int .i64 ((ix 0 zs (21 + i * 3 + k)) % 5)]) elLl_39 hS rfl rfl ⟨(V.mkInt (in_i64 (by omega) (by omega))), trivial⟩ (by decide) rfl (fun v_19 w_20 hx_21 hS => ?_)
      refine Wx.append elLl_39 hS 2 rfl rfl rfl (Src.ofR hS 0 rfl) (by simp only [maxLen]; simp; omega) (by simp; omega) rfl (fun v_22 w_23 hz_24 hS => ?_)
      refine Wx.rd (v := v_22) (rd_assign rfl) rfl ?_
      refine Wx.nil ?_
      refine W.reg ?_
      refine Wx.rd (v := .int .i64 (k + 1)) (rd_add rfl rfl (in_i64 (by omega) (by omega))) rfl ?_
      refine Wx.rd (v := .int .i64 (k + 1)) (rd_move rfl) rfl ?_
      refine Wx.nil ?_
      refine ⟨(k + 1, v_15, p ++ [1 + ((ix 0 zs (3 + i * 3 + k)) % 4)], v_22, t ++ [(ix 0 zs (21 + i * 3 + k)) % 5]), (by show ((1 + ix 0 zs 0 % 3) - (k + 1)).toNat < ((1 + ix 0 zs 0 % 3) - k).toNat; omega), ?_, ?_, Out.look rfl Out.self⟩
      · exact ⟨St.tl (hS.tl), (by first | omega | assumption), (by first | omega | assumption), (by simp only [List.length_append, List.length_cons, List.length_nil]; omega), (by simp only [List.length_append, List.length_cons, List.length_nil]; omega), (snoc_all k4 (by omega)), (snoc_all k5 (by omega))⟩
      · exact ⟨rfl, rfl, rfl, trivial⟩
    · -- no
      refine W.exit rfl ?_
      refine W.seq ?_
      refine W.seq ?_
      refine W.reg ?_
      refine Wx.rd (v := .pointer (some ⟨g_1, 0 + 2, none⟩)) (rd_fieldAddr (o := 0) rfl foLl_66_2) rfl ?_
      have bz_25 := ix_u8 i_zs 2
      refine Wx.rd (v := .int .u8 (ix 0 zs 2)) (rd_loadXa (d := 0) (f := (Value.int .u8)) (j := 2) hS 3 rfl rfl (by omega) (by omega) (by omega) Try.isAgg5) rfl ?_
      refine Wx.rd (v := .int .u8 ((ix 0 zs 2) % 2)) (rd_rem rfl rfl (by omega) (by omega)) rfl ?_
      refine Wx.rd (v := .bool (decide (((ix 0 zs 2) % 2) = 1))) (rd_eql rfl rfl) rfl ?_
      refine Wx.nil ?_
      have hS := hS.freeze 0 rfl
      refine W.cutK [10, 12, 13, 14, 15, 16, 17, 18, 19, 20, 21, 68, 69, 70, 71, 72, 73, 74, 75, 76, 77, 78, 79, 80, 81, 82, 83, 84, 85, 86, 87, 88, 89, 90, 91, 92, 93, 94, 95, 96, 97, 98, 99, 100, 101, 102, 103, 104, 105, 106, 107, 108, 109, 110, 111, 112, 113, 114, 115, 116, 117, 118, 119, 120, 121, 122, 123, 124, 125, 126, 127, 128, 129, 130, 131, 132] (fun x : Value × (List Int) => match x with | (jv, tj) => [(10, jv)]) (fun (x : Value × (List Int)) w' => match x with | (jv, tj) => St w O w' [Ob.v (tSl (tI .i64)) tj jv, Ob.v (tSl (tI .i64)) t tv, .row (tI .i64) 3 pv p, .row (tP (tSl (tI .i64)) (tSl (tI .i64))) 62 ov out, .box g_1 66 (List.map (Value.int .u8) zs)] ∧ (tj.length : Int) = (1 + ix 0 zs 0 % 3) ∧ (∀ x ∈ tj, 0 ≤ x ∧ x ≤ 4)) ?_ ?_
      · -- up to the cut
        refine W.condD rfl (fun c2 => ?_) (fun c2 => ?_)
        · -- yes
          refine W.seq ?_
          refine W.reg ?_
          refine Wx.rd (v := .int .i64 i) (rd_move rfl) rfl ?_
          refine Wx.rd (v := .pointer (some ⟨g_1, 0 + 21, none⟩)) (rd_fieldAddr (o := 0) rfl foLl_66_4) rfl ?_
          refine Wx.rd (v := .pointer (some ⟨g_1, 0 + 21 + i.toNat * 3, none⟩)) (rd_indexArr rfl rfl Try.underlying64 Try.sizeOf63 (by omega) (by omega)) rfl ?_
          refine Wx.rd (v := .pointer (some ⟨g_1, 0 + 21 + i.toNat * 3 + (0 : Int).toNat * 1, none⟩)) (rd_indexArr rfl rfl Try.underlying63 Try.sizeOf5 (by omega) (by omega)) rfl ?_
          have bz_28 := ix_u8 i_zs (21 + i * 3 + 0)
          refine Wx.rd (v := .int .u8 (ix 0 zs (21 + i * 3 + 0))) (rd_loadXa (d := 0) (f := (Value.int .u8)) (j := 21 + i * 3 + 0) hS 3 rfl rfl (by omega) (by omega) (by omega) Try.isAgg5) rfl ?_
          refine Wx.rd (v := .int .i64 (ix 0 zs (21 + i * 3 + 0))) (rd_convIn rfl Try.underlying5 Try.underlying3 (in_i64 (by omega) (by omega))) rfl ?_
          refine Wx.rd (v := .int .i64 ((ix 0 zs (21 + i * 3 + 0)) % 9)) (rd_rem rfl rfl (by omega) (by omega)) rfl ?_
          refine Wx.rd (v := .int .i64 (4 + ((ix 0 zs (21 + i * 3 + 0)) % 9))) (rd_add rfl rfl (in_i64 (by omega) (by omega))) rfl ?_
          refine Wx.rd (v := .int .i64 (4 + ((ix 0 zs (21 + i * 3 + 0)) % 9))) (rd_assign rfl) rfl ?_
          refine Wx.nil ?_
          refine W.seq ?_
          refine W.reg ?_
          refine Wx.rd (v := .int .i64 (-1)) (rd_assign rfl) rfl ?_
          refine Wx.nil ?_
          refine W.seq ?_
          refine W.reg ?_
          refine Wx.rd (v := .int .i64 0) (rd_move rfl) rfl ?_
          refine Wx.nil ?_
          refine W.block ?_
          have hv_30 : V (tSl (tI .i64)) t tv _ _ := (hS.v 0 rfl)
          have hS := hS.add (hv_30)
          refine W.loop [10, 13, 14, 15, 16, 17, 18, 19, 20, 21, 76, 77, 78, 79, 80, 81, 82, 83, 84, 85, 86, 87, 88, 89, 90, 91, 92, 93, 94, 95, 96, 97, 98, 99, 100, 101, 102, 103, 104, 105, 106, 107, 108, 109, 110, 111, 112, 113, 114, 115, 116, 117, 118, 119, 120, 121, 122, 123, 124, 125, 126, 127, 128, 129, 130, 131, 132] (fun x : Value × (List Int) × Int × Int => match x with | (t4v, t4, b4, xa) => [(10, t4v), (13, .int .i64 b4), (76, .int .i64 xa)]) (fun (x : Value × (List Int) × Int × Int) w' => match x with | (t4v, t4, b4, xa) => St w O w' [Ob.v (tSl (tI .i64)) t4 t4v, Ob.v (tSl (tI .i64)) t tv, .row (tI .i64) 3 pv p, .row (tP (tSl (tI .i64)) (tSl (tI .i64))) 62 ov out, .box g_1 66 (List.map (Value.int .u8) zs)] ∧ 0 ≤ xa ∧ xa ≤ 5 ∧ (t4.length : Int) = (1 + ix 0 zs 0 % 3) ∧ (∀ x ∈ t4, 0 ≤ x ∧ x ≤ 4) ∧ -1 ≤ b4 ∧ b4 ≤ 343) (fun x : Value × (List Int) × Int × Int => match x with | (t4v, t4, b4, xa) => (5 - xa).toNat) (tv, t, -1, 0) ⟨rfl, rfl, rfl, trivial⟩ ⟨hS, (by first | omega | simp), (by first | omega | simp), (by omega), (k5), (by first | omega | simp), (by first | omega | simp)⟩ ?_
          rintro ⟨t4v, t4, b4, xa⟩ u_32 w_31 ⟨hS, x0, x1, xl, xb, x4, x5⟩
          refine W.seq ?_
          refine W.reg ?_
          refine Wx.rd (v := .bool (decide (xa < 5))) (rd_lss rfl rfl) rfl ?_
          refine Wx.nil ?_
          refine W.seq ?_
          refine W.condD rfl (fun c3 => ?_) (fun c3 => ?_)
          · -- yes
            refine W.skip ?_
            refine W.seq ?_
            refine W.block ?_
            refine W.seq ?_
            refine W.reg ?_
            refine Wx.rd (v := .int .i64 xa) (rd_move rfl) rfl ?_
            refine Wx.rd (v := .int .i64 xa) (rd_assign rfl) rfl ?_
            refine Wx.nil ?_
            refine W.seq ?_
            refine W.reg ?_
            refine Wx.rd (v := .int .i64 0) (rd_move rfl) rfl ?_
            refine Wx.nil ?_
            refine W.block ?_
            have hv_34 : V (tSl (tI .i64)) t4 t4v _ _ := (hS.v 0 rfl)
            have hS := hS.add (hv_34)
            refine W.loop [10, 13, 15, 16, 17, 18, 19, 20, 21, 79, 80, 81, 82, 83, 84, 85, 86, 87, 88, 89, 90, 91, 92, 93, 94, 95, 96, 97, 98, 99, 100, 101, 102, 103, 104, 105, 106, 107, 108, 109, 110, 111, 112, 113, 114, 115, 116, 117, 118, 119, 120, 121, 122, 123, 124, 125, 126, 127, 128, 129, 130, 131] (fun x : Value × (List Int) × Int × Int => match x with | (t6v, t6, b6, ya) => [(10, t6v), (13, .int .i64 b6), (79, .int .i64 ya)]) (fun (x : Value × (List Int) × Int × Int) w' => match x with | (t6v, t6, b6, ya) => St w O w' [Ob.v (tSl (tI .i64)) t6 t6v, Ob.v (tSl (tI .i64)) t4 t4v, Ob.v (tSl (tI .i64)) t tv, .row (tI .i64) 3 pv p, .row (tP (tSl (tI .i64)) (tSl (tI .i64))) 62 ov out, .box g_1 66 (List.map (Value.int .u8) zs)] ∧ 0 ≤ ya ∧ ya ≤ 5 ∧ (t6.length : Int) = (1 + ix 0 zs 0 % 3) ∧ (∀ x ∈ t6, 0 ≤ x ∧ x ≤ 4) ∧ -1 ≤ b6 ∧ b6 ≤ 343) (fun x : Value × (List Int) × Int × Int => match x with | (t6v, t6, b6, ya) => (5 - ya).toNat) (t4v, t4, b4, 0) ⟨rfl, rfl, rfl, trivial⟩ ⟨hS, (by first | omega | simp), (by first | omega | simp), (xl), (xb), (by first | omega | simp), (by first | omega | simp)⟩ ?_
            rintro ⟨t6v, t6, b6, ya⟩ u_36 w_35 ⟨hS, y0, y1, yl, yb, y4, y5⟩
            refine W.seq ?_
            refine W.reg ?_
            refine Wx.rd (v := .bool (decide (ya < 5))) (rd_lss rfl rfl) rfl ?_
            refine Wx.nil ?_
            refine W.seq ?_
            refine W.condD rfl (fun c4 => ?_) (fun c4 => ?_)
            · -- yes
              refine W.skip ?_
              refine W.seq ?_
              refine W.block ?_
              refine W.seq ?_
              refine W.reg ?_
              refine Wx.rd (v := .int .i64 ya) (rd_move rfl) rfl ?_
              refine Wx.rd (v := .int .i64 ya) (rd_assign rfl) rfl ?_
              refine Wx.nil ?_
              refine W.seq ?_
              refine W.reg ?_
              refine Wx.rd (v := .int .i64 0) (rd_move rfl) rfl ?_
              refine Wx.nil ?_
              refine W.block ?_
              have hv_38 : V (tSl (tI .i64)) t6 t6v _ _ := (hS.v 0 rfl)
              have hS := hS.add (hv_38)
              refine W.loop [10, 13, 16, 17, 18, 19, 20, 21, 82, 83, 84, 85, 86, 87, 88, 89, 90, 91, 92, 93, 94, 95, 96, 97, 98, 99, 100, 101, 102, 103, 104, 105, 106, 107, 108, 109, 110, 111, 112, 113, 114, 115, 116, 117, 118, 119, 120, 121, 122, 123, 124, 125, 126, 127, 128, 129, 130] (fun x : Value × (List Int) × Int × Int => match x with | (t8v, t8, b8, za) => [(10, t8v), (13, .int .i64 b8), (82, .int .i64 za)]) (fun (x : Value × (List Int) × Int × Int) w' => match x with | (t8v, t8, b8, za) => St w O w' [Ob.v (tSl (tI .i64)) t8 t8v, Ob.v (tSl (tI .i64)) t6 t6v, Ob.v (tSl (tI .i64)) t4 t4v, Ob.v (tSl (tI .i64)) t tv, .row (tI .i64) 3 pv p, .row (tP (tSl (tI .i64)) (tSl (tI .i64))) 62 ov out, .box g_1 66 (List.map (Value.int .u8) zs)] ∧ 0 ≤ za ∧ za ≤ 5 ∧ (t8.length : Int) = (1 + ix 0 zs 0 % 3) ∧ (∀ x ∈ t8, 0 ≤ x ∧ x ≤ 4) ∧ -1 ≤ b8 ∧ b8 ≤ 343) (fun x : Value × (List Int) × Int × Int => match x with | (t8v, t8, b8, za) => (5 - za).toNat) (t6v, t6, b6, 0) ⟨rfl, rfl, rfl, trivial⟩ ⟨hS, (by first | omega | simp), (by first | omega | simp), (yl), (yb), (by first | omega | simp), (by first | omega | simp)⟩ ?_
              rintro ⟨t8v, t8, b8, za⟩ u_40 w_39 ⟨hS, z0, z1, zl, zb, z4, z5⟩
              refine W.seq ?_
              refine W.reg ?_
              refine Wx.rd (v := .bool (decide (za < 5))) (rd_lss rfl rfl) rfl ?_
              refine Wx.nil ?_
              refine W.seq ?_
              refine W.condD rfl (fun c5 => ?_) (fun c5 => ?_)
              · -- yes
                refine W.skip ?_
                refine W.seq ?_
                refine W.block ?_
                refine W.seq ?_
                refine W.reg ?_
                refine Wx.rd (v := .int .i64 za) (rd_move rfl) rfl ?_
                refine Wx.rd (v := .int .i64 za) (rd_assign rfl) rfl ?_
                refine Wx.nil ?_
                refine W.seq ?_
                refine W.reg ?_
                refine Wx.rd (v := .int .i64 xa) (rd_move rfl) rfl ?_
                refine Wx.rd (v := .int .i64 ya) (rd_move rfl) rfl ?_
                refine Wx.rd (v := .int .i64 za) (rd_move rfl) rfl ?_
                refine Wx.lit (t := (tI .i64)) (ys := [xa, ya, za]) (vs := [.int .i64 xa, .int .i64 ya, .int .i64 za]) elLl_39 hS rfl rfl ⟨(V.mkInt (in_i64 (by omega) (by omega))), ⟨(V.mkInt (in_i64 (by omega) (by omega))), ⟨(V.mkInt (in_i64 (by omega) (by omega))), trivial⟩⟩⟩ (by decide) rfl (fun v_41 w_42 hx_43 hS => ?_)
                refine Wx.rd (v := .int .i64 (1 + ((ix 0 zs 0) % 3))) (rd_move rfl) rfl ?_
                have hS := hS.freeze 0 rfl
                have h3l : (([xa, ya, za] : List Int).length : Int) = 3 := rfl
                refine Wx.ex (rd_sliceH (hS.v 0 rfl) Try.underlying39 Try.sizeOf3 rfl rfl (by omega) (by omega)) rfl (fun u_45 hu_46 => ?_)
                have ln_47 := hu_46.len63
                have hS := hS.add hu_46
                refine Wx.rd (v := u_45) (rd_assign rfl) rfl ?_
                refine Wx.nil ?_
                refine W.seq ?_
                refine W.reg ?_
                refine Wx.rd (v := .int .i64 0) (rd_assign rfl) rfl ?_
                refine Wx.rd (v := .int .i64 1) (rd_assign rfl) rfl ?_
                refine Wx.nil ?_
                refine W.seq ?_
                refine W.seq ?_
                refine W.reg ?_
                refine Wx.rd (v := u_45) (rd_move rfl) rfl ?_
                refine Wx.rd (v := .int .i64 (([xa, ya, za].take (1 + ((ix 0 zs 0) % 3)).toNat).length : Int)) (rd_lenV rfl (hS.v 0 rfl) Try.underlying39) rfl ?_
                refine Wx.rd (v := .int .i64 0) (rd_move rfl) rfl ?_
                refine Wx.nil ?_
                refine W.block ?_
                have hT := len3 (x := xa) (y := ya) (z := za) (g := (1 + ix 0 zs 0 % 3)) ⟨by omega, by omega⟩
                have hTb := take3 (x := xa) (y := ya) (z := za) (g := (1 + ix 0 zs 0 % 3)) ⟨by omega, by omega⟩ ⟨by omega, by omega⟩ ⟨by omega, by omega⟩
                refine W.loop [18, 19, 20, 21, 93, 94, 95, 96, 97, 98, 99, 100, 101, 102, 103, 104, 105, 106, 107, 108, 109, 110, 111, 112, 113, 114, 115, 116, 117, 118] (fun x : Int × Int × Int => match x with | (cost, worth, j) => [(18, .int .i64 cost), (19, .int .i64 worth), (93, .int .i64 j)]) (fun (x : Int × Int × Int) w' => match x with | (cost, worth, j) => St w O w' [Ob.v (tSl (tI .i64)) ([xa, ya, za].take (1 + ((ix 0 zs 0) % 3)).toNat) u_45, Ob.v (tSl (tI .i64)) [xa, ya, za] v_41, Ob.v (tSl (tI .i64)) t8 t8v, Ob.v (tSl (tI .i64)) t6 t6v, Ob.v (tSl (tI .i64)) t4 t4v, Ob.v (tSl (tI .i64)) t tv, .row (tI .i64) 3 pv p, .row (tP (tSl (tI .i64)) (tSl (tI .i64))) 62 ov out, .box g_1 66 (List.map (Value.int .u8) zs)] ∧ 0 ≤ j ∧ j ≤ (1 + ix 0 zs 0 % 3) ∧ 0 ≤ cost ∧ cost ≤ 16 * j ∧ 1 ≤ worth ∧ ((j = 0 → worth ≤ 1) ∧ (j = 1 → worth ≤ 7) ∧ (j = 2 → worth ≤ 49) ∧ (j = 3 → worth ≤ 343))) (fun x : Int × Int × Int => match x with | (cost, worth, j) => ((1 + ix 0 zs 0 % 3) - j).toNat) (0, 1, 0) ⟨rfl, rfl, rfl, trivial⟩ ⟨hS, (by first | omega | simp), (by first | omega | simp), (by first | omega | simp), (by first | omega | simp), (by first | omega | simp), (by omega)⟩ ?_
                rintro ⟨cost, worth, j⟩ u_50 w_49 ⟨hS, j0, j1, j2, j3, j4, j5⟩
                refine W.seq ?_
                refine W.reg ?_
                refine Wx.rd (v := .bool (decide (j < (([xa, ya, za].take (1 + ((ix 0 zs 0) % 3)).toNat).length : Int)))) (rd_lss rfl rfl) rfl ?_
                refine Wx.nil ?_
                refine W.seq ?_
                refine W.condD rfl (fun c6 => ?_) (fun c6 => ?_)
                · -- yes
                  refine W.skip ?_
                  refine W.seq ?_
                  refine W.block ?_
                  refine W.seq ?_
                  refine W.reg ?_
                  refine Wx.rd (v := .int .i64 j) (rd_move rfl) rfl ?_
                  refine Wx.ex (rd_index 0 (hS.v 0 rfl) rfl rfl Try.underlying39 Try.sizeOf3 (by first | omega | (simp only [List.length_set, List.length_append, List.length_cons, List.length_nil, List.length_replicate]; omega)) (by first | omega | (simp only [List.length_set, List.length_append, List.length_cons, List.length_nil, List.length_replicate]; omega))) rfl (fun p_51 hp_52 => ?_)
                  refine Wx.rd (v := .int .i64 (ix 0 ([xa, ya, za].take (1 + ((ix 0 zs 0) % 3)).toNat) j)) (rd_loadI hp_52 rfl Try.isAgg3 Try.sizeOf3) rfl ?_
                  have bd_53 := bd_i64 hp_52.inK
                  refine Wx.rd (v := .int .i64 j) (rd_assign rfl) rfl ?_
                  refine Wx.rd (v := .int .i64 (ix 0 ([xa, ya, za].take (1 + ((ix 0 zs 0) % 3)).toNat) j)) (rd_assign rfl) rfl ?_
                  refine Wx.nil ?_
                  refine W.seq ?_
                  refine W.reg ?_
                  refine Wx.rd (v := .int .i64 cost) (rd_move rfl) rfl ?_
                  refine Wx.rd (v := pv) (rd_move rfl) rfl ?_
                  refine Wx.rd (v := .int .i64 j) (rd_move rfl) rfl ?_
                  refine Wx.indexR hS 6 rfl rfl rfl Try.underlying39 Try.sizeOf3 (by first | omega | (simp only [List.length_set, List.length_append, List.length_cons, List.length_nil, List.length_replicate]; omega)) (by first | omega | (simp only [List.length_set, List.length_append, List.length_cons, List.length_nil, List.length_replicate]; omega)) rfl (fun g_54 hg_55 => ?_)
                  refine Wx.rd (v := .int .i64 (ix 0 p j)) (rd_loadRI' hS 6 rfl hg_55 rfl (by first | omega | (simp only [List.length_set, List.length_append, List.length_cons, List.length_nil, List.length_replicate]; omega)) (by first | omega | (simp only [List.length_set, List.length_append, List.length_cons, List.length_nil, List.length_replicate]; omega)) Try.isAgg3 Try.sizeOf3) rfl ?_
                  have bd_56 := bd_i64 (hS.rowInK' 6 rfl (by first | omega | (simp only [List.length_set, List.length_append, List.length_cons, List.length_nil, List.length_replicate]; omega)) (by first | omega | (simp only [List.length_set, List.length_append, List.length_cons, List.length_nil, List.length_replicate]; omega)) : InK .i64 (ix 0 p j))
                  refine Wx.rd (v := .int .i64 (ix 0 ([xa, ya, za].take (1 + ((ix 0 zs 0) % 3)).toNat) j)) (rd_move rfl) rfl ?_
                  have hqx := ix_in hTb j0 (by omega)
                  have hmm := mul16 (ix_in k4 j0 (by omega)) hqx
                  refine Wx.rd (v := .int .i64 ((ix 0 p j) * (ix 0 ([xa, ya, za].take (1 + ((ix 0 zs 0) % 3)).toNat) j))) (rd_mul rfl rfl (in_i64 (by omega) (by omega))) rfl ?_
                  refine Wx.rd (v := .int .i64 (cost + ((ix 0 p j) * (ix 0 ([xa, ya, za].take (1 + ((ix 0 zs 0) % 3)).toNat) j)))) (rd_add rfl rfl (in_i64 (by omega) (by omega))) rfl ?_
                  refine Wx.rd (v := .int .i64 (cost + ((ix 0 p j) * (ix 0 ([xa, ya, za].take (1 + ((ix 0 zs 0) % 3)).toNat) j)))) (rd_assign rfl) rfl ?_
                  refine Wx.nil ?_
                  refine W.reg ?_
                  refine Wx.rd (v := .int .i64 worth) (rd_move rfl) rfl ?_
                  refine Wx.rd (v := .int .i64 (ix 0 ([xa, ya, za].take (1 + ((ix 0 zs 0) % 3)).toNat) j)) (rd_move rfl) rfl ?_
                  refine Wx.rd (v := .int .i64 ((ix 0 ([xa, ya, za].take (1 + ((ix 0 zs 0) % 3)).toNat) j) + 1)) (rd_add rfl rfl (in_i64 (by omega) (by omega))) rfl ?_
                  refine Wx.rd (v := .pointer (some ⟨g_1, 0 + 2, none⟩)) (rd_fieldAddr (o := 0) rfl foLl_66_2) rfl ?_
                  have bz_57 := ix_u8 i_zs 2
                  refine Wx.rd (v := .int .u8 (ix 0 zs 2)) (rd_loadXa (d := 0) (f := (Value.int .u8)) (j := 2) hS 8 rfl rfl (by omega) (by omega) (by omega) Try.isAgg5) rfl ?_
                  refine Wx.rd (v := .int .u8 ((ix 0 zs 2) / 2)) (rd_quo rfl rfl (by omega) (by omega) (in_u8 (by omega) (by omega))) rfl ?_
                  refine Wx.rd (v := .int .i64 ((ix 0 zs 2) / 2)) (rd_convIn rfl Try.underlying5 Try.underlying3 (in_i64 (by omega) (by omega))) rfl ?_
                  refine Wx.rd (v := .int .i64 j) (rd_move rfl) rfl ?_
                  refine Wx.rd (v := .int .i64 (j + 1)) (rd_add rfl rfl (in_i64 (by omega) (by omega))) rfl ?_
                  have hr0 := Int.emod_nonneg (ix 0 zs 2 / 2) (show j + 1 ≠ 0 by omega)
                  have hr1 := Int.emod_lt_of_pos (ix 0 zs 2 / 2) (show 0 < j + 1 by omega)
                  refine Wx.rd (v := .int .i64 (((ix 0 zs 2) / 2) % (j + 1))) (rd_rem rfl rfl (by omega) (by omega)) rfl ?_
                  refine Wx.rd (v := .int .i64 (((ix 0 ([xa, ya, za].take (1 + ((ix 0 zs 0) % 3)).toNat) j) + 1) + (((ix 0 zs 2) / 2) % (j + 1)))) (rd_add rfl rfl (in_i64 (by omega) (by omega))) rfl ?_
                  have hw7 := mul7 j4 (f := ix 0 (List.take (1 + ix 0 zs 0 % 3).toNat ([xa, ya, za] : List Int)) j + 1 + (ix 0 zs 2 / 2) % (j + 1)) ⟨by omega, by omega⟩
                  refine Wx.rd (v := .int .i64 (worth * (((ix 0 ([xa, ya, za].take (1 + ((ix 0 zs 0) % 3)).toNat) j) + 1) + (((ix 0 zs 2) / 2) % (j + 1))))) (rd_mul rfl rfl (in_i64 (by omega) (by omega))) rfl ?_
                  refine Wx.rd (v := .int .i64 (worth * (((ix 0 ([xa, ya, za].take (1 + ((ix 0 zs 0) % 3)).toNat) j) + 1) + (((ix 0 zs 2) / 2) % (j + 1))))) (rd_assign rfl) rfl ?_
                  refine Wx.nil ?_
                  refine W.reg ?_
                  refine Wx.rd (v := .int .i64 (j + 1)) (rd_add rfl rfl (in_i64 (by omega) (by omega))) rfl ?_
                  refine Wx.rd (v := .int .i64 (j + 1)) (rd_move rfl) rfl ?_
                  refine Wx.nil ?_
                  refine ⟨(cost + ((ix 0 p j) * (ix 0 ([xa, ya, za].take (1 + ((ix 0 zs 0) % 3)).toNat) j)), worth * (((ix 0 ([xa, ya, za].take (1 + ((ix 0 zs 0) % 3)).toNat) j) + 1) + (((ix 0 zs 2) / 2) % (j + 1))), j + 1), (by show ((1 + ix 0 zs 0 % 3) - (j + 1)).toNat < ((1 + ix 0 zs 0 % 3) - j).toNat; omega), ?_, ?_, Out.look rfl Out.self⟩
                  · exact ⟨hS, (by first | omega | assumption), (by first | omega | assumption), (by first | omega | assumption), (by first | omega | assumption), (by first | omega | assumption), (by omega)⟩
                  · exact ⟨rfl, rfl, rfl, trivial⟩
                · -- no
                  refine W.exit rfl ?_
                  refine W.seq ?_
                  refine W.reg ?_
                  refine Wx.rd (v := .int .i64 cost) (rd_move rfl) rfl ?_
                  refine Wx.rd (v := .int .i64 (4 + ((ix 0 zs (21 + i * 3 + 0)) % 9))) (rd_move rfl) rfl ?_
                  refine Wx.rd (v := .bool (decide (cost ≤ (4 + ((ix 0 zs (21 + i * 3 + 0)) % 9))))) (rd_leq rfl rfl) rfl ?_
                  refine Wx.rd (v := .bool (decide (cost ≤ (4 + ((ix 0 zs (21 + i * 3 + 0)) % 9))))) (rd_move rfl) rfl ?_
                  refine Wx.cut (X := Unit) 4 [123, 124, 125, 126] (fun _ => [(126, .bool (decide (cost ≤ (4 + ((ix 0 zs (21 + i * 3 + 0)) % 9))) && decide (b8 < worth)))]) (fun _ w' => St w O w' [Ob.v (tSl (tI .i64)) ([xa, ya, za].take (1 + ((ix 0 zs 0) % 3)).toNat) u_45, Ob.v (tSl (tI .i64)) [xa, ya, za] v_41, Ob.v (tSl (tI .i64)) t8 t8v, Ob.v (tSl (tI .i64)) t6 t6v, Ob.v (tSl (tI .i64)) t4 t4v, Ob.v (tSl (tI .i64)) t tv, .row (tI .i64) 3 pv p, .row (tP (tSl (tI .i64)) (tSl (tI .i64))) 62 ov out, .box g_1 66 (List.map (Value.int .u8) zs)]) ?_ ?_
                  · rcases Bool.eq_false_or_eq_true (decide (cost ≤ (4 + ((ix 0 zs (21 + i * 3 + 0)) % 9)))) with g_58 | g_58
                    · -- True
                      have gp_59 := of_decide_eq_true g_58
                      refine Wx.gyes rfl rfl (congrArg Value.bool g_58) ?_
                      refine Wx.rd (v := .int .i64 worth) (rd_move rfl) rfl ?_
                      refine Wx.gyes rfl rfl (congrArg Value.bool g_58) ?_
                      refine Wx.rd (v := .int .i64 b8) (rd_move rfl) rfl ?_
                      refine Wx.gyes rfl rfl (congrArg Value.bool g_58) ?_
                      refine Wx.rd (v := .bool (decide (b8 < worth))) (rd_gtr rfl rfl) rfl ?_
                      refine Wx.rd (v := .bool (decide (b8 < worth))) (rd_pickT (congrArg Value.bool g_58) rfl) rfl ?_
                      refine Wx.nil ⟨(), hS, ⟨?_, trivial⟩, Out.look rfl Out.refl⟩
                      show Value.bool (decide (b8 < worth)) = Value.bool (decide (cost ≤ (4 + ((ix 0 zs (21 + i * 3 + 0)) % 9))) && decide (b8 < worth))
                      first | rw [g_58, Bool.true_and] | (rw [g_58]; rfl)
                    · -- False
                      have gp_60 := of_decide_eq_false g_58
                      refine Wx.gnoB rfl rfl (congrArg Value.bool g_58) rfl rfl ?_
                      refine Wx.gnoB rfl rfl (congrArg Value.bool g_58) rfl rfl ?_
                      refine Wx.gnoB rfl rfl (congrArg Value.bool g_58) rfl rfl ?_
                      refine Wx.rd (v := .bool false) (rd_pickF (congrArg Value.bool g_58) rfl) rfl ?_
                      refine Wx.nil ⟨(), hS, ⟨?_, trivial⟩, Out.look rfl Out.refl⟩
                      show Value.bool false = Value.bool (decide (cost ≤ (4 + ((ix 0 zs (21 + i * 3 + 0)) % 9))) && decide (b8 < worth))
                      first | rw [g_58, Bool.false_and] | (rw [g_58]; rfl)
                  rintro ⟨⟩ u_62 w_61 hS
                  refine Wx.nil ?_
                  refine W.cond rfl (fun c7 => ?_) (fun c7 => ?_)
                  · -- yes
                    try simp only [Bool.and_eq_true, Bool.or_eq_true, Bool.not_eq_true', Bool.and_eq_false_iff, Bool.or_eq_false_iff, Bool.not_eq_false', decide_eq_true_eq, decide_eq_false_iff_not, not_or, Bool.false_eq_true, Bool.true_eq_false, false_or, or_false, not_false_eq_true] at c7
                    refine W.reg ?_
                    refine Wx.rd (v := u_45) (rd_move rfl) rfl ?_
                    refine Wx.callF (run_callF Try.call57 rfl) (F57 (hS.v 0 rfl) (by omega)) rfl ?_
                    rintro r_63 w_64 hx_65 ⟨_, rfl, hv_66⟩
                    have hS := hS.pushFr hx_65 hv_66
                    refine Wx.rd (v := .int .i64 worth) (rd_move rfl) rfl ?_
                    refine Wx.rd (v := r_63) (rd_assign rfl) rfl ?_
                    refine Wx.rd (v := .int .i64 worth) (rd_assign rfl) rfl ?_
                    refine Wx.nil ?_
                    refine W.reg ?_
                    refine Wx.rd (v := .int .i64 (za + 1)) (rd_add rfl rfl (in_i64 (by omega) (by omega))) rfl ?_
                    refine Wx.rd (v := .int .i64 (za + 1)) (rd_move rfl) rfl ?_
                    refine Wx.nil ?_
                    have hS := hS.freeze 0 rfl
                    have hv_69 : V (tSl (tI .i64)) ([xa, ya, za].take (1 + ((ix 0 zs 0) % 3)).toNat) r_63 _ _ := (hS.v 0 rfl)
                    refine ⟨(r_63, ([xa, ya, za].take (1 + ((ix 0 zs 0) % 3)).toNat), worth, za + 1), (by show (5 - (za + 1)).toNat < (5 - za).toNat; omega), ?_, ?_, Out.look rfl (Out.hav rfl (Out.look rfl (Out.hav rfl (Out.look rfl Out.self))))⟩
                    · exact ⟨(St.add (St.tl (St.tl (St.tl (St.tl (hS))))) (V.tlF (V.tlF (V.tlF (V.tlF (hv_69)))))), (by first | omega | assumption), (by first | omega | assumption), (by rw [len3 ⟨by omega, by omega⟩]), (take3 ⟨by omega, by omega⟩ ⟨by omega, by omega⟩ ⟨by omega, by omega⟩), (by first | omega | assumption), (by first | omega | assumption)⟩
                    · exact ⟨rfl, rfl, rfl, trivial⟩
                  · -- no
                    try simp only [Bool.and_eq_true, Bool.or_eq_true, Bool.not_eq_true', Bool.and_eq_false_iff, Bool.or_eq_false_iff, Bool.not_eq_false', decide_eq_true_eq, decide_eq_false_iff_not, not_or, Bool.false_eq_true, Bool.true_eq_false, false_or, or_false, not_false_eq_true] at c7
                    refine W.skip ?_
                    refine W.reg ?_
                    refine Wx.rd (v := .int .i64 (za + 1)) (rd_add rfl rfl (in_i64 (by omega) (by omega))) rfl ?_
                    refine Wx.rd (v := .int .i64 (za + 1)) (rd_move rfl) rfl ?_
                    refine Wx.nil ?_
                    have hv_70 : V (tSl (tI .i64)) t8 t8v _ _ := (hS.v 2 rfl)
                    refine ⟨(t8v, t8, b8, za + 1), (by show (5 - (za + 1)).toNat < (5 - za).toNat; omega), ?_, ?_, Out.look rfl (Out.hav rfl (Out.look rfl (Out.hav rfl (Out.look rfl Out.self))))⟩
                    · exact ⟨(St.add (St.tl (St.tl (St.tl (hS)))) (V.tlF (V.tlF (V.tlF (hv_70))))), (by first | omega | assumption), (by first | omega | assumption), (zl), (zb), (by first | omega | assumption), (by first | omega | assumption)⟩
                    · exact ⟨rfl, rfl, rfl, trivial⟩
              · -- no
                refine W.exit rfl ?_
                refine W.reg ?_
                refine Wx.rd (v := .int .i64 (ya + 1)) (rd_add rfl rfl (in_i64 (by omega) (by omega))) rfl ?_
                refine Wx.rd (v := .int .i64 (ya + 1)) (rd_move rfl) rfl ?_
                refine Wx.nil ?_
                have hv_71 : V (tSl (tI .i64)) t8 t8v _ _ := (hS.v 0 rfl)
                refine ⟨(t8v, t8, b8, ya + 1), (by show (5 - (ya + 1)).toNat < (5 - ya).toNat; omega), ?_, ?_, Out.look rfl (Out.hav rfl (Out.look rfl Out.self))⟩
                · exact ⟨(St.add (St.tl (St.tl (hS))) (V.tlF (V.tlF (hv_71)))), (by first | omega | assumption), (by first | omega | assumption), (zl), (zb), (by first | omega | assumption), (by first | omega | assumption)⟩
                · exact ⟨rfl, rfl, rfl, trivial⟩
            · -- no
              refine W.exit rfl ?_
              refine W.reg ?_
              refine Wx.rd (v := .int .i64 (xa + 1)) (rd_add rfl rfl (in_i64 (by omega) (by omega))) rfl ?_
              refine Wx.rd (v := .int .i64 (xa + 1)) (rd_move rfl) rfl ?_
              refine Wx.nil ?_
              have hv_72 : V (tSl (tI .i64)) t6 t6v _ _ := (hS.v 0 rfl)
              refine ⟨(t6v, t6, b6, xa + 1), (by show (5 - (xa + 1)).toNat < (5 - xa).toNat; omega), ?_, ?_, Out.look rfl (Out.hav rfl (Out.look rfl Out.self))⟩
              · exact ⟨(St.add (St.tl (St.tl (hS))) (V.tlF (V.tlF (hv_72)))), (by first | omega | assumption), (by first | omega | assumption), (yl), (yb), (by first | omega | assumption), (by first | omega | assumption)⟩
              · exact ⟨rfl, rfl, rfl, trivial⟩
          · -- no
            refine W.exit rfl ?_
            have hv_73 : V (tSl (tI .i64)) t4 t4v _ _ := (hS.v 0 rfl)
            refine ⟨(t4v, t4), ?_, ?_, Out.look rfl (Out.hav rfl (Out.look rfl Out.refl))⟩
            · exact ⟨(St.add (St.tl (hS)) (V.tlF (hv_73))), (xl), (xb)⟩
            · exact ⟨rfl, trivial⟩
        · -- no
          refine W.skip ?_
          have hv_74 : V (tSl (tI .i64)) t tv _ _ := (hS.v 0 rfl)
          refine ⟨(tv, t), ?_, ?_, Out.look rfl Out.refl⟩
          · exact ⟨(St.add (hS) (hv_74)), (by omega), (k5)⟩
          · exact ⟨rfl, trivial⟩
      rintro ⟨jv, tj⟩ u_76 w_75 ⟨hS, jl, jb⟩
      refine W.reg ?_
      refine Wx.rd (v := ov) (rd_move rfl) rfl ?_
      refine Wx.rd (v := pv) (rd_move rfl) rfl ?_
      refine Wx.rd (v := jv) (rd_move rfl) rfl ?_
      have hS := hS.freeze 2 rfl
      refine Wx.rd (v := .agg #[pv, jv]) (rd_buildC (vs := [(0, pv), (1, jv)]) (us := [(0, .agg #[pv]), (1, .agg #[jv])]) rfl (parts_cons (Go.Wk.cells_one (V.oneC (hS.v 0 rfl))) (parts_cons (Go.Wk.cells_one (V.oneC (hS.v 1 rfl))) parts_nil)) (by kernel_rfl)) rfl ?_
      refine Wx.lit (t := (tP (tSl (tI .i64)) (tSl (tI .i64)))) (ys := [(p, tj)]) (vs := [.agg #[pv, jv]]) elLl_22 hS rfl rfl ⟨(V.mkS2 (z := (p, tj)) (hS.v 0 rfl) (hS.v 1 rfl)), trivial⟩ (by decide) rfl (fun v_78 w_79 hx_80 hS => ?_)
      refine Wx.append elLl_22 hS 4 rfl rfl rfl (Src.ofR hS 0 rfl) (by simp only [maxLen]; simp; omega) (by simp; omega) rfl (fun v_81 w_82 hz_83 hS => ?_)
      refine Wx.rd (v := v_81) (rd_assign rfl) rfl ?_
      refine Wx.nil ?_
      refine W.reg ?_
      refine Wx.rd (v := .int .i64 (i + 1)) (rd_add rfl rfl (in_i64 (by omega) (by omega))) rfl ?_
      refine Wx.rd (v := .int .i64 (i + 1)) (rd_move rfl) rfl ?_
      refine Wx.nil ?_
      refine ⟨(i + 1, v_81, out ++ [(p, tj)]), (by show ((ix 0 zs 1 % (most + 1)) - (i + 1)).toNat < ((ix 0 zs 1 % (most + 1)) - i).toNat; omega), ?_, ?_, Out.look rfl (Out.hav rfl (Out.look rfl (Out.hav rfl (Out.look rfl Out.self))))⟩
      · exact ⟨St.tl (St.tl (St.tl (hS.tl))), (by first | omega | assumption), (by first | omega | assumption), (by simp only [List.length_append, List.length_cons, List.length_nil]; omega), (snoc_all h3 (shop_one (by rw [shG]; omega) (by rw [shG]; omega) k4 jb))⟩
      · exact ⟨rfl, rfl, trivial⟩
  · -- no
    refine W.exit rfl ?_
    refine W.seq ?_
    refine W.reg ?_
    refine Wx.rd (v := .int .i64 (1 + ((ix 0 zs 0) % 3))) (rd_move rfl) rfl ?_
    refine Wx.rd (v := ov) (rd_move rfl) rfl ?_
    refine Wx.rd (v := .int .i64 (1 + ((ix 0 zs 0) % 3))) (rd_assign rfl) rfl ?_
    refine Wx.rd (v := ov) (rd_assign rfl) rfl ?_
    refine Wx.nil ?_
    have e0_0 : (shG zs) = (1 + ((ix 0 zs 0) % 3) : Int) := by rfl
    exact W.ret ⟨.tuple #[.int .i64 (1 + ((ix 0 zs 0) % 3)), ov], ResIs.two, hS.bel, ⟨out, (by exact ⟨by omega, h3⟩), ⟨ov, (by rw [e0_0]), (hS.frO 0 rfl)⟩⟩⟩

theorem F53 {pv : Value} {p : List Int} {Fr_pv : List (Option Nat)} {qv : Value} {q : List Int} {Fr_qv : List (Option Nat)} {uv : Value} {u : List Int} {Fr_uv : List (Option Nat)} {tv : Value} {t : List Int} {Fr_tv : List (Option Nat)} {w : World} (h_pv : V (tSl (tI .i64)) p pv Fr_pv w) (h_qv : V (tSl (tI .i64)) q qv Fr_qv w) (h_uv : V (tSl (tI .i64)) u uv Fr_uv w) (h_tv : V (tSl (tI .i64)) t tv Fr_tv w) (p_p : ∀ x ∈ p, 1 ≤ x ∧ x ≤ 9) (p_q : ∀ x ∈ q, 0 ≤ x ∧ x ≤ 9) (p_t : ∀ x ∈ t, 0 ≤ x ∧ x ≤ 9) (p_3 : (p.length : Int) ≤ 3) (p_e : (q.length : Int) = p.length) (p_f : (t.length : Int) = p.length) : Calls Try.prog 53 #[.agg #[pv, qv], .agg #[uv, tv]] w (Ret w (fun r _ => r = .int .i64 (leadS (p, q) (u, t)))) := by
  have a_pv := h_pv.any
  have l_pv := h_pv.len63
  have a_qv := h_qv.any
  have l_qv := h_qv.len63
  have a_uv := h_uv.any
  have l_uv := h_uv.len63
  have a_tv := h_tv.any
  have l_tv := h_tv.len63
  have hS := St.start0 w
  refine enterR Try.func53 rfl Try.ntmps53 Try.results53 rfl ?_
  refine W.seq ?_
  refine W.reg ?_
  refine Wx.box (cs := [pv, qv]) hS rfl rfl rfl (fun g_1 w_2 hx_4 hb_3 hS => ?_)
  refine Wx.box (cs := [uv, tv]) hS rfl rfl rfl (fun g_5 w_6 hx_8 hb_7 hS => ?_)
  refine Wx.rd (v := .int .i64 0) (rd_assign rfl) rfl ?_
  refine Wx.nil ?_
  refine W.seq ?_
  refine W.reg ?_
  refine Wx.rd (v := .int .i64 0) (rd_assign rfl) rfl ?_
  refine Wx.nil ?_
  refine W.seq ?_
  refine W.seq ?_
  refine W.reg ?_
  refine Wx.rd (v := .pointer (some ⟨g_1, 0, none⟩)) (rd_fieldAddr rfl foLl_62_0) rfl ?_
  refine Wx.rd (v := pv) (rd_loadX hS 1 rfl rfl rfl Try.isAgg39) rfl ?_
  refine Wx.rd (v := .int .i64 (p.length : Int)) (rd_lenV rfl (hS.arg a_pv) Try.underlying39) rfl ?_
  refine Wx.rd (v := .int .i64 0) (rd_move rfl) rfl ?_
  refine Wx.nil ?_
  refine W.block ?_
  refine W.loop [5, 6, 7, 11, 12, 13, 14, 15, 16, 17, 18, 19, 20, 21, 22, 23, 24, 25, 26, 27, 28, 29, 30, 31] (fun x : Int × Int => match x with | (out, k) => [(5, .int .i64 out), (11, .int .i64 k)]) (fun (x : Int × Int) w' => match x with | (out, k) => St w [] w' [.box g_5 62 [uv, tv], .box g_1 62 [pv, qv]] ∧ 0 ≤ k ∧ k ≤ p.length ∧ out + (costV (p.drop k.toNat) (q.drop k.toNat) - costV (p.drop k.toNat) (t.drop k.toNat)) = leadS (p, q) (u, t) ∧ -81 * k ≤ out ∧ out ≤ 81 * k) (fun x : Int × Int => match x with | (out, k) => (p.length - k).toNat) (0, 0) ⟨rfl, rfl, trivial⟩ ⟨hS, (by first | omega | simp), (by first | omega | simp), (Int.zero_add _), (by omega), (by omega)⟩ ?_
  rintro ⟨out, k⟩ u_10 w_9 ⟨hS, h0, h1, h2, h3, h4⟩
  have hm81 := fun h : k < p.length => mul81 (ix_in p_p h0 h) (ix_in p_q h0 (by omega)) (ix_in p_t h0 (by omega))
  have hqb := fun h : k < p.length => ix_in p_q h0 (show k < q.length by omega)
  have htb := fun h : k < p.length => ix_in p_t h0 (show k < t.length by omega)
  refine W.seq ?_
  refine W.reg ?_
  refine Wx.rd (v := .bool (decide (k < (p.length : Int)))) (rd_lss rfl rfl) rfl ?_
  refine Wx.nil ?_
  refine W.seq ?_
  refine W.condD rfl (fun c0 => ?_) (fun c0 => ?_)
  · -- yes
    have hm81 := hm81 c0
    have hqb := hqb c0
    have htb := htb c0
    refine W.skip ?_
    refine W.seq ?_
    refine W.block ?_
    refine W.seq ?_
    refine W.reg ?_
    refine Wx.rd (v := .int .i64 k) (rd_move rfl) rfl ?_
    refine Wx.ex (rd_index 0 (hS.arg a_pv) rfl rfl Try.underlying39 Try.sizeOf3 (by first | omega | (simp only [List.length_set, List.length_append, List.length_cons, List.length_nil, List.length_replicate]; omega)) (by first | omega | (simp only [List.length_set, List.length_append, List.length_cons, List.length_nil, List.length_replicate]; omega))) rfl (fun p_11 hp_12 => ?_)
    refine Wx.rd (v := .int .i64 (ix 0 p k)) (rd_loadI hp_12 rfl Try.isAgg3 Try.sizeOf3) rfl ?_
    have bd_13 := bd_i64 hp_12.inK
    refine Wx.rd (v := .int .i64 k) (rd_assign rfl) rfl ?_
    refine Wx.rd (v := .int .i64 (ix 0 p k)) (rd_assign rfl) rfl ?_
    refine Wx.nil ?_
    refine W.regQ mixedLl_ (by kernel_rfl) ?_
    refine Wx.rd (v := .int .i64 out) (rd_move rfl) rfl ?_
    refine Wx.rd (v := .int .i64 (ix 0 p k)) (rd_move rfl) rfl ?_
    refine Wx.rd (v := .pointer (some ⟨g_1, 1, none⟩)) (rd_fieldAddr rfl foLl_62_1) rfl ?_
    refine Wx.rd (v := qv) (rd_loadX hS 1 rfl rfl rfl Try.isAgg39) rfl ?_
    refine Wx.rd (v := .int .i64 k) (rd_move rfl) rfl ?_
    refine Wx.ex (rd_index 0 (hS.arg a_qv) rfl rfl Try.underlying39 Try.sizeOf3 (by first | omega | (simp only [List.length_set, List.length_append, List.length_cons, List.length_nil, List.length_replicate]; omega)) (by first | omega | (simp only [List.length_set, List.length_append, List.length_cons, List.length_nil, List.length_replicate]; omega))) rfl (fun p_14 hp_15 => ?_)
    refine Wx.rd (v := .int .i64 (ix 0 q k)) (rd_loadI hp_15 rfl Try.isAgg3 Try.sizeOf3) rfl ?_
    have bd_16 := bd_i64 hp_15.inK
    refine Wx.rd (v := .pointer (some ⟨g_5, 1, none⟩)) (rd_fieldAddr rfl foLl_62_1) rfl ?_
    refine Wx.rd (v := tv) (rd_loadX hS 0 rfl rfl rfl Try.isAgg39) rfl ?_
    refine Wx.rd (v := .int .i64 k) (rd_move rfl) rfl ?_
    refine Wx.ex (rd_index 0 (hS.arg a_tv) rfl rfl Try.underlying39 Try.sizeOf3 (by first | omega | (simp only [List.length_set, List.length_append, List.length_cons, List.length_nil, List.length_replicate]; omega)) (by first | omega | (simp only [List.length_set, List.length_append, List.length_cons, List.length_nil, List.length_replicate]; omega))) rfl (fun p_17 hp_18 => ?_)
    refine Wx.rd (v := .int .i64 (ix 0 t k)) (rd_loadI hp_18 rfl Try.isAgg3 Try.sizeOf3) rfl ?_
    have bd_19 := bd_i64 hp_18.inK
    refine Wx.rd (v := .int .i64 ((ix 0 q k) - (ix 0 t k))) (rd_sub rfl rfl (in_i64 (by omega) (by omega))) rfl ?_
    refine Wx.rd (v := .int .i64 ((ix 0 p k) * ((ix 0 q k) - (ix 0 t k)))) (rd_mul rfl rfl (in_i64 (by omega) (by omega))) rfl ?_
    refine Wx.rd (v := .int .i64 (out + ((ix 0 p k) * ((ix 0 q k) - (ix 0 t k))))) (rd_add rfl rfl (in_i64 (by omega) (by omega))) rfl ?_
    refine Wx.rd (v := .int .i64 (out + ((ix 0 p k) * ((ix 0 q k) - (ix 0 t k))))) (rd_assign rfl) rfl ?_
    refine Wx.nilQ (fun w_20 hx_21 => ?_)
    have hS := hS.ext hx_21
    refine W.reg ?_
    refine Wx.rd (v := .int .i64 (k + 1)) (rd_add rfl rfl (in_i64 (by omega) (by omega))) rfl ?_
    refine Wx.rd (v := .int .i64 (k + 1)) (rd_move rfl) rfl ?_
    refine Wx.nil ?_
    refine ⟨(out + ((ix 0 p k) * ((ix 0 q k) - (ix 0 t k))), k + 1), (by show (p.length - (k + 1)).toNat < (p.length - k).toNat; omega), ?_, ?_, Out.look rfl Out.self⟩
    · exact ⟨hS, (by first | omega | assumption), (by first | omega | assumption), (lead_next h0 (by omega) (by omega) (by omega) h2), (by first | omega | assumption), (by first | omega | assumption)⟩
    · exact ⟨rfl, rfl, trivial⟩
  · -- no
    refine W.exit rfl ?_
    refine W.seq ?_
    refine W.reg ?_
    refine Wx.rd (v := .int .i64 out) (rd_move rfl) rfl ?_
    refine Wx.rd (v := .int .i64 out) (rd_assign rfl) rfl ?_
    refine Wx.nil ?_
    have e0_0 : (leadS (p, q) (u, t)) = (out : Int) := by exact lead_end (by omega) h2
    exact W.ret ⟨.int .i64 out, ResIs.one, hS.bel, (by rw [e0_0])⟩
end Go.Proofs.Ytjbcpggikaeleaa

namespace Go.Proofs.Ytjbcpggikaeleaa
open Go.Wk Go.RowKit Go.Lib
set_option linter.unusedVariables false
set_option linter.unusedSimpArgs false
theorem mixedMc_ : Try.prog.follows .mixedOrders = true := by kernel_rfl

set_option maxHeartbeats 4000000 in
set_option maxRecDepth 10000 in
theorem F56 {l : List Sale} {rg : List Int} {lv sv : Value} {TL TB : List Bool} {gs gl gt : Nat} {ob : List Ob} {w0 w : World} {O : List (Option Nat)} (p_ok : SalesOK l) (n_l : (TL.length : Int) = 36) (n_b : (TB.length : Int) = 36) (p_1 : 1 ≤ (rg.length : Int)) (p_b : ∀ x ∈ rg, 0 ≤ x ∧ x < (l.length : Int)) (hS : St w0 O w (Ob.v (tSl (tP (tSl (tI .i64)) (tSl (tI .i64)))) l sv :: .box gs 22 [sv] :: .box gl 82 (List.map Value.bool TL) :: .box gt 82 (List.map Value.bool TB) :: ob)) (hv : V (tSl tInt) rg lv (fb (Ob.v (tSl (tP (tSl (tI .i64)) (tSl (tI .i64)))) l sv :: .box gs 22 [sv] :: .box gl 82 (List.map Value.bool TL) :: .box gt 82 (List.map Value.bool TB) :: ob) O) w) : Calls Try.prog 56 #[lv, (.pointer (some ⟨gs, 0, none⟩)), (.pointer (some ⟨gl, 0, none⟩)), (.pointer (some ⟨gt, 0, none⟩))] w (Bk fun r w' => r = .tuple #[] ∧ St w0 O w' (Ob.v (tSl (tP (tSl (tI .i64)) (tSl (tI .i64)))) l sv :: .box gs 22 [sv] :: .box gl 82 (List.map Value.bool (stL l rg TL)) :: .box gt 82 (List.map Value.bool (stB l rg TB)) :: ob)) := by
  obtain ⟨gd, hgd, hok⟩ := p_ok.at
  have hl6 := p_ok.1
  have hf0 := ring_in p_b (show (0 : Int) ≤ 0 by omega) (show (0 : Int) < (rg.length : Int) by omega)
  have hfz := ring_in p_b (show 0 ≤ (rg.length : Int) - 1 by omega) (by omega)
  have hS := hS.add (hv)
  have ln_2 := (hS.v 0 rfl).len63
  refine enterB Try.func56 rfl Try.ntmps56 Try.results56 rfl ?_
  refine W.seq ?_
  refine W.reg ?_
  refine Wx.rd (v := .bool false) (rd_assign rfl) rfl ?_
  refine Wx.nil ?_
  refine W.seq ?_
  refine W.seq ?_
  refine W.reg ?_
  refine Wx.rd (v := .int .i64 1) (rd_assign rfl) rfl ?_
  refine Wx.nil ?_
  refine W.block ?_
  refine W.loop [5, 6, 7, 10, 11, 12, 13, 14, 15, 16, 17, 18, 19, 20, 21, 22, 23, 24, 25, 26, 27, 28, 29, 30, 31, 32, 33, 34, 35, 36, 37, 38] (fun x : Bool × Int => match x with | (better, k) => [(5, .bool better), (6, .int .i64 k)]) (fun (x : Bool × Int) w' => match x with | (better, k) => St w0 O w' (Ob.v (tSl (tI .i64)) rg lv :: Ob.v (tSl (tP (tSl (tI .i64)) (tSl (tI .i64)))) l sv :: .box gs 22 [sv] :: .box gl 82 (List.map Value.bool TL) :: .box gt 82 (List.map Value.bool TB) :: ob) ∧ 1 ≤ k ∧ k ≤ rg.length ∧ (∀ i : Int, 1 ≤ i → i < k → chB (gS l) rg i = true) ∧ better = (rng 1 k).any (chB (bS l) rg)) (fun x : Bool × Int => match x with | (better, k) => (rg.length - k).toNat) (false, 1) ⟨rfl, rfl, trivial⟩ ⟨hS, (by first | omega | simp), (by omega), (fun i i0 i1 => by omega), (rfl)⟩ ?_
  rintro ⟨better, k⟩ u_4 w_3 ⟨hS, h0, h1, h2, h3⟩
  refine W.seq ?_
  refine W.seq ?_
  refine W.reg ?_
  refine Wx.rd (v := .int .i64 k) (rd_move rfl) rfl ?_
  refine Wx.rd (v := lv) (rd_move rfl) rfl ?_
  refine Wx.rd (v := .int .i64 (rg.length : Int)) (rd_lenV rfl (hS.v 0 rfl) Try.underlying39) rfl ?_
  refine Wx.rd (v := .bool (decide (k < (rg.length : Int)))) (rd_lss rfl rfl) rfl ?_
  refine Wx.nil ?_
  refine W.condD rfl (fun c0 => ?_) (fun c0 => ?_)
  · -- yes
    have hka := ring_in p_b (show 0 ≤ k - 1 by omega) (show k - 1 < (rg.length : Int) by omega)
    have hkb := ring_in p_b (show 0 ≤ k by omega) c0
    refine W.skip ?_
    refine W.seq ?_
    refine W.block ?_
    refine W.seq ?_
    refine W.regQ mixedMc_ (by kernel_rfl) ?_
    refine Wx.rd (v := sv) (rd_loadX hS 2 rfl rfl rfl Try.isAgg22) rfl ?_
    refine Wx.rd (v := lv) (rd_move rfl) rfl ?_
    refine Wx.rd (v := .int .i64 k) (rd_move rfl) rfl ?_
    refine Wx.rd (v := .int .i64 (k - 1)) (rd_sub rfl rfl (in_i64 (by omega) (by omega))) rfl ?_
    refine Wx.ex (rd_index 0 (hS.v 0 rfl) rfl rfl Try.underlying39 Try.sizeOf3 (by first | omega | (simp only [List.length_set, List.length_append, List.length_cons, List.length_nil, List.length_replicate]; omega)) (by first | omega | (simp only [List.length_set, List.length_append, List.length_cons, List.length_nil, List.length_replicate]; omega))) rfl (fun p_5 hp_6 => ?_)
    refine Wx.rd (v := .int .i64 (ix 0 rg (k - 1))) (rd_loadI hp_6 rfl Try.isAgg3 Try.sizeOf3) rfl ?_
    have bd_7 := bd_i64 hp_6.inK
    refine Wx.ex (rd_index ([], []) (hS.v 1 rfl) rfl rfl Try.underlying22 Try.sizeOf62 (by first | omega | (simp only [List.length_set, List.length_append, List.length_cons, List.length_nil, List.length_replicate]; omega)) (by first | omega | (simp only [List.length_set, List.length_append, List.length_cons, List.length_nil, List.length_replicate]; omega))) rfl (fun p_8 hp_9 => ?_)
    refine Wx.ex (rd_load hp_9 rfl Try.isAgg62 Try.sizeOf62) rfl (fun v_10 hv_11 => ?_)
    obtain ⟨v_12, v_13, rfl, hv_14, hv_15⟩ := hv_11.s2
    have hS := hS.add (hv_14)
    have ln_17 := (hS.v 0 rfl).len63
    have hS := hS.add (V.upF (hv_15))
    have ln_19 := (hS.v 0 rfl).len63
    refine Wx.rd (v := sv) (rd_loadX hS 4 rfl rfl rfl Try.isAgg22) rfl ?_
    refine Wx.rd (v := lv) (rd_move rfl) rfl ?_
    refine Wx.rd (v := .int .i64 k) (rd_move rfl) rfl ?_
    refine Wx.ex (rd_index 0 (hS.v 2 rfl) rfl rfl Try.underlying39 Try.sizeOf3 (by first | omega | (simp only [List.length_set, List.length_append, List.length_cons, List.length_nil, List.length_replicate]; omega)) (by first | omega | (simp only [List.length_set, List.length_append, List.length_cons, List.length_nil, List.length_replicate]; omega))) rfl (fun p_20 hp_21 => ?_)
    refine Wx.rd (v := .int .i64 (ix 0 rg k)) (rd_loadI hp_21 rfl Try.isAgg3 Try.sizeOf3) rfl ?_
    have bd_22 := bd_i64 hp_21.inK
    refine Wx.ex (rd_index ([], []) (hS.v 3 rfl) rfl rfl Try.underlying22 Try.sizeOf62 (by first | omega | (simp only [List.length_set, List.length_append, List.length_cons, List.length_nil, List.length_replicate]; omega)) (by first | omega | (simp only [List.length_set, List.length_append, List.length_cons, List.length_nil, List.length_replicate]; omega))) rfl (fun p_23 hp_24 => ?_)
    refine Wx.ex (rd_load hp_24 rfl Try.isAgg62 Try.sizeOf62) rfl (fun v_25 hv_26 => ?_)
    obtain ⟨v_27, v_28, rfl, hv_29, hv_30⟩ := hv_26.s2
    have hS := hS.add (hv_29)
    have ln_32 := (hS.v 0 rfl).len63
    have hS := hS.add (V.upF (hv_30))
    have ln_34 := (hS.v 0 rfl).len63
    refine Wx.callV (v := .int .i64 (leadS (((ix ([], []) l (ix 0 rg (k - 1))).1), ((ix ([], []) l (ix 0 rg (k - 1))).2)) (((ix ([], []) l (ix 0 rg k)).1), ((ix ([], []) l (ix 0 rg k)).2)))) (run_callF Try.call53 rfl) (fun w_35 hw_36 => (F53 ((hS.v 3 rfl).ext hw_36) ((hS.v 2 rfl).ext hw_36) ((hS.v 1 rfl).ext hw_36) ((hS.v 0 rfl).ext hw_36) (hok (ix 0 rg (k - 1)) (by omega) (by omega)).b1 (hok (ix 0 rg (k - 1)) (by omega) (by omega)).b2 (hok (ix 0 rg k) (by omega) (by omega)).b2 (by have := (hok (ix 0 rg (k - 1)) (by omega) (by omega)).l1; omega) (by have h1 := (hok (ix 0 rg (k - 1)) (by omega) (by omega)).l1; have h2 := (hok (ix 0 rg (k - 1)) (by omega) (by omega)).l2; omega) (by have h1 := (hok (ix 0 rg (k - 1)) (by omega) (by omega)).l1; have h2 := (hok (ix 0 rg k) (by omega) (by omega)).l2; omega))) rfl ?_
    rw [show (leadS (((ix ([], []) l (ix 0 rg (k - 1))).1), ((ix ([], []) l (ix 0 rg (k - 1))).2)) (((ix ([], []) l (ix 0 rg k)).1), ((ix ([], []) l (ix 0 rg k)).2)) : Int) = leadS (ix ([], []) l (ix 0 rg (k - 1))) (ix ([], []) l (ix 0 rg k)) from rfl]
    have hld := lead_bd9 (hok (ix 0 rg (k - 1)) (by omega) (by omega)) hgd.2 (hok (ix 0 rg k) (by omega) (by omega))
    refine Wx.rd (v := .int .i64 (leadS (ix ([], []) l (ix 0 rg (k - 1))) (ix ([], []) l (ix 0 rg k)))) (rd_assign rfl) rfl ?_
    refine Wx.nilQ (fun w_37 hx_38 => ?_)
    have hS := hS.ext hx_38
    refine W.seq ?_
    refine W.seq ?_
    refine W.reg ?_
    refine Wx.rd (v := .int .i64 (leadS (ix ([], []) l (ix 0 rg (k - 1))) (ix ([], []) l (ix 0 rg k)))) (rd_move rfl) rfl ?_
    refine Wx.rd (v := .bool (decide ((leadS (ix ([], []) l (ix 0 rg (k - 1))) (ix ([], []) l (ix 0 rg k))) < 0))) (rd_lss rfl rfl) rfl ?_
    refine Wx.nil ?_
    refine W.condD rfl (fun c1 => ?_) (fun c1 => ?_)
    · -- yes
      exact W.ret ⟨.tuple #[], ResIs.zero, rfl, by rw [show stL l rg TL = TL from by rw [stL, if_neg (by rw [chain_bad h0 c0 (decide_eq_false (by omega))]; decide)], show stB l rg TB = TB from by rw [stB, if_neg (by rw [chain_bad h0 c0 (decide_eq_false (by omega))]; decide)]]; exact (St.tl (St.tl (St.tl (St.tl (St.tl hS)))))⟩
    · -- no
      refine W.skip ?_
      refine W.reg ?_
      refine Wx.rd (v := .bool better) (rd_move rfl) rfl ?_
      refine Wx.rd (v := .bool better) (rd_move rfl) rfl ?_
      refine Wx.cut (X := Unit) 3 [36, 37, 38] (fun _ => [(38, .bool (better || decide (0 < (leadS (ix ([], []) l (ix 0 rg (k - 1))) (ix ([], []) l (ix 0 rg k))))))]) (fun _ w' => St w0 O w' (Ob.v (tSl (tI .i64)) ((ix ([], []) l (ix 0 rg k)).2) v_28 :: Ob.v (tSl (tI .i64)) ((ix ([], []) l (ix 0 rg k)).1) v_27 :: Ob.v (tSl (tI .i64)) ((ix ([], []) l (ix 0 rg (k - 1))).2) v_13 :: Ob.v (tSl (tI .i64)) ((ix ([], []) l (ix 0 rg (k - 1))).1) v_12 :: Ob.v (tSl (tI .i64)) rg lv :: Ob.v (tSl (tP (tSl (tI .i64)) (tSl (tI .i64)))) l sv :: .box gs 22 [sv] :: .box gl 82 (List.map Value.bool TL) :: .box gt 82 (List.map Value.bool TB) :: ob)) ?_ ?_
      · rcases Bool.eq_false_or_eq_true better with g_39 | g_39
        · -- True
          have gp_40 := g_39
          try simp only [Bool.and_eq_true, Bool.or_eq_true, Bool.not_eq_true', Bool.and_eq_false_iff, Bool.or_eq_false_iff, Bool.not_eq_false', decide_eq_true_eq, decide_eq_false_iff_not, not_or, Bool.false_eq_true, Bool.true_eq_false, false_or, or_false, not_false_eq_true] at gp_40
          refine Wx.gnoB rfl rfl (congrArg Value.bool g_39) rfl rfl ?_
          refine Wx.gnoB rfl rfl (congrArg Value.bool g_39) rfl rfl ?_
          refine Wx.rd (v := .bool true) (rd_pickT (congrArg Value.bool g_39) rfl) rfl ?_
          refine Wx.nil ⟨(), hS, ⟨?_, trivial⟩, Out.look rfl Out.refl⟩
          show Value.bool true = Value.bool (better || decide (0 < (leadS (ix ([], []) l (ix 0 rg (k - 1))) (ix ([], []) l (ix 0 rg k)))))
          first | rw [g_39, Bool.true_or] | (rw [g_39]; rfl)
        · -- False
          have gp_41 := g_39
          try simp only [Bool.and_eq_true, Bool.or_eq_true, Bool.not_eq_true', Bool.and_eq_false_iff, Bool.or_eq_false_iff, Bool.not_eq_false', decide_eq_true_eq, decide_eq_false_iff_not, not_or, Bool.false_eq_true, Bool.true_eq_false, false_or, or_false, not_false_eq_true] at gp_41
          refine Wx.gyes rfl rfl (congrArg Value.bool g_39) ?_
          refine Wx.rd (v := .int .i64 (leadS (ix ([], []) l (ix 0 rg (k - 1))) (ix ([], []) l (ix 0 rg k)))) (rd_move rfl) rfl ?_
          refine Wx.gyes rfl rfl (congrArg Value.bool g_39) ?_
          refine Wx.rd (v := .bool (decide (0 < (leadS (ix ([], []) l (ix 0 rg (k - 1))) (ix ([], []) l (ix 0 rg k)))))) (rd_gtr rfl rfl) rfl ?_
          refine Wx.rd (v := .bool (decide (0 < (leadS (ix ([], []) l (ix 0 rg (k - 1))) (ix ([], []) l (ix 0 rg k)))))) (rd_pickF (congrArg Value.bool g_39) rfl) rfl ?_
          refine Wx.nil ⟨(), hS, ⟨?_, trivial⟩, Out.look rfl Out.refl⟩
          show Value.bool (decide (0 < (leadS (ix ([], []) l (ix 0 rg (k - 1))) (ix ([], []) l (ix 0 rg k))))) = Value.bool (better || decide (0 < (leadS (ix ([], []) l (ix 0 rg (k - 1))) (ix ([], []) l (ix 0 rg k)))))
          first | rw [g_39, Bool.false_or] | (rw [g_39]; rfl)
      rintro ⟨⟩ u_43 w_42 hS
      refine Wx.rd (v := .bool (better || decide (0 < (leadS (ix ([], []) l (ix 0 rg (k - 1))) (ix ([], []) l (ix 0 rg k)))))) (rd_assign rfl) rfl ?_
      refine Wx.nil ?_
      refine W.reg ?_
      refine Wx.rd (v := .int .i64 k) (rd_move rfl) rfl ?_
      refine Wx.rd (v := .int .i64 (k + 1)) (rd_add rfl rfl (in_i64 (by omega) (by omega))) rfl ?_
      refine Wx.rd (v := .int .i64 (k + 1)) (rd_assign rfl) rfl ?_
      refine Wx.nil ?_
      refine ⟨((better || decide (0 < (leadS (ix ([], []) l (ix 0 rg (k - 1))) (ix ([], []) l (ix 0 rg k))))), k + 1), (by show (rg.length - (k + 1)).toNat < (rg.length - k).toNat; omega), ?_, ?_, Out.look rfl (Out.hav rfl (Out.look rfl Out.self))⟩
      · exact ⟨St.tl (St.tl (St.tl (hS.tl))), (by first | omega | assumption), (by first | omega | assumption), (fun i i0 i1 => by by_cases e : i = k; (rw [e]; exact decide_eq_true (by omega)); exact h2 i i0 (by omega)), (by rw [any_snoc1 h0, ← h3]; rfl)⟩
      · exact ⟨rfl, rfl, trivial⟩
  · -- no
    refine W.exit rfl ?_
    refine W.seq ?_
    refine W.regQ mixedMc_ (by kernel_rfl) ?_
    have hany : anyB l rg = better := by rw [h3, show k = rg.length by omega]; rfl
    refine Wx.rd (v := lv) (rd_move rfl) rfl ?_
    refine Wx.ex (rd_index 0 (hS.v 0 rfl) rfl rfl Try.underlying39 Try.sizeOf3 (by first | omega | (simp only [List.length_set, List.length_append, List.length_cons, List.length_nil, List.length_replicate]; omega)) (by first | omega | (simp only [List.length_set, List.length_append, List.length_cons, List.length_nil, List.length_replicate]; omega))) rfl (fun p_44 hp_45 => ?_)
    refine Wx.rd (v := .int .i64 (ix 0 rg 0)) (rd_loadI hp_45 rfl Try.isAgg3 Try.sizeOf3) rfl ?_
    have bd_46 := bd_i64 hp_45.inK
    refine Wx.rd (v := lv) (rd_move rfl) rfl ?_
    refine Wx.rd (v := lv) (rd_move rfl) rfl ?_
    refine Wx.rd (v := .int .i64 (rg.length : Int)) (rd_lenV rfl (hS.v 0 rfl) Try.underlying39) rfl ?_
    refine Wx.rd (v := .int .i64 ((rg.length : Int) - 1)) (rd_sub rfl rfl (in_i64 (by omega) (by omega))) rfl ?_
    refine Wx.ex (rd_index 0 (hS.v 0 rfl) rfl rfl Try.underlying39 Try.sizeOf3 (by first | omega | (simp only [List.length_set, List.length_append, List.length_cons, List.length_nil, List.length_replicate]; omega)) (by first | omega | (simp only [List.length_set, List.length_append, List.length_cons, List.length_nil, List.length_replicate]; omega))) rfl (fun p_47 hp_48 => ?_)
    refine Wx.rd (v := .int .i64 (ix 0 rg ((rg.length : Int) - 1))) (rd_loadI hp_48 rfl Try.isAgg3 Try.sizeOf3) rfl ?_
    have bd_49 := bd_i64 hp_48.inK
    refine Wx.rd (v := .int .i64 (ix 0 rg 0)) (rd_assign rfl) rfl ?_
    refine Wx.rd (v := .int .i64 (ix 0 rg ((rg.length : Int) - 1))) (rd_assign rfl) rfl ?_
    refine Wx.nilQ (fun w_50 hx_51 => ?_)
    have hS := hS.ext hx_51
    refine W.seq ?_
    refine W.reg ?_
    refine Wx.rd (v := .int .i64 (ix 0 rg 0)) (rd_move rfl) rfl ?_
    refine Wx.rd (v := .int .i64 (ix 0 rg ((rg.length : Int) - 1))) (rd_move rfl) rfl ?_
    refine Wx.rd (v := .pointer (some ⟨gl, 0 + (ix 0 rg 0).toNat * 6, none⟩)) (rd_indexArr rfl rfl Try.underlying82 Try.sizeOf81 (by omega) (by omega)) rfl ?_
    refine Wx.rd (v := .pointer (some ⟨gl, 0 + (ix 0 rg 0).toNat * 6 + (ix 0 rg ((rg.length : Int) - 1)).toNat * 1, none⟩)) (rd_indexArr rfl rfl Try.underlying81 Try.sizeOf4 (by omega) (by omega)) rfl ?_
    refine Wx.storeXa (j := (ix 0 rg 0) * 6 + (ix 0 rg ((rg.length : Int) - 1))) (f := Value.bool) (u := true) hS 3 rfl rfl (by omega) rfl rfl rfl Try.sizeOf4 (by omega) (by omega) (fun w_52 hz_53 hS => ?_)
    refine Wx.nil ?_
    refine W.regT 12 mixedMc_ (by kernel_rfl) ?_
    refine Wx.rd (v := .int .i64 (ix 0 rg 0)) (rd_move rfl) rfl ?_
    refine Wx.rd (v := .int .i64 (ix 0 rg ((rg.length : Int) - 1))) (rd_move rfl) rfl ?_
    refine Wx.rd (v := .int .i64 (ix 0 rg 0)) (rd_move rfl) rfl ?_
    refine Wx.rd (v := .int .i64 (ix 0 rg ((rg.length : Int) - 1))) (rd_move rfl) rfl ?_
    refine Wx.rd (v := .pointer (some ⟨gt, 0 + (ix 0 rg 0).toNat * 6, none⟩)) (rd_indexArr rfl rfl Try.underlying82 Try.sizeOf81 (by omega) (by omega)) rfl ?_
    refine Wx.rd (v := .pointer (some ⟨gt, 0 + (ix 0 rg 0).toNat * 6 + (ix 0 rg ((rg.length : Int) - 1)).toNat * 1, none⟩)) (rd_indexArr rfl rfl Try.underlying81 Try.sizeOf4 (by omega) (by omega)) rfl ?_
    refine Wx.rd (v := .bool (ix false TB ((ix 0 rg 0) * 6 + (ix 0 rg ((rg.length : Int) - 1))))) (rd_loadXa (d := false) (f := Value.bool) (j := (ix 0 rg 0) * 6 + (ix 0 rg ((rg.length : Int) - 1))) hS 4 rfl rfl (by omega) (by omega) (by omega) Try.isAgg4) rfl ?_
    refine Wx.rd (v := .bool (ix false TB ((ix 0 rg 0) * 6 + (ix 0 rg ((rg.length : Int) - 1))))) (rd_move rfl) rfl ?_
    refine Wx.cutQ (X := Unit) 2 [60, 61] (fun _ => [(61, .bool (ix false TB ((ix 0 rg 0) * 6 + (ix 0 rg ((rg.length : Int) - 1))) || better))]) (fun _ => True) ?_ ?_
    · rcases Bool.eq_false_or_eq_true (ix false TB ((ix 0 rg 0) * 6 + (ix 0 rg ((rg.length : Int) - 1)))) with g_54 | g_54
      · -- True
        have gp_55 := g_54
        try simp only [Bool.and_eq_true, Bool.or_eq_true, Bool.not_eq_true', Bool.and_eq_false_iff, Bool.or_eq_false_iff, Bool.not_eq_false', decide_eq_true_eq, decide_eq_false_iff_not, not_or, Bool.false_eq_true, Bool.true_eq_false, false_or, or_false, not_false_eq_true] at gp_55
        refine Wx.gnoB rfl rfl (congrArg Value.bool g_54) rfl rfl ?_
        refine Wx.rd (v := .bool true) (rd_pickT (congrArg Value.bool g_54) rfl) rfl ?_
        refine Wx.nilQ (fun _ _ => ⟨(), trivial, ⟨?_, trivial⟩, Out.look rfl Out.refl⟩)
        show Value.bool true = Value.bool (ix false TB ((ix 0 rg 0) * 6 + (ix 0 rg ((rg.length : Int) - 1))) || better)
        first | rw [g_54, Bool.true_or] | (rw [g_54]; rfl)
      · -- False
        have gp_56 := g_54
        try simp only [Bool.and_eq_true, Bool.or_eq_true, Bool.not_eq_true', Bool.and_eq_false_iff, Bool.or_eq_false_iff, Bool.not_eq_false', decide_eq_true_eq, decide_eq_false_iff_not, not_or, Bool.false_eq_true, Bool.true_eq_false, false_or, or_false, not_false_eq_true] at gp_56
        refine Wx.gyes rfl rfl (congrArg Value.bool g_54) ?_
        refine Wx.rd (v := .bool better) (rd_move rfl) rfl ?_
        refine Wx.rd (v := .bool better) (rd_pickF (congrArg Value.bool g_54) rfl) rfl ?_
        refine Wx.nilQ (fun _ _ => ⟨(), trivial, ⟨?_, trivial⟩, Out.look rfl Out.refl⟩)
        show Value.bool better = Value.bool (ix false TB ((ix 0 rg 0) * 6 + (ix 0 rg ((rg.length : Int) - 1))) || better)
        first | rw [g_54, Bool.false_or] | (rw [g_54]; rfl)
    rintro ⟨⟩ u_58 -
    refine Wx.rd (v := .pointer (some ⟨gt, 0 + (ix 0 rg 0).toNat * 6, none⟩)) (rd_indexArr rfl rfl Try.underlying82 Try.sizeOf81 (by omega) (by omega)) rfl ?_
    refine Wx.rd (v := .pointer (some ⟨gt, 0 + (ix 0 rg 0).toNat * 6 + (ix 0 rg ((rg.length : Int) - 1)).toNat * 1, none⟩)) (rd_indexArr rfl rfl Try.underlying81 Try.sizeOf4 (by omega) (by omega)) rfl ?_
    refine Wx.nilQ (fun w_59 hx_60 => ?_)
    have hS := hS.ext hx_60
    refine Wx.storeXa (j := (ix 0 rg 0) * 6 + (ix 0 rg ((rg.length : Int) - 1))) (f := Value.bool) (u := (ix false TB ((ix 0 rg 0) * 6 + (ix 0 rg ((rg.length : Int) - 1))) || better)) hS 4 rfl rfl (by omega) rfl rfl rfl Try.sizeOf4 (by omega) (by omega) (fun w_61 hz_62 hS => ?_)
    refine Wx.nil ?_
    exact ⟨.tuple #[], ResIs.zero, rfl, by rw [show stL l rg TL = _ from by rw [stL, if_pos (chain_good (k := k) (by omega) h2)], show stB l rg TB = _ from by rw [stB, if_pos (chain_good (k := k) (by omega) h2), hany]]; exact (St.tl hS)⟩
end Go.Proofs.Ytjbcpggikaeleaa

namespace Go.Proofs.Ytjbcpggikaeleaa
open Go.Wk Go.RowKit
set_option linter.unusedVariables false

theorem each56 {l : List Sale} {sv : Value} {gs gl gt : Nat} {R : List Ob} (p_ok : SalesOK l) : EachN Try.prog 56 [] [(.pointer (some ⟨gs, 0, none⟩)), (.pointer (some ⟨gl, 0, none⟩)), (.pointer (some ⟨gt, 0, none⟩))] l.length
    (fun ls ob => ∃ TL TB, (((TL.length : Int) = 36 ∧ (TB.length : Int) = 36) ∧ (∀ a b, (0 ≤ a ∧ a < (l.length : Int)) → (0 ≤ b ∧ b < (l.length : Int)) → tbR TL a b = ls.any (isPath l a b)) ∧ (∀ a b, (0 ≤ a ∧ a < (l.length : Int)) → (0 ≤ b ∧ b < (l.length : Int)) → tbR TB a b = ls.any (isBeat l a b))) ∧ ob = Ob.v (tSl (tP (tSl (tI .i64)) (tSl (tI .i64)))) l sv :: .box gs 22 [sv] :: .box gl 82 (List.map Value.bool TL) :: .box gt 82 (List.map Value.bool TB) :: R) := by
  rintro ls q lv pre ob w0 w O h1 hl hb hd ⟨TL, TB, ⟨⟨n1, n2⟩, k1, k2⟩, rfl⟩ hS hv
  have hP := St.pull (pre := pre) (A := [Ob.v (tSl (tP (tSl (tI .i64)) (tSl (tI .i64)))) l sv, .box gs 22 [sv], .box gl 82 (List.map Value.bool TL), .box gt 82 (List.map Value.bool TB)]) (R := R) hS
  have hV := V.pull (pre := pre) (A := [Ob.v (tSl (tP (tSl (tI .i64)) (tSl (tI .i64)))) l sv, .box gs 22 [sv], .box gl 82 (List.map Value.bool TL), .box gt 82 (List.map Value.bool TB)]) (R := R) hv
  refine (F56 (ob := pre ++ R) p_ok n1 n2 h1 hb hP hV).mono ?_
  rintro e w' ⟨r, he, hr, hS2⟩
  exact ⟨r, he, hr, _, ⟨_, _, ⟨⟨(tk_len n1).1, (tk_len n2).2⟩, tk_leads p_ok.1 n1 h1 hb k1, tk_beats p_ok.1 n2 h1 hb k2⟩, rfl⟩, St.pull (pre := [Ob.v (tSl (tP (tSl (tI .i64)) (tSl (tI .i64)))) l sv, .box gs 22 [sv], .box gl 82 (List.map Value.bool (stL l q TL)), .box gt 82 (List.map Value.bool (stB l q TB))]) (A := pre) (R := R) hS2⟩
end Go.Proofs.Ytjbcpggikaeleaa

namespace Go.Proofs.Ytjbcpggikaeleaa
open Go.Wk Go.RowKit Go.Lib
set_option linter.unusedVariables false
set_option linter.unusedSimpArgs false
theorem mixedLw_ : Try.prog.follows .mixedOrders = true := by kernel_rfl
theorem elLw_39 : ElemI Try.prog 39 3 (.int .i64 0) 1 8 := ElemI.of Try.underlying39 (by kernel_rfl) (by first | rfl | kernel_rfl) (by decide)

set_option maxHeartbeats 2000000 in
theorem F87  : ∀ (fuel : Nat) {n : Int} {l : List Int} {lv : Value} {fe : FuncId} {fs cs : List Value} {Tl : List (List Int) → List Ob → Prop} {ls : List (List Int)} {gn ge gp : Nat} {ob : List Ob} {w0 w : World} {O : List (Option Nat)} (hcall : ∀ args w, (callFunc fe args).run Try.prog w = .ok (.enter fe args) w) (hE : EachN Try.prog fe fs cs n Tl) (p_0 : 0 ≤ n) (p_7 : n ≤ 7) (p_l : (l.length : Int) ≤ n) (p_b : ∀ x ∈ l, 0 ≤ x ∧ x < n) (p_d : l.Nodup) (hT : Tl ls ob) (hS : St w0 O w (.box ge 76 [.func (.func fe) fs.toArray cs.toArray] :: .box gn 3 [.int .i64 n] :: .box gp 76 [.func (.func 87) #[] #[(.pointer (some ⟨ge, 0, none⟩)), (.pointer (some ⟨gn, 0, none⟩)), (.pointer (some ⟨gp, 0, none⟩))]] :: ob)) (hv : V (tSl (tI .i64)) l lv (fb (.box ge 76 [.func (.func fe) fs.toArray cs.toArray] :: .box gn 3 [.int .i64 n] :: .box gp 76 [.func (.func 87) #[] #[(.pointer (some ⟨ge, 0, none⟩)), (.pointer (some ⟨gn, 0, none⟩)), (.pointer (some ⟨gp, 0, none⟩))]] :: ob) O) w) (hfuel : (n + 1 - l.length).toNat < fuel), Calls Try.prog 87 #[lv, (.pointer (some ⟨ge, 0, none⟩)), (.pointer (some ⟨gn, 0, none⟩)), (.pointer (some ⟨gp, 0, none⟩))] w (Bk fun r w' => r = .tuple #[] ∧ ∃ ob', Tl (ls ++ allP n (n + 1 - l.length).toNat l) ob' ∧ St w0 O w' (.box ge 76 [.func (.func fe) fs.toArray cs.toArray] :: .box gn 3 [.int .i64 n] :: .box gp 76 [.func (.func 87) #[] #[(.pointer (some ⟨ge, 0, none⟩)), (.pointer (some ⟨gn, 0, none⟩)), (.pointer (some ⟨gp, 0, none⟩))]] :: ob')) := by
  intro fuel
  induction fuel with
  | zero => intros; omega
  | succ fuel IH =>
  intro n l lv fe fs cs Tl ls gn ge gp ob w0 w O hcall hE p_0 p_7 p_l p_b p_d hT hS hv hfuel
  obtain ⟨m, hm⟩ : ∃ m : Nat, (n + 1 - l.length).toNat = m + 1 := ⟨(n + 1 - l.length).toNat - 1, by omega⟩
  have hS := hS.add (hv)
  have ln_2 := (hS.v 0 rfl).len63
  refine enterB Try.func87 rfl Try.ntmps87 Try.results87 rfl ?_
  refine W.seq ?_
  refine W.seq ?_
  refine W.reg ?_
  refine Wx.rd (v := lv) (rd_move rfl) rfl ?_
  refine Wx.rd (v := .int .i64 (l.length : Int)) (rd_lenV rfl (hS.v 0 rfl) Try.underlying39) rfl ?_
  refine Wx.rd (v := .bool (decide (0 < (l.length : Int)))) (rd_gtr rfl rfl) rfl ?_
  refine Wx.nil ?_
  refine W.cutK [9, 10, 11] (fun x : (List Ob) × (List (List Int)) => match x with | (o1, ms0) => []) (fun (x : (List Ob) × (List (List Int))) w' => match x with | (o1, ms0) => St w0 O w' (Ob.v (tSl (tI .i64)) l lv :: .box ge 76 [(.func (.func fe) fs.toArray cs.toArray)] :: .box gn 3 [.int .i64 n] :: .box gp 76 [.func (.func 87) #[] #[(.pointer (some ⟨ge, 0, none⟩)), (.pointer (some ⟨gn, 0, none⟩)), (.pointer (some ⟨gp, 0, none⟩))]] :: o1) ∧ Tl ms0 o1 ∧ ms0 = ls ++ hdL l) ?_ ?_
  · -- up to the cut
    refine W.condD rfl (fun c0 => ?_) (fun c0 => ?_)
    · -- yes
      refine W.reg ?_
      refine Wx.rd (v := (.func (.func fe) fs.toArray cs.toArray)) (rd_loadX hS 1 rfl rfl rfl Try.isAgg76) rfl ?_
      refine Wx.rd (v := lv) (rd_move rfl) rfl ?_
      refine Wx.callB (run_callC (fs := fs) (cs := cs) (vs := fs ++ [lv] ++ cs) hcall rfl rfl) (hE ls l lv [Ob.v (tSl (tI .i64)) l lv, .box ge 76 [(.func (.func fe) fs.toArray cs.toArray)], .box gn 3 [.int .i64 n], .box gp 76 [.func (.func 87) #[] #[(.pointer (some ⟨ge, 0, none⟩)), (.pointer (some ⟨gn, 0, none⟩)), (.pointer (some ⟨gp, 0, none⟩))]]] ob w0 _ O (by omega) p_l p_b p_d hT hS (hS.v 0 rfl)) rfl ?_
      rintro r_3 w_4 ⟨rfl, ob_6, hT_5, hS⟩
      have hS : St w0 O w_4 (Ob.v (tSl (tI .i64)) l lv :: .box ge 76 [(.func (.func fe) fs.toArray cs.toArray)] :: .box gn 3 [.int .i64 n] :: .box gp 76 [.func (.func 87) #[] #[(.pointer (some ⟨ge, 0, none⟩)), (.pointer (some ⟨gn, 0, none⟩)), (.pointer (some ⟨gp, 0, none⟩))]] :: ob_6) := hS
      have hT := hT_5
      refine Wx.nil ?_
      refine ⟨(ob_6, ls ++ [l]), ?_, ?_, Out.look rfl Out.refl⟩
      · exact ⟨hS, (hT), (by rw [hd_yes c0])⟩
      · exact trivial
    · -- no
      refine W.skip ?_
      refine ⟨(ob, ls), ?_, ?_, Out.look rfl Out.refl⟩
      · exact ⟨hS, (hT), (by rw [hd_no c0, List.append_nil])⟩
      · exact trivial
  rintro ⟨o1, ms0⟩ u_8 w_7 ⟨hS, hT0, hms⟩
  refine W.seq ?_
  refine W.reg ?_
  refine Wx.rd (v := .int .i64 n) (rd_loadX hS 2 rfl rfl rfl Try.isAgg3) rfl ?_
  refine Wx.rd (v := .int .i64 0) (rd_move rfl) rfl ?_
  refine Wx.nil ?_
  refine W.block ?_
  refine W.loop [5, 13, 14, 15, 16, 17, 18, 19, 20, 21, 22, 23, 24, 25, 26, 27] (fun x : Int × (List Ob) × (List (List Int)) => match x with | (x, ot, ms) => [(13, .int .i64 x)]) (fun (x : Int × (List Ob) × (List (List Int))) w' => match x with | (x, ot, ms) => St w0 O w' (Ob.v (tSl (tI .i64)) l lv :: .box ge 76 [(.func (.func fe) fs.toArray cs.toArray)] :: .box gn 3 [.int .i64 n] :: .box gp 76 [.func (.func 87) #[] #[(.pointer (some ⟨ge, 0, none⟩)), (.pointer (some ⟨gn, 0, none⟩)), (.pointer (some ⟨gp, 0, none⟩))]] :: ot) ∧ 0 ≤ x ∧ x ≤ n ∧ ms ++ allX n (allP n m) l (n - x).toNat = ls ++ (hdL l ++ allX n (allP n m) l n.toNat) ∧ Tl ms ot) (fun x : Int × (List Ob) × (List (List Int)) => match x with | (x, ot, ms) => (n - x).toNat) (0, o1, ms0) ⟨rfl, trivial⟩ ⟨hS, (by first | omega | simp), (by first | omega | simp), (by rw [Int.sub_zero, hms, List.append_assoc]), (hT0)⟩ ?_
  rintro ⟨x, ot, ms⟩ u_10 w_9 ⟨hS, h0, h1, h2, h3⟩
  refine W.seq ?_
  refine W.reg ?_
  refine Wx.rd (v := .bool (decide (x < n))) (rd_lss rfl rfl) rfl ?_
  refine Wx.nil ?_
  refine W.seq ?_
  refine W.condD rfl (fun c1 => ?_) (fun c1 => ?_)
  · -- yes
    refine W.skip ?_
    refine W.seq ?_
    refine W.block ?_
    refine W.seq ?_
    refine W.reg ?_
    refine Wx.rd (v := .int .i64 x) (rd_move rfl) rfl ?_
    refine Wx.rd (v := .int .i64 x) (rd_assign rfl) rfl ?_
    refine Wx.nil ?_
    refine W.seq ?_
    refine W.reg ?_
    refine Wx.rd (v := lv) (rd_move rfl) rfl ?_
    refine Wx.rd (v := .int .i64 x) (rd_move rfl) rfl ?_
    refine Wx.callF (run_callF Try.call55 rfl) (F55 (hS.v 0 rfl) (in_i64 (by omega) (by omega))) rfl ?_
    rintro r_11 w_12 hx_13 rfl
    have hS := hS.ext hx_13
    refine Wx.rd (v := .bool (!(hasL l x))) (rd_not rfl) rfl ?_
    refine Wx.nil ?_
    refine W.cond rfl (fun c2 => ?_) (fun c2 => ?_)
    · -- yes
      try simp only [Bool.and_eq_true, Bool.or_eq_true, Bool.not_eq_true', Bool.and_eq_false_iff, Bool.or_eq_false_iff, Bool.not_eq_false', decide_eq_true_eq, decide_eq_false_iff_not, not_or, Bool.false_eq_true, Bool.true_eq_false, false_or, or_false, not_false_eq_true] at c2
      obtain ⟨hnd, hnl⟩ := snoc_nodup p_0 p_d p_b h0 c1 c2
      refine W.regP mixedLw_ (fun w_14 hx_15 => ?_)
      have hS := hS.ext hx_15
      refine Wp.rd (v := lv) 1 rfl (by kernel_rfl) (fun _ => (rd_move rfl)) rfl ?_
      refine Wp.rd (v := .int .i64 x) 3 rfl (by kernel_rfl) (fun _ => (rd_move rfl)) rfl ?_
      refine Wp.br [0, 2, 4] (by kernel_rfl) (by decide) ⟨⟨_, rfl, ?_⟩, ⟨_, rfl, ?_⟩, ⟨_, rfl, ?_⟩, trivial⟩
      · -- operation 0
        refine Wx.rd (v := .func (.func 87) #[] #[(.pointer (some ⟨ge, 0, none⟩)), (.pointer (some ⟨gn, 0, none⟩)), (.pointer (some ⟨gp, 0, none⟩))]) (rd_loadX hS 3 rfl rfl rfl Try.isAgg76) rfl ?_
        refine Wx.nil ?_
        refine Wp.br [2, 4] (by kernel_rfl) (by decide) ⟨⟨_, rfl, ?_⟩, ⟨_, rfl, ?_⟩, trivial⟩
        · -- operation 2
          refine Wx.callF (run_callF Try.call88 rfl) (F88 (hS.v 0 rfl) hS.fb_lt) rfl ?_
          rintro r_16 w_17 hx_18 ⟨_, rfl, ⟨⟨ad_20, rfl⟩, hv_19⟩⟩
          have ln_22 := hv_19.len63
          have hS := hS.ext hx_18
          have hS := hS.add hv_19
          refine Wx.nil ?_
          refine Wp.br [4] (by kernel_rfl) (by decide) ⟨⟨_, rfl, ?_⟩, trivial⟩
          refine Wx.lit (t := (tI .i64)) (ys := [x]) (vs := [.int .i64 x]) elLw_39 hS rfl rfl ⟨(V.mkInt (in_i64 (by omega) (by omega))), trivial⟩ (by decide) rfl (fun v_23 w_24 hx_25 hS => ?_)
          refine Wx.nil ?_
          refine Wp.br [5] (by kernel_rfl) (by decide) ⟨⟨_, rfl, ?_⟩, trivial⟩
          refine Wx.appendNew elLw_39 hS rfl (hS.v 1 rfl) rfl (Src.ofR hS 0 rfl) (by simp) (by simp only [maxLen]; simp; omega) (by simp; omega) rfl (fun v_26 w_27 hz_28 hS => ?_)
          refine Wx.nil ?_
          refine Wp.br [6] (by kernel_rfl) (by decide) ⟨⟨_, rfl, ?_⟩, trivial⟩
          have hS := hS.freeze 0 rfl
          have hL := V.pull (pre := [Ob.v (tSl (tI .i64)) (l ++ [x]) v_26, .row (tI .i64) 3 v_23 [x], Ob.v (tSl (tI .i64)) l (.slice ad_20 l.length l.length), Ob.v (tSl (tI .i64)) l lv]) (A := [.box ge 76 [(.func (.func fe) fs.toArray cs.toArray)], .box gn 3 [.int .i64 n], .box gp 76 [.func (.func 87) #[] #[(.pointer (some ⟨ge, 0, none⟩)), (.pointer (some ⟨gn, 0, none⟩)), (.pointer (some ⟨gp, 0, none⟩))]]]) (R := ot) (hS.v 0 rfl)
          have hP := St.pull (pre := [Ob.v (tSl (tI .i64)) (l ++ [x]) v_26, .row (tI .i64) 3 v_23 [x], Ob.v (tSl (tI .i64)) l (.slice ad_20 l.length l.length), Ob.v (tSl (tI .i64)) l lv]) (A := [.box ge 76 [(.func (.func fe) fs.toArray cs.toArray)], .box gn 3 [.int .i64 n], .box gp 76 [.func (.func 87) #[] #[(.pointer (some ⟨ge, 0, none⟩)), (.pointer (some ⟨gn, 0, none⟩)), (.pointer (some ⟨gp, 0, none⟩))]]]) (R := ot) hS
          refine Wx.callB (run_callC (fs := []) (cs := [(.pointer (some ⟨ge, 0, none⟩)), (.pointer (some ⟨gn, 0, none⟩)), (.pointer (some ⟨gp, 0, none⟩))]) (vs := [v_26, (.pointer (some ⟨ge, 0, none⟩)), (.pointer (some ⟨gn, 0, none⟩)), (.pointer (some ⟨gp, 0, none⟩))]) Try.call87 rfl rfl) (IH (l := (l ++ [x])) (lv := v_26) (ls := ms) (Tl := fun ls ob => ∃ ob', ob = [Ob.v (tSl (tI .i64)) (l ++ [x]) v_26, .row (tI .i64) 3 v_23 [x], Ob.v (tSl (tI .i64)) l (.slice ad_20 l.length l.length), Ob.v (tSl (tI .i64)) l lv] ++ ob' ∧ Tl ls ob') (ob := [Ob.v (tSl (tI .i64)) (l ++ [x]) v_26, .row (tI .i64) 3 v_23 [x], Ob.v (tSl (tI .i64)) l (.slice ad_20 l.length l.length), Ob.v (tSl (tI .i64)) l lv] ++ ot) hcall (eachN_pre hE [Ob.v (tSl (tI .i64)) (l ++ [x]) v_26, .row (tI .i64) 3 v_23 [x], Ob.v (tSl (tI .i64)) l (.slice ad_20 l.length l.length), Ob.v (tSl (tI .i64)) l lv]) p_0 p_7 (by simp; omega) (snoc_in p_b h0 (by omega)) hnd ⟨_, rfl, h3⟩ hP hL (by simp; omega)) rfl ?_
          rintro r_30 w_31 ⟨rfl, _, ⟨ob_33, rfl, hT_32⟩, hS⟩
          have hS : St w0 O w_31 (Ob.v (tSl (tI .i64)) (l ++ [x]) v_26 :: .row (tI .i64) 3 v_23 [x] :: Ob.v (tSl (tI .i64)) l (.slice ad_20 l.length l.length) :: Ob.v (tSl (tI .i64)) l lv :: .box ge 76 [(.func (.func fe) fs.toArray cs.toArray)] :: .box gn 3 [.int .i64 n] :: .box gp 76 [.func (.func 87) #[] #[(.pointer (some ⟨ge, 0, none⟩)), (.pointer (some ⟨gn, 0, none⟩)), (.pointer (some ⟨gp, 0, none⟩))]] :: ob_33) := St.pull (pre := [.box ge 76 [(.func (.func fe) fs.toArray cs.toArray)], .box gn 3 [.int .i64 n], .box gp 76 [.func (.func 87) #[] #[(.pointer (some ⟨ge, 0, none⟩)), (.pointer (some ⟨gn, 0, none⟩)), (.pointer (some ⟨gp, 0, none⟩))]]]) (A := [Ob.v (tSl (tI .i64)) (l ++ [x]) v_26, .row (tI .i64) 3 v_23 [x], Ob.v (tSl (tI .i64)) l (.slice ad_20 l.length l.length), Ob.v (tSl (tI .i64)) l lv]) (R := ob_33) hS
          have hT := hT_32
          refine Wx.nil ?_
          refine Wp.done (by kernel_rfl) ?_
          refine W.reg ?_
          refine Wx.rd (v := .int .i64 (x + 1)) (rd_add rfl rfl (in_i64 (by omega) (by omega))) rfl ?_
          refine Wx.rd (v := .int .i64 (x + 1)) (rd_move rfl) rfl ?_
          refine Wx.nil ?_
          refine ⟨(x + 1, ob_33, ms ++ allP n (n + 1 - ((l ++ [x]).length : Int)).toNat (l ++ [x])), (by show (n - (x + 1)).toNat < (n - x).toNat; omega), ?_, ?_, Out.look rfl Out.self⟩
          · exact ⟨St.tl (St.tl (hS.tl)), (by first | omega | assumption), (by first | omega | assumption), (by rw [← h2, allX_cons n _ l c1]; first | (rw [if_neg (by rw [c2]; decide), show (n + 1 - (((l ++ [x]).length : Nat) : Int)).toNat = m by simp; omega, List.append_assoc]) | rw [if_pos c2, List.nil_append]), (by first | exact hT | exact h3)⟩
          · exact ⟨rfl, trivial⟩
        · -- operation 4
          refine Wx.lit (t := (tI .i64)) (ys := [x]) (vs := [.int .i64 x]) elLw_39 hS rfl rfl ⟨(V.mkInt (in_i64 (by omega) (by omega))), trivial⟩ (by decide) rfl (fun v_34 w_35 hx_36 hS => ?_)
          refine Wx.nil ?_
          refine Wp.br [2] (by kernel_rfl) (by decide) ⟨⟨_, rfl, ?_⟩, trivial⟩
          refine Wx.callF (run_callF Try.call88 rfl) (F88 (hS.v 1 rfl) hS.fb_lt) rfl ?_
          rintro r_37 w_38 hx_39 ⟨_, rfl, ⟨⟨ad_41, rfl⟩, hv_40⟩⟩
          have ln_43 := hv_40.len63
          have hS := hS.ext hx_39
          have hS := hS.add hv_40
          refine Wx.nil ?_
          refine Wp.br [5] (by kernel_rfl) (by decide) ⟨⟨_, rfl, ?_⟩, trivial⟩
          refine Wx.appendNew elLw_39 hS rfl (hS.v 0 rfl) rfl (Src.ofR hS 1 rfl) (by simp) (by simp only [maxLen]; simp; omega) (by simp; omega) rfl (fun v_44 w_45 hz_46 hS => ?_)
          refine Wx.nil ?_
          refine Wp.br [6] (by kernel_rfl) (by decide) ⟨⟨_, rfl, ?_⟩, trivial⟩
          have hS := hS.freeze 0 rfl
          have hL := V.pull (pre := [Ob.v (tSl (tI .i64)) (l ++ [x]) v_44, Ob.v (tSl (tI .i64)) l (.slice ad_41 l.length l.length), .row (tI .i64) 3 v_34 [x], Ob.v (tSl (tI .i64)) l lv]) (A := [.box ge 76 [(.func (.func fe) fs.toArray cs.toArray)], .box gn 3 [.int .i64 n], .box gp 76 [.func (.func 87) #[] #[(.pointer (some ⟨ge, 0, none⟩)), (.pointer (some ⟨gn, 0, none⟩)), (.pointer (some ⟨gp, 0, none⟩))]]]) (R := ot) (hS.v 0 rfl)
          have hP := St.pull (pre := [Ob.v (tSl (tI .i64)) (l ++ [x]) v_44, Ob.v (tSl (tI .i64)) l (.slice ad_41 l.length l.length), .row (tI .i64) 3 v_34 [x], Ob.v (tSl (tI .i64)) l lv]) (A := [.box ge 76 [(.func (.func fe) fs.toArray cs.toArray)], .box gn 3 [.int .i64 n], .box gp 76 [.func (.func 87) #[] #[(.pointer (some ⟨ge, 0, none⟩)), (.pointer (some ⟨gn, 0, none⟩)), (.pointer (some ⟨gp, 0, none⟩))]]]) (R := ot) hS
          refine Wx.callB (run_callC (fs := []) (cs := [(.pointer (some ⟨ge, 0, none⟩)), (.pointer (some ⟨gn, 0, none⟩)), (.pointer (some ⟨gp, 0, none⟩))]) (vs := [v_44, (.pointer (some ⟨ge, 0, none⟩)), (.pointer (some ⟨gn, 0, none⟩)), (.pointer (some ⟨gp, 0, none⟩))]) Try.call87 rfl rfl) (IH (l := (l ++ [x])) (lv := v_44) (ls := ms) (Tl := fun ls ob => ∃ ob', ob = [Ob.v (tSl (tI .i64)) (l ++ [x]) v_44, Ob.v (tSl (tI .i64)) l (.slice ad_41 l.length l.length), .row (tI .i64) 3 v_34 [x], Ob.v (tSl (tI .i64)) l lv] ++ ob' ∧ Tl ls ob') (ob := [Ob.v (tSl (tI .i64)) (l ++ [x]) v_44, Ob.v (tSl (tI .i64)) l (.slice ad_41 l.length l.length), .row (tI .i64) 3 v_34 [x], Ob.v (tSl (tI .i64)) l lv] ++ ot) hcall (eachN_pre hE [Ob.v (tSl (tI .i64)) (l ++ [x]) v_44, Ob.v (tSl (tI .i64)) l (.slice ad_41 l.length l.length), .row (tI .i64) 3 v_34 [x], Ob.v (tSl (tI .i64)) l lv]) p_0 p_7 (by simp; omega) (snoc_in p_b h0 (by omega)) hnd ⟨_, rfl, h3⟩ hP hL (by simp; omega)) rfl ?_
          rintro r_48 w_49 ⟨rfl, _, ⟨ob_51, rfl, hT_50⟩, hS⟩
          have hS : St w0 O w_49 (Ob.v (tSl (tI .i64)) (l ++ [x]) v_44 :: Ob.v (tSl (tI .i64)) l (.slice ad_41 l.length l.length) :: .row (tI .i64) 3 v_34 [x] :: Ob.v (tSl (tI .i64)) l lv :: .box ge 76 [(.func (.func fe) fs.toArray cs.toArray)] :: .box gn 3 [.int .i64 n] :: .box gp 76 [.func (.func 87) #[] #[(.pointer (some ⟨ge, 0, none⟩)), (.pointer (some ⟨gn, 0, none⟩)), (.pointer (some ⟨gp, 0, none⟩))]] :: ob_51) := St.pull (pre := [.box ge 76 [(.func (.func fe) fs.toArray cs.toArray)], .box gn 3 [.int .i64 n], .box gp 76 [.func (.func 87) #[] #[(.pointer (some ⟨ge, 0, none⟩)), (.pointer (some ⟨gn, 0, none⟩)), (.pointer (some ⟨gp, 0, none⟩))]]]) (A := [Ob.v (tSl (tI .i64)) (l ++ [x]) v_44, Ob.v (tSl (tI .i64)) l (.slice ad_41 l.length l.length), .row (tI .i64) 3 v_34 [x], Ob.v (tSl (tI .i64)) l lv]) (R := ob_51) hS
          have hT := hT_50
          refine Wx.nil ?_
          refine Wp.done (by kernel_rfl) ?_
          refine W.reg ?_
          refine Wx.rd (v := .int .i64 (x + 1)) (rd_add rfl rfl (in_i64 (by omega) (by omega))) rfl ?_
          refine Wx.rd (v := .int .i64 (x + 1)) (rd_move rfl) rfl ?_
          refine Wx.nil ?_
          refine ⟨(x + 1, ob_51, ms ++ allP n (n + 1 - ((l ++ [x]).length : Int)).toNat (l ++ [x])), (by show (n - (x + 1)).toNat < (n - x).toNat; omega), ?_, ?_, Out.look rfl Out.self⟩
          · exact ⟨St.tl (St.tl (hS.tl)), (by first | omega | assumption), (by first | omega | assumption), (by rw [← h2, allX_cons n _ l c1]; first | (rw [if_neg (by rw [c2]; decide), show (n + 1 - (((l ++ [x]).length : Nat) : Int)).toNat = m by simp; omega, List.append_assoc]) | rw [if_pos c2, List.nil_append]), (by first | exact hT | exact h3)⟩
          · exact ⟨rfl, trivial⟩
      · -- operation 2
        refine Wx.callF (run_callF Try.call88 rfl) (F88 (hS.v 0 rfl) hS.fb_lt) rfl ?_
        rintro r_52 w_53 hx_54 ⟨_, rfl, ⟨⟨ad_56, rfl⟩, hv_55⟩⟩
        have ln_58 := hv_55.len63
        have hS := hS.ext hx_54
        have hS := hS.add hv_55
        refine Wx.nil ?_
        refine Wp.br [0, 4] (by kernel_rfl) (by decide) ⟨⟨_, rfl, ?_⟩, ⟨_, rfl, ?_⟩, trivial⟩
        · -- operation 0
          refine Wx.rd (v := .func (.func 87) #[] #[(.pointer (some ⟨ge, 0, none⟩)), (.pointer (some ⟨gn, 0, none⟩)), (.pointer (some ⟨gp, 0, none⟩))]) (rd_loadX hS 4 rfl rfl rfl Try.isAgg76) rfl ?_
          refine Wx.nil ?_
          refine Wp.br [4] (by kernel_rfl) (by decide) ⟨⟨_, rfl, ?_⟩, trivial⟩
          refine Wx.lit (t := (tI .i64)) (ys := [x]) (vs := [.int .i64 x]) elLw_39 hS rfl rfl ⟨(V.mkInt (in_i64 (by omega) (by omega))), trivial⟩ (by decide) rfl (fun v_59 w_60 hx_61 hS => ?_)
          refine Wx.nil ?_
          refine Wp.br [5] (by kernel_rfl) (by decide) ⟨⟨_, rfl, ?_⟩, trivial⟩
          refine Wx.appendNew elLw_39 hS rfl (hS.v 1 rfl) rfl (Src.ofR hS 0 rfl) (by simp) (by simp only [maxLen]; simp; omega) (by simp; omega) rfl (fun v_62 w_63 hz_64 hS => ?_)
          refine Wx.nil ?_
          refine Wp.br [6] (by kernel_rfl) (by decide) ⟨⟨_, rfl, ?_⟩, trivial⟩
          have hS := hS.freeze 0 rfl
          have hL := V.pull (pre := [Ob.v (tSl (tI .i64)) (l ++ [x]) v_62, .row (tI .i64) 3 v_59 [x], Ob.v (tSl (tI .i64)) l (.slice ad_56 l.length l.length), Ob.v (tSl (tI .i64)) l lv]) (A := [.box ge 76 [(.func (.func fe) fs.toArray cs.toArray)], .box gn 3 [.int .i64 n], .box gp 76 [.func (.func 87) #[] #[(.pointer (some ⟨ge, 0, none⟩)), (.pointer (some ⟨gn, 0, none⟩)), (.pointer (some ⟨gp, 0, none⟩))]]]) (R := ot) (hS.v 0 rfl)
          have hP := St.pull (pre := [Ob.v (tSl (tI .i64)) (l ++ [x]) v_62, .row (tI .i64) 3 v_59 [x], Ob.v (tSl (tI .i64)) l (.slice ad_56 l.length l.length), Ob.v (tSl (tI .i64)) l lv]) (A := [.box ge 76 [(.func (.func fe) fs.toArray cs.toArray)], .box gn 3 [.int .i64 n], .box gp 76 [.func (.func 87) #[] #[(.pointer (some ⟨ge, 0, none⟩)), (.pointer (some ⟨gn, 0, none⟩)), (.pointer (some ⟨gp, 0, none⟩))]]]) (R := ot) hS
          refine Wx.callB (run_callC (fs := []) (cs := [(.pointer (some ⟨ge, 0, none⟩)), (.pointer (some ⟨gn, 0, none⟩)), (.pointer (some ⟨gp, 0, none⟩))]) (vs := [v_62, (.pointer (some ⟨ge, 0, none⟩)), (.pointer (some ⟨gn, 0, none⟩)), (.pointer (some ⟨gp, 0, none⟩))]) Try.call87 rfl rfl) (IH (l := (l ++ [x])) (lv := v_62) (ls := ms) (Tl := fun ls ob => ∃ ob', ob = [Ob.v (tSl (tI .i64)) (l ++ [x]) v_62, .row (tI .i64) 3 v_59 [x], Ob.v (tSl (tI .i64)) l (.slice ad_56 l.length l.length), Ob.v (tSl (tI .i64)) l lv] ++ ob' ∧ Tl ls ob') (ob := [Ob.v (tSl (tI .i64)) (l ++ [x]) v_62, .row (tI .i64) 3 v_59 [x], Ob.v (tSl (tI .i64)) l (.slice ad_56 l.length l.length), Ob.v (tSl (tI .i64)) l lv] ++ ot) hcall (eachN_pre hE [Ob.v (tSl (tI .i64)) (l ++ [x]) v_62, .row (tI .i64) 3 v_59 [x], Ob.v (tSl (tI .i64)) l (.slice ad_56 l.length l.length), Ob.v (tSl (tI .i64)) l lv]) p_0 p_7 (by simp; omega) (snoc_in p_b h0 (by omega)) hnd ⟨_, rfl, h3⟩ hP hL (by simp; omega)) rfl ?_
          rintro r_66 w_67 ⟨rfl, _, ⟨ob_69, rfl, hT_68⟩, hS⟩
          have hS : St w0 O w_67 (Ob.v (tSl (tI .i64)) (l ++ [x]) v_62 :: .row (tI .i64) 3 v_59 [x] :: Ob.v (tSl (tI .i64)) l (.slice ad_56 l.length l.length) :: Ob.v (tSl (tI .i64)) l lv :: .box ge 76 [(.func (.func fe) fs.toArray cs.toArray)] :: .box gn 3 [.int .i64 n] :: .box gp 76 [.func (.func 87) #[] #[(.pointer (some ⟨ge, 0, none⟩)), (.pointer (some ⟨gn, 0, none⟩)), (.pointer (some ⟨gp, 0, none⟩))]] :: ob_69) := St.pull (pre := [.box ge 76 [(.func (.func fe) fs.toArray cs.toArray)], .box gn 3 [.int .i64 n], .box gp 76 [.func (.func 87) #[] #[(.pointer (some ⟨ge, 0, none⟩)), (.pointer (some ⟨gn, 0, none⟩)), (.pointer (some ⟨gp, 0, none⟩))]]]) (A := [Ob.v (tSl (tI .i64)) (l ++ [x]) v_62, .row (tI .i64) 3 v_59 [x], Ob.v (tSl (tI .i64)) l (.slice ad_56 l.length l.length), Ob.v (tSl (tI .i64)) l lv]) (R := ob_69) hS
          have hT := hT_68
          refine Wx.nil ?_
          refine Wp.done (by kernel_rfl) ?_
          refine W.reg ?_
          refine Wx.rd (v := .int .i64 (x + 1)) (rd_add rfl rfl (in_i64 (by omega) (by omega))) rfl ?_
          refine Wx.rd (v := .int .i64 (x + 1)) (rd_move rfl) rfl ?_
          refine Wx.nil ?_
          refine ⟨(x + 1, ob_69, ms ++ allP n (n + 1 - ((l ++ [x]).length : Int)).toNat (l ++ [x])), (by show (n - (x + 1)).toNat < (n - x).toNat; omega), ?_, ?_, Out.look rfl Out.self⟩
          · exact ⟨St.tl (St.tl (hS.tl)), (by first | omega | assumption), (by first | omega | assumption), (by rw [← h2, allX_cons n _ l c1]; first | (rw [if_neg (by rw [c2]; decide), show (n + 1 - (((l ++ [x]).length : Nat) : Int)).toNat = m by simp; omega, List.append_assoc]) | rw [if_pos c2, List.nil_append]), (by first | exact hT | exact h3)⟩
          · exact ⟨rfl, trivial⟩
        · -- operation 4
          refine Wx.lit (t := (tI .i64)) (ys := [x]) (vs := [.int .i64 x]) elLw_39 hS rfl rfl ⟨(V.mkInt (in_i64 (by omega) (by omega))), trivial⟩ (by decide) rfl (fun v_70 w_71 hx_72 hS => ?_)
          refine Wx.nil ?_
          refine Wp.br [0, 5] (by kernel_rfl) (by decide) ⟨⟨_, rfl, ?_⟩, ⟨_, rfl, ?_⟩, trivial⟩
          · -- operation 0
            refine Wx.rd (v := .func (.func 87) #[] #[(.pointer (some ⟨ge, 0, none⟩)), (.pointer (some ⟨gn, 0, none⟩)), (.pointer (some ⟨gp, 0, none⟩))]) (rd_loadX hS 5 rfl rfl rfl Try.isAgg76) rfl ?_
            refine Wx.nil ?_
            refine Wp.br [5] (by kernel_rfl) (by decide) ⟨⟨_, rfl, ?_⟩, trivial⟩
            refine Wx.appendNew elLw_39 hS rfl (hS.v 1 rfl) rfl (Src.ofR hS 0 rfl) (by simp) (by simp only [maxLen]; simp; omega) (by simp; omega) rfl (fun v_73 w_74 hz_75 hS => ?_)
            refine Wx.nil ?_
            refine Wp.br [6] (by kernel_rfl) (by decide) ⟨⟨_, rfl, ?_⟩, trivial⟩
            have hS := hS.freeze 0 rfl
            have hL := V.pull (pre := [Ob.v (tSl (tI .i64)) (l ++ [x]) v_73, .row (tI .i64) 3 v_70 [x], Ob.v (tSl (tI .i64)) l (.slice ad_56 l.length l.length), Ob.v (tSl (tI .i64)) l lv]) (A := [.box ge 76 [(.func (.func fe) fs.toArray cs.toArray)], .box gn 3 [.int .i64 n], .box gp 76 [.func (.func 87) #[] #[(.pointer (some ⟨ge, 0, none⟩)), (.pointer (some ⟨gn, 0, none⟩)), (.pointer (some ⟨gp, 0, none⟩))]]]) (R := ot) (hS.v 0 rfl)
            have hP := St.pull (pre := [Ob.v (tSl (tI .i64)) (l ++ [x]) v_73, .row (tI .i64) 3 v_70 [x], Ob.v (tSl (tI .i64)) l (.slice ad_56 l.length l.length), Ob.v (tSl (tI .i64)) l lv]) (A := [.box ge 76 [(.func (.func fe) fs.toArray cs.toArray)], .box gn 3 [.int .i64 n], .box gp 76 [.func (.func 87) #[] #[(.pointer (some ⟨ge, 0, none⟩)), (.pointer (some ⟨gn, 0, none⟩)), (.pointer (some ⟨gp, 0, none⟩))]]]) (R := ot) hS
            refine Wx.callB (run_callC (fs := []) (cs := [(.pointer (some ⟨ge, 0, none⟩)), (.pointer (some ⟨gn, 0, none⟩)), (.pointer (some ⟨gp, 0, none⟩))]) (vs := [v_73, (.pointer (some ⟨ge, 0, none⟩)), (.pointer (some ⟨gn, 0, none⟩)), (.pointer (some ⟨gp, 0, none⟩))]) Try.call87 rfl rfl) (IH (l := (l ++ [x])) (lv := v_73) (ls := ms) (Tl := fun ls ob => ∃ ob', ob = [Ob.v (tSl (tI .i64)) (l ++ [x]) v_73, .row (tI .i64) 3 v_70 [x], Ob.v (tSl (tI .i64)) l (.slice ad_56 l.length l.length), Ob.v (tSl (tI .i64)) l lv] ++ ob' ∧ Tl ls ob') (ob := [Ob.v (tSl (tI .i64)) (l ++ [x]) v_73, .row (tI .i64) 3 v_70 [x], Ob.v (tSl (tI .i64)) l (.slice ad_56 l.length l.length), Ob.v (tSl (tI .i64)) l lv] ++ ot) hcall (eachN_pre hE [Ob.v (tSl (tI .i64)) (l ++ [x]) v_73, .row (tI .i64) 3 v_70 [x], Ob.v (tSl (tI .i64)) l (.slice ad_56 l.length l.length), Ob.v (tSl (tI .i64)) l lv]) p_0 p_7 (by simp; omega) (snoc_in p_b h0 (by omega)) hnd ⟨_, rfl, h3⟩ hP hL (by simp; omega)) rfl ?_
            rintro r_77 w_78 ⟨rfl, _, ⟨ob_80, rfl, hT_79⟩, hS⟩
            have hS : St w0 O w_78 (Ob.v (tSl (tI .i64)) (l ++ [x]) v_73 :: .row (tI .i64) 3 v_70 [x] :: Ob.v (tSl (tI .i64)) l (.slice ad_56 l.length l.length) :: Ob.v (tSl (tI .i64)) l lv :: .box ge 76 [(.func (.func fe) fs.toArray cs.toArray)] :: .box gn 3 [.int .i64 n] :: .box gp 76 [.func (.func 87) #[] #[(.pointer (some ⟨ge, 0, none⟩)), (.pointer (some ⟨gn, 0, none⟩)), (.pointer (some ⟨gp, 0, none⟩))]] :: ob_80) := St.pull (pre := [.box ge 76 [(.func (.func fe) fs.toArray cs.toArray)], .box gn 3 [.int .i64 n], .box gp 76 [.func (.func 87) #[] #[(.pointer (some ⟨ge, 0, none⟩)), (.pointer (some ⟨gn, 0, none⟩)), (.pointer (some ⟨gp, 0, none⟩))]]]) (A := [Ob.v (tSl (tI .i64)) (l ++ [x]) v_73, .row (tI .i64) 3 v_70 [x], Ob.v (tSl (tI .i64)) l (.slice ad_56 l.length l.length), Ob.v (tSl (tI .i64)) l lv]) (R := ob_80) hS
            have hT := hT_79
            refine Wx.nil ?_
            refine Wp.done (by kernel_rfl) ?_
            refine W.reg ?_
            refine Wx.rd (v := .int .i64 (x + 1)) (rd_add rfl rfl (in_i64 (by omega) (by omega))) rfl ?_
            refine Wx.rd (v := .int .i64 (x + 1)) (rd_move rfl) rfl ?_
            refine Wx.nil ?_
            refine ⟨(x + 1, ob_80, ms ++ allP n (n + 1 - ((l ++ [x]).length : Int)).toNat (l ++ [x])), (by show (n - (x + 1)).toNat < (n - x).toNat; omega), ?_, ?_, Out.look rfl Out.self⟩
            · exact ⟨St.tl (St.tl (hS.tl)), (by first | omega | assumption), (by first | omega | assumption), (by rw [← h2, allX_cons n _ l c1]; first | (rw [if_neg (by rw [c2]; decide), show (n + 1 - (((l ++ [x]).length : Nat) : Int)).toNat = m by simp; omega, List.append_assoc]) | rw [if_pos c2, List.nil_append]), (by first | exact hT | exact h3)⟩
            · exact ⟨rfl, trivial⟩
          · -- operation 5
            refine Wx.appendNew elLw_39 hS rfl (hS.v 1 rfl) rfl (Src.ofR hS 0 rfl) (by simp) (by simp only [maxLen]; simp; omega) (by simp; omega) rfl (fun v_81 w_82 hz_83 hS => ?_)
            refine Wx.nil ?_
            refine Wp.br [0] (by kernel_rfl) (by decide) ⟨⟨_, rfl, ?_⟩, trivial⟩
            refine Wx.rd (v := .func (.func 87) #[] #[(.pointer (some ⟨ge, 0, none⟩)), (.pointer (some ⟨gn, 0, none⟩)), (.pointer (some ⟨gp, 0, none⟩))]) (rd_loadX hS 6 rfl rfl rfl Try.isAgg76) rfl ?_
            refine Wx.nil ?_
            refine Wp.br [6] (by kernel_rfl) (by decide) ⟨⟨_, rfl, ?_⟩, trivial⟩
            have hS := hS.freeze 0 rfl
            have hL := V.pull (pre := [Ob.v (tSl (tI .i64)) (l ++ [x]) v_81, .row (tI .i64) 3 v_70 [x], Ob.v (tSl (tI .i64)) l (.slice ad_56 l.length l.length), Ob.v (tSl (tI .i64)) l lv]) (A := [.box ge 76 [(.func (.func fe) fs.toArray cs.toArray)], .box gn 3 [.int .i64 n], .box gp 76 [.func (.func 87) #[] #[(.pointer (some ⟨ge, 0, none⟩)), (.pointer (some ⟨gn, 0, none⟩)), (.pointer (some ⟨gp, 0, none⟩))]]]) (R := ot) (hS.v 0 rfl)
            have hP := St.pull (pre := [Ob.v (tSl (tI .i64)) (l ++ [x]) v_81, .row (tI .i64) 3 v_70 [x], Ob.v (tSl (tI .i64)) l (.slice ad_56 l.length l.length), Ob.v (tSl (tI .i64)) l lv]) (A := [.box ge 76 [(.func (.func fe) fs.toArray cs.toArray)], .box gn 3 [.int .i64 n], .box gp 76 [.func (.func 87) #[] #[(.pointer (some ⟨ge, 0, none⟩)), (.pointer (some ⟨gn, 0, none⟩)), (.pointer (some ⟨gp, 0, none⟩))]]]) (R := ot) hS
            refine Wx.callB (run_callC (fs := []) (cs := [(.pointer (some ⟨ge, 0, none⟩)), (.pointer (some ⟨gn, 0, none⟩)), (.pointer (some ⟨gp, 0, none⟩))]) (vs := [v_81, (.pointer (some ⟨ge, 0, none⟩)), (.pointer (some ⟨gn, 0, none⟩)), (.pointer (some ⟨gp, 0, none⟩))]) Try.call87 rfl rfl) (IH (l := (l ++ [x])) (lv := v_81) (ls := ms) (Tl := fun ls ob => ∃ ob', ob = [Ob.v (tSl (tI .i64)) (l ++ [x]) v_81, .row (tI .i64) 3 v_70 [x], Ob.v (tSl (tI .i64)) l (.slice ad_56 l.length l.length), Ob.v (tSl (tI .i64)) l lv] ++ ob' ∧ Tl ls ob') (ob := [Ob.v (tSl (tI .i64)) (l ++ [x]) v_81, .row (tI .i64) 3 v_70 [x], Ob.v (tSl (tI .i64)) l (.slice ad_56 l.length l.length), Ob.v (tSl (tI .i64)) l lv] ++ ot) hcall (eachN_pre hE [Ob.v (tSl (tI .i64)) (l ++ [x]) v_81, .row (tI .i64) 3 v_70 [x], Ob.v (tSl (tI .i64)) l (.slice ad_56 l.length l.length), Ob.v (tSl (tI .i64)) l lv]) p_0 p_7 (by simp; omega) (snoc_in p_b h0 (by omega)) hnd ⟨_, rfl, h3⟩ hP hL (by simp; omega)) rfl ?_
            rintro r_85 w_86 ⟨rfl, _, ⟨ob_88, rfl, hT_87⟩, hS⟩
            have hS : St w0 O w_86 (Ob.v (tSl (tI .i64)) (l ++ [x]) v_81 :: .row (tI .i64) 3 v_70 [x] :: Ob.v (tSl (tI .i64)) l (.slice ad_56 l.length l.length) :: Ob.v (tSl (tI .i64)) l lv :: .box ge 76 [(.func (.func fe) fs.toArray cs.toArray)] :: .box gn 3 [.int .i64 n] :: .box gp 76 [.func (.func 87) #[] #[(.pointer (some ⟨ge, 0, none⟩)), (.pointer (some ⟨gn, 0, none⟩)), (.pointer (some ⟨gp, 0, none⟩))]] :: ob_88) := St.pull (pre := [.box ge 76 [(.func (.func fe) fs.toArray cs.toArray)], .box gn 3 [.int .i64 n], .box gp 76 [.func (.func 87) #[] #[(.pointer (some ⟨ge, 0, none⟩)), (.pointer (some ⟨gn, 0, none⟩)), (.pointer (some ⟨gp, 0, none⟩))]]]) (A := [Ob.v (tSl (tI .i64)) (l ++ [x]) v_81, .row (tI .i64) 3 v_70 [x], Ob.v (tSl (tI .i64)) l (.slice ad_56 l.length l.length), Ob.v (tSl (tI .i64)) l lv]) (R := ob_88) hS
            have hT := hT_87
            refine Wx.nil ?_
            refine Wp.done (by kernel_rfl) ?_
            refine W.reg ?_
            refine Wx.rd (v := .int .i64 (x + 1)) (rd_add rfl rfl (in_i64 (by omega) (by omega))) rfl ?_
            refine Wx.rd (v := .int .i64 (x + 1)) (rd_move rfl) rfl ?_
            refine Wx.nil ?_
            refine ⟨(x + 1, ob_88, ms ++ allP n (n + 1 - ((l ++ [x]).length : Int)).toNat (l ++ [x])), (by show (n - (x + 1)).toNat < (n - x).toNat; omega), ?_, ?_, Out.look rfl Out.self⟩
            · exact ⟨St.tl (St.tl (hS.tl)), (by first | omega | assumption), (by first | omega | assumption), (by rw [← h2, allX_cons n _ l c1]; first | (rw [if_neg (by rw [c2]; decide), show (n + 1 - (((l ++ [x]).length : Nat) : Int)).toNat = m by simp; omega, List.append_assoc]) | rw [if_pos c2, List.nil_append]), (by first | exact hT | exact h3)⟩
            · exact ⟨rfl, trivial⟩
      · -- operation 4
        refine Wx.lit (t := (tI .i64)) (ys := [x]) (vs := [.int .i64 x]) elLw_39 hS rfl rfl ⟨(V.mkInt (in_i64 (by omega) (by omega))), trivial⟩ (by decide) rfl (fun v_89 w_90 hx_91 hS => ?_)
        refine Wx.nil ?_
        refine Wp.br [0, 2] (by kernel_rfl) (by decide) ⟨⟨_, rfl, ?_⟩, ⟨_, rfl, ?_⟩, trivial⟩
        · -- operation 0
          refine Wx.rd (v := .func (.func 87) #[] #[(.pointer (some ⟨ge, 0, none⟩)), (.pointer (some ⟨gn, 0, none⟩)), (.pointer (some ⟨gp, 0, none⟩))]) (rd_loadX hS 4 rfl rfl rfl Try.isAgg76) rfl ?_
          refine Wx.nil ?_
          refine Wp.br [2] (by kernel_rfl) (by decide) ⟨⟨_, rfl, ?_⟩, trivial⟩
          refine Wx.callF (run_callF Try.call88 rfl) (F88 (hS.v 1 rfl) hS.fb_lt) rfl ?_
          rintro r_92 w_93 hx_94 ⟨_, rfl, ⟨⟨ad_96, rfl⟩, hv_95⟩⟩
          have ln_98 := hv_95.len63
          have hS := hS.ext hx_94
          have hS := hS.add hv_95
          refine Wx.nil ?_
          refine Wp.br [5] (by kernel_rfl) (by decide) ⟨⟨_, rfl, ?_⟩, trivial⟩
          refine Wx.appendNew elLw_39 hS rfl (hS.v 0 rfl) rfl (Src.ofR hS 1 rfl) (by simp) (by simp only [maxLen]; simp; omega) (by simp; omega) rfl (fun v_99 w_100 hz_101 hS => ?_)
          refine Wx.nil ?_
          refine Wp.br [6] (by kernel_rfl) (by decide) ⟨⟨_, rfl, ?_⟩, trivial⟩
          have hS := hS.freeze 0 rfl
          have hL := V.pull (pre := [Ob.v (tSl (tI .i64)) (l ++ [x]) v_99, Ob.v (tSl (tI .i64)) l (.slice ad_96 l.length l.length), .row (tI .i64) 3 v_89 [x], Ob.v (tSl (tI .i64)) l lv]) (A := [.box ge 76 [(.func (.func fe) fs.toArray cs.toArray)], .box gn 3 [.int .i64 n], .box gp 76 [.func (.func 87) #[] #[(.pointer (some ⟨ge, 0, none⟩)), (.pointer (some ⟨gn, 0, none⟩)), (.pointer (some ⟨gp, 0, none⟩))]]]) (R := ot) (hS.v 0 rfl)
          have hP := St.pull (pre := [Ob.v (tSl (tI .i64)) (l ++ [x]) v_99, Ob.v (tSl (tI .i64)) l (.slice ad_96 l.length l.length), .row (tI .i64) 3 v_89 [x], Ob.v (tSl (tI .i64)) l lv]) (A := [.box ge 76 [(.func (.func fe) fs.toArray cs.toArray)], .box gn 3 [.int .i64 n], .box gp 76 [.func (.func 87) #[] #[(.pointer (some ⟨ge, 0, none⟩)), (.pointer (some ⟨gn, 0, none⟩)), (.pointer (some ⟨gp, 0, none⟩))]]]) (R := ot) hS
          refine Wx.callB (run_callC (fs := []) (cs := [(.pointer (some ⟨ge, 0, none⟩)), (.pointer (some ⟨gn, 0, none⟩)), (.pointer (some ⟨gp, 0, none⟩))]) (vs := [v_99, (.pointer (some ⟨ge, 0, none⟩)), (.pointer (some ⟨gn, 0, none⟩)), (.pointer (some ⟨gp, 0, none⟩))]) Try.call87 rfl rfl) (IH (l := (l ++ [x])) (lv := v_99) (ls := ms) (Tl := fun ls ob => ∃ ob', ob = [Ob.v (tSl (tI .i64)) (l ++ [x]) v_99, Ob.v (tSl (tI .i64)) l (.slice ad_96 l.length l.length), .row (tI .i64) 3 v_89 [x], Ob.v (tSl (tI .i64)) l lv] ++ ob' ∧ Tl ls ob') (ob := [Ob.v (tSl (tI .i64)) (l ++ [x]) v_99, Ob.v (tSl (tI .i64)) l (.slice ad_96 l.length l.length), .row (tI .i64) 3 v_89 [x], Ob.v (tSl (tI .i64)) l lv] ++ ot) hcall (eachN_pre hE [Ob.v (tSl (tI .i64)) (l ++ [x]) v_99, Ob.v (tSl (tI .i64)) l (.slice ad_96 l.length l.length), .row (tI .i64) 3 v_89 [x], Ob.v (tSl (tI .i64)) l lv]) p_0 p_7 (by simp; omega) (snoc_in p_b h0 (by omega)) hnd ⟨_, rfl, h3⟩ hP hL (by simp; omega)) rfl ?_
          rintro r_103 w_104 ⟨rfl, _, ⟨ob_106, rfl, hT_105⟩, hS⟩
          have hS : St w0 O w_104 (Ob.v (tSl (tI .i64)) (l ++ [x]) v_99 :: Ob.v (tSl (tI .i64)) l (.slice ad_96 l.length l.length) :: .row (tI .i64) 3 v_89 [x] :: Ob.v (tSl (tI .i64)) l lv :: .box ge 76 [(.func (.func fe) fs.toArray cs.toArray)] :: .box gn 3 [.int .i64 n] :: .box gp 76 [.func (.func 87) #[] #[(.pointer (some ⟨ge, 0, none⟩)), (.pointer (some ⟨gn, 0, none⟩)), (.pointer (some ⟨gp, 0, none⟩))]] :: ob_106) := St.pull (pre := [.box ge 76 [(.func (.func fe) fs.toArray cs.toArray)], .box gn 3 [.int .i64 n], .box gp 76 [.func (.func 87) #[] #[(.pointer (some ⟨ge, 0, none⟩)), (.pointer (some ⟨gn, 0, none⟩)), (.pointer (some ⟨gp, 0, none⟩))]]]) (A := [Ob.v (tSl (tI .i64)) (l ++ [x]) v_99, Ob.v (tSl (tI .i64)) l (.slice ad_96 l.length l.length), .row (tI .i64) 3 v_89 [x], Ob.v (tSl (tI .i64)) l lv]) (R := ob_106) hS
          have hT := hT_105
          refine Wx.nil ?_
          refine Wp.done (by kernel_rfl) ?_
          refine W.reg ?_
          refine Wx.rd (v := .int .i64 (x + 1)) (rd_add rfl rfl (in_i64 (by omega) (by omega))) rfl ?_
          refine Wx.rd (v := .int .i64 (x + 1)) (rd_move rfl) rfl ?_
          refine Wx.nil ?_
          refine ⟨(x + 1, ob_106, ms ++ allP n (n + 1 - ((l ++ [x]).length : Int)).toNat (l ++ [x])), (by show (n - (x + 1)).toNat < (n - x).toNat; omega), ?_, ?_, Out.look rfl Out.self⟩
          · exact ⟨St.tl (St.tl (hS.tl)), (by first | omega | assumption), (by first | omega | assumption), (by rw [← h2, allX_cons n _ l c1]; first | (rw [if_neg (by rw [c2]; decide), show (n + 1 - (((l ++ [x]).length : Nat) : Int)).toNat = m by simp; omega, List.append_assoc]) | rw [if_pos c2, List.nil_append]), (by first | exact hT | exact h3)⟩
          · exact ⟨rfl, trivial⟩
        · -- operation 2
          refine Wx.callF (run_callF Try.call88 rfl) (F88 (hS.v 1 rfl) hS.fb_lt) rfl ?_
          rintro r_107 w_108 hx_109 ⟨_, rfl, ⟨⟨ad_111, rfl⟩, hv_110⟩⟩
          have ln_113 := hv_110.len63
          have hS := hS.ext hx_109
          have hS := hS.add hv_110
          refine Wx.nil ?_
          refine Wp.br [0, 5] (by kernel_rfl) (by decide) ⟨⟨_, rfl, ?_⟩, ⟨_, rfl, ?_⟩, trivial⟩
          · -- operation 0
            refine Wx.rd (v := .func (.func 87) #[] #[(.pointer (some ⟨ge, 0, none⟩)), (.pointer (some ⟨gn, 0, none⟩)), (.pointer (some ⟨gp, 0, none⟩))]) (rd_loadX hS 5 rfl rfl rfl Try.isAgg76) rfl ?_
            refine Wx.nil ?_
            refine Wp.br [5] (by kernel_rfl) (by decide) ⟨⟨_, rfl, ?_⟩, trivial⟩
            refine Wx.appendNew elLw_39 hS rfl (hS.v 0 rfl) rfl (Src.ofR hS 1 rfl) (by simp) (by simp only [maxLen]; simp; omega) (by simp; omega) rfl (fun v_114 w_115 hz_116 hS => ?_)
            refine Wx.nil ?_
            refine Wp.br [6] (by kernel_rfl) (by decide) ⟨⟨_, rfl, ?_⟩, trivial⟩
            have hS := hS.freeze 0 rfl
            have hL := V.pull (pre := [Ob.v (tSl (tI .i64)) (l ++ [x]) v_114, Ob.v (tSl (tI .i64)) l (.slice ad_111 l.length l.length), .row (tI .i64) 3 v_89 [x], Ob.v (tSl (tI .i64)) l lv]) (A := [.box ge 76 [(.func (.func fe) fs.toArray cs.toArray)], .box gn 3 [.int .i64 n], .box gp 76 [.func (.func 87) #[] #[(.pointer (some ⟨ge, 0, none⟩)), (.pointer (some ⟨gn, 0, none⟩)), (.pointer (some ⟨gp, 0, none⟩))]]]) (R := ot) (hS.v 0 rfl)
            have hP := St.pull (pre := [Ob.v (tSl (tI .i64)) (l ++ [x]) v_114, Ob.v (tSl (tI .i64)) l (.slice ad_111 l.length l.length), .row (tI .i64) 3 v_89 [x], Ob.v (tSl (tI .i64)) l lv]) (A := [.box ge 76 [(.func (.func fe) fs.toArray cs.toArray)], .box gn 3 [.int .i64 n], .box gp 76 [.func (.func 87) #[] #[(.pointer (some ⟨ge, 0, none⟩)), (.pointer (some ⟨gn, 0, none⟩)), (.pointer (some ⟨gp, 0, none⟩))]]]) (R := ot) hS
            refine Wx.callB (run_callC (fs := []) (cs := [(.pointer (some ⟨ge, 0, none⟩)), (.pointer (some ⟨gn, 0, none⟩)), (.pointer (some ⟨gp, 0, none⟩))]) (vs := [v_114, (.pointer (some ⟨ge, 0, none⟩)), (.pointer (some ⟨gn, 0, none⟩)), (.pointer (some ⟨gp, 0, none⟩))]) Try.call87 rfl rfl) (IH (l := (l ++ [x])) (lv := v_114) (ls := ms) (Tl := fun ls ob => ∃ ob', ob = [Ob.v (tSl (tI .i64)) (l ++ [x]) v_114, Ob.v (tSl (tI .i64)) l (.slice ad_111 l.length l.length), .row (tI .i64) 3 v_89 [x], Ob.v (tSl (tI .i64)) l lv] ++ ob' ∧ Tl ls ob') (ob := [Ob.v (tSl (tI .i64)) (l ++ [x]) v_114, Ob.v (tSl (tI .i64)) l (.slice ad_111 l.length l.length), .row (tI .i64) 3 v_89 [x], Ob.v (tSl (tI .i64)) l lv] ++ ot) hcall (eachN_pre hE [Ob.v (tSl (tI .i64)) (l ++ [x]) v_114, Ob.v (tSl (tI .i64)) l (.slice ad_111 l.length l.length), .row (tI .i64) 3 v_89 [x], Ob.v (tSl (tI .i64)) l lv]) p_0 p_7 (by simp; omega) (snoc_in p_b h0 (by omega)) hnd ⟨_, rfl, h3⟩ hP hL (by simp; omega)) rfl ?_
            rintro r_118 w_119 ⟨rfl, _, ⟨ob_121, rfl, hT_120⟩, hS⟩
            have hS : St w0 O w_119 (Ob.v (tSl (tI .i64)) (l ++ [x]) v_114 :: Ob.v (tSl (tI .i64)) l (.slice ad_111 l.length l.length) :: .row (tI .i64) 3 v_89 [x] :: Ob.v (tSl (tI .i64)) l lv :: .box ge 76 [(.func (.func fe) fs.toArray cs.toArray)] :: .box gn 3 [.int .i64 n] :: .box gp 76 [.func (.func 87) #[] #[(.pointer (some ⟨ge, 0, none⟩)), (.pointer (some ⟨gn, 0, none⟩)), (.pointer (some ⟨gp, 0, none⟩))]] :: ob_121) := St.pull (pre := [.box ge 76 [(.func (.func fe) fs.toArray cs.toArray)], .box gn 3 [.int .i64 n], .box gp 76 [.func (.func 87) #[] #[(.pointer (some ⟨ge, 0, none⟩)), (.pointer (some ⟨gn, 0, none⟩)), (.pointer (some ⟨gp, 0, none⟩))]]]) (A := [Ob.v (tSl (tI .i64)) (l ++ [x]) v_114, Ob.v (tSl (tI .i64)) l (.slice ad_111 l.length l.length), .row (tI .i64) 3 v_89 [x], Ob.v (tSl (tI .i64)) l lv]) (R := ob_121) hS
            have hT := hT_120
            refine Wx.nil ?_
            refine Wp.done (by kernel_rfl) ?_
            refine W.reg ?_
            refine Wx.rd (v := .int .i64 (x + 1)) (rd_add rfl rfl (in_i64 (by omega) (by omega))) rfl ?_
            refine Wx.rd (v := .int .i64 (x + 1)) (rd_move rfl) rfl ?_
            refine Wx.nil ?_
            refine ⟨(x + 1, ob_121, ms ++ allP n (n + 1 - ((l ++ [x]).length : Int)).toNat (l ++ [x])), (by show (n - (x + 1)).toNat < (n - x).toNat; omega), ?_, ?_, Out.look rfl Out.self⟩
            · exact ⟨St.tl (St.tl (hS.tl)), (by first | omega | assumption), (by first | omega | assumption), (by rw [← h2, allX_cons n _ l c1]; first | (rw [if_neg (by rw [c2]; decide), show (n + 1 - (((l ++ [x]).length : Nat) : Int)).toNat = m by simp; omega, List.append_assoc]) | rw [if_pos c2, List.nil_append]), (by first | exact hT | exact h3)⟩
            · exact ⟨rfl, trivial⟩
          · -- operation 5
            refine Wx.appendNew elLw_39 hS rfl (hS.v 0 rfl) rfl (Src.ofR hS 1 rfl) (by simp) (by simp only [maxLen]; simp; omega) (by simp; omega) rfl (fun v_122 w_123 hz_124 hS => ?_)
            refine Wx.nil ?_
            refine Wp.br [0] (by kernel_rfl) (by decide) ⟨⟨_, rfl, ?_⟩, trivial⟩
            refine Wx.rd (v := .func (.func 87) #[] #[(.pointer (some ⟨ge, 0, none⟩)), (.pointer (some ⟨gn, 0, none⟩)), (.pointer (some ⟨gp, 0, none⟩))]) (rd_loadX hS 6 rfl rfl rfl Try.isAgg76) rfl ?_
            refine Wx.nil ?_
            refine Wp.br [6] (by kernel_rfl) (by decide) ⟨⟨_, rfl, ?_⟩, trivial⟩
            have hS := hS.freeze 0 rfl
            have hL := V.pull (pre := [Ob.v (tSl (tI .i64)) (l ++ [x]) v_122, Ob.v (tSl (tI .i64)) l (.slice ad_111 l.length l.length), .row (tI .i64) 3 v_89 [x], Ob.v (tSl (tI .i64)) l lv]) (A := [.box ge 76 [(.func (.func fe) fs.toArray cs.toArray)], .box gn 3 [.int .i64 n], .box gp 76 [.func (.func 87) #[] #[(.pointer (some ⟨ge, 0, none⟩)), (.pointer (some ⟨gn, 0, none⟩)), (.pointer (some ⟨gp, 0, none⟩))]]]) (R := ot) (hS.v 0 rfl)
            have hP := St.pull (pre := [Ob.v (tSl (tI .i64)) (l ++ [x]) v_122, Ob.v (tSl (tI .i64)) l (.slice ad_111 l.length l.length), .row (tI .i64) 3 v_89 [x], Ob.v (tSl (tI .i64)) l lv]) (A := [.box ge 76 [(.func (.func fe) fs.toArray cs.toArray)], .box gn 3 [.int .i64 n], .box gp 76 [.func (.func 87) #[] #[(.pointer (some ⟨ge, 0, none⟩)), (.pointer (some ⟨gn, 0, none⟩)), (.pointer (some ⟨gp, 0, none⟩))]]]) (R := ot) hS
            refine Wx.callB (run_callC (fs := []) (cs := [(.pointer (some ⟨ge, 0, none⟩)), (.pointer (some ⟨gn, 0, none⟩)), (.pointer (some ⟨gp, 0, none⟩))]) (vs := [v_122, (.pointer (some ⟨ge, 0, none⟩)), (.pointer (some ⟨gn, 0, none⟩)), (.pointer (some ⟨gp, 0, none⟩))]) Try.call87 rfl rfl) (IH (l := (l ++ [x])) (lv := v_122) (ls := ms) (Tl := fun ls ob => ∃ ob', ob = [Ob.v (tSl (tI .i64)) (l ++ [x]) v_122, Ob.v (tSl (tI .i64)) l (.slice ad_111 l.length l.length), .row (tI .i64) 3 v_89 [x], Ob.v (tSl (tI .i64)) l lv] ++ ob' ∧ Tl ls ob') (ob := [Ob.v (tSl (tI .i64)) (l ++ [x]) v_122, Ob.v (tSl (tI .i64)) l (.slice ad_111 l.length l.length), .row (tI .i64) 3 v_89 [x], Ob.v (tSl (tI .i64)) l lv] ++ ot) hcall (eachN_pre hE [Ob.v (tSl (tI .i64)) (l ++ [x]) v_122, Ob.v (tSl (tI .i64)) l (.slice ad_111 l.length l.length), .row (tI .i64) 3 v_89 [x], Ob.v (tSl (tI .i64)) l lv]) p_0 p_7 (by simp; omega) (snoc_in p_b h0 (by omega)) hnd ⟨_, rfl, h3⟩ hP hL (by simp; omega)) rfl ?_
            rintro r_126 w_127 ⟨rfl, _, ⟨ob_129, rfl, hT_128⟩, hS⟩
            have hS : St w0 O w_127 (Ob.v (tSl (tI .i64)) (l ++ [x]) v_122 :: Ob.v (tSl (tI .i64)) l (.slice ad_111 l.length l.length) :: .row (tI .i64) 3 v_89 [x] :: Ob.v (tSl (tI .i64)) l lv :: .box ge 76 [(.func (.func fe) fs.toArray cs.toArray)] :: .box gn 3 [.int .i64 n] :: .box gp 76 [.func (.func 87) #[] #[(.pointer (some ⟨ge, 0, none⟩)), (.pointer (some ⟨gn, 0, none⟩)), (.pointer (some ⟨gp, 0, none⟩))]] :: ob_129) := St.pull (pre := [.box ge 76 [(.func (.func fe) fs.toArray cs.toArray)], .box gn 3 [.int .i64 n], .box gp 76 [.func (.func 87) #[] #[(.pointer (some ⟨ge, 0, none⟩)), (.pointer (some ⟨gn, 0, none⟩)), (.pointer (some ⟨gp, 0, none⟩))]]]) (A := [Ob.v (tSl (tI .i64)) (l ++ [x]) v_122, Ob.v (tSl (tI .i64)) l (.slice ad_111 l.length l.length), .row (tI .i64) 3 v_89 [x], Ob.v (tSl (tI .i64)) l lv]) (R := ob_129) hS
            have hT := hT_128
            refine Wx.nil ?_
            refine Wp.done (by kernel_rfl) ?_
            refine W.reg ?_
            refine Wx.rd (v := .int .i64 (x + 1)) (rd_add rfl rfl (in_i64 (by omega) (by omega))) rfl ?_
            refine Wx.rd (v := .int .i64 (x + 1)) (rd_move rfl) rfl ?_
            refine Wx.nil ?_
            refine ⟨(x + 1, ob_129, ms ++ allP n (n + 1 - ((l ++ [x]).length : Int)).toNat (l ++ [x])), (by show (n - (x + 1)).toNat < (n - x).toNat; omega), ?_, ?_, Out.look rfl Out.self⟩
            · exact ⟨St.tl (St.tl (hS.tl)), (by first | omega | assumption), (by first | omega | assumption), (by rw [← h2, allX_cons n _ l c1]; first | (rw [if_neg (by rw [c2]; decide), show (n + 1 - (((l ++ [x]).length : Nat) : Int)).toNat = m by simp; omega, List.append_assoc]) | rw [if_pos c2, List.nil_append]), (by first | exact hT | exact h3)⟩
            · exact ⟨rfl, trivial⟩
    · -- no
      try simp only [Bool.and_eq_true, Bool.or_eq_true, Bool.not_eq_true', Bool.and_eq_false_iff, Bool.or_eq_false_iff, Bool.not_eq_false', decide_eq_true_eq, decide_eq_false_iff_not, not_or, Bool.false_eq_true, Bool.true_eq_false, false_or, or_false, not_false_eq_true] at c2
      refine W.skip ?_
      refine W.reg ?_
      refine Wx.rd (v := .int .i64 (x + 1)) (rd_add rfl rfl (in_i64 (by omega) (by omega))) rfl ?_
      refine Wx.rd (v := .int .i64 (x + 1)) (rd_move rfl) rfl ?_
      refine Wx.nil ?_
      refine ⟨(x + 1, ot, ms), (by show (n - (x + 1)).toNat < (n - x).toNat; omega), ?_, ?_, Out.look rfl Out.self⟩
      · exact ⟨hS, (by first | omega | assumption), (by first | omega | assumption), (by rw [← h2, allX_cons n _ l c1]; first | (rw [if_neg (by rw [c2]; decide), show (n + 1 - (((l ++ [x]).length : Nat) : Int)).toNat = m by simp; omega, List.append_assoc]) | rw [if_pos c2, List.nil_append]), (by first | exact hT | exact h3)⟩
      · exact ⟨rfl, trivial⟩
  · -- no
    refine W.exit rfl ?_
    exact ⟨.tuple #[], ResIs.zero, rfl, ot, by rw [hm, allP]; rw [show (n - x).toNat = 0 by omega, allX, List.append_nil] at h2; rw [← h2]; exact h3, (St.tl hS)⟩

theorem F50 {n : Int} {fe : FuncId} {fs cs : List Value} {Tl : List (List Int) → List Ob → Prop} {ls : List (List Int)} {ob : List Ob} {w0 w : World} {O : List (Option Nat)} (hcall : ∀ args w, (callFunc fe args).run Try.prog w = .ok (.enter fe args) w) (hE : EachN Try.prog fe fs cs n Tl) (p_0 : 0 ≤ n) (p_7 : n ≤ 7) (hT : Tl ls ob) (hS : St w0 O w ob) : Calls Try.prog 50 #[.int .i64 n, .func (.func fe) fs.toArray cs.toArray] w (Bk fun r w' => r = .tuple #[] ∧ ∃ ob', Tl (ls ++ allQ n) ob' ∧ St w0 O w' ob') := by
  refine enterB Try.func50 rfl Try.ntmps50 Try.results50 rfl ?_
  refine W.seq ?_
  refine W.reg ?_
  refine Wx.box (cs := [.int .i64 n]) hS rfl rfl rfl (fun g_1 w_2 hx_4 hb_3 hS => ?_)
  refine Wx.box (cs := [(.func (.func fe) fs.toArray cs.toArray)]) hS rfl rfl rfl (fun g_5 w_6 hx_8 hb_7 hS => ?_)
  refine Wx.nil ?_
  refine W.seq ?_
  refine W.reg ?_
  refine Wx.alloc (cs := [.nilFunc]) hS Try.zeroValue76 rfl rfl (fun g_9 w_10 hx_12 hb_11 hS => ?_)
  refine Wx.nil ?_
  refine W.seq ?_
  refine W.reg ?_
  refine Wx.rd (v := .func (.func 87) #[] #[.pointer (some ⟨g_5, 0, none⟩), .pointer (some ⟨g_1, 0, none⟩), .pointer (some ⟨g_9, 0, none⟩)]) (rd_makeFunc (vs := []) (us := [.pointer (some ⟨g_5, 0, none⟩), .pointer (some ⟨g_1, 0, none⟩), .pointer (some ⟨g_9, 0, none⟩)]) rfl rfl) rfl ?_
  refine Wx.storeX (cs' := [.func (.func 87) #[] #[.pointer (some ⟨g_5, 0, none⟩), .pointer (some ⟨g_1, 0, none⟩), .pointer (some ⟨g_9, 0, none⟩)]]) (ds := [.func (.func 87) #[] #[.pointer (some ⟨g_5, 0, none⟩), .pointer (some ⟨g_1, 0, none⟩), .pointer (some ⟨g_9, 0, none⟩)]]) hS 0 rfl rfl rfl rfl Try.sizeOf76 (Nat.le_of_ble_eq_true rfl) (one_cons rfl one_nil) rfl (fun w_13 hz_14 hS => ?_)
  refine Wx.nil ?_
  refine W.reg ?_
  refine Wx.rd (v := .func (.func 87) #[] #[.pointer (some ⟨g_5, 0, none⟩), .pointer (some ⟨g_1, 0, none⟩), .pointer (some ⟨g_9, 0, none⟩)]) (rd_loadX hS 0 rfl rfl rfl Try.isAgg76) rfl ?_
  have hP := (hS.front 2 rfl).front 2 rfl
  refine Wx.callB (run_callC (fs := []) (cs := [.pointer (some ⟨g_5, 0, none⟩), .pointer (some ⟨g_1, 0, none⟩), .pointer (some ⟨g_9, 0, none⟩)]) (vs := [(.slice none 0 0), .pointer (some ⟨g_5, 0, none⟩), .pointer (some ⟨g_1, 0, none⟩), .pointer (some ⟨g_9, 0, none⟩)]) Try.call87 rfl rfl) (F87 _ (l := []) (ls := ls) (Tl := Tl) (n := n) hcall hE p_0 p_7 (by simp; omega) (by simp) List.nodup_nil hT hP (V.nil (t := tI .i64)) (Nat.lt_succ_self _)) rfl ?_
  rintro r_15 w_16 ⟨rfl, ob_18, hT_17, hS⟩
  have hT := hT_17
  refine Wx.nil ?_
  exact ⟨.tuple #[], ResIs.zero, rfl, ob_18, by simpa [allQ] using hT, (St.tl (St.tl (St.tl hS)))⟩
end Go.Proofs.Ytjbcpggikaeleaa

namespace Go.Proofs.Ytjbcpggikaeleaa
open Go.Wk Go.RowKit Go.Lib
set_option linter.unusedVariables false
set_option linter.unusedSimpArgs false
theorem mixedLm_ : Try.prog.follows .mixedOrders = true := by kernel_rfl

set_option maxHeartbeats 4000000 in
set_option maxRecDepth 10000 in
theorem F47 {v : Value} {l : List ((List Int) × (List Int))} {O : List (Option Nat)} {w : World} (h_v : V (tSl (tP (tSl (tI .i64)) (tSl (tI .i64)))) l v O w) (p_ok : SalesOK l) (hO : ∀ b, some b ∈ O → b < w.heap.size) : Calls Try.prog 47 #[v] w (Ret w (fun r _ => r = .bool (!(noR l)))) := by
  obtain ⟨gd, hgd, hok⟩ := p_ok.at
  have hl6 := p_ok.1
  have a_v := h_v
  have l_v := h_v.len63
  have hS := St.start w O hO
  refine enterR Try.func47 rfl Try.ntmps47 Try.results47 rfl ?_
  refine W.seq ?_
  refine W.reg ?_
  refine Wx.rd (v := .bool false) (rd_assign rfl) rfl ?_
  refine Wx.nil ?_
  refine W.seq ?_
  refine W.reg ?_
  refine Wx.rd (v := v) (rd_move rfl) rfl ?_
  refine Wx.rd (v := .int .i64 (l.length : Int)) (rd_lenV rfl (hS.arg a_v) Try.underlying22) rfl ?_
  refine Wx.rd (v := .int .i64 (l.length : Int)) (rd_assign rfl) rfl ?_
  refine Wx.nil ?_
  refine W.seq ?_
  refine W.reg ?_
  refine Wx.alloc (cs := List.map Value.bool (List.replicate 36 false)) hS Try.zeroValue82 (by kernel_rfl) rfl (fun g_1 w_2 hx_4 hb_3 hS => ?_)
  have hS : St _ _ w_2 [.box g_1 82 (List.map Value.bool (List.replicate 36 false))] := hS
  refine Wx.nil ?_
  refine W.seq ?_
  refine W.seq ?_
  refine W.reg ?_
  refine Wx.rd (v := .int .i64 (l.length : Int)) (rd_move rfl) rfl ?_
  refine Wx.rd (v := .int .i64 0) (rd_move rfl) rfl ?_
  refine Wx.nil ?_
  refine W.block ?_
  refine W.loop [5, 6, 15, 16, 17, 18, 19, 20, 21, 22, 23, 24, 25, 26, 27, 28, 29, 30, 31, 32, 33, 34, 35, 36, 37] (fun x : Int × (List Bool) => match x with | (a, T) => [(15, .int .i64 a)]) (fun (x : Int × (List Bool)) w' => match x with | (a, T) => St w O w' [.box g_1 82 (List.map Value.bool T)] ∧ 0 ≤ a ∧ a ≤ l.length ∧ (T.length : Int) = 36 ∧ fillI (gS l) l.length a 0 (tbR T)) (fun x : Int × (List Bool) => match x with | (a, T) => (l.length - a).toNat) (0, (List.replicate 36 false)) ⟨rfl, trivial⟩ ⟨hS, (by first | omega | simp), (by first | omega | simp), (rfl), (fill_start)⟩ ?_
  rintro ⟨a, T⟩ u_6 w_5 ⟨hS, h0, h1, h2, h3⟩
  refine W.seq ?_
  refine W.reg ?_
  refine Wx.rd (v := .bool (decide (a < (l.length : Int)))) (rd_lss rfl rfl) rfl ?_
  refine Wx.nil ?_
  refine W.seq ?_
  refine W.condD rfl (fun c0 => ?_) (fun c0 => ?_)
  · -- yes
    refine W.skip ?_
    refine W.seq ?_
    refine W.block ?_
    refine W.seq ?_
    refine W.reg ?_
    refine Wx.rd (v := .int .i64 a) (rd_move rfl) rfl ?_
    refine Wx.rd (v := .int .i64 a) (rd_assign rfl) rfl ?_
    refine Wx.nil ?_
    refine W.seq ?_
    refine W.reg ?_
    refine Wx.rd (v := .int .i64 (l.length : Int)) (rd_move rfl) rfl ?_
    refine Wx.rd (v := .int .i64 0) (rd_move rfl) rfl ?_
    refine Wx.nil ?_
    refine W.block ?_
    refine W.loop [6, 19, 20, 21, 22, 23, 24, 25, 26, 27, 28, 29, 30, 31, 32, 33, 34, 35, 36] (fun x : Int × (List Bool) => match x with | (b, T2) => [(19, .int .i64 b)]) (fun (x : Int × (List Bool)) w' => match x with | (b, T2) => St w O w' [.box g_1 82 (List.map Value.bool T2)] ∧ 0 ≤ b ∧ b ≤ l.length ∧ (T2.length : Int) = 36 ∧ fillI (gS l) l.length a b (tbR T2)) (fun x : Int × (List Bool) => match x with | (b, T2) => (l.length - b).toNat) (0, T) ⟨rfl, trivial⟩ ⟨hS, (by first | omega | simp), (by first | omega | simp), (h2), (h3)⟩ ?_
    rintro ⟨b, T2⟩ u_8 w_7 ⟨hS, k0, k1, k2, k3⟩
    refine W.seq ?_
    refine W.reg ?_
    refine Wx.rd (v := .bool (decide (b < (l.length : Int)))) (rd_lss rfl rfl) rfl ?_
    refine Wx.nil ?_
    refine W.seq ?_
    refine W.condD rfl (fun c1 => ?_) (fun c1 => ?_)
    · -- yes
      refine W.skip ?_
      refine W.seq ?_
      refine W.block ?_
      refine W.seq ?_
      refine W.reg ?_
      refine Wx.rd (v := .int .i64 b) (rd_move rfl) rfl ?_
      refine Wx.rd (v := .int .i64 b) (rd_assign rfl) rfl ?_
      refine Wx.nil ?_
      refine W.regT 14 mixedLm_ (by kernel_rfl) ?_
      refine Wx.rd (v := .int .i64 a) (rd_move rfl) rfl ?_
      refine Wx.rd (v := .int .i64 b) (rd_move rfl) rfl ?_
      refine Wx.rd (v := v) (rd_move rfl) rfl ?_
      refine Wx.rd (v := .int .i64 a) (rd_move rfl) rfl ?_
      refine Wx.ex (rd_index ([], []) (hS.arg a_v) rfl rfl Try.underlying22 Try.sizeOf62 (by first | omega | (simp only [List.length_set, List.length_append, List.length_cons, List.length_nil, List.length_replicate]; omega)) (by first | omega | (simp only [List.length_set, List.length_append, List.length_cons, List.length_nil, List.length_replicate]; omega))) rfl (fun p_9 hp_10 => ?_)
      refine Wx.ex (rd_load hp_10 rfl Try.isAgg62 Try.sizeOf62) rfl (fun v_11 hv_12 => ?_)
      obtain ⟨v_13, v_14, rfl, hv_15, hv_16⟩ := hv_12.s2
      have hS := hS.add (hv_15)
      have ln_18 := (hS.v 0 rfl).len63
      have hS := hS.add (V.upF (hv_16))
      have ln_20 := (hS.v 0 rfl).len63
      refine Wx.rd (v := v) (rd_move rfl) rfl ?_
      refine Wx.rd (v := .int .i64 b) (rd_move rfl) rfl ?_
      refine Wx.ex (rd_index ([], []) (hS.arg a_v) rfl rfl Try.underlying22 Try.sizeOf62 (by first | omega | (simp only [List.length_set, List.length_append, List.length_cons, List.length_nil, List.length_replicate]; omega)) (by first | omega | (simp only [List.length_set, List.length_append, List.length_cons, List.length_nil, List.length_replicate]; omega))) rfl (fun p_21 hp_22 => ?_)
      refine Wx.ex (rd_load hp_22 rfl Try.isAgg62 Try.sizeOf62) rfl (fun v_23 hv_24 => ?_)
      obtain ⟨v_25, v_26, rfl, hv_27, hv_28⟩ := hv_24.s2
      have hS := hS.add (hv_27)
      have ln_30 := (hS.v 0 rfl).len63
      have hS := hS.add (V.upF (hv_28))
      have ln_32 := (hS.v 0 rfl).len63
      refine Wx.callV (v := .int .i64 (leadS (((ix ([], []) l a).1), ((ix ([], []) l a).2)) (((ix ([], []) l b).1), ((ix ([], []) l b).2)))) (run_callF Try.call53 rfl) (fun w_33 hw_34 => (F53 ((hS.v 3 rfl).ext hw_34) ((hS.v 2 rfl).ext hw_34) ((hS.v 1 rfl).ext hw_34) ((hS.v 0 rfl).ext hw_34) (hok a (by omega) (by omega)).b1 (hok a (by omega) (by omega)).b2 (hok b (by omega) (by omega)).b2 (by have := (hok a (by omega) (by omega)).l1; omega) (by have h1 := (hok a (by omega) (by omega)).l1; have h2 := (hok a (by omega) (by omega)).l2; omega) (by have h1 := (hok a (by omega) (by omega)).l1; have h2 := (hok b (by omega) (by omega)).l2; omega))) rfl ?_
      rw [show (leadS (((ix ([], []) l a).1), ((ix ([], []) l a).2)) (((ix ([], []) l b).1), ((ix ([], []) l b).2)) : Int) = leadS (ix ([], []) l a) (ix ([], []) l b) from rfl]
      have hld := lead_bd9 (hok a (by omega) (by omega)) hgd.2 (hok b (by omega) (by omega))
      refine Wx.rd (v := .bool (decide (0 ≤ (leadS (ix ([], []) l a) (ix ([], []) l b))))) (rd_geq rfl rfl) rfl ?_
      refine Wx.rd (v := .pointer (some ⟨g_1, 0 + a.toNat * 6, none⟩)) (rd_indexArr rfl rfl Try.underlying82 Try.sizeOf81 (by omega) (by omega)) rfl ?_
      refine Wx.rd (v := .pointer (some ⟨g_1, 0 + a.toNat * 6 + b.toNat * 1, none⟩)) (rd_indexArr rfl rfl Try.underlying81 Try.sizeOf4 (by omega) (by omega)) rfl ?_
      refine Wx.nilQ (fun w_35 hx_36 => ?_)
      have hS := hS.ext hx_36
      refine Wx.storeXa (j := a * 6 + b) (f := Value.bool) (u := (decide (0 ≤ (leadS (ix ([], []) l a) (ix ([], []) l b))))) hS 4 rfl rfl (by omega) rfl rfl rfl Try.sizeOf4 (by omega) (by omega) (fun w_37 hz_38 hS => ?_)
      refine Wx.nil ?_
      refine W.reg ?_
      refine Wx.rd (v := .int .i64 (b + 1)) (rd_add rfl rfl (in_i64 (by omega) (by omega))) rfl ?_
      refine Wx.rd (v := .int .i64 (b + 1)) (rd_move rfl) rfl ?_
      refine Wx.nil ?_
      refine ⟨(b + 1, List.set T2 (a * 6 + b).toNat (decide (0 ≤ (leadS (ix ([], []) l a) (ix ([], []) l b))))), (by show (l.length - (b + 1)).toNat < (l.length - b).toNat; omega), ?_, ?_, Out.look rfl Out.self⟩
      · exact ⟨St.tl (St.tl (St.tl (hS.tl))), (by first | omega | assumption), (by first | omega | assumption), (by rw [List.length_set]; exact k2), (tb_fill hl6 k2 ⟨h0, by omega⟩ ⟨k0, by omega⟩ rfl k3)⟩
      · exact ⟨rfl, trivial⟩
    · -- no
      refine W.exit rfl ?_
      refine W.reg ?_
      refine Wx.rd (v := .int .i64 (a + 1)) (rd_add rfl rfl (in_i64 (by omega) (by omega))) rfl ?_
      refine Wx.rd (v := .int .i64 (a + 1)) (rd_move rfl) rfl ?_
      refine Wx.nil ?_
      refine ⟨(a + 1, T2), (by show (l.length - (a + 1)).toNat < (l.length - a).toNat; omega), ?_, ?_, Out.look rfl (Out.hav rfl (Out.look rfl Out.self))⟩
      · exact ⟨hS, (by first | omega | assumption), (by first | omega | assumption), (k2), (fill_row k3 (by omega))⟩
      · exact ⟨rfl, trivial⟩
  · -- no
    refine W.exit rfl ?_
    refine W.seq ?_
    refine W.seq ?_
    refine W.reg ?_
    refine Wx.rd (v := .int .i64 (l.length : Int)) (rd_move rfl) rfl ?_
    refine Wx.rd (v := .int .i64 0) (rd_move rfl) rfl ?_
    refine Wx.nil ?_
    refine W.block ?_
    refine W.loop [7, 8, 9, 39, 40, 41, 42, 43, 44, 45, 46, 47, 48, 49, 50, 51, 52, 53, 54, 55, 56, 57, 58, 59, 60, 61, 62, 63, 64, 65, 66, 67, 68, 69, 70, 71, 72, 73, 74, 75, 76, 77, 78, 79] (fun x : Int × (List Bool) => match x with | (r, T4) => [(39, .int .i64 r)]) (fun (x : Int × (List Bool)) w' => match x with | (r, T4) => St w O w' [.box g_1 82 (List.map Value.bool T4)] ∧ 0 ≤ r ∧ r ≤ l.length ∧ (T4.length : Int) = 36 ∧ RngI (gS l) l.length (r + 1) 0 0 0 (tbR T4)) (fun x : Int × (List Bool) => match x with | (r, T4) => (l.length - r).toNat) (0, T) ⟨rfl, trivial⟩ ⟨hS, (by first | omega | simp), (by first | omega | simp), (h2), (rg_start (fun i _ _ => gS_refl l i) h3 (by omega))⟩ ?_
    rintro ⟨r, T4⟩ u_40 w_39 ⟨hS, r0, r1, r2, r3⟩
    refine W.seq ?_
    refine W.reg ?_
    refine Wx.rd (v := .bool (decide (r < (l.length : Int)))) (rd_lss rfl rfl) rfl ?_
    refine Wx.nil ?_
    refine W.seq ?_
    refine W.condD rfl (fun c2 => ?_) (fun c2 => ?_)
    · -- yes
      refine W.skip ?_
      refine W.seq ?_
      refine W.block ?_
      refine W.seq ?_
      refine W.reg ?_
      refine Wx.rd (v := .int .i64 (l.length : Int)) (rd_move rfl) rfl ?_
      refine Wx.rd (v := .int .i64 0) (rd_move rfl) rfl ?_
      refine Wx.nil ?_
      refine W.block ?_
      refine W.loop [7, 8, 9, 42, 43, 44, 45, 46, 47, 48, 49, 50, 51, 52, 53, 54, 55, 56, 57, 58, 59, 60, 61, 62, 63, 64, 65, 66, 67, 68, 69, 70, 71, 72, 73, 74, 75, 76, 77, 78] (fun x : Int × (List Bool) => match x with | (a, T6) => [(42, .int .i64 a)]) (fun (x : Int × (List Bool)) w' => match x with | (a, T6) => St w O w' [.box g_1 82 (List.map Value.bool T6)] ∧ 0 ≤ a ∧ a ≤ l.length ∧ (T6.length : Int) = 36 ∧ RngI (gS l) l.length (r + 1) a 0 0 (tbR T6)) (fun x : Int × (List Bool) => match x with | (a, T6) => (l.length - a).toNat) (0, T4) ⟨rfl, trivial⟩ ⟨hS, (by first | omega | simp), (by first | omega | simp), (r2), (r3)⟩ ?_
      rintro ⟨a, T6⟩ u_42 w_41 ⟨hS, m0, m1, m2, m3⟩
      refine W.seq ?_
      refine W.reg ?_
      refine Wx.rd (v := .bool (decide (a < (l.length : Int)))) (rd_lss rfl rfl) rfl ?_
      refine Wx.nil ?_
      refine W.seq ?_
      refine W.condD rfl (fun c3 => ?_) (fun c3 => ?_)
      · -- yes
        refine W.skip ?_
        refine W.seq ?_
        refine W.block ?_
        refine W.seq ?_
        refine W.reg ?_
        refine Wx.rd (v := .int .i64 a) (rd_move rfl) rfl ?_
        refine Wx.rd (v := .int .i64 a) (rd_assign rfl) rfl ?_
        refine Wx.nil ?_
        refine W.seq ?_
        refine W.reg ?_
        refine Wx.rd (v := .int .i64 (l.length : Int)) (rd_move rfl) rfl ?_
        refine Wx.rd (v := .int .i64 0) (rd_move rfl) rfl ?_
        refine Wx.nil ?_
        refine W.block ?_
        refine W.loop [8, 9, 46, 47, 48, 49, 50, 51, 52, 53, 54, 55, 56, 57, 58, 59, 60, 61, 62, 63, 64, 65, 66, 67, 68, 69, 70, 71, 72, 73, 74, 75, 76, 77] (fun x : Int × (List Bool) => match x with | (b, T8) => [(46, .int .i64 b)]) (fun (x : Int × (List Bool)) w' => match x with | (b, T8) => St w O w' [.box g_1 82 (List.map Value.bool T8)] ∧ 0 ≤ b ∧ b ≤ l.length ∧ (T8.length : Int) = 36 ∧ RngI (gS l) l.length (r + 1) a b 0 (tbR T8)) (fun x : Int × (List Bool) => match x with | (b, T8) => (l.length - b).toNat) (0, T6) ⟨rfl, trivial⟩ ⟨hS, (by first | omega | simp), (by first | omega | simp), (m2), (m3)⟩ ?_
        rintro ⟨b, T8⟩ u_44 w_43 ⟨hS, q0, q1, q2, q3⟩
        refine W.seq ?_
        refine W.reg ?_
        refine Wx.rd (v := .bool (decide (b < (l.length : Int)))) (rd_lss rfl rfl) rfl ?_
        refine Wx.nil ?_
        refine W.seq ?_
        refine W.condD rfl (fun c4 => ?_) (fun c4 => ?_)
        · -- yes
          refine W.skip ?_
          refine W.seq ?_
          refine W.block ?_
          refine W.seq ?_
          refine W.reg ?_
          refine Wx.rd (v := .int .i64 b) (rd_move rfl) rfl ?_
          refine Wx.rd (v := .int .i64 b) (rd_assign rfl) rfl ?_
          refine Wx.nil ?_
          refine W.seq ?_
          refine W.reg ?_
          refine Wx.rd (v := .int .i64 (l.length : Int)) (rd_move rfl) rfl ?_
          refine Wx.rd (v := .int .i64 0) (rd_move rfl) rfl ?_
          refine Wx.nil ?_
          refine W.block ?_
          refine W.loop [9, 50, 51, 52, 53, 54, 55, 56, 57, 58, 59, 60, 61, 62, 63, 64, 65, 66, 67, 68, 69, 70, 71, 72, 73, 74, 75, 76] (fun x : Int × (List Bool) => match x with | (c, T10) => [(50, .int .i64 c)]) (fun (x : Int × (List Bool)) w' => match x with | (c, T10) => St w O w' [.box g_1 82 (List.map Value.bool T10)] ∧ 0 ≤ c ∧ c ≤ l.length ∧ (T10.length : Int) = 36 ∧ RngI (gS l) l.length (r + 1) a b c (tbR T10)) (fun x : Int × (List Bool) => match x with | (c, T10) => (l.length - c).toNat) (0, T8) ⟨rfl, trivial⟩ ⟨hS, (by first | omega | simp), (by first | omega | simp), (q2), (q3)⟩ ?_
          rintro ⟨c, T10⟩ u_46 w_45 ⟨hS, s0, s1, s2, s3⟩
          refine W.seq ?_
          refine W.reg ?_
          refine Wx.rd (v := .bool (decide (c < (l.length : Int)))) (rd_lss rfl rfl) rfl ?_
          refine Wx.nil ?_
          refine W.seq ?_
          refine W.condD rfl (fun c5 => ?_) (fun c5 => ?_)
          · -- yes
            refine W.skip ?_
            refine W.seq ?_
            refine W.block ?_
            refine W.seq ?_
            refine W.reg ?_
            refine Wx.rd (v := .int .i64 c) (rd_move rfl) rfl ?_
            refine Wx.rd (v := .int .i64 c) (rd_assign rfl) rfl ?_
            refine Wx.nil ?_
            refine W.regT 23 mixedLm_ (by kernel_rfl) ?_
            refine Wx.rd (v := .int .i64 a) (rd_move rfl) rfl ?_
            refine Wx.rd (v := .int .i64 c) (rd_move rfl) rfl ?_
            refine Wx.rd (v := .int .i64 a) (rd_move rfl) rfl ?_
            refine Wx.rd (v := .int .i64 c) (rd_move rfl) rfl ?_
            refine Wx.rd (v := .pointer (some ⟨g_1, 0 + a.toNat * 6, none⟩)) (rd_indexArr rfl rfl Try.underlying82 Try.sizeOf81 (by omega) (by omega)) rfl ?_
            refine Wx.rd (v := .pointer (some ⟨g_1, 0 + a.toNat * 6 + c.toNat * 1, none⟩)) (rd_indexArr rfl rfl Try.underlying81 Try.sizeOf4 (by omega) (by omega)) rfl ?_
            refine Wx.rd (v := .bool (ix false T10 (a * 6 + c))) (rd_loadXa (d := false) (f := Value.bool) (j := a * 6 + c) hS 0 rfl rfl (by omega) (by omega) (by omega) Try.isAgg4) rfl ?_
            refine Wx.rd (v := .bool (ix false T10 (a * 6 + c))) (rd_move rfl) rfl ?_
            refine Wx.cutQ (X := Unit) 13 [61, 62, 63, 64, 65, 66, 67, 68, 69, 70, 71, 72, 73] (fun _ => [(73, .bool (ix false T10 (a * 6 + c) || (ix false T10 (a * 6 + b) && ix false T10 (b * 6 + c))))]) (fun _ => True) ?_ ?_
            · rcases Bool.eq_false_or_eq_true (ix false T10 (a * 6 + c)) with g_47 | g_47
              · -- True
                have gp_48 := g_47
                try simp only [Bool.and_eq_true, Bool.or_eq_true, Bool.not_eq_true', Bool.and_eq_false_iff, Bool.or_eq_false_iff, Bool.not_eq_false', decide_eq_true_eq, decide_eq_false_iff_not, not_or, Bool.false_eq_true, Bool.true_eq_false, false_or, or_false, not_false_eq_true] at gp_48
                refine Wx.gnoB rfl rfl (congrArg Value.bool g_47) rfl rfl ?_
                refine Wx.gnoB rfl rfl (congrArg Value.bool g_47) rfl rfl ?_
                refine Wx.gnoB rfl rfl (congrArg Value.bool g_47) rfl rfl ?_
                refine Wx.gnoB rfl rfl (congrArg Value.bool g_47) rfl rfl ?_
                refine Wx.gnoB rfl rfl (congrArg Value.bool g_47) rfl rfl ?_
                refine Wx.gnoB rfl rfl (congrArg Value.bool g_47) rfl rfl ?_
                refine Wx.gno rfl rfl rfl rfl ?_
                refine Wx.gno rfl rfl rfl rfl ?_
                refine Wx.gno rfl rfl rfl rfl ?_
                refine Wx.gno rfl rfl rfl rfl ?_
                refine Wx.gno rfl rfl rfl rfl ?_
                refine Wx.gnoB rfl rfl (congrArg Value.bool g_47) rfl rfl ?_
                refine Wx.rd (v := .bool true) (rd_pickT (congrArg Value.bool g_47) rfl) rfl ?_
                refine Wx.nilQ (fun _ _ => ⟨(), trivial, ⟨?_, trivial⟩, Out.look rfl Out.refl⟩)
                show Value.bool true = Value.bool (ix false T10 (a * 6 + c) || (ix false T10 (a * 6 + b) && ix false T10 (b * 6 + c)))
                first | rw [g_47, Bool.true_or] | (rw [g_47]; rfl)
              · -- False
                have gp_49 := g_47
                try simp only [Bool.and_eq_true, Bool.or_eq_true, Bool.not_eq_true', Bool.and_eq_false_iff, Bool.or_eq_false_iff, Bool.not_eq_false', decide_eq_true_eq, decide_eq_false_iff_not, not_or, Bool.false_eq_true, Bool.true_eq_false, false_or, or_false, not_false_eq_true] at gp_49
                refine Wx.gyes rfl rfl (congrArg Value.bool g_47) ?_
                refine Wx.rd (v := .int .i64 a) (rd_move rfl) rfl ?_
                refine Wx.gyes rfl rfl (congrArg Value.bool g_47) ?_
                refine Wx.rd (v := .int .i64 b) (rd_move rfl) rfl ?_
                refine Wx.gyes rfl rfl (congrArg Value.bool g_47) ?_
                refine Wx.rd (v := .pointer (some ⟨g_1, 0 + a.toNat * 6, none⟩)) (rd_indexArr rfl rfl Try.underlying82 Try.sizeOf81 (by omega) (by omega)) rfl ?_
                refine Wx.gyes rfl rfl (congrArg Value.bool g_47) ?_
                refine Wx.rd (v := .pointer (some ⟨g_1, 0 + a.toNat * 6 + b.toNat * 1, none⟩)) (rd_indexArr rfl rfl Try.underlying81 Try.sizeOf4 (by omega) (by omega)) rfl ?_
                refine Wx.gyes rfl rfl (congrArg Value.bool g_47) ?_
                refine Wx.rd (v := .bool (ix false T10 (a * 6 + b))) (rd_loadXa (d := false) (f := Value.bool) (j := a * 6 + b) hS 0 rfl rfl (by omega) (by omega) (by omega) Try.isAgg4) rfl ?_
                refine Wx.gyes rfl rfl (congrArg Value.bool g_47) ?_
                refine Wx.rd (v := .bool (ix false T10 (a * 6 + b))) (rd_move rfl) rfl ?_
                refine Wx.cutQ (X := Unit) 6 [67, 68, 69, 70, 71, 72] (fun _ => [(72, .bool (ix false T10 (a * 6 + b) && ix false T10 (b * 6 + c)))]) (fun _ => True) ?_ ?_
                · rcases Bool.eq_false_or_eq_true (ix false T10 (a * 6 + b)) with g_50 | g_50
                  · -- True
                    have gp_51 := g_50
                    try simp only [Bool.and_eq_true, Bool.or_eq_true, Bool.not_eq_true', Bool.and_eq_false_iff, Bool.or_eq_false_iff, Bool.not_eq_false', decide_eq_true_eq, decide_eq_false_iff_not, not_or, Bool.false_eq_true, Bool.true_eq_false, false_or, or_false, not_false_eq_true] at gp_51
                    refine Wx.gyes rfl rfl (congrArg Value.bool g_50) ?_
                    refine Wx.rd (v := .int .i64 b) (rd_move rfl) rfl ?_
                    refine Wx.gyes rfl rfl (congrArg Value.bool g_50) ?_
                    refine Wx.rd (v := .int .i64 c) (rd_move rfl) rfl ?_
                    refine Wx.gyes rfl rfl (congrArg Value.bool g_50) ?_
                    refine Wx.rd (v := .pointer (some ⟨g_1, 0 + b.toNat * 6, none⟩)) (rd_indexArr rfl rfl Try.underlying82 Try.sizeOf81 (by omega) (by omega)) rfl ?_
                    refine Wx.gyes rfl rfl (congrArg Value.bool g_50) ?_
                    refine Wx.rd (v := .pointer (some ⟨g_1, 0 + b.toNat * 6 + c.toNat * 1, none⟩)) (rd_indexArr rfl rfl Try.underlying81 Try.sizeOf4 (by omega) (by omega)) rfl ?_
                    refine Wx.gyes rfl rfl (congrArg Value.bool g_50) ?_
                    refine Wx.rd (v := .bool (ix false T10 (b * 6 + c))) (rd_loadXa (d := false) (f := Value.bool) (j := b * 6 + c) hS 0 rfl rfl (by omega) (by omega) (by omega) Try.isAgg4) rfl ?_
                    refine Wx.gyes rfl rfl (congrArg Value.bool g_47) ?_
                    refine Wx.rd (v := .bool (ix false T10 (b * 6 + c))) (rd_pickT (congrArg Value.bool g_50) rfl) rfl ?_
                    refine Wx.nilQ (fun _ _ => ⟨(), trivial, ⟨?_, trivial⟩, Out.look rfl Out.refl⟩)
                    show Value.bool (ix false T10 (b * 6 + c)) = Value.bool (ix false T10 (a * 6 + b) && ix false T10 (b * 6 + c))
                    first | rw [g_50, Bool.true_and] | (rw [g_50]; rfl)
                  · -- False
                    have gp_52 := g_50
                    try simp only [Bool.and_eq_true, Bool.or_eq_true, Bool.not_eq_true', Bool.and_eq_false_iff, Bool.or_eq_false_iff, Bool.not_eq_false', decide_eq_true_eq, decide_eq_false_iff_not, not_or, Bool.false_eq_true, Bool.true_eq_false, false_or, or_false, not_false_eq_true] at gp_52
                    refine Wx.gnoB rfl rfl (congrArg Value.bool g_50) rfl rfl ?_
                    refine Wx.gnoB rfl rfl (congrArg Value.bool g_50) rfl rfl ?_
                    refine Wx.gnoB rfl rfl (congrArg Value.bool g_50) rfl rfl ?_
                    refine Wx.gnoB rfl rfl (congrArg Value.bool g_50) rfl rfl ?_
                    refine Wx.gnoB rfl rfl (congrArg Value.bool g_50) rfl rfl ?_
                    refine Wx.gyes rfl rfl (congrArg Value.bool g_47) ?_
                    refine Wx.rd (v := .bool false) (rd_pickF (congrArg Value.bool g_50) rfl) rfl ?_
                    refine Wx.nilQ (fun _ _ => ⟨(), trivial, ⟨?_, trivial⟩, Out.look rfl Out.refl⟩)
                    show Value.bool false = Value.bool (ix false T10 (a * 6 + b) && ix false T10 (b * 6 + c))
                    first | rw [g_50, Bool.false_and] | (rw [g_50]; rfl)
                rintro ⟨⟩ u_54 -
                refine Wx.rd (v := .bool (ix false T10 (a * 6 + b) && ix false T10 (b * 6 + c))) (rd_pickF (congrArg Value.bool g_47) rfl) rfl ?_
                refine Wx.nilQ (fun _ _ => ⟨(), trivial, ⟨?_, trivial⟩, Out.look rfl (Out.hav rfl (Out.look rfl Out.refl))⟩)
                show Value.bool (ix false T10 (a * 6 + b) && ix false T10 (b * 6 + c)) = Value.bool (ix false T10 (a * 6 + c) || (ix false T10 (a * 6 + b) && ix false T10 (b * 6 + c)))
                first | rw [g_47, Bool.false_or] | (rw [g_47]; rfl)
            rintro ⟨⟩ u_56 -
            refine Wx.rd (v := .pointer (some ⟨g_1, 0 + a.toNat * 6, none⟩)) (rd_indexArr rfl rfl Try.underlying82 Try.sizeOf81 (by omega) (by omega)) rfl ?_
            refine Wx.rd (v := .pointer (some ⟨g_1, 0 + a.toNat * 6 + c.toNat * 1, none⟩)) (rd_indexArr rfl rfl Try.underlying81 Try.sizeOf4 (by omega) (by omega)) rfl ?_
            refine Wx.nilQ (fun w_57 hx_58 => ?_)
            have hS := hS.ext hx_58
            refine Wx.storeXa (j := a * 6 + c) (f := Value.bool) (u := (ix false T10 (a * 6 + c) || (ix false T10 (a * 6 + b) && ix false T10 (b * 6 + c)))) hS 0 rfl rfl (by omega) rfl rfl rfl Try.sizeOf4 (by omega) (by omega) (fun w_59 hz_60 hS => ?_)
            refine Wx.nil ?_
            refine W.reg ?_
            refine Wx.rd (v := .int .i64 (c + 1)) (rd_add rfl rfl (in_i64 (by omega) (by omega))) rfl ?_
            refine Wx.rd (v := .int .i64 (c + 1)) (rd_move rfl) rfl ?_
            refine Wx.nil ?_
            refine ⟨(c + 1, List.set T10 (a * 6 + c).toNat (ix false T10 (a * 6 + c) || (ix false T10 (a * 6 + b) && ix false T10 (b * 6 + c)))), (by show (l.length - (c + 1)).toNat < (l.length - c).toNat; omega), ?_, ?_, Out.look rfl (Out.hav rfl (Out.look rfl Out.self))⟩
            · exact ⟨hS, (by first | omega | assumption), (by first | omega | assumption), (by rw [List.length_set]; exact s2), (rg_step hl6 s2 (by omega) ⟨m0, by omega⟩ ⟨q0, by omega⟩ ⟨s0, by omega⟩ s3)⟩
            · exact ⟨rfl, trivial⟩
          · -- no
            refine W.exit rfl ?_
            refine W.reg ?_
            refine Wx.rd (v := .int .i64 (b + 1)) (rd_add rfl rfl (in_i64 (by omega) (by omega))) rfl ?_
            refine Wx.rd (v := .int .i64 (b + 1)) (rd_move rfl) rfl ?_
            refine Wx.nil ?_
            refine ⟨(b + 1, T10), (by show (l.length - (b + 1)).toNat < (l.length - b).toNat; omega), ?_, ?_, Out.look rfl (Out.hav rfl (Out.look rfl Out.self))⟩
            · exact ⟨hS, (by first | omega | assumption), (by first | omega | assumption), (s2), (rg_col s3 (by omega))⟩
            · exact ⟨rfl, trivial⟩
        · -- no
          refine W.exit rfl ?_
          refine W.reg ?_
          refine Wx.rd (v := .int .i64 (a + 1)) (rd_add rfl rfl (in_i64 (by omega) (by omega))) rfl ?_
          refine Wx.rd (v := .int .i64 (a + 1)) (rd_move rfl) rfl ?_
          refine Wx.nil ?_
          refine ⟨(a + 1, T8), (by show (l.length - (a + 1)).toNat < (l.length - a).toNat; omega), ?_, ?_, Out.look rfl (Out.hav rfl (Out.look rfl Out.self))⟩
          · exact ⟨hS, (by first | omega | assumption), (by first | omega | assumption), (q2), (rg_row q3 (by omega))⟩
          · exact ⟨rfl, trivial⟩
      · -- no
        refine W.exit rfl ?_
        refine W.reg ?_
        refine Wx.rd (v := .int .i64 (r + 1)) (rd_add rfl rfl (in_i64 (by omega) (by omega))) rfl ?_
        refine Wx.rd (v := .int .i64 (r + 1)) (rd_move rfl) rfl ?_
        refine Wx.nil ?_
        refine ⟨(r + 1, T6), (by show (l.length - (r + 1)).toNat < (l.length - r).toNat; omega), ?_, ?_, Out.look rfl (Out.hav rfl (Out.look rfl Out.self))⟩
        · exact ⟨hS, (by first | omega | assumption), (by first | omega | assumption), (m2), (rg_next (by omega) m3 (by omega))⟩
        · exact ⟨rfl, trivial⟩
    · -- no
      refine W.exit rfl ?_
      refine W.seq ?_
      refine W.seq ?_
      refine W.reg ?_
      refine Wx.rd (v := .int .i64 (l.length : Int)) (rd_move rfl) rfl ?_
      refine Wx.rd (v := .int .i64 0) (rd_move rfl) rfl ?_
      refine Wx.nil ?_
      refine W.block ?_
      have hT := rg_end r3 (by omega)
      refine W.loop [2, 10, 11, 81, 82, 83, 84, 85, 86, 87, 88, 89, 90, 91, 92, 93, 94, 95, 96, 97, 98, 99, 100, 101, 102, 103, 104, 105, 106] (fun (a : Int) => [(81, .int .i64 a)]) (fun (a : Int) w' => St w O w' [.box g_1 82 (List.map Value.bool T4)] ∧ 0 ≤ a ∧ a ≤ l.length ∧ (∀ x y, (0 ≤ x ∧ x < (l.length : Int)) → (0 ≤ y ∧ y < (l.length : Int)) → x < a → ¬ (bS l x y = true ∧ ledB (gS l) l.length y x = true))) (fun (a : Int) => (l.length - a).toNat) 0 ⟨rfl, trivial⟩ ⟨hS, (by first | omega | simp), (by first | omega | simp), (fun x y hx hy hk => by omega)⟩ ?_
      rintro a u_62 w_61 ⟨hS, u0, u1, u2⟩
      refine W.seq ?_
      refine W.reg ?_
      refine Wx.rd (v := .bool (decide (a < (l.length : Int)))) (rd_lss rfl rfl) rfl ?_
      refine Wx.nil ?_
      refine W.seq ?_
      refine W.condD rfl (fun c6 => ?_) (fun c6 => ?_)
      · -- yes
        refine W.skip ?_
        refine W.seq ?_
        refine W.block ?_
        refine W.seq ?_
        refine W.reg ?_
        refine Wx.rd (v := .int .i64 a) (rd_move rfl) rfl ?_
        refine Wx.rd (v := .int .i64 a) (rd_assign rfl) rfl ?_
        refine Wx.nil ?_
        refine W.seq ?_
        refine W.reg ?_
        refine Wx.rd (v := .int .i64 (l.length : Int)) (rd_move rfl) rfl ?_
        refine Wx.rd (v := .int .i64 0) (rd_move rfl) rfl ?_
        refine Wx.nil ?_
        refine W.block ?_
        refine W.loop [2, 11, 85, 86, 87, 88, 89, 90, 91, 92, 93, 94, 95, 96, 97, 98, 99, 100, 101, 102, 103, 104, 105] (fun (b : Int) => [(85, .int .i64 b)]) (fun (b : Int) w' => St w O w' [.box g_1 82 (List.map Value.bool T4)] ∧ 0 ≤ b ∧ b ≤ l.length ∧ (∀ y, (0 ≤ y ∧ y < (l.length : Int)) → y < b → ¬ (bS l a y = true ∧ ledB (gS l) l.length y a = true))) (fun (b : Int) => (l.length - b).toNat) 0 ⟨rfl, trivial⟩ ⟨hS, (by first | omega | simp), (by first | omega | simp), (fun y hy hk => by omega)⟩ ?_
        rintro b u_64 w_63 ⟨hS, x0, x1, x2⟩
        refine W.seq ?_
        refine W.reg ?_
        refine Wx.rd (v := .bool (decide (b < (l.length : Int)))) (rd_lss rfl rfl) rfl ?_
        refine Wx.nil ?_
        refine W.seq ?_
        refine W.condD rfl (fun c7 => ?_) (fun c7 => ?_)
        · -- yes
          refine W.skip ?_
          refine W.seq ?_
          refine W.block ?_
          refine W.seq ?_
          refine W.reg ?_
          refine Wx.rd (v := .int .i64 b) (rd_move rfl) rfl ?_
          refine Wx.rd (v := .int .i64 b) (rd_assign rfl) rfl ?_
          refine Wx.nil ?_
          refine W.seq ?_
          refine W.regQ mixedLm_ (by kernel_rfl) ?_
          refine Wx.rd (v := v) (rd_move rfl) rfl ?_
          refine Wx.rd (v := .int .i64 a) (rd_move rfl) rfl ?_
          refine Wx.ex (rd_index ([], []) (hS.arg a_v) rfl rfl Try.underlying22 Try.sizeOf62 (by first | omega | (simp only [List.length_set, List.length_append, List.length_cons, List.length_nil, List.length_replicate]; omega)) (by first | omega | (simp only [List.length_set, List.length_append, List.length_cons, List.length_nil, List.length_replicate]; omega))) rfl (fun p_65 hp_66 => ?_)
          refine Wx.ex (rd_load hp_66 rfl Try.isAgg62 Try.sizeOf62) rfl (fun v_67 hv_68 => ?_)
          obtain ⟨v_69, v_70, rfl, hv_71, hv_72⟩ := hv_68.s2
          have hS := hS.add (hv_71)
          have ln_74 := (hS.v 0 rfl).len63
          have hS := hS.add (V.upF (hv_72))
          have ln_76 := (hS.v 0 rfl).len63
          refine Wx.rd (v := v) (rd_move rfl) rfl ?_
          refine Wx.rd (v := .int .i64 b) (rd_move rfl) rfl ?_
          refine Wx.ex (rd_index ([], []) (hS.arg a_v) rfl rfl Try.underlying22 Try.sizeOf62 (by first | omega | (simp only [List.length_set, List.length_append, List.length_cons, List.length_nil, List.length_replicate]; omega)) (by first | omega | (simp only [List.length_set, List.length_append, List.length_cons, List.length_nil, List.length_replicate]; omega))) rfl (fun p_77 hp_78 => ?_)
          refine Wx.ex (rd_load hp_78 rfl Try.isAgg62 Try.sizeOf62) rfl (fun v_79 hv_80 => ?_)
          obtain ⟨v_81, v_82, rfl, hv_83, hv_84⟩ := hv_80.s2
          have hS := hS.add (hv_83)
          have ln_86 := (hS.v 0 rfl).len63
          have hS := hS.add (V.upF (hv_84))
          have ln_88 := (hS.v 0 rfl).len63
          refine Wx.callV (v := .int .i64 (leadS (((ix ([], []) l a).1), ((ix ([], []) l a).2)) (((ix ([], []) l b).1), ((ix ([], []) l b).2)))) (run_callF Try.call53 rfl) (fun w_89 hw_90 => (F53 ((hS.v 3 rfl).ext hw_90) ((hS.v 2 rfl).ext hw_90) ((hS.v 1 rfl).ext hw_90) ((hS.v 0 rfl).ext hw_90) (hok a (by omega) (by omega)).b1 (hok a (by omega) (by omega)).b2 (hok b (by omega) (by omega)).b2 (by have := (hok a (by omega) (by omega)).l1; omega) (by have h1 := (hok a (by omega) (by omega)).l1; have h2 := (hok a (by omega) (by omega)).l2; omega) (by have h1 := (hok a (by omega) (by omega)).l1; have h2 := (hok b (by omega) (by omega)).l2; omega))) rfl ?_
          rw [show (leadS (((ix ([], []) l a).1), ((ix ([], []) l a).2)) (((ix ([], []) l b).1), ((ix ([], []) l b).2)) : Int) = leadS (ix ([], []) l a) (ix ([], []) l b) from rfl]
          have hld := lead_bd9 (hok a (by omega) (by omega)) hgd.2 (hok b (by omega) (by omega))
          refine Wx.rd (v := .bool (decide (0 < (leadS (ix ([], []) l a) (ix ([], []) l b))))) (rd_gtr rfl rfl) rfl ?_
          refine Wx.rd (v := .bool (decide (0 < (leadS (ix ([], []) l a) (ix ([], []) l b))))) (rd_move rfl) rfl ?_
          refine Wx.cutQ (X := Unit) 6 [99, 100, 101, 102, 103, 104] (fun _ => [(104, .bool (decide (0 < (leadS (ix ([], []) l a) (ix ([], []) l b))) && ix false T4 (b * 6 + a)))]) (fun _ => True) ?_ ?_
          · rcases Bool.eq_false_or_eq_true (decide (0 < (leadS (ix ([], []) l a) (ix ([], []) l b)))) with g_91 | g_91
            · -- True
              have gp_92 := of_decide_eq_true g_91
              refine Wx.gyes rfl rfl (congrArg Value.bool g_91) ?_
              refine Wx.rd (v := .int .i64 b) (rd_move rfl) rfl ?_
              refine Wx.gyes rfl rfl (congrArg Value.bool g_91) ?_
              refine Wx.rd (v := .int .i64 a) (rd_move rfl) rfl ?_
              refine Wx.gyes rfl rfl (congrArg Value.bool g_91) ?_
              refine Wx.rd (v := .pointer (some ⟨g_1, 0 + b.toNat * 6, none⟩)) (rd_indexArr rfl rfl Try.underlying82 Try.sizeOf81 (by omega) (by omega)) rfl ?_
              refine Wx.gyes rfl rfl (congrArg Value.bool g_91) ?_
              refine Wx.rd (v := .pointer (some ⟨g_1, 0 + b.toNat * 6 + a.toNat * 1, none⟩)) (rd_indexArr rfl rfl Try.underlying81 Try.sizeOf4 (by omega) (by omega)) rfl ?_
              refine Wx.gyes rfl rfl (congrArg Value.bool g_91) ?_
              refine Wx.rd (v := .bool (ix false T4 (b * 6 + a))) (rd_loadXa (d := false) (f := Value.bool) (j := b * 6 + a) hS 4 rfl rfl (by omega) (by omega) (by omega) Try.isAgg4) rfl ?_
              refine Wx.rd (v := .bool (ix false T4 (b * 6 + a))) (rd_pickT (congrArg Value.bool g_91) rfl) rfl ?_
              refine Wx.nilQ (fun _ _ => ⟨(), trivial, ⟨?_, trivial⟩, Out.look rfl Out.refl⟩)
              show Value.bool (ix false T4 (b * 6 + a)) = Value.bool (decide (0 < (leadS (ix ([], []) l a) (ix ([], []) l b))) && ix false T4 (b * 6 + a))
              first | rw [g_91, Bool.true_and] | (rw [g_91]; rfl)
            · -- False
              have gp_93 := of_decide_eq_false g_91
              refine Wx.gnoB rfl rfl (congrArg Value.bool g_91) rfl rfl ?_
              refine Wx.gnoB rfl rfl (congrArg Value.bool g_91) rfl rfl ?_
              refine Wx.gnoB rfl rfl (congrArg Value.bool g_91) rfl rfl ?_
              refine Wx.gnoB rfl rfl (congrArg Value.bool g_91) rfl rfl ?_
              refine Wx.gnoB rfl rfl (congrArg Value.bool g_91) rfl rfl ?_
              refine Wx.rd (v := .bool false) (rd_pickF (congrArg Value.bool g_91) rfl) rfl ?_
              refine Wx.nilQ (fun _ _ => ⟨(), trivial, ⟨?_, trivial⟩, Out.look rfl Out.refl⟩)
              show Value.bool false = Value.bool (decide (0 < (leadS (ix ([], []) l a) (ix ([], []) l b))) && ix false T4 (b * 6 + a))
              first | rw [g_91, Bool.false_and] | (rw [g_91]; rfl)
          rintro ⟨⟩ u_95 -
          refine Wx.nilQ (fun w_96 hx_97 => ?_)
          have hS := hS.ext hx_97
          refine W.cond rfl (fun c8 => ?_) (fun c8 => ?_)
          · -- yes
            try simp only [Bool.and_eq_true, Bool.or_eq_true, Bool.not_eq_true', Bool.and_eq_false_iff, Bool.or_eq_false_iff, Bool.not_eq_false', decide_eq_true_eq, decide_eq_false_iff_not, not_or, Bool.false_eq_true, Bool.true_eq_false, false_or, or_false, not_false_eq_true] at c8
            refine W.seq ?_
            refine W.reg ?_
            refine Wx.rd (v := .bool true) (rd_assign rfl) rfl ?_
            refine Wx.nil ?_
            have e0_0 : (!(noR l)) = true := by rw [noR_false (a := a) (b := b) ⟨by omega, by omega⟩ ⟨by omega, by omega⟩ (decide_eq_true c8.1) (by rw [← hT b a ⟨by omega, by omega⟩ ⟨by omega, by omega⟩]; exact c8.2)]; rfl
            exact W.ret ⟨.bool true, ResIs.one, hS.bel, (by rw [e0_0])⟩
          · -- no
            try simp only [Bool.and_eq_true, Bool.or_eq_true, Bool.not_eq_true', Bool.and_eq_false_iff, Bool.or_eq_false_iff, Bool.not_eq_false', decide_eq_true_eq, decide_eq_false_iff_not, not_or, Bool.false_eq_true, Bool.true_eq_false, false_or, or_false, not_false_eq_true] at c8
            refine W.skip ?_
            refine W.reg ?_
            refine Wx.rd (v := .int .i64 (b + 1)) (rd_add rfl rfl (in_i64 (by omega) (by omega))) rfl ?_
            refine Wx.rd (v := .int .i64 (b + 1)) (rd_move rfl) rfl ?_
            refine Wx.nil ?_
            refine ⟨b + 1, (by show (l.length - (b + 1)).toNat < (l.length - b).toNat; omega), ?_, ?_, Out.look rfl (Out.hav rfl (Out.look rfl Out.self))⟩
            · exact ⟨St.tl (St.tl (St.tl (hS.tl))), (by first | omega | assumption), (by first | omega | assumption), (fun y hy hk => by by_cases e : y = b; (rw [e, ← hT b a ⟨by omega, by omega⟩ ⟨by omega, by omega⟩]; exact fun hh => c8.elim (fun q => by have := of_decide_eq_true hh.1; omega) (fun q => by rw [show tbR T4 b a = false from q] at hh; cases hh.2)); exact x2 y hy (by omega))⟩
            · exact ⟨rfl, trivial⟩
        · -- no
          refine W.exit rfl ?_
          refine W.reg ?_
          refine Wx.rd (v := .int .i64 (a + 1)) (rd_add rfl rfl (in_i64 (by omega) (by omega))) rfl ?_
          refine Wx.rd (v := .int .i64 (a + 1)) (rd_move rfl) rfl ?_
          refine Wx.nil ?_
          refine ⟨a + 1, (by show (l.length - (a + 1)).toNat < (l.length - a).toNat; omega), ?_, ?_, Out.look rfl (Out.hav rfl (Out.look rfl Out.self))⟩
          · exact ⟨hS, (by first | omega | assumption), (by first | omega | assumption), (fun x y hx hy hk => by by_cases e : x = a; (rw [e]; exact x2 y hy (by omega)); exact u2 x y hx hy (by omega))⟩
          · exact ⟨rfl, trivial⟩
      · -- no
        refine W.exit rfl ?_
        refine W.seq ?_
        refine W.reg ?_
        refine Wx.rd (v := .bool false) (rd_assign rfl) rfl ?_
        refine Wx.nil ?_
        have e1_0 : (!(noR l)) = false := by rw [noR_true (a := a) (by omega) u2]; rfl
        exact W.ret ⟨.bool false, ResIs.one, hS.bel, (by rw [e1_0])⟩
end Go.Proofs.Ytjbcpggikaeleaa

namespace Go.Proofs.Ytjbcpggikaeleaa
open Go.Wk Go.RowKit Go.Lib
set_option linter.unusedVariables false
set_option linter.unusedSimpArgs false
theorem mixedLn_ : Try.prog.follows .mixedOrders = true := by kernel_rfl

set_option maxHeartbeats 2000000 in
theorem F48 {v : Value} {l : List ((List Int) × (List Int))} {Fr_v : List (Option Nat)} {wv : Value} {worth : List Int} {Fr_wv : List (Option Nat)} {uv : Value} {weight : List Int} {Fr_uv : List (Option Nat)} {w : World} (h_v : V (tSl (tP (tSl (tI .i64)) (tSl (tI .i64)))) l v Fr_v w) (h_wv : V (tSl (tI .i64)) worth wv Fr_wv w) (h_uv : V (tSl (tI .i64)) weight uv Fr_uv w) (p_ok : SalesOK l) : Calls Try.prog 48 #[v, wv, uv] w (Ret w (fun r _ => r = .bool (nbB l worth weight))) := by
  obtain ⟨gd, hgd, hok⟩ := p_ok.at
  have hl6 := p_ok.1
  have a_v := h_v.any
  have l_v := h_v.len63
  have a_wv := h_wv.any
  have l_wv := h_wv.len63
  have a_uv := h_uv.any
  have l_uv := h_uv.len63
  have hS := St.start0 w
  refine enterR Try.func48 rfl Try.ntmps48 Try.results48 rfl ?_
  refine W.seq ?_
  refine W.reg ?_
  refine Wx.rd (v := .bool false) (rd_assign rfl) rfl ?_
  refine Wx.nil ?_
  refine W.seq ?_
  refine W.seq ?_
  refine W.reg ?_
  refine Wx.rd (v := wv) (rd_move rfl) rfl ?_
  refine Wx.rd (v := .int .i64 (worth.length : Int)) (rd_lenV rfl (hS.arg a_wv) Try.underlying39) rfl ?_
  refine Wx.rd (v := v) (rd_move rfl) rfl ?_
  refine Wx.rd (v := .int .i64 (l.length : Int)) (rd_lenV rfl (hS.arg a_v) Try.underlying22) rfl ?_
  refine Wx.rd (v := .bool (decide ((worth.length : Int) ≠ (l.length : Int)))) (rd_neq rfl rfl) rfl ?_
  refine Wx.rd (v := .bool (decide ((worth.length : Int) ≠ (l.length : Int)))) (rd_move rfl) rfl ?_
  refine Wx.cut (X := Unit) 6 [16, 17, 18, 19, 20, 21] (fun _ => [(21, .bool (decide ((worth.length : Int) ≠ (l.length : Int)) || decide ((weight.length : Int) ≠ (l.length : Int))))]) (fun _ w' => St w [] w' []) ?_ ?_
  · rcases Bool.eq_false_or_eq_true (decide ((worth.length : Int) ≠ (l.length : Int))) with g_1 | g_1
    · -- True
      have gp_2 := of_decide_eq_true g_1
      refine Wx.gnoB rfl rfl (congrArg Value.bool g_1) rfl rfl ?_
      refine Wx.gnoB rfl rfl (congrArg Value.bool g_1) rfl rfl ?_
      refine Wx.gnoB rfl rfl (congrArg Value.bool g_1) rfl rfl ?_
      refine Wx.gnoB rfl rfl (congrArg Value.bool g_1) rfl rfl ?_
      refine Wx.gnoB rfl rfl (congrArg Value.bool g_1) rfl rfl ?_
      refine Wx.rd (v := .bool true) (rd_pickT (congrArg Value.bool g_1) rfl) rfl ?_
      refine Wx.nil ⟨(), hS, ⟨?_, trivial⟩, Out.look rfl Out.refl⟩
      show Value.bool true = Value.bool (decide ((worth.length : Int) ≠ (l.length : Int)) || decide ((weight.length : Int) ≠ (l.length : Int)))
      first | rw [g_1, Bool.true_or] | (rw [g_1]; rfl)
    · -- False
      have gp_3 := of_decide_eq_false g_1
      refine Wx.gyes rfl rfl (congrArg Value.bool g_1) ?_
      refine Wx.rd (v := uv) (rd_move rfl) rfl ?_
      refine Wx.gyes rfl rfl (congrArg Value.bool g_1) ?_
      refine Wx.rd (v := .int .i64 (weight.length : Int)) (rd_lenV rfl (hS.arg a_uv) Try.underlying39) rfl ?_
      refine Wx.gyes rfl rfl (congrArg Value.bool g_1) ?_
      refine Wx.rd (v := v) (rd_move rfl) rfl ?_
      refine Wx.gyes rfl rfl (congrArg Value.bool g_1) ?_
      refine Wx.rd (v := .int .i64 (l.length : Int)) (rd_lenV rfl (hS.arg a_v) Try.underlying22) rfl ?_
      refine Wx.gyes rfl rfl (congrArg Value.bool g_1) ?_
      refine Wx.rd (v := .bool (decide ((weight.length : Int) ≠ (l.length : Int)))) (rd_neq rfl rfl) rfl ?_
      refine Wx.rd (v := .bool (decide ((weight.length : Int) ≠ (l.length : Int)))) (rd_pickF (congrArg Value.bool g_1) rfl) rfl ?_
      refine Wx.nil ⟨(), hS, ⟨?_, trivial⟩, Out.look rfl Out.refl⟩
      show Value.bool (decide ((weight.length : Int) ≠ (l.length : Int))) = Value.bool (decide ((worth.length : Int) ≠ (l.length : Int)) || decide ((weight.length : Int) ≠ (l.length : Int)))
      first | rw [g_1, Bool.false_or] | (rw [g_1]; rfl)
  rintro ⟨⟩ u_5 w_4 hS
  refine Wx.nil ?_
  refine W.cond rfl (fun c0 => ?_) (fun c0 => ?_)
  · -- yes
    try simp only [Bool.and_eq_true, Bool.or_eq_true, Bool.not_eq_true', Bool.and_eq_false_iff, Bool.or_eq_false_iff, Bool.not_eq_false', decide_eq_true_eq, decide_eq_false_iff_not, not_or, Bool.false_eq_true, Bool.true_eq_false, false_or, or_false, not_false_eq_true] at c0
    refine W.seq ?_
    refine W.reg ?_
    refine Wx.rd (v := .bool false) (rd_assign rfl) rfl ?_
    refine Wx.nil ?_
    have e0_0 : (nbB l worth weight) = false := by exact nbB_len (by omega)
    exact W.ret ⟨.bool false, ResIs.one, hS.bel, (by rw [e0_0])⟩
  · -- no
    try simp only [Bool.and_eq_true, Bool.or_eq_true, Bool.not_eq_true', Bool.and_eq_false_iff, Bool.or_eq_false_iff, Bool.not_eq_false', decide_eq_true_eq, decide_eq_false_iff_not, not_or, Bool.false_eq_true, Bool.true_eq_false, false_or, or_false, not_false_eq_true] at c0
    refine W.skip ?_
    refine W.seq ?_
    refine W.seq ?_
    refine W.reg ?_
    refine Wx.rd (v := v) (rd_move rfl) rfl ?_
    refine Wx.rd (v := .int .i64 (l.length : Int)) (rd_lenV rfl (hS.arg a_v) Try.underlying22) rfl ?_
    refine Wx.rd (v := .int .i64 0) (rd_move rfl) rfl ?_
    refine Wx.nil ?_
    refine W.block ?_
    refine W.loop [6, 7, 24, 25, 26, 27, 28, 29, 30, 31, 32, 33, 34, 35, 36, 37, 38, 39, 40, 41, 42, 43, 44, 45, 46, 47, 48, 49, 50, 51, 52, 53] (fun (i : Int) => [(24, .int .i64 i)]) (fun (i : Int) w' => St w [] w' [] ∧ 0 ≤ i ∧ i ≤ l.length ∧ (∀ q : Int, 0 ≤ q → q < i → agr1 worth weight q)) (fun (i : Int) => (l.length - i).toNat) 0 ⟨rfl, trivial⟩ ⟨hS, (by first | omega | simp), (by first | omega | simp), (fun q q0 q1 => by omega)⟩ ?_
    rintro i u_7 w_6 ⟨hS, h0, h1, h2⟩
    refine W.seq ?_
    refine W.reg ?_
    refine Wx.rd (v := .bool (decide (i < (l.length : Int)))) (rd_lss rfl rfl) rfl ?_
    refine Wx.nil ?_
    refine W.seq ?_
    refine W.condD rfl (fun c1 => ?_) (fun c1 => ?_)
    · -- yes
      refine W.skip ?_
      refine W.seq ?_
      refine W.block ?_
      refine W.seq ?_
      refine W.reg ?_
      refine Wx.rd (v := .int .i64 i) (rd_move rfl) rfl ?_
      refine Wx.rd (v := .int .i64 i) (rd_assign rfl) rfl ?_
      refine Wx.nil ?_
      refine W.seq ?_
      refine W.reg ?_
      refine Wx.rd (v := wv) (rd_move rfl) rfl ?_
      refine Wx.rd (v := .int .i64 i) (rd_move rfl) rfl ?_
      refine Wx.ex (rd_index 0 (hS.arg a_wv) rfl rfl Try.underlying39 Try.sizeOf3 (by first | omega | (simp only [List.length_set, List.length_append, List.length_cons, List.length_nil, List.length_replicate]; omega)) (by first | omega | (simp only [List.length_set, List.length_append, List.length_cons, List.length_nil, List.length_replicate]; omega))) rfl (fun p_8 hp_9 => ?_)
      refine Wx.rd (v := .int .i64 (ix 0 worth i)) (rd_loadI hp_9 rfl Try.isAgg3 Try.sizeOf3) rfl ?_
      have bd_10 := bd_i64 hp_9.inK
      refine Wx.rd (v := .bool (decide ((ix 0 worth i) < 0))) (rd_lss rfl rfl) rfl ?_
      refine Wx.rd (v := .bool (decide ((ix 0 worth i) < 0))) (rd_move rfl) rfl ?_
      refine Wx.cut (X := Unit) 6 [33, 34, 35, 36, 37, 38] (fun _ => [(38, .bool (decide ((ix 0 worth i) < 0) || decide (1000000000000 < (ix 0 worth i))))]) (fun _ w' => St w [] w' []) ?_ ?_
      · rcases Bool.eq_false_or_eq_true (decide ((ix 0 worth i) < 0)) with g_11 | g_11
        · -- True
          have gp_12 := of_decide_eq_true g_11
          refine Wx.gnoB rfl rfl (congrArg Value.bool g_11) rfl rfl ?_
          refine Wx.gnoB rfl rfl (congrArg Value.bool g_11) rfl rfl ?_
          refine Wx.gnoB rfl rfl (congrArg Value.bool g_11) rfl rfl ?_
          refine Wx.gnoB rfl rfl (congrArg Value.bool g_11) rfl rfl ?_
          refine Wx.gnoB rfl rfl (congrArg Value.bool g_11) rfl rfl ?_
          refine Wx.rd (v := .bool true) (rd_pickT (congrArg Value.bool g_11) rfl) rfl ?_
          refine Wx.nil ⟨(), hS, ⟨?_, trivial⟩, Out.look rfl Out.refl⟩
          show Value.bool true = Value.bool (decide ((ix 0 worth i) < 0) || decide (1000000000000 < (ix 0 worth i)))
          first | rw [g_11, Bool.true_or] | (rw [g_11]; rfl)
        · -- False
          have gp_13 := of_decide_eq_false g_11
          refine Wx.gyes rfl rfl (congrArg Value.bool g_11) ?_
          refine Wx.rd (v := wv) (rd_move rfl) rfl ?_
          refine Wx.gyes rfl rfl (congrArg Value.bool g_11) ?_
          refine Wx.rd (v := .int .i64 i) (rd_move rfl) rfl ?_
          refine Wx.gyes rfl rfl (congrArg Value.bool g_11) ?_
          refine Wx.ex (rd_index 0 (hS.arg a_wv) rfl rfl Try.underlying39 Try.sizeOf3 (by first | omega | (simp only [List.length_set, List.length_append, List.length_cons, List.length_nil, List.length_replicate]; omega)) (by first | omega | (simp only [List.length_set, List.length_append, List.length_cons, List.length_nil, List.length_replicate]; omega))) rfl (fun p_14 hp_15 => ?_)
          refine Wx.gyes rfl rfl (congrArg Value.bool g_11) ?_
          refine Wx.rd (v := .int .i64 (ix 0 worth i)) (rd_loadI hp_15 rfl Try.isAgg3 Try.sizeOf3) rfl ?_
          have bd_16 := bd_i64 hp_15.inK
          refine Wx.gyes rfl rfl (congrArg Value.bool g_11) ?_
          refine Wx.rd (v := .bool (decide (1000000000000 < (ix 0 worth i)))) (rd_gtr rfl rfl) rfl ?_
          refine Wx.rd (v := .bool (decide (1000000000000 < (ix 0 worth i)))) (rd_pickF (congrArg Value.bool g_11) rfl) rfl ?_
          refine Wx.nil ⟨(), hS, ⟨?_, trivial⟩, Out.look rfl Out.refl⟩
          show Value.bool (decide (1000000000000 < (ix 0 worth i))) = Value.bool (decide ((ix 0 worth i) < 0) || decide (1000000000000 < (ix 0 worth i)))
          first | rw [g_11, Bool.false_or] | (rw [g_11]; rfl)
      rintro ⟨⟩ u_18 w_17 hS
      refine Wx.rd (v := .bool (decide ((ix 0 worth i) < 0) || decide (1000000000000 < (ix 0 worth i)))) (rd_move rfl) rfl ?_
      refine Wx.cut (X := Unit) 6 [40, 41, 42, 43, 44, 45] (fun _ => [(45, .bool ((decide ((ix 0 worth i) < 0) || decide (1000000000000 < (ix 0 worth i))) || decide ((ix 0 weight i) < 1)))]) (fun _ w' => St w [] w' []) ?_ ?_
      · rcases Bool.eq_false_or_eq_true (decide ((ix 0 worth i) < 0) || decide (1000000000000 < (ix 0 worth i))) with g_19 | g_19
        · -- True
          have gp_20 := g_19
          try simp only [Bool.and_eq_true, Bool.or_eq_true, Bool.not_eq_true', Bool.and_eq_false_iff, Bool.or_eq_false_iff, Bool.not_eq_false', decide_eq_true_eq, decide_eq_false_iff_not, not_or, Bool.false_eq_true, Bool.true_eq_false, false_or, or_false, not_false_eq_true] at gp_20
          refine Wx.gnoB rfl rfl (congrArg Value.bool g_19) rfl rfl ?_
          refine Wx.gnoB rfl rfl (congrArg Value.bool g_19) rfl rfl ?_
          refine Wx.gnoB rfl rfl (congrArg Value.bool g_19) rfl rfl ?_
          refine Wx.gnoB rfl rfl (congrArg Value.bool g_19) rfl rfl ?_
          refine Wx.gnoB rfl rfl (congrArg Value.bool g_19) rfl rfl ?_
          refine Wx.rd (v := .bool true) (rd_pickT (congrArg Value.bool g_19) rfl) rfl ?_
          refine Wx.nil ⟨(), hS, ⟨?_, trivial⟩, Out.look rfl Out.refl⟩
          show Value.bool true = Value.bool ((decide ((ix 0 worth i) < 0) || decide (1000000000000 < (ix 0 worth i))) || decide ((ix 0 weight i) < 1))
          first | rw [g_19, Bool.true_or] | (rw [g_19]; rfl)
        · -- False
          have gp_21 := g_19
          try simp only [Bool.and_eq_true, Bool.or_eq_true, Bool.not_eq_true', Bool.and_eq_false_iff, Bool.or_eq_false_iff, Bool.not_eq_false', decide_eq_true_eq, decide_eq_false_iff_not, not_or, Bool.false_eq_true, Bool.true_eq_false, false_or, or_false, not_false_eq_true] at gp_21
          refine Wx.gyes rfl rfl (congrArg Value.bool g_19) ?_
          refine Wx.rd (v := uv) (rd_move rfl) rfl ?_
          refine Wx.gyes rfl rfl (congrArg Value.bool g_19) ?_
          refine Wx.rd (v := .int .i64 i) (rd_move rfl) rfl ?_
          refine Wx.gyes rfl rfl (congrArg Value.bool g_19) ?_
          refine Wx.ex (rd_index 0 (hS.arg a_uv) rfl rfl Try.underlying39 Try.sizeOf3 (by first | omega | (simp only [List.length_set, List.length_append, List.length_cons, List.length_nil, List.length_replicate]; omega)) (by first | omega | (simp only [List.length_set, List.length_append, List.length_cons, List.length_nil, List.length_replicate]; omega))) rfl (fun p_22 hp_23 => ?_)
          refine Wx.gyes rfl rfl (congrArg Value.bool g_19) ?_
          refine Wx.rd (v := .int .i64 (ix 0 weight i)) (rd_loadI hp_23 rfl Try.isAgg3 Try.sizeOf3) rfl ?_
          have bd_24 := bd_i64 hp_23.inK
          refine Wx.gyes rfl rfl (congrArg Value.bool g_19) ?_
          refine Wx.rd (v := .bool (decide ((ix 0 weight i) < 1))) (rd_lss rfl rfl) rfl ?_
          refine Wx.rd (v := .bool (decide ((ix 0 weight i) < 1))) (rd_pickF (congrArg Value.bool g_19) rfl) rfl ?_
          refine Wx.nil ⟨(), hS, ⟨?_, trivial⟩, Out.look rfl Out.refl⟩
          show Value.bool (decide ((ix 0 weight i) < 1)) = Value.bool ((decide ((ix 0 worth i) < 0) || decide (1000000000000 < (ix 0 worth i))) || decide ((ix 0 weight i) < 1))
          first | rw [g_19, Bool.false_or] | (rw [g_19]; rfl)
      rintro ⟨⟩ u_26 w_25 hS
      refine Wx.rd (v := .bool ((decide ((ix 0 worth i) < 0) || decide (1000000000000 < (ix 0 worth i))) || decide ((ix 0 weight i) < 1))) (rd_move rfl) rfl ?_
      refine Wx.cut (X := Unit) 6 [47, 48, 49, 50, 51, 52] (fun _ => [(52, .bool (((decide ((ix 0 worth i) < 0) || decide (1000000000000 < (ix 0 worth i))) || decide ((ix 0 weight i) < 1)) || decide (1000000000000 < (ix 0 weight i))))]) (fun _ w' => St w [] w' []) ?_ ?_
      · rcases Bool.eq_false_or_eq_true ((decide ((ix 0 worth i) < 0) || decide (1000000000000 < (ix 0 worth i))) || decide ((ix 0 weight i) < 1)) with g_27 | g_27
        · -- True
          have gp_28 := g_27
          try simp only [Bool.and_eq_true, Bool.or_eq_true, Bool.not_eq_true', Bool.and_eq_false_iff, Bool.or_eq_false_iff, Bool.not_eq_false', decide_eq_true_eq, decide_eq_false_iff_not, not_or, Bool.false_eq_true, Bool.true_eq_false, false_or, or_false, not_false_eq_true] at gp_28
          refine Wx.gnoB rfl rfl (congrArg Value.bool g_27) rfl rfl ?_
          refine Wx.gnoB rfl rfl (congrArg Value.bool g_27) rfl rfl ?_
          refine Wx.gnoB rfl rfl (congrArg Value.bool g_27) rfl rfl ?_
          refine Wx.gnoB rfl rfl (congrArg Value.bool g_27) rfl rfl ?_
          refine Wx.gnoB rfl rfl (congrArg Value.bool g_27) rfl rfl ?_
          refine Wx.rd (v := .bool true) (rd_pickT (congrArg Value.bool g_27) rfl) rfl ?_
          refine Wx.nil ⟨(), hS, ⟨?_, trivial⟩, Out.look rfl Out.refl⟩
          show Value.bool true = Value.bool (((decide ((ix 0 worth i) < 0) || decide (1000000000000 < (ix 0 worth i))) || decide ((ix 0 weight i) < 1)) || decide (1000000000000 < (ix 0 weight i)))
          first | rw [g_27, Bool.true_or] | (rw [g_27]; rfl)
        · -- False
          have gp_29 := g_27
          try simp only [Bool.and_eq_true, Bool.or_eq_true, Bool.not_eq_true', Bool.and_eq_false_iff, Bool.or_eq_false_iff, Bool.not_eq_false', decide_eq_true_eq, decide_eq_false_iff_not, not_or, Bool.false_eq_true, Bool.true_eq_false, false_or, or_false, not_false_eq_true] at gp_29
          refine Wx.gyes rfl rfl (congrArg Value.bool g_27) ?_
          refine Wx.rd (v := uv) (rd_move rfl) rfl ?_
          refine Wx.gyes rfl rfl (congrArg Value.bool g_27) ?_
          refine Wx.rd (v := .int .i64 i) (rd_move rfl) rfl ?_
          refine Wx.gyes rfl rfl (congrArg Value.bool g_27) ?_
          refine Wx.ex (rd_index 0 (hS.arg a_uv) rfl rfl Try.underlying39 Try.sizeOf3 (by first | omega | (simp only [List.length_set, List.length_append, List.length_cons, List.length_nil, List.length_replicate]; omega)) (by first | omega | (simp only [List.length_set, List.length_append, List.length_cons, List.length_nil, List.length_replicate]; omega))) rfl (fun p_30 hp_31 => ?_)
          refine Wx.gyes rfl rfl (congrArg Value.bool g_27) ?_
          refine Wx.rd (v := .int .i64 (ix 0 weight i)) (rd_loadI hp_31 rfl Try.isAgg3 Try.sizeOf3) rfl ?_
          have bd_32 := bd_i64 hp_31.inK
          refine Wx.gyes rfl rfl (congrArg Value.bool g_27) ?_
          refine Wx.rd (v := .bool (decide (1000000000000 < (ix 0 weight i)))) (rd_gtr rfl rfl) rfl ?_
          refine Wx.rd (v := .bool (decide (1000000000000 < (ix 0 weight i)))) (rd_pickF (congrArg Value.bool g_27) rfl) rfl ?_
          refine Wx.nil ⟨(), hS, ⟨?_, trivial⟩, Out.look rfl Out.refl⟩
          show Value.bool (decide (1000000000000 < (ix 0 weight i))) = Value.bool (((decide ((ix 0 worth i) < 0) || decide (1000000000000 < (ix 0 worth i))) || decide ((ix 0 weight i) < 1)) || decide (1000000000000 < (ix 0 weight i)))
          first | rw [g_27, Bool.false_or] | (rw [g_27]; rfl)
      rintro ⟨⟩ u_34 w_33 hS
      refine Wx.nil ?_
      refine W.cond rfl (fun c2 => ?_) (fun c2 => ?_)
      · -- yes
        try simp only [Bool.and_eq_true, Bool.or_eq_true, Bool.not_eq_true', Bool.and_eq_false_iff, Bool.or_eq_false_iff, Bool.not_eq_false', decide_eq_true_eq, decide_eq_false_iff_not, not_or, Bool.false_eq_true, Bool.true_eq_false, false_or, or_false, not_false_eq_true] at c2
        refine W.seq ?_
        refine W.reg ?_
        refine Wx.rd (v := .bool false) (rd_assign rfl) rfl ?_
        refine Wx.nil ?_
        have e1_0 : (nbB l worth weight) = false := by exact nbB_one h0 (by omega) (agr1_no (by omega))
        exact W.ret ⟨.bool false, ResIs.one, hS.bel, (by rw [e1_0])⟩
      · -- no
        try simp only [Bool.and_eq_true, Bool.or_eq_true, Bool.not_eq_true', Bool.and_eq_false_iff, Bool.or_eq_false_iff, Bool.not_eq_false', decide_eq_true_eq, decide_eq_false_iff_not, not_or, Bool.false_eq_true, Bool.true_eq_false, false_or, or_false, not_false_eq_true] at c2
        refine W.skip ?_
        refine W.reg ?_
        refine Wx.rd (v := .int .i64 (i + 1)) (rd_add rfl rfl (in_i64 (by omega) (by omega))) rfl ?_
        refine Wx.rd (v := .int .i64 (i + 1)) (rd_move rfl) rfl ?_
        refine Wx.nil ?_
        refine ⟨i + 1, (by show (l.length - (i + 1)).toNat < (l.length - i).toNat; omega), ?_, ?_, Out.look rfl (Out.hav rfl (Out.look rfl (Out.hav rfl (Out.look rfl (Out.hav rfl (Out.look rfl Out.self))))))⟩
        · exact ⟨hS, (by first | omega | assumption), (by first | omega | assumption), (fun q q0 q1 => by by_cases e : q = i; (rw [e]; exact agr1_of (by omega)); exact h2 q q0 (by omega))⟩
        · exact ⟨rfl, trivial⟩
    · -- no
      refine W.exit rfl ?_
      refine W.seq ?_
      refine W.seq ?_
      refine W.reg ?_
      refine Wx.rd (v := v) (rd_move rfl) rfl ?_
      refine Wx.rd (v := .int .i64 (l.length : Int)) (rd_lenV rfl (hS.arg a_v) Try.underlying22) rfl ?_
      refine Wx.rd (v := .int .i64 0) (rd_move rfl) rfl ?_
      refine Wx.nil ?_
      refine W.block ?_
      refine W.loop [6, 8, 9, 56, 57, 58, 59, 60, 61, 62, 63, 64, 65, 66, 67, 68, 69, 70, 71, 72, 73, 74, 75, 76, 77, 78, 79, 80, 81, 82, 83, 84, 85, 86, 87, 88, 89] (fun (a : Int) => [(56, .int .i64 a)]) (fun (a : Int) w' => St w [] w' [] ∧ 0 ≤ a ∧ a ≤ l.length ∧ (∀ x y : Int, 0 ≤ x → x < a → 0 ≤ y → y < l.length → agr2 l worth weight x y)) (fun (a : Int) => (l.length - a).toNat) 0 ⟨rfl, trivial⟩ ⟨hS, (by first | omega | simp), (by first | omega | simp), (fun q y q0 q1 => by omega)⟩ ?_
      rintro a u_36 w_35 ⟨hS, k0, k1, k2⟩
      have ha1 := fun h : a < (l.length : Int) => h2 a k0 (by omega)
      refine W.seq ?_
      refine W.reg ?_
      refine Wx.rd (v := .bool (decide (a < (l.length : Int)))) (rd_lss rfl rfl) rfl ?_
      refine Wx.nil ?_
      refine W.seq ?_
      refine W.condD rfl (fun c3 => ?_) (fun c3 => ?_)
      · -- yes
        refine W.skip ?_
        refine W.seq ?_
        refine W.block ?_
        refine W.seq ?_
        refine W.reg ?_
        refine Wx.rd (v := .int .i64 a) (rd_move rfl) rfl ?_
        refine Wx.rd (v := .int .i64 a) (rd_assign rfl) rfl ?_
        refine Wx.nil ?_
        refine W.seq ?_
        refine W.reg ?_
        refine Wx.rd (v := v) (rd_move rfl) rfl ?_
        refine Wx.rd (v := .int .i64 (l.length : Int)) (rd_lenV rfl (hS.arg a_v) Try.underlying22) rfl ?_
        refine Wx.rd (v := .int .i64 0) (rd_move rfl) rfl ?_
        refine Wx.nil ?_
        refine W.block ?_
        refine W.loop [6, 9, 61, 62, 63, 64, 65, 66, 67, 68, 69, 70, 71, 72, 73, 74, 75, 76, 77, 78, 79, 80, 81, 82, 83, 84, 85, 86, 87, 88] (fun (b : Int) => [(61, .int .i64 b)]) (fun (b : Int) w' => St w [] w' [] ∧ 0 ≤ b ∧ b ≤ l.length ∧ (∀ y : Int, 0 ≤ y → y < b → agr2 l worth weight a y)) (fun (b : Int) => (l.length - b).toNat) 0 ⟨rfl, trivial⟩ ⟨hS, (by first | omega | simp), (by first | omega | simp), (fun q q0 q1 => by omega)⟩ ?_
        rintro b u_38 w_37 ⟨hS, m0, m1, m2⟩
        have hb1 := fun h : b < (l.length : Int) => h2 b m0 (by omega)
        refine W.seq ?_
        refine W.reg ?_
        refine Wx.rd (v := .bool (decide (b < (l.length : Int)))) (rd_lss rfl rfl) rfl ?_
        refine Wx.nil ?_
        refine W.seq ?_
        refine W.condD rfl (fun c4 => ?_) (fun c4 => ?_)
        · -- yes
          refine W.skip ?_
          refine W.seq ?_
          refine W.block ?_
          refine W.seq ?_
          refine W.reg ?_
          refine Wx.rd (v := .int .i64 b) (rd_move rfl) rfl ?_
          refine Wx.rd (v := .int .i64 b) (rd_assign rfl) rfl ?_
          refine Wx.nil ?_
          refine W.seq ?_
          refine W.regQ mixedLn_ (by kernel_rfl) ?_
          refine Wx.rd (v := wv) (rd_move rfl) rfl ?_
          refine Wx.rd (v := .int .i64 b) (rd_move rfl) rfl ?_
          refine Wx.ex (rd_index 0 (hS.arg a_wv) rfl rfl Try.underlying39 Try.sizeOf3 (by first | omega | (simp only [List.length_set, List.length_append, List.length_cons, List.length_nil, List.length_replicate]; omega)) (by first | omega | (simp only [List.length_set, List.length_append, List.length_cons, List.length_nil, List.length_replicate]; omega))) rfl (fun p_39 hp_40 => ?_)
          refine Wx.rd (v := .int .i64 (ix 0 worth b)) (rd_loadI hp_40 rfl Try.isAgg3 Try.sizeOf3) rfl ?_
          have bd_41 := bd_i64 hp_40.inK
          refine Wx.rd (v := wv) (rd_move rfl) rfl ?_
          refine Wx.rd (v := .int .i64 a) (rd_move rfl) rfl ?_
          refine Wx.ex (rd_index 0 (hS.arg a_wv) rfl rfl Try.underlying39 Try.sizeOf3 (by first | omega | (simp only [List.length_set, List.length_append, List.length_cons, List.length_nil, List.length_replicate]; omega)) (by first | omega | (simp only [List.length_set, List.length_append, List.length_cons, List.length_nil, List.length_replicate]; omega))) rfl (fun p_42 hp_43 => ?_)
          refine Wx.rd (v := .int .i64 (ix 0 worth a)) (rd_loadI hp_43 rfl Try.isAgg3 Try.sizeOf3) rfl ?_
          have bd_44 := bd_i64 hp_43.inK
          refine Wx.rd (v := uv) (rd_move rfl) rfl ?_
          refine Wx.rd (v := .int .i64 a) (rd_move rfl) rfl ?_
          refine Wx.ex (rd_index 0 (hS.arg a_uv) rfl rfl Try.underlying39 Try.sizeOf3 (by first | omega | (simp only [List.length_set, List.length_append, List.length_cons, List.length_nil, List.length_replicate]; omega)) (by first | omega | (simp only [List.length_set, List.length_append, List.length_cons, List.length_nil, List.length_replicate]; omega))) rfl (fun p_45 hp_46 => ?_)
          refine Wx.rd (v := .int .i64 (ix 0 weight a)) (rd_loadI hp_46 rfl Try.isAgg3 Try.sizeOf3) rfl ?_
          have bd_47 := bd_i64 hp_46.inK
          refine Wx.rd (v := v) (rd_move rfl) rfl ?_
          obtain ⟨⟨wa0, wa1⟩, wa2, wa3⟩ := h2 a k0 (show a < i by omega)
          obtain ⟨⟨wb0, wb1⟩, wb2, wb3⟩ := h2 b m0 (show b < i by omega)
          refine Wx.rd (v := .int .i64 a) (rd_move rfl) rfl ?_
          refine Wx.ex (rd_index ([], []) (hS.arg a_v) rfl rfl Try.underlying22 Try.sizeOf62 (by first | omega | (simp only [List.length_set, List.length_append, List.length_cons, List.length_nil, List.length_replicate]; omega)) (by first | omega | (simp only [List.length_set, List.length_append, List.length_cons, List.length_nil, List.length_replicate]; omega))) rfl (fun p_48 hp_49 => ?_)
          refine Wx.ex (rd_load hp_49 rfl Try.isAgg62 Try.sizeOf62) rfl (fun v_50 hv_51 => ?_)
          obtain ⟨v_52, v_53, rfl, hv_54, hv_55⟩ := hv_51.s2
          have hS := hS.add (hv_54)
          have ln_57 := (hS.v 0 rfl).len63
          have hS := hS.add (V.upF (hv_55))
          have ln_59 := (hS.v 0 rfl).len63
          refine Wx.rd (v := v) (rd_move rfl) rfl ?_
          refine Wx.rd (v := .int .i64 b) (rd_move rfl) rfl ?_
          refine Wx.ex (rd_index ([], []) (hS.arg a_v) rfl rfl Try.underlying22 Try.sizeOf62 (by first | omega | (simp only [List.length_set, List.length_append, List.length_cons, List.length_nil, List.length_replicate]; omega)) (by first | omega | (simp only [List.length_set, List.length_append, List.length_cons, List.length_nil, List.length_replicate]; omega))) rfl (fun p_60 hp_61 => ?_)
          refine Wx.ex (rd_load hp_61 rfl Try.isAgg62 Try.sizeOf62) rfl (fun v_62 hv_63 => ?_)
          obtain ⟨v_64, v_65, rfl, hv_66, hv_67⟩ := hv_63.s2
          have hS := hS.add (hv_66)
          have ln_69 := (hS.v 0 rfl).len63
          have hS := hS.add (V.upF (hv_67))
          have ln_71 := (hS.v 0 rfl).len63
          refine Wx.callV (v := .int .i64 (leadS (((ix ([], []) l a).1), ((ix ([], []) l a).2)) (((ix ([], []) l b).1), ((ix ([], []) l b).2)))) (run_callF Try.call53 rfl) (fun w_72 hw_73 => (F53 ((hS.v 3 rfl).ext hw_73) ((hS.v 2 rfl).ext hw_73) ((hS.v 1 rfl).ext hw_73) ((hS.v 0 rfl).ext hw_73) (hok a (by omega) (by omega)).b1 (hok a (by omega) (by omega)).b2 (hok b (by omega) (by omega)).b2 (by have := (hok a (by omega) (by omega)).l1; omega) (by have h1 := (hok a (by omega) (by omega)).l1; have h2 := (hok a (by omega) (by omega)).l2; omega) (by have h1 := (hok a (by omega) (by omega)).l1; have h2 := (hok b (by omega) (by omega)).l2; omega))) rfl ?_
          rw [show (leadS (((ix ([], []) l a).1), ((ix ([], []) l a).2)) (((ix ([], []) l b).1), ((ix ([], []) l b).2)) : Int) = leadS (ix ([], []) l a) (ix ([], []) l b) from rfl]
          have hld := lead_bd9 (hok a (by omega) (by omega)) hgd.2 (hok b (by omega) (by omega))
          have hml := mul_ld wa2 wa3 hld
          refine Wx.rd (v := .int .i64 ((ix 0 weight a) * (leadS (ix ([], []) l a) (ix ([], []) l b)))) (rd_mul rfl rfl (in_i64 (by omega) (by omega))) rfl ?_
          refine Wx.rd (v := .int .i64 ((ix 0 worth a) - ((ix 0 weight a) * (leadS (ix ([], []) l a) (ix ([], []) l b))))) (rd_sub rfl rfl (in_i64 (by omega) (by omega))) rfl ?_
          refine Wx.rd (v := .bool (decide (((ix 0 worth a) - ((ix 0 weight a) * (leadS (ix ([], []) l a) (ix ([], []) l b)))) < (ix 0 worth b)))) (rd_gtr rfl rfl) rfl ?_
          refine Wx.nilQ (fun w_74 hx_75 => ?_)
          have hS := hS.ext hx_75
          refine W.condD rfl (fun c5 => ?_) (fun c5 => ?_)
          · -- yes
            refine W.seq ?_
            refine W.reg ?_
            refine Wx.rd (v := .bool false) (rd_assign rfl) rfl ?_
            refine Wx.nil ?_
            have e2_0 : (nbB l worth weight) = false := by exact nbB_two (a := a) (b := b) k0 (by omega) m0 (by omega) (fun hh => agr2_is.1 hh c5)
            exact W.ret ⟨.bool false, ResIs.one, hS.bel, (by rw [e2_0])⟩
          · -- no
            refine W.skip ?_
            refine W.reg ?_
            refine Wx.rd (v := .int .i64 (b + 1)) (rd_add rfl rfl (in_i64 (by omega) (by omega))) rfl ?_
            refine Wx.rd (v := .int .i64 (b + 1)) (rd_move rfl) rfl ?_
            refine Wx.nil ?_
            refine ⟨b + 1, (by show (l.length - (b + 1)).toNat < (l.length - b).toNat; omega), ?_, ?_, Out.look rfl Out.self⟩
            · exact ⟨St.tl (St.tl (St.tl (hS.tl))), (by first | omega | assumption), (by first | omega | assumption), (fun y y0 y1 => by by_cases e : y = b; (rw [e]; exact agr2_is.2 c5); exact m2 y y0 (by omega))⟩
            · exact ⟨rfl, trivial⟩
        · -- no
          refine W.exit rfl ?_
          refine W.reg ?_
          refine Wx.rd (v := .int .i64 (a + 1)) (rd_add rfl rfl (in_i64 (by omega) (by omega))) rfl ?_
          refine Wx.rd (v := .int .i64 (a + 1)) (rd_move rfl) rfl ?_
          refine Wx.nil ?_
          refine ⟨a + 1, (by show (l.length - (a + 1)).toNat < (l.length - a).toNat; omega), ?_, ?_, Out.look rfl (Out.hav rfl (Out.look rfl Out.self))⟩
          · exact ⟨hS, (by first | omega | assumption), (by first | omega | assumption), (fun x y x0 x1 y0 y1 => by by_cases e : x = a; (rw [e]; exact m2 y y0 (by omega)); exact k2 x y x0 (by omega) y0 y1)⟩
          · exact ⟨rfl, trivial⟩
      · -- no
        refine W.exit rfl ?_
        refine W.seq ?_
        refine W.reg ?_
        refine Wx.rd (v := .bool true) (rd_assign rfl) rfl ?_
        refine Wx.nil ?_
        have e3_0 : (nbB l worth weight) = true := by exact nbB_true ⟨⟨by omega, by omega⟩, fun q q0 q1 => h2 q q0 (by omega), fun x y x0 x1 y0 y1 => k2 x y x0 (by omega) y0 y1⟩
        exact W.ret ⟨.bool true, ResIs.one, hS.bel, (by rw [e3_0])⟩
end Go.Proofs.Ytjbcpggikaeleaa
