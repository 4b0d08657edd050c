/-
  WHAT IS PROVED HERE, TEXT BY TEXT (several texts of one prover, joined to one file; the conditions stand in each statement):
  * WHAT IS PROVED HERE: what functions hand back, each out of its own code; the conditions stand in each statement.
-/
import Derived.Test.YtdpdlplkngggoaaGreatDoorProg
import Derived.Test.YtdpdlplkngggoaaGreatDoorU4
import Derived.Test.YtdpdlplkngggoaaGreatDoorU6
import Derived.Test.YtdpdlplkngggoaaGreatDoorU7

set_option linter.unusedVariables false
set_option linter.unusedSimpArgs false

namespace Go.Proofs.YtdpdlplkngggoaaGreatDoor
open Go.Wk Go.RowKit Go.Lib
set_option linter.unusedVariables false
set_option linter.unusedSimpArgs false
theorem elTa_24 : ElemI Tryz.prog 24 23 (.agg #[.int .i64 0, .int .i64 0]) 2 16 := ElemI.of Tryz.underlying24 (by kernel_rfl) (by first | rfl | kernel_rfl) (by decide)
theorem mixedTa_ : Tryz.prog.follows .mixedOrders = true := by kernel_rfl
theorem foTa_27_2 : fldOff Tryz.prog 27 2 = some 2 := by kernel_rfl
theorem elTa_25 : ElemI Tryz.prog 25 3 (.int .i64 0) 1 8 := ElemI.of Tryz.underlying25 (by kernel_rfl) (by first | rfl | kernel_rfl) (by decide)
theorem foTa_32_0 : fldOff Tryz.prog 32 0 = some 0 := by kernel_rfl
theorem elTa_30 : ElemI Tryz.prog 30 25 ((.slice none 0 0)) 1 24 := ElemI.of Tryz.underlying30 (by kernel_rfl) (by first | rfl | kernel_rfl) (by decide)
theorem elTa_44 : ElemI Tryz.prog 44 4 (.bool false) 1 1 := ElemI.of Tryz.underlying44 (by kernel_rfl) (by first | rfl | kernel_rfl) (by decide)

set_option maxHeartbeats 8000000 in
set_option maxRecDepth 10000 in
theorem F3 {kind : Int} {zs : List Int} {O : List (Option Nat)} {w : World} (i_kind : InK .u8 kind) (n_zs : zs.length = 7) (i_zs : ∀ z ∈ zs, InK .u8 z) (hO : ∀ b, some b ∈ O → b < w.heap.size) (hG : Laid w) : Calls Tryz.prog 3 #[.int .u8 kind, .agg (List.map (Value.int .u8) zs).toArray] w (Ret w (fun r _ => r = .bool true)) := by
  have b_kind := bd_u8 i_kind
  have hk0 := Int.emod_nonneg kind (show (6 : Int) ≠ 0 by decide)
  have hk1 := Int.emod_lt_of_pos kind (show (0 : Int) < 6 by decide)
  obtain ⟨s, hsd⟩ : ∃ s, s = ix (0, 0) sizeL (kind % 6) := ⟨_, rfl⟩
  have hs : s ∈ sizeL := hsd ▸ size_in hk0 hk1
  have hn := (num_is hs).n
  have hsz := size_le hs
  have hfb := fac_bd hs
  have hf := grid_is hs
  have hch := hgt_chk hs n_zs i_zs
  have hsok := SOK.of hch
  have hhl : ((hgtV zs (s.1 * s.2)).length : Int) = (s.1 * s.2) := hgt_len (by omega) (by omega)
  have htk : ((zs.take (s.1 * s.2).toNat).length : Int) = s.1 * s.2 := by rw [List.length_take]; omega
  have hrl : (List.replicate (s.1 * s.2).toNat false).length = (s.1 * s.2).toNat := List.length_replicate
  have hnl : ((numV s.1 s.2).length : Int) ≤ 12 := by have h := num_bd (R := s.1) (C := s.2) (s.1 * s.2) (by omega); have e : numV s.1 s.2 = numK s.1 s.2 (s.1 * s.2) := rfl; rw [e]; omega
  have hS := St.start w O hO
  refine enterR Tryz.func3 rfl Tryz.ntmps3 Tryz.results3 rfl ?_
  refine W.seq ?_
  refine W.reg ?_
  refine Wx.box (cs := List.map (Value.int .u8) zs) hS rfl rfl rfl (fun g_1 w_2 hx_4 hb_3 hS => ?_)
  refine Wx.rd (v := .bool false) (rd_assign rfl) rfl ?_
  refine Wx.nil ?_
  refine W.seq ?_
  refine W.reg ?_
  refine Wx.rd (v := .agg #[.int .i64 1, .int .i64 2]) (rd_build (vs := [(0, .int .i64 1), (1, .int .i64 2)]) rfl (by kernel_rfl)) rfl ?_
  refine Wx.rd (v := .agg #[.int .i64 2, .int .i64 2]) (rd_build (vs := [(0, .int .i64 2), (1, .int .i64 2)]) rfl (by kernel_rfl)) rfl ?_
  refine Wx.rd (v := .agg #[.int .i64 2, .int .i64 3]) (rd_build (vs := [(0, .int .i64 2), (1, .int .i64 3)]) rfl (by kernel_rfl)) rfl ?_
  refine Wx.rd (v := .agg #[.int .i64 3, .int .i64 2]) (rd_build (vs := [(0, .int .i64 3), (1, .int .i64 2)]) rfl (by kernel_rfl)) rfl ?_
  refine Wx.rd (v := .agg #[.int .i64 1, .int .i64 6]) (rd_build (vs := [(0, .int .i64 1), (1, .int .i64 6)]) rfl (by kernel_rfl)) rfl ?_
  refine Wx.rd (v := .agg #[.int .i64 1, .int .i64 4]) (rd_build (vs := [(0, .int .i64 1), (1, .int .i64 4)]) rfl (by kernel_rfl)) rfl ?_
  refine Wx.lit (t := (tP (tI .i64) (tI .i64))) (ys := [(1, 2), (2, 2), (2, 3), (3, 2), (1, 6), (1, 4)]) (vs := [.agg #[.int .i64 1, .int .i64 2], .agg #[.int .i64 2, .int .i64 2], .agg #[.int .i64 2, .int .i64 3], .agg #[.int .i64 3, .int .i64 2], .agg #[.int .i64 1, .int .i64 6], .agg #[.int .i64 1, .int .i64 4]]) elTa_24 hS rfl rfl ⟨(V.mk2 (in_i64 (by omega) (by omega)) (in_i64 (by omega) (by omega))), ⟨(V.mk2 (in_i64 (by omega) (by omega)) (in_i64 (by omega) (by omega))), ⟨(V.mk2 (in_i64 (by omega) (by omega)) (in_i64 (by omega) (by omega))), ⟨(V.mk2 (in_i64 (by omega) (by omega)) (in_i64 (by omega) (by omega))), ⟨(V.mk2 (in_i64 (by omega) (by omega)) (in_i64 (by omega) (by omega))), ⟨(V.mk2 (in_i64 (by omega) (by omega)) (in_i64 (by omega) (by omega))), trivial⟩⟩⟩⟩⟩⟩ (by decide) rfl (fun v_5 w_6 hx_7 hS => ?_)
  have hsay : [(1, 2), (2, 2), (2, 3), (3, 2), (1, 6), (1, 4)] = sizeL := rfl
  rw [hsay] at hS
  refine Wx.rd (v := .int .u8 kind) (rd_move rfl) rfl ?_
  refine Wx.rd (v := .int .i64 kind) (rd_convIn rfl Tryz.underlying5 Tryz.underlying3 (in_i64 (by omega) (by omega))) rfl ?_
  refine Wx.rd (v := .int .i64 (kind % 6)) (rd_rem rfl rfl (by omega) (by omega)) rfl ?_
  refine Wx.indexR hS 0 rfl rfl rfl Tryz.underlying24 Tryz.sizeOf23 hk0 (show kind % 6 < (sizeL.length : Int) from hk1) rfl (fun g_8 hg_9 => ?_)
  refine Wx.ex (rd_loadR' (0, 0) hS 0 rfl hg_9 rfl hk0 (show kind % 6 < (sizeL.length : Int) from hk1) Tryz.isAgg23 Tryz.sizeOf23) rfl (fun v_10 hv_11 => ?_)
  obtain ⟨rfl, bd_12, bd_13⟩ := hv_11.i2
  have bd_12 := bd_i64 bd_12
  have bd_13 := bd_i64 bd_13
  refine Wx.alloc (cs := [.int .i64 0, .int .i64 0]) hS Tryz.zeroValue23 rfl rfl (fun g_14 w_15 hx_17 hb_16 hS => ?_)
  refine Wx.storeX (cs' := [.int .i64 ((ix (0, 0) sizeL (kind % 6)).1), .int .i64 ((ix (0, 0) sizeL (kind % 6)).2)]) (ds := [.int .i64 ((ix (0, 0) sizeL (kind % 6)).1), .int .i64 ((ix (0, 0) sizeL (kind % 6)).2)]) hS 0 rfl rfl rfl rfl Tryz.sizeOf23 (Nat.le_of_ble_eq_true rfl) (one_cons rfl (one_cons rfl one_nil)) rfl (fun w_18 hz_19 hS => ?_)
  refine Wx.nil ?_
  refine W.seq ?_
  refine W.regQ mixedTa_ (by kernel_rfl) ?_
  refine Wx.rd (v := .pointer (some ⟨g_14, 0, none⟩)) (rd_indexArr (n := 0) rfl rfl Tryz.underlying23 Tryz.sizeOf3 (by decide) (by decide)) rfl ?_
  refine Wx.rd (v := .int .i64 s.1) (Rd.to (v := .int .i64 ((ix (0, 0) sizeL (kind % 6)).1)) (rd_loadX hS 0 rfl rfl rfl Tryz.isAgg3) (congrArg (Value.int .i64) (show (s.1 : Int) = ((ix (0, 0) sizeL (kind % 6)).1 : Int) from (by rw [hsd])).symm)) rfl ?_
  refine Wx.rd (v := .pointer (some ⟨g_14, 1, none⟩)) (rd_indexArr (n := 1) rfl rfl Tryz.underlying23 Tryz.sizeOf3 (by decide) (by decide)) rfl ?_
  refine Wx.rd (v := .int .i64 s.2) (Rd.to (v := .int .i64 ((ix (0, 0) sizeL (kind % 6)).2)) (rd_loadX hS 0 rfl rfl rfl Tryz.isAgg3) (congrArg (Value.int .i64) (show (s.2 : Int) = ((ix (0, 0) sizeL (kind % 6)).2 : Int) from (by rw [hsd])).symm)) rfl ?_
  refine Wx.rd (v := .int .i64 s.1) (rd_assign rfl) rfl ?_
  refine Wx.rd (v := .int .i64 s.2) (rd_assign rfl) rfl ?_
  refine Wx.nilQ (fun w_20 hx_21 => ?_)
  have hS := hS.ext hx_21
  refine W.seq ?_
  refine W.reg ?_
  refine Wx.rd (v := .int .i64 s.1) (rd_move rfl) rfl ?_
  refine Wx.rd (v := .int .i64 s.2) (rd_move rfl) rfl ?_
  refine Wx.rd (v := .agg #[.int .i64 s.1, .int .i64 s.2, (.slice none 0 0)]) (rd_build (vs := [(0, .int .i64 s.1), (1, .int .i64 s.2)]) rfl (by kernel_rfl)) rfl ?_
  refine Wx.alloc (cs := [.int .i64 0, .int .i64 0, (.slice none 0 0)]) hS Tryz.zeroValue27 rfl rfl (fun g_22 w_23 hx_25 hb_24 hS => ?_)
  refine Wx.storeX (cs' := [.int .i64 s.1, .int .i64 s.2, (.slice none 0 0)]) (ds := [.int .i64 s.1, .int .i64 s.2, (.slice none 0 0)]) hS 0 rfl rfl rfl rfl Tryz.sizeOf27 (Nat.le_of_ble_eq_true rfl) (one_cons rfl (one_cons rfl (one_cons rfl one_nil))) rfl (fun w_26 hz_27 hS => ?_)
  refine Wx.nil ?_
  refine W.seq ?_
  refine W.reg ?_
  refine Wx.rd (v := .int .i64 s.1) (rd_move rfl) rfl ?_
  refine Wx.rd (v := .int .i64 s.2) (rd_move rfl) rfl ?_
  refine Wx.rd (v := .int .i64 (s.1 * s.2)) (rd_mul rfl rfl (in_i64 (by omega) (by omega))) rfl ?_
  refine Wx.rd (v := .int .i64 (s.1 * s.2)) (rd_assign rfl) rfl ?_
  refine Wx.nil ?_
  refine W.seq ?_
  refine W.seq ?_
  refine W.reg ?_
  refine Wx.rd (v := .int .i64 (s.1 * s.2)) (rd_move rfl) rfl ?_
  refine Wx.rd (v := (.slice (some ⟨g_1, 0, none⟩) (s.1 * s.2).toNat 7)) (rd_sliceArrH (m := 7) Tryz.underlying22 Tryz.sizeOf5 rfl rfl (by omega) (by omega)) rfl ?_
  have hS := hS.sliceBox (o := 0) (k := .u8) (m := (s.1 * s.2).toNat) (xs := List.take (s.1 * s.2).toNat zs) (cap := 7) 3 rfl (by exact take_map_take (Value.int .u8) zs _) (fun x hx => by have hx := List.mem_of_mem_take hx; exact i_zs _ hx) (by simp; omega) (by omega) (by decide)
  refine Wx.rd (v := .int .i64 ((List.take (s.1 * s.2).toNat zs).length : Int)) (rd_lenV rfl (hS.v 0 rfl) Tryz.underlying28) rfl ?_
  refine Wx.rd (v := .int .i64 0) (rd_move rfl) rfl ?_
  refine Wx.nil ?_
  refine W.block ?_
  have hS := hS.addNil (tI .i64) 3
  refine W.loop [11, 68, 69, 70, 71, 72, 73, 74, 75, 76, 77, 78, 79, 80] (fun x : Int × Value × (List Int) => match x with | (k, hv, hs_) => [(68, .int .i64 k)]) (fun (x : Int × Value × (List Int)) w' => match x with | (k, hv, hs_) => St w O w' [.row (tI .i64) 3 hv hs_, Ob.v (tSl (tI .u8)) (List.take (s.1 * s.2).toNat zs) (.slice (some ⟨g_1, 0, none⟩) (s.1 * s.2).toNat 7), .box g_22 27 [.int .i64 s.1, .int .i64 s.2, hv], .box g_14 23 [.int .i64 ((ix (0, 0) sizeL (kind % 6)).1), .int .i64 ((ix (0, 0) sizeL (kind % 6)).2)], .row (tP (tI .i64) (tI .i64)) 23 v_5 sizeL] ∧ 0 ≤ k ∧ k ≤ s.1 * s.2 ∧ hs_ = hgtV zs k ∧ (hs_.length : Int) = k) (fun x : Int × Value × (List Int) => match x with | (k, hv, hs_) => (s.1 * s.2 - k).toNat) (0, (.slice none 0 0), []) ⟨rfl, trivial⟩ ⟨hS, (by first | omega | simp), (by first | omega | simp), (rfl), (rfl)⟩ ?_
  rintro ⟨k, hv, hs_⟩ u_30 w_29 ⟨hS, h0, h1, h2, h3⟩
  refine W.seq ?_
  refine W.reg ?_
  refine Wx.rd (v := .bool (decide (k < ((List.take (s.1 * s.2).toNat zs).length : Int)))) (rd_lss rfl rfl) rfl ?_
  refine Wx.nil ?_
  refine W.seq ?_
  refine W.condD rfl (fun c0 => ?_) (fun c0 => ?_)
  · -- yes
    have hkn : k < s.1 * s.2 := by omega
    refine W.skip ?_
    refine W.seq ?_
    refine W.block ?_
    refine W.seq ?_
    refine W.reg ?_
    refine Wx.ex (rd_index 0 (hS.v 1 rfl) rfl rfl Tryz.underlying28 Tryz.sizeOf5 (by first | omega | (simp only [List.length_set, List.length_append, List.length_cons, List.length_nil, List.length_replicate]; omega)) (by first | omega | (simp only [List.length_set, List.length_append, List.length_cons, List.length_nil, List.length_replicate]; omega))) rfl (fun p_31 hp_32 => ?_)
    refine Wx.rd (v := .int .u8 (ix 0 (List.take (s.1 * s.2).toNat zs) k)) (rd_loadI hp_32 rfl Tryz.isAgg5 Tryz.sizeOf5) rfl ?_
    have bd_33 := bd_u8 hp_32.inK
    refine Wx.rd (v := .int .u8 (ix 0 (List.take (s.1 * s.2).toNat zs) k)) (rd_assign rfl) rfl ?_
    refine Wx.nil ?_
    refine W.reg ?_
    refine Wx.rd (v := .pointer (some ⟨g_22, 2, none⟩)) (rd_fieldAddr rfl foTa_27_2) rfl ?_
    refine Wx.rd (v := hv) (rd_loadX hS 2 rfl rfl rfl Tryz.isAgg25) rfl ?_
    refine Wx.rd (v := .int .u8 (ix 0 (List.take (s.1 * s.2).toNat zs) k)) (rd_move rfl) rfl ?_
    refine Wx.rd (v := .int .i64 (ix 0 (List.take (s.1 * s.2).toNat zs) k)) (rd_convIn rfl Tryz.underlying5 Tryz.underlying3 (in_i64 (by omega) (by omega))) rfl ?_
    refine Wx.rd (v := .int .i64 ((ix 0 (List.take (s.1 * s.2).toNat zs) k) % 31)) (rd_rem rfl rfl (by omega) (by omega)) rfl ?_
    refine Wx.lit (t := (tI .i64)) (ys := [(ix 0 (List.take (s.1 * s.2).toNat zs) k) % 31]) (vs := [.int .i64 ((ix 0 (List.take (s.1 * s.2).toNat zs) k) % 31)]) elTa_25 hS rfl rfl ⟨(V.mkInt (in_i64 (by omega) (by omega))), trivial⟩ (by decide) rfl (fun v_34 w_35 hx_36 hS => ?_)
    refine Wx.append elTa_25 hS 1 rfl rfl rfl (Src.ofR hS 0 rfl) (by simp only [maxLen]; first | omega | (simp; omega) | simp) (by first | omega | (simp; omega) | simp) rfl (fun v_37 w_38 hz_39 hS => ?_)
    refine Wx.rd (v := .pointer (some ⟨g_22, 2, none⟩)) (rd_fieldAddr rfl foTa_27_2) rfl ?_
    refine Wx.storeX (cs' := [.int .i64 s.1, .int .i64 s.2, v_37]) (ds := [v_37]) hS 3 rfl rfl rfl (Go.Wk.cells_one (hS.rowOne 1 rfl)) Tryz.sizeOf25 (Nat.le_of_ble_eq_true rfl) (one_cons (hS.rowOne 1 rfl) one_nil) rfl (fun w_40 hz_41 hS => ?_)
    refine Wx.nil ?_
    refine W.reg ?_
    refine Wx.rd (v := .int .i64 (k + 1)) (rd_add rfl rfl (in_i64 (by omega) (by omega))) rfl ?_
    refine Wx.rd (v := .int .i64 (k + 1)) (rd_move rfl) rfl ?_
    refine Wx.nil ?_
    refine ⟨(k + 1, v_37, hs_ ++ [(ix 0 (List.take (s.1 * s.2).toNat zs) k) % 31]), (by show (s.1 * s.2 - (k + 1)).toNat < (s.1 * s.2 - k).toNat; omega), ?_, ?_, Out.look rfl Out.self⟩
    · exact ⟨hS.tl, (by first | omega | assumption), (by first | omega | assumption), (by rw [hgt_next h0 (by omega), h2, take_ix0 h0 (by omega)]), (by simp only [List.length_append, List.length_cons, List.length_nil]; omega)⟩
    · exact ⟨rfl, trivial⟩
  · -- no
    have hsay : hs_ = (hgtV zs (s.1 * s.2)) := by rw [h2, show k = s.1 * s.2 by omega]
    rw [hsay] at hS
    refine W.exit rfl ?_
    refine W.seq ?_
    refine W.reg ?_
    refine Wx.makeMap hS rfl (fun g_43 w_42 hx_44 hS => ?_)
    have hS : St _ _ w_42 [.raw g_43 (.map (mE (pairV .i64) (Value.int .i64) ([] : List ((Int × Int) × Int)) 0).toArray ([] : List ((Int × Int) × Int)).length), .row (tI .i64) 3 hv (hgtV zs (s.1 * s.2)), Ob.v (tSl (tI .u8)) (List.take (s.1 * s.2).toNat zs) (.slice (some ⟨g_1, 0, none⟩) (s.1 * s.2).toNat 7), .box g_22 27 [.int .i64 s.1, .int .i64 s.2, hv], .box g_14 23 [.int .i64 ((ix (0, 0) sizeL (kind % 6)).1), .int .i64 ((ix (0, 0) sizeL (kind % 6)).2)], .row (tP (tI .i64) (tI .i64)) 23 v_5 sizeL] := hS
    refine Wx.rd (v := .map (some g_43)) (rd_assign rfl) rfl ?_
    refine Wx.nil ?_
    refine W.seq ?_
    refine W.seq ?_
    refine W.reg ?_
    refine Wx.rd (v := .int .i64 (s.1 * s.2)) (rd_move rfl) rfl ?_
    refine Wx.rd (v := .int .i64 0) (rd_move rfl) rfl ?_
    refine Wx.nil ?_
    refine W.block ?_
    refine W.loop [13, 83, 84, 85, 86, 87, 88, 89, 90, 91, 92, 93, 94, 95, 96, 97, 98, 99, 100, 101, 102, 103, 104, 105, 106, 107, 108, 109, 110, 111, 112] (fun x : Int × (List ((Int × Int) × Int)) => match x with | (p, mn) => [(83, .int .i64 p)]) (fun (x : Int × (List ((Int × Int) × Int))) w' => match x with | (p, mn) => St w O w' [.raw g_43 (.map (mE (pairV .i64) (Value.int .i64) mn 0).toArray mn.length), .row (tI .i64) 3 hv (hgtV zs (s.1 * s.2)), Ob.v (tSl (tI .u8)) (List.take (s.1 * s.2).toNat zs) (.slice (some ⟨g_1, 0, none⟩) (s.1 * s.2).toNat 7), .box g_22 27 [.int .i64 s.1, .int .i64 s.2, hv], .box g_14 23 [.int .i64 ((ix (0, 0) sizeL (kind % 6)).1), .int .i64 ((ix (0, 0) sizeL (kind % 6)).2)], .row (tP (tI .i64) (tI .i64)) 23 v_5 sizeL] ∧ 0 ≤ p ∧ p ≤ s.1 * s.2 ∧ mn = numK s.1 s.2 p) (fun x : Int × (List ((Int × Int) × Int)) => match x with | (p, mn) => (s.1 * s.2 - p).toNat) (0, ([] : List ((Int × Int) × Int))) ⟨rfl, trivial⟩ ⟨hS, (by first | omega | simp), (by first | omega | simp), (rfl)⟩ ?_
    rintro ⟨p, mn⟩ u_46 w_45 ⟨hS, n0, n1, n2⟩
    refine W.seq ?_
    refine W.reg ?_
    refine Wx.rd (v := .bool (decide (p < (s.1 * s.2)))) (rd_lss rfl rfl) rfl ?_
    refine Wx.nil ?_
    refine W.seq ?_
    refine W.condD rfl (fun c1 => ?_) (fun c1 => ?_)
    · -- yes
      have hpn : p < s.1 * s.2 := by omega
      refine W.skip ?_
      refine W.seq ?_
      refine W.block ?_
      refine W.seq ?_
      refine W.reg ?_
      refine Wx.rd (v := .int .i64 p) (rd_move rfl) rfl ?_
      refine Wx.rd (v := .int .i64 p) (rd_assign rfl) rfl ?_
      refine Wx.nil ?_
      refine W.seq ?_
      refine W.seq ?_
      refine W.reg ?_
      refine Wx.rd (v := .int .i64 p) (rd_move rfl) rfl ?_
      refine Wx.rd (v := .int .i64 s.2) (rd_move rfl) rfl ?_
      refine Wx.rd (v := .int .i64 (p % s.2)) (rd_rem rfl rfl (by omega) (by omega)) rfl ?_
      refine Wx.rd (v := .int .i64 s.2) (rd_move rfl) rfl ?_
      refine Wx.rd (v := .int .i64 (s.2 - 1)) (rd_sub rfl rfl (in_i64 (by omega) (by omega))) rfl ?_
      refine Wx.rd (v := .bool (decide ((p % s.2) < (s.2 - 1)))) (rd_lss rfl rfl) rfl ?_
      refine Wx.nil ?_
      refine W.cutK [92, 93, 94, 95, 96, 97, 98] (fun (mn2 : List ((Int × Int) × Int)) => []) (fun (mn2 : List ((Int × Int) × Int)) w' => St w O w' [.raw g_43 (.map (mE (pairV .i64) (Value.int .i64) mn2 0).toArray mn2.length), .row (tI .i64) 3 hv (hgtV zs (s.1 * s.2)), Ob.v (tSl (tI .u8)) (List.take (s.1 * s.2).toNat zs) (.slice (some ⟨g_1, 0, none⟩) (s.1 * s.2).toNat 7), .box g_22 27 [.int .i64 s.1, .int .i64 s.2, hv], .box g_14 23 [.int .i64 ((ix (0, 0) sizeL (kind % 6)).1), .int .i64 ((ix (0, 0) sizeL (kind % 6)).2)], .row (tP (tI .i64) (tI .i64)) 23 v_5 sizeL] ∧ mn2 = num1 s.2 p mn) ?_ ?_
      · -- up to the cut
        refine W.condD rfl (fun c2 => ?_) (fun c2 => ?_)
        · -- yes
          refine W.reg ?_
          refine Wx.rd (v := .map (some g_43)) (rd_move rfl) rfl ?_
          refine Wx.rd (v := .int .i64 p) (rd_move rfl) rfl ?_
          refine Wx.rd (v := .int .i64 p) (rd_move rfl) rfl ?_
          refine Wx.rd (v := .int .i64 (p + 1)) (rd_add rfl rfl (in_i64 (by omega) (by omega))) rfl ?_
          refine Wx.rd (v := .agg #[.int .i64 p, .int .i64 (p + 1)]) (rd_build (vs := [(0, .int .i64 p), (1, .int .i64 (p + 1))]) rfl (by kernel_rfl)) rfl ?_
          refine Wx.rd (v := .map (some g_43)) (rd_move rfl) rfl ?_
          refine Wx.rd (v := .int .i64 (mn.length : Int)) (rd_lenM (m := mn) (f := (pairV .i64)) (g := (Value.int .i64)) hS 0 rfl rfl Tryz.underlying29) rfl ?_
          refine Wx.mapUpdate (m := mn) (k := (p, p + 1)) (v := (mn.length : Int)) (f := (pairV .i64)) (g := (Value.int .i64)) hS 0 rfl rfl rfl rfl Tryz.underlying29 (KeyD.pair Tryz.underlying23 Tryz.underlying3 Tryz.sizeOf3) (fun w_47 hz_48 hS => ?_)
          refine Wx.nil ?_
          refine ⟨mput mn (p, p + 1) (mn.length : Int), ?_, ?_, Out.look rfl Out.refl⟩
          · exact ⟨hS, (by rw [num1, if_pos c2])⟩
          · exact trivial
        · -- no
          refine W.skip ?_
          refine ⟨mn, ?_, ?_, Out.look rfl Out.refl⟩
          · exact ⟨hS, (by rw [num1, if_neg c2])⟩
          · exact trivial
      rintro mn2 u_50 w_49 ⟨hS, n3⟩
      refine W.seq ?_
      refine W.reg ?_
      refine Wx.rd (v := .int .i64 p) (rd_move rfl) rfl ?_
      refine Wx.rd (v := .int .i64 s.2) (rd_move rfl) rfl ?_
      refine Wx.rd (v := .int .i64 (p + s.2)) (rd_add rfl rfl (in_i64 (by omega) (by omega))) rfl ?_
      refine Wx.rd (v := .int .i64 (s.1 * s.2)) (rd_move rfl) rfl ?_
      refine Wx.rd (v := .bool (decide ((p + s.2) < (s.1 * s.2)))) (rd_lss rfl rfl) rfl ?_
      refine Wx.nil ?_
      refine W.condD rfl (fun c3 => ?_) (fun c3 => ?_)
      · -- yes
        refine W.reg ?_
        refine Wx.rd (v := .map (some g_43)) (rd_move rfl) rfl ?_
        refine Wx.rd (v := .int .i64 p) (rd_move rfl) rfl ?_
        refine Wx.rd (v := .int .i64 p) (rd_move rfl) rfl ?_
        refine Wx.rd (v := .int .i64 s.2) (rd_move rfl) rfl ?_
        refine Wx.rd (v := .int .i64 (p + s.2)) (rd_add rfl rfl (in_i64 (by omega) (by omega))) rfl ?_
        refine Wx.rd (v := .agg #[.int .i64 p, .int .i64 (p + s.2)]) (rd_build (vs := [(0, .int .i64 p), (1, .int .i64 (p + s.2))]) rfl (by kernel_rfl)) rfl ?_
        refine Wx.rd (v := .map (some g_43)) (rd_move rfl) rfl ?_
        refine Wx.rd (v := .int .i64 (mn2.length : Int)) (rd_lenM (m := mn2) (f := (pairV .i64)) (g := (Value.int .i64)) hS 0 rfl rfl Tryz.underlying29) rfl ?_
        refine Wx.mapUpdate (m := mn2) (k := (p, p + s.2)) (v := (mn2.length : Int)) (f := (pairV .i64)) (g := (Value.int .i64)) hS 0 rfl rfl rfl rfl Tryz.underlying29 (KeyD.pair Tryz.underlying23 Tryz.underlying3 Tryz.sizeOf3) (fun w_51 hz_52 hS => ?_)
        refine Wx.nil ?_
        refine W.reg ?_
        refine Wx.rd (v := .int .i64 (p + 1)) (rd_add rfl rfl (in_i64 (by omega) (by omega))) rfl ?_
        refine Wx.rd (v := .int .i64 (p + 1)) (rd_move rfl) rfl ?_
        refine Wx.nil ?_
        refine ⟨(p + 1, mput mn2 (p, p + s.2) (mn2.length : Int)), (by show (s.1 * s.2 - (p + 1)).toNat < (s.1 * s.2 - p).toNat; omega), ?_, ?_, Out.look rfl (Out.hav rfl (Out.look rfl Out.self))⟩
        · exact ⟨hS, (by first | omega | assumption), (by first | omega | assumption), (by rw [num_next n0, ← n2, ← n3, num2, if_pos c3])⟩
        · exact ⟨rfl, trivial⟩
      · -- no
        refine W.skip ?_
        refine W.reg ?_
        refine Wx.rd (v := .int .i64 (p + 1)) (rd_add rfl rfl (in_i64 (by omega) (by omega))) rfl ?_
        refine Wx.rd (v := .int .i64 (p + 1)) (rd_move rfl) rfl ?_
        refine Wx.nil ?_
        refine ⟨(p + 1, mn2), (by show (s.1 * s.2 - (p + 1)).toNat < (s.1 * s.2 - p).toNat; omega), ?_, ?_, Out.look rfl (Out.hav rfl (Out.look rfl Out.self))⟩
        · exact ⟨hS, (by first | omega | assumption), (by first | omega | assumption), (by rw [num_next n0, ← n2, ← n3, num2, if_neg c3])⟩
        · exact ⟨rfl, trivial⟩
    · -- no
      have hsay : mn = (numV s.1 s.2) := by rw [n2, show p = s.1 * s.2 by omega]; rfl
      rw [hsay] at hS
      have hS : St _ _ _ [.raw g_43 (.map (mE (pairV .i64) (Value.int .i64) (numV s.1 s.2) 0).toArray (numV s.1 s.2).length), .row (tI .i64) 3 hv (hgtV zs (s.1 * s.2)), Ob.v (tSl (tI .u8)) (List.take (s.1 * s.2).toNat zs) (.slice (some ⟨g_1, 0, none⟩) (s.1 * s.2).toNat 7), .box g_22 27 [.int .i64 s.1, .int .i64 s.2, hv], .box g_14 23 [.int .i64 ((ix (0, 0) sizeL (kind % 6)).1), .int .i64 ((ix (0, 0) sizeL (kind % 6)).2)], .row (tP (tI .i64) (tI .i64)) 23 v_5 sizeL] := hS
      refine W.exit rfl ?_
      refine W.seq ?_
      refine W.reg ?_
      refine Wx.alloc (cs := [(.slice none 0 0)]) hS Tryz.zeroValue32 rfl rfl (fun g_53 w_54 hx_56 hb_55 hS => ?_)
      refine Wx.nil ?_
      refine W.seq ?_
      refine W.seq ?_
      refine W.reg ?_
      refine Wx.rd (v := .int .i64 (s.1 * s.2)) (rd_move rfl) rfl ?_
      refine Wx.rd (v := .int .i64 0) (rd_move rfl) rfl ?_
      refine Wx.nil ?_
      refine W.block ?_
      have hS := hS.addNil (tSl (tI .i64)) 25
      refine W.loop [15, 16, 18, 19, 20, 114, 115, 116, 117, 118, 119, 120, 121, 122, 123, 124, 125, 126, 127, 128, 129, 130, 131, 132, 133, 134, 135, 136, 137, 138, 139, 140, 141, 142, 143, 144, 145, 146, 147, 148, 149, 150, 151, 152, 153, 154, 155, 156, 157, 158, 159, 160, 161, 162, 163, 164, 165, 166, 167, 168, 169, 170, 171, 172, 173] (fun x : Int × Value × (List (List Int)) => match x with | (p, pv, pts) => [(114, .int .i64 p)]) (fun (x : Int × Value × (List (List Int))) w' => match x with | (p, pv, pts) => St w O w' [.row (tSl (tI .i64)) 25 pv pts, .box g_53 32 [pv], .raw g_43 (.map (mE (pairV .i64) (Value.int .i64) (numV s.1 s.2) 0).toArray (numV s.1 s.2).length), .row (tI .i64) 3 hv (hgtV zs (s.1 * s.2)), Ob.v (tSl (tI .u8)) (List.take (s.1 * s.2).toNat zs) (.slice (some ⟨g_1, 0, none⟩) (s.1 * s.2).toNat 7), .box g_22 27 [.int .i64 s.1, .int .i64 s.2, hv], .box g_14 23 [.int .i64 ((ix (0, 0) sizeL (kind % 6)).1), .int .i64 ((ix (0, 0) sizeL (kind % 6)).2)], .row (tP (tI .i64) (tI .i64)) 23 v_5 sizeL] ∧ 0 ≤ p ∧ p ≤ s.1 * s.2 ∧ pts = (gM s).take p.toNat ∧ (pts.length : Int) = p) (fun x : Int × Value × (List (List Int)) => match x with | (p, pv, pts) => (s.1 * s.2 - p).toNat) (0, (.slice none 0 0), []) ⟨rfl, trivial⟩ ⟨hS, (by first | omega | simp), (by first | omega | simp), (rfl), (rfl)⟩ ?_
      rintro ⟨p, pv, pts⟩ u_58 w_57 ⟨hS, m0, m1, m2, m3⟩
      refine W.seq ?_
      refine W.reg ?_
      refine Wx.rd (v := .bool (decide (p < (s.1 * s.2)))) (rd_lss rfl rfl) rfl ?_
      refine Wx.nil ?_
      refine W.seq ?_
      refine W.condD rfl (fun c4 => ?_) (fun c4 => ?_)
      · -- yes
        have hpg : p < s.1 * s.2 := by omega
        refine W.skip ?_
        refine W.seq ?_
        refine W.block ?_
        refine W.seq ?_
        refine W.reg ?_
        refine Wx.rd (v := .int .i64 p) (rd_move rfl) rfl ?_
        refine Wx.rd (v := .int .i64 p) (rd_assign rfl) rfl ?_
        refine Wx.nil ?_
        refine W.seq ?_
        refine W.reg ?_
        refine Wx.rd (v := (.slice none 0 0)) (rd_assign rfl) rfl ?_
        refine Wx.nil ?_
        refine W.seq ?_
        refine W.seq ?_
        refine W.reg ?_
        refine Wx.rd (v := .int .i64 p) (rd_move rfl) rfl ?_
        refine Wx.rd (v := .int .i64 p) (rd_move rfl) rfl ?_
        refine Wx.rd (v := .int .i64 (p + 1)) (rd_add rfl rfl (in_i64 (by omega) (by omega))) rfl ?_
        refine Wx.rd (v := .agg #[.int .i64 p, .int .i64 (p + 1)]) (rd_build (vs := [(0, .int .i64 p), (1, .int .i64 (p + 1))]) rfl (by kernel_rfl)) rfl ?_
        refine Wx.rd (v := .int .i64 p) (rd_move rfl) rfl ?_
        refine Wx.rd (v := .int .i64 s.2) (rd_move rfl) rfl ?_
        refine Wx.rd (v := .int .i64 (p - s.2)) (rd_sub rfl rfl (in_i64 (by omega) (by omega))) rfl ?_
        refine Wx.rd (v := .int .i64 p) (rd_move rfl) rfl ?_
        refine Wx.rd (v := .agg #[.int .i64 (p - s.2), .int .i64 p]) (rd_build (vs := [(0, .int .i64 (p - s.2)), (1, .int .i64 p)]) rfl (by kernel_rfl)) rfl ?_
        refine Wx.rd (v := .int .i64 p) (rd_move rfl) rfl ?_
        refine Wx.rd (v := .int .i64 (p - 1)) (rd_sub rfl rfl (in_i64 (by omega) (by omega))) rfl ?_
        refine Wx.rd (v := .int .i64 p) (rd_move rfl) rfl ?_
        refine Wx.rd (v := .agg #[.int .i64 (p - 1), .int .i64 p]) (rd_build (vs := [(0, .int .i64 (p - 1)), (1, .int .i64 p)]) rfl (by kernel_rfl)) rfl ?_
        refine Wx.rd (v := .int .i64 p) (rd_move rfl) rfl ?_
        refine Wx.rd (v := .int .i64 p) (rd_move rfl) rfl ?_
        refine Wx.rd (v := .int .i64 s.2) (rd_move rfl) rfl ?_
        refine Wx.rd (v := .int .i64 (p + s.2)) (rd_add rfl rfl (in_i64 (by omega) (by omega))) rfl ?_
        refine Wx.rd (v := .agg #[.int .i64 p, .int .i64 (p + s.2)]) (rd_build (vs := [(0, .int .i64 p), (1, .int .i64 (p + s.2))]) rfl (by kernel_rfl)) rfl ?_
        refine Wx.lit (t := (tP (tI .i64) (tI .i64))) (ys := [(p, p + 1), (p - s.2, p), (p - 1, p), (p, p + s.2)]) (vs := [.agg #[.int .i64 p, .int .i64 (p + 1)], .agg #[.int .i64 (p - s.2), .int .i64 p], .agg #[.int .i64 (p - 1), .int .i64 p], .agg #[.int .i64 p, .int .i64 (p + s.2)]]) elTa_24 hS rfl rfl ⟨(V.mk2 (in_i64 (by omega) (by omega)) (in_i64 (by omega) (by omega))), ⟨(V.mk2 (in_i64 (by omega) (by omega)) (in_i64 (by omega) (by omega))), ⟨(V.mk2 (in_i64 (by omega) (by omega)) (in_i64 (by omega) (by omega))), ⟨(V.mk2 (in_i64 (by omega) (by omega)) (in_i64 (by omega) (by omega))), trivial⟩⟩⟩⟩ (by decide) rfl (fun v_59 w_60 hx_61 hS => ?_)
        refine Wx.rd (v := .int .i64 ([(p, p + 1), (p - s.2, p), (p - 1, p), (p, p + s.2)].length : Int)) (rd_lenR hS 0 rfl rfl Tryz.underlying24) rfl ?_
        refine Wx.rd (v := .int .i64 0) (rd_move rfl) rfl ?_
        refine Wx.nil ?_
        refine W.block ?_
        have hS := hS.addNil (tI .i64) 3
        refine W.loop [16, 18, 19, 20, 137, 138, 139, 140, 141, 142, 143, 144, 145, 146, 147, 148, 149, 150, 151, 152, 153, 154, 155, 156, 157, 158, 159, 160, 161, 162, 163, 164, 165, 166] (fun x : Int × Value × (List Int) => match x with | (j, lv, l) => [(137, .int .i64 j), (16, lv)]) (fun (x : Int × Value × (List Int)) w' => match x with | (j, lv, l) => St w O w' [.row (tI .i64) 3 lv l, .row (tP (tI .i64) (tI .i64)) 23 v_59 [(p, p + 1), (p - s.2, p), (p - 1, p), (p, p + s.2)], .row (tSl (tI .i64)) 25 pv pts, .box g_53 32 [pv], .raw g_43 (.map (mE (pairV .i64) (Value.int .i64) (numV s.1 s.2) 0).toArray (numV s.1 s.2).length), .row (tI .i64) 3 hv (hgtV zs (s.1 * s.2)), Ob.v (tSl (tI .u8)) (List.take (s.1 * s.2).toNat zs) (.slice (some ⟨g_1, 0, none⟩) (s.1 * s.2).toNat 7), .box g_22 27 [.int .i64 s.1, .int .i64 s.2, hv], .box g_14 23 [.int .i64 ((ix (0, 0) sizeL (kind % 6)).1), .int .i64 ((ix (0, 0) sizeL (kind % 6)).2)], .row (tP (tI .i64) (tI .i64)) 23 v_5 sizeL] ∧ 0 ≤ j ∧ j ≤ 4 ∧ l = rowK (numV s.1 s.2) s.2 p j.toNat ∧ (l.length : Int) ≤ j) (fun x : Int × Value × (List Int) => match x with | (j, lv, l) => (4 - j).toNat) (0, (.slice none 0 0), []) ⟨rfl, rfl, trivial⟩ ⟨hS, (by first | omega | simp), (by first | omega | simp), (rfl), (by decide)⟩ ?_
        rintro ⟨j, lv, l⟩ u_63 w_62 ⟨hS, j0, j1, j2, j3⟩
        refine W.seq ?_
        refine W.reg ?_
        refine Wx.rd (v := .bool (decide (j < ([(p, p + 1), (p - s.2, p), (p - 1, p), (p, p + s.2)].length : Int)))) (rd_lss rfl rfl) rfl ?_
        refine Wx.nil ?_
        refine W.seq ?_
        refine W.condD rfl (fun c5 => ?_) (fun c5 => ?_)
        · -- yes
          have hj4 : j < 4 := by omega
          have hnv := num_val hs ((ix (0, 0) [(p, p + 1), (p - s.2, p), (p - 1, p), (p, p + s.2)] j).1, (ix (0, 0) [(p, p + 1), (p - s.2, p), (p - 1, p), (p, p + s.2)] j).2)
          refine W.skip ?_
          refine W.seq ?_
          refine W.block ?_
          refine W.seq ?_
          refine W.reg ?_
          refine Wx.indexR hS 1 rfl rfl rfl Tryz.underlying24 Tryz.sizeOf23 (by first | omega | (simp only [List.length_set, List.length_append, List.length_cons, List.length_nil, List.length_replicate]; omega)) (by first | omega | (simp only [List.length_set, List.length_append, List.length_cons, List.length_nil, List.length_replicate]; omega)) rfl (fun g_64 hg_65 => ?_)
          refine Wx.ex (rd_loadR' (0, 0) hS 1 rfl hg_65 rfl (by first | omega | (simp only [List.length_set, List.length_append, List.length_cons, List.length_nil, List.length_replicate]; omega)) (by first | omega | (simp only [List.length_set, List.length_append, List.length_cons, List.length_nil, List.length_replicate]; omega)) Tryz.isAgg23 Tryz.sizeOf23) rfl (fun v_66 hv_67 => ?_)
          obtain ⟨rfl, bd_68, bd_69⟩ := hv_67.i2
          have bd_68 := bd_i64 bd_68
          have bd_69 := bd_i64 bd_69
          refine Wx.alloc (cs := [.int .i64 0, .int .i64 0]) hS Tryz.zeroValue23 rfl rfl (fun g_70 w_71 hx_73 hb_72 hS => ?_)
          refine Wx.storeX (cs' := [.int .i64 ((ix (0, 0) [(p, p + 1), (p - s.2, p), (p - 1, p), (p, p + s.2)] j).1), .int .i64 ((ix (0, 0) [(p, p + 1), (p - s.2, p), (p - 1, p), (p, p + s.2)] j).2)]) (ds := [.int .i64 ((ix (0, 0) [(p, p + 1), (p - s.2, p), (p - 1, p), (p, p + s.2)] j).1), .int .i64 ((ix (0, 0) [(p, p + 1), (p - s.2, p), (p - 1, p), (p, p + s.2)] j).2)]) hS 0 rfl rfl rfl rfl Tryz.sizeOf23 (Nat.le_of_ble_eq_true rfl) (one_cons rfl (one_cons rfl one_nil)) rfl (fun w_74 hz_75 hS => ?_)
          refine Wx.nil ?_
          refine W.seq ?_
          refine W.reg ?_
          refine Wx.rd (v := .map (some g_43)) (rd_move rfl) rfl ?_
          refine Wx.rd (v := .agg #[.int .i64 ((ix (0, 0) [(p, p + 1), (p - s.2, p), (p - 1, p), (p, p + s.2)] j).1), .int .i64 ((ix (0, 0) [(p, p + 1), (p - s.2, p), (p - 1, p), (p, p + s.2)] j).2)]) (rd_loadXs (ds := [.int .i64 ((ix (0, 0) [(p, p + 1), (p - s.2, p), (p - 1, p), (p, p + s.2)] j).1), .int .i64 ((ix (0, 0) [(p, p + 1), (p - s.2, p), (p - 1, p), (p, p + s.2)] j).2)]) hS 0 rfl rfl rfl rfl Tryz.isAgg23 Tryz.sizeOf23) rfl ?_
          refine Wx.rd (v := .tuple #[.int .i64 (mget 0 (numV s.1 s.2) ((ix (0, 0) [(p, p + 1), (p - s.2, p), (p - 1, p), (p, p + s.2)] j).1, (ix (0, 0) [(p, p + 1), (p - s.2, p), (p - 1, p), (p, p + s.2)] j).2)), .bool ((mfind (numV s.1 s.2) ((ix (0, 0) [(p, p + 1), (p - s.2, p), (p - 1, p), (p, p + s.2)] j).1, (ix (0, 0) [(p, p + 1), (p - s.2, p), (p - 1, p), (p, p + s.2)] j).2) 0).isSome)]) (rd_lookupOk (m := (numV s.1 s.2)) (zv := 0) (k := ((ix (0, 0) [(p, p + 1), (p - s.2, p), (p - 1, p), (p, p + s.2)] j).1, (ix (0, 0) [(p, p + 1), (p - s.2, p), (p - 1, p), (p, p + s.2)] j).2)) (f := (pairV .i64)) (g := (Value.int .i64)) hS 5 rfl rfl rfl Tryz.underlying29 (KeyD.pair Tryz.underlying23 Tryz.underlying3 Tryz.sizeOf3) (fun _ => Tryz.zeroValue3 _)) rfl ?_
          refine Wx.rd (v := .tuple #[.int .i64 (mget 0 (numV s.1 s.2) ((ix (0, 0) [(p, p + 1), (p - s.2, p), (p - 1, p), (p, p + s.2)] j).1, (ix (0, 0) [(p, p + 1), (p - s.2, p), (p - 1, p), (p, p + s.2)] j).2)), .bool ((mfind (numV s.1 s.2) ((ix (0, 0) [(p, p + 1), (p - s.2, p), (p - 1, p), (p, p + s.2)] j).1, (ix (0, 0) [(p, p + 1), (p - s.2, p), (p - 1, p), (p, p + s.2)] j).2) 0).isSome)]) (rd_move rfl) rfl ?_
          refine Wx.rd (v := .int .i64 (mget 0 (numV s.1 s.2) ((ix (0, 0) [(p, p + 1), (p - s.2, p), (p - 1, p), (p, p + s.2)] j).1, (ix (0, 0) [(p, p + 1), (p - s.2, p), (p - 1, p), (p, p + s.2)] j).2))) (rd_extract rfl rfl) rfl ?_
          refine Wx.rd (v := .bool ((mfind (numV s.1 s.2) ((ix (0, 0) [(p, p + 1), (p - s.2, p), (p - 1, p), (p, p + s.2)] j).1, (ix (0, 0) [(p, p + 1), (p - s.2, p), (p - 1, p), (p, p + s.2)] j).2) 0).isSome)) (rd_extract rfl rfl) rfl ?_
          refine Wx.rd (v := .int .i64 (mget 0 (numV s.1 s.2) ((ix (0, 0) [(p, p + 1), (p - s.2, p), (p - 1, p), (p, p + s.2)] j).1, (ix (0, 0) [(p, p + 1), (p - s.2, p), (p - 1, p), (p, p + s.2)] j).2))) (rd_assign rfl) rfl ?_
          refine Wx.rd (v := .bool ((mfind (numV s.1 s.2) ((ix (0, 0) [(p, p + 1), (p - s.2, p), (p - 1, p), (p, p + s.2)] j).1, (ix (0, 0) [(p, p + 1), (p - s.2, p), (p - 1, p), (p, p + s.2)] j).2) 0).isSome)) (rd_assign rfl) rfl ?_
          refine Wx.nil ?_
          refine W.seq ?_
          refine W.reg ?_
          refine Wx.rd (v := .bool ((mfind (numV s.1 s.2) ((ix (0, 0) [(p, p + 1), (p - s.2, p), (p - 1, p), (p, p + s.2)] j).1, (ix (0, 0) [(p, p + 1), (p - s.2, p), (p - 1, p), (p, p + s.2)] j).2) 0).isSome)) (rd_move rfl) rfl ?_
          refine Wx.rd (v := .bool ((mfind (numV s.1 s.2) ((ix (0, 0) [(p, p + 1), (p - s.2, p), (p - 1, p), (p, p + s.2)] j).1, (ix (0, 0) [(p, p + 1), (p - s.2, p), (p - 1, p), (p, p + s.2)] j).2) 0).isSome)) (rd_move rfl) rfl ?_
          refine Wx.cut (X := Unit) 5 [149, 150, 151, 152, 153] (fun _ => [(153, .bool ((mfind (numV s.1 s.2) ((ix (0, 0) [(p, p + 1), (p - s.2, p), (p - 1, p), (p, p + s.2)] j).1, (ix (0, 0) [(p, p + 1), (p - s.2, p), (p - 1, p), (p, p + s.2)] j).2) 0).isSome && decide (((ix (0, 0) [(p, p + 1), (p - s.2, p), (p - 1, p), (p, p + s.2)] j).1) = p)))]) (fun _ w' => St w O w' [.box g_70 23 [.int .i64 ((ix (0, 0) [(p, p + 1), (p - s.2, p), (p - 1, p), (p, p + s.2)] j).1), .int .i64 ((ix (0, 0) [(p, p + 1), (p - s.2, p), (p - 1, p), (p, p + s.2)] j).2)], .row (tI .i64) 3 lv l, .row (tP (tI .i64) (tI .i64)) 23 v_59 [(p, p + 1), (p - s.2, p), (p - 1, p), (p, p + s.2)], .row (tSl (tI .i64)) 25 pv pts, .box g_53 32 [pv], .raw g_43 (.map (mE (pairV .i64) (Value.int .i64) (numV s.1 s.2) 0).toArray (numV s.1 s.2).length), .row (tI .i64) 3 hv (hgtV zs (s.1 * s.2)), Ob.v (tSl (tI .u8)) (List.take (s.1 * s.2).toNat zs) (.slice (some ⟨g_1, 0, none⟩) (s.1 * s.2).toNat 7), .box g_22 27 [.int .i64 s.1, .int .i64 s.2, hv], .box g_14 23 [.int .i64 ((ix (0, 0) sizeL (kind % 6)).1), .int .i64 ((ix (0, 0) sizeL (kind % 6)).2)], .row (tP (tI .i64) (tI .i64)) 23 v_5 sizeL]) ?_ ?_
          · rcases Bool.eq_false_or_eq_true ((mfind (numV s.1 s.2) ((ix (0, 0) [(p, p + 1), (p - s.2, p), (p - 1, p), (p, p + s.2)] j).1, (ix (0, 0) [(p, p + 1), (p - s.2, p), (p - 1, p), (p, p + s.2)] j).2) 0).isSome) with g_77 | g_77
            · -- True
              have gp_78 := g_77
              try simp only [Bool.and_eq_true, Bool.or_eq_true, Bool.not_eq_true', Bool.and_eq_false_iff, Bool.or_eq_false_iff, Bool.not_eq_false', decide_eq_true_eq, decide_eq_false_iff_not, not_or, Bool.false_eq_true, Bool.true_eq_false, false_or, or_false, not_false_eq_true] at gp_78
              refine Wx.gyes rfl rfl (congrArg Value.bool g_77) ?_
              refine Wx.rd (v := .pointer (some ⟨g_70, 0, none⟩)) (rd_indexArr (n := 0) rfl rfl Tryz.underlying23 Tryz.sizeOf3 (by decide) (by decide)) rfl ?_
              refine Wx.gyes rfl rfl (congrArg Value.bool g_77) ?_
              refine Wx.rd (v := .int .i64 ((ix (0, 0) [(p, p + 1), (p - s.2, p), (p - 1, p), (p, p + s.2)] j).1)) (rd_loadX hS 0 rfl rfl rfl Tryz.isAgg3) rfl ?_
              refine Wx.gyes rfl rfl (congrArg Value.bool g_77) ?_
              refine Wx.rd (v := .int .i64 p) (rd_move rfl) rfl ?_
              refine Wx.gyes rfl rfl (congrArg Value.bool g_77) ?_
              refine Wx.rd (v := .bool (decide (((ix (0, 0) [(p, p + 1), (p - s.2, p), (p - 1, p), (p, p + s.2)] j).1) = p))) (rd_eql rfl rfl) rfl ?_
              refine Wx.rd (v := .bool (decide (((ix (0, 0) [(p, p + 1), (p - s.2, p), (p - 1, p), (p, p + s.2)] j).1) = p))) (rd_pickT (congrArg Value.bool g_77) rfl) rfl ?_
              refine Wx.nil ⟨(), hS, ⟨?_, trivial⟩, Out.look rfl Out.refl⟩
              show Value.bool (decide (((ix (0, 0) [(p, p + 1), (p - s.2, p), (p - 1, p), (p, p + s.2)] j).1) = p)) = Value.bool ((mfind (numV s.1 s.2) ((ix (0, 0) [(p, p + 1), (p - s.2, p), (p - 1, p), (p, p + s.2)] j).1, (ix (0, 0) [(p, p + 1), (p - s.2, p), (p - 1, p), (p, p + s.2)] j).2) 0).isSome && decide (((ix (0, 0) [(p, p + 1), (p - s.2, p), (p - 1, p), (p, p + s.2)] j).1) = p))
              first | rw [g_77, Bool.true_and] | (rw [g_77]; rfl)
            · -- False
              have gp_79 := g_77
              try simp only [Bool.and_eq_true, Bool.or_eq_true, Bool.not_eq_true', Bool.and_eq_false_iff, Bool.or_eq_false_iff, Bool.not_eq_false', decide_eq_true_eq, decide_eq_false_iff_not, not_or, Bool.false_eq_true, Bool.true_eq_false, false_or, or_false, not_false_eq_true] at gp_79
              refine Wx.gnoB rfl rfl (congrArg Value.bool g_77) rfl rfl ?_
              refine Wx.gnoB rfl rfl (congrArg Value.bool g_77) rfl rfl ?_
              refine Wx.gnoB rfl rfl (congrArg Value.bool g_77) rfl rfl ?_
              refine Wx.gnoB rfl rfl (congrArg Value.bool g_77) rfl rfl ?_
              refine Wx.rd (v := .bool false) (rd_pickF (congrArg Value.bool g_77) rfl) rfl ?_
              refine Wx.nil ⟨(), hS, ⟨?_, trivial⟩, Out.look rfl Out.refl⟩
              show Value.bool false = Value.bool ((mfind (numV s.1 s.2) ((ix (0, 0) [(p, p + 1), (p - s.2, p), (p - 1, p), (p, p + s.2)] j).1, (ix (0, 0) [(p, p + 1), (p - s.2, p), (p - 1, p), (p, p + s.2)] j).2) 0).isSome && decide (((ix (0, 0) [(p, p + 1), (p - s.2, p), (p - 1, p), (p, p + s.2)] j).1) = p))
              first | rw [g_77, Bool.false_and] | (rw [g_77]; rfl)
          rintro ⟨⟩ u_81 w_80 hS
          refine Wx.nil ?_
          refine W.cond rfl (fun c6 => ?_) (fun c6 => ?_)
          · -- yes
            try simp only [Bool.and_eq_true, Bool.or_eq_true, Bool.not_eq_true', Bool.and_eq_false_iff, Bool.or_eq_false_iff, Bool.not_eq_false', decide_eq_true_eq, decide_eq_false_iff_not, not_or, Bool.false_eq_true, Bool.true_eq_false, false_or, or_false, not_false_eq_true] at c6
            refine W.reg ?_
            refine Wx.rd (v := lv) (rd_move rfl) rfl ?_
            refine Wx.rd (v := .int .i64 (mget 0 (numV s.1 s.2) ((ix (0, 0) [(p, p + 1), (p - s.2, p), (p - 1, p), (p, p + s.2)] j).1, (ix (0, 0) [(p, p + 1), (p - s.2, p), (p - 1, p), (p, p + s.2)] j).2))) (rd_move rfl) rfl ?_
            refine Wx.rd (v := .int .i64 (2 * (mget 0 (numV s.1 s.2) ((ix (0, 0) [(p, p + 1), (p - s.2, p), (p - 1, p), (p, p + s.2)] j).1, (ix (0, 0) [(p, p + 1), (p - s.2, p), (p - 1, p), (p, p + s.2)] j).2)))) (rd_mul rfl rfl (in_i64 (by omega) (by omega))) rfl ?_
            refine Wx.lit (t := (tI .i64)) (ys := [2 * (mget 0 (numV s.1 s.2) ((ix (0, 0) [(p, p + 1), (p - s.2, p), (p - 1, p), (p, p + s.2)] j).1, (ix (0, 0) [(p, p + 1), (p - s.2, p), (p - 1, p), (p, p + s.2)] j).2))]) (vs := [.int .i64 (2 * (mget 0 (numV s.1 s.2) ((ix (0, 0) [(p, p + 1), (p - s.2, p), (p - 1, p), (p, p + s.2)] j).1, (ix (0, 0) [(p, p + 1), (p - s.2, p), (p - 1, p), (p, p + s.2)] j).2)))]) elTa_25 hS rfl rfl ⟨(V.mkInt (in_i64 (by omega) (by omega))), trivial⟩ (by decide) rfl (fun v_82 w_83 hx_84 hS => ?_)
            refine Wx.append elTa_25 hS 2 rfl rfl rfl (Src.ofR hS 0 rfl) (by simp only [maxLen]; first | omega | (simp; omega) | simp) (by first | omega | (simp; omega) | simp) rfl (fun v_85 w_86 hz_87 hS => ?_)
            refine Wx.rd (v := v_85) (rd_assign rfl) rfl ?_
            refine Wx.nil ?_
            refine W.reg ?_
            refine Wx.rd (v := .int .i64 (j + 1)) (rd_add rfl rfl (in_i64 (by omega) (by omega))) rfl ?_
            refine Wx.rd (v := .int .i64 (j + 1)) (rd_move rfl) rfl ?_
            refine Wx.nil ?_
            refine ⟨(j + 1, v_85, l ++ [2 * (mget 0 (numV s.1 s.2) ((ix (0, 0) [(p, p + 1), (p - s.2, p), (p - 1, p), (p, p + s.2)] j).1, (ix (0, 0) [(p, p + 1), (p - s.2, p), (p - 1, p), (p, p + s.2)] j).2))]), (by show (4 - (j + 1)).toNat < (4 - j).toNat; omega), ?_, ?_, Out.look rfl (Out.hav rfl (Out.look rfl Out.self))⟩
            · exact ⟨St.tl (hS.tl), (by first | omega | assumption), (by first | omega | assumption), (by rw [row_next j0 hj4, ← j2, row_hit (x := (ix (0, 0) (fourE s.2 p) j)) c6.1, if_pos (show (ix (0, 0) (fourE s.2 p) j).1 = p from c6.2)] <;> rfl), (by simp only [List.length_append, List.length_cons, List.length_nil]; omega)⟩
            · exact ⟨rfl, rfl, trivial⟩
          · -- no
            try simp only [Bool.and_eq_true, Bool.or_eq_true, Bool.not_eq_true', Bool.and_eq_false_iff, Bool.or_eq_false_iff, Bool.not_eq_false', decide_eq_true_eq, decide_eq_false_iff_not, not_or, Bool.false_eq_true, Bool.true_eq_false, false_or, or_false, not_false_eq_true] at c6
            refine W.seq ?_
            refine W.reg ?_
            refine Wx.rd (v := .bool ((mfind (numV s.1 s.2) ((ix (0, 0) [(p, p + 1), (p - s.2, p), (p - 1, p), (p, p + s.2)] j).1, (ix (0, 0) [(p, p + 1), (p - s.2, p), (p - 1, p), (p, p + s.2)] j).2) 0).isSome)) (rd_move rfl) rfl ?_
            refine Wx.nil ?_
            refine W.cond rfl (fun c7 => ?_) (fun c7 => ?_)
            · -- yes
              try simp only [Bool.and_eq_true, Bool.or_eq_true, Bool.not_eq_true', Bool.and_eq_false_iff, Bool.or_eq_false_iff, Bool.not_eq_false', decide_eq_true_eq, decide_eq_false_iff_not, not_or, Bool.false_eq_true, Bool.true_eq_false, false_or, or_false, not_false_eq_true] at c7
              refine W.reg ?_
              refine Wx.rd (v := lv) (rd_move rfl) rfl ?_
              refine Wx.rd (v := .int .i64 (mget 0 (numV s.1 s.2) ((ix (0, 0) [(p, p + 1), (p - s.2, p), (p - 1, p), (p, p + s.2)] j).1, (ix (0, 0) [(p, p + 1), (p - s.2, p), (p - 1, p), (p, p + s.2)] j).2))) (rd_move rfl) rfl ?_
              refine Wx.rd (v := .int .i64 (2 * (mget 0 (numV s.1 s.2) ((ix (0, 0) [(p, p + 1), (p - s.2, p), (p - 1, p), (p, p + s.2)] j).1, (ix (0, 0) [(p, p + 1), (p - s.2, p), (p - 1, p), (p, p + s.2)] j).2)))) (rd_mul rfl rfl (in_i64 (by omega) (by omega))) rfl ?_
              refine Wx.rd (v := .int .i64 ((2 * (mget 0 (numV s.1 s.2) ((ix (0, 0) [(p, p + 1), (p - s.2, p), (p - 1, p), (p, p + s.2)] j).1, (ix (0, 0) [(p, p + 1), (p - s.2, p), (p - 1, p), (p, p + s.2)] j).2))) + 1)) (rd_add rfl rfl (in_i64 (by omega) (by omega))) rfl ?_
              refine Wx.lit (t := (tI .i64)) (ys := [(2 * (mget 0 (numV s.1 s.2) ((ix (0, 0) [(p, p + 1), (p - s.2, p), (p - 1, p), (p, p + s.2)] j).1, (ix (0, 0) [(p, p + 1), (p - s.2, p), (p - 1, p), (p, p + s.2)] j).2))) + 1]) (vs := [.int .i64 ((2 * (mget 0 (numV s.1 s.2) ((ix (0, 0) [(p, p + 1), (p - s.2, p), (p - 1, p), (p, p + s.2)] j).1, (ix (0, 0) [(p, p + 1), (p - s.2, p), (p - 1, p), (p, p + s.2)] j).2))) + 1)]) elTa_25 hS rfl rfl ⟨(V.mkInt (in_i64 (by omega) (by omega))), trivial⟩ (by decide) rfl (fun v_88 w_89 hx_90 hS => ?_)
              refine Wx.append elTa_25 hS 2 rfl rfl rfl (Src.ofR hS 0 rfl) (by simp only [maxLen]; first | omega | (simp; omega) | simp) (by first | omega | (simp; omega) | simp) rfl (fun v_91 w_92 hz_93 hS => ?_)
              refine Wx.rd (v := v_91) (rd_assign rfl) rfl ?_
              refine Wx.nil ?_
              refine W.reg ?_
              refine Wx.rd (v := .int .i64 (j + 1)) (rd_add rfl rfl (in_i64 (by omega) (by omega))) rfl ?_
              refine Wx.rd (v := .int .i64 (j + 1)) (rd_move rfl) rfl ?_
              refine Wx.nil ?_
              refine ⟨(j + 1, v_91, l ++ [(2 * (mget 0 (numV s.1 s.2) ((ix (0, 0) [(p, p + 1), (p - s.2, p), (p - 1, p), (p, p + s.2)] j).1, (ix (0, 0) [(p, p + 1), (p - s.2, p), (p - 1, p), (p, p + s.2)] j).2))) + 1]), (by show (4 - (j + 1)).toNat < (4 - j).toNat; omega), ?_, ?_, Out.look rfl (Out.hav rfl (Out.look rfl Out.self))⟩
              · exact ⟨St.tl (hS.tl), (by first | omega | assumption), (by first | omega | assumption), (by rw [row_next j0 hj4, ← j2, row_hit (x := (ix (0, 0) (fourE s.2 p) j)) c7, if_neg (show ¬ (ix (0, 0) (fourE s.2 p) j).1 = p from (by rcases c6 with q | q; exact absurd c7 (by rw [q]; decide); exact q))] <;> rfl), (by simp only [List.length_append, List.length_cons, List.length_nil]; omega)⟩
              · exact ⟨rfl, rfl, trivial⟩
            · -- no
              try simp only [Bool.and_eq_true, Bool.or_eq_true, Bool.not_eq_true', Bool.and_eq_false_iff, Bool.or_eq_false_iff, Bool.not_eq_false', decide_eq_true_eq, decide_eq_false_iff_not, not_or, Bool.false_eq_true, Bool.true_eq_false, false_or, or_false, not_false_eq_true] at c7
              refine W.skip ?_
              refine W.reg ?_
              refine Wx.rd (v := .int .i64 (j + 1)) (rd_add rfl rfl (in_i64 (by omega) (by omega))) rfl ?_
              refine Wx.rd (v := .int .i64 (j + 1)) (rd_move rfl) rfl ?_
              refine Wx.nil ?_
              refine ⟨(j + 1, lv, l), (by show (4 - (j + 1)).toNat < (4 - j).toNat; omega), ?_, ?_, Out.look rfl (Out.hav rfl (Out.look rfl Out.self))⟩
              · exact ⟨hS.tl, (by first | omega | assumption), (by first | omega | assumption), (by rw [row_next j0 hj4, ← j2]; exact (row_miss (x := (ix (0, 0) (fourE s.2 p) j)) c7).symm), (by omega)⟩
              · exact ⟨rfl, rfl, trivial⟩
        · -- no
          have hj5 : j = 4 := by simp at c5; omega
          have hsay : l = ix [] (gM s) p := by rw [j2, show j.toNat = 4 by omega]; exact (num_is hs).r p m0 hpg
          rw [hsay] at hS
          refine W.exit rfl ?_
          refine W.reg ?_
          refine Wx.rd (v := .pointer (some ⟨g_53, 0, none⟩)) (rd_fieldAddr rfl foTa_32_0) rfl ?_
          refine Wx.rd (v := pv) (rd_loadX hS 3 rfl rfl rfl Tryz.isAgg30) rfl ?_
          refine Wx.rd (v := lv) (rd_move rfl) rfl ?_
          have hS := hS.freeze 0 rfl
          refine Wx.lit (t := (tSl (tI .i64))) (ys := [ix [] (gM s) p]) (vs := [lv]) elTa_30 hS rfl rfl ⟨(hS.v 0 rfl), trivial⟩ (by decide) rfl (fun v_95 w_96 hx_97 hS => ?_)
          refine Wx.append elTa_30 hS 3 rfl rfl rfl (Src.ofR hS 0 rfl) (by simp only [maxLen]; first | omega | (simp; omega) | simp) (by first | omega | (simp; omega) | simp) rfl (fun v_98 w_99 hz_100 hS => ?_)
          refine Wx.rd (v := .pointer (some ⟨g_53, 0, none⟩)) (rd_fieldAddr rfl foTa_32_0) rfl ?_
          refine Wx.storeX (cs' := [v_98]) (ds := [v_98]) hS 4 rfl rfl rfl (Go.Wk.cells_one (hS.rowOne 3 rfl)) Tryz.sizeOf30 (Nat.le_of_ble_eq_true rfl) (one_cons (hS.rowOne 3 rfl) one_nil) rfl (fun w_101 hz_102 hS => ?_)
          refine Wx.nil ?_
          refine W.reg ?_
          refine Wx.rd (v := .int .i64 (p + 1)) (rd_add rfl rfl (in_i64 (by omega) (by omega))) rfl ?_
          refine Wx.rd (v := .int .i64 (p + 1)) (rd_move rfl) rfl ?_
          refine Wx.nil ?_
          refine ⟨(p + 1, v_98, pts ++ [ix [] (gM s) p]), (by show (s.1 * s.2 - (p + 1)).toNat < (s.1 * s.2 - p).toNat; omega), ?_, ?_, Out.look rfl (Out.hav rfl (Out.look rfl Out.self))⟩
          · exact ⟨St.tl (St.tl (hS.tl)), (by first | omega | assumption), (by first | omega | assumption), (by rw [take_ix (d := []) m0 (by have := (num_is hs).m; show p < ((gridM s.1 s.2).length : Int); omega), m2]), (by simp only [List.length_append, List.length_cons, List.length_nil]; omega)⟩
          · exact ⟨rfl, trivial⟩
      · -- no
        have hsay : pts = gM s := by rw [m2, List.take_of_length_le]; have := (num_is hs).m; show (gridM s.1 s.2).length ≤ _; omega
        rw [hsay] at hS
        have hS := hS.freeze 0 rfl
        refine W.exit rfl ?_
        refine W.seq ?_
        refine W.reg ?_
        refine Wx.rd (v := .agg #[pv]) (rd_loadXs (ds := [pv]) hS 1 rfl rfl rfl rfl Tryz.isAgg32 Tryz.sizeOf32) rfl ?_
        refine Wx.callF (run_callF Tryz.call4 rfl) (F4 (hS.v 0 rfl) hf.good.o hf.good.t hf.good.b (by rw [hf.par]; decide) hf.z (hG.ext hS.bel)) rfl ?_
        rintro r_104 w_105 hx_106 rfl
        have hS := hS.ext hx_106
        refine Wx.rd (v := .tuple #[.int .i64 (genT (tabV (gM s))), .int .i64 0]) (rd_move rfl) rfl ?_
        refine Wx.rd (v := .int .i64 0) (Rd.to (v := .int .i64 (genT (tabV (gM s)))) (rd_extract rfl rfl) (congrArg (Value.int .i64) (show (0 : Int) = (genT (tabV (gM s)) : Int) from hf.gen.symm).symm)) rfl ?_
        refine Wx.rd (v := .int .i64 0) (rd_extract rfl rfl) rfl ?_
        refine Wx.rd (v := .int .i64 0) (rd_assign rfl) rfl ?_
        refine Wx.rd (v := .int .i64 0) (rd_assign rfl) rfl ?_
        refine Wx.nil ?_
        refine W.seq ?_
        refine W.reg ?_
        refine Wx.rd (v := .agg #[pv]) (rd_loadXs (ds := [pv]) hS 1 rfl rfl rfl rfl Tryz.isAgg32 Tryz.sizeOf32) rfl ?_
        refine Wx.callF (run_callF Tryz.call5 rfl) (F5 (hS.v 0 rfl) hf.good.o hf.good.t) rfl ?_
        rintro r_107 w_108 hx_109 rfl
        have hS := hS.ext hx_109
        refine Wx.rd (v := .tuple #[.int .i64 (partT (tabV (gM s))), .int .i64 0]) (rd_move rfl) rfl ?_
        refine Wx.rd (v := .int .i64 1) (Rd.to (v := .int .i64 (partT (tabV (gM s)))) (rd_extract rfl rfl) (congrArg (Value.int .i64) (show (1 : Int) = (partT (tabV (gM s)) : Int) from hf.par.symm).symm)) rfl ?_
        refine Wx.rd (v := .int .i64 0) (rd_extract rfl rfl) rfl ?_
        refine Wx.rd (v := .int .i64 1) (rd_assign rfl) rfl ?_
        refine Wx.rd (v := .int .i64 0) (rd_assign rfl) rfl ?_
        refine Wx.nil ?_
        refine W.seq ?_
        refine W.reg ?_
        refine Wx.rd (v := .agg #[pv]) (rd_loadXs (ds := [pv]) hS 1 rfl rfl rfl rfl Tryz.isAgg32 Tryz.sizeOf32) rfl ?_
        refine Wx.callF (run_callF Tryz.call6 rfl) (F6 (hS.v 0 rfl) hf.good.o hf.good.t hf.good.b hS.fb_lt (hG.ext hS.bel)) rfl ?_
        rintro r_110 w_111 hx_112 ⟨v_113, rfl, hv_114⟩
        have hS := hS.pushFrO hx_112 hv_114
        refine Wx.rd (v := .tuple #[v_113, .int .i64 0]) (rd_move rfl) rfl ?_
        refine Wx.rd (v := v_113) (rd_extract rfl rfl) rfl ?_
        refine Wx.rd (v := .int .i64 0) (rd_extract rfl rfl) rfl ?_
        refine Wx.rd (v := v_113) (rd_assign rfl) rfl ?_
        refine Wx.rd (v := .int .i64 0) (rd_assign rfl) rfl ?_
        refine Wx.nil ?_
        refine W.seq ?_
        refine W.reg ?_
        refine Wx.rd (v := .agg #[pv]) (rd_loadXs (ds := [pv]) hS 2 rfl rfl rfl rfl Tryz.isAgg32 Tryz.sizeOf32) rfl ?_
        refine Wx.callF (run_callF Tryz.call7 rfl) (F7 (hS.v 1 rfl) hf.good.o hf.good.t hf.lp hf.n1 hf.c1 hf.c2 hf.c3 (hG.ext hS.bel)) rfl ?_
        rintro r_116 w_117 hx_118 rfl
        have hS := hS.ext hx_118
        refine Wx.rd (v := .tuple #[.int .i64 2, .int .i64 0]) (rd_move rfl) rfl ?_
        refine Wx.rd (v := .int .i64 2) (rd_extract rfl rfl) rfl ?_
        refine Wx.rd (v := .int .i64 0) (rd_extract rfl rfl) rfl ?_
        refine Wx.rd (v := .int .i64 2) (rd_assign rfl) rfl ?_
        refine Wx.rd (v := .int .i64 0) (rd_assign rfl) rfl ?_
        refine Wx.nil ?_
        refine W.seq ?_
        refine W.reg ?_
        refine Wx.rd (v := .agg #[pv]) (rd_loadXs (ds := [pv]) hS 2 rfl rfl rfl rfl Tryz.isAgg32 Tryz.sizeOf32) rfl ?_
        refine Wx.callF (run_callF Tryz.call8 rfl) (F8 (hS.v 1 rfl) hf.good.o hf.good.t hf.lp hf.od hS.fb_lt (hG.ext hS.bel)) rfl ?_
        rintro r_119 w_120 hx_121 ⟨v_122, rfl, hv_123⟩
        have ln_125 := hv_123.len63
        have hS := hS.ext hx_121
        have hS := hS.add hv_123
        refine Wx.rd (v := .tuple #[v_122, .int .i64 13]) (rd_move rfl) rfl ?_
        refine Wx.rd (v := v_122) (rd_extract rfl rfl) rfl ?_
        refine Wx.rd (v := .int .i64 13) (rd_extract rfl rfl) rfl ?_
        refine Wx.rd (v := v_122) (rd_assign rfl) rfl ?_
        refine Wx.rd (v := .int .i64 13) (rd_assign rfl) rfl ?_
        refine Wx.nil ?_
        refine W.seq ?_
        refine W.seq ?_
        refine W.reg ?_
        refine Wx.rd (v := .int .i64 0) (rd_move rfl) rfl ?_
        refine Wx.rd (v := .bool false) (Rd.to (v := .bool (decide ((0 : Int) ≠ 0))) (rd_neq rfl rfl) rfl) rfl ?_
        refine Wx.rd (v := .bool false) (rd_move rfl) rfl ?_
        refine Wx.gyes rfl rfl rfl ?_
        refine Wx.rd (v := .int .i64 0) (rd_move rfl) rfl ?_
        refine Wx.gyes rfl rfl rfl ?_
        refine Wx.rd (v := .bool false) (Rd.to (v := .bool (decide ((0 : Int) ≠ 0))) (rd_neq rfl rfl) rfl) rfl ?_
        refine Wx.rd (v := .bool false) (rd_pickF rfl rfl) rfl ?_
        refine Wx.rd (v := .bool false) (rd_move rfl) rfl ?_
        refine Wx.gyes rfl rfl rfl ?_
        refine Wx.rd (v := .int .i64 0) (rd_move rfl) rfl ?_
        refine Wx.gyes rfl rfl rfl ?_
        refine Wx.rd (v := .bool false) (Rd.to (v := .bool (decide ((0 : Int) ≠ 0))) (rd_neq rfl rfl) rfl) rfl ?_
        refine Wx.rd (v := .bool false) (rd_pickF rfl rfl) rfl ?_
        refine Wx.rd (v := .bool false) (rd_move rfl) rfl ?_
        refine Wx.gyes rfl rfl rfl ?_
        refine Wx.rd (v := .int .i64 0) (rd_move rfl) rfl ?_
        refine Wx.gyes rfl rfl rfl ?_
        refine Wx.rd (v := .bool false) (Rd.to (v := .bool (decide ((0 : Int) ≠ 0))) (rd_neq rfl rfl) rfl) rfl ?_
        refine Wx.rd (v := .bool false) (rd_pickF rfl rfl) rfl ?_
        refine Wx.rd (v := .bool false) (rd_move rfl) rfl ?_
        refine Wx.gyes rfl rfl rfl ?_
        refine Wx.rd (v := .int .i64 13) (rd_move rfl) rfl ?_
        refine Wx.gyes rfl rfl rfl ?_
        refine Wx.rd (v := .bool false) (Rd.to (v := .bool (decide ((13 : Int) ≠ 13))) (rd_neq rfl rfl) rfl) rfl ?_
        refine Wx.rd (v := .bool false) (rd_pickF rfl rfl) rfl ?_
        refine Wx.rd (v := .bool false) (rd_move rfl) rfl ?_
        refine Wx.gyes rfl rfl rfl ?_
        refine Wx.rd (v := .int .i64 0) (rd_move rfl) rfl ?_
        refine Wx.gyes rfl rfl rfl ?_
        refine Wx.rd (v := .bool false) (Rd.to (v := .bool (decide ((0 : Int) ≠ 0))) (rd_neq rfl rfl) rfl) rfl ?_
        refine Wx.rd (v := .bool false) (rd_pickF rfl rfl) rfl ?_
        refine Wx.rd (v := .bool false) (rd_move rfl) rfl ?_
        refine Wx.gyes rfl rfl rfl ?_
        refine Wx.rd (v := .int .i64 1) (rd_move rfl) rfl ?_
        refine Wx.gyes rfl rfl rfl ?_
        refine Wx.rd (v := .bool false) (Rd.to (v := .bool (decide ((1 : Int) ≠ 1))) (rd_neq rfl rfl) rfl) rfl ?_
        refine Wx.rd (v := .bool false) (rd_pickF rfl rfl) rfl ?_
        refine Wx.rd (v := .bool false) (rd_move rfl) rfl ?_
        refine Wx.gyes rfl rfl rfl ?_
        refine Wx.rd (v := v_113) (rd_move rfl) rfl ?_
        refine Wx.gyes rfl rfl rfl ?_
        refine Wx.rd (v := .int .i64 ((cycV (teN (tabV (gM s))) (alngF (tabV (gM s)))).length : Int)) (rd_lenR hS 1 rfl rfl Tryz.underlying30) rfl ?_
        refine Wx.gyes rfl rfl rfl ?_
        refine Wx.rd (v := .int .i64 s.1) (rd_move rfl) rfl ?_
        refine Wx.gyes rfl rfl rfl ?_
        refine Wx.rd (v := .int .i64 (s.1 - 1)) (rd_sub rfl rfl (in_i64 (by omega) (by omega))) rfl ?_
        refine Wx.gyes rfl rfl rfl ?_
        refine Wx.rd (v := .int .i64 s.2) (rd_move rfl) rfl ?_
        refine Wx.gyes rfl rfl rfl ?_
        refine Wx.rd (v := .int .i64 (s.2 - 1)) (rd_sub rfl rfl (in_i64 (by omega) (by omega))) rfl ?_
        refine Wx.gyes rfl rfl rfl ?_
        refine Wx.rd (v := .int .i64 ((s.1 - 1) * (s.2 - 1))) (rd_mul rfl rfl (in_i64 (by omega) (by omega))) rfl ?_
        refine Wx.gyes rfl rfl rfl ?_
        refine Wx.rd (v := .int .i64 (((s.1 - 1) * (s.2 - 1)) + 1)) (rd_add rfl rfl (in_i64 (by omega) (by omega))) rfl ?_
        refine Wx.gyes rfl rfl rfl ?_
        refine Wx.rd (v := .bool false) (Rd.to (v := .bool (decide (((cycV (teN (tabV (gM s))) (alngF (tabV (gM s)))).length : Int) ≠ (((s.1 - 1) * (s.2 - 1)) + 1)))) (rd_neq rfl rfl) (congrArg (Value.bool) (show (false : Bool) = (decide (((cycV (teN (tabV (gM s))) (alngF (tabV (gM s)))).length : Int) ≠ (((s.1 - 1) * (s.2 - 1)) + 1)) : Bool) from (decide_eq_false (not_not_intro hf.fac)).symm).symm)) rfl ?_
        refine Wx.rd (v := .bool false) (rd_pickF rfl rfl) rfl ?_
        refine Wx.rd (v := .bool false) (rd_move rfl) rfl ?_
        refine Wx.gyes rfl rfl rfl ?_
        refine Wx.rd (v := .int .i64 2) (rd_move rfl) rfl ?_
        refine Wx.gyes rfl rfl rfl ?_
        refine Wx.rd (v := .bool false) (Rd.to (v := .bool (decide ((2 : Int) ≠ 2))) (rd_neq rfl rfl) rfl) rfl ?_
        refine Wx.rd (v := .bool false) (rd_pickF rfl rfl) rfl ?_
        refine Wx.nil ?_
        refine W.condF rfl rfl ?_
        refine W.skip ?_
        refine W.seq ?_
        refine W.reg ?_
        refine Wx.rd (v := .agg #[.int .i64 s.1, .int .i64 s.2, hv]) (rd_loadXs (ds := [.int .i64 s.1, .int .i64 s.2, hv]) hS 7 rfl rfl rfl rfl Tryz.isAgg27 Tryz.sizeOf27) rfl ?_
        have hS := hS.freeze 5 rfl
        refine Wx.callF (run_callF Tryz.call9 rfl) (F9 (in_i64 (by omega) (by omega)) (in_i64 (by omega) (by omega)) (hS.v 0 rfl) hS.fb_lt) rfl ?_
        rintro r_127 w_128 hx_129 ⟨v_130, rfl, hv_131⟩
        have hS := hS.pushFr hx_129 hv_131
        have htl := tree_cnt hsok
        refine Wx.rd (v := .tuple #[v_130, .int .i64 (checkS s.1 s.2 (hgtV zs (s.1 * s.2)))]) (rd_move rfl) rfl ?_
        refine Wx.rd (v := v_130) (rd_extract rfl rfl) rfl ?_
        refine Wx.rd (v := .int .i64 0) (Rd.to (v := .int .i64 (checkS s.1 s.2 (hgtV zs (s.1 * s.2)))) (rd_extract rfl rfl) (congrArg (Value.int .i64) (show (0 : Int) = (checkS s.1 s.2 (hgtV zs (s.1 * s.2)) : Int) from hch.symm).symm)) rfl ?_
        refine Wx.rd (v := v_130) (rd_assign rfl) rfl ?_
        refine Wx.rd (v := .int .i64 0) (rd_assign rfl) rfl ?_
        refine Wx.nil ?_
        refine W.seq ?_
        refine W.seq ?_
        refine W.reg ?_
        have hsay : treeE s.1 s.2 (hgtV zs (s.1 * s.2)) = treeV s.2 (hgtV zs (s.1 * s.2)) := tree_is hsok
        rw [hsay] at hS
        refine Wx.rd (v := .int .i64 0) (rd_move rfl) rfl ?_
        refine Wx.rd (v := .bool false) (Rd.to (v := .bool (decide ((0 : Int) ≠ 0))) (rd_neq rfl rfl) rfl) rfl ?_
        refine Wx.rd (v := .bool false) (rd_move rfl) rfl ?_
        refine Wx.gyes rfl rfl rfl ?_
        refine Wx.rd (v := v_130) (rd_move rfl) rfl ?_
        refine Wx.gyes rfl rfl rfl ?_
        refine Wx.rd (v := .int .i64 ((treeV s.2 (hgtV zs (s.1 * s.2))).length : Int)) (rd_lenR hS 0 rfl rfl Tryz.underlying24) rfl ?_
        refine Wx.gyes rfl rfl rfl ?_
        refine Wx.rd (v := .int .i64 (s.1 * s.2)) (rd_move rfl) rfl ?_
        refine Wx.gyes rfl rfl rfl ?_
        refine Wx.rd (v := .bool false) (Rd.to (v := .bool (decide (((treeV s.2 (hgtV zs (s.1 * s.2))).length : Int) ≠ (s.1 * s.2)))) (rd_neq rfl rfl) (congrArg (Value.bool) (show (false : Bool) = (decide (((treeV s.2 (hgtV zs (s.1 * s.2))).length : Int) ≠ (s.1 * s.2)) : Bool) from (decide_eq_false (not_not_intro (by omega))).symm).symm)) rfl ?_
        refine Wx.rd (v := .bool false) (rd_pickF rfl rfl) rfl ?_
        refine Wx.nil ?_
        refine W.condF rfl rfl ?_
        refine W.skip ?_
        refine W.seq ?_
        refine W.reg ?_
        refine Wx.rd (v := .int .i64 0) (rd_assign rfl) rfl ?_
        refine Wx.nil ?_
        refine W.seq ?_
        refine W.reg ?_
        refine Wx.makeMap hS rfl (fun g_134 w_133 hx_135 hS => ?_)
        have hS : St _ _ w_133 [.raw g_134 (.map (mE (Value.int .i64) Value.bool ([] : List (Int × Bool)) 0).toArray ([] : List (Int × Bool)).length), .row (tP (tI .i64) (tI .i64)) 23 v_130 (treeV s.2 (hgtV zs (s.1 * s.2))), Ob.v (tSl (tI .i64)) (hgtV zs (s.1 * s.2)) hv, Ob.v (tSl (tI .i64)) ([] : List Int) v_122, .row (tSl (tI .i64)) 25 v_113 (cycV (teN (tabV (gM s))) (alngF (tabV (gM s)))), Ob.v (tSl (tSl (tI .i64))) (gM s) pv, .box g_53 32 [pv], .raw g_43 (.map (mE (pairV .i64) (Value.int .i64) (numV s.1 s.2) 0).toArray (numV s.1 s.2).length), Ob.v (tSl (tI .u8)) (List.take (s.1 * s.2).toNat zs) (.slice (some ⟨g_1, 0, none⟩) (s.1 * s.2).toNat 7), .box g_22 27 [.int .i64 s.1, .int .i64 s.2, hv], .box g_14 23 [.int .i64 ((ix (0, 0) sizeL (kind % 6)).1), .int .i64 ((ix (0, 0) sizeL (kind % 6)).2)], .row (tP (tI .i64) (tI .i64)) 23 v_5 sizeL] := hS
        refine Wx.rd (v := .map (some g_134)) (rd_assign rfl) rfl ?_
        refine Wx.nil ?_
        refine W.seq ?_
        refine W.reg ?_
        refine Wx.rd (v := .int .i64 (s.1 * s.2)) (rd_move rfl) rfl ?_
        refine Wx.make (t := tBool) (zy := false) (m := ((s.1 * s.2).toNat)) elTa_44 rfl rfl (fun _ _ => rfl) hS (congrArg (Value.int .i64) (by omega)) (congrArg (Value.int .i64) (by omega)) (by omega) (by simp only [maxLen]; omega) rfl (fun v_136 w_137 hx_138 hS => ?_)
        refine Wx.rd (v := v_136) (rd_assign rfl) rfl ?_
        refine Wx.nil ?_
        refine W.seq ?_
        refine W.seq ?_
        refine W.reg ?_
        refine Wx.rd (v := v_136) (rd_move rfl) rfl ?_
        refine Wx.rd (v := .int .i64 ((List.replicate ((s.1 * s.2).toNat) false).length : Int)) (rd_lenR hS 0 rfl rfl Tryz.underlying44) rfl ?_
        refine Wx.rd (v := .int .i64 0) (rd_move rfl) rfl ?_
        refine Wx.nil ?_
        refine W.block ?_
        refine W.loop [35, 258, 259, 260, 261, 262, 263, 264] (fun x : Int × (List Bool) => match x with | (k, al) => [(258, .int .i64 k)]) (fun (x : Int × (List Bool)) w' => match x with | (k, al) => St w O w' [.row tBool 4 v_136 al, .raw g_134 (.map (mE (Value.int .i64) Value.bool ([] : List (Int × Bool)) 0).toArray ([] : List (Int × Bool)).length), .row (tP (tI .i64) (tI .i64)) 23 v_130 (treeV s.2 (hgtV zs (s.1 * s.2))), Ob.v (tSl (tI .i64)) (hgtV zs (s.1 * s.2)) hv, Ob.v (tSl (tI .i64)) ([] : List Int) v_122, .row (tSl (tI .i64)) 25 v_113 (cycV (teN (tabV (gM s))) (alngF (tabV (gM s)))), Ob.v (tSl (tSl (tI .i64))) (gM s) pv, .box g_53 32 [pv], .raw g_43 (.map (mE (pairV .i64) (Value.int .i64) (numV s.1 s.2) 0).toArray (numV s.1 s.2).length), Ob.v (tSl (tI .u8)) (List.take (s.1 * s.2).toNat zs) (.slice (some ⟨g_1, 0, none⟩) (s.1 * s.2).toNat 7), .box g_22 27 [.int .i64 s.1, .int .i64 s.2, hv], .box g_14 23 [.int .i64 ((ix (0, 0) sizeL (kind % 6)).1), .int .i64 ((ix (0, 0) sizeL (kind % 6)).2)], .row (tP (tI .i64) (tI .i64)) 23 v_5 sizeL] ∧ 0 ≤ k ∧ k ≤ s.1 * s.2 ∧ al = List.replicate k.toNat true ++ List.replicate (s.1 * s.2 - k).toNat false ∧ (al.length : Int) = s.1 * s.2) (fun x : Int × (List Bool) => match x with | (k, al) => (s.1 * s.2 - k).toNat) (0, List.replicate ((s.1 * s.2).toNat) false) ⟨rfl, trivial⟩ ⟨hS, (by first | omega | simp), (by first | omega | simp), (by rw [Int.sub_zero]; rfl), (by simp; omega)⟩ ?_
        rintro ⟨k, al⟩ u_142 w_141 ⟨hS, a0, a1, a2, a3⟩
        refine W.seq ?_
        refine W.reg ?_
        refine Wx.rd (v := .bool (decide (k < ((List.replicate ((s.1 * s.2).toNat) false).length : Int)))) (rd_lss rfl rfl) rfl ?_
        refine Wx.nil ?_
        refine W.seq ?_
        refine W.condD rfl (fun c10 => ?_) (fun c10 => ?_)
        · -- yes
          have hkn : k < s.1 * s.2 := by omega
          refine W.skip ?_
          refine W.seq ?_
          refine W.block ?_
          refine W.seq ?_
          refine W.reg ?_
          refine Wx.rd (v := .int .i64 k) (rd_move rfl) rfl ?_
          refine Wx.rd (v := .int .i64 k) (rd_assign rfl) rfl ?_
          refine Wx.nil ?_
          refine W.reg ?_
          refine Wx.rd (v := v_136) (rd_move rfl) rfl ?_
          refine Wx.rd (v := .int .i64 k) (rd_move rfl) rfl ?_
          refine Wx.indexR hS 0 rfl rfl rfl Tryz.underlying44 Tryz.sizeOf4 (by first | omega | (simp only [List.length_set, List.length_append, List.length_cons, List.length_nil, List.length_replicate]; omega)) (by first | omega | (simp only [List.length_set, List.length_append, List.length_cons, List.length_nil, List.length_replicate]; omega)) rfl (fun g_143 hg_144 => ?_)
          refine Wx.storeR (j := k.toNat) (z := true) hS 0 rfl hg_144 rfl (by first | omega | (simp only [List.length_set, List.length_append, List.length_cons, List.length_nil, List.length_replicate]; omega)) rfl ⟨[.bool true], rfl, rfl⟩ Tryz.sizeOf4 (fun w_145 hz_146 hS => ?_)
          refine Wx.nil ?_
          refine W.reg ?_
          refine Wx.rd (v := .int .i64 (k + 1)) (rd_add rfl rfl (in_i64 (by omega) (by omega))) rfl ?_
          refine Wx.rd (v := .int .i64 (k + 1)) (rd_move rfl) rfl ?_
          refine Wx.nil ?_
          refine ⟨(k + 1, List.set al k.toNat true), (by show (s.1 * s.2 - (k + 1)).toNat < (s.1 * s.2 - k).toNat; omega), ?_, ?_, Out.look rfl Out.self⟩
          · exact ⟨hS, (by first | omega | assumption), (by first | omega | assumption), (by rw [a2]; exact rep_set a0 hkn), (by rw [List.length_set]; exact a3)⟩
          · exact ⟨rfl, trivial⟩
        · -- no
          have hsay : al = List.replicate (s.1 * s.2).toNat true := by rw [a2, show k = s.1 * s.2 by omega, Int.sub_self]; simp
          rw [hsay] at hS
          refine W.exit rfl ?_
          refine W.seq ?_
          refine W.seq ?_
          refine W.reg ?_
          refine Wx.rd (v := v_130) (rd_move rfl) rfl ?_
          refine Wx.rd (v := .int .i64 ((treeV s.2 (hgtV zs (s.1 * s.2))).length : Int)) (rd_lenR hS 2 rfl rfl Tryz.underlying24) rfl ?_
          refine Wx.rd (v := .int .i64 0) (rd_move rfl) rfl ?_
          refine Wx.nil ?_
          refine W.block ?_
          refine W.loop [4, 32, 37, 38, 39, 267, 268, 269, 270, 271, 272, 273, 274, 275, 276, 277, 278, 279, 280, 281, 282, 283, 284, 285, 286, 287, 288, 289, 290, 291, 292, 293, 294, 295, 296, 297, 298, 299, 300, 301, 302, 303, 304, 305, 306, 307, 308, 309, 310, 311, 312, 313, 314, 315, 316] (fun x : Int × Int × (List Bool) × (List (Int × Bool)) => match x with | (river, i, al2, kept) => [(32, .int .i64 river), (267, .int .i64 i)]) (fun (x : Int × Int × (List Bool) × (List (Int × Bool))) w' => match x with | (river, i, al2, kept) => St w O w' [.row tBool 4 v_136 al2, .raw g_134 (.map (mE (Value.int .i64) Value.bool kept 0).toArray kept.length), .row (tP (tI .i64) (tI .i64)) 23 v_130 (treeV s.2 (hgtV zs (s.1 * s.2))), Ob.v (tSl (tI .i64)) (hgtV zs (s.1 * s.2)) hv, Ob.v (tSl (tI .i64)) ([] : List Int) v_122, .row (tSl (tI .i64)) 25 v_113 (cycV (teN (tabV (gM s))) (alngF (tabV (gM s)))), Ob.v (tSl (tSl (tI .i64))) (gM s) pv, .box g_53 32 [pv], .raw g_43 (.map (mE (pairV .i64) (Value.int .i64) (numV s.1 s.2) 0).toArray (numV s.1 s.2).length), Ob.v (tSl (tI .u8)) (List.take (s.1 * s.2).toNat zs) (.slice (some ⟨g_1, 0, none⟩) (s.1 * s.2).toNat 7), .box g_22 27 [.int .i64 s.1, .int .i64 s.2, hv], .box g_14 23 [.int .i64 ((ix (0, 0) sizeL (kind % 6)).1), .int .i64 ((ix (0, 0) sizeL (kind % 6)).2)], .row (tP (tI .i64) (tI .i64)) 23 v_5 sizeL] ∧ 0 ≤ i ∧ i ≤ s.1 * s.2 ∧ TgI s (hgtV zs (s.1 * s.2)) i river kept al2 ∧ 0 ≤ river ∧ river ≤ i) (fun x : Int × Int × (List Bool) × (List (Int × Bool)) => match x with | (river, i, al2, kept) => (s.1 * s.2 - i).toNat) (0, 0, List.replicate (s.1 * s.2).toNat true, ([] : List (Int × Bool))) ⟨rfl, rfl, trivial⟩ ⟨hS, (by first | omega | simp), (by first | omega | simp), (tg_start (by omega)), (by decide)⟩ ?_
          rintro ⟨river, i, al2, kept⟩ u_148 w_147 ⟨hS, i0, i1, i2, i3⟩
          refine W.seq ?_
          refine W.reg ?_
          refine Wx.rd (v := .bool (decide (i < ((treeV s.2 (hgtV zs (s.1 * s.2))).length : Int)))) (rd_lss rfl rfl) rfl ?_
          refine Wx.nil ?_
          refine W.seq ?_
          refine W.condD rfl (fun c11 => ?_) (fun c11 => ?_)
          · -- yes
            have hta := tg_at hsok i0 (show i < ((treeV s.2 (hgtV zs (s.1 * s.2))).length : Int) by omega)
            have hal := i2.2.2.1
            obtain ⟨⟨he1, he2, he3⟩, _⟩ := treeV_mem hsok hta.1
            refine W.skip ?_
            refine W.seq ?_
            refine W.block ?_
            refine W.seq ?_
            refine W.reg ?_
            refine Wx.indexR hS 2 rfl rfl rfl Tryz.underlying24 Tryz.sizeOf23 (by first | omega | (simp only [List.length_set, List.length_append, List.length_cons, List.length_nil, List.length_replicate]; omega)) (by first | omega | (simp only [List.length_set, List.length_append, List.length_cons, List.length_nil, List.length_replicate]; omega)) rfl (fun g_149 hg_150 => ?_)
            refine Wx.ex (rd_loadR' (0, 0) hS 2 rfl hg_150 rfl (by first | omega | (simp only [List.length_set, List.length_append, List.length_cons, List.length_nil, List.length_replicate]; omega)) (by first | omega | (simp only [List.length_set, List.length_append, List.length_cons, List.length_nil, List.length_replicate]; omega)) Tryz.isAgg23 Tryz.sizeOf23) rfl (fun v_151 hv_152 => ?_)
            obtain ⟨rfl, bd_153, bd_154⟩ := hv_152.i2
            have bd_153 := bd_i64 bd_153
            have bd_154 := bd_i64 bd_154
            refine Wx.alloc (cs := [.int .i64 0, .int .i64 0]) hS Tryz.zeroValue23 rfl rfl (fun g_155 w_156 hx_158 hb_157 hS => ?_)
            refine Wx.storeX (cs' := [.int .i64 ((ix (0, 0) (treeV s.2 (hgtV zs (s.1 * s.2))) i).1), .int .i64 ((ix (0, 0) (treeV s.2 (hgtV zs (s.1 * s.2))) i).2)]) (ds := [.int .i64 ((ix (0, 0) (treeV s.2 (hgtV zs (s.1 * s.2))) i).1), .int .i64 ((ix (0, 0) (treeV s.2 (hgtV zs (s.1 * s.2))) i).2)]) hS 0 rfl rfl rfl rfl Tryz.sizeOf23 (Nat.le_of_ble_eq_true rfl) (one_cons rfl (one_cons rfl one_nil)) rfl (fun w_159 hz_160 hS => ?_)
            refine Wx.nil ?_
            refine W.seq ?_
            refine W.reg ?_
            refine Wx.rd (v := .map (some g_43)) (rd_move rfl) rfl ?_
            refine Wx.rd (v := .agg #[.int .i64 ((ix (0, 0) (treeV s.2 (hgtV zs (s.1 * s.2))) i).1), .int .i64 ((ix (0, 0) (treeV s.2 (hgtV zs (s.1 * s.2))) i).2)]) (rd_loadXs (ds := [.int .i64 ((ix (0, 0) (treeV s.2 (hgtV zs (s.1 * s.2))) i).1), .int .i64 ((ix (0, 0) (treeV s.2 (hgtV zs (s.1 * s.2))) i).2)]) hS 0 rfl rfl rfl rfl Tryz.isAgg23 Tryz.sizeOf23) rfl ?_
            refine Wx.rd (v := .tuple #[.int .i64 (mget 0 (numV s.1 s.2) ((ix (0, 0) (treeV s.2 (hgtV zs (s.1 * s.2))) i).1, (ix (0, 0) (treeV s.2 (hgtV zs (s.1 * s.2))) i).2)), .bool ((mfind (numV s.1 s.2) ((ix (0, 0) (treeV s.2 (hgtV zs (s.1 * s.2))) i).1, (ix (0, 0) (treeV s.2 (hgtV zs (s.1 * s.2))) i).2) 0).isSome)]) (rd_lookupOk (m := (numV s.1 s.2)) (zv := 0) (k := ((ix (0, 0) (treeV s.2 (hgtV zs (s.1 * s.2))) i).1, (ix (0, 0) (treeV s.2 (hgtV zs (s.1 * s.2))) i).2)) (f := (pairV .i64)) (g := (Value.int .i64)) hS 9 rfl rfl rfl Tryz.underlying29 (KeyD.pair Tryz.underlying23 Tryz.underlying3 Tryz.sizeOf3) (fun _ => Tryz.zeroValue3 _)) rfl ?_
            refine Wx.rd (v := .tuple #[.int .i64 (mget 0 (numV s.1 s.2) ((ix (0, 0) (treeV s.2 (hgtV zs (s.1 * s.2))) i).1, (ix (0, 0) (treeV s.2 (hgtV zs (s.1 * s.2))) i).2)), .bool ((mfind (numV s.1 s.2) ((ix (0, 0) (treeV s.2 (hgtV zs (s.1 * s.2))) i).1, (ix (0, 0) (treeV s.2 (hgtV zs (s.1 * s.2))) i).2) 0).isSome)]) (rd_move rfl) rfl ?_
            refine Wx.rd (v := .int .i64 (mget 0 (numV s.1 s.2) ((ix (0, 0) (treeV s.2 (hgtV zs (s.1 * s.2))) i).1, (ix (0, 0) (treeV s.2 (hgtV zs (s.1 * s.2))) i).2))) (rd_extract rfl rfl) rfl ?_
            refine Wx.rd (v := .bool ((mfind (numV s.1 s.2) ((ix (0, 0) (treeV s.2 (hgtV zs (s.1 * s.2))) i).1, (ix (0, 0) (treeV s.2 (hgtV zs (s.1 * s.2))) i).2) 0).isSome)) (rd_extract rfl rfl) rfl ?_
            refine Wx.rd (v := .int .i64 (mget 0 (numV s.1 s.2) ((ix (0, 0) (treeV s.2 (hgtV zs (s.1 * s.2))) i).1, (ix (0, 0) (treeV s.2 (hgtV zs (s.1 * s.2))) i).2))) (rd_assign rfl) rfl ?_
            refine Wx.rd (v := .bool ((mfind (numV s.1 s.2) ((ix (0, 0) (treeV s.2 (hgtV zs (s.1 * s.2))) i).1, (ix (0, 0) (treeV s.2 (hgtV zs (s.1 * s.2))) i).2) 0).isSome)) (rd_assign rfl) rfl ?_
            refine Wx.nil ?_
            refine W.block ?_
            refine W.seq ?_
            refine W.reg ?_
            refine Wx.rd (v := .pointer (some ⟨g_155, 1, none⟩)) (rd_indexArr (n := 1) rfl rfl Tryz.underlying23 Tryz.sizeOf3 (by decide) (by decide)) rfl ?_
            refine Wx.rd (v := .int .i64 ((ix (0, 0) (treeV s.2 (hgtV zs (s.1 * s.2))) i).2)) (rd_loadX hS 0 rfl rfl rfl Tryz.isAgg3) rfl ?_
            refine Wx.rd (v := .int .i64 (s.1 * s.2)) (rd_move rfl) rfl ?_
            refine Wx.rd (v := .bool (decide (((ix (0, 0) (treeV s.2 (hgtV zs (s.1 * s.2))) i).2) = (s.1 * s.2)))) (rd_eql rfl rfl) rfl ?_
            refine Wx.rd (v := .bool (decide (((ix (0, 0) (treeV s.2 (hgtV zs (s.1 * s.2))) i).2) = (s.1 * s.2)))) (rd_move rfl) rfl ?_
            refine Wx.cut (X := Unit) 7 [283, 284, 285, 286, 287, 288, 289] (fun _ => [(289, .bool (decide (((ix (0, 0) (treeV s.2 (hgtV zs (s.1 * s.2))) i).2) = (s.1 * s.2)) && decide (((s.1 * s.2) - s.2) ≤ ((ix (0, 0) (treeV s.2 (hgtV zs (s.1 * s.2))) i).1))))]) (fun _ w' => St w O w' [.box g_155 23 [.int .i64 ((ix (0, 0) (treeV s.2 (hgtV zs (s.1 * s.2))) i).1), .int .i64 ((ix (0, 0) (treeV s.2 (hgtV zs (s.1 * s.2))) i).2)], .row tBool 4 v_136 al2, .raw g_134 (.map (mE (Value.int .i64) Value.bool kept 0).toArray kept.length), .row (tP (tI .i64) (tI .i64)) 23 v_130 (treeV s.2 (hgtV zs (s.1 * s.2))), Ob.v (tSl (tI .i64)) (hgtV zs (s.1 * s.2)) hv, Ob.v (tSl (tI .i64)) ([] : List Int) v_122, .row (tSl (tI .i64)) 25 v_113 (cycV (teN (tabV (gM s))) (alngF (tabV (gM s)))), Ob.v (tSl (tSl (tI .i64))) (gM s) pv, .box g_53 32 [pv], .raw g_43 (.map (mE (pairV .i64) (Value.int .i64) (numV s.1 s.2) 0).toArray (numV s.1 s.2).length), Ob.v (tSl (tI .u8)) (List.take (s.1 * s.2).toNat zs) (.slice (some ⟨g_1, 0, none⟩) (s.1 * s.2).toNat 7), .box g_22 27 [.int .i64 s.1, .int .i64 s.2, hv], .box g_14 23 [.int .i64 ((ix (0, 0) sizeL (kind % 6)).1), .int .i64 ((ix (0, 0) sizeL (kind % 6)).2)], .row (tP (tI .i64) (tI .i64)) 23 v_5 sizeL]) ?_ ?_
            · rcases Bool.eq_false_or_eq_true (decide (((ix (0, 0) (treeV s.2 (hgtV zs (s.1 * s.2))) i).2) = (s.1 * s.2))) with g_162 | g_162
              · -- True
                have gp_163 := of_decide_eq_true g_162
                refine Wx.gyes rfl rfl (congrArg Value.bool g_162) ?_
                refine Wx.rd (v := .pointer (some ⟨g_155, 0, none⟩)) (rd_indexArr (n := 0) rfl rfl Tryz.underlying23 Tryz.sizeOf3 (by decide) (by decide)) rfl ?_
                refine Wx.gyes rfl rfl (congrArg Value.bool g_162) ?_
                refine Wx.rd (v := .int .i64 ((ix (0, 0) (treeV s.2 (hgtV zs (s.1 * s.2))) i).1)) (rd_loadX hS 0 rfl rfl rfl Tryz.isAgg3) rfl ?_
                refine Wx.gyes rfl rfl (congrArg Value.bool g_162) ?_
                refine Wx.rd (v := .int .i64 (s.1 * s.2)) (rd_move rfl) rfl ?_
                refine Wx.gyes rfl rfl (congrArg Value.bool g_162) ?_
                refine Wx.rd (v := .int .i64 s.2) (rd_move rfl) rfl ?_
                refine Wx.gyes rfl rfl (congrArg Value.bool g_162) ?_
                refine Wx.rd (v := .int .i64 ((s.1 * s.2) - s.2)) (rd_sub rfl rfl (in_i64 (by omega) (by omega))) rfl ?_
                refine Wx.gyes rfl rfl (congrArg Value.bool g_162) ?_
                refine Wx.rd (v := .bool (decide (((s.1 * s.2) - s.2) ≤ ((ix (0, 0) (treeV s.2 (hgtV zs (s.1 * s.2))) i).1)))) (rd_geq rfl rfl) rfl ?_
                refine Wx.rd (v := .bool (decide (((s.1 * s.2) - s.2) ≤ ((ix (0, 0) (treeV s.2 (hgtV zs (s.1 * s.2))) i).1)))) (rd_pickT (congrArg Value.bool g_162) rfl) rfl ?_
                refine Wx.nil ⟨(), hS, ⟨?_, trivial⟩, Out.look rfl Out.refl⟩
                show Value.bool (decide (((s.1 * s.2) - s.2) ≤ ((ix (0, 0) (treeV s.2 (hgtV zs (s.1 * s.2))) i).1))) = Value.bool (decide (((ix (0, 0) (treeV s.2 (hgtV zs (s.1 * s.2))) i).2) = (s.1 * s.2)) && decide (((s.1 * s.2) - s.2) ≤ ((ix (0, 0) (treeV s.2 (hgtV zs (s.1 * s.2))) i).1)))
                first | rw [g_162, Bool.true_and] | (rw [g_162]; rfl)
              · -- False
                have gp_164 := of_decide_eq_false g_162
                refine Wx.gnoB rfl rfl (congrArg Value.bool g_162) rfl rfl ?_
                refine Wx.gnoB rfl rfl (congrArg Value.bool g_162) rfl rfl ?_
                refine Wx.gnoB rfl rfl (congrArg Value.bool g_162) rfl rfl ?_
                refine Wx.gnoB rfl rfl (congrArg Value.bool g_162) rfl rfl ?_
                refine Wx.gnoB rfl rfl (congrArg Value.bool g_162) rfl rfl ?_
                refine Wx.gnoB rfl rfl (congrArg Value.bool g_162) rfl rfl ?_
                refine Wx.rd (v := .bool false) (rd_pickF (congrArg Value.bool g_162) rfl) rfl ?_
                refine Wx.nil ⟨(), hS, ⟨?_, trivial⟩, Out.look rfl Out.refl⟩
                show Value.bool false = Value.bool (decide (((ix (0, 0) (treeV s.2 (hgtV zs (s.1 * s.2))) i).2) = (s.1 * s.2)) && decide (((s.1 * s.2) - s.2) ≤ ((ix (0, 0) (treeV s.2 (hgtV zs (s.1 * s.2))) i).1)))
                first | rw [g_162, Bool.false_and] | (rw [g_162]; rfl)
            rintro ⟨⟩ u_166 w_165 hS
            refine Wx.rd (v := .bool (decide (((ix (0, 0) (treeV s.2 (hgtV zs (s.1 * s.2))) i).2) = (s.1 * s.2)) && decide (((s.1 * s.2) - s.2) ≤ ((ix (0, 0) (treeV s.2 (hgtV zs (s.1 * s.2))) i).1)))) (rd_move rfl) rfl ?_
            refine Wx.cut (X := Unit) 5 [291, 292, 293, 294, 295] (fun _ => [(295, .bool ((decide (((ix (0, 0) (treeV s.2 (hgtV zs (s.1 * s.2))) i).2) = (s.1 * s.2)) && decide (((s.1 * s.2) - s.2) ≤ ((ix (0, 0) (treeV s.2 (hgtV zs (s.1 * s.2))) i).1))) && decide (((ix (0, 0) (treeV s.2 (hgtV zs (s.1 * s.2))) i).1) < (s.1 * s.2))))]) (fun _ w' => St w O w' [.box g_155 23 [.int .i64 ((ix (0, 0) (treeV s.2 (hgtV zs (s.1 * s.2))) i).1), .int .i64 ((ix (0, 0) (treeV s.2 (hgtV zs (s.1 * s.2))) i).2)], .row tBool 4 v_136 al2, .raw g_134 (.map (mE (Value.int .i64) Value.bool kept 0).toArray kept.length), .row (tP (tI .i64) (tI .i64)) 23 v_130 (treeV s.2 (hgtV zs (s.1 * s.2))), Ob.v (tSl (tI .i64)) (hgtV zs (s.1 * s.2)) hv, Ob.v (tSl (tI .i64)) ([] : List Int) v_122, .row (tSl (tI .i64)) 25 v_113 (cycV (teN (tabV (gM s))) (alngF (tabV (gM s)))), Ob.v (tSl (tSl (tI .i64))) (gM s) pv, .box g_53 32 [pv], .raw g_43 (.map (mE (pairV .i64) (Value.int .i64) (numV s.1 s.2) 0).toArray (numV s.1 s.2).length), Ob.v (tSl (tI .u8)) (List.take (s.1 * s.2).toNat zs) (.slice (some ⟨g_1, 0, none⟩) (s.1 * s.2).toNat 7), .box g_22 27 [.int .i64 s.1, .int .i64 s.2, hv], .box g_14 23 [.int .i64 ((ix (0, 0) sizeL (kind % 6)).1), .int .i64 ((ix (0, 0) sizeL (kind % 6)).2)], .row (tP (tI .i64) (tI .i64)) 23 v_5 sizeL]) ?_ ?_
            · rcases Bool.eq_false_or_eq_true (decide (((ix (0, 0) (treeV s.2 (hgtV zs (s.1 * s.2))) i).2) = (s.1 * s.2)) && decide (((s.1 * s.2) - s.2) ≤ ((ix (0, 0) (treeV s.2 (hgtV zs (s.1 * s.2))) i).1))) with g_167 | g_167
              · -- True
                have gp_168 := g_167
                try simp only [Bool.and_eq_true, Bool.or_eq_true, Bool.not_eq_true', Bool.and_eq_false_iff, Bool.or_eq_false_iff, Bool.not_eq_false', decide_eq_true_eq, decide_eq_false_iff_not, not_or, Bool.false_eq_true, Bool.true_eq_false, false_or, or_false, not_false_eq_true] at gp_168
                refine Wx.gyes rfl rfl (congrArg Value.bool g_167) ?_
                refine Wx.rd (v := .pointer (some ⟨g_155, 0, none⟩)) (rd_indexArr (n := 0) rfl rfl Tryz.underlying23 Tryz.sizeOf3 (by decide) (by decide)) rfl ?_
                refine Wx.gyes rfl rfl (congrArg Value.bool g_167) ?_
                refine Wx.rd (v := .int .i64 ((ix (0, 0) (treeV s.2 (hgtV zs (s.1 * s.2))) i).1)) (rd_loadX hS 0 rfl rfl rfl Tryz.isAgg3) rfl ?_
                refine Wx.gyes rfl rfl (congrArg Value.bool g_167) ?_
                refine Wx.rd (v := .int .i64 (s.1 * s.2)) (rd_move rfl) rfl ?_
                refine Wx.gyes rfl rfl (congrArg Value.bool g_167) ?_
                refine Wx.rd (v := .bool (decide (((ix (0, 0) (treeV s.2 (hgtV zs (s.1 * s.2))) i).1) < (s.1 * s.2)))) (rd_lss rfl rfl) rfl ?_
                refine Wx.rd (v := .bool (decide (((ix (0, 0) (treeV s.2 (hgtV zs (s.1 * s.2))) i).1) < (s.1 * s.2)))) (rd_pickT (congrArg Value.bool g_167) rfl) rfl ?_
                refine Wx.nil ⟨(), hS, ⟨?_, trivial⟩, Out.look rfl Out.refl⟩
                show Value.bool (decide (((ix (0, 0) (treeV s.2 (hgtV zs (s.1 * s.2))) i).1) < (s.1 * s.2))) = Value.bool ((decide (((ix (0, 0) (treeV s.2 (hgtV zs (s.1 * s.2))) i).2) = (s.1 * s.2)) && decide (((s.1 * s.2) - s.2) ≤ ((ix (0, 0) (treeV s.2 (hgtV zs (s.1 * s.2))) i).1))) && decide (((ix (0, 0) (treeV s.2 (hgtV zs (s.1 * s.2))) i).1) < (s.1 * s.2)))
                first | rw [g_167, Bool.true_and] | (rw [g_167]; rfl)
              · -- False
                have gp_169 := g_167
                try simp only [Bool.and_eq_true, Bool.or_eq_true, Bool.not_eq_true', Bool.and_eq_false_iff, Bool.or_eq_false_iff, Bool.not_eq_false', decide_eq_true_eq, decide_eq_false_iff_not, not_or, Bool.false_eq_true, Bool.true_eq_false, false_or, or_false, not_false_eq_true] at gp_169
                refine Wx.gnoB rfl rfl (congrArg Value.bool g_167) rfl rfl ?_
                refine Wx.gnoB rfl rfl (congrArg Value.bool g_167) rfl rfl ?_
                refine Wx.gnoB rfl rfl (congrArg Value.bool g_167) rfl rfl ?_
                refine Wx.gnoB rfl rfl (congrArg Value.bool g_167) rfl rfl ?_
                refine Wx.rd (v := .bool false) (rd_pickF (congrArg Value.bool g_167) rfl) rfl ?_
                refine Wx.nil ⟨(), hS, ⟨?_, trivial⟩, Out.look rfl Out.refl⟩
                show Value.bool false = Value.bool ((decide (((ix (0, 0) (treeV s.2 (hgtV zs (s.1 * s.2))) i).2) = (s.1 * s.2)) && decide (((s.1 * s.2) - s.2) ≤ ((ix (0, 0) (treeV s.2 (hgtV zs (s.1 * s.2))) i).1))) && decide (((ix (0, 0) (treeV s.2 (hgtV zs (s.1 * s.2))) i).1) < (s.1 * s.2)))
                first | rw [g_167, Bool.false_and] | (rw [g_167]; rfl)
            rintro ⟨⟩ u_171 w_170 hS
            refine Wx.rd (v := .bool ((decide (((ix (0, 0) (treeV s.2 (hgtV zs (s.1 * s.2))) i).2) = (s.1 * s.2)) && decide (((s.1 * s.2) - s.2) ≤ ((ix (0, 0) (treeV s.2 (hgtV zs (s.1 * s.2))) i).1))) && decide (((ix (0, 0) (treeV s.2 (hgtV zs (s.1 * s.2))) i).1) < (s.1 * s.2)))) (rd_assign rfl) rfl ?_
            refine Wx.nil ?_
            refine W.cond rfl (fun c12 => ?_) (fun c12 => ?_)
            · -- yes
              try simp only [Bool.and_eq_true, Bool.or_eq_true, Bool.not_eq_true', Bool.and_eq_false_iff, Bool.or_eq_false_iff, Bool.not_eq_false', decide_eq_true_eq, decide_eq_false_iff_not, not_or, Bool.false_eq_true, Bool.true_eq_false, false_or, or_false, not_false_eq_true] at c12
              refine W.reg ?_
              refine Wx.rd (v := .int .i64 river) (rd_move rfl) rfl ?_
              refine Wx.rd (v := .int .i64 (river + 1)) (rd_add rfl rfl (in_i64 (by omega) (by omega))) rfl ?_
              refine Wx.rd (v := .int .i64 (river + 1)) (rd_assign rfl) rfl ?_
              refine Wx.nil ?_
              refine W.reg ?_
              refine Wx.rd (v := .int .i64 (i + 1)) (rd_add rfl rfl (in_i64 (by omega) (by omega))) rfl ?_
              refine Wx.rd (v := .int .i64 (i + 1)) (rd_move rfl) rfl ?_
              refine Wx.nil ?_
              refine ⟨(river + 1, i + 1, al2, kept), (by show (s.1 * s.2 - (i + 1)).toNat < (s.1 * s.2 - i).toNat; omega), ?_, ?_, Out.look rfl (Out.hav rfl (Out.look rfl (Out.hav rfl (Out.look rfl Out.self))))⟩
              · exact ⟨hS.tl, (by first | omega | assumption), (by first | omega | assumption), (tg_river hsok hs i2 i0 (by omega) (by omega)), (by omega)⟩
              · exact ⟨rfl, rfl, trivial⟩
            · -- no
              try simp only [Bool.and_eq_true, Bool.or_eq_true, Bool.not_eq_true', Bool.and_eq_false_iff, Bool.or_eq_false_iff, Bool.not_eq_false', decide_eq_true_eq, decide_eq_false_iff_not, not_or, Bool.false_eq_true, Bool.true_eq_false, false_or, or_false, not_false_eq_true] at c12
              have hne : (ix (0, 0) (treeV s.2 (hgtV zs (s.1 * s.2))) i).2 ≠ ((hgtV zs (s.1 * s.2)).length : Int) := fun q => by have hb := tree_bank hsok hta.1 q; rcases c12 with (c | c) | c <;> omega
              obtain ⟨jl, hjl, hje⟩ := tg_where hsok i0 (show i < ((treeV s.2 (hgtV zs (s.1 * s.2))).length : Int) by omega) hne
              have hnf := num_find hs hjl
              rw [hje] at hnf
              have hmg : mget 0 (numV s.1 s.2) (ix (0, 0) (treeV s.2 (hgtV zs (s.1 * s.2))) i) = (jl : Int) := by rw [mfind_get 0 _ _ 0, hnf]; rfl
              have htn := tg_line hsok hs i2 i0 (show i < ((treeV s.2 (hgtV zs (s.1 * s.2))).length : Int) by omega) hjl hje rfl rfl
              have hsm : (mfind (numV s.1 s.2) ((ix (0, 0) (treeV s.2 (hgtV zs (s.1 * s.2))) i).1, (ix (0, 0) (treeV s.2 (hgtV zs (s.1 * s.2))) i).2) 0).isSome = true := by rw [show mfind (numV s.1 s.2) ((ix (0, 0) (treeV s.2 (hgtV zs (s.1 * s.2))) i).1, (ix (0, 0) (treeV s.2 (hgtV zs (s.1 * s.2))) i).2) 0 = some (jl, (jl : Int)) from hnf]; rfl
              have hmk : mget false kept (mget 0 (numV s.1 s.2) ((ix (0, 0) (treeV s.2 (hgtV zs (s.1 * s.2))) i).1, (ix (0, 0) (treeV s.2 (hgtV zs (s.1 * s.2))) i).2)) = false := by rw [show mget 0 (numV s.1 s.2) ((ix (0, 0) (treeV s.2 (hgtV zs (s.1 * s.2))) i).1, (ix (0, 0) (treeV s.2 (hgtV zs (s.1 * s.2))) i).2) = (jl : Int) from hmg]; exact htn.1
              refine W.seq ?_
              refine W.reg ?_
              refine Wx.rd (v := .bool ((mfind (numV s.1 s.2) ((ix (0, 0) (treeV s.2 (hgtV zs (s.1 * s.2))) i).1, (ix (0, 0) (treeV s.2 (hgtV zs (s.1 * s.2))) i).2) 0).isSome)) (rd_move rfl) rfl ?_
              refine Wx.rd (v := .bool ((mfind (numV s.1 s.2) ((ix (0, 0) (treeV s.2 (hgtV zs (s.1 * s.2))) i).1, (ix (0, 0) (treeV s.2 (hgtV zs (s.1 * s.2))) i).2) 0).isSome)) (rd_move rfl) rfl ?_
              refine Wx.cut (X := Unit) 5 [301, 302, 303, 304, 305] (fun _ => [(305, .bool ((mfind (numV s.1 s.2) ((ix (0, 0) (treeV s.2 (hgtV zs (s.1 * s.2))) i).1, (ix (0, 0) (treeV s.2 (hgtV zs (s.1 * s.2))) i).2) 0).isSome && !(mget false kept (mget 0 (numV s.1 s.2) ((ix (0, 0) (treeV s.2 (hgtV zs (s.1 * s.2))) i).1, (ix (0, 0) (treeV s.2 (hgtV zs (s.1 * s.2))) i).2)))))]) (fun _ w' => St w O w' [.box g_155 23 [.int .i64 ((ix (0, 0) (treeV s.2 (hgtV zs (s.1 * s.2))) i).1), .int .i64 ((ix (0, 0) (treeV s.2 (hgtV zs (s.1 * s.2))) i).2)], .row tBool 4 v_136 al2, .raw g_134 (.map (mE (Value.int .i64) Value.bool kept 0).toArray kept.length), .row (tP (tI .i64) (tI .i64)) 23 v_130 (treeV s.2 (hgtV zs (s.1 * s.2))), Ob.v (tSl (tI .i64)) (hgtV zs (s.1 * s.2)) hv, Ob.v (tSl (tI .i64)) ([] : List Int) v_122, .row (tSl (tI .i64)) 25 v_113 (cycV (teN (tabV (gM s))) (alngF (tabV (gM s)))), Ob.v (tSl (tSl (tI .i64))) (gM s) pv, .box g_53 32 [pv], .raw g_43 (.map (mE (pairV .i64) (Value.int .i64) (numV s.1 s.2) 0).toArray (numV s.1 s.2).length), Ob.v (tSl (tI .u8)) (List.take (s.1 * s.2).toNat zs) (.slice (some ⟨g_1, 0, none⟩) (s.1 * s.2).toNat 7), .box g_22 27 [.int .i64 s.1, .int .i64 s.2, hv], .box g_14 23 [.int .i64 ((ix (0, 0) sizeL (kind % 6)).1), .int .i64 ((ix (0, 0) sizeL (kind % 6)).2)], .row (tP (tI .i64) (tI .i64)) 23 v_5 sizeL]) ?_ ?_
              · rcases Bool.eq_false_or_eq_true ((mfind (numV s.1 s.2) ((ix (0, 0) (treeV s.2 (hgtV zs (s.1 * s.2))) i).1, (ix (0, 0) (treeV s.2 (hgtV zs (s.1 * s.2))) i).2) 0).isSome) with g_172 | g_172
                · -- True
                  have gp_173 := g_172
                  try simp only [Bool.and_eq_true, Bool.or_eq_true, Bool.not_eq_true', Bool.and_eq_false_iff, Bool.or_eq_false_iff, Bool.not_eq_false', decide_eq_true_eq, decide_eq_false_iff_not, not_or, Bool.false_eq_true, Bool.true_eq_false, false_or, or_false, not_false_eq_true] at gp_173
                  refine Wx.gyes rfl rfl (congrArg Value.bool g_172) ?_
                  refine Wx.rd (v := .map (some g_134)) (rd_move rfl) rfl ?_
                  refine Wx.gyes rfl rfl (congrArg Value.bool g_172) ?_
                  refine Wx.rd (v := .int .i64 (mget 0 (numV s.1 s.2) ((ix (0, 0) (treeV s.2 (hgtV zs (s.1 * s.2))) i).1, (ix (0, 0) (treeV s.2 (hgtV zs (s.1 * s.2))) i).2))) (rd_move rfl) rfl ?_
                  refine Wx.gyes rfl rfl (congrArg Value.bool g_172) ?_
                  refine Wx.rd (v := .bool (mget false kept (mget 0 (numV s.1 s.2) ((ix (0, 0) (treeV s.2 (hgtV zs (s.1 * s.2))) i).1, (ix (0, 0) (treeV s.2 (hgtV zs (s.1 * s.2))) i).2)))) (rd_lookup (m := kept) (zv := false) (k := (mget 0 (numV s.1 s.2) ((ix (0, 0) (treeV s.2 (hgtV zs (s.1 * s.2))) i).1, (ix (0, 0) (treeV s.2 (hgtV zs (s.1 * s.2))) i).2))) (f := (Value.int .i64)) (g := Value.bool) hS 2 rfl rfl rfl Tryz.underlying43 (KeyD.int Tryz.underlying3) (fun _ => Tryz.zeroValue4 _)) rfl ?_
                  refine Wx.gyes rfl rfl (congrArg Value.bool g_172) ?_
                  refine Wx.rd (v := .bool (!(mget false kept (mget 0 (numV s.1 s.2) ((ix (0, 0) (treeV s.2 (hgtV zs (s.1 * s.2))) i).1, (ix (0, 0) (treeV s.2 (hgtV zs (s.1 * s.2))) i).2))))) (rd_not rfl) rfl ?_
                  refine Wx.rd (v := .bool (!(mget false kept (mget 0 (numV s.1 s.2) ((ix (0, 0) (treeV s.2 (hgtV zs (s.1 * s.2))) i).1, (ix (0, 0) (treeV s.2 (hgtV zs (s.1 * s.2))) i).2))))) (rd_pickT (congrArg Value.bool g_172) rfl) rfl ?_
                  refine Wx.nil ⟨(), hS, ⟨?_, trivial⟩, Out.look rfl Out.refl⟩
                  show Value.bool (!(mget false kept (mget 0 (numV s.1 s.2) ((ix (0, 0) (treeV s.2 (hgtV zs (s.1 * s.2))) i).1, (ix (0, 0) (treeV s.2 (hgtV zs (s.1 * s.2))) i).2)))) = Value.bool ((mfind (numV s.1 s.2) ((ix (0, 0) (treeV s.2 (hgtV zs (s.1 * s.2))) i).1, (ix (0, 0) (treeV s.2 (hgtV zs (s.1 * s.2))) i).2) 0).isSome && !(mget false kept (mget 0 (numV s.1 s.2) ((ix (0, 0) (treeV s.2 (hgtV zs (s.1 * s.2))) i).1, (ix (0, 0) (treeV s.2 (hgtV zs (s.1 * s.2))) i).2))))
                  first | rw [g_172, Bool.true_and] | (rw [g_172]; rfl)
                · -- False
                  have gp_175 := g_172
                  try simp only [Bool.and_eq_true, Bool.or_eq_true, Bool.not_eq_true', Bool.and_eq_false_iff, Bool.or_eq_false_iff, Bool.not_eq_false', decide_eq_true_eq, decide_eq_false_iff_not, not_or, Bool.false_eq_true, Bool.true_eq_false, false_or, or_false, not_false_eq_true] at gp_175
                  refine Wx.gnoB rfl rfl (congrArg Value.bool g_172) rfl rfl ?_
                  refine Wx.gnoB rfl rfl (congrArg Value.bool g_172) rfl rfl ?_
                  refine Wx.gnoB rfl rfl (congrArg Value.bool g_172) rfl rfl ?_
                  refine Wx.gnoB rfl rfl (congrArg Value.bool g_172) rfl rfl ?_
                  refine Wx.rd (v := .bool false) (rd_pickF (congrArg Value.bool g_172) rfl) rfl ?_
                  refine Wx.nil ⟨(), hS, ⟨?_, trivial⟩, Out.look rfl Out.refl⟩
                  show Value.bool false = Value.bool ((mfind (numV s.1 s.2) ((ix (0, 0) (treeV s.2 (hgtV zs (s.1 * s.2))) i).1, (ix (0, 0) (treeV s.2 (hgtV zs (s.1 * s.2))) i).2) 0).isSome && !(mget false kept (mget 0 (numV s.1 s.2) ((ix (0, 0) (treeV s.2 (hgtV zs (s.1 * s.2))) i).1, (ix (0, 0) (treeV s.2 (hgtV zs (s.1 * s.2))) i).2))))
                  first | rw [g_172, Bool.false_and] | (rw [g_172]; rfl)
              rintro ⟨⟩ u_177 w_176 hS
              refine Wx.rd (v := .bool ((mfind (numV s.1 s.2) ((ix (0, 0) (treeV s.2 (hgtV zs (s.1 * s.2))) i).1, (ix (0, 0) (treeV s.2 (hgtV zs (s.1 * s.2))) i).2) 0).isSome && !(mget false kept (mget 0 (numV s.1 s.2) ((ix (0, 0) (treeV s.2 (hgtV zs (s.1 * s.2))) i).1, (ix (0, 0) (treeV s.2 (hgtV zs (s.1 * s.2))) i).2))))) (rd_assign rfl) rfl ?_
              refine Wx.nil ?_
              refine W.condT rfl (by rw [hsm, hmk]; rfl) ?_
              refine W.seq ?_
              refine W.reg ?_
              refine Wx.rd (v := .map (some g_134)) (rd_move rfl) rfl ?_
              refine Wx.rd (v := .int .i64 (mget 0 (numV s.1 s.2) ((ix (0, 0) (treeV s.2 (hgtV zs (s.1 * s.2))) i).1, (ix (0, 0) (treeV s.2 (hgtV zs (s.1 * s.2))) i).2))) (rd_move rfl) rfl ?_
              refine Wx.mapUpdate (m := kept) (k := (mget 0 (numV s.1 s.2) ((ix (0, 0) (treeV s.2 (hgtV zs (s.1 * s.2))) i).1, (ix (0, 0) (treeV s.2 (hgtV zs (s.1 * s.2))) i).2))) (v := true) (f := (Value.int .i64)) (g := Value.bool) hS 2 rfl rfl rfl rfl Tryz.underlying43 (KeyD.int Tryz.underlying3) (fun w_178 hz_179 hS => ?_)
              refine Wx.nil ?_
              refine W.cutK [308, 309, 310, 311, 312, 313, 314, 315] (fun (al3 : List Bool) => []) (fun (al3 : List Bool) w' => St w O w' [.box g_155 23 [.int .i64 ((ix (0, 0) (treeV s.2 (hgtV zs (s.1 * s.2))) i).1), .int .i64 ((ix (0, 0) (treeV s.2 (hgtV zs (s.1 * s.2))) i).2)], .row tBool 4 v_136 al3, .raw g_134 (.map (mE (Value.int .i64) Value.bool (mput kept (mget 0 (numV s.1 s.2) ((ix (0, 0) (treeV s.2 (hgtV zs (s.1 * s.2))) i).1, (ix (0, 0) (treeV s.2 (hgtV zs (s.1 * s.2))) i).2)) true) 0).toArray (mput kept (mget 0 (numV s.1 s.2) ((ix (0, 0) (treeV s.2 (hgtV zs (s.1 * s.2))) i).1, (ix (0, 0) (treeV s.2 (hgtV zs (s.1 * s.2))) i).2)) true).length), .row (tP (tI .i64) (tI .i64)) 23 v_130 (treeV s.2 (hgtV zs (s.1 * s.2))), Ob.v (tSl (tI .i64)) (hgtV zs (s.1 * s.2)) hv, Ob.v (tSl (tI .i64)) ([] : List Int) v_122, .row (tSl (tI .i64)) 25 v_113 (cycV (teN (tabV (gM s))) (alngF (tabV (gM s)))), Ob.v (tSl (tSl (tI .i64))) (gM s) pv, .box g_53 32 [pv], .raw g_43 (.map (mE (pairV .i64) (Value.int .i64) (numV s.1 s.2) 0).toArray (numV s.1 s.2).length), Ob.v (tSl (tI .u8)) (List.take (s.1 * s.2).toNat zs) (.slice (some ⟨g_1, 0, none⟩) (s.1 * s.2).toNat 7), .box g_22 27 [.int .i64 s.1, .int .i64 s.2, hv], .box g_14 23 [.int .i64 ((ix (0, 0) sizeL (kind % 6)).1), .int .i64 ((ix (0, 0) sizeL (kind % 6)).2)], .row (tP (tI .i64) (tI .i64)) 23 v_5 sizeL] ∧ al3 = (al2.set (ix (0, 0) (treeV s.2 (hgtV zs (s.1 * s.2))) i).1.toNat false).set (ix (0, 0) (treeV s.2 (hgtV zs (s.1 * s.2))) i).2.toNat false) ?_ ?_
              · -- up to the cut
                refine W.regZ (fun _ w' => St w O w' [.box g_155 23 [.int .i64 ((ix (0, 0) (treeV s.2 (hgtV zs (s.1 * s.2))) i).1), .int .i64 ((ix (0, 0) (treeV s.2 (hgtV zs (s.1 * s.2))) i).2)]]) mixedTa_ (fun w_180 hx_181 => ?_)
                have hS := hS.ext hx_181
                refine Wz.rd (v := v_136) 0 rfl (by kernel_rfl) (St.sub hS (List.Sublist.cons_cons _ (.cons _ (.cons _ (.cons _ (.cons _ (.cons _ (.cons _ (.cons _ (.cons _ (.cons _ (.cons _ (.cons _ (.cons _ (.cons _ (List.nil_sublist _)))))))))))))))) (fun _ hS => (rd_move rfl)) rfl ?_
                refine Wz.rd (v := v_136) 3 rfl (by kernel_rfl) (St.sub hS (List.Sublist.cons_cons _ (.cons _ (.cons _ (.cons _ (.cons _ (.cons _ (.cons _ (.cons _ (.cons _ (.cons _ (.cons _ (.cons _ (.cons _ (.cons _ (List.nil_sublist _)))))))))))))))) (fun _ hS => (rd_move rfl)) rfl ?_
                refine Wz.br [1, 4] (by kernel_rfl) (by decide) ⟨⟨_, rfl, ?_⟩, ⟨_, rfl, ?_⟩, trivial⟩
                · -- operation 1
                  refine Wx.rd (v := .pointer (some ⟨g_155, 0, none⟩)) (rd_indexArr (n := 0) rfl rfl Tryz.underlying23 Tryz.sizeOf3 (by decide) (by decide)) rfl ?_
                  refine Wx.nil ⟨(St.sub hS (List.Sublist.cons_cons _ (.cons _ (.cons _ (.cons _ (.cons _ (.cons _ (.cons _ (.cons _ (.cons _ (.cons _ (.cons _ (.cons _ (.cons _ (.cons _ (List.nil_sublist _)))))))))))))))), ?_⟩
                  refine Wz.rd (v := .int .i64 ((ix (0, 0) (treeV s.2 (hgtV zs (s.1 * s.2))) i).1)) 2 rfl (by kernel_rfl) (St.sub hS (List.Sublist.cons_cons _ (.cons _ (.cons _ (.cons _ (.cons _ (.cons _ (.cons _ (.cons _ (.cons _ (.cons _ (.cons _ (.cons _ (.cons _ (.cons _ (List.nil_sublist _)))))))))))))))) (fun _ hS => (rd_loadX hS 0 rfl rfl rfl Tryz.isAgg3)) rfl ?_
                  refine Wz.br [4, 6] (by kernel_rfl) (by decide) ⟨⟨_, rfl, ?_⟩, ⟨_, rfl, ?_⟩, trivial⟩
                  · -- operation 4
                    refine Wx.rd (v := .pointer (some ⟨g_155, 1, none⟩)) (rd_indexArr (n := 1) rfl rfl Tryz.underlying23 Tryz.sizeOf3 (by decide) (by decide)) rfl ?_
                    refine Wx.nil ⟨(St.sub hS (List.Sublist.cons_cons _ (.cons _ (.cons _ (.cons _ (.cons _ (.cons _ (.cons _ (.cons _ (.cons _ (.cons _ (.cons _ (.cons _ (.cons _ (.cons _ (List.nil_sublist _)))))))))))))))), ?_⟩
                    refine Wz.rd (v := .int .i64 ((ix (0, 0) (treeV s.2 (hgtV zs (s.1 * s.2))) i).2)) 5 rfl (by kernel_rfl) (St.sub hS (List.Sublist.cons_cons _ (.cons _ (.cons _ (.cons _ (.cons _ (.cons _ (.cons _ (.cons _ (.cons _ (.cons _ (.cons _ (.cons _ (.cons _ (.cons _ (List.nil_sublist _)))))))))))))))) (fun _ hS => (rd_loadX hS 0 rfl rfl rfl Tryz.isAgg3)) rfl ?_
                    refine Wz.br [6] (by kernel_rfl) (by decide) ⟨⟨_, rfl, ?_⟩, trivial⟩
                    refine Wx.indexR hS 1 rfl rfl rfl Tryz.underlying44 Tryz.sizeOf4 (by first | omega | (simp only [List.length_set, List.length_append, List.length_cons, List.length_nil, List.length_replicate]; omega)) (by first | omega | (simp only [List.length_set, List.length_append, List.length_cons, List.length_nil, List.length_replicate]; omega)) rfl (fun g_182 hg_183 => ?_)
                    refine Wx.nil ⟨(St.sub hS (List.Sublist.cons_cons _ (.cons _ (.cons _ (.cons _ (.cons _ (.cons _ (.cons _ (.cons _ (.cons _ (.cons _ (.cons _ (.cons _ (.cons _ (.cons _ (List.nil_sublist _)))))))))))))))), ?_⟩
                    refine Wz.br [7] (by kernel_rfl) (by decide) ⟨⟨_, rfl, ?_⟩, trivial⟩
                    refine Wx.storeR (j := ((ix (0, 0) (treeV s.2 (hgtV zs (s.1 * s.2))) i).1).toNat) (z := false) hS 1 rfl hg_183 rfl (by first | omega | (simp only [List.length_set, List.length_append, List.length_cons, List.length_nil, List.length_replicate]; omega)) rfl ⟨[.bool false], rfl, rfl⟩ Tryz.sizeOf4 (fun w_184 hz_185 hS => ?_)
                    refine Wx.nil ⟨(St.sub hS (List.Sublist.cons_cons _ (.cons _ (.cons _ (.cons _ (.cons _ (.cons _ (.cons _ (.cons _ (.cons _ (.cons _ (.cons _ (.cons _ (.cons _ (.cons _ (List.nil_sublist _)))))))))))))))), ?_⟩
                    refine Wz.br [8] (by kernel_rfl) (by decide) ⟨⟨_, rfl, ?_⟩, trivial⟩
                    refine Wx.indexR hS 1 rfl rfl rfl Tryz.underlying44 Tryz.sizeOf4 (by first | omega | (simp only [List.length_set, List.length_append, List.length_cons, List.length_nil, List.length_replicate]; omega)) (by first | omega | (simp only [List.length_set, List.length_append, List.length_cons, List.length_nil, List.length_replicate]; omega)) rfl (fun g_186 hg_187 => ?_)
                    refine Wx.nil ⟨(St.sub hS (List.Sublist.cons_cons _ (.cons _ (.cons _ (.cons _ (.cons _ (.cons _ (.cons _ (.cons _ (.cons _ (.cons _ (.cons _ (.cons _ (.cons _ (.cons _ (List.nil_sublist _)))))))))))))))), ?_⟩
                    refine Wz.br [9] (by kernel_rfl) (by decide) ⟨⟨_, rfl, ?_⟩, trivial⟩
                    refine Wx.storeR (j := ((ix (0, 0) (treeV s.2 (hgtV zs (s.1 * s.2))) i).2).toNat) (z := false) hS 1 rfl hg_187 rfl (by first | omega | (simp only [List.length_set, List.length_append, List.length_cons, List.length_nil, List.length_replicate]; omega)) rfl ⟨[.bool false], rfl, rfl⟩ Tryz.sizeOf4 (fun w_188 hz_189 hS => ?_)
                    refine Wx.nil ⟨(St.sub hS (List.Sublist.cons_cons _ (.cons _ (.cons _ (.cons _ (.cons _ (.cons _ (.cons _ (.cons _ (.cons _ (.cons _ (.cons _ (.cons _ (.cons _ (.cons _ (List.nil_sublist _)))))))))))))))), ?_⟩
                    refine Wz.done (by kernel_rfl) ?_
                    refine ⟨List.set (List.set al2 ((ix (0, 0) (treeV s.2 (hgtV zs (s.1 * s.2))) i).1).toNat false) ((ix (0, 0) (treeV s.2 (hgtV zs (s.1 * s.2))) i).2).toNat false, ?_, ?_, Out.look rfl Out.refl⟩
                    · exact ⟨hS, (rfl)⟩
                    · exact trivial
                  · -- operation 6
                    refine Wx.indexR hS 1 rfl rfl rfl Tryz.underlying44 Tryz.sizeOf4 (by first | omega | (simp only [List.length_set, List.length_append, List.length_cons, List.length_nil, List.length_replicate]; omega)) (by first | omega | (simp only [List.length_set, List.length_append, List.length_cons, List.length_nil, List.length_replicate]; omega)) rfl (fun g_190 hg_191 => ?_)
                    refine Wx.nil ⟨(St.sub hS (List.Sublist.cons_cons _ (.cons _ (.cons _ (.cons _ (.cons _ (.cons _ (.cons _ (.cons _ (.cons _ (.cons _ (.cons _ (.cons _ (.cons _ (.cons _ (List.nil_sublist _)))))))))))))))), ?_⟩
                    refine Wz.br [4, 7] (by kernel_rfl) (by decide) ⟨⟨_, rfl, ?_⟩, ⟨_, rfl, ?_⟩, trivial⟩
                    · -- operation 4
                      refine Wx.rd (v := .pointer (some ⟨g_155, 1, none⟩)) (rd_indexArr (n := 1) rfl rfl Tryz.underlying23 Tryz.sizeOf3 (by decide) (by decide)) rfl ?_
                      refine Wx.nil ⟨(St.sub hS (List.Sublist.cons_cons _ (.cons _ (.cons _ (.cons _ (.cons _ (.cons _ (.cons _ (.cons _ (.cons _ (.cons _ (.cons _ (.cons _ (.cons _ (.cons _ (List.nil_sublist _)))))))))))))))), ?_⟩
                      refine Wz.rd (v := .int .i64 ((ix (0, 0) (treeV s.2 (hgtV zs (s.1 * s.2))) i).2)) 5 rfl (by kernel_rfl) (St.sub hS (List.Sublist.cons_cons _ (.cons _ (.cons _ (.cons _ (.cons _ (.cons _ (.cons _ (.cons _ (.cons _ (.cons _ (.cons _ (.cons _ (.cons _ (.cons _ (List.nil_sublist _)))))))))))))))) (fun _ hS => (rd_loadX hS 0 rfl rfl rfl Tryz.isAgg3)) rfl ?_
                      refine Wz.br [7] (by kernel_rfl) (by decide) ⟨⟨_, rfl, ?_⟩, trivial⟩
                      refine Wx.storeR (j := ((ix (0, 0) (treeV s.2 (hgtV zs (s.1 * s.2))) i).1).toNat) (z := false) hS 1 rfl hg_191 rfl (by first | omega | (simp only [List.length_set, List.length_append, List.length_cons, List.length_nil, List.length_replicate]; omega)) rfl ⟨[.bool false], rfl, rfl⟩ Tryz.sizeOf4 (fun w_192 hz_193 hS => ?_)
                      refine Wx.nil ⟨(St.sub hS (List.Sublist.cons_cons _ (.cons _ (.cons _ (.cons _ (.cons _ (.cons _ (.cons _ (.cons _ (.cons _ (.cons _ (.cons _ (.cons _ (.cons _ (.cons _ (List.nil_sublist _)))))))))))))))), ?_⟩
                      refine Wz.br [8] (by kernel_rfl) (by decide) ⟨⟨_, rfl, ?_⟩, trivial⟩
                      refine Wx.indexR hS 1 rfl rfl rfl Tryz.underlying44 Tryz.sizeOf4 (by first | omega | (simp only [List.length_set, List.length_append, List.length_cons, List.length_nil, List.length_replicate]; omega)) (by first | omega | (simp only [List.length_set, List.length_append, List.length_cons, List.length_nil, List.length_replicate]; omega)) rfl (fun g_194 hg_195 => ?_)
                      refine Wx.nil ⟨(St.sub hS (List.Sublist.cons_cons _ (.cons _ (.cons _ (.cons _ (.cons _ (.cons _ (.cons _ (.cons _ (.cons _ (.cons _ (.cons _ (.cons _ (.cons _ (.cons _ (List.nil_sublist _)))))))))))))))), ?_⟩
                      refine Wz.br [9] (by kernel_rfl) (by decide) ⟨⟨_, rfl, ?_⟩, trivial⟩
                      refine Wx.storeR (j := ((ix (0, 0) (treeV s.2 (hgtV zs (s.1 * s.2))) i).2).toNat) (z := false) hS 1 rfl hg_195 rfl (by first | omega | (simp only [List.length_set, List.length_append, List.length_cons, List.length_nil, List.length_replicate]; omega)) rfl ⟨[.bool false], rfl, rfl⟩ Tryz.sizeOf4 (fun w_196 hz_197 hS => ?_)
                      refine Wx.nil ⟨(St.sub hS (List.Sublist.cons_cons _ (.cons _ (.cons _ (.cons _ (.cons _ (.cons _ (.cons _ (.cons _ (.cons _ (.cons _ (.cons _ (.cons _ (.cons _ (.cons _ (List.nil_sublist _)))))))))))))))), ?_⟩
                      refine Wz.done (by kernel_rfl) ?_
                      refine ⟨List.set (List.set al2 ((ix (0, 0) (treeV s.2 (hgtV zs (s.1 * s.2))) i).1).toNat false) ((ix (0, 0) (treeV s.2 (hgtV zs (s.1 * s.2))) i).2).toNat false, ?_, ?_, Out.look rfl Out.refl⟩
                      · exact ⟨hS, (rfl)⟩
                      · exact trivial
                    · -- operation 7
                      refine Wx.storeR (j := ((ix (0, 0) (treeV s.2 (hgtV zs (s.1 * s.2))) i).1).toNat) (z := false) hS 1 rfl hg_191 rfl (by first | omega | (simp only [List.length_set, List.length_append, List.length_cons, List.length_nil, List.length_replicate]; omega)) rfl ⟨[.bool false], rfl, rfl⟩ Tryz.sizeOf4 (fun w_198 hz_199 hS => ?_)
                      refine Wx.nil ⟨(St.sub hS (List.Sublist.cons_cons _ (.cons _ (.cons _ (.cons _ (.cons _ (.cons _ (.cons _ (.cons _ (.cons _ (.cons _ (.cons _ (.cons _ (.cons _ (.cons _ (List.nil_sublist _)))))))))))))))), ?_⟩
                      refine Wz.br [4] (by kernel_rfl) (by decide) ⟨⟨_, rfl, ?_⟩, trivial⟩
                      refine Wx.rd (v := .pointer (some ⟨g_155, 1, none⟩)) (rd_indexArr (n := 1) rfl rfl Tryz.underlying23 Tryz.sizeOf3 (by decide) (by decide)) rfl ?_
                      refine Wx.nil ⟨(St.sub hS (List.Sublist.cons_cons _ (.cons _ (.cons _ (.cons _ (.cons _ (.cons _ (.cons _ (.cons _ (.cons _ (.cons _ (.cons _ (.cons _ (.cons _ (.cons _ (List.nil_sublist _)))))))))))))))), ?_⟩
                      refine Wz.rd (v := .int .i64 ((ix (0, 0) (treeV s.2 (hgtV zs (s.1 * s.2))) i).2)) 5 rfl (by kernel_rfl) (St.sub hS (List.Sublist.cons_cons _ (.cons _ (.cons _ (.cons _ (.cons _ (.cons _ (.cons _ (.cons _ (.cons _ (.cons _ (.cons _ (.cons _ (.cons _ (.cons _ (List.nil_sublist _)))))))))))))))) (fun _ hS => (rd_loadX hS 0 rfl rfl rfl Tryz.isAgg3)) rfl ?_
                      refine Wz.br [8] (by kernel_rfl) (by decide) ⟨⟨_, rfl, ?_⟩, trivial⟩
                      refine Wx.indexR hS 1 rfl rfl rfl Tryz.underlying44 Tryz.sizeOf4 (by first | omega | (simp only [List.length_set, List.length_append, List.length_cons, List.length_nil, List.length_replicate]; omega)) (by first | omega | (simp only [List.length_set, List.length_append, List.length_cons, List.length_nil, List.length_replicate]; omega)) rfl (fun g_200 hg_201 => ?_)
                      refine Wx.nil ⟨(St.sub hS (List.Sublist.cons_cons _ (.cons _ (.cons _ (.cons _ (.cons _ (.cons _ (.cons _ (.cons _ (.cons _ (.cons _ (.cons _ (.cons _ (.cons _ (.cons _ (List.nil_sublist _)))))))))))))))), ?_⟩
                      refine Wz.br [9] (by kernel_rfl) (by decide) ⟨⟨_, rfl, ?_⟩, trivial⟩
                      refine Wx.storeR (j := ((ix (0, 0) (treeV s.2 (hgtV zs (s.1 * s.2))) i).2).toNat) (z := false) hS 1 rfl hg_201 rfl (by first | omega | (simp only [List.length_set, List.length_append, List.length_cons, List.length_nil, List.length_replicate]; omega)) rfl ⟨[.bool false], rfl, rfl⟩ Tryz.sizeOf4 (fun w_202 hz_203 hS => ?_)
                      refine Wx.nil ⟨(St.sub hS (List.Sublist.cons_cons _ (.cons _ (.cons _ (.cons _ (.cons _ (.cons _ (.cons _ (.cons _ (.cons _ (.cons _ (.cons _ (.cons _ (.cons _ (.cons _ (List.nil_sublist _)))))))))))))))), ?_⟩
                      refine Wz.done (by kernel_rfl) ?_
                      refine ⟨List.set (List.set al2 ((ix (0, 0) (treeV s.2 (hgtV zs (s.1 * s.2))) i).1).toNat false) ((ix (0, 0) (treeV s.2 (hgtV zs (s.1 * s.2))) i).2).toNat false, ?_, ?_, Out.look rfl Out.refl⟩
                      · exact ⟨hS, (rfl)⟩
                      · exact trivial
                · -- operation 4
                  refine Wx.rd (v := .pointer (some ⟨g_155, 1, none⟩)) (rd_indexArr (n := 1) rfl rfl Tryz.underlying23 Tryz.sizeOf3 (by decide) (by decide)) rfl ?_
                  refine Wx.nil ⟨(St.sub hS (List.Sublist.cons_cons _ (.cons _ (.cons _ (.cons _ (.cons _ (.cons _ (.cons _ (.cons _ (.cons _ (.cons _ (.cons _ (.cons _ (.cons _ (.cons _ (List.nil_sublist _)))))))))))))))), ?_⟩
                  refine Wz.rd (v := .int .i64 ((ix (0, 0) (treeV s.2 (hgtV zs (s.1 * s.2))) i).2)) 5 rfl (by kernel_rfl) (St.sub hS (List.Sublist.cons_cons _ (.cons _ (.cons _ (.cons _ (.cons _ (.cons _ (.cons _ (.cons _ (.cons _ (.cons _ (.cons _ (.cons _ (.cons _ (.cons _ (List.nil_sublist _)))))))))))))))) (fun _ hS => (rd_loadX hS 0 rfl rfl rfl Tryz.isAgg3)) rfl ?_
                  refine Wz.br [1] (by kernel_rfl) (by decide) ⟨⟨_, rfl, ?_⟩, trivial⟩
                  refine Wx.rd (v := .pointer (some ⟨g_155, 0, none⟩)) (rd_indexArr (n := 0) rfl rfl Tryz.underlying23 Tryz.sizeOf3 (by decide) (by decide)) rfl ?_
                  refine Wx.nil ⟨(St.sub hS (List.Sublist.cons_cons _ (.cons _ (.cons _ (.cons _ (.cons _ (.cons _ (.cons _ (.cons _ (.cons _ (.cons _ (.cons _ (.cons _ (.cons _ (.cons _ (List.nil_sublist _)))))))))))))))), ?_⟩
                  refine Wz.rd (v := .int .i64 ((ix (0, 0) (treeV s.2 (hgtV zs (s.1 * s.2))) i).1)) 2 rfl (by kernel_rfl) (St.sub hS (List.Sublist.cons_cons _ (.cons _ (.cons _ (.cons _ (.cons _ (.cons _ (.cons _ (.cons _ (.cons _ (.cons _ (.cons _ (.cons _ (.cons _ (.cons _ (List.nil_sublist _)))))))))))))))) (fun _ hS => (rd_loadX hS 0 rfl rfl rfl Tryz.isAgg3)) rfl ?_
                  refine Wz.br [6] (by kernel_rfl) (by decide) ⟨⟨_, rfl, ?_⟩, trivial⟩
                  refine Wx.indexR hS 1 rfl rfl rfl Tryz.underlying44 Tryz.sizeOf4 (by first | omega | (simp only [List.length_set, List.length_append, List.length_cons, List.length_nil, List.length_replicate]; omega)) (by first | omega | (simp only [List.length_set, List.length_append, List.length_cons, List.length_nil, List.length_replicate]; omega)) rfl (fun g_204 hg_205 => ?_)
                  refine Wx.nil ⟨(St.sub hS (List.Sublist.cons_cons _ (.cons _ (.cons _ (.cons _ (.cons _ (.cons _ (.cons _ (.cons _ (.cons _ (.cons _ (.cons _ (.cons _ (.cons _ (.cons _ (List.nil_sublist _)))))))))))))))), ?_⟩
                  refine Wz.br [7] (by kernel_rfl) (by decide) ⟨⟨_, rfl, ?_⟩, trivial⟩
                  refine Wx.storeR (j := ((ix (0, 0) (treeV s.2 (hgtV zs (s.1 * s.2))) i).1).toNat) (z := false) hS 1 rfl hg_205 rfl (by first | omega | (simp only [List.length_set, List.length_append, List.length_cons, List.length_nil, List.length_replicate]; omega)) rfl ⟨[.bool false], rfl, rfl⟩ Tryz.sizeOf4 (fun w_206 hz_207 hS => ?_)
                  refine Wx.nil ⟨(St.sub hS (List.Sublist.cons_cons _ (.cons _ (.cons _ (.cons _ (.cons _ (.cons _ (.cons _ (.cons _ (.cons _ (.cons _ (.cons _ (.cons _ (.cons _ (.cons _ (List.nil_sublist _)))))))))))))))), ?_⟩
                  refine Wz.br [8] (by kernel_rfl) (by decide) ⟨⟨_, rfl, ?_⟩, trivial⟩
                  refine Wx.indexR hS 1 rfl rfl rfl Tryz.underlying44 Tryz.sizeOf4 (by first | omega | (simp only [List.length_set, List.length_append, List.length_cons, List.length_nil, List.length_replicate]; omega)) (by first | omega | (simp only [List.length_set, List.length_append, List.length_cons, List.length_nil, List.length_replicate]; omega)) rfl (fun g_208 hg_209 => ?_)
                  refine Wx.nil ⟨(St.sub hS (List.Sublist.cons_cons _ (.cons _ (.cons _ (.cons _ (.cons _ (.cons _ (.cons _ (.cons _ (.cons _ (.cons _ (.cons _ (.cons _ (.cons _ (.cons _ (List.nil_sublist _)))))))))))))))), ?_⟩
                  refine Wz.br [9] (by kernel_rfl) (by decide) ⟨⟨_, rfl, ?_⟩, trivial⟩
                  refine Wx.storeR (j := ((ix (0, 0) (treeV s.2 (hgtV zs (s.1 * s.2))) i).2).toNat) (z := false) hS 1 rfl hg_209 rfl (by first | omega | (simp only [List.length_set, List.length_append, List.length_cons, List.length_nil, List.length_replicate]; omega)) rfl ⟨[.bool false], rfl, rfl⟩ Tryz.sizeOf4 (fun w_210 hz_211 hS => ?_)
                  refine Wx.nil ⟨(St.sub hS (List.Sublist.cons_cons _ (.cons _ (.cons _ (.cons _ (.cons _ (.cons _ (.cons _ (.cons _ (.cons _ (.cons _ (.cons _ (.cons _ (.cons _ (.cons _ (List.nil_sublist _)))))))))))))))), ?_⟩
                  refine Wz.done (by kernel_rfl) ?_
                  refine ⟨List.set (List.set al2 ((ix (0, 0) (treeV s.2 (hgtV zs (s.1 * s.2))) i).1).toNat false) ((ix (0, 0) (treeV s.2 (hgtV zs (s.1 * s.2))) i).2).toNat false, ?_, ?_, Out.look rfl Out.refl⟩
                  · exact ⟨hS, (rfl)⟩
                  · exact trivial
              rintro al3 u_213 w_212 ⟨hS, r3⟩
              refine W.reg ?_
              refine Wx.rd (v := .int .i64 (i + 1)) (rd_add rfl rfl (in_i64 (by omega) (by omega))) rfl ?_
              refine Wx.rd (v := .int .i64 (i + 1)) (rd_move rfl) rfl ?_
              refine Wx.nil ?_
              refine ⟨(river, i + 1, al3, mput kept (mget 0 (numV s.1 s.2) ((ix (0, 0) (treeV s.2 (hgtV zs (s.1 * s.2))) i).1, (ix (0, 0) (treeV s.2 (hgtV zs (s.1 * s.2))) i).2)) true), (by show (s.1 * s.2 - (i + 1)).toNat < (s.1 * s.2 - i).toNat; omega), ?_, ?_, Out.look rfl (Out.hav rfl (Out.look rfl (Out.hav rfl (Out.look rfl (Out.hav rfl (Out.look rfl (Out.hav rfl (Out.look rfl Out.self))))))))⟩
              · exact ⟨hS.tl, (by first | omega | assumption), (by first | omega | assumption), (by rw [hmg, r3]; exact htn.2), (by omega)⟩
              · exact ⟨rfl, rfl, trivial⟩
          · -- no
            obtain ⟨hrv, hkp, hal2, hcn⟩ := tg_end hsok hs i2 (by omega)
            refine W.exit rfl ?_
            refine W.seq ?_
            refine W.seq ?_
            refine W.reg ?_
            refine Wx.rd (v := .map (some g_43)) (rd_move rfl) rfl ?_
            refine Wx.rd (v := .int .i64 ((numV s.1 s.2).length : Int)) (rd_lenM (m := (numV s.1 s.2)) (f := (pairV .i64)) (g := (Value.int .i64)) hS 8 rfl rfl Tryz.underlying29) rfl ?_
            refine Wx.rd (v := .int .i64 (((numV s.1 s.2).length : Int) - 1)) (rd_sub rfl rfl (in_i64 (by omega) (by omega))) rfl ?_
            refine Wx.rd (v := .int .i64 (((numV s.1 s.2).length : Int) - 1)) (rd_assign rfl) rfl ?_
            refine Wx.nil ?_
            refine W.block ?_
            refine W.loop [4, 22, 40, 320, 321, 322, 323, 324, 325, 326, 327, 328, 329, 330, 331, 332, 333, 334, 335] (fun x : Int × Int × Value × (List (List Int)) => match x with | (er, k, pv2, ms) => [(22, .int .i64 er), (40, .int .i64 k)]) (fun (x : Int × Int × Value × (List (List Int))) w' => match x with | (er, k, pv2, ms) => St w O w' [.row tBool 4 v_136 al2, .raw g_134 (.map (mE (Value.int .i64) Value.bool kept 0).toArray kept.length), .row (tP (tI .i64) (tI .i64)) 23 v_130 (treeV s.2 (hgtV zs (s.1 * s.2))), Ob.v (tSl (tI .i64)) (hgtV zs (s.1 * s.2)) hv, Ob.v (tSl (tI .i64)) ([] : List Int) v_122, .row (tSl (tI .i64)) 25 v_113 (cycV (teN (tabV (gM s))) (alngF (tabV (gM s)))), Ob.v (tSl (tSl (tI .i64))) ms pv2, .box g_53 32 [pv2], .raw g_43 (.map (mE (pairV .i64) (Value.int .i64) (numV s.1 s.2) 0).toArray (numV s.1 s.2).length), Ob.v (tSl (tI .u8)) (List.take (s.1 * s.2).toNat zs) (.slice (some ⟨g_1, 0, none⟩) (s.1 * s.2).toNat 7), .box g_22 27 [.int .i64 s.1, .int .i64 s.2, hv], .box g_14 23 [.int .i64 ((ix (0, 0) sizeL (kind % 6)).1), .int .i64 ((ix (0, 0) sizeL (kind % 6)).2)], .row (tP (tI .i64) (tI .i64)) 23 v_5 sizeL] ∧ -1 ≤ k ∧ k < (numV s.1 s.2).length ∧ TcI s (hgtV zs (s.1 * s.2)) (k + 1).toNat ms ∧ er = 0) (fun x : Int × Int × Value × (List (List Int)) => match x with | (er, k, pv2, ms) => (k + 1).toNat) (0, ((numV s.1 s.2).length : Int) - 1, pv, gM s) ⟨rfl, rfl, trivial⟩ ⟨hS, (by first | omega | simp), (by first | omega | simp), (tci_start hs), (rfl)⟩ ?_
            rintro ⟨er, k, pv2, ms⟩ u_215 w_214 ⟨hS, u0, u1, u2, u3⟩
            refine W.seq ?_
            refine W.seq ?_
            refine W.reg ?_
            refine Wx.rd (v := .int .i64 k) (rd_move rfl) rfl ?_
            refine Wx.rd (v := .bool (decide (0 ≤ k))) (rd_geq rfl rfl) rfl ?_
            refine Wx.nil ?_
            refine W.condD rfl (fun c14 => ?_) (fun c14 => ?_)
            · -- yes
              have hkl : k.toNat < (lineL s.1 s.2).length := by have := num_len hs; omega
              have hkm := hkp k.toNat hkl
              rw [Int.toNat_of_nonneg (by omega)] at hkm
              have hgd := tci_good u2
              refine W.skip ?_
              refine W.seq ?_
              refine W.block ?_
              refine W.seq ?_
              refine W.reg ?_
              refine Wx.rd (v := .map (some g_134)) (rd_move rfl) rfl ?_
              refine Wx.rd (v := .int .i64 k) (rd_move rfl) rfl ?_
              refine Wx.rd (v := .bool (mget false kept k)) (rd_lookup (m := kept) (zv := false) (k := k) (f := (Value.int .i64)) (g := Value.bool) hS 1 rfl rfl rfl Tryz.underlying43 (KeyD.int Tryz.underlying3) (fun _ => Tryz.zeroValue4 _)) rfl ?_
              refine Wx.rd (v := .bool (!(mget false kept k))) (rd_not rfl) rfl ?_
              refine Wx.nil ?_
              refine W.cond rfl (fun c15 => ?_) (fun c15 => ?_)
              · -- yes
                try simp only [Bool.and_eq_true, Bool.or_eq_true, Bool.not_eq_true', Bool.and_eq_false_iff, Bool.or_eq_false_iff, Bool.not_eq_false', decide_eq_true_eq, decide_eq_false_iff_not, not_or, Bool.false_eq_true, Bool.true_eq_false, false_or, or_false, not_false_eq_true] at c15
                have hct := tci_cut (show 0 ≤ k by omega) u2 (by rw [← hkm]; simpa using c15)
                refine W.seq ?_
                refine W.reg ?_
                refine Wx.rd (v := .agg #[pv2]) (rd_loadXs (ds := [pv2]) hS 7 rfl rfl rfl rfl Tryz.isAgg32 Tryz.sizeOf32) rfl ?_
                refine Wx.rd (v := .int .i64 k) (rd_move rfl) rfl ?_
                refine Wx.callF (run_callF Tryz.call10 rfl) (F10 (hS.v 6 rfl) (in_i64 (by omega) (by omega)) hgd.o hgd.t hct.1.l hct.1.t hct.1.a hS.fb_lt) rfl ?_
                rintro r_217 w_218 hx_219 ⟨v_220, rfl, hv_221⟩
                have hS := hS.pushFrO hx_219 hv_221
                refine Wx.rd (v := .tuple #[.agg #[v_220], .int .i64 0]) (rd_move rfl) rfl ?_
                refine Wx.rd (v := .agg #[v_220]) (rd_extract rfl rfl) rfl ?_
                refine Wx.rd (v := .int .i64 0) (rd_extract rfl rfl) rfl ?_
                refine Wx.storeX (cs' := [v_220]) (ds := [v_220]) hS 8 rfl rfl rfl rfl Tryz.sizeOf32 (Nat.le_of_ble_eq_true rfl) (one_cons (hS.rowOne 0 rfl) one_nil) rfl (fun w_223 hz_224 hS => ?_)
                have hS := hS.freeze 0 rfl
                have hS := hS.drop 7
                have hS := hS.front 12 rfl
                have hS := hS.front 12 rfl
                have hS := hS.front 12 rfl
                have hS := hS.front 12 rfl
                have hS := hS.front 12 rfl
                have hS := hS.front 12 rfl
                have hS := hS.front 6 rfl
                have hS := hS.front 12 rfl
                have hS := hS.front 12 rfl
                have hS := hS.front 12 rfl
                have hS := hS.front 12 rfl
                have hS := hS.front 12 rfl
                have hS := hS.front 12 rfl
                have hS : St _ _ w_223 [.row tBool 4 v_136 al2, .raw g_134 (.map (mE (Value.int .i64) Value.bool kept 0).toArray kept.length), .row (tP (tI .i64) (tI .i64)) 23 v_130 (treeV s.2 (hgtV zs (s.1 * s.2))), Ob.v (tSl (tI .i64)) (hgtV zs (s.1 * s.2)) hv, Ob.v (tSl (tI .i64)) ([] : List Int) v_122, .row (tSl (tI .i64)) 25 v_113 (cycV (teN (tabV (gM s))) (alngF (tabV (gM s)))), Ob.v (tSl (tSl (tI .i64))) (cutV ms k) v_220, .box g_53 32 [v_220], .raw g_43 (.map (mE (pairV .i64) (Value.int .i64) (numV s.1 s.2) 0).toArray (numV s.1 s.2).length), Ob.v (tSl (tI .u8)) (List.take (s.1 * s.2).toNat zs) (.slice (some ⟨g_1, 0, none⟩) (s.1 * s.2).toNat 7), .box g_22 27 [.int .i64 s.1, .int .i64 s.2, hv], .box g_14 23 [.int .i64 ((ix (0, 0) sizeL (kind % 6)).1), .int .i64 ((ix (0, 0) sizeL (kind % 6)).2)], .row (tP (tI .i64) (tI .i64)) 23 v_5 sizeL] := hS
                refine Wx.rd (v := .int .i64 0) (rd_assign rfl) rfl ?_
                refine Wx.nil ?_
                refine W.seq ?_
                refine W.reg ?_
                refine Wx.rd (v := .int .i64 0) (rd_move rfl) rfl ?_
                refine Wx.rd (v := .bool false) (Rd.to (v := .bool (decide ((0 : Int) ≠ 0))) (rd_neq rfl rfl) rfl) rfl ?_
                refine Wx.nil ?_
                refine W.condF rfl rfl ?_
                refine W.skip ?_
                refine W.reg ?_
                refine Wx.rd (v := .int .i64 k) (rd_move rfl) rfl ?_
                refine Wx.rd (v := .int .i64 (k - 1)) (rd_sub rfl rfl (in_i64 (by omega) (by omega))) rfl ?_
                refine Wx.rd (v := .int .i64 (k - 1)) (rd_assign rfl) rfl ?_
                refine Wx.nil ?_
                refine ⟨(0, k - 1, v_220, cutV ms k), (by show ((k - 1) + 1).toNat < (k + 1).toNat; omega), ?_, ?_, Out.look rfl Out.self⟩
                · exact ⟨hS, (by first | omega | assumption), (by first | omega | assumption), (hct.2), (rfl)⟩
                · exact ⟨rfl, rfl, trivial⟩
              · -- no
                try simp only [Bool.and_eq_true, Bool.or_eq_true, Bool.not_eq_true', Bool.and_eq_false_iff, Bool.or_eq_false_iff, Bool.not_eq_false', decide_eq_true_eq, decide_eq_false_iff_not, not_or, Bool.false_eq_true, Bool.true_eq_false, false_or, or_false, not_false_eq_true] at c15
                have hke := tci_keep (show 0 ≤ k by omega) u2 (by rw [← hkm]; simpa using c15)
                refine W.skip ?_
                refine W.reg ?_
                refine Wx.rd (v := .int .i64 k) (rd_move rfl) rfl ?_
                refine Wx.rd (v := .int .i64 (k - 1)) (rd_sub rfl rfl (in_i64 (by omega) (by omega))) rfl ?_
                refine Wx.rd (v := .int .i64 (k - 1)) (rd_assign rfl) rfl ?_
                refine Wx.nil ?_
                refine ⟨(er, k - 1, pv2, ms), (by show ((k - 1) + 1).toNat < (k + 1).toNat; omega), ?_, ?_, Out.look rfl Out.self⟩
                · exact ⟨hS, (by first | omega | assumption), (by first | omega | assumption), (hke), (u3)⟩
                · exact ⟨rfl, rfl, trivial⟩
            · -- no
              have hgz := tci_good u2
              have hpe := tci_end hs hsok u2 (by omega)
              have hcn2 : ((al2.filter id).length : Int) = aloneN (s.1 * s.2) (keptL (lineL s.1 s.2) (kpL s (hgtV zs (s.1 * s.2)))) := congrArg _ hcn
              have hfl := List.length_filter_le id al2
              refine W.exit rfl ?_
              refine W.seq ?_
              refine W.reg ?_
              refine Wx.rd (v := .agg #[pv2]) (rd_loadXs (ds := [pv2]) hS 7 rfl rfl rfl rfl Tryz.isAgg32 Tryz.sizeOf32) rfl ?_
              refine Wx.callF (run_callF Tryz.call5 rfl) (F5 (hS.v 6 rfl) hgz.o hgz.t) rfl ?_
              rintro r_226 w_227 hx_228 rfl
              have hS := hS.ext hx_228
              refine Wx.rd (v := .tuple #[.int .i64 (partT (tabV ms)), .int .i64 0]) (rd_move rfl) rfl ?_
              refine Wx.rd (v := .int .i64 (partT (tabV ms))) (rd_extract rfl rfl) rfl ?_
              refine Wx.rd (v := .int .i64 0) (rd_extract rfl rfl) rfl ?_
              refine Wx.rd (v := .int .i64 (partT (tabV ms))) (rd_assign rfl) rfl ?_
              refine Wx.rd (v := .int .i64 0) (rd_assign rfl) rfl ?_
              refine Wx.nil ?_
              refine W.seq ?_
              refine W.seq ?_
              refine W.reg ?_
              refine Wx.rd (v := v_136) (rd_move rfl) rfl ?_
              refine Wx.rd (v := .int .i64 (al2.length : Int)) (rd_lenR hS 0 rfl rfl Tryz.underlying44) rfl ?_
              refine Wx.rd (v := .int .i64 0) (rd_move rfl) rfl ?_
              refine Wx.nil ?_
              refine W.block ?_
              refine W.loop [23, 42, 343, 344, 345, 346, 347, 348, 349, 350] (fun x : Int × Int => match x with | (pt, k) => [(23, .int .i64 pt), (343, .int .i64 k)]) (fun (x : Int × Int) w' => match x with | (pt, k) => St w O w' [.row tBool 4 v_136 al2, .raw g_134 (.map (mE (Value.int .i64) Value.bool kept 0).toArray kept.length), .row (tP (tI .i64) (tI .i64)) 23 v_130 (treeV s.2 (hgtV zs (s.1 * s.2))), Ob.v (tSl (tI .i64)) (hgtV zs (s.1 * s.2)) hv, Ob.v (tSl (tI .i64)) ([] : List Int) v_122, .row (tSl (tI .i64)) 25 v_113 (cycV (teN (tabV (gM s))) (alngF (tabV (gM s)))), Ob.v (tSl (tSl (tI .i64))) ms pv2, .box g_53 32 [pv2], .raw g_43 (.map (mE (pairV .i64) (Value.int .i64) (numV s.1 s.2) 0).toArray (numV s.1 s.2).length), Ob.v (tSl (tI .u8)) (List.take (s.1 * s.2).toNat zs) (.slice (some ⟨g_1, 0, none⟩) (s.1 * s.2).toNat 7), .box g_22 27 [.int .i64 s.1, .int .i64 s.2, hv], .box g_14 23 [.int .i64 ((ix (0, 0) sizeL (kind % 6)).1), .int .i64 ((ix (0, 0) sizeL (kind % 6)).2)], .row (tP (tI .i64) (tI .i64)) 23 v_5 sizeL] ∧ 0 ≤ k ∧ k ≤ al2.length ∧ pt = partT (tabV ms) + ((al2.take k.toNat).filter id).length ∧ -10 ≤ pt ∧ pt ≤ 10 + k) (fun x : Int × Int => match x with | (pt, k) => (al2.length - k).toNat) (partT (tabV ms), 0) ⟨rfl, rfl, trivial⟩ ⟨hS, (by first | omega | simp), (by first | omega | simp), (by simp), (by omega)⟩ ?_
              rintro ⟨pt, k⟩ u_230 w_229 ⟨hS, v0, v1, v2, v3⟩
              refine W.seq ?_
              refine W.reg ?_
              refine Wx.rd (v := .bool (decide (k < (al2.length : Int)))) (rd_lss rfl rfl) rfl ?_
              refine Wx.nil ?_
              refine W.seq ?_
              refine W.condD rfl (fun c17 => ?_) (fun c17 => ?_)
              · -- yes
                have hkl2 : k < (al2.length : Int) := by omega
                refine W.skip ?_
                refine W.seq ?_
                refine W.block ?_
                refine W.seq ?_
                refine W.reg ?_
                refine Wx.indexR hS 0 rfl rfl rfl Tryz.underlying44 Tryz.sizeOf4 (by first | omega | (simp only [List.length_set, List.length_append, List.length_cons, List.length_nil, List.length_replicate]; omega)) (by first | omega | (simp only [List.length_set, List.length_append, List.length_cons, List.length_nil, List.length_replicate]; omega)) rfl (fun g_231 hg_232 => ?_)
                refine Wx.ex (rd_loadR' false hS 0 rfl hg_232 rfl (by first | omega | (simp only [List.length_set, List.length_append, List.length_cons, List.length_nil, List.length_replicate]; omega)) (by first | omega | (simp only [List.length_set, List.length_append, List.length_cons, List.length_nil, List.length_replicate]; omega)) Tryz.isAgg4 Tryz.sizeOf4) rfl (fun v_233 hv_234 => ?_)
                obtain rfl := hv_234.bool
                refine Wx.rd (v := .bool (ix false al2 k)) (rd_assign rfl) rfl ?_
                refine Wx.nil ?_
                refine W.seq ?_
                refine W.reg ?_
                refine Wx.rd (v := .bool (ix false al2 k)) (rd_move rfl) rfl ?_
                refine Wx.nil ?_
                refine W.cond rfl (fun c18 => ?_) (fun c18 => ?_)
                · -- yes
                  try simp only [Bool.and_eq_true, Bool.or_eq_true, Bool.not_eq_true', Bool.and_eq_false_iff, Bool.or_eq_false_iff, Bool.not_eq_false', decide_eq_true_eq, decide_eq_false_iff_not, not_or, Bool.false_eq_true, Bool.true_eq_false, false_or, or_false, not_false_eq_true] at c18
                  refine W.reg ?_
                  refine Wx.rd (v := .int .i64 pt) (rd_move rfl) rfl ?_
                  refine Wx.rd (v := .int .i64 (pt + 1)) (rd_add rfl rfl (in_i64 (by omega) (by omega))) rfl ?_
                  refine Wx.rd (v := .int .i64 (pt + 1)) (rd_assign rfl) rfl ?_
                  refine Wx.nil ?_
                  refine W.reg ?_
                  refine Wx.rd (v := .int .i64 (k + 1)) (rd_add rfl rfl (in_i64 (by omega) (by omega))) rfl ?_
                  refine Wx.rd (v := .int .i64 (k + 1)) (rd_move rfl) rfl ?_
                  refine Wx.nil ?_
                  refine ⟨(pt + 1, k + 1), (by show (al2.length - (k + 1)).toNat < (al2.length - k).toNat; omega), ?_, ?_, Out.look rfl Out.self⟩
                  · exact ⟨hS, (by first | omega | assumption), (by first | omega | assumption), (by rw [cnt_next v0 hkl2, if_pos c18, v2]; omega), (by omega)⟩
                  · exact ⟨rfl, rfl, trivial⟩
                · -- no
                  try simp only [Bool.and_eq_true, Bool.or_eq_true, Bool.not_eq_true', Bool.and_eq_false_iff, Bool.or_eq_false_iff, Bool.not_eq_false', decide_eq_true_eq, decide_eq_false_iff_not, not_or, Bool.false_eq_true, Bool.true_eq_false, false_or, or_false, not_false_eq_true] at c18
                  refine W.skip ?_
                  refine W.reg ?_
                  refine Wx.rd (v := .int .i64 (k + 1)) (rd_add rfl rfl (in_i64 (by omega) (by omega))) rfl ?_
                  refine Wx.rd (v := .int .i64 (k + 1)) (rd_move rfl) rfl ?_
                  refine Wx.nil ?_
                  refine ⟨(pt, k + 1), (by show (al2.length - (k + 1)).toNat < (al2.length - k).toNat; omega), ?_, ?_, Out.look rfl Out.self⟩
                  · exact ⟨hS, (by first | omega | assumption), (by first | omega | assumption), (by rw [cnt_next v0 hkl2, if_neg (by rw [c18]; decide), v2]; omega), (by omega)⟩
                  · exact ⟨rfl, rfl, trivial⟩
              · -- no
                have hpr : pt = river := by rw [v2, List.take_of_length_le (by omega)]; omega
                refine W.exit rfl ?_
                refine W.seq ?_
                refine W.reg ?_
                refine Wx.rd (v := .int .i64 0) (rd_move rfl) rfl ?_
                refine Wx.rd (v := .bool true) (Rd.to (v := .bool (decide ((0 : Int) = 0))) (rd_eql rfl rfl) rfl) rfl ?_
                refine Wx.rd (v := .bool true) (rd_move rfl) rfl ?_
                refine Wx.gyes rfl rfl rfl ?_
                refine Wx.rd (v := .int .i64 pt) (rd_move rfl) rfl ?_
                refine Wx.gyes rfl rfl rfl ?_
                refine Wx.rd (v := .int .i64 river) (rd_move rfl) rfl ?_
                refine Wx.gyes rfl rfl rfl ?_
                refine Wx.rd (v := .bool true) (Rd.to (v := .bool (decide (pt = river))) (rd_eql rfl rfl) (congrArg (Value.bool) (show (true : Bool) = (decide (pt = river) : Bool) from (decide_eq_true hpr).symm).symm)) rfl ?_
                refine Wx.rd (v := .bool true) (rd_pickT rfl rfl) rfl ?_
                refine Wx.rd (v := .bool true) (rd_move rfl) rfl ?_
                refine Wx.gyes rfl rfl rfl ?_
                refine Wx.callF (run_callF Tryz.call11 rfl) (F11 (hG.ext hS.bel)) rfl ?_
                rintro r_235 w_236 hx_237 rfl
                have hS := hS.ext hx_237
                refine Wx.rd (v := .bool true) (rd_pickT rfl rfl) rfl ?_
                refine Wx.rd (v := .bool true) (rd_assign rfl) rfl ?_
                refine Wx.nil ?_
                exact W.ret ⟨.bool true, ResIs.one, hS.bel, rfl⟩
end Go.Proofs.YtdpdlplkngggoaaGreatDoor
