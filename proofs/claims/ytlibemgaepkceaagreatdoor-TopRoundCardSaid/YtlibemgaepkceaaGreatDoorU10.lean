/-
  WHAT IS PROVED HERE, TEXT BY TEXT (several texts of one prover, joined to one file; the conditions stand in each statement):
  * WHAT IS PROVED HERE: what functions hand back, each out of its own code; the conditions stand in each statement.
-/
import Derived.Test.YtlibemgaepkceaaGreatDoorProg
import Derived.Test.YtlibemgaepkceaaGreatDoorU4
import Derived.Test.YtlibemgaepkceaaGreatDoorU8
import Derived.Test.YtlibemgaepkceaaGreatDoorU9

set_option linter.unusedVariables false
set_option linter.unusedSimpArgs false

namespace Go.Proofs.YtlibemgaepkceaaGreatDoor
open Go.Wk Go.RowKit Go.Lib
set_option linter.unusedVariables false
set_option linter.unusedSimpArgs false
theorem elTc_24 : ElemI Tryz.prog 24 25 ((.slice none 0 0)) 1 24 := ElemI.of Tryz.underlying24 (by kernel_rfl) (by first | rfl | kernel_rfl) (by decide)
theorem elTc_25 : ElemI Tryz.prog 25 3 (.int .i64 0) 1 8 := ElemI.of Tryz.underlying25 (by kernel_rfl) (by first | rfl | kernel_rfl) (by decide)

set_option maxHeartbeats 4000000 in
set_option maxRecDepth 10000 in
theorem F3 {b : Int} {bys : List Int} {hs : List Int} {O : List (Option Nat)} {w : World} (i_b : InK .u8 b) (n_bys : bys.length = 42) (i_bys : ∀ z ∈ bys, InK .u8 z) (n_hs : hs.length = 7) (i_hs : ∀ z ∈ hs, InK .u8 z) (hO : ∀ b, some b ∈ O → b < w.heap.size) (hG : Laid w) : Calls Tryz.prog 3 #[.int .u8 b, .agg (List.map (Value.int .u8) bys).toArray, .agg (List.map (Value.int .u8) hs).toArray] w (Ret w (fun r _ => r = .bool true)) := by
  have b_b := bd_u8 i_b
  have hb0 := Int.emod_nonneg b (show (6 : Int) ≠ 0 by decide)
  have hb1 := Int.emod_lt_of_pos b (show (0 : Int) < 6 by decide)
  obtain ⟨n, hn⟩ : ∃ n : Nat, (n : Int) = 1 + b % 6 := ⟨(1 + b % 6).toNat, by omega⟩
  have hn6 : 1 ≤ n ∧ n ≤ 6 := ⟨by omega, by omega⟩
  have hwl := whV_len (n := n) (bys := bys)
  have hwh : WHOK (whV n bys).length (whV n bys) (deaV n hs) := by rw [hwl]; exact whok_of hn6 n_bys n_hs
  have hS := St.start w O hO
  refine enterR Tryz.func3 rfl Tryz.ntmps3 Tryz.results3 rfl ?_
  refine W.seq ?_
  refine W.reg ?_
  refine Wx.box (cs := List.map (Value.int .u8) bys) hS rfl rfl rfl (fun g_1 w_2 hx_4 hb_3 hS => ?_)
  refine Wx.box (cs := List.map (Value.int .u8) hs) hS rfl rfl rfl (fun g_5 w_6 hx_8 hb_7 hS => ?_)
  refine Wx.rd (v := .bool false) (rd_assign rfl) rfl ?_
  refine Wx.nil ?_
  refine W.seq ?_
  refine W.reg ?_
  refine Wx.rd (v := .int .u8 b) (rd_move rfl) rfl ?_
  refine Wx.rd (v := .int .i64 b) (rd_convIn rfl Tryz.underlying5 Tryz.underlying3 (in_i64 (by omega) (by omega))) rfl ?_
  refine Wx.rd (v := .int .i64 (b % 6)) (rd_rem rfl rfl (by omega) (by omega)) rfl ?_
  refine Wx.rd (v := .int .i64 (n : Int)) (Rd.to (v := .int .i64 (1 + (b % 6))) (rd_add rfl rfl (in_i64 (by omega) (by omega))) (congrArg (Value.int .i64) (show ((n : Int) : Int) = (1 + (b % 6) : Int) from hn).symm)) rfl ?_
  refine Wx.rd (v := .int .i64 (n : Int)) (rd_assign rfl) rfl ?_
  refine Wx.nil ?_
  refine W.seq ?_
  refine W.reg ?_
  refine Wx.rd (v := (.slice none 0 0)) (rd_assign rfl) rfl ?_
  refine Wx.nil ?_
  refine W.seq ?_
  refine W.seq ?_
  refine W.reg ?_
  refine Wx.rd (v := .int .i64 (n : Int)) (rd_move rfl) rfl ?_
  refine Wx.rd (v := .int .i64 0) (rd_move rfl) rfl ?_
  refine Wx.nil ?_
  refine W.block ?_
  have hS := hS.addNil (tSl (tI .i64)) 25
  refine W.loop [8, 9, 26, 27, 28, 29, 30, 31, 32, 33, 34, 35, 36, 37] (fun x : Int × Value × (List (List Int)) => match x with | (k, wv2, Wk) => [(26, .int .i64 k), (8, wv2)]) (fun (x : Int × Value × (List (List Int))) w' => match x with | (k, wv2, Wk) => St w O w' [.row (tSl (tI .i64)) 25 wv2 Wk, .box g_5 22 (List.map (Value.int .u8) hs), .box g_1 23 (List.map (Value.int .u8) bys)] ∧ 0 ≤ k ∧ k ≤ (n : Int) ∧ Wk = (whV n bys).take k.toNat ∧ (Wk.length : Int) = k) (fun x : Int × Value × (List (List Int)) => match x with | (k, wv2, Wk) => ((n : Int) - k).toNat) (0, (.slice none 0 0), []) ⟨rfl, rfl, trivial⟩ ⟨hS, (by first | omega | simp), (by first | omega | simp), (rfl), (rfl)⟩ ?_
  rintro ⟨k, wv2, Wk⟩ u_10 w_9 ⟨hS, h0, h1, h2, h3⟩
  refine W.seq ?_
  refine W.reg ?_
  refine Wx.rd (v := .bool (decide (k < (n : Int)))) (rd_lss rfl rfl) rfl ?_
  refine Wx.nil ?_
  refine W.seq ?_
  refine W.condD rfl (fun c0 => ?_) (fun c0 => ?_)
  · -- yes
    refine W.skip ?_
    refine W.seq ?_
    refine W.block ?_
    refine W.seq ?_
    refine W.reg ?_
    refine Wx.rd (v := .int .i64 k) (rd_move rfl) rfl ?_
    refine Wx.rd (v := .int .i64 k) (rd_assign rfl) rfl ?_
    refine Wx.nil ?_
    refine W.reg ?_
    refine Wx.rd (v := wv2) (rd_move rfl) rfl ?_
    refine Wx.rd (v := .int .i64 (n : Int)) (rd_move rfl) rfl ?_
    refine Wx.rd (v := .int .i64 k) (rd_move rfl) rfl ?_
    refine Wx.rd (v := .pointer (some ⟨g_1, 0 + k.toNat * 7, none⟩)) (rd_indexArr rfl rfl Tryz.underlying23 Tryz.sizeOf22 (by omega) (by omega)) rfl ?_
    refine Wx.rd (v := .agg (List.map (Value.int .u8) (byR bys k)).toArray) (rd_loadXs (ds := List.map (Value.int .u8) (byR bys k)) hS 2 rfl rfl (by rw [byR, Nat.zero_add, List.map_take, List.map_drop]) (by rw [List.length_map]; exact byR_len n_bys h0 (by omega)) Tryz.isAgg22 Tryz.sizeOf22) rfl ?_
    refine Wx.callF (run_callF Tryz.call4 rfl) (F4 (in_i64 (by omega) (by omega)) (byR_len n_bys h0 (by omega)) (byR_in i_bys) ⟨by omega, by omega⟩ hS.fb_lt) rfl ?_
    rintro r_11 w_12 hx_13 ⟨_, rfl, hv_14⟩
    have hS := hS.pushFr hx_13 hv_14
    have hS := hS.freeze 0 rfl
    refine Wx.lit (t := (tSl (tI .i64))) (ys := [deaV (n : Int).toNat (byR bys k)]) (vs := [r_11]) elTc_24 hS rfl rfl ⟨(hS.v 0 rfl), trivial⟩ (by decide) rfl (fun v_17 w_18 hx_19 hS => ?_)
    refine Wx.append elTc_24 hS 2 rfl rfl rfl (Src.ofR hS 0 rfl) (by simp only [maxLen]; first | omega | (simp; omega) | simp) (by first | omega | (simp; omega) | simp) rfl (fun v_20 w_21 hz_22 hS => ?_)
    refine Wx.rd (v := v_20) (rd_assign rfl) rfl ?_
    refine Wx.nil ?_
    refine W.reg ?_
    refine Wx.rd (v := .int .i64 (k + 1)) (rd_add rfl rfl (in_i64 (by omega) (by omega))) rfl ?_
    refine Wx.rd (v := .int .i64 (k + 1)) (rd_move rfl) rfl ?_
    refine Wx.nil ?_
    refine ⟨(k + 1, v_20, Wk ++ [deaV (n : Int).toNat (byR bys k)]), (by show ((n : Int) - (k + 1)).toNat < ((n : Int) - k).toNat; omega), ?_, ?_, Out.look rfl Out.self⟩
    · exact ⟨St.tl (hS.tl), (by first | omega | assumption), (by first | omega | assumption), (by rw [wh_next h0 (by omega), h2, Int.toNat_natCast]), (by simp only [List.length_append, List.length_cons, List.length_nil]; omega)⟩
    · exact ⟨rfl, rfl, trivial⟩
  · -- no
    have hsay : Wk = whV n bys := by rw [h2, List.take_of_length_le (by omega)]
    rw [hsay] at hS
    refine W.exit rfl ?_
    refine W.seq ?_
    refine W.reg ?_
    refine Wx.rd (v := .int .i64 (n : Int)) (rd_move rfl) rfl ?_
    refine Wx.rd (v := .agg (List.map (Value.int .u8) hs).toArray) (rd_loadXs (ds := List.map (Value.int .u8) hs) hS 1 rfl rfl (by rw [List.drop_zero, List.take_of_length_le (by simp; omega)]) (by simp; omega) Tryz.isAgg22 Tryz.sizeOf22) rfl ?_
    refine Wx.callF (run_callF Tryz.call4 rfl) (F4 (in_i64 (by omega) (by omega)) n_hs i_hs ⟨by omega, by omega⟩ hS.fb_lt) rfl ?_
    rintro r_23 w_24 hx_25 ⟨_, rfl, hv_26⟩
    have hS := hS.pushFr hx_25 hv_26
    have hsay : deaV (n : Int).toNat hs = deaV n hs := by rw [Int.toNat_natCast]
    rw [hsay] at hS
    refine Wx.rd (v := r_23) (rd_assign rfl) rfl ?_
    refine Wx.nil ?_
    refine W.seq ?_
    refine W.reg ?_
    refine Wx.rd (v := wv2) (rd_move rfl) rfl ?_
    refine Wx.rd (v := r_23) (rd_move rfl) rfl ?_
    have hS := hS.freeze 1 rfl
    have hS := hS.freeze 1 rfl
    refine Wx.callF (run_callF Tryz.call5 rfl) (F5 (hS.v 1 rfl) (hS.v 0 rfl) hwh hS.fb_lt) rfl ?_
    rintro r_30 w_31 hx_32 ⟨gs, hgs, v_33, rfl, hv_34⟩
    have hS := hS.pushFr hx_32 hv_34
    refine Wx.rd (v := .tuple #[v_33, .int .i64 0]) (rd_move rfl) rfl ?_
    refine Wx.rd (v := v_33) (rd_extract rfl rfl) rfl ?_
    refine Wx.rd (v := .int .i64 0) (rd_extract rfl rfl) rfl ?_
    refine Wx.rd (v := v_33) (rd_assign rfl) rfl ?_
    refine Wx.rd (v := .int .i64 0) (rd_assign rfl) rfl ?_
    refine Wx.nil ?_
    refine W.seq ?_
    refine W.reg ?_
    refine Wx.rd (v := wv2) (rd_move rfl) rfl ?_
    refine Wx.rd (v := r_23) (rd_move rfl) rfl ?_
    refine Wx.callF (run_callF Tryz.call6 rfl) (F6 (hS.v 2 rfl) (hS.v 1 rfl) hwh hS.fb_lt) rfl ?_
    rintro r_36 w_37 hx_38 ⟨rs, hrs, v_39, rfl, hv_40⟩
    have hS := hS.pushFrO hx_38 hv_40
    obtain ⟨A1, R1, hr1, hg1⟩ := hgs
    obtain ⟨A2, R2, hr2, hp2⟩ := hrs
    obtain ⟨e1, e2⟩ := runs_one hr1 hr2
    subst e1 e2
    rw [hwl] at hr1
    have htr := tr_of (whok_of hn6 n_bys n_hs) hr1
    rw [← hg1] at htr
    generalize ptsV (invV (deaV n hs)) n A1 = P at htr
    have hgl := htr.gl
    have hpl := htr.pl
    have hwp := wr_pos htr.gw
    have hrl := (hp2.trans htr.rp).length_eq
    have hl6 := htr.gw.l6
    have hbk := htr.gw.bk 8 (by decide) (by decide)
    have hbe : bkV P = bkK (kdV P) 8 := rfl
    have haf := htr.gw.af
    refine Wx.rd (v := .tuple #[v_39, .int .i64 0]) (rd_move rfl) rfl ?_
    refine Wx.rd (v := v_39) (rd_extract rfl rfl) rfl ?_
    refine Wx.rd (v := .int .i64 0) (rd_extract rfl rfl) rfl ?_
    refine Wx.rd (v := v_39) (rd_assign rfl) rfl ?_
    refine Wx.rd (v := .int .i64 0) (rd_assign rfl) rfl ?_
    refine Wx.nil ?_
    refine W.seq ?_
    refine W.seq ?_
    refine W.reg ?_
    refine Wx.rd (v := .int .i64 0) (rd_move rfl) rfl ?_
    refine Wx.rd (v := .bool false) (Rd.to (v := .bool (decide ((0 : Int) ≠ 0))) (rd_neq rfl rfl) rfl) rfl ?_
    refine Wx.rd (v := .bool false) (rd_move rfl) rfl ?_
    refine Wx.gyes rfl rfl rfl ?_
    refine Wx.rd (v := .int .i64 0) (rd_move rfl) rfl ?_
    refine Wx.gyes rfl rfl rfl ?_
    refine Wx.rd (v := .bool false) (Rd.to (v := .bool (decide ((0 : Int) ≠ 0))) (rd_neq rfl rfl) rfl) rfl ?_
    refine Wx.rd (v := .bool false) (rd_pickF rfl rfl) rfl ?_
    refine Wx.rd (v := .bool false) (rd_move rfl) rfl ?_
    refine Wx.gyes rfl rfl rfl ?_
    refine Wx.rd (v := v_33) (rd_move rfl) rfl ?_
    refine Wx.gyes rfl rfl rfl ?_
    refine Wx.rd (v := .int .i64 (gs.length : Int)) (rd_lenR hS 1 rfl rfl Tryz.underlying25) rfl ?_
    refine Wx.gyes rfl rfl rfl ?_
    refine Wx.rd (v := .int .i64 (n : Int)) (rd_move rfl) rfl ?_
    refine Wx.gyes rfl rfl rfl ?_
    refine Wx.rd (v := .bool (decide ((gs.length : Int) ≠ (n : Int)))) (rd_neq rfl rfl) rfl ?_
    refine Wx.rd (v := .bool (decide ((gs.length : Int) ≠ (n : Int)))) (rd_pickF rfl rfl) rfl ?_
    refine Wx.nil ?_
    refine W.condF rfl (decide_eq_false (by omega)) ?_
    refine W.skip ?_
    refine W.seq ?_
    refine W.reg ?_
    refine Wx.rd (v := .int .i64 (n : Int)) (rd_move rfl) rfl ?_
    refine Wx.make (t := (tI .i64)) (zy := (0 : Int)) (m := n) elTc_25 rfl rfl (fun _ _ => ⟨rfl, by decide, by decide⟩) hS (congrArg (Value.int .i64) rfl) (congrArg (Value.int .i64) rfl) (by omega) (by simp only [maxLen]; omega) rfl (fun v_42 w_43 hx_44 hS => ?_)
    refine Wx.rd (v := v_42) (rd_assign rfl) rfl ?_
    refine Wx.nil ?_
    refine W.seq ?_
    refine W.seq ?_
    refine W.reg ?_
    refine Wx.rd (v := v_33) (rd_move rfl) rfl ?_
    refine Wx.rd (v := .int .i64 (gs.length : Int)) (rd_lenR hS 2 rfl rfl Tryz.underlying25) rfl ?_
    refine Wx.rd (v := .int .i64 0) (rd_move rfl) rfl ?_
    refine Wx.nil ?_
    refine W.block ?_
    refine W.loop [6, 16, 17, 69, 70, 71, 72, 73, 74, 75, 76, 77, 78, 79, 80, 81, 82, 83, 84, 85] (fun x : Int × (List Int) => match x with | (k, ps) => [(69, .int .i64 k)]) (fun (x : Int × (List Int)) w' => match x with | (k, ps) => St w O w' [.row (tI .i64) 3 v_42 ps, .row (tSl (tI .i64)) 25 v_39 rs, .row (tI .i64) 3 v_33 gs, Ob.v (tSl (tI .i64)) (deaV n hs) r_23, Ob.v (tSl (tSl (tI .i64))) (whV n bys) wv2, .box g_5 22 (List.map (Value.int .u8) hs), .box g_1 23 (List.map (Value.int .u8) bys)] ∧ 0 ≤ k ∧ k ≤ (gs.length : Int) ∧ PsI n P ps k) (fun x : Int × (List Int) => match x with | (k, ps) => ((gs.length : Int) - k).toNat) (0, List.replicate n (0 : Int)) ⟨rfl, trivial⟩ ⟨hS, (by first | omega | simp), (by first | omega | simp), (psI_start)⟩ ?_
    rintro ⟨k, ps⟩ u_48 w_47 ⟨hS, k0, k1, k2⟩
    have hps := k2.1
    refine W.seq ?_
    refine W.reg ?_
    refine Wx.rd (v := .bool (decide (k < (gs.length : Int)))) (rd_lss rfl rfl) rfl ?_
    refine Wx.nil ?_
    refine W.seq ?_
    refine W.condD rfl (fun c2 => ?_) (fun c2 => ?_)
    · -- yes
      have hpx := htr.ix k k0 (by omega)
      refine W.skip ?_
      refine W.seq ?_
      refine W.block ?_
      refine W.seq ?_
      refine W.reg ?_
      refine Wx.rd (v := .int .i64 k) (rd_move rfl) rfl ?_
      refine Wx.indexR hS 2 rfl rfl rfl Tryz.underlying25 Tryz.sizeOf3 (by first | omega | (simp only [List.length_set, List.length_append, List.length_cons, List.length_nil, List.length_replicate]; omega)) (by first | omega | (simp only [List.length_set, List.length_append, List.length_cons, List.length_nil, List.length_replicate]; omega)) rfl (fun g_49 hg_50 => ?_)
      refine Wx.rd (v := .int .i64 (ix 0 gs k)) (rd_loadRI' hS 2 rfl hg_50 rfl (by first | omega | (simp only [List.length_set, List.length_append, List.length_cons, List.length_nil, List.length_replicate]; omega)) (by first | omega | (simp only [List.length_set, List.length_append, List.length_cons, List.length_nil, List.length_replicate]; omega)) Tryz.isAgg3 Tryz.sizeOf3) rfl ?_
      have bd_51 := bd_i64 (hS.rowInK' 2 rfl (by first | omega | (simp only [List.length_set, List.length_append, List.length_cons, List.length_nil, List.length_replicate]; omega)) (by first | omega | (simp only [List.length_set, List.length_append, List.length_cons, List.length_nil, List.length_replicate]; omega)) : InK .i64 (ix 0 gs k))
      refine Wx.rd (v := .int .i64 k) (rd_assign rfl) rfl ?_
      refine Wx.rd (v := .int .i64 (ix 0 gs k)) (rd_assign rfl) rfl ?_
      refine Wx.nil ?_
      refine W.seq ?_
      refine W.reg ?_
      refine Wx.rd (v := v_42) (rd_move rfl) rfl ?_
      refine Wx.rd (v := .int .i64 k) (rd_move rfl) rfl ?_
      refine Wx.rd (v := r_23) (rd_move rfl) rfl ?_
      refine Wx.rd (v := .int .i64 (ix 0 gs k)) (rd_move rfl) rfl ?_
      refine Wx.callF (run_callF Tryz.call7 rfl) (F7 (hS.v 3 rfl) (in_i64 (by omega) (by omega))) rfl ?_
      rintro r_52 w_53 hx_54 rfl
      have hS := hS.ext hx_54
      rw [show (idxP (fun y => decide (y = (ix 0 gs k))) 0 (deaV n hs) : Int) = ix 0 P k from (htr.ix k k0 (by omega)).1]
      have ib_55 := idxP_bd (fun y => decide (y = (ix 0 gs k))) (deaV n hs) 0 (Int.le_refl 0)
      refine Wx.indexR hS 0 rfl rfl rfl Tryz.underlying25 Tryz.sizeOf3 (by first | omega | (simp only [List.length_set, List.length_append, List.length_cons, List.length_nil, List.length_replicate]; omega)) (by first | omega | (simp only [List.length_set, List.length_append, List.length_cons, List.length_nil, List.length_replicate]; omega)) rfl (fun g_56 hg_57 => ?_)
      refine Wx.storeR (j := k.toNat) (z := ix 0 P k) hS 0 rfl hg_57 rfl (by first | omega | (simp only [List.length_set, List.length_append, List.length_cons, List.length_nil, List.length_replicate]; omega)) rfl (V.mkInt (in_i64 (by omega) (by omega))) Tryz.sizeOf3 (fun w_58 hz_59 hS => ?_)
      refine Wx.nil ?_
      refine W.seq ?_
      refine W.reg ?_
      refine Wx.rd (v := v_42) (rd_move rfl) rfl ?_
      refine Wx.rd (v := .int .i64 k) (rd_move rfl) rfl ?_
      refine Wx.indexR hS 0 rfl rfl rfl Tryz.underlying25 Tryz.sizeOf3 (by first | omega | (simp only [List.length_set, List.length_append, List.length_cons, List.length_nil, List.length_replicate]; omega)) (by first | omega | (simp only [List.length_set, List.length_append, List.length_cons, List.length_nil, List.length_replicate]; omega)) rfl (fun g_60 hg_61 => ?_)
      refine Wx.rd (v := .int .i64 (ix 0 (List.set ps k.toNat (ix 0 P k)) k)) (rd_loadRI' hS 0 rfl hg_61 rfl (by first | omega | (simp only [List.length_set, List.length_append, List.length_cons, List.length_nil, List.length_replicate]; omega)) (by first | omega | (simp only [List.length_set, List.length_append, List.length_cons, List.length_nil, List.length_replicate]; omega)) Tryz.isAgg3 Tryz.sizeOf3) rfl ?_
      have bd_62 := bd_i64 (hS.rowInK' 0 rfl (by first | omega | (simp only [List.length_set, List.length_append, List.length_cons, List.length_nil, List.length_replicate]; omega)) (by first | omega | (simp only [List.length_set, List.length_append, List.length_cons, List.length_nil, List.length_replicate]; omega)) : InK .i64 (ix 0 (List.set ps k.toNat (ix 0 P k)) k))
      refine Wx.rd (v := .bool (decide ((ix 0 (List.set ps k.toNat (ix 0 P k)) k) < 0))) (rd_lss rfl rfl) rfl ?_
      refine Wx.nil ?_
      refine W.condF rfl (decide_eq_false (by rw [ix_setR k0 (by omega) k0, if_pos rfl]; omega)) ?_
      refine W.skip ?_
      refine W.reg ?_
      refine Wx.rd (v := .int .i64 (k + 1)) (rd_add rfl rfl (in_i64 (by omega) (by omega))) rfl ?_
      refine Wx.rd (v := .int .i64 (k + 1)) (rd_move rfl) rfl ?_
      refine Wx.nil ?_
      refine ⟨(k + 1, List.set ps k.toNat (ix 0 P k)), (by show ((gs.length : Int) - (k + 1)).toNat < ((gs.length : Int) - k).toNat; omega), ?_, ?_, Out.look rfl Out.self⟩
      · exact ⟨hS, (by first | omega | assumption), (by first | omega | assumption), (psI_next k2 k0 (by omega))⟩
      · exact ⟨rfl, trivial⟩
    · -- no
      have hsay : ps = P := psI_all k2 (by omega) hpl
      rw [hsay] at hS
      refine W.exit rfl ?_
      refine W.seq ?_
      refine W.reg ?_
      refine Wx.rd (v := v_42) (rd_move rfl) rfl ?_
      have hS := hS.freeze 0 rfl
      refine Wx.callF (run_callF Tryz.call8 rfl) (F8 (hS.v 0 rfl) htr.gw hS.fb_lt) rfl ?_
      rintro r_64 w_65 hx_66 ⟨v_67, rfl, hv_68⟩
      have hS := hS.pushFrO hx_66 hv_68
      refine Wx.rd (v := .tuple #[v_67, .int .i64 0]) (rd_move rfl) rfl ?_
      refine Wx.rd (v := v_67) (rd_extract rfl rfl) rfl ?_
      refine Wx.rd (v := .int .i64 0) (rd_extract rfl rfl) rfl ?_
      refine Wx.rd (v := v_67) (rd_assign rfl) rfl ?_
      refine Wx.rd (v := .int .i64 0) (rd_assign rfl) rfl ?_
      refine Wx.nil ?_
      refine W.seq ?_
      refine W.seq ?_
      refine W.reg ?_
      refine Wx.rd (v := .int .i64 0) (rd_move rfl) rfl ?_
      refine Wx.rd (v := .bool false) (Rd.to (v := .bool (decide ((0 : Int) ≠ 0))) (rd_neq rfl rfl) rfl) rfl ?_
      refine Wx.nil ?_
      refine W.condF rfl rfl ?_
      refine W.skip ?_
      refine W.seq ?_
      refine W.reg ?_
      refine Wx.rd (v := v_39) (rd_move rfl) rfl ?_
      refine Wx.callB (run_callF Tryz.call9 rfl) (sortTail (u := v_39) hS 2 rfl 0 (by omega) (by omega) (fun g' c' hv => hv)) rfl ?_
      rintro r_70 w_71 ⟨rfl, zs, hzp, hzs, hS⟩
      have hS : St _ _ w_71 [.row (tSl (tI .i64)) 25 v_67 (wrV P), Ob.v (tSl (tI .i64)) P v_42, .row (tSl (tI .i64)) 25 v_39 (List.take 0 rs ++ zs), .row (tI .i64) 3 v_33 gs, Ob.v (tSl (tI .i64)) (deaV n hs) r_23, Ob.v (tSl (tSl (tI .i64))) (whV n bys) wv2, .box g_5 22 (List.map (Value.int .u8) hs), .box g_1 23 (List.map (Value.int .u8) bys)] := hS
      have hsay : List.take 0 rs ++ zs = (wrV P) := by rw [List.take_zero, List.nil_append]; exact sort_one htr.gw ((by rw [List.drop_zero] at hzp; exact hzp : zs.Perm rs).trans (hp2.trans htr.rp)) hzs
      rw [hsay] at hS
      refine Wx.nil ?_
      refine W.seq ?_
      refine W.reg ?_
      refine Wx.rd (v := v_42) (rd_move rfl) rfl ?_
      refine Wx.callF (run_callF Tryz.call11 rfl) (F11 (hS.v 1 rfl) htr.gw) rfl ?_
      rintro r_72 w_73 hx_74 rfl
      have hS := hS.ext hx_74
      refine Wx.rd (v := .tuple #[.int .i64 (bkV P), .int .i64 0]) (rd_move rfl) rfl ?_
      refine Wx.rd (v := .int .i64 (bkV P)) (rd_extract rfl rfl) rfl ?_
      refine Wx.rd (v := .int .i64 0) (rd_extract rfl rfl) rfl ?_
      refine Wx.rd (v := .int .i64 (bkV P)) (rd_assign rfl) rfl ?_
      refine Wx.rd (v := .int .i64 0) (rd_assign rfl) rfl ?_
      refine Wx.nil ?_
      refine W.seq ?_
      refine W.reg ?_
      refine Wx.rd (v := v_42) (rd_move rfl) rfl ?_
      refine Wx.rd (v := .int .i64 (bkV P)) (rd_move rfl) rfl ?_
      refine Wx.callF (run_callF Tryz.call12 rfl) (F12 (hS.v 1 rfl) (in_i64 (by omega) (by omega)) htr.gw ⟨by omega, by omega⟩ hS.fb_lt) rfl ?_
      rintro r_75 w_76 hx_77 ⟨v_78, rfl, hv_79⟩
      have hS := hS.pushFr hx_77 hv_79
      have hsay : afV P (bkV P) = upR P.length := haf
      rw [hsay] at hS
      refine Wx.rd (v := .tuple #[v_78, .int .i64 0]) (rd_move rfl) rfl ?_
      refine Wx.rd (v := v_78) (rd_extract rfl rfl) rfl ?_
      refine Wx.rd (v := .int .i64 0) (rd_extract rfl rfl) rfl ?_
      refine Wx.rd (v := v_78) (rd_assign rfl) rfl ?_
      refine Wx.rd (v := .int .i64 0) (rd_assign rfl) rfl ?_
      refine Wx.nil ?_
      refine W.seq ?_
      refine W.reg ?_
      refine Wx.rd (v := .int .i64 0) (rd_move rfl) rfl ?_
      refine Wx.rd (v := .bool true) (Rd.to (v := .bool (decide ((0 : Int) = 0))) (rd_eql rfl rfl) rfl) rfl ?_
      refine Wx.rd (v := .bool true) (rd_move rfl) rfl ?_
      refine Wx.gyes rfl rfl rfl ?_
      refine Wx.rd (v := .int .i64 0) (rd_move rfl) rfl ?_
      refine Wx.gyes rfl rfl rfl ?_
      refine Wx.rd (v := .bool true) (Rd.to (v := .bool (decide ((0 : Int) = 0))) (rd_eql rfl rfl) rfl) rfl ?_
      refine Wx.rd (v := .bool true) (rd_pickT rfl rfl) rfl ?_
      refine Wx.rd (v := .bool true) (rd_move rfl) rfl ?_
      refine Wx.gyes rfl rfl rfl ?_
      refine Wx.rd (v := v_67) (rd_move rfl) rfl ?_
      refine Wx.gyes rfl rfl rfl ?_
      refine Wx.rd (v := v_39) (rd_move rfl) rfl ?_
      refine Wx.gyes rfl rfl rfl ?_
      refine Wx.callF (run_callF Tryz.call13 rfl) (F13 (hS.lend 1 rfl) (hS.lend 3 rfl)) rfl ?_
      rintro r_81 w_82 hx_83 rfl
      have hS := hS.ext hx_83
      rw [show (decide ((wrV P) = (wrV P)) : Bool) = true from (decide_eq_true rfl)]
      refine Wx.rd (v := .bool true) (rd_pickT rfl rfl) rfl ?_
      refine Wx.rd (v := .bool true) (rd_move rfl) rfl ?_
      refine Wx.gyes rfl rfl rfl ?_
      refine Wx.rd (v := v_78) (rd_move rfl) rfl ?_
      refine Wx.gyes rfl rfl rfl ?_
      refine Wx.callF (run_callF Tryz.call14 rfl) (F14 (hS.lend 0 rfl) (by rw [upR_len])) rfl ?_
      rintro r_84 w_85 hx_86 rfl
      have hS := hS.ext hx_86
      refine Wx.rd (v := .bool true) (rd_pickT rfl rfl) rfl ?_
      refine Wx.rd (v := .bool true) (rd_move rfl) rfl ?_
      refine Wx.gyes rfl rfl rfl ?_
      refine Wx.callF (run_callF Tryz.call15 rfl) (F15 (hG.ext hS.bel)) rfl ?_
      rintro r_87 w_88 hx_89 rfl
      have hS := hS.ext hx_89
      refine Wx.rd (v := .bool true) (rd_pickT rfl rfl) rfl ?_
      refine Wx.rd (v := .bool true) (rd_assign rfl) rfl ?_
      refine Wx.nil ?_
      exact W.ret ⟨.bool true, ResIs.one, hS.bel, rfl⟩
end Go.Proofs.YtlibemgaepkceaaGreatDoor
