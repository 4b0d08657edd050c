/-
  WHAT IS PROVED HERE, TEXT BY TEXT (several texts of one prover, joined to one file; the conditions stand in each statement):
  * WHAT IS PROVED HERE: what functions hand back, each out of its own code; the conditions stand in each statement.
-/
import Derived.Test.YtodcppoglpfodaaGreatDoorProg
import Derived.Test.YtodcppoglpfodaaGreatDoorU5
import Derived.Test.YtodcppoglpfodaaGreatDoorU2
import Derived.Test.YtodcppoglpfodaaGreatDoorU8
import Derived.Test.YtodcppoglpfodaaGreatDoorU9

set_option linter.unusedVariables false
set_option linter.unusedSimpArgs false

namespace Go.Proofs.YtodcppoglpfodaaGreatDoor
open Go.Wk Go.RowKit Go.Lib
set_option linter.unusedVariables false
set_option linter.unusedSimpArgs false
theorem elTm_67 : ElemI Tryz.prog 67 9 (.string ByteArray.empty) 1 16 := ElemI.of Tryz.underlying67 (by kernel_rfl) (by first | rfl | kernel_rfl) (by decide)
theorem elTm_36 : ElemI Tryz.prog 36 38 (.agg #[.int .i64 0, .int .i64 0]) 2 16 := ElemI.of Tryz.underlying36 (by kernel_rfl) (by first | rfl | kernel_rfl) (by decide)

set_option maxHeartbeats 4000000 in
set_option maxRecDepth 10000 in
theorem C5.F3 {b : Int} {bs : List Int} {O : List (Option Nat)} {w : World} (i_b : InK .u8 b) (n_bs : bs.length = 7) (i_bs : ∀ z ∈ bs, InK .u8 z) (hO : ∀ b, some b ∈ O → b < w.heap.size) (hG : Laid w) : Calls Tryz.prog 3 #[.int .u8 b, .agg (List.map (Value.int .u8) bs).toArray] w (Ret w (fun r _ => r = .bool true)) := by
  have b_b := bd_u8 i_b
  obtain ⟨xs, hxs⟩ : ∃ xs, xs = comV b bs 6 := ⟨_, rfl⟩
  have hg : GoodO xs := by rw [hxs]; exact com_good n_bs (by decide) (by decide)
  have hxl := hg.p.n
  have hmz := hg.m
  have hrz : ((rimV xs).size : Int) = 2 * xs.length := by rw [hg.z]; exact hmz
  have hol := hg.o
  have hml := mvL_len xs
  have hS := St.start w O hO
  refine enterR Tryz.func3 rfl Tryz.ntmps3 Tryz.results3 rfl ?_
  refine W.seq ?_
  refine W.reg ?_
  refine Wx.box (cs := List.map (Value.int .u8) bs) hS rfl rfl rfl (fun g_1 w_2 hx_4 hb_3 hS => ?_)
  refine Wx.rd (v := .bool false) (rd_assign rfl) rfl ?_
  refine Wx.nil ?_
  refine W.seq ?_
  refine W.reg ?_
  refine Wx.rd (v := .int .u8 b) (rd_move rfl) rfl ?_
  refine Wx.rd (v := .agg (List.map (Value.int .u8) bs).toArray) (rd_loadXs (ds := List.map (Value.int .u8) bs) hS 0 rfl rfl (by rw [List.drop_zero, List.take_of_length_le (by simp; omega)]) (by simp; omega) Tryz.isAgg22 Tryz.sizeOf22) rfl ?_
  refine Wx.callF (run_callF Tryz.call4 rfl) (F4 i_b n_bs i_bs (in_i64 (by omega) (by omega)) ⟨by decide, by decide⟩ hS.fb_lt) rfl ?_
  rintro r_5 w_6 hx_7 ⟨_, rfl, hv_8⟩
  have hS := hS.pushFr hx_7 hv_8
  have hsay : comV b bs 6 = xs := hxs.symm
  rw [hsay] at hS
  refine Wx.rd (v := r_5) (rd_assign rfl) rfl ?_
  refine Wx.nil ?_
  refine W.seq ?_
  refine W.reg ?_
  refine Wx.rd (v := r_5) (rd_move rfl) rfl ?_
  refine Wx.rd (v := .int .i64 (xs.length : Int)) (rd_lenR hS 0 rfl rfl Tryz.underlying23) rfl ?_
  refine Wx.rd (v := .int .i64 (xs.length : Int)) (rd_assign rfl) rfl ?_
  refine Wx.nil ?_
  refine W.seq ?_
  refine W.reg ?_
  refine Wx.rd (v := r_5) (rd_move rfl) rfl ?_
  have hS := hS.freeze 0 rfl
  refine Wx.callF (run_callF Tryz.call5 rfl) (F5 (hS.v 0 rfl) hg.p hS.fb_lt) rfl ?_
  rintro r_11 w_12 hx_13 rfl
  have hS := hS.ext hx_13
  refine Wx.rd (v := .tuple #[.string (mvS xs), .int .i64 0]) (rd_move rfl) rfl ?_
  refine Wx.rd (v := .string (mvS xs)) (rd_extract rfl rfl) rfl ?_
  refine Wx.rd (v := .int .i64 0) (rd_extract rfl rfl) rfl ?_
  refine Wx.rd (v := .string (mvS xs)) (rd_assign rfl) rfl ?_
  refine Wx.rd (v := .int .i64 0) (rd_assign rfl) rfl ?_
  refine Wx.nil ?_
  refine W.seq ?_
  refine W.reg ?_
  refine Wx.rd (v := r_5) (rd_move rfl) rfl ?_
  refine Wx.rd (v := .string (mvS xs)) (rd_move rfl) rfl ?_
  refine Wx.callF (run_callF Tryz.call6 rfl) (F6 (hS.v 0 rfl) (by first | assumption | (simp only [maxLen]; omega) | (simp only [ByteArray.size_extract, ByteArray.size_append, maxLen] at *; omega) | decide) hg.p rfl hg.r hS.fb_lt) rfl ?_
  rintro r_14 w_15 hx_16 ⟨v_17, rfl, hv_18⟩
  have hS := hS.pushFr hx_16 hv_18
  refine Wx.rd (v := .tuple #[v_17, .int .i64 0]) (rd_move rfl) rfl ?_
  refine Wx.rd (v := v_17) (rd_extract rfl rfl) rfl ?_
  refine Wx.rd (v := .int .i64 0) (rd_extract rfl rfl) rfl ?_
  refine Wx.rd (v := v_17) (rd_assign rfl) rfl ?_
  refine Wx.rd (v := .int .i64 0) (rd_assign rfl) rfl ?_
  refine Wx.nil ?_
  refine W.seq ?_
  refine W.seq ?_
  refine W.reg ?_
  refine Wx.rd (v := .int .i64 0) (rd_move rfl) rfl ?_
  refine Wx.rd (v := .bool false) (Rd.to (v := .bool (decide ((0 : Int) ≠ 0))) (rd_neq rfl rfl) rfl) rfl ?_
  refine Wx.rd (v := .bool false) (rd_move rfl) rfl ?_
  refine Wx.gyes rfl rfl rfl ?_
  refine Wx.rd (v := .int .i64 0) (rd_move rfl) rfl ?_
  refine Wx.gyes rfl rfl rfl ?_
  refine Wx.rd (v := .bool false) (Rd.to (v := .bool (decide ((0 : Int) ≠ 0))) (rd_neq rfl rfl) rfl) rfl ?_
  refine Wx.rd (v := .bool false) (rd_pickF rfl rfl) rfl ?_
  refine Wx.rd (v := .bool false) (rd_move rfl) rfl ?_
  refine Wx.gyes rfl rfl rfl ?_
  refine Wx.rd (v := v_17) (rd_move rfl) rfl ?_
  refine Wx.gyes rfl rfl rfl ?_
  refine Wx.rd (v := .int .i64 ((rnV xs).length : Int)) (rd_lenR hS 0 rfl rfl Tryz.underlying23) rfl ?_
  refine Wx.gyes rfl rfl rfl ?_
  refine Wx.rd (v := .int .i64 (xs.length : Int)) (rd_move rfl) rfl ?_
  refine Wx.gyes rfl rfl rfl ?_
  refine Wx.rd (v := .bool false) (Rd.to (v := .bool (decide (((rnV xs).length : Int) ≠ (xs.length : Int)))) (rd_neq rfl rfl) (congrArg (Value.bool) (show (false : Bool) = (decide (((rnV xs).length : Int) ≠ (xs.length : Int)) : Bool) from (decide_eq_false (not_not_intro (by omega))).symm).symm)) rfl ?_
  refine Wx.rd (v := .bool false) (rd_pickF rfl rfl) rfl ?_
  refine Wx.rd (v := .bool false) (rd_move rfl) rfl ?_
  refine Wx.gyes rfl rfl rfl ?_
  refine Wx.rd (v := .string (mvS xs)) (rd_move rfl) rfl ?_
  refine Wx.gyes rfl rfl rfl ?_
  refine Wx.rd (v := .int .i64 ((mvS xs).size : Int)) (rd_lenS rfl Tryz.underlying9) rfl ?_
  refine Wx.gyes rfl rfl rfl ?_
  refine Wx.rd (v := .int .i64 (xs.length : Int)) (rd_move rfl) rfl ?_
  refine Wx.gyes rfl rfl rfl ?_
  refine Wx.rd (v := .int .i64 (2 * (xs.length : Int))) (rd_mul rfl rfl (in_i64 (by omega) (by omega))) rfl ?_
  refine Wx.gyes rfl rfl rfl ?_
  refine Wx.rd (v := .bool false) (Rd.to (v := .bool (decide (((mvS xs).size : Int) ≠ (2 * (xs.length : Int))))) (rd_neq rfl rfl) (congrArg (Value.bool) (show (false : Bool) = (decide (((mvS xs).size : Int) ≠ (2 * (xs.length : Int))) : Bool) from (decide_eq_false (not_not_intro (by omega))).symm).symm)) rfl ?_
  refine Wx.rd (v := .bool false) (rd_pickF rfl rfl) rfl ?_
  refine Wx.rd (v := .bool false) (rd_move rfl) rfl ?_
  refine Wx.gyes rfl rfl rfl ?_
  refine Wx.rd (v := .string (mvS xs)) (rd_move rfl) rfl ?_
  refine Wx.gyes rfl rfl rfl ?_
  refine Wx.callF (run_callF Tryz.call7 rfl) (F7 (by first | assumption | (simp only [maxLen]; omega) | (simp only [ByteArray.size_extract, ByteArray.size_append, maxLen] at *; omega) | decide) (by first | assumption | (simp only [maxLen]; omega) | (simp only [ByteArray.size_extract, ByteArray.size_append, maxLen] at *; omega) | decide) (by decide) (by decide)) rfl ?_
  rintro r_20 w_21 hx_22 rfl
  have hS := hS.ext hx_22
  refine Wx.gyes rfl rfl rfl ?_
  refine Wx.rd (v := .bool false) (Rd.to (v := .bool (!((trimV (mvS xs) ({ data := #[105, 111] } : ByteArray)) == ({ data := #[] } : ByteArray)))) (rd_neqS rfl rfl) (congrArg (Value.bool) (show (false : Bool) = (!((trimV (mvS xs) ({ data := #[105, 111] } : ByteArray)) == ({ data := #[] } : ByteArray)) : Bool) from (by rw [trim_mv]; rfl)).symm)) rfl ?_
  refine Wx.rd (v := .bool false) (rd_pickF rfl rfl) rfl ?_
  refine Wx.nil ?_
  refine W.condF rfl rfl ?_
  refine W.skip ?_
  refine W.seq ?_
  refine W.reg ?_
  refine Wx.lit (t := tStr) (ys := [({ data := #[105] } : ByteArray), ({ data := #[97] } : ByteArray), ({ data := #[111] } : ByteArray), ({ data := #[65] } : ByteArray)]) (vs := [.string ({ data := #[105] } : ByteArray), .string ({ data := #[97] } : ByteArray), .string ({ data := #[111] } : ByteArray), .string ({ data := #[65] } : ByteArray)]) elTm_67 hS rfl rfl ⟨⟨[.string ({ data := #[105] } : ByteArray)], rfl, rfl, (by first | assumption | decide | (simp only [maxLen]; omega))⟩, ⟨⟨[.string ({ data := #[97] } : ByteArray)], rfl, rfl, (by first | assumption | decide | (simp only [maxLen]; omega))⟩, ⟨⟨[.string ({ data := #[111] } : ByteArray)], rfl, rfl, (by first | assumption | decide | (simp only [maxLen]; omega))⟩, ⟨⟨[.string ({ data := #[65] } : ByteArray)], rfl, rfl, (by first | assumption | decide | (simp only [maxLen]; omega))⟩, trivial⟩⟩⟩⟩ (by decide) rfl (fun v_23 w_24 hx_25 hS => ?_)
  have hS := hS.freeze 0 rfl
  have hS : St _ _ _ (Ob.v (tSl tStr) RPS v_23 :: [.row (tI .i64) 3 v_17 (rnV xs), Ob.v (tSl (tI .i64)) xs r_5, .box g_1 22 (List.map (Value.int .u8) bs)]) := hS
  refine Wx.callB (run_callF Tryz.call8 rfl) (F8 (ob := [Ob.v (tSl tStr) RPS v_23, .row (tI .i64) 3 v_17 (rnV xs), Ob.v (tSl (tI .i64)) xs r_5, .box g_1 22 (List.map (Value.int .u8) bs)]) hS (hS.v 0 rfl)) rfl ?_
  rintro r_27 w_28 ⟨g_29, v_30, rfl, hS⟩
  have hS : St _ _ w_28 [Ob.v (tSl tStr) RPS v_30, .box g_29 83 [.int .u32 0, .int .i32 0, .int .u32 0, .nilIface, v_30], Ob.v (tSl tStr) RPS v_23, .row (tI .i64) 3 v_17 (rnV xs), Ob.v (tSl (tI .i64)) xs r_5, .box g_1 22 (List.map (Value.int .u8) bs)] := hS
  refine Wx.rd (v := .string (mvS xs)) (rd_move rfl) rfl ?_
  refine Wx.callB (run_callF Tryz.call9 rfl) (F9 (ob := [Ob.v (tSl tStr) RPS v_23, .row (tI .i64) 3 v_17 (rnV xs), Ob.v (tSl (tI .i64)) xs r_5, .box g_1 22 (List.map (Value.int .u8) bs)]) (by simp only [maxLen]; omega) (by omega) mv_tab hS) rfl ?_
  rintro r_31 w_32 ⟨rfl, pre_33, hS⟩
  have hS := St.dropPre hS
  have hS : St _ _ w_32 [Ob.v (tSl tStr) RPS v_23, .row (tI .i64) 3 v_17 (rnV xs), Ob.v (tSl (tI .i64)) xs r_5, .box g_1 22 (List.map (Value.int .u8) bs)] := hS
  refine Wx.rd (v := .string (rimV xs)) (rd_assign rfl) rfl ?_
  refine Wx.nil ?_
  refine W.seq ?_
  refine W.reg ?_
  refine Wx.rd (v := .string (rimV xs)) (rd_move rfl) rfl ?_
  refine Wx.callF (run_callF Tryz.call10 rfl) (C5.F10 (by first | assumption | (simp only [maxLen]; omega) | (simp only [ByteArray.size_extract, ByteArray.size_append, maxLen] at *; omega) | decide) (hG.ext hS.bel)) rfl ?_
  rintro r_34 w_35 hx_36 rfl
  have hS := hS.ext hx_36
  refine Wx.rd (v := .tuple #[.bool (fullP (rimV xs)), .int .i64 (rimE (rimV xs))]) (rd_move rfl) rfl ?_
  refine Wx.rd (v := .bool true) (Rd.to (v := .bool (fullP (rimV xs))) (rd_extract rfl rfl) (congrArg (Value.bool) (show (true : Bool) = (fullP (rimV xs) : Bool) from hg.f.symm).symm)) rfl ?_
  refine Wx.rd (v := .int .i64 0) (Rd.to (v := .int .i64 (rimE (rimV xs))) (rd_extract rfl rfl) (congrArg (Value.int .i64) (show (0 : Int) = (rimE (rimV xs) : Int) from hg.e.symm).symm)) rfl ?_
  refine Wx.rd (v := .bool true) (rd_assign rfl) rfl ?_
  refine Wx.rd (v := .int .i64 0) (rd_assign rfl) rfl ?_
  refine Wx.nil ?_
  refine W.seq ?_
  refine W.reg ?_
  refine Wx.rd (v := (.slice none 0 0)) (rd_assign rfl) rfl ?_
  refine Wx.nil ?_
  refine W.seq ?_
  refine W.reg ?_
  refine Wx.makeMap hS rfl (fun g_38 w_37 hx_39 hS => ?_)
  have hS : St _ _ w_37 [.raw g_38 (.map (mE (Value.int .i64) (Value.int .i64) ([] : List (Int × Int)) 0).toArray ([] : List (Int × Int)).length), Ob.v (tSl tStr) RPS v_23, .row (tI .i64) 3 v_17 (rnV xs), Ob.v (tSl (tI .i64)) xs r_5, .box g_1 22 (List.map (Value.int .u8) bs)] := hS
  refine Wx.rd (v := .map (some g_38)) (rd_assign rfl) rfl ?_
  refine Wx.nil ?_
  refine W.seq ?_
  refine W.reg ?_
  refine Wx.rd (v := .int .i64 0) (rd_assign rfl) rfl ?_
  refine Wx.nil ?_
  refine W.seq ?_
  refine W.seq ?_
  refine W.reg ?_
  refine Wx.rd (v := .string (mvS xs)) (rd_move rfl) rfl ?_
  refine Wx.rangeS (s := mvS xs) hS rfl Tryz.underlying9 rfl (fun g_40 w_41 hx_42 hS => ?_)
  refine Wx.nil ?_
  refine W.block ?_
  refine W.loop [15, 16, 17, 77, 78, 79, 80, 81, 82, 83, 84, 85, 86, 87, 88, 89, 90, 91, 92, 93, 94, 95] (fun x : Int × Nat × (List (Int × Int)) => match x with | (ka, pa, ma) => [(15, .int .i64 ka)]) (fun (x : Int × Nat × (List (Int × Int))) w' => match x with | (ka, pa, ma) => St w O w' [.raw g_40 (.stringIter (mvS xs) pa), .raw g_38 (.map (mE (Value.int .i64) (Value.int .i64) ma 0).toArray ma.length), Ob.v (tSl tStr) RPS v_23, .row (tI .i64) 3 v_17 (rnV xs), Ob.v (tSl (tI .i64)) xs r_5, .box g_1 22 (List.map (Value.int .u8) bs)] ∧ pa ≤ (mvS xs).size ∧ cmK xs.length 105 xs (mvL xs) pa = (ma, ka)) (fun x : Int × Nat × (List (Int × Int)) => match x with | (ka, pa, ma) => (mvS xs).size - pa) (0, 0, ([] : List (Int × Int))) ⟨rfl, trivial⟩ ⟨hS, (Nat.zero_le _), (rfl)⟩ ?_
  rintro ⟨ka, pa, ma⟩ u_44 w_43 ⟨hS, h1a, h2a⟩
  refine W.seq ?_
  refine W.reg ?_
  refine Wx.nextS hS 0 rfl rfl rfl (fun hn w_45 hz_46 hS => ?_) (fun hn => ?_)
  · -- a rune
    have hS : St _ _ w_45 [.raw g_40 (.stringIter (mvS xs) (pa + (runeW (mvS xs) (pa : Int)).toNat)), .raw g_38 (.map (mE (Value.int .i64) (Value.int .i64) ma 0).toArray ma.length), Ob.v (tSl tStr) RPS v_23, .row (tI .i64) 3 v_17 (rnV xs), Ob.v (tSl (tI .i64)) xs r_5, .box g_1 22 (List.map (Value.int .u8) bs)] := hS
    have hru := mv_rune (xs := xs) (p := pa) (by omega)
    have hbd := mvl_bd (xs := xs) (i := (pa : Int)) (by omega) (by omega)
    have hka := (cmk_bd xs.length 105 xs (mvL xs) pa 0).2
    rw [h2a] at hka
    dsimp only at hka
    refine Wx.rd (v := .bool true) (rd_extract rfl rfl) rfl ?_
    refine Wx.nil ?_
    refine W.seq ?_
    refine W.condT rfl rfl ?_
    refine W.skip ?_
    refine W.block ?_
    refine W.seq ?_
    refine W.reg ?_
    refine Wx.rd (v := .int .i64 (pa : Int)) (rd_extract rfl rfl) rfl ?_
    refine Wx.rd (v := .int .i32 (runeAt (mvS xs) (pa : Int))) (rd_extract rfl rfl) rfl ?_
    refine Wx.rd (v := .int .i64 (pa : Int)) (rd_assign rfl) rfl ?_
    refine Wx.rd (v := .int .i32 (runeAt (mvS xs) (pa : Int))) (rd_assign rfl) rfl ?_
    refine Wx.nil ?_
    refine W.seq ?_
    refine W.reg ?_
    refine Wx.rd (v := .int .i32 (runeAt (mvS xs) (pa : Int))) (rd_move rfl) rfl ?_
    refine Wx.rd (v := .bool (decide ((runeAt (mvS xs) (pa : Int)) = 105))) (rd_eql rfl rfl) rfl ?_
    refine Wx.rd (v := .bool (decide ((runeAt (mvS xs) (pa : Int)) = 105))) (rd_move rfl) rfl ?_
    refine Wx.cut (X := Unit) 4 [84, 85, 86, 87] (fun _ => [(87, .bool (decide ((runeAt (mvS xs) (pa : Int)) = 105) && decide (ka < (xs.length : Int))))]) (fun _ w' => St w O w' [.raw g_40 (.stringIter (mvS xs) (pa + (runeW (mvS xs) (pa : Int)).toNat)), .raw g_38 (.map (mE (Value.int .i64) (Value.int .i64) ma 0).toArray ma.length), Ob.v (tSl tStr) RPS v_23, .row (tI .i64) 3 v_17 (rnV xs), Ob.v (tSl (tI .i64)) xs r_5, .box g_1 22 (List.map (Value.int .u8) bs)]) ?_ ?_
    · rcases Bool.eq_false_or_eq_true (decide ((runeAt (mvS xs) (pa : Int)) = 105)) with g_48 | g_48
      · -- True
        have gp_49 := of_decide_eq_true g_48
        refine Wx.gyes rfl rfl (congrArg Value.bool g_48) ?_
        refine Wx.rd (v := .int .i64 ka) (rd_move rfl) rfl ?_
        refine Wx.gyes rfl rfl (congrArg Value.bool g_48) ?_
        refine Wx.rd (v := .int .i64 (xs.length : Int)) (rd_move rfl) rfl ?_
        refine Wx.gyes rfl rfl (congrArg Value.bool g_48) ?_
        refine Wx.rd (v := .bool (decide (ka < (xs.length : Int)))) (rd_lss rfl rfl) rfl ?_
        refine Wx.rd (v := .bool (decide (ka < (xs.length : Int)))) (rd_pickT (congrArg Value.bool g_48) rfl) rfl ?_
        refine Wx.nil ⟨(), hS, ⟨?_, trivial⟩, Out.look rfl Out.refl⟩
        show Value.bool (decide (ka < (xs.length : Int))) = Value.bool (decide ((runeAt (mvS xs) (pa : Int)) = 105) && decide (ka < (xs.length : Int)))
        first | rw [g_48, Bool.true_and] | (rw [g_48]; rfl)
      · -- False
        have gp_50 := of_decide_eq_false g_48
        refine Wx.gnoB rfl rfl (congrArg Value.bool g_48) rfl rfl ?_
        refine Wx.gnoB rfl rfl (congrArg Value.bool g_48) rfl rfl ?_
        refine Wx.gnoB rfl rfl (congrArg Value.bool g_48) rfl rfl ?_
        refine Wx.rd (v := .bool false) (rd_pickF (congrArg Value.bool g_48) rfl) rfl ?_
        refine Wx.nil ⟨(), hS, ⟨?_, trivial⟩, Out.look rfl Out.refl⟩
        show Value.bool false = Value.bool (decide ((runeAt (mvS xs) (pa : Int)) = 105) && decide (ka < (xs.length : Int)))
        first | rw [g_48, Bool.false_and] | (rw [g_48]; rfl)
    rintro ⟨⟩ u_52 w_51 hS
    refine Wx.nil ?_
    refine W.cond rfl (fun c2 => ?_) (fun c2 => ?_)
    · -- yes
      try simp only [Bool.and_eq_true, Bool.or_eq_true, Bool.not_eq_true', Bool.and_eq_false_iff, Bool.or_eq_false_iff, Bool.not_eq_false', decide_eq_true_eq, decide_eq_false_iff_not, not_or, Bool.false_eq_true, Bool.true_eq_false, false_or, or_false, not_false_eq_true] at c2
      refine W.seq ?_
      refine W.reg ?_
      refine Wx.rd (v := .map (some g_38)) (rd_move rfl) rfl ?_
      refine Wx.rd (v := r_5) (rd_move rfl) rfl ?_
      refine Wx.rd (v := .int .i64 ka) (rd_move rfl) rfl ?_
      refine Wx.ex (rd_index 0 (hS.v 4 rfl) rfl rfl Tryz.underlying23 Tryz.sizeOf3 (by first | omega | (simp only [List.length_set, List.length_append, List.length_cons, List.length_nil, List.length_replicate]; omega)) (by first | omega | (simp only [List.length_set, List.length_append, List.length_cons, List.length_nil, List.length_replicate]; omega))) rfl (fun p_53 hp_54 => ?_)
      refine Wx.rd (v := .int .i64 (ix 0 xs ka)) (rd_loadI hp_54 rfl Tryz.isAgg3 Tryz.sizeOf3) rfl ?_
      have bd_55 := bd_i64 hp_54.inK
      refine Wx.rd (v := .int .i64 (pa : Int)) (rd_move rfl) rfl ?_
      refine Wx.mapUpdate (m := ma) (k := (ix 0 xs ka)) (v := (pa : Int)) (f := (Value.int .i64)) (g := (Value.int .i64)) hS 1 rfl rfl rfl rfl Tryz.underlying37 (KeyD.int Tryz.underlying3) (fun w_56 hz_57 hS => ?_)
      refine Wx.nil ?_
      refine W.reg ?_
      refine Wx.rd (v := .int .i64 ka) (rd_move rfl) rfl ?_
      refine Wx.rd (v := .int .i64 (ka + 1)) (rd_add rfl rfl (in_i64 (by omega) (by omega))) rfl ?_
      refine Wx.rd (v := .int .i64 (ka + 1)) (rd_assign rfl) rfl ?_
      refine Wx.nil ?_
      refine ⟨(ka + 1, pa + (runeW (mvS xs) (pa : Int)).toNat, mput ma (ix 0 xs ka) (pa : Int)), (by show (mvS xs).size - (pa + (runeW (mvS xs) (pa : Int)).toNat) < (mvS xs).size - pa; omega), ?_, ?_, Out.look rfl (Out.hav rfl (Out.look rfl Out.self))⟩
      · exact ⟨hS, (by omega), (by rw [show ((pa + (runeW (mvS xs) (pa : Int)).toNat : Nat) : Int) = (pa : Int) + 1 by omega, cmk_next (by omega), h2a, cmS, if_pos (by simp only; omega)])⟩
      · exact ⟨rfl, trivial⟩
    · -- no
      try simp only [Bool.and_eq_true, Bool.or_eq_true, Bool.not_eq_true', Bool.and_eq_false_iff, Bool.or_eq_false_iff, Bool.not_eq_false', decide_eq_true_eq, decide_eq_false_iff_not, not_or, Bool.false_eq_true, Bool.true_eq_false, false_or, or_false, not_false_eq_true] at c2
      refine W.skip ?_
      refine ⟨(ka, pa + (runeW (mvS xs) (pa : Int)).toNat, ma), (by show (mvS xs).size - (pa + (runeW (mvS xs) (pa : Int)).toNat) < (mvS xs).size - pa; omega), ?_, ?_, Out.look rfl (Out.hav rfl (Out.look rfl Out.self))⟩
      · exact ⟨hS, (by omega), (by rw [show ((pa + (runeW (mvS xs) (pa : Int)).toNat : Nat) : Int) = (pa : Int) + 1 by omega, cmk_next (by omega), h2a, cmS, if_neg (by simp only; omega)])⟩
      · exact ⟨rfl, trivial⟩
  · -- the end
    refine Wx.rd (v := .bool false) (rd_extract rfl rfl) rfl ?_
    refine Wx.nil ?_
    refine W.seq ?_
    refine W.condF rfl rfl ?_
    refine W.exit rfl ?_
    refine W.seq ?_
    refine W.reg ?_
    refine Wx.makeMap hS rfl (fun g_59 w_58 hx_60 hS => ?_)
    have hS : St _ _ w_58 [.raw g_59 (.map (mE (Value.int .i64) (Value.int .i64) ([] : List (Int × Int)) 0).toArray ([] : List (Int × Int)).length), .raw g_40 (.stringIter (mvS xs) pa), .raw g_38 (.map (mE (Value.int .i64) (Value.int .i64) ma 0).toArray ma.length), Ob.v (tSl tStr) RPS v_23, .row (tI .i64) 3 v_17 (rnV xs), Ob.v (tSl (tI .i64)) xs r_5, .box g_1 22 (List.map (Value.int .u8) bs)] := hS
    refine Wx.rd (v := .map (some g_59)) (rd_assign rfl) rfl ?_
    refine Wx.nil ?_
    refine W.seq ?_
    refine W.reg ?_
    refine Wx.rd (v := .int .i64 0) (rd_assign rfl) rfl ?_
    refine Wx.nil ?_
    refine W.seq ?_
    refine W.seq ?_
    refine W.reg ?_
    refine Wx.rd (v := .string (mvS xs)) (rd_move rfl) rfl ?_
    refine Wx.rangeS (s := mvS xs) hS rfl Tryz.underlying9 rfl (fun g_61 w_62 hx_63 hS => ?_)
    refine Wx.nil ?_
    refine W.block ?_
    have hsay : ma = cameV xs := by rw [cameV, show ((mvL xs).length : Int) = (pa : Int) by omega, h2a]
    rw [hsay] at hS
    have hS : St _ _ _ [.raw g_61 (.stringIter (mvS xs) 0), .raw g_59 (.map (mE (Value.int .i64) (Value.int .i64) ([] : List (Int × Int)) 0).toArray ([] : List (Int × Int)).length), .raw g_40 (.stringIter (mvS xs) pa), .raw g_38 (.map (mE (Value.int .i64) (Value.int .i64) (cameV xs) 0).toArray (cameV xs).length), Ob.v (tSl tStr) RPS v_23, .row (tI .i64) 3 v_17 (rnV xs), Ob.v (tSl (tI .i64)) xs r_5, .box g_1 22 (List.map (Value.int .u8) bs)] := hS
    refine W.loop [19, 20, 21, 99, 100, 101, 102, 103, 104, 105, 106, 107, 108, 109, 110, 111, 112, 113, 114, 115, 116, 117] (fun x : Int × Nat × (List (Int × Int)) => match x with | (kb, pb, mb) => [(19, .int .i64 kb)]) (fun (x : Int × Nat × (List (Int × Int))) w' => match x with | (kb, pb, mb) => St w O w' [.raw g_61 (.stringIter (mvS xs) pb), .raw g_59 (.map (mE (Value.int .i64) (Value.int .i64) mb 0).toArray mb.length), .raw g_40 (.stringIter (mvS xs) pa), .raw g_38 (.map (mE (Value.int .i64) (Value.int .i64) (cameV xs) 0).toArray (cameV xs).length), Ob.v (tSl tStr) RPS v_23, .row (tI .i64) 3 v_17 (rnV xs), Ob.v (tSl (tI .i64)) xs r_5, .box g_1 22 (List.map (Value.int .u8) bs)] ∧ pb ≤ (mvS xs).size ∧ cmK xs.length 111 (rnV xs) (mvL xs) pb = (mb, kb)) (fun x : Int × Nat × (List (Int × Int)) => match x with | (kb, pb, mb) => (mvS xs).size - pb) (0, 0, ([] : List (Int × Int))) ⟨rfl, trivial⟩ ⟨hS, (Nat.zero_le _), (rfl)⟩ ?_
    rintro ⟨kb, pb, mb⟩ u_65 w_64 ⟨hS, h1b, h2b⟩
    refine W.seq ?_
    refine W.reg ?_
    refine Wx.nextS hS 0 rfl rfl rfl (fun hn w_66 hz_67 hS => ?_) (fun hn => ?_)
    · -- a rune
      have hS : St _ _ w_66 [.raw g_61 (.stringIter (mvS xs) (pb + (runeW (mvS xs) (pb : Int)).toNat)), .raw g_59 (.map (mE (Value.int .i64) (Value.int .i64) mb 0).toArray mb.length), .raw g_40 (.stringIter (mvS xs) pa), .raw g_38 (.map (mE (Value.int .i64) (Value.int .i64) (cameV xs) 0).toArray (cameV xs).length), Ob.v (tSl tStr) RPS v_23, .row (tI .i64) 3 v_17 (rnV xs), Ob.v (tSl (tI .i64)) xs r_5, .box g_1 22 (List.map (Value.int .u8) bs)] := hS
      have hru := mv_rune (xs := xs) (p := pb) (by omega)
      have hbd := mvl_bd (xs := xs) (i := (pb : Int)) (by omega) (by omega)
      have hkb := (cmk_bd xs.length 111 (rnV xs) (mvL xs) pb 0).2
      rw [h2b] at hkb
      dsimp only at hkb
      refine Wx.rd (v := .bool true) (rd_extract rfl rfl) rfl ?_
      refine Wx.nil ?_
      refine W.seq ?_
      refine W.condT rfl rfl ?_
      refine W.skip ?_
      refine W.block ?_
      refine W.seq ?_
      refine W.reg ?_
      refine Wx.rd (v := .int .i64 (pb : Int)) (rd_extract rfl rfl) rfl ?_
      refine Wx.rd (v := .int .i32 (runeAt (mvS xs) (pb : Int))) (rd_extract rfl rfl) rfl ?_
      refine Wx.rd (v := .int .i64 (pb : Int)) (rd_assign rfl) rfl ?_
      refine Wx.rd (v := .int .i32 (runeAt (mvS xs) (pb : Int))) (rd_assign rfl) rfl ?_
      refine Wx.nil ?_
      refine W.seq ?_
      refine W.reg ?_
      refine Wx.rd (v := .int .i32 (runeAt (mvS xs) (pb : Int))) (rd_move rfl) rfl ?_
      refine Wx.rd (v := .bool (decide ((runeAt (mvS xs) (pb : Int)) = 111))) (rd_eql rfl rfl) rfl ?_
      refine Wx.rd (v := .bool (decide ((runeAt (mvS xs) (pb : Int)) = 111))) (rd_move rfl) rfl ?_
      refine Wx.cut (X := Unit) 4 [106, 107, 108, 109] (fun _ => [(109, .bool (decide ((runeAt (mvS xs) (pb : Int)) = 111) && decide (kb < (xs.length : Int))))]) (fun _ w' => St w O w' [.raw g_61 (.stringIter (mvS xs) (pb + (runeW (mvS xs) (pb : Int)).toNat)), .raw g_59 (.map (mE (Value.int .i64) (Value.int .i64) mb 0).toArray mb.length), .raw g_40 (.stringIter (mvS xs) pa), .raw g_38 (.map (mE (Value.int .i64) (Value.int .i64) (cameV xs) 0).toArray (cameV xs).length), Ob.v (tSl tStr) RPS v_23, .row (tI .i64) 3 v_17 (rnV xs), Ob.v (tSl (tI .i64)) xs r_5, .box g_1 22 (List.map (Value.int .u8) bs)]) ?_ ?_
      · rcases Bool.eq_false_or_eq_true (decide ((runeAt (mvS xs) (pb : Int)) = 111)) with g_69 | g_69
        · -- True
          have gp_70 := of_decide_eq_true g_69
          refine Wx.gyes rfl rfl (congrArg Value.bool g_69) ?_
          refine Wx.rd (v := .int .i64 kb) (rd_move rfl) rfl ?_
          refine Wx.gyes rfl rfl (congrArg Value.bool g_69) ?_
          refine Wx.rd (v := .int .i64 (xs.length : Int)) (rd_move rfl) rfl ?_
          refine Wx.gyes rfl rfl (congrArg Value.bool g_69) ?_
          refine Wx.rd (v := .bool (decide (kb < (xs.length : Int)))) (rd_lss rfl rfl) rfl ?_
          refine Wx.rd (v := .bool (decide (kb < (xs.length : Int)))) (rd_pickT (congrArg Value.bool g_69) rfl) rfl ?_
          refine Wx.nil ⟨(), hS, ⟨?_, trivial⟩, Out.look rfl Out.refl⟩
          show Value.bool (decide (kb < (xs.length : Int))) = Value.bool (decide ((runeAt (mvS xs) (pb : Int)) = 111) && decide (kb < (xs.length : Int)))
          first | rw [g_69, Bool.true_and] | (rw [g_69]; rfl)
        · -- False
          have gp_71 := of_decide_eq_false g_69
          refine Wx.gnoB rfl rfl (congrArg Value.bool g_69) rfl rfl ?_
          refine Wx.gnoB rfl rfl (congrArg Value.bool g_69) rfl rfl ?_
          refine Wx.gnoB rfl rfl (congrArg Value.bool g_69) rfl rfl ?_
          refine Wx.rd (v := .bool false) (rd_pickF (congrArg Value.bool g_69) rfl) rfl ?_
          refine Wx.nil ⟨(), hS, ⟨?_, trivial⟩, Out.look rfl Out.refl⟩
          show Value.bool false = Value.bool (decide ((runeAt (mvS xs) (pb : Int)) = 111) && decide (kb < (xs.length : Int)))
          first | rw [g_69, Bool.false_and] | (rw [g_69]; rfl)
      rintro ⟨⟩ u_73 w_72 hS
      refine Wx.nil ?_
      refine W.cond rfl (fun c4 => ?_) (fun c4 => ?_)
      · -- yes
        try simp only [Bool.and_eq_true, Bool.or_eq_true, Bool.not_eq_true', Bool.and_eq_false_iff, Bool.or_eq_false_iff, Bool.not_eq_false', decide_eq_true_eq, decide_eq_false_iff_not, not_or, Bool.false_eq_true, Bool.true_eq_false, false_or, or_false, not_false_eq_true] at c4
        refine W.seq ?_
        refine W.reg ?_
        refine Wx.rd (v := .map (some g_59)) (rd_move rfl) rfl ?_
        refine Wx.rd (v := v_17) (rd_move rfl) rfl ?_
        refine Wx.rd (v := .int .i64 kb) (rd_move rfl) rfl ?_
        refine Wx.indexR hS 5 rfl rfl rfl Tryz.underlying23 Tryz.sizeOf3 (by first | omega | (simp only [List.length_set, List.length_append, List.length_cons, List.length_nil, List.length_replicate]; omega)) (by first | omega | (simp only [List.length_set, List.length_append, List.length_cons, List.length_nil, List.length_replicate]; omega)) rfl (fun g_74 hg_75 => ?_)
        refine Wx.rd (v := .int .i64 (ix 0 (rnV xs) kb)) (rd_loadRI' hS 5 rfl hg_75 rfl (by first | omega | (simp only [List.length_set, List.length_append, List.length_cons, List.length_nil, List.length_replicate]; omega)) (by first | omega | (simp only [List.length_set, List.length_append, List.length_cons, List.length_nil, List.length_replicate]; omega)) Tryz.isAgg3 Tryz.sizeOf3) rfl ?_
        have bd_76 := bd_i64 (hS.rowInK' 5 rfl (by first | omega | (simp only [List.length_set, List.length_append, List.length_cons, List.length_nil, List.length_replicate]; omega)) (by first | omega | (simp only [List.length_set, List.length_append, List.length_cons, List.length_nil, List.length_replicate]; omega)) : InK .i64 (ix 0 (rnV xs) kb))
        refine Wx.rd (v := .int .i64 (pb : Int)) (rd_move rfl) rfl ?_
        refine Wx.mapUpdate (m := mb) (k := (ix 0 (rnV xs) kb)) (v := (pb : Int)) (f := (Value.int .i64)) (g := (Value.int .i64)) hS 1 rfl rfl rfl rfl Tryz.underlying37 (KeyD.int Tryz.underlying3) (fun w_77 hz_78 hS => ?_)
        refine Wx.nil ?_
        refine W.reg ?_
        refine Wx.rd (v := .int .i64 kb) (rd_move rfl) rfl ?_
        refine Wx.rd (v := .int .i64 (kb + 1)) (rd_add rfl rfl (in_i64 (by omega) (by omega))) rfl ?_
        refine Wx.rd (v := .int .i64 (kb + 1)) (rd_assign rfl) rfl ?_
        refine Wx.nil ?_
        refine ⟨(kb + 1, pb + (runeW (mvS xs) (pb : Int)).toNat, mput mb (ix 0 (rnV xs) kb) (pb : Int)), (by show (mvS xs).size - (pb + (runeW (mvS xs) (pb : Int)).toNat) < (mvS xs).size - pb; omega), ?_, ?_, Out.look rfl (Out.hav rfl (Out.look rfl Out.self))⟩
        · exact ⟨hS, (by omega), (by rw [show ((pb + (runeW (mvS xs) (pb : Int)).toNat : Nat) : Int) = (pb : Int) + 1 by omega, cmk_next (by omega), h2b, cmS, if_pos (by simp only; omega)])⟩
        · exact ⟨rfl, trivial⟩
      · -- no
        try simp only [Bool.and_eq_true, Bool.or_eq_true, Bool.not_eq_true', Bool.and_eq_false_iff, Bool.or_eq_false_iff, Bool.not_eq_false', decide_eq_true_eq, decide_eq_false_iff_not, not_or, Bool.false_eq_true, Bool.true_eq_false, false_or, or_false, not_false_eq_true] at c4
        refine W.skip ?_
        refine ⟨(kb, pb + (runeW (mvS xs) (pb : Int)).toNat, mb), (by show (mvS xs).size - (pb + (runeW (mvS xs) (pb : Int)).toNat) < (mvS xs).size - pb; omega), ?_, ?_, Out.look rfl (Out.hav rfl (Out.look rfl Out.self))⟩
        · exact ⟨hS, (by omega), (by rw [show ((pb + (runeW (mvS xs) (pb : Int)).toNat : Nat) : Int) = (pb : Int) + 1 by omega, cmk_next (by omega), h2b, cmS, if_neg (by simp only; omega)])⟩
        · exact ⟨rfl, trivial⟩
    · -- the end
      refine Wx.rd (v := .bool false) (rd_extract rfl rfl) rfl ?_
      refine Wx.nil ?_
      refine W.seq ?_
      refine W.condF rfl rfl ?_
      refine W.exit rfl ?_
      refine W.seq ?_
      refine W.seq ?_
      refine W.reg ?_
      refine Wx.rd (v := r_5) (rd_move rfl) rfl ?_
      refine Wx.rd (v := .int .i64 (xs.length : Int)) (rd_lenV rfl (hS.v 6 rfl) Tryz.underlying23) rfl ?_
      refine Wx.rd (v := .int .i64 0) (rd_move rfl) rfl ?_
      refine Wx.nil ?_
      refine W.block ?_
      have hsay : mb = leftV xs := by rw [leftV, show ((mvL xs).length : Int) = (pb : Int) by omega, h2b]
      rw [hsay] at hS
      have hS : St _ _ _ [.raw g_61 (.stringIter (mvS xs) pb), .raw g_59 (.map (mE (Value.int .i64) (Value.int .i64) (leftV xs) 0).toArray (leftV xs).length), .raw g_40 (.stringIter (mvS xs) pa), .raw g_38 (.map (mE (Value.int .i64) (Value.int .i64) (cameV xs) 0).toArray (cameV xs).length), Ob.v (tSl tStr) RPS v_23, .row (tI .i64) 3 v_17 (rnV xs), Ob.v (tSl (tI .i64)) xs r_5, .box g_1 22 (List.map (Value.int .u8) bs)] := hS
      have hS := hS.addNil (tP (tI .i64) (tI .i64)) 38
      refine W.loop [13, 23, 120, 121, 122, 123, 124, 125, 126, 127, 128, 129, 130, 131, 132, 133, 134] (fun x : Int × Value × (List (Int × Int)) => match x with | (q, jv, js) => [(120, .int .i64 q), (13, jv)]) (fun (x : Int × Value × (List (Int × Int))) w' => match x with | (q, jv, js) => St w O w' [.row (tP (tI .i64) (tI .i64)) 38 jv js, .raw g_61 (.stringIter (mvS xs) pb), .raw g_59 (.map (mE (Value.int .i64) (Value.int .i64) (leftV xs) 0).toArray (leftV xs).length), .raw g_40 (.stringIter (mvS xs) pa), .raw g_38 (.map (mE (Value.int .i64) (Value.int .i64) (cameV xs) 0).toArray (cameV xs).length), Ob.v (tSl tStr) RPS v_23, .row (tI .i64) 3 v_17 (rnV xs), Ob.v (tSl (tI .i64)) xs r_5, .box g_1 22 (List.map (Value.int .u8) bs)] ∧ 0 ≤ q ∧ q ≤ xs.length ∧ js = (jnV xs).take q.toNat ∧ (js.length : Int) = q) (fun x : Int × Value × (List (Int × Int)) => match x with | (q, jv, js) => (xs.length - q).toNat) (0, (.slice none 0 0), []) ⟨rfl, rfl, trivial⟩ ⟨hS, (by first | omega | simp), (by first | omega | simp), (rfl), (rfl)⟩ ?_
      rintro ⟨q, jv, js⟩ u_80 w_79 ⟨hS, q0, q1, q2, q3⟩
      refine W.seq ?_
      refine W.reg ?_
      refine Wx.rd (v := .bool (decide (q < (xs.length : Int)))) (rd_lss rfl rfl) rfl ?_
      refine Wx.nil ?_
      refine W.seq ?_
      refine W.condD rfl (fun c5 => ?_) (fun c5 => ?_)
      · -- yes
        have hcb := came_bd xs (ix 0 xs q)
        have hlb := left_bd xs (ix 0 xs q)
        refine W.skip ?_
        refine W.seq ?_
        refine W.block ?_
        refine W.seq ?_
        refine W.reg ?_
        refine Wx.ex (rd_index 0 (hS.v 7 rfl) rfl rfl Tryz.underlying23 Tryz.sizeOf3 (by first | omega | (simp only [List.length_set, List.length_append, List.length_cons, List.length_nil, List.length_replicate]; omega)) (by first | omega | (simp only [List.length_set, List.length_append, List.length_cons, List.length_nil, List.length_replicate]; omega))) rfl (fun p_81 hp_82 => ?_)
        refine Wx.rd (v := .int .i64 (ix 0 xs q)) (rd_loadI hp_82 rfl Tryz.isAgg3 Tryz.sizeOf3) rfl ?_
        have bd_83 := bd_i64 hp_82.inK
        refine Wx.rd (v := .int .i64 (ix 0 xs q)) (rd_assign rfl) rfl ?_
        refine Wx.nil ?_
        refine W.reg ?_
        refine Wx.rd (v := jv) (rd_move rfl) rfl ?_
        refine Wx.rd (v := .map (some g_38)) (rd_move rfl) rfl ?_
        refine Wx.rd (v := .int .i64 (ix 0 xs q)) (rd_move rfl) rfl ?_
        refine Wx.rd (v := .int .i64 (mget 0 (cameV xs) (ix 0 xs q))) (rd_lookup (m := (cameV xs)) (zv := 0) (k := (ix 0 xs q)) (f := (Value.int .i64)) (g := (Value.int .i64)) hS 4 rfl rfl rfl Tryz.underlying37 (KeyD.int Tryz.underlying3) (fun _ => Tryz.zeroValue3 _)) rfl ?_
        refine Wx.rd (v := .map (some g_59)) (rd_move rfl) rfl ?_
        refine Wx.rd (v := .int .i64 (ix 0 xs q)) (rd_move rfl) rfl ?_
        refine Wx.rd (v := .int .i64 (mget 0 (leftV xs) (ix 0 xs q))) (rd_lookup (m := (leftV xs)) (zv := 0) (k := (ix 0 xs q)) (f := (Value.int .i64)) (g := (Value.int .i64)) hS 2 rfl rfl rfl Tryz.underlying37 (KeyD.int Tryz.underlying3) (fun _ => Tryz.zeroValue3 _)) rfl ?_
        refine Wx.rd (v := .agg #[.int .i64 (mget 0 (cameV xs) (ix 0 xs q)), .int .i64 (mget 0 (leftV xs) (ix 0 xs q))]) (rd_build (vs := [(0, .int .i64 (mget 0 (cameV xs) (ix 0 xs q))), (1, .int .i64 (mget 0 (leftV xs) (ix 0 xs q)))]) rfl (by kernel_rfl)) rfl ?_
        refine Wx.lit (t := (tP (tI .i64) (tI .i64))) (ys := [(mget 0 (cameV xs) (ix 0 xs q), mget 0 (leftV xs) (ix 0 xs q))]) (vs := [.agg #[.int .i64 (mget 0 (cameV xs) (ix 0 xs q)), .int .i64 (mget 0 (leftV xs) (ix 0 xs q))]]) elTm_36 hS rfl rfl ⟨(V.mk2 (in_i64 (by omega) (by omega)) (in_i64 (by omega) (by omega))), trivial⟩ (by decide) rfl (fun v_86 w_87 hx_88 hS => ?_)
        refine Wx.append elTm_36 hS 1 rfl rfl rfl (Src.ofR hS 0 rfl) (by simp only [maxLen]; first | omega | (simp; omega) | simp) (by first | omega | (simp; omega) | simp) rfl (fun v_89 w_90 hz_91 hS => ?_)
        refine Wx.rd (v := v_89) (rd_assign rfl) rfl ?_
        refine Wx.nil ?_
        refine W.reg ?_
        refine Wx.rd (v := .int .i64 (q + 1)) (rd_add rfl rfl (in_i64 (by omega) (by omega))) rfl ?_
        refine Wx.rd (v := .int .i64 (q + 1)) (rd_move rfl) rfl ?_
        refine Wx.nil ?_
        refine ⟨(q + 1, v_89, js ++ [(mget 0 (cameV xs) (ix 0 xs q), mget 0 (leftV xs) (ix 0 xs q))]), (by show (xs.length - (q + 1)).toNat < (xs.length - q).toNat; omega), ?_, ?_, Out.look rfl Out.self⟩
        · exact ⟨hS.tl, (by first | omega | assumption), (by first | omega | assumption), (by rw [jn_next q0 (by omega), q2]), (by simp only [List.length_append, List.length_cons, List.length_nil]; omega)⟩
        · exact ⟨rfl, rfl, trivial⟩
      · -- no
        have hsay : js = jnV xs := by rw [q2, List.take_of_length_le (by have := jn_len xs; omega)]
        rw [hsay] at hS
        refine W.exit rfl ?_
        refine W.seq ?_
        refine W.reg ?_
        refine Wx.rd (v := .string (rimV xs)) (rd_move rfl) rfl ?_
        refine Wx.callF (run_callF Tryz.call11 rfl) (C5.F11 (by first | assumption | (simp only [maxLen]; omega) | (simp only [ByteArray.size_extract, ByteArray.size_append, maxLen] at *; omega) | decide) (hG.ext hS.bel)) rfl ?_
        rintro r_92 w_93 hx_94 rfl
        have hS := hS.ext hx_94
        refine Wx.rd (v := .tuple #[.int .i64 (mostV (rimV xs)), .int .i64 (rimE (rimV xs))]) (rd_move rfl) rfl ?_
        refine Wx.rd (v := .int .i64 xs.length) (Rd.to (v := .int .i64 (mostV (rimV xs))) (rd_extract rfl rfl) (congrArg (Value.int .i64) (show (xs.length : Int) = (mostV (rimV xs) : Int) from hg.t.symm).symm)) rfl ?_
        refine Wx.rd (v := .int .i64 0) (Rd.to (v := .int .i64 (rimE (rimV xs))) (rd_extract rfl rfl) (congrArg (Value.int .i64) (show (0 : Int) = (rimE (rimV xs) : Int) from hg.e.symm).symm)) rfl ?_
        refine Wx.rd (v := .int .i64 xs.length) (rd_assign rfl) rfl ?_
        refine Wx.rd (v := .int .i64 0) (rd_assign rfl) rfl ?_
        refine Wx.nil ?_
        refine W.seq ?_
        refine W.reg ?_
        refine Wx.rd (v := .int .i64 0) (rd_move rfl) rfl ?_
        refine Wx.rd (v := .bool true) (Rd.to (v := .bool (decide ((0 : Int) = 0))) (rd_eql rfl rfl) rfl) rfl ?_
        refine Wx.rd (v := .bool true) (rd_move rfl) rfl ?_
        refine Wx.gyes rfl rfl rfl ?_
        refine Wx.rd (v := .int .i64 0) (rd_move rfl) rfl ?_
        refine Wx.gyes rfl rfl rfl ?_
        refine Wx.rd (v := .bool true) (Rd.to (v := .bool (decide ((0 : Int) = 0))) (rd_eql rfl rfl) rfl) rfl ?_
        refine Wx.rd (v := .bool true) (rd_pickT rfl rfl) rfl ?_
        refine Wx.rd (v := .bool true) (rd_move rfl) rfl ?_
        refine Wx.gyes rfl rfl rfl ?_
        refine Wx.rd (v := .bool true) (rd_move rfl) rfl ?_
        refine Wx.rd (v := .bool true) (rd_pickT rfl rfl) rfl ?_
        refine Wx.rd (v := .bool true) (rd_move rfl) rfl ?_
        refine Wx.gyes rfl rfl rfl ?_
        refine Wx.rd (v := .int .i64 xs.length) (rd_move rfl) rfl ?_
        refine Wx.gyes rfl rfl rfl ?_
        refine Wx.rd (v := .int .i64 (xs.length : Int)) (rd_move rfl) rfl ?_
        refine Wx.gyes rfl rfl rfl ?_
        refine Wx.rd (v := .bool true) (Rd.to (v := .bool (decide (xs.length = (xs.length : Int)))) (rd_eql rfl rfl) (congrArg (Value.bool) (show (true : Bool) = (decide (xs.length = (xs.length : Int)) : Bool) from (decide_eq_true rfl).symm).symm)) rfl ?_
        refine Wx.rd (v := .bool true) (rd_pickT rfl rfl) rfl ?_
        refine Wx.rd (v := .bool true) (rd_move rfl) rfl ?_
        refine Wx.gyes rfl rfl rfl ?_
        refine Wx.rd (v := .string (rimV xs)) (rd_move rfl) rfl ?_
        refine Wx.gyes rfl rfl rfl ?_
        refine Wx.rd (v := jv) (rd_move rfl) rfl ?_
        refine Wx.gyes rfl rfl rfl ?_
        refine Wx.callF (run_callF Tryz.call12 rfl) (C5.F12 (by first | assumption | (simp only [maxLen]; omega) | (simp only [ByteArray.size_extract, ByteArray.size_append, maxLen] at *; omega) | decide) (hS.lend 0 rfl) (hG.ext hS.bel)) rfl ?_
        rintro r_95 w_96 hx_97 rfl
        have hS := hS.ext hx_97
        rw [show (validE (rimV xs) (jnV xs) : Int) = 0 from hg.v]
        refine Wx.gyes rfl rfl rfl ?_
        refine Wx.rd (v := .bool true) (Rd.to (v := .bool (decide ((0 : Int) = 0))) (rd_eql rfl rfl) rfl) rfl ?_
        refine Wx.rd (v := .bool true) (rd_pickT rfl rfl) rfl ?_
        refine Wx.rd (v := .bool true) (rd_move rfl) rfl ?_
        refine Wx.gyes rfl rfl rfl ?_
        refine Wx.callF (run_callF Tryz.call13 rfl) (F13 (hG.ext hS.bel)) rfl ?_
        rintro r_98 w_99 hx_100 rfl
        have hS := hS.ext hx_100
        refine Wx.rd (v := .bool true) (rd_pickT rfl rfl) rfl ?_
        refine Wx.rd (v := .bool true) (rd_assign rfl) rfl ?_
        refine Wx.nil ?_
        exact W.ret ⟨.bool true, ResIs.one, hS.bel, rfl⟩
end Go.Proofs.YtodcppoglpfodaaGreatDoor
