/-
  WHAT IS PROVED HERE: what functions of layer 3 hand back, each out of its own code; the conditions stand in each statement.
-/
import Derived.Test.YtjmpojoimcljoaaProg
import Derived.Test.YtjmpojoimcljoaaWk9
import Derived.Test.YtjmpojoimcljoaaSpec6
import Derived.Test.YtjmpojoimcljoaaFa
import Derived.Test.YtjmpojoimcljoaaFb
import Derived.Test.YtjmpojoimcljoaaFc
import Derived.Test.YtjmpojoimcljoaaFf
namespace Go.Proofs.Ytjmpojoimcljoaa
open Go.Wk Go.RowKit
set_option linter.unusedVariables false
set_option linter.unusedSimpArgs false
theorem mixedFg_ : Try.prog.follows .mixedOrders = true := by kernel_rfl
theorem foFg_85_0 : fldOff Try.prog 85 0 = some 0 := by kernel_rfl
theorem foFg_85_1 : fldOff Try.prog 85 1 = some 1 := by kernel_rfl
theorem elFg_83 : ElemI Try.prog 83 89 (.int .u8 0) 1 1 := ElemI.of Try.underlying83 (by kernel_rfl) (by first | rfl | kernel_rfl) (by decide)
theorem elFg_36 : ElemI Try.prog 36 61 (.agg #[.int .i64 0, .int .i64 0]) 2 16 := ElemI.of Try.underlying36 (by kernel_rfl) (by first | rfl | kernel_rfl) (by decide)

theorem F67 {L : Int} {sv : Value} {ss : List Int} {Fr_sv : List (Option Nat)} {a : Int} {b : Int} {w : World} (i_L : InK .i64 L) (h_sv : V (tSl (tI .u8)) ss sv Fr_sv w) (i_a : InK .i64 a) (i_b : InK .i64 b) (p_1 : 1 ≤ L) (p_7 : L ≤ 7) (p_10 : (ss.length : Int) ≤ 10) (p_a : 0 ≤ a) (p_b : 0 ≤ b) : Calls Try.prog 67 #[.agg #[.int .i64 L, sv], .int .i64 a, .int .i64 b] w (Ret w (fun r _ => r = .bool (besideB L ss a b))) := by
  have b_b := bd_i64 i_b
  have b_a := bd_i64 i_a
  have b_L := bd_i64 i_L
  have a_sv := h_sv.any
  have l_sv := h_sv.len63
  have hS := St.start0 w
  refine enterR Try.func67 rfl Try.ntmps67 Try.results67 rfl ?_
  refine W.seq ?_
  refine W.reg ?_
  refine Wx.box (cs := [.int .i64 L, sv]) hS rfl rfl rfl (fun g_1 w_2 hx_4 hb_3 hS => ?_)
  refine Wx.rd (v := .bool false) (rd_assign rfl) rfl ?_
  refine Wx.nil ?_
  refine W.seq ?_
  refine W.regH mixedFg_ (fun w_5 hx_6 => ?_)
  have h0 := hS
  have hS := (St.start _ _ h0.fb_lt).ext hx_6
  refine Wh.rd (v := .pointer (some ⟨g_1, 0, none⟩)) 0 rfl (by kernel_rfl) hS.bel (rd_fieldAddr rfl foFg_85_0) rfl ?_
  refine Wh.rd (v := .int .i64 L) 1 rfl (by kernel_rfl) hS.bel (rd_loadX h0 0 rfl rfl rfl Try.isAgg3) rfl ?_
  refine Wh.rd (v := .pointer (some ⟨g_1, 1, none⟩)) 2 rfl (by kernel_rfl) hS.bel (rd_fieldAddr rfl foFg_85_1) rfl ?_
  refine Wh.rd (v := sv) 3 rfl (by kernel_rfl) hS.bel (rd_loadX h0 0 rfl rfl rfl Try.isAgg83) rfl ?_
  refine Wh.rd (v := .int .i64 (ss.length : Int)) 4 rfl (by kernel_rfl) hS.bel (rd_lenV rfl (h0.arg a_sv) Try.underlying83) rfl ?_
  refine Wh.rd (v := .int .i64 ((ss.length : Int) + 1)) 5 rfl (by kernel_rfl) hS.bel (rd_add rfl rfl (in_i64 (by omega) (by omega))) rfl ?_
  refine Wh.br [6, 8] (by kernel_rfl) (by decide) ⟨⟨_, rfl, ?_⟩, ⟨_, rfl, ?_⟩, trivial⟩
  · -- operation 6
    refine Wx.make (t := (tI .u8)) (zy := 0) (m := (ss.length + 1)) elFg_83 rfl rfl (fun _ _ => ⟨rfl, by decide, by decide⟩) hS (congrArg (Value.int .i64) (by omega)) (congrArg (Value.int .i64) (by omega)) (by omega) (by simp only [maxLen]; omega) rfl (fun v_7 w_8 hx_9 hS => ?_)
    refine Wx.nil ⟨hS.bel, ?_⟩
    refine Wh.rd (v := .agg #[.int .i64 L, v_7]) 7 rfl (by kernel_rfl) hS.bel (rd_buildC (vs := [(0, .int .i64 L), (1, v_7)]) (us := [(0, .agg #[.int .i64 L]), (1, .agg #[v_7])]) rfl (parts_cons rfl (parts_cons (cells_one (hS.rowOne 0 rfl)) parts_nil)) (by kernel_rfl)) rfl ?_
    refine Wh.br [8] (by kernel_rfl) (by decide) ⟨⟨_, rfl, ?_⟩, trivial⟩
    refine Wx.alloc (cs := [.int .i64 0, (.slice none 0 0)]) hS Try.zeroValue85 rfl rfl (fun g_12 w_13 hx_15 hb_14 hS => ?_)
    refine Wx.nil ⟨hS.bel, ?_⟩
    refine Wh.br [9] (by kernel_rfl) (by decide) ⟨⟨_, rfl, ?_⟩, trivial⟩
    refine Wx.storeX (cs' := [.int .i64 L, v_7]) (ds := [.int .i64 L, v_7]) hS 0 rfl rfl rfl rfl Try.sizeOf85 (Nat.le_of_ble_eq_true rfl) (one_cons rfl (one_cons (hS.rowOne 1 rfl) one_nil)) rfl (fun w_16 hz_17 hS => ?_)
    refine Wx.nil ⟨hS.bel, ?_⟩
    refine Wh.done (by kernel_rfl) ?_
    have hS := h0.merge hS
    refine W.seq ?_
    refine W.reg ?_
    refine Wx.rd (v := .pointer (some ⟨g_12, 1, none⟩)) (rd_fieldAddr rfl foFg_85_1) rfl ?_
    refine Wx.rd (v := v_7) (rd_loadX hS 0 rfl rfl rfl Try.isAgg83) rfl ?_
    refine Wx.rd (v := .pointer (some ⟨g_1, 1, none⟩)) (rd_fieldAddr rfl foFg_85_1) rfl ?_
    refine Wx.rd (v := sv) (rd_loadX hS 2 rfl rfl rfl Try.isAgg83) rfl ?_
    refine Wx.copyW (c := ss.length) (yn := ss ++ [0]) rfl Try.underlying83 Try.sizeOf89 hS 1 rfl rfl (by simp) rfl (Src.ofV (hS.arg a_sv)) rfl (by simp) (by rw [List.length_replicate, List.take_of_length_le (by omega), Nat.min_eq_left (by omega), List.drop_replicate, show ss.length + 1 - ss.length = 1 by omega]; rfl) (fun w_18 hz_19 hS => ?_)
    refine Wx.nil ?_
    refine W.seq ?_
    refine W.regT 10 mixedFg_ (by kernel_rfl) ?_
    refine Wx.rd (v := .pointer (some ⟨g_12, 1, none⟩)) (rd_fieldAddr rfl foFg_85_1) rfl ?_
    refine Wx.rd (v := v_7) (rd_loadX hS 0 rfl rfl rfl Try.isAgg83) rfl ?_
    refine Wx.rd (v := .pointer (some ⟨g_1, 1, none⟩)) (rd_fieldAddr rfl foFg_85_1) rfl ?_
    refine Wx.rd (v := sv) (rd_loadX hS 2 rfl rfl rfl Try.isAgg83) rfl ?_
    refine Wx.rd (v := .int .i64 (ss.length : Int)) (rd_lenV rfl (hS.arg a_sv) Try.underlying83) rfl ?_
    refine Wx.rd (v := .int .i64 a) (rd_move rfl) rfl ?_
    refine Wx.callV (v := .int .u8 (withS 0 a)) (run_callF Try.call63 rfl) (fun w_20 hw_21 => (F63 (in_u8 (by omega) (by omega)) (in_i64 (by omega) (by omega)) (by omega))) rfl ?_
    have in_22 := bd_u8 (withS_in 0 a)
    refine Wx.rd (v := .int .i64 b) (rd_move rfl) rfl ?_
    refine Wx.callV (v := .int .u8 (withS (withS 0 a) b)) (run_callF Try.call63 rfl) (fun w_23 hw_24 => (F63 (in_u8 (by omega) (by omega)) (in_i64 (by omega) (by omega)) (by omega))) rfl ?_
    have in_25 := bd_u8 (withS_in (withS 0 a) b)
    refine Wx.indexR hS 1 rfl rfl rfl Try.underlying83 Try.sizeOf89 (by first | omega | (simp only [List.length_set, List.length_append, List.length_cons, List.length_nil, List.length_replicate]; omega)) (by first | omega | (simp only [List.length_set, List.length_append, List.length_cons, List.length_nil, List.length_replicate]; omega)) rfl (fun g_26 hg_27 => ?_)
    refine Wx.nilQ (fun w_28 hx_29 => ?_)
    have hS := hS.ext hx_29
    refine Wx.storeR (j := (ss.length : Int).toNat) (z := withS (withS 0 a) b) hS 1 rfl hg_27 rfl (by first | omega | (simp only [List.length_set, List.length_append, List.length_cons, List.length_nil, List.length_replicate]; omega)) rfl (V.mkInt (in_u8 (by omega) (by omega))) Try.sizeOf89 (fun w_30 hz_31 hS => ?_)
    have hS := hS.spell (ys' := ss ++ [withS (withS 0 a) b]) 1 rfl (by simp)
    refine Wx.nil ?_
    refine W.seq ?_
    refine W.regQ mixedFg_ (by kernel_rfl) ?_
    refine Wx.rd (v := .agg #[.int .i64 L, v_7]) (rd_loadXs (ds := [.int .i64 L, v_7]) hS 0 rfl rfl rfl rfl Try.isAgg85 Try.sizeOf85) rfl ?_
    refine Wx.callV (v := .int .i64 (countT L (ss ++ [withS (withS 0 a) b]))) (run_callF Try.call65 rfl) (fun w_32 hw_33 => (F65 (in_i64 (by omega) (by omega)) ((hS.lend 1 rfl).ext hw_33) (by omega) (by omega))) rfl ?_
    refine Wx.rd (v := .agg #[.int .i64 L, sv]) (rd_loadXs (ds := [.int .i64 L, sv]) hS 2 rfl rfl rfl rfl Try.isAgg85 Try.sizeOf85) rfl ?_
    refine Wx.callV (v := .int .i64 (countT L ss)) (run_callF Try.call65 rfl) (fun w_34 hw_35 => (F65 (in_i64 (by omega) (by omega)) ((hS.arg a_sv).ext hw_35) (by omega) (by omega))) rfl ?_
    refine Wx.rd (v := .bool (decide ((countT L (ss ++ [withS (withS 0 a) b])) = (countT L ss)))) (rd_eql rfl rfl) rfl ?_
    refine Wx.rd (v := .bool (decide ((countT L (ss ++ [withS (withS 0 a) b])) = (countT L ss)))) (rd_assign rfl) rfl ?_
    refine Wx.nilQ (fun w_36 hx_37 => ?_)
    have hS := hS.ext hx_37
    have e0_0 : (besideB L ss a b) = (decide ((countT L (ss ++ [withS (withS 0 a) b])) = (countT L ss))) := by rfl
    exact W.ret ⟨.bool (decide ((countT L (ss ++ [withS (withS 0 a) b])) = (countT L ss))), ResIs.one, hS.bel, (by rw [e0_0])⟩
  · -- operation 8
    refine Wx.alloc (cs := [.int .i64 0, (.slice none 0 0)]) hS Try.zeroValue85 rfl rfl (fun g_38 w_39 hx_41 hb_40 hS => ?_)
    refine Wx.nil ⟨hS.bel, ?_⟩
    refine Wh.br [6] (by kernel_rfl) (by decide) ⟨⟨_, rfl, ?_⟩, trivial⟩
    refine Wx.make (t := (tI .u8)) (zy := 0) (m := (ss.length + 1)) elFg_83 rfl rfl (fun _ _ => ⟨rfl, by decide, by decide⟩) hS (congrArg (Value.int .i64) (by omega)) (congrArg (Value.int .i64) (by omega)) (by omega) (by simp only [maxLen]; omega) rfl (fun v_42 w_43 hx_44 hS => ?_)
    refine Wx.nil ⟨hS.bel, ?_⟩
    refine Wh.rd (v := .agg #[.int .i64 L, v_42]) 7 rfl (by kernel_rfl) hS.bel (rd_buildC (vs := [(0, .int .i64 L), (1, v_42)]) (us := [(0, .agg #[.int .i64 L]), (1, .agg #[v_42])]) rfl (parts_cons rfl (parts_cons (cells_one (hS.rowOne 0 rfl)) parts_nil)) (by kernel_rfl)) rfl ?_
    refine Wh.br [9] (by kernel_rfl) (by decide) ⟨⟨_, rfl, ?_⟩, trivial⟩
    refine Wx.storeX (cs' := [.int .i64 L, v_42]) (ds := [.int .i64 L, v_42]) hS 1 rfl rfl rfl rfl Try.sizeOf85 (Nat.le_of_ble_eq_true rfl) (one_cons rfl (one_cons (hS.rowOne 0 rfl) one_nil)) rfl (fun w_47 hz_48 hS => ?_)
    refine Wx.nil ⟨hS.bel, ?_⟩
    refine Wh.done (by kernel_rfl) ?_
    have hS := h0.merge hS
    refine W.seq ?_
    refine W.reg ?_
    refine Wx.rd (v := .pointer (some ⟨g_38, 1, none⟩)) (rd_fieldAddr rfl foFg_85_1) rfl ?_
    refine Wx.rd (v := v_42) (rd_loadX hS 1 rfl rfl rfl Try.isAgg83) rfl ?_
    refine Wx.rd (v := .pointer (some ⟨g_1, 1, none⟩)) (rd_fieldAddr rfl foFg_85_1) rfl ?_
    refine Wx.rd (v := sv) (rd_loadX hS 2 rfl rfl rfl Try.isAgg83) rfl ?_
    refine Wx.copyW (c := ss.length) (yn := ss ++ [0]) rfl Try.underlying83 Try.sizeOf89 hS 0 rfl rfl (by simp) rfl (Src.ofV (hS.arg a_sv)) rfl (by simp) (by rw [List.length_replicate, List.take_of_length_le (by omega), Nat.min_eq_left (by omega), List.drop_replicate, show ss.length + 1 - ss.length = 1 by omega]; rfl) (fun w_49 hz_50 hS => ?_)
    refine Wx.nil ?_
    refine W.seq ?_
    refine W.regT 10 mixedFg_ (by kernel_rfl) ?_
    refine Wx.rd (v := .pointer (some ⟨g_38, 1, none⟩)) (rd_fieldAddr rfl foFg_85_1) rfl ?_
    refine Wx.rd (v := v_42) (rd_loadX hS 1 rfl rfl rfl Try.isAgg83) rfl ?_
    refine Wx.rd (v := .pointer (some ⟨g_1, 1, none⟩)) (rd_fieldAddr rfl foFg_85_1) rfl ?_
    refine Wx.rd (v := sv) (rd_loadX hS 2 rfl rfl rfl Try.isAgg83) rfl ?_
    refine Wx.rd (v := .int .i64 (ss.length : Int)) (rd_lenV rfl (hS.arg a_sv) Try.underlying83) rfl ?_
    refine Wx.rd (v := .int .i64 a) (rd_move rfl) rfl ?_
    refine Wx.callV (v := .int .u8 (withS 0 a)) (run_callF Try.call63 rfl) (fun w_51 hw_52 => (F63 (in_u8 (by omega) (by omega)) (in_i64 (by omega) (by omega)) (by omega))) rfl ?_
    have in_53 := bd_u8 (withS_in 0 a)
    refine Wx.rd (v := .int .i64 b) (rd_move rfl) rfl ?_
    refine Wx.callV (v := .int .u8 (withS (withS 0 a) b)) (run_callF Try.call63 rfl) (fun w_54 hw_55 => (F63 (in_u8 (by omega) (by omega)) (in_i64 (by omega) (by omega)) (by omega))) rfl ?_
    have in_56 := bd_u8 (withS_in (withS 0 a) b)
    refine Wx.indexR hS 0 rfl rfl rfl Try.underlying83 Try.sizeOf89 (by first | omega | (simp only [List.length_set, List.length_append, List.length_cons, List.length_nil, List.length_replicate]; omega)) (by first | omega | (simp only [List.length_set, List.length_append, List.length_cons, List.length_nil, List.length_replicate]; omega)) rfl (fun g_57 hg_58 => ?_)
    refine Wx.nilQ (fun w_59 hx_60 => ?_)
    have hS := hS.ext hx_60
    refine Wx.storeR (j := (ss.length : Int).toNat) (z := withS (withS 0 a) b) hS 0 rfl hg_58 rfl (by first | omega | (simp only [List.length_set, List.length_append, List.length_cons, List.length_nil, List.length_replicate]; omega)) rfl (V.mkInt (in_u8 (by omega) (by omega))) Try.sizeOf89 (fun w_61 hz_62 hS => ?_)
    have hS := hS.spell (ys' := ss ++ [withS (withS 0 a) b]) 0 rfl (by simp)
    refine Wx.nil ?_
    refine W.seq ?_
    refine W.regQ mixedFg_ (by kernel_rfl) ?_
    refine Wx.rd (v := .agg #[.int .i64 L, v_42]) (rd_loadXs (ds := [.int .i64 L, v_42]) hS 1 rfl rfl rfl rfl Try.isAgg85 Try.sizeOf85) rfl ?_
    refine Wx.callV (v := .int .i64 (countT L (ss ++ [withS (withS 0 a) b]))) (run_callF Try.call65 rfl) (fun w_63 hw_64 => (F65 (in_i64 (by omega) (by omega)) ((hS.lend 0 rfl).ext hw_64) (by omega) (by omega))) rfl ?_
    refine Wx.rd (v := .agg #[.int .i64 L, sv]) (rd_loadXs (ds := [.int .i64 L, sv]) hS 2 rfl rfl rfl rfl Try.isAgg85 Try.sizeOf85) rfl ?_
    refine Wx.callV (v := .int .i64 (countT L ss)) (run_callF Try.call65 rfl) (fun w_65 hw_66 => (F65 (in_i64 (by omega) (by omega)) ((hS.arg a_sv).ext hw_66) (by omega) (by omega))) rfl ?_
    refine Wx.rd (v := .bool (decide ((countT L (ss ++ [withS (withS 0 a) b])) = (countT L ss)))) (rd_eql rfl rfl) rfl ?_
    refine Wx.rd (v := .bool (decide ((countT L (ss ++ [withS (withS 0 a) b])) = (countT L ss)))) (rd_assign rfl) rfl ?_
    refine Wx.nilQ (fun w_67 hx_68 => ?_)
    have hS := hS.ext hx_68
    have e0_0 : (besideB L ss a b) = (decide ((countT L (ss ++ [withS (withS 0 a) b])) = (countT L ss))) := by rfl
    exact W.ret ⟨.bool (decide ((countT L (ss ++ [withS (withS 0 a) b])) = (countT L ss))), ResIs.one, hS.bel, (by rw [e0_0])⟩

theorem F66 {L : Int} {sv : Value} {ss : List Int} {Fr_sv : List (Option Nat)} {L2 : Int} {tv : Value} {ts : List Int} {Fr_tv : List (Option Nat)} {w : World} (i_L : InK .i64 L) (h_sv : V (tSl (tI .u8)) ss sv Fr_sv w) (i_L2 : InK .i64 L2) (h_tv : V (tSl (tI .u8)) ts tv Fr_tv w) (p_1 : 1 ≤ L) (p_7 : L ≤ 7) (q_1 : 1 ≤ L2) (q_7 : L2 ≤ 7) (q_10 : (ts.length : Int) ≤ 10) : Calls Try.prog 66 #[.agg #[.int .i64 L, sv], .func (.func 67) #[.agg #[.int .i64 L2, tv]] #[]] w (Ret w (fun r w' => ∃ rv, r = rv ∧ Fresh (tP (tI .i64) (tI .i64)) 61 (pairA L (besideB L2 ts) L.toNat) rv w.heap.size w')) := by
  have b_L2 := bd_i64 i_L2
  have b_L := bd_i64 i_L
  have a_sv := h_sv.any
  have l_sv := h_sv.len63
  have a_tv := h_tv.any
  have l_tv := h_tv.len63
  have hS := St.start0 w
  refine enterR Try.func66 rfl Try.ntmps66 Try.results66 rfl ?_
  refine W.seq ?_
  refine W.reg ?_
  refine Wx.box (cs := [.int .i64 L, sv]) hS rfl rfl rfl (fun g_1 w_2 hx_4 hb_3 hS => ?_)
  refine Wx.rd (v := (.slice none 0 0)) (rd_assign rfl) rfl ?_
  refine Wx.nil ?_
  refine W.seq ?_
  refine W.reg ?_
  refine Wx.rd (v := (.slice none 0 0)) (rd_assign rfl) rfl ?_
  refine Wx.nil ?_
  refine W.seq ?_
  refine W.seq ?_
  refine W.reg ?_
  refine Wx.rd (v := .pointer (some ⟨g_1, 0, none⟩)) (rd_fieldAddr rfl foFg_85_0) rfl ?_
  refine Wx.rd (v := .int .i64 L) (rd_loadX hS 0 rfl rfl rfl Try.isAgg3) rfl ?_
  refine Wx.rd (v := .int .i64 0) (rd_move rfl) rfl ?_
  refine Wx.nil ?_
  refine W.block ?_
  have hS := hS.addNil (tP (tI .i64) (tI .i64)) 61
  refine W.loop [5, 6, 7, 10, 11, 12, 13, 14, 15, 16, 17, 18, 19, 20, 21, 22, 23, 24, 25, 26, 27, 28, 29, 30, 31] (fun x : Int × Value × (List (Int × Int)) => match x with | (a, xv, out) => [(10, .int .i64 a), (5, xv)]) (fun (x : Int × Value × (List (Int × Int))) w' => match x with | (a, xv, out) => St w [] w' [.row (tP (tI .i64) (tI .i64)) 61 xv out, .box g_1 85 [.int .i64 L, sv]] ∧ 0 ≤ a ∧ a ≤ L ∧ out ++ pairA L (besideB L2 ts) (L - a).toNat = pairA L (besideB L2 ts) L.toNat ∧ (out.length : Int) ≤ 10 * a) (fun x : Int × Value × (List (Int × Int)) => match x with | (a, xv, out) => (L - a).toNat) (0, (.slice none 0 0), []) ⟨rfl, rfl, trivial⟩ ⟨hS, (by first | omega | simp), (by first | omega | simp), (by simp), (by simp)⟩ ?_
  rintro ⟨a, xv, out⟩ u_6 w_5 ⟨hS, h0, h1, h2, h3⟩
  refine W.seq ?_
  refine W.reg ?_
  refine Wx.rd (v := .bool (decide (a < L))) (rd_lss rfl rfl) rfl ?_
  refine Wx.nil ?_
  refine W.seq ?_
  refine W.condD rfl (fun c0 => ?_) (fun c0 => ?_)
  · -- yes
    refine W.skip ?_
    refine W.seq ?_
    refine W.block ?_
    refine W.seq ?_
    refine W.reg ?_
    refine Wx.rd (v := .int .i64 a) (rd_move rfl) rfl ?_
    refine Wx.rd (v := .int .i64 a) (rd_assign rfl) rfl ?_
    refine Wx.nil ?_
    refine W.seq ?_
    refine W.reg ?_
    refine Wx.rd (v := .int .i64 a) (rd_move rfl) rfl ?_
    refine Wx.rd (v := .int .i64 (a + 1)) (rd_add rfl rfl (in_i64 (by omega) (by omega))) rfl ?_
    refine Wx.rd (v := .int .i64 (a + 1)) (rd_assign rfl) rfl ?_
    refine Wx.nil ?_
    refine W.block ?_
    refine W.loop [5, 7, 15, 16, 17, 18, 19, 20, 21, 22, 23, 24, 25, 26, 27, 28, 29, 30] (fun x : Int × Value × (List (Int × Int)) => match x with | (b, xv, out) => [(7, .int .i64 b), (5, xv)]) (fun (x : Int × Value × (List (Int × Int))) w' => match x with | (b, xv, out) => St w [] w' [.row (tP (tI .i64) (tI .i64)) 61 xv out, .box g_1 85 [.int .i64 L, sv]] ∧ a + 1 ≤ b ∧ b ≤ L ∧ out ++ pairB L a (besideB L2 ts) (L - b).toNat ++ pairA L (besideB L2 ts) (L - (a + 1)).toNat = pairA L (besideB L2 ts) L.toNat ∧ (out.length : Int) ≤ 10 * a + (b - a)) (fun x : Int × Value × (List (Int × Int)) => match x with | (b, xv, out) => (L - b).toNat) (a + 1, xv, out) ⟨rfl, rfl, trivial⟩ ⟨hS, (by first | omega | simp), (by first | omega | simp), (by rw [← h2, show (L - a).toNat = (L - (a + 1)).toNat + 1 by omega, pairA, show L - (((L - (a + 1)).toNat : Nat) + 1 : Int) = a by omega, List.append_assoc]), (by omega)⟩ ?_
    rintro ⟨b, xv, out⟩ u_8 w_7 ⟨hS, g0, g1, g2, g3⟩
    refine W.seq ?_
    refine W.seq ?_
    refine W.reg ?_
    refine Wx.rd (v := .int .i64 b) (rd_move rfl) rfl ?_
    refine Wx.rd (v := .pointer (some ⟨g_1, 0, none⟩)) (rd_fieldAddr rfl foFg_85_0) rfl ?_
    refine Wx.rd (v := .int .i64 L) (rd_loadX hS 1 rfl rfl rfl Try.isAgg3) rfl ?_
    refine Wx.rd (v := .bool (decide (b < L))) (rd_lss rfl rfl) rfl ?_
    refine Wx.nil ?_
    refine W.condD rfl (fun c1 => ?_) (fun c1 => ?_)
    · -- yes
      refine W.skip ?_
      refine W.seq ?_
      refine W.block ?_
      refine W.seq ?_
      refine W.reg ?_
      refine Wx.rd (v := .func (.func 67) #[.agg #[.int .i64 L2, tv]] #[]) (rd_move rfl) rfl ?_
      refine Wx.rd (v := .int .i64 a) (rd_move rfl) rfl ?_
      refine Wx.rd (v := .int .i64 b) (rd_move rfl) rfl ?_
      refine Wx.callF (run_callC (fs := [.agg #[.int .i64 L2, tv]]) (cs := []) (vs := [.agg #[.int .i64 L2, tv], .int .i64 a, .int .i64 b]) Try.call67 rfl rfl) (F67 (in_i64 (by omega) (by omega)) (hS.arg a_tv) (in_i64 (by omega) (by omega)) (in_i64 (by omega) (by omega)) (by omega) (by omega) (by omega) (by omega) (by omega)) rfl ?_
      rintro r_9 w_10 hx_11 rfl
      have hS := hS.ext hx_11
      refine Wx.nil ?_
      refine W.cond rfl (fun c2 => ?_) (fun c2 => ?_)
      · -- yes
        try simp only [Bool.and_eq_true, Bool.or_eq_true, Bool.not_eq_true', Bool.and_eq_false_iff, Bool.or_eq_false_iff, Bool.not_eq_false', decide_eq_true_eq, decide_eq_false_iff_not, not_or, Bool.false_eq_true, Bool.true_eq_false, false_or, or_false, not_false_eq_true] at c2
        refine W.reg ?_
        refine Wx.rd (v := xv) (rd_move rfl) rfl ?_
        refine Wx.rd (v := .int .i64 a) (rd_move rfl) rfl ?_
        refine Wx.rd (v := .int .i64 b) (rd_move rfl) rfl ?_
        refine Wx.rd (v := .agg #[.int .i64 a, .int .i64 b]) (rd_build (vs := [(0, .int .i64 a), (1, .int .i64 b)]) rfl (by kernel_rfl)) rfl ?_
        refine Wx.lit (t := (tP (tI .i64) (tI .i64))) (ys := [(a, b)]) (vs := [.agg #[.int .i64 a, .int .i64 b]]) elFg_36 hS rfl rfl ⟨(V.mk2 (in_i64 (by omega) (by omega)) (in_i64 (by omega) (by omega))), trivial⟩ (by decide) rfl (fun v_12 w_13 hx_14 hS => ?_)
        refine Wx.append elFg_36 hS 1 rfl rfl rfl (Src.ofR hS 0 rfl) (by simp only [maxLen]; simp; omega) (by simp; omega) rfl (fun v_15 w_16 hz_17 hS => ?_)
        refine Wx.rd (v := v_15) (rd_assign rfl) rfl ?_
        refine Wx.nil ?_
        refine W.reg ?_
        refine Wx.rd (v := .int .i64 b) (rd_move rfl) rfl ?_
        refine Wx.rd (v := .int .i64 (b + 1)) (rd_add rfl rfl (in_i64 (by omega) (by omega))) rfl ?_
        refine Wx.rd (v := .int .i64 (b + 1)) (rd_assign rfl) rfl ?_
        refine Wx.nil ?_
        refine ⟨(b + 1, v_15, out ++ [(a, b)]), (by show (L - (b + 1)).toNat < (L - b).toNat; omega), ?_, ?_, Out.look rfl Out.self⟩
        · exact ⟨hS.tl, (by first | omega | assumption), (by first | omega | assumption), (by rw [← g2, show (L - b).toNat = (L - (b + 1)).toNat + 1 by omega, pairB, show L - (((L - (b + 1)).toNat : Nat) + 1 : Int) = b by omega, if_pos c2]; simp), (by simp; omega)⟩
        · exact ⟨rfl, rfl, trivial⟩
      · -- no
        try simp only [Bool.and_eq_true, Bool.or_eq_true, Bool.not_eq_true', Bool.and_eq_false_iff, Bool.or_eq_false_iff, Bool.not_eq_false', decide_eq_true_eq, decide_eq_false_iff_not, not_or, Bool.false_eq_true, Bool.true_eq_false, false_or, or_false, not_false_eq_true] at c2
        refine W.skip ?_
        refine W.reg ?_
        refine Wx.rd (v := .int .i64 b) (rd_move rfl) rfl ?_
        refine Wx.rd (v := .int .i64 (b + 1)) (rd_add rfl rfl (in_i64 (by omega) (by omega))) rfl ?_
        refine Wx.rd (v := .int .i64 (b + 1)) (rd_assign rfl) rfl ?_
        refine Wx.nil ?_
        refine ⟨(b + 1, xv, out), (by show (L - (b + 1)).toNat < (L - b).toNat; omega), ?_, ?_, Out.look rfl Out.self⟩
        · exact ⟨hS, (by first | omega | assumption), (by first | omega | assumption), (by rw [← g2, show (L - b).toNat = (L - (b + 1)).toNat + 1 by omega, pairB, show L - (((L - (b + 1)).toNat : Nat) + 1 : Int) = b by omega, if_neg (by simp [c2])]), (by omega)⟩
        · exact ⟨rfl, rfl, trivial⟩
    · -- no
      refine W.exit rfl ?_
      refine W.reg ?_
      refine Wx.rd (v := .int .i64 (a + 1)) (rd_add rfl rfl (in_i64 (by omega) (by omega))) rfl ?_
      refine Wx.rd (v := .int .i64 (a + 1)) (rd_move rfl) rfl ?_
      refine Wx.nil ?_
      refine ⟨(a + 1, xv, out), (by show (L - (a + 1)).toNat < (L - a).toNat; omega), ?_, ?_, Out.look rfl (Out.hav rfl (Out.look rfl Out.self))⟩
      · exact ⟨hS, (by first | omega | assumption), (by first | omega | assumption), (by rw [← g2, show (L - b).toNat = 0 by omega, pairB, List.append_nil]), (by omega)⟩
      · exact ⟨rfl, rfl, trivial⟩
  · -- no
    refine W.exit rfl ?_
    refine W.seq ?_
    refine W.reg ?_
    refine Wx.rd (v := xv) (rd_move rfl) rfl ?_
    refine Wx.rd (v := xv) (rd_assign rfl) rfl ?_
    refine Wx.nil ?_
    have e0_0 : pairA L (besideB L2 ts) L.toNat = out := by rw [← h2, show (L - a).toNat = 0 by omega, pairA, List.append_nil]
    exact W.ret ⟨xv, ResIs.one, hS.bel, ⟨xv, rfl, (by rw [e0_0]; exact (hS.fr 0 rfl flat_i2))⟩⟩

theorem F20 {L : Int} {fv : Value} {fs : List (List Int)} {Fr_fv : List (Option Nat)} {w : World} (i_L : InK .i64 L) (h_fv : V (tSl (tSl (tI .i64))) fs fv Fr_fv w) : Calls Try.prog 20 #[.agg #[.int .i64 L, fv]] w (Ret w (fun r w' => ∃ rv, r = .tuple #[rv, .int .i64 (firstE L fs)] ∧ Fresh (tP (tI .i64) (tI .i64)) 61 (besideL L fs) rv w.heap.size w')) := by
  have b_L := bd_i64 i_L
  have a_fv := h_fv.any
  have l_fv := h_fv.len63
  have hS := St.start0 w
  refine enterR Try.func20 rfl Try.ntmps20 Try.results20 rfl ?_
  refine W.seq ?_
  refine W.reg ?_
  refine Wx.box (cs := [.int .i64 L, fv]) hS rfl rfl rfl (fun g_1 w_2 hx_4 hb_3 hS => ?_)
  refine Wx.rd (v := (.slice none 0 0)) (rd_assign rfl) rfl ?_
  refine Wx.rd (v := .int .i64 0) (rd_assign rfl) rfl ?_
  refine Wx.nil ?_
  refine W.seq ?_
  refine W.reg ?_
  refine Wx.rd (v := .agg #[.int .i64 L, fv]) (rd_loadXs (ds := [.int .i64 L, fv]) hS 0 rfl rfl rfl rfl Try.isAgg24 Try.sizeOf24) rfl ?_
  refine Wx.callF (run_callF Try.call60 rfl) (F60 (in_i64 (by omega) (by omega)) (hS.arg a_fv) hS.fb_lt) rfl ?_
  rintro r_5 w_6 hx_7 ⟨v_8, rfl, hv_9⟩
  have ln_11 := hv_9.len63
  have hS := hS.ext hx_7
  have hS := hS.add hv_9
  refine Wx.rd (v := .tuple #[.agg #[.int .i64 (openL L fs), v_8], .int .i64 (checkE L fs)]) (rd_move rfl) rfl ?_
  refine Wx.rd (v := .agg #[.int .i64 (openL L fs), v_8]) (rd_extract rfl rfl) rfl ?_
  refine Wx.rd (v := .int .i64 (checkE L fs)) (rd_extract rfl rfl) rfl ?_
  refine Wx.alloc (cs := [.int .i64 0, (.slice none 0 0)]) hS Try.zeroValue85 rfl rfl (fun g_12 w_13 hx_15 hb_14 hS => ?_)
  refine Wx.storeX (cs' := [.int .i64 (openL L fs), v_8]) (ds := [.int .i64 (openL L fs), v_8]) hS 0 rfl rfl rfl rfl Try.sizeOf85 (Nat.le_of_ble_eq_true rfl) (one_cons rfl (one_cons (V.oneC (hS.v 1 rfl)) one_nil)) rfl (fun w_16 hz_17 hS => ?_)
  refine Wx.rd (v := .int .i64 (checkE L fs)) (rd_assign rfl) rfl ?_
  refine Wx.nil ?_
  refine W.seq ?_
  refine W.block ?_
  refine W.seq ?_
  refine W.reg ?_
  refine Wx.rd (v := .int .i64 (checkE L fs)) (rd_move rfl) rfl ?_
  refine Wx.rd (v := .bool (decide ((checkE L fs) ≠ 0))) (rd_neq rfl rfl) rfl ?_
  refine Wx.rd (v := .bool (decide ((checkE L fs) ≠ 0))) (rd_assign rfl) rfl ?_
  refine Wx.nil ?_
  refine W.condD rfl (fun c0 => ?_) (fun c0 => ?_)
  · -- yes
    refine W.seq ?_
    refine W.reg ?_
    refine Wx.rd (v := .int .i64 (checkE L fs)) (rd_move rfl) rfl ?_
    refine Wx.rd (v := (.slice none 0 0)) (rd_assign rfl) rfl ?_
    refine Wx.rd (v := .int .i64 (checkE L fs)) (rd_assign rfl) rfl ?_
    refine Wx.nil ?_
    have hE : firstE L fs = checkE L fs := by rw [firstE, if_pos (by omega)]
    have hl : besideL L fs = [] := by rw [besideL, if_neg (by omega)]
    have e0_0 : besideL L fs = [] := by exact hl
    have e0_1 : (firstE L fs) = (checkE L fs : Int) := by exact hE
    exact W.ret ⟨.tuple #[(.slice none 0 0), .int .i64 (checkE L fs)], ResIs.two, hS.bel, ⟨(.slice none 0 0), (by rw [e0_1]), (by rw [e0_0]; exact ((hS.addNil (tP (tI .i64) (tI .i64)) 61).fr 0 rfl flat_i2))⟩⟩
  · -- no
    have hc : checkE L fs = 0 := by omega
    have ho := openL_ok hc
    have hlo : ((openS L fs).length : Int) ≤ 10 := by rw [ho.2.1, setsF_len]; omega
    refine W.seq ?_
    refine W.reg ?_
    refine Wx.rd (v := .agg #[.int .i64 (openL L fs), v_8]) (rd_loadXs (ds := [.int .i64 (openL L fs), v_8]) hS 0 rfl rfl rfl rfl Try.isAgg85 Try.sizeOf85) rfl ?_
    refine Wx.callF (run_callF Try.call65 rfl) (F65 (in_i64 (by omega) (by omega)) (hS.v 1 rfl) (by omega) (by omega)) rfl ?_
    rintro r_18 w_19 hx_20 rfl
    have hS := hS.ext hx_20
    refine Wx.rd (v := .bool (decide ((countT (openL L fs) (openS L fs)) = 0))) (rd_eql rfl rfl) rfl ?_
    refine Wx.rd (v := .bool (decide ((countT (openL L fs) (openS L fs)) = 0))) (rd_assign rfl) rfl ?_
    refine Wx.nil ?_
    refine W.condD rfl (fun c1 => ?_) (fun c1 => ?_)
    · -- yes
      refine W.seq ?_
      refine W.reg ?_
      refine Wx.rd (v := (.slice none 0 0)) (rd_assign rfl) rfl ?_
      refine Wx.rd (v := .int .i64 12) (rd_assign rfl) rfl ?_
      refine Wx.nil ?_
      have hE : firstE L fs = 12 := by rw [firstE, if_neg (by omega), ← ho.1, ← ho.2.1, if_pos (by omega)]
      have hl : besideL L fs = [] := by rw [besideL, if_neg (by omega)]
      have e1_0 : besideL L fs = [] := by exact hl
      have e1_1 : (firstE L fs) = (12 : Int) := by exact hE
      exact W.ret ⟨.tuple #[(.slice none 0 0), .int .i64 12], ResIs.two, hS.bel, ⟨(.slice none 0 0), (by rw [e1_1]), (by rw [e1_0]; exact ((hS.addNil (tP (tI .i64) (tI .i64)) 61).fr 0 rfl flat_i2))⟩⟩
    · -- no
      have hE : firstE L fs = 0 := by rw [firstE, if_neg (by omega), ← ho.1, ← ho.2.1, if_neg (by omega)]
      refine W.skip ?_
      refine W.seq ?_
      refine W.reg ?_
      refine Wx.rd (v := .agg #[.int .i64 (openL L fs), v_8]) (rd_loadXs (ds := [.int .i64 (openL L fs), v_8]) hS 0 rfl rfl rfl rfl Try.isAgg85 Try.sizeOf85) rfl ?_
      refine Wx.rd (v := .agg #[.int .i64 (openL L fs), v_8]) (rd_loadXs (ds := [.int .i64 (openL L fs), v_8]) hS 0 rfl rfl rfl rfl Try.isAgg85 Try.sizeOf85) rfl ?_
      refine Wx.rd (v := .func (.func 67) #[.agg #[.int .i64 (openL L fs), v_8]] #[]) (rd_makeFunc (vs := [.agg #[.int .i64 (openL L fs), v_8]]) (us := []) rfl rfl) rfl ?_
      refine Wx.callF (run_callF Try.call66 rfl) (F66 (in_i64 (by omega) (by omega)) (hS.v 1 rfl) (in_i64 (by omega) (by omega)) (hS.v 1 rfl) (by omega) (by omega) (by omega) (by omega) (by omega)) rfl ?_
      rintro r_21 w_22 hx_23 ⟨_, rfl, hv_24⟩
      have hS := hS.pushFr hx_23 hv_24
      refine Wx.rd (v := r_21) (rd_assign rfl) rfl ?_
      refine Wx.rd (v := .int .i64 0) (rd_assign rfl) rfl ?_
      refine Wx.nil ?_
      have hl : besideL L fs = pairA (openL L fs) (besideB (openL L fs) (openS L fs)) (openL L fs).toNat := by rw [besideL, if_pos hE, ho.1, ho.2.1]
      have e2_0 : besideL L fs = pairA (openL L fs) (besideB (openL L fs) (openS L fs)) (openL L fs).toNat := by exact hl
      have e2_1 : (firstE L fs) = (0 : Int) := by exact hE
      exact W.ret ⟨.tuple #[r_21, .int .i64 0], ResIs.two, hS.bel, ⟨r_21, (by rw [e2_1]), (by rw [e2_0]; exact (hS.fr 0 rfl flat_i2))⟩⟩

theorem F92 {L : Int} {sv : Value} {ss : List Int} {Fr_sv : List (Option Nat)} {a : Int} {c : Int} {w : World} (i_L : InK .i64 L) (h_sv : V (tSl (tI .u8)) ss sv Fr_sv w) (i_a : InK .i64 a) (i_c : InK .i64 c) (p_a : 0 ≤ a) (p_c : 0 ≤ c) : Calls Try.prog 92 #[.agg #[.int .i64 L, sv], .int .i64 a, .int .i64 c] w (Ret w (fun r _ => r = .int .u8 (reachS ss a c))) := by
  have b_c := bd_i64 i_c
  have b_a := bd_i64 i_a
  have b_L := bd_i64 i_L
  have hss := h_sv.allIn
  have a_sv := h_sv.any
  have l_sv := h_sv.len63
  have hS := St.start0 w
  refine enterR Try.func92 rfl Try.ntmps92 Try.results92 rfl ?_
  refine W.seq ?_
  refine W.reg ?_
  refine Wx.box (cs := [.int .i64 L, sv]) hS rfl rfl rfl (fun g_1 w_2 hx_4 hb_3 hS => ?_)
  refine Wx.rd (v := .int .u8 0) (rd_assign rfl) rfl ?_
  refine Wx.nil ?_
  refine W.seq ?_
  refine W.reg ?_
  refine Wx.rd (v := .int .i64 a) (rd_move rfl) rfl ?_
  refine Wx.callF (run_callF Try.call63 rfl) (F63 (in_u8 (by omega) (by omega)) (in_i64 (by omega) (by omega)) (by omega)) rfl ?_
  rintro r_5 w_6 hx_7 rfl
  have hS := hS.ext hx_7
  have in_8 := bd_u8 (withS_in 0 a)
  refine Wx.rd (v := .int .u8 (withS 0 a)) (rd_assign rfl) rfl ?_
  refine Wx.nil ?_
  refine W.seq ?_
  refine W.seq ?_
  refine W.reg ?_
  refine Wx.rd (v := .bool true) (rd_assign rfl) rfl ?_
  refine Wx.nil ?_
  refine W.block ?_
  refine W.loop [7, 8, 10, 13, 14, 15, 16, 17, 18, 19, 20, 21, 22, 23, 24, 25, 26, 27, 28, 29, 30, 31, 32, 33, 34, 35, 36, 37, 38, 39, 40] (fun x : Int × Bool => match x with | (q, g) => [(7, .int .u8 q), (8, .bool g)]) (fun (x : Int × Bool) w' => match x with | (q, g) => St w [] w' [.box g_1 85 [.int .i64 L, sv]] ∧ InK .u8 q ∧ (g = true → reachQ ss c q = reachS ss a c) ∧ (g = false → q = reachS ss a c)) (fun x : Int × Bool => match x with | (q, g) => (2 * (256 - q) + (if g then 1 else 0)).toNat) (withS 0 a, true) ⟨rfl, rfl, trivial⟩ ⟨hS, (withS_in _ _), (fun _ => rfl), (fun h => by cases h)⟩ ?_
  rintro ⟨q, g⟩ u_10 w_9 ⟨hS, h0, h1, h2⟩
  have b_q := bd_u8 h0
  refine W.seq ?_
  refine W.seq ?_
  refine W.reg ?_
  refine Wx.rd (v := .bool g) (rd_move rfl) rfl ?_
  refine Wx.nil ?_
  refine W.cond rfl (fun c0 => ?_) (fun c0 => ?_)
  · -- yes
    try simp only [Bool.and_eq_true, Bool.or_eq_true, Bool.not_eq_true', Bool.and_eq_false_iff, Bool.or_eq_false_iff, Bool.not_eq_false', decide_eq_true_eq, decide_eq_false_iff_not, not_or, Bool.false_eq_true, Bool.true_eq_false, false_or, or_false, not_false_eq_true] at c0
    refine W.skip ?_
    refine W.block ?_
    refine W.seq ?_
    refine W.reg ?_
    refine Wx.rd (v := .bool false) (rd_assign rfl) rfl ?_
    refine Wx.nil ?_
    refine W.seq ?_
    refine W.reg ?_
    refine Wx.rd (v := .pointer (some ⟨g_1, 1, none⟩)) (rd_fieldAddr rfl foFg_85_1) rfl ?_
    refine Wx.rd (v := sv) (rd_loadX hS 0 rfl rfl rfl Try.isAgg83) rfl ?_
    refine Wx.rd (v := .int .i64 (ss.length : Int)) (rd_lenV rfl (hS.arg a_sv) Try.underlying83) rfl ?_
    refine Wx.rd (v := .int .i64 0) (rd_move rfl) rfl ?_
    refine Wx.nil ?_
    refine W.block ?_
    refine W.loop [7, 8, 10, 17, 18, 19, 20, 21, 22, 23, 24, 25, 26, 27, 28, 29, 30, 31, 32, 33, 34, 35, 36, 37, 38, 39, 40] (fun x : Int × Bool × Int => match x with | (r, y, k) => [(7, .int .u8 r), (8, .bool y), (17, .int .i64 k)]) (fun (x : Int × Bool × Int) w' => match x with | (r, y, k) => St w [] w' [.box g_1 85 [.int .i64 L, sv]] ∧ 0 ≤ k ∧ k ≤ ss.length ∧ passF c (ss.drop k.toNat) r y = passF c ss q false ∧ InK .u8 r) (fun x : Int × Bool × Int => match x with | (r, y, k) => (ss.length - k).toNat) (q, false, 0) ⟨rfl, rfl, rfl, trivial⟩ ⟨hS, (by first | omega | simp), (by first | omega | simp), (by simp), (h0)⟩ ?_
    rintro ⟨r, y, k⟩ u_12 w_11 ⟨hS, g0, g1, g2, g3⟩
    have b_r := bd_u8 g3
    refine W.seq ?_
    refine W.reg ?_
    refine Wx.rd (v := .bool (decide (k < (ss.length : Int)))) (rd_lss rfl rfl) rfl ?_
    refine Wx.nil ?_
    refine W.seq ?_
    refine W.condD rfl (fun c1 => ?_) (fun c1 => ?_)
    · -- yes
      refine W.skip ?_
      refine W.seq ?_
      refine W.block ?_
      refine W.seq ?_
      refine W.reg ?_
      refine Wx.ex (rd_index 0 (hS.arg a_sv) rfl rfl Try.underlying83 Try.sizeOf89 (by first | omega | (simp only [List.length_set, List.length_append, List.length_cons, List.length_nil, List.length_replicate]; omega)) (by first | omega | (simp only [List.length_set, List.length_append, List.length_cons, List.length_nil, List.length_replicate]; omega))) rfl (fun p_13 hp_14 => ?_)
      refine Wx.rd (v := .int .u8 (ix 0 ss k)) (rd_loadI hp_14 rfl Try.isAgg89 Try.sizeOf89) rfl ?_
      have bd_15 := bd_u8 hp_14.inK
      refine Wx.rd (v := .int .u8 (ix 0 ss k)) (rd_assign rfl) rfl ?_
      refine Wx.nil ?_
      refine W.seq ?_
      refine W.reg ?_
      refine Wx.rd (v := .int .u8 (ix 0 ss k)) (rd_move rfl) rfl ?_
      refine Wx.rd (v := .int .u8 r) (rd_move rfl) rfl ?_
      refine Wx.rd (v := .int .u8 (bits .and .u8 (ix 0 ss k) r)) (rd_and rfl rfl) rfl ?_
      have bd_16 := bd_u8 (bits_in .and .u8 (ix 0 ss k) r)
      refine Wx.rd (v := .bool (decide ((bits .and .u8 (ix 0 ss k) r) ≠ 0))) (rd_neq rfl rfl) rfl ?_
      refine Wx.rd (v := .bool (decide ((bits .and .u8 (ix 0 ss k) r) ≠ 0))) (rd_move rfl) rfl ?_
      refine Wx.cut (X := Unit) 5 [26, 27, 28, 29, 30] (fun _ => [(30, .bool (decide ((bits .and .u8 (ix 0 ss k) r) ≠ 0) && !(hasS (ix 0 ss k) c)))]) (fun _ w' => St w [] w' [.box g_1 85 [.int .i64 L, sv]]) ?_ ?_
      · rcases Bool.eq_false_or_eq_true (decide ((bits .and .u8 (ix 0 ss k) r) ≠ 0)) with g_17 | g_17
        · -- True
          have gp_18 := of_decide_eq_true g_17
          refine Wx.gyes rfl rfl (congrArg Value.bool g_17) ?_
          refine Wx.rd (v := .int .u8 (ix 0 ss k)) (rd_move rfl) rfl ?_
          refine Wx.gyes rfl rfl (congrArg Value.bool g_17) ?_
          refine Wx.rd (v := .int .i64 c) (rd_move rfl) rfl ?_
          refine Wx.gyes rfl rfl (congrArg Value.bool g_17) ?_
          refine Wx.callF (run_callF Try.call88 rfl) (F88 (in_u8 (by omega) (by omega)) (in_i64 (by omega) (by omega)) (by omega)) rfl ?_
          rintro r_19 w_20 hx_21 rfl
          have hS := hS.ext hx_21
          refine Wx.gyes rfl rfl (congrArg Value.bool g_17) ?_
          refine Wx.rd (v := .bool (!(hasS (ix 0 ss k) c))) (rd_not rfl) rfl ?_
          refine Wx.rd (v := .bool (!(hasS (ix 0 ss k) c))) (rd_pickT (congrArg Value.bool g_17) rfl) rfl ?_
          refine Wx.nil ⟨(), hS, ⟨?_, trivial⟩, Out.look rfl Out.refl⟩
          show Value.bool (!(hasS (ix 0 ss k) c)) = Value.bool (decide ((bits .and .u8 (ix 0 ss k) r) ≠ 0) && !(hasS (ix 0 ss k) c))
          rw [g_17]; rfl
        · -- False
          have gp_22 := of_decide_eq_false g_17
          refine Wx.gnoB rfl rfl (congrArg Value.bool g_17) rfl rfl ?_
          refine Wx.gnoB rfl rfl (congrArg Value.bool g_17) rfl rfl ?_
          refine Wx.gnoB rfl rfl (congrArg Value.bool g_17) rfl rfl ?_
          refine Wx.gnoB rfl rfl (congrArg Value.bool g_17) rfl rfl ?_
          refine Wx.rd (v := .bool false) (rd_pickF (congrArg Value.bool g_17) rfl) rfl ?_
          refine Wx.nil ⟨(), hS, ⟨?_, trivial⟩, Out.look rfl Out.refl⟩
          show Value.bool false = Value.bool (decide ((bits .and .u8 (ix 0 ss k) r) ≠ 0) && !(hasS (ix 0 ss k) c))
          rw [g_17]; rfl
      rintro ⟨⟩ u_24 w_23 hS
      refine Wx.rd (v := .bool (decide ((bits .and .u8 (ix 0 ss k) r) ≠ 0) && !(hasS (ix 0 ss k) c))) (rd_move rfl) rfl ?_
      refine Wx.cut (X := Unit) 5 [32, 33, 34, 35, 36] (fun _ => [(36, .bool ((decide ((bits .and .u8 (ix 0 ss k) r) ≠ 0) && !(hasS (ix 0 ss k) c)) && decide ((bits .andNot .u8 (ix 0 ss k) r) ≠ 0)))]) (fun _ w' => St w [] w' [.box g_1 85 [.int .i64 L, sv]]) ?_ ?_
      · rcases Bool.eq_false_or_eq_true (decide ((bits .and .u8 (ix 0 ss k) r) ≠ 0) && !(hasS (ix 0 ss k) c)) with g_25 | g_25
        · -- True
          have gp_26 := g_25
          try simp only [Bool.and_eq_true, Bool.or_eq_true, Bool.not_eq_true', Bool.and_eq_false_iff, Bool.or_eq_false_iff, Bool.not_eq_false', decide_eq_true_eq, decide_eq_false_iff_not, not_or, Bool.false_eq_true, Bool.true_eq_false, false_or, or_false, not_false_eq_true] at gp_26
          refine Wx.gyes rfl rfl (congrArg Value.bool g_25) ?_
          refine Wx.rd (v := .int .u8 (ix 0 ss k)) (rd_move rfl) rfl ?_
          refine Wx.gyes rfl rfl (congrArg Value.bool g_25) ?_
          refine Wx.rd (v := .int .u8 r) (rd_move rfl) rfl ?_
          refine Wx.gyes rfl rfl (congrArg Value.bool g_25) ?_
          refine Wx.rd (v := .int .u8 (bits .andNot .u8 (ix 0 ss k) r)) (rd_andNot rfl rfl) rfl ?_
          have bd_27 := bd_u8 (bits_in .andNot .u8 (ix 0 ss k) r)
          refine Wx.gyes rfl rfl (congrArg Value.bool g_25) ?_
          refine Wx.rd (v := .bool (decide ((bits .andNot .u8 (ix 0 ss k) r) ≠ 0))) (rd_neq rfl rfl) rfl ?_
          refine Wx.rd (v := .bool (decide ((bits .andNot .u8 (ix 0 ss k) r) ≠ 0))) (rd_pickT (congrArg Value.bool g_25) rfl) rfl ?_
          refine Wx.nil ⟨(), hS, ⟨?_, trivial⟩, Out.look rfl Out.refl⟩
          show Value.bool (decide ((bits .andNot .u8 (ix 0 ss k) r) ≠ 0)) = Value.bool ((decide ((bits .and .u8 (ix 0 ss k) r) ≠ 0) && !(hasS (ix 0 ss k) c)) && decide ((bits .andNot .u8 (ix 0 ss k) r) ≠ 0))
          rw [g_25]; rfl
        · -- False
          have gp_28 := g_25
          try simp only [Bool.and_eq_true, Bool.or_eq_true, Bool.not_eq_true', Bool.and_eq_false_iff, Bool.or_eq_false_iff, Bool.not_eq_false', decide_eq_true_eq, decide_eq_false_iff_not, not_or, Bool.false_eq_true, Bool.true_eq_false, false_or, or_false, not_false_eq_true] at gp_28
          refine Wx.gnoB rfl rfl (congrArg Value.bool g_25) rfl rfl ?_
          refine Wx.gnoB rfl rfl (congrArg Value.bool g_25) rfl rfl ?_
          refine Wx.gnoB rfl rfl (congrArg Value.bool g_25) rfl rfl ?_
          refine Wx.gnoB rfl rfl (congrArg Value.bool g_25) rfl rfl ?_
          refine Wx.rd (v := .bool false) (rd_pickF (congrArg Value.bool g_25) rfl) rfl ?_
          refine Wx.nil ⟨(), hS, ⟨?_, trivial⟩, Out.look rfl Out.refl⟩
          show Value.bool false = Value.bool ((decide ((bits .and .u8 (ix 0 ss k) r) ≠ 0) && !(hasS (ix 0 ss k) c)) && decide ((bits .andNot .u8 (ix 0 ss k) r) ≠ 0))
          rw [g_25]; rfl
      rintro ⟨⟩ u_30 w_29 hS
      refine Wx.nil ?_
      refine W.cond rfl (fun c2 => ?_) (fun c2 => ?_)
      · -- yes
        try simp only [Bool.and_eq_true, Bool.or_eq_true, Bool.not_eq_true', Bool.and_eq_false_iff, Bool.or_eq_false_iff, Bool.not_eq_false', decide_eq_true_eq, decide_eq_false_iff_not, not_or, Bool.false_eq_true, Bool.true_eq_false, false_or, or_false, not_false_eq_true] at c2
        refine W.seq ?_
        refine W.reg ?_
        refine Wx.rd (v := .int .u8 r) (rd_move rfl) rfl ?_
        refine Wx.rd (v := .int .u8 (ix 0 ss k)) (rd_move rfl) rfl ?_
        refine Wx.rd (v := .int .u8 (bits .or .u8 r (ix 0 ss k))) (rd_or rfl rfl) rfl ?_
        have bd_31 := bd_u8 (bits_in .or .u8 r (ix 0 ss k))
        refine Wx.rd (v := .int .u8 (bits .or .u8 r (ix 0 ss k))) (rd_assign rfl) rfl ?_
        refine Wx.nil ?_
        refine W.reg ?_
        refine Wx.rd (v := .bool true) (rd_assign rfl) rfl ?_
        refine Wx.nil ?_
        refine W.reg ?_
        refine Wx.rd (v := .int .i64 (k + 1)) (rd_add rfl rfl (in_i64 (by omega) (by omega))) rfl ?_
        refine Wx.rd (v := .int .i64 (k + 1)) (rd_move rfl) rfl ?_
        refine Wx.nil ?_
        refine ⟨(bits .or .u8 r (ix 0 ss k), true, k + 1), (by show (ss.length - (k + 1)).toNat < (ss.length - k).toNat; omega), ?_, ?_, Out.look rfl (Out.hav rfl (Out.look rfl (Out.hav rfl (Out.look rfl Out.self))))⟩
        · exact ⟨hS, (by first | omega | assumption), (by first | omega | assumption), (by rw [← g2, drop_ix (d := 0) g0 c1, passF, if_pos (by simp [stepQ, c2])]), (bits_in _ _ _ _)⟩
        · exact ⟨rfl, rfl, rfl, trivial⟩
      · -- no
        try simp only [Bool.and_eq_true, Bool.or_eq_true, Bool.not_eq_true', Bool.and_eq_false_iff, Bool.or_eq_false_iff, Bool.not_eq_false', decide_eq_true_eq, decide_eq_false_iff_not, not_or, Bool.false_eq_true, Bool.true_eq_false, false_or, or_false, not_false_eq_true] at c2
        refine W.skip ?_
        refine W.reg ?_
        refine Wx.rd (v := .int .i64 (k + 1)) (rd_add rfl rfl (in_i64 (by omega) (by omega))) rfl ?_
        refine Wx.rd (v := .int .i64 (k + 1)) (rd_move rfl) rfl ?_
        refine Wx.nil ?_
        refine ⟨(r, y, k + 1), (by show (ss.length - (k + 1)).toNat < (ss.length - k).toNat; omega), ?_, ?_, Out.look rfl (Out.hav rfl (Out.look rfl (Out.hav rfl (Out.look rfl Out.self))))⟩
        · exact ⟨hS, (by first | omega | assumption), (by first | omega | assumption), (by rw [← g2, drop_ix (d := 0) g0 c1, passF, if_neg (by intro hh; simp [stepQ] at hh; simp [hh] at c2)]), (g3)⟩
        · exact ⟨rfl, rfl, rfl, trivial⟩
    · -- no
      refine W.exit rfl ?_
      have hpn := reachQ_next (c := c) hss h0
      have hpe : passF c ss q false = (r, y) := by rw [← g2, drop_end (by omega)]; rfl
      have hpg := passF_grow c ss q false hss h0
      rw [hpe] at hpn hpg
      have hq0 := h1 c0
      have b_r := bd_u8 g3
      refine ⟨(r, y), (by show (2 * (256 - r) + (if y then 1 else 0)).toNat < (2 * (256 - q) + (if g then 1 else 0)).toNat; rw [c0]; rcases hpg.2 with ⟨h4, h5⟩ | ⟨h4, h5⟩ <;> simp only at h4 h5 <;> rw [h4] <;> simp <;> omega), ?_, ?_, Out.look rfl (Out.hav rfl (Out.look rfl Out.self))⟩
      · exact ⟨hS, (g3), (fun hy => by rw [← hq0, hpn, if_pos hy]), (fun hy => by rcases hpg.2 with ⟨_, h5⟩ | ⟨h5, _⟩; { rw [← hq0, hpn, if_neg (by simp [hy])]; exact h5 }; { rw [hy] at h5; cases h5 })⟩
      · exact ⟨rfl, rfl, trivial⟩
  · -- no
    try simp only [Bool.and_eq_true, Bool.or_eq_true, Bool.not_eq_true', Bool.and_eq_false_iff, Bool.or_eq_false_iff, Bool.not_eq_false', decide_eq_true_eq, decide_eq_false_iff_not, not_or, Bool.false_eq_true, Bool.true_eq_false, false_or, or_false, not_false_eq_true] at c0
    refine W.exit rfl ?_
    refine W.seq ?_
    refine W.reg ?_
    refine Wx.rd (v := .int .u8 q) (rd_move rfl) rfl ?_
    refine Wx.rd (v := .int .u8 q) (rd_assign rfl) rfl ?_
    refine Wx.nil ?_
    have e0_0 : (reachS ss a c) = (q : Int) := by exact (h2 (by simpa using c0)).symm
    exact W.ret ⟨.int .u8 q, ResIs.one, hS.bel, (by rw [e0_0])⟩

theorem F69 {L : Int} {sv : Value} {ss : List Int} {Fr_sv : List (Option Nat)} {a : Int} {b : Int} {c : Int} {w : World} (i_L : InK .i64 L) (h_sv : V (tSl (tI .u8)) ss sv Fr_sv w) (i_a : InK .i64 a) (i_b : InK .i64 b) (i_c : InK .i64 c) (p_a : 0 ≤ a) (p_b : 0 ≤ b) (p_c : 0 ≤ c) : Calls Try.prog 69 #[.agg #[.int .i64 L, sv], .int .i64 a, .int .i64 b, .int .i64 c] w (Ret w (fun r _ => r = .bool (apartB ss a b c))) := by
  have b_c := bd_i64 i_c
  have b_b := bd_i64 i_b
  have b_a := bd_i64 i_a
  have b_L := bd_i64 i_L
  have hss := h_sv.allIn
  have a_sv := h_sv.any
  have l_sv := h_sv.len63
  have hS := St.start0 w
  refine enterR Try.func69 rfl Try.ntmps69 Try.results69 rfl ?_
  refine W.seq ?_
  refine W.reg ?_
  refine Wx.box (cs := [.int .i64 L, sv]) hS rfl rfl rfl (fun g_1 w_2 hx_4 hb_3 hS => ?_)
  refine Wx.rd (v := .bool false) (rd_assign rfl) rfl ?_
  refine Wx.nil ?_
  refine W.seq ?_
  refine W.reg ?_
  refine Wx.rd (v := .agg #[.int .i64 L, sv]) (rd_loadXs (ds := [.int .i64 L, sv]) hS 0 rfl rfl rfl rfl Try.isAgg85 Try.sizeOf85) rfl ?_
  refine Wx.rd (v := .int .i64 a) (rd_move rfl) rfl ?_
  refine Wx.rd (v := .int .i64 c) (rd_move rfl) rfl ?_
  refine Wx.callF (run_callF Try.call92 rfl) (F92 (in_i64 (by omega) (by omega)) (hS.arg a_sv) (in_i64 (by omega) (by omega)) (in_i64 (by omega) (by omega)) (by omega) (by omega)) rfl ?_
  rintro r_5 w_6 hx_7 rfl
  have hS := hS.ext hx_7
  have in_8 := bd_u8 (reachS_in ss a c hss)
  refine Wx.rd (v := .int .i64 b) (rd_move rfl) rfl ?_
  refine Wx.callF (run_callF Try.call88 rfl) (F88 (in_u8 (by omega) (by omega)) (in_i64 (by omega) (by omega)) (by omega)) rfl ?_
  rintro r_9 w_10 hx_11 rfl
  have hS := hS.ext hx_11
  refine Wx.rd (v := .bool (hasS (reachS ss a c) b)) (rd_move rfl) rfl ?_
  refine Wx.cut (X := Unit) 7 [16, 17, 18, 19, 20, 21, 22] (fun _ => [(22, .bool (hasS (reachS ss a c) b && hasS (reachS ss b a) c))]) (fun _ w' => St w [] w' [.box g_1 85 [.int .i64 L, sv]]) ?_ ?_
  · rcases Bool.eq_false_or_eq_true (hasS (reachS ss a c) b) with g_12 | g_12
    · -- True
      have gp_13 := g_12
      try simp only [Bool.and_eq_true, Bool.or_eq_true, Bool.not_eq_true', Bool.and_eq_false_iff, Bool.or_eq_false_iff, Bool.not_eq_false', decide_eq_true_eq, decide_eq_false_iff_not, not_or, Bool.false_eq_true, Bool.true_eq_false, false_or, or_false, not_false_eq_true] at gp_13
      refine Wx.gyes rfl rfl (congrArg Value.bool g_12) ?_
      refine Wx.rd (v := .agg #[.int .i64 L, sv]) (rd_loadXs (ds := [.int .i64 L, sv]) hS 0 rfl rfl rfl rfl Try.isAgg85 Try.sizeOf85) rfl ?_
      refine Wx.gyes rfl rfl (congrArg Value.bool g_12) ?_
      refine Wx.rd (v := .int .i64 b) (rd_move rfl) rfl ?_
      refine Wx.gyes rfl rfl (congrArg Value.bool g_12) ?_
      refine Wx.rd (v := .int .i64 a) (rd_move rfl) rfl ?_
      refine Wx.gyes rfl rfl (congrArg Value.bool g_12) ?_
      refine Wx.callF (run_callF Try.call92 rfl) (F92 (in_i64 (by omega) (by omega)) (hS.arg a_sv) (in_i64 (by omega) (by omega)) (in_i64 (by omega) (by omega)) (by omega) (by omega)) rfl ?_
      rintro r_14 w_15 hx_16 rfl
      have hS := hS.ext hx_16
      have in_17 := bd_u8 (reachS_in ss b a hss)
      refine Wx.gyes rfl rfl (congrArg Value.bool g_12) ?_
      refine Wx.rd (v := .int .i64 c) (rd_move rfl) rfl ?_
      refine Wx.gyes rfl rfl (congrArg Value.bool g_12) ?_
      refine Wx.callF (run_callF Try.call88 rfl) (F88 (in_u8 (by omega) (by omega)) (in_i64 (by omega) (by omega)) (by omega)) rfl ?_
      rintro r_18 w_19 hx_20 rfl
      have hS := hS.ext hx_20
      refine Wx.rd (v := .bool (hasS (reachS ss b a) c)) (rd_pickT (congrArg Value.bool g_12) rfl) rfl ?_
      refine Wx.nil ⟨(), hS, ⟨?_, trivial⟩, Out.look rfl Out.refl⟩
      show Value.bool (hasS (reachS ss b a) c) = Value.bool (hasS (reachS ss a c) b && hasS (reachS ss b a) c)
      rw [g_12]; rfl
    · -- False
      have gp_21 := g_12
      try simp only [Bool.and_eq_true, Bool.or_eq_true, Bool.not_eq_true', Bool.and_eq_false_iff, Bool.or_eq_false_iff, Bool.not_eq_false', decide_eq_true_eq, decide_eq_false_iff_not, not_or, Bool.false_eq_true, Bool.true_eq_false, false_or, or_false, not_false_eq_true] at gp_21
      refine Wx.gnoB rfl rfl (congrArg Value.bool g_12) rfl rfl ?_
      refine Wx.gnoB rfl rfl (congrArg Value.bool g_12) rfl rfl ?_
      refine Wx.gnoB rfl rfl (congrArg Value.bool g_12) rfl rfl ?_
      refine Wx.gnoB rfl rfl (congrArg Value.bool g_12) rfl rfl ?_
      refine Wx.gnoB rfl rfl (congrArg Value.bool g_12) rfl rfl ?_
      refine Wx.gnoB rfl rfl (congrArg Value.bool g_12) rfl rfl ?_
      refine Wx.rd (v := .bool false) (rd_pickF (congrArg Value.bool g_12) rfl) rfl ?_
      refine Wx.nil ⟨(), hS, ⟨?_, trivial⟩, Out.look rfl Out.refl⟩
      show Value.bool false = Value.bool (hasS (reachS ss a c) b && hasS (reachS ss b a) c)
      rw [g_12]; rfl
  rintro ⟨⟩ u_23 w_22 hS
  refine Wx.rd (v := .bool (hasS (reachS ss a c) b && hasS (reachS ss b a) c)) (rd_move rfl) rfl ?_
  refine Wx.cut (X := Unit) 7 [24, 25, 26, 27, 28, 29, 30] (fun _ => [(30, .bool ((hasS (reachS ss a c) b && hasS (reachS ss b a) c) && hasS (reachS ss c b) a))]) (fun _ w' => St w [] w' [.box g_1 85 [.int .i64 L, sv]]) ?_ ?_
  · rcases Bool.eq_false_or_eq_true (hasS (reachS ss a c) b && hasS (reachS ss b a) c) with g_24 | g_24
    · -- True
      have gp_25 := g_24
      try simp only [Bool.and_eq_true, Bool.or_eq_true, Bool.not_eq_true', Bool.and_eq_false_iff, Bool.or_eq_false_iff, Bool.not_eq_false', decide_eq_true_eq, decide_eq_false_iff_not, not_or, Bool.false_eq_true, Bool.true_eq_false, false_or, or_false, not_false_eq_true] at gp_25
      refine Wx.gyes rfl rfl (congrArg Value.bool g_24) ?_
      refine Wx.rd (v := .agg #[.int .i64 L, sv]) (rd_loadXs (ds := [.int .i64 L, sv]) hS 0 rfl rfl rfl rfl Try.isAgg85 Try.sizeOf85) rfl ?_
      refine Wx.gyes rfl rfl (congrArg Value.bool g_24) ?_
      refine Wx.rd (v := .int .i64 c) (rd_move rfl) rfl ?_
      refine Wx.gyes rfl rfl (congrArg Value.bool g_24) ?_
      refine Wx.rd (v := .int .i64 b) (rd_move rfl) rfl ?_
      refine Wx.gyes rfl rfl (congrArg Value.bool g_24) ?_
      refine Wx.callF (run_callF Try.call92 rfl) (F92 (in_i64 (by omega) (by omega)) (hS.arg a_sv) (in_i64 (by omega) (by omega)) (in_i64 (by omega) (by omega)) (by omega) (by omega)) rfl ?_
      rintro r_26 w_27 hx_28 rfl
      have hS := hS.ext hx_28
      have in_29 := bd_u8 (reachS_in ss c b hss)
      refine Wx.gyes rfl rfl (congrArg Value.bool g_24) ?_
      refine Wx.rd (v := .int .i64 a) (rd_move rfl) rfl ?_
      refine Wx.gyes rfl rfl (congrArg Value.bool g_24) ?_
      refine Wx.callF (run_callF Try.call88 rfl) (F88 (in_u8 (by omega) (by omega)) (in_i64 (by omega) (by omega)) (by omega)) rfl ?_
      rintro r_30 w_31 hx_32 rfl
      have hS := hS.ext hx_32
      refine Wx.rd (v := .bool (hasS (reachS ss c b) a)) (rd_pickT (congrArg Value.bool g_24) rfl) rfl ?_
      refine Wx.nil ⟨(), hS, ⟨?_, trivial⟩, Out.look rfl Out.refl⟩
      show Value.bool (hasS (reachS ss c b) a) = Value.bool ((hasS (reachS ss a c) b && hasS (reachS ss b a) c) && hasS (reachS ss c b) a)
      rw [g_24]; rfl
    · -- False
      have gp_33 := g_24
      try simp only [Bool.and_eq_true, Bool.or_eq_true, Bool.not_eq_true', Bool.and_eq_false_iff, Bool.or_eq_false_iff, Bool.not_eq_false', decide_eq_true_eq, decide_eq_false_iff_not, not_or, Bool.false_eq_true, Bool.true_eq_false, false_or, or_false, not_false_eq_true] at gp_33
      refine Wx.gnoB rfl rfl (congrArg Value.bool g_24) rfl rfl ?_
      refine Wx.gnoB rfl rfl (congrArg Value.bool g_24) rfl rfl ?_
      refine Wx.gnoB rfl rfl (congrArg Value.bool g_24) rfl rfl ?_
      refine Wx.gnoB rfl rfl (congrArg Value.bool g_24) rfl rfl ?_
      refine Wx.gnoB rfl rfl (congrArg Value.bool g_24) rfl rfl ?_
      refine Wx.gnoB rfl rfl (congrArg Value.bool g_24) rfl rfl ?_
      refine Wx.rd (v := .bool false) (rd_pickF (congrArg Value.bool g_24) rfl) rfl ?_
      refine Wx.nil ⟨(), hS, ⟨?_, trivial⟩, Out.look rfl Out.refl⟩
      show Value.bool false = Value.bool ((hasS (reachS ss a c) b && hasS (reachS ss b a) c) && hasS (reachS ss c b) a)
      rw [g_24]; rfl
  rintro ⟨⟩ u_35 w_34 hS
  refine Wx.rd (v := .bool ((hasS (reachS ss a c) b && hasS (reachS ss b a) c) && hasS (reachS ss c b) a)) (rd_assign rfl) rfl ?_
  refine Wx.nil ?_
  have e0_0 : (apartB ss a b c) = ((hasS (reachS ss a c) b && hasS (reachS ss b a) c) && hasS (reachS ss c b) a) := by rfl
  exact W.ret ⟨.bool ((hasS (reachS ss a c) b && hasS (reachS ss b a) c) && hasS (reachS ss c b) a), ResIs.one, hS.bel, (by rw [e0_0])⟩
end Go.Proofs.Ytjmpojoimcljoaa
