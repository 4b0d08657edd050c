/-
  WHAT IS PROVED HERE: what functions of layer 3 hand back, each out of its own code; the conditions stand in each statement.
-/
import Derived.Test.YtjmpojoimcljoaaProg
import Derived.Test.YtjmpojoimcljoaaWk5
import Derived.Test.YtjmpojoimcljoaaSpec4
import Derived.Test.YtjmpojoimcljoaaFa
import Derived.Test.YtjmpojoimcljoaaRa
import Derived.Test.YtjmpojoimcljoaaRc
import Derived.Test.YtjmpojoimcljoaaRe
namespace Go.Proofs.Ytjmpojoimcljoaa
open Go.Wk Go.RowKit
set_option linter.unusedVariables false
set_option linter.unusedSimpArgs false
theorem mixedRf_ : Try.prog.follows .mixedOrders = true := by kernel_rfl
theorem foRf_27_0 : fldOff Try.prog 27 0 = some 0 := by kernel_rfl
theorem foRf_27_1 : fldOff Try.prog 27 1 = some 1 := by kernel_rfl
theorem elRf_28 : ElemI Try.prog 28 3 (.int .i64 0) 1 8 := ElemI.of Try.underlying28 (by kernel_rfl) (by first | rfl | kernel_rfl) (by decide)

theorem F73_rec : ∀ (fuel : Nat) {L : Int} {fv : Value} {fs : List (List Int)} {ov : Value} {out : List Int} {i0 : Int} {m : Int} {O : List (Option Nat)} {w : World} (i_L : InK .i64 L) (h_fv : V (tSl (tSl (tI .i64))) fs fv O w) (h_ov : V (tSl (tI .i64)) out ov O w) (i_i0 : InK .i64 i0) (i_m : InK .i64 m) (p_f : okF L fs) (p_7 : L ≤ 7) (p_1 : 1 ≤ L) (p_10 : (fs.length : Int) ≤ 10) (p_i : 0 ≤ i0) (p_i2 : i0 ≤ fs.length) (p_m : 0 ≤ m) (p_o : out.length + m ≤ 10) (hO : ∀ b, some b ∈ O → b < w.heap.size) (hfuel : m.toNat < fuel), Calls Try.prog 73 #[.agg #[.int .i64 L, fv], ov, .int .i64 i0, .int .i64 m] w (Ret w (fun r w' => ∃ rv, r = .tuple #[rv, .bool ((leftG L fs m.toNat out i0).2)] ∧ V (tSl (tI .i64)) ((leftG L fs m.toNat out i0).1) rv O w')) := by
  intro fuel
  induction fuel with
  | zero => intros; omega
  | succ fuel IH =>
  intro L fv fs ov out i0 m O w i_L h_fv h_ov i_i0 i_m p_f p_7 p_1 p_10 p_i p_i2 p_m p_o hO hfuel
  have b_m := bd_i64 i_m
  have b_i0 := bd_i64 i_i0
  have b_L := bd_i64 i_L
  have a_fv := h_fv
  have l_fv := h_fv.len63
  have a_ov := h_ov
  have l_ov := h_ov.len63
  have hS := St.start w O hO
  refine enterR Try.func73 rfl Try.ntmps73 Try.results73 rfl ?_
  refine W.seq ?_
  refine W.reg ?_
  refine Wx.box (cs := [.int .i64 L, fv]) hS rfl rfl rfl (fun g_1 w_2 hx_4 hb_3 hS => ?_)
  refine Wx.rd (v := (.slice none 0 0)) (rd_assign rfl) rfl ?_
  refine Wx.rd (v := .bool false) (rd_assign rfl) rfl ?_
  refine Wx.nil ?_
  refine W.seq ?_
  refine W.seq ?_
  refine W.reg ?_
  refine Wx.rd (v := .int .i64 m) (rd_move rfl) rfl ?_
  refine Wx.rd (v := .bool (decide (m = 0))) (rd_eql rfl rfl) rfl ?_
  refine Wx.nil ?_
  refine W.condD rfl (fun c0 => ?_) (fun c0 => ?_)
  · -- yes
    refine W.seq ?_
    refine W.regH mixedRf_ (fun w_5 hx_6 => ?_)
    have h0 := hS
    have hS := (St.start _ _ h0.fb_lt).ext hx_6
    refine Wh.rd (v := ov) 0 rfl (by kernel_rfl) hS.bel (rd_move rfl) rfl ?_
    refine Wh.rd (v := .pointer (some ⟨g_1, 0, none⟩)) 1 rfl (by kernel_rfl) hS.bel (rd_fieldAddr rfl foRf_27_0) rfl ?_
    refine Wh.rd (v := .int .i64 L) 2 rfl (by kernel_rfl) hS.bel (rd_loadX h0 0 rfl rfl rfl Try.isAgg3) rfl ?_
    refine Wh.rd (v := .pointer (some ⟨g_1, 1, none⟩)) 3 rfl (by kernel_rfl) hS.bel (rd_fieldAddr rfl foRf_27_1) rfl ?_
    refine Wh.rd (v := fv) 4 rfl (by kernel_rfl) hS.bel (rd_loadX h0 0 rfl rfl rfl Try.isAgg22) rfl ?_
    refine Wh.rd (v := ov) 5 rfl (by kernel_rfl) hS.bel (rd_move rfl) rfl ?_
    refine Wh.br [6] (by kernel_rfl) (by decide) ⟨⟨_, rfl, ?_⟩, trivial⟩
    refine Wx.callF (run_callF Try.call97 rfl) (F97 (hS.arg (h0.arg a_fv)) (hS.arg (h0.arg a_ov)) (by omega) hS.fb_lt) rfl ?_
    rintro r_7 w_8 hx_9 ⟨_, rfl, hv_10⟩
    have ln_12 := hv_10.len63
    have hS := hS.ext hx_9
    have hS := hS.add hv_10
    refine Wx.nil ⟨hS.bel, ?_⟩
    refine Wh.rd (v := .agg #[.int .i64 L, r_7]) 7 rfl (by kernel_rfl) hS.bel (rd_buildC (vs := [(0, .int .i64 L), (1, r_7)]) (us := [(0, .agg #[.int .i64 L]), (1, .agg #[r_7])]) rfl (parts_cons rfl (parts_cons (cells_one (V.oneC (hS.v 0 rfl))) parts_nil)) (by kernel_rfl)) rfl ?_
    refine Wh.br [8] (by kernel_rfl) (by decide) ⟨⟨_, rfl, ?_⟩, trivial⟩
    refine Wx.callF (run_callF Try.call96 rfl) (F96 (in_i64 (by omega) (by omega)) (hS.v 0 rfl) (withoutG_ok p_f _ _) (by omega) (by omega)) rfl ?_
    rintro r_13 w_14 hx_15 rfl
    have hS := hS.ext hx_15
    refine Wx.nil ⟨hS.bel, ?_⟩
    refine Wh.rd (v := ov) 9 rfl (by kernel_rfl) hS.bel (rd_assign rfl) rfl ?_
    refine Wh.rd (v := .bool (freeR L (withoutG out 0 fs))) 10 rfl (by kernel_rfl) hS.bel (rd_assign rfl) rfl ?_
    refine Wh.done (by kernel_rfl) ?_
    have hS := h0.merge hS
    have hx : leftG L fs m.toNat out i0 = (out, isFree L fs out) := by rw [show m.toNat = 0 by omega]; rfl
    have e0_0 : (leftG L fs m.toNat out i0).1 = out := by rw [hx]
    have e0_1 : ((leftG L fs m.toNat out i0).2) = (freeR L (withoutG out 0 fs)) := by rw [hx]; rfl
    exact W.ret ⟨.tuple #[ov, .bool (freeR L (withoutG out 0 fs))], ResIs.two, hS.bel, ⟨ov, (by rw [e0_1]), (by rw [e0_0]; exact (V.mv (hS.arg a_ov) (.less (fun _ h => List.mem_append.2 (.inr h)))))⟩⟩
  · -- no
    refine W.skip ?_
    refine W.seq ?_
    refine W.seq ?_
    refine W.reg ?_
    refine Wx.rd (v := .int .i64 i0) (rd_move rfl) rfl ?_
    refine Wx.rd (v := .int .i64 i0) (rd_assign rfl) rfl ?_
    refine Wx.nil ?_
    refine W.block ?_
    obtain ⟨k, hk⟩ : ∃ k : Nat, m.toNat = k + 1 := ⟨m.toNat - 1, by omega⟩
    refine W.loop [8, 9, 10, 11, 12, 25, 26, 27, 28, 29, 30, 31, 32, 33, 34, 35, 36, 37, 38, 39, 40, 41, 42, 43, 44, 45, 46, 47, 48] (fun (i : Int) => [(10, .int .i64 i)]) (fun (i : Int) w' => St w O w' [.box g_1 27 [.int .i64 L, fv]] ∧ i0 ≤ i ∧ i ≤ fs.length ∧ leftX (leftG L fs k) fs.length out (fs.length - i).toNat = leftG L fs m.toNat out i0) (fun (i : Int) => (fs.length - i).toNat) i0 ⟨rfl, trivial⟩ ⟨hS, (by first | omega | simp), (by first | omega | simp), (by rw [hk, leftG])⟩ ?_
    rintro i u_17 w_16 ⟨hS, h0, h1, h2⟩
    refine W.seq ?_
    refine W.seq ?_
    refine W.reg ?_
    refine Wx.rd (v := .int .i64 i) (rd_move rfl) rfl ?_
    refine Wx.rd (v := .pointer (some ⟨g_1, 1, none⟩)) (rd_fieldAddr rfl foRf_27_1) rfl ?_
    refine Wx.rd (v := fv) (rd_loadX hS 0 rfl rfl rfl Try.isAgg22) rfl ?_
    refine Wx.rd (v := .int .i64 (fs.length : Int)) (rd_lenV rfl (hS.arg a_fv) Try.underlying22) rfl ?_
    refine Wx.rd (v := .bool (decide (i < (fs.length : Int)))) (rd_lss rfl rfl) rfl ?_
    refine Wx.nil ?_
    refine W.condD rfl (fun c1 => ?_) (fun c1 => ?_)
    · -- yes
      refine W.skip ?_
      refine W.seq ?_
      refine W.block ?_
      refine W.seq ?_
      refine W.regH mixedRf_ (fun w_18 hx_19 => ?_)
      have h0 := hS
      have hS := (St.start _ _ h0.fb_lt).ext hx_19
      refine Wh.rd (v := .agg #[.int .i64 L, fv]) 0 rfl (by kernel_rfl) hS.bel (rd_loadXs (ds := [.int .i64 L, fv]) h0 0 rfl rfl rfl rfl Try.isAgg27 Try.sizeOf27) rfl ?_
      refine Wh.rd (v := ov) 2 rfl (by kernel_rfl) hS.bel (rd_move rfl) rfl ?_
      refine Wh.rd (v := .int .i64 i) 4 rfl (by kernel_rfl) hS.bel (rd_move rfl) rfl ?_
      refine Wh.rd (v := .int .i64 i) 7 rfl (by kernel_rfl) hS.bel (rd_move rfl) rfl ?_
      refine Wh.rd (v := .int .i64 (i + 1)) 8 rfl (by kernel_rfl) hS.bel (rd_add rfl rfl (in_i64 (by omega) (by omega))) rfl ?_
      refine Wh.rd (v := .int .i64 m) 9 rfl (by kernel_rfl) hS.bel (rd_move rfl) rfl ?_
      refine Wh.rd (v := .int .i64 (m - 1)) 10 rfl (by kernel_rfl) hS.bel (rd_sub rfl rfl (in_i64 (by omega) (by omega))) rfl ?_
      refine Wh.br [1, 5] (by kernel_rfl) (by decide) ⟨⟨_, rfl, ?_⟩, ⟨_, rfl, ?_⟩, trivial⟩
      · -- operation 1
        refine Wx.lit (t := (tI .i64)) (ys := []) (vs := []) elRf_28 hS rfl rfl trivial (by decide) rfl (fun v_20 w_21 hx_22 hS => ?_)
        refine Wx.nil ⟨hS.bel, ?_⟩
        refine Wh.br [3, 5] (by kernel_rfl) (by decide) ⟨⟨_, rfl, ?_⟩, ⟨_, rfl, ?_⟩, trivial⟩
        · -- operation 3
          refine Wx.append elRf_28 hS 0 rfl rfl rfl (Src.ofV (hS.arg (h0.arg a_ov))) (by simp only [maxLen]; simp; omega) (by simp; omega) rfl (fun v_23 w_24 hz_25 hS => ?_)
          refine Wx.nil ⟨hS.bel, ?_⟩
          refine Wh.br [5] (by kernel_rfl) (by decide) ⟨⟨_, rfl, ?_⟩, trivial⟩
          refine Wx.lit (t := (tI .i64)) (ys := [i]) (vs := [.int .i64 i]) elRf_28 hS rfl rfl ⟨(V.mkInt (in_i64 (by omega) (by omega))), trivial⟩ (by decide) rfl (fun v_26 w_27 hx_28 hS => ?_)
          refine Wx.nil ⟨hS.bel, ?_⟩
          refine Wh.br [6] (by kernel_rfl) (by decide) ⟨⟨_, rfl, ?_⟩, trivial⟩
          refine Wx.append elRf_28 hS 1 rfl rfl rfl (Src.ofR hS 0 rfl) (by simp only [maxLen]; simp; omega) (by simp; omega) rfl (fun v_29 w_30 hz_31 hS => ?_)
          refine Wx.nil ⟨hS.bel, ?_⟩
          refine Wh.br [11] (by kernel_rfl) (by decide) ⟨⟨_, rfl, ?_⟩, trivial⟩
          have hS := hS.freeze 1 rfl
          refine Wx.callF (run_callF Try.call73 rfl) (IH (in_i64 (by omega) (by omega)) (hS.arg (h0.arg a_fv)) (hS.v 0 rfl) (in_i64 (by omega) (by omega)) (in_i64 (by omega) (by omega)) p_f (by omega) (by omega) (by omega) (by omega) (by omega) (by omega) (by simp; omega) hS.fb_lt (by omega)) rfl ?_
          rintro r_33 w_34 hx_35 ⟨v_36, rfl, hv_37⟩
          have ln_39 := hv_37.len63
          have hS := hS.ext hx_35
          have hS := hS.add hv_37
          refine Wx.nil ⟨hS.bel, ?_⟩
          refine Wh.rd (v := .tuple #[v_36, .bool ((leftG L fs (m - 1).toNat ([] ++ out ++ [i]) (i + 1)).2)]) 12 rfl (by kernel_rfl) hS.bel (rd_move rfl) rfl ?_
          refine Wh.rd (v := v_36) 13 rfl (by kernel_rfl) hS.bel (rd_extract rfl rfl) rfl ?_
          refine Wh.rd (v := .bool ((leftG L fs (m - 1).toNat ([] ++ out ++ [i]) (i + 1)).2)) 14 rfl (by kernel_rfl) hS.bel (rd_extract rfl rfl) rfl ?_
          refine Wh.rd (v := v_36) 15 rfl (by kernel_rfl) hS.bel (rd_assign rfl) rfl ?_
          refine Wh.rd (v := .bool ((leftG L fs (m - 1).toNat ([] ++ out ++ [i]) (i + 1)).2)) 16 rfl (by kernel_rfl) hS.bel (rd_assign rfl) rfl ?_
          refine Wh.done (by kernel_rfl) ?_
          have hS := h0.merge hS
          refine W.seq ?_
          refine W.reg ?_
          refine Wx.rd (v := .bool ((leftG L fs (m - 1).toNat ([] ++ out ++ [i]) (i + 1)).2)) (rd_move rfl) rfl ?_
          refine Wx.nil ?_
          refine W.cond rfl (fun c2 => ?_) (fun c2 => ?_)
          · -- yes
            try simp only [Bool.and_eq_true, Bool.or_eq_true, Bool.not_eq_true', Bool.and_eq_false_iff, Bool.or_eq_false_iff, Bool.not_eq_false', decide_eq_true_eq, decide_eq_false_iff_not, not_or, Bool.false_eq_true, Bool.true_eq_false, false_or, or_false, not_false_eq_true] at c2
            refine W.seq ?_
            refine W.reg ?_
            refine Wx.rd (v := v_36) (rd_move rfl) rfl ?_
            refine Wx.rd (v := v_36) (rd_assign rfl) rfl ?_
            refine Wx.rd (v := .bool true) (rd_assign rfl) rfl ?_
            refine Wx.nil ?_
            have hx : leftG L fs m.toNat out i0 = ((leftG L fs (m - 1).toNat ([] ++ out ++ [i]) (i + 1)).1, true) := by rw [← h2, show ((fs.length : Int) - i).toNat = (fs.length - (i + 1)).toNat + 1 by omega, leftX, show (fs.length : Int) - ((((fs.length : Int) - (i + 1)).toNat : Nat) + 1 : Int) = i by omega, show k = (m - 1).toNat by omega, if_pos (show (leftG L fs (m - 1).toNat (out ++ [i]) (i + 1)).2 = true from c2)]; rfl
            have e1_0 : (leftG L fs m.toNat out i0).1 = (leftG L fs (m - 1).toNat ([] ++ out ++ [i]) (i + 1)).1 := by rw [hx]
            have e1_1 : ((leftG L fs m.toNat out i0).2) = true := by rw [hx]
            exact W.ret ⟨.tuple #[v_36, .bool true], ResIs.two, hS.bel, ⟨v_36, (by rw [e1_1]), (by rw [e1_0]; exact (V.mv (hS.v 0 rfl) (.less (fun _ h => List.mem_append.2 (.inr h)))))⟩⟩
          · -- no
            try simp only [Bool.and_eq_true, Bool.or_eq_true, Bool.not_eq_true', Bool.and_eq_false_iff, Bool.or_eq_false_iff, Bool.not_eq_false', decide_eq_true_eq, decide_eq_false_iff_not, not_or, Bool.false_eq_true, Bool.true_eq_false, false_or, or_false, not_false_eq_true] at c2
            refine W.skip ?_
            refine W.reg ?_
            refine Wx.rd (v := .int .i64 i) (rd_move rfl) rfl ?_
            refine Wx.rd (v := .int .i64 (i + 1)) (rd_add rfl rfl (in_i64 (by omega) (by omega))) rfl ?_
            refine Wx.rd (v := .int .i64 (i + 1)) (rd_assign rfl) rfl ?_
            refine Wx.nil ?_
            refine ⟨i + 1, (by show (fs.length - (i + 1)).toNat < (fs.length - i).toNat; omega), ?_, ?_, Out.look rfl Out.self⟩
            · exact ⟨St.tl (St.tl (hS.tl)), (by first | omega | assumption), (by first | omega | assumption), (by rw [← h2, show ((fs.length : Int) - i).toNat = (fs.length - (i + 1)).toNat + 1 by omega, leftX, show (fs.length : Int) - ((((fs.length : Int) - (i + 1)).toNat : Nat) + 1 : Int) = i by omega, if_neg (by rw [show (m - 1).toNat = k by omega] at c2; intro hh; rw [show out ++ [i] = [] ++ out ++ [i] from rfl, c2] at hh; cases hh)])⟩
            · exact ⟨rfl, trivial⟩
        · -- operation 5
          refine Wx.lit (t := (tI .i64)) (ys := [i]) (vs := [.int .i64 i]) elRf_28 hS rfl rfl ⟨(V.mkInt (in_i64 (by omega) (by omega))), trivial⟩ (by decide) rfl (fun v_40 w_41 hx_42 hS => ?_)
          refine Wx.nil ⟨hS.bel, ?_⟩
          refine Wh.br [3] (by kernel_rfl) (by decide) ⟨⟨_, rfl, ?_⟩, trivial⟩
          refine Wx.append elRf_28 hS 1 rfl rfl rfl (Src.ofV (hS.arg (h0.arg a_ov))) (by simp only [maxLen]; simp; omega) (by simp; omega) rfl (fun v_43 w_44 hz_45 hS => ?_)
          refine Wx.nil ⟨hS.bel, ?_⟩
          refine Wh.br [6] (by kernel_rfl) (by decide) ⟨⟨_, rfl, ?_⟩, trivial⟩
          refine Wx.append elRf_28 hS 1 rfl rfl rfl (Src.ofR hS 0 rfl) (by simp only [maxLen]; simp; omega) (by simp; omega) rfl (fun v_46 w_47 hz_48 hS => ?_)
          refine Wx.nil ⟨hS.bel, ?_⟩
          refine Wh.br [11] (by kernel_rfl) (by decide) ⟨⟨_, rfl, ?_⟩, trivial⟩
          have hS := hS.freeze 1 rfl
          refine Wx.callF (run_callF Try.call73 rfl) (IH (in_i64 (by omega) (by omega)) (hS.arg (h0.arg a_fv)) (hS.v 0 rfl) (in_i64 (by omega) (by omega)) (in_i64 (by omega) (by omega)) p_f (by omega) (by omega) (by omega) (by omega) (by omega) (by omega) (by simp; omega) hS.fb_lt (by omega)) rfl ?_
          rintro r_50 w_51 hx_52 ⟨v_53, rfl, hv_54⟩
          have ln_56 := hv_54.len63
          have hS := hS.ext hx_52
          have hS := hS.add hv_54
          refine Wx.nil ⟨hS.bel, ?_⟩
          refine Wh.rd (v := .tuple #[v_53, .bool ((leftG L fs (m - 1).toNat ([] ++ out ++ [i]) (i + 1)).2)]) 12 rfl (by kernel_rfl) hS.bel (rd_move rfl) rfl ?_
          refine Wh.rd (v := v_53) 13 rfl (by kernel_rfl) hS.bel (rd_extract rfl rfl) rfl ?_
          refine Wh.rd (v := .bool ((leftG L fs (m - 1).toNat ([] ++ out ++ [i]) (i + 1)).2)) 14 rfl (by kernel_rfl) hS.bel (rd_extract rfl rfl) rfl ?_
          refine Wh.rd (v := v_53) 15 rfl (by kernel_rfl) hS.bel (rd_assign rfl) rfl ?_
          refine Wh.rd (v := .bool ((leftG L fs (m - 1).toNat ([] ++ out ++ [i]) (i + 1)).2)) 16 rfl (by kernel_rfl) hS.bel (rd_assign rfl) rfl ?_
          refine Wh.done (by kernel_rfl) ?_
          have hS := h0.merge hS
          refine W.seq ?_
          refine W.reg ?_
          refine Wx.rd (v := .bool ((leftG L fs (m - 1).toNat ([] ++ out ++ [i]) (i + 1)).2)) (rd_move rfl) rfl ?_
          refine Wx.nil ?_
          refine W.cond rfl (fun c2 => ?_) (fun c2 => ?_)
          · -- yes
            try simp only [Bool.and_eq_true, Bool.or_eq_true, Bool.not_eq_true', Bool.and_eq_false_iff, Bool.or_eq_false_iff, Bool.not_eq_false', decide_eq_true_eq, decide_eq_false_iff_not, not_or, Bool.false_eq_true, Bool.true_eq_false, false_or, or_false, not_false_eq_true] at c2
            refine W.seq ?_
            refine W.reg ?_
            refine Wx.rd (v := v_53) (rd_move rfl) rfl ?_
            refine Wx.rd (v := v_53) (rd_assign rfl) rfl ?_
            refine Wx.rd (v := .bool true) (rd_assign rfl) rfl ?_
            refine Wx.nil ?_
            have hx : leftG L fs m.toNat out i0 = ((leftG L fs (m - 1).toNat ([] ++ out ++ [i]) (i + 1)).1, true) := by rw [← h2, show ((fs.length : Int) - i).toNat = (fs.length - (i + 1)).toNat + 1 by omega, leftX, show (fs.length : Int) - ((((fs.length : Int) - (i + 1)).toNat : Nat) + 1 : Int) = i by omega, show k = (m - 1).toNat by omega, if_pos (show (leftG L fs (m - 1).toNat (out ++ [i]) (i + 1)).2 = true from c2)]; rfl
            have e1_0 : (leftG L fs m.toNat out i0).1 = (leftG L fs (m - 1).toNat ([] ++ out ++ [i]) (i + 1)).1 := by rw [hx]
            have e1_1 : ((leftG L fs m.toNat out i0).2) = true := by rw [hx]
            exact W.ret ⟨.tuple #[v_53, .bool true], ResIs.two, hS.bel, ⟨v_53, (by rw [e1_1]), (by rw [e1_0]; exact (V.mv (hS.v 0 rfl) (.less (fun _ h => List.mem_append.2 (.inr h)))))⟩⟩
          · -- no
            try simp only [Bool.and_eq_true, Bool.or_eq_true, Bool.not_eq_true', Bool.and_eq_false_iff, Bool.or_eq_false_iff, Bool.not_eq_false', decide_eq_true_eq, decide_eq_false_iff_not, not_or, Bool.false_eq_true, Bool.true_eq_false, false_or, or_false, not_false_eq_true] at c2
            refine W.skip ?_
            refine W.reg ?_
            refine Wx.rd (v := .int .i64 i) (rd_move rfl) rfl ?_
            refine Wx.rd (v := .int .i64 (i + 1)) (rd_add rfl rfl (in_i64 (by omega) (by omega))) rfl ?_
            refine Wx.rd (v := .int .i64 (i + 1)) (rd_assign rfl) rfl ?_
            refine Wx.nil ?_
            refine ⟨i + 1, (by show (fs.length - (i + 1)).toNat < (fs.length - i).toNat; omega), ?_, ?_, Out.look rfl Out.self⟩
            · exact ⟨St.tl (St.tl (hS.tl)), (by first | omega | assumption), (by first | omega | assumption), (by rw [← h2, show ((fs.length : Int) - i).toNat = (fs.length - (i + 1)).toNat + 1 by omega, leftX, show (fs.length : Int) - ((((fs.length : Int) - (i + 1)).toNat : Nat) + 1 : Int) = i by omega, if_neg (by rw [show (m - 1).toNat = k by omega] at c2; intro hh; rw [show out ++ [i] = [] ++ out ++ [i] from rfl, c2] at hh; cases hh)])⟩
            · exact ⟨rfl, trivial⟩
      · -- operation 5
        refine Wx.lit (t := (tI .i64)) (ys := [i]) (vs := [.int .i64 i]) elRf_28 hS rfl rfl ⟨(V.mkInt (in_i64 (by omega) (by omega))), trivial⟩ (by decide) rfl (fun v_57 w_58 hx_59 hS => ?_)
        refine Wx.nil ⟨hS.bel, ?_⟩
        refine Wh.br [1] (by kernel_rfl) (by decide) ⟨⟨_, rfl, ?_⟩, trivial⟩
        refine Wx.lit (t := (tI .i64)) (ys := []) (vs := []) elRf_28 hS rfl rfl trivial (by decide) rfl (fun v_60 w_61 hx_62 hS => ?_)
        refine Wx.nil ⟨hS.bel, ?_⟩
        refine Wh.br [3] (by kernel_rfl) (by decide) ⟨⟨_, rfl, ?_⟩, trivial⟩
        refine Wx.append elRf_28 hS 0 rfl rfl rfl (Src.ofV (hS.arg (h0.arg a_ov))) (by simp only [maxLen]; simp; omega) (by simp; omega) rfl (fun v_63 w_64 hz_65 hS => ?_)
        refine Wx.nil ⟨hS.bel, ?_⟩
        refine Wh.br [6] (by kernel_rfl) (by decide) ⟨⟨_, rfl, ?_⟩, trivial⟩
        refine Wx.append elRf_28 hS 0 rfl rfl rfl (Src.ofR hS 1 rfl) (by simp only [maxLen]; simp; omega) (by simp; omega) rfl (fun v_66 w_67 hz_68 hS => ?_)
        refine Wx.nil ⟨hS.bel, ?_⟩
        refine Wh.br [11] (by kernel_rfl) (by decide) ⟨⟨_, rfl, ?_⟩, trivial⟩
        have hS := hS.freeze 0 rfl
        refine Wx.callF (run_callF Try.call73 rfl) (IH (in_i64 (by omega) (by omega)) (hS.arg (h0.arg a_fv)) (hS.v 0 rfl) (in_i64 (by omega) (by omega)) (in_i64 (by omega) (by omega)) p_f (by omega) (by omega) (by omega) (by omega) (by omega) (by omega) (by simp; omega) hS.fb_lt (by omega)) rfl ?_
        rintro r_70 w_71 hx_72 ⟨v_73, rfl, hv_74⟩
        have ln_76 := hv_74.len63
        have hS := hS.ext hx_72
        have hS := hS.add hv_74
        refine Wx.nil ⟨hS.bel, ?_⟩
        refine Wh.rd (v := .tuple #[v_73, .bool ((leftG L fs (m - 1).toNat ([] ++ out ++ [i]) (i + 1)).2)]) 12 rfl (by kernel_rfl) hS.bel (rd_move rfl) rfl ?_
        refine Wh.rd (v := v_73) 13 rfl (by kernel_rfl) hS.bel (rd_extract rfl rfl) rfl ?_
        refine Wh.rd (v := .bool ((leftG L fs (m - 1).toNat ([] ++ out ++ [i]) (i + 1)).2)) 14 rfl (by kernel_rfl) hS.bel (rd_extract rfl rfl) rfl ?_
        refine Wh.rd (v := v_73) 15 rfl (by kernel_rfl) hS.bel (rd_assign rfl) rfl ?_
        refine Wh.rd (v := .bool ((leftG L fs (m - 1).toNat ([] ++ out ++ [i]) (i + 1)).2)) 16 rfl (by kernel_rfl) hS.bel (rd_assign rfl) rfl ?_
        refine Wh.done (by kernel_rfl) ?_
        have hS := h0.merge hS
        refine W.seq ?_
        refine W.reg ?_
        refine Wx.rd (v := .bool ((leftG L fs (m - 1).toNat ([] ++ out ++ [i]) (i + 1)).2)) (rd_move rfl) rfl ?_
        refine Wx.nil ?_
        refine W.cond rfl (fun c2 => ?_) (fun c2 => ?_)
        · -- yes
          try simp only [Bool.and_eq_true, Bool.or_eq_true, Bool.not_eq_true', Bool.and_eq_false_iff, Bool.or_eq_false_iff, Bool.not_eq_false', decide_eq_true_eq, decide_eq_false_iff_not, not_or, Bool.false_eq_true, Bool.true_eq_false, false_or, or_false, not_false_eq_true] at c2
          refine W.seq ?_
          refine W.reg ?_
          refine Wx.rd (v := v_73) (rd_move rfl) rfl ?_
          refine Wx.rd (v := v_73) (rd_assign rfl) rfl ?_
          refine Wx.rd (v := .bool true) (rd_assign rfl) rfl ?_
          refine Wx.nil ?_
          have hx : leftG L fs m.toNat out i0 = ((leftG L fs (m - 1).toNat ([] ++ out ++ [i]) (i + 1)).1, true) := by rw [← h2, show ((fs.length : Int) - i).toNat = (fs.length - (i + 1)).toNat + 1 by omega, leftX, show (fs.length : Int) - ((((fs.length : Int) - (i + 1)).toNat : Nat) + 1 : Int) = i by omega, show k = (m - 1).toNat by omega, if_pos (show (leftG L fs (m - 1).toNat (out ++ [i]) (i + 1)).2 = true from c2)]; rfl
          have e1_0 : (leftG L fs m.toNat out i0).1 = (leftG L fs (m - 1).toNat ([] ++ out ++ [i]) (i + 1)).1 := by rw [hx]
          have e1_1 : ((leftG L fs m.toNat out i0).2) = true := by rw [hx]
          exact W.ret ⟨.tuple #[v_73, .bool true], ResIs.two, hS.bel, ⟨v_73, (by rw [e1_1]), (by rw [e1_0]; exact (V.mv (hS.v 0 rfl) (.less (fun _ h => List.mem_append.2 (.inr h)))))⟩⟩
        · -- no
          try simp only [Bool.and_eq_true, Bool.or_eq_true, Bool.not_eq_true', Bool.and_eq_false_iff, Bool.or_eq_false_iff, Bool.not_eq_false', decide_eq_true_eq, decide_eq_false_iff_not, not_or, Bool.false_eq_true, Bool.true_eq_false, false_or, or_false, not_false_eq_true] at c2
          refine W.skip ?_
          refine W.reg ?_
          refine Wx.rd (v := .int .i64 i) (rd_move rfl) rfl ?_
          refine Wx.rd (v := .int .i64 (i + 1)) (rd_add rfl rfl (in_i64 (by omega) (by omega))) rfl ?_
          refine Wx.rd (v := .int .i64 (i + 1)) (rd_assign rfl) rfl ?_
          refine Wx.nil ?_
          refine ⟨i + 1, (by show (fs.length - (i + 1)).toNat < (fs.length - i).toNat; omega), ?_, ?_, Out.look rfl Out.self⟩
          · exact ⟨St.tl (St.tl (hS.tl)), (by first | omega | assumption), (by first | omega | assumption), (by rw [← h2, show ((fs.length : Int) - i).toNat = (fs.length - (i + 1)).toNat + 1 by omega, leftX, show (fs.length : Int) - ((((fs.length : Int) - (i + 1)).toNat : Nat) + 1 : Int) = i by omega, if_neg (by rw [show (m - 1).toNat = k by omega] at c2; intro hh; rw [show out ++ [i] = [] ++ out ++ [i] from rfl, c2] at hh; cases hh)])⟩
          · exact ⟨rfl, trivial⟩
    · -- no
      refine W.exit rfl ?_
      refine W.seq ?_
      refine W.reg ?_
      refine Wx.rd (v := (.slice none 0 0)) (rd_assign rfl) rfl ?_
      refine Wx.rd (v := .bool false) (rd_assign rfl) rfl ?_
      refine Wx.nil ?_
      have hx : leftG L fs m.toNat out i0 = ([], false) := by rw [← h2, show ((fs.length : Int) - i).toNat = 0 by omega]; rfl
      have e2_0 : (leftG L fs m.toNat out i0).1 = [] := by rw [hx]
      have e2_1 : ((leftG L fs m.toNat out i0).2) = false := by rw [hx]
      exact W.ret ⟨.tuple #[(.slice none 0 0), .bool false], ResIs.two, hS.bel, ⟨(.slice none 0 0), (by rw [e2_1]), (by rw [e2_0]; exact (V.nil (t := (tI .i64))))⟩⟩
theorem F73 {L : Int} {fv : Value} {fs : List (List Int)} {ov : Value} {out : List Int} {i0 : Int} {m : Int} {O : List (Option Nat)} {w : World} (i_L : InK .i64 L) (h_fv : V (tSl (tSl (tI .i64))) fs fv O w) (h_ov : V (tSl (tI .i64)) out ov O w) (i_i0 : InK .i64 i0) (i_m : InK .i64 m) (p_f : okF L fs) (p_7 : L ≤ 7) (p_1 : 1 ≤ L) (p_10 : (fs.length : Int) ≤ 10) (p_i : 0 ≤ i0) (p_i2 : i0 ≤ fs.length) (p_m : 0 ≤ m) (p_o : out.length + m ≤ 10) (hO : ∀ b, some b ∈ O → b < w.heap.size) : Calls Try.prog 73 #[.agg #[.int .i64 L, fv], ov, .int .i64 i0, .int .i64 m] w (Ret w (fun r w' => ∃ rv, r = .tuple #[rv, .bool ((leftG L fs m.toNat out i0).2)] ∧ V (tSl (tI .i64)) ((leftG L fs m.toNat out i0).1) rv O w')) := F73_rec _ i_L h_fv h_ov i_i0 i_m p_f p_7 p_1 p_10 p_i p_i2 p_m p_o hO (Nat.lt_succ_self _)

theorem F29 {L : Int} {fv : Value} {fs : List (List Int)} {O : List (Option Nat)} {w : World} (i_L : InK .i64 L) (h_fv : V (tSl (tSl (tI .i64))) fs fv O w) (hO : ∀ b, some b ∈ O → b < w.heap.size) : Calls Try.prog 29 #[.agg #[.int .i64 L, fv]] w (Ret w (fun r w' => ∃ rv, r = .tuple #[rv, .int .i64 (checkE L fs)] ∧ V (tSl (tI .i64)) (refFewest L fs) rv O w')) := by
  have b_L := bd_i64 i_L
  have a_fv := h_fv
  have l_fv := h_fv.len63
  have hS := St.start w O hO
  refine enterR Try.func29 rfl Try.ntmps29 Try.results29 rfl ?_
  refine W.seq ?_
  refine W.reg ?_
  refine Wx.box (cs := [.int .i64 L, fv]) hS rfl rfl rfl (fun g_1 w_2 hx_4 hb_3 hS => ?_)
  refine Wx.rd (v := (.slice none 0 0)) (rd_assign rfl) rfl ?_
  refine Wx.rd (v := .int .i64 0) (rd_assign rfl) rfl ?_
  refine Wx.nil ?_
  refine W.seq ?_
  refine W.reg ?_
  refine Wx.rd (v := .agg #[.int .i64 L, fv]) (rd_loadXs (ds := [.int .i64 L, fv]) hS 0 rfl rfl rfl rfl Try.isAgg27 Try.sizeOf27) rfl ?_
  refine Wx.callF (run_callF Try.call37 rfl) (F37 (in_i64 (by omega) (by omega)) (hS.arg a_fv)) rfl ?_
  rintro r_5 w_6 hx_7 rfl
  have hS := hS.ext hx_7
  refine Wx.rd (v := .int .i64 (checkE L fs)) (rd_assign rfl) rfl ?_
  refine Wx.nil ?_
  refine W.seq ?_
  refine W.seq ?_
  refine W.reg ?_
  refine Wx.rd (v := .int .i64 (checkE L fs)) (rd_move rfl) rfl ?_
  refine Wx.rd (v := .bool (decide ((checkE L fs) ≠ 0))) (rd_neq rfl rfl) rfl ?_
  refine Wx.nil ?_
  refine W.condD rfl (fun c0 => ?_) (fun c0 => ?_)
  · -- yes
    refine W.seq ?_
    refine W.reg ?_
    refine Wx.rd (v := .int .i64 (checkE L fs)) (rd_move rfl) rfl ?_
    refine Wx.rd (v := (.slice none 0 0)) (rd_assign rfl) rfl ?_
    refine Wx.rd (v := .int .i64 (checkE L fs)) (rd_assign rfl) rfl ?_
    refine Wx.nil ?_
    have e0_0 : refFewest L fs = [] := by rw [refFewest, if_pos (by omega)]
    exact W.ret ⟨.tuple #[(.slice none 0 0), .int .i64 (checkE L fs)], ResIs.two, hS.bel, ⟨(.slice none 0 0), rfl, (by rw [e0_0]; exact (V.nil (t := (tI .i64))))⟩⟩
  · -- no
    have hk := check_ok (L := L) (fs := fs) (by omega)
    refine W.skip ?_
    refine W.seq ?_
    refine W.reg ?_
    refine Wx.rd (v := .int .i64 0) (rd_assign rfl) rfl ?_
    refine Wx.nil ?_
    refine W.seq ?_
    refine W.reg ?_
    refine Wx.rd (v := .agg #[.int .i64 L, fv]) (rd_loadXs (ds := [.int .i64 L, fv]) hS 0 rfl rfl rfl rfl Try.isAgg27 Try.sizeOf27) rfl ?_
    refine Wx.rd (v := .int .i64 0) (rd_move rfl) rfl ?_
    refine Wx.callF (run_callF Try.call73 rfl) (F73 (in_i64 (by omega) (by omega)) (hS.arg a_fv) (V.nil (t := (tI .i64))) (in_i64 (by omega) (by omega)) (in_i64 (by omega) (by omega)) hk.2.2.2 (by omega) (by omega) (by omega) (by omega) (by omega) (by omega) (by simp) hS.fb_lt) rfl ?_
    rintro r_8 w_9 hx_10 ⟨v_11, rfl, hv_12⟩
    have ln_14 := hv_12.len63
    have hS := hS.ext hx_10
    have hS := hS.add hv_12
    refine Wx.rd (v := .tuple #[v_11, .bool ((leftG L fs (0 : Int).toNat ([] : List Int) 0).2)]) (rd_move rfl) rfl ?_
    refine Wx.rd (v := v_11) (rd_extract rfl rfl) rfl ?_
    refine Wx.rd (v := .bool ((leftG L fs (0 : Int).toNat ([] : List Int) 0).2)) (rd_extract rfl rfl) rfl ?_
    refine Wx.rd (v := v_11) (rd_assign rfl) rfl ?_
    refine Wx.rd (v := .bool ((leftG L fs (0 : Int).toNat ([] : List Int) 0).2)) (rd_assign rfl) rfl ?_
    refine Wx.nil ?_
    refine W.seq ?_
    refine W.block ?_
    have hv_16 : V (tSl (tI .i64)) ((leftG L fs (0 : Int).toNat ([] : List Int) 0).1) v_11 _ _ := (hS.v 0 rfl)
    have hS := hS.add (hv_16)
    refine W.loop [5, 6, 7, 19, 20, 21, 22, 23, 24, 25, 26, 27, 28] (fun x : Int × Value × (List Int) × Bool => match x with | (n, lv, l, g) => [(5, .int .i64 n), (6, lv), (7, .bool g)]) (fun (x : Int × Value × (List Int) × Bool) w' => match x with | (n, lv, l, g) => St w O w' [Ob.v (tSl (tI .i64)) l lv, Ob.v (tSl (tI .i64)) ((leftG L fs (0 : Int).toNat ([] : List Int) 0).1) v_11, .box g_1 27 [.int .i64 L, fv]] ∧ 0 ≤ n ∧ n ≤ fs.length ∧ leastG L fs (fs.length - n).toNat n.toNat = leastG L fs fs.length 0 ∧ leftG L fs n.toNat [] 0 = (l, g)) (fun x : Int × Value × (List Int) × Bool => match x with | (n, lv, l, g) => (fs.length - n).toNat) (0, v_11, (leftG L fs (0 : Int).toNat ([] : List Int) 0).1, (leftG L fs (0 : Int).toNat ([] : List Int) 0).2) ⟨rfl, rfl, rfl, trivial⟩ ⟨hS, (by first | omega | simp), (by first | omega | simp), (by simp), (rfl)⟩ ?_
    rintro ⟨n, lv, l, g⟩ u_18 w_17 ⟨hS, h0, h1, h2, h3⟩
    have hg : n = fs.length → g = true := fun e => by have := leftG_all L fs fs.length [] 0 (by omega) (by omega) (fun j h1 h2 => by omega); rw [show fs.length = n.toNat by omega, h3] at this; exact this
    refine W.seq ?_
    refine W.seq ?_
    refine W.reg ?_
    refine Wx.rd (v := .bool g) (rd_move rfl) rfl ?_
    refine Wx.rd (v := .bool (!g)) (rd_not rfl) rfl ?_
    refine Wx.nil ?_
    refine W.cond rfl (fun c1 => ?_) (fun c1 => ?_)
    · -- yes
      try simp only [Bool.and_eq_true, Bool.or_eq_true, Bool.not_eq_true', Bool.and_eq_false_iff, Bool.or_eq_false_iff, Bool.not_eq_false', decide_eq_true_eq, decide_eq_false_iff_not, not_or, Bool.false_eq_true, Bool.true_eq_false, false_or, or_false, not_false_eq_true] at c1
      have hnl : n < fs.length := by by_cases e : n = fs.length; rw [hg e] at c1; cases c1; omega
      refine W.skip ?_
      refine W.block ?_
      refine W.seq ?_
      refine W.reg ?_
      refine Wx.rd (v := .int .i64 n) (rd_move rfl) rfl ?_
      refine Wx.rd (v := .int .i64 (n + 1)) (rd_add rfl rfl (in_i64 (by omega) (by omega))) rfl ?_
      refine Wx.rd (v := .int .i64 (n + 1)) (rd_assign rfl) rfl ?_
      refine Wx.nil ?_
      refine W.reg ?_
      refine Wx.rd (v := .agg #[.int .i64 L, fv]) (rd_loadXs (ds := [.int .i64 L, fv]) hS 2 rfl rfl rfl rfl Try.isAgg27 Try.sizeOf27) rfl ?_
      refine Wx.rd (v := .int .i64 (n + 1)) (rd_move rfl) rfl ?_
      refine Wx.callF (run_callF Try.call73 rfl) (F73 (in_i64 (by omega) (by omega)) (hS.arg a_fv) (V.nil (t := (tI .i64))) (in_i64 (by omega) (by omega)) (in_i64 (by omega) (by omega)) hk.2.2.2 (by omega) (by omega) (by omega) (by omega) (by omega) (by omega) (by simp; omega) hS.fb_lt) rfl ?_
      rintro r_19 w_20 hx_21 ⟨v_22, rfl, hv_23⟩
      have ln_25 := hv_23.len63
      have hS := hS.ext hx_21
      have hS := hS.add hv_23
      refine Wx.rd (v := .tuple #[v_22, .bool ((leftG L fs (n + 1).toNat ([] : List Int) 0).2)]) (rd_move rfl) rfl ?_
      refine Wx.rd (v := v_22) (rd_extract rfl rfl) rfl ?_
      refine Wx.rd (v := .bool ((leftG L fs (n + 1).toNat ([] : List Int) 0).2)) (rd_extract rfl rfl) rfl ?_
      refine Wx.rd (v := v_22) (rd_assign rfl) rfl ?_
      refine Wx.rd (v := .bool ((leftG L fs (n + 1).toNat ([] : List Int) 0).2)) (rd_assign rfl) rfl ?_
      refine Wx.nil ?_
      have hv_26 : V (tSl (tI .i64)) ((leftG L fs (n + 1).toNat ([] : List Int) 0).1) v_22 _ _ := (hS.v 0 rfl)
      refine ⟨(n + 1, v_22, (leftG L fs (n + 1).toNat ([] : List Int) 0).1, (leftG L fs (n + 1).toNat ([] : List Int) 0).2), (by show (fs.length - (n + 1)).toNat < (fs.length - n).toNat; omega), ?_, ?_, Out.look rfl Out.self⟩
      · exact ⟨(St.add (St.tl (St.tl (hS))) (V.tlF (V.tlF (hv_26)))), (by first | omega | assumption), (by first | omega | assumption), (by rw [← h2, show ((fs.length : Int) - n).toNat = (fs.length - (n + 1)).toNat + 1 by omega, leastG, h3, if_neg (by simp [c1]), show (n + 1).toNat = n.toNat + 1 by omega]), (rfl)⟩
      · exact ⟨rfl, rfl, rfl, trivial⟩
    · -- no
      try simp only [Bool.and_eq_true, Bool.or_eq_true, Bool.not_eq_true', Bool.and_eq_false_iff, Bool.or_eq_false_iff, Bool.not_eq_false', decide_eq_true_eq, decide_eq_false_iff_not, not_or, Bool.false_eq_true, Bool.true_eq_false, false_or, or_false, not_false_eq_true] at c1
      refine W.exit rfl ?_
      refine W.seq ?_
      refine W.reg ?_
      refine Wx.rd (v := lv) (rd_move rfl) rfl ?_
      refine Wx.rd (v := lv) (rd_assign rfl) rfl ?_
      refine Wx.rd (v := .int .i64 0) (rd_assign rfl) rfl ?_
      refine Wx.nil ?_
      have hx : leastG L fs fs.length 0 = (l, g) := by { rw [← h2]; cases he : ((fs.length : Int) - n).toNat with | zero => rw [leastG, h3] | succ k => rw [leastG, h3, if_pos (by simpa using c1)] }
      have e1_0 : refFewest L fs = l := by rw [refFewest, if_neg (by omega), hx]
      have e1_1 : (checkE L fs) = (0 : Int) := by omega
      exact W.ret ⟨.tuple #[lv, .int .i64 0], ResIs.two, hS.bel, ⟨lv, (by rw [e1_1]), (by rw [e1_0]; exact (V.mv (hS.v 0 rfl) (.less (fun _ h => List.mem_append.2 (.inr h)))))⟩⟩
end Go.Proofs.Ytjmpojoimcljoaa
