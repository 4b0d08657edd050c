/-
  WHAT IS PROVED HERE: what functions of layer 3 hand back, each out of its own code; the conditions stand in each statement.
-/
import Derived.Test.YtjmpojoimcljoaaProg
import Derived.Test.YtjmpojoimcljoaaWk9
import Derived.Test.YtjmpojoimcljoaaSpec6
import Derived.Test.YtjmpojoimcljoaaFa
import Derived.Test.YtjmpojoimcljoaaFb
import Derived.Test.YtjmpojoimcljoaaFc
import Derived.Test.YtjmpojoimcljoaaFf
import Derived.Test.YtjmpojoimcljoaaFg
namespace Go.Proofs.Ytjmpojoimcljoaa
open Go.Wk Go.RowKit
set_option linter.unusedVariables false
set_option linter.unusedSimpArgs false
theorem foFh_85_0 : fldOff Try.prog 85 0 = some 0 := by kernel_rfl

theorem F24 {L : Int} {fv : Value} {fs : List (List Int)} {Fr_fv : List (Option Nat)} {w : World} (i_L : InK .i64 L) (h_fv : V (tSl (tSl (tI .i64))) fs fv Fr_fv w) : Calls Try.prog 24 #[.agg #[.int .i64 L, fv]] w (Ret w (fun r _ => r = .tuple #[.int .i64 ((whyT L fs).1), .int .i64 ((whyT L fs).2.1), .int .i64 ((whyT L fs).2.2), .int .i64 (whyE L fs)])) := by
  have b_L := bd_i64 i_L
  have a_fv := h_fv.any
  have l_fv := h_fv.len63
  have hS := St.start0 w
  refine enterR Try.func24 rfl Try.ntmps24 Try.results24 rfl ?_
  refine W.seq ?_
  refine W.reg ?_
  refine Wx.box (cs := [.int .i64 L, fv]) hS rfl rfl rfl (fun g_1 w_2 hx_4 hb_3 hS => ?_)
  refine Wx.rd (v := .int .i64 0) (rd_assign rfl) rfl ?_
  refine Wx.rd (v := .int .i64 0) (rd_assign rfl) rfl ?_
  refine Wx.rd (v := .int .i64 0) (rd_assign rfl) rfl ?_
  refine Wx.rd (v := .int .i64 0) (rd_assign rfl) rfl ?_
  refine Wx.nil ?_
  refine W.seq ?_
  refine W.reg ?_
  refine Wx.rd (v := .agg #[.int .i64 L, fv]) (rd_loadXs (ds := [.int .i64 L, fv]) hS 0 rfl rfl rfl rfl Try.isAgg24 Try.sizeOf24) rfl ?_
  refine Wx.callF (run_callF Try.call60 rfl) (F60 (in_i64 (by omega) (by omega)) (hS.arg a_fv) hS.fb_lt) rfl ?_
  rintro r_5 w_6 hx_7 ⟨v_8, rfl, hv_9⟩
  have ln_11 := hv_9.len63
  have hS := hS.ext hx_7
  have hS := hS.add hv_9
  refine Wx.rd (v := .tuple #[.agg #[.int .i64 (openL L fs), v_8], .int .i64 (checkE L fs)]) (rd_move rfl) rfl ?_
  refine Wx.rd (v := .agg #[.int .i64 (openL L fs), v_8]) (rd_extract rfl rfl) rfl ?_
  refine Wx.rd (v := .int .i64 (checkE L fs)) (rd_extract rfl rfl) rfl ?_
  refine Wx.alloc (cs := [.int .i64 0, (.slice none 0 0)]) hS Try.zeroValue85 rfl rfl (fun g_12 w_13 hx_15 hb_14 hS => ?_)
  refine Wx.storeX (cs' := [.int .i64 (openL L fs), v_8]) (ds := [.int .i64 (openL L fs), v_8]) hS 0 rfl rfl rfl rfl Try.sizeOf85 (Nat.le_of_ble_eq_true rfl) (one_cons rfl (one_cons (V.oneC (hS.v 1 rfl)) one_nil)) rfl (fun w_16 hz_17 hS => ?_)
  refine Wx.rd (v := .int .i64 (checkE L fs)) (rd_assign rfl) rfl ?_
  refine Wx.nil ?_
  refine W.seq ?_
  refine W.block ?_
  refine W.seq ?_
  refine W.reg ?_
  refine Wx.rd (v := .int .i64 (checkE L fs)) (rd_move rfl) rfl ?_
  refine Wx.rd (v := .bool (decide ((checkE L fs) ≠ 0))) (rd_neq rfl rfl) rfl ?_
  refine Wx.rd (v := .bool (decide ((checkE L fs) ≠ 0))) (rd_assign rfl) rfl ?_
  refine Wx.nil ?_
  refine W.condD rfl (fun c0 => ?_) (fun c0 => ?_)
  · -- yes
    refine W.seq ?_
    refine W.reg ?_
    refine Wx.rd (v := .int .i64 (checkE L fs)) (rd_move rfl) rfl ?_
    refine Wx.rd (v := .int .i64 0) (rd_assign rfl) rfl ?_
    refine Wx.rd (v := .int .i64 0) (rd_assign rfl) rfl ?_
    refine Wx.rd (v := .int .i64 0) (rd_assign rfl) rfl ?_
    refine Wx.rd (v := .int .i64 (checkE L fs)) (rd_assign rfl) rfl ?_
    refine Wx.nil ?_
    have hE : whyE L fs = checkE L fs := by rw [whyE, if_pos (by omega)]
    have hl : whyT L fs = (0, 0, 0) := by rw [whyT, if_neg (by omega)]
    have e0_0 : ((whyT L fs).1) = (0 : Int) := by rw [hl]
    have e0_1 : ((whyT L fs).2.1) = (0 : Int) := by rw [hl]
    have e0_2 : ((whyT L fs).2.2) = (0 : Int) := by rw [hl]
    have e0_3 : (whyE L fs) = (checkE L fs : Int) := by exact hE
    exact W.ret ⟨.tuple #[.int .i64 0, .int .i64 0, .int .i64 0, .int .i64 (checkE L fs)], ResIs.four, hS.bel, (by rw [e0_0, e0_1, e0_2, e0_3])⟩
  · -- no
    have hc : checkE L fs = 0 := by omega
    have ho := openL_ok hc
    have hss : ∀ f ∈ openS L fs, InK .u8 f := by rw [ho.2.1]; exact setsF_in fs
    refine W.seq ?_
    refine W.reg ?_
    refine Wx.rd (v := .agg #[.int .i64 (openL L fs), v_8]) (rd_loadXs (ds := [.int .i64 (openL L fs), v_8]) hS 0 rfl rfl rfl rfl Try.isAgg85 Try.sizeOf85) rfl ?_
    refine Wx.callF (run_callF Try.call65 rfl) (F65 (in_i64 (by omega) (by omega)) (hS.v 1 rfl) (by omega) (by omega)) rfl ?_
    rintro r_18 w_19 hx_20 rfl
    have hS := hS.ext hx_20
    refine Wx.rd (v := .bool (decide (0 < (countT (openL L fs) (openS L fs))))) (rd_gtr rfl rfl) rfl ?_
    refine Wx.rd (v := .bool (decide (0 < (countT (openL L fs) (openS L fs))))) (rd_assign rfl) rfl ?_
    refine Wx.nil ?_
    refine W.condD rfl (fun c1 => ?_) (fun c1 => ?_)
    · -- yes
      refine W.seq ?_
      refine W.reg ?_
      refine Wx.rd (v := .int .i64 0) (rd_assign rfl) rfl ?_
      refine Wx.rd (v := .int .i64 0) (rd_assign rfl) rfl ?_
      refine Wx.rd (v := .int .i64 0) (rd_assign rfl) rfl ?_
      refine Wx.rd (v := .int .i64 13) (rd_assign rfl) rfl ?_
      refine Wx.nil ?_
      have hE : whyE L fs = 13 := by rw [whyE, if_neg (by omega), ← ho.1, ← ho.2.1, if_pos (by omega)]
      have hl : whyT L fs = (0, 0, 0) := by rw [whyT, if_neg (by omega)]
      have e1_0 : ((whyT L fs).1) = (0 : Int) := by rw [hl]
      have e1_1 : ((whyT L fs).2.1) = (0 : Int) := by rw [hl]
      have e1_2 : ((whyT L fs).2.2) = (0 : Int) := by rw [hl]
      have e1_3 : (whyE L fs) = (13 : Int) := by exact hE
      exact W.ret ⟨.tuple #[.int .i64 0, .int .i64 0, .int .i64 0, .int .i64 13], ResIs.four, hS.bel, (by rw [e1_0, e1_1, e1_2, e1_3])⟩
    · -- no
      have hW : whyF L fs = (tripA (openL L fs) (openL L fs).toNat).find? (apartT (openS L fs)) := by rw [whyF, ho.1, ho.2.1]
      refine W.skip ?_
      refine W.seq ?_
      refine W.seq ?_
      refine W.reg ?_
      refine Wx.rd (v := .pointer (some ⟨g_12, 0, none⟩)) (rd_fieldAddr rfl foFh_85_0) rfl ?_
      refine Wx.rd (v := .int .i64 (openL L fs)) (rd_loadX hS 0 rfl rfl rfl Try.isAgg3) rfl ?_
      refine Wx.rd (v := .int .i64 0) (rd_move rfl) rfl ?_
      refine Wx.nil ?_
      refine W.block ?_
      refine W.loop [2, 3, 4, 5, 7, 8, 9, 25, 26, 27, 28, 29, 30, 31, 32, 33, 34, 35, 36, 37, 38, 39, 40, 41, 42, 43, 44, 45, 46, 47, 48, 49, 50, 51, 52] (fun (a : Int) => [(25, .int .i64 a)]) (fun (a : Int) w' => St w [] w' [.box g_12 85 [.int .i64 (openL L fs), v_8], Ob.v (tSl (tI .u8)) (openS L fs) v_8, .box g_1 24 [.int .i64 L, fv]] ∧ 0 ≤ a ∧ a ≤ openL L fs ∧ (tripA (openL L fs) (openL L fs - a).toNat).find? (apartT (openS L fs)) = (tripA (openL L fs) (openL L fs).toNat).find? (apartT (openS L fs))) (fun (a : Int) => (openL L fs - a).toNat) 0 ⟨rfl, trivial⟩ ⟨hS, (by first | omega | simp), (by first | omega | simp), (by simp)⟩ ?_
      rintro a u_22 w_21 ⟨hS, h0, h1, h2⟩
      refine W.seq ?_
      refine W.reg ?_
      refine Wx.rd (v := .bool (decide (a < (openL L fs)))) (rd_lss rfl rfl) rfl ?_
      refine Wx.nil ?_
      refine W.seq ?_
      refine W.condD rfl (fun c2 => ?_) (fun c2 => ?_)
      · -- yes
        refine W.skip ?_
        refine W.seq ?_
        refine W.block ?_
        refine W.seq ?_
        refine W.reg ?_
        refine Wx.rd (v := .int .i64 a) (rd_move rfl) rfl ?_
        refine Wx.rd (v := .int .i64 a) (rd_assign rfl) rfl ?_
        refine Wx.nil ?_
        refine W.seq ?_
        refine W.reg ?_
        refine Wx.rd (v := .int .i64 a) (rd_move rfl) rfl ?_
        refine Wx.rd (v := .int .i64 (a + 1)) (rd_add rfl rfl (in_i64 (by omega) (by omega))) rfl ?_
        refine Wx.rd (v := .int .i64 (a + 1)) (rd_assign rfl) rfl ?_
        refine Wx.nil ?_
        refine W.block ?_
        refine W.loop [2, 3, 4, 5, 8, 9, 30, 31, 32, 33, 34, 35, 36, 37, 38, 39, 40, 41, 42, 43, 44, 45, 46, 47, 48, 49, 50, 51] (fun (b : Int) => [(8, .int .i64 b)]) (fun (b : Int) w' => St w [] w' [.box g_12 85 [.int .i64 (openL L fs), v_8], Ob.v (tSl (tI .u8)) (openS L fs) v_8, .box g_1 24 [.int .i64 L, fv]] ∧ a + 1 ≤ b ∧ b ≤ openL L fs ∧ (tripB (openL L fs) a (openL L fs - b).toNat ++ tripA (openL L fs) (openL L fs - (a + 1)).toNat).find? (apartT (openS L fs)) = (tripA (openL L fs) (openL L fs).toNat).find? (apartT (openS L fs))) (fun (b : Int) => (openL L fs - b).toNat) (a + 1) ⟨rfl, trivial⟩ ⟨hS, (by first | omega | simp), (by first | omega | simp), (by rw [← h2, show (openL L fs - a).toNat = (openL L fs - (a + 1)).toNat + 1 by omega, tripA, show openL L fs - (((openL L fs - (a + 1)).toNat : Nat) + 1 : Int) = a by omega])⟩ ?_
        rintro b u_24 w_23 ⟨hS, g0, g1, g2⟩
        refine W.seq ?_
        refine W.seq ?_
        refine W.reg ?_
        refine Wx.rd (v := .int .i64 b) (rd_move rfl) rfl ?_
        refine Wx.rd (v := .pointer (some ⟨g_12, 0, none⟩)) (rd_fieldAddr rfl foFh_85_0) rfl ?_
        refine Wx.rd (v := .int .i64 (openL L fs)) (rd_loadX hS 0 rfl rfl rfl Try.isAgg3) rfl ?_
        refine Wx.rd (v := .bool (decide (b < (openL L fs)))) (rd_lss rfl rfl) rfl ?_
        refine Wx.nil ?_
        refine W.condD rfl (fun c3 => ?_) (fun c3 => ?_)
        · -- yes
          refine W.skip ?_
          refine W.seq ?_
          refine W.block ?_
          refine W.seq ?_
          refine W.reg ?_
          refine Wx.rd (v := .int .i64 b) (rd_move rfl) rfl ?_
          refine Wx.rd (v := .int .i64 (b + 1)) (rd_add rfl rfl (in_i64 (by omega) (by omega))) rfl ?_
          refine Wx.rd (v := .int .i64 (b + 1)) (rd_assign rfl) rfl ?_
          refine Wx.nil ?_
          refine W.block ?_
          refine W.loop [2, 3, 4, 5, 9, 38, 39, 40, 41, 42, 43, 44, 45, 46, 47, 48, 49, 50, 51] (fun (c : Int) => [(9, .int .i64 c)]) (fun (c : Int) w' => St w [] w' [.box g_12 85 [.int .i64 (openL L fs), v_8], Ob.v (tSl (tI .u8)) (openS L fs) v_8, .box g_1 24 [.int .i64 L, fv]] ∧ b + 1 ≤ c ∧ c ≤ openL L fs ∧ (tripC (openL L fs) a b (openL L fs - c).toNat ++ (tripB (openL L fs) a (openL L fs - (b + 1)).toNat ++ tripA (openL L fs) (openL L fs - (a + 1)).toNat)).find? (apartT (openS L fs)) = (tripA (openL L fs) (openL L fs).toNat).find? (apartT (openS L fs))) (fun (c : Int) => (openL L fs - c).toNat) (b + 1) ⟨rfl, trivial⟩ ⟨hS, (by first | omega | simp), (by first | omega | simp), (by rw [← g2, show (openL L fs - b).toNat = (openL L fs - (b + 1)).toNat + 1 by omega, tripB, show openL L fs - (((openL L fs - (b + 1)).toNat : Nat) + 1 : Int) = b by omega, List.append_assoc])⟩ ?_
          rintro c u_26 w_25 ⟨hS, k0, k1, k2⟩
          refine W.seq ?_
          refine W.seq ?_
          refine W.reg ?_
          refine Wx.rd (v := .int .i64 c) (rd_move rfl) rfl ?_
          refine Wx.rd (v := .pointer (some ⟨g_12, 0, none⟩)) (rd_fieldAddr rfl foFh_85_0) rfl ?_
          refine Wx.rd (v := .int .i64 (openL L fs)) (rd_loadX hS 0 rfl rfl rfl Try.isAgg3) rfl ?_
          refine Wx.rd (v := .bool (decide (c < (openL L fs)))) (rd_lss rfl rfl) rfl ?_
          refine Wx.nil ?_
          refine W.condD rfl (fun c4 => ?_) (fun c4 => ?_)
          · -- yes
            refine W.skip ?_
            refine W.seq ?_
            refine W.block ?_
            refine W.seq ?_
            refine W.reg ?_
            refine Wx.rd (v := .agg #[.int .i64 (openL L fs), v_8]) (rd_loadXs (ds := [.int .i64 (openL L fs), v_8]) hS 0 rfl rfl rfl rfl Try.isAgg85 Try.sizeOf85) rfl ?_
            refine Wx.rd (v := .int .i64 a) (rd_move rfl) rfl ?_
            refine Wx.rd (v := .int .i64 b) (rd_move rfl) rfl ?_
            refine Wx.rd (v := .int .i64 c) (rd_move rfl) rfl ?_
            refine Wx.callF (run_callF Try.call69 rfl) (F69 (in_i64 (by omega) (by omega)) (hS.v 1 rfl) (in_i64 (by omega) (by omega)) (in_i64 (by omega) (by omega)) (in_i64 (by omega) (by omega)) (by omega) (by omega) (by omega)) rfl ?_
            rintro r_27 w_28 hx_29 rfl
            have hS := hS.ext hx_29
            refine Wx.nil ?_
            refine W.cond rfl (fun c5 => ?_) (fun c5 => ?_)
            · -- yes
              try simp only [Bool.and_eq_true, Bool.or_eq_true, Bool.not_eq_true', Bool.and_eq_false_iff, Bool.or_eq_false_iff, Bool.not_eq_false', decide_eq_true_eq, decide_eq_false_iff_not, not_or, Bool.false_eq_true, Bool.true_eq_false, false_or, or_false, not_false_eq_true] at c5
              refine W.seq ?_
              refine W.reg ?_
              refine Wx.rd (v := .int .i64 a) (rd_move rfl) rfl ?_
              refine Wx.rd (v := .int .i64 b) (rd_move rfl) rfl ?_
              refine Wx.rd (v := .int .i64 c) (rd_move rfl) rfl ?_
              refine Wx.rd (v := .int .i64 a) (rd_assign rfl) rfl ?_
              refine Wx.rd (v := .int .i64 b) (rd_assign rfl) rfl ?_
              refine Wx.rd (v := .int .i64 c) (rd_assign rfl) rfl ?_
              refine Wx.rd (v := .int .i64 0) (rd_assign rfl) rfl ?_
              refine Wx.nil ?_
              have hF : whyF L fs = some (a, b, c) := by rw [hW, ← k2, show (openL L fs - c).toNat = (openL L fs - (c + 1)).toNat + 1 by omega, tripC, show openL L fs - (((openL L fs - (c + 1)).toNat : Nat) + 1 : Int) = c by omega, List.cons_append, List.find?_cons_of_pos (by simp [apartT, c5])]
              have hE : whyE L fs = 0 := by rw [whyE, if_neg (by omega), ← ho.1, ← ho.2.1, if_neg (by omega), ho.1, hF]; rfl
              have hl : whyT L fs = (a, b, c) := by rw [whyT, if_pos hE, hF]; rfl
              have e2_0 : ((whyT L fs).1) = (a : Int) := by rw [hl]
              have e2_1 : ((whyT L fs).2.1) = (b : Int) := by rw [hl]
              have e2_2 : ((whyT L fs).2.2) = (c : Int) := by rw [hl]
              have e2_3 : (whyE L fs) = (0 : Int) := by exact hE
              exact W.ret ⟨.tuple #[.int .i64 a, .int .i64 b, .int .i64 c, .int .i64 0], ResIs.four, hS.bel, (by rw [e2_0, e2_1, e2_2, e2_3])⟩
            · -- no
              try simp only [Bool.and_eq_true, Bool.or_eq_true, Bool.not_eq_true', Bool.and_eq_false_iff, Bool.or_eq_false_iff, Bool.not_eq_false', decide_eq_true_eq, decide_eq_false_iff_not, not_or, Bool.false_eq_true, Bool.true_eq_false, false_or, or_false, not_false_eq_true] at c5
              refine W.skip ?_
              refine W.reg ?_
              refine Wx.rd (v := .int .i64 c) (rd_move rfl) rfl ?_
              refine Wx.rd (v := .int .i64 (c + 1)) (rd_add rfl rfl (in_i64 (by omega) (by omega))) rfl ?_
              refine Wx.rd (v := .int .i64 (c + 1)) (rd_assign rfl) rfl ?_
              refine Wx.nil ?_
              refine ⟨c + 1, (by show (openL L fs - (c + 1)).toNat < (openL L fs - c).toNat; omega), ?_, ?_, Out.look rfl Out.self⟩
              · exact ⟨hS, (by first | omega | assumption), (by first | omega | assumption), (by rw [← k2, show (openL L fs - c).toNat = (openL L fs - (c + 1)).toNat + 1 by omega, tripC, show openL L fs - (((openL L fs - (c + 1)).toNat : Nat) + 1 : Int) = c by omega, List.cons_append, List.find?_cons_of_neg (by simp [apartT, c5])])⟩
              · exact ⟨rfl, trivial⟩
          · -- no
            refine W.exit rfl ?_
            refine W.reg ?_
            refine Wx.rd (v := .int .i64 b) (rd_move rfl) rfl ?_
            refine Wx.rd (v := .int .i64 (b + 1)) (rd_add rfl rfl (in_i64 (by omega) (by omega))) rfl ?_
            refine Wx.rd (v := .int .i64 (b + 1)) (rd_assign rfl) rfl ?_
            refine Wx.nil ?_
            refine ⟨b + 1, (by show (openL L fs - (b + 1)).toNat < (openL L fs - b).toNat; omega), ?_, ?_, Out.look rfl (Out.hav rfl (Out.look rfl Out.self))⟩
            · exact ⟨hS, (by first | omega | assumption), (by first | omega | assumption), (by rw [← k2, show (openL L fs - c).toNat = 0 by omega, tripC, List.nil_append])⟩
            · exact ⟨rfl, trivial⟩
        · -- no
          refine W.exit rfl ?_
          refine W.reg ?_
          refine Wx.rd (v := .int .i64 (a + 1)) (rd_add rfl rfl (in_i64 (by omega) (by omega))) rfl ?_
          refine Wx.rd (v := .int .i64 (a + 1)) (rd_move rfl) rfl ?_
          refine Wx.nil ?_
          refine ⟨a + 1, (by show (openL L fs - (a + 1)).toNat < (openL L fs - a).toNat; omega), ?_, ?_, Out.look rfl (Out.hav rfl (Out.look rfl Out.self))⟩
          · exact ⟨hS, (by first | omega | assumption), (by first | omega | assumption), (by rw [← g2, show (openL L fs - b).toNat = 0 by omega, tripB, List.nil_append])⟩
          · exact ⟨rfl, trivial⟩
      · -- no
        refine W.exit rfl ?_
        refine W.seq ?_
        refine W.reg ?_
        refine Wx.rd (v := .int .i64 0) (rd_assign rfl) rfl ?_
        refine Wx.rd (v := .int .i64 0) (rd_assign rfl) rfl ?_
        refine Wx.rd (v := .int .i64 0) (rd_assign rfl) rfl ?_
        refine Wx.rd (v := .int .i64 14) (rd_assign rfl) rfl ?_
        refine Wx.nil ?_
        have hF : whyF L fs = none := by rw [hW, ← h2, show (openL L fs - a).toNat = 0 by omega]; rfl
        have hE : whyE L fs = 14 := by rw [whyE, if_neg (by omega), ← ho.1, ← ho.2.1, if_neg (by omega), ho.1, hF]; rfl
        have hl : whyT L fs = (0, 0, 0) := by rw [whyT, if_neg (by omega)]
        have e3_0 : ((whyT L fs).1) = (0 : Int) := by rw [hl]
        have e3_1 : ((whyT L fs).2.1) = (0 : Int) := by rw [hl]
        have e3_2 : ((whyT L fs).2.2) = (0 : Int) := by rw [hl]
        have e3_3 : (whyE L fs) = (14 : Int) := by exact hE
        exact W.ret ⟨.tuple #[.int .i64 0, .int .i64 0, .int .i64 0, .int .i64 14], ResIs.four, hS.bel, (by rw [e3_0, e3_1, e3_2, e3_3])⟩

theorem F26 {L : Int} {fv : Value} {fs : List (List Int)} {Fr_fv : List (Option Nat)} {a : Int} {b : Int} {c : Int} {w : World} (i_L : InK .i64 L) (h_fv : V (tSl (tSl (tI .i64))) fs fv Fr_fv w) (i_a : InK .i64 a) (i_b : InK .i64 b) (i_c : InK .i64 c) : Calls Try.prog 26 #[.agg #[.int .i64 L, fv], .int .i64 a, .int .i64 b, .int .i64 c] w (Ret w (fun r _ => r = .int .i64 (provesE L fs a b c))) := by
  have b_c := bd_i64 i_c
  have b_b := bd_i64 i_b
  have b_a := bd_i64 i_a
  have b_L := bd_i64 i_L
  have a_fv := h_fv.any
  have l_fv := h_fv.len63
  have hS := St.start0 w
  refine enterR Try.func26 rfl Try.ntmps26 Try.results26 rfl ?_
  refine W.seq ?_
  refine W.reg ?_
  refine Wx.box (cs := [.int .i64 L, fv]) hS rfl rfl rfl (fun g_1 w_2 hx_4 hb_3 hS => ?_)
  refine Wx.rd (v := .int .i64 0) (rd_assign rfl) rfl ?_
  refine Wx.nil ?_
  refine W.seq ?_
  refine W.reg ?_
  refine Wx.rd (v := .agg #[.int .i64 L, fv]) (rd_loadXs (ds := [.int .i64 L, fv]) hS 0 rfl rfl rfl rfl Try.isAgg24 Try.sizeOf24) rfl ?_
  refine Wx.callF (run_callF Try.call60 rfl) (F60 (in_i64 (by omega) (by omega)) (hS.arg a_fv) hS.fb_lt) rfl ?_
  rintro r_5 w_6 hx_7 ⟨v_8, rfl, hv_9⟩
  have ln_11 := hv_9.len63
  have hS := hS.ext hx_7
  have hS := hS.add hv_9
  refine Wx.rd (v := .tuple #[.agg #[.int .i64 (openL L fs), v_8], .int .i64 (checkE L fs)]) (rd_move rfl) rfl ?_
  refine Wx.rd (v := .agg #[.int .i64 (openL L fs), v_8]) (rd_extract rfl rfl) rfl ?_
  refine Wx.rd (v := .int .i64 (checkE L fs)) (rd_extract rfl rfl) rfl ?_
  refine Wx.alloc (cs := [.int .i64 0, (.slice none 0 0)]) hS Try.zeroValue85 rfl rfl (fun g_12 w_13 hx_15 hb_14 hS => ?_)
  refine Wx.storeX (cs' := [.int .i64 (openL L fs), v_8]) (ds := [.int .i64 (openL L fs), v_8]) hS 0 rfl rfl rfl rfl Try.sizeOf85 (Nat.le_of_ble_eq_true rfl) (one_cons rfl (one_cons (V.oneC (hS.v 1 rfl)) one_nil)) rfl (fun w_16 hz_17 hS => ?_)
  refine Wx.rd (v := .int .i64 (checkE L fs)) (rd_assign rfl) rfl ?_
  refine Wx.nil ?_
  refine W.seq ?_
  refine W.seq ?_
  refine W.reg ?_
  refine Wx.rd (v := .int .i64 (checkE L fs)) (rd_move rfl) rfl ?_
  refine Wx.rd (v := .bool (decide ((checkE L fs) ≠ 0))) (rd_neq rfl rfl) rfl ?_
  refine Wx.nil ?_
  refine W.condD rfl (fun c0 => ?_) (fun c0 => ?_)
  · -- yes
    refine W.seq ?_
    refine W.reg ?_
    refine Wx.rd (v := .int .i64 (checkE L fs)) (rd_move rfl) rfl ?_
    refine Wx.rd (v := .int .i64 (checkE L fs)) (rd_assign rfl) rfl ?_
    refine Wx.nil ?_
    have e0_0 : (provesE L fs a b c) = (checkE L fs : Int) := by rw [provesE, if_pos (by omega)]
    exact W.ret ⟨.int .i64 (checkE L fs), ResIs.one, hS.bel, (by rw [e0_0])⟩
  · -- no
    have hc : checkE L fs = 0 := by omega
    have ho := openL_ok hc
    have hss : ∀ f ∈ openS L fs, InK .u8 f := by rw [ho.2.1]; exact setsF_in fs
    have hmn : min (min a b) c = if (if b < a then b else a) < c then (if b < a then b else a) else c := by simp only [Int.min_def]; split <;> split <;> split <;> omega
    have hmx : max (max a b) c = if (if a < b then b else a) < c then c else (if a < b then b else a) := by simp only [Int.max_def]; split <;> split <;> split <;> omega
    refine W.skip ?_
    refine W.seq ?_
    refine W.seq ?_
    refine W.reg ?_
    refine Wx.rd (v := .int .i64 a) (rd_move rfl) rfl ?_
    refine Wx.rd (v := .int .i64 b) (rd_move rfl) rfl ?_
    refine Wx.rd (v := .int .i64 c) (rd_move rfl) rfl ?_
    refine Wx.rd (v := .int .i64 (min (min a b) c)) (rd_min3 rfl rfl rfl) rfl ?_
    refine Wx.rd (v := .bool (decide ((min (min a b) c) < 0))) (rd_lss rfl rfl) rfl ?_
    refine Wx.rd (v := .bool (decide ((min (min a b) c) < 0))) (rd_move rfl) rfl ?_
    refine Wx.cut (X := Unit) 8 [25, 26, 27, 28, 29, 30, 31, 32] (fun _ => [(32, .bool (decide ((min (min a b) c) < 0) || decide ((openL L fs) ≤ (max (max a b) c))))]) (fun _ w' => St w [] w' [.box g_12 85 [.int .i64 (openL L fs), v_8], Ob.v (tSl (tI .u8)) (openS L fs) v_8, .box g_1 24 [.int .i64 L, fv]]) ?_ ?_
    · rcases Bool.eq_false_or_eq_true (decide ((min (min a b) c) < 0)) with g_18 | g_18
      · -- True
        have gp_19 := of_decide_eq_true g_18
        refine Wx.gnoB rfl rfl (congrArg Value.bool g_18) rfl rfl ?_
        refine Wx.gnoB rfl rfl (congrArg Value.bool g_18) rfl rfl ?_
        refine Wx.gnoB rfl rfl (congrArg Value.bool g_18) rfl rfl ?_
        refine Wx.gnoB rfl rfl (congrArg Value.bool g_18) rfl rfl ?_
        refine Wx.gnoB rfl rfl (congrArg Value.bool g_18) rfl rfl ?_
        refine Wx.gnoB rfl rfl (congrArg Value.bool g_18) rfl rfl ?_
        refine Wx.gnoB rfl rfl (congrArg Value.bool g_18) rfl rfl ?_
        refine Wx.rd (v := .bool true) (rd_pickT (congrArg Value.bool g_18) rfl) rfl ?_
        refine Wx.nil ⟨(), hS, ⟨?_, trivial⟩, Out.look rfl Out.refl⟩
        show Value.bool true = Value.bool (decide ((min (min a b) c) < 0) || decide ((openL L fs) ≤ (max (max a b) c)))
        rw [g_18]; rfl
      · -- False
        have gp_20 := of_decide_eq_false g_18
        refine Wx.gyes rfl rfl (congrArg Value.bool g_18) ?_
        refine Wx.rd (v := .int .i64 a) (rd_move rfl) rfl ?_
        refine Wx.gyes rfl rfl (congrArg Value.bool g_18) ?_
        refine Wx.rd (v := .int .i64 b) (rd_move rfl) rfl ?_
        refine Wx.gyes rfl rfl (congrArg Value.bool g_18) ?_
        refine Wx.rd (v := .int .i64 c) (rd_move rfl) rfl ?_
        refine Wx.gyes rfl rfl (congrArg Value.bool g_18) ?_
        refine Wx.rd (v := .int .i64 (max (max a b) c)) (rd_max3 rfl rfl rfl) rfl ?_
        refine Wx.gyes rfl rfl (congrArg Value.bool g_18) ?_
        refine Wx.rd (v := .pointer (some ⟨g_12, 0, none⟩)) (rd_fieldAddr rfl foFh_85_0) rfl ?_
        refine Wx.gyes rfl rfl (congrArg Value.bool g_18) ?_
        refine Wx.rd (v := .int .i64 (openL L fs)) (rd_loadX hS 0 rfl rfl rfl Try.isAgg3) rfl ?_
        refine Wx.gyes rfl rfl (congrArg Value.bool g_18) ?_
        refine Wx.rd (v := .bool (decide ((openL L fs) ≤ (max (max a b) c)))) (rd_geq rfl rfl) rfl ?_
        refine Wx.rd (v := .bool (decide ((openL L fs) ≤ (max (max a b) c)))) (rd_pickF (congrArg Value.bool g_18) rfl) rfl ?_
        refine Wx.nil ⟨(), hS, ⟨?_, trivial⟩, Out.look rfl Out.refl⟩
        show Value.bool (decide ((openL L fs) ≤ (max (max a b) c))) = Value.bool (decide ((min (min a b) c) < 0) || decide ((openL L fs) ≤ (max (max a b) c)))
        rw [g_18]; rfl
    rintro ⟨⟩ u_22 w_21 hS
    refine Wx.nil ?_
    refine W.cond rfl (fun c1 => ?_) (fun c1 => ?_)
    · -- yes
      try simp only [Bool.and_eq_true, Bool.or_eq_true, Bool.not_eq_true', Bool.and_eq_false_iff, Bool.or_eq_false_iff, Bool.not_eq_false', decide_eq_true_eq, decide_eq_false_iff_not, not_or, Bool.false_eq_true, Bool.true_eq_false, false_or, or_false, not_false_eq_true] at c1
      refine W.seq ?_
      refine W.reg ?_
      refine Wx.rd (v := .int .i64 2) (rd_assign rfl) rfl ?_
      refine Wx.nil ?_
      have e1_0 : (provesE L fs a b c) = (2 : Int) := by rw [provesE, if_neg (by omega), ← ho.1, if_pos c1]
      exact W.ret ⟨.int .i64 2, ResIs.one, hS.bel, (by rw [e1_0])⟩
    · -- no
      try simp only [Bool.and_eq_true, Bool.or_eq_true, Bool.not_eq_true', Bool.and_eq_false_iff, Bool.or_eq_false_iff, Bool.not_eq_false', decide_eq_true_eq, decide_eq_false_iff_not, not_or, Bool.false_eq_true, Bool.true_eq_false, false_or, or_false, not_false_eq_true] at c1
      have hab : 0 ≤ a ∧ 0 ≤ b ∧ 0 ≤ c := by rw [hmn] at c1; split at c1 <;> split at c1 <;> omega
      refine W.skip ?_
      refine W.seq ?_
      refine W.block ?_
      refine W.seq ?_
      refine W.reg ?_
      refine Wx.rd (v := .int .i64 a) (rd_move rfl) rfl ?_
      refine Wx.rd (v := .int .i64 b) (rd_move rfl) rfl ?_
      refine Wx.rd (v := .bool (decide (a = b))) (rd_eql rfl rfl) rfl ?_
      refine Wx.rd (v := .bool (decide (a = b))) (rd_move rfl) rfl ?_
      refine Wx.cut (X := Unit) 4 [38, 39, 40, 41] (fun _ => [(41, .bool (decide (a = b) || decide (b = c)))]) (fun _ w' => St w [] w' [.box g_12 85 [.int .i64 (openL L fs), v_8], Ob.v (tSl (tI .u8)) (openS L fs) v_8, .box g_1 24 [.int .i64 L, fv]]) ?_ ?_
      · rcases Bool.eq_false_or_eq_true (decide (a = b)) with g_23 | g_23
        · -- True
          have gp_24 := of_decide_eq_true g_23
          refine Wx.gnoB rfl rfl (congrArg Value.bool g_23) rfl rfl ?_
          refine Wx.gnoB rfl rfl (congrArg Value.bool g_23) rfl rfl ?_
          refine Wx.gnoB rfl rfl (congrArg Value.bool g_23) rfl rfl ?_
          refine Wx.rd (v := .bool true) (rd_pickT (congrArg Value.bool g_23) rfl) rfl ?_
          refine Wx.nil ⟨(), hS, ⟨?_, trivial⟩, Out.look rfl Out.refl⟩
          show Value.bool true = Value.bool (decide (a = b) || decide (b = c))
          rw [g_23]; rfl
        · -- False
          have gp_25 := of_decide_eq_false g_23
          refine Wx.gyes rfl rfl (congrArg Value.bool g_23) ?_
          refine Wx.rd (v := .int .i64 b) (rd_move rfl) rfl ?_
          refine Wx.gyes rfl rfl (congrArg Value.bool g_23) ?_
          refine Wx.rd (v := .int .i64 c) (rd_move rfl) rfl ?_
          refine Wx.gyes rfl rfl (congrArg Value.bool g_23) ?_
          refine Wx.rd (v := .bool (decide (b = c))) (rd_eql rfl rfl) rfl ?_
          refine Wx.rd (v := .bool (decide (b = c))) (rd_pickF (congrArg Value.bool g_23) rfl) rfl ?_
          refine Wx.nil ⟨(), hS, ⟨?_, trivial⟩, Out.look rfl Out.refl⟩
          show Value.bool (decide (b = c)) = Value.bool (decide (a = b) || decide (b = c))
          rw [g_23]; rfl
      rintro ⟨⟩ u_27 w_26 hS
      refine Wx.rd (v := .bool (decide (a = b) || decide (b = c))) (rd_move rfl) rfl ?_
      refine Wx.cut (X := Unit) 4 [43, 44, 45, 46] (fun _ => [(46, .bool ((decide (a = b) || decide (b = c)) || decide (a = c)))]) (fun _ w' => St w [] w' [.box g_12 85 [.int .i64 (openL L fs), v_8], Ob.v (tSl (tI .u8)) (openS L fs) v_8, .box g_1 24 [.int .i64 L, fv]]) ?_ ?_
      · rcases Bool.eq_false_or_eq_true (decide (a = b) || decide (b = c)) with g_28 | g_28
        · -- True
          have gp_29 := g_28
          try simp only [Bool.and_eq_true, Bool.or_eq_true, Bool.not_eq_true', Bool.and_eq_false_iff, Bool.or_eq_false_iff, Bool.not_eq_false', decide_eq_true_eq, decide_eq_false_iff_not, not_or, Bool.false_eq_true, Bool.true_eq_false, false_or, or_false, not_false_eq_true] at gp_29
          refine Wx.gnoB rfl rfl (congrArg Value.bool g_28) rfl rfl ?_
          refine Wx.gnoB rfl rfl (congrArg Value.bool g_28) rfl rfl ?_
          refine Wx.gnoB rfl rfl (congrArg Value.bool g_28) rfl rfl ?_
          refine Wx.rd (v := .bool true) (rd_pickT (congrArg Value.bool g_28) rfl) rfl ?_
          refine Wx.nil ⟨(), hS, ⟨?_, trivial⟩, Out.look rfl Out.refl⟩
          show Value.bool true = Value.bool ((decide (a = b) || decide (b = c)) || decide (a = c))
          rw [g_28]; rfl
        · -- False
          have gp_30 := g_28
          try simp only [Bool.and_eq_true, Bool.or_eq_true, Bool.not_eq_true', Bool.and_eq_false_iff, Bool.or_eq_false_iff, Bool.not_eq_false', decide_eq_true_eq, decide_eq_false_iff_not, not_or, Bool.false_eq_true, Bool.true_eq_false, false_or, or_false, not_false_eq_true] at gp_30
          refine Wx.gyes rfl rfl (congrArg Value.bool g_28) ?_
          refine Wx.rd (v := .int .i64 a) (rd_move rfl) rfl ?_
          refine Wx.gyes rfl rfl (congrArg Value.bool g_28) ?_
          refine Wx.rd (v := .int .i64 c) (rd_move rfl) rfl ?_
          refine Wx.gyes rfl rfl (congrArg Value.bool g_28) ?_
          refine Wx.rd (v := .bool (decide (a = c))) (rd_eql rfl rfl) rfl ?_
          refine Wx.rd (v := .bool (decide (a = c))) (rd_pickF (congrArg Value.bool g_28) rfl) rfl ?_
          refine Wx.nil ⟨(), hS, ⟨?_, trivial⟩, Out.look rfl Out.refl⟩
          show Value.bool (decide (a = c)) = Value.bool ((decide (a = b) || decide (b = c)) || decide (a = c))
          rw [g_28]; rfl
      rintro ⟨⟩ u_32 w_31 hS
      refine Wx.rd (v := .bool ((decide (a = b) || decide (b = c)) || decide (a = c))) (rd_assign rfl) rfl ?_
      refine Wx.nil ?_
      refine W.cond rfl (fun c2 => ?_) (fun c2 => ?_)
      · -- yes
        try simp only [Bool.and_eq_true, Bool.or_eq_true, Bool.not_eq_true', Bool.and_eq_false_iff, Bool.or_eq_false_iff, Bool.not_eq_false', decide_eq_true_eq, decide_eq_false_iff_not, not_or, Bool.false_eq_true, Bool.true_eq_false, false_or, or_false, not_false_eq_true] at c2
        refine W.seq ?_
        refine W.reg ?_
        refine Wx.rd (v := .int .i64 6) (rd_assign rfl) rfl ?_
        refine Wx.nil ?_
        have e2_0 : (provesE L fs a b c) = (6 : Int) := by rw [provesE, if_neg (by omega), ← ho.1, if_neg (by omega), if_pos (by omega)]
        exact W.ret ⟨.int .i64 6, ResIs.one, hS.bel, (by rw [e2_0])⟩
      · -- no
        try simp only [Bool.and_eq_true, Bool.or_eq_true, Bool.not_eq_true', Bool.and_eq_false_iff, Bool.or_eq_false_iff, Bool.not_eq_false', decide_eq_true_eq, decide_eq_false_iff_not, not_or, Bool.false_eq_true, Bool.true_eq_false, false_or, or_false, not_false_eq_true] at c2
        refine W.seq ?_
        refine W.reg ?_
        refine Wx.rd (v := .agg #[.int .i64 (openL L fs), v_8]) (rd_loadXs (ds := [.int .i64 (openL L fs), v_8]) hS 0 rfl rfl rfl rfl Try.isAgg85 Try.sizeOf85) rfl ?_
        refine Wx.rd (v := .int .i64 a) (rd_move rfl) rfl ?_
        refine Wx.rd (v := .int .i64 b) (rd_move rfl) rfl ?_
        refine Wx.rd (v := .int .i64 c) (rd_move rfl) rfl ?_
        refine Wx.callF (run_callF Try.call69 rfl) (F69 (in_i64 (by omega) (by omega)) (hS.v 1 rfl) (in_i64 (by omega) (by omega)) (in_i64 (by omega) (by omega)) (in_i64 (by omega) (by omega)) (by omega) (by omega) (by omega)) rfl ?_
        rintro r_33 w_34 hx_35 rfl
        have hS := hS.ext hx_35
        refine Wx.rd (v := .bool (!(apartB (openS L fs) a b c))) (rd_not rfl) rfl ?_
        refine Wx.rd (v := .bool (!(apartB (openS L fs) a b c))) (rd_assign rfl) rfl ?_
        refine Wx.nil ?_
        refine W.cond rfl (fun c3 => ?_) (fun c3 => ?_)
        · -- yes
          try simp only [Bool.and_eq_true, Bool.or_eq_true, Bool.not_eq_true', Bool.and_eq_false_iff, Bool.or_eq_false_iff, Bool.not_eq_false', decide_eq_true_eq, decide_eq_false_iff_not, not_or, Bool.false_eq_true, Bool.true_eq_false, false_or, or_false, not_false_eq_true] at c3
          refine W.seq ?_
          refine W.reg ?_
          refine Wx.rd (v := .int .i64 14) (rd_assign rfl) rfl ?_
          refine Wx.nil ?_
          have e3_0 : (provesE L fs a b c) = (14 : Int) := by rw [provesE, if_neg (by omega), ← ho.1, if_neg (by omega), if_neg (by omega), ← ho.2.1, if_neg (by simp [c3])]
          exact W.ret ⟨.int .i64 14, ResIs.one, hS.bel, (by rw [e3_0])⟩
        · -- no
          try simp only [Bool.and_eq_true, Bool.or_eq_true, Bool.not_eq_true', Bool.and_eq_false_iff, Bool.or_eq_false_iff, Bool.not_eq_false', decide_eq_true_eq, decide_eq_false_iff_not, not_or, Bool.false_eq_true, Bool.true_eq_false, false_or, or_false, not_false_eq_true] at c3
          refine W.skip ?_
          refine W.seq ?_
          refine W.reg ?_
          refine Wx.rd (v := .int .i64 0) (rd_assign rfl) rfl ?_
          refine Wx.nil ?_
          have e4_0 : (provesE L fs a b c) = (0 : Int) := by rw [provesE, if_neg (by omega), ← ho.1, if_neg (by omega), if_neg (by omega), ← ho.2.1, if_pos (by simpa using c3)]
          exact W.ret ⟨.int .i64 0, ResIs.one, hS.bel, (by rw [e4_0])⟩
end Go.Proofs.Ytjmpojoimcljoaa
