/-
  WHAT IS PROVED HERE: what functions of layer 3 hand back, each out of its own code; the conditions stand in each statement.
-/
import Derived.Test.YtjmpojoimcljoaaProg
import Derived.Test.YtjmpojoimcljoaaWk5
import Derived.Test.YtjmpojoimcljoaaSpec4
import Derived.Test.YtjmpojoimcljoaaFa
import Derived.Test.YtjmpojoimcljoaaRa
import Derived.Test.YtjmpojoimcljoaaRc
namespace Go.Proofs.Ytjmpojoimcljoaa
open Go.Wk Go.RowKit
set_option linter.unusedVariables false
set_option linter.unusedSimpArgs false
theorem elRe_22 : ElemI Try.prog 22 28 ((.slice none 0 0)) 1 24 := ElemI.of Try.underlying22 (by kernel_rfl) (by first | rfl | kernel_rfl) (by decide)
theorem foRe_27_0 : fldOff Try.prog 27 0 = some 0 := by kernel_rfl

theorem F97 {fv : Value} {fs : List (List Int)} {ov : Value} {out : List Int} {O : List (Option Nat)} {w : World} (h_fv : V (tSl (tSl (tI .i64))) fs fv O w) (h_ov : V (tSl (tI .i64)) out ov O w) (p_10 : (fs.length : Int) ≤ 10) (hO : ∀ b, some b ∈ O → b < w.heap.size) : Calls Try.prog 97 #[fv, ov] w (Ret w (fun r w' => ∃ rv, r = rv ∧ V (tSl (tSl (tI .i64))) (withoutG out 0 fs) rv O w')) := by
  have a_fv := h_fv
  have l_fv := h_fv.len63
  have a_ov := h_ov
  have l_ov := h_ov.len63
  have hS := St.start w O hO
  refine enterR Try.func97 rfl Try.ntmps97 Try.results97 rfl ?_
  refine W.seq ?_
  refine W.reg ?_
  refine Wx.rd (v := (.slice none 0 0)) (rd_assign rfl) rfl ?_
  refine Wx.nil ?_
  refine W.seq ?_
  refine W.reg ?_
  refine Wx.rd (v := (.slice none 0 0)) (rd_assign rfl) rfl ?_
  refine Wx.nil ?_
  refine W.seq ?_
  refine W.seq ?_
  refine W.reg ?_
  refine Wx.rd (v := .int .i64 0) (rd_assign rfl) rfl ?_
  refine Wx.nil ?_
  refine W.block ?_
  have hS := hS.addNil (tSl (tI .i64)) 28
  refine W.loop [5, 6, 7, 8, 9, 10, 11, 12, 13, 14, 15, 16, 17, 18, 19, 20, 21, 22, 23] (fun x : Int × Value × (List (List Int)) => match x with | (k, xv, acc) => [(6, .int .i64 k), (5, xv)]) (fun (x : Int × Value × (List (List Int))) w' => match x with | (k, xv, acc) => St w O w' [.row (tSl (tI .i64)) 28 xv acc] ∧ 0 ≤ k ∧ k ≤ fs.length ∧ acc ++ withoutG out k (fs.drop k.toNat) = withoutG out 0 fs ∧ (acc.length : Int) ≤ k) (fun x : Int × Value × (List (List Int)) => match x with | (k, xv, acc) => (fs.length - k).toNat) (0, (.slice none 0 0), []) ⟨rfl, rfl, trivial⟩ ⟨hS, (by first | omega | simp), (by first | omega | simp), (by simp), (by simp)⟩ ?_
  rintro ⟨k, xv, acc⟩ u_2 w_1 ⟨hS, h0, h1, h2, h3⟩
  refine W.seq ?_
  refine W.seq ?_
  refine W.reg ?_
  refine Wx.rd (v := .int .i64 k) (rd_move rfl) rfl ?_
  refine Wx.rd (v := fv) (rd_move rfl) rfl ?_
  refine Wx.rd (v := .int .i64 (fs.length : Int)) (rd_lenV rfl (hS.arg a_fv) Try.underlying22) rfl ?_
  refine Wx.rd (v := .bool (decide (k < (fs.length : Int)))) (rd_lss rfl rfl) rfl ?_
  refine Wx.nil ?_
  refine W.condD rfl (fun c0 => ?_) (fun c0 => ?_)
  · -- yes
    refine W.skip ?_
    refine W.seq ?_
    refine W.block ?_
    refine W.seq ?_
    refine W.reg ?_
    refine Wx.rd (v := ov) (rd_move rfl) rfl ?_
    refine Wx.rd (v := .int .i64 k) (rd_move rfl) rfl ?_
    refine Wx.callF (run_callF Try.call81 rfl) (F81 (hS.arg a_ov) (in_i64 (by omega) (by omega))) rfl ?_
    rintro r_3 w_4 hx_5 rfl
    have hS := hS.ext hx_5
    refine Wx.rd (v := .bool (!(hasL out k))) (rd_not rfl) rfl ?_
    refine Wx.nil ?_
    refine W.cond rfl (fun c1 => ?_) (fun c1 => ?_)
    · -- yes
      try simp only [Bool.and_eq_true, Bool.or_eq_true, Bool.not_eq_true', Bool.and_eq_false_iff, Bool.or_eq_false_iff, Bool.not_eq_false', decide_eq_true_eq, decide_eq_false_iff_not, not_or, Bool.false_eq_true, Bool.true_eq_false, false_or, or_false, not_false_eq_true] at c1
      refine W.reg ?_
      refine Wx.rd (v := xv) (rd_move rfl) rfl ?_
      refine Wx.rd (v := fv) (rd_move rfl) rfl ?_
      refine Wx.rd (v := .int .i64 k) (rd_move rfl) rfl ?_
      refine Wx.ex (rd_index [] (hS.arg a_fv) rfl rfl Try.underlying22 Try.sizeOf28 (by first | omega | (simp only [List.length_set, List.length_append, List.length_cons, List.length_nil, List.length_replicate]; omega)) (by first | omega | (simp only [List.length_set, List.length_append, List.length_cons, List.length_nil, List.length_replicate]; omega))) rfl (fun p_6 hp_7 => ?_)
      refine Wx.ex (rd_load hp_7 rfl Try.isAgg28 Try.sizeOf28) rfl (fun v_8 hv_9 => ?_)
      have ln_10 := hv_9.len63
      have hS := hS.add hv_9
      refine Wx.lit (t := (tSl (tI .i64))) (ys := [ix [] fs k]) (vs := [v_8]) elRe_22 hS rfl rfl ⟨(hS.v 0 rfl), trivial⟩ (by decide) rfl (fun v_12 w_13 hx_14 hS => ?_)
      refine Wx.append elRe_22 hS 2 rfl rfl rfl (Src.ofR hS 0 rfl) (by simp only [maxLen]; simp; omega) (by simp; omega) rfl (fun v_15 w_16 hz_17 hS => ?_)
      refine Wx.rd (v := v_15) (rd_assign rfl) rfl ?_
      refine Wx.nil ?_
      refine W.reg ?_
      refine Wx.rd (v := .int .i64 k) (rd_move rfl) rfl ?_
      refine Wx.rd (v := .int .i64 (k + 1)) (rd_add rfl rfl (in_i64 (by omega) (by omega))) rfl ?_
      refine Wx.rd (v := .int .i64 (k + 1)) (rd_assign rfl) rfl ?_
      refine Wx.nil ?_
      refine ⟨(k + 1, v_15, acc ++ [ix [] fs k]), (by show (fs.length - (k + 1)).toNat < (fs.length - k).toNat; omega), ?_, ?_, Out.look rfl Out.self⟩
      · exact ⟨St.tl (hS.tl), (by first | omega | assumption), (by first | omega | assumption), (by rw [← h2, drop_ix (d := []) h0 c0, withoutG, if_neg (by rw [c1]; decide)]; simp), (by simp; omega)⟩
      · exact ⟨rfl, rfl, trivial⟩
    · -- no
      try simp only [Bool.and_eq_true, Bool.or_eq_true, Bool.not_eq_true', Bool.and_eq_false_iff, Bool.or_eq_false_iff, Bool.not_eq_false', decide_eq_true_eq, decide_eq_false_iff_not, not_or, Bool.false_eq_true, Bool.true_eq_false, false_or, or_false, not_false_eq_true] at c1
      refine W.skip ?_
      refine W.reg ?_
      refine Wx.rd (v := .int .i64 k) (rd_move rfl) rfl ?_
      refine Wx.rd (v := .int .i64 (k + 1)) (rd_add rfl rfl (in_i64 (by omega) (by omega))) rfl ?_
      refine Wx.rd (v := .int .i64 (k + 1)) (rd_assign rfl) rfl ?_
      refine Wx.nil ?_
      refine ⟨(k + 1, xv, acc), (by show (fs.length - (k + 1)).toNat < (fs.length - k).toNat; omega), ?_, ?_, Out.look rfl Out.self⟩
      · exact ⟨hS, (by first | omega | assumption), (by first | omega | assumption), (by rw [← h2, drop_ix (d := []) h0 c0, withoutG, if_pos c1]), (by omega)⟩
      · exact ⟨rfl, rfl, trivial⟩
  · -- no
    refine W.exit rfl ?_
    refine W.seq ?_
    refine W.reg ?_
    refine Wx.rd (v := xv) (rd_move rfl) rfl ?_
    refine Wx.rd (v := xv) (rd_assign rfl) rfl ?_
    refine Wx.nil ?_
    have e0_0 : withoutG out 0 fs = acc := by rw [← h2, drop_end (by omega)]; simp [withoutG]
    exact W.ret ⟨xv, ResIs.one, hS.bel, ⟨xv, rfl, (by rw [e0_0]; exact ((hS.lend 0 rfl).mv (.less (fun _ h => List.mem_append.2 (.inr h)))))⟩⟩

theorem F96 {L : Int} {fv : Value} {fs : List (List Int)} {Fr_fv : List (Option Nat)} {w : World} (i_L : InK .i64 L) (h_fv : V (tSl (tSl (tI .i64))) fs fv Fr_fv w) (p_f : okF L fs) (p_7 : L ≤ 7) (p_1 : 1 ≤ L) : Calls Try.prog 96 #[.agg #[.int .i64 L, fv]] w (Ret w (fun r _ => r = .bool (freeR L fs))) := by
  have b_L := bd_i64 i_L
  have a_fv := h_fv.any
  have l_fv := h_fv.len63
  have hS := St.start0 w
  refine enterR Try.func96 rfl Try.ntmps96 Try.results96 rfl ?_
  refine W.seq ?_
  refine W.reg ?_
  refine Wx.box (cs := [.int .i64 L, fv]) hS rfl rfl rfl (fun g_1 w_2 hx_4 hb_3 hS => ?_)
  refine Wx.rd (v := .bool false) (rd_assign rfl) rfl ?_
  refine Wx.nil ?_
  refine W.seq ?_
  refine W.seq ?_
  refine W.reg ?_
  refine Wx.rd (v := .int .i64 0) (rd_assign rfl) rfl ?_
  refine Wx.nil ?_
  refine W.block ?_
  refine W.loop [2, 3, 4, 5, 6, 7, 8, 9, 10, 11, 12, 13, 14, 15, 16, 17, 18, 19, 20, 21, 22, 23, 24, 25, 26, 27, 28, 29, 30, 31, 32] (fun (a : Int) => [(3, .int .i64 a)]) (fun (a : Int) w' => St w [] w' [.box g_1 27 [.int .i64 L, fv]] ∧ 0 ≤ a ∧ a ≤ L ∧ (tripA L (L - a).toNat).any (apartRT fs) = (tripA L L.toNat).any (apartRT fs)) (fun (a : Int) => (L - a).toNat) 0 ⟨rfl, trivial⟩ ⟨hS, (by first | omega | simp), (by first | omega | simp), (by simp)⟩ ?_
  rintro a u_6 w_5 ⟨hS, h0, h1, h2⟩
  refine W.seq ?_
  refine W.seq ?_
  refine W.reg ?_
  refine Wx.rd (v := .int .i64 a) (rd_move rfl) rfl ?_
  refine Wx.rd (v := .pointer (some ⟨g_1, 0, none⟩)) (rd_fieldAddr rfl foRe_27_0) rfl ?_
  refine Wx.rd (v := .int .i64 L) (rd_loadX hS 0 rfl rfl rfl Try.isAgg3) rfl ?_
  refine Wx.rd (v := .bool (decide (a < L))) (rd_lss rfl rfl) rfl ?_
  refine Wx.nil ?_
  refine W.condD rfl (fun c0 => ?_) (fun c0 => ?_)
  · -- yes
    refine W.skip ?_
    refine W.seq ?_
    refine W.block ?_
    refine W.seq ?_
    refine W.reg ?_
    refine Wx.rd (v := .int .i64 a) (rd_move rfl) rfl ?_
    refine Wx.rd (v := .int .i64 (a + 1)) (rd_add rfl rfl (in_i64 (by omega) (by omega))) rfl ?_
    refine Wx.rd (v := .int .i64 (a + 1)) (rd_assign rfl) rfl ?_
    refine Wx.nil ?_
    refine W.block ?_
    refine W.loop [2, 4, 5, 14, 15, 16, 17, 18, 19, 20, 21, 22, 23, 24, 25, 26, 27, 28, 29, 30, 31, 32] (fun (b : Int) => [(4, .int .i64 b)]) (fun (b : Int) w' => St w [] w' [.box g_1 27 [.int .i64 L, fv]] ∧ a + 1 ≤ b ∧ b ≤ L ∧ (tripB L a (L - b).toNat ++ tripA L (L - (a + 1)).toNat).any (apartRT fs) = (tripA L L.toNat).any (apartRT fs)) (fun (b : Int) => (L - b).toNat) (a + 1) ⟨rfl, trivial⟩ ⟨hS, (by first | omega | simp), (by first | omega | simp), (by rw [← h2, show (L - a).toNat = (L - (a + 1)).toNat + 1 by omega, tripA, show L - (((L - (a + 1)).toNat : Nat) + 1 : Int) = a by omega])⟩ ?_
    rintro b u_8 w_7 ⟨hS, g0, g1, g2⟩
    refine W.seq ?_
    refine W.seq ?_
    refine W.reg ?_
    refine Wx.rd (v := .int .i64 b) (rd_move rfl) rfl ?_
    refine Wx.rd (v := .pointer (some ⟨g_1, 0, none⟩)) (rd_fieldAddr rfl foRe_27_0) rfl ?_
    refine Wx.rd (v := .int .i64 L) (rd_loadX hS 0 rfl rfl rfl Try.isAgg3) rfl ?_
    refine Wx.rd (v := .bool (decide (b < L))) (rd_lss rfl rfl) rfl ?_
    refine Wx.nil ?_
    refine W.condD rfl (fun c1 => ?_) (fun c1 => ?_)
    · -- yes
      refine W.skip ?_
      refine W.seq ?_
      refine W.block ?_
      refine W.seq ?_
      refine W.reg ?_
      refine Wx.rd (v := .int .i64 b) (rd_move rfl) rfl ?_
      refine Wx.rd (v := .int .i64 (b + 1)) (rd_add rfl rfl (in_i64 (by omega) (by omega))) rfl ?_
      refine Wx.rd (v := .int .i64 (b + 1)) (rd_assign rfl) rfl ?_
      refine Wx.nil ?_
      refine W.block ?_
      refine W.loop [2, 5, 22, 23, 24, 25, 26, 27, 28, 29, 30, 31, 32] (fun (c : Int) => [(5, .int .i64 c)]) (fun (c : Int) w' => St w [] w' [.box g_1 27 [.int .i64 L, fv]] ∧ b + 1 ≤ c ∧ c ≤ L ∧ (tripC L a b (L - c).toNat ++ (tripB L a (L - (b + 1)).toNat ++ tripA L (L - (a + 1)).toNat)).any (apartRT fs) = (tripA L L.toNat).any (apartRT fs)) (fun (c : Int) => (L - c).toNat) (b + 1) ⟨rfl, trivial⟩ ⟨hS, (by first | omega | simp), (by first | omega | simp), (by rw [← g2, show (L - b).toNat = (L - (b + 1)).toNat + 1 by omega, tripB, show L - (((L - (b + 1)).toNat : Nat) + 1 : Int) = b by omega, List.append_assoc])⟩ ?_
      rintro c u_10 w_9 ⟨hS, k0, k1, k2⟩
      refine W.seq ?_
      refine W.seq ?_
      refine W.reg ?_
      refine Wx.rd (v := .int .i64 c) (rd_move rfl) rfl ?_
      refine Wx.rd (v := .pointer (some ⟨g_1, 0, none⟩)) (rd_fieldAddr rfl foRe_27_0) rfl ?_
      refine Wx.rd (v := .int .i64 L) (rd_loadX hS 0 rfl rfl rfl Try.isAgg3) rfl ?_
      refine Wx.rd (v := .bool (decide (c < L))) (rd_lss rfl rfl) rfl ?_
      refine Wx.nil ?_
      refine W.condD rfl (fun c2 => ?_) (fun c2 => ?_)
      · -- yes
        refine W.skip ?_
        refine W.seq ?_
        refine W.block ?_
        refine W.seq ?_
        refine W.reg ?_
        refine Wx.rd (v := .agg #[.int .i64 L, fv]) (rd_loadXs (ds := [.int .i64 L, fv]) hS 0 rfl rfl rfl rfl Try.isAgg27 Try.sizeOf27) rfl ?_
        refine Wx.rd (v := .int .i64 a) (rd_move rfl) rfl ?_
        refine Wx.rd (v := .int .i64 b) (rd_move rfl) rfl ?_
        refine Wx.rd (v := .int .i64 c) (rd_move rfl) rfl ?_
        refine Wx.callF (run_callF Try.call70 rfl) (F70 (in_i64 (by omega) (by omega)) (hS.arg a_fv) (in_i64 (by omega) (by omega)) (in_i64 (by omega) (by omega)) (in_i64 (by omega) (by omega)) p_f (by omega) (by omega) (by omega) (by omega) (by omega) (by omega) (by omega)) rfl ?_
        rintro r_11 w_12 hx_13 rfl
        have hS := hS.ext hx_13
        refine Wx.nil ?_
        refine W.cond rfl (fun c3 => ?_) (fun c3 => ?_)
        · -- yes
          try simp only [Bool.and_eq_true, Bool.or_eq_true, Bool.not_eq_true', Bool.and_eq_false_iff, Bool.or_eq_false_iff, Bool.not_eq_false', decide_eq_true_eq, decide_eq_false_iff_not, not_or, Bool.false_eq_true, Bool.true_eq_false, false_or, or_false, not_false_eq_true] at c3
          refine W.seq ?_
          refine W.reg ?_
          refine Wx.rd (v := .bool false) (rd_assign rfl) rfl ?_
          refine Wx.nil ?_
          have e0_0 : (freeR L fs) = false := by rw [freeR, ← k2, show (L - c).toNat = (L - (c + 1)).toNat + 1 by omega, tripC, show L - (((L - (c + 1)).toNat : Nat) + 1 : Int) = c by omega, List.cons_append, List.any_cons, show apartRT fs (a, b, c) = true by simp [apartRT, c3]]; rfl
          exact W.ret ⟨.bool false, ResIs.one, hS.bel, (by rw [e0_0])⟩
        · -- no
          try simp only [Bool.and_eq_true, Bool.or_eq_true, Bool.not_eq_true', Bool.and_eq_false_iff, Bool.or_eq_false_iff, Bool.not_eq_false', decide_eq_true_eq, decide_eq_false_iff_not, not_or, Bool.false_eq_true, Bool.true_eq_false, false_or, or_false, not_false_eq_true] at c3
          refine W.skip ?_
          refine W.reg ?_
          refine Wx.rd (v := .int .i64 c) (rd_move rfl) rfl ?_
          refine Wx.rd (v := .int .i64 (c + 1)) (rd_add rfl rfl (in_i64 (by omega) (by omega))) rfl ?_
          refine Wx.rd (v := .int .i64 (c + 1)) (rd_assign rfl) rfl ?_
          refine Wx.nil ?_
          refine ⟨c + 1, (by show (L - (c + 1)).toNat < (L - c).toNat; omega), ?_, ?_, Out.look rfl Out.self⟩
          · exact ⟨hS, (by first | omega | assumption), (by first | omega | assumption), (by rw [← k2, show (L - c).toNat = (L - (c + 1)).toNat + 1 by omega, tripC, show L - (((L - (c + 1)).toNat : Nat) + 1 : Int) = c by omega, List.cons_append, List.any_cons, show apartRT fs (a, b, c) = false by simp [apartRT, c3], Bool.false_or])⟩
          · exact ⟨rfl, trivial⟩
      · -- no
        refine W.exit rfl ?_
        refine W.reg ?_
        refine Wx.rd (v := .int .i64 b) (rd_move rfl) rfl ?_
        refine Wx.rd (v := .int .i64 (b + 1)) (rd_add rfl rfl (in_i64 (by omega) (by omega))) rfl ?_
        refine Wx.rd (v := .int .i64 (b + 1)) (rd_assign rfl) rfl ?_
        refine Wx.nil ?_
        refine ⟨b + 1, (by show (L - (b + 1)).toNat < (L - b).toNat; omega), ?_, ?_, Out.look rfl (Out.hav rfl (Out.look rfl Out.self))⟩
        · exact ⟨hS, (by first | omega | assumption), (by first | omega | assumption), (by rw [← k2, show (L - c).toNat = 0 by omega, tripC, List.nil_append])⟩
        · exact ⟨rfl, trivial⟩
    · -- no
      refine W.exit rfl ?_
      refine W.reg ?_
      refine Wx.rd (v := .int .i64 a) (rd_move rfl) rfl ?_
      refine Wx.rd (v := .int .i64 (a + 1)) (rd_add rfl rfl (in_i64 (by omega) (by omega))) rfl ?_
      refine Wx.rd (v := .int .i64 (a + 1)) (rd_assign rfl) rfl ?_
      refine Wx.nil ?_
      refine ⟨a + 1, (by show (L - (a + 1)).toNat < (L - a).toNat; omega), ?_, ?_, Out.look rfl (Out.hav rfl (Out.look rfl Out.self))⟩
      · exact ⟨hS, (by first | omega | assumption), (by first | omega | assumption), (by rw [← g2, show (L - b).toNat = 0 by omega, tripB, List.nil_append])⟩
      · exact ⟨rfl, trivial⟩
  · -- no
    refine W.exit rfl ?_
    refine W.seq ?_
    refine W.reg ?_
    refine Wx.rd (v := .bool true) (rd_assign rfl) rfl ?_
    refine Wx.nil ?_
    have e1_0 : (freeR L fs) = true := by rw [freeR, ← h2, show (L - a).toNat = 0 by omega]; rfl
    exact W.ret ⟨.bool true, ResIs.one, hS.bel, (by rw [e1_0])⟩
end Go.Proofs.Ytjmpojoimcljoaa
