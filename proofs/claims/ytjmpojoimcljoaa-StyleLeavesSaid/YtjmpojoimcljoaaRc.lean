/-
  WHAT IS PROVED HERE: what functions of layer 3 hand back, each out of its own code; the conditions stand in each statement.
-/
import Derived.Test.YtjmpojoimcljoaaProg
import Derived.Test.YtjmpojoimcljoaaWk5
import Derived.Test.YtjmpojoimcljoaaSpec4
import Derived.Test.YtjmpojoimcljoaaFa
import Derived.Test.YtjmpojoimcljoaaRa
namespace Go.Proofs.Ytjmpojoimcljoaa
open Go.Wk Go.RowKit
set_option linter.unusedVariables false
set_option linter.unusedSimpArgs false
theorem elRc_28 : ElemI Try.prog 28 3 (.int .i64 0) 1 8 := ElemI.of Try.underlying28 (by kernel_rfl) (by first | rfl | kernel_rfl) (by decide)
theorem foRc_27_1 : fldOff Try.prog 27 1 = some 1 := by kernel_rfl
theorem foRc_27_0 : fldOff Try.prog 27 0 = some 0 := by kernel_rfl

theorem F93 {L : Int} {fv : Value} {fs : List (List Int)} {Fr_fv : List (Option Nat)} {a : Int} {b : Int} {c : Int} {w : World} (i_L : InK .i64 L) (h_fv : V (tSl (tSl (tI .i64))) fs fv Fr_fv w) (i_a : InK .i64 a) (i_b : InK .i64 b) (i_c : InK .i64 c) (p_f : okF L fs) (p_7 : L ≤ 7) (p_a : 0 ≤ a) (p_a2 : a < L) : Calls Try.prog 93 #[.agg #[.int .i64 L, fv], .int .i64 a, .int .i64 b, .int .i64 c] w (Ret w (fun r _ => r = .bool (chainB fs a b c))) := by
  have b_c := bd_i64 i_c
  have b_b := bd_i64 i_b
  have b_a := bd_i64 i_a
  have b_L := bd_i64 i_L
  have a_fv := h_fv.any
  have l_fv := h_fv.len63
  have hS := St.start0 w
  refine enterR Try.func93 rfl Try.ntmps93 Try.results93 rfl ?_
  refine W.seq ?_
  refine W.reg ?_
  refine Wx.box (cs := [.int .i64 L, fv]) hS rfl rfl rfl (fun g_1 w_2 hx_4 hb_3 hS => ?_)
  refine Wx.rd (v := .bool false) (rd_assign rfl) rfl ?_
  refine Wx.nil ?_
  refine W.seq ?_
  refine W.reg ?_
  refine Wx.rd (v := .int .i64 a) (rd_move rfl) rfl ?_
  refine Wx.lit (t := (tI .i64)) (ys := [a]) (vs := [.int .i64 a]) elRc_28 hS rfl rfl ⟨(V.mkInt (in_i64 (by omega) (by omega))), trivial⟩ (by decide) rfl (fun v_5 w_6 hx_7 hS => ?_)
  refine Wx.rd (v := v_5) (rd_assign rfl) rfl ?_
  refine Wx.nil ?_
  refine W.seq ?_
  refine W.seq ?_
  refine W.reg ?_
  refine Wx.rd (v := .int .i64 0) (rd_assign rfl) rfl ?_
  refine Wx.nil ?_
  refine W.block ?_
  have hm0 : metOk L [a] := ⟨by simp, by simp; omega⟩
  refine W.loop [9, 10, 11, 12, 13, 16, 17, 18, 19, 20, 21, 22, 23, 24, 25, 26, 27, 28, 29, 30, 31, 32, 33, 34, 35, 36, 37, 38, 39, 40, 41, 42, 43, 44, 45, 46, 47, 48, 49, 50, 51, 52, 53, 54, 55, 56, 57, 58, 59, 60, 61, 62, 63, 64, 65] (fun x : Int × Value × (List Int) => match x with | (i, mv, met) => [(10, .int .i64 i), (9, mv)]) (fun (x : Int × Value × (List Int)) w' => match x with | (i, mv, met) => St w [] w' [.row (tI .i64) 3 mv met, .box g_1 27 [.int .i64 L, fv]] ∧ 0 ≤ i ∧ i ≤ met.length ∧ chainG fs c (8 - i).toNat i met = chainL fs a c ∧ metOk L met) (fun x : Int × Value × (List Int) => match x with | (i, mv, met) => (8 - i).toNat) (0, v_5, [a]) ⟨rfl, rfl, trivial⟩ ⟨hS, (by first | omega | simp), (by omega), (rfl), (hm0)⟩ ?_
  rintro ⟨i, mv, met⟩ u_9 w_8 ⟨hS, h0, h1, h2, h3⟩
  have hln := h3.len7 p_7
  refine W.seq ?_
  refine W.seq ?_
  refine W.reg ?_
  refine Wx.rd (v := .int .i64 i) (rd_move rfl) rfl ?_
  refine Wx.rd (v := mv) (rd_move rfl) rfl ?_
  refine Wx.rd (v := .int .i64 (met.length : Int)) (rd_lenR hS 0 rfl rfl Try.underlying28) rfl ?_
  refine Wx.rd (v := .bool (decide (i < (met.length : Int)))) (rd_lss rfl rfl) rfl ?_
  refine Wx.nil ?_
  refine W.condD rfl (fun c0 => ?_) (fun c0 => ?_)
  · -- yes
    refine W.skip ?_
    refine W.seq ?_
    refine W.block ?_
    refine W.seq ?_
    refine W.reg ?_
    refine Wx.rd (v := .int .i64 0) (rd_assign rfl) rfl ?_
    refine Wx.nil ?_
    refine W.block ?_
    refine W.loop [9, 11, 12, 13, 22, 23, 24, 25, 26, 27, 28, 29, 30, 31, 32, 33, 34, 35, 36, 37, 38, 39, 40, 41, 42, 43, 44, 45, 46, 47, 48, 49, 50, 51, 52, 53, 54, 55, 56, 57, 58, 59, 60, 61, 62, 63, 64, 65] (fun x : Int × Value × (List Int) => match x with | (k, nv, m2) => [(11, .int .i64 k), (9, nv)]) (fun (x : Int × Value × (List Int)) w' => match x with | (k, nv, m2) => St w [] w' [.row (tI .i64) 3 nv m2, .box g_1 27 [.int .i64 L, fv]] ∧ 0 ≤ k ∧ k ≤ fs.length ∧ passC c (ix 0 met i) (fs.drop k.toNat) m2 = passC c (ix 0 met i) fs met ∧ metOk L m2 ∧ i < m2.length ∧ ix 0 m2 i = ix 0 met i) (fun x : Int × Value × (List Int) => match x with | (k, nv, m2) => (fs.length - k).toNat) (0, mv, met) ⟨rfl, rfl, trivial⟩ ⟨hS, (by first | omega | simp), (by first | omega | simp), (by simp), (h3), (c0), (rfl)⟩ ?_
    rintro ⟨k, nv, m2⟩ u_11 w_10 ⟨hS, g0, g1, g2, g3, g4, g5⟩
    have hln2 := g3.len7 p_7
    refine W.seq ?_
    refine W.seq ?_
    refine W.reg ?_
    refine Wx.rd (v := .int .i64 k) (rd_move rfl) rfl ?_
    refine Wx.rd (v := .pointer (some ⟨g_1, 1, none⟩)) (rd_fieldAddr rfl foRc_27_1) rfl ?_
    refine Wx.rd (v := fv) (rd_loadX hS 1 rfl rfl rfl Try.isAgg22) rfl ?_
    refine Wx.rd (v := .int .i64 (fs.length : Int)) (rd_lenV rfl (hS.arg a_fv) Try.underlying22) rfl ?_
    refine Wx.rd (v := .bool (decide (k < (fs.length : Int)))) (rd_lss rfl rfl) rfl ?_
    refine Wx.nil ?_
    refine W.condD rfl (fun c1 => ?_) (fun c1 => ?_)
    · -- yes
      refine W.skip ?_
      refine W.seq ?_
      refine W.block ?_
      refine W.seq ?_
      refine W.reg ?_
      refine Wx.rd (v := .pointer (some ⟨g_1, 1, none⟩)) (rd_fieldAddr rfl foRc_27_1) rfl ?_
      refine Wx.rd (v := fv) (rd_loadX hS 1 rfl rfl rfl Try.isAgg22) rfl ?_
      refine Wx.rd (v := .int .i64 k) (rd_move rfl) rfl ?_
      refine Wx.ex (rd_index [] (hS.arg a_fv) rfl rfl Try.underlying22 Try.sizeOf28 (by first | omega | (simp only [List.length_set, List.length_append, List.length_cons, List.length_nil, List.length_replicate]; omega)) (by first | omega | (simp only [List.length_set, List.length_append, List.length_cons, List.length_nil, List.length_replicate]; omega))) rfl (fun p_12 hp_13 => ?_)
      refine Wx.ex (rd_load hp_13 rfl Try.isAgg28 Try.sizeOf28) rfl (fun v_14 hv_15 => ?_)
      have ln_16 := hv_15.len63
      have hS := hS.add hv_15
      refine Wx.rd (v := v_14) (rd_assign rfl) rfl ?_
      refine Wx.nil ?_
      refine W.seq ?_
      refine W.seq ?_
      refine W.reg ?_
      refine Wx.rd (v := v_14) (rd_move rfl) rfl ?_
      refine Wx.rd (v := nv) (rd_move rfl) rfl ?_
      refine Wx.rd (v := .int .i64 i) (rd_move rfl) rfl ?_
      refine Wx.indexR hS 1 rfl rfl rfl Try.underlying28 Try.sizeOf3 (by first | omega | (simp only [List.length_set, List.length_append, List.length_cons, List.length_nil, List.length_replicate]; omega)) (by first | omega | (simp only [List.length_set, List.length_append, List.length_cons, List.length_nil, List.length_replicate]; omega)) rfl (fun g_18 hg_19 => ?_)
      refine Wx.rd (v := .int .i64 (ix 0 m2 i)) (rd_loadRI' hS 1 rfl hg_19 rfl (by first | omega | (simp only [List.length_set, List.length_append, List.length_cons, List.length_nil, List.length_replicate]; omega)) (by first | omega | (simp only [List.length_set, List.length_append, List.length_cons, List.length_nil, List.length_replicate]; omega)) Try.isAgg3 Try.sizeOf3) rfl ?_
      have bd_20 := bd_i64 (hS.rowInK' 1 rfl (by first | omega | (simp only [List.length_set, List.length_append, List.length_cons, List.length_nil, List.length_replicate]; omega)) (by first | omega | (simp only [List.length_set, List.length_append, List.length_cons, List.length_nil, List.length_replicate]; omega)) : InK .i64 (ix 0 m2 i))
      refine Wx.callF (run_callF Try.call81 rfl) (F81 (hS.v 0 rfl) (in_i64 (by omega) (by omega))) rfl ?_
      rintro r_21 w_22 hx_23 rfl
      have hS := hS.ext hx_23
      refine Wx.rd (v := .bool (!(hasL (ix [] fs k) (ix 0 m2 i)))) (rd_not rfl) rfl ?_
      refine Wx.rd (v := .bool (!(hasL (ix [] fs k) (ix 0 m2 i)))) (rd_move rfl) rfl ?_
      refine Wx.cut (X := Unit) 4 [42, 43, 44, 45] (fun _ => [(45, .bool (!(hasL (ix [] fs k) (ix 0 m2 i)) || hasL (ix [] fs k) c))]) (fun _ w' => St w [] w' [Ob.v (tSl (tI .i64)) (ix [] fs k) v_14, .row (tI .i64) 3 nv m2, .box g_1 27 [.int .i64 L, fv]]) ?_ ?_
      · rcases Bool.eq_false_or_eq_true (!(hasL (ix [] fs k) (ix 0 m2 i))) with g_24 | g_24
        · -- True
          have gp_25 := g_24
          try simp only [Bool.and_eq_true, Bool.or_eq_true, Bool.not_eq_true', Bool.and_eq_false_iff, Bool.or_eq_false_iff, Bool.not_eq_false', decide_eq_true_eq, decide_eq_false_iff_not, not_or, Bool.false_eq_true, Bool.true_eq_false, false_or, or_false, not_false_eq_true] at gp_25
          refine Wx.gnoB rfl rfl (congrArg Value.bool g_24) rfl rfl ?_
          refine Wx.gnoB rfl rfl (congrArg Value.bool g_24) rfl rfl ?_
          refine Wx.gnoB rfl rfl (congrArg Value.bool g_24) rfl rfl ?_
          refine Wx.rd (v := .bool true) (rd_pickT (congrArg Value.bool g_24) rfl) rfl ?_
          refine Wx.nil ⟨(), hS, ⟨?_, trivial⟩, Out.look rfl Out.refl⟩
          show Value.bool true = Value.bool (!(hasL (ix [] fs k) (ix 0 m2 i)) || hasL (ix [] fs k) c)
          rw [g_24]; rfl
        · -- False
          have gp_26 := g_24
          try simp only [Bool.and_eq_true, Bool.or_eq_true, Bool.not_eq_true', Bool.and_eq_false_iff, Bool.or_eq_false_iff, Bool.not_eq_false', decide_eq_true_eq, decide_eq_false_iff_not, not_or, Bool.false_eq_true, Bool.true_eq_false, false_or, or_false, not_false_eq_true] at gp_26
          refine Wx.gyes rfl rfl (congrArg Value.bool g_24) ?_
          refine Wx.rd (v := v_14) (rd_move rfl) rfl ?_
          refine Wx.gyes rfl rfl (congrArg Value.bool g_24) ?_
          refine Wx.rd (v := .int .i64 c) (rd_move rfl) rfl ?_
          refine Wx.gyes rfl rfl (congrArg Value.bool g_24) ?_
          refine Wx.callF (run_callF Try.call81 rfl) (F81 (hS.v 0 rfl) (in_i64 (by omega) (by omega))) rfl ?_
          rintro r_27 w_28 hx_29 rfl
          have hS := hS.ext hx_29
          refine Wx.rd (v := .bool (hasL (ix [] fs k) c)) (rd_pickF (congrArg Value.bool g_24) rfl) rfl ?_
          refine Wx.nil ⟨(), hS, ⟨?_, trivial⟩, Out.look rfl Out.refl⟩
          show Value.bool (hasL (ix [] fs k) c) = Value.bool (!(hasL (ix [] fs k) (ix 0 m2 i)) || hasL (ix [] fs k) c)
          rw [g_24]; rfl
      rintro ⟨⟩ u_31 w_30 hS
      refine Wx.nil ?_
      refine W.cond rfl (fun c2 => ?_) (fun c2 => ?_)
      · -- yes
        try simp only [Bool.and_eq_true, Bool.or_eq_true, Bool.not_eq_true', Bool.and_eq_false_iff, Bool.or_eq_false_iff, Bool.not_eq_false', decide_eq_true_eq, decide_eq_false_iff_not, not_or, Bool.false_eq_true, Bool.true_eq_false, false_or, or_false, not_false_eq_true] at c2
        refine W.exit rfl ?_
        refine W.reg ?_
        refine Wx.rd (v := .int .i64 k) (rd_move rfl) rfl ?_
        refine Wx.rd (v := .int .i64 (k + 1)) (rd_add rfl rfl (in_i64 (by omega) (by omega))) rfl ?_
        refine Wx.rd (v := .int .i64 (k + 1)) (rd_assign rfl) rfl ?_
        refine Wx.nil ?_
        have hn : ¬ (hasL (ix [] fs k) (ix 0 met i) = true ∧ hasL (ix [] fs k) c = false) := fun hh => by rw [g5, hh.1, hh.2] at c2; simp at c2
        refine ⟨(k + 1, nv, m2), (by show (fs.length - (k + 1)).toNat < (fs.length - k).toNat; omega), ?_, ?_, Out.look rfl (Out.hav rfl (Out.look rfl Out.self))⟩
        · exact ⟨hS.tl, (by first | omega | assumption), (by first | omega | assumption), (by rw [← g2, drop_ix (d := []) g0 c1, passC, if_neg hn]), (by first | omega | assumption), (by first | omega | assumption), (by first | omega | assumption)⟩
        · exact ⟨rfl, rfl, trivial⟩
      · -- no
        try simp only [Bool.and_eq_true, Bool.or_eq_true, Bool.not_eq_true', Bool.and_eq_false_iff, Bool.or_eq_false_iff, Bool.not_eq_false', decide_eq_true_eq, decide_eq_false_iff_not, not_or, Bool.false_eq_true, Bool.true_eq_false, false_or, or_false, not_false_eq_true] at c2
        refine W.skip ?_
        refine W.seq ?_
        refine W.reg ?_
        refine Wx.rd (v := .int .i64 0) (rd_assign rfl) rfl ?_
        refine Wx.nil ?_
        refine W.block ?_
        refine W.loop [9, 13, 46, 47, 48, 49, 50, 51, 52, 53, 54, 55, 56, 57, 58, 59, 60, 61, 62, 63, 64, 65] (fun x : Int × Value × (List Int) => match x with | (j, qv, m3) => [(13, .int .i64 j), (9, qv)]) (fun (x : Int × Value × (List Int)) w' => match x with | (j, qv, m3) => St w [] w' [Ob.v (tSl (tI .i64)) (ix [] fs k) v_14, .row (tI .i64) 3 qv m3, .box g_1 27 [.int .i64 L, fv]] ∧ 0 ≤ j ∧ j ≤ (ix [] fs k).length ∧ addC m3 ((ix [] fs k).drop j.toNat) = addC m2 (ix [] fs k) ∧ metOk L m3 ∧ i < m3.length ∧ ix 0 m3 i = ix 0 m2 i) (fun x : Int × Value × (List Int) => match x with | (j, qv, m3) => ((ix [] fs k).length - j).toNat) (0, nv, m2) ⟨rfl, rfl, trivial⟩ ⟨hS, (by first | omega | simp), (by first | omega | simp), (by simp), (g3), (g4), (rfl)⟩ ?_
        rintro ⟨j, qv, m3⟩ u_33 w_32 ⟨hS, k0, k1, k2, k3, k4, k5⟩
        have hln3 := k3.len7 p_7
        refine W.seq ?_
        refine W.seq ?_
        refine W.reg ?_
        refine Wx.rd (v := .int .i64 j) (rd_move rfl) rfl ?_
        refine Wx.rd (v := v_14) (rd_move rfl) rfl ?_
        refine Wx.rd (v := .int .i64 ((ix [] fs k).length : Int)) (rd_lenV rfl (hS.v 0 rfl) Try.underlying28) rfl ?_
        refine Wx.rd (v := .bool (decide (j < ((ix [] fs k).length : Int)))) (rd_lss rfl rfl) rfl ?_
        refine Wx.nil ?_
        refine W.condD rfl (fun c3 => ?_) (fun c3 => ?_)
        · -- yes
          refine W.skip ?_
          refine W.seq ?_
          refine W.block ?_
          refine W.seq ?_
          refine W.reg ?_
          refine Wx.rd (v := qv) (rd_move rfl) rfl ?_
          refine Wx.rd (v := v_14) (rd_move rfl) rfl ?_
          refine Wx.rd (v := .int .i64 j) (rd_move rfl) rfl ?_
          refine Wx.ex (rd_index 0 (hS.v 0 rfl) rfl rfl Try.underlying28 Try.sizeOf3 (by first | omega | (simp only [List.length_set, List.length_append, List.length_cons, List.length_nil, List.length_replicate]; omega)) (by first | omega | (simp only [List.length_set, List.length_append, List.length_cons, List.length_nil, List.length_replicate]; omega))) rfl (fun p_34 hp_35 => ?_)
          refine Wx.rd (v := .int .i64 (ix 0 (ix [] fs k) j)) (rd_loadI hp_35 rfl Try.isAgg3 Try.sizeOf3) rfl ?_
          have bd_36 := bd_i64 hp_35.inK
          refine Wx.callF (run_callF Try.call81 rfl) (F81 (hS.lend 1 rfl) (in_i64 (by omega) (by omega))) rfl ?_
          rintro r_37 w_38 hx_39 rfl
          have hS := hS.ext hx_39
          refine Wx.rd (v := .bool (!(hasL m3 (ix 0 (ix [] fs k) j)))) (rd_not rfl) rfl ?_
          refine Wx.nil ?_
          refine W.cond rfl (fun c4 => ?_) (fun c4 => ?_)
          · -- yes
            try simp only [Bool.and_eq_true, Bool.or_eq_true, Bool.not_eq_true', Bool.and_eq_false_iff, Bool.or_eq_false_iff, Bool.not_eq_false', decide_eq_true_eq, decide_eq_false_iff_not, not_or, Bool.false_eq_true, Bool.true_eq_false, false_or, or_false, not_false_eq_true] at c4
            refine W.reg ?_
            refine Wx.rd (v := qv) (rd_move rfl) rfl ?_
            refine Wx.rd (v := v_14) (rd_move rfl) rfl ?_
            refine Wx.rd (v := .int .i64 j) (rd_move rfl) rfl ?_
            refine Wx.ex (rd_index 0 (hS.v 0 rfl) rfl rfl Try.underlying28 Try.sizeOf3 (by first | omega | (simp only [List.length_set, List.length_append, List.length_cons, List.length_nil, List.length_replicate]; omega)) (by first | omega | (simp only [List.length_set, List.length_append, List.length_cons, List.length_nil, List.length_replicate]; omega))) rfl (fun p_40 hp_41 => ?_)
            refine Wx.rd (v := .int .i64 (ix 0 (ix [] fs k) j)) (rd_loadI hp_41 rfl Try.isAgg3 Try.sizeOf3) rfl ?_
            have bd_42 := bd_i64 hp_41.inK
            refine Wx.lit (t := (tI .i64)) (ys := [ix 0 (ix [] fs k) j]) (vs := [.int .i64 (ix 0 (ix [] fs k) j)]) elRc_28 hS rfl rfl ⟨(V.mkInt (in_i64 (by omega) (by omega))), trivial⟩ (by decide) rfl (fun v_43 w_44 hx_45 hS => ?_)
            have hfm : 0 ≤ ix 0 (ix [] fs k) j ∧ ix 0 (ix [] fs k) j < L := p_f _ (List.mem_of_getElem? (ix_get (d := []) c1 g0)) _ (List.mem_of_getElem? (ix_get (d := 0) c3 k0))
            have hln := k3.len7 p_7
            refine Wx.append elRc_28 hS 2 rfl rfl rfl (Src.ofR hS 0 rfl) (by simp only [maxLen]; simp; omega) (by simp; omega) rfl (fun v_46 w_47 hz_48 hS => ?_)
            refine Wx.rd (v := v_46) (rd_assign rfl) rfl ?_
            refine Wx.nil ?_
            refine W.reg ?_
            refine Wx.rd (v := .int .i64 j) (rd_move rfl) rfl ?_
            refine Wx.rd (v := .int .i64 (j + 1)) (rd_add rfl rfl (in_i64 (by omega) (by omega))) rfl ?_
            refine Wx.rd (v := .int .i64 (j + 1)) (rd_assign rfl) rfl ?_
            refine Wx.nil ?_
            refine ⟨(j + 1, v_46, m3 ++ [ix 0 (ix [] fs k) j]), (by show ((ix [] fs k).length - (j + 1)).toNat < ((ix [] fs k).length - j).toNat; omega), ?_, ?_, Out.look rfl Out.self⟩
            · exact ⟨hS.tl, (by first | omega | assumption), (by first | omega | assumption), (by rw [← k2, drop_ix (d := 0) k0 c3, addC, if_neg (by rw [c4]; decide)]), (k3.add hfm.1 hfm.2 c4), (by simp; omega), (by rw [ix_app h0 k4]; exact k5)⟩
            · exact ⟨rfl, rfl, trivial⟩
          · -- no
            try simp only [Bool.and_eq_true, Bool.or_eq_true, Bool.not_eq_true', Bool.and_eq_false_iff, Bool.or_eq_false_iff, Bool.not_eq_false', decide_eq_true_eq, decide_eq_false_iff_not, not_or, Bool.false_eq_true, Bool.true_eq_false, false_or, or_false, not_false_eq_true] at c4
            refine W.skip ?_
            refine W.reg ?_
            refine Wx.rd (v := .int .i64 j) (rd_move rfl) rfl ?_
            refine Wx.rd (v := .int .i64 (j + 1)) (rd_add rfl rfl (in_i64 (by omega) (by omega))) rfl ?_
            refine Wx.rd (v := .int .i64 (j + 1)) (rd_assign rfl) rfl ?_
            refine Wx.nil ?_
            refine ⟨(j + 1, qv, m3), (by show ((ix [] fs k).length - (j + 1)).toNat < ((ix [] fs k).length - j).toNat; omega), ?_, ?_, Out.look rfl Out.self⟩
            · exact ⟨hS, (by first | omega | assumption), (by first | omega | assumption), (by rw [← k2, drop_ix (d := 0) k0 c3, addC, if_pos c4]), (k3), (k4), (k5)⟩
            · exact ⟨rfl, rfl, trivial⟩
        · -- no
          refine W.exit rfl ?_
          refine W.reg ?_
          refine Wx.rd (v := .int .i64 k) (rd_move rfl) rfl ?_
          refine Wx.rd (v := .int .i64 (k + 1)) (rd_add rfl rfl (in_i64 (by omega) (by omega))) rfl ?_
          refine Wx.rd (v := .int .i64 (k + 1)) (rd_assign rfl) rfl ?_
          refine Wx.nil ?_
          have hn : hasL (ix [] fs k) (ix 0 met i) = true ∧ hasL (ix [] fs k) c = false := by rw [g5] at c2; simpa using c2
          have hpe : addC m2 (ix [] fs k) = m3 := by rw [← k2, drop_end (by omega)]; rfl
          refine ⟨(k + 1, qv, m3), (by show (fs.length - (k + 1)).toNat < (fs.length - k).toNat; omega), ?_, ?_, Out.look rfl (Out.hav rfl (Out.look rfl (Out.hav rfl (Out.look rfl Out.self))))⟩
          · exact ⟨hS.tl, (by first | omega | assumption), (by first | omega | assumption), (by rw [← g2, drop_ix (d := []) g0 c1, passC, if_pos hn, hpe]), (k3), (k4), (k5.trans g5)⟩
          · exact ⟨rfl, rfl, trivial⟩
    · -- no
      refine W.exit rfl ?_
      refine W.reg ?_
      refine Wx.rd (v := .int .i64 i) (rd_move rfl) rfl ?_
      refine Wx.rd (v := .int .i64 (i + 1)) (rd_add rfl rfl (in_i64 (by omega) (by omega))) rfl ?_
      refine Wx.rd (v := .int .i64 (i + 1)) (rd_assign rfl) rfl ?_
      refine Wx.nil ?_
      have hpe : passC c (ix 0 met i) fs met = m2 := by rw [← g2, drop_end (by omega)]; rfl
      have hl2 := g3.len7 p_7
      refine ⟨(i + 1, nv, m2), (by show (8 - (i + 1)).toNat < (8 - i).toNat; omega), ?_, ?_, Out.look rfl (Out.hav rfl (Out.look rfl Out.self))⟩
      · exact ⟨hS, (by first | omega | assumption), (by omega), (by rw [← h2, show (8 - i).toNat = (8 - (i + 1)).toNat + 1 by omega, chainG, if_pos c0, hpe]), (g3)⟩
      · exact ⟨rfl, rfl, trivial⟩
  · -- no
    refine W.exit rfl ?_
    refine W.seq ?_
    refine W.reg ?_
    refine Wx.rd (v := mv) (rd_move rfl) rfl ?_
    refine Wx.rd (v := .int .i64 b) (rd_move rfl) rfl ?_
    refine Wx.callF (run_callF Try.call81 rfl) (F81 (hS.lend 0 rfl) (in_i64 (by omega) (by omega))) rfl ?_
    rintro r_49 w_50 hx_51 rfl
    have hS := hS.ext hx_51
    refine Wx.rd (v := .bool (hasL met b)) (rd_assign rfl) rfl ?_
    refine Wx.nil ?_
    have he : chainL fs a c = met := by rw [← h2]; exact chainG_end (by omega)
    have e0_0 : (chainB fs a b c) = (hasL met b) := by rw [chainB, he]
    exact W.ret ⟨.bool (hasL met b), ResIs.one, hS.bel, (by rw [e0_0])⟩

theorem F70 {L : Int} {fv : Value} {fs : List (List Int)} {Fr_fv : List (Option Nat)} {a : Int} {b : Int} {c : Int} {w : World} (i_L : InK .i64 L) (h_fv : V (tSl (tSl (tI .i64))) fs fv Fr_fv w) (i_a : InK .i64 a) (i_b : InK .i64 b) (i_c : InK .i64 c) (p_f : okF L fs) (p_7 : L ≤ 7) (p_a : 0 ≤ a) (p_a2 : a < L) (p_b : 0 ≤ b) (p_b2 : b < L) (p_c : 0 ≤ c) (p_c2 : c < L) : Calls Try.prog 70 #[.agg #[.int .i64 L, fv], .int .i64 a, .int .i64 b, .int .i64 c] w (Ret w (fun r _ => r = .bool (apartR fs a b c))) := by
  have b_c := bd_i64 i_c
  have b_b := bd_i64 i_b
  have b_a := bd_i64 i_a
  have b_L := bd_i64 i_L
  have a_fv := h_fv.any
  have l_fv := h_fv.len63
  have hS := St.start0 w
  refine enterR Try.func70 rfl Try.ntmps70 Try.results70 rfl ?_
  refine W.seq ?_
  refine W.reg ?_
  refine Wx.box (cs := [.int .i64 L, fv]) hS rfl rfl rfl (fun g_1 w_2 hx_4 hb_3 hS => ?_)
  refine Wx.rd (v := .bool false) (rd_assign rfl) rfl ?_
  refine Wx.nil ?_
  refine W.seq ?_
  refine W.reg ?_
  refine Wx.rd (v := .agg #[.int .i64 L, fv]) (rd_loadXs (ds := [.int .i64 L, fv]) hS 0 rfl rfl rfl rfl Try.isAgg27 Try.sizeOf27) rfl ?_
  refine Wx.rd (v := .int .i64 a) (rd_move rfl) rfl ?_
  refine Wx.rd (v := .int .i64 b) (rd_move rfl) rfl ?_
  refine Wx.rd (v := .int .i64 c) (rd_move rfl) rfl ?_
  refine Wx.callF (run_callF Try.call93 rfl) (F93 (in_i64 (by omega) (by omega)) (hS.arg a_fv) (in_i64 (by omega) (by omega)) (in_i64 (by omega) (by omega)) (in_i64 (by omega) (by omega)) p_f (by omega) (by omega) (by omega)) rfl ?_
  rintro r_5 w_6 hx_7 rfl
  have hS := hS.ext hx_7
  refine Wx.rd (v := .bool (chainB fs a b c)) (rd_move rfl) rfl ?_
  refine Wx.cut (X := Unit) 6 [15, 16, 17, 18, 19, 20] (fun _ => [(20, .bool (chainB fs a b c && chainB fs b c a))]) (fun _ w' => St w [] w' [.box g_1 27 [.int .i64 L, fv]]) ?_ ?_
  · rcases Bool.eq_false_or_eq_true (chainB fs a b c) with g_8 | g_8
    · -- True
      have gp_9 := g_8
      try simp only [Bool.and_eq_true, Bool.or_eq_true, Bool.not_eq_true', Bool.and_eq_false_iff, Bool.or_eq_false_iff, Bool.not_eq_false', decide_eq_true_eq, decide_eq_false_iff_not, not_or, Bool.false_eq_true, Bool.true_eq_false, false_or, or_false, not_false_eq_true] at gp_9
      refine Wx.gyes rfl rfl (congrArg Value.bool g_8) ?_
      refine Wx.rd (v := .agg #[.int .i64 L, fv]) (rd_loadXs (ds := [.int .i64 L, fv]) hS 0 rfl rfl rfl rfl Try.isAgg27 Try.sizeOf27) rfl ?_
      refine Wx.gyes rfl rfl (congrArg Value.bool g_8) ?_
      refine Wx.rd (v := .int .i64 b) (rd_move rfl) rfl ?_
      refine Wx.gyes rfl rfl (congrArg Value.bool g_8) ?_
      refine Wx.rd (v := .int .i64 c) (rd_move rfl) rfl ?_
      refine Wx.gyes rfl rfl (congrArg Value.bool g_8) ?_
      refine Wx.rd (v := .int .i64 a) (rd_move rfl) rfl ?_
      refine Wx.gyes rfl rfl (congrArg Value.bool g_8) ?_
      refine Wx.callF (run_callF Try.call93 rfl) (F93 (in_i64 (by omega) (by omega)) (hS.arg a_fv) (in_i64 (by omega) (by omega)) (in_i64 (by omega) (by omega)) (in_i64 (by omega) (by omega)) p_f (by omega) (by omega) (by omega)) rfl ?_
      rintro r_10 w_11 hx_12 rfl
      have hS := hS.ext hx_12
      refine Wx.rd (v := .bool (chainB fs b c a)) (rd_pickT (congrArg Value.bool g_8) rfl) rfl ?_
      refine Wx.nil ⟨(), hS, ⟨?_, trivial⟩, Out.look rfl Out.refl⟩
      show Value.bool (chainB fs b c a) = Value.bool (chainB fs a b c && chainB fs b c a)
      rw [g_8]; rfl
    · -- False
      have gp_13 := g_8
      try simp only [Bool.and_eq_true, Bool.or_eq_true, Bool.not_eq_true', Bool.and_eq_false_iff, Bool.or_eq_false_iff, Bool.not_eq_false', decide_eq_true_eq, decide_eq_false_iff_not, not_or, Bool.false_eq_true, Bool.true_eq_false, false_or, or_false, not_false_eq_true] at gp_13
      refine Wx.gnoB rfl rfl (congrArg Value.bool g_8) rfl rfl ?_
      refine Wx.gnoB rfl rfl (congrArg Value.bool g_8) rfl rfl ?_
      refine Wx.gnoB rfl rfl (congrArg Value.bool g_8) rfl rfl ?_
      refine Wx.gnoB rfl rfl (congrArg Value.bool g_8) rfl rfl ?_
      refine Wx.gnoB rfl rfl (congrArg Value.bool g_8) rfl rfl ?_
      refine Wx.rd (v := .bool false) (rd_pickF (congrArg Value.bool g_8) rfl) rfl ?_
      refine Wx.nil ⟨(), hS, ⟨?_, trivial⟩, Out.look rfl Out.refl⟩
      show Value.bool false = Value.bool (chainB fs a b c && chainB fs b c a)
      rw [g_8]; rfl
  rintro ⟨⟩ u_15 w_14 hS
  refine Wx.rd (v := .bool (chainB fs a b c && chainB fs b c a)) (rd_move rfl) rfl ?_
  refine Wx.cut (X := Unit) 6 [22, 23, 24, 25, 26, 27] (fun _ => [(27, .bool ((chainB fs a b c && chainB fs b c a) && chainB fs c a b))]) (fun _ w' => St w [] w' [.box g_1 27 [.int .i64 L, fv]]) ?_ ?_
  · rcases Bool.eq_false_or_eq_true (chainB fs a b c && chainB fs b c a) with g_16 | g_16
    · -- True
      have gp_17 := g_16
      try simp only [Bool.and_eq_true, Bool.or_eq_true, Bool.not_eq_true', Bool.and_eq_false_iff, Bool.or_eq_false_iff, Bool.not_eq_false', decide_eq_true_eq, decide_eq_false_iff_not, not_or, Bool.false_eq_true, Bool.true_eq_false, false_or, or_false, not_false_eq_true] at gp_17
      refine Wx.gyes rfl rfl (congrArg Value.bool g_16) ?_
      refine Wx.rd (v := .agg #[.int .i64 L, fv]) (rd_loadXs (ds := [.int .i64 L, fv]) hS 0 rfl rfl rfl rfl Try.isAgg27 Try.sizeOf27) rfl ?_
      refine Wx.gyes rfl rfl (congrArg Value.bool g_16) ?_
      refine Wx.rd (v := .int .i64 c) (rd_move rfl) rfl ?_
      refine Wx.gyes rfl rfl (congrArg Value.bool g_16) ?_
      refine Wx.rd (v := .int .i64 a) (rd_move rfl) rfl ?_
      refine Wx.gyes rfl rfl (congrArg Value.bool g_16) ?_
      refine Wx.rd (v := .int .i64 b) (rd_move rfl) rfl ?_
      refine Wx.gyes rfl rfl (congrArg Value.bool g_16) ?_
      refine Wx.callF (run_callF Try.call93 rfl) (F93 (in_i64 (by omega) (by omega)) (hS.arg a_fv) (in_i64 (by omega) (by omega)) (in_i64 (by omega) (by omega)) (in_i64 (by omega) (by omega)) p_f (by omega) (by omega) (by omega)) rfl ?_
      rintro r_18 w_19 hx_20 rfl
      have hS := hS.ext hx_20
      refine Wx.rd (v := .bool (chainB fs c a b)) (rd_pickT (congrArg Value.bool g_16) rfl) rfl ?_
      refine Wx.nil ⟨(), hS, ⟨?_, trivial⟩, Out.look rfl Out.refl⟩
      show Value.bool (chainB fs c a b) = Value.bool ((chainB fs a b c && chainB fs b c a) && chainB fs c a b)
      rw [g_16]; rfl
    · -- False
      have gp_21 := g_16
      try simp only [Bool.and_eq_true, Bool.or_eq_true, Bool.not_eq_true', Bool.and_eq_false_iff, Bool.or_eq_false_iff, Bool.not_eq_false', decide_eq_true_eq, decide_eq_false_iff_not, not_or, Bool.false_eq_true, Bool.true_eq_false, false_or, or_false, not_false_eq_true] at gp_21
      refine Wx.gnoB rfl rfl (congrArg Value.bool g_16) rfl rfl ?_
      refine Wx.gnoB rfl rfl (congrArg Value.bool g_16) rfl rfl ?_
      refine Wx.gnoB rfl rfl (congrArg Value.bool g_16) rfl rfl ?_
      refine Wx.gnoB rfl rfl (congrArg Value.bool g_16) rfl rfl ?_
      refine Wx.gnoB rfl rfl (congrArg Value.bool g_16) rfl rfl ?_
      refine Wx.rd (v := .bool false) (rd_pickF (congrArg Value.bool g_16) rfl) rfl ?_
      refine Wx.nil ⟨(), hS, ⟨?_, trivial⟩, Out.look rfl Out.refl⟩
      show Value.bool false = Value.bool ((chainB fs a b c && chainB fs b c a) && chainB fs c a b)
      rw [g_16]; rfl
  rintro ⟨⟩ u_23 w_22 hS
  refine Wx.rd (v := .bool ((chainB fs a b c && chainB fs b c a) && chainB fs c a b)) (rd_assign rfl) rfl ?_
  refine Wx.nil ?_
  have e0_0 : (apartR fs a b c) = ((chainB fs a b c && chainB fs b c a) && chainB fs c a b) := by rfl
  exact W.ret ⟨.bool ((chainB fs a b c && chainB fs b c a) && chainB fs c a b), ResIs.one, hS.bel, (by rw [e0_0])⟩

theorem F25 {L : Int} {fv : Value} {fs : List (List Int)} {Fr_fv : List (Option Nat)} {w : World} (i_L : InK .i64 L) (h_fv : V (tSl (tSl (tI .i64))) fs fv Fr_fv w) : Calls Try.prog 25 #[.agg #[.int .i64 L, fv]] w (Ret w (fun r _ => r = .tuple #[.int .i64 ((refWhyT L fs).1), .int .i64 ((refWhyT L fs).2.1), .int .i64 ((refWhyT L fs).2.2), .int .i64 (refWhyE L fs)])) := by
  have b_L := bd_i64 i_L
  have a_fv := h_fv.any
  have l_fv := h_fv.len63
  have hS := St.start0 w
  refine enterR Try.func25 rfl Try.ntmps25 Try.results25 rfl ?_
  refine W.seq ?_
  refine W.reg ?_
  refine Wx.box (cs := [.int .i64 L, fv]) hS rfl rfl rfl (fun g_1 w_2 hx_4 hb_3 hS => ?_)
  refine Wx.rd (v := .int .i64 0) (rd_assign rfl) rfl ?_
  refine Wx.rd (v := .int .i64 0) (rd_assign rfl) rfl ?_
  refine Wx.rd (v := .int .i64 0) (rd_assign rfl) rfl ?_
  refine Wx.rd (v := .int .i64 0) (rd_assign rfl) rfl ?_
  refine Wx.nil ?_
  refine W.seq ?_
  refine W.reg ?_
  refine Wx.rd (v := .agg #[.int .i64 L, fv]) (rd_loadXs (ds := [.int .i64 L, fv]) hS 0 rfl rfl rfl rfl Try.isAgg27 Try.sizeOf27) rfl ?_
  refine Wx.callF (run_callF Try.call37 rfl) (F37 (in_i64 (by omega) (by omega)) (hS.arg a_fv)) rfl ?_
  rintro r_5 w_6 hx_7 rfl
  have hS := hS.ext hx_7
  refine Wx.rd (v := .int .i64 (checkE L fs)) (rd_assign rfl) rfl ?_
  refine Wx.nil ?_
  refine W.seq ?_
  refine W.seq ?_
  refine W.reg ?_
  refine Wx.rd (v := .int .i64 (checkE L fs)) (rd_move rfl) rfl ?_
  refine Wx.rd (v := .bool (decide ((checkE L fs) ≠ 0))) (rd_neq rfl rfl) rfl ?_
  refine Wx.nil ?_
  refine W.condD rfl (fun c0 => ?_) (fun c0 => ?_)
  · -- yes
    refine W.seq ?_
    refine W.reg ?_
    refine Wx.rd (v := .int .i64 (checkE L fs)) (rd_move rfl) rfl ?_
    refine Wx.rd (v := .int .i64 0) (rd_assign rfl) rfl ?_
    refine Wx.rd (v := .int .i64 0) (rd_assign rfl) rfl ?_
    refine Wx.rd (v := .int .i64 0) (rd_assign rfl) rfl ?_
    refine Wx.rd (v := .int .i64 (checkE L fs)) (rd_assign rfl) rfl ?_
    refine Wx.nil ?_
    have hE : refWhyE L fs = checkE L fs := by rw [refWhyE, if_pos (by omega)]
    have hl : refWhyT L fs = (0, 0, 0) := by rw [refWhyT, if_neg (by omega)]
    have e0_0 : ((refWhyT L fs).1) = (0 : Int) := by rw [hl]
    have e0_1 : ((refWhyT L fs).2.1) = (0 : Int) := by rw [hl]
    have e0_2 : ((refWhyT L fs).2.2) = (0 : Int) := by rw [hl]
    have e0_3 : (refWhyE L fs) = (checkE L fs : Int) := by exact hE
    exact W.ret ⟨.tuple #[.int .i64 0, .int .i64 0, .int .i64 0, .int .i64 (checkE L fs)], ResIs.four, hS.bel, (by rw [e0_0, e0_1, e0_2, e0_3])⟩
  · -- no
    have hk := check_ok (L := L) (fs := fs) (by omega)
    have hfl := fitL_len L fs hk.2.1
    refine W.skip ?_
    refine W.seq ?_
    refine W.seq ?_
    refine W.reg ?_
    refine Wx.rd (v := .pointer (some ⟨g_1, 0, none⟩)) (rd_fieldAddr rfl foRc_27_0) rfl ?_
    refine Wx.rd (v := .int .i64 L) (rd_loadX hS 0 rfl rfl rfl Try.isAgg3) rfl ?_
    refine Wx.rd (v := .pointer (some ⟨g_1, 1, none⟩)) (rd_fieldAddr rfl foRc_27_1) rfl ?_
    refine Wx.rd (v := fv) (rd_loadX hS 0 rfl rfl rfl Try.isAgg22) rfl ?_
    refine Wx.callF (run_callF Try.call64 rfl) (F64 (in_i64 (by omega) (by omega)) (hS.arg a_fv) (by omega) (by omega) hS.fb_lt) rfl ?_
    rintro r_8 w_9 hx_10 ⟨_, rfl, hv_11⟩
    have ln_13 := hv_11.len63
    have hS := hS.ext hx_10
    have hS := hS.add hv_11
    refine Wx.rd (v := .int .i64 ((fitL L fs).length : Int)) (rd_lenV rfl (hS.v 0 rfl) Try.underlying22) rfl ?_
    refine Wx.rd (v := .bool (decide (0 < ((fitL L fs).length : Int)))) (rd_gtr rfl rfl) rfl ?_
    refine Wx.nil ?_
    refine W.condD rfl (fun c1 => ?_) (fun c1 => ?_)
    · -- yes
      refine W.seq ?_
      refine W.reg ?_
      refine Wx.rd (v := .int .i64 0) (rd_assign rfl) rfl ?_
      refine Wx.rd (v := .int .i64 0) (rd_assign rfl) rfl ?_
      refine Wx.rd (v := .int .i64 0) (rd_assign rfl) rfl ?_
      refine Wx.rd (v := .int .i64 13) (rd_assign rfl) rfl ?_
      refine Wx.nil ?_
      have hE : refWhyE L fs = 13 := by rw [refWhyE, if_neg (by omega), if_pos (by omega)]
      have hl : refWhyT L fs = (0, 0, 0) := by rw [refWhyT, if_neg (by omega)]
      have e1_0 : ((refWhyT L fs).1) = (0 : Int) := by rw [hl]
      have e1_1 : ((refWhyT L fs).2.1) = (0 : Int) := by rw [hl]
      have e1_2 : ((refWhyT L fs).2.2) = (0 : Int) := by rw [hl]
      have e1_3 : (refWhyE L fs) = (13 : Int) := by exact hE
      exact W.ret ⟨.tuple #[.int .i64 0, .int .i64 0, .int .i64 0, .int .i64 13], ResIs.four, hS.bel, (by rw [e1_0, e1_1, e1_2, e1_3])⟩
    · -- no
      refine W.skip ?_
      refine W.seq ?_
      refine W.seq ?_
      refine W.reg ?_
      refine Wx.rd (v := .int .i64 0) (rd_assign rfl) rfl ?_
      refine Wx.nil ?_
      refine W.block ?_
      refine W.loop [2, 3, 4, 5, 7, 8, 9, 22, 23, 24, 25, 26, 27, 28, 29, 30, 31, 32, 33, 34, 35, 36, 37, 38, 39, 40, 41, 42, 43, 44, 45, 46, 47, 48, 49, 50, 51] (fun (a : Int) => [(7, .int .i64 a)]) (fun (a : Int) w' => St w [] w' [Ob.v (tSl (tSl (tI .i64))) (fitL L fs) r_8, .box g_1 27 [.int .i64 L, fv]] ∧ 0 ≤ a ∧ a ≤ L ∧ (tripA L (L - a).toNat).find? (apartRT fs) = (tripA L L.toNat).find? (apartRT fs)) (fun (a : Int) => (L - a).toNat) 0 ⟨rfl, trivial⟩ ⟨hS, (by first | omega | simp), (by first | omega | simp), (by simp)⟩ ?_
      rintro a u_15 w_14 ⟨hS, h0, h1, h2⟩
      refine W.seq ?_
      refine W.seq ?_
      refine W.reg ?_
      refine Wx.rd (v := .int .i64 a) (rd_move rfl) rfl ?_
      refine Wx.rd (v := .pointer (some ⟨g_1, 0, none⟩)) (rd_fieldAddr rfl foRc_27_0) rfl ?_
      refine Wx.rd (v := .int .i64 L) (rd_loadX hS 1 rfl rfl rfl Try.isAgg3) rfl ?_
      refine Wx.rd (v := .bool (decide (a < L))) (rd_lss rfl rfl) rfl ?_
      refine Wx.nil ?_
      refine W.condD rfl (fun c2 => ?_) (fun c2 => ?_)
      · -- yes
        refine W.skip ?_
        refine W.seq ?_
        refine W.block ?_
        refine W.seq ?_
        refine W.reg ?_
        refine Wx.rd (v := .int .i64 a) (rd_move rfl) rfl ?_
        refine Wx.rd (v := .int .i64 (a + 1)) (rd_add rfl rfl (in_i64 (by omega) (by omega))) rfl ?_
        refine Wx.rd (v := .int .i64 (a + 1)) (rd_assign rfl) rfl ?_
        refine Wx.nil ?_
        refine W.block ?_
        refine W.loop [2, 3, 4, 5, 8, 9, 30, 31, 32, 33, 34, 35, 36, 37, 38, 39, 40, 41, 42, 43, 44, 45, 46, 47, 48, 49, 50, 51] (fun (b : Int) => [(8, .int .i64 b)]) (fun (b : Int) w' => St w [] w' [Ob.v (tSl (tSl (tI .i64))) (fitL L fs) r_8, .box g_1 27 [.int .i64 L, fv]] ∧ a + 1 ≤ b ∧ b ≤ L ∧ (tripB L a (L - b).toNat ++ tripA L (L - (a + 1)).toNat).find? (apartRT fs) = (tripA L L.toNat).find? (apartRT fs)) (fun (b : Int) => (L - b).toNat) (a + 1) ⟨rfl, trivial⟩ ⟨hS, (by first | omega | simp), (by first | omega | simp), (by rw [← h2, show (L - a).toNat = (L - (a + 1)).toNat + 1 by omega, tripA, show L - (((L - (a + 1)).toNat : Nat) + 1 : Int) = a by omega])⟩ ?_
        rintro b u_17 w_16 ⟨hS, g0, g1, g2⟩
        refine W.seq ?_
        refine W.seq ?_
        refine W.reg ?_
        refine Wx.rd (v := .int .i64 b) (rd_move rfl) rfl ?_
        refine Wx.rd (v := .pointer (some ⟨g_1, 0, none⟩)) (rd_fieldAddr rfl foRc_27_0) rfl ?_
        refine Wx.rd (v := .int .i64 L) (rd_loadX hS 1 rfl rfl rfl Try.isAgg3) rfl ?_
        refine Wx.rd (v := .bool (decide (b < L))) (rd_lss rfl rfl) rfl ?_
        refine Wx.nil ?_
        refine W.condD rfl (fun c3 => ?_) (fun c3 => ?_)
        · -- yes
          refine W.skip ?_
          refine W.seq ?_
          refine W.block ?_
          refine W.seq ?_
          refine W.reg ?_
          refine Wx.rd (v := .int .i64 b) (rd_move rfl) rfl ?_
          refine Wx.rd (v := .int .i64 (b + 1)) (rd_add rfl rfl (in_i64 (by omega) (by omega))) rfl ?_
          refine Wx.rd (v := .int .i64 (b + 1)) (rd_assign rfl) rfl ?_
          refine Wx.nil ?_
          refine W.block ?_
          refine W.loop [2, 3, 4, 5, 9, 38, 39, 40, 41, 42, 43, 44, 45, 46, 47, 48, 49, 50, 51] (fun (c : Int) => [(9, .int .i64 c)]) (fun (c : Int) w' => St w [] w' [Ob.v (tSl (tSl (tI .i64))) (fitL L fs) r_8, .box g_1 27 [.int .i64 L, fv]] ∧ b + 1 ≤ c ∧ c ≤ L ∧ (tripC L a b (L - c).toNat ++ (tripB L a (L - (b + 1)).toNat ++ tripA L (L - (a + 1)).toNat)).find? (apartRT fs) = (tripA L L.toNat).find? (apartRT fs)) (fun (c : Int) => (L - c).toNat) (b + 1) ⟨rfl, trivial⟩ ⟨hS, (by first | omega | simp), (by first | omega | simp), (by rw [← g2, show (L - b).toNat = (L - (b + 1)).toNat + 1 by omega, tripB, show L - (((L - (b + 1)).toNat : Nat) + 1 : Int) = b by omega, List.append_assoc])⟩ ?_
          rintro c u_19 w_18 ⟨hS, k0, k1, k2⟩
          refine W.seq ?_
          refine W.seq ?_
          refine W.reg ?_
          refine Wx.rd (v := .int .i64 c) (rd_move rfl) rfl ?_
          refine Wx.rd (v := .pointer (some ⟨g_1, 0, none⟩)) (rd_fieldAddr rfl foRc_27_0) rfl ?_
          refine Wx.rd (v := .int .i64 L) (rd_loadX hS 1 rfl rfl rfl Try.isAgg3) rfl ?_
          refine Wx.rd (v := .bool (decide (c < L))) (rd_lss rfl rfl) rfl ?_
          refine Wx.nil ?_
          refine W.condD rfl (fun c4 => ?_) (fun c4 => ?_)
          · -- yes
            refine W.skip ?_
            refine W.seq ?_
            refine W.block ?_
            refine W.seq ?_
            refine W.reg ?_
            refine Wx.rd (v := .agg #[.int .i64 L, fv]) (rd_loadXs (ds := [.int .i64 L, fv]) hS 1 rfl rfl rfl rfl Try.isAgg27 Try.sizeOf27) rfl ?_
            refine Wx.rd (v := .int .i64 a) (rd_move rfl) rfl ?_
            refine Wx.rd (v := .int .i64 b) (rd_move rfl) rfl ?_
            refine Wx.rd (v := .int .i64 c) (rd_move rfl) rfl ?_
            refine Wx.callF (run_callF Try.call70 rfl) (F70 (in_i64 (by omega) (by omega)) (hS.arg a_fv) (in_i64 (by omega) (by omega)) (in_i64 (by omega) (by omega)) (in_i64 (by omega) (by omega)) hk.2.2.2 (by omega) (by omega) (by omega) (by omega) (by omega) (by omega) (by omega)) rfl ?_
            rintro r_20 w_21 hx_22 rfl
            have hS := hS.ext hx_22
            refine Wx.nil ?_
            refine W.cond rfl (fun c5 => ?_) (fun c5 => ?_)
            · -- yes
              try simp only [Bool.and_eq_true, Bool.or_eq_true, Bool.not_eq_true', Bool.and_eq_false_iff, Bool.or_eq_false_iff, Bool.not_eq_false', decide_eq_true_eq, decide_eq_false_iff_not, not_or, Bool.false_eq_true, Bool.true_eq_false, false_or, or_false, not_false_eq_true] at c5
              refine W.seq ?_
              refine W.reg ?_
              refine Wx.rd (v := .int .i64 a) (rd_move rfl) rfl ?_
              refine Wx.rd (v := .int .i64 b) (rd_move rfl) rfl ?_
              refine Wx.rd (v := .int .i64 c) (rd_move rfl) rfl ?_
              refine Wx.rd (v := .int .i64 a) (rd_assign rfl) rfl ?_
              refine Wx.rd (v := .int .i64 b) (rd_assign rfl) rfl ?_
              refine Wx.rd (v := .int .i64 c) (rd_assign rfl) rfl ?_
              refine Wx.rd (v := .int .i64 0) (rd_assign rfl) rfl ?_
              refine Wx.nil ?_
              have hF : refWhyF L fs = some (a, b, c) := by rw [refWhyF, ← k2, show (L - c).toNat = (L - (c + 1)).toNat + 1 by omega, tripC, show L - (((L - (c + 1)).toNat : Nat) + 1 : Int) = c by omega, List.cons_append, List.find?_cons_of_pos (by simp [apartRT, c5])]
              have hE : refWhyE L fs = 0 := by rw [refWhyE, if_neg (by omega), if_neg (by omega), hF]; rfl
              have hl : refWhyT L fs = (a, b, c) := by rw [refWhyT, if_pos hE, hF]; rfl
              have e2_0 : ((refWhyT L fs).1) = (a : Int) := by rw [hl]
              have e2_1 : ((refWhyT L fs).2.1) = (b : Int) := by rw [hl]
              have e2_2 : ((refWhyT L fs).2.2) = (c : Int) := by rw [hl]
              have e2_3 : (refWhyE L fs) = (0 : Int) := by exact hE
              exact W.ret ⟨.tuple #[.int .i64 a, .int .i64 b, .int .i64 c, .int .i64 0], ResIs.four, hS.bel, (by rw [e2_0, e2_1, e2_2, e2_3])⟩
            · -- no
              try simp only [Bool.and_eq_true, Bool.or_eq_true, Bool.not_eq_true', Bool.and_eq_false_iff, Bool.or_eq_false_iff, Bool.not_eq_false', decide_eq_true_eq, decide_eq_false_iff_not, not_or, Bool.false_eq_true, Bool.true_eq_false, false_or, or_false, not_false_eq_true] at c5
              refine W.skip ?_
              refine W.reg ?_
              refine Wx.rd (v := .int .i64 c) (rd_move rfl) rfl ?_
              refine Wx.rd (v := .int .i64 (c + 1)) (rd_add rfl rfl (in_i64 (by omega) (by omega))) rfl ?_
              refine Wx.rd (v := .int .i64 (c + 1)) (rd_assign rfl) rfl ?_
              refine Wx.nil ?_
              refine ⟨c + 1, (by show (L - (c + 1)).toNat < (L - c).toNat; omega), ?_, ?_, Out.look rfl Out.self⟩
              · exact ⟨hS, (by first | omega | assumption), (by first | omega | assumption), (by rw [← k2, show (L - c).toNat = (L - (c + 1)).toNat + 1 by omega, tripC, show L - (((L - (c + 1)).toNat : Nat) + 1 : Int) = c by omega, List.cons_append, List.find?_cons_of_neg (by simp [apartRT, c5])])⟩
              · exact ⟨rfl, trivial⟩
          · -- no
            refine W.exit rfl ?_
            refine W.reg ?_
            refine Wx.rd (v := .int .i64 b) (rd_move rfl) rfl ?_
            refine Wx.rd (v := .int .i64 (b + 1)) (rd_add rfl rfl (in_i64 (by omega) (by omega))) rfl ?_
            refine Wx.rd (v := .int .i64 (b + 1)) (rd_assign rfl) rfl ?_
            refine Wx.nil ?_
            refine ⟨b + 1, (by show (L - (b + 1)).toNat < (L - b).toNat; omega), ?_, ?_, Out.look rfl (Out.hav rfl (Out.look rfl Out.self))⟩
            · exact ⟨hS, (by first | omega | assumption), (by first | omega | assumption), (by rw [← k2, show (L - c).toNat = 0 by omega, tripC, List.nil_append])⟩
            · exact ⟨rfl, trivial⟩
        · -- no
          refine W.exit rfl ?_
          refine W.reg ?_
          refine Wx.rd (v := .int .i64 a) (rd_move rfl) rfl ?_
          refine Wx.rd (v := .int .i64 (a + 1)) (rd_add rfl rfl (in_i64 (by omega) (by omega))) rfl ?_
          refine Wx.rd (v := .int .i64 (a + 1)) (rd_assign rfl) rfl ?_
          refine Wx.nil ?_
          refine ⟨a + 1, (by show (L - (a + 1)).toNat < (L - a).toNat; omega), ?_, ?_, Out.look rfl (Out.hav rfl (Out.look rfl Out.self))⟩
          · exact ⟨hS, (by first | omega | assumption), (by first | omega | assumption), (by rw [← g2, show (L - b).toNat = 0 by omega, tripB, List.nil_append])⟩
          · exact ⟨rfl, trivial⟩
      · -- no
        refine W.exit rfl ?_
        refine W.seq ?_
        refine W.reg ?_
        refine Wx.rd (v := .int .i64 0) (rd_assign rfl) rfl ?_
        refine Wx.rd (v := .int .i64 0) (rd_assign rfl) rfl ?_
        refine Wx.rd (v := .int .i64 0) (rd_assign rfl) rfl ?_
        refine Wx.rd (v := .int .i64 14) (rd_assign rfl) rfl ?_
        refine Wx.nil ?_
        have hF : refWhyF L fs = none := by rw [refWhyF, ← h2, show (L - a).toNat = 0 by omega]; rfl
        have hE : refWhyE L fs = 14 := by rw [refWhyE, if_neg (by omega), if_neg (by omega), hF]; rfl
        have hl : refWhyT L fs = (0, 0, 0) := by rw [refWhyT, if_neg (by omega)]
        have e3_0 : ((refWhyT L fs).1) = (0 : Int) := by rw [hl]
        have e3_1 : ((refWhyT L fs).2.1) = (0 : Int) := by rw [hl]
        have e3_2 : ((refWhyT L fs).2.2) = (0 : Int) := by rw [hl]
        have e3_3 : (refWhyE L fs) = (14 : Int) := by exact hE
        exact W.ret ⟨.tuple #[.int .i64 0, .int .i64 0, .int .i64 0, .int .i64 14], ResIs.four, hS.bel, (by rw [e3_0, e3_1, e3_2, e3_3])⟩
end Go.Proofs.Ytjmpojoimcljoaa
