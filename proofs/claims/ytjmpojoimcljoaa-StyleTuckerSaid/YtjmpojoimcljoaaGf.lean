/-
  WHAT IS PROVED HERE: what functions of layer 3 hand back, each out of its own code; the conditions stand in each statement.
-/
import Derived.Test.YtjmpojoimcljoaaProg
import Derived.Test.YtjmpojoimcljoaaWk9
import Derived.Test.YtjmpojoimcljoaaSpec6
import Derived.Test.YtjmpojoimcljoaaFa
import Derived.Test.YtjmpojoimcljoaaFj
import Derived.Test.YtjmpojoimcljoaaGa
import Derived.Test.YtjmpojoimcljoaaGc
import Derived.Test.YtjmpojoimcljoaaSpec7
namespace Go.Proofs.Ytjmpojoimcljoaa
open Go.Wk Go.RowKit
set_option linter.unusedVariables false
set_option linter.unusedSimpArgs false
theorem mixedGf_ : Try.prog.follows .mixedOrders = true := by kernel_rfl
theorem foGf_24_0 : fldOff Try.prog 24 0 = some 0 := by kernel_rfl
theorem elGf_28 : ElemI Try.prog 28 3 (.int .i64 0) 1 8 := ElemI.of Try.underlying28 (by kernel_rfl) (by first | rfl | kernel_rfl) (by decide)
theorem foGf_24_1 : fldOff Try.prog 24 1 = some 1 := by kernel_rfl

theorem F47 {L : Int} {fv : Value} {fs : List (List Int)} {Fr_fv : List (Option Nat)} {a : Int} {b : Int} {c : Int} {w : World} (i_L : InK .i64 L) (h_fv : V (tSl (tSl (tI .i64))) fs fv Fr_fv w) (i_a : InK .i64 a) (i_b : InK .i64 b) (i_c : InK .i64 c) (p_0 : 0 ≤ L) (p_7 : L ≤ 7) (p_f : okF L fs) (p_a : 0 ≤ a ∧ a < L) (p_b : 0 ≤ b ∧ b < L) (p_c : 0 ≤ c ∧ c < L) : Calls Try.prog 47 #[.agg #[.int .i64 L, fv], .agg #[.int .i64 a, .int .i64 b, .int .i64 c]] w (Ret w (fun r _ => r = .bool (apartW L fs a b c))) := by
  have b_c := bd_i64 i_c
  have b_b := bd_i64 i_b
  have b_a := bd_i64 i_a
  have b_L := bd_i64 i_L
  have a_fv := h_fv.any
  have l_fv := h_fv.len63
  have hS := St.start0 w
  refine enterR Try.func47 rfl Try.ntmps47 Try.results47 rfl ?_
  refine W.seq ?_
  refine W.reg ?_
  refine Wx.box (cs := [.int .i64 L, fv]) hS rfl rfl rfl (fun g_1 w_2 hx_4 hb_3 hS => ?_)
  refine Wx.box (cs := [.int .i64 a, .int .i64 b, .int .i64 c]) hS rfl rfl rfl (fun g_5 w_6 hx_8 hb_7 hS => ?_)
  refine Wx.rd (v := .bool false) (rd_assign rfl) rfl ?_
  refine Wx.nil ?_
  refine W.seq ?_
  refine W.seq ?_
  refine W.reg ?_
  refine Wx.rd (v := .agg #[.int .i64 a, .int .i64 b, .int .i64 c]) (rd_loadXs (ds := [.int .i64 a, .int .i64 b, .int .i64 c]) hS 0 rfl rfl rfl rfl Try.isAgg69 Try.sizeOf69) rfl ?_
  refine Wx.rd (v := .int .i64 0) (rd_move rfl) rfl ?_
  refine Wx.nil ?_
  refine W.block ?_
  refine W.loop [4, 5, 6, 7, 8, 9, 10, 12, 14, 15, 16, 17, 18, 20, 21, 22, 23, 24, 25, 26, 27, 28, 29, 30, 31, 32, 33, 34, 35, 36, 37, 38, 39, 40, 41, 42, 43, 44, 45, 46, 47, 48, 49, 50, 51, 52, 53, 54, 55, 56, 57, 58, 59, 60, 61, 62, 63, 64, 65, 66, 67, 68, 69, 70, 71, 72, 73, 74, 75, 76, 77, 78, 79, 80, 81, 82, 83, 84, 85, 86, 87, 88, 89, 90, 91, 92, 93, 94, 95, 96, 97, 98, 99] (fun (i : Int) => [(20, .int .i64 i)]) (fun (i : Int) w' => St w [] w' [.box g_5 69 [.int .i64 a, .int .i64 b, .int .i64 c], .box g_1 24 [.int .i64 L, fv]] ∧ 0 ≤ i ∧ i ≤ 3 ∧ (up 3 (3 - i).toNat).all (apartI L fs [a, b, c]) = apartW L fs a b c) (fun (i : Int) => (3 - i).toNat) 0 ⟨rfl, trivial⟩ ⟨hS, (by first | omega | simp), (by first | omega | simp), (rfl)⟩ ?_
  rintro i u_10 w_9 ⟨hS, h0, h1, h2⟩
  refine W.seq ?_
  refine W.reg ?_
  refine Wx.rd (v := .bool (decide (i < 3))) (rd_lss rfl rfl) rfl ?_
  refine Wx.nil ?_
  refine W.seq ?_
  refine W.condD rfl (fun c0 => ?_) (fun c0 => ?_)
  · -- yes
    refine W.skip ?_
    refine W.seq ?_
    refine W.block ?_
    refine W.seq ?_
    refine W.reg ?_
    have hx0 : 0 ≤ ix 0 [a, b, c] i ∧ ix 0 [a, b, c] i < L := ix3 (p := fun x => 0 ≤ x ∧ x < L) h0 c0 p_a p_b p_c
    have hx1 : 0 ≤ ix 0 [a, b, c] ((i + 1) % 3) ∧ ix 0 [a, b, c] ((i + 1) % 3) < L := ix3 (p := fun x => 0 ≤ x ∧ x < L) (by omega) (by omega) p_a p_b p_c
    have hx2 : 0 ≤ ix 0 [a, b, c] ((i + 2) % 3) ∧ ix 0 [a, b, c] ((i + 2) % 3) < L := ix3 (p := fun x => 0 ≤ x ∧ x < L) (by omega) (by omega) p_a p_b p_c
    refine Wx.rd (v := .int .i64 i) (rd_move rfl) rfl ?_
    refine Wx.rd (v := .int .i64 (ix 0 [a, b, c] i)) (rd_indexVi (d := (0 : Int)) (f := Value.int .i64) (xs := [a, b, c]) rfl rfl Try.underlying69 Try.sizeOf3 Try.isAgg3 rfl rfl (by omega) (by simp; omega)) rfl ?_
    refine Wx.rd (v := .int .i64 i) (rd_assign rfl) rfl ?_
    refine Wx.rd (v := .int .i64 (ix 0 [a, b, c] i)) (rd_assign rfl) rfl ?_
    refine Wx.nil ?_
    refine W.seq ?_
    refine W.regQ mixedGf_ (by kernel_rfl) ?_
    refine Wx.rd (v := .int .i64 i) (rd_move rfl) rfl ?_
    refine Wx.rd (v := .int .i64 (i + 1)) (rd_add rfl rfl (in_i64 (by omega) (by omega))) rfl ?_
    refine Wx.rd (v := .int .i64 ((i + 1) % 3)) (rd_rem rfl rfl (by omega) (by omega)) rfl ?_
    refine Wx.rd (v := .pointer (some ⟨g_5, 0 + ((i + 1) % 3).toNat * 1, none⟩)) (rd_indexArr (n := (i + 1) % 3) rfl rfl Try.underlying69 Try.sizeOf3 (by omega) (by omega)) rfl ?_
    refine Wx.rd (v := .int .i64 (ix 0 [a, b, c] ((i + 1) % 3))) (rd_loadXi (d := (0 : Int)) (f := Value.int .i64) (xs := [a, b, c]) hS 0 rfl rfl rfl (by omega) (by simp; omega) Try.isAgg3) rfl ?_
    refine Wx.rd (v := .int .i64 i) (rd_move rfl) rfl ?_
    refine Wx.rd (v := .int .i64 (i + 2)) (rd_add rfl rfl (in_i64 (by omega) (by omega))) rfl ?_
    refine Wx.rd (v := .int .i64 ((i + 2) % 3)) (rd_rem rfl rfl (by omega) (by omega)) rfl ?_
    refine Wx.rd (v := .pointer (some ⟨g_5, 0 + ((i + 2) % 3).toNat * 1, none⟩)) (rd_indexArr (n := (i + 2) % 3) rfl rfl Try.underlying69 Try.sizeOf3 (by omega) (by omega)) rfl ?_
    refine Wx.rd (v := .int .i64 (ix 0 [a, b, c] ((i + 2) % 3))) (rd_loadXi (d := (0 : Int)) (f := Value.int .i64) (xs := [a, b, c]) hS 0 rfl rfl rfl (by omega) (by simp; omega) Try.isAgg3) rfl ?_
    refine Wx.rd (v := .int .i64 (ix 0 [a, b, c] ((i + 1) % 3))) (rd_assign rfl) rfl ?_
    refine Wx.rd (v := .int .i64 (ix 0 [a, b, c] ((i + 2) % 3))) (rd_assign rfl) rfl ?_
    refine Wx.nilQ (fun w_11 hx_12 => ?_)
    have hS := hS.ext hx_12
    refine W.seq ?_
    refine W.reg ?_
    refine Wx.rd (v := .pointer (some ⟨g_1, 0, none⟩)) (rd_fieldAddr rfl foGf_24_0) rfl ?_
    refine Wx.rd (v := .int .i64 L) (rd_loadX hS 1 rfl rfl rfl Try.isAgg3) rfl ?_
    obtain ⟨n_16, hn_17⟩ : ∃ n_16 : Nat, (L : Int) = (n_16 : Int) := ⟨(L).toNat, by omega⟩
    refine Wx.make (t := (tI .i64)) (zy := 0) (m := n_16) elGf_28 rfl rfl (fun _ _ => ⟨rfl, by decide, by decide⟩) hS (congrArg (Value.int .i64) hn_17) (congrArg (Value.int .i64) hn_17) (by omega) (by simp only [maxLen]; omega) rfl (fun v_13 w_14 hx_15 hS => ?_)
    refine Wx.rd (v := v_13) (rd_assign rfl) rfl ?_
    refine Wx.nil ?_
    refine W.seq ?_
    refine W.seq ?_
    refine W.reg ?_
    refine Wx.rd (v := v_13) (rd_move rfl) rfl ?_
    refine Wx.rd (v := .int .i64 ((List.replicate n_16 0).length : Int)) (rd_lenR hS 0 rfl rfl Try.underlying28) rfl ?_
    refine Wx.rd (v := .int .i64 0) (rd_move rfl) rfl ?_
    refine Wx.nil ?_
    refine W.block ?_
    refine W.loop [10, 39, 40, 41, 42, 43, 44, 45, 46] (fun x : Int × (List Int) => match x with | (x, lab) => [(39, .int .i64 x)]) (fun (x : Int × (List Int)) w' => match x with | (x, lab) => St w [] w' [.row (tI .i64) 3 v_13 lab, .box g_5 69 [.int .i64 a, .int .i64 b, .int .i64 c], .box g_1 24 [.int .i64 L, fv]] ∧ 0 ≤ x ∧ x ≤ L ∧ lab = up x x.toNat ++ List.replicate (L - x).toNat 0 ∧ (lab.length : Int) = L) (fun x : Int × (List Int) => match x with | (x, lab) => (L - x).toNat) (0, List.replicate n_16 0) ⟨rfl, trivial⟩ ⟨hS, (by first | omega | simp), (by first | omega | simp), (up_start0 (by omega)), (by simp; omega)⟩ ?_
    rintro ⟨x, lab⟩ u_19 w_18 ⟨hS, g0, g1, g2, g3⟩
    refine W.seq ?_
    refine W.reg ?_
    refine Wx.rd (v := .bool (decide (x < ((List.replicate n_16 0).length : Int)))) (rd_lss rfl rfl) rfl ?_
    refine Wx.nil ?_
    refine W.seq ?_
    refine W.condD rfl (fun c1 => ?_) (fun c1 => ?_)
    · -- yes
      simp only [List.length_replicate] at c1
      refine W.skip ?_
      refine W.seq ?_
      refine W.block ?_
      refine W.seq ?_
      refine W.reg ?_
      refine Wx.rd (v := .int .i64 x) (rd_move rfl) rfl ?_
      refine Wx.rd (v := .int .i64 x) (rd_assign rfl) rfl ?_
      refine Wx.nil ?_
      refine W.reg ?_
      refine Wx.rd (v := v_13) (rd_move rfl) rfl ?_
      refine Wx.rd (v := .int .i64 x) (rd_move rfl) rfl ?_
      refine Wx.rd (v := .int .i64 x) (rd_move rfl) rfl ?_
      refine Wx.indexR hS 0 rfl rfl rfl Try.underlying28 Try.sizeOf3 (by first | omega | (simp only [List.length_set, List.length_append, List.length_cons, List.length_nil, List.length_replicate]; omega)) (by first | omega | (simp only [List.length_set, List.length_append, List.length_cons, List.length_nil, List.length_replicate]; omega)) rfl (fun g_20 hg_21 => ?_)
      refine Wx.storeR (j := x.toNat) (z := x) hS 0 rfl hg_21 rfl (by first | omega | (simp only [List.length_set, List.length_append, List.length_cons, List.length_nil, List.length_replicate]; omega)) rfl (V.mkInt (in_i64 (by omega) (by omega))) Try.sizeOf3 (fun w_22 hz_23 hS => ?_)
      have hS := hS.spell (ys' := (up (x + 1) (x + 1).toNat ++ List.replicate (L - (x + 1)).toNat 0)) 0 rfl (by rw [g2]; exact fill_step g0 (by omega))
      refine Wx.nil ?_
      refine W.reg ?_
      refine Wx.rd (v := .int .i64 (x + 1)) (rd_add rfl rfl (in_i64 (by omega) (by omega))) rfl ?_
      refine Wx.rd (v := .int .i64 (x + 1)) (rd_move rfl) rfl ?_
      refine Wx.nil ?_
      refine ⟨(x + 1, (up (x + 1) (x + 1).toNat ++ List.replicate (L - (x + 1)).toNat 0)), (by show (L - (x + 1)).toNat < (L - x).toNat; omega), ?_, ?_, Out.look rfl Out.self⟩
      · exact ⟨hS, (by first | omega | assumption), (by first | omega | assumption), (rfl), (by simp [up_len]; omega)⟩
      · exact ⟨rfl, trivial⟩
    · -- no
      simp only [List.length_replicate] at c1
      refine W.exit rfl ?_
      refine W.seq ?_
      refine W.seq ?_
      refine W.reg ?_
      refine Wx.rd (v := .pointer (some ⟨g_1, 1, none⟩)) (rd_fieldAddr rfl foGf_24_1) rfl ?_
      refine Wx.rd (v := fv) (rd_loadX hS 2 rfl rfl rfl Try.isAgg22) rfl ?_
      refine Wx.rd (v := .int .i64 (fs.length : Int)) (rd_lenV rfl (hS.arg a_fv) Try.underlying22) rfl ?_
      refine Wx.rd (v := .int .i64 0) (rd_move rfl) rfl ?_
      refine Wx.nil ?_
      refine W.block ?_
      refine W.loop [12, 14, 15, 16, 17, 18, 50, 51, 52, 53, 54, 55, 56, 57, 58, 59, 60, 61, 62, 63, 64, 65, 66, 67, 68, 69, 70, 71, 72, 73, 74, 75, 76, 77, 78, 79, 80, 81, 82, 83, 84, 85, 86, 87, 88, 89] (fun x : Int × (List Int) => match x with | (k, lab4) => [(50, .int .i64 k)]) (fun (x : Int × (List Int)) w' => match x with | (k, lab4) => St w [] w' [.row (tI .i64) 3 v_13 lab4, .box g_5 69 [.int .i64 a, .int .i64 b, .int .i64 c], .box g_1 24 [.int .i64 L, fv]] ∧ 0 ≤ k ∧ k ≤ fs.length ∧ labF (ix 0 [a, b, c] i) (fs.drop k.toNat) lab4 = labW L fs (ix 0 [a, b, c] i) ∧ (lab4.length : Int) = L) (fun x : Int × (List Int) => match x with | (k, lab4) => (fs.length - k).toNat) (0, lab) ⟨rfl, trivial⟩ ⟨hS, (by first | omega | simp), (by first | omega | simp), (by rw [g2, show x = L by omega, show (L - L).toNat = 0 by omega]; simp [labW]), (g3)⟩ ?_
      rintro ⟨k, lab4⟩ u_25 w_24 ⟨hS, k0, k1, k2, k3⟩
      refine W.seq ?_
      refine W.reg ?_
      refine Wx.rd (v := .bool (decide (k < (fs.length : Int)))) (rd_lss rfl rfl) rfl ?_
      refine Wx.nil ?_
      refine W.seq ?_
      refine W.condD rfl (fun c2 => ?_) (fun c2 => ?_)
      · -- yes
        refine W.skip ?_
        refine W.seq ?_
        refine W.block ?_
        refine W.seq ?_
        refine W.reg ?_
        refine Wx.ex (rd_index [] (hS.arg a_fv) rfl rfl Try.underlying22 Try.sizeOf28 (by first | omega | (simp only [List.length_set, List.length_append, List.length_cons, List.length_nil, List.length_replicate]; omega)) (by first | omega | (simp only [List.length_set, List.length_append, List.length_cons, List.length_nil, List.length_replicate]; omega))) rfl (fun p_26 hp_27 => ?_)
        refine Wx.ex (rd_load hp_27 rfl Try.isAgg28 Try.sizeOf28) rfl (fun v_28 hv_29 => ?_)
        have ln_30 := hv_29.len63
        have hS := hS.add hv_29
        refine Wx.rd (v := v_28) (rd_assign rfl) rfl ?_
        refine Wx.nil ?_
        refine W.seq ?_
        refine W.seq ?_
        refine W.reg ?_
        refine Wx.rd (v := v_28) (rd_move rfl) rfl ?_
        refine Wx.rd (v := .int .i64 (ix 0 [a, b, c] i)) (rd_move rfl) rfl ?_
        refine Wx.callF (run_callF Try.call57 rfl) (F57 (hS.v 0 rfl) (in_i64 (by omega) (by omega))) rfl ?_
        rintro r_32 w_33 hx_34 rfl
        have hS := hS.ext hx_34
        refine Wx.nil ?_
        refine W.cond rfl (fun c3 => ?_) (fun c3 => ?_)
        · -- yes
          try simp only [Bool.and_eq_true, Bool.or_eq_true, Bool.not_eq_true', Bool.and_eq_false_iff, Bool.or_eq_false_iff, Bool.not_eq_false', decide_eq_true_eq, decide_eq_false_iff_not, not_or, Bool.false_eq_true, Bool.true_eq_false, false_or, or_false, not_false_eq_true] at c3
          refine W.exit rfl ?_
          refine W.reg ?_
          refine Wx.rd (v := .int .i64 (k + 1)) (rd_add rfl rfl (in_i64 (by omega) (by omega))) rfl ?_
          refine Wx.rd (v := .int .i64 (k + 1)) (rd_move rfl) rfl ?_
          refine Wx.nil ?_
          refine ⟨(k + 1, lab4), (by show (fs.length - (k + 1)).toNat < (fs.length - k).toNat; omega), ?_, ?_, Out.look rfl Out.self⟩
          · exact ⟨hS.tl, (by first | omega | assumption), (by first | omega | assumption), (by rw [← k2, drop_ix (d := []) k0 c2, labF, if_pos c3]), (k3)⟩
          · exact ⟨rfl, trivial⟩
        · -- no
          try simp only [Bool.and_eq_true, Bool.or_eq_true, Bool.not_eq_true', Bool.and_eq_false_iff, Bool.or_eq_false_iff, Bool.not_eq_false', decide_eq_true_eq, decide_eq_false_iff_not, not_or, Bool.false_eq_true, Bool.true_eq_false, false_or, or_false, not_false_eq_true] at c3
          refine W.skip ?_
          refine W.seq ?_
          refine W.reg ?_
          refine Wx.rd (v := v_28) (rd_move rfl) rfl ?_
          refine Wx.rd (v := .int .i64 ((ix [] fs k).length : Int)) (rd_lenV rfl (hS.v 0 rfl) Try.underlying28) rfl ?_
          refine Wx.rd (v := .int .i64 0) (rd_move rfl) rfl ?_
          refine Wx.nil ?_
          refine W.block ?_
          refine W.loop [14, 15, 16, 17, 18, 59, 60, 61, 62, 63, 64, 65, 66, 67, 68, 69, 70, 71, 72, 73, 74, 75, 76, 77, 78, 79, 80, 81, 82, 83, 84, 85, 86, 87, 88] (fun x : Int × (List Int) => match x with | (q, lab6) => [(59, .int .i64 q)]) (fun (x : Int × (List Int)) w' => match x with | (q, lab6) => St w [] w' [Ob.v (tSl (tI .i64)) (ix [] fs k) v_28, .row (tI .i64) 3 v_13 lab6, .box g_5 69 [.int .i64 a, .int .i64 b, .int .i64 c], .box g_1 24 [.int .i64 L, fv]] ∧ 0 ≤ q ∧ q ≤ (ix [] fs k).length ∧ labF (ix 0 [a, b, c] i) (fs.drop (k + 1).toNat) (labX (ix 0 (ix [] fs k) 0) ((ix [] fs k).drop q.toNat) lab6) = labW L fs (ix 0 [a, b, c] i) ∧ (lab6.length : Int) = L) (fun x : Int × (List Int) => match x with | (q, lab6) => ((ix [] fs k).length - q).toNat) (0, lab4) ⟨rfl, trivial⟩ ⟨hS, (by first | omega | simp), (by first | omega | simp), (by rw [← k2, drop_ix (d := []) k0 c2, labF, if_neg (by rw [c3]; decide)]; rfl), (k3)⟩ ?_
          rintro ⟨q, lab6⟩ u_36 w_35 ⟨hS, m0, m1, m2, m3⟩
          refine W.seq ?_
          refine W.reg ?_
          refine Wx.rd (v := .bool (decide (q < ((ix [] fs k).length : Int)))) (rd_lss rfl rfl) rfl ?_
          refine Wx.nil ?_
          refine W.seq ?_
          refine W.condD rfl (fun c4 => ?_) (fun c4 => ?_)
          · -- yes
            refine W.skip ?_
            refine W.seq ?_
            refine W.block ?_
            refine W.seq ?_
            refine W.reg ?_
            refine Wx.ex (rd_index 0 (hS.v 0 rfl) rfl rfl Try.underlying28 Try.sizeOf3 (by first | omega | (simp only [List.length_set, List.length_append, List.length_cons, List.length_nil, List.length_replicate]; omega)) (by first | omega | (simp only [List.length_set, List.length_append, List.length_cons, List.length_nil, List.length_replicate]; omega))) rfl (fun p_37 hp_38 => ?_)
            refine Wx.rd (v := .int .i64 (ix 0 (ix [] fs k) q)) (rd_loadI hp_38 rfl Try.isAgg3 Try.sizeOf3) rfl ?_
            have bd_39 := bd_i64 hp_38.inK
            refine Wx.rd (v := .int .i64 (ix 0 (ix [] fs k) q)) (rd_assign rfl) rfl ?_
            refine Wx.nil ?_
            refine W.seq ?_
            refine W.regQ mixedGf_ (by kernel_rfl) ?_
            refine Wx.rd (v := v_13) (rd_move rfl) rfl ?_
            refine Wx.rd (v := .int .i64 (ix 0 (ix [] fs k) q)) (rd_move rfl) rfl ?_
            have hF := p_f (ix [] fs k) (List.mem_of_getElem? (ix_get (d := []) c2 k0))
            have hFq := hF (ix 0 (ix [] fs k) q) (ix_mem m0 c4)
            have hF0 := hF (ix 0 (ix [] fs k) 0) (ix_mem (Int.le_refl _) (by omega))
            refine Wx.indexR hS 1 rfl rfl rfl Try.underlying28 Try.sizeOf3 (by first | omega | (simp only [List.length_set, List.length_append, List.length_cons, List.length_nil, List.length_replicate]; omega)) (by first | omega | (simp only [List.length_set, List.length_append, List.length_cons, List.length_nil, List.length_replicate]; omega)) rfl (fun g_40 hg_41 => ?_)
            refine Wx.rd (v := .int .i64 (ix 0 lab6 (ix 0 (ix [] fs k) q))) (rd_loadRI' hS 1 rfl hg_41 rfl (by first | omega | (simp only [List.length_set, List.length_append, List.length_cons, List.length_nil, List.length_replicate]; omega)) (by first | omega | (simp only [List.length_set, List.length_append, List.length_cons, List.length_nil, List.length_replicate]; omega)) Try.isAgg3 Try.sizeOf3) rfl ?_
            have bd_42 := bd_i64 (hS.rowInK' 1 rfl (by first | omega | (simp only [List.length_set, List.length_append, List.length_cons, List.length_nil, List.length_replicate]; omega)) (by first | omega | (simp only [List.length_set, List.length_append, List.length_cons, List.length_nil, List.length_replicate]; omega)) : InK .i64 (ix 0 lab6 (ix 0 (ix [] fs k) q)))
            refine Wx.rd (v := v_13) (rd_move rfl) rfl ?_
            refine Wx.rd (v := v_28) (rd_move rfl) rfl ?_
            refine Wx.ex (rd_index 0 (hS.v 0 rfl) rfl rfl Try.underlying28 Try.sizeOf3 (by first | omega | (simp only [List.length_set, List.length_append, List.length_cons, List.length_nil, List.length_replicate]; omega)) (by first | omega | (simp only [List.length_set, List.length_append, List.length_cons, List.length_nil, List.length_replicate]; omega))) rfl (fun p_43 hp_44 => ?_)
            refine Wx.rd (v := .int .i64 (ix 0 (ix [] fs k) 0)) (rd_loadI hp_44 rfl Try.isAgg3 Try.sizeOf3) rfl ?_
            have bd_45 := bd_i64 hp_44.inK
            refine Wx.indexR hS 1 rfl rfl rfl Try.underlying28 Try.sizeOf3 (by first | omega | (simp only [List.length_set, List.length_append, List.length_cons, List.length_nil, List.length_replicate]; omega)) (by first | omega | (simp only [List.length_set, List.length_append, List.length_cons, List.length_nil, List.length_replicate]; omega)) rfl (fun g_46 hg_47 => ?_)
            refine Wx.rd (v := .int .i64 (ix 0 lab6 (ix 0 (ix [] fs k) 0))) (rd_loadRI' hS 1 rfl hg_47 rfl (by first | omega | (simp only [List.length_set, List.length_append, List.length_cons, List.length_nil, List.length_replicate]; omega)) (by first | omega | (simp only [List.length_set, List.length_append, List.length_cons, List.length_nil, List.length_replicate]; omega)) Try.isAgg3 Try.sizeOf3) rfl ?_
            have bd_48 := bd_i64 (hS.rowInK' 1 rfl (by first | omega | (simp only [List.length_set, List.length_append, List.length_cons, List.length_nil, List.length_replicate]; omega)) (by first | omega | (simp only [List.length_set, List.length_append, List.length_cons, List.length_nil, List.length_replicate]; omega)) : InK .i64 (ix 0 lab6 (ix 0 (ix [] fs k) 0)))
            refine Wx.rd (v := .int .i64 (ix 0 lab6 (ix 0 (ix [] fs k) q))) (rd_assign rfl) rfl ?_
            refine Wx.rd (v := .int .i64 (ix 0 lab6 (ix 0 (ix [] fs k) 0))) (rd_assign rfl) rfl ?_
            refine Wx.nilQ (fun w_49 hx_50 => ?_)
            have hS := hS.ext hx_50
            refine W.seq ?_
            refine W.reg ?_
            refine Wx.rd (v := v_13) (rd_move rfl) rfl ?_
            refine Wx.rd (v := .int .i64 (lab6.length : Int)) (rd_lenR hS 1 rfl rfl Try.underlying28) rfl ?_
            refine Wx.rd (v := .int .i64 0) (rd_move rfl) rfl ?_
            refine Wx.nil ?_
            refine W.block ?_
            refine W.loop [17, 18, 75, 76, 77, 78, 79, 80, 81, 82, 83, 84, 85, 86, 87] (fun x : Int × (List Int) => match x with | (y, lab8) => [(75, .int .i64 y)]) (fun (x : Int × (List Int)) w' => match x with | (y, lab8) => St w [] w' [Ob.v (tSl (tI .i64)) (ix [] fs k) v_28, .row (tI .i64) 3 v_13 lab8, .box g_5 69 [.int .i64 a, .int .i64 b, .int .i64 c], .box g_1 24 [.int .i64 L, fv]] ∧ 0 ≤ y ∧ y ≤ lab6.length ∧ lab8 = (relab (ix 0 lab6 (ix 0 (ix [] fs k) q)) (ix 0 lab6 (ix 0 (ix [] fs k) 0)) lab6).take y.toNat ++ lab6.drop y.toNat ∧ (lab8.length : Int) = L) (fun x : Int × (List Int) => match x with | (y, lab8) => (lab6.length - y).toNat) (0, lab6) ⟨rfl, trivial⟩ ⟨hS, (by first | omega | simp), (by first | omega | simp), (by simp), (m3)⟩ ?_
            rintro ⟨y, lab8⟩ u_52 w_51 ⟨hS, n0, n1, n2, n3⟩
            refine W.seq ?_
            refine W.reg ?_
            refine Wx.rd (v := .bool (decide (y < (lab6.length : Int)))) (rd_lss rfl rfl) rfl ?_
            refine Wx.nil ?_
            refine W.seq ?_
            refine W.condD rfl (fun c5 => ?_) (fun c5 => ?_)
            · -- yes
              refine W.skip ?_
              refine W.seq ?_
              refine W.block ?_
              refine W.seq ?_
              refine W.reg ?_
              refine Wx.rd (v := .int .i64 y) (rd_move rfl) rfl ?_
              refine Wx.indexR hS 1 rfl rfl rfl Try.underlying28 Try.sizeOf3 (by first | omega | (simp only [List.length_set, List.length_append, List.length_cons, List.length_nil, List.length_replicate]; omega)) (by first | omega | (simp only [List.length_set, List.length_append, List.length_cons, List.length_nil, List.length_replicate]; omega)) rfl (fun g_53 hg_54 => ?_)
              refine Wx.rd (v := .int .i64 (ix 0 lab8 y)) (rd_loadRI' hS 1 rfl hg_54 rfl (by first | omega | (simp only [List.length_set, List.length_append, List.length_cons, List.length_nil, List.length_replicate]; omega)) (by first | omega | (simp only [List.length_set, List.length_append, List.length_cons, List.length_nil, List.length_replicate]; omega)) Try.isAgg3 Try.sizeOf3) rfl ?_
              have bd_55 := bd_i64 (hS.rowInK' 1 rfl (by first | omega | (simp only [List.length_set, List.length_append, List.length_cons, List.length_nil, List.length_replicate]; omega)) (by first | omega | (simp only [List.length_set, List.length_append, List.length_cons, List.length_nil, List.length_replicate]; omega)) : InK .i64 (ix 0 lab8 y))
              refine Wx.rd (v := .int .i64 y) (rd_assign rfl) rfl ?_
              refine Wx.rd (v := .int .i64 (ix 0 lab8 y)) (rd_assign rfl) rfl ?_
              refine Wx.nil ?_
              refine W.seq ?_
              refine W.reg ?_
              refine Wx.rd (v := .int .i64 (ix 0 lab8 y)) (rd_move rfl) rfl ?_
              refine Wx.rd (v := .int .i64 (ix 0 lab6 (ix 0 (ix [] fs k) q))) (rd_move rfl) rfl ?_
              refine Wx.rd (v := .bool (decide ((ix 0 lab8 y) = (ix 0 lab6 (ix 0 (ix [] fs k) q))))) (rd_eql rfl rfl) rfl ?_
              refine Wx.nil ?_
              refine W.condD rfl (fun c6 => ?_) (fun c6 => ?_)
              · -- yes
                refine W.reg ?_
                refine Wx.rd (v := v_13) (rd_move rfl) rfl ?_
                refine Wx.rd (v := .int .i64 y) (rd_move rfl) rfl ?_
                refine Wx.rd (v := .int .i64 (ix 0 lab6 (ix 0 (ix [] fs k) 0))) (rd_move rfl) rfl ?_
                refine Wx.indexR hS 1 rfl rfl rfl Try.underlying28 Try.sizeOf3 (by first | omega | (simp only [List.length_set, List.length_append, List.length_cons, List.length_nil, List.length_replicate]; omega)) (by first | omega | (simp only [List.length_set, List.length_append, List.length_cons, List.length_nil, List.length_replicate]; omega)) rfl (fun g_56 hg_57 => ?_)
                refine Wx.storeR (j := y.toNat) (z := ix 0 lab6 (ix 0 (ix [] fs k) 0)) hS 1 rfl hg_57 rfl (by first | omega | (simp only [List.length_set, List.length_append, List.length_cons, List.length_nil, List.length_replicate]; omega)) rfl (V.mkInt (in_i64 (by omega) (by omega))) Try.sizeOf3 (fun w_58 hz_59 hS => ?_)
                have hS := hS.spell (ys' := (relab (ix 0 lab6 (ix 0 (ix [] fs k) q)) (ix 0 lab6 (ix 0 (ix [] fs k) 0)) lab6).take (y + 1).toNat ++ lab6.drop (y + 1).toNat) 1 rfl (relab_yes n0 (by omega) n2 c6)
                refine Wx.nil ?_
                refine W.reg ?_
                refine Wx.rd (v := .int .i64 (y + 1)) (rd_add rfl rfl (in_i64 (by omega) (by omega))) rfl ?_
                refine Wx.rd (v := .int .i64 (y + 1)) (rd_move rfl) rfl ?_
                refine Wx.nil ?_
                refine ⟨(y + 1, (relab (ix 0 lab6 (ix 0 (ix [] fs k) q)) (ix 0 lab6 (ix 0 (ix [] fs k) 0)) lab6).take (y + 1).toNat ++ lab6.drop (y + 1).toNat), (by show (lab6.length - (y + 1)).toNat < (lab6.length - y).toNat; omega), ?_, ?_, Out.look rfl Out.self⟩
                · exact ⟨hS, (by first | omega | assumption), (by first | omega | assumption), (rfl), (by simp [relab_len]; omega)⟩
                · exact ⟨rfl, trivial⟩
              · -- no
                refine W.skip ?_
                refine W.reg ?_
                refine Wx.rd (v := .int .i64 (y + 1)) (rd_add rfl rfl (in_i64 (by omega) (by omega))) rfl ?_
                refine Wx.rd (v := .int .i64 (y + 1)) (rd_move rfl) rfl ?_
                refine Wx.nil ?_
                refine ⟨(y + 1, lab8), (by show (lab6.length - (y + 1)).toNat < (lab6.length - y).toNat; omega), ?_, ?_, Out.look rfl Out.self⟩
                · exact ⟨hS, (by first | omega | assumption), (by first | omega | assumption), (relab_no n0 (by omega) n2 c6), (n3)⟩
                · exact ⟨rfl, trivial⟩
            · -- no
              refine W.exit rfl ?_
              refine W.reg ?_
              refine Wx.rd (v := .int .i64 (q + 1)) (rd_add rfl rfl (in_i64 (by omega) (by omega))) rfl ?_
              refine Wx.rd (v := .int .i64 (q + 1)) (rd_move rfl) rfl ?_
              refine Wx.nil ?_
              refine ⟨(q + 1, lab8), (by show ((ix [] fs k).length - (q + 1)).toNat < ((ix [] fs k).length - q).toNat; omega), ?_, ?_, Out.look rfl (Out.hav rfl (Out.look rfl Out.self))⟩
              · exact ⟨hS, (by first | omega | assumption), (by first | omega | assumption), (by rw [← m2, drop_ix (d := 0) m0 c4, labX, n2, relab_done (by omega)]), (n3)⟩
              · exact ⟨rfl, trivial⟩
          · -- no
            refine W.exit rfl ?_
            refine W.reg ?_
            refine Wx.rd (v := .int .i64 (k + 1)) (rd_add rfl rfl (in_i64 (by omega) (by omega))) rfl ?_
            refine Wx.rd (v := .int .i64 (k + 1)) (rd_move rfl) rfl ?_
            refine Wx.nil ?_
            refine ⟨(k + 1, lab6), (by show (fs.length - (k + 1)).toNat < (fs.length - k).toNat; omega), ?_, ?_, Out.look rfl (Out.hav rfl (Out.look rfl Out.self))⟩
            · exact ⟨hS.tl, (by first | omega | assumption), (by first | omega | assumption), (by rw [← m2, drop_end (xs := ix [] fs k) (n := q) (by omega)]; rfl), (m3)⟩
            · exact ⟨rfl, trivial⟩
      · -- no
        refine W.exit rfl ?_
        refine W.seq ?_
        refine W.regQ mixedGf_ (by kernel_rfl) ?_
        have hl4 : lab4 = labW L fs (ix 0 [a, b, c] i) := by rw [← k2, drop_end (by omega)]; rfl
        have hup : (up 3 (3 - i).toNat).all (apartI L fs [a, b, c]) = (apartI L fs [a, b, c] i && (up 3 (3 - (i + 1)).toNat).all (apartI L fs [a, b, c])) := by rw [up_next h0 c0, List.all_cons]
        refine Wx.rd (v := v_13) (rd_move rfl) rfl ?_
        refine Wx.rd (v := .int .i64 (ix 0 [a, b, c] ((i + 1) % 3))) (rd_move rfl) rfl ?_
        refine Wx.indexR hS 0 rfl rfl rfl Try.underlying28 Try.sizeOf3 (by first | omega | (simp only [List.length_set, List.length_append, List.length_cons, List.length_nil, List.length_replicate]; omega)) (by first | omega | (simp only [List.length_set, List.length_append, List.length_cons, List.length_nil, List.length_replicate]; omega)) rfl (fun g_60 hg_61 => ?_)
        refine Wx.rd (v := .int .i64 (ix 0 lab4 (ix 0 [a, b, c] ((i + 1) % 3)))) (rd_loadRI' hS 0 rfl hg_61 rfl (by first | omega | (simp only [List.length_set, List.length_append, List.length_cons, List.length_nil, List.length_replicate]; omega)) (by first | omega | (simp only [List.length_set, List.length_append, List.length_cons, List.length_nil, List.length_replicate]; omega)) Try.isAgg3 Try.sizeOf3) rfl ?_
        have bd_62 := bd_i64 (hS.rowInK' 0 rfl (by first | omega | (simp only [List.length_set, List.length_append, List.length_cons, List.length_nil, List.length_replicate]; omega)) (by first | omega | (simp only [List.length_set, List.length_append, List.length_cons, List.length_nil, List.length_replicate]; omega)) : InK .i64 (ix 0 lab4 (ix 0 [a, b, c] ((i + 1) % 3))))
        refine Wx.rd (v := v_13) (rd_move rfl) rfl ?_
        refine Wx.rd (v := .int .i64 (ix 0 [a, b, c] ((i + 2) % 3))) (rd_move rfl) rfl ?_
        refine Wx.indexR hS 0 rfl rfl rfl Try.underlying28 Try.sizeOf3 (by first | omega | (simp only [List.length_set, List.length_append, List.length_cons, List.length_nil, List.length_replicate]; omega)) (by first | omega | (simp only [List.length_set, List.length_append, List.length_cons, List.length_nil, List.length_replicate]; omega)) rfl (fun g_63 hg_64 => ?_)
        refine Wx.rd (v := .int .i64 (ix 0 lab4 (ix 0 [a, b, c] ((i + 2) % 3)))) (rd_loadRI' hS 0 rfl hg_64 rfl (by first | omega | (simp only [List.length_set, List.length_append, List.length_cons, List.length_nil, List.length_replicate]; omega)) (by first | omega | (simp only [List.length_set, List.length_append, List.length_cons, List.length_nil, List.length_replicate]; omega)) Try.isAgg3 Try.sizeOf3) rfl ?_
        have bd_65 := bd_i64 (hS.rowInK' 0 rfl (by first | omega | (simp only [List.length_set, List.length_append, List.length_cons, List.length_nil, List.length_replicate]; omega)) (by first | omega | (simp only [List.length_set, List.length_append, List.length_cons, List.length_nil, List.length_replicate]; omega)) : InK .i64 (ix 0 lab4 (ix 0 [a, b, c] ((i + 2) % 3))))
        refine Wx.rd (v := .bool (decide ((ix 0 lab4 (ix 0 [a, b, c] ((i + 1) % 3))) ≠ (ix 0 lab4 (ix 0 [a, b, c] ((i + 2) % 3)))))) (rd_neq rfl rfl) rfl ?_
        refine Wx.nilQ (fun w_66 hx_67 => ?_)
        have hS := hS.ext hx_67
        refine W.condD rfl (fun c7 => ?_) (fun c7 => ?_)
        · -- yes
          refine W.seq ?_
          refine W.reg ?_
          refine Wx.rd (v := .bool false) (rd_assign rfl) rfl ?_
          refine Wx.nil ?_
          have e0_0 : (apartW L fs a b c) = false := by rw [← h2, hup, show apartI L fs [a, b, c] i = false by rw [apartI, joinW, ← hl4]; exact decide_eq_false (by omega)]; rfl
          exact W.ret ⟨.bool false, ResIs.one, hS.bel, (by rw [e0_0])⟩
        · -- no
          refine W.skip ?_
          refine W.reg ?_
          refine Wx.rd (v := .int .i64 (i + 1)) (rd_add rfl rfl (in_i64 (by omega) (by omega))) rfl ?_
          refine Wx.rd (v := .int .i64 (i + 1)) (rd_move rfl) rfl ?_
          refine Wx.nil ?_
          refine ⟨i + 1, (by show (3 - (i + 1)).toNat < (3 - i).toNat; omega), ?_, ?_, Out.look rfl (Out.hav rfl (Out.look rfl (Out.hav rfl (Out.look rfl Out.self))))⟩
          · exact ⟨hS.tl, (by first | omega | assumption), (by first | omega | assumption), (by rw [← h2, hup, show apartI L fs [a, b, c] i = true by rw [apartI, joinW, ← hl4]; exact decide_eq_true (by omega), Bool.true_and])⟩
          · exact ⟨rfl, trivial⟩
  · -- no
    refine W.exit rfl ?_
    refine W.seq ?_
    refine W.reg ?_
    refine Wx.rd (v := .bool true) (rd_assign rfl) rfl ?_
    refine Wx.nil ?_
    have e1_0 : (apartW L fs a b c) = true := by rw [← h2, show (3 - i).toNat = 0 by omega]; rfl
    exact W.ret ⟨.bool true, ResIs.one, hS.bel, (by rw [e1_0])⟩

theorem F45 {L c : Int} {l fl : List Int} {lv flv ov : Value} {fs : List (List Int)} {gf gc gl : Nat} {ob : List Ob} {w0 w : World} {O : List (Option Nat)} (i_L : InK .i64 L) (i_c : InK .i64 c) (hS : St w0 O w (Ob.v (tSl (tI .i64)) fl flv :: Ob.v (tSl (tSl (tI .i64))) fs ov :: .box gf 24 [.int .i64 L, ov] :: .box gc 3 [.int .i64 c] :: .box gl 28 [flv] :: ob)) (hv : V (tSl (tI .i64)) l lv (fb (Ob.v (tSl (tI .i64)) fl flv :: Ob.v (tSl (tSl (tI .i64))) fs ov :: .box gf 24 [.int .i64 L, ov] :: .box gc 3 [.int .i64 c] :: .box gl 28 [flv] :: ob) O) w) : Calls Try.prog 45 #[lv, .pointer (some ⟨gf, 0, none⟩), .pointer (some ⟨gc, 0, none⟩), .pointer (some ⟨gl, 0, none⟩)] w (Bk fun r w' => r = .tuple #[] ∧ ∃ flv', St w0 O w' (Ob.v (tSl (tI .i64)) (stepF fs (fl, c) l).1 flv' :: Ob.v (tSl (tSl (tI .i64))) fs ov :: .box gf 24 [.int .i64 L, ov] :: .box gc 3 [.int .i64 (stepF fs (fl, c) l).2] :: .box gl 28 [flv'] :: ob)) := by
  have b_L := bd_i64 i_L
  have b_c := bd_i64 i_c
  have hst : stepF fs (fl, c) l = if fitsW fs l = true then (if c = 0 then l else fl, IntKind.i64.wrap (c + 1)) else (fl, c) := rfl
  have hS := hS.add (hv)
  have ln_2 := (hS.v 0 rfl).len63
  refine enterB Try.func45 rfl Try.ntmps45 Try.results45 rfl ?_
  refine W.seq ?_
  refine W.reg ?_
  refine Wx.rd (v := .agg #[.int .i64 L, ov]) (rd_loadXs (ds := [.int .i64 L, ov]) hS 3 rfl rfl rfl rfl Try.isAgg24 Try.sizeOf24) rfl ?_
  refine Wx.rd (v := lv) (rd_move rfl) rfl ?_
  refine Wx.callF (run_callF Try.call46 rfl) (F46 (in_i64 (by omega) (by omega)) (hS.v 2 rfl) (hS.v 0 rfl)) rfl ?_
  rintro r_3 w_4 hx_5 rfl
  have hS := hS.ext hx_5
  refine Wx.nil ?_
  refine W.cond rfl (fun c0 => ?_) (fun c0 => ?_)
  · -- yes
    try simp only [Bool.and_eq_true, Bool.or_eq_true, Bool.not_eq_true', Bool.and_eq_false_iff, Bool.or_eq_false_iff, Bool.not_eq_false', decide_eq_true_eq, decide_eq_false_iff_not, not_or, Bool.false_eq_true, Bool.true_eq_false, false_or, or_false, not_false_eq_true] at c0
    refine W.seq ?_
    refine W.seq ?_
    refine W.reg ?_
    refine Wx.rd (v := .int .i64 c) (rd_loadX hS 4 rfl rfl rfl Try.isAgg3) rfl ?_
    refine Wx.rd (v := .bool (decide (c = 0))) (rd_eql rfl rfl) rfl ?_
    refine Wx.nil ?_
    refine W.condD rfl (fun c1 => ?_) (fun c1 => ?_)
    · -- yes
      refine W.reg ?_
      refine Wx.rd (v := lv) (rd_move rfl) rfl ?_
      refine Wx.storeX (cs' := [lv]) (ds := [lv]) hS 5 rfl rfl rfl (cells_one (V.oneC (hS.v 0 rfl))) Try.sizeOf28 (Nat.le_of_ble_eq_true rfl) (one_cons (V.oneC (hS.v 0 rfl)) one_nil) rfl (fun w_6 hz_7 hS => ?_)
      refine Wx.nil ?_
      refine W.reg ?_
      refine Wx.rd (v := .int .i64 c) (rd_loadX hS 4 rfl rfl rfl Try.isAgg3) rfl ?_
      refine Wx.rd (v := .int .i64 (IntKind.i64.wrap (c + 1))) (rd_addw rfl rfl) rfl ?_
      refine Wx.storeX (cs' := [.int .i64 (IntKind.i64.wrap (c + 1))]) (ds := [.int .i64 (IntKind.i64.wrap (c + 1))]) hS 4 rfl rfl rfl rfl Try.sizeOf3 (Nat.le_of_ble_eq_true rfl) (one_cons rfl one_nil) rfl (fun w_8 hz_9 hS => ?_)
      refine Wx.nil ?_
      exact ⟨.tuple #[], ResIs.zero, rfl, lv, by rw [hst, if_pos c0, if_pos c1]; exact hS.drop 1⟩
    · -- no
      refine W.skip ?_
      refine W.reg ?_
      refine Wx.rd (v := .int .i64 c) (rd_loadX hS 4 rfl rfl rfl Try.isAgg3) rfl ?_
      refine Wx.rd (v := .int .i64 (IntKind.i64.wrap (c + 1))) (rd_addw rfl rfl) rfl ?_
      refine Wx.storeX (cs' := [.int .i64 (IntKind.i64.wrap (c + 1))]) (ds := [.int .i64 (IntKind.i64.wrap (c + 1))]) hS 4 rfl rfl rfl rfl Try.sizeOf3 (Nat.le_of_ble_eq_true rfl) (one_cons rfl one_nil) rfl (fun w_10 hz_11 hS => ?_)
      refine Wx.nil ?_
      exact ⟨.tuple #[], ResIs.zero, rfl, flv, by rw [hst, if_pos c0, if_neg c1]; exact hS.tl⟩
  · -- no
    try simp only [Bool.and_eq_true, Bool.or_eq_true, Bool.not_eq_true', Bool.and_eq_false_iff, Bool.or_eq_false_iff, Bool.not_eq_false', decide_eq_true_eq, decide_eq_false_iff_not, not_or, Bool.false_eq_true, Bool.true_eq_false, false_or, or_false, not_false_eq_true] at c0
    refine W.skip ?_
    exact ⟨.tuple #[], ResIs.zero, rfl, flv, by rw [hst, if_neg (by rw [c0]; decide)]; exact hS.tl⟩
end Go.Proofs.Ytjmpojoimcljoaa
