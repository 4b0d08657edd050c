/-
  WHAT IS PROVED HERE: what functions of layer 3 hand back, each out of its own code; the conditions stand in each statement.
-/
import Derived.Test.YtjmpojoimcljoaaProg
import Derived.Test.YtjmpojoimcljoaaWk8
import Derived.Test.YtjmpojoimcljoaaSpec5
import Derived.Test.YtjmpojoimcljoaaFa
import Derived.Test.YtjmpojoimcljoaaFi
import Derived.Test.YtjmpojoimcljoaaFj
import Derived.Test.YtjmpojoimcljoaaFk
import Derived.Test.YtjmpojoimcljoaaGa
import Derived.Test.YtjmpojoimcljoaaGc
import Derived.Test.YtjmpojoimcljoaaGd
import Derived.Test.YtjmpojoimcljoaaEach
namespace Go.Proofs.Ytjmpojoimcljoaa
open Go.Wk Go.RowKit
set_option linter.unusedVariables false
set_option linter.unusedSimpArgs false
theorem foGe_24_1 : fldOff Try.prog 24 1 = some 1 := by kernel_rfl
theorem elGe_28 : ElemI Try.prog 28 3 (.int .i64 0) 1 8 := ElemI.of Try.underlying28 (by kernel_rfl) (by first | rfl | kernel_rfl) (by decide)
theorem foGe_24_0 : fldOff Try.prog 24 0 = some 0 := by kernel_rfl

theorem F9 {ly : Int} {mn : Int} {z0 : Int} {z1 : Int} {z2 : Int} {z3 : Int} {z4 : Int} {z5 : Int} {z6 : Int} {z7 : Int} {z8 : Int} {z9 : Int} {w : World} (i_ly : InK .u8 ly) (i_mn : InK .u8 mn) (i_z0 : InK .u8 z0) (i_z1 : InK .u8 z1) (i_z2 : InK .u8 z2) (i_z3 : InK .u8 z3) (i_z4 : InK .u8 z4) (i_z5 : InK .u8 z5) (i_z6 : InK .u8 z6) (i_z7 : InK .u8 z7) (i_z8 : InK .u8 z8) (i_z9 : InK .u8 z9) (p_law : leftP (madeN 5 ly) (madeF 5 6 ly mn [z0, z1, z2, z3, z4, z5, z6, z7, z8, z9])) : Calls Try.prog 9 #[.agg #[.int .u8 ly, .int .u8 mn, .int .u8 z0, .int .u8 z1, .int .u8 z2, .int .u8 z3, .int .u8 z4, .int .u8 z5, .int .u8 z6, .int .u8 z7, .int .u8 z8, .int .u8 z9]] w (Ret w (fun r _ => r = .bool true)) := by
  have b_z9 := bd_u8 i_z9
  have b_z8 := bd_u8 i_z8
  have b_z7 := bd_u8 i_z7
  have b_z6 := bd_u8 i_z6
  have b_z5 := bd_u8 i_z5
  have b_z4 := bd_u8 i_z4
  have b_z3 := bd_u8 i_z3
  have b_z2 := bd_u8 i_z2
  have b_z1 := bd_u8 i_z1
  have b_z0 := bd_u8 i_z0
  have b_mn := bd_u8 i_mn
  have b_ly := bd_u8 i_ly
  obtain ⟨hc0, hL1, hL2⟩ := p_law
  have hN := madeN_bd (a := 5) (ly := ly) (by omega)
  have hck := check_ok hc0
  have hpw := pow1024 (n := (madeF 5 6 ly mn [z0, z1, z2, z3, z4, z5, z6, z7, z8, z9]).length) (by omega)
  have hS := St.start0 w
  refine enterR Try.func9 rfl Try.ntmps9 Try.results9 rfl ?_
  refine W.seq ?_
  refine W.reg ?_
  refine Wx.box (cs := [.int .u8 ly, .int .u8 mn, .int .u8 z0, .int .u8 z1, .int .u8 z2, .int .u8 z3, .int .u8 z4, .int .u8 z5, .int .u8 z6, .int .u8 z7, .int .u8 z8, .int .u8 z9]) hS rfl rfl rfl (fun g_1 w_2 hx_4 hb_3 hS => ?_)
  refine Wx.rd (v := .bool false) (rd_assign rfl) rfl ?_
  refine Wx.nil ?_
  refine W.seq ?_
  refine W.reg ?_
  refine Wx.rd (v := .agg #[.int .u8 ly, .int .u8 mn, .int .u8 z0, .int .u8 z1, .int .u8 z2, .int .u8 z3, .int .u8 z4, .int .u8 z5, .int .u8 z6, .int .u8 z7, .int .u8 z8, .int .u8 z9]) (rd_loadXs (ds := [.int .u8 ly, .int .u8 mn, .int .u8 z0, .int .u8 z1, .int .u8 z2, .int .u8 z3, .int .u8 z4, .int .u8 z5, .int .u8 z6, .int .u8 z7, .int .u8 z8, .int .u8 z9]) hS 0 rfl rfl rfl rfl Try.isAgg64 Try.sizeOf64) rfl ?_
  refine Wx.callF (run_callF Try.call43 rfl) (F43 (in_u8 (by omega) (by omega)) (in_u8 (by omega) (by omega)) (in_u8 (by omega) (by omega)) (in_u8 (by omega) (by omega)) (in_u8 (by omega) (by omega)) (in_u8 (by omega) (by omega)) (in_u8 (by omega) (by omega)) (in_u8 (by omega) (by omega)) (in_u8 (by omega) (by omega)) (in_u8 (by omega) (by omega)) (in_u8 (by omega) (by omega)) (in_u8 (by omega) (by omega)) (in_i64 (by omega) (by omega)) (in_i64 (by omega) (by omega)) (by omega) (by omega) (by omega) (by omega) hS.fb_lt) rfl ?_
  rintro r_5 w_6 hx_7 ⟨v_8, rfl, hv_9⟩
  have ln_11 := hv_9.len63
  have hS := hS.ext hx_7
  have hS := hS.add hv_9
  refine Wx.alloc (cs := [.int .i64 0, (.slice none 0 0)]) hS Try.zeroValue24 rfl rfl (fun g_12 w_13 hx_15 hb_14 hS => ?_)
  refine Wx.storeX (cs' := [.int .i64 (madeN 5 ly), v_8]) (ds := [.int .i64 (madeN 5 ly), v_8]) hS 0 rfl rfl rfl rfl Try.sizeOf24 (Nat.le_of_ble_eq_true rfl) (one_cons rfl (one_cons (V.oneC (hS.v 1 rfl)) one_nil)) rfl (fun w_16 hz_17 hS => ?_)
  refine Wx.nil ?_
  refine W.seq ?_
  refine W.reg ?_
  refine Wx.rd (v := .pointer (some ⟨g_12, 1, none⟩)) (rd_fieldAddr rfl foGe_24_1) rfl ?_
  refine Wx.rd (v := v_8) (rd_loadX hS 0 rfl rfl rfl Try.isAgg22) rfl ?_
  refine Wx.rd (v := .int .i64 ((madeF 5 6 ly mn [z0, z1, z2, z3, z4, z5, z6, z7, z8, z9]).length : Int)) (rd_lenV rfl (hS.v 1 rfl) Try.underlying22) rfl ?_
  refine Wx.rd (v := .int .i64 ((madeF 5 6 ly mn [z0, z1, z2, z3, z4, z5, z6, z7, z8, z9]).length : Int)) (rd_assign rfl) rfl ?_
  refine Wx.nil ?_
  refine W.seq ?_
  refine W.reg ?_
  refine Wx.rd (v := .func (.func 48) #[] #[.pointer (some ⟨g_12, 0, none⟩)]) (rd_makeFunc (vs := []) (us := [.pointer (some ⟨g_12, 0, none⟩)]) rfl rfl) rfl ?_
  refine Wx.rd (v := .func (.func 48) #[] #[.pointer (some ⟨g_12, 0, none⟩)]) (rd_assign rfl) rfl ?_
  refine Wx.nil ?_
  refine W.seq ?_
  refine W.reg ?_
  refine Wx.rd (v := (.slice none 0 0)) (rd_assign rfl) rfl ?_
  refine Wx.nil ?_
  refine W.seq ?_
  refine W.reg ?_
  refine Wx.rd (v := .bool false) (rd_assign rfl) rfl ?_
  refine Wx.nil ?_
  refine W.seq ?_
  refine W.seq ?_
  refine W.reg ?_
  refine Wx.rd (v := .int .i64 ((madeF 5 6 ly mn [z0, z1, z2, z3, z4, z5, z6, z7, z8, z9]).length : Int)) (rd_move rfl) rfl ?_
  refine Wx.rd (v := .int .i64 ((2 ^ (madeF 5 6 ly mn [z0, z1, z2, z3, z4, z5, z6, z7, z8, z9]).length : Nat) : Int)) (Rd.to (v := .int .i64 (IntKind.i64.wrap (1 * 2 ^ min ((madeF 5 6 ly mn [z0, z1, z2, z3, z4, z5, z6, z7, z8, z9]).length : Int).toNat (IntKind.i64).bits))) (rd_shl rfl rfl (by omega)) (congrArg (Value.int .i64) (show (((2 ^ (madeF 5 6 ly mn [z0, z1, z2, z3, z4, z5, z6, z7, z8, z9]).length : Nat) : Int) : Int) = (IntKind.i64.wrap (1 * 2 ^ min ((madeF 5 6 ly mn [z0, z1, z2, z3, z4, z5, z6, z7, z8, z9]).length : Int).toNat (IntKind.i64).bits) : Int) from (shl_i64 (by omega)).symm).symm)) rfl ?_
  have bd_18 := bd_i64 (wrap_inK .i64 (1 * 2 ^ min ((madeF 5 6 ly mn [z0, z1, z2, z3, z4, z5, z6, z7, z8, z9]).length : Int).toNat (IntKind.i64).bits))
  refine Wx.rd (v := .int .i64 0) (rd_move rfl) rfl ?_
  refine Wx.nil ?_
  refine W.block ?_
  have hS := hS.add ((V.nil (t := (tI .i64))))
  refine W.loop [6, 7, 8, 9, 10, 11, 12, 26, 27, 28, 29, 30, 31, 32, 33, 34, 35, 36, 37, 38, 39, 40, 41, 42, 43, 44, 45, 46, 47, 48, 49, 50, 51, 52, 53, 54, 55, 56, 57, 58, 59, 60, 61, 62, 63, 64, 65, 66, 67, 68, 69, 70, 71, 72, 73] (fun x : Value × (List Int) × Bool × Int => match x with | (bv, best, found, o) => [(6, bv), (7, .bool found), (26, .int .i64 o)]) (fun (x : Value × (List Int) × Bool × Int) w' => match x with | (bv, best, found, o) => St w [] w' [Ob.v (tSl (tI .i64)) best bv, .box g_12 24 [.int .i64 (madeN 5 ly), v_8], Ob.v (tSl (tSl (tI .i64))) (madeF 5 6 ly mn [z0, z1, z2, z3, z4, z5, z6, z7, z8, z9]) v_8, .box g_1 64 [.int .u8 ly, .int .u8 mn, .int .u8 z0, .int .u8 z1, .int .u8 z2, .int .u8 z3, .int .u8 z4, .int .u8 z5, .int .u8 z6, .int .u8 z7, .int .u8 z8, .int .u8 z9]] ∧ 0 ≤ o ∧ o ≤ ((2 ^ (madeF 5 6 ly mn [z0, z1, z2, z3, z4, z5, z6, z7, z8, z9]).length : Nat) : Int) ∧ bestW (madeN 5 ly) (madeF 5 6 ly mn [z0, z1, z2, z3, z4, z5, z6, z7, z8, z9]) o.toNat = (best, found)) (fun x : Value × (List Int) × Bool × Int => match x with | (bv, best, found, o) => (((2 ^ (madeF 5 6 ly mn [z0, z1, z2, z3, z4, z5, z6, z7, z8, z9]).length : Nat) : Int) - o).toNat) ((.slice none 0 0), [], false, 0) ⟨rfl, rfl, rfl, trivial⟩ ⟨hS, (by first | omega | simp), (by first | omega | simp), (rfl)⟩ ?_
  rintro ⟨bv, best, found, o⟩ u_22 w_21 ⟨hS, h0, h1, h2⟩
  have hbn := bestW_next (madeN 5 ly) (madeF 5 6 ly mn [z0, z1, z2, z3, z4, z5, z6, z7, z8, z9]) o.toNat
  rw [h2, show o.toNat + 1 = (o + 1).toNat by omega, stepW, show ((o.toNat : Nat) : Int) = o by omega] at hbn
  refine W.seq ?_
  refine W.reg ?_
  refine Wx.rd (v := .bool (decide (o < ((2 ^ (madeF 5 6 ly mn [z0, z1, z2, z3, z4, z5, z6, z7, z8, z9]).length : Nat) : Int)))) (rd_lss rfl rfl) rfl ?_
  refine Wx.nil ?_
  refine W.seq ?_
  refine W.condD rfl (fun c0 => ?_) (fun c0 => ?_)
  · -- yes
    refine W.skip ?_
    refine W.seq ?_
    refine W.block ?_
    refine W.seq ?_
    refine W.reg ?_
    refine Wx.rd (v := .int .i64 o) (rd_move rfl) rfl ?_
    refine Wx.rd (v := .int .i64 o) (rd_assign rfl) rfl ?_
    refine Wx.nil ?_
    refine W.seq ?_
    refine W.reg ?_
    refine Wx.rd (v := (.slice none 0 0)) (rd_assign rfl) rfl ?_
    refine Wx.nil ?_
    refine W.seq ?_
    refine W.seq ?_
    refine W.reg ?_
    refine Wx.rd (v := .int .i64 ((madeF 5 6 ly mn [z0, z1, z2, z3, z4, z5, z6, z7, z8, z9]).length : Int)) (rd_move rfl) rfl ?_
    refine Wx.rd (v := .int .i64 0) (rd_move rfl) rfl ?_
    refine Wx.nil ?_
    refine W.block ?_
    have hS := hS.addNil (tI .i64) 3
    refine W.loop [9, 10, 30, 31, 32, 33, 34, 35, 36, 37, 38, 39, 40, 41, 42] (fun x : Int × Value × (List Int) => match x with | (j, lv, l) => [(30, .int .i64 j), (9, lv)]) (fun (x : Int × Value × (List Int)) w' => match x with | (j, lv, l) => St w [] w' [.row (tI .i64) 3 lv l, Ob.v (tSl (tI .i64)) best bv, .box g_12 24 [.int .i64 (madeN 5 ly), v_8], Ob.v (tSl (tSl (tI .i64))) (madeF 5 6 ly mn [z0, z1, z2, z3, z4, z5, z6, z7, z8, z9]) v_8, .box g_1 64 [.int .u8 ly, .int .u8 mn, .int .u8 z0, .int .u8 z1, .int .u8 z2, .int .u8 z3, .int .u8 z4, .int .u8 z5, .int .u8 z6, .int .u8 z7, .int .u8 z8, .int .u8 z9]] ∧ 0 ≤ j ∧ j ≤ (madeF 5 6 ly mn [z0, z1, z2, z3, z4, z5, z6, z7, z8, z9]).length ∧ l ++ (up (madeF 5 6 ly mn [z0, z1, z2, z3, z4, z5, z6, z7, z8, z9]).length ((madeF 5 6 ly mn [z0, z1, z2, z3, z4, z5, z6, z7, z8, z9]).length - j).toNat).filter (bitI o) = (pickW o (madeF 5 6 ly mn [z0, z1, z2, z3, z4, z5, z6, z7, z8, z9]).length) ∧ (l.length : Int) ≤ j) (fun x : Int × Value × (List Int) => match x with | (j, lv, l) => ((madeF 5 6 ly mn [z0, z1, z2, z3, z4, z5, z6, z7, z8, z9]).length - j).toNat) (0, (.slice none 0 0), []) ⟨rfl, rfl, trivial⟩ ⟨hS, (by first | omega | simp), (by first | omega | simp), (by rw [Int.sub_zero, List.nil_append, pickW]), (by simp)⟩ ?_
    rintro ⟨j, lv, l⟩ u_24 w_23 ⟨hS, g0, g1, g2, g4⟩
    refine W.seq ?_
    refine W.reg ?_
    refine Wx.rd (v := .bool (decide (j < ((madeF 5 6 ly mn [z0, z1, z2, z3, z4, z5, z6, z7, z8, z9]).length : Int)))) (rd_lss rfl rfl) rfl ?_
    refine Wx.nil ?_
    refine W.seq ?_
    refine W.condD rfl (fun c1 => ?_) (fun c1 => ?_)
    · -- yes
      refine W.skip ?_
      refine W.seq ?_
      refine W.block ?_
      refine W.seq ?_
      refine W.reg ?_
      refine Wx.rd (v := .int .i64 j) (rd_move rfl) rfl ?_
      refine Wx.rd (v := .int .i64 j) (rd_assign rfl) rfl ?_
      refine Wx.nil ?_
      refine W.seq ?_
      refine W.reg ?_
      refine Wx.rd (v := .int .i64 o) (rd_move rfl) rfl ?_
      refine Wx.rd (v := .int .i64 j) (rd_move rfl) rfl ?_
      refine Wx.rd (v := .int .i64 (o / 2 ^ min j.toNat (IntKind.i64).bits)) (rd_shr rfl rfl (by omega)) rfl ?_
      refine Wx.rd (v := .int .i64 (bits .and .i64 (o / 2 ^ min j.toNat (IntKind.i64).bits) 1)) (rd_and rfl rfl) rfl ?_
      have bd_25 := bd_i64 (bits_in .and .i64 (o / 2 ^ min j.toNat (IntKind.i64).bits) 1)
      refine Wx.rd (v := .bool (decide ((bits .and .i64 (o / 2 ^ min j.toNat (IntKind.i64).bits) 1) = 1))) (rd_eql rfl rfl) rfl ?_
      refine Wx.nil ?_
      refine W.condD rfl (fun c2 => ?_) (fun c2 => ?_)
      · -- yes
        refine W.reg ?_
        refine Wx.rd (v := lv) (rd_move rfl) rfl ?_
        refine Wx.rd (v := .int .i64 j) (rd_move rfl) rfl ?_
        refine Wx.lit (t := (tI .i64)) (ys := [j]) (vs := [.int .i64 j]) elGe_28 hS rfl rfl ⟨(V.mkInt (in_i64 (by omega) (by omega))), trivial⟩ (by decide) rfl (fun v_26 w_27 hx_28 hS => ?_)
        refine Wx.append elGe_28 hS 1 rfl rfl rfl (Src.ofR hS 0 rfl) (by simp only [maxLen]; simp; omega) (by simp; omega) rfl (fun v_29 w_30 hz_31 hS => ?_)
        refine Wx.rd (v := v_29) (rd_assign rfl) rfl ?_
        refine Wx.nil ?_
        refine W.reg ?_
        refine Wx.rd (v := .int .i64 (j + 1)) (rd_add rfl rfl (in_i64 (by omega) (by omega))) rfl ?_
        refine Wx.rd (v := .int .i64 (j + 1)) (rd_move rfl) rfl ?_
        refine Wx.nil ?_
        have hb : bitI o j = true := decide_eq_true c2
        refine ⟨(j + 1, v_29, l ++ [j]), (by show ((madeF 5 6 ly mn [z0, z1, z2, z3, z4, z5, z6, z7, z8, z9]).length - (j + 1)).toNat < ((madeF 5 6 ly mn [z0, z1, z2, z3, z4, z5, z6, z7, z8, z9]).length - j).toNat; omega), ?_, ?_, Out.look rfl Out.self⟩
        · exact ⟨hS.tl, (by first | omega | assumption), (by first | omega | assumption), (by rw [← g2, up_next g0 c1, List.filter_cons, if_pos hb, List.append_assoc]; rfl), (by simp; omega)⟩
        · exact ⟨rfl, rfl, trivial⟩
      · -- no
        refine W.skip ?_
        refine W.reg ?_
        refine Wx.rd (v := .int .i64 (j + 1)) (rd_add rfl rfl (in_i64 (by omega) (by omega))) rfl ?_
        refine Wx.rd (v := .int .i64 (j + 1)) (rd_move rfl) rfl ?_
        refine Wx.nil ?_
        have hb : ¬ bitI o j = true := by simp only [bitI, decide_eq_true_eq]; exact c2
        refine ⟨(j + 1, lv, l), (by show ((madeF 5 6 ly mn [z0, z1, z2, z3, z4, z5, z6, z7, z8, z9]).length - (j + 1)).toNat < ((madeF 5 6 ly mn [z0, z1, z2, z3, z4, z5, z6, z7, z8, z9]).length - j).toNat; omega), ?_, ?_, Out.look rfl Out.self⟩
        · exact ⟨hS, (by first | omega | assumption), (by first | omega | assumption), (by rw [← g2, up_next g0 c1, List.filter_cons, if_neg hb]), (by omega)⟩
        · exact ⟨rfl, rfl, trivial⟩
    · -- no
      refine W.exit rfl ?_
      refine W.seq ?_
      refine W.seq ?_
      refine W.reg ?_
      have hl : l = (pickW o (madeF 5 6 ly mn [z0, z1, z2, z3, z4, z5, z6, z7, z8, z9]).length) := by rw [← g2, show (((madeF 5 6 ly mn [z0, z1, z2, z3, z4, z5, z6, z7, z8, z9]).length : Int) - j).toNat = 0 by omega, up, List.filter_nil, List.append_nil]
      refine Wx.rd (v := .bool found) (rd_move rfl) rfl ?_
      refine Wx.rd (v := .bool found) (rd_move rfl) rfl ?_
      refine Wx.cut (X := Unit) 19 [45, 46, 47, 48, 49, 50, 51, 52, 53, 54, 55, 56, 57, 58, 59, 60, 61, 62, 63] (fun _ => [(63, .bool (found && (decide ((best.length : Int) < (l.length : Int)) || (decide ((l.length : Int) = (best.length : Int)) && decide (0 < (cmpL l best))))))]) (fun _ w' => St w [] w' [.row (tI .i64) 3 lv l, Ob.v (tSl (tI .i64)) best bv, .box g_12 24 [.int .i64 (madeN 5 ly), v_8], Ob.v (tSl (tSl (tI .i64))) (madeF 5 6 ly mn [z0, z1, z2, z3, z4, z5, z6, z7, z8, z9]) v_8, .box g_1 64 [.int .u8 ly, .int .u8 mn, .int .u8 z0, .int .u8 z1, .int .u8 z2, .int .u8 z3, .int .u8 z4, .int .u8 z5, .int .u8 z6, .int .u8 z7, .int .u8 z8, .int .u8 z9]]) ?_ ?_
      · rcases Bool.eq_false_or_eq_true found with g_32 | g_32
        · -- True
          have gp_33 := g_32
          try simp only [Bool.and_eq_true, Bool.or_eq_true, Bool.not_eq_true', Bool.and_eq_false_iff, Bool.or_eq_false_iff, Bool.not_eq_false', decide_eq_true_eq, decide_eq_false_iff_not, not_or, Bool.false_eq_true, Bool.true_eq_false, false_or, or_false, not_false_eq_true] at gp_33
          refine Wx.gyes rfl rfl (congrArg Value.bool g_32) ?_
          refine Wx.rd (v := lv) (rd_move rfl) rfl ?_
          refine Wx.gyes rfl rfl (congrArg Value.bool g_32) ?_
          refine Wx.rd (v := .int .i64 (l.length : Int)) (rd_lenR hS 0 rfl rfl Try.underlying28) rfl ?_
          refine Wx.gyes rfl rfl (congrArg Value.bool g_32) ?_
          refine Wx.rd (v := bv) (rd_move rfl) rfl ?_
          refine Wx.gyes rfl rfl (congrArg Value.bool g_32) ?_
          refine Wx.rd (v := .int .i64 (best.length : Int)) (rd_lenV rfl (hS.v 1 rfl) Try.underlying28) rfl ?_
          refine Wx.gyes rfl rfl (congrArg Value.bool g_32) ?_
          refine Wx.rd (v := .bool (decide ((best.length : Int) < (l.length : Int)))) (rd_gtr rfl rfl) rfl ?_
          refine Wx.gyes rfl rfl (congrArg Value.bool g_32) ?_
          refine Wx.rd (v := .bool (decide ((best.length : Int) < (l.length : Int)))) (rd_move rfl) rfl ?_
          refine Wx.cut (X := Unit) 12 [51, 52, 53, 54, 55, 56, 57, 58, 59, 60, 61, 62] (fun _ => [(62, .bool (decide ((best.length : Int) < (l.length : Int)) || (decide ((l.length : Int) = (best.length : Int)) && decide (0 < (cmpL l best)))))]) (fun _ w' => St w [] w' [.row (tI .i64) 3 lv l, Ob.v (tSl (tI .i64)) best bv, .box g_12 24 [.int .i64 (madeN 5 ly), v_8], Ob.v (tSl (tSl (tI .i64))) (madeF 5 6 ly mn [z0, z1, z2, z3, z4, z5, z6, z7, z8, z9]) v_8, .box g_1 64 [.int .u8 ly, .int .u8 mn, .int .u8 z0, .int .u8 z1, .int .u8 z2, .int .u8 z3, .int .u8 z4, .int .u8 z5, .int .u8 z6, .int .u8 z7, .int .u8 z8, .int .u8 z9]]) ?_ ?_
          · rcases Bool.eq_false_or_eq_true (decide ((best.length : Int) < (l.length : Int))) with g_34 | g_34
            · -- True
              have gp_35 := of_decide_eq_true g_34
              refine Wx.gnoB rfl rfl (congrArg Value.bool g_34) rfl rfl ?_
              refine Wx.gnoB rfl rfl (congrArg Value.bool g_34) rfl rfl ?_
              refine Wx.gnoB rfl rfl (congrArg Value.bool g_34) rfl rfl ?_
              refine Wx.gnoB rfl rfl (congrArg Value.bool g_34) rfl rfl ?_
              refine Wx.gnoB rfl rfl (congrArg Value.bool g_34) rfl rfl ?_
              refine Wx.gnoB rfl rfl (congrArg Value.bool g_34) rfl rfl ?_
              refine Wx.gno rfl rfl rfl rfl ?_
              refine Wx.gno rfl rfl rfl rfl ?_
              refine Wx.gno rfl rfl rfl rfl ?_
              refine Wx.gno rfl rfl rfl rfl ?_
              refine Wx.gnoB rfl rfl (congrArg Value.bool g_34) rfl rfl ?_
              refine Wx.gyes rfl rfl (congrArg Value.bool g_32) ?_
              refine Wx.rd (v := .bool true) (rd_pickT (congrArg Value.bool g_34) rfl) rfl ?_
              refine Wx.nil ⟨(), hS, ⟨?_, trivial⟩, Out.look rfl Out.refl⟩
              show Value.bool true = Value.bool (decide ((best.length : Int) < (l.length : Int)) || (decide ((l.length : Int) = (best.length : Int)) && decide (0 < (cmpL l best))))
              rw [g_34]; rfl
            · -- False
              have gp_36 := of_decide_eq_false g_34
              refine Wx.gyes rfl rfl (congrArg Value.bool g_34) ?_
              refine Wx.rd (v := lv) (rd_move rfl) rfl ?_
              refine Wx.gyes rfl rfl (congrArg Value.bool g_34) ?_
              refine Wx.rd (v := .int .i64 (l.length : Int)) (rd_lenR hS 0 rfl rfl Try.underlying28) rfl ?_
              refine Wx.gyes rfl rfl (congrArg Value.bool g_34) ?_
              refine Wx.rd (v := bv) (rd_move rfl) rfl ?_
              refine Wx.gyes rfl rfl (congrArg Value.bool g_34) ?_
              refine Wx.rd (v := .int .i64 (best.length : Int)) (rd_lenV rfl (hS.v 1 rfl) Try.underlying28) rfl ?_
              refine Wx.gyes rfl rfl (congrArg Value.bool g_34) ?_
              refine Wx.rd (v := .bool (decide ((l.length : Int) = (best.length : Int)))) (rd_eql rfl rfl) rfl ?_
              refine Wx.gyes rfl rfl (congrArg Value.bool g_34) ?_
              refine Wx.rd (v := .bool (decide ((l.length : Int) = (best.length : Int)))) (rd_move rfl) rfl ?_
              refine Wx.cut (X := Unit) 5 [57, 58, 59, 60, 61] (fun _ => [(61, .bool (decide ((l.length : Int) = (best.length : Int)) && decide (0 < (cmpL l best))))]) (fun _ w' => St w [] w' [.row (tI .i64) 3 lv l, Ob.v (tSl (tI .i64)) best bv, .box g_12 24 [.int .i64 (madeN 5 ly), v_8], Ob.v (tSl (tSl (tI .i64))) (madeF 5 6 ly mn [z0, z1, z2, z3, z4, z5, z6, z7, z8, z9]) v_8, .box g_1 64 [.int .u8 ly, .int .u8 mn, .int .u8 z0, .int .u8 z1, .int .u8 z2, .int .u8 z3, .int .u8 z4, .int .u8 z5, .int .u8 z6, .int .u8 z7, .int .u8 z8, .int .u8 z9]]) ?_ ?_
              · rcases Bool.eq_false_or_eq_true (decide ((l.length : Int) = (best.length : Int))) with g_37 | g_37
                · -- True
                  have gp_38 := of_decide_eq_true g_37
                  refine Wx.gyes rfl rfl (congrArg Value.bool g_37) ?_
                  refine Wx.rd (v := lv) (rd_move rfl) rfl ?_
                  refine Wx.gyes rfl rfl (congrArg Value.bool g_37) ?_
                  refine Wx.rd (v := bv) (rd_move rfl) rfl ?_
                  refine Wx.gyes rfl rfl (congrArg Value.bool g_37) ?_
                  refine Wx.callF (run_callF Try.call49 rfl) (F49 (hS.lend 0 rfl) (hS.v 1 rfl)) rfl ?_
                  rintro r_39 w_40 hx_41 rfl
                  have hS := hS.ext hx_41
                  refine Wx.gyes rfl rfl (congrArg Value.bool g_37) ?_
                  refine Wx.rd (v := .bool (decide (0 < (cmpL l best)))) (rd_gtr rfl rfl) rfl ?_
                  refine Wx.gyes rfl rfl (congrArg Value.bool g_34) ?_
                  refine Wx.rd (v := .bool (decide (0 < (cmpL l best)))) (rd_pickT (congrArg Value.bool g_37) rfl) rfl ?_
                  refine Wx.nil ⟨(), hS, ⟨?_, trivial⟩, Out.look rfl Out.refl⟩
                  show Value.bool (decide (0 < (cmpL l best))) = Value.bool (decide ((l.length : Int) = (best.length : Int)) && decide (0 < (cmpL l best)))
                  rw [g_37]; rfl
                · -- False
                  have gp_42 := of_decide_eq_false g_37
                  refine Wx.gnoB rfl rfl (congrArg Value.bool g_37) rfl rfl ?_
                  refine Wx.gnoB rfl rfl (congrArg Value.bool g_37) rfl rfl ?_
                  refine Wx.gnoB rfl rfl (congrArg Value.bool g_37) rfl rfl ?_
                  refine Wx.gnoB rfl rfl (congrArg Value.bool g_37) rfl rfl ?_
                  refine Wx.gyes rfl rfl (congrArg Value.bool g_34) ?_
                  refine Wx.rd (v := .bool false) (rd_pickF (congrArg Value.bool g_37) rfl) rfl ?_
                  refine Wx.nil ⟨(), hS, ⟨?_, trivial⟩, Out.look rfl Out.refl⟩
                  show Value.bool false = Value.bool (decide ((l.length : Int) = (best.length : Int)) && decide (0 < (cmpL l best)))
                  rw [g_37]; rfl
              rintro ⟨⟩ u_44 w_43 hS
              refine Wx.gyes rfl rfl (congrArg Value.bool g_32) ?_
              refine Wx.rd (v := .bool (decide ((l.length : Int) = (best.length : Int)) && decide (0 < (cmpL l best)))) (rd_pickF (congrArg Value.bool g_34) rfl) rfl ?_
              refine Wx.nil ⟨(), hS, ⟨?_, trivial⟩, Out.look rfl (Out.hav rfl (Out.look rfl Out.refl))⟩
              show Value.bool (decide ((l.length : Int) = (best.length : Int)) && decide (0 < (cmpL l best))) = Value.bool (decide ((best.length : Int) < (l.length : Int)) || (decide ((l.length : Int) = (best.length : Int)) && decide (0 < (cmpL l best))))
              rw [g_34]; rfl
          rintro ⟨⟩ u_46 w_45 hS
          refine Wx.rd (v := .bool (decide ((best.length : Int) < (l.length : Int)) || (decide ((l.length : Int) = (best.length : Int)) && decide (0 < (cmpL l best))))) (rd_pickT (congrArg Value.bool g_32) rfl) rfl ?_
          refine Wx.nil ⟨(), hS, ⟨?_, trivial⟩, Out.look rfl (Out.hav rfl (Out.look rfl Out.refl))⟩
          show Value.bool (decide ((best.length : Int) < (l.length : Int)) || (decide ((l.length : Int) = (best.length : Int)) && decide (0 < (cmpL l best)))) = Value.bool (found && (decide ((best.length : Int) < (l.length : Int)) || (decide ((l.length : Int) = (best.length : Int)) && decide (0 < (cmpL l best)))))
          rw [g_32]; rfl
        · -- False
          have gp_47 := g_32
          try simp only [Bool.and_eq_true, Bool.or_eq_true, Bool.not_eq_true', Bool.and_eq_false_iff, Bool.or_eq_false_iff, Bool.not_eq_false', decide_eq_true_eq, decide_eq_false_iff_not, not_or, Bool.false_eq_true, Bool.true_eq_false, false_or, or_false, not_false_eq_true] at gp_47
          refine Wx.gnoB rfl rfl (congrArg Value.bool g_32) rfl rfl ?_
          refine Wx.gnoB rfl rfl (congrArg Value.bool g_32) rfl rfl ?_
          refine Wx.gnoB rfl rfl (congrArg Value.bool g_32) rfl rfl ?_
          refine Wx.gnoB rfl rfl (congrArg Value.bool g_32) rfl rfl ?_
          refine Wx.gnoB rfl rfl (congrArg Value.bool g_32) rfl rfl ?_
          refine Wx.gnoB rfl rfl (congrArg Value.bool g_32) rfl rfl ?_
          refine Wx.gno rfl rfl rfl rfl ?_
          refine Wx.gno rfl rfl rfl rfl ?_
          refine Wx.gno rfl rfl rfl rfl ?_
          refine Wx.gno rfl rfl rfl rfl ?_
          refine Wx.gno rfl rfl rfl rfl ?_
          refine Wx.gno rfl rfl rfl rfl ?_
          refine Wx.gno rfl rfl rfl rfl ?_
          refine Wx.gno rfl rfl rfl rfl ?_
          refine Wx.gno rfl rfl rfl rfl ?_
          refine Wx.gno rfl rfl rfl rfl ?_
          refine Wx.gno rfl rfl rfl rfl ?_
          refine Wx.gnoB rfl rfl (congrArg Value.bool g_32) rfl rfl ?_
          refine Wx.rd (v := .bool false) (rd_pickF (congrArg Value.bool g_32) rfl) rfl ?_
          refine Wx.nil ⟨(), hS, ⟨?_, trivial⟩, Out.look rfl Out.refl⟩
          show Value.bool false = Value.bool (found && (decide ((best.length : Int) < (l.length : Int)) || (decide ((l.length : Int) = (best.length : Int)) && decide (0 < (cmpL l best)))))
          rw [g_32]; rfl
      rintro ⟨⟩ u_49 w_48 hS
      refine Wx.nil ?_
      refine W.cond rfl (fun c3 => ?_) (fun c3 => ?_)
      · -- yes
        try simp only [Bool.and_eq_true, Bool.or_eq_true, Bool.not_eq_true', Bool.and_eq_false_iff, Bool.or_eq_false_iff, Bool.not_eq_false', decide_eq_true_eq, decide_eq_false_iff_not, not_or, Bool.false_eq_true, Bool.true_eq_false, false_or, or_false, not_false_eq_true] at c3
        refine W.exit rfl ?_
        refine W.reg ?_
        refine Wx.rd (v := .int .i64 (o + 1)) (rd_add rfl rfl (in_i64 (by omega) (by omega))) rfl ?_
        refine Wx.rd (v := .int .i64 (o + 1)) (rd_move rfl) rfl ?_
        refine Wx.nil ?_
        have hv_50 : V (tSl (tI .i64)) best bv _ _ := (hS.v 1 rfl)
        refine ⟨(bv, best, found, o + 1), (by show (((2 ^ (madeF 5 6 ly mn [z0, z1, z2, z3, z4, z5, z6, z7, z8, z9]).length : Nat) : Int) - (o + 1)).toNat < (((2 ^ (madeF 5 6 ly mn [z0, z1, z2, z3, z4, z5, z6, z7, z8, z9]).length : Nat) : Int) - o).toNat; omega), ?_, ?_, Out.look rfl (Out.hav rfl (Out.look rfl (Out.hav rfl (Out.look rfl Out.self))))⟩
        · exact ⟨(St.add (St.tl (St.tl (hS))) (V.tlF (V.tlF (hv_50)))), (by first | omega | assumption), (by first | omega | assumption), (by rw [hbn, ← hl]; exact if_pos ⟨c3.1, by show best.length < l.length ∨ (l.length = best.length ∧ 0 < cmpL l best); omega⟩)⟩
        · exact ⟨rfl, rfl, rfl, trivial⟩
      · -- no
        try simp only [Bool.and_eq_true, Bool.or_eq_true, Bool.not_eq_true', Bool.and_eq_false_iff, Bool.or_eq_false_iff, Bool.not_eq_false', decide_eq_true_eq, decide_eq_false_iff_not, not_or, Bool.false_eq_true, Bool.true_eq_false, false_or, or_false, not_false_eq_true] at c3
        have hnc : ¬ (found = true ∧ (best.length < l.length ∨ (l.length = best.length ∧ 0 < cmpL l best))) := by rintro ⟨q1, q2⟩; rcases c3 with c | c; rw [q1] at c; cases c; omega
        refine W.skip ?_
        refine W.seq ?_
        refine W.reg ?_
        refine Wx.alloc (cs := [.bool false]) hS Try.zeroValue4 rfl rfl (fun g_51 w_52 hx_54 hb_53 hS => ?_)
        refine Wx.storeX (cs' := [.bool false]) (ds := [.bool false]) hS 0 rfl rfl rfl rfl Try.sizeOf4 (Nat.le_of_ble_eq_true rfl) (one_cons rfl one_nil) rfl (fun w_55 hz_56 hS => ?_)
        refine Wx.nil ?_
        refine W.seq ?_
        refine W.reg ?_
        refine Wx.rd (v := .func (.func 48) #[] #[.pointer (some ⟨g_12, 0, none⟩)]) (rd_move rfl) rfl ?_
        refine Wx.rd (v := .int .i64 o) (rd_move rfl) rfl ?_
        refine Wx.callF (run_callC (fs := []) (cs := [.pointer (some ⟨g_12, 0, none⟩)]) (vs := [.int .i64 o, .pointer (some ⟨g_12, 0, none⟩)]) Try.call48 rfl rfl) (F48 (in_i64 (by omega) (by omega)) (in_i64 (by omega) (by omega)) (hS.v 4 rfl) (boxAt hS 3 rfl (Ext.refl _)) (by omega) hS.fb_lt) rfl ?_
        rintro r_57 w_58 hx_59 ⟨v_60, rfl, hv_61⟩
        have ln_63 := hv_61.len63
        have hS := hS.ext hx_59
        have hS := hS.add hv_61
        refine Wx.alloc (cs := [.int .i64 0, (.slice none 0 0)]) hS Try.zeroValue24 rfl rfl (fun g_64 w_65 hx_67 hb_66 hS => ?_)
        refine Wx.storeX (cs' := [.int .i64 (madeN 5 ly), v_60]) (ds := [.int .i64 (madeN 5 ly), v_60]) hS 0 rfl rfl rfl rfl Try.sizeOf24 (Nat.le_of_ble_eq_true rfl) (one_cons rfl (one_cons (V.oneC (hS.v 1 rfl)) one_nil)) rfl (fun w_68 hz_69 hS => ?_)
        refine Wx.nil ?_
        refine W.seq ?_
        refine W.reg ?_
        refine Wx.rd (v := .pointer (some ⟨g_12, 0, none⟩)) (rd_fieldAddr rfl foGe_24_0) rfl ?_
        refine Wx.rd (v := .int .i64 (madeN 5 ly)) (rd_loadX hS 5 rfl rfl rfl Try.isAgg3) rfl ?_
        refine Wx.rd (v := .func (.func 50) #[] #[.pointer (some ⟨g_51, 0, none⟩), .pointer (some ⟨g_64, 0, none⟩)]) (rd_makeFunc (vs := []) (us := [.pointer (some ⟨g_51, 0, none⟩), .pointer (some ⟨g_64, 0, none⟩)]) rfl rfl) rfl ?_
        refine Wx.callB (run_callF Try.call44 rfl) (F44 (fe := 50) (fs := []) (cs := [.pointer (some ⟨g_51, 0, none⟩), .pointer (some ⟨g_64, 0, none⟩)]) (ls := []) (n := madeN 5 ly) (Tl := fun ls ob => ob = Ob.v (tSl (tSl (tI .i64))) (restW o 0 (madeF 5 6 ly mn [z0, z1, z2, z3, z4, z5, z6, z7, z8, z9])) v_60 :: .box g_51 4 [.bool (ls.any (fitsW (restW o 0 (madeF 5 6 ly mn [z0, z1, z2, z3, z4, z5, z6, z7, z8, z9]))))] :: .box g_64 24 [.int .i64 (madeN 5 ly), v_60] :: [.row (tI .i64) 3 lv l, Ob.v (tSl (tI .i64)) best bv, .box g_12 24 [.int .i64 (madeN 5 ly), v_8], Ob.v (tSl (tSl (tI .i64))) (madeF 5 6 ly mn [z0, z1, z2, z3, z4, z5, z6, z7, z8, z9]) v_8, .box g_1 64 [.int .u8 ly, .int .u8 mn, .int .u8 z0, .int .u8 z1, .int .u8 z2, .int .u8 z3, .int .u8 z4, .int .u8 z5, .int .u8 z6, .int .u8 z7, .int .u8 z8, .int .u8 z9]]) Try.call50 (each50 (in_i64 (by omega) (by omega))) (by omega) (by omega) rfl (((hS.front 0 rfl).front 2 rfl).front 2 rfl)) rfl ?_
        rintro r_70 w_71 ⟨rfl, _, rfl, hS⟩
        have hS : St w [] w_71 [Ob.v (tSl (tSl (tI .i64))) (restW o 0 (madeF 5 6 ly mn [z0, z1, z2, z3, z4, z5, z6, z7, z8, z9])) v_60, .box g_51 4 [.bool ((allL ((madeN 5 ly))).any (fitsW (restW o 0 (madeF 5 6 ly mn [z0, z1, z2, z3, z4, z5, z6, z7, z8, z9]))))], .box g_64 24 [.int .i64 (madeN 5 ly), v_60], .row (tI .i64) 3 lv l, Ob.v (tSl (tI .i64)) best bv, .box g_12 24 [.int .i64 (madeN 5 ly), v_8], Ob.v (tSl (tSl (tI .i64))) (madeF 5 6 ly mn [z0, z1, z2, z3, z4, z5, z6, z7, z8, z9]) v_8, .box g_1 64 [.int .u8 ly, .int .u8 mn, .int .u8 z0, .int .u8 z1, .int .u8 z2, .int .u8 z3, .int .u8 z4, .int .u8 z5, .int .u8 z6, .int .u8 z7, .int .u8 z8, .int .u8 z9]] := hS
        refine Wx.nil ?_
        refine W.seq ?_
        refine W.reg ?_
        refine Wx.rd (v := .bool ((allL ((madeN 5 ly))).any (fitsW (restW o 0 (madeF 5 6 ly mn [z0, z1, z2, z3, z4, z5, z6, z7, z8, z9]))))) (rd_loadX hS 1 rfl rfl rfl Try.isAgg4) rfl ?_
        refine Wx.nil ?_
        refine W.cond rfl (fun c4 => ?_) (fun c4 => ?_)
        · -- yes
          try simp only [Bool.and_eq_true, Bool.or_eq_true, Bool.not_eq_true', Bool.and_eq_false_iff, Bool.or_eq_false_iff, Bool.not_eq_false', decide_eq_true_eq, decide_eq_false_iff_not, not_or, Bool.false_eq_true, Bool.true_eq_false, false_or, or_false, not_false_eq_true] at c4
          refine W.reg ?_
          refine Wx.rd (v := lv) (rd_move rfl) rfl ?_
          refine Wx.rd (v := lv) (rd_assign rfl) rfl ?_
          refine Wx.rd (v := .bool true) (rd_assign rfl) rfl ?_
          refine Wx.nil ?_
          refine W.reg ?_
          refine Wx.rd (v := .int .i64 (o + 1)) (rd_add rfl rfl (in_i64 (by omega) (by omega))) rfl ?_
          refine Wx.rd (v := .int .i64 (o + 1)) (rd_move rfl) rfl ?_
          refine Wx.nil ?_
          have hS := hS.freeze 3 rfl
          have hv_73 : V (tSl (tI .i64)) l lv _ _ := (hS.v 0 rfl)
          refine ⟨(lv, l, true, o + 1), (by show (((2 ^ (madeF 5 6 ly mn [z0, z1, z2, z3, z4, z5, z6, z7, z8, z9]).length : Nat) : Int) - (o + 1)).toNat < (((2 ^ (madeF 5 6 ly mn [z0, z1, z2, z3, z4, z5, z6, z7, z8, z9]).length : Nat) : Int) - o).toNat; omega), ?_, ?_, Out.look rfl (Out.hav rfl (Out.look rfl (Out.hav rfl (Out.look rfl Out.self))))⟩
          · exact ⟨(St.add (St.tl (St.tl (St.tl (St.tl (St.tl (hS)))))) (V.tlF (V.tlF (V.tlF (V.tlF (V.tlF (hv_73))))))), (by first | omega | assumption), (by first | omega | assumption), (by rw [hbn, ← hl, if_neg hnc]; exact if_pos c4)⟩
          · exact ⟨rfl, rfl, rfl, trivial⟩
        · -- no
          try simp only [Bool.and_eq_true, Bool.or_eq_true, Bool.not_eq_true', Bool.and_eq_false_iff, Bool.or_eq_false_iff, Bool.not_eq_false', decide_eq_true_eq, decide_eq_false_iff_not, not_or, Bool.false_eq_true, Bool.true_eq_false, false_or, or_false, not_false_eq_true] at c4
          refine W.skip ?_
          refine W.reg ?_
          refine Wx.rd (v := .int .i64 (o + 1)) (rd_add rfl rfl (in_i64 (by omega) (by omega))) rfl ?_
          refine Wx.rd (v := .int .i64 (o + 1)) (rd_move rfl) rfl ?_
          refine Wx.nil ?_
          have hv_74 : V (tSl (tI .i64)) best bv _ _ := (hS.v 4 rfl)
          refine ⟨(bv, best, found, o + 1), (by show (((2 ^ (madeF 5 6 ly mn [z0, z1, z2, z3, z4, z5, z6, z7, z8, z9]).length : Nat) : Int) - (o + 1)).toNat < (((2 ^ (madeF 5 6 ly mn [z0, z1, z2, z3, z4, z5, z6, z7, z8, z9]).length : Nat) : Int) - o).toNat; omega), ?_, ?_, Out.look rfl (Out.hav rfl (Out.look rfl (Out.hav rfl (Out.look rfl Out.self))))⟩
          · exact ⟨(St.add (St.tl (St.tl (St.tl (St.tl (St.tl (hS)))))) (V.tlF (V.tlF (V.tlF (V.tlF (V.tlF (hv_74))))))), (by first | omega | assumption), (by first | omega | assumption), (by rw [hbn, ← hl, if_neg hnc]; exact if_neg (by rw [c4]; decide))⟩
          · exact ⟨rfl, rfl, rfl, trivial⟩
  · -- no
    refine W.exit rfl ?_
    refine W.seq ?_
    refine W.reg ?_
    refine Wx.rd (v := .agg #[.int .i64 (madeN 5 ly), v_8]) (rd_loadXs (ds := [.int .i64 (madeN 5 ly), v_8]) hS 1 rfl rfl rfl rfl Try.isAgg24 Try.sizeOf24) rfl ?_
    refine Wx.callF (run_callF Try.call28 rfl) (F28 (in_i64 (by omega) (by omega)) (hS.v 2 rfl) hS.fb_lt) rfl ?_
    rintro r_75 w_76 hx_77 ⟨v_78, rfl, hv_79⟩
    have ln_81 := hv_79.len63
    have hS := hS.ext hx_77
    have hS := hS.add hv_79
    refine Wx.rd (v := .tuple #[v_78, .int .i64 (checkE (madeN 5 ly) (madeF 5 6 ly mn [z0, z1, z2, z3, z4, z5, z6, z7, z8, z9]))]) (rd_move rfl) rfl ?_
    refine Wx.rd (v := v_78) (rd_extract rfl rfl) rfl ?_
    refine Wx.rd (v := .int .i64 (checkE (madeN 5 ly) (madeF 5 6 ly mn [z0, z1, z2, z3, z4, z5, z6, z7, z8, z9]))) (rd_extract rfl rfl) rfl ?_
    refine Wx.rd (v := v_78) (rd_assign rfl) rfl ?_
    refine Wx.rd (v := .int .i64 (checkE (madeN 5 ly) (madeF 5 6 ly mn [z0, z1, z2, z3, z4, z5, z6, z7, z8, z9]))) (rd_assign rfl) rfl ?_
    refine Wx.nil ?_
    refine W.seq ?_
    refine W.seq ?_
    refine W.reg ?_
    have hfin : fewestL (madeN 5 ly) (madeF 5 6 ly mn [z0, z1, z2, z3, z4, z5, z6, z7, z8, z9]) = best := by rw [hL1, show 2 ^ (madeF 5 6 ly mn [z0, z1, z2, z3, z4, z5, z6, z7, z8, z9]).length = o.toNat by omega, h2]
    refine Wx.rd (v := .int .i64 (checkE (madeN 5 ly) (madeF 5 6 ly mn [z0, z1, z2, z3, z4, z5, z6, z7, z8, z9]))) (rd_move rfl) rfl ?_
    refine Wx.rd (v := .bool (decide ((checkE (madeN 5 ly) (madeF 5 6 ly mn [z0, z1, z2, z3, z4, z5, z6, z7, z8, z9])) ≠ 0))) (rd_neq rfl rfl) rfl ?_
    refine Wx.rd (v := .bool (decide ((checkE (madeN 5 ly) (madeF 5 6 ly mn [z0, z1, z2, z3, z4, z5, z6, z7, z8, z9])) ≠ 0))) (rd_move rfl) rfl ?_
    refine Wx.cut (X := Unit) 5 [82, 83, 84, 85, 86] (fun _ => [(86, .bool (decide ((checkE (madeN 5 ly) (madeF 5 6 ly mn [z0, z1, z2, z3, z4, z5, z6, z7, z8, z9])) ≠ 0) || !(decide ((fewestL (madeN 5 ly) (madeF 5 6 ly mn [z0, z1, z2, z3, z4, z5, z6, z7, z8, z9])) = best))))]) (fun _ w' => St w [] w' [Ob.v (tSl (tI .i64)) (fewestL (madeN 5 ly) (madeF 5 6 ly mn [z0, z1, z2, z3, z4, z5, z6, z7, z8, z9])) v_78, Ob.v (tSl (tI .i64)) best bv, .box g_12 24 [.int .i64 (madeN 5 ly), v_8], Ob.v (tSl (tSl (tI .i64))) (madeF 5 6 ly mn [z0, z1, z2, z3, z4, z5, z6, z7, z8, z9]) v_8, .box g_1 64 [.int .u8 ly, .int .u8 mn, .int .u8 z0, .int .u8 z1, .int .u8 z2, .int .u8 z3, .int .u8 z4, .int .u8 z5, .int .u8 z6, .int .u8 z7, .int .u8 z8, .int .u8 z9]]) ?_ ?_
    · rcases Bool.eq_false_or_eq_true (decide ((checkE (madeN 5 ly) (madeF 5 6 ly mn [z0, z1, z2, z3, z4, z5, z6, z7, z8, z9])) ≠ 0)) with g_82 | g_82
      · -- True
        have gp_83 := of_decide_eq_true g_82
        refine Wx.gnoB rfl rfl (congrArg Value.bool g_82) rfl rfl ?_
        refine Wx.gnoB rfl rfl (congrArg Value.bool g_82) rfl rfl ?_
        refine Wx.gnoB rfl rfl (congrArg Value.bool g_82) rfl rfl ?_
        refine Wx.gnoB rfl rfl (congrArg Value.bool g_82) rfl rfl ?_
        refine Wx.rd (v := .bool true) (rd_pickT (congrArg Value.bool g_82) rfl) rfl ?_
        refine Wx.nil ⟨(), hS, ⟨?_, trivial⟩, Out.look rfl Out.refl⟩
        show Value.bool true = Value.bool (decide ((checkE (madeN 5 ly) (madeF 5 6 ly mn [z0, z1, z2, z3, z4, z5, z6, z7, z8, z9])) ≠ 0) || !(decide ((fewestL (madeN 5 ly) (madeF 5 6 ly mn [z0, z1, z2, z3, z4, z5, z6, z7, z8, z9])) = best)))
        rw [g_82]; rfl
      · -- False
        have gp_84 := of_decide_eq_false g_82
        refine Wx.gyes rfl rfl (congrArg Value.bool g_82) ?_
        refine Wx.rd (v := v_78) (rd_move rfl) rfl ?_
        refine Wx.gyes rfl rfl (congrArg Value.bool g_82) ?_
        refine Wx.rd (v := bv) (rd_move rfl) rfl ?_
        refine Wx.gyes rfl rfl (congrArg Value.bool g_82) ?_
        refine Wx.callF (run_callF Try.call22 rfl) (F22 (hS.v 0 rfl) (hS.v 1 rfl)) rfl ?_
        rintro r_85 w_86 hx_87 rfl
        have hS := hS.ext hx_87
        refine Wx.gyes rfl rfl (congrArg Value.bool g_82) ?_
        refine Wx.rd (v := .bool (!(decide ((fewestL (madeN 5 ly) (madeF 5 6 ly mn [z0, z1, z2, z3, z4, z5, z6, z7, z8, z9])) = best)))) (rd_not rfl) rfl ?_
        refine Wx.rd (v := .bool (!(decide ((fewestL (madeN 5 ly) (madeF 5 6 ly mn [z0, z1, z2, z3, z4, z5, z6, z7, z8, z9])) = best)))) (rd_pickF (congrArg Value.bool g_82) rfl) rfl ?_
        refine Wx.nil ⟨(), hS, ⟨?_, trivial⟩, Out.look rfl Out.refl⟩
        show Value.bool (!(decide ((fewestL (madeN 5 ly) (madeF 5 6 ly mn [z0, z1, z2, z3, z4, z5, z6, z7, z8, z9])) = best))) = Value.bool (decide ((checkE (madeN 5 ly) (madeF 5 6 ly mn [z0, z1, z2, z3, z4, z5, z6, z7, z8, z9])) ≠ 0) || !(decide ((fewestL (madeN 5 ly) (madeF 5 6 ly mn [z0, z1, z2, z3, z4, z5, z6, z7, z8, z9])) = best)))
        rw [g_82]; rfl
    rintro ⟨⟩ u_89 w_88 hS
    refine Wx.nil ?_
    refine W.condF rfl (by simp [hc0, hfin]) ?_
    refine W.skip ?_
    refine W.seq ?_
    refine W.seq ?_
    refine W.reg ?_
    refine Wx.rd (v := .int .i64 ((madeF 5 6 ly mn [z0, z1, z2, z3, z4, z5, z6, z7, z8, z9]).length : Int)) (rd_move rfl) rfl ?_
    refine Wx.rd (v := .int .i64 0) (rd_move rfl) rfl ?_
    refine Wx.nil ?_
    refine W.block ?_
    refine W.loop [2, 15, 16, 17, 88, 89, 90, 91, 92, 93, 94, 95, 96, 97, 98, 99, 100, 101, 102, 103, 104, 105, 106, 107, 108, 109, 110, 111, 112, 113, 114, 115, 116] (fun (i : Int) => [(88, .int .i64 i)]) (fun (i : Int) w' => St w [] w' [Ob.v (tSl (tI .i64)) (fewestL (madeN 5 ly) (madeF 5 6 ly mn [z0, z1, z2, z3, z4, z5, z6, z7, z8, z9])) v_78, Ob.v (tSl (tI .i64)) best bv, .box g_12 24 [.int .i64 (madeN 5 ly), v_8], Ob.v (tSl (tSl (tI .i64))) (madeF 5 6 ly mn [z0, z1, z2, z3, z4, z5, z6, z7, z8, z9]) v_8, .box g_1 64 [.int .u8 ly, .int .u8 mn, .int .u8 z0, .int .u8 z1, .int .u8 z2, .int .u8 z3, .int .u8 z4, .int .u8 z5, .int .u8 z6, .int .u8 z7, .int .u8 z8, .int .u8 z9]] ∧ 0 ≤ i ∧ i ≤ (madeF 5 6 ly mn [z0, z1, z2, z3, z4, z5, z6, z7, z8, z9]).length) (fun (i : Int) => ((madeF 5 6 ly mn [z0, z1, z2, z3, z4, z5, z6, z7, z8, z9]).length - i).toNat) 0 ⟨rfl, trivial⟩ ⟨hS, (by first | omega | simp), (by first | omega | simp)⟩ ?_
    rintro i u_91 w_90 ⟨hS, k0, k1⟩
    refine W.seq ?_
    refine W.reg ?_
    refine Wx.rd (v := .bool (decide (i < ((madeF 5 6 ly mn [z0, z1, z2, z3, z4, z5, z6, z7, z8, z9]).length : Int)))) (rd_lss rfl rfl) rfl ?_
    refine Wx.nil ?_
    refine W.seq ?_
    refine W.condD rfl (fun c6 => ?_) (fun c6 => ?_)
    · -- yes
      refine W.skip ?_
      refine W.seq ?_
      refine W.block ?_
      refine W.seq ?_
      refine W.reg ?_
      refine Wx.rd (v := .int .i64 i) (rd_move rfl) rfl ?_
      refine Wx.rd (v := .int .i64 i) (rd_assign rfl) rfl ?_
      refine Wx.nil ?_
      refine W.seq ?_
      refine W.reg ?_
      refine Wx.rd (v := .func (.func 48) #[] #[.pointer (some ⟨g_12, 0, none⟩)]) (rd_move rfl) rfl ?_
      refine Wx.rd (v := .int .i64 i) (rd_move rfl) rfl ?_
      have hpi := pow1024 (n := i.toNat) (by omega)
      refine Wx.rd (v := .int .i64 ((2 ^ i.toNat : Nat) : Int)) (Rd.to (v := .int .i64 (IntKind.i64.wrap (1 * 2 ^ min i.toNat (IntKind.i64).bits))) (rd_shl rfl rfl (by omega)) (congrArg (Value.int .i64) (show (((2 ^ i.toNat : Nat) : Int) : Int) = (IntKind.i64.wrap (1 * 2 ^ min i.toNat (IntKind.i64).bits) : Int) from (by have h := shl_i64 (n := i.toNat) (by omega); rw [show ((i.toNat : Nat) : Int) = i by omega] at h; exact h.symm)).symm)) rfl ?_
      have bd_92 := bd_i64 (wrap_inK .i64 (1 * 2 ^ min i.toNat (IntKind.i64).bits))
      refine Wx.callF (run_callC (fs := []) (cs := [.pointer (some ⟨g_12, 0, none⟩)]) (vs := [.int .i64 ((2 ^ i.toNat : Nat) : Int), .pointer (some ⟨g_12, 0, none⟩)]) Try.call48 rfl rfl) (F48 (in_i64 (by omega) (by omega)) (in_i64 (by omega) (by omega)) (hS.v 3 rfl) (boxAt hS 2 rfl (Ext.refl _)) (by omega) hS.fb_lt) rfl ?_
      rintro r_93 w_94 hx_95 ⟨v_96, rfl, hv_97⟩
      have ln_99 := hv_97.len63
      have hS := hS.ext hx_95
      have hS := hS.add hv_97
      refine Wx.callF (run_callF Try.call28 rfl) (F28 (in_i64 (by omega) (by omega)) (hS.v 0 rfl) hS.fb_lt) rfl ?_
      rintro r_100 w_101 hx_102 ⟨v_103, rfl, hv_104⟩
      have ln_106 := hv_104.len63
      have hS := hS.ext hx_102
      have hS := hS.add hv_104
      refine Wx.rd (v := .tuple #[v_103, .int .i64 (checkE (madeN 5 ly) (restW ((2 ^ i.toNat : Nat) : Int) 0 (madeF 5 6 ly mn [z0, z1, z2, z3, z4, z5, z6, z7, z8, z9])))]) (rd_move rfl) rfl ?_
      refine Wx.rd (v := v_103) (rd_extract rfl rfl) rfl ?_
      refine Wx.rd (v := .int .i64 (checkE (madeN 5 ly) (restW ((2 ^ i.toNat : Nat) : Int) 0 (madeF 5 6 ly mn [z0, z1, z2, z3, z4, z5, z6, z7, z8, z9])))) (rd_extract rfl rfl) rfl ?_
      refine Wx.rd (v := v_103) (rd_assign rfl) rfl ?_
      refine Wx.rd (v := .int .i64 (checkE (madeN 5 ly) (restW ((2 ^ i.toNat : Nat) : Int) 0 (madeF 5 6 ly mn [z0, z1, z2, z3, z4, z5, z6, z7, z8, z9])))) (rd_assign rfl) rfl ?_
      refine Wx.nil ?_
      refine W.seq ?_
      refine W.reg ?_
      obtain ⟨hr1, hr2, hr3⟩ := hL2 i.toNat (by omega)
      refine Wx.rd (v := .int .i64 (checkE (madeN 5 ly) (restW ((2 ^ i.toNat : Nat) : Int) 0 (madeF 5 6 ly mn [z0, z1, z2, z3, z4, z5, z6, z7, z8, z9])))) (rd_move rfl) rfl ?_
      refine Wx.rd (v := .bool (decide ((checkE (madeN 5 ly) (restW ((2 ^ i.toNat : Nat) : Int) 0 (madeF 5 6 ly mn [z0, z1, z2, z3, z4, z5, z6, z7, z8, z9]))) ≠ 0))) (rd_neq rfl rfl) rfl ?_
      refine Wx.rd (v := .bool (decide ((checkE (madeN 5 ly) (restW ((2 ^ i.toNat : Nat) : Int) 0 (madeF 5 6 ly mn [z0, z1, z2, z3, z4, z5, z6, z7, z8, z9]))) ≠ 0))) (rd_move rfl) rfl ?_
      refine Wx.cut (X := Unit) 6 [102, 103, 104, 105, 106, 107] (fun _ => [(107, .bool (decide ((checkE (madeN 5 ly) (restW ((2 ^ i.toNat : Nat) : Int) 0 (madeF 5 6 ly mn [z0, z1, z2, z3, z4, z5, z6, z7, z8, z9]))) ≠ 0) || decide (((fewestL (madeN 5 ly) (madeF 5 6 ly mn [z0, z1, z2, z3, z4, z5, z6, z7, z8, z9])).length : Int) < ((fewestL (madeN 5 ly) (restW ((2 ^ i.toNat : Nat) : Int) 0 (madeF 5 6 ly mn [z0, z1, z2, z3, z4, z5, z6, z7, z8, z9]))).length : Int))))]) (fun _ w' => St w [] w' [Ob.v (tSl (tI .i64)) (fewestL (madeN 5 ly) (restW ((2 ^ i.toNat : Nat) : Int) 0 (madeF 5 6 ly mn [z0, z1, z2, z3, z4, z5, z6, z7, z8, z9]))) v_103, Ob.v (tSl (tSl (tI .i64))) (restW ((2 ^ i.toNat : Nat) : Int) 0 (madeF 5 6 ly mn [z0, z1, z2, z3, z4, z5, z6, z7, z8, z9])) v_96, Ob.v (tSl (tI .i64)) (fewestL (madeN 5 ly) (madeF 5 6 ly mn [z0, z1, z2, z3, z4, z5, z6, z7, z8, z9])) v_78, Ob.v (tSl (tI .i64)) best bv, .box g_12 24 [.int .i64 (madeN 5 ly), v_8], Ob.v (tSl (tSl (tI .i64))) (madeF 5 6 ly mn [z0, z1, z2, z3, z4, z5, z6, z7, z8, z9]) v_8, .box g_1 64 [.int .u8 ly, .int .u8 mn, .int .u8 z0, .int .u8 z1, .int .u8 z2, .int .u8 z3, .int .u8 z4, .int .u8 z5, .int .u8 z6, .int .u8 z7, .int .u8 z8, .int .u8 z9]]) ?_ ?_
      · rcases Bool.eq_false_or_eq_true (decide ((checkE (madeN 5 ly) (restW ((2 ^ i.toNat : Nat) : Int) 0 (madeF 5 6 ly mn [z0, z1, z2, z3, z4, z5, z6, z7, z8, z9]))) ≠ 0)) with g_107 | g_107
        · -- True
          have gp_108 := of_decide_eq_true g_107
          refine Wx.gnoB rfl rfl (congrArg Value.bool g_107) rfl rfl ?_
          refine Wx.gnoB rfl rfl (congrArg Value.bool g_107) rfl rfl ?_
          refine Wx.gnoB rfl rfl (congrArg Value.bool g_107) rfl rfl ?_
          refine Wx.gnoB rfl rfl (congrArg Value.bool g_107) rfl rfl ?_
          refine Wx.gnoB rfl rfl (congrArg Value.bool g_107) rfl rfl ?_
          refine Wx.rd (v := .bool true) (rd_pickT (congrArg Value.bool g_107) rfl) rfl ?_
          refine Wx.nil ⟨(), hS, ⟨?_, trivial⟩, Out.look rfl Out.refl⟩
          show Value.bool true = Value.bool (decide ((checkE (madeN 5 ly) (restW ((2 ^ i.toNat : Nat) : Int) 0 (madeF 5 6 ly mn [z0, z1, z2, z3, z4, z5, z6, z7, z8, z9]))) ≠ 0) || decide (((fewestL (madeN 5 ly) (madeF 5 6 ly mn [z0, z1, z2, z3, z4, z5, z6, z7, z8, z9])).length : Int) < ((fewestL (madeN 5 ly) (restW ((2 ^ i.toNat : Nat) : Int) 0 (madeF 5 6 ly mn [z0, z1, z2, z3, z4, z5, z6, z7, z8, z9]))).length : Int)))
          rw [g_107]; rfl
        · -- False
          have gp_109 := of_decide_eq_false g_107
          refine Wx.gyes rfl rfl (congrArg Value.bool g_107) ?_
          refine Wx.rd (v := v_103) (rd_move rfl) rfl ?_
          refine Wx.gyes rfl rfl (congrArg Value.bool g_107) ?_
          refine Wx.rd (v := .int .i64 ((fewestL (madeN 5 ly) (restW ((2 ^ i.toNat : Nat) : Int) 0 (madeF 5 6 ly mn [z0, z1, z2, z3, z4, z5, z6, z7, z8, z9]))).length : Int)) (rd_lenV rfl (hS.v 0 rfl) Try.underlying28) rfl ?_
          refine Wx.gyes rfl rfl (congrArg Value.bool g_107) ?_
          refine Wx.rd (v := v_78) (rd_move rfl) rfl ?_
          refine Wx.gyes rfl rfl (congrArg Value.bool g_107) ?_
          refine Wx.rd (v := .int .i64 ((fewestL (madeN 5 ly) (madeF 5 6 ly mn [z0, z1, z2, z3, z4, z5, z6, z7, z8, z9])).length : Int)) (rd_lenV rfl (hS.v 2 rfl) Try.underlying28) rfl ?_
          refine Wx.gyes rfl rfl (congrArg Value.bool g_107) ?_
          refine Wx.rd (v := .bool (decide (((fewestL (madeN 5 ly) (madeF 5 6 ly mn [z0, z1, z2, z3, z4, z5, z6, z7, z8, z9])).length : Int) < ((fewestL (madeN 5 ly) (restW ((2 ^ i.toNat : Nat) : Int) 0 (madeF 5 6 ly mn [z0, z1, z2, z3, z4, z5, z6, z7, z8, z9]))).length : Int)))) (rd_gtr rfl rfl) rfl ?_
          refine Wx.rd (v := .bool (decide (((fewestL (madeN 5 ly) (madeF 5 6 ly mn [z0, z1, z2, z3, z4, z5, z6, z7, z8, z9])).length : Int) < ((fewestL (madeN 5 ly) (restW ((2 ^ i.toNat : Nat) : Int) 0 (madeF 5 6 ly mn [z0, z1, z2, z3, z4, z5, z6, z7, z8, z9]))).length : Int)))) (rd_pickF (congrArg Value.bool g_107) rfl) rfl ?_
          refine Wx.nil ⟨(), hS, ⟨?_, trivial⟩, Out.look rfl Out.refl⟩
          show Value.bool (decide (((fewestL (madeN 5 ly) (madeF 5 6 ly mn [z0, z1, z2, z3, z4, z5, z6, z7, z8, z9])).length : Int) < ((fewestL (madeN 5 ly) (restW ((2 ^ i.toNat : Nat) : Int) 0 (madeF 5 6 ly mn [z0, z1, z2, z3, z4, z5, z6, z7, z8, z9]))).length : Int))) = Value.bool (decide ((checkE (madeN 5 ly) (restW ((2 ^ i.toNat : Nat) : Int) 0 (madeF 5 6 ly mn [z0, z1, z2, z3, z4, z5, z6, z7, z8, z9]))) ≠ 0) || decide (((fewestL (madeN 5 ly) (madeF 5 6 ly mn [z0, z1, z2, z3, z4, z5, z6, z7, z8, z9])).length : Int) < ((fewestL (madeN 5 ly) (restW ((2 ^ i.toNat : Nat) : Int) 0 (madeF 5 6 ly mn [z0, z1, z2, z3, z4, z5, z6, z7, z8, z9]))).length : Int)))
          rw [g_107]; rfl
      rintro ⟨⟩ u_111 w_110 hS
      refine Wx.rd (v := .bool (decide ((checkE (madeN 5 ly) (restW ((2 ^ i.toNat : Nat) : Int) 0 (madeF 5 6 ly mn [z0, z1, z2, z3, z4, z5, z6, z7, z8, z9]))) ≠ 0) || decide (((fewestL (madeN 5 ly) (madeF 5 6 ly mn [z0, z1, z2, z3, z4, z5, z6, z7, z8, z9])).length : Int) < ((fewestL (madeN 5 ly) (restW ((2 ^ i.toNat : Nat) : Int) 0 (madeF 5 6 ly mn [z0, z1, z2, z3, z4, z5, z6, z7, z8, z9]))).length : Int)))) (rd_move rfl) rfl ?_
      refine Wx.cut (X := Unit) 7 [109, 110, 111, 112, 113, 114, 115] (fun _ => [(115, .bool ((decide ((checkE (madeN 5 ly) (restW ((2 ^ i.toNat : Nat) : Int) 0 (madeF 5 6 ly mn [z0, z1, z2, z3, z4, z5, z6, z7, z8, z9]))) ≠ 0) || decide (((fewestL (madeN 5 ly) (madeF 5 6 ly mn [z0, z1, z2, z3, z4, z5, z6, z7, z8, z9])).length : Int) < ((fewestL (madeN 5 ly) (restW ((2 ^ i.toNat : Nat) : Int) 0 (madeF 5 6 ly mn [z0, z1, z2, z3, z4, z5, z6, z7, z8, z9]))).length : Int))) || decide (((fewestL (madeN 5 ly) (restW ((2 ^ i.toNat : Nat) : Int) 0 (madeF 5 6 ly mn [z0, z1, z2, z3, z4, z5, z6, z7, z8, z9]))).length : Int) < (((fewestL (madeN 5 ly) (madeF 5 6 ly mn [z0, z1, z2, z3, z4, z5, z6, z7, z8, z9])).length : Int) - 1))))]) (fun _ w' => St w [] w' [Ob.v (tSl (tI .i64)) (fewestL (madeN 5 ly) (restW ((2 ^ i.toNat : Nat) : Int) 0 (madeF 5 6 ly mn [z0, z1, z2, z3, z4, z5, z6, z7, z8, z9]))) v_103, Ob.v (tSl (tSl (tI .i64))) (restW ((2 ^ i.toNat : Nat) : Int) 0 (madeF 5 6 ly mn [z0, z1, z2, z3, z4, z5, z6, z7, z8, z9])) v_96, Ob.v (tSl (tI .i64)) (fewestL (madeN 5 ly) (madeF 5 6 ly mn [z0, z1, z2, z3, z4, z5, z6, z7, z8, z9])) v_78, Ob.v (tSl (tI .i64)) best bv, .box g_12 24 [.int .i64 (madeN 5 ly), v_8], Ob.v (tSl (tSl (tI .i64))) (madeF 5 6 ly mn [z0, z1, z2, z3, z4, z5, z6, z7, z8, z9]) v_8, .box g_1 64 [.int .u8 ly, .int .u8 mn, .int .u8 z0, .int .u8 z1, .int .u8 z2, .int .u8 z3, .int .u8 z4, .int .u8 z5, .int .u8 z6, .int .u8 z7, .int .u8 z8, .int .u8 z9]]) ?_ ?_
      · rcases Bool.eq_false_or_eq_true (decide ((checkE (madeN 5 ly) (restW ((2 ^ i.toNat : Nat) : Int) 0 (madeF 5 6 ly mn [z0, z1, z2, z3, z4, z5, z6, z7, z8, z9]))) ≠ 0) || decide (((fewestL (madeN 5 ly) (madeF 5 6 ly mn [z0, z1, z2, z3, z4, z5, z6, z7, z8, z9])).length : Int) < ((fewestL (madeN 5 ly) (restW ((2 ^ i.toNat : Nat) : Int) 0 (madeF 5 6 ly mn [z0, z1, z2, z3, z4, z5, z6, z7, z8, z9]))).length : Int))) with g_112 | g_112
        · -- True
          have gp_113 := g_112
          try simp only [Bool.and_eq_true, Bool.or_eq_true, Bool.not_eq_true', Bool.and_eq_false_iff, Bool.or_eq_false_iff, Bool.not_eq_false', decide_eq_true_eq, decide_eq_false_iff_not, not_or, Bool.false_eq_true, Bool.true_eq_false, false_or, or_false, not_false_eq_true] at gp_113
          refine Wx.gnoB rfl rfl (congrArg Value.bool g_112) rfl rfl ?_
          refine Wx.gnoB rfl rfl (congrArg Value.bool g_112) rfl rfl ?_
          refine Wx.gnoB rfl rfl (congrArg Value.bool g_112) rfl rfl ?_
          refine Wx.gnoB rfl rfl (congrArg Value.bool g_112) rfl rfl ?_
          refine Wx.gnoB rfl rfl (congrArg Value.bool g_112) rfl rfl ?_
          refine Wx.gnoB rfl rfl (congrArg Value.bool g_112) rfl rfl ?_
          refine Wx.rd (v := .bool true) (rd_pickT (congrArg Value.bool g_112) rfl) rfl ?_
          refine Wx.nil ⟨(), hS, ⟨?_, trivial⟩, Out.look rfl Out.refl⟩
          show Value.bool true = Value.bool ((decide ((checkE (madeN 5 ly) (restW ((2 ^ i.toNat : Nat) : Int) 0 (madeF 5 6 ly mn [z0, z1, z2, z3, z4, z5, z6, z7, z8, z9]))) ≠ 0) || decide (((fewestL (madeN 5 ly) (madeF 5 6 ly mn [z0, z1, z2, z3, z4, z5, z6, z7, z8, z9])).length : Int) < ((fewestL (madeN 5 ly) (restW ((2 ^ i.toNat : Nat) : Int) 0 (madeF 5 6 ly mn [z0, z1, z2, z3, z4, z5, z6, z7, z8, z9]))).length : Int))) || decide (((fewestL (madeN 5 ly) (restW ((2 ^ i.toNat : Nat) : Int) 0 (madeF 5 6 ly mn [z0, z1, z2, z3, z4, z5, z6, z7, z8, z9]))).length : Int) < (((fewestL (madeN 5 ly) (madeF 5 6 ly mn [z0, z1, z2, z3, z4, z5, z6, z7, z8, z9])).length : Int) - 1)))
          rw [g_112]; rfl
        · -- False
          have gp_114 := g_112
          try simp only [Bool.and_eq_true, Bool.or_eq_true, Bool.not_eq_true', Bool.and_eq_false_iff, Bool.or_eq_false_iff, Bool.not_eq_false', decide_eq_true_eq, decide_eq_false_iff_not, not_or, Bool.false_eq_true, Bool.true_eq_false, false_or, or_false, not_false_eq_true] at gp_114
          refine Wx.gyes rfl rfl (congrArg Value.bool g_112) ?_
          refine Wx.rd (v := v_103) (rd_move rfl) rfl ?_
          refine Wx.gyes rfl rfl (congrArg Value.bool g_112) ?_
          refine Wx.rd (v := .int .i64 ((fewestL (madeN 5 ly) (restW ((2 ^ i.toNat : Nat) : Int) 0 (madeF 5 6 ly mn [z0, z1, z2, z3, z4, z5, z6, z7, z8, z9]))).length : Int)) (rd_lenV rfl (hS.v 0 rfl) Try.underlying28) rfl ?_
          refine Wx.gyes rfl rfl (congrArg Value.bool g_112) ?_
          refine Wx.rd (v := v_78) (rd_move rfl) rfl ?_
          refine Wx.gyes rfl rfl (congrArg Value.bool g_112) ?_
          refine Wx.rd (v := .int .i64 ((fewestL (madeN 5 ly) (madeF 5 6 ly mn [z0, z1, z2, z3, z4, z5, z6, z7, z8, z9])).length : Int)) (rd_lenV rfl (hS.v 2 rfl) Try.underlying28) rfl ?_
          refine Wx.gyes rfl rfl (congrArg Value.bool g_112) ?_
          refine Wx.rd (v := .int .i64 (((fewestL (madeN 5 ly) (madeF 5 6 ly mn [z0, z1, z2, z3, z4, z5, z6, z7, z8, z9])).length : Int) - 1)) (rd_sub rfl rfl (in_i64 (by omega) (by omega))) rfl ?_
          refine Wx.gyes rfl rfl (congrArg Value.bool g_112) ?_
          refine Wx.rd (v := .bool (decide (((fewestL (madeN 5 ly) (restW ((2 ^ i.toNat : Nat) : Int) 0 (madeF 5 6 ly mn [z0, z1, z2, z3, z4, z5, z6, z7, z8, z9]))).length : Int) < (((fewestL (madeN 5 ly) (madeF 5 6 ly mn [z0, z1, z2, z3, z4, z5, z6, z7, z8, z9])).length : Int) - 1)))) (rd_lss rfl rfl) rfl ?_
          refine Wx.rd (v := .bool (decide (((fewestL (madeN 5 ly) (restW ((2 ^ i.toNat : Nat) : Int) 0 (madeF 5 6 ly mn [z0, z1, z2, z3, z4, z5, z6, z7, z8, z9]))).length : Int) < (((fewestL (madeN 5 ly) (madeF 5 6 ly mn [z0, z1, z2, z3, z4, z5, z6, z7, z8, z9])).length : Int) - 1)))) (rd_pickF (congrArg Value.bool g_112) rfl) rfl ?_
          refine Wx.nil ⟨(), hS, ⟨?_, trivial⟩, Out.look rfl Out.refl⟩
          show Value.bool (decide (((fewestL (madeN 5 ly) (restW ((2 ^ i.toNat : Nat) : Int) 0 (madeF 5 6 ly mn [z0, z1, z2, z3, z4, z5, z6, z7, z8, z9]))).length : Int) < (((fewestL (madeN 5 ly) (madeF 5 6 ly mn [z0, z1, z2, z3, z4, z5, z6, z7, z8, z9])).length : Int) - 1))) = Value.bool ((decide ((checkE (madeN 5 ly) (restW ((2 ^ i.toNat : Nat) : Int) 0 (madeF 5 6 ly mn [z0, z1, z2, z3, z4, z5, z6, z7, z8, z9]))) ≠ 0) || decide (((fewestL (madeN 5 ly) (madeF 5 6 ly mn [z0, z1, z2, z3, z4, z5, z6, z7, z8, z9])).length : Int) < ((fewestL (madeN 5 ly) (restW ((2 ^ i.toNat : Nat) : Int) 0 (madeF 5 6 ly mn [z0, z1, z2, z3, z4, z5, z6, z7, z8, z9]))).length : Int))) || decide (((fewestL (madeN 5 ly) (restW ((2 ^ i.toNat : Nat) : Int) 0 (madeF 5 6 ly mn [z0, z1, z2, z3, z4, z5, z6, z7, z8, z9]))).length : Int) < (((fewestL (madeN 5 ly) (madeF 5 6 ly mn [z0, z1, z2, z3, z4, z5, z6, z7, z8, z9])).length : Int) - 1)))
          rw [g_112]; rfl
      rintro ⟨⟩ u_116 w_115 hS
      refine Wx.nil ?_
      refine W.condF rfl (by rw [hr1, decide_eq_false (by omega), decide_eq_false (by omega), decide_eq_false (by omega)]; rfl) ?_
      refine W.skip ?_
      refine W.reg ?_
      refine Wx.rd (v := .int .i64 (i + 1)) (rd_add rfl rfl (in_i64 (by omega) (by omega))) rfl ?_
      refine Wx.rd (v := .int .i64 (i + 1)) (rd_move rfl) rfl ?_
      refine Wx.nil ?_
      refine ⟨i + 1, (by show ((madeF 5 6 ly mn [z0, z1, z2, z3, z4, z5, z6, z7, z8, z9]).length - (i + 1)).toNat < ((madeF 5 6 ly mn [z0, z1, z2, z3, z4, z5, z6, z7, z8, z9]).length - i).toNat; omega), ?_, ?_, Out.look rfl (Out.hav rfl (Out.look rfl (Out.hav rfl (Out.look rfl Out.self))))⟩
      · exact ⟨St.tl (hS.tl), (by first | omega | assumption), (by first | omega | assumption)⟩
      · exact ⟨rfl, trivial⟩
    · -- no
      refine W.exit rfl ?_
      refine W.seq ?_
      refine W.reg ?_
      refine Wx.callF (run_callF Try.call15 rfl) (F15) rfl ?_
      rintro r_117 w_118 hx_119 rfl
      have hS := hS.ext hx_119
      refine Wx.rd (v := .bool true) (rd_assign rfl) rfl ?_
      refine Wx.nil ?_
      exact W.ret ⟨.bool true, ResIs.one, hS.bel, rfl⟩
end Go.Proofs.Ytjmpojoimcljoaa
