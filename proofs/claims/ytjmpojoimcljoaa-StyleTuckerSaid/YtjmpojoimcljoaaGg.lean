/-
  WHAT IS PROVED HERE: what functions of layer 3 hand back, each out of its own code; the conditions stand in each statement.
-/
import Derived.Test.YtjmpojoimcljoaaProg
import Derived.Test.YtjmpojoimcljoaaWk9
import Derived.Test.YtjmpojoimcljoaaSpec6
import Derived.Test.YtjmpojoimcljoaaFa
import Derived.Test.YtjmpojoimcljoaaFf
import Derived.Test.YtjmpojoimcljoaaFg
import Derived.Test.YtjmpojoimcljoaaFh
import Derived.Test.YtjmpojoimcljoaaFi
import Derived.Test.YtjmpojoimcljoaaFj
import Derived.Test.YtjmpojoimcljoaaFk
import Derived.Test.YtjmpojoimcljoaaGa
import Derived.Test.YtjmpojoimcljoaaGc
import Derived.Test.YtjmpojoimcljoaaGf
import Derived.Test.YtjmpojoimcljoaaEach2
import Derived.Test.YtjmpojoimcljoaaSpec7
namespace Go.Proofs.Ytjmpojoimcljoaa
open Go.Wk Go.RowKit
set_option linter.unusedVariables false
set_option linter.unusedSimpArgs false
theorem foGg_24_0 : fldOff Try.prog 24 0 = some 0 := by kernel_rfl
theorem elGg_28 : ElemI Try.prog 28 3 (.int .i64 0) 1 8 := ElemI.of Try.underlying28 (by kernel_rfl) (by first | rfl | kernel_rfl) (by decide)

theorem F8 {ly : Int} {mn : Int} {z0 : Int} {z1 : Int} {z2 : Int} {z3 : Int} {z4 : Int} {z5 : Int} {z6 : Int} {z7 : Int} {z8 : Int} {z9 : Int} {w : World} (i_ly : InK .u8 ly) (i_mn : InK .u8 mn) (i_z0 : InK .u8 z0) (i_z1 : InK .u8 z1) (i_z2 : InK .u8 z2) (i_z3 : InK .u8 z3) (i_z4 : InK .u8 z4) (i_z5 : InK .u8 z5) (i_z6 : InK .u8 z6) (i_z7 : InK .u8 z7) (i_z8 : InK .u8 z8) (i_z9 : InK .u8 z9) (p_law : tuckP (madeN 6 ly) (madeF 6 8 ly mn [z0, z1, z2, z3, z4, z5, z6, z7, z8, z9])) : Calls Try.prog 8 #[.agg #[.int .u8 ly, .int .u8 mn, .int .u8 z0, .int .u8 z1, .int .u8 z2, .int .u8 z3, .int .u8 z4, .int .u8 z5, .int .u8 z6, .int .u8 z7, .int .u8 z8, .int .u8 z9]] w (Ret w (fun r _ => r = .bool true)) := by
  have b_z9 := bd_u8 i_z9
  have b_z8 := bd_u8 i_z8
  have b_z7 := bd_u8 i_z7
  have b_z6 := bd_u8 i_z6
  have b_z5 := bd_u8 i_z5
  have b_z4 := bd_u8 i_z4
  have b_z3 := bd_u8 i_z3
  have b_z2 := bd_u8 i_z2
  have b_z1 := bd_u8 i_z1
  have b_z0 := bd_u8 i_z0
  have b_mn := bd_u8 i_mn
  have b_ly := bd_u8 i_ly
  obtain ⟨hc0, hP, hcn, hiff, hz, hnz⟩ := p_law
  have hN := madeN_bd (a := 6) (ly := ly) (by omega)
  have hck := check_ok hc0
  have hS := St.start0 w
  refine enterR Try.func8 rfl Try.ntmps8 Try.results8 rfl ?_
  refine W.seq ?_
  refine W.reg ?_
  refine Wx.box (cs := [.int .u8 ly, .int .u8 mn, .int .u8 z0, .int .u8 z1, .int .u8 z2, .int .u8 z3, .int .u8 z4, .int .u8 z5, .int .u8 z6, .int .u8 z7, .int .u8 z8, .int .u8 z9]) hS rfl rfl rfl (fun g_1 w_2 hx_4 hb_3 hS => ?_)
  refine Wx.rd (v := .bool false) (rd_assign rfl) rfl ?_
  refine Wx.nil ?_
  refine W.seq ?_
  refine W.reg ?_
  refine Wx.rd (v := .agg #[.int .u8 ly, .int .u8 mn, .int .u8 z0, .int .u8 z1, .int .u8 z2, .int .u8 z3, .int .u8 z4, .int .u8 z5, .int .u8 z6, .int .u8 z7, .int .u8 z8, .int .u8 z9]) (rd_loadXs (ds := [.int .u8 ly, .int .u8 mn, .int .u8 z0, .int .u8 z1, .int .u8 z2, .int .u8 z3, .int .u8 z4, .int .u8 z5, .int .u8 z6, .int .u8 z7, .int .u8 z8, .int .u8 z9]) hS 0 rfl rfl rfl rfl Try.isAgg64 Try.sizeOf64) rfl ?_
  refine Wx.callF (run_callF Try.call43 rfl) (F43 (in_u8 (by omega) (by omega)) (in_u8 (by omega) (by omega)) (in_u8 (by omega) (by omega)) (in_u8 (by omega) (by omega)) (in_u8 (by omega) (by omega)) (in_u8 (by omega) (by omega)) (in_u8 (by omega) (by omega)) (in_u8 (by omega) (by omega)) (in_u8 (by omega) (by omega)) (in_u8 (by omega) (by omega)) (in_u8 (by omega) (by omega)) (in_u8 (by omega) (by omega)) (in_i64 (by omega) (by omega)) (in_i64 (by omega) (by omega)) (by omega) (by omega) (by omega) (by omega) hS.fb_lt) rfl ?_
  rintro r_5 w_6 hx_7 ⟨v_8, rfl, hv_9⟩
  have ln_11 := hv_9.len63
  have hS := hS.ext hx_7
  have hS := hS.add hv_9
  refine Wx.alloc (cs := [.int .i64 0, (.slice none 0 0)]) hS Try.zeroValue24 rfl rfl (fun g_12 w_13 hx_15 hb_14 hS => ?_)
  refine Wx.storeX (cs' := [.int .i64 (madeN 6 ly), v_8]) (ds := [.int .i64 (madeN 6 ly), v_8]) hS 0 rfl rfl rfl rfl Try.sizeOf24 (Nat.le_of_ble_eq_true rfl) (one_cons rfl (one_cons (V.oneC (hS.v 1 rfl)) one_nil)) rfl (fun w_16 hz_17 hS => ?_)
  refine Wx.nil ?_
  refine W.seq ?_
  refine W.reg ?_
  refine Wx.rd (v := .pointer (some ⟨g_12, 0, none⟩)) (rd_fieldAddr rfl foGg_24_0) rfl ?_
  refine Wx.rd (v := .int .i64 (madeN 6 ly)) (rd_loadX hS 0 rfl rfl rfl Try.isAgg3) rfl ?_
  refine Wx.rd (v := .int .i64 (madeN 6 ly)) (rd_assign rfl) rfl ?_
  refine Wx.nil ?_
  refine W.seq ?_
  refine W.reg ?_
  refine Wx.alloc (cs := [(.slice none 0 0)]) hS Try.zeroValue28 rfl rfl (fun g_18 w_19 hx_21 hb_20 hS => ?_)
  refine Wx.nil ?_
  refine W.seq ?_
  refine W.reg ?_
  refine Wx.alloc (cs := [.int .i64 0]) hS Try.zeroValue3 rfl rfl (fun g_22 w_23 hx_25 hb_24 hS => ?_)
  refine Wx.storeX (cs' := [.int .i64 0]) (ds := [.int .i64 0]) hS 0 rfl rfl rfl rfl Try.sizeOf3 (Nat.le_of_ble_eq_true rfl) (one_cons rfl one_nil) rfl (fun w_26 hz_27 hS => ?_)
  refine Wx.nil ?_
  refine W.seq ?_
  refine W.reg ?_
  refine Wx.rd (v := .int .i64 (madeN 6 ly)) (rd_move rfl) rfl ?_
  refine Wx.rd (v := .func (.func 45) #[] #[.pointer (some ⟨g_12, 0, none⟩), .pointer (some ⟨g_22, 0, none⟩), .pointer (some ⟨g_18, 0, none⟩)]) (rd_makeFunc (vs := []) (us := [.pointer (some ⟨g_12, 0, none⟩), .pointer (some ⟨g_22, 0, none⟩), .pointer (some ⟨g_18, 0, none⟩)]) rfl rfl) rfl ?_
  have hS := hS.add (V.nil (t := tI .i64))
  refine Wx.callB (run_callF Try.call44 rfl) (F44 (fe := 45) (fs := []) (cs := [.pointer (some ⟨g_12, 0, none⟩), .pointer (some ⟨g_22, 0, none⟩), .pointer (some ⟨g_18, 0, none⟩)]) (ls := []) (n := madeN 6 ly) (Tl := fun ls ob => ∃ flv, ob = Ob.v (tSl (tI .i64)) (ls.foldl (stepF (madeF 6 8 ly mn [z0, z1, z2, z3, z4, z5, z6, z7, z8, z9])) ([], 0)).1 flv :: Ob.v (tSl (tSl (tI .i64))) (madeF 6 8 ly mn [z0, z1, z2, z3, z4, z5, z6, z7, z8, z9]) v_8 :: .box g_12 24 [.int .i64 (madeN 6 ly), v_8] :: .box g_22 3 [.int .i64 (ls.foldl (stepF (madeF 6 8 ly mn [z0, z1, z2, z3, z4, z5, z6, z7, z8, z9])) ([], 0)).2] :: .box g_18 28 [flv] :: [.box g_1 64 [.int .u8 ly, .int .u8 mn, .int .u8 z0, .int .u8 z1, .int .u8 z2, .int .u8 z3, .int .u8 z4, .int .u8 z5, .int .u8 z6, .int .u8 z7, .int .u8 z8, .int .u8 z9]]) Try.call45 (each45 (in_i64 (by omega) (by omega))) (by omega) (by omega) ⟨_, rfl⟩ (((((hS.front 2 rfl).front 2 rfl).front 3 rfl).front 4 rfl).front 4 rfl)) rfl ?_
  rintro r_28 w_29 ⟨rfl, _, ⟨flv_30, rfl⟩, hS⟩
  have hS : St w [] w_29 (Ob.v (tSl (tI .i64)) ((allL (madeN 6 ly)).foldl (stepF (madeF 6 8 ly mn [z0, z1, z2, z3, z4, z5, z6, z7, z8, z9])) ([], 0)).1 flv_30 :: Ob.v (tSl (tSl (tI .i64))) (madeF 6 8 ly mn [z0, z1, z2, z3, z4, z5, z6, z7, z8, z9]) v_8 :: .box g_12 24 [.int .i64 (madeN 6 ly), v_8] :: .box g_22 3 [.int .i64 ((allL (madeN 6 ly)).foldl (stepF (madeF 6 8 ly mn [z0, z1, z2, z3, z4, z5, z6, z7, z8, z9])) ([], 0)).2] :: .box g_18 28 [flv_30] :: [.box g_1 64 [.int .u8 ly, .int .u8 mn, .int .u8 z0, .int .u8 z1, .int .u8 z2, .int .u8 z3, .int .u8 z4, .int .u8 z5, .int .u8 z6, .int .u8 z7, .int .u8 z8, .int .u8 z9]]) := hS
  rw [foldF_fit (L := madeN 6 ly) (by omega)] at hS
  have hS : St w [] w_29 [Ob.v (tSl (tI .i64)) ((fitW (madeN 6 ly) (madeF 6 8 ly mn [z0, z1, z2, z3, z4, z5, z6, z7, z8, z9])).headD []) flv_30, Ob.v (tSl (tSl (tI .i64))) (madeF 6 8 ly mn [z0, z1, z2, z3, z4, z5, z6, z7, z8, z9]) v_8, .box g_12 24 [.int .i64 (madeN 6 ly), v_8], .box g_22 3 [.int .i64 ((fitW (madeN 6 ly) (madeF 6 8 ly mn [z0, z1, z2, z3, z4, z5, z6, z7, z8, z9])).length : Int)], .box g_18 28 [flv_30], .box g_1 64 [.int .u8 ly, .int .u8 mn, .int .u8 z0, .int .u8 z1, .int .u8 z2, .int .u8 z3, .int .u8 z4, .int .u8 z5, .int .u8 z6, .int .u8 z7, .int .u8 z8, .int .u8 z9]] := hS
  have hfl := fitW_len (madeN 6 ly) (madeF 6 8 ly mn [z0, z1, z2, z3, z4, z5, z6, z7, z8, z9]) (by omega)
  refine Wx.nil ?_
  refine W.seq ?_
  refine W.reg ?_
  refine Wx.rd (v := (.slice none 0 0)) (rd_assign rfl) rfl ?_
  refine Wx.nil ?_
  refine W.seq ?_
  refine W.seq ?_
  refine W.reg ?_
  refine Wx.rd (v := .int .i64 (madeN 6 ly)) (rd_move rfl) rfl ?_
  refine Wx.rd (v := .int .i64 0) (rd_move rfl) rfl ?_
  refine Wx.nil ?_
  refine W.block ?_
  have hS := hS.add ((V.nil (t := (tI .i64))))
  refine W.loop [2, 7, 8, 9, 10, 11, 12, 29, 30, 31, 32, 33, 34, 35, 36, 37, 38, 39, 40, 41, 42, 43, 44, 45, 46, 47, 48, 49, 50, 51, 52, 53, 54, 55, 56, 57, 58, 59, 60, 61, 62, 63, 64, 65, 66, 67, 68, 69, 70, 71, 72, 73, 74, 75, 76, 77, 78, 79, 80, 81, 82, 83, 84, 85, 86, 87, 88, 89, 90] (fun x : Value × (List Int) × Int => match x with | (wv, why, a) => [(7, wv), (29, .int .i64 a)]) (fun (x : Value × (List Int) × Int) w' => match x with | (wv, why, a) => St w [] w' [Ob.v (tSl (tI .i64)) why wv, Ob.v (tSl (tI .i64)) ((fitW (madeN 6 ly) (madeF 6 8 ly mn [z0, z1, z2, z3, z4, z5, z6, z7, z8, z9])).headD []) flv_30, Ob.v (tSl (tSl (tI .i64))) (madeF 6 8 ly mn [z0, z1, z2, z3, z4, z5, z6, z7, z8, z9]) v_8, .box g_12 24 [.int .i64 (madeN 6 ly), v_8], .box g_22 3 [.int .i64 ((fitW (madeN 6 ly) (madeF 6 8 ly mn [z0, z1, z2, z3, z4, z5, z6, z7, z8, z9])).length : Int)], .box g_18 28 [flv_30], .box g_1 64 [.int .u8 ly, .int .u8 mn, .int .u8 z0, .int .u8 z1, .int .u8 z2, .int .u8 z3, .int .u8 z4, .int .u8 z5, .int .u8 z6, .int .u8 z7, .int .u8 z8, .int .u8 z9]] ∧ 0 ≤ a ∧ a ≤ madeN 6 ly ∧ wy (madeN 6 ly) (madeF 6 8 ly mn [z0, z1, z2, z3, z4, z5, z6, z7, z8, z9]) why (prA (madeN 6 ly) (madeN 6 ly - a).toNat) = whyW (madeN 6 ly) (madeF 6 8 ly mn [z0, z1, z2, z3, z4, z5, z6, z7, z8, z9]) ∧ (why = [] → wv = .slice none 0 0)) (fun x : Value × (List Int) × Int => match x with | (wv, why, a) => (madeN 6 ly - a).toNat) ((.slice none 0 0), [], 0) ⟨rfl, rfl, trivial⟩ ⟨hS, (by first | omega | simp), (by first | omega | simp), (by rw [Int.sub_zero]; rfl), (fun _ => rfl)⟩ ?_
  rintro ⟨wv, why, a⟩ u_34 w_33 ⟨hS, h0, h1, h2, h3⟩
  refine W.seq ?_
  refine W.reg ?_
  refine Wx.rd (v := .bool (decide (a < (madeN 6 ly)))) (rd_lss rfl rfl) rfl ?_
  refine Wx.nil ?_
  refine W.seq ?_
  refine W.condD rfl (fun c0 => ?_) (fun c0 => ?_)
  · -- yes
    refine W.skip ?_
    refine W.seq ?_
    refine W.block ?_
    refine W.seq ?_
    refine W.reg ?_
    refine Wx.rd (v := .int .i64 a) (rd_move rfl) rfl ?_
    refine Wx.rd (v := .int .i64 a) (rd_assign rfl) rfl ?_
    refine Wx.nil ?_
    refine W.seq ?_
    refine W.reg ?_
    refine Wx.rd (v := .int .i64 (madeN 6 ly)) (rd_move rfl) rfl ?_
    refine Wx.rd (v := .int .i64 0) (rd_move rfl) rfl ?_
    refine Wx.nil ?_
    refine W.block ?_
    have hv_36 : V (tSl (tI .i64)) why wv _ _ := (hS.v 0 rfl)
    have hS := hS.add (hv_36)
    refine W.loop [2, 7, 9, 10, 11, 12, 33, 34, 35, 36, 37, 38, 39, 40, 41, 42, 43, 44, 45, 46, 47, 48, 49, 50, 51, 52, 53, 54, 55, 56, 57, 58, 59, 60, 61, 62, 63, 64, 65, 66, 67, 68, 69, 70, 71, 72, 73, 74, 75, 76, 77, 78, 79, 80, 81, 82, 83, 84, 85, 86, 87, 88, 89] (fun x : Value × (List Int) × Int => match x with | (wv2, why2, b) => [(7, wv2), (33, .int .i64 b)]) (fun (x : Value × (List Int) × Int) w' => match x with | (wv2, why2, b) => St w [] w' [Ob.v (tSl (tI .i64)) why2 wv2, Ob.v (tSl (tI .i64)) why wv, Ob.v (tSl (tI .i64)) ((fitW (madeN 6 ly) (madeF 6 8 ly mn [z0, z1, z2, z3, z4, z5, z6, z7, z8, z9])).headD []) flv_30, Ob.v (tSl (tSl (tI .i64))) (madeF 6 8 ly mn [z0, z1, z2, z3, z4, z5, z6, z7, z8, z9]) v_8, .box g_12 24 [.int .i64 (madeN 6 ly), v_8], .box g_22 3 [.int .i64 ((fitW (madeN 6 ly) (madeF 6 8 ly mn [z0, z1, z2, z3, z4, z5, z6, z7, z8, z9])).length : Int)], .box g_18 28 [flv_30], .box g_1 64 [.int .u8 ly, .int .u8 mn, .int .u8 z0, .int .u8 z1, .int .u8 z2, .int .u8 z3, .int .u8 z4, .int .u8 z5, .int .u8 z6, .int .u8 z7, .int .u8 z8, .int .u8 z9]] ∧ 0 ≤ b ∧ b ≤ madeN 6 ly ∧ wy (madeN 6 ly) (madeF 6 8 ly mn [z0, z1, z2, z3, z4, z5, z6, z7, z8, z9]) why2 (prB (madeN 6 ly) a (madeN 6 ly - b).toNat ++ prA (madeN 6 ly) (madeN 6 ly - (a + 1)).toNat) = whyW (madeN 6 ly) (madeF 6 8 ly mn [z0, z1, z2, z3, z4, z5, z6, z7, z8, z9]) ∧ (why2 = [] → wv2 = .slice none 0 0)) (fun x : Value × (List Int) × Int => match x with | (wv2, why2, b) => (madeN 6 ly - b).toNat) (wv, why, 0) ⟨rfl, rfl, trivial⟩ ⟨hS, (by first | omega | simp), (by first | omega | simp), (by rw [Int.sub_zero, ← prA_next h0 c0]; exact h2), (h3)⟩ ?_
    rintro ⟨wv2, why2, b⟩ u_38 w_37 ⟨hS, g0, g1, g2, h4⟩
    refine W.seq ?_
    refine W.reg ?_
    refine Wx.rd (v := .bool (decide (b < (madeN 6 ly)))) (rd_lss rfl rfl) rfl ?_
    refine Wx.nil ?_
    refine W.seq ?_
    refine W.condD rfl (fun c1 => ?_) (fun c1 => ?_)
    · -- yes
      refine W.skip ?_
      refine W.seq ?_
      refine W.block ?_
      refine W.seq ?_
      refine W.reg ?_
      refine Wx.rd (v := .int .i64 b) (rd_move rfl) rfl ?_
      refine Wx.rd (v := .int .i64 b) (rd_assign rfl) rfl ?_
      refine Wx.nil ?_
      refine W.seq ?_
      refine W.reg ?_
      refine Wx.rd (v := .int .i64 (madeN 6 ly)) (rd_move rfl) rfl ?_
      refine Wx.rd (v := .int .i64 0) (rd_move rfl) rfl ?_
      refine Wx.nil ?_
      refine W.block ?_
      have hv_40 : V (tSl (tI .i64)) why2 wv2 _ _ := (hS.v 0 rfl)
      have hS := hS.add (hv_40)
      refine W.loop [2, 7, 10, 11, 12, 37, 38, 39, 40, 41, 42, 43, 44, 45, 46, 47, 48, 49, 50, 51, 52, 53, 54, 55, 56, 57, 58, 59, 60, 61, 62, 63, 64, 65, 66, 67, 68, 69, 70, 71, 72, 73, 74, 75, 76, 77, 78, 79, 80, 81, 82, 83, 84, 85, 86, 87, 88] (fun x : Value × (List Int) × Int => match x with | (wv4, why4, c) => [(7, wv4), (37, .int .i64 c)]) (fun (x : Value × (List Int) × Int) w' => match x with | (wv4, why4, c) => St w [] w' [Ob.v (tSl (tI .i64)) why4 wv4, Ob.v (tSl (tI .i64)) why2 wv2, Ob.v (tSl (tI .i64)) why wv, Ob.v (tSl (tI .i64)) ((fitW (madeN 6 ly) (madeF 6 8 ly mn [z0, z1, z2, z3, z4, z5, z6, z7, z8, z9])).headD []) flv_30, Ob.v (tSl (tSl (tI .i64))) (madeF 6 8 ly mn [z0, z1, z2, z3, z4, z5, z6, z7, z8, z9]) v_8, .box g_12 24 [.int .i64 (madeN 6 ly), v_8], .box g_22 3 [.int .i64 ((fitW (madeN 6 ly) (madeF 6 8 ly mn [z0, z1, z2, z3, z4, z5, z6, z7, z8, z9])).length : Int)], .box g_18 28 [flv_30], .box g_1 64 [.int .u8 ly, .int .u8 mn, .int .u8 z0, .int .u8 z1, .int .u8 z2, .int .u8 z3, .int .u8 z4, .int .u8 z5, .int .u8 z6, .int .u8 z7, .int .u8 z8, .int .u8 z9]] ∧ 0 ≤ c ∧ c ≤ madeN 6 ly ∧ wy (madeN 6 ly) (madeF 6 8 ly mn [z0, z1, z2, z3, z4, z5, z6, z7, z8, z9]) why4 (prC (madeN 6 ly) a b (madeN 6 ly - c).toNat ++ (prB (madeN 6 ly) a (madeN 6 ly - (b + 1)).toNat ++ prA (madeN 6 ly) (madeN 6 ly - (a + 1)).toNat)) = whyW (madeN 6 ly) (madeF 6 8 ly mn [z0, z1, z2, z3, z4, z5, z6, z7, z8, z9]) ∧ (why4 = [] → wv4 = .slice none 0 0)) (fun x : Value × (List Int) × Int => match x with | (wv4, why4, c) => (madeN 6 ly - c).toNat) (wv2, why2, 0) ⟨rfl, rfl, trivial⟩ ⟨hS, (by first | omega | simp), (by first | omega | simp), (by rw [Int.sub_zero, ← List.append_assoc, ← prB_next g0 c1]; exact g2), (h4)⟩ ?_
      rintro ⟨wv4, why4, c⟩ u_42 w_41 ⟨hS, k0, k1, k2, h5⟩
      refine W.seq ?_
      refine W.reg ?_
      refine Wx.rd (v := .bool (decide (c < (madeN 6 ly)))) (rd_lss rfl rfl) rfl ?_
      refine Wx.nil ?_
      refine W.seq ?_
      refine W.condD rfl (fun c2 => ?_) (fun c2 => ?_)
      · -- yes
        refine W.skip ?_
        refine W.seq ?_
        refine W.block ?_
        refine W.seq ?_
        refine W.reg ?_
        refine Wx.rd (v := .int .i64 c) (rd_move rfl) rfl ?_
        refine Wx.rd (v := .int .i64 c) (rd_assign rfl) rfl ?_
        refine Wx.nil ?_
        refine W.seq ?_
        refine W.seq ?_
        refine W.reg ?_
        refine Wx.rd (v := .int .i64 a) (rd_move rfl) rfl ?_
        refine Wx.rd (v := .int .i64 b) (rd_move rfl) rfl ?_
        refine Wx.rd (v := .bool (decide (a = b))) (rd_eql rfl rfl) rfl ?_
        refine Wx.rd (v := .bool (decide (a = b))) (rd_move rfl) rfl ?_
        refine Wx.cut (X := Unit) 4 [44, 45, 46, 47] (fun _ => [(47, .bool (decide (a = b) || decide (b = c)))]) (fun _ w' => St w [] w' [Ob.v (tSl (tI .i64)) why4 wv4, Ob.v (tSl (tI .i64)) why2 wv2, Ob.v (tSl (tI .i64)) why wv, Ob.v (tSl (tI .i64)) ((fitW (madeN 6 ly) (madeF 6 8 ly mn [z0, z1, z2, z3, z4, z5, z6, z7, z8, z9])).headD []) flv_30, Ob.v (tSl (tSl (tI .i64))) (madeF 6 8 ly mn [z0, z1, z2, z3, z4, z5, z6, z7, z8, z9]) v_8, .box g_12 24 [.int .i64 (madeN 6 ly), v_8], .box g_22 3 [.int .i64 ((fitW (madeN 6 ly) (madeF 6 8 ly mn [z0, z1, z2, z3, z4, z5, z6, z7, z8, z9])).length : Int)], .box g_18 28 [flv_30], .box g_1 64 [.int .u8 ly, .int .u8 mn, .int .u8 z0, .int .u8 z1, .int .u8 z2, .int .u8 z3, .int .u8 z4, .int .u8 z5, .int .u8 z6, .int .u8 z7, .int .u8 z8, .int .u8 z9]]) ?_ ?_
        · rcases Bool.eq_false_or_eq_true (decide (a = b)) with g_43 | g_43
          · -- True
            have gp_44 := of_decide_eq_true g_43
            refine Wx.gnoB rfl rfl (congrArg Value.bool g_43) rfl rfl ?_
            refine Wx.gnoB rfl rfl (congrArg Value.bool g_43) rfl rfl ?_
            refine Wx.gnoB rfl rfl (congrArg Value.bool g_43) rfl rfl ?_
            refine Wx.rd (v := .bool true) (rd_pickT (congrArg Value.bool g_43) rfl) rfl ?_
            refine Wx.nil ⟨(), hS, ⟨?_, trivial⟩, Out.look rfl Out.refl⟩
            show Value.bool true = Value.bool (decide (a = b) || decide (b = c))
            rw [g_43]; rfl
          · -- False
            have gp_45 := of_decide_eq_false g_43
            refine Wx.gyes rfl rfl (congrArg Value.bool g_43) ?_
            refine Wx.rd (v := .int .i64 b) (rd_move rfl) rfl ?_
            refine Wx.gyes rfl rfl (congrArg Value.bool g_43) ?_
            refine Wx.rd (v := .int .i64 c) (rd_move rfl) rfl ?_
            refine Wx.gyes rfl rfl (congrArg Value.bool g_43) ?_
            refine Wx.rd (v := .bool (decide (b = c))) (rd_eql rfl rfl) rfl ?_
            refine Wx.rd (v := .bool (decide (b = c))) (rd_pickF (congrArg Value.bool g_43) rfl) rfl ?_
            refine Wx.nil ⟨(), hS, ⟨?_, trivial⟩, Out.look rfl Out.refl⟩
            show Value.bool (decide (b = c)) = Value.bool (decide (a = b) || decide (b = c))
            rw [g_43]; rfl
        rintro ⟨⟩ u_47 w_46 hS
        refine Wx.rd (v := .bool (decide (a = b) || decide (b = c))) (rd_move rfl) rfl ?_
        refine Wx.cut (X := Unit) 4 [49, 50, 51, 52] (fun _ => [(52, .bool ((decide (a = b) || decide (b = c)) || decide (a = c)))]) (fun _ w' => St w [] w' [Ob.v (tSl (tI .i64)) why4 wv4, Ob.v (tSl (tI .i64)) why2 wv2, Ob.v (tSl (tI .i64)) why wv, Ob.v (tSl (tI .i64)) ((fitW (madeN 6 ly) (madeF 6 8 ly mn [z0, z1, z2, z3, z4, z5, z6, z7, z8, z9])).headD []) flv_30, Ob.v (tSl (tSl (tI .i64))) (madeF 6 8 ly mn [z0, z1, z2, z3, z4, z5, z6, z7, z8, z9]) v_8, .box g_12 24 [.int .i64 (madeN 6 ly), v_8], .box g_22 3 [.int .i64 ((fitW (madeN 6 ly) (madeF 6 8 ly mn [z0, z1, z2, z3, z4, z5, z6, z7, z8, z9])).length : Int)], .box g_18 28 [flv_30], .box g_1 64 [.int .u8 ly, .int .u8 mn, .int .u8 z0, .int .u8 z1, .int .u8 z2, .int .u8 z3, .int .u8 z4, .int .u8 z5, .int .u8 z6, .int .u8 z7, .int .u8 z8, .int .u8 z9]]) ?_ ?_
        · rcases Bool.eq_false_or_eq_true (decide (a = b) || decide (b = c)) with g_48 | g_48
          · -- True
            have gp_49 := g_48
            try simp only [Bool.and_eq_true, Bool.or_eq_true, Bool.not_eq_true', Bool.and_eq_false_iff, Bool.or_eq_false_iff, Bool.not_eq_false', decide_eq_true_eq, decide_eq_false_iff_not, not_or, Bool.false_eq_true, Bool.true_eq_false, false_or, or_false, not_false_eq_true] at gp_49
            refine Wx.gnoB rfl rfl (congrArg Value.bool g_48) rfl rfl ?_
            refine Wx.gnoB rfl rfl (congrArg Value.bool g_48) rfl rfl ?_
            refine Wx.gnoB rfl rfl (congrArg Value.bool g_48) rfl rfl ?_
            refine Wx.rd (v := .bool true) (rd_pickT (congrArg Value.bool g_48) rfl) rfl ?_
            refine Wx.nil ⟨(), hS, ⟨?_, trivial⟩, Out.look rfl Out.refl⟩
            show Value.bool true = Value.bool ((decide (a = b) || decide (b = c)) || decide (a = c))
            rw [g_48]; rfl
          · -- False
            have gp_50 := g_48
            try simp only [Bool.and_eq_true, Bool.or_eq_true, Bool.not_eq_true', Bool.and_eq_false_iff, Bool.or_eq_false_iff, Bool.not_eq_false', decide_eq_true_eq, decide_eq_false_iff_not, not_or, Bool.false_eq_true, Bool.true_eq_false, false_or, or_false, not_false_eq_true] at gp_50
            refine Wx.gyes rfl rfl (congrArg Value.bool g_48) ?_
            refine Wx.rd (v := .int .i64 a) (rd_move rfl) rfl ?_
            refine Wx.gyes rfl rfl (congrArg Value.bool g_48) ?_
            refine Wx.rd (v := .int .i64 c) (rd_move rfl) rfl ?_
            refine Wx.gyes rfl rfl (congrArg Value.bool g_48) ?_
            refine Wx.rd (v := .bool (decide (a = c))) (rd_eql rfl rfl) rfl ?_
            refine Wx.rd (v := .bool (decide (a = c))) (rd_pickF (congrArg Value.bool g_48) rfl) rfl ?_
            refine Wx.nil ⟨(), hS, ⟨?_, trivial⟩, Out.look rfl Out.refl⟩
            show Value.bool (decide (a = c)) = Value.bool ((decide (a = b) || decide (b = c)) || decide (a = c))
            rw [g_48]; rfl
        rintro ⟨⟩ u_52 w_51 hS
        refine Wx.nil ?_
        refine W.cond rfl (fun c3 => ?_) (fun c3 => ?_)
        · -- yes
          try simp only [Bool.and_eq_true, Bool.or_eq_true, Bool.not_eq_true', Bool.and_eq_false_iff, Bool.or_eq_false_iff, Bool.not_eq_false', decide_eq_true_eq, decide_eq_false_iff_not, not_or, Bool.false_eq_true, Bool.true_eq_false, false_or, or_false, not_false_eq_true] at c3
          refine W.exit rfl ?_
          refine W.reg ?_
          refine Wx.rd (v := .int .i64 (c + 1)) (rd_add rfl rfl (in_i64 (by omega) (by omega))) rfl ?_
          refine Wx.rd (v := .int .i64 (c + 1)) (rd_move rfl) rfl ?_
          refine Wx.nil ?_
          have hv_53 : V (tSl (tI .i64)) why4 wv4 _ _ := (hS.v 0 rfl)
          refine ⟨(wv4, why4, c + 1), (by show (madeN 6 ly - (c + 1)).toNat < (madeN 6 ly - c).toNat; omega), ?_, ?_, Out.look rfl (Out.hav rfl (Out.look rfl (Out.hav rfl (Out.look rfl Out.self))))⟩
          · exact ⟨(St.add (St.tl (hS)) (V.tlF (hv_53))), (by first | omega | assumption), (by first | omega | assumption), (by rw [← k2, prC_next k0 c2, List.cons_append]; exact (wy_skip (fun _ => pickT_no (by omega))).symm), (h5)⟩
          · exact ⟨rfl, rfl, trivial⟩
        · -- no
          try simp only [Bool.and_eq_true, Bool.or_eq_true, Bool.not_eq_true', Bool.and_eq_false_iff, Bool.or_eq_false_iff, Bool.not_eq_false', decide_eq_true_eq, decide_eq_false_iff_not, not_or, Bool.false_eq_true, Bool.true_eq_false, false_or, or_false, not_false_eq_true] at c3
          refine W.skip ?_
          refine W.seq ?_
          refine W.reg ?_
          refine Wx.rd (v := .agg #[.int .i64 (madeN 6 ly), v_8]) (rd_loadXs (ds := [.int .i64 (madeN 6 ly), v_8]) hS 5 rfl rfl rfl rfl Try.isAgg24 Try.sizeOf24) rfl ?_
          refine Wx.rd (v := .int .i64 a) (rd_move rfl) rfl ?_
          refine Wx.rd (v := .int .i64 b) (rd_move rfl) rfl ?_
          refine Wx.rd (v := .int .i64 c) (rd_move rfl) rfl ?_
          refine Wx.rd (v := .agg #[.int .i64 a, .int .i64 b, .int .i64 c]) (rd_build (vs := [(0, .int .i64 a), (1, .int .i64 b), (2, .int .i64 c)]) rfl (by kernel_rfl)) rfl ?_
          refine Wx.callF (run_callF Try.call47 rfl) (F47 (in_i64 (by omega) (by omega)) (hS.v 4 rfl) (in_i64 (by omega) (by omega)) (in_i64 (by omega) (by omega)) (in_i64 (by omega) (by omega)) (by omega) (by omega) hck.2.2.2 (by omega) (by omega) (by omega)) rfl ?_
          rintro r_54 w_55 hx_56 rfl
          have hS := hS.ext hx_56
          refine Wx.rd (v := .bool (apartW (madeN 6 ly) (madeF 6 8 ly mn [z0, z1, z2, z3, z4, z5, z6, z7, z8, z9]) a b c)) (rd_assign rfl) rfl ?_
          refine Wx.nil ?_
          refine W.seq ?_
          refine W.reg ?_
          refine Wx.rd (v := .int .i64 0) (rd_assign rfl) rfl ?_
          refine Wx.nil ?_
          refine W.seq ?_
          refine W.seq ?_
          refine W.reg ?_
          refine Wx.rd (v := .bool (apartW (madeN 6 ly) (madeF 6 8 ly mn [z0, z1, z2, z3, z4, z5, z6, z7, z8, z9]) a b c)) (rd_move rfl) rfl ?_
          refine Wx.rd (v := .bool (!(apartW (madeN 6 ly) (madeF 6 8 ly mn [z0, z1, z2, z3, z4, z5, z6, z7, z8, z9]) a b c))) (rd_not rfl) rfl ?_
          refine Wx.nil ?_
          refine W.cutK [12] (fun (wt : Int) => [(12, .int .i64 wt)]) (fun (wt : Int) w' => St w [] w' [Ob.v (tSl (tI .i64)) why4 wv4, Ob.v (tSl (tI .i64)) why2 wv2, Ob.v (tSl (tI .i64)) why wv, Ob.v (tSl (tI .i64)) ((fitW (madeN 6 ly) (madeF 6 8 ly mn [z0, z1, z2, z3, z4, z5, z6, z7, z8, z9])).headD []) flv_30, Ob.v (tSl (tSl (tI .i64))) (madeF 6 8 ly mn [z0, z1, z2, z3, z4, z5, z6, z7, z8, z9]) v_8, .box g_12 24 [.int .i64 (madeN 6 ly), v_8], .box g_22 3 [.int .i64 ((fitW (madeN 6 ly) (madeF 6 8 ly mn [z0, z1, z2, z3, z4, z5, z6, z7, z8, z9])).length : Int)], .box g_18 28 [flv_30], .box g_1 64 [.int .u8 ly, .int .u8 mn, .int .u8 z0, .int .u8 z1, .int .u8 z2, .int .u8 z3, .int .u8 z4, .int .u8 z5, .int .u8 z6, .int .u8 z7, .int .u8 z8, .int .u8 z9]] ∧ wt = if apartW (madeN 6 ly) (madeF 6 8 ly mn [z0, z1, z2, z3, z4, z5, z6, z7, z8, z9]) a b c = true then 0 else 14) ?_ ?_
          · -- up to the cut
            refine W.cond rfl (fun c4 => ?_) (fun c4 => ?_)
            · -- yes
              try simp only [Bool.and_eq_true, Bool.or_eq_true, Bool.not_eq_true', Bool.and_eq_false_iff, Bool.or_eq_false_iff, Bool.not_eq_false', decide_eq_true_eq, decide_eq_false_iff_not, not_or, Bool.false_eq_true, Bool.true_eq_false, false_or, or_false, not_false_eq_true] at c4
              refine W.reg ?_
              refine Wx.rd (v := .int .i64 14) (rd_assign rfl) rfl ?_
              refine Wx.nil ?_
              refine ⟨14, ?_, ?_, Out.look rfl Out.refl⟩
              · exact ⟨hS, ((if_neg (by rw [c4]; decide)).symm)⟩
              · exact ⟨rfl, trivial⟩
            · -- no
              try simp only [Bool.and_eq_true, Bool.or_eq_true, Bool.not_eq_true', Bool.and_eq_false_iff, Bool.or_eq_false_iff, Bool.not_eq_false', decide_eq_true_eq, decide_eq_false_iff_not, not_or, Bool.false_eq_true, Bool.true_eq_false, false_or, or_false, not_false_eq_true] at c4
              refine W.skip ?_
              refine ⟨0, ?_, ?_, Out.look rfl Out.refl⟩
              · exact ⟨hS, ((if_pos c4).symm)⟩
              · exact ⟨rfl, trivial⟩
          rintro wt u_58 w_57 ⟨hS, j1⟩
          refine W.seq ?_
          refine W.seq ?_
          refine W.reg ?_
          refine Wx.rd (v := .agg #[.int .i64 (madeN 6 ly), v_8]) (rd_loadXs (ds := [.int .i64 (madeN 6 ly), v_8]) hS 5 rfl rfl rfl rfl Try.isAgg24 Try.sizeOf24) rfl ?_
          refine Wx.rd (v := .int .i64 a) (rd_move rfl) rfl ?_
          refine Wx.rd (v := .int .i64 b) (rd_move rfl) rfl ?_
          refine Wx.rd (v := .int .i64 c) (rd_move rfl) rfl ?_
          refine Wx.callF (run_callF Try.call26 rfl) (F26 (in_i64 (by omega) (by omega)) (hS.v 4 rfl) (in_i64 (by omega) (by omega)) (in_i64 (by omega) (by omega)) (in_i64 (by omega) (by omega))) rfl ?_
          rintro r_59 w_60 hx_61 rfl
          have hS := hS.ext hx_61
          refine Wx.rd (v := .int .i64 wt) (rd_move rfl) rfl ?_
          refine Wx.rd (v := .bool (decide ((provesE (madeN 6 ly) (madeF 6 8 ly mn [z0, z1, z2, z3, z4, z5, z6, z7, z8, z9]) a b c) ≠ wt))) (rd_neq rfl rfl) rfl ?_
          refine Wx.nil ?_
          refine W.condF rfl (decide_eq_false (by rw [j1]; intro h; exact h (hP a b c h0 (by omega) g0 (by omega) k0 (by omega) (by omega)))) ?_
          refine W.skip ?_
          refine W.seq ?_
          refine W.reg ?_
          refine Wx.rd (v := .bool (apartW (madeN 6 ly) (madeF 6 8 ly mn [z0, z1, z2, z3, z4, z5, z6, z7, z8, z9]) a b c)) (rd_move rfl) rfl ?_
          refine Wx.rd (v := .bool (apartW (madeN 6 ly) (madeF 6 8 ly mn [z0, z1, z2, z3, z4, z5, z6, z7, z8, z9]) a b c)) (rd_move rfl) rfl ?_
          refine Wx.cut (X := Unit) 3 [70, 71, 72] (fun _ => [(72, .bool (apartW (madeN 6 ly) (madeF 6 8 ly mn [z0, z1, z2, z3, z4, z5, z6, z7, z8, z9]) a b c && decide (why4 = [])))]) (fun _ w' => St w [] w' [Ob.v (tSl (tI .i64)) why4 wv4, Ob.v (tSl (tI .i64)) why2 wv2, Ob.v (tSl (tI .i64)) why wv, Ob.v (tSl (tI .i64)) ((fitW (madeN 6 ly) (madeF 6 8 ly mn [z0, z1, z2, z3, z4, z5, z6, z7, z8, z9])).headD []) flv_30, Ob.v (tSl (tSl (tI .i64))) (madeF 6 8 ly mn [z0, z1, z2, z3, z4, z5, z6, z7, z8, z9]) v_8, .box g_12 24 [.int .i64 (madeN 6 ly), v_8], .box g_22 3 [.int .i64 ((fitW (madeN 6 ly) (madeF 6 8 ly mn [z0, z1, z2, z3, z4, z5, z6, z7, z8, z9])).length : Int)], .box g_18 28 [flv_30], .box g_1 64 [.int .u8 ly, .int .u8 mn, .int .u8 z0, .int .u8 z1, .int .u8 z2, .int .u8 z3, .int .u8 z4, .int .u8 z5, .int .u8 z6, .int .u8 z7, .int .u8 z8, .int .u8 z9]]) ?_ ?_
          · rcases Bool.eq_false_or_eq_true (apartW (madeN 6 ly) (madeF 6 8 ly mn [z0, z1, z2, z3, z4, z5, z6, z7, z8, z9]) a b c) with g_62 | g_62
            · -- True
              have gp_63 := g_62
              try simp only [Bool.and_eq_true, Bool.or_eq_true, Bool.not_eq_true', Bool.and_eq_false_iff, Bool.or_eq_false_iff, Bool.not_eq_false', decide_eq_true_eq, decide_eq_false_iff_not, not_or, Bool.false_eq_true, Bool.true_eq_false, false_or, or_false, not_false_eq_true] at gp_63
              refine Wx.gyes rfl rfl (congrArg Value.bool g_62) ?_
              refine Wx.rd (v := wv4) (rd_move rfl) rfl ?_
              refine Wx.gyes rfl rfl (congrArg Value.bool g_62) ?_
              refine Wx.rd (v := .bool (decide (why4 = []))) (rd_eqlNilI (hS.v 0 rfl) rfl rfl Try.underlying28 h5) rfl ?_
              refine Wx.rd (v := .bool (decide (why4 = []))) (rd_pickT (congrArg Value.bool g_62) rfl) rfl ?_
              refine Wx.nil ⟨(), hS, ⟨?_, trivial⟩, Out.look rfl Out.refl⟩
              show Value.bool (decide (why4 = [])) = Value.bool (apartW (madeN 6 ly) (madeF 6 8 ly mn [z0, z1, z2, z3, z4, z5, z6, z7, z8, z9]) a b c && decide (why4 = []))
              rw [g_62]; rfl
            · -- False
              have gp_64 := g_62
              try simp only [Bool.and_eq_true, Bool.or_eq_true, Bool.not_eq_true', Bool.and_eq_false_iff, Bool.or_eq_false_iff, Bool.not_eq_false', decide_eq_true_eq, decide_eq_false_iff_not, not_or, Bool.false_eq_true, Bool.true_eq_false, false_or, or_false, not_false_eq_true] at gp_64
              refine Wx.gnoB rfl rfl (congrArg Value.bool g_62) rfl rfl ?_
              refine Wx.gnoB rfl rfl (congrArg Value.bool g_62) rfl rfl ?_
              refine Wx.rd (v := .bool false) (rd_pickF (congrArg Value.bool g_62) rfl) rfl ?_
              refine Wx.nil ⟨(), hS, ⟨?_, trivial⟩, Out.look rfl Out.refl⟩
              show Value.bool false = Value.bool (apartW (madeN 6 ly) (madeF 6 8 ly mn [z0, z1, z2, z3, z4, z5, z6, z7, z8, z9]) a b c && decide (why4 = []))
              rw [g_62]; rfl
          rintro ⟨⟩ u_66 w_65 hS
          refine Wx.rd (v := .bool (apartW (madeN 6 ly) (madeF 6 8 ly mn [z0, z1, z2, z3, z4, z5, z6, z7, z8, z9]) a b c && decide (why4 = []))) (rd_move rfl) rfl ?_
          refine Wx.cut (X := Unit) 4 [74, 75, 76, 77] (fun _ => [(77, .bool ((apartW (madeN 6 ly) (madeF 6 8 ly mn [z0, z1, z2, z3, z4, z5, z6, z7, z8, z9]) a b c && decide (why4 = [])) && decide (a < b)))]) (fun _ w' => St w [] w' [Ob.v (tSl (tI .i64)) why4 wv4, Ob.v (tSl (tI .i64)) why2 wv2, Ob.v (tSl (tI .i64)) why wv, Ob.v (tSl (tI .i64)) ((fitW (madeN 6 ly) (madeF 6 8 ly mn [z0, z1, z2, z3, z4, z5, z6, z7, z8, z9])).headD []) flv_30, Ob.v (tSl (tSl (tI .i64))) (madeF 6 8 ly mn [z0, z1, z2, z3, z4, z5, z6, z7, z8, z9]) v_8, .box g_12 24 [.int .i64 (madeN 6 ly), v_8], .box g_22 3 [.int .i64 ((fitW (madeN 6 ly) (madeF 6 8 ly mn [z0, z1, z2, z3, z4, z5, z6, z7, z8, z9])).length : Int)], .box g_18 28 [flv_30], .box g_1 64 [.int .u8 ly, .int .u8 mn, .int .u8 z0, .int .u8 z1, .int .u8 z2, .int .u8 z3, .int .u8 z4, .int .u8 z5, .int .u8 z6, .int .u8 z7, .int .u8 z8, .int .u8 z9]]) ?_ ?_
          · rcases Bool.eq_false_or_eq_true (apartW (madeN 6 ly) (madeF 6 8 ly mn [z0, z1, z2, z3, z4, z5, z6, z7, z8, z9]) a b c && decide (why4 = [])) with g_67 | g_67
            · -- True
              have gp_68 := g_67
              try simp only [Bool.and_eq_true, Bool.or_eq_true, Bool.not_eq_true', Bool.and_eq_false_iff, Bool.or_eq_false_iff, Bool.not_eq_false', decide_eq_true_eq, decide_eq_false_iff_not, not_or, Bool.false_eq_true, Bool.true_eq_false, false_or, or_false, not_false_eq_true] at gp_68
              refine Wx.gyes rfl rfl (congrArg Value.bool g_67) ?_
              refine Wx.rd (v := .int .i64 a) (rd_move rfl) rfl ?_
              refine Wx.gyes rfl rfl (congrArg Value.bool g_67) ?_
              refine Wx.rd (v := .int .i64 b) (rd_move rfl) rfl ?_
              refine Wx.gyes rfl rfl (congrArg Value.bool g_67) ?_
              refine Wx.rd (v := .bool (decide (a < b))) (rd_lss rfl rfl) rfl ?_
              refine Wx.rd (v := .bool (decide (a < b))) (rd_pickT (congrArg Value.bool g_67) rfl) rfl ?_
              refine Wx.nil ⟨(), hS, ⟨?_, trivial⟩, Out.look rfl Out.refl⟩
              show Value.bool (decide (a < b)) = Value.bool ((apartW (madeN 6 ly) (madeF 6 8 ly mn [z0, z1, z2, z3, z4, z5, z6, z7, z8, z9]) a b c && decide (why4 = [])) && decide (a < b))
              rw [g_67]; rfl
            · -- False
              have gp_69 := g_67
              try simp only [Bool.and_eq_true, Bool.or_eq_true, Bool.not_eq_true', Bool.and_eq_false_iff, Bool.or_eq_false_iff, Bool.not_eq_false', decide_eq_true_eq, decide_eq_false_iff_not, not_or, Bool.false_eq_true, Bool.true_eq_false, false_or, or_false, not_false_eq_true] at gp_69
              refine Wx.gnoB rfl rfl (congrArg Value.bool g_67) rfl rfl ?_
              refine Wx.gnoB rfl rfl (congrArg Value.bool g_67) rfl rfl ?_
              refine Wx.gnoB rfl rfl (congrArg Value.bool g_67) rfl rfl ?_
              refine Wx.rd (v := .bool false) (rd_pickF (congrArg Value.bool g_67) rfl) rfl ?_
              refine Wx.nil ⟨(), hS, ⟨?_, trivial⟩, Out.look rfl Out.refl⟩
              show Value.bool false = Value.bool ((apartW (madeN 6 ly) (madeF 6 8 ly mn [z0, z1, z2, z3, z4, z5, z6, z7, z8, z9]) a b c && decide (why4 = [])) && decide (a < b))
              rw [g_67]; rfl
          rintro ⟨⟩ u_71 w_70 hS
          refine Wx.rd (v := .bool ((apartW (madeN 6 ly) (madeF 6 8 ly mn [z0, z1, z2, z3, z4, z5, z6, z7, z8, z9]) a b c && decide (why4 = [])) && decide (a < b))) (rd_move rfl) rfl ?_
          refine Wx.cut (X := Unit) 4 [79, 80, 81, 82] (fun _ => [(82, .bool (((apartW (madeN 6 ly) (madeF 6 8 ly mn [z0, z1, z2, z3, z4, z5, z6, z7, z8, z9]) a b c && decide (why4 = [])) && decide (a < b)) && decide (b < c)))]) (fun _ w' => St w [] w' [Ob.v (tSl (tI .i64)) why4 wv4, Ob.v (tSl (tI .i64)) why2 wv2, Ob.v (tSl (tI .i64)) why wv, Ob.v (tSl (tI .i64)) ((fitW (madeN 6 ly) (madeF 6 8 ly mn [z0, z1, z2, z3, z4, z5, z6, z7, z8, z9])).headD []) flv_30, Ob.v (tSl (tSl (tI .i64))) (madeF 6 8 ly mn [z0, z1, z2, z3, z4, z5, z6, z7, z8, z9]) v_8, .box g_12 24 [.int .i64 (madeN 6 ly), v_8], .box g_22 3 [.int .i64 ((fitW (madeN 6 ly) (madeF 6 8 ly mn [z0, z1, z2, z3, z4, z5, z6, z7, z8, z9])).length : Int)], .box g_18 28 [flv_30], .box g_1 64 [.int .u8 ly, .int .u8 mn, .int .u8 z0, .int .u8 z1, .int .u8 z2, .int .u8 z3, .int .u8 z4, .int .u8 z5, .int .u8 z6, .int .u8 z7, .int .u8 z8, .int .u8 z9]]) ?_ ?_
          · rcases Bool.eq_false_or_eq_true ((apartW (madeN 6 ly) (madeF 6 8 ly mn [z0, z1, z2, z3, z4, z5, z6, z7, z8, z9]) a b c && decide (why4 = [])) && decide (a < b)) with g_72 | g_72
            · -- True
              have gp_73 := g_72
              try simp only [Bool.and_eq_true, Bool.or_eq_true, Bool.not_eq_true', Bool.and_eq_false_iff, Bool.or_eq_false_iff, Bool.not_eq_false', decide_eq_true_eq, decide_eq_false_iff_not, not_or, Bool.false_eq_true, Bool.true_eq_false, false_or, or_false, not_false_eq_true] at gp_73
              refine Wx.gyes rfl rfl (congrArg Value.bool g_72) ?_
              refine Wx.rd (v := .int .i64 b) (rd_move rfl) rfl ?_
              refine Wx.gyes rfl rfl (congrArg Value.bool g_72) ?_
              refine Wx.rd (v := .int .i64 c) (rd_move rfl) rfl ?_
              refine Wx.gyes rfl rfl (congrArg Value.bool g_72) ?_
              refine Wx.rd (v := .bool (decide (b < c))) (rd_lss rfl rfl) rfl ?_
              refine Wx.rd (v := .bool (decide (b < c))) (rd_pickT (congrArg Value.bool g_72) rfl) rfl ?_
              refine Wx.nil ⟨(), hS, ⟨?_, trivial⟩, Out.look rfl Out.refl⟩
              show Value.bool (decide (b < c)) = Value.bool (((apartW (madeN 6 ly) (madeF 6 8 ly mn [z0, z1, z2, z3, z4, z5, z6, z7, z8, z9]) a b c && decide (why4 = [])) && decide (a < b)) && decide (b < c))
              rw [g_72]; rfl
            · -- False
              have gp_74 := g_72
              try simp only [Bool.and_eq_true, Bool.or_eq_true, Bool.not_eq_true', Bool.and_eq_false_iff, Bool.or_eq_false_iff, Bool.not_eq_false', decide_eq_true_eq, decide_eq_false_iff_not, not_or, Bool.false_eq_true, Bool.true_eq_false, false_or, or_false, not_false_eq_true] at gp_74
              refine Wx.gnoB rfl rfl (congrArg Value.bool g_72) rfl rfl ?_
              refine Wx.gnoB rfl rfl (congrArg Value.bool g_72) rfl rfl ?_
              refine Wx.gnoB rfl rfl (congrArg Value.bool g_72) rfl rfl ?_
              refine Wx.rd (v := .bool false) (rd_pickF (congrArg Value.bool g_72) rfl) rfl ?_
              refine Wx.nil ⟨(), hS, ⟨?_, trivial⟩, Out.look rfl Out.refl⟩
              show Value.bool false = Value.bool (((apartW (madeN 6 ly) (madeF 6 8 ly mn [z0, z1, z2, z3, z4, z5, z6, z7, z8, z9]) a b c && decide (why4 = [])) && decide (a < b)) && decide (b < c))
              rw [g_72]; rfl
          rintro ⟨⟩ u_76 w_75 hS
          refine Wx.nil ?_
          refine W.cond rfl (fun c6 => ?_) (fun c6 => ?_)
          · -- yes
            try simp only [Bool.and_eq_true, Bool.or_eq_true, Bool.not_eq_true', Bool.and_eq_false_iff, Bool.or_eq_false_iff, Bool.not_eq_false', decide_eq_true_eq, decide_eq_false_iff_not, not_or, Bool.false_eq_true, Bool.true_eq_false, false_or, or_false, not_false_eq_true] at c6
            refine W.reg ?_
            refine Wx.rd (v := .int .i64 a) (rd_move rfl) rfl ?_
            refine Wx.rd (v := .int .i64 b) (rd_move rfl) rfl ?_
            refine Wx.rd (v := .int .i64 c) (rd_move rfl) rfl ?_
            refine Wx.lit (t := (tI .i64)) (ys := [a, b, c]) (vs := [.int .i64 a, .int .i64 b, .int .i64 c]) elGg_28 hS rfl rfl ⟨(V.mkInt (in_i64 (by omega) (by omega))), ⟨(V.mkInt (in_i64 (by omega) (by omega))), ⟨(V.mkInt (in_i64 (by omega) (by omega))), trivial⟩⟩⟩ (by decide) rfl (fun v_77 w_78 hx_79 hS => ?_)
            have hS := hS.freeze 0 rfl
            refine Wx.callF (run_callF Try.call39 rfl) (F39 (hS.v 0 rfl) hS.fb_lt) rfl ?_
            rintro r_81 w_82 hx_83 ⟨_, rfl, hv_84⟩
            have ln_86 := hv_84.len63
            have hS := hS.ext hx_83
            have hS := hS.add hv_84
            refine Wx.rd (v := r_81) (rd_assign rfl) rfl ?_
            refine Wx.nil ?_
            refine W.reg ?_
            refine Wx.rd (v := .int .i64 (c + 1)) (rd_add rfl rfl (in_i64 (by omega) (by omega))) rfl ?_
            refine Wx.rd (v := .int .i64 (c + 1)) (rd_move rfl) rfl ?_
            refine Wx.nil ?_
            have hv_87 : V (tSl (tI .i64)) [a, b, c] r_81 _ _ := (hS.v 0 rfl)
            refine ⟨(r_81, [a, b, c], c + 1), (by show (madeN 6 ly - (c + 1)).toNat < (madeN 6 ly - c).toNat; omega), ?_, ?_, Out.look rfl (Out.hav rfl (Out.look rfl (Out.hav rfl (Out.look rfl (Out.hav rfl (Out.look rfl (Out.hav rfl (Out.look rfl (Out.hav rfl (Out.look rfl (Out.hav rfl (Out.look rfl Out.self))))))))))))⟩
            · exact ⟨(St.add (St.tl (St.tl (St.tl (hS)))) (V.tlF (V.tlF (V.tlF (hv_87))))), (by first | omega | assumption), (by first | omega | assumption), (by obtain ⟨⟨⟨q1, q2⟩, q3⟩, q4⟩ := c6; rw [← k2, prC_next k0 c2, List.cons_append, q2]; exact (wy_take (by simp [pickT, q1, q3, q4])).symm), (fun h => by simp at h)⟩
            · exact ⟨rfl, rfl, trivial⟩
          · -- no
            try simp only [Bool.and_eq_true, Bool.or_eq_true, Bool.not_eq_true', Bool.and_eq_false_iff, Bool.or_eq_false_iff, Bool.not_eq_false', decide_eq_true_eq, decide_eq_false_iff_not, not_or, Bool.false_eq_true, Bool.true_eq_false, false_or, or_false, not_false_eq_true] at c6
            refine W.skip ?_
            refine W.reg ?_
            refine Wx.rd (v := .int .i64 (c + 1)) (rd_add rfl rfl (in_i64 (by omega) (by omega))) rfl ?_
            refine Wx.rd (v := .int .i64 (c + 1)) (rd_move rfl) rfl ?_
            refine Wx.nil ?_
            have hv_88 : V (tSl (tI .i64)) why4 wv4 _ _ := (hS.v 0 rfl)
            refine ⟨(wv4, why4, c + 1), (by show (madeN 6 ly - (c + 1)).toNat < (madeN 6 ly - c).toNat; omega), ?_, ?_, Out.look rfl (Out.hav rfl (Out.look rfl (Out.hav rfl (Out.look rfl (Out.hav rfl (Out.look rfl (Out.hav rfl (Out.look rfl (Out.hav rfl (Out.look rfl (Out.hav rfl (Out.look rfl Out.self))))))))))))⟩
            · exact ⟨(St.add (St.tl (hS)) (V.tlF (hv_88))), (by first | omega | assumption), (by first | omega | assumption), (by rw [← k2, prC_next k0 c2, List.cons_append]; exact (wy_skip (fun hw => Bool.eq_false_iff.2 (fun hp => by simp only [pickT, Bool.and_eq_true, decide_eq_true_eq] at hp; rcases c6 with ((q | q) | q) | q; rw [q] at hp; cases hp.2; exact q hw; exact q hp.1.1; exact q hp.1.2))).symm), (h5)⟩
            · exact ⟨rfl, rfl, trivial⟩
      · -- no
        refine W.exit rfl ?_
        refine W.reg ?_
        refine Wx.rd (v := .int .i64 (b + 1)) (rd_add rfl rfl (in_i64 (by omega) (by omega))) rfl ?_
        refine Wx.rd (v := .int .i64 (b + 1)) (rd_move rfl) rfl ?_
        refine Wx.nil ?_
        have hv_89 : V (tSl (tI .i64)) why4 wv4 _ _ := (hS.v 0 rfl)
        refine ⟨(wv4, why4, b + 1), (by show (madeN 6 ly - (b + 1)).toNat < (madeN 6 ly - b).toNat; omega), ?_, ?_, Out.look rfl (Out.hav rfl (Out.look rfl Out.self))⟩
        · exact ⟨(St.add (St.tl (St.tl (hS))) (V.tlF (V.tlF (hv_89)))), (by first | omega | assumption), (by first | omega | assumption), (by rw [← k2, show (madeN 6 ly - c).toNat = 0 by omega]; rfl), (h5)⟩
        · exact ⟨rfl, rfl, trivial⟩
    · -- no
      refine W.exit rfl ?_
      refine W.reg ?_
      refine Wx.rd (v := .int .i64 (a + 1)) (rd_add rfl rfl (in_i64 (by omega) (by omega))) rfl ?_
      refine Wx.rd (v := .int .i64 (a + 1)) (rd_move rfl) rfl ?_
      refine Wx.nil ?_
      have hv_90 : V (tSl (tI .i64)) why2 wv2 _ _ := (hS.v 0 rfl)
      refine ⟨(wv2, why2, a + 1), (by show (madeN 6 ly - (a + 1)).toNat < (madeN 6 ly - a).toNat; omega), ?_, ?_, Out.look rfl (Out.hav rfl (Out.look rfl Out.self))⟩
      · exact ⟨(St.add (St.tl (St.tl (hS))) (V.tlF (V.tlF (hv_90)))), (by first | omega | assumption), (by first | omega | assumption), (by rw [← g2, show (madeN 6 ly - b).toNat = 0 by omega]; rfl), (h4)⟩
      · exact ⟨rfl, rfl, trivial⟩
  · -- no
    refine W.exit rfl ?_
    refine W.seq ?_
    refine W.reg ?_
    refine Wx.rd (v := .agg #[.int .i64 (madeN 6 ly), v_8]) (rd_loadXs (ds := [.int .i64 (madeN 6 ly), v_8]) hS 3 rfl rfl rfl rfl Try.isAgg24 Try.sizeOf24) rfl ?_
    refine Wx.callF (run_callF Try.call16 rfl) (F16 (in_i64 (by omega) (by omega)) (hS.v 2 rfl)) rfl ?_
    rintro r_91 w_92 hx_93 ⟨v_94, rfl, hv_95⟩
    have hS := hS.pushFr hx_93 hv_95
    refine Wx.rd (v := .tuple #[v_94, .int .i64 (firstE (madeN 6 ly) (madeF 6 8 ly mn [z0, z1, z2, z3, z4, z5, z6, z7, z8, z9]))]) (rd_move rfl) rfl ?_
    refine Wx.rd (v := v_94) (rd_extract rfl rfl) rfl ?_
    refine Wx.rd (v := .int .i64 (firstE (madeN 6 ly) (madeF 6 8 ly mn [z0, z1, z2, z3, z4, z5, z6, z7, z8, z9]))) (rd_extract rfl rfl) rfl ?_
    refine Wx.rd (v := v_94) (rd_assign rfl) rfl ?_
    refine Wx.rd (v := .int .i64 (firstE (madeN 6 ly) (madeF 6 8 ly mn [z0, z1, z2, z3, z4, z5, z6, z7, z8, z9]))) (rd_assign rfl) rfl ?_
    refine Wx.nil ?_
    refine W.seq ?_
    refine W.reg ?_
    refine Wx.rd (v := .agg #[.int .i64 (madeN 6 ly), v_8]) (rd_loadXs (ds := [.int .i64 (madeN 6 ly), v_8]) hS 4 rfl rfl rfl rfl Try.isAgg24 Try.sizeOf24) rfl ?_
    refine Wx.callF (run_callF Try.call18 rfl) (F18 (in_i64 (by omega) (by omega)) (hS.v 3 rfl)) rfl ?_
    rintro r_97 w_98 hx_99 rfl
    have hS := hS.ext hx_99
    refine Wx.rd (v := .tuple #[.int .i64 (countE (madeN 6 ly) (madeF 6 8 ly mn [z0, z1, z2, z3, z4, z5, z6, z7, z8, z9])), .int .i64 (checkE (madeN 6 ly) (madeF 6 8 ly mn [z0, z1, z2, z3, z4, z5, z6, z7, z8, z9]))]) (rd_move rfl) rfl ?_
    refine Wx.rd (v := .int .i64 (countE (madeN 6 ly) (madeF 6 8 ly mn [z0, z1, z2, z3, z4, z5, z6, z7, z8, z9]))) (rd_extract rfl rfl) rfl ?_
    refine Wx.rd (v := .int .i64 (checkE (madeN 6 ly) (madeF 6 8 ly mn [z0, z1, z2, z3, z4, z5, z6, z7, z8, z9]))) (rd_extract rfl rfl) rfl ?_
    refine Wx.rd (v := .int .i64 (countE (madeN 6 ly) (madeF 6 8 ly mn [z0, z1, z2, z3, z4, z5, z6, z7, z8, z9]))) (rd_assign rfl) rfl ?_
    refine Wx.rd (v := .int .i64 (checkE (madeN 6 ly) (madeF 6 8 ly mn [z0, z1, z2, z3, z4, z5, z6, z7, z8, z9]))) (rd_assign rfl) rfl ?_
    refine Wx.nil ?_
    refine W.seq ?_
    refine W.reg ?_
    refine Wx.rd (v := .agg #[.int .i64 (madeN 6 ly), v_8]) (rd_loadXs (ds := [.int .i64 (madeN 6 ly), v_8]) hS 4 rfl rfl rfl rfl Try.isAgg24 Try.sizeOf24) rfl ?_
    refine Wx.callF (run_callF Try.call24 rfl) (F24 (in_i64 (by omega) (by omega)) (hS.v 3 rfl)) rfl ?_
    rintro r_100 w_101 hx_102 rfl
    have hS := hS.ext hx_102
    refine Wx.rd (v := .tuple #[.int .i64 ((whyT (madeN 6 ly) (madeF 6 8 ly mn [z0, z1, z2, z3, z4, z5, z6, z7, z8, z9])).1), .int .i64 ((whyT (madeN 6 ly) (madeF 6 8 ly mn [z0, z1, z2, z3, z4, z5, z6, z7, z8, z9])).2.1), .int .i64 ((whyT (madeN 6 ly) (madeF 6 8 ly mn [z0, z1, z2, z3, z4, z5, z6, z7, z8, z9])).2.2), .int .i64 (whyE (madeN 6 ly) (madeF 6 8 ly mn [z0, z1, z2, z3, z4, z5, z6, z7, z8, z9]))]) (rd_move rfl) rfl ?_
    refine Wx.rd (v := .int .i64 ((whyT (madeN 6 ly) (madeF 6 8 ly mn [z0, z1, z2, z3, z4, z5, z6, z7, z8, z9])).1)) (rd_extract rfl rfl) rfl ?_
    refine Wx.rd (v := .int .i64 ((whyT (madeN 6 ly) (madeF 6 8 ly mn [z0, z1, z2, z3, z4, z5, z6, z7, z8, z9])).2.1)) (rd_extract rfl rfl) rfl ?_
    refine Wx.rd (v := .int .i64 ((whyT (madeN 6 ly) (madeF 6 8 ly mn [z0, z1, z2, z3, z4, z5, z6, z7, z8, z9])).2.2)) (rd_extract rfl rfl) rfl ?_
    refine Wx.rd (v := .int .i64 (whyE (madeN 6 ly) (madeF 6 8 ly mn [z0, z1, z2, z3, z4, z5, z6, z7, z8, z9]))) (rd_extract rfl rfl) rfl ?_
    refine Wx.rd (v := .int .i64 ((whyT (madeN 6 ly) (madeF 6 8 ly mn [z0, z1, z2, z3, z4, z5, z6, z7, z8, z9])).1)) (rd_assign rfl) rfl ?_
    refine Wx.rd (v := .int .i64 ((whyT (madeN 6 ly) (madeF 6 8 ly mn [z0, z1, z2, z3, z4, z5, z6, z7, z8, z9])).2.1)) (rd_assign rfl) rfl ?_
    refine Wx.rd (v := .int .i64 ((whyT (madeN 6 ly) (madeF 6 8 ly mn [z0, z1, z2, z3, z4, z5, z6, z7, z8, z9])).2.2)) (rd_assign rfl) rfl ?_
    refine Wx.rd (v := .int .i64 (whyE (madeN 6 ly) (madeF 6 8 ly mn [z0, z1, z2, z3, z4, z5, z6, z7, z8, z9]))) (rd_assign rfl) rfl ?_
    refine Wx.nil ?_
    refine W.seq ?_
    refine W.seq ?_
    refine W.reg ?_
    have hw : why = whyW (madeN 6 ly) (madeF 6 8 ly mn [z0, z1, z2, z3, z4, z5, z6, z7, z8, z9]) := by rw [← h2, show (madeN 6 ly - a).toNat = 0 by omega]; exact (wy_nil _ _ _).symm
    have hif2 : (fitW (madeN 6 ly) (madeF 6 8 ly mn [z0, z1, z2, z3, z4, z5, z6, z7, z8, z9])).length = 0 ↔ why ≠ [] := by rw [hw]; exact hiff
    have hbb : (decide (((fitW (madeN 6 ly) (madeF 6 8 ly mn [z0, z1, z2, z3, z4, z5, z6, z7, z8, z9])).length : Int) = 0) == !decide (why = [])) = true := by { by_cases hq : why = []; rw [decide_eq_true hq, decide_eq_false (fun e => hif2.1 (by omega) hq)]; rfl; rw [decide_eq_false hq, decide_eq_true (by have := hif2.2 hq; omega)]; rfl }
    refine Wx.rd (v := .int .i64 (checkE (madeN 6 ly) (madeF 6 8 ly mn [z0, z1, z2, z3, z4, z5, z6, z7, z8, z9]))) (rd_move rfl) rfl ?_
    refine Wx.rd (v := .bool (decide ((checkE (madeN 6 ly) (madeF 6 8 ly mn [z0, z1, z2, z3, z4, z5, z6, z7, z8, z9])) ≠ 0))) (rd_neq rfl rfl) rfl ?_
    refine Wx.rd (v := .bool (decide ((checkE (madeN 6 ly) (madeF 6 8 ly mn [z0, z1, z2, z3, z4, z5, z6, z7, z8, z9])) ≠ 0))) (rd_move rfl) rfl ?_
    refine Wx.cut (X := Unit) 4 [111, 112, 113, 114] (fun _ => [(114, .bool (decide ((checkE (madeN 6 ly) (madeF 6 8 ly mn [z0, z1, z2, z3, z4, z5, z6, z7, z8, z9])) ≠ 0) || decide ((countE (madeN 6 ly) (madeF 6 8 ly mn [z0, z1, z2, z3, z4, z5, z6, z7, z8, z9])) ≠ ((fitW (madeN 6 ly) (madeF 6 8 ly mn [z0, z1, z2, z3, z4, z5, z6, z7, z8, z9])).length : Int))))]) (fun _ w' => St w [] w' [.row (tI .i64) 3 v_94 (firstL (madeN 6 ly) (madeF 6 8 ly mn [z0, z1, z2, z3, z4, z5, z6, z7, z8, z9])), Ob.v (tSl (tI .i64)) why wv, Ob.v (tSl (tI .i64)) ((fitW (madeN 6 ly) (madeF 6 8 ly mn [z0, z1, z2, z3, z4, z5, z6, z7, z8, z9])).headD []) flv_30, Ob.v (tSl (tSl (tI .i64))) (madeF 6 8 ly mn [z0, z1, z2, z3, z4, z5, z6, z7, z8, z9]) v_8, .box g_12 24 [.int .i64 (madeN 6 ly), v_8], .box g_22 3 [.int .i64 ((fitW (madeN 6 ly) (madeF 6 8 ly mn [z0, z1, z2, z3, z4, z5, z6, z7, z8, z9])).length : Int)], .box g_18 28 [flv_30], .box g_1 64 [.int .u8 ly, .int .u8 mn, .int .u8 z0, .int .u8 z1, .int .u8 z2, .int .u8 z3, .int .u8 z4, .int .u8 z5, .int .u8 z6, .int .u8 z7, .int .u8 z8, .int .u8 z9]]) ?_ ?_
    · rcases Bool.eq_false_or_eq_true (decide ((checkE (madeN 6 ly) (madeF 6 8 ly mn [z0, z1, z2, z3, z4, z5, z6, z7, z8, z9])) ≠ 0)) with g_103 | g_103
      · -- True
        have gp_104 := of_decide_eq_true g_103
        refine Wx.gnoB rfl rfl (congrArg Value.bool g_103) rfl rfl ?_
        refine Wx.gnoB rfl rfl (congrArg Value.bool g_103) rfl rfl ?_
        refine Wx.gnoB rfl rfl (congrArg Value.bool g_103) rfl rfl ?_
        refine Wx.rd (v := .bool true) (rd_pickT (congrArg Value.bool g_103) rfl) rfl ?_
        refine Wx.nil ⟨(), hS, ⟨?_, trivial⟩, Out.look rfl Out.refl⟩
        show Value.bool true = Value.bool (decide ((checkE (madeN 6 ly) (madeF 6 8 ly mn [z0, z1, z2, z3, z4, z5, z6, z7, z8, z9])) ≠ 0) || decide ((countE (madeN 6 ly) (madeF 6 8 ly mn [z0, z1, z2, z3, z4, z5, z6, z7, z8, z9])) ≠ ((fitW (madeN 6 ly) (madeF 6 8 ly mn [z0, z1, z2, z3, z4, z5, z6, z7, z8, z9])).length : Int)))
        rw [g_103]; rfl
      · -- False
        have gp_105 := of_decide_eq_false g_103
        refine Wx.gyes rfl rfl (congrArg Value.bool g_103) ?_
        refine Wx.rd (v := .int .i64 (countE (madeN 6 ly) (madeF 6 8 ly mn [z0, z1, z2, z3, z4, z5, z6, z7, z8, z9]))) (rd_move rfl) rfl ?_
        refine Wx.gyes rfl rfl (congrArg Value.bool g_103) ?_
        refine Wx.rd (v := .int .i64 ((fitW (madeN 6 ly) (madeF 6 8 ly mn [z0, z1, z2, z3, z4, z5, z6, z7, z8, z9])).length : Int)) (rd_loadX hS 5 rfl rfl rfl Try.isAgg3) rfl ?_
        refine Wx.gyes rfl rfl (congrArg Value.bool g_103) ?_
        refine Wx.rd (v := .bool (decide ((countE (madeN 6 ly) (madeF 6 8 ly mn [z0, z1, z2, z3, z4, z5, z6, z7, z8, z9])) ≠ ((fitW (madeN 6 ly) (madeF 6 8 ly mn [z0, z1, z2, z3, z4, z5, z6, z7, z8, z9])).length : Int)))) (rd_neq rfl rfl) rfl ?_
        refine Wx.rd (v := .bool (decide ((countE (madeN 6 ly) (madeF 6 8 ly mn [z0, z1, z2, z3, z4, z5, z6, z7, z8, z9])) ≠ ((fitW (madeN 6 ly) (madeF 6 8 ly mn [z0, z1, z2, z3, z4, z5, z6, z7, z8, z9])).length : Int)))) (rd_pickF (congrArg Value.bool g_103) rfl) rfl ?_
        refine Wx.nil ⟨(), hS, ⟨?_, trivial⟩, Out.look rfl Out.refl⟩
        show Value.bool (decide ((countE (madeN 6 ly) (madeF 6 8 ly mn [z0, z1, z2, z3, z4, z5, z6, z7, z8, z9])) ≠ ((fitW (madeN 6 ly) (madeF 6 8 ly mn [z0, z1, z2, z3, z4, z5, z6, z7, z8, z9])).length : Int))) = Value.bool (decide ((checkE (madeN 6 ly) (madeF 6 8 ly mn [z0, z1, z2, z3, z4, z5, z6, z7, z8, z9])) ≠ 0) || decide ((countE (madeN 6 ly) (madeF 6 8 ly mn [z0, z1, z2, z3, z4, z5, z6, z7, z8, z9])) ≠ ((fitW (madeN 6 ly) (madeF 6 8 ly mn [z0, z1, z2, z3, z4, z5, z6, z7, z8, z9])).length : Int)))
        rw [g_103]; rfl
    rintro ⟨⟩ u_107 w_106 hS
    refine Wx.rd (v := .bool (decide ((checkE (madeN 6 ly) (madeF 6 8 ly mn [z0, z1, z2, z3, z4, z5, z6, z7, z8, z9])) ≠ 0) || decide ((countE (madeN 6 ly) (madeF 6 8 ly mn [z0, z1, z2, z3, z4, z5, z6, z7, z8, z9])) ≠ ((fitW (madeN 6 ly) (madeF 6 8 ly mn [z0, z1, z2, z3, z4, z5, z6, z7, z8, z9])).length : Int)))) (rd_move rfl) rfl ?_
    refine Wx.cut (X := Unit) 6 [116, 117, 118, 119, 120, 121] (fun _ => [(121, .bool ((decide ((checkE (madeN 6 ly) (madeF 6 8 ly mn [z0, z1, z2, z3, z4, z5, z6, z7, z8, z9])) ≠ 0) || decide ((countE (madeN 6 ly) (madeF 6 8 ly mn [z0, z1, z2, z3, z4, z5, z6, z7, z8, z9])) ≠ ((fitW (madeN 6 ly) (madeF 6 8 ly mn [z0, z1, z2, z3, z4, z5, z6, z7, z8, z9])).length : Int))) || !((decide (((fitW (madeN 6 ly) (madeF 6 8 ly mn [z0, z1, z2, z3, z4, z5, z6, z7, z8, z9])).length : Int) = 0)) == (!(decide (why = []))))))]) (fun _ w' => St w [] w' [.row (tI .i64) 3 v_94 (firstL (madeN 6 ly) (madeF 6 8 ly mn [z0, z1, z2, z3, z4, z5, z6, z7, z8, z9])), Ob.v (tSl (tI .i64)) why wv, Ob.v (tSl (tI .i64)) ((fitW (madeN 6 ly) (madeF 6 8 ly mn [z0, z1, z2, z3, z4, z5, z6, z7, z8, z9])).headD []) flv_30, Ob.v (tSl (tSl (tI .i64))) (madeF 6 8 ly mn [z0, z1, z2, z3, z4, z5, z6, z7, z8, z9]) v_8, .box g_12 24 [.int .i64 (madeN 6 ly), v_8], .box g_22 3 [.int .i64 ((fitW (madeN 6 ly) (madeF 6 8 ly mn [z0, z1, z2, z3, z4, z5, z6, z7, z8, z9])).length : Int)], .box g_18 28 [flv_30], .box g_1 64 [.int .u8 ly, .int .u8 mn, .int .u8 z0, .int .u8 z1, .int .u8 z2, .int .u8 z3, .int .u8 z4, .int .u8 z5, .int .u8 z6, .int .u8 z7, .int .u8 z8, .int .u8 z9]]) ?_ ?_
    · rcases Bool.eq_false_or_eq_true (decide ((checkE (madeN 6 ly) (madeF 6 8 ly mn [z0, z1, z2, z3, z4, z5, z6, z7, z8, z9])) ≠ 0) || decide ((countE (madeN 6 ly) (madeF 6 8 ly mn [z0, z1, z2, z3, z4, z5, z6, z7, z8, z9])) ≠ ((fitW (madeN 6 ly) (madeF 6 8 ly mn [z0, z1, z2, z3, z4, z5, z6, z7, z8, z9])).length : Int))) with g_108 | g_108
      · -- True
        have gp_109 := g_108
        try simp only [Bool.and_eq_true, Bool.or_eq_true, Bool.not_eq_true', Bool.and_eq_false_iff, Bool.or_eq_false_iff, Bool.not_eq_false', decide_eq_true_eq, decide_eq_false_iff_not, not_or, Bool.false_eq_true, Bool.true_eq_false, false_or, or_false, not_false_eq_true] at gp_109
        refine Wx.gnoB rfl rfl (congrArg Value.bool g_108) rfl rfl ?_
        refine Wx.gnoB rfl rfl (congrArg Value.bool g_108) rfl rfl ?_
        refine Wx.gnoB rfl rfl (congrArg Value.bool g_108) rfl rfl ?_
        refine Wx.gnoB rfl rfl (congrArg Value.bool g_108) rfl rfl ?_
        refine Wx.gnoB rfl rfl (congrArg Value.bool g_108) rfl rfl ?_
        refine Wx.rd (v := .bool true) (rd_pickT (congrArg Value.bool g_108) rfl) rfl ?_
        refine Wx.nil ⟨(), hS, ⟨?_, trivial⟩, Out.look rfl Out.refl⟩
        show Value.bool true = Value.bool ((decide ((checkE (madeN 6 ly) (madeF 6 8 ly mn [z0, z1, z2, z3, z4, z5, z6, z7, z8, z9])) ≠ 0) || decide ((countE (madeN 6 ly) (madeF 6 8 ly mn [z0, z1, z2, z3, z4, z5, z6, z7, z8, z9])) ≠ ((fitW (madeN 6 ly) (madeF 6 8 ly mn [z0, z1, z2, z3, z4, z5, z6, z7, z8, z9])).length : Int))) || !((decide (((fitW (madeN 6 ly) (madeF 6 8 ly mn [z0, z1, z2, z3, z4, z5, z6, z7, z8, z9])).length : Int) = 0)) == (!(decide (why = [])))))
        rw [g_108]; rfl
      · -- False
        have gp_110 := g_108
        try simp only [Bool.and_eq_true, Bool.or_eq_true, Bool.not_eq_true', Bool.and_eq_false_iff, Bool.or_eq_false_iff, Bool.not_eq_false', decide_eq_true_eq, decide_eq_false_iff_not, not_or, Bool.false_eq_true, Bool.true_eq_false, false_or, or_false, not_false_eq_true] at gp_110
        refine Wx.gyes rfl rfl (congrArg Value.bool g_108) ?_
        refine Wx.rd (v := .int .i64 ((fitW (madeN 6 ly) (madeF 6 8 ly mn [z0, z1, z2, z3, z4, z5, z6, z7, z8, z9])).length : Int)) (rd_loadX hS 5 rfl rfl rfl Try.isAgg3) rfl ?_
        refine Wx.gyes rfl rfl (congrArg Value.bool g_108) ?_
        refine Wx.rd (v := .bool (decide (((fitW (madeN 6 ly) (madeF 6 8 ly mn [z0, z1, z2, z3, z4, z5, z6, z7, z8, z9])).length : Int) = 0))) (rd_eql rfl rfl) rfl ?_
        refine Wx.gyes rfl rfl (congrArg Value.bool g_108) ?_
        refine Wx.rd (v := wv) (rd_move rfl) rfl ?_
        refine Wx.gyes rfl rfl (congrArg Value.bool g_108) ?_
        refine Wx.rd (v := .bool (!(decide (why = [])))) (rd_neqlNilI (hS.v 1 rfl) rfl rfl Try.underlying28 h3) rfl ?_
        refine Wx.gyes rfl rfl (congrArg Value.bool g_108) ?_
        refine Wx.rd (v := .bool (!((decide (((fitW (madeN 6 ly) (madeF 6 8 ly mn [z0, z1, z2, z3, z4, z5, z6, z7, z8, z9])).length : Int) = 0)) == (!(decide (why = [])))))) (rd_neqB rfl rfl Try.underlying4) rfl ?_
        refine Wx.rd (v := .bool (!((decide (((fitW (madeN 6 ly) (madeF 6 8 ly mn [z0, z1, z2, z3, z4, z5, z6, z7, z8, z9])).length : Int) = 0)) == (!(decide (why = [])))))) (rd_pickF (congrArg Value.bool g_108) rfl) rfl ?_
        refine Wx.nil ⟨(), hS, ⟨?_, trivial⟩, Out.look rfl Out.refl⟩
        show Value.bool (!((decide (((fitW (madeN 6 ly) (madeF 6 8 ly mn [z0, z1, z2, z3, z4, z5, z6, z7, z8, z9])).length : Int) = 0)) == (!(decide (why = []))))) = Value.bool ((decide ((checkE (madeN 6 ly) (madeF 6 8 ly mn [z0, z1, z2, z3, z4, z5, z6, z7, z8, z9])) ≠ 0) || decide ((countE (madeN 6 ly) (madeF 6 8 ly mn [z0, z1, z2, z3, z4, z5, z6, z7, z8, z9])) ≠ ((fitW (madeN 6 ly) (madeF 6 8 ly mn [z0, z1, z2, z3, z4, z5, z6, z7, z8, z9])).length : Int))) || !((decide (((fitW (madeN 6 ly) (madeF 6 8 ly mn [z0, z1, z2, z3, z4, z5, z6, z7, z8, z9])).length : Int) = 0)) == (!(decide (why = [])))))
        rw [g_108]; rfl
    rintro ⟨⟩ u_112 w_111 hS
    refine Wx.nil ?_
    refine W.condF rfl (by rw [hc0, hcn, hbb]; simp) ?_
    refine W.skip ?_
    refine W.seq ?_
    refine W.seq ?_
    refine W.reg ?_
    refine Wx.rd (v := .int .i64 ((fitW (madeN 6 ly) (madeF 6 8 ly mn [z0, z1, z2, z3, z4, z5, z6, z7, z8, z9])).length : Int)) (rd_loadX hS 5 rfl rfl rfl Try.isAgg3) rfl ?_
    refine Wx.rd (v := .bool (decide (((fitW (madeN 6 ly) (madeF 6 8 ly mn [z0, z1, z2, z3, z4, z5, z6, z7, z8, z9])).length : Int) = 0))) (rd_eql rfl rfl) rfl ?_
    refine Wx.nil ?_
    refine W.condD rfl (fun c8 => ?_) (fun c8 => ?_)
    · -- yes
      refine W.seq ?_
      refine W.reg ?_
      have hwb := whyT_bd (hz (by omega)).2.2.2
      refine Wx.rd (v := .int .i64 (firstE (madeN 6 ly) (madeF 6 8 ly mn [z0, z1, z2, z3, z4, z5, z6, z7, z8, z9]))) (rd_move rfl) rfl ?_
      refine Wx.rd (v := .bool (decide ((firstE (madeN 6 ly) (madeF 6 8 ly mn [z0, z1, z2, z3, z4, z5, z6, z7, z8, z9])) = 12))) (rd_eql rfl rfl) rfl ?_
      refine Wx.rd (v := .bool (decide ((firstE (madeN 6 ly) (madeF 6 8 ly mn [z0, z1, z2, z3, z4, z5, z6, z7, z8, z9])) = 12))) (rd_move rfl) rfl ?_
      refine Wx.cut (X := Unit) 4 [127, 128, 129, 130] (fun _ => [(130, .bool (decide ((firstE (madeN 6 ly) (madeF 6 8 ly mn [z0, z1, z2, z3, z4, z5, z6, z7, z8, z9])) = 12) && decide (((firstL (madeN 6 ly) (madeF 6 8 ly mn [z0, z1, z2, z3, z4, z5, z6, z7, z8, z9])).length : Int) = 0)))]) (fun _ w' => St w [] w' [.row (tI .i64) 3 v_94 (firstL (madeN 6 ly) (madeF 6 8 ly mn [z0, z1, z2, z3, z4, z5, z6, z7, z8, z9])), Ob.v (tSl (tI .i64)) why wv, Ob.v (tSl (tI .i64)) ((fitW (madeN 6 ly) (madeF 6 8 ly mn [z0, z1, z2, z3, z4, z5, z6, z7, z8, z9])).headD []) flv_30, Ob.v (tSl (tSl (tI .i64))) (madeF 6 8 ly mn [z0, z1, z2, z3, z4, z5, z6, z7, z8, z9]) v_8, .box g_12 24 [.int .i64 (madeN 6 ly), v_8], .box g_22 3 [.int .i64 ((fitW (madeN 6 ly) (madeF 6 8 ly mn [z0, z1, z2, z3, z4, z5, z6, z7, z8, z9])).length : Int)], .box g_18 28 [flv_30], .box g_1 64 [.int .u8 ly, .int .u8 mn, .int .u8 z0, .int .u8 z1, .int .u8 z2, .int .u8 z3, .int .u8 z4, .int .u8 z5, .int .u8 z6, .int .u8 z7, .int .u8 z8, .int .u8 z9]]) ?_ ?_
      · rcases Bool.eq_false_or_eq_true (decide ((firstE (madeN 6 ly) (madeF 6 8 ly mn [z0, z1, z2, z3, z4, z5, z6, z7, z8, z9])) = 12)) with g_113 | g_113
        · -- True
          have gp_114 := of_decide_eq_true g_113
          refine Wx.gyes rfl rfl (congrArg Value.bool g_113) ?_
          refine Wx.rd (v := v_94) (rd_move rfl) rfl ?_
          refine Wx.gyes rfl rfl (congrArg Value.bool g_113) ?_
          refine Wx.rd (v := .int .i64 ((firstL (madeN 6 ly) (madeF 6 8 ly mn [z0, z1, z2, z3, z4, z5, z6, z7, z8, z9])).length : Int)) (rd_lenR hS 0 rfl rfl Try.underlying28) rfl ?_
          refine Wx.gyes rfl rfl (congrArg Value.bool g_113) ?_
          refine Wx.rd (v := .bool (decide (((firstL (madeN 6 ly) (madeF 6 8 ly mn [z0, z1, z2, z3, z4, z5, z6, z7, z8, z9])).length : Int) = 0))) (rd_eql rfl rfl) rfl ?_
          refine Wx.rd (v := .bool (decide (((firstL (madeN 6 ly) (madeF 6 8 ly mn [z0, z1, z2, z3, z4, z5, z6, z7, z8, z9])).length : Int) = 0))) (rd_pickT (congrArg Value.bool g_113) rfl) rfl ?_
          refine Wx.nil ⟨(), hS, ⟨?_, trivial⟩, Out.look rfl Out.refl⟩
          show Value.bool (decide (((firstL (madeN 6 ly) (madeF 6 8 ly mn [z0, z1, z2, z3, z4, z5, z6, z7, z8, z9])).length : Int) = 0)) = Value.bool (decide ((firstE (madeN 6 ly) (madeF 6 8 ly mn [z0, z1, z2, z3, z4, z5, z6, z7, z8, z9])) = 12) && decide (((firstL (madeN 6 ly) (madeF 6 8 ly mn [z0, z1, z2, z3, z4, z5, z6, z7, z8, z9])).length : Int) = 0))
          rw [g_113]; rfl
        · -- False
          have gp_115 := of_decide_eq_false g_113
          refine Wx.gnoB rfl rfl (congrArg Value.bool g_113) rfl rfl ?_
          refine Wx.gnoB rfl rfl (congrArg Value.bool g_113) rfl rfl ?_
          refine Wx.gnoB rfl rfl (congrArg Value.bool g_113) rfl rfl ?_
          refine Wx.rd (v := .bool false) (rd_pickF (congrArg Value.bool g_113) rfl) rfl ?_
          refine Wx.nil ⟨(), hS, ⟨?_, trivial⟩, Out.look rfl Out.refl⟩
          show Value.bool false = Value.bool (decide ((firstE (madeN 6 ly) (madeF 6 8 ly mn [z0, z1, z2, z3, z4, z5, z6, z7, z8, z9])) = 12) && decide (((firstL (madeN 6 ly) (madeF 6 8 ly mn [z0, z1, z2, z3, z4, z5, z6, z7, z8, z9])).length : Int) = 0))
          rw [g_113]; rfl
      rintro ⟨⟩ u_117 w_116 hS
      refine Wx.rd (v := .bool (decide ((firstE (madeN 6 ly) (madeF 6 8 ly mn [z0, z1, z2, z3, z4, z5, z6, z7, z8, z9])) = 12) && decide (((firstL (madeN 6 ly) (madeF 6 8 ly mn [z0, z1, z2, z3, z4, z5, z6, z7, z8, z9])).length : Int) = 0))) (rd_move rfl) rfl ?_
      refine Wx.cut (X := Unit) 3 [132, 133, 134] (fun _ => [(134, .bool ((decide ((firstE (madeN 6 ly) (madeF 6 8 ly mn [z0, z1, z2, z3, z4, z5, z6, z7, z8, z9])) = 12) && decide (((firstL (madeN 6 ly) (madeF 6 8 ly mn [z0, z1, z2, z3, z4, z5, z6, z7, z8, z9])).length : Int) = 0)) && decide ((whyE (madeN 6 ly) (madeF 6 8 ly mn [z0, z1, z2, z3, z4, z5, z6, z7, z8, z9])) = 0)))]) (fun _ w' => St w [] w' [.row (tI .i64) 3 v_94 (firstL (madeN 6 ly) (madeF 6 8 ly mn [z0, z1, z2, z3, z4, z5, z6, z7, z8, z9])), Ob.v (tSl (tI .i64)) why wv, Ob.v (tSl (tI .i64)) ((fitW (madeN 6 ly) (madeF 6 8 ly mn [z0, z1, z2, z3, z4, z5, z6, z7, z8, z9])).headD []) flv_30, Ob.v (tSl (tSl (tI .i64))) (madeF 6 8 ly mn [z0, z1, z2, z3, z4, z5, z6, z7, z8, z9]) v_8, .box g_12 24 [.int .i64 (madeN 6 ly), v_8], .box g_22 3 [.int .i64 ((fitW (madeN 6 ly) (madeF 6 8 ly mn [z0, z1, z2, z3, z4, z5, z6, z7, z8, z9])).length : Int)], .box g_18 28 [flv_30], .box g_1 64 [.int .u8 ly, .int .u8 mn, .int .u8 z0, .int .u8 z1, .int .u8 z2, .int .u8 z3, .int .u8 z4, .int .u8 z5, .int .u8 z6, .int .u8 z7, .int .u8 z8, .int .u8 z9]]) ?_ ?_
      · rcases Bool.eq_false_or_eq_true (decide ((firstE (madeN 6 ly) (madeF 6 8 ly mn [z0, z1, z2, z3, z4, z5, z6, z7, z8, z9])) = 12) && decide (((firstL (madeN 6 ly) (madeF 6 8 ly mn [z0, z1, z2, z3, z4, z5, z6, z7, z8, z9])).length : Int) = 0)) with g_118 | g_118
        · -- True
          have gp_119 := g_118
          try simp only [Bool.and_eq_true, Bool.or_eq_true, Bool.not_eq_true', Bool.and_eq_false_iff, Bool.or_eq_false_iff, Bool.not_eq_false', decide_eq_true_eq, decide_eq_false_iff_not, not_or, Bool.false_eq_true, Bool.true_eq_false, false_or, or_false, not_false_eq_true] at gp_119
          refine Wx.gyes rfl rfl (congrArg Value.bool g_118) ?_
          refine Wx.rd (v := .int .i64 (whyE (madeN 6 ly) (madeF 6 8 ly mn [z0, z1, z2, z3, z4, z5, z6, z7, z8, z9]))) (rd_move rfl) rfl ?_
          refine Wx.gyes rfl rfl (congrArg Value.bool g_118) ?_
          refine Wx.rd (v := .bool (decide ((whyE (madeN 6 ly) (madeF 6 8 ly mn [z0, z1, z2, z3, z4, z5, z6, z7, z8, z9])) = 0))) (rd_eql rfl rfl) rfl ?_
          refine Wx.rd (v := .bool (decide ((whyE (madeN 6 ly) (madeF 6 8 ly mn [z0, z1, z2, z3, z4, z5, z6, z7, z8, z9])) = 0))) (rd_pickT (congrArg Value.bool g_118) rfl) rfl ?_
          refine Wx.nil ⟨(), hS, ⟨?_, trivial⟩, Out.look rfl Out.refl⟩
          show Value.bool (decide ((whyE (madeN 6 ly) (madeF 6 8 ly mn [z0, z1, z2, z3, z4, z5, z6, z7, z8, z9])) = 0)) = Value.bool ((decide ((firstE (madeN 6 ly) (madeF 6 8 ly mn [z0, z1, z2, z3, z4, z5, z6, z7, z8, z9])) = 12) && decide (((firstL (madeN 6 ly) (madeF 6 8 ly mn [z0, z1, z2, z3, z4, z5, z6, z7, z8, z9])).length : Int) = 0)) && decide ((whyE (madeN 6 ly) (madeF 6 8 ly mn [z0, z1, z2, z3, z4, z5, z6, z7, z8, z9])) = 0))
          rw [g_118]; rfl
        · -- False
          have gp_120 := g_118
          try simp only [Bool.and_eq_true, Bool.or_eq_true, Bool.not_eq_true', Bool.and_eq_false_iff, Bool.or_eq_false_iff, Bool.not_eq_false', decide_eq_true_eq, decide_eq_false_iff_not, not_or, Bool.false_eq_true, Bool.true_eq_false, false_or, or_false, not_false_eq_true] at gp_120
          refine Wx.gnoB rfl rfl (congrArg Value.bool g_118) rfl rfl ?_
          refine Wx.gnoB rfl rfl (congrArg Value.bool g_118) rfl rfl ?_
          refine Wx.rd (v := .bool false) (rd_pickF (congrArg Value.bool g_118) rfl) rfl ?_
          refine Wx.nil ⟨(), hS, ⟨?_, trivial⟩, Out.look rfl Out.refl⟩
          show Value.bool false = Value.bool ((decide ((firstE (madeN 6 ly) (madeF 6 8 ly mn [z0, z1, z2, z3, z4, z5, z6, z7, z8, z9])) = 12) && decide (((firstL (madeN 6 ly) (madeF 6 8 ly mn [z0, z1, z2, z3, z4, z5, z6, z7, z8, z9])).length : Int) = 0)) && decide ((whyE (madeN 6 ly) (madeF 6 8 ly mn [z0, z1, z2, z3, z4, z5, z6, z7, z8, z9])) = 0))
          rw [g_118]; rfl
      rintro ⟨⟩ u_122 w_121 hS
      refine Wx.rd (v := .bool ((decide ((firstE (madeN 6 ly) (madeF 6 8 ly mn [z0, z1, z2, z3, z4, z5, z6, z7, z8, z9])) = 12) && decide (((firstL (madeN 6 ly) (madeF 6 8 ly mn [z0, z1, z2, z3, z4, z5, z6, z7, z8, z9])).length : Int) = 0)) && decide ((whyE (madeN 6 ly) (madeF 6 8 ly mn [z0, z1, z2, z3, z4, z5, z6, z7, z8, z9])) = 0))) (rd_move rfl) rfl ?_
      refine Wx.cut (X := Unit) 8 [136, 137, 138, 139, 140, 141, 142, 143] (fun _ => [(143, .bool (((decide ((firstE (madeN 6 ly) (madeF 6 8 ly mn [z0, z1, z2, z3, z4, z5, z6, z7, z8, z9])) = 12) && decide (((firstL (madeN 6 ly) (madeF 6 8 ly mn [z0, z1, z2, z3, z4, z5, z6, z7, z8, z9])).length : Int) = 0)) && decide ((whyE (madeN 6 ly) (madeF 6 8 ly mn [z0, z1, z2, z3, z4, z5, z6, z7, z8, z9])) = 0)) && decide ([(whyT (madeN 6 ly) (madeF 6 8 ly mn [z0, z1, z2, z3, z4, z5, z6, z7, z8, z9])).1, (whyT (madeN 6 ly) (madeF 6 8 ly mn [z0, z1, z2, z3, z4, z5, z6, z7, z8, z9])).2.1, (whyT (madeN 6 ly) (madeF 6 8 ly mn [z0, z1, z2, z3, z4, z5, z6, z7, z8, z9])).2.2] = why)))]) (fun _ w' => St w [] w' [.row (tI .i64) 3 v_94 (firstL (madeN 6 ly) (madeF 6 8 ly mn [z0, z1, z2, z3, z4, z5, z6, z7, z8, z9])), Ob.v (tSl (tI .i64)) why wv, Ob.v (tSl (tI .i64)) ((fitW (madeN 6 ly) (madeF 6 8 ly mn [z0, z1, z2, z3, z4, z5, z6, z7, z8, z9])).headD []) flv_30, Ob.v (tSl (tSl (tI .i64))) (madeF 6 8 ly mn [z0, z1, z2, z3, z4, z5, z6, z7, z8, z9]) v_8, .box g_12 24 [.int .i64 (madeN 6 ly), v_8], .box g_22 3 [.int .i64 ((fitW (madeN 6 ly) (madeF 6 8 ly mn [z0, z1, z2, z3, z4, z5, z6, z7, z8, z9])).length : Int)], .box g_18 28 [flv_30], .box g_1 64 [.int .u8 ly, .int .u8 mn, .int .u8 z0, .int .u8 z1, .int .u8 z2, .int .u8 z3, .int .u8 z4, .int .u8 z5, .int .u8 z6, .int .u8 z7, .int .u8 z8, .int .u8 z9]]) ?_ ?_
      · rcases Bool.eq_false_or_eq_true ((decide ((firstE (madeN 6 ly) (madeF 6 8 ly mn [z0, z1, z2, z3, z4, z5, z6, z7, z8, z9])) = 12) && decide (((firstL (madeN 6 ly) (madeF 6 8 ly mn [z0, z1, z2, z3, z4, z5, z6, z7, z8, z9])).length : Int) = 0)) && decide ((whyE (madeN 6 ly) (madeF 6 8 ly mn [z0, z1, z2, z3, z4, z5, z6, z7, z8, z9])) = 0)) with g_123 | g_123
        · -- True
          have gp_124 := g_123
          try simp only [Bool.and_eq_true, Bool.or_eq_true, Bool.not_eq_true', Bool.and_eq_false_iff, Bool.or_eq_false_iff, Bool.not_eq_false', decide_eq_true_eq, decide_eq_false_iff_not, not_or, Bool.false_eq_true, Bool.true_eq_false, false_or, or_false, not_false_eq_true] at gp_124
          refine Wx.gyes rfl rfl (congrArg Value.bool g_123) ?_
          refine Wx.rd (v := .int .i64 ((whyT (madeN 6 ly) (madeF 6 8 ly mn [z0, z1, z2, z3, z4, z5, z6, z7, z8, z9])).1)) (rd_move rfl) rfl ?_
          refine Wx.gyes rfl rfl (congrArg Value.bool g_123) ?_
          refine Wx.rd (v := .int .i64 ((whyT (madeN 6 ly) (madeF 6 8 ly mn [z0, z1, z2, z3, z4, z5, z6, z7, z8, z9])).2.1)) (rd_move rfl) rfl ?_
          refine Wx.gyes rfl rfl (congrArg Value.bool g_123) ?_
          refine Wx.rd (v := .int .i64 ((whyT (madeN 6 ly) (madeF 6 8 ly mn [z0, z1, z2, z3, z4, z5, z6, z7, z8, z9])).2.2)) (rd_move rfl) rfl ?_
          refine Wx.gyes rfl rfl (congrArg Value.bool g_123) ?_
          refine Wx.lit (t := (tI .i64)) (ys := [(whyT (madeN 6 ly) (madeF 6 8 ly mn [z0, z1, z2, z3, z4, z5, z6, z7, z8, z9])).1, (whyT (madeN 6 ly) (madeF 6 8 ly mn [z0, z1, z2, z3, z4, z5, z6, z7, z8, z9])).2.1, (whyT (madeN 6 ly) (madeF 6 8 ly mn [z0, z1, z2, z3, z4, z5, z6, z7, z8, z9])).2.2]) (vs := [.int .i64 ((whyT (madeN 6 ly) (madeF 6 8 ly mn [z0, z1, z2, z3, z4, z5, z6, z7, z8, z9])).1), .int .i64 ((whyT (madeN 6 ly) (madeF 6 8 ly mn [z0, z1, z2, z3, z4, z5, z6, z7, z8, z9])).2.1), .int .i64 ((whyT (madeN 6 ly) (madeF 6 8 ly mn [z0, z1, z2, z3, z4, z5, z6, z7, z8, z9])).2.2)]) elGg_28 hS rfl rfl ⟨(V.mkInt (in_i64 (by omega) (by omega))), ⟨(V.mkInt (in_i64 (by omega) (by omega))), ⟨(V.mkInt (in_i64 (by omega) (by omega))), trivial⟩⟩⟩ (by decide) rfl (fun v_125 w_126 hx_127 hS => ?_)
          refine Wx.gyes rfl rfl (congrArg Value.bool g_123) ?_
          have hS := hS.freeze 0 rfl
          refine Wx.callF (run_callF Try.call39 rfl) (F39 (hS.v 0 rfl) hS.fb_lt) rfl ?_
          rintro r_129 w_130 hx_131 ⟨_, rfl, hv_132⟩
          have ln_134 := hv_132.len63
          have hS := hS.ext hx_131
          have hS := hS.add hv_132
          refine Wx.gyes rfl rfl (congrArg Value.bool g_123) ?_
          refine Wx.rd (v := wv) (rd_move rfl) rfl ?_
          refine Wx.gyes rfl rfl (congrArg Value.bool g_123) ?_
          refine Wx.callF (run_callF Try.call22 rfl) (F22 (hS.v 0 rfl) (hS.v 3 rfl)) rfl ?_
          rintro r_135 w_136 hx_137 rfl
          have hS := hS.ext hx_137
          refine Wx.rd (v := .bool (decide ([(whyT (madeN 6 ly) (madeF 6 8 ly mn [z0, z1, z2, z3, z4, z5, z6, z7, z8, z9])).1, (whyT (madeN 6 ly) (madeF 6 8 ly mn [z0, z1, z2, z3, z4, z5, z6, z7, z8, z9])).2.1, (whyT (madeN 6 ly) (madeF 6 8 ly mn [z0, z1, z2, z3, z4, z5, z6, z7, z8, z9])).2.2] = why))) (rd_pickT (congrArg Value.bool g_123) rfl) rfl ?_
          refine Wx.nil ⟨(), St.tl (hS.tl), ⟨?_, trivial⟩, Out.look rfl Out.refl⟩
          show Value.bool (decide ([(whyT (madeN 6 ly) (madeF 6 8 ly mn [z0, z1, z2, z3, z4, z5, z6, z7, z8, z9])).1, (whyT (madeN 6 ly) (madeF 6 8 ly mn [z0, z1, z2, z3, z4, z5, z6, z7, z8, z9])).2.1, (whyT (madeN 6 ly) (madeF 6 8 ly mn [z0, z1, z2, z3, z4, z5, z6, z7, z8, z9])).2.2] = why)) = Value.bool (((decide ((firstE (madeN 6 ly) (madeF 6 8 ly mn [z0, z1, z2, z3, z4, z5, z6, z7, z8, z9])) = 12) && decide (((firstL (madeN 6 ly) (madeF 6 8 ly mn [z0, z1, z2, z3, z4, z5, z6, z7, z8, z9])).length : Int) = 0)) && decide ((whyE (madeN 6 ly) (madeF 6 8 ly mn [z0, z1, z2, z3, z4, z5, z6, z7, z8, z9])) = 0)) && decide ([(whyT (madeN 6 ly) (madeF 6 8 ly mn [z0, z1, z2, z3, z4, z5, z6, z7, z8, z9])).1, (whyT (madeN 6 ly) (madeF 6 8 ly mn [z0, z1, z2, z3, z4, z5, z6, z7, z8, z9])).2.1, (whyT (madeN 6 ly) (madeF 6 8 ly mn [z0, z1, z2, z3, z4, z5, z6, z7, z8, z9])).2.2] = why))
          rw [g_123]; rfl
        · -- False
          have gp_138 := g_123
          try simp only [Bool.and_eq_true, Bool.or_eq_true, Bool.not_eq_true', Bool.and_eq_false_iff, Bool.or_eq_false_iff, Bool.not_eq_false', decide_eq_true_eq, decide_eq_false_iff_not, not_or, Bool.false_eq_true, Bool.true_eq_false, false_or, or_false, not_false_eq_true] at gp_138
          refine Wx.gnoB rfl rfl (congrArg Value.bool g_123) rfl rfl ?_
          refine Wx.gnoB rfl rfl (congrArg Value.bool g_123) rfl rfl ?_
          refine Wx.gnoB rfl rfl (congrArg Value.bool g_123) rfl rfl ?_
          refine Wx.gnoB rfl rfl (congrArg Value.bool g_123) rfl rfl ?_
          refine Wx.gnoB rfl rfl (congrArg Value.bool g_123) rfl rfl ?_
          refine Wx.gnoB rfl rfl (congrArg Value.bool g_123) rfl rfl ?_
          refine Wx.gnoB rfl rfl (congrArg Value.bool g_123) rfl rfl ?_
          refine Wx.rd (v := .bool false) (rd_pickF (congrArg Value.bool g_123) rfl) rfl ?_
          refine Wx.nil ⟨(), hS, ⟨?_, trivial⟩, Out.look rfl Out.refl⟩
          show Value.bool false = Value.bool (((decide ((firstE (madeN 6 ly) (madeF 6 8 ly mn [z0, z1, z2, z3, z4, z5, z6, z7, z8, z9])) = 12) && decide (((firstL (madeN 6 ly) (madeF 6 8 ly mn [z0, z1, z2, z3, z4, z5, z6, z7, z8, z9])).length : Int) = 0)) && decide ((whyE (madeN 6 ly) (madeF 6 8 ly mn [z0, z1, z2, z3, z4, z5, z6, z7, z8, z9])) = 0)) && decide ([(whyT (madeN 6 ly) (madeF 6 8 ly mn [z0, z1, z2, z3, z4, z5, z6, z7, z8, z9])).1, (whyT (madeN 6 ly) (madeF 6 8 ly mn [z0, z1, z2, z3, z4, z5, z6, z7, z8, z9])).2.1, (whyT (madeN 6 ly) (madeF 6 8 ly mn [z0, z1, z2, z3, z4, z5, z6, z7, z8, z9])).2.2] = why))
          rw [g_123]; rfl
      rintro ⟨⟩ u_140 w_139 hS
      refine Wx.rd (v := .bool (((decide ((firstE (madeN 6 ly) (madeF 6 8 ly mn [z0, z1, z2, z3, z4, z5, z6, z7, z8, z9])) = 12) && decide (((firstL (madeN 6 ly) (madeF 6 8 ly mn [z0, z1, z2, z3, z4, z5, z6, z7, z8, z9])).length : Int) = 0)) && decide ((whyE (madeN 6 ly) (madeF 6 8 ly mn [z0, z1, z2, z3, z4, z5, z6, z7, z8, z9])) = 0)) && decide ([(whyT (madeN 6 ly) (madeF 6 8 ly mn [z0, z1, z2, z3, z4, z5, z6, z7, z8, z9])).1, (whyT (madeN 6 ly) (madeF 6 8 ly mn [z0, z1, z2, z3, z4, z5, z6, z7, z8, z9])).2.1, (whyT (madeN 6 ly) (madeF 6 8 ly mn [z0, z1, z2, z3, z4, z5, z6, z7, z8, z9])).2.2] = why))) (rd_move rfl) rfl ?_
      refine Wx.cut (X := Unit) 2 [145, 146] (fun _ => [(146, .bool ((((decide ((firstE (madeN 6 ly) (madeF 6 8 ly mn [z0, z1, z2, z3, z4, z5, z6, z7, z8, z9])) = 12) && decide (((firstL (madeN 6 ly) (madeF 6 8 ly mn [z0, z1, z2, z3, z4, z5, z6, z7, z8, z9])).length : Int) = 0)) && decide ((whyE (madeN 6 ly) (madeF 6 8 ly mn [z0, z1, z2, z3, z4, z5, z6, z7, z8, z9])) = 0)) && decide ([(whyT (madeN 6 ly) (madeF 6 8 ly mn [z0, z1, z2, z3, z4, z5, z6, z7, z8, z9])).1, (whyT (madeN 6 ly) (madeF 6 8 ly mn [z0, z1, z2, z3, z4, z5, z6, z7, z8, z9])).2.1, (whyT (madeN 6 ly) (madeF 6 8 ly mn [z0, z1, z2, z3, z4, z5, z6, z7, z8, z9])).2.2] = why)) && true))]) (fun _ w' => St w [] w' [.row (tI .i64) 3 v_94 (firstL (madeN 6 ly) (madeF 6 8 ly mn [z0, z1, z2, z3, z4, z5, z6, z7, z8, z9])), Ob.v (tSl (tI .i64)) why wv, Ob.v (tSl (tI .i64)) ((fitW (madeN 6 ly) (madeF 6 8 ly mn [z0, z1, z2, z3, z4, z5, z6, z7, z8, z9])).headD []) flv_30, Ob.v (tSl (tSl (tI .i64))) (madeF 6 8 ly mn [z0, z1, z2, z3, z4, z5, z6, z7, z8, z9]) v_8, .box g_12 24 [.int .i64 (madeN 6 ly), v_8], .box g_22 3 [.int .i64 ((fitW (madeN 6 ly) (madeF 6 8 ly mn [z0, z1, z2, z3, z4, z5, z6, z7, z8, z9])).length : Int)], .box g_18 28 [flv_30], .box g_1 64 [.int .u8 ly, .int .u8 mn, .int .u8 z0, .int .u8 z1, .int .u8 z2, .int .u8 z3, .int .u8 z4, .int .u8 z5, .int .u8 z6, .int .u8 z7, .int .u8 z8, .int .u8 z9]]) ?_ ?_
      · rcases Bool.eq_false_or_eq_true (((decide ((firstE (madeN 6 ly) (madeF 6 8 ly mn [z0, z1, z2, z3, z4, z5, z6, z7, z8, z9])) = 12) && decide (((firstL (madeN 6 ly) (madeF 6 8 ly mn [z0, z1, z2, z3, z4, z5, z6, z7, z8, z9])).length : Int) = 0)) && decide ((whyE (madeN 6 ly) (madeF 6 8 ly mn [z0, z1, z2, z3, z4, z5, z6, z7, z8, z9])) = 0)) && decide ([(whyT (madeN 6 ly) (madeF 6 8 ly mn [z0, z1, z2, z3, z4, z5, z6, z7, z8, z9])).1, (whyT (madeN 6 ly) (madeF 6 8 ly mn [z0, z1, z2, z3, z4, z5, z6, z7, z8, z9])).2.1, (whyT (madeN 6 ly) (madeF 6 8 ly mn [z0, z1, z2, z3, z4, z5, z6, z7, z8, z9])).2.2] = why)) with g_141 | g_141
        · -- True
          have gp_142 := g_141
          try simp only [Bool.and_eq_true, Bool.or_eq_true, Bool.not_eq_true', Bool.and_eq_false_iff, Bool.or_eq_false_iff, Bool.not_eq_false', decide_eq_true_eq, decide_eq_false_iff_not, not_or, Bool.false_eq_true, Bool.true_eq_false, false_or, or_false, not_false_eq_true] at gp_142
          refine Wx.gyes rfl rfl (congrArg Value.bool g_141) ?_
          refine Wx.callF (run_callF Try.call15 rfl) (F15) rfl ?_
          rintro r_143 w_144 hx_145 rfl
          have hS := hS.ext hx_145
          refine Wx.rd (v := .bool true) (rd_pickT (congrArg Value.bool g_141) rfl) rfl ?_
          refine Wx.nil ⟨(), hS, ⟨?_, trivial⟩, Out.look rfl Out.refl⟩
          show Value.bool true = Value.bool ((((decide ((firstE (madeN 6 ly) (madeF 6 8 ly mn [z0, z1, z2, z3, z4, z5, z6, z7, z8, z9])) = 12) && decide (((firstL (madeN 6 ly) (madeF 6 8 ly mn [z0, z1, z2, z3, z4, z5, z6, z7, z8, z9])).length : Int) = 0)) && decide ((whyE (madeN 6 ly) (madeF 6 8 ly mn [z0, z1, z2, z3, z4, z5, z6, z7, z8, z9])) = 0)) && decide ([(whyT (madeN 6 ly) (madeF 6 8 ly mn [z0, z1, z2, z3, z4, z5, z6, z7, z8, z9])).1, (whyT (madeN 6 ly) (madeF 6 8 ly mn [z0, z1, z2, z3, z4, z5, z6, z7, z8, z9])).2.1, (whyT (madeN 6 ly) (madeF 6 8 ly mn [z0, z1, z2, z3, z4, z5, z6, z7, z8, z9])).2.2] = why)) && true)
          rw [g_141]; rfl
        · -- False
          have gp_146 := g_141
          try simp only [Bool.and_eq_true, Bool.or_eq_true, Bool.not_eq_true', Bool.and_eq_false_iff, Bool.or_eq_false_iff, Bool.not_eq_false', decide_eq_true_eq, decide_eq_false_iff_not, not_or, Bool.false_eq_true, Bool.true_eq_false, false_or, or_false, not_false_eq_true] at gp_146
          refine Wx.gnoB rfl rfl (congrArg Value.bool g_141) rfl rfl ?_
          refine Wx.rd (v := .bool false) (rd_pickF (congrArg Value.bool g_141) rfl) rfl ?_
          refine Wx.nil ⟨(), hS, ⟨?_, trivial⟩, Out.look rfl Out.refl⟩
          show Value.bool false = Value.bool ((((decide ((firstE (madeN 6 ly) (madeF 6 8 ly mn [z0, z1, z2, z3, z4, z5, z6, z7, z8, z9])) = 12) && decide (((firstL (madeN 6 ly) (madeF 6 8 ly mn [z0, z1, z2, z3, z4, z5, z6, z7, z8, z9])).length : Int) = 0)) && decide ((whyE (madeN 6 ly) (madeF 6 8 ly mn [z0, z1, z2, z3, z4, z5, z6, z7, z8, z9])) = 0)) && decide ([(whyT (madeN 6 ly) (madeF 6 8 ly mn [z0, z1, z2, z3, z4, z5, z6, z7, z8, z9])).1, (whyT (madeN 6 ly) (madeF 6 8 ly mn [z0, z1, z2, z3, z4, z5, z6, z7, z8, z9])).2.1, (whyT (madeN 6 ly) (madeF 6 8 ly mn [z0, z1, z2, z3, z4, z5, z6, z7, z8, z9])).2.2] = why)) && true)
          rw [g_141]; rfl
      rintro ⟨⟩ u_148 w_147 hS
      refine Wx.rd (v := .bool ((((decide ((firstE (madeN 6 ly) (madeF 6 8 ly mn [z0, z1, z2, z3, z4, z5, z6, z7, z8, z9])) = 12) && decide (((firstL (madeN 6 ly) (madeF 6 8 ly mn [z0, z1, z2, z3, z4, z5, z6, z7, z8, z9])).length : Int) = 0)) && decide ((whyE (madeN 6 ly) (madeF 6 8 ly mn [z0, z1, z2, z3, z4, z5, z6, z7, z8, z9])) = 0)) && decide ([(whyT (madeN 6 ly) (madeF 6 8 ly mn [z0, z1, z2, z3, z4, z5, z6, z7, z8, z9])).1, (whyT (madeN 6 ly) (madeF 6 8 ly mn [z0, z1, z2, z3, z4, z5, z6, z7, z8, z9])).2.1, (whyT (madeN 6 ly) (madeF 6 8 ly mn [z0, z1, z2, z3, z4, z5, z6, z7, z8, z9])).2.2] = why)) && true)) (rd_assign rfl) rfl ?_
      refine Wx.nil ?_
      have e0_0 : ((((decide ((firstE (madeN 6 ly) (madeF 6 8 ly mn [z0, z1, z2, z3, z4, z5, z6, z7, z8, z9])) = 12) && decide (((firstL (madeN 6 ly) (madeF 6 8 ly mn [z0, z1, z2, z3, z4, z5, z6, z7, z8, z9])).length : Int) = 0)) && decide ((whyE (madeN 6 ly) (madeF 6 8 ly mn [z0, z1, z2, z3, z4, z5, z6, z7, z8, z9])) = 0)) && decide ([(whyT (madeN 6 ly) (madeF 6 8 ly mn [z0, z1, z2, z3, z4, z5, z6, z7, z8, z9])).1, (whyT (madeN 6 ly) (madeF 6 8 ly mn [z0, z1, z2, z3, z4, z5, z6, z7, z8, z9])).2.1, (whyT (madeN 6 ly) (madeF 6 8 ly mn [z0, z1, z2, z3, z4, z5, z6, z7, z8, z9])).2.2] = why)) && true) = true := by obtain ⟨q1, q2, q3, q4⟩ := hz (by omega); rw [q1, q2, q3, hw, ← q4]; simp
      exact W.ret ⟨.bool ((((decide ((firstE (madeN 6 ly) (madeF 6 8 ly mn [z0, z1, z2, z3, z4, z5, z6, z7, z8, z9])) = 12) && decide (((firstL (madeN 6 ly) (madeF 6 8 ly mn [z0, z1, z2, z3, z4, z5, z6, z7, z8, z9])).length : Int) = 0)) && decide ((whyE (madeN 6 ly) (madeF 6 8 ly mn [z0, z1, z2, z3, z4, z5, z6, z7, z8, z9])) = 0)) && decide ([(whyT (madeN 6 ly) (madeF 6 8 ly mn [z0, z1, z2, z3, z4, z5, z6, z7, z8, z9])).1, (whyT (madeN 6 ly) (madeF 6 8 ly mn [z0, z1, z2, z3, z4, z5, z6, z7, z8, z9])).2.1, (whyT (madeN 6 ly) (madeF 6 8 ly mn [z0, z1, z2, z3, z4, z5, z6, z7, z8, z9])).2.2] = why)) && true), ResIs.one, hS.bel, (by rw [e0_0])⟩
    · -- no
      refine W.skip ?_
      refine W.seq ?_
      refine W.reg ?_
      refine Wx.rd (v := .int .i64 (firstE (madeN 6 ly) (madeF 6 8 ly mn [z0, z1, z2, z3, z4, z5, z6, z7, z8, z9]))) (rd_move rfl) rfl ?_
      refine Wx.rd (v := .bool (decide ((firstE (madeN 6 ly) (madeF 6 8 ly mn [z0, z1, z2, z3, z4, z5, z6, z7, z8, z9])) = 0))) (rd_eql rfl rfl) rfl ?_
      refine Wx.rd (v := .bool (decide ((firstE (madeN 6 ly) (madeF 6 8 ly mn [z0, z1, z2, z3, z4, z5, z6, z7, z8, z9])) = 0))) (rd_move rfl) rfl ?_
      refine Wx.cut (X := Unit) 4 [150, 151, 152, 153] (fun _ => [(153, .bool (decide ((firstE (madeN 6 ly) (madeF 6 8 ly mn [z0, z1, z2, z3, z4, z5, z6, z7, z8, z9])) = 0) && decide ((firstL (madeN 6 ly) (madeF 6 8 ly mn [z0, z1, z2, z3, z4, z5, z6, z7, z8, z9])) = ((fitW (madeN 6 ly) (madeF 6 8 ly mn [z0, z1, z2, z3, z4, z5, z6, z7, z8, z9])).headD []))))]) (fun _ w' => St w [] w' [.row (tI .i64) 3 v_94 (firstL (madeN 6 ly) (madeF 6 8 ly mn [z0, z1, z2, z3, z4, z5, z6, z7, z8, z9])), Ob.v (tSl (tI .i64)) why wv, Ob.v (tSl (tI .i64)) ((fitW (madeN 6 ly) (madeF 6 8 ly mn [z0, z1, z2, z3, z4, z5, z6, z7, z8, z9])).headD []) flv_30, Ob.v (tSl (tSl (tI .i64))) (madeF 6 8 ly mn [z0, z1, z2, z3, z4, z5, z6, z7, z8, z9]) v_8, .box g_12 24 [.int .i64 (madeN 6 ly), v_8], .box g_22 3 [.int .i64 ((fitW (madeN 6 ly) (madeF 6 8 ly mn [z0, z1, z2, z3, z4, z5, z6, z7, z8, z9])).length : Int)], .box g_18 28 [flv_30], .box g_1 64 [.int .u8 ly, .int .u8 mn, .int .u8 z0, .int .u8 z1, .int .u8 z2, .int .u8 z3, .int .u8 z4, .int .u8 z5, .int .u8 z6, .int .u8 z7, .int .u8 z8, .int .u8 z9]]) ?_ ?_
      · rcases Bool.eq_false_or_eq_true (decide ((firstE (madeN 6 ly) (madeF 6 8 ly mn [z0, z1, z2, z3, z4, z5, z6, z7, z8, z9])) = 0)) with g_149 | g_149
        · -- True
          have gp_150 := of_decide_eq_true g_149
          refine Wx.gyes rfl rfl (congrArg Value.bool g_149) ?_
          refine Wx.rd (v := v_94) (rd_move rfl) rfl ?_
          refine Wx.gyes rfl rfl (congrArg Value.bool g_149) ?_
          refine Wx.rd (v := flv_30) (rd_loadX hS 6 rfl rfl rfl Try.isAgg28) rfl ?_
          refine Wx.gyes rfl rfl (congrArg Value.bool g_149) ?_
          refine Wx.callF (run_callF Try.call22 rfl) (F22 (hS.lend 0 rfl) (hS.v 2 rfl)) rfl ?_
          rintro r_151 w_152 hx_153 rfl
          have hS := hS.ext hx_153
          refine Wx.rd (v := .bool (decide ((firstL (madeN 6 ly) (madeF 6 8 ly mn [z0, z1, z2, z3, z4, z5, z6, z7, z8, z9])) = ((fitW (madeN 6 ly) (madeF 6 8 ly mn [z0, z1, z2, z3, z4, z5, z6, z7, z8, z9])).headD [])))) (rd_pickT (congrArg Value.bool g_149) rfl) rfl ?_
          refine Wx.nil ⟨(), hS, ⟨?_, trivial⟩, Out.look rfl Out.refl⟩
          show Value.bool (decide ((firstL (madeN 6 ly) (madeF 6 8 ly mn [z0, z1, z2, z3, z4, z5, z6, z7, z8, z9])) = ((fitW (madeN 6 ly) (madeF 6 8 ly mn [z0, z1, z2, z3, z4, z5, z6, z7, z8, z9])).headD []))) = Value.bool (decide ((firstE (madeN 6 ly) (madeF 6 8 ly mn [z0, z1, z2, z3, z4, z5, z6, z7, z8, z9])) = 0) && decide ((firstL (madeN 6 ly) (madeF 6 8 ly mn [z0, z1, z2, z3, z4, z5, z6, z7, z8, z9])) = ((fitW (madeN 6 ly) (madeF 6 8 ly mn [z0, z1, z2, z3, z4, z5, z6, z7, z8, z9])).headD [])))
          rw [g_149]; rfl
        · -- False
          have gp_154 := of_decide_eq_false g_149
          refine Wx.gnoB rfl rfl (congrArg Value.bool g_149) rfl rfl ?_
          refine Wx.gnoB rfl rfl (congrArg Value.bool g_149) rfl rfl ?_
          refine Wx.gnoB rfl rfl (congrArg Value.bool g_149) rfl rfl ?_
          refine Wx.rd (v := .bool false) (rd_pickF (congrArg Value.bool g_149) rfl) rfl ?_
          refine Wx.nil ⟨(), hS, ⟨?_, trivial⟩, Out.look rfl Out.refl⟩
          show Value.bool false = Value.bool (decide ((firstE (madeN 6 ly) (madeF 6 8 ly mn [z0, z1, z2, z3, z4, z5, z6, z7, z8, z9])) = 0) && decide ((firstL (madeN 6 ly) (madeF 6 8 ly mn [z0, z1, z2, z3, z4, z5, z6, z7, z8, z9])) = ((fitW (madeN 6 ly) (madeF 6 8 ly mn [z0, z1, z2, z3, z4, z5, z6, z7, z8, z9])).headD [])))
          rw [g_149]; rfl
      rintro ⟨⟩ u_156 w_155 hS
      refine Wx.rd (v := .bool (decide ((firstE (madeN 6 ly) (madeF 6 8 ly mn [z0, z1, z2, z3, z4, z5, z6, z7, z8, z9])) = 0) && decide ((firstL (madeN 6 ly) (madeF 6 8 ly mn [z0, z1, z2, z3, z4, z5, z6, z7, z8, z9])) = ((fitW (madeN 6 ly) (madeF 6 8 ly mn [z0, z1, z2, z3, z4, z5, z6, z7, z8, z9])).headD [])))) (rd_move rfl) rfl ?_
      refine Wx.cut (X := Unit) 3 [155, 156, 157] (fun _ => [(157, .bool ((decide ((firstE (madeN 6 ly) (madeF 6 8 ly mn [z0, z1, z2, z3, z4, z5, z6, z7, z8, z9])) = 0) && decide ((firstL (madeN 6 ly) (madeF 6 8 ly mn [z0, z1, z2, z3, z4, z5, z6, z7, z8, z9])) = ((fitW (madeN 6 ly) (madeF 6 8 ly mn [z0, z1, z2, z3, z4, z5, z6, z7, z8, z9])).headD []))) && decide ((whyE (madeN 6 ly) (madeF 6 8 ly mn [z0, z1, z2, z3, z4, z5, z6, z7, z8, z9])) = 13)))]) (fun _ w' => St w [] w' [.row (tI .i64) 3 v_94 (firstL (madeN 6 ly) (madeF 6 8 ly mn [z0, z1, z2, z3, z4, z5, z6, z7, z8, z9])), Ob.v (tSl (tI .i64)) why wv, Ob.v (tSl (tI .i64)) ((fitW (madeN 6 ly) (madeF 6 8 ly mn [z0, z1, z2, z3, z4, z5, z6, z7, z8, z9])).headD []) flv_30, Ob.v (tSl (tSl (tI .i64))) (madeF 6 8 ly mn [z0, z1, z2, z3, z4, z5, z6, z7, z8, z9]) v_8, .box g_12 24 [.int .i64 (madeN 6 ly), v_8], .box g_22 3 [.int .i64 ((fitW (madeN 6 ly) (madeF 6 8 ly mn [z0, z1, z2, z3, z4, z5, z6, z7, z8, z9])).length : Int)], .box g_18 28 [flv_30], .box g_1 64 [.int .u8 ly, .int .u8 mn, .int .u8 z0, .int .u8 z1, .int .u8 z2, .int .u8 z3, .int .u8 z4, .int .u8 z5, .int .u8 z6, .int .u8 z7, .int .u8 z8, .int .u8 z9]]) ?_ ?_
      · rcases Bool.eq_false_or_eq_true (decide ((firstE (madeN 6 ly) (madeF 6 8 ly mn [z0, z1, z2, z3, z4, z5, z6, z7, z8, z9])) = 0) && decide ((firstL (madeN 6 ly) (madeF 6 8 ly mn [z0, z1, z2, z3, z4, z5, z6, z7, z8, z9])) = ((fitW (madeN 6 ly) (madeF 6 8 ly mn [z0, z1, z2, z3, z4, z5, z6, z7, z8, z9])).headD []))) with g_157 | g_157
        · -- True
          have gp_158 := g_157
          try simp only [Bool.and_eq_true, Bool.or_eq_true, Bool.not_eq_true', Bool.and_eq_false_iff, Bool.or_eq_false_iff, Bool.not_eq_false', decide_eq_true_eq, decide_eq_false_iff_not, not_or, Bool.false_eq_true, Bool.true_eq_false, false_or, or_false, not_false_eq_true] at gp_158
          refine Wx.gyes rfl rfl (congrArg Value.bool g_157) ?_
          refine Wx.rd (v := .int .i64 (whyE (madeN 6 ly) (madeF 6 8 ly mn [z0, z1, z2, z3, z4, z5, z6, z7, z8, z9]))) (rd_move rfl) rfl ?_
          refine Wx.gyes rfl rfl (congrArg Value.bool g_157) ?_
          refine Wx.rd (v := .bool (decide ((whyE (madeN 6 ly) (madeF 6 8 ly mn [z0, z1, z2, z3, z4, z5, z6, z7, z8, z9])) = 13))) (rd_eql rfl rfl) rfl ?_
          refine Wx.rd (v := .bool (decide ((whyE (madeN 6 ly) (madeF 6 8 ly mn [z0, z1, z2, z3, z4, z5, z6, z7, z8, z9])) = 13))) (rd_pickT (congrArg Value.bool g_157) rfl) rfl ?_
          refine Wx.nil ⟨(), hS, ⟨?_, trivial⟩, Out.look rfl Out.refl⟩
          show Value.bool (decide ((whyE (madeN 6 ly) (madeF 6 8 ly mn [z0, z1, z2, z3, z4, z5, z6, z7, z8, z9])) = 13)) = Value.bool ((decide ((firstE (madeN 6 ly) (madeF 6 8 ly mn [z0, z1, z2, z3, z4, z5, z6, z7, z8, z9])) = 0) && decide ((firstL (madeN 6 ly) (madeF 6 8 ly mn [z0, z1, z2, z3, z4, z5, z6, z7, z8, z9])) = ((fitW (madeN 6 ly) (madeF 6 8 ly mn [z0, z1, z2, z3, z4, z5, z6, z7, z8, z9])).headD []))) && decide ((whyE (madeN 6 ly) (madeF 6 8 ly mn [z0, z1, z2, z3, z4, z5, z6, z7, z8, z9])) = 13))
          rw [g_157]; rfl
        · -- False
          have gp_159 := g_157
          try simp only [Bool.and_eq_true, Bool.or_eq_true, Bool.not_eq_true', Bool.and_eq_false_iff, Bool.or_eq_false_iff, Bool.not_eq_false', decide_eq_true_eq, decide_eq_false_iff_not, not_or, Bool.false_eq_true, Bool.true_eq_false, false_or, or_false, not_false_eq_true] at gp_159
          refine Wx.gnoB rfl rfl (congrArg Value.bool g_157) rfl rfl ?_
          refine Wx.gnoB rfl rfl (congrArg Value.bool g_157) rfl rfl ?_
          refine Wx.rd (v := .bool false) (rd_pickF (congrArg Value.bool g_157) rfl) rfl ?_
          refine Wx.nil ⟨(), hS, ⟨?_, trivial⟩, Out.look rfl Out.refl⟩
          show Value.bool false = Value.bool ((decide ((firstE (madeN 6 ly) (madeF 6 8 ly mn [z0, z1, z2, z3, z4, z5, z6, z7, z8, z9])) = 0) && decide ((firstL (madeN 6 ly) (madeF 6 8 ly mn [z0, z1, z2, z3, z4, z5, z6, z7, z8, z9])) = ((fitW (madeN 6 ly) (madeF 6 8 ly mn [z0, z1, z2, z3, z4, z5, z6, z7, z8, z9])).headD []))) && decide ((whyE (madeN 6 ly) (madeF 6 8 ly mn [z0, z1, z2, z3, z4, z5, z6, z7, z8, z9])) = 13))
          rw [g_157]; rfl
      rintro ⟨⟩ u_161 w_160 hS
      refine Wx.rd (v := .bool ((decide ((firstE (madeN 6 ly) (madeF 6 8 ly mn [z0, z1, z2, z3, z4, z5, z6, z7, z8, z9])) = 0) && decide ((firstL (madeN 6 ly) (madeF 6 8 ly mn [z0, z1, z2, z3, z4, z5, z6, z7, z8, z9])) = ((fitW (madeN 6 ly) (madeF 6 8 ly mn [z0, z1, z2, z3, z4, z5, z6, z7, z8, z9])).headD []))) && decide ((whyE (madeN 6 ly) (madeF 6 8 ly mn [z0, z1, z2, z3, z4, z5, z6, z7, z8, z9])) = 13))) (rd_move rfl) rfl ?_
      refine Wx.cut (X := Unit) 3 [159, 160, 161] (fun _ => [(161, .bool (((decide ((firstE (madeN 6 ly) (madeF 6 8 ly mn [z0, z1, z2, z3, z4, z5, z6, z7, z8, z9])) = 0) && decide ((firstL (madeN 6 ly) (madeF 6 8 ly mn [z0, z1, z2, z3, z4, z5, z6, z7, z8, z9])) = ((fitW (madeN 6 ly) (madeF 6 8 ly mn [z0, z1, z2, z3, z4, z5, z6, z7, z8, z9])).headD []))) && decide ((whyE (madeN 6 ly) (madeF 6 8 ly mn [z0, z1, z2, z3, z4, z5, z6, z7, z8, z9])) = 13)) && decide (((whyT (madeN 6 ly) (madeF 6 8 ly mn [z0, z1, z2, z3, z4, z5, z6, z7, z8, z9])).1) = 0)))]) (fun _ w' => St w [] w' [.row (tI .i64) 3 v_94 (firstL (madeN 6 ly) (madeF 6 8 ly mn [z0, z1, z2, z3, z4, z5, z6, z7, z8, z9])), Ob.v (tSl (tI .i64)) why wv, Ob.v (tSl (tI .i64)) ((fitW (madeN 6 ly) (madeF 6 8 ly mn [z0, z1, z2, z3, z4, z5, z6, z7, z8, z9])).headD []) flv_30, Ob.v (tSl (tSl (tI .i64))) (madeF 6 8 ly mn [z0, z1, z2, z3, z4, z5, z6, z7, z8, z9]) v_8, .box g_12 24 [.int .i64 (madeN 6 ly), v_8], .box g_22 3 [.int .i64 ((fitW (madeN 6 ly) (madeF 6 8 ly mn [z0, z1, z2, z3, z4, z5, z6, z7, z8, z9])).length : Int)], .box g_18 28 [flv_30], .box g_1 64 [.int .u8 ly, .int .u8 mn, .int .u8 z0, .int .u8 z1, .int .u8 z2, .int .u8 z3, .int .u8 z4, .int .u8 z5, .int .u8 z6, .int .u8 z7, .int .u8 z8, .int .u8 z9]]) ?_ ?_
      · rcases Bool.eq_false_or_eq_true ((decide ((firstE (madeN 6 ly) (madeF 6 8 ly mn [z0, z1, z2, z3, z4, z5, z6, z7, z8, z9])) = 0) && decide ((firstL (madeN 6 ly) (madeF 6 8 ly mn [z0, z1, z2, z3, z4, z5, z6, z7, z8, z9])) = ((fitW (madeN 6 ly) (madeF 6 8 ly mn [z0, z1, z2, z3, z4, z5, z6, z7, z8, z9])).headD []))) && decide ((whyE (madeN 6 ly) (madeF 6 8 ly mn [z0, z1, z2, z3, z4, z5, z6, z7, z8, z9])) = 13)) with g_162 | g_162
        · -- True
          have gp_163 := g_162
          try simp only [Bool.and_eq_true, Bool.or_eq_true, Bool.not_eq_true', Bool.and_eq_false_iff, Bool.or_eq_false_iff, Bool.not_eq_false', decide_eq_true_eq, decide_eq_false_iff_not, not_or, Bool.false_eq_true, Bool.true_eq_false, false_or, or_false, not_false_eq_true] at gp_163
          refine Wx.gyes rfl rfl (congrArg Value.bool g_162) ?_
          refine Wx.rd (v := .int .i64 ((whyT (madeN 6 ly) (madeF 6 8 ly mn [z0, z1, z2, z3, z4, z5, z6, z7, z8, z9])).1)) (rd_move rfl) rfl ?_
          refine Wx.gyes rfl rfl (congrArg Value.bool g_162) ?_
          refine Wx.rd (v := .bool (decide (((whyT (madeN 6 ly) (madeF 6 8 ly mn [z0, z1, z2, z3, z4, z5, z6, z7, z8, z9])).1) = 0))) (rd_eql rfl rfl) rfl ?_
          refine Wx.rd (v := .bool (decide (((whyT (madeN 6 ly) (madeF 6 8 ly mn [z0, z1, z2, z3, z4, z5, z6, z7, z8, z9])).1) = 0))) (rd_pickT (congrArg Value.bool g_162) rfl) rfl ?_
          refine Wx.nil ⟨(), hS, ⟨?_, trivial⟩, Out.look rfl Out.refl⟩
          show Value.bool (decide (((whyT (madeN 6 ly) (madeF 6 8 ly mn [z0, z1, z2, z3, z4, z5, z6, z7, z8, z9])).1) = 0)) = Value.bool (((decide ((firstE (madeN 6 ly) (madeF 6 8 ly mn [z0, z1, z2, z3, z4, z5, z6, z7, z8, z9])) = 0) && decide ((firstL (madeN 6 ly) (madeF 6 8 ly mn [z0, z1, z2, z3, z4, z5, z6, z7, z8, z9])) = ((fitW (madeN 6 ly) (madeF 6 8 ly mn [z0, z1, z2, z3, z4, z5, z6, z7, z8, z9])).headD []))) && decide ((whyE (madeN 6 ly) (madeF 6 8 ly mn [z0, z1, z2, z3, z4, z5, z6, z7, z8, z9])) = 13)) && decide (((whyT (madeN 6 ly) (madeF 6 8 ly mn [z0, z1, z2, z3, z4, z5, z6, z7, z8, z9])).1) = 0))
          rw [g_162]; rfl
        · -- False
          have gp_164 := g_162
          try simp only [Bool.and_eq_true, Bool.or_eq_true, Bool.not_eq_true', Bool.and_eq_false_iff, Bool.or_eq_false_iff, Bool.not_eq_false', decide_eq_true_eq, decide_eq_false_iff_not, not_or, Bool.false_eq_true, Bool.true_eq_false, false_or, or_false, not_false_eq_true] at gp_164
          refine Wx.gnoB rfl rfl (congrArg Value.bool g_162) rfl rfl ?_
          refine Wx.gnoB rfl rfl (congrArg Value.bool g_162) rfl rfl ?_
          refine Wx.rd (v := .bool false) (rd_pickF (congrArg Value.bool g_162) rfl) rfl ?_
          refine Wx.nil ⟨(), hS, ⟨?_, trivial⟩, Out.look rfl Out.refl⟩
          show Value.bool false = Value.bool (((decide ((firstE (madeN 6 ly) (madeF 6 8 ly mn [z0, z1, z2, z3, z4, z5, z6, z7, z8, z9])) = 0) && decide ((firstL (madeN 6 ly) (madeF 6 8 ly mn [z0, z1, z2, z3, z4, z5, z6, z7, z8, z9])) = ((fitW (madeN 6 ly) (madeF 6 8 ly mn [z0, z1, z2, z3, z4, z5, z6, z7, z8, z9])).headD []))) && decide ((whyE (madeN 6 ly) (madeF 6 8 ly mn [z0, z1, z2, z3, z4, z5, z6, z7, z8, z9])) = 13)) && decide (((whyT (madeN 6 ly) (madeF 6 8 ly mn [z0, z1, z2, z3, z4, z5, z6, z7, z8, z9])).1) = 0))
          rw [g_162]; rfl
      rintro ⟨⟩ u_166 w_165 hS
      refine Wx.rd (v := .bool (((decide ((firstE (madeN 6 ly) (madeF 6 8 ly mn [z0, z1, z2, z3, z4, z5, z6, z7, z8, z9])) = 0) && decide ((firstL (madeN 6 ly) (madeF 6 8 ly mn [z0, z1, z2, z3, z4, z5, z6, z7, z8, z9])) = ((fitW (madeN 6 ly) (madeF 6 8 ly mn [z0, z1, z2, z3, z4, z5, z6, z7, z8, z9])).headD []))) && decide ((whyE (madeN 6 ly) (madeF 6 8 ly mn [z0, z1, z2, z3, z4, z5, z6, z7, z8, z9])) = 13)) && decide (((whyT (madeN 6 ly) (madeF 6 8 ly mn [z0, z1, z2, z3, z4, z5, z6, z7, z8, z9])).1) = 0))) (rd_move rfl) rfl ?_
      refine Wx.cut (X := Unit) 3 [163, 164, 165] (fun _ => [(165, .bool ((((decide ((firstE (madeN 6 ly) (madeF 6 8 ly mn [z0, z1, z2, z3, z4, z5, z6, z7, z8, z9])) = 0) && decide ((firstL (madeN 6 ly) (madeF 6 8 ly mn [z0, z1, z2, z3, z4, z5, z6, z7, z8, z9])) = ((fitW (madeN 6 ly) (madeF 6 8 ly mn [z0, z1, z2, z3, z4, z5, z6, z7, z8, z9])).headD []))) && decide ((whyE (madeN 6 ly) (madeF 6 8 ly mn [z0, z1, z2, z3, z4, z5, z6, z7, z8, z9])) = 13)) && decide (((whyT (madeN 6 ly) (madeF 6 8 ly mn [z0, z1, z2, z3, z4, z5, z6, z7, z8, z9])).1) = 0)) && decide (((whyT (madeN 6 ly) (madeF 6 8 ly mn [z0, z1, z2, z3, z4, z5, z6, z7, z8, z9])).2.1) = 0)))]) (fun _ w' => St w [] w' [.row (tI .i64) 3 v_94 (firstL (madeN 6 ly) (madeF 6 8 ly mn [z0, z1, z2, z3, z4, z5, z6, z7, z8, z9])), Ob.v (tSl (tI .i64)) why wv, Ob.v (tSl (tI .i64)) ((fitW (madeN 6 ly) (madeF 6 8 ly mn [z0, z1, z2, z3, z4, z5, z6, z7, z8, z9])).headD []) flv_30, Ob.v (tSl (tSl (tI .i64))) (madeF 6 8 ly mn [z0, z1, z2, z3, z4, z5, z6, z7, z8, z9]) v_8, .box g_12 24 [.int .i64 (madeN 6 ly), v_8], .box g_22 3 [.int .i64 ((fitW (madeN 6 ly) (madeF 6 8 ly mn [z0, z1, z2, z3, z4, z5, z6, z7, z8, z9])).length : Int)], .box g_18 28 [flv_30], .box g_1 64 [.int .u8 ly, .int .u8 mn, .int .u8 z0, .int .u8 z1, .int .u8 z2, .int .u8 z3, .int .u8 z4, .int .u8 z5, .int .u8 z6, .int .u8 z7, .int .u8 z8, .int .u8 z9]]) ?_ ?_
      · rcases Bool.eq_false_or_eq_true (((decide ((firstE (madeN 6 ly) (madeF 6 8 ly mn [z0, z1, z2, z3, z4, z5, z6, z7, z8, z9])) = 0) && decide ((firstL (madeN 6 ly) (madeF 6 8 ly mn [z0, z1, z2, z3, z4, z5, z6, z7, z8, z9])) = ((fitW (madeN 6 ly) (madeF 6 8 ly mn [z0, z1, z2, z3, z4, z5, z6, z7, z8, z9])).headD []))) && decide ((whyE (madeN 6 ly) (madeF 6 8 ly mn [z0, z1, z2, z3, z4, z5, z6, z7, z8, z9])) = 13)) && decide (((whyT (madeN 6 ly) (madeF 6 8 ly mn [z0, z1, z2, z3, z4, z5, z6, z7, z8, z9])).1) = 0)) with g_167 | g_167
        · -- True
          have gp_168 := g_167
          try simp only [Bool.and_eq_true, Bool.or_eq_true, Bool.not_eq_true', Bool.and_eq_false_iff, Bool.or_eq_false_iff, Bool.not_eq_false', decide_eq_true_eq, decide_eq_false_iff_not, not_or, Bool.false_eq_true, Bool.true_eq_false, false_or, or_false, not_false_eq_true] at gp_168
          refine Wx.gyes rfl rfl (congrArg Value.bool g_167) ?_
          refine Wx.rd (v := .int .i64 ((whyT (madeN 6 ly) (madeF 6 8 ly mn [z0, z1, z2, z3, z4, z5, z6, z7, z8, z9])).2.1)) (rd_move rfl) rfl ?_
          refine Wx.gyes rfl rfl (congrArg Value.bool g_167) ?_
          refine Wx.rd (v := .bool (decide (((whyT (madeN 6 ly) (madeF 6 8 ly mn [z0, z1, z2, z3, z4, z5, z6, z7, z8, z9])).2.1) = 0))) (rd_eql rfl rfl) rfl ?_
          refine Wx.rd (v := .bool (decide (((whyT (madeN 6 ly) (madeF 6 8 ly mn [z0, z1, z2, z3, z4, z5, z6, z7, z8, z9])).2.1) = 0))) (rd_pickT (congrArg Value.bool g_167) rfl) rfl ?_
          refine Wx.nil ⟨(), hS, ⟨?_, trivial⟩, Out.look rfl Out.refl⟩
          show Value.bool (decide (((whyT (madeN 6 ly) (madeF 6 8 ly mn [z0, z1, z2, z3, z4, z5, z6, z7, z8, z9])).2.1) = 0)) = Value.bool ((((decide ((firstE (madeN 6 ly) (madeF 6 8 ly mn [z0, z1, z2, z3, z4, z5, z6, z7, z8, z9])) = 0) && decide ((firstL (madeN 6 ly) (madeF 6 8 ly mn [z0, z1, z2, z3, z4, z5, z6, z7, z8, z9])) = ((fitW (madeN 6 ly) (madeF 6 8 ly mn [z0, z1, z2, z3, z4, z5, z6, z7, z8, z9])).headD []))) && decide ((whyE (madeN 6 ly) (madeF 6 8 ly mn [z0, z1, z2, z3, z4, z5, z6, z7, z8, z9])) = 13)) && decide (((whyT (madeN 6 ly) (madeF 6 8 ly mn [z0, z1, z2, z3, z4, z5, z6, z7, z8, z9])).1) = 0)) && decide (((whyT (madeN 6 ly) (madeF 6 8 ly mn [z0, z1, z2, z3, z4, z5, z6, z7, z8, z9])).2.1) = 0))
          rw [g_167]; rfl
        · -- False
          have gp_169 := g_167
          try simp only [Bool.and_eq_true, Bool.or_eq_true, Bool.not_eq_true', Bool.and_eq_false_iff, Bool.or_eq_false_iff, Bool.not_eq_false', decide_eq_true_eq, decide_eq_false_iff_not, not_or, Bool.false_eq_true, Bool.true_eq_false, false_or, or_false, not_false_eq_true] at gp_169
          refine Wx.gnoB rfl rfl (congrArg Value.bool g_167) rfl rfl ?_
          refine Wx.gnoB rfl rfl (congrArg Value.bool g_167) rfl rfl ?_
          refine Wx.rd (v := .bool false) (rd_pickF (congrArg Value.bool g_167) rfl) rfl ?_
          refine Wx.nil ⟨(), hS, ⟨?_, trivial⟩, Out.look rfl Out.refl⟩
          show Value.bool false = Value.bool ((((decide ((firstE (madeN 6 ly) (madeF 6 8 ly mn [z0, z1, z2, z3, z4, z5, z6, z7, z8, z9])) = 0) && decide ((firstL (madeN 6 ly) (madeF 6 8 ly mn [z0, z1, z2, z3, z4, z5, z6, z7, z8, z9])) = ((fitW (madeN 6 ly) (madeF 6 8 ly mn [z0, z1, z2, z3, z4, z5, z6, z7, z8, z9])).headD []))) && decide ((whyE (madeN 6 ly) (madeF 6 8 ly mn [z0, z1, z2, z3, z4, z5, z6, z7, z8, z9])) = 13)) && decide (((whyT (madeN 6 ly) (madeF 6 8 ly mn [z0, z1, z2, z3, z4, z5, z6, z7, z8, z9])).1) = 0)) && decide (((whyT (madeN 6 ly) (madeF 6 8 ly mn [z0, z1, z2, z3, z4, z5, z6, z7, z8, z9])).2.1) = 0))
          rw [g_167]; rfl
      rintro ⟨⟩ u_171 w_170 hS
      refine Wx.rd (v := .bool ((((decide ((firstE (madeN 6 ly) (madeF 6 8 ly mn [z0, z1, z2, z3, z4, z5, z6, z7, z8, z9])) = 0) && decide ((firstL (madeN 6 ly) (madeF 6 8 ly mn [z0, z1, z2, z3, z4, z5, z6, z7, z8, z9])) = ((fitW (madeN 6 ly) (madeF 6 8 ly mn [z0, z1, z2, z3, z4, z5, z6, z7, z8, z9])).headD []))) && decide ((whyE (madeN 6 ly) (madeF 6 8 ly mn [z0, z1, z2, z3, z4, z5, z6, z7, z8, z9])) = 13)) && decide (((whyT (madeN 6 ly) (madeF 6 8 ly mn [z0, z1, z2, z3, z4, z5, z6, z7, z8, z9])).1) = 0)) && decide (((whyT (madeN 6 ly) (madeF 6 8 ly mn [z0, z1, z2, z3, z4, z5, z6, z7, z8, z9])).2.1) = 0))) (rd_move rfl) rfl ?_
      refine Wx.cut (X := Unit) 3 [167, 168, 169] (fun _ => [(169, .bool (((((decide ((firstE (madeN 6 ly) (madeF 6 8 ly mn [z0, z1, z2, z3, z4, z5, z6, z7, z8, z9])) = 0) && decide ((firstL (madeN 6 ly) (madeF 6 8 ly mn [z0, z1, z2, z3, z4, z5, z6, z7, z8, z9])) = ((fitW (madeN 6 ly) (madeF 6 8 ly mn [z0, z1, z2, z3, z4, z5, z6, z7, z8, z9])).headD []))) && decide ((whyE (madeN 6 ly) (madeF 6 8 ly mn [z0, z1, z2, z3, z4, z5, z6, z7, z8, z9])) = 13)) && decide (((whyT (madeN 6 ly) (madeF 6 8 ly mn [z0, z1, z2, z3, z4, z5, z6, z7, z8, z9])).1) = 0)) && decide (((whyT (madeN 6 ly) (madeF 6 8 ly mn [z0, z1, z2, z3, z4, z5, z6, z7, z8, z9])).2.1) = 0)) && decide (((whyT (madeN 6 ly) (madeF 6 8 ly mn [z0, z1, z2, z3, z4, z5, z6, z7, z8, z9])).2.2) = 0)))]) (fun _ w' => St w [] w' [.row (tI .i64) 3 v_94 (firstL (madeN 6 ly) (madeF 6 8 ly mn [z0, z1, z2, z3, z4, z5, z6, z7, z8, z9])), Ob.v (tSl (tI .i64)) why wv, Ob.v (tSl (tI .i64)) ((fitW (madeN 6 ly) (madeF 6 8 ly mn [z0, z1, z2, z3, z4, z5, z6, z7, z8, z9])).headD []) flv_30, Ob.v (tSl (tSl (tI .i64))) (madeF 6 8 ly mn [z0, z1, z2, z3, z4, z5, z6, z7, z8, z9]) v_8, .box g_12 24 [.int .i64 (madeN 6 ly), v_8], .box g_22 3 [.int .i64 ((fitW (madeN 6 ly) (madeF 6 8 ly mn [z0, z1, z2, z3, z4, z5, z6, z7, z8, z9])).length : Int)], .box g_18 28 [flv_30], .box g_1 64 [.int .u8 ly, .int .u8 mn, .int .u8 z0, .int .u8 z1, .int .u8 z2, .int .u8 z3, .int .u8 z4, .int .u8 z5, .int .u8 z6, .int .u8 z7, .int .u8 z8, .int .u8 z9]]) ?_ ?_
      · rcases Bool.eq_false_or_eq_true ((((decide ((firstE (madeN 6 ly) (madeF 6 8 ly mn [z0, z1, z2, z3, z4, z5, z6, z7, z8, z9])) = 0) && decide ((firstL (madeN 6 ly) (madeF 6 8 ly mn [z0, z1, z2, z3, z4, z5, z6, z7, z8, z9])) = ((fitW (madeN 6 ly) (madeF 6 8 ly mn [z0, z1, z2, z3, z4, z5, z6, z7, z8, z9])).headD []))) && decide ((whyE (madeN 6 ly) (madeF 6 8 ly mn [z0, z1, z2, z3, z4, z5, z6, z7, z8, z9])) = 13)) && decide (((whyT (madeN 6 ly) (madeF 6 8 ly mn [z0, z1, z2, z3, z4, z5, z6, z7, z8, z9])).1) = 0)) && decide (((whyT (madeN 6 ly) (madeF 6 8 ly mn [z0, z1, z2, z3, z4, z5, z6, z7, z8, z9])).2.1) = 0)) with g_172 | g_172
        · -- True
          have gp_173 := g_172
          try simp only [Bool.and_eq_true, Bool.or_eq_true, Bool.not_eq_true', Bool.and_eq_false_iff, Bool.or_eq_false_iff, Bool.not_eq_false', decide_eq_true_eq, decide_eq_false_iff_not, not_or, Bool.false_eq_true, Bool.true_eq_false, false_or, or_false, not_false_eq_true] at gp_173
          refine Wx.gyes rfl rfl (congrArg Value.bool g_172) ?_
          refine Wx.rd (v := .int .i64 ((whyT (madeN 6 ly) (madeF 6 8 ly mn [z0, z1, z2, z3, z4, z5, z6, z7, z8, z9])).2.2)) (rd_move rfl) rfl ?_
          refine Wx.gyes rfl rfl (congrArg Value.bool g_172) ?_
          refine Wx.rd (v := .bool (decide (((whyT (madeN 6 ly) (madeF 6 8 ly mn [z0, z1, z2, z3, z4, z5, z6, z7, z8, z9])).2.2) = 0))) (rd_eql rfl rfl) rfl ?_
          refine Wx.rd (v := .bool (decide (((whyT (madeN 6 ly) (madeF 6 8 ly mn [z0, z1, z2, z3, z4, z5, z6, z7, z8, z9])).2.2) = 0))) (rd_pickT (congrArg Value.bool g_172) rfl) rfl ?_
          refine Wx.nil ⟨(), hS, ⟨?_, trivial⟩, Out.look rfl Out.refl⟩
          show Value.bool (decide (((whyT (madeN 6 ly) (madeF 6 8 ly mn [z0, z1, z2, z3, z4, z5, z6, z7, z8, z9])).2.2) = 0)) = Value.bool (((((decide ((firstE (madeN 6 ly) (madeF 6 8 ly mn [z0, z1, z2, z3, z4, z5, z6, z7, z8, z9])) = 0) && decide ((firstL (madeN 6 ly) (madeF 6 8 ly mn [z0, z1, z2, z3, z4, z5, z6, z7, z8, z9])) = ((fitW (madeN 6 ly) (madeF 6 8 ly mn [z0, z1, z2, z3, z4, z5, z6, z7, z8, z9])).headD []))) && decide ((whyE (madeN 6 ly) (madeF 6 8 ly mn [z0, z1, z2, z3, z4, z5, z6, z7, z8, z9])) = 13)) && decide (((whyT (madeN 6 ly) (madeF 6 8 ly mn [z0, z1, z2, z3, z4, z5, z6, z7, z8, z9])).1) = 0)) && decide (((whyT (madeN 6 ly) (madeF 6 8 ly mn [z0, z1, z2, z3, z4, z5, z6, z7, z8, z9])).2.1) = 0)) && decide (((whyT (madeN 6 ly) (madeF 6 8 ly mn [z0, z1, z2, z3, z4, z5, z6, z7, z8, z9])).2.2) = 0))
          rw [g_172]; rfl
        · -- False
          have gp_174 := g_172
          try simp only [Bool.and_eq_true, Bool.or_eq_true, Bool.not_eq_true', Bool.and_eq_false_iff, Bool.or_eq_false_iff, Bool.not_eq_false', decide_eq_true_eq, decide_eq_false_iff_not, not_or, Bool.false_eq_true, Bool.true_eq_false, false_or, or_false, not_false_eq_true] at gp_174
          refine Wx.gnoB rfl rfl (congrArg Value.bool g_172) rfl rfl ?_
          refine Wx.gnoB rfl rfl (congrArg Value.bool g_172) rfl rfl ?_
          refine Wx.rd (v := .bool false) (rd_pickF (congrArg Value.bool g_172) rfl) rfl ?_
          refine Wx.nil ⟨(), hS, ⟨?_, trivial⟩, Out.look rfl Out.refl⟩
          show Value.bool false = Value.bool (((((decide ((firstE (madeN 6 ly) (madeF 6 8 ly mn [z0, z1, z2, z3, z4, z5, z6, z7, z8, z9])) = 0) && decide ((firstL (madeN 6 ly) (madeF 6 8 ly mn [z0, z1, z2, z3, z4, z5, z6, z7, z8, z9])) = ((fitW (madeN 6 ly) (madeF 6 8 ly mn [z0, z1, z2, z3, z4, z5, z6, z7, z8, z9])).headD []))) && decide ((whyE (madeN 6 ly) (madeF 6 8 ly mn [z0, z1, z2, z3, z4, z5, z6, z7, z8, z9])) = 13)) && decide (((whyT (madeN 6 ly) (madeF 6 8 ly mn [z0, z1, z2, z3, z4, z5, z6, z7, z8, z9])).1) = 0)) && decide (((whyT (madeN 6 ly) (madeF 6 8 ly mn [z0, z1, z2, z3, z4, z5, z6, z7, z8, z9])).2.1) = 0)) && decide (((whyT (madeN 6 ly) (madeF 6 8 ly mn [z0, z1, z2, z3, z4, z5, z6, z7, z8, z9])).2.2) = 0))
          rw [g_172]; rfl
      rintro ⟨⟩ u_176 w_175 hS
      refine Wx.rd (v := .bool (((((decide ((firstE (madeN 6 ly) (madeF 6 8 ly mn [z0, z1, z2, z3, z4, z5, z6, z7, z8, z9])) = 0) && decide ((firstL (madeN 6 ly) (madeF 6 8 ly mn [z0, z1, z2, z3, z4, z5, z6, z7, z8, z9])) = ((fitW (madeN 6 ly) (madeF 6 8 ly mn [z0, z1, z2, z3, z4, z5, z6, z7, z8, z9])).headD []))) && decide ((whyE (madeN 6 ly) (madeF 6 8 ly mn [z0, z1, z2, z3, z4, z5, z6, z7, z8, z9])) = 13)) && decide (((whyT (madeN 6 ly) (madeF 6 8 ly mn [z0, z1, z2, z3, z4, z5, z6, z7, z8, z9])).1) = 0)) && decide (((whyT (madeN 6 ly) (madeF 6 8 ly mn [z0, z1, z2, z3, z4, z5, z6, z7, z8, z9])).2.1) = 0)) && decide (((whyT (madeN 6 ly) (madeF 6 8 ly mn [z0, z1, z2, z3, z4, z5, z6, z7, z8, z9])).2.2) = 0))) (rd_move rfl) rfl ?_
      refine Wx.cut (X := Unit) 2 [171, 172] (fun _ => [(172, .bool ((((((decide ((firstE (madeN 6 ly) (madeF 6 8 ly mn [z0, z1, z2, z3, z4, z5, z6, z7, z8, z9])) = 0) && decide ((firstL (madeN 6 ly) (madeF 6 8 ly mn [z0, z1, z2, z3, z4, z5, z6, z7, z8, z9])) = ((fitW (madeN 6 ly) (madeF 6 8 ly mn [z0, z1, z2, z3, z4, z5, z6, z7, z8, z9])).headD []))) && decide ((whyE (madeN 6 ly) (madeF 6 8 ly mn [z0, z1, z2, z3, z4, z5, z6, z7, z8, z9])) = 13)) && decide (((whyT (madeN 6 ly) (madeF 6 8 ly mn [z0, z1, z2, z3, z4, z5, z6, z7, z8, z9])).1) = 0)) && decide (((whyT (madeN 6 ly) (madeF 6 8 ly mn [z0, z1, z2, z3, z4, z5, z6, z7, z8, z9])).2.1) = 0)) && decide (((whyT (madeN 6 ly) (madeF 6 8 ly mn [z0, z1, z2, z3, z4, z5, z6, z7, z8, z9])).2.2) = 0)) && true))]) (fun _ w' => St w [] w' [.row (tI .i64) 3 v_94 (firstL (madeN 6 ly) (madeF 6 8 ly mn [z0, z1, z2, z3, z4, z5, z6, z7, z8, z9])), Ob.v (tSl (tI .i64)) why wv, Ob.v (tSl (tI .i64)) ((fitW (madeN 6 ly) (madeF 6 8 ly mn [z0, z1, z2, z3, z4, z5, z6, z7, z8, z9])).headD []) flv_30, Ob.v (tSl (tSl (tI .i64))) (madeF 6 8 ly mn [z0, z1, z2, z3, z4, z5, z6, z7, z8, z9]) v_8, .box g_12 24 [.int .i64 (madeN 6 ly), v_8], .box g_22 3 [.int .i64 ((fitW (madeN 6 ly) (madeF 6 8 ly mn [z0, z1, z2, z3, z4, z5, z6, z7, z8, z9])).length : Int)], .box g_18 28 [flv_30], .box g_1 64 [.int .u8 ly, .int .u8 mn, .int .u8 z0, .int .u8 z1, .int .u8 z2, .int .u8 z3, .int .u8 z4, .int .u8 z5, .int .u8 z6, .int .u8 z7, .int .u8 z8, .int .u8 z9]]) ?_ ?_
      · rcases Bool.eq_false_or_eq_true (((((decide ((firstE (madeN 6 ly) (madeF 6 8 ly mn [z0, z1, z2, z3, z4, z5, z6, z7, z8, z9])) = 0) && decide ((firstL (madeN 6 ly) (madeF 6 8 ly mn [z0, z1, z2, z3, z4, z5, z6, z7, z8, z9])) = ((fitW (madeN 6 ly) (madeF 6 8 ly mn [z0, z1, z2, z3, z4, z5, z6, z7, z8, z9])).headD []))) && decide ((whyE (madeN 6 ly) (madeF 6 8 ly mn [z0, z1, z2, z3, z4, z5, z6, z7, z8, z9])) = 13)) && decide (((whyT (madeN 6 ly) (madeF 6 8 ly mn [z0, z1, z2, z3, z4, z5, z6, z7, z8, z9])).1) = 0)) && decide (((whyT (madeN 6 ly) (madeF 6 8 ly mn [z0, z1, z2, z3, z4, z5, z6, z7, z8, z9])).2.1) = 0)) && decide (((whyT (madeN 6 ly) (madeF 6 8 ly mn [z0, z1, z2, z3, z4, z5, z6, z7, z8, z9])).2.2) = 0)) with g_177 | g_177
        · -- True
          have gp_178 := g_177
          try simp only [Bool.and_eq_true, Bool.or_eq_true, Bool.not_eq_true', Bool.and_eq_false_iff, Bool.or_eq_false_iff, Bool.not_eq_false', decide_eq_true_eq, decide_eq_false_iff_not, not_or, Bool.false_eq_true, Bool.true_eq_false, false_or, or_false, not_false_eq_true] at gp_178
          refine Wx.gyes rfl rfl (congrArg Value.bool g_177) ?_
          refine Wx.callF (run_callF Try.call15 rfl) (F15) rfl ?_
          rintro r_179 w_180 hx_181 rfl
          have hS := hS.ext hx_181
          refine Wx.rd (v := .bool true) (rd_pickT (congrArg Value.bool g_177) rfl) rfl ?_
          refine Wx.nil ⟨(), hS, ⟨?_, trivial⟩, Out.look rfl Out.refl⟩
          show Value.bool true = Value.bool ((((((decide ((firstE (madeN 6 ly) (madeF 6 8 ly mn [z0, z1, z2, z3, z4, z5, z6, z7, z8, z9])) = 0) && decide ((firstL (madeN 6 ly) (madeF 6 8 ly mn [z0, z1, z2, z3, z4, z5, z6, z7, z8, z9])) = ((fitW (madeN 6 ly) (madeF 6 8 ly mn [z0, z1, z2, z3, z4, z5, z6, z7, z8, z9])).headD []))) && decide ((whyE (madeN 6 ly) (madeF 6 8 ly mn [z0, z1, z2, z3, z4, z5, z6, z7, z8, z9])) = 13)) && decide (((whyT (madeN 6 ly) (madeF 6 8 ly mn [z0, z1, z2, z3, z4, z5, z6, z7, z8, z9])).1) = 0)) && decide (((whyT (madeN 6 ly) (madeF 6 8 ly mn [z0, z1, z2, z3, z4, z5, z6, z7, z8, z9])).2.1) = 0)) && decide (((whyT (madeN 6 ly) (madeF 6 8 ly mn [z0, z1, z2, z3, z4, z5, z6, z7, z8, z9])).2.2) = 0)) && true)
          rw [g_177]; rfl
        · -- False
          have gp_182 := g_177
          try simp only [Bool.and_eq_true, Bool.or_eq_true, Bool.not_eq_true', Bool.and_eq_false_iff, Bool.or_eq_false_iff, Bool.not_eq_false', decide_eq_true_eq, decide_eq_false_iff_not, not_or, Bool.false_eq_true, Bool.true_eq_false, false_or, or_false, not_false_eq_true] at gp_182
          refine Wx.gnoB rfl rfl (congrArg Value.bool g_177) rfl rfl ?_
          refine Wx.rd (v := .bool false) (rd_pickF (congrArg Value.bool g_177) rfl) rfl ?_
          refine Wx.nil ⟨(), hS, ⟨?_, trivial⟩, Out.look rfl Out.refl⟩
          show Value.bool false = Value.bool ((((((decide ((firstE (madeN 6 ly) (madeF 6 8 ly mn [z0, z1, z2, z3, z4, z5, z6, z7, z8, z9])) = 0) && decide ((firstL (madeN 6 ly) (madeF 6 8 ly mn [z0, z1, z2, z3, z4, z5, z6, z7, z8, z9])) = ((fitW (madeN 6 ly) (madeF 6 8 ly mn [z0, z1, z2, z3, z4, z5, z6, z7, z8, z9])).headD []))) && decide ((whyE (madeN 6 ly) (madeF 6 8 ly mn [z0, z1, z2, z3, z4, z5, z6, z7, z8, z9])) = 13)) && decide (((whyT (madeN 6 ly) (madeF 6 8 ly mn [z0, z1, z2, z3, z4, z5, z6, z7, z8, z9])).1) = 0)) && decide (((whyT (madeN 6 ly) (madeF 6 8 ly mn [z0, z1, z2, z3, z4, z5, z6, z7, z8, z9])).2.1) = 0)) && decide (((whyT (madeN 6 ly) (madeF 6 8 ly mn [z0, z1, z2, z3, z4, z5, z6, z7, z8, z9])).2.2) = 0)) && true)
          rw [g_177]; rfl
      rintro ⟨⟩ u_184 w_183 hS
      refine Wx.rd (v := .bool ((((((decide ((firstE (madeN 6 ly) (madeF 6 8 ly mn [z0, z1, z2, z3, z4, z5, z6, z7, z8, z9])) = 0) && decide ((firstL (madeN 6 ly) (madeF 6 8 ly mn [z0, z1, z2, z3, z4, z5, z6, z7, z8, z9])) = ((fitW (madeN 6 ly) (madeF 6 8 ly mn [z0, z1, z2, z3, z4, z5, z6, z7, z8, z9])).headD []))) && decide ((whyE (madeN 6 ly) (madeF 6 8 ly mn [z0, z1, z2, z3, z4, z5, z6, z7, z8, z9])) = 13)) && decide (((whyT (madeN 6 ly) (madeF 6 8 ly mn [z0, z1, z2, z3, z4, z5, z6, z7, z8, z9])).1) = 0)) && decide (((whyT (madeN 6 ly) (madeF 6 8 ly mn [z0, z1, z2, z3, z4, z5, z6, z7, z8, z9])).2.1) = 0)) && decide (((whyT (madeN 6 ly) (madeF 6 8 ly mn [z0, z1, z2, z3, z4, z5, z6, z7, z8, z9])).2.2) = 0)) && true)) (rd_assign rfl) rfl ?_
      refine Wx.nil ?_
      have e1_0 : ((((((decide ((firstE (madeN 6 ly) (madeF 6 8 ly mn [z0, z1, z2, z3, z4, z5, z6, z7, z8, z9])) = 0) && decide ((firstL (madeN 6 ly) (madeF 6 8 ly mn [z0, z1, z2, z3, z4, z5, z6, z7, z8, z9])) = ((fitW (madeN 6 ly) (madeF 6 8 ly mn [z0, z1, z2, z3, z4, z5, z6, z7, z8, z9])).headD []))) && decide ((whyE (madeN 6 ly) (madeF 6 8 ly mn [z0, z1, z2, z3, z4, z5, z6, z7, z8, z9])) = 13)) && decide (((whyT (madeN 6 ly) (madeF 6 8 ly mn [z0, z1, z2, z3, z4, z5, z6, z7, z8, z9])).1) = 0)) && decide (((whyT (madeN 6 ly) (madeF 6 8 ly mn [z0, z1, z2, z3, z4, z5, z6, z7, z8, z9])).2.1) = 0)) && decide (((whyT (madeN 6 ly) (madeF 6 8 ly mn [z0, z1, z2, z3, z4, z5, z6, z7, z8, z9])).2.2) = 0)) && true) = true := by obtain ⟨q1, q2, q3, q4⟩ := hnz (by omega); rw [q1, q2, q3, q4]; simp
      exact W.ret ⟨.bool ((((((decide ((firstE (madeN 6 ly) (madeF 6 8 ly mn [z0, z1, z2, z3, z4, z5, z6, z7, z8, z9])) = 0) && decide ((firstL (madeN 6 ly) (madeF 6 8 ly mn [z0, z1, z2, z3, z4, z5, z6, z7, z8, z9])) = ((fitW (madeN 6 ly) (madeF 6 8 ly mn [z0, z1, z2, z3, z4, z5, z6, z7, z8, z9])).headD []))) && decide ((whyE (madeN 6 ly) (madeF 6 8 ly mn [z0, z1, z2, z3, z4, z5, z6, z7, z8, z9])) = 13)) && decide (((whyT (madeN 6 ly) (madeF 6 8 ly mn [z0, z1, z2, z3, z4, z5, z6, z7, z8, z9])).1) = 0)) && decide (((whyT (madeN 6 ly) (madeF 6 8 ly mn [z0, z1, z2, z3, z4, z5, z6, z7, z8, z9])).2.1) = 0)) && decide (((whyT (madeN 6 ly) (madeF 6 8 ly mn [z0, z1, z2, z3, z4, z5, z6, z7, z8, z9])).2.2) = 0)) && true), ResIs.one, hS.bel, (by rw [e1_0])⟩
end Go.Proofs.Ytjmpojoimcljoaa
