/-
  WHAT IS PROVED HERE: what functions of layer 3 hand back, each out of its own code; the conditions stand in each statement.
-/
import Derived.Test.YtjmpojoimcljoaaProg
import Derived.Test.YtjmpojoimcljoaaWk9
import Derived.Test.YtjmpojoimcljoaaSpec6
import Derived.Test.YtjmpojoimcljoaaFa
import Derived.Test.YtjmpojoimcljoaaFc
import Derived.Test.YtjmpojoimcljoaaFe
import Derived.Test.YtjmpojoimcljoaaFf
import Derived.Test.YtjmpojoimcljoaaFg
import Derived.Test.YtjmpojoimcljoaaFi
import Derived.Test.YtjmpojoimcljoaaFj
import Derived.Test.YtjmpojoimcljoaaFk
import Derived.Test.YtjmpojoimcljoaaGa
import Derived.Test.YtjmpojoimcljoaaGh
import Derived.Test.YtjmpojoimcljoaaWk11
import Derived.Test.YtjmpojoimcljoaaSpec7
namespace Go.Proofs.Ytjmpojoimcljoaa
open Go.Wk Go.RowKit
set_option linter.unusedVariables false
set_option linter.unusedSimpArgs false
theorem foGl_24_0 : fldOff Try.prog 24 0 = some 0 := by kernel_rfl
theorem elGl_28 : ElemI Try.prog 28 3 (.int .i64 0) 1 8 := ElemI.of Try.underlying28 (by kernel_rfl) (by first | rfl | kernel_rfl) (by decide)
theorem mixedGl_ : Try.prog.follows .mixedOrders = true := by kernel_rfl
theorem foGl_24_1 : fldOff Try.prog 24 1 = some 1 := by kernel_rfl
theorem elGl_22 : ElemI Try.prog 22 28 ((.slice none 0 0)) 1 24 := ElemI.of Try.underlying22 (by kernel_rfl) (by first | rfl | kernel_rfl) (by decide)

set_option maxHeartbeats 2000000 in
theorem F11 {ly : Int} {mn : Int} {z0 : Int} {z1 : Int} {z2 : Int} {z3 : Int} {z4 : Int} {z5 : Int} {z6 : Int} {z7 : Int} {z8 : Int} {z9 : Int} {one : Int} {w : World} (i_ly : InK .u8 ly) (i_mn : InK .u8 mn) (i_z0 : InK .u8 z0) (i_z1 : InK .u8 z1) (i_z2 : InK .u8 z2) (i_z3 : InK .u8 z3) (i_z4 : InK .u8 z4) (i_z5 : InK .u8 z5) (i_z6 : InK .u8 z6) (i_z7 : InK .u8 z7) (i_z8 : InK .u8 z8) (i_z9 : InK .u8 z9) (i_one : InK .u8 one) (p_law : moreP (madeN 6 ly) (madeF 6 8 ly mn [z0, z1, z2, z3, z4, z5, z6, z7, z8, z9]) one) : Calls Try.prog 11 #[.agg #[.int .u8 ly, .int .u8 mn, .int .u8 z0, .int .u8 z1, .int .u8 z2, .int .u8 z3, .int .u8 z4, .int .u8 z5, .int .u8 z6, .int .u8 z7, .int .u8 z8, .int .u8 z9], .int .u8 one] w (Ret w (fun r _ => r = .bool true)) := by
  have b_one := bd_u8 i_one
  have b_z9 := bd_u8 i_z9
  have b_z8 := bd_u8 i_z8
  have b_z7 := bd_u8 i_z7
  have b_z6 := bd_u8 i_z6
  have b_z5 := bd_u8 i_z5
  have b_z4 := bd_u8 i_z4
  have b_z3 := bd_u8 i_z3
  have b_z2 := bd_u8 i_z2
  have b_z1 := bd_u8 i_z1
  have b_z0 := bd_u8 i_z0
  have b_mn := bd_u8 i_mn
  have b_ly := bd_u8 i_ly
  obtain ⟨hc0, hcn, hm1, hm2, hz, hnz⟩ := p_law
  have hN := madeN_bd (a := 6) (ly := ly) (by omega)
  have hck := check_ok hc0
  have hon0 : 0 ≤ one % (madeN 6 ly) := Int.emod_nonneg _ (by omega)
  have hon1 : one % (madeN 6 ly) < madeN 6 ly := Int.emod_lt_of_pos _ (by omega)
  have hS := St.start0 w
  refine enterR Try.func11 rfl Try.ntmps11 Try.results11 rfl ?_
  refine W.seq ?_
  refine W.reg ?_
  refine Wx.box (cs := [.int .u8 ly, .int .u8 mn, .int .u8 z0, .int .u8 z1, .int .u8 z2, .int .u8 z3, .int .u8 z4, .int .u8 z5, .int .u8 z6, .int .u8 z7, .int .u8 z8, .int .u8 z9]) hS rfl rfl rfl (fun g_1 w_2 hx_4 hb_3 hS => ?_)
  refine Wx.rd (v := .bool false) (rd_assign rfl) rfl ?_
  refine Wx.nil ?_
  refine W.seq ?_
  refine W.reg ?_
  refine Wx.rd (v := .agg #[.int .u8 ly, .int .u8 mn, .int .u8 z0, .int .u8 z1, .int .u8 z2, .int .u8 z3, .int .u8 z4, .int .u8 z5, .int .u8 z6, .int .u8 z7, .int .u8 z8, .int .u8 z9]) (rd_loadXs (ds := [.int .u8 ly, .int .u8 mn, .int .u8 z0, .int .u8 z1, .int .u8 z2, .int .u8 z3, .int .u8 z4, .int .u8 z5, .int .u8 z6, .int .u8 z7, .int .u8 z8, .int .u8 z9]) hS 0 rfl rfl rfl rfl Try.isAgg64 Try.sizeOf64) rfl ?_
  refine Wx.callF (run_callF Try.call43 rfl) (F43 (in_u8 (by omega) (by omega)) (in_u8 (by omega) (by omega)) (in_u8 (by omega) (by omega)) (in_u8 (by omega) (by omega)) (in_u8 (by omega) (by omega)) (in_u8 (by omega) (by omega)) (in_u8 (by omega) (by omega)) (in_u8 (by omega) (by omega)) (in_u8 (by omega) (by omega)) (in_u8 (by omega) (by omega)) (in_u8 (by omega) (by omega)) (in_u8 (by omega) (by omega)) (in_i64 (by omega) (by omega)) (in_i64 (by omega) (by omega)) (by omega) (by omega) (by omega) (by omega) hS.fb_lt) rfl ?_
  rintro r_5 w_6 hx_7 ⟨v_8, rfl, hv_9⟩
  have ln_11 := hv_9.len63
  have hS := hS.ext hx_7
  have hS := hS.add hv_9
  refine Wx.alloc (cs := [.int .i64 0, (.slice none 0 0)]) hS Try.zeroValue24 rfl rfl (fun g_12 w_13 hx_15 hb_14 hS => ?_)
  refine Wx.storeX (cs' := [.int .i64 (madeN 6 ly), v_8]) (ds := [.int .i64 (madeN 6 ly), v_8]) hS 0 rfl rfl rfl rfl Try.sizeOf24 (Nat.le_of_ble_eq_true rfl) (one_cons rfl (one_cons (V.oneC (hS.v 1 rfl)) one_nil)) rfl (fun w_16 hz_17 hS => ?_)
  refine Wx.nil ?_
  refine W.seq ?_
  refine W.reg ?_
  refine Wx.rd (v := .agg #[.int .i64 (madeN 6 ly), v_8]) (rd_loadXs (ds := [.int .i64 (madeN 6 ly), v_8]) hS 0 rfl rfl rfl rfl Try.isAgg24 Try.sizeOf24) rfl ?_
  refine Wx.callF (run_callF Try.call18 rfl) (F18 (in_i64 (by omega) (by omega)) (hS.v 1 rfl)) rfl ?_
  rintro r_18 w_19 hx_20 rfl
  have hS := hS.ext hx_20
  refine Wx.rd (v := .tuple #[.int .i64 (countE (madeN 6 ly) (madeF 6 8 ly mn [z0, z1, z2, z3, z4, z5, z6, z7, z8, z9])), .int .i64 (checkE (madeN 6 ly) (madeF 6 8 ly mn [z0, z1, z2, z3, z4, z5, z6, z7, z8, z9]))]) (rd_move rfl) rfl ?_
  refine Wx.rd (v := .int .i64 (countE (madeN 6 ly) (madeF 6 8 ly mn [z0, z1, z2, z3, z4, z5, z6, z7, z8, z9]))) (rd_extract rfl rfl) rfl ?_
  refine Wx.rd (v := .int .i64 (checkE (madeN 6 ly) (madeF 6 8 ly mn [z0, z1, z2, z3, z4, z5, z6, z7, z8, z9]))) (rd_extract rfl rfl) rfl ?_
  refine Wx.rd (v := .int .i64 (countE (madeN 6 ly) (madeF 6 8 ly mn [z0, z1, z2, z3, z4, z5, z6, z7, z8, z9]))) (rd_assign rfl) rfl ?_
  refine Wx.rd (v := .int .i64 (checkE (madeN 6 ly) (madeF 6 8 ly mn [z0, z1, z2, z3, z4, z5, z6, z7, z8, z9]))) (rd_assign rfl) rfl ?_
  refine Wx.nil ?_
  refine W.seq ?_
  refine W.seq ?_
  refine W.reg ?_
  refine Wx.rd (v := .int .i64 (checkE (madeN 6 ly) (madeF 6 8 ly mn [z0, z1, z2, z3, z4, z5, z6, z7, z8, z9]))) (rd_move rfl) rfl ?_
  refine Wx.rd (v := .bool (decide ((checkE (madeN 6 ly) (madeF 6 8 ly mn [z0, z1, z2, z3, z4, z5, z6, z7, z8, z9])) ≠ 0))) (rd_neq rfl rfl) rfl ?_
  refine Wx.nil ?_
  refine W.condF rfl (by simp [hc0]) ?_
  refine W.skip ?_
  refine W.seq ?_
  refine W.reg ?_
  refine Wx.rd (v := (.slice none 0 0)) (rd_assign rfl) rfl ?_
  refine Wx.nil ?_
  refine W.seq ?_
  refine W.seq ?_
  refine W.reg ?_
  refine Wx.rd (v := .pointer (some ⟨g_12, 0, none⟩)) (rd_fieldAddr rfl foGl_24_0) rfl ?_
  refine Wx.rd (v := .int .i64 (madeN 6 ly)) (rd_loadX hS 0 rfl rfl rfl Try.isAgg3) rfl ?_
  refine Wx.rd (v := .int .i64 0) (rd_move rfl) rfl ?_
  refine Wx.nil ?_
  refine W.block ?_
  have hS := hS.addNil (tI .i64) 3
  refine W.loop [8, 9, 28, 29, 30, 31, 32, 33, 34, 35] (fun x : Int × Value × (List Int) => match x with | (x, av, al) => [(28, .int .i64 x), (8, av)]) (fun (x : Int × Value × (List Int)) w' => match x with | (x, av, al) => St w [] w' [.row (tI .i64) 3 av al, .box g_12 24 [.int .i64 (madeN 6 ly), v_8], Ob.v (tSl (tSl (tI .i64))) (madeF 6 8 ly mn [z0, z1, z2, z3, z4, z5, z6, z7, z8, z9]) v_8, .box g_1 64 [.int .u8 ly, .int .u8 mn, .int .u8 z0, .int .u8 z1, .int .u8 z2, .int .u8 z3, .int .u8 z4, .int .u8 z5, .int .u8 z6, .int .u8 z7, .int .u8 z8, .int .u8 z9]] ∧ 0 ≤ x ∧ x ≤ madeN 6 ly ∧ al = up x x.toNat) (fun x : Int × Value × (List Int) => match x with | (x, av, al) => (madeN 6 ly - x).toNat) (0, (.slice none 0 0), []) ⟨rfl, rfl, trivial⟩ ⟨hS, (by first | omega | simp), (by first | omega | simp), (rfl)⟩ ?_
  rintro ⟨x, av, al⟩ u_22 w_21 ⟨hS, h0, h1, h2⟩
  have hll : al.length = x.toNat := by rw [h2, up_len]
  refine W.seq ?_
  refine W.reg ?_
  refine Wx.rd (v := .bool (decide (x < (madeN 6 ly)))) (rd_lss rfl rfl) rfl ?_
  refine Wx.nil ?_
  refine W.seq ?_
  refine W.condD rfl (fun c1 => ?_) (fun c1 => ?_)
  · -- yes
    refine W.skip ?_
    refine W.seq ?_
    refine W.block ?_
    refine W.seq ?_
    refine W.reg ?_
    refine Wx.rd (v := .int .i64 x) (rd_move rfl) rfl ?_
    refine Wx.rd (v := .int .i64 x) (rd_assign rfl) rfl ?_
    refine Wx.nil ?_
    refine W.reg ?_
    refine Wx.rd (v := av) (rd_move rfl) rfl ?_
    refine Wx.rd (v := .int .i64 x) (rd_move rfl) rfl ?_
    refine Wx.lit (t := (tI .i64)) (ys := [x]) (vs := [.int .i64 x]) elGl_28 hS rfl rfl ⟨(V.mkInt (in_i64 (by omega) (by omega))), trivial⟩ (by decide) rfl (fun v_23 w_24 hx_25 hS => ?_)
    refine Wx.append elGl_28 hS 1 rfl rfl rfl (Src.ofR hS 0 rfl) (by simp only [maxLen]; simp; omega) (by simp; omega) rfl (fun v_26 w_27 hz_28 hS => ?_)
    refine Wx.rd (v := v_26) (rd_assign rfl) rfl ?_
    refine Wx.nil ?_
    refine W.reg ?_
    refine Wx.rd (v := .int .i64 (x + 1)) (rd_add rfl rfl (in_i64 (by omega) (by omega))) rfl ?_
    refine Wx.rd (v := .int .i64 (x + 1)) (rd_move rfl) rfl ?_
    refine Wx.nil ?_
    refine ⟨(x + 1, v_26, al ++ [x]), (by show (madeN 6 ly - (x + 1)).toNat < (madeN 6 ly - x).toNat; omega), ?_, ?_, Out.look rfl Out.self⟩
    · exact ⟨hS.tl, (by first | omega | assumption), (by first | omega | assumption), (by rw [h2]; exact (up_snoc' h0).symm)⟩
    · exact ⟨rfl, rfl, trivial⟩
  · -- no
    refine W.exit rfl ?_
    refine W.seq ?_
    have hal : al = up (madeN 6 ly) (madeN 6 ly).toNat := by rw [h2, show x = madeN 6 ly by omega]
    have hS := hS.freeze 0 rfl
    refine W.cutK [10, 36, 37, 38, 39, 40, 41, 42, 43, 44, 45, 46, 47, 48, 49, 50, 51] (fun x : Nat × Value => match x with | (gm, mv) => [(10, .pointer (some ⟨gm, 0, none⟩))]) (fun (x : Nat × Value) w' => match x with | (gm, mv) => St w [] w' [.box gm 24 [.int .i64 (madeN 6 ly), mv], .row (tSl (tI .i64)) 28 mv ((madeF 6 8 ly mn [z0, z1, z2, z3, z4, z5, z6, z7, z8, z9]) ++ [[one % (madeN 6 ly)], al]), Ob.v (tSl (tI .i64)) al av, .box g_12 24 [.int .i64 (madeN 6 ly), v_8], Ob.v (tSl (tSl (tI .i64))) (madeF 6 8 ly mn [z0, z1, z2, z3, z4, z5, z6, z7, z8, z9]) v_8, .box g_1 64 [.int .u8 ly, .int .u8 mn, .int .u8 z0, .int .u8 z1, .int .u8 z2, .int .u8 z3, .int .u8 z4, .int .u8 z5, .int .u8 z6, .int .u8 z7, .int .u8 z8, .int .u8 z9]]) ?_ ?_
    · -- up to the cut
      refine W.regH mixedGl_ (fun w_30 hx_31 => ?_)
      have h0 := hS
      have hS := (St.start _ _ h0.fb_lt).ext hx_31
      refine Wh.rd (v := .pointer (some ⟨g_12, 0, none⟩)) 0 rfl (by kernel_rfl) hS.bel (rd_fieldAddr rfl foGl_24_0) rfl ?_
      refine Wh.rd (v := .int .i64 (madeN 6 ly)) 1 rfl (by kernel_rfl) hS.bel (rd_loadX h0 1 rfl rfl rfl Try.isAgg3) rfl ?_
      refine Wh.rd (v := .pointer (some ⟨g_12, 1, none⟩)) 2 rfl (by kernel_rfl) hS.bel (rd_fieldAddr rfl foGl_24_1) rfl ?_
      refine Wh.rd (v := v_8) 3 rfl (by kernel_rfl) hS.bel (rd_loadX h0 1 rfl rfl rfl Try.isAgg22) rfl ?_
      refine Wh.rd (v := .int .u8 one) 5 rfl (by kernel_rfl) hS.bel (rd_move rfl) rfl ?_
      refine Wh.rd (v := .int .i64 one) 6 rfl (by kernel_rfl) hS.bel (rd_convIn rfl Try.underlying5 Try.underlying3 (in_i64 (by omega) (by omega))) rfl ?_
      refine Wh.rd (v := .pointer (some ⟨g_12, 0, none⟩)) 7 rfl (by kernel_rfl) hS.bel (rd_fieldAddr rfl foGl_24_0) rfl ?_
      refine Wh.rd (v := .int .i64 (madeN 6 ly)) 8 rfl (by kernel_rfl) hS.bel (rd_loadX h0 1 rfl rfl rfl Try.isAgg3) rfl ?_
      refine Wh.rd (v := .int .i64 (one % (madeN 6 ly))) 9 rfl (by kernel_rfl) hS.bel (rd_rem rfl rfl (by omega) (by omega)) rfl ?_
      refine Wh.rd (v := av) 12 rfl (by kernel_rfl) hS.bel (rd_move rfl) rfl ?_
      refine Wh.br [4, 10, 16] (by kernel_rfl) (by decide) ⟨⟨_, rfl, ?_⟩, ⟨_, rfl, ?_⟩, ⟨_, rfl, ?_⟩, trivial⟩
      · -- operation 4
        refine Wx.callF (run_callF Try.call52 rfl) (F52 (hS.arg (h0.v 2 rfl)) (by omega) hS.fb_lt) rfl ?_
        rintro r_32 w_33 hx_34 ⟨_, rfl, hv_35⟩
        have hS := hS.pushFrO hx_34 hv_35
        refine Wx.nil ⟨hS.bel, ?_⟩
        refine Wh.br [10, 16] (by kernel_rfl) (by decide) ⟨⟨_, rfl, ?_⟩, ⟨_, rfl, ?_⟩, trivial⟩
        · -- operation 10
          refine Wx.lit (t := (tI .i64)) (ys := [one % (madeN 6 ly)]) (vs := [.int .i64 (one % (madeN 6 ly))]) elGl_28 hS rfl rfl ⟨(V.mkInt (in_i64 (by omega) (by omega))), trivial⟩ (by decide) rfl (fun v_37 w_38 hx_39 hS => ?_)
          refine Wx.nil ⟨hS.bel, ?_⟩
          refine Wh.br [11, 16] (by kernel_rfl) (by decide) ⟨⟨_, rfl, ?_⟩, ⟨_, rfl, ?_⟩, trivial⟩
          · -- operation 11
            have hS := hS.freeze 0 rfl
            refine Wx.callF (run_callF Try.call39 rfl) (F39 (hS.v 0 rfl) hS.fb_lt) rfl ?_
            rintro r_41 w_42 hx_43 ⟨_, rfl, hv_44⟩
            have ln_46 := hv_44.len63
            have hS := hS.ext hx_43
            have hS := hS.add hv_44
            refine Wx.nil ⟨hS.bel, ?_⟩
            refine Wh.br [13, 16] (by kernel_rfl) (by decide) ⟨⟨_, rfl, ?_⟩, ⟨_, rfl, ?_⟩, trivial⟩
            · -- operation 13
              refine Wx.lit (t := (tSl (tI .i64))) (ys := [[one % (madeN 6 ly)], al]) (vs := [r_41, av]) elGl_22 hS rfl rfl ⟨(hS.v 0 rfl), ⟨(hS.arg (h0.v 0 rfl)), trivial⟩⟩ (by decide) rfl (fun v_47 w_48 hx_49 hS => ?_)
              refine Wx.nil ⟨hS.bel, ?_⟩
              refine Wh.br [14, 16] (by kernel_rfl) (by decide) ⟨⟨_, rfl, ?_⟩, ⟨_, rfl, ?_⟩, trivial⟩
              · -- operation 14
                refine Wx.append elGl_22 hS 3 rfl rfl rfl (Src.ofR hS 0 rfl) (by simp only [maxLen]; simp; omega) (by simp; omega) rfl (fun v_50 w_51 hz_52 hS => ?_)
                refine Wx.nil ⟨hS.bel, ?_⟩
                refine Wh.rd (v := .agg #[.int .i64 (madeN 6 ly), v_50]) 15 rfl (by kernel_rfl) hS.bel (rd_buildC (vs := [(0, .int .i64 (madeN 6 ly)), (1, v_50)]) (us := [(0, .agg #[.int .i64 (madeN 6 ly)]), (1, .agg #[v_50])]) rfl (parts_cons rfl (parts_cons (cells_one (hS.rowOne 3 rfl)) parts_nil)) (by kernel_rfl)) rfl ?_
                refine Wh.br [16] (by kernel_rfl) (by decide) ⟨⟨_, rfl, ?_⟩, trivial⟩
                refine Wx.alloc (cs := [.int .i64 0, (.slice none 0 0)]) hS Try.zeroValue24 rfl rfl (fun g_53 w_54 hx_56 hb_55 hS => ?_)
                refine Wx.nil ⟨hS.bel, ?_⟩
                refine Wh.br [17] (by kernel_rfl) (by decide) ⟨⟨_, rfl, ?_⟩, trivial⟩
                refine Wx.storeX (cs' := [.int .i64 (madeN 6 ly), v_50]) (ds := [.int .i64 (madeN 6 ly), v_50]) hS 0 rfl rfl rfl rfl Try.sizeOf24 (Nat.le_of_ble_eq_true rfl) (one_cons rfl (one_cons (hS.rowOne 4 rfl) one_nil)) rfl (fun w_57 hz_58 hS => ?_)
                refine Wx.nil ⟨hS.bel, ?_⟩
                refine Wh.done (by kernel_rfl) ?_
                have hS := h0.merge hS
                have hS := hS.front 8 rfl
                have hS := hS.front 8 rfl
                have hS := hS.front 8 rfl
                have hS := hS.front 8 rfl
                have hS := hS.front 8 rfl
                have hS := hS.front 5 rfl
                have hS := hS.front 8 rfl
                have hS := hS.front 8 rfl
                have hS := hS.front 8 rfl
                refine ⟨(g_53, v_50), ?_, ?_, Out.look rfl Out.refl⟩
                · exact St.tl (St.tl (hS.tl))
                · exact ⟨rfl, trivial⟩
              · -- operation 16
                refine Wx.alloc (cs := [.int .i64 0, (.slice none 0 0)]) hS Try.zeroValue24 rfl rfl (fun g_59 w_60 hx_62 hb_61 hS => ?_)
                refine Wx.nil ⟨hS.bel, ?_⟩
                refine Wh.br [14] (by kernel_rfl) (by decide) ⟨⟨_, rfl, ?_⟩, trivial⟩
                refine Wx.append elGl_22 hS 4 rfl rfl rfl (Src.ofR hS 1 rfl) (by simp only [maxLen]; simp; omega) (by simp; omega) rfl (fun v_63 w_64 hz_65 hS => ?_)
                refine Wx.nil ⟨hS.bel, ?_⟩
                refine Wh.rd (v := .agg #[.int .i64 (madeN 6 ly), v_63]) 15 rfl (by kernel_rfl) hS.bel (rd_buildC (vs := [(0, .int .i64 (madeN 6 ly)), (1, v_63)]) (us := [(0, .agg #[.int .i64 (madeN 6 ly)]), (1, .agg #[v_63])]) rfl (parts_cons rfl (parts_cons (cells_one (hS.rowOne 4 rfl)) parts_nil)) (by kernel_rfl)) rfl ?_
                refine Wh.br [17] (by kernel_rfl) (by decide) ⟨⟨_, rfl, ?_⟩, trivial⟩
                refine Wx.storeX (cs' := [.int .i64 (madeN 6 ly), v_63]) (ds := [.int .i64 (madeN 6 ly), v_63]) hS 0 rfl rfl rfl rfl Try.sizeOf24 (Nat.le_of_ble_eq_true rfl) (one_cons rfl (one_cons (hS.rowOne 4 rfl) one_nil)) rfl (fun w_66 hz_67 hS => ?_)
                refine Wx.nil ⟨hS.bel, ?_⟩
                refine Wh.done (by kernel_rfl) ?_
                have hS := h0.merge hS
                have hS := hS.front 8 rfl
                have hS := hS.front 8 rfl
                have hS := hS.front 8 rfl
                have hS := hS.front 8 rfl
                have hS := hS.front 8 rfl
                have hS := hS.front 5 rfl
                have hS := hS.front 8 rfl
                have hS := hS.front 8 rfl
                have hS := hS.front 8 rfl
                refine ⟨(g_59, v_63), ?_, ?_, Out.look rfl Out.refl⟩
                · exact St.tl (St.tl (hS.tl))
                · exact ⟨rfl, trivial⟩
            · -- operation 16
              refine Wx.alloc (cs := [.int .i64 0, (.slice none 0 0)]) hS Try.zeroValue24 rfl rfl (fun g_68 w_69 hx_71 hb_70 hS => ?_)
              refine Wx.nil ⟨hS.bel, ?_⟩
              refine Wh.br [13] (by kernel_rfl) (by decide) ⟨⟨_, rfl, ?_⟩, trivial⟩
              refine Wx.lit (t := (tSl (tI .i64))) (ys := [[one % (madeN 6 ly)], al]) (vs := [r_41, av]) elGl_22 hS rfl rfl ⟨(hS.v 1 rfl), ⟨(hS.arg (h0.v 0 rfl)), trivial⟩⟩ (by decide) rfl (fun v_72 w_73 hx_74 hS => ?_)
              refine Wx.nil ⟨hS.bel, ?_⟩
              refine Wh.br [14] (by kernel_rfl) (by decide) ⟨⟨_, rfl, ?_⟩, trivial⟩
              refine Wx.append elGl_22 hS 4 rfl rfl rfl (Src.ofR hS 0 rfl) (by simp only [maxLen]; simp; omega) (by simp; omega) rfl (fun v_75 w_76 hz_77 hS => ?_)
              refine Wx.nil ⟨hS.bel, ?_⟩
              refine Wh.rd (v := .agg #[.int .i64 (madeN 6 ly), v_75]) 15 rfl (by kernel_rfl) hS.bel (rd_buildC (vs := [(0, .int .i64 (madeN 6 ly)), (1, v_75)]) (us := [(0, .agg #[.int .i64 (madeN 6 ly)]), (1, .agg #[v_75])]) rfl (parts_cons rfl (parts_cons (cells_one (hS.rowOne 4 rfl)) parts_nil)) (by kernel_rfl)) rfl ?_
              refine Wh.br [17] (by kernel_rfl) (by decide) ⟨⟨_, rfl, ?_⟩, trivial⟩
              refine Wx.storeX (cs' := [.int .i64 (madeN 6 ly), v_75]) (ds := [.int .i64 (madeN 6 ly), v_75]) hS 1 rfl rfl rfl rfl Try.sizeOf24 (Nat.le_of_ble_eq_true rfl) (one_cons rfl (one_cons (hS.rowOne 4 rfl) one_nil)) rfl (fun w_78 hz_79 hS => ?_)
              refine Wx.nil ⟨hS.bel, ?_⟩
              refine Wh.done (by kernel_rfl) ?_
              have hS := h0.merge hS
              have hS := hS.front 8 rfl
              have hS := hS.front 8 rfl
              have hS := hS.front 8 rfl
              have hS := hS.front 8 rfl
              have hS := hS.front 8 rfl
              have hS := hS.front 6 rfl
              have hS := hS.front 8 rfl
              have hS := hS.front 8 rfl
              have hS := hS.front 8 rfl
              refine ⟨(g_68, v_75), ?_, ?_, Out.look rfl Out.refl⟩
              · exact St.tl (St.tl (hS.tl))
              · exact ⟨rfl, trivial⟩
          · -- operation 16
            refine Wx.alloc (cs := [.int .i64 0, (.slice none 0 0)]) hS Try.zeroValue24 rfl rfl (fun g_80 w_81 hx_83 hb_82 hS => ?_)
            refine Wx.nil ⟨hS.bel, ?_⟩
            refine Wh.br [11] (by kernel_rfl) (by decide) ⟨⟨_, rfl, ?_⟩, trivial⟩
            have hS := hS.freeze 1 rfl
            refine Wx.callF (run_callF Try.call39 rfl) (F39 (hS.v 0 rfl) hS.fb_lt) rfl ?_
            rintro r_85 w_86 hx_87 ⟨_, rfl, hv_88⟩
            have ln_90 := hv_88.len63
            have hS := hS.ext hx_87
            have hS := hS.add hv_88
            refine Wx.nil ⟨hS.bel, ?_⟩
            refine Wh.br [13] (by kernel_rfl) (by decide) ⟨⟨_, rfl, ?_⟩, trivial⟩
            refine Wx.lit (t := (tSl (tI .i64))) (ys := [[one % (madeN 6 ly)], al]) (vs := [r_85, av]) elGl_22 hS rfl rfl ⟨(hS.v 0 rfl), ⟨(hS.arg (h0.v 0 rfl)), trivial⟩⟩ (by decide) rfl (fun v_91 w_92 hx_93 hS => ?_)
            refine Wx.nil ⟨hS.bel, ?_⟩
            refine Wh.br [14] (by kernel_rfl) (by decide) ⟨⟨_, rfl, ?_⟩, trivial⟩
            refine Wx.append elGl_22 hS 4 rfl rfl rfl (Src.ofR hS 0 rfl) (by simp only [maxLen]; simp; omega) (by simp; omega) rfl (fun v_94 w_95 hz_96 hS => ?_)
            refine Wx.nil ⟨hS.bel, ?_⟩
            refine Wh.rd (v := .agg #[.int .i64 (madeN 6 ly), v_94]) 15 rfl (by kernel_rfl) hS.bel (rd_buildC (vs := [(0, .int .i64 (madeN 6 ly)), (1, v_94)]) (us := [(0, .agg #[.int .i64 (madeN 6 ly)]), (1, .agg #[v_94])]) rfl (parts_cons rfl (parts_cons (cells_one (hS.rowOne 4 rfl)) parts_nil)) (by kernel_rfl)) rfl ?_
            refine Wh.br [17] (by kernel_rfl) (by decide) ⟨⟨_, rfl, ?_⟩, trivial⟩
            refine Wx.storeX (cs' := [.int .i64 (madeN 6 ly), v_94]) (ds := [.int .i64 (madeN 6 ly), v_94]) hS 3 rfl rfl rfl rfl Try.sizeOf24 (Nat.le_of_ble_eq_true rfl) (one_cons rfl (one_cons (hS.rowOne 4 rfl) one_nil)) rfl (fun w_97 hz_98 hS => ?_)
            refine Wx.nil ⟨hS.bel, ?_⟩
            refine Wh.done (by kernel_rfl) ?_
            have hS := h0.merge hS
            have hS := hS.front 8 rfl
            have hS := hS.front 8 rfl
            have hS := hS.front 8 rfl
            have hS := hS.front 8 rfl
            have hS := hS.front 8 rfl
            have hS := hS.front 8 rfl
            have hS := hS.front 8 rfl
            have hS := hS.front 8 rfl
            have hS := hS.front 8 rfl
            refine ⟨(g_80, v_94), ?_, ?_, Out.look rfl Out.refl⟩
            · exact St.tl (St.tl (hS.tl))
            · exact ⟨rfl, trivial⟩
        · -- operation 16
          refine Wx.alloc (cs := [.int .i64 0, (.slice none 0 0)]) hS Try.zeroValue24 rfl rfl (fun g_99 w_100 hx_102 hb_101 hS => ?_)
          refine Wx.nil ⟨hS.bel, ?_⟩
          refine Wh.br [10] (by kernel_rfl) (by decide) ⟨⟨_, rfl, ?_⟩, trivial⟩
          refine Wx.lit (t := (tI .i64)) (ys := [one % (madeN 6 ly)]) (vs := [.int .i64 (one % (madeN 6 ly))]) elGl_28 hS rfl rfl ⟨(V.mkInt (in_i64 (by omega) (by omega))), trivial⟩ (by decide) rfl (fun v_103 w_104 hx_105 hS => ?_)
          refine Wx.nil ⟨hS.bel, ?_⟩
          refine Wh.br [11] (by kernel_rfl) (by decide) ⟨⟨_, rfl, ?_⟩, trivial⟩
          have hS := hS.freeze 0 rfl
          refine Wx.callF (run_callF Try.call39 rfl) (F39 (hS.v 0 rfl) hS.fb_lt) rfl ?_
          rintro r_107 w_108 hx_109 ⟨_, rfl, hv_110⟩
          have ln_112 := hv_110.len63
          have hS := hS.ext hx_109
          have hS := hS.add hv_110
          refine Wx.nil ⟨hS.bel, ?_⟩
          refine Wh.br [13] (by kernel_rfl) (by decide) ⟨⟨_, rfl, ?_⟩, trivial⟩
          refine Wx.lit (t := (tSl (tI .i64))) (ys := [[one % (madeN 6 ly)], al]) (vs := [r_107, av]) elGl_22 hS rfl rfl ⟨(hS.v 0 rfl), ⟨(hS.arg (h0.v 0 rfl)), trivial⟩⟩ (by decide) rfl (fun v_113 w_114 hx_115 hS => ?_)
          refine Wx.nil ⟨hS.bel, ?_⟩
          refine Wh.br [14] (by kernel_rfl) (by decide) ⟨⟨_, rfl, ?_⟩, trivial⟩
          refine Wx.append elGl_22 hS 4 rfl rfl rfl (Src.ofR hS 0 rfl) (by simp only [maxLen]; simp; omega) (by simp; omega) rfl (fun v_116 w_117 hz_118 hS => ?_)
          refine Wx.nil ⟨hS.bel, ?_⟩
          refine Wh.rd (v := .agg #[.int .i64 (madeN 6 ly), v_116]) 15 rfl (by kernel_rfl) hS.bel (rd_buildC (vs := [(0, .int .i64 (madeN 6 ly)), (1, v_116)]) (us := [(0, .agg #[.int .i64 (madeN 6 ly)]), (1, .agg #[v_116])]) rfl (parts_cons rfl (parts_cons (cells_one (hS.rowOne 4 rfl)) parts_nil)) (by kernel_rfl)) rfl ?_
          refine Wh.br [17] (by kernel_rfl) (by decide) ⟨⟨_, rfl, ?_⟩, trivial⟩
          refine Wx.storeX (cs' := [.int .i64 (madeN 6 ly), v_116]) (ds := [.int .i64 (madeN 6 ly), v_116]) hS 3 rfl rfl rfl rfl Try.sizeOf24 (Nat.le_of_ble_eq_true rfl) (one_cons rfl (one_cons (hS.rowOne 4 rfl) one_nil)) rfl (fun w_119 hz_120 hS => ?_)
          refine Wx.nil ⟨hS.bel, ?_⟩
          refine Wh.done (by kernel_rfl) ?_
          have hS := h0.merge hS
          have hS := hS.front 8 rfl
          have hS := hS.front 8 rfl
          have hS := hS.front 8 rfl
          have hS := hS.front 8 rfl
          have hS := hS.front 8 rfl
          have hS := hS.front 8 rfl
          have hS := hS.front 8 rfl
          have hS := hS.front 8 rfl
          have hS := hS.front 8 rfl
          refine ⟨(g_99, v_116), ?_, ?_, Out.look rfl Out.refl⟩
          · exact St.tl (St.tl (hS.tl))
          · exact ⟨rfl, trivial⟩
      · -- operation 10
        refine Wx.lit (t := (tI .i64)) (ys := [one % (madeN 6 ly)]) (vs := [.int .i64 (one % (madeN 6 ly))]) elGl_28 hS rfl rfl ⟨(V.mkInt (in_i64 (by omega) (by omega))), trivial⟩ (by decide) rfl (fun v_121 w_122 hx_123 hS => ?_)
        refine Wx.nil ⟨hS.bel, ?_⟩
        refine Wh.br [4, 16] (by kernel_rfl) (by decide) ⟨⟨_, rfl, ?_⟩, ⟨_, rfl, ?_⟩, trivial⟩
        · -- operation 4
          refine Wx.callF (run_callF Try.call52 rfl) (F52 (hS.arg (h0.v 2 rfl)) (by omega) hS.fb_lt) rfl ?_
          rintro r_124 w_125 hx_126 ⟨_, rfl, hv_127⟩
          have hS := hS.pushFrO hx_126 hv_127
          refine Wx.nil ⟨hS.bel, ?_⟩
          refine Wh.br [11, 16] (by kernel_rfl) (by decide) ⟨⟨_, rfl, ?_⟩, ⟨_, rfl, ?_⟩, trivial⟩
          · -- operation 11
            have hS := hS.freeze 1 rfl
            refine Wx.callF (run_callF Try.call39 rfl) (F39 (hS.v 0 rfl) hS.fb_lt) rfl ?_
            rintro r_130 w_131 hx_132 ⟨_, rfl, hv_133⟩
            have ln_135 := hv_133.len63
            have hS := hS.ext hx_132
            have hS := hS.add hv_133
            refine Wx.nil ⟨hS.bel, ?_⟩
            refine Wh.br [13, 16] (by kernel_rfl) (by decide) ⟨⟨_, rfl, ?_⟩, ⟨_, rfl, ?_⟩, trivial⟩
            · -- operation 13
              refine Wx.lit (t := (tSl (tI .i64))) (ys := [[one % (madeN 6 ly)], al]) (vs := [r_130, av]) elGl_22 hS rfl rfl ⟨(hS.v 0 rfl), ⟨(hS.arg (h0.v 0 rfl)), trivial⟩⟩ (by decide) rfl (fun v_136 w_137 hx_138 hS => ?_)
              refine Wx.nil ⟨hS.bel, ?_⟩
              refine Wh.br [14, 16] (by kernel_rfl) (by decide) ⟨⟨_, rfl, ?_⟩, ⟨_, rfl, ?_⟩, trivial⟩
              · -- operation 14
                refine Wx.append elGl_22 hS 3 rfl rfl rfl (Src.ofR hS 0 rfl) (by simp only [maxLen]; simp; omega) (by simp; omega) rfl (fun v_139 w_140 hz_141 hS => ?_)
                refine Wx.nil ⟨hS.bel, ?_⟩
                refine Wh.rd (v := .agg #[.int .i64 (madeN 6 ly), v_139]) 15 rfl (by kernel_rfl) hS.bel (rd_buildC (vs := [(0, .int .i64 (madeN 6 ly)), (1, v_139)]) (us := [(0, .agg #[.int .i64 (madeN 6 ly)]), (1, .agg #[v_139])]) rfl (parts_cons rfl (parts_cons (cells_one (hS.rowOne 3 rfl)) parts_nil)) (by kernel_rfl)) rfl ?_
                refine Wh.br [16] (by kernel_rfl) (by decide) ⟨⟨_, rfl, ?_⟩, trivial⟩
                refine Wx.alloc (cs := [.int .i64 0, (.slice none 0 0)]) hS Try.zeroValue24 rfl rfl (fun g_142 w_143 hx_145 hb_144 hS => ?_)
                refine Wx.nil ⟨hS.bel, ?_⟩
                refine Wh.br [17] (by kernel_rfl) (by decide) ⟨⟨_, rfl, ?_⟩, trivial⟩
                refine Wx.storeX (cs' := [.int .i64 (madeN 6 ly), v_139]) (ds := [.int .i64 (madeN 6 ly), v_139]) hS 0 rfl rfl rfl rfl Try.sizeOf24 (Nat.le_of_ble_eq_true rfl) (one_cons rfl (one_cons (hS.rowOne 4 rfl) one_nil)) rfl (fun w_146 hz_147 hS => ?_)
                refine Wx.nil ⟨hS.bel, ?_⟩
                refine Wh.done (by kernel_rfl) ?_
                have hS := h0.merge hS
                have hS := hS.front 8 rfl
                have hS := hS.front 8 rfl
                have hS := hS.front 8 rfl
                have hS := hS.front 8 rfl
                have hS := hS.front 8 rfl
                have hS := hS.front 5 rfl
                have hS := hS.front 8 rfl
                have hS := hS.front 8 rfl
                have hS := hS.front 8 rfl
                refine ⟨(g_142, v_139), ?_, ?_, Out.look rfl Out.refl⟩
                · exact St.tl (St.tl (hS.tl))
                · exact ⟨rfl, trivial⟩
              · -- operation 16
                refine Wx.alloc (cs := [.int .i64 0, (.slice none 0 0)]) hS Try.zeroValue24 rfl rfl (fun g_148 w_149 hx_151 hb_150 hS => ?_)
                refine Wx.nil ⟨hS.bel, ?_⟩
                refine Wh.br [14] (by kernel_rfl) (by decide) ⟨⟨_, rfl, ?_⟩, trivial⟩
                refine Wx.append elGl_22 hS 4 rfl rfl rfl (Src.ofR hS 1 rfl) (by simp only [maxLen]; simp; omega) (by simp; omega) rfl (fun v_152 w_153 hz_154 hS => ?_)
                refine Wx.nil ⟨hS.bel, ?_⟩
                refine Wh.rd (v := .agg #[.int .i64 (madeN 6 ly), v_152]) 15 rfl (by kernel_rfl) hS.bel (rd_buildC (vs := [(0, .int .i64 (madeN 6 ly)), (1, v_152)]) (us := [(0, .agg #[.int .i64 (madeN 6 ly)]), (1, .agg #[v_152])]) rfl (parts_cons rfl (parts_cons (cells_one (hS.rowOne 4 rfl)) parts_nil)) (by kernel_rfl)) rfl ?_
                refine Wh.br [17] (by kernel_rfl) (by decide) ⟨⟨_, rfl, ?_⟩, trivial⟩
                refine Wx.storeX (cs' := [.int .i64 (madeN 6 ly), v_152]) (ds := [.int .i64 (madeN 6 ly), v_152]) hS 0 rfl rfl rfl rfl Try.sizeOf24 (Nat.le_of_ble_eq_true rfl) (one_cons rfl (one_cons (hS.rowOne 4 rfl) one_nil)) rfl (fun w_155 hz_156 hS => ?_)
                refine Wx.nil ⟨hS.bel, ?_⟩
                refine Wh.done (by kernel_rfl) ?_
                have hS := h0.merge hS
                have hS := hS.front 8 rfl
                have hS := hS.front 8 rfl
                have hS := hS.front 8 rfl
                have hS := hS.front 8 rfl
                have hS := hS.front 8 rfl
                have hS := hS.front 5 rfl
                have hS := hS.front 8 rfl
                have hS := hS.front 8 rfl
                have hS := hS.front 8 rfl
                refine ⟨(g_148, v_152), ?_, ?_, Out.look rfl Out.refl⟩
                · exact St.tl (St.tl (hS.tl))
                · exact ⟨rfl, trivial⟩
            · -- operation 16
              refine Wx.alloc (cs := [.int .i64 0, (.slice none 0 0)]) hS Try.zeroValue24 rfl rfl (fun g_157 w_158 hx_160 hb_159 hS => ?_)
              refine Wx.nil ⟨hS.bel, ?_⟩
              refine Wh.br [13] (by kernel_rfl) (by decide) ⟨⟨_, rfl, ?_⟩, trivial⟩
              refine Wx.lit (t := (tSl (tI .i64))) (ys := [[one % (madeN 6 ly)], al]) (vs := [r_130, av]) elGl_22 hS rfl rfl ⟨(hS.v 1 rfl), ⟨(hS.arg (h0.v 0 rfl)), trivial⟩⟩ (by decide) rfl (fun v_161 w_162 hx_163 hS => ?_)
              refine Wx.nil ⟨hS.bel, ?_⟩
              refine Wh.br [14] (by kernel_rfl) (by decide) ⟨⟨_, rfl, ?_⟩, trivial⟩
              refine Wx.append elGl_22 hS 4 rfl rfl rfl (Src.ofR hS 0 rfl) (by simp only [maxLen]; simp; omega) (by simp; omega) rfl (fun v_164 w_165 hz_166 hS => ?_)
              refine Wx.nil ⟨hS.bel, ?_⟩
              refine Wh.rd (v := .agg #[.int .i64 (madeN 6 ly), v_164]) 15 rfl (by kernel_rfl) hS.bel (rd_buildC (vs := [(0, .int .i64 (madeN 6 ly)), (1, v_164)]) (us := [(0, .agg #[.int .i64 (madeN 6 ly)]), (1, .agg #[v_164])]) rfl (parts_cons rfl (parts_cons (cells_one (hS.rowOne 4 rfl)) parts_nil)) (by kernel_rfl)) rfl ?_
              refine Wh.br [17] (by kernel_rfl) (by decide) ⟨⟨_, rfl, ?_⟩, trivial⟩
              refine Wx.storeX (cs' := [.int .i64 (madeN 6 ly), v_164]) (ds := [.int .i64 (madeN 6 ly), v_164]) hS 1 rfl rfl rfl rfl Try.sizeOf24 (Nat.le_of_ble_eq_true rfl) (one_cons rfl (one_cons (hS.rowOne 4 rfl) one_nil)) rfl (fun w_167 hz_168 hS => ?_)
              refine Wx.nil ⟨hS.bel, ?_⟩
              refine Wh.done (by kernel_rfl) ?_
              have hS := h0.merge hS
              have hS := hS.front 8 rfl
              have hS := hS.front 8 rfl
              have hS := hS.front 8 rfl
              have hS := hS.front 8 rfl
              have hS := hS.front 8 rfl
              have hS := hS.front 6 rfl
              have hS := hS.front 8 rfl
              have hS := hS.front 8 rfl
              have hS := hS.front 8 rfl
              refine ⟨(g_157, v_164), ?_, ?_, Out.look rfl Out.refl⟩
              · exact St.tl (St.tl (hS.tl))
              · exact ⟨rfl, trivial⟩
          · -- operation 16
            refine Wx.alloc (cs := [.int .i64 0, (.slice none 0 0)]) hS Try.zeroValue24 rfl rfl (fun g_169 w_170 hx_172 hb_171 hS => ?_)
            refine Wx.nil ⟨hS.bel, ?_⟩
            refine Wh.br [11] (by kernel_rfl) (by decide) ⟨⟨_, rfl, ?_⟩, trivial⟩
            have hS := hS.freeze 2 rfl
            refine Wx.callF (run_callF Try.call39 rfl) (F39 (hS.v 0 rfl) hS.fb_lt) rfl ?_
            rintro r_174 w_175 hx_176 ⟨_, rfl, hv_177⟩
            have ln_179 := hv_177.len63
            have hS := hS.ext hx_176
            have hS := hS.add hv_177
            refine Wx.nil ⟨hS.bel, ?_⟩
            refine Wh.br [13] (by kernel_rfl) (by decide) ⟨⟨_, rfl, ?_⟩, trivial⟩
            refine Wx.lit (t := (tSl (tI .i64))) (ys := [[one % (madeN 6 ly)], al]) (vs := [r_174, av]) elGl_22 hS rfl rfl ⟨(hS.v 0 rfl), ⟨(hS.arg (h0.v 0 rfl)), trivial⟩⟩ (by decide) rfl (fun v_180 w_181 hx_182 hS => ?_)
            refine Wx.nil ⟨hS.bel, ?_⟩
            refine Wh.br [14] (by kernel_rfl) (by decide) ⟨⟨_, rfl, ?_⟩, trivial⟩
            refine Wx.append elGl_22 hS 4 rfl rfl rfl (Src.ofR hS 0 rfl) (by simp only [maxLen]; simp; omega) (by simp; omega) rfl (fun v_183 w_184 hz_185 hS => ?_)
            refine Wx.nil ⟨hS.bel, ?_⟩
            refine Wh.rd (v := .agg #[.int .i64 (madeN 6 ly), v_183]) 15 rfl (by kernel_rfl) hS.bel (rd_buildC (vs := [(0, .int .i64 (madeN 6 ly)), (1, v_183)]) (us := [(0, .agg #[.int .i64 (madeN 6 ly)]), (1, .agg #[v_183])]) rfl (parts_cons rfl (parts_cons (cells_one (hS.rowOne 4 rfl)) parts_nil)) (by kernel_rfl)) rfl ?_
            refine Wh.br [17] (by kernel_rfl) (by decide) ⟨⟨_, rfl, ?_⟩, trivial⟩
            refine Wx.storeX (cs' := [.int .i64 (madeN 6 ly), v_183]) (ds := [.int .i64 (madeN 6 ly), v_183]) hS 3 rfl rfl rfl rfl Try.sizeOf24 (Nat.le_of_ble_eq_true rfl) (one_cons rfl (one_cons (hS.rowOne 4 rfl) one_nil)) rfl (fun w_186 hz_187 hS => ?_)
            refine Wx.nil ⟨hS.bel, ?_⟩
            refine Wh.done (by kernel_rfl) ?_
            have hS := h0.merge hS
            have hS := hS.front 8 rfl
            have hS := hS.front 8 rfl
            have hS := hS.front 8 rfl
            have hS := hS.front 8 rfl
            have hS := hS.front 8 rfl
            have hS := hS.front 8 rfl
            have hS := hS.front 8 rfl
            have hS := hS.front 8 rfl
            have hS := hS.front 8 rfl
            refine ⟨(g_169, v_183), ?_, ?_, Out.look rfl Out.refl⟩
            · exact St.tl (St.tl (hS.tl))
            · exact ⟨rfl, trivial⟩
        · -- operation 16
          refine Wx.alloc (cs := [.int .i64 0, (.slice none 0 0)]) hS Try.zeroValue24 rfl rfl (fun g_188 w_189 hx_191 hb_190 hS => ?_)
          refine Wx.nil ⟨hS.bel, ?_⟩
          refine Wh.br [4] (by kernel_rfl) (by decide) ⟨⟨_, rfl, ?_⟩, trivial⟩
          refine Wx.callF (run_callF Try.call52 rfl) (F52 (hS.arg (h0.v 2 rfl)) (by omega) hS.fb_lt) rfl ?_
          rintro r_192 w_193 hx_194 ⟨_, rfl, hv_195⟩
          have hS := hS.pushFrO hx_194 hv_195
          refine Wx.nil ⟨hS.bel, ?_⟩
          refine Wh.br [11] (by kernel_rfl) (by decide) ⟨⟨_, rfl, ?_⟩, trivial⟩
          have hS := hS.freeze 2 rfl
          refine Wx.callF (run_callF Try.call39 rfl) (F39 (hS.v 0 rfl) hS.fb_lt) rfl ?_
          rintro r_198 w_199 hx_200 ⟨_, rfl, hv_201⟩
          have ln_203 := hv_201.len63
          have hS := hS.ext hx_200
          have hS := hS.add hv_201
          refine Wx.nil ⟨hS.bel, ?_⟩
          refine Wh.br [13] (by kernel_rfl) (by decide) ⟨⟨_, rfl, ?_⟩, trivial⟩
          refine Wx.lit (t := (tSl (tI .i64))) (ys := [[one % (madeN 6 ly)], al]) (vs := [r_198, av]) elGl_22 hS rfl rfl ⟨(hS.v 0 rfl), ⟨(hS.arg (h0.v 0 rfl)), trivial⟩⟩ (by decide) rfl (fun v_204 w_205 hx_206 hS => ?_)
          refine Wx.nil ⟨hS.bel, ?_⟩
          refine Wh.br [14] (by kernel_rfl) (by decide) ⟨⟨_, rfl, ?_⟩, trivial⟩
          refine Wx.append elGl_22 hS 3 rfl rfl rfl (Src.ofR hS 0 rfl) (by simp only [maxLen]; simp; omega) (by simp; omega) rfl (fun v_207 w_208 hz_209 hS => ?_)
          refine Wx.nil ⟨hS.bel, ?_⟩
          refine Wh.rd (v := .agg #[.int .i64 (madeN 6 ly), v_207]) 15 rfl (by kernel_rfl) hS.bel (rd_buildC (vs := [(0, .int .i64 (madeN 6 ly)), (1, v_207)]) (us := [(0, .agg #[.int .i64 (madeN 6 ly)]), (1, .agg #[v_207])]) rfl (parts_cons rfl (parts_cons (cells_one (hS.rowOne 3 rfl)) parts_nil)) (by kernel_rfl)) rfl ?_
          refine Wh.br [17] (by kernel_rfl) (by decide) ⟨⟨_, rfl, ?_⟩, trivial⟩
          refine Wx.storeX (cs' := [.int .i64 (madeN 6 ly), v_207]) (ds := [.int .i64 (madeN 6 ly), v_207]) hS 4 rfl rfl rfl rfl Try.sizeOf24 (Nat.le_of_ble_eq_true rfl) (one_cons rfl (one_cons (hS.rowOne 3 rfl) one_nil)) rfl (fun w_210 hz_211 hS => ?_)
          refine Wx.nil ⟨hS.bel, ?_⟩
          refine Wh.done (by kernel_rfl) ?_
          have hS := h0.merge hS
          have hS := hS.front 8 rfl
          have hS := hS.front 8 rfl
          have hS := hS.front 8 rfl
          have hS := hS.front 8 rfl
          have hS := hS.front 7 rfl
          have hS := hS.front 8 rfl
          have hS := hS.front 8 rfl
          have hS := hS.front 8 rfl
          have hS := hS.front 8 rfl
          refine ⟨(g_188, v_207), ?_, ?_, Out.look rfl Out.refl⟩
          · exact St.tl (St.tl (hS.tl))
          · exact ⟨rfl, trivial⟩
      · -- operation 16
        refine Wx.alloc (cs := [.int .i64 0, (.slice none 0 0)]) hS Try.zeroValue24 rfl rfl (fun g_212 w_213 hx_215 hb_214 hS => ?_)
        refine Wx.nil ⟨hS.bel, ?_⟩
        refine Wh.br [4, 10] (by kernel_rfl) (by decide) ⟨⟨_, rfl, ?_⟩, ⟨_, rfl, ?_⟩, trivial⟩
        · -- operation 4
          refine Wx.callF (run_callF Try.call52 rfl) (F52 (hS.arg (h0.v 2 rfl)) (by omega) hS.fb_lt) rfl ?_
          rintro r_216 w_217 hx_218 ⟨_, rfl, hv_219⟩
          have hS := hS.pushFrO hx_218 hv_219
          refine Wx.nil ⟨hS.bel, ?_⟩
          refine Wh.br [10] (by kernel_rfl) (by decide) ⟨⟨_, rfl, ?_⟩, trivial⟩
          refine Wx.lit (t := (tI .i64)) (ys := [one % (madeN 6 ly)]) (vs := [.int .i64 (one % (madeN 6 ly))]) elGl_28 hS rfl rfl ⟨(V.mkInt (in_i64 (by omega) (by omega))), trivial⟩ (by decide) rfl (fun v_221 w_222 hx_223 hS => ?_)
          refine Wx.nil ⟨hS.bel, ?_⟩
          refine Wh.br [11] (by kernel_rfl) (by decide) ⟨⟨_, rfl, ?_⟩, trivial⟩
          have hS := hS.freeze 0 rfl
          refine Wx.callF (run_callF Try.call39 rfl) (F39 (hS.v 0 rfl) hS.fb_lt) rfl ?_
          rintro r_225 w_226 hx_227 ⟨_, rfl, hv_228⟩
          have ln_230 := hv_228.len63
          have hS := hS.ext hx_227
          have hS := hS.add hv_228
          refine Wx.nil ⟨hS.bel, ?_⟩
          refine Wh.br [13] (by kernel_rfl) (by decide) ⟨⟨_, rfl, ?_⟩, trivial⟩
          refine Wx.lit (t := (tSl (tI .i64))) (ys := [[one % (madeN 6 ly)], al]) (vs := [r_225, av]) elGl_22 hS rfl rfl ⟨(hS.v 0 rfl), ⟨(hS.arg (h0.v 0 rfl)), trivial⟩⟩ (by decide) rfl (fun v_231 w_232 hx_233 hS => ?_)
          refine Wx.nil ⟨hS.bel, ?_⟩
          refine Wh.br [14] (by kernel_rfl) (by decide) ⟨⟨_, rfl, ?_⟩, trivial⟩
          refine Wx.append elGl_22 hS 3 rfl rfl rfl (Src.ofR hS 0 rfl) (by simp only [maxLen]; simp; omega) (by simp; omega) rfl (fun v_234 w_235 hz_236 hS => ?_)
          refine Wx.nil ⟨hS.bel, ?_⟩
          refine Wh.rd (v := .agg #[.int .i64 (madeN 6 ly), v_234]) 15 rfl (by kernel_rfl) hS.bel (rd_buildC (vs := [(0, .int .i64 (madeN 6 ly)), (1, v_234)]) (us := [(0, .agg #[.int .i64 (madeN 6 ly)]), (1, .agg #[v_234])]) rfl (parts_cons rfl (parts_cons (cells_one (hS.rowOne 3 rfl)) parts_nil)) (by kernel_rfl)) rfl ?_
          refine Wh.br [17] (by kernel_rfl) (by decide) ⟨⟨_, rfl, ?_⟩, trivial⟩
          refine Wx.storeX (cs' := [.int .i64 (madeN 6 ly), v_234]) (ds := [.int .i64 (madeN 6 ly), v_234]) hS 4 rfl rfl rfl rfl Try.sizeOf24 (Nat.le_of_ble_eq_true rfl) (one_cons rfl (one_cons (hS.rowOne 3 rfl) one_nil)) rfl (fun w_237 hz_238 hS => ?_)
          refine Wx.nil ⟨hS.bel, ?_⟩
          refine Wh.done (by kernel_rfl) ?_
          have hS := h0.merge hS
          have hS := hS.front 8 rfl
          have hS := hS.front 8 rfl
          have hS := hS.front 8 rfl
          have hS := hS.front 8 rfl
          have hS := hS.front 7 rfl
          have hS := hS.front 8 rfl
          have hS := hS.front 8 rfl
          have hS := hS.front 8 rfl
          have hS := hS.front 8 rfl
          refine ⟨(g_212, v_234), ?_, ?_, Out.look rfl Out.refl⟩
          · exact St.tl (St.tl (hS.tl))
          · exact ⟨rfl, trivial⟩
        · -- operation 10
          refine Wx.lit (t := (tI .i64)) (ys := [one % (madeN 6 ly)]) (vs := [.int .i64 (one % (madeN 6 ly))]) elGl_28 hS rfl rfl ⟨(V.mkInt (in_i64 (by omega) (by omega))), trivial⟩ (by decide) rfl (fun v_239 w_240 hx_241 hS => ?_)
          refine Wx.nil ⟨hS.bel, ?_⟩
          refine Wh.br [4] (by kernel_rfl) (by decide) ⟨⟨_, rfl, ?_⟩, trivial⟩
          refine Wx.callF (run_callF Try.call52 rfl) (F52 (hS.arg (h0.v 2 rfl)) (by omega) hS.fb_lt) rfl ?_
          rintro r_242 w_243 hx_244 ⟨_, rfl, hv_245⟩
          have hS := hS.pushFrO hx_244 hv_245
          refine Wx.nil ⟨hS.bel, ?_⟩
          refine Wh.br [11] (by kernel_rfl) (by decide) ⟨⟨_, rfl, ?_⟩, trivial⟩
          have hS := hS.freeze 1 rfl
          refine Wx.callF (run_callF Try.call39 rfl) (F39 (hS.v 0 rfl) hS.fb_lt) rfl ?_
          rintro r_248 w_249 hx_250 ⟨_, rfl, hv_251⟩
          have ln_253 := hv_251.len63
          have hS := hS.ext hx_250
          have hS := hS.add hv_251
          refine Wx.nil ⟨hS.bel, ?_⟩
          refine Wh.br [13] (by kernel_rfl) (by decide) ⟨⟨_, rfl, ?_⟩, trivial⟩
          refine Wx.lit (t := (tSl (tI .i64))) (ys := [[one % (madeN 6 ly)], al]) (vs := [r_248, av]) elGl_22 hS rfl rfl ⟨(hS.v 0 rfl), ⟨(hS.arg (h0.v 0 rfl)), trivial⟩⟩ (by decide) rfl (fun v_254 w_255 hx_256 hS => ?_)
          refine Wx.nil ⟨hS.bel, ?_⟩
          refine Wh.br [14] (by kernel_rfl) (by decide) ⟨⟨_, rfl, ?_⟩, trivial⟩
          refine Wx.append elGl_22 hS 3 rfl rfl rfl (Src.ofR hS 0 rfl) (by simp only [maxLen]; simp; omega) (by simp; omega) rfl (fun v_257 w_258 hz_259 hS => ?_)
          refine Wx.nil ⟨hS.bel, ?_⟩
          refine Wh.rd (v := .agg #[.int .i64 (madeN 6 ly), v_257]) 15 rfl (by kernel_rfl) hS.bel (rd_buildC (vs := [(0, .int .i64 (madeN 6 ly)), (1, v_257)]) (us := [(0, .agg #[.int .i64 (madeN 6 ly)]), (1, .agg #[v_257])]) rfl (parts_cons rfl (parts_cons (cells_one (hS.rowOne 3 rfl)) parts_nil)) (by kernel_rfl)) rfl ?_
          refine Wh.br [17] (by kernel_rfl) (by decide) ⟨⟨_, rfl, ?_⟩, trivial⟩
          refine Wx.storeX (cs' := [.int .i64 (madeN 6 ly), v_257]) (ds := [.int .i64 (madeN 6 ly), v_257]) hS 4 rfl rfl rfl rfl Try.sizeOf24 (Nat.le_of_ble_eq_true rfl) (one_cons rfl (one_cons (hS.rowOne 3 rfl) one_nil)) rfl (fun w_260 hz_261 hS => ?_)
          refine Wx.nil ⟨hS.bel, ?_⟩
          refine Wh.done (by kernel_rfl) ?_
          have hS := h0.merge hS
          have hS := hS.front 8 rfl
          have hS := hS.front 8 rfl
          have hS := hS.front 8 rfl
          have hS := hS.front 8 rfl
          have hS := hS.front 7 rfl
          have hS := hS.front 8 rfl
          have hS := hS.front 8 rfl
          have hS := hS.front 8 rfl
          have hS := hS.front 8 rfl
          refine ⟨(g_212, v_257), ?_, ?_, Out.look rfl Out.refl⟩
          · exact St.tl (St.tl (hS.tl))
          · exact ⟨rfl, trivial⟩
    rintro ⟨gm, mv⟩ u_263 w_262 hS
    refine W.seq ?_
    refine W.reg ?_
    refine Wx.rd (v := .agg #[.int .i64 (madeN 6 ly), mv]) (rd_loadXs (ds := [.int .i64 (madeN 6 ly), mv]) hS 0 rfl rfl rfl rfl Try.isAgg24 Try.sizeOf24) rfl ?_
    refine Wx.callF (run_callF Try.call18 rfl) (F18 (in_i64 (by omega) (by omega)) (hS.lend 1 rfl)) rfl ?_
    rintro r_264 w_265 hx_266 rfl
    have hS := hS.ext hx_266
    refine Wx.rd (v := .tuple #[.int .i64 (countE (madeN 6 ly) ((madeF 6 8 ly mn [z0, z1, z2, z3, z4, z5, z6, z7, z8, z9]) ++ [[one % (madeN 6 ly)], al])), .int .i64 (checkE (madeN 6 ly) ((madeF 6 8 ly mn [z0, z1, z2, z3, z4, z5, z6, z7, z8, z9]) ++ [[one % (madeN 6 ly)], al]))]) (rd_move rfl) rfl ?_
    refine Wx.rd (v := .int .i64 (countE (madeN 6 ly) ((madeF 6 8 ly mn [z0, z1, z2, z3, z4, z5, z6, z7, z8, z9]) ++ [[one % (madeN 6 ly)], al]))) (rd_extract rfl rfl) rfl ?_
    refine Wx.rd (v := .int .i64 (checkE (madeN 6 ly) ((madeF 6 8 ly mn [z0, z1, z2, z3, z4, z5, z6, z7, z8, z9]) ++ [[one % (madeN 6 ly)], al]))) (rd_extract rfl rfl) rfl ?_
    refine Wx.rd (v := .int .i64 (countE (madeN 6 ly) ((madeF 6 8 ly mn [z0, z1, z2, z3, z4, z5, z6, z7, z8, z9]) ++ [[one % (madeN 6 ly)], al]))) (rd_assign rfl) rfl ?_
    refine Wx.rd (v := .int .i64 (checkE (madeN 6 ly) ((madeF 6 8 ly mn [z0, z1, z2, z3, z4, z5, z6, z7, z8, z9]) ++ [[one % (madeN 6 ly)], al]))) (rd_assign rfl) rfl ?_
    refine Wx.nil ?_
    refine W.seq ?_
    refine W.seq ?_
    refine W.reg ?_
    refine Wx.rd (v := .int .i64 (checkE (madeN 6 ly) ((madeF 6 8 ly mn [z0, z1, z2, z3, z4, z5, z6, z7, z8, z9]) ++ [[one % (madeN 6 ly)], al]))) (rd_move rfl) rfl ?_
    refine Wx.rd (v := .bool (decide ((checkE (madeN 6 ly) ((madeF 6 8 ly mn [z0, z1, z2, z3, z4, z5, z6, z7, z8, z9]) ++ [[one % (madeN 6 ly)], al])) ≠ 0))) (rd_neq rfl rfl) rfl ?_
    refine Wx.rd (v := .bool (decide ((checkE (madeN 6 ly) ((madeF 6 8 ly mn [z0, z1, z2, z3, z4, z5, z6, z7, z8, z9]) ++ [[one % (madeN 6 ly)], al])) ≠ 0))) (rd_move rfl) rfl ?_
    refine Wx.cut (X := Unit) 4 [60, 61, 62, 63] (fun _ => [(63, .bool (decide ((checkE (madeN 6 ly) ((madeF 6 8 ly mn [z0, z1, z2, z3, z4, z5, z6, z7, z8, z9]) ++ [[one % (madeN 6 ly)], al])) ≠ 0) || decide ((countE (madeN 6 ly) (madeF 6 8 ly mn [z0, z1, z2, z3, z4, z5, z6, z7, z8, z9])) ≠ (countE (madeN 6 ly) ((madeF 6 8 ly mn [z0, z1, z2, z3, z4, z5, z6, z7, z8, z9]) ++ [[one % (madeN 6 ly)], al])))))]) (fun _ w' => St w [] w' [.box gm 24 [.int .i64 (madeN 6 ly), mv], .row (tSl (tI .i64)) 28 mv ((madeF 6 8 ly mn [z0, z1, z2, z3, z4, z5, z6, z7, z8, z9]) ++ [[one % (madeN 6 ly)], al]), Ob.v (tSl (tI .i64)) al av, .box g_12 24 [.int .i64 (madeN 6 ly), v_8], Ob.v (tSl (tSl (tI .i64))) (madeF 6 8 ly mn [z0, z1, z2, z3, z4, z5, z6, z7, z8, z9]) v_8, .box g_1 64 [.int .u8 ly, .int .u8 mn, .int .u8 z0, .int .u8 z1, .int .u8 z2, .int .u8 z3, .int .u8 z4, .int .u8 z5, .int .u8 z6, .int .u8 z7, .int .u8 z8, .int .u8 z9]]) ?_ ?_
    · rcases Bool.eq_false_or_eq_true (decide ((checkE (madeN 6 ly) ((madeF 6 8 ly mn [z0, z1, z2, z3, z4, z5, z6, z7, z8, z9]) ++ [[one % (madeN 6 ly)], al])) ≠ 0)) with g_267 | g_267
      · -- True
        have gp_268 := of_decide_eq_true g_267
        refine Wx.gnoB rfl rfl (congrArg Value.bool g_267) rfl rfl ?_
        refine Wx.gnoB rfl rfl (congrArg Value.bool g_267) rfl rfl ?_
        refine Wx.gnoB rfl rfl (congrArg Value.bool g_267) rfl rfl ?_
        refine Wx.rd (v := .bool true) (rd_pickT (congrArg Value.bool g_267) rfl) rfl ?_
        refine Wx.nil ⟨(), hS, ⟨?_, trivial⟩, Out.look rfl Out.refl⟩
        show Value.bool true = Value.bool (decide ((checkE (madeN 6 ly) ((madeF 6 8 ly mn [z0, z1, z2, z3, z4, z5, z6, z7, z8, z9]) ++ [[one % (madeN 6 ly)], al])) ≠ 0) || decide ((countE (madeN 6 ly) (madeF 6 8 ly mn [z0, z1, z2, z3, z4, z5, z6, z7, z8, z9])) ≠ (countE (madeN 6 ly) ((madeF 6 8 ly mn [z0, z1, z2, z3, z4, z5, z6, z7, z8, z9]) ++ [[one % (madeN 6 ly)], al]))))
        rw [g_267]; rfl
      · -- False
        have gp_269 := of_decide_eq_false g_267
        refine Wx.gyes rfl rfl (congrArg Value.bool g_267) ?_
        refine Wx.rd (v := .int .i64 (countE (madeN 6 ly) (madeF 6 8 ly mn [z0, z1, z2, z3, z4, z5, z6, z7, z8, z9]))) (rd_move rfl) rfl ?_
        refine Wx.gyes rfl rfl (congrArg Value.bool g_267) ?_
        refine Wx.rd (v := .int .i64 (countE (madeN 6 ly) ((madeF 6 8 ly mn [z0, z1, z2, z3, z4, z5, z6, z7, z8, z9]) ++ [[one % (madeN 6 ly)], al]))) (rd_move rfl) rfl ?_
        refine Wx.gyes rfl rfl (congrArg Value.bool g_267) ?_
        refine Wx.rd (v := .bool (decide ((countE (madeN 6 ly) (madeF 6 8 ly mn [z0, z1, z2, z3, z4, z5, z6, z7, z8, z9])) ≠ (countE (madeN 6 ly) ((madeF 6 8 ly mn [z0, z1, z2, z3, z4, z5, z6, z7, z8, z9]) ++ [[one % (madeN 6 ly)], al]))))) (rd_neq rfl rfl) rfl ?_
        refine Wx.rd (v := .bool (decide ((countE (madeN 6 ly) (madeF 6 8 ly mn [z0, z1, z2, z3, z4, z5, z6, z7, z8, z9])) ≠ (countE (madeN 6 ly) ((madeF 6 8 ly mn [z0, z1, z2, z3, z4, z5, z6, z7, z8, z9]) ++ [[one % (madeN 6 ly)], al]))))) (rd_pickF (congrArg Value.bool g_267) rfl) rfl ?_
        refine Wx.nil ⟨(), hS, ⟨?_, trivial⟩, Out.look rfl Out.refl⟩
        show Value.bool (decide ((countE (madeN 6 ly) (madeF 6 8 ly mn [z0, z1, z2, z3, z4, z5, z6, z7, z8, z9])) ≠ (countE (madeN 6 ly) ((madeF 6 8 ly mn [z0, z1, z2, z3, z4, z5, z6, z7, z8, z9]) ++ [[one % (madeN 6 ly)], al])))) = Value.bool (decide ((checkE (madeN 6 ly) ((madeF 6 8 ly mn [z0, z1, z2, z3, z4, z5, z6, z7, z8, z9]) ++ [[one % (madeN 6 ly)], al])) ≠ 0) || decide ((countE (madeN 6 ly) (madeF 6 8 ly mn [z0, z1, z2, z3, z4, z5, z6, z7, z8, z9])) ≠ (countE (madeN 6 ly) ((madeF 6 8 ly mn [z0, z1, z2, z3, z4, z5, z6, z7, z8, z9]) ++ [[one % (madeN 6 ly)], al]))))
        rw [g_267]; rfl
    rintro ⟨⟩ u_271 w_270 hS
    refine Wx.nil ?_
    refine W.condF rfl (by rw [hal]; simp [hm1, hm2]) ?_
    refine W.skip ?_
    refine W.seq ?_
    refine W.seq ?_
    refine W.reg ?_
    refine Wx.rd (v := .pointer (some ⟨g_12, 1, none⟩)) (rd_fieldAddr rfl foGl_24_1) rfl ?_
    refine Wx.rd (v := v_8) (rd_loadX hS 3 rfl rfl rfl Try.isAgg22) rfl ?_
    refine Wx.rd (v := .int .i64 ((madeF 6 8 ly mn [z0, z1, z2, z3, z4, z5, z6, z7, z8, z9]).length : Int)) (rd_lenV rfl (hS.v 4 rfl) Try.underlying22) rfl ?_
    refine Wx.rd (v := .bool (decide (((madeF 6 8 ly mn [z0, z1, z2, z3, z4, z5, z6, z7, z8, z9]).length : Int) = 0))) (rd_eql rfl rfl) rfl ?_
    refine Wx.nil ?_
    refine W.condD rfl (fun c3 => ?_) (fun c3 => ?_)
    · -- yes
      refine W.seq ?_
      refine W.reg ?_
      refine Wx.rd (v := .int .i64 1) (rd_assign rfl) rfl ?_
      refine Wx.nil ?_
      refine W.seq ?_
      refine W.seq ?_
      refine W.reg ?_
      refine Wx.rd (v := av) (rd_move rfl) rfl ?_
      refine Wx.rd (v := .int .i64 (al.length : Int)) (rd_lenV rfl (hS.v 2 rfl) Try.underlying28) rfl ?_
      refine Wx.rd (v := .int .i64 0) (rd_move rfl) rfl ?_
      refine Wx.nil ?_
      refine W.block ?_
      have hall : (al.length : Int) = madeN 6 ly := by rw [hal, up_len]; omega
      refine W.loop [12, 13, 70, 71, 72, 73, 74, 75, 76, 77] (fun x : Int × Int => match x with | (want, y) => [(12, .int .i64 want), (70, .int .i64 y)]) (fun (x : Int × Int) w' => match x with | (want, y) => St w [] w' [.box gm 24 [.int .i64 (madeN 6 ly), mv], .row (tSl (tI .i64)) 28 mv ((madeF 6 8 ly mn [z0, z1, z2, z3, z4, z5, z6, z7, z8, z9]) ++ [[one % (madeN 6 ly)], al]), Ob.v (tSl (tI .i64)) al av, .box g_12 24 [.int .i64 (madeN 6 ly), v_8], Ob.v (tSl (tSl (tI .i64))) (madeF 6 8 ly mn [z0, z1, z2, z3, z4, z5, z6, z7, z8, z9]) v_8, .box g_1 64 [.int .u8 ly, .int .u8 mn, .int .u8 z0, .int .u8 z1, .int .u8 z2, .int .u8 z3, .int .u8 z4, .int .u8 z5, .int .u8 z6, .int .u8 z7, .int .u8 z8, .int .u8 z9]] ∧ 0 ≤ y ∧ y ≤ madeN 6 ly ∧ want = facN y.toNat) (fun x : Int × Int => match x with | (want, y) => (madeN 6 ly - y).toNat) (1, 0) ⟨rfl, rfl, trivial⟩ ⟨hS, (by first | omega | simp), (by first | omega | simp), (rfl)⟩ ?_
      rintro ⟨want, y⟩ u_273 w_272 ⟨hS, g0, g1, g2⟩
      refine W.seq ?_
      refine W.reg ?_
      refine Wx.rd (v := .bool (decide (y < (al.length : Int)))) (rd_lss rfl rfl) rfl ?_
      refine Wx.nil ?_
      refine W.seq ?_
      refine W.condD rfl (fun c4 => ?_) (fun c4 => ?_)
      · -- yes
        have hfb := facN_bd y.toNat (by omega)
        have hfn : facN y.toNat * (y + 1) ≤ 5040 * 7 := Int.mul_le_mul hfb.2 (by omega) (by omega) (by omega)
        have hfz : 0 ≤ facN y.toNat * (y + 1) := Int.mul_nonneg (by omega) (by omega)
        refine W.skip ?_
        refine W.seq ?_
        refine W.block ?_
        refine W.seq ?_
        refine W.reg ?_
        refine Wx.rd (v := .int .i64 y) (rd_move rfl) rfl ?_
        refine Wx.rd (v := .int .i64 y) (rd_assign rfl) rfl ?_
        refine Wx.nil ?_
        refine W.reg ?_
        refine Wx.rd (v := .int .i64 want) (rd_move rfl) rfl ?_
        refine Wx.rd (v := .int .i64 y) (rd_move rfl) rfl ?_
        refine Wx.rd (v := .int .i64 (y + 1)) (rd_add rfl rfl (in_i64 (by omega) (by omega))) rfl ?_
        refine Wx.rd (v := .int .i64 (want * (y + 1))) (rd_mul rfl rfl (by rw [g2]; exact in_i64 (by omega) (by omega))) rfl ?_
        refine Wx.rd (v := .int .i64 (want * (y + 1))) (rd_assign rfl) rfl ?_
        refine Wx.nil ?_
        refine W.reg ?_
        refine Wx.rd (v := .int .i64 (y + 1)) (rd_add rfl rfl (in_i64 (by omega) (by omega))) rfl ?_
        refine Wx.rd (v := .int .i64 (y + 1)) (rd_move rfl) rfl ?_
        refine Wx.nil ?_
        refine ⟨(want * (y + 1), y + 1), (by show (madeN 6 ly - (y + 1)).toNat < (madeN 6 ly - y).toNat; omega), ?_, ?_, Out.look rfl Out.self⟩
        · exact ⟨hS, (by first | omega | assumption), (by first | omega | assumption), (by rw [g2]; exact (facN_next g0).symm)⟩
        · exact ⟨rfl, rfl, trivial⟩
      · -- no
        refine W.exit rfl ?_
        refine W.seq ?_
        refine W.reg ?_
        refine Wx.rd (v := .int .i64 (countE (madeN 6 ly) (madeF 6 8 ly mn [z0, z1, z2, z3, z4, z5, z6, z7, z8, z9]))) (rd_move rfl) rfl ?_
        refine Wx.rd (v := .int .i64 want) (rd_move rfl) rfl ?_
        refine Wx.rd (v := .bool (decide ((countE (madeN 6 ly) (madeF 6 8 ly mn [z0, z1, z2, z3, z4, z5, z6, z7, z8, z9])) = want))) (rd_eql rfl rfl) rfl ?_
        refine Wx.rd (v := .bool (decide ((countE (madeN 6 ly) (madeF 6 8 ly mn [z0, z1, z2, z3, z4, z5, z6, z7, z8, z9])) = want))) (rd_move rfl) rfl ?_
        refine Wx.cut (X := Unit) 2 [82, 83] (fun _ => [(83, .bool (decide ((countE (madeN 6 ly) (madeF 6 8 ly mn [z0, z1, z2, z3, z4, z5, z6, z7, z8, z9])) = want) && true))]) (fun _ w' => St w [] w' [.box gm 24 [.int .i64 (madeN 6 ly), mv], .row (tSl (tI .i64)) 28 mv ((madeF 6 8 ly mn [z0, z1, z2, z3, z4, z5, z6, z7, z8, z9]) ++ [[one % (madeN 6 ly)], al]), Ob.v (tSl (tI .i64)) al av, .box g_12 24 [.int .i64 (madeN 6 ly), v_8], Ob.v (tSl (tSl (tI .i64))) (madeF 6 8 ly mn [z0, z1, z2, z3, z4, z5, z6, z7, z8, z9]) v_8, .box g_1 64 [.int .u8 ly, .int .u8 mn, .int .u8 z0, .int .u8 z1, .int .u8 z2, .int .u8 z3, .int .u8 z4, .int .u8 z5, .int .u8 z6, .int .u8 z7, .int .u8 z8, .int .u8 z9]]) ?_ ?_
        · rcases Bool.eq_false_or_eq_true (decide ((countE (madeN 6 ly) (madeF 6 8 ly mn [z0, z1, z2, z3, z4, z5, z6, z7, z8, z9])) = want)) with g_274 | g_274
          · -- True
            have gp_275 := of_decide_eq_true g_274
            refine Wx.gyes rfl rfl (congrArg Value.bool g_274) ?_
            refine Wx.callF (run_callF Try.call15 rfl) (F15) rfl ?_
            rintro r_276 w_277 hx_278 rfl
            have hS := hS.ext hx_278
            refine Wx.rd (v := .bool true) (rd_pickT (congrArg Value.bool g_274) rfl) rfl ?_
            refine Wx.nil ⟨(), hS, ⟨?_, trivial⟩, Out.look rfl Out.refl⟩
            show Value.bool true = Value.bool (decide ((countE (madeN 6 ly) (madeF 6 8 ly mn [z0, z1, z2, z3, z4, z5, z6, z7, z8, z9])) = want) && true)
            rw [g_274]; rfl
          · -- False
            have gp_279 := of_decide_eq_false g_274
            refine Wx.gnoB rfl rfl (congrArg Value.bool g_274) rfl rfl ?_
            refine Wx.rd (v := .bool false) (rd_pickF (congrArg Value.bool g_274) rfl) rfl ?_
            refine Wx.nil ⟨(), hS, ⟨?_, trivial⟩, Out.look rfl Out.refl⟩
            show Value.bool false = Value.bool (decide ((countE (madeN 6 ly) (madeF 6 8 ly mn [z0, z1, z2, z3, z4, z5, z6, z7, z8, z9])) = want) && true)
            rw [g_274]; rfl
        rintro ⟨⟩ u_281 w_280 hS
        refine Wx.rd (v := .bool (decide ((countE (madeN 6 ly) (madeF 6 8 ly mn [z0, z1, z2, z3, z4, z5, z6, z7, z8, z9])) = want) && true)) (rd_assign rfl) rfl ?_
        refine Wx.nil ?_
        have e0_0 : (decide ((countE (madeN 6 ly) (madeF 6 8 ly mn [z0, z1, z2, z3, z4, z5, z6, z7, z8, z9])) = want) && true) = true := by rw [hz c3, g2, show y = madeN 6 ly by omega]; simp
        exact W.ret ⟨.bool (decide ((countE (madeN 6 ly) (madeF 6 8 ly mn [z0, z1, z2, z3, z4, z5, z6, z7, z8, z9])) = want) && true), ResIs.one, hS.bel, (by rw [e0_0])⟩
    · -- no
      obtain ⟨hl1, hl2, hl3⟩ := hnz c3
      have hi0 : 0 ≤ (one % ((madeF 6 8 ly mn [z0, z1, z2, z3, z4, z5, z6, z7, z8, z9]).length : Int)) := Int.emod_nonneg _ (by omega)
      have hi1 : (one % ((madeF 6 8 ly mn [z0, z1, z2, z3, z4, z5, z6, z7, z8, z9]).length : Int)) < ((madeF 6 8 ly mn [z0, z1, z2, z3, z4, z5, z6, z7, z8, z9]).length : Int) := Int.emod_lt_of_pos _ (by omega)
      refine W.skip ?_
      refine W.seq ?_
      refine W.reg ?_
      refine Wx.rd (v := .int .u8 one) (rd_move rfl) rfl ?_
      refine Wx.rd (v := .int .i64 one) (rd_convIn rfl Try.underlying5 Try.underlying3 (in_i64 (by omega) (by omega))) rfl ?_
      refine Wx.rd (v := .pointer (some ⟨g_12, 1, none⟩)) (rd_fieldAddr rfl foGl_24_1) rfl ?_
      refine Wx.rd (v := v_8) (rd_loadX hS 3 rfl rfl rfl Try.isAgg22) rfl ?_
      refine Wx.rd (v := .int .i64 ((madeF 6 8 ly mn [z0, z1, z2, z3, z4, z5, z6, z7, z8, z9]).length : Int)) (rd_lenV rfl (hS.v 4 rfl) Try.underlying22) rfl ?_
      refine Wx.rd (v := .int .i64 (one % ((madeF 6 8 ly mn [z0, z1, z2, z3, z4, z5, z6, z7, z8, z9]).length : Int))) (rd_rem rfl rfl (by omega) (by omega)) rfl ?_
      refine Wx.rd (v := .int .i64 (one % ((madeF 6 8 ly mn [z0, z1, z2, z3, z4, z5, z6, z7, z8, z9]).length : Int))) (rd_assign rfl) rfl ?_
      refine Wx.nil ?_
      refine W.seq ?_
      refine W.cutK [15, 90, 91, 92, 93, 94, 95, 96, 97, 98, 99] (fun x : Nat × Value => match x with | (gl, lv) => [(15, .pointer (some ⟨gl, 0, none⟩))]) (fun (x : Nat × Value) w' => match x with | (gl, lv) => St w [] w' [.box gl 24 [.int .i64 (madeN 6 ly), lv], .row (tSl (tI .i64)) 28 lv (List.take (one % ((madeF 6 8 ly mn [z0, z1, z2, z3, z4, z5, z6, z7, z8, z9]).length : Int)).toNat (madeF 6 8 ly mn [z0, z1, z2, z3, z4, z5, z6, z7, z8, z9]) ++ List.drop ((one % ((madeF 6 8 ly mn [z0, z1, z2, z3, z4, z5, z6, z7, z8, z9]).length : Int)) + 1).toNat (madeF 6 8 ly mn [z0, z1, z2, z3, z4, z5, z6, z7, z8, z9])), .box gm 24 [.int .i64 (madeN 6 ly), mv], .row (tSl (tI .i64)) 28 mv ((madeF 6 8 ly mn [z0, z1, z2, z3, z4, z5, z6, z7, z8, z9]) ++ [[one % (madeN 6 ly)], al]), Ob.v (tSl (tI .i64)) al av, .box g_12 24 [.int .i64 (madeN 6 ly), v_8], Ob.v (tSl (tSl (tI .i64))) (madeF 6 8 ly mn [z0, z1, z2, z3, z4, z5, z6, z7, z8, z9]) v_8, .box g_1 64 [.int .u8 ly, .int .u8 mn, .int .u8 z0, .int .u8 z1, .int .u8 z2, .int .u8 z3, .int .u8 z4, .int .u8 z5, .int .u8 z6, .int .u8 z7, .int .u8 z8, .int .u8 z9]]) ?_ ?_
      · -- up to the cut
        refine W.regH mixedGl_ (fun w_282 hx_283 => ?_)
        have h0 := hS
        have hS := (St.start _ _ h0.fb_lt).ext hx_283
        refine Wh.rd (v := .pointer (some ⟨g_12, 0, none⟩)) 0 rfl (by kernel_rfl) hS.bel (rd_fieldAddr rfl foGl_24_0) rfl ?_
        refine Wh.rd (v := .int .i64 (madeN 6 ly)) 1 rfl (by kernel_rfl) hS.bel (rd_loadX h0 3 rfl rfl rfl Try.isAgg3) rfl ?_
        refine Wh.rd (v := .pointer (some ⟨g_12, 1, none⟩)) 2 rfl (by kernel_rfl) hS.bel (rd_fieldAddr rfl foGl_24_1) rfl ?_
        refine Wh.rd (v := v_8) 3 rfl (by kernel_rfl) hS.bel (rd_loadX h0 3 rfl rfl rfl Try.isAgg22) rfl ?_
        refine Wh.rd (v := .int .i64 (one % ((madeF 6 8 ly mn [z0, z1, z2, z3, z4, z5, z6, z7, z8, z9]).length : Int))) 5 rfl (by kernel_rfl) hS.bel (rd_move rfl) rfl ?_
        refine Wh.rd (v := .int .i64 (one % ((madeF 6 8 ly mn [z0, z1, z2, z3, z4, z5, z6, z7, z8, z9]).length : Int))) 6 rfl (by kernel_rfl) hS.bel (rd_move rfl) rfl ?_
        refine Wh.rd (v := .int .i64 ((one % ((madeF 6 8 ly mn [z0, z1, z2, z3, z4, z5, z6, z7, z8, z9]).length : Int)) + 1)) 7 rfl (by kernel_rfl) hS.bel (rd_add rfl rfl (in_i64 (by omega) (by omega))) rfl ?_
        refine Wh.br [4, 10] (by kernel_rfl) (by decide) ⟨⟨_, rfl, ?_⟩, ⟨_, rfl, ?_⟩, trivial⟩
        · -- operation 4
          refine Wx.callF (run_callF Try.call52 rfl) (F52 (hS.arg (h0.v 4 rfl)) (by omega) hS.fb_lt) rfl ?_
          rintro r_284 w_285 hx_286 ⟨_, rfl, hv_287⟩
          have hS := hS.pushFrO hx_286 hv_287
          refine Wx.nil ⟨hS.bel, ?_⟩
          refine Wh.br [8, 10] (by kernel_rfl) (by decide) ⟨⟨_, rfl, ?_⟩, ⟨_, rfl, ?_⟩, trivial⟩
          · -- operation 8
            refine Wx.callB (run_callF Try.call53 rfl) (F53 (ob := []) (in_i64 (by omega) (by omega)) (in_i64 (by omega) (by omega)) (by omega) (by omega) (by omega) (hS.front 0 rfl)) rfl ?_
            rintro r_289 w_290 ⟨_, rfl, hS⟩
            have hS : St _ _ w_290 [.row (tSl (tI .i64)) 28 r_289 (List.take (one % ((madeF 6 8 ly mn [z0, z1, z2, z3, z4, z5, z6, z7, z8, z9]).length : Int)).toNat (madeF 6 8 ly mn [z0, z1, z2, z3, z4, z5, z6, z7, z8, z9]) ++ List.drop ((one % ((madeF 6 8 ly mn [z0, z1, z2, z3, z4, z5, z6, z7, z8, z9]).length : Int)) + 1).toNat (madeF 6 8 ly mn [z0, z1, z2, z3, z4, z5, z6, z7, z8, z9]))] := St.putBack (obs := [.row (tSl (tI .i64)) 28 r_284 (madeF 6 8 ly mn [z0, z1, z2, z3, z4, z5, z6, z7, z8, z9])]) 0 hS (by simp)
            refine Wx.nil ⟨hS.bel, ?_⟩
            refine Wh.rd (v := .agg #[.int .i64 (madeN 6 ly), r_289]) 9 rfl (by kernel_rfl) hS.bel (rd_buildC (vs := [(0, .int .i64 (madeN 6 ly)), (1, r_289)]) (us := [(0, .agg #[.int .i64 (madeN 6 ly)]), (1, .agg #[r_289])]) rfl (parts_cons rfl (parts_cons (cells_one (hS.rowOne 0 rfl)) parts_nil)) (by kernel_rfl)) rfl ?_
            refine Wh.br [10] (by kernel_rfl) (by decide) ⟨⟨_, rfl, ?_⟩, trivial⟩
            refine Wx.alloc (cs := [.int .i64 0, (.slice none 0 0)]) hS Try.zeroValue24 rfl rfl (fun g_291 w_292 hx_294 hb_293 hS => ?_)
            refine Wx.nil ⟨hS.bel, ?_⟩
            refine Wh.br [11] (by kernel_rfl) (by decide) ⟨⟨_, rfl, ?_⟩, trivial⟩
            refine Wx.storeX (cs' := [.int .i64 (madeN 6 ly), r_289]) (ds := [.int .i64 (madeN 6 ly), r_289]) hS 0 rfl rfl rfl rfl Try.sizeOf24 (Nat.le_of_ble_eq_true rfl) (one_cons rfl (one_cons (hS.rowOne 1 rfl) one_nil)) rfl (fun w_295 hz_296 hS => ?_)
            refine Wx.nil ⟨hS.bel, ?_⟩
            refine Wh.done (by kernel_rfl) ?_
            have hS := h0.merge hS
            have hS := hS.front 7 rfl
            have hS := hS.front 7 rfl
            have hS := hS.front 7 rfl
            have hS := hS.front 7 rfl
            have hS := hS.front 7 rfl
            have hS := hS.front 7 rfl
            have hS := hS.front 7 rfl
            have hS := hS.front 7 rfl
            refine ⟨(g_291, r_289), ?_, ?_, Out.look rfl Out.refl⟩
            · exact hS
            · exact ⟨rfl, trivial⟩
          · -- operation 10
            refine Wx.alloc (cs := [.int .i64 0, (.slice none 0 0)]) hS Try.zeroValue24 rfl rfl (fun g_297 w_298 hx_300 hb_299 hS => ?_)
            refine Wx.nil ⟨hS.bel, ?_⟩
            refine Wh.br [8] (by kernel_rfl) (by decide) ⟨⟨_, rfl, ?_⟩, trivial⟩
            refine Wx.callB (run_callF Try.call53 rfl) (F53 (ob := [.box g_297 24 [.int .i64 0, (.slice none 0 0)]]) (in_i64 (by omega) (by omega)) (in_i64 (by omega) (by omega)) (by omega) (by omega) (by omega) (hS.front 1 rfl)) rfl ?_
            rintro r_301 w_302 ⟨_, rfl, hS⟩
            have hS : St _ _ w_302 [.box g_297 24 [.int .i64 0, (.slice none 0 0)], .row (tSl (tI .i64)) 28 r_301 (List.take (one % ((madeF 6 8 ly mn [z0, z1, z2, z3, z4, z5, z6, z7, z8, z9]).length : Int)).toNat (madeF 6 8 ly mn [z0, z1, z2, z3, z4, z5, z6, z7, z8, z9]) ++ List.drop ((one % ((madeF 6 8 ly mn [z0, z1, z2, z3, z4, z5, z6, z7, z8, z9]).length : Int)) + 1).toNat (madeF 6 8 ly mn [z0, z1, z2, z3, z4, z5, z6, z7, z8, z9]))] := St.putBack (obs := [.box g_297 24 [.int .i64 0, (.slice none 0 0)], .row (tSl (tI .i64)) 28 r_284 (madeF 6 8 ly mn [z0, z1, z2, z3, z4, z5, z6, z7, z8, z9])]) 1 hS (by simp)
            refine Wx.nil ⟨hS.bel, ?_⟩
            refine Wh.rd (v := .agg #[.int .i64 (madeN 6 ly), r_301]) 9 rfl (by kernel_rfl) hS.bel (rd_buildC (vs := [(0, .int .i64 (madeN 6 ly)), (1, r_301)]) (us := [(0, .agg #[.int .i64 (madeN 6 ly)]), (1, .agg #[r_301])]) rfl (parts_cons rfl (parts_cons (cells_one (hS.rowOne 1 rfl)) parts_nil)) (by kernel_rfl)) rfl ?_
            refine Wh.br [11] (by kernel_rfl) (by decide) ⟨⟨_, rfl, ?_⟩, trivial⟩
            refine Wx.storeX (cs' := [.int .i64 (madeN 6 ly), r_301]) (ds := [.int .i64 (madeN 6 ly), r_301]) hS 0 rfl rfl rfl rfl Try.sizeOf24 (Nat.le_of_ble_eq_true rfl) (one_cons rfl (one_cons (hS.rowOne 1 rfl) one_nil)) rfl (fun w_303 hz_304 hS => ?_)
            refine Wx.nil ⟨hS.bel, ?_⟩
            refine Wh.done (by kernel_rfl) ?_
            have hS := h0.merge hS
            have hS := hS.front 7 rfl
            have hS := hS.front 7 rfl
            have hS := hS.front 7 rfl
            have hS := hS.front 7 rfl
            have hS := hS.front 7 rfl
            have hS := hS.front 7 rfl
            have hS := hS.front 7 rfl
            have hS := hS.front 7 rfl
            refine ⟨(g_297, r_301), ?_, ?_, Out.look rfl Out.refl⟩
            · exact hS
            · exact ⟨rfl, trivial⟩
        · -- operation 10
          refine Wx.alloc (cs := [.int .i64 0, (.slice none 0 0)]) hS Try.zeroValue24 rfl rfl (fun g_305 w_306 hx_308 hb_307 hS => ?_)
          refine Wx.nil ⟨hS.bel, ?_⟩
          refine Wh.br [4] (by kernel_rfl) (by decide) ⟨⟨_, rfl, ?_⟩, trivial⟩
          refine Wx.callF (run_callF Try.call52 rfl) (F52 (hS.arg (h0.v 4 rfl)) (by omega) hS.fb_lt) rfl ?_
          rintro r_309 w_310 hx_311 ⟨_, rfl, hv_312⟩
          have hS := hS.pushFrO hx_311 hv_312
          refine Wx.nil ⟨hS.bel, ?_⟩
          refine Wh.br [8] (by kernel_rfl) (by decide) ⟨⟨_, rfl, ?_⟩, trivial⟩
          refine Wx.callB (run_callF Try.call53 rfl) (F53 (ob := [.box g_305 24 [.int .i64 0, (.slice none 0 0)]]) (in_i64 (by omega) (by omega)) (in_i64 (by omega) (by omega)) (by omega) (by omega) (by omega) (hS.front 0 rfl)) rfl ?_
          rintro r_314 w_315 ⟨_, rfl, hS⟩
          have hS : St _ _ w_315 [.row (tSl (tI .i64)) 28 r_314 (List.take (one % ((madeF 6 8 ly mn [z0, z1, z2, z3, z4, z5, z6, z7, z8, z9]).length : Int)).toNat (madeF 6 8 ly mn [z0, z1, z2, z3, z4, z5, z6, z7, z8, z9]) ++ List.drop ((one % ((madeF 6 8 ly mn [z0, z1, z2, z3, z4, z5, z6, z7, z8, z9]).length : Int)) + 1).toNat (madeF 6 8 ly mn [z0, z1, z2, z3, z4, z5, z6, z7, z8, z9])), .box g_305 24 [.int .i64 0, (.slice none 0 0)]] := St.putBack (obs := [.row (tSl (tI .i64)) 28 r_309 (madeF 6 8 ly mn [z0, z1, z2, z3, z4, z5, z6, z7, z8, z9]), .box g_305 24 [.int .i64 0, (.slice none 0 0)]]) 0 hS (by simp)
          refine Wx.nil ⟨hS.bel, ?_⟩
          refine Wh.rd (v := .agg #[.int .i64 (madeN 6 ly), r_314]) 9 rfl (by kernel_rfl) hS.bel (rd_buildC (vs := [(0, .int .i64 (madeN 6 ly)), (1, r_314)]) (us := [(0, .agg #[.int .i64 (madeN 6 ly)]), (1, .agg #[r_314])]) rfl (parts_cons rfl (parts_cons (cells_one (hS.rowOne 0 rfl)) parts_nil)) (by kernel_rfl)) rfl ?_
          refine Wh.br [11] (by kernel_rfl) (by decide) ⟨⟨_, rfl, ?_⟩, trivial⟩
          refine Wx.storeX (cs' := [.int .i64 (madeN 6 ly), r_314]) (ds := [.int .i64 (madeN 6 ly), r_314]) hS 1 rfl rfl rfl rfl Try.sizeOf24 (Nat.le_of_ble_eq_true rfl) (one_cons rfl (one_cons (hS.rowOne 0 rfl) one_nil)) rfl (fun w_316 hz_317 hS => ?_)
          refine Wx.nil ⟨hS.bel, ?_⟩
          refine Wh.done (by kernel_rfl) ?_
          have hS := h0.merge hS
          have hS := hS.front 7 rfl
          have hS := hS.front 7 rfl
          have hS := hS.front 7 rfl
          have hS := hS.front 7 rfl
          have hS := hS.front 7 rfl
          have hS := hS.front 7 rfl
          have hS := hS.front 6 rfl
          have hS := hS.front 7 rfl
          refine ⟨(g_305, r_314), ?_, ?_, Out.look rfl Out.refl⟩
          · exact hS
          · exact ⟨rfl, trivial⟩
      rintro ⟨gl, lv⟩ u_319 w_318 hS
      refine W.seq ?_
      refine W.reg ?_
      refine Wx.rd (v := .agg #[.int .i64 (madeN 6 ly), lv]) (rd_loadXs (ds := [.int .i64 (madeN 6 ly), lv]) hS 0 rfl rfl rfl rfl Try.isAgg24 Try.sizeOf24) rfl ?_
      refine Wx.callF (run_callF Try.call18 rfl) (F18 (in_i64 (by omega) (by omega)) (hS.lend 1 rfl)) rfl ?_
      rintro r_320 w_321 hx_322 rfl
      have hS := hS.ext hx_322
      refine Wx.rd (v := .tuple #[.int .i64 (countE (madeN 6 ly) (List.take (one % ((madeF 6 8 ly mn [z0, z1, z2, z3, z4, z5, z6, z7, z8, z9]).length : Int)).toNat (madeF 6 8 ly mn [z0, z1, z2, z3, z4, z5, z6, z7, z8, z9]) ++ List.drop ((one % ((madeF 6 8 ly mn [z0, z1, z2, z3, z4, z5, z6, z7, z8, z9]).length : Int)) + 1).toNat (madeF 6 8 ly mn [z0, z1, z2, z3, z4, z5, z6, z7, z8, z9]))), .int .i64 (checkE (madeN 6 ly) (List.take (one % ((madeF 6 8 ly mn [z0, z1, z2, z3, z4, z5, z6, z7, z8, z9]).length : Int)).toNat (madeF 6 8 ly mn [z0, z1, z2, z3, z4, z5, z6, z7, z8, z9]) ++ List.drop ((one % ((madeF 6 8 ly mn [z0, z1, z2, z3, z4, z5, z6, z7, z8, z9]).length : Int)) + 1).toNat (madeF 6 8 ly mn [z0, z1, z2, z3, z4, z5, z6, z7, z8, z9])))]) (rd_move rfl) rfl ?_
      refine Wx.rd (v := .int .i64 (countE (madeN 6 ly) (List.take (one % ((madeF 6 8 ly mn [z0, z1, z2, z3, z4, z5, z6, z7, z8, z9]).length : Int)).toNat (madeF 6 8 ly mn [z0, z1, z2, z3, z4, z5, z6, z7, z8, z9]) ++ List.drop ((one % ((madeF 6 8 ly mn [z0, z1, z2, z3, z4, z5, z6, z7, z8, z9]).length : Int)) + 1).toNat (madeF 6 8 ly mn [z0, z1, z2, z3, z4, z5, z6, z7, z8, z9])))) (rd_extract rfl rfl) rfl ?_
      refine Wx.rd (v := .int .i64 (checkE (madeN 6 ly) (List.take (one % ((madeF 6 8 ly mn [z0, z1, z2, z3, z4, z5, z6, z7, z8, z9]).length : Int)).toNat (madeF 6 8 ly mn [z0, z1, z2, z3, z4, z5, z6, z7, z8, z9]) ++ List.drop ((one % ((madeF 6 8 ly mn [z0, z1, z2, z3, z4, z5, z6, z7, z8, z9]).length : Int)) + 1).toNat (madeF 6 8 ly mn [z0, z1, z2, z3, z4, z5, z6, z7, z8, z9])))) (rd_extract rfl rfl) rfl ?_
      refine Wx.rd (v := .int .i64 (countE (madeN 6 ly) (List.take (one % ((madeF 6 8 ly mn [z0, z1, z2, z3, z4, z5, z6, z7, z8, z9]).length : Int)).toNat (madeF 6 8 ly mn [z0, z1, z2, z3, z4, z5, z6, z7, z8, z9]) ++ List.drop ((one % ((madeF 6 8 ly mn [z0, z1, z2, z3, z4, z5, z6, z7, z8, z9]).length : Int)) + 1).toNat (madeF 6 8 ly mn [z0, z1, z2, z3, z4, z5, z6, z7, z8, z9])))) (rd_assign rfl) rfl ?_
      refine Wx.rd (v := .int .i64 (checkE (madeN 6 ly) (List.take (one % ((madeF 6 8 ly mn [z0, z1, z2, z3, z4, z5, z6, z7, z8, z9]).length : Int)).toNat (madeF 6 8 ly mn [z0, z1, z2, z3, z4, z5, z6, z7, z8, z9]) ++ List.drop ((one % ((madeF 6 8 ly mn [z0, z1, z2, z3, z4, z5, z6, z7, z8, z9]).length : Int)) + 1).toNat (madeF 6 8 ly mn [z0, z1, z2, z3, z4, z5, z6, z7, z8, z9])))) (rd_assign rfl) rfl ?_
      refine Wx.nil ?_
      refine W.seq ?_
      refine W.reg ?_
      refine Wx.rd (v := .int .i64 (checkE (madeN 6 ly) (List.take (one % ((madeF 6 8 ly mn [z0, z1, z2, z3, z4, z5, z6, z7, z8, z9]).length : Int)).toNat (madeF 6 8 ly mn [z0, z1, z2, z3, z4, z5, z6, z7, z8, z9]) ++ List.drop ((one % ((madeF 6 8 ly mn [z0, z1, z2, z3, z4, z5, z6, z7, z8, z9]).length : Int)) + 1).toNat (madeF 6 8 ly mn [z0, z1, z2, z3, z4, z5, z6, z7, z8, z9])))) (rd_move rfl) rfl ?_
      refine Wx.rd (v := .bool (decide ((checkE (madeN 6 ly) (List.take (one % ((madeF 6 8 ly mn [z0, z1, z2, z3, z4, z5, z6, z7, z8, z9]).length : Int)).toNat (madeF 6 8 ly mn [z0, z1, z2, z3, z4, z5, z6, z7, z8, z9]) ++ List.drop ((one % ((madeF 6 8 ly mn [z0, z1, z2, z3, z4, z5, z6, z7, z8, z9]).length : Int)) + 1).toNat (madeF 6 8 ly mn [z0, z1, z2, z3, z4, z5, z6, z7, z8, z9]))) = 0))) (rd_eql rfl rfl) rfl ?_
      refine Wx.rd (v := .bool (decide ((checkE (madeN 6 ly) (List.take (one % ((madeF 6 8 ly mn [z0, z1, z2, z3, z4, z5, z6, z7, z8, z9]).length : Int)).toNat (madeF 6 8 ly mn [z0, z1, z2, z3, z4, z5, z6, z7, z8, z9]) ++ List.drop ((one % ((madeF 6 8 ly mn [z0, z1, z2, z3, z4, z5, z6, z7, z8, z9]).length : Int)) + 1).toNat (madeF 6 8 ly mn [z0, z1, z2, z3, z4, z5, z6, z7, z8, z9]))) = 0))) (rd_move rfl) rfl ?_
      refine Wx.cut (X := Unit) 4 [108, 109, 110, 111] (fun _ => [(111, .bool (decide ((checkE (madeN 6 ly) (List.take (one % ((madeF 6 8 ly mn [z0, z1, z2, z3, z4, z5, z6, z7, z8, z9]).length : Int)).toNat (madeF 6 8 ly mn [z0, z1, z2, z3, z4, z5, z6, z7, z8, z9]) ++ List.drop ((one % ((madeF 6 8 ly mn [z0, z1, z2, z3, z4, z5, z6, z7, z8, z9]).length : Int)) + 1).toNat (madeF 6 8 ly mn [z0, z1, z2, z3, z4, z5, z6, z7, z8, z9]))) = 0) && decide ((countE (madeN 6 ly) (madeF 6 8 ly mn [z0, z1, z2, z3, z4, z5, z6, z7, z8, z9])) ≤ (countE (madeN 6 ly) (List.take (one % ((madeF 6 8 ly mn [z0, z1, z2, z3, z4, z5, z6, z7, z8, z9]).length : Int)).toNat (madeF 6 8 ly mn [z0, z1, z2, z3, z4, z5, z6, z7, z8, z9]) ++ List.drop ((one % ((madeF 6 8 ly mn [z0, z1, z2, z3, z4, z5, z6, z7, z8, z9]).length : Int)) + 1).toNat (madeF 6 8 ly mn [z0, z1, z2, z3, z4, z5, z6, z7, z8, z9]))))))]) (fun _ w' => St w [] w' [.box gl 24 [.int .i64 (madeN 6 ly), lv], .row (tSl (tI .i64)) 28 lv (List.take (one % ((madeF 6 8 ly mn [z0, z1, z2, z3, z4, z5, z6, z7, z8, z9]).length : Int)).toNat (madeF 6 8 ly mn [z0, z1, z2, z3, z4, z5, z6, z7, z8, z9]) ++ List.drop ((one % ((madeF 6 8 ly mn [z0, z1, z2, z3, z4, z5, z6, z7, z8, z9]).length : Int)) + 1).toNat (madeF 6 8 ly mn [z0, z1, z2, z3, z4, z5, z6, z7, z8, z9])), .box gm 24 [.int .i64 (madeN 6 ly), mv], .row (tSl (tI .i64)) 28 mv ((madeF 6 8 ly mn [z0, z1, z2, z3, z4, z5, z6, z7, z8, z9]) ++ [[one % (madeN 6 ly)], al]), Ob.v (tSl (tI .i64)) al av, .box g_12 24 [.int .i64 (madeN 6 ly), v_8], Ob.v (tSl (tSl (tI .i64))) (madeF 6 8 ly mn [z0, z1, z2, z3, z4, z5, z6, z7, z8, z9]) v_8, .box g_1 64 [.int .u8 ly, .int .u8 mn, .int .u8 z0, .int .u8 z1, .int .u8 z2, .int .u8 z3, .int .u8 z4, .int .u8 z5, .int .u8 z6, .int .u8 z7, .int .u8 z8, .int .u8 z9]]) ?_ ?_
      · rcases Bool.eq_false_or_eq_true (decide ((checkE (madeN 6 ly) (List.take (one % ((madeF 6 8 ly mn [z0, z1, z2, z3, z4, z5, z6, z7, z8, z9]).length : Int)).toNat (madeF 6 8 ly mn [z0, z1, z2, z3, z4, z5, z6, z7, z8, z9]) ++ List.drop ((one % ((madeF 6 8 ly mn [z0, z1, z2, z3, z4, z5, z6, z7, z8, z9]).length : Int)) + 1).toNat (madeF 6 8 ly mn [z0, z1, z2, z3, z4, z5, z6, z7, z8, z9]))) = 0)) with g_323 | g_323
        · -- True
          have gp_324 := of_decide_eq_true g_323
          refine Wx.gyes rfl rfl (congrArg Value.bool g_323) ?_
          refine Wx.rd (v := .int .i64 (countE (madeN 6 ly) (List.take (one % ((madeF 6 8 ly mn [z0, z1, z2, z3, z4, z5, z6, z7, z8, z9]).length : Int)).toNat (madeF 6 8 ly mn [z0, z1, z2, z3, z4, z5, z6, z7, z8, z9]) ++ List.drop ((one % ((madeF 6 8 ly mn [z0, z1, z2, z3, z4, z5, z6, z7, z8, z9]).length : Int)) + 1).toNat (madeF 6 8 ly mn [z0, z1, z2, z3, z4, z5, z6, z7, z8, z9])))) (rd_move rfl) rfl ?_
          refine Wx.gyes rfl rfl (congrArg Value.bool g_323) ?_
          refine Wx.rd (v := .int .i64 (countE (madeN 6 ly) (madeF 6 8 ly mn [z0, z1, z2, z3, z4, z5, z6, z7, z8, z9]))) (rd_move rfl) rfl ?_
          refine Wx.gyes rfl rfl (congrArg Value.bool g_323) ?_
          refine Wx.rd (v := .bool (decide ((countE (madeN 6 ly) (madeF 6 8 ly mn [z0, z1, z2, z3, z4, z5, z6, z7, z8, z9])) ≤ (countE (madeN 6 ly) (List.take (one % ((madeF 6 8 ly mn [z0, z1, z2, z3, z4, z5, z6, z7, z8, z9]).length : Int)).toNat (madeF 6 8 ly mn [z0, z1, z2, z3, z4, z5, z6, z7, z8, z9]) ++ List.drop ((one % ((madeF 6 8 ly mn [z0, z1, z2, z3, z4, z5, z6, z7, z8, z9]).length : Int)) + 1).toNat (madeF 6 8 ly mn [z0, z1, z2, z3, z4, z5, z6, z7, z8, z9])))))) (rd_geq rfl rfl) rfl ?_
          refine Wx.rd (v := .bool (decide ((countE (madeN 6 ly) (madeF 6 8 ly mn [z0, z1, z2, z3, z4, z5, z6, z7, z8, z9])) ≤ (countE (madeN 6 ly) (List.take (one % ((madeF 6 8 ly mn [z0, z1, z2, z3, z4, z5, z6, z7, z8, z9]).length : Int)).toNat (madeF 6 8 ly mn [z0, z1, z2, z3, z4, z5, z6, z7, z8, z9]) ++ List.drop ((one % ((madeF 6 8 ly mn [z0, z1, z2, z3, z4, z5, z6, z7, z8, z9]).length : Int)) + 1).toNat (madeF 6 8 ly mn [z0, z1, z2, z3, z4, z5, z6, z7, z8, z9])))))) (rd_pickT (congrArg Value.bool g_323) rfl) rfl ?_
          refine Wx.nil ⟨(), hS, ⟨?_, trivial⟩, Out.look rfl Out.refl⟩
          show Value.bool (decide ((countE (madeN 6 ly) (madeF 6 8 ly mn [z0, z1, z2, z3, z4, z5, z6, z7, z8, z9])) ≤ (countE (madeN 6 ly) (List.take (one % ((madeF 6 8 ly mn [z0, z1, z2, z3, z4, z5, z6, z7, z8, z9]).length : Int)).toNat (madeF 6 8 ly mn [z0, z1, z2, z3, z4, z5, z6, z7, z8, z9]) ++ List.drop ((one % ((madeF 6 8 ly mn [z0, z1, z2, z3, z4, z5, z6, z7, z8, z9]).length : Int)) + 1).toNat (madeF 6 8 ly mn [z0, z1, z2, z3, z4, z5, z6, z7, z8, z9]))))) = Value.bool (decide ((checkE (madeN 6 ly) (List.take (one % ((madeF 6 8 ly mn [z0, z1, z2, z3, z4, z5, z6, z7, z8, z9]).length : Int)).toNat (madeF 6 8 ly mn [z0, z1, z2, z3, z4, z5, z6, z7, z8, z9]) ++ List.drop ((one % ((madeF 6 8 ly mn [z0, z1, z2, z3, z4, z5, z6, z7, z8, z9]).length : Int)) + 1).toNat (madeF 6 8 ly mn [z0, z1, z2, z3, z4, z5, z6, z7, z8, z9]))) = 0) && decide ((countE (madeN 6 ly) (madeF 6 8 ly mn [z0, z1, z2, z3, z4, z5, z6, z7, z8, z9])) ≤ (countE (madeN 6 ly) (List.take (one % ((madeF 6 8 ly mn [z0, z1, z2, z3, z4, z5, z6, z7, z8, z9]).length : Int)).toNat (madeF 6 8 ly mn [z0, z1, z2, z3, z4, z5, z6, z7, z8, z9]) ++ List.drop ((one % ((madeF 6 8 ly mn [z0, z1, z2, z3, z4, z5, z6, z7, z8, z9]).length : Int)) + 1).toNat (madeF 6 8 ly mn [z0, z1, z2, z3, z4, z5, z6, z7, z8, z9])))))
          rw [g_323]; rfl
        · -- False
          have gp_325 := of_decide_eq_false g_323
          refine Wx.gnoB rfl rfl (congrArg Value.bool g_323) rfl rfl ?_
          refine Wx.gnoB rfl rfl (congrArg Value.bool g_323) rfl rfl ?_
          refine Wx.gnoB rfl rfl (congrArg Value.bool g_323) rfl rfl ?_
          refine Wx.rd (v := .bool false) (rd_pickF (congrArg Value.bool g_323) rfl) rfl ?_
          refine Wx.nil ⟨(), hS, ⟨?_, trivial⟩, Out.look rfl Out.refl⟩
          show Value.bool false = Value.bool (decide ((checkE (madeN 6 ly) (List.take (one % ((madeF 6 8 ly mn [z0, z1, z2, z3, z4, z5, z6, z7, z8, z9]).length : Int)).toNat (madeF 6 8 ly mn [z0, z1, z2, z3, z4, z5, z6, z7, z8, z9]) ++ List.drop ((one % ((madeF 6 8 ly mn [z0, z1, z2, z3, z4, z5, z6, z7, z8, z9]).length : Int)) + 1).toNat (madeF 6 8 ly mn [z0, z1, z2, z3, z4, z5, z6, z7, z8, z9]))) = 0) && decide ((countE (madeN 6 ly) (madeF 6 8 ly mn [z0, z1, z2, z3, z4, z5, z6, z7, z8, z9])) ≤ (countE (madeN 6 ly) (List.take (one % ((madeF 6 8 ly mn [z0, z1, z2, z3, z4, z5, z6, z7, z8, z9]).length : Int)).toNat (madeF 6 8 ly mn [z0, z1, z2, z3, z4, z5, z6, z7, z8, z9]) ++ List.drop ((one % ((madeF 6 8 ly mn [z0, z1, z2, z3, z4, z5, z6, z7, z8, z9]).length : Int)) + 1).toNat (madeF 6 8 ly mn [z0, z1, z2, z3, z4, z5, z6, z7, z8, z9])))))
          rw [g_323]; rfl
      rintro ⟨⟩ u_327 w_326 hS
      refine Wx.rd (v := .bool (decide ((checkE (madeN 6 ly) (List.take (one % ((madeF 6 8 ly mn [z0, z1, z2, z3, z4, z5, z6, z7, z8, z9]).length : Int)).toNat (madeF 6 8 ly mn [z0, z1, z2, z3, z4, z5, z6, z7, z8, z9]) ++ List.drop ((one % ((madeF 6 8 ly mn [z0, z1, z2, z3, z4, z5, z6, z7, z8, z9]).length : Int)) + 1).toNat (madeF 6 8 ly mn [z0, z1, z2, z3, z4, z5, z6, z7, z8, z9]))) = 0) && decide ((countE (madeN 6 ly) (madeF 6 8 ly mn [z0, z1, z2, z3, z4, z5, z6, z7, z8, z9])) ≤ (countE (madeN 6 ly) (List.take (one % ((madeF 6 8 ly mn [z0, z1, z2, z3, z4, z5, z6, z7, z8, z9]).length : Int)).toNat (madeF 6 8 ly mn [z0, z1, z2, z3, z4, z5, z6, z7, z8, z9]) ++ List.drop ((one % ((madeF 6 8 ly mn [z0, z1, z2, z3, z4, z5, z6, z7, z8, z9]).length : Int)) + 1).toNat (madeF 6 8 ly mn [z0, z1, z2, z3, z4, z5, z6, z7, z8, z9])))))) (rd_move rfl) rfl ?_
      refine Wx.cut (X := Unit) 9 [113, 114, 115, 116, 117, 118, 119, 120, 121] (fun _ => [(121, .bool ((decide ((checkE (madeN 6 ly) (List.take (one % ((madeF 6 8 ly mn [z0, z1, z2, z3, z4, z5, z6, z7, z8, z9]).length : Int)).toNat (madeF 6 8 ly mn [z0, z1, z2, z3, z4, z5, z6, z7, z8, z9]) ++ List.drop ((one % ((madeF 6 8 ly mn [z0, z1, z2, z3, z4, z5, z6, z7, z8, z9]).length : Int)) + 1).toNat (madeF 6 8 ly mn [z0, z1, z2, z3, z4, z5, z6, z7, z8, z9]))) = 0) && decide ((countE (madeN 6 ly) (madeF 6 8 ly mn [z0, z1, z2, z3, z4, z5, z6, z7, z8, z9])) ≤ (countE (madeN 6 ly) (List.take (one % ((madeF 6 8 ly mn [z0, z1, z2, z3, z4, z5, z6, z7, z8, z9]).length : Int)).toNat (madeF 6 8 ly mn [z0, z1, z2, z3, z4, z5, z6, z7, z8, z9]) ++ List.drop ((one % ((madeF 6 8 ly mn [z0, z1, z2, z3, z4, z5, z6, z7, z8, z9]).length : Int)) + 1).toNat (madeF 6 8 ly mn [z0, z1, z2, z3, z4, z5, z6, z7, z8, z9]))))) && (decide ((madeN 6 ly) = 1) || decide (((countE (madeN 6 ly) (madeF 6 8 ly mn [z0, z1, z2, z3, z4, z5, z6, z7, z8, z9])) % 2) = 0))))]) (fun _ w' => St w [] w' [.box gl 24 [.int .i64 (madeN 6 ly), lv], .row (tSl (tI .i64)) 28 lv (List.take (one % ((madeF 6 8 ly mn [z0, z1, z2, z3, z4, z5, z6, z7, z8, z9]).length : Int)).toNat (madeF 6 8 ly mn [z0, z1, z2, z3, z4, z5, z6, z7, z8, z9]) ++ List.drop ((one % ((madeF 6 8 ly mn [z0, z1, z2, z3, z4, z5, z6, z7, z8, z9]).length : Int)) + 1).toNat (madeF 6 8 ly mn [z0, z1, z2, z3, z4, z5, z6, z7, z8, z9])), .box gm 24 [.int .i64 (madeN 6 ly), mv], .row (tSl (tI .i64)) 28 mv ((madeF 6 8 ly mn [z0, z1, z2, z3, z4, z5, z6, z7, z8, z9]) ++ [[one % (madeN 6 ly)], al]), Ob.v (tSl (tI .i64)) al av, .box g_12 24 [.int .i64 (madeN 6 ly), v_8], Ob.v (tSl (tSl (tI .i64))) (madeF 6 8 ly mn [z0, z1, z2, z3, z4, z5, z6, z7, z8, z9]) v_8, .box g_1 64 [.int .u8 ly, .int .u8 mn, .int .u8 z0, .int .u8 z1, .int .u8 z2, .int .u8 z3, .int .u8 z4, .int .u8 z5, .int .u8 z6, .int .u8 z7, .int .u8 z8, .int .u8 z9]]) ?_ ?_
      · rcases Bool.eq_false_or_eq_true (decide ((checkE (madeN 6 ly) (List.take (one % ((madeF 6 8 ly mn [z0, z1, z2, z3, z4, z5, z6, z7, z8, z9]).length : Int)).toNat (madeF 6 8 ly mn [z0, z1, z2, z3, z4, z5, z6, z7, z8, z9]) ++ List.drop ((one % ((madeF 6 8 ly mn [z0, z1, z2, z3, z4, z5, z6, z7, z8, z9]).length : Int)) + 1).toNat (madeF 6 8 ly mn [z0, z1, z2, z3, z4, z5, z6, z7, z8, z9]))) = 0) && decide ((countE (madeN 6 ly) (madeF 6 8 ly mn [z0, z1, z2, z3, z4, z5, z6, z7, z8, z9])) ≤ (countE (madeN 6 ly) (List.take (one % ((madeF 6 8 ly mn [z0, z1, z2, z3, z4, z5, z6, z7, z8, z9]).length : Int)).toNat (madeF 6 8 ly mn [z0, z1, z2, z3, z4, z5, z6, z7, z8, z9]) ++ List.drop ((one % ((madeF 6 8 ly mn [z0, z1, z2, z3, z4, z5, z6, z7, z8, z9]).length : Int)) + 1).toNat (madeF 6 8 ly mn [z0, z1, z2, z3, z4, z5, z6, z7, z8, z9]))))) with g_328 | g_328
        · -- True
          have gp_329 := g_328
          try simp only [Bool.and_eq_true, Bool.or_eq_true, Bool.not_eq_true', Bool.and_eq_false_iff, Bool.or_eq_false_iff, Bool.not_eq_false', decide_eq_true_eq, decide_eq_false_iff_not, not_or, Bool.false_eq_true, Bool.true_eq_false, false_or, or_false, not_false_eq_true] at gp_329
          refine Wx.gyes rfl rfl (congrArg Value.bool g_328) ?_
          refine Wx.rd (v := .pointer (some ⟨g_12, 0, none⟩)) (rd_fieldAddr rfl foGl_24_0) rfl ?_
          refine Wx.gyes rfl rfl (congrArg Value.bool g_328) ?_
          refine Wx.rd (v := .int .i64 (madeN 6 ly)) (rd_loadX hS 5 rfl rfl rfl Try.isAgg3) rfl ?_
          refine Wx.gyes rfl rfl (congrArg Value.bool g_328) ?_
          refine Wx.rd (v := .bool (decide ((madeN 6 ly) = 1))) (rd_eql rfl rfl) rfl ?_
          refine Wx.gyes rfl rfl (congrArg Value.bool g_328) ?_
          refine Wx.rd (v := .bool (decide ((madeN 6 ly) = 1))) (rd_move rfl) rfl ?_
          refine Wx.cut (X := Unit) 4 [117, 118, 119, 120] (fun _ => [(120, .bool (decide ((madeN 6 ly) = 1) || decide (((countE (madeN 6 ly) (madeF 6 8 ly mn [z0, z1, z2, z3, z4, z5, z6, z7, z8, z9])) % 2) = 0)))]) (fun _ w' => St w [] w' [.box gl 24 [.int .i64 (madeN 6 ly), lv], .row (tSl (tI .i64)) 28 lv (List.take (one % ((madeF 6 8 ly mn [z0, z1, z2, z3, z4, z5, z6, z7, z8, z9]).length : Int)).toNat (madeF 6 8 ly mn [z0, z1, z2, z3, z4, z5, z6, z7, z8, z9]) ++ List.drop ((one % ((madeF 6 8 ly mn [z0, z1, z2, z3, z4, z5, z6, z7, z8, z9]).length : Int)) + 1).toNat (madeF 6 8 ly mn [z0, z1, z2, z3, z4, z5, z6, z7, z8, z9])), .box gm 24 [.int .i64 (madeN 6 ly), mv], .row (tSl (tI .i64)) 28 mv ((madeF 6 8 ly mn [z0, z1, z2, z3, z4, z5, z6, z7, z8, z9]) ++ [[one % (madeN 6 ly)], al]), Ob.v (tSl (tI .i64)) al av, .box g_12 24 [.int .i64 (madeN 6 ly), v_8], Ob.v (tSl (tSl (tI .i64))) (madeF 6 8 ly mn [z0, z1, z2, z3, z4, z5, z6, z7, z8, z9]) v_8, .box g_1 64 [.int .u8 ly, .int .u8 mn, .int .u8 z0, .int .u8 z1, .int .u8 z2, .int .u8 z3, .int .u8 z4, .int .u8 z5, .int .u8 z6, .int .u8 z7, .int .u8 z8, .int .u8 z9]]) ?_ ?_
          · rcases Bool.eq_false_or_eq_true (decide ((madeN 6 ly) = 1)) with g_330 | g_330
            · -- True
              have gp_331 := of_decide_eq_true g_330
              refine Wx.gnoB rfl rfl (congrArg Value.bool g_330) rfl rfl ?_
              refine Wx.gnoB rfl rfl (congrArg Value.bool g_330) rfl rfl ?_
              refine Wx.gnoB rfl rfl (congrArg Value.bool g_330) rfl rfl ?_
              refine Wx.gyes rfl rfl (congrArg Value.bool g_328) ?_
              refine Wx.rd (v := .bool true) (rd_pickT (congrArg Value.bool g_330) rfl) rfl ?_
              refine Wx.nil ⟨(), hS, ⟨?_, trivial⟩, Out.look rfl Out.refl⟩
              show Value.bool true = Value.bool (decide ((madeN 6 ly) = 1) || decide (((countE (madeN 6 ly) (madeF 6 8 ly mn [z0, z1, z2, z3, z4, z5, z6, z7, z8, z9])) % 2) = 0))
              rw [g_330]; rfl
            · -- False
              have gp_332 := of_decide_eq_false g_330
              refine Wx.gyes rfl rfl (congrArg Value.bool g_330) ?_
              refine Wx.rd (v := .int .i64 (countE (madeN 6 ly) (madeF 6 8 ly mn [z0, z1, z2, z3, z4, z5, z6, z7, z8, z9]))) (rd_move rfl) rfl ?_
              refine Wx.gyes rfl rfl (congrArg Value.bool g_330) ?_
              refine Wx.rd (v := .int .i64 ((countE (madeN 6 ly) (madeF 6 8 ly mn [z0, z1, z2, z3, z4, z5, z6, z7, z8, z9])) % 2)) (rd_rem rfl rfl (by omega) (by omega)) rfl ?_
              refine Wx.gyes rfl rfl (congrArg Value.bool g_330) ?_
              refine Wx.rd (v := .bool (decide (((countE (madeN 6 ly) (madeF 6 8 ly mn [z0, z1, z2, z3, z4, z5, z6, z7, z8, z9])) % 2) = 0))) (rd_eql rfl rfl) rfl ?_
              refine Wx.gyes rfl rfl (congrArg Value.bool g_328) ?_
              refine Wx.rd (v := .bool (decide (((countE (madeN 6 ly) (madeF 6 8 ly mn [z0, z1, z2, z3, z4, z5, z6, z7, z8, z9])) % 2) = 0))) (rd_pickF (congrArg Value.bool g_330) rfl) rfl ?_
              refine Wx.nil ⟨(), hS, ⟨?_, trivial⟩, Out.look rfl Out.refl⟩
              show Value.bool (decide (((countE (madeN 6 ly) (madeF 6 8 ly mn [z0, z1, z2, z3, z4, z5, z6, z7, z8, z9])) % 2) = 0)) = Value.bool (decide ((madeN 6 ly) = 1) || decide (((countE (madeN 6 ly) (madeF 6 8 ly mn [z0, z1, z2, z3, z4, z5, z6, z7, z8, z9])) % 2) = 0))
              rw [g_330]; rfl
          rintro ⟨⟩ u_334 w_333 hS
          refine Wx.rd (v := .bool (decide ((madeN 6 ly) = 1) || decide (((countE (madeN 6 ly) (madeF 6 8 ly mn [z0, z1, z2, z3, z4, z5, z6, z7, z8, z9])) % 2) = 0))) (rd_pickT (congrArg Value.bool g_328) rfl) rfl ?_
          refine Wx.nil ⟨(), hS, ⟨?_, trivial⟩, Out.look rfl (Out.hav rfl (Out.look rfl Out.refl))⟩
          show Value.bool (decide ((madeN 6 ly) = 1) || decide (((countE (madeN 6 ly) (madeF 6 8 ly mn [z0, z1, z2, z3, z4, z5, z6, z7, z8, z9])) % 2) = 0)) = Value.bool ((decide ((checkE (madeN 6 ly) (List.take (one % ((madeF 6 8 ly mn [z0, z1, z2, z3, z4, z5, z6, z7, z8, z9]).length : Int)).toNat (madeF 6 8 ly mn [z0, z1, z2, z3, z4, z5, z6, z7, z8, z9]) ++ List.drop ((one % ((madeF 6 8 ly mn [z0, z1, z2, z3, z4, z5, z6, z7, z8, z9]).length : Int)) + 1).toNat (madeF 6 8 ly mn [z0, z1, z2, z3, z4, z5, z6, z7, z8, z9]))) = 0) && decide ((countE (madeN 6 ly) (madeF 6 8 ly mn [z0, z1, z2, z3, z4, z5, z6, z7, z8, z9])) ≤ (countE (madeN 6 ly) (List.take (one % ((madeF 6 8 ly mn [z0, z1, z2, z3, z4, z5, z6, z7, z8, z9]).length : Int)).toNat (madeF 6 8 ly mn [z0, z1, z2, z3, z4, z5, z6, z7, z8, z9]) ++ List.drop ((one % ((madeF 6 8 ly mn [z0, z1, z2, z3, z4, z5, z6, z7, z8, z9]).length : Int)) + 1).toNat (madeF 6 8 ly mn [z0, z1, z2, z3, z4, z5, z6, z7, z8, z9]))))) && (decide ((madeN 6 ly) = 1) || decide (((countE (madeN 6 ly) (madeF 6 8 ly mn [z0, z1, z2, z3, z4, z5, z6, z7, z8, z9])) % 2) = 0)))
          rw [g_328]; rfl
        · -- False
          have gp_335 := g_328
          try simp only [Bool.and_eq_true, Bool.or_eq_true, Bool.not_eq_true', Bool.and_eq_false_iff, Bool.or_eq_false_iff, Bool.not_eq_false', decide_eq_true_eq, decide_eq_false_iff_not, not_or, Bool.false_eq_true, Bool.true_eq_false, false_or, or_false, not_false_eq_true] at gp_335
          refine Wx.gnoB rfl rfl (congrArg Value.bool g_328) rfl rfl ?_
          refine Wx.gnoB rfl rfl (congrArg Value.bool g_328) rfl rfl ?_
          refine Wx.gnoB rfl rfl (congrArg Value.bool g_328) rfl rfl ?_
          refine Wx.gnoB rfl rfl (congrArg Value.bool g_328) rfl rfl ?_
          refine Wx.gno rfl rfl rfl rfl ?_
          refine Wx.gno rfl rfl rfl rfl ?_
          refine Wx.gno rfl rfl rfl rfl ?_
          refine Wx.gnoB rfl rfl (congrArg Value.bool g_328) rfl rfl ?_
          refine Wx.rd (v := .bool false) (rd_pickF (congrArg Value.bool g_328) rfl) rfl ?_
          refine Wx.nil ⟨(), hS, ⟨?_, trivial⟩, Out.look rfl Out.refl⟩
          show Value.bool false = Value.bool ((decide ((checkE (madeN 6 ly) (List.take (one % ((madeF 6 8 ly mn [z0, z1, z2, z3, z4, z5, z6, z7, z8, z9]).length : Int)).toNat (madeF 6 8 ly mn [z0, z1, z2, z3, z4, z5, z6, z7, z8, z9]) ++ List.drop ((one % ((madeF 6 8 ly mn [z0, z1, z2, z3, z4, z5, z6, z7, z8, z9]).length : Int)) + 1).toNat (madeF 6 8 ly mn [z0, z1, z2, z3, z4, z5, z6, z7, z8, z9]))) = 0) && decide ((countE (madeN 6 ly) (madeF 6 8 ly mn [z0, z1, z2, z3, z4, z5, z6, z7, z8, z9])) ≤ (countE (madeN 6 ly) (List.take (one % ((madeF 6 8 ly mn [z0, z1, z2, z3, z4, z5, z6, z7, z8, z9]).length : Int)).toNat (madeF 6 8 ly mn [z0, z1, z2, z3, z4, z5, z6, z7, z8, z9]) ++ List.drop ((one % ((madeF 6 8 ly mn [z0, z1, z2, z3, z4, z5, z6, z7, z8, z9]).length : Int)) + 1).toNat (madeF 6 8 ly mn [z0, z1, z2, z3, z4, z5, z6, z7, z8, z9]))))) && (decide ((madeN 6 ly) = 1) || decide (((countE (madeN 6 ly) (madeF 6 8 ly mn [z0, z1, z2, z3, z4, z5, z6, z7, z8, z9])) % 2) = 0)))
          rw [g_328]; rfl
      rintro ⟨⟩ u_337 w_336 hS
      refine Wx.rd (v := .bool ((decide ((checkE (madeN 6 ly) (List.take (one % ((madeF 6 8 ly mn [z0, z1, z2, z3, z4, z5, z6, z7, z8, z9]).length : Int)).toNat (madeF 6 8 ly mn [z0, z1, z2, z3, z4, z5, z6, z7, z8, z9]) ++ List.drop ((one % ((madeF 6 8 ly mn [z0, z1, z2, z3, z4, z5, z6, z7, z8, z9]).length : Int)) + 1).toNat (madeF 6 8 ly mn [z0, z1, z2, z3, z4, z5, z6, z7, z8, z9]))) = 0) && decide ((countE (madeN 6 ly) (madeF 6 8 ly mn [z0, z1, z2, z3, z4, z5, z6, z7, z8, z9])) ≤ (countE (madeN 6 ly) (List.take (one % ((madeF 6 8 ly mn [z0, z1, z2, z3, z4, z5, z6, z7, z8, z9]).length : Int)).toNat (madeF 6 8 ly mn [z0, z1, z2, z3, z4, z5, z6, z7, z8, z9]) ++ List.drop ((one % ((madeF 6 8 ly mn [z0, z1, z2, z3, z4, z5, z6, z7, z8, z9]).length : Int)) + 1).toNat (madeF 6 8 ly mn [z0, z1, z2, z3, z4, z5, z6, z7, z8, z9]))))) && (decide ((madeN 6 ly) = 1) || decide (((countE (madeN 6 ly) (madeF 6 8 ly mn [z0, z1, z2, z3, z4, z5, z6, z7, z8, z9])) % 2) = 0)))) (rd_move rfl) rfl ?_
      refine Wx.cut (X := Unit) 2 [123, 124] (fun _ => [(124, .bool (((decide ((checkE (madeN 6 ly) (List.take (one % ((madeF 6 8 ly mn [z0, z1, z2, z3, z4, z5, z6, z7, z8, z9]).length : Int)).toNat (madeF 6 8 ly mn [z0, z1, z2, z3, z4, z5, z6, z7, z8, z9]) ++ List.drop ((one % ((madeF 6 8 ly mn [z0, z1, z2, z3, z4, z5, z6, z7, z8, z9]).length : Int)) + 1).toNat (madeF 6 8 ly mn [z0, z1, z2, z3, z4, z5, z6, z7, z8, z9]))) = 0) && decide ((countE (madeN 6 ly) (madeF 6 8 ly mn [z0, z1, z2, z3, z4, z5, z6, z7, z8, z9])) ≤ (countE (madeN 6 ly) (List.take (one % ((madeF 6 8 ly mn [z0, z1, z2, z3, z4, z5, z6, z7, z8, z9]).length : Int)).toNat (madeF 6 8 ly mn [z0, z1, z2, z3, z4, z5, z6, z7, z8, z9]) ++ List.drop ((one % ((madeF 6 8 ly mn [z0, z1, z2, z3, z4, z5, z6, z7, z8, z9]).length : Int)) + 1).toNat (madeF 6 8 ly mn [z0, z1, z2, z3, z4, z5, z6, z7, z8, z9]))))) && (decide ((madeN 6 ly) = 1) || decide (((countE (madeN 6 ly) (madeF 6 8 ly mn [z0, z1, z2, z3, z4, z5, z6, z7, z8, z9])) % 2) = 0))) && true))]) (fun _ w' => St w [] w' [.box gl 24 [.int .i64 (madeN 6 ly), lv], .row (tSl (tI .i64)) 28 lv (List.take (one % ((madeF 6 8 ly mn [z0, z1, z2, z3, z4, z5, z6, z7, z8, z9]).length : Int)).toNat (madeF 6 8 ly mn [z0, z1, z2, z3, z4, z5, z6, z7, z8, z9]) ++ List.drop ((one % ((madeF 6 8 ly mn [z0, z1, z2, z3, z4, z5, z6, z7, z8, z9]).length : Int)) + 1).toNat (madeF 6 8 ly mn [z0, z1, z2, z3, z4, z5, z6, z7, z8, z9])), .box gm 24 [.int .i64 (madeN 6 ly), mv], .row (tSl (tI .i64)) 28 mv ((madeF 6 8 ly mn [z0, z1, z2, z3, z4, z5, z6, z7, z8, z9]) ++ [[one % (madeN 6 ly)], al]), Ob.v (tSl (tI .i64)) al av, .box g_12 24 [.int .i64 (madeN 6 ly), v_8], Ob.v (tSl (tSl (tI .i64))) (madeF 6 8 ly mn [z0, z1, z2, z3, z4, z5, z6, z7, z8, z9]) v_8, .box g_1 64 [.int .u8 ly, .int .u8 mn, .int .u8 z0, .int .u8 z1, .int .u8 z2, .int .u8 z3, .int .u8 z4, .int .u8 z5, .int .u8 z6, .int .u8 z7, .int .u8 z8, .int .u8 z9]]) ?_ ?_
      · rcases Bool.eq_false_or_eq_true ((decide ((checkE (madeN 6 ly) (List.take (one % ((madeF 6 8 ly mn [z0, z1, z2, z3, z4, z5, z6, z7, z8, z9]).length : Int)).toNat (madeF 6 8 ly mn [z0, z1, z2, z3, z4, z5, z6, z7, z8, z9]) ++ List.drop ((one % ((madeF 6 8 ly mn [z0, z1, z2, z3, z4, z5, z6, z7, z8, z9]).length : Int)) + 1).toNat (madeF 6 8 ly mn [z0, z1, z2, z3, z4, z5, z6, z7, z8, z9]))) = 0) && decide ((countE (madeN 6 ly) (madeF 6 8 ly mn [z0, z1, z2, z3, z4, z5, z6, z7, z8, z9])) ≤ (countE (madeN 6 ly) (List.take (one % ((madeF 6 8 ly mn [z0, z1, z2, z3, z4, z5, z6, z7, z8, z9]).length : Int)).toNat (madeF 6 8 ly mn [z0, z1, z2, z3, z4, z5, z6, z7, z8, z9]) ++ List.drop ((one % ((madeF 6 8 ly mn [z0, z1, z2, z3, z4, z5, z6, z7, z8, z9]).length : Int)) + 1).toNat (madeF 6 8 ly mn [z0, z1, z2, z3, z4, z5, z6, z7, z8, z9]))))) && (decide ((madeN 6 ly) = 1) || decide (((countE (madeN 6 ly) (madeF 6 8 ly mn [z0, z1, z2, z3, z4, z5, z6, z7, z8, z9])) % 2) = 0))) with g_338 | g_338
        · -- True
          have gp_339 := g_338
          try simp only [Bool.and_eq_true, Bool.or_eq_true, Bool.not_eq_true', Bool.and_eq_false_iff, Bool.or_eq_false_iff, Bool.not_eq_false', decide_eq_true_eq, decide_eq_false_iff_not, not_or, Bool.false_eq_true, Bool.true_eq_false, false_or, or_false, not_false_eq_true] at gp_339
          refine Wx.gyes rfl rfl (congrArg Value.bool g_338) ?_
          refine Wx.callF (run_callF Try.call15 rfl) (F15) rfl ?_
          rintro r_340 w_341 hx_342 rfl
          have hS := hS.ext hx_342
          refine Wx.rd (v := .bool true) (rd_pickT (congrArg Value.bool g_338) rfl) rfl ?_
          refine Wx.nil ⟨(), hS, ⟨?_, trivial⟩, Out.look rfl Out.refl⟩
          show Value.bool true = Value.bool (((decide ((checkE (madeN 6 ly) (List.take (one % ((madeF 6 8 ly mn [z0, z1, z2, z3, z4, z5, z6, z7, z8, z9]).length : Int)).toNat (madeF 6 8 ly mn [z0, z1, z2, z3, z4, z5, z6, z7, z8, z9]) ++ List.drop ((one % ((madeF 6 8 ly mn [z0, z1, z2, z3, z4, z5, z6, z7, z8, z9]).length : Int)) + 1).toNat (madeF 6 8 ly mn [z0, z1, z2, z3, z4, z5, z6, z7, z8, z9]))) = 0) && decide ((countE (madeN 6 ly) (madeF 6 8 ly mn [z0, z1, z2, z3, z4, z5, z6, z7, z8, z9])) ≤ (countE (madeN 6 ly) (List.take (one % ((madeF 6 8 ly mn [z0, z1, z2, z3, z4, z5, z6, z7, z8, z9]).length : Int)).toNat (madeF 6 8 ly mn [z0, z1, z2, z3, z4, z5, z6, z7, z8, z9]) ++ List.drop ((one % ((madeF 6 8 ly mn [z0, z1, z2, z3, z4, z5, z6, z7, z8, z9]).length : Int)) + 1).toNat (madeF 6 8 ly mn [z0, z1, z2, z3, z4, z5, z6, z7, z8, z9]))))) && (decide ((madeN 6 ly) = 1) || decide (((countE (madeN 6 ly) (madeF 6 8 ly mn [z0, z1, z2, z3, z4, z5, z6, z7, z8, z9])) % 2) = 0))) && true)
          rw [g_338]; rfl
        · -- False
          have gp_343 := g_338
          try simp only [Bool.and_eq_true, Bool.or_eq_true, Bool.not_eq_true', Bool.and_eq_false_iff, Bool.or_eq_false_iff, Bool.not_eq_false', decide_eq_true_eq, decide_eq_false_iff_not, not_or, Bool.false_eq_true, Bool.true_eq_false, false_or, or_false, not_false_eq_true] at gp_343
          refine Wx.gnoB rfl rfl (congrArg Value.bool g_338) rfl rfl ?_
          refine Wx.rd (v := .bool false) (rd_pickF (congrArg Value.bool g_338) rfl) rfl ?_
          refine Wx.nil ⟨(), hS, ⟨?_, trivial⟩, Out.look rfl Out.refl⟩
          show Value.bool false = Value.bool (((decide ((checkE (madeN 6 ly) (List.take (one % ((madeF 6 8 ly mn [z0, z1, z2, z3, z4, z5, z6, z7, z8, z9]).length : Int)).toNat (madeF 6 8 ly mn [z0, z1, z2, z3, z4, z5, z6, z7, z8, z9]) ++ List.drop ((one % ((madeF 6 8 ly mn [z0, z1, z2, z3, z4, z5, z6, z7, z8, z9]).length : Int)) + 1).toNat (madeF 6 8 ly mn [z0, z1, z2, z3, z4, z5, z6, z7, z8, z9]))) = 0) && decide ((countE (madeN 6 ly) (madeF 6 8 ly mn [z0, z1, z2, z3, z4, z5, z6, z7, z8, z9])) ≤ (countE (madeN 6 ly) (List.take (one % ((madeF 6 8 ly mn [z0, z1, z2, z3, z4, z5, z6, z7, z8, z9]).length : Int)).toNat (madeF 6 8 ly mn [z0, z1, z2, z3, z4, z5, z6, z7, z8, z9]) ++ List.drop ((one % ((madeF 6 8 ly mn [z0, z1, z2, z3, z4, z5, z6, z7, z8, z9]).length : Int)) + 1).toNat (madeF 6 8 ly mn [z0, z1, z2, z3, z4, z5, z6, z7, z8, z9]))))) && (decide ((madeN 6 ly) = 1) || decide (((countE (madeN 6 ly) (madeF 6 8 ly mn [z0, z1, z2, z3, z4, z5, z6, z7, z8, z9])) % 2) = 0))) && true)
          rw [g_338]; rfl
      rintro ⟨⟩ u_345 w_344 hS
      refine Wx.rd (v := .bool (((decide ((checkE (madeN 6 ly) (List.take (one % ((madeF 6 8 ly mn [z0, z1, z2, z3, z4, z5, z6, z7, z8, z9]).length : Int)).toNat (madeF 6 8 ly mn [z0, z1, z2, z3, z4, z5, z6, z7, z8, z9]) ++ List.drop ((one % ((madeF 6 8 ly mn [z0, z1, z2, z3, z4, z5, z6, z7, z8, z9]).length : Int)) + 1).toNat (madeF 6 8 ly mn [z0, z1, z2, z3, z4, z5, z6, z7, z8, z9]))) = 0) && decide ((countE (madeN 6 ly) (madeF 6 8 ly mn [z0, z1, z2, z3, z4, z5, z6, z7, z8, z9])) ≤ (countE (madeN 6 ly) (List.take (one % ((madeF 6 8 ly mn [z0, z1, z2, z3, z4, z5, z6, z7, z8, z9]).length : Int)).toNat (madeF 6 8 ly mn [z0, z1, z2, z3, z4, z5, z6, z7, z8, z9]) ++ List.drop ((one % ((madeF 6 8 ly mn [z0, z1, z2, z3, z4, z5, z6, z7, z8, z9]).length : Int)) + 1).toNat (madeF 6 8 ly mn [z0, z1, z2, z3, z4, z5, z6, z7, z8, z9]))))) && (decide ((madeN 6 ly) = 1) || decide (((countE (madeN 6 ly) (madeF 6 8 ly mn [z0, z1, z2, z3, z4, z5, z6, z7, z8, z9])) % 2) = 0))) && true)) (rd_assign rfl) rfl ?_
      refine Wx.nil ?_
      have e1_0 : (((decide ((checkE (madeN 6 ly) (List.take (one % ((madeF 6 8 ly mn [z0, z1, z2, z3, z4, z5, z6, z7, z8, z9]).length : Int)).toNat (madeF 6 8 ly mn [z0, z1, z2, z3, z4, z5, z6, z7, z8, z9]) ++ List.drop ((one % ((madeF 6 8 ly mn [z0, z1, z2, z3, z4, z5, z6, z7, z8, z9]).length : Int)) + 1).toNat (madeF 6 8 ly mn [z0, z1, z2, z3, z4, z5, z6, z7, z8, z9]))) = 0) && decide ((countE (madeN 6 ly) (madeF 6 8 ly mn [z0, z1, z2, z3, z4, z5, z6, z7, z8, z9])) ≤ (countE (madeN 6 ly) (List.take (one % ((madeF 6 8 ly mn [z0, z1, z2, z3, z4, z5, z6, z7, z8, z9]).length : Int)).toNat (madeF 6 8 ly mn [z0, z1, z2, z3, z4, z5, z6, z7, z8, z9]) ++ List.drop ((one % ((madeF 6 8 ly mn [z0, z1, z2, z3, z4, z5, z6, z7, z8, z9]).length : Int)) + 1).toNat (madeF 6 8 ly mn [z0, z1, z2, z3, z4, z5, z6, z7, z8, z9]))))) && (decide ((madeN 6 ly) = 1) || decide (((countE (madeN 6 ly) (madeF 6 8 ly mn [z0, z1, z2, z3, z4, z5, z6, z7, z8, z9])) % 2) = 0))) && true) = true := by rw [hl1, decide_eq_true hl2]; rcases hl3 with q | q; rw [q]; simp; rw [q]; simp
      exact W.ret ⟨.bool (((decide ((checkE (madeN 6 ly) (List.take (one % ((madeF 6 8 ly mn [z0, z1, z2, z3, z4, z5, z6, z7, z8, z9]).length : Int)).toNat (madeF 6 8 ly mn [z0, z1, z2, z3, z4, z5, z6, z7, z8, z9]) ++ List.drop ((one % ((madeF 6 8 ly mn [z0, z1, z2, z3, z4, z5, z6, z7, z8, z9]).length : Int)) + 1).toNat (madeF 6 8 ly mn [z0, z1, z2, z3, z4, z5, z6, z7, z8, z9]))) = 0) && decide ((countE (madeN 6 ly) (madeF 6 8 ly mn [z0, z1, z2, z3, z4, z5, z6, z7, z8, z9])) ≤ (countE (madeN 6 ly) (List.take (one % ((madeF 6 8 ly mn [z0, z1, z2, z3, z4, z5, z6, z7, z8, z9]).length : Int)).toNat (madeF 6 8 ly mn [z0, z1, z2, z3, z4, z5, z6, z7, z8, z9]) ++ List.drop ((one % ((madeF 6 8 ly mn [z0, z1, z2, z3, z4, z5, z6, z7, z8, z9]).length : Int)) + 1).toNat (madeF 6 8 ly mn [z0, z1, z2, z3, z4, z5, z6, z7, z8, z9]))))) && (decide ((madeN 6 ly) = 1) || decide (((countE (madeN 6 ly) (madeF 6 8 ly mn [z0, z1, z2, z3, z4, z5, z6, z7, z8, z9])) % 2) = 0))) && true), ResIs.one, hS.bel, (by rw [e1_0])⟩
end Go.Proofs.Ytjmpojoimcljoaa
