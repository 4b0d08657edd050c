/-
  WHAT IS PROVED HERE: what functions of layer 3 hand back, each out of its own code; the conditions stand in each statement.
-/
import Derived.Test.YtjmpojoimcljoaaProg
import Derived.Test.YtjmpojoimcljoaaWk9
import Derived.Test.YtjmpojoimcljoaaSpec6
import Derived.Test.YtjmpojoimcljoaaFa
import Derived.Test.YtjmpojoimcljoaaFd
namespace Go.Proofs.Ytjmpojoimcljoaa
open Go.Wk Go.RowKit
set_option linter.unusedVariables false
set_option linter.unusedSimpArgs false
theorem foFe_85_0 : fldOff Try.prog 85 0 = some 0 := by kernel_rfl
theorem elFe_28 : ElemI Try.prog 28 3 (.int .i64 0) 1 8 := ElemI.of Try.underlying28 (by kernel_rfl) (by first | rfl | kernel_rfl) (by decide)
theorem foFe_85_1 : fldOff Try.prog 85 1 = some 1 := by kernel_rfl
theorem elFe_83 : ElemI Try.prog 83 89 (.int .u8 0) 1 1 := ElemI.of Try.underlying83 (by kernel_rfl) (by first | rfl | kernel_rfl) (by decide)
theorem elFe_36 : ElemI Try.prog 36 61 (.agg #[.int .i64 0, .int .i64 0]) 2 16 := ElemI.of Try.underlying36 (by kernel_rfl) (by first | rfl | kernel_rfl) (by decide)

theorem F98 {L : Int} {sv : Value} {ss : List Int} {Fr_sv : List (Option Nat)} {ov : Value} {order : List Int} {Fr_ov : List (Option Nat)} {w : World} (i_L : InK .i64 L) (h_sv : V (tSl (tI .u8)) ss sv Fr_sv w) (h_ov : V (tSl (tI .i64)) order ov Fr_ov w) (p_1 : 1 ≤ L) (p_7 : L ≤ 7) : Calls Try.prog 98 #[.agg #[.int .i64 L, sv], ov] w (Ret w (fun r w' => ∃ rv, r = .tuple #[rv, .int .i64 ((placesR L order).2)] ∧ Fresh (tI .i64) 3 ((placesR L order).1) rv w.heap.size w')) := by
  have b_L := bd_i64 i_L
  have a_sv := h_sv.any
  have l_sv := h_sv.len63
  have a_ov := h_ov.any
  have l_ov := h_ov.len63
  have hS := St.start0 w
  refine enterR Try.func98 rfl Try.ntmps98 Try.results98 rfl ?_
  refine W.seq ?_
  refine W.reg ?_
  refine Wx.box (cs := [.int .i64 L, sv]) hS rfl rfl rfl (fun g_1 w_2 hx_4 hb_3 hS => ?_)
  refine Wx.rd (v := (.slice none 0 0)) (rd_assign rfl) rfl ?_
  refine Wx.rd (v := .int .i64 0) (rd_assign rfl) rfl ?_
  refine Wx.nil ?_
  refine W.seq ?_
  refine W.seq ?_
  refine W.reg ?_
  refine Wx.rd (v := ov) (rd_move rfl) rfl ?_
  refine Wx.rd (v := .int .i64 (order.length : Int)) (rd_lenV rfl (hS.arg a_ov) Try.underlying28) rfl ?_
  refine Wx.rd (v := .pointer (some ⟨g_1, 0, none⟩)) (rd_fieldAddr rfl foFe_85_0) rfl ?_
  refine Wx.rd (v := .int .i64 L) (rd_loadX hS 0 rfl rfl rfl Try.isAgg3) rfl ?_
  refine Wx.rd (v := .bool (decide ((order.length : Int) ≠ L))) (rd_neq rfl rfl) rfl ?_
  refine Wx.nil ?_
  refine W.condD rfl (fun c0 => ?_) (fun c0 => ?_)
  · -- yes
    refine W.seq ?_
    refine W.reg ?_
    refine Wx.rd (v := (.slice none 0 0)) (rd_assign rfl) rfl ?_
    refine Wx.rd (v := .int .i64 5) (rd_assign rfl) rfl ?_
    refine Wx.nil ?_
    have hx : placesR L order = ([], 5) := by rw [placesR, if_pos (by omega)]
    have e0_0 : (placesR L order).1 = [] := by rw [hx]
    have e0_1 : ((placesR L order).2) = (5 : Int) := by rw [hx]
    exact W.ret ⟨.tuple #[(.slice none 0 0), .int .i64 5], ResIs.two, hS.bel, ⟨(.slice none 0 0), (by rw [e0_1]), (by rw [e0_0]; exact ((hS.addNil (tI .i64) 3).fr 0 rfl flat_int))⟩⟩
  · -- no
    refine W.skip ?_
    refine W.seq ?_
    refine W.reg ?_
    refine Wx.lit (t := (tI .i64)) (ys := [-1]) (vs := [.int .i64 (-1)]) elFe_28 hS rfl rfl ⟨(V.mkInt (in_i64 (by omega) (by omega))), trivial⟩ (by decide) rfl (fun v_5 w_6 hx_7 hS => ?_)
    refine Wx.rd (v := .pointer (some ⟨g_1, 0, none⟩)) (rd_fieldAddr rfl foFe_85_0) rfl ?_
    refine Wx.rd (v := .int .i64 L) (rd_loadX hS 1 rfl rfl rfl Try.isAgg3) rfl ?_
    refine Wx.callF (run_callF Try.call113 rfl) (F113 (a := -1) (hS.lend 0 rfl) (in_i64 (by omega) (by omega)) (by omega) (by omega)) rfl ?_
    rintro r_8 w_9 hx_10 ⟨_, rfl, hv_11⟩
    have hS := hS.pushFr hx_10 hv_11
    refine Wx.rd (v := r_8) (rd_assign rfl) rfl ?_
    refine Wx.nil ?_
    refine W.seq ?_
    refine W.seq ?_
    refine W.reg ?_
    refine Wx.rd (v := ov) (rd_move rfl) rfl ?_
    refine Wx.rd (v := .int .i64 (order.length : Int)) (rd_lenV rfl (hS.arg a_ov) Try.underlying28) rfl ?_
    refine Wx.rd (v := .int .i64 0) (rd_move rfl) rfl ?_
    refine Wx.nil ?_
    refine W.block ?_
    refine W.loop [4, 5, 7, 8, 20, 21, 22, 23, 24, 25, 26, 27, 28, 29, 30, 31, 32, 33, 34, 35, 36, 37, 38, 39, 40, 41, 42, 43, 44] (fun x : Int × (List Int) => match x with | (k, out) => [(20, .int .i64 k)]) (fun (x : Int × (List Int)) w' => match x with | (k, out) => St w [] w' [.row (tI .i64) 3 r_8 out, .row (tI .i64) 3 v_5 [-1], .box g_1 85 [.int .i64 L, sv]] ∧ 0 ≤ k ∧ k ≤ order.length ∧ placesG L (order.drop k.toNat) k out = placesR L order ∧ (out.length : Int) = L) (fun x : Int × (List Int) => match x with | (k, out) => (order.length - k).toNat) (0, List.replicate L.toNat (-1)) ⟨rfl, trivial⟩ ⟨hS, (by first | omega | simp), (by first | omega | simp), (by rw [placesR, if_neg (by omega)]; simp), (by simp; omega)⟩ ?_
    rintro ⟨k, out⟩ u_14 w_13 ⟨hS, h0, h1, h2, h3⟩
    refine W.seq ?_
    refine W.reg ?_
    refine Wx.rd (v := .bool (decide (k < (order.length : Int)))) (rd_lss rfl rfl) rfl ?_
    refine Wx.nil ?_
    refine W.seq ?_
    refine W.condD rfl (fun c1 => ?_) (fun c1 => ?_)
    · -- yes
      refine W.skip ?_
      refine W.seq ?_
      refine W.block ?_
      refine W.seq ?_
      refine W.reg ?_
      refine Wx.rd (v := .int .i64 k) (rd_move rfl) rfl ?_
      refine Wx.ex (rd_index 0 (hS.arg a_ov) rfl rfl Try.underlying28 Try.sizeOf3 (by first | omega | (simp only [List.length_set, List.length_append, List.length_cons, List.length_nil, List.length_replicate]; omega)) (by first | omega | (simp only [List.length_set, List.length_append, List.length_cons, List.length_nil, List.length_replicate]; omega))) rfl (fun p_15 hp_16 => ?_)
      refine Wx.rd (v := .int .i64 (ix 0 order k)) (rd_loadI hp_16 rfl Try.isAgg3 Try.sizeOf3) rfl ?_
      have bd_17 := bd_i64 hp_16.inK
      refine Wx.rd (v := .int .i64 k) (rd_assign rfl) rfl ?_
      refine Wx.rd (v := .int .i64 (ix 0 order k)) (rd_assign rfl) rfl ?_
      refine Wx.nil ?_
      refine W.seq ?_
      refine W.block ?_
      refine W.seq ?_
      refine W.reg ?_
      refine Wx.rd (v := .int .i64 (ix 0 order k)) (rd_move rfl) rfl ?_
      refine Wx.rd (v := .bool (decide ((ix 0 order k) < 0))) (rd_lss rfl rfl) rfl ?_
      refine Wx.rd (v := .bool (decide ((ix 0 order k) < 0))) (rd_move rfl) rfl ?_
      refine Wx.cut (X := Unit) 5 [29, 30, 31, 32, 33] (fun _ => [(33, .bool (decide ((ix 0 order k) < 0) || decide (L ≤ (ix 0 order k))))]) (fun _ w' => St w [] w' [.row (tI .i64) 3 r_8 out, .row (tI .i64) 3 v_5 [-1], .box g_1 85 [.int .i64 L, sv]]) ?_ ?_
      · rcases Bool.eq_false_or_eq_true (decide ((ix 0 order k) < 0)) with g_18 | g_18
        · -- True
          have gp_19 := of_decide_eq_true g_18
          refine Wx.gnoB rfl rfl (congrArg Value.bool g_18) rfl rfl ?_
          refine Wx.gnoB rfl rfl (congrArg Value.bool g_18) rfl rfl ?_
          refine Wx.gnoB rfl rfl (congrArg Value.bool g_18) rfl rfl ?_
          refine Wx.gnoB rfl rfl (congrArg Value.bool g_18) rfl rfl ?_
          refine Wx.rd (v := .bool true) (rd_pickT (congrArg Value.bool g_18) rfl) rfl ?_
          refine Wx.nil ⟨(), hS, ⟨?_, trivial⟩, Out.look rfl Out.refl⟩
          show Value.bool true = Value.bool (decide ((ix 0 order k) < 0) || decide (L ≤ (ix 0 order k)))
          rw [g_18]; rfl
        · -- False
          have gp_20 := of_decide_eq_false g_18
          refine Wx.gyes rfl rfl (congrArg Value.bool g_18) ?_
          refine Wx.rd (v := .int .i64 (ix 0 order k)) (rd_move rfl) rfl ?_
          refine Wx.gyes rfl rfl (congrArg Value.bool g_18) ?_
          refine Wx.rd (v := .pointer (some ⟨g_1, 0, none⟩)) (rd_fieldAddr rfl foFe_85_0) rfl ?_
          refine Wx.gyes rfl rfl (congrArg Value.bool g_18) ?_
          refine Wx.rd (v := .int .i64 L) (rd_loadX hS 2 rfl rfl rfl Try.isAgg3) rfl ?_
          refine Wx.gyes rfl rfl (congrArg Value.bool g_18) ?_
          refine Wx.rd (v := .bool (decide (L ≤ (ix 0 order k)))) (rd_geq rfl rfl) rfl ?_
          refine Wx.rd (v := .bool (decide (L ≤ (ix 0 order k)))) (rd_pickF (congrArg Value.bool g_18) rfl) rfl ?_
          refine Wx.nil ⟨(), hS, ⟨?_, trivial⟩, Out.look rfl Out.refl⟩
          show Value.bool (decide (L ≤ (ix 0 order k))) = Value.bool (decide ((ix 0 order k) < 0) || decide (L ≤ (ix 0 order k)))
          rw [g_18]; rfl
      rintro ⟨⟩ u_22 w_21 hS
      refine Wx.rd (v := .bool (decide ((ix 0 order k) < 0) || decide (L ≤ (ix 0 order k)))) (rd_assign rfl) rfl ?_
      refine Wx.nil ?_
      refine W.cond rfl (fun c2 => ?_) (fun c2 => ?_)
      · -- yes
        try simp only [Bool.and_eq_true, Bool.or_eq_true, Bool.not_eq_true', Bool.and_eq_false_iff, Bool.or_eq_false_iff, Bool.not_eq_false', decide_eq_true_eq, decide_eq_false_iff_not, not_or, Bool.false_eq_true, Bool.true_eq_false, false_or, or_false, not_false_eq_true] at c2
        refine W.seq ?_
        refine W.reg ?_
        refine Wx.rd (v := (.slice none 0 0)) (rd_assign rfl) rfl ?_
        refine Wx.rd (v := .int .i64 2) (rd_assign rfl) rfl ?_
        refine Wx.nil ?_
        have hx : placesR L order = ([], 2) := by rw [← h2, drop_ix (d := 0) h0 c1, placesG, if_pos (by omega)]
        have e1_0 : (placesR L order).1 = [] := by rw [hx]
        have e1_1 : ((placesR L order).2) = (2 : Int) := by rw [hx]
        exact W.ret ⟨.tuple #[(.slice none 0 0), .int .i64 2], ResIs.two, hS.bel, ⟨(.slice none 0 0), (by rw [e1_1]), (by rw [e1_0]; exact ((hS.addNil (tI .i64) 3).fr 0 rfl flat_int))⟩⟩
      · -- no
        try simp only [Bool.and_eq_true, Bool.or_eq_true, Bool.not_eq_true', Bool.and_eq_false_iff, Bool.or_eq_false_iff, Bool.not_eq_false', decide_eq_true_eq, decide_eq_false_iff_not, not_or, Bool.false_eq_true, Bool.true_eq_false, false_or, or_false, not_false_eq_true] at c2
        refine W.seq ?_
        refine W.reg ?_
        refine Wx.rd (v := r_8) (rd_move rfl) rfl ?_
        refine Wx.rd (v := .int .i64 (ix 0 order k)) (rd_move rfl) rfl ?_
        refine Wx.indexR hS 0 rfl rfl rfl Try.underlying28 Try.sizeOf3 (by first | omega | (simp only [List.length_set, List.length_append, List.length_cons, List.length_nil, List.length_replicate]; omega)) (by first | omega | (simp only [List.length_set, List.length_append, List.length_cons, List.length_nil, List.length_replicate]; omega)) rfl (fun g_23 hg_24 => ?_)
        refine Wx.rd (v := .int .i64 (ix 0 out (ix 0 order k))) (rd_loadRI' hS 0 rfl hg_24 rfl (by first | omega | (simp only [List.length_set, List.length_append, List.length_cons, List.length_nil, List.length_replicate]; omega)) (by first | omega | (simp only [List.length_set, List.length_append, List.length_cons, List.length_nil, List.length_replicate]; omega)) Try.isAgg3 Try.sizeOf3) rfl ?_
        have bd_25 := bd_i64 (hS.rowInK' 0 rfl (by first | omega | (simp only [List.length_set, List.length_append, List.length_cons, List.length_nil, List.length_replicate]; omega)) (by first | omega | (simp only [List.length_set, List.length_append, List.length_cons, List.length_nil, List.length_replicate]; omega)) : InK .i64 (ix 0 out (ix 0 order k)))
        refine Wx.rd (v := .bool (decide (0 ≤ (ix 0 out (ix 0 order k))))) (rd_geq rfl rfl) rfl ?_
        refine Wx.rd (v := .bool (decide (0 ≤ (ix 0 out (ix 0 order k))))) (rd_assign rfl) rfl ?_
        refine Wx.nil ?_
        refine W.condD rfl (fun c3 => ?_) (fun c3 => ?_)
        · -- yes
          refine W.seq ?_
          refine W.reg ?_
          refine Wx.rd (v := (.slice none 0 0)) (rd_assign rfl) rfl ?_
          refine Wx.rd (v := .int .i64 6) (rd_assign rfl) rfl ?_
          refine Wx.nil ?_
          have hx : placesR L order = ([], 6) := by rw [← h2, drop_ix (d := 0) h0 c1, placesG, if_neg (by omega), if_pos (by omega)]
          have e2_0 : (placesR L order).1 = [] := by rw [hx]
          have e2_1 : ((placesR L order).2) = (6 : Int) := by rw [hx]
          exact W.ret ⟨.tuple #[(.slice none 0 0), .int .i64 6], ResIs.two, hS.bel, ⟨(.slice none 0 0), (by rw [e2_1]), (by rw [e2_0]; exact ((hS.addNil (tI .i64) 3).fr 0 rfl flat_int))⟩⟩
        · -- no
          refine W.skip ?_
          refine W.reg ?_
          refine Wx.rd (v := r_8) (rd_move rfl) rfl ?_
          refine Wx.rd (v := .int .i64 (ix 0 order k)) (rd_move rfl) rfl ?_
          refine Wx.rd (v := .int .i64 k) (rd_move rfl) rfl ?_
          refine Wx.indexR hS 0 rfl rfl rfl Try.underlying28 Try.sizeOf3 (by first | omega | (simp only [List.length_set, List.length_append, List.length_cons, List.length_nil, List.length_replicate]; omega)) (by first | omega | (simp only [List.length_set, List.length_append, List.length_cons, List.length_nil, List.length_replicate]; omega)) rfl (fun g_26 hg_27 => ?_)
          refine Wx.storeR (j := (ix 0 order k).toNat) (z := k) hS 0 rfl hg_27 rfl (by first | omega | (simp only [List.length_set, List.length_append, List.length_cons, List.length_nil, List.length_replicate]; omega)) rfl (V.mkInt (in_i64 (by omega) (by omega))) Try.sizeOf3 (fun w_28 hz_29 hS => ?_)
          refine Wx.nil ?_
          refine W.reg ?_
          refine Wx.rd (v := .int .i64 (k + 1)) (rd_add rfl rfl (in_i64 (by omega) (by omega))) rfl ?_
          refine Wx.rd (v := .int .i64 (k + 1)) (rd_move rfl) rfl ?_
          refine Wx.nil ?_
          refine ⟨(k + 1, List.set out (ix 0 order k).toNat k), (by show (order.length - (k + 1)).toNat < (order.length - k).toNat; omega), ?_, ?_, Out.look rfl (Out.hav rfl (Out.look rfl Out.self))⟩
          · exact ⟨hS, (by first | omega | assumption), (by first | omega | assumption), (by rw [← h2, drop_ix (d := 0) h0 c1, placesG, if_neg (by omega), if_neg (by omega)]), (by rw [List.length_set]; exact h3)⟩
          · exact ⟨rfl, trivial⟩
    · -- no
      refine W.exit rfl ?_
      refine W.seq ?_
      refine W.reg ?_
      refine Wx.rd (v := r_8) (rd_move rfl) rfl ?_
      refine Wx.rd (v := r_8) (rd_assign rfl) rfl ?_
      refine Wx.rd (v := .int .i64 0) (rd_assign rfl) rfl ?_
      refine Wx.nil ?_
      have hx : placesR L order = (out, 0) := by rw [← h2, drop_end (by omega)]; rfl
      have e3_0 : (placesR L order).1 = out := by rw [hx]
      have e3_1 : ((placesR L order).2) = (0 : Int) := by rw [hx]
      exact W.ret ⟨.tuple #[r_8, .int .i64 0], ResIs.two, hS.bel, ⟨r_8, (by rw [e3_1]), (by rw [e3_0]; exact (hS.fr 0 rfl flat_int))⟩⟩

theorem F76 {L : Int} {fv : Value} {fs : List (List Int)} {Fr_fv : List (Option Nat)} {ov : Value} {order : List Int} {Fr_ov : List (Option Nat)} {w : World} (i_L : InK .i64 L) (h_fv : V (tSl (tSl (tI .i64))) fs fv Fr_fv w) (h_ov : V (tSl (tI .i64)) order ov Fr_ov w) : Calls Try.prog 76 #[.agg #[.int .i64 L, fv], ov] w (Ret w (fun r w' => ∃ rv, r = .tuple #[rv, .int .i64 (shownE L fs order)] ∧ Fresh (tI .u8) 89 (shownL L fs order) rv w.heap.size w')) := by
  have b_L := bd_i64 i_L
  have a_fv := h_fv.any
  have l_fv := h_fv.len63
  have a_ov := h_ov.any
  have l_ov := h_ov.len63
  have hS := St.start0 w
  refine enterR Try.func76 rfl Try.ntmps76 Try.results76 rfl ?_
  refine W.seq ?_
  refine W.reg ?_
  refine Wx.box (cs := [.int .i64 L, fv]) hS rfl rfl rfl (fun g_1 w_2 hx_4 hb_3 hS => ?_)
  refine Wx.rd (v := (.slice none 0 0)) (rd_assign rfl) rfl ?_
  refine Wx.rd (v := .int .i64 0) (rd_assign rfl) rfl ?_
  refine Wx.nil ?_
  refine W.seq ?_
  refine W.reg ?_
  refine Wx.rd (v := .agg #[.int .i64 L, fv]) (rd_loadXs (ds := [.int .i64 L, fv]) hS 0 rfl rfl rfl rfl Try.isAgg24 Try.sizeOf24) rfl ?_
  refine Wx.callF (run_callF Try.call60 rfl) (F60 (in_i64 (by omega) (by omega)) (hS.arg a_fv) hS.fb_lt) rfl ?_
  rintro r_5 w_6 hx_7 ⟨v_8, rfl, hv_9⟩
  have ln_11 := hv_9.len63
  have hS := hS.ext hx_7
  have hS := hS.add hv_9
  refine Wx.rd (v := .tuple #[.agg #[.int .i64 (openL L fs), v_8], .int .i64 (checkE L fs)]) (rd_move rfl) rfl ?_
  refine Wx.rd (v := .agg #[.int .i64 (openL L fs), v_8]) (rd_extract rfl rfl) rfl ?_
  refine Wx.rd (v := .int .i64 (checkE L fs)) (rd_extract rfl rfl) rfl ?_
  refine Wx.alloc (cs := [.int .i64 0, (.slice none 0 0)]) hS Try.zeroValue85 rfl rfl (fun g_12 w_13 hx_15 hb_14 hS => ?_)
  refine Wx.storeX (cs' := [.int .i64 (openL L fs), v_8]) (ds := [.int .i64 (openL L fs), v_8]) hS 0 rfl rfl rfl rfl Try.sizeOf85 (Nat.le_of_ble_eq_true rfl) (one_cons rfl (one_cons (V.oneC (hS.v 1 rfl)) one_nil)) rfl (fun w_16 hz_17 hS => ?_)
  refine Wx.rd (v := .int .i64 (checkE L fs)) (rd_assign rfl) rfl ?_
  refine Wx.nil ?_
  refine W.seq ?_
  refine W.seq ?_
  refine W.reg ?_
  refine Wx.rd (v := .int .i64 (checkE L fs)) (rd_move rfl) rfl ?_
  refine Wx.rd (v := .bool (decide ((checkE L fs) ≠ 0))) (rd_neq rfl rfl) rfl ?_
  refine Wx.nil ?_
  refine W.condD rfl (fun c0 => ?_) (fun c0 => ?_)
  · -- yes
    refine W.seq ?_
    refine W.reg ?_
    refine Wx.rd (v := .int .i64 (checkE L fs)) (rd_move rfl) rfl ?_
    refine Wx.rd (v := (.slice none 0 0)) (rd_assign rfl) rfl ?_
    refine Wx.rd (v := .int .i64 (checkE L fs)) (rd_assign rfl) rfl ?_
    refine Wx.nil ?_
    have hE : shownE L fs order = checkE L fs := by rw [shownE, if_pos (by omega)]
    have hl : shownL L fs order = [] := by rw [shownL, if_neg (by omega)]
    have e0_0 : shownL L fs order = [] := by exact hl
    have e0_1 : (shownE L fs order) = (checkE L fs : Int) := by exact hE
    exact W.ret ⟨.tuple #[(.slice none 0 0), .int .i64 (checkE L fs)], ResIs.two, hS.bel, ⟨(.slice none 0 0), (by rw [e0_1]), (by rw [e0_0]; exact ((hS.addNil (tI .u8) 89).fr 0 rfl flat_int))⟩⟩
  · -- no
    have hc : checkE L fs = 0 := by omega
    have ho := openL_ok hc
    refine W.skip ?_
    refine W.seq ?_
    refine W.reg ?_
    refine Wx.rd (v := .agg #[.int .i64 (openL L fs), v_8]) (rd_loadXs (ds := [.int .i64 (openL L fs), v_8]) hS 0 rfl rfl rfl rfl Try.isAgg85 Try.sizeOf85) rfl ?_
    refine Wx.rd (v := ov) (rd_move rfl) rfl ?_
    refine Wx.callF (run_callF Try.call98 rfl) (F98 (in_i64 (by omega) (by omega)) (hS.v 1 rfl) (hS.arg a_ov) (by omega) (by omega)) rfl ?_
    rintro r_18 w_19 hx_20 ⟨v_21, rfl, hv_22⟩
    have hS := hS.pushFr hx_20 hv_22
    refine Wx.rd (v := .tuple #[v_21, .int .i64 ((placesR (openL L fs) order).2)]) (rd_move rfl) rfl ?_
    refine Wx.rd (v := v_21) (rd_extract rfl rfl) rfl ?_
    refine Wx.rd (v := .int .i64 ((placesR (openL L fs) order).2)) (rd_extract rfl rfl) rfl ?_
    refine Wx.rd (v := v_21) (rd_assign rfl) rfl ?_
    refine Wx.rd (v := .int .i64 ((placesR (openL L fs) order).2)) (rd_assign rfl) rfl ?_
    refine Wx.nil ?_
    refine W.seq ?_
    refine W.seq ?_
    refine W.reg ?_
    refine Wx.rd (v := .int .i64 ((placesR (openL L fs) order).2)) (rd_move rfl) rfl ?_
    refine Wx.rd (v := .bool (decide (((placesR (openL L fs) order).2) ≠ 0))) (rd_neq rfl rfl) rfl ?_
    refine Wx.nil ?_
    refine W.condD rfl (fun c1 => ?_) (fun c1 => ?_)
    · -- yes
      refine W.seq ?_
      refine W.reg ?_
      refine Wx.rd (v := .int .i64 ((placesR (openL L fs) order).2)) (rd_move rfl) rfl ?_
      refine Wx.rd (v := (.slice none 0 0)) (rd_assign rfl) rfl ?_
      refine Wx.rd (v := .int .i64 ((placesR (openL L fs) order).2)) (rd_assign rfl) rfl ?_
      refine Wx.nil ?_
      have hE : shownE L fs order = (placesR (openL L fs) order).2 := by rw [shownE, if_neg (by omega), ho.1]
      have hl : shownL L fs order = [] := by rw [shownL, if_neg (by omega)]
      have e1_0 : shownL L fs order = [] := by exact hl
      have e1_1 : (shownE L fs order) = ((placesR (openL L fs) order).2 : Int) := by exact hE
      exact W.ret ⟨.tuple #[(.slice none 0 0), .int .i64 ((placesR (openL L fs) order).2)], ResIs.two, hS.bel, ⟨(.slice none 0 0), (by rw [e1_1]), (by rw [e1_0]; exact ((hS.addNil (tI .u8) 89).fr 0 rfl flat_int))⟩⟩
    · -- no
      have hp := placesR_ok (L := openL L fs) (order := order) (by omega) (by omega)
      have hE : shownE L fs order = 0 := by rw [shownE, if_neg (by omega), ← ho.1]; omega
      refine W.skip ?_
      refine W.seq ?_
      refine W.reg ?_
      refine Wx.rd (v := (.slice none 0 0)) (rd_assign rfl) rfl ?_
      refine Wx.nil ?_
      refine W.seq ?_
      refine W.seq ?_
      refine W.reg ?_
      refine Wx.rd (v := .pointer (some ⟨g_12, 1, none⟩)) (rd_fieldAddr rfl foFe_85_1) rfl ?_
      refine Wx.rd (v := v_8) (rd_loadX hS 1 rfl rfl rfl Try.isAgg83) rfl ?_
      refine Wx.rd (v := .int .i64 ((openS L fs).length : Int)) (rd_lenV rfl (hS.v 2 rfl) Try.underlying83) rfl ?_
      refine Wx.rd (v := .int .i64 0) (rd_move rfl) rfl ?_
      refine Wx.nil ?_
      refine W.block ?_
      have hlo : ((openS L fs).length : Int) ≤ 10 := by rw [ho.2.1, setsF_len]; omega
      have hS := hS.addNil (tI .u8) 89
      refine W.loop [9, 11, 12, 13, 14, 35, 36, 37, 38, 39, 40, 41, 42, 43, 44, 45, 46, 47, 48, 49, 50, 51, 52, 53, 54, 55, 56, 57] (fun x : Int × Value × (List Int) => match x with | (k, xv, out) => [(35, .int .i64 k), (9, xv)]) (fun (x : Int × Value × (List Int)) w' => match x with | (k, xv, out) => St w [] w' [.row (tI .u8) 89 xv out, .row (tI .i64) 3 v_21 ((placesR (openL L fs) order).1), .box g_12 85 [.int .i64 (openL L fs), v_8], Ob.v (tSl (tI .u8)) (openS L fs) v_8, .box g_1 24 [.int .i64 L, fv]] ∧ 0 ≤ k ∧ k ≤ (openS L fs).length ∧ out = ((openS L fs).take k.toNat).map fun f => placeS f 0 (placesR (openL L fs) order).1 0) (fun x : Int × Value × (List Int) => match x with | (k, xv, out) => ((openS L fs).length - k).toNat) (0, (.slice none 0 0), []) ⟨rfl, rfl, trivial⟩ ⟨hS, (by first | omega | simp), (by first | omega | simp), (by simp)⟩ ?_
      rintro ⟨k, xv, out⟩ u_25 w_24 ⟨hS, h0, h1, h2⟩
      have hln : (out.length : Int) ≤ 10 := by rw [h2]; simp; omega
      refine W.seq ?_
      refine W.reg ?_
      refine Wx.rd (v := .bool (decide (k < ((openS L fs).length : Int)))) (rd_lss rfl rfl) rfl ?_
      refine Wx.nil ?_
      refine W.seq ?_
      refine W.condD rfl (fun c2 => ?_) (fun c2 => ?_)
      · -- yes
        refine W.skip ?_
        refine W.seq ?_
        refine W.block ?_
        refine W.seq ?_
        refine W.reg ?_
        refine Wx.ex (rd_index 0 (hS.v 3 rfl) rfl rfl Try.underlying83 Try.sizeOf89 (by first | omega | (simp only [List.length_set, List.length_append, List.length_cons, List.length_nil, List.length_replicate]; omega)) (by first | omega | (simp only [List.length_set, List.length_append, List.length_cons, List.length_nil, List.length_replicate]; omega))) rfl (fun p_26 hp_27 => ?_)
        refine Wx.rd (v := .int .u8 (ix 0 (openS L fs) k)) (rd_loadI hp_27 rfl Try.isAgg89 Try.sizeOf89) rfl ?_
        have bd_28 := bd_u8 hp_27.inK
        refine Wx.rd (v := .int .u8 (ix 0 (openS L fs) k)) (rd_assign rfl) rfl ?_
        refine Wx.nil ?_
        refine W.seq ?_
        refine W.reg ?_
        refine Wx.rd (v := .int .u8 0) (rd_assign rfl) rfl ?_
        refine Wx.nil ?_
        refine W.seq ?_
        refine W.seq ?_
        refine W.reg ?_
        refine Wx.rd (v := v_21) (rd_move rfl) rfl ?_
        refine Wx.rd (v := .int .i64 (((placesR (openL L fs) order).1).length : Int)) (rd_lenR hS 1 rfl rfl Try.underlying28) rfl ?_
        refine Wx.rd (v := .int .i64 0) (rd_move rfl) rfl ?_
        refine Wx.nil ?_
        refine W.block ?_
        refine W.loop [12, 13, 14, 41, 42, 43, 44, 45, 46, 47, 48, 49, 50, 51, 52] (fun x : Int × Int => match x with | (s, j) => [(12, .int .u8 s), (41, .int .i64 j)]) (fun (x : Int × Int) w' => match x with | (s, j) => St w [] w' [.row (tI .u8) 89 xv out, .row (tI .i64) 3 v_21 ((placesR (openL L fs) order).1), .box g_12 85 [.int .i64 (openL L fs), v_8], Ob.v (tSl (tI .u8)) (openS L fs) v_8, .box g_1 24 [.int .i64 L, fv]] ∧ 0 ≤ j ∧ j ≤ (placesR (openL L fs) order).1.length ∧ placeS (ix 0 (openS L fs) k) j ((placesR (openL L fs) order).1.drop j.toNat) s = placeS (ix 0 (openS L fs) k) 0 (placesR (openL L fs) order).1 0 ∧ InK .u8 s) (fun x : Int × Int => match x with | (s, j) => ((placesR (openL L fs) order).1.length - j).toNat) (0, 0) ⟨rfl, rfl, trivial⟩ ⟨hS, (by first | omega | simp), (by first | omega | simp), (by simp), (⟨by decide, by decide⟩)⟩ ?_
        rintro ⟨s, j⟩ u_30 w_29 ⟨hS, g0, g1, g2, g4⟩
        have b_s := bd_u8 g4
        refine W.seq ?_
        refine W.reg ?_
        refine Wx.rd (v := .bool (decide (j < (((placesR (openL L fs) order).1).length : Int)))) (rd_lss rfl rfl) rfl ?_
        refine Wx.nil ?_
        refine W.seq ?_
        refine W.condD rfl (fun c3 => ?_) (fun c3 => ?_)
        · -- yes
          refine W.skip ?_
          refine W.seq ?_
          refine W.block ?_
          refine W.seq ?_
          refine W.reg ?_
          refine Wx.rd (v := .int .i64 j) (rd_move rfl) rfl ?_
          refine Wx.indexR hS 1 rfl rfl rfl Try.underlying28 Try.sizeOf3 (by first | omega | (simp only [List.length_set, List.length_append, List.length_cons, List.length_nil, List.length_replicate]; omega)) (by first | omega | (simp only [List.length_set, List.length_append, List.length_cons, List.length_nil, List.length_replicate]; omega)) rfl (fun g_31 hg_32 => ?_)
          refine Wx.rd (v := .int .i64 (ix 0 ((placesR (openL L fs) order).1) j)) (rd_loadRI' hS 1 rfl hg_32 rfl (by first | omega | (simp only [List.length_set, List.length_append, List.length_cons, List.length_nil, List.length_replicate]; omega)) (by first | omega | (simp only [List.length_set, List.length_append, List.length_cons, List.length_nil, List.length_replicate]; omega)) Try.isAgg3 Try.sizeOf3) rfl ?_
          have bd_33 := bd_i64 (hS.rowInK' 1 rfl (by first | omega | (simp only [List.length_set, List.length_append, List.length_cons, List.length_nil, List.length_replicate]; omega)) (by first | omega | (simp only [List.length_set, List.length_append, List.length_cons, List.length_nil, List.length_replicate]; omega)) : InK .i64 (ix 0 ((placesR (openL L fs) order).1) j))
          refine Wx.rd (v := .int .i64 j) (rd_assign rfl) rfl ?_
          refine Wx.rd (v := .int .i64 (ix 0 ((placesR (openL L fs) order).1) j)) (rd_assign rfl) rfl ?_
          refine Wx.nil ?_
          refine W.seq ?_
          refine W.reg ?_
          refine Wx.rd (v := .int .u8 (ix 0 (openS L fs) k)) (rd_move rfl) rfl ?_
          refine Wx.rd (v := .int .i64 j) (rd_move rfl) rfl ?_
          refine Wx.callF (run_callF Try.call88 rfl) (F88 (in_u8 (by omega) (by omega)) (in_i64 (by omega) (by omega)) (by omega)) rfl ?_
          rintro r_34 w_35 hx_36 rfl
          have hS := hS.ext hx_36
          refine Wx.nil ?_
          refine W.cond rfl (fun c4 => ?_) (fun c4 => ?_)
          · -- yes
            try simp only [Bool.and_eq_true, Bool.or_eq_true, Bool.not_eq_true', Bool.and_eq_false_iff, Bool.or_eq_false_iff, Bool.not_eq_false', decide_eq_true_eq, decide_eq_false_iff_not, not_or, Bool.false_eq_true, Bool.true_eq_false, false_or, or_false, not_false_eq_true] at c4
            refine W.reg ?_
            refine Wx.rd (v := .int .u8 s) (rd_move rfl) rfl ?_
            refine Wx.rd (v := .int .i64 (ix 0 ((placesR (openL L fs) order).1) j)) (rd_move rfl) rfl ?_
            refine Wx.callF (run_callF Try.call63 rfl) (F63 (in_u8 (by omega) (by omega)) (in_i64 (by omega) (by omega)) (ix_all hp.1 _)) rfl ?_
            rintro r_37 w_38 hx_39 rfl
            have hS := hS.ext hx_39
            have in_40 := bd_u8 (withS_in s (ix 0 ((placesR (openL L fs) order).1) j))
            refine Wx.rd (v := .int .u8 (withS s (ix 0 ((placesR (openL L fs) order).1) j))) (rd_assign rfl) rfl ?_
            refine Wx.nil ?_
            refine W.reg ?_
            refine Wx.rd (v := .int .i64 (j + 1)) (rd_add rfl rfl (in_i64 (by omega) (by omega))) rfl ?_
            refine Wx.rd (v := .int .i64 (j + 1)) (rd_move rfl) rfl ?_
            refine Wx.nil ?_
            refine ⟨(withS s (ix 0 ((placesR (openL L fs) order).1) j), j + 1), (by show ((placesR (openL L fs) order).1.length - (j + 1)).toNat < ((placesR (openL L fs) order).1.length - j).toNat; omega), ?_, ?_, Out.look rfl Out.self⟩
            · exact ⟨hS, (by first | omega | assumption), (by first | omega | assumption), (by rw [← g2, drop_ix (d := 0) g0 c3, placeS, if_pos c4]), (withS_in _ _)⟩
            · exact ⟨rfl, rfl, trivial⟩
          · -- no
            try simp only [Bool.and_eq_true, Bool.or_eq_true, Bool.not_eq_true', Bool.and_eq_false_iff, Bool.or_eq_false_iff, Bool.not_eq_false', decide_eq_true_eq, decide_eq_false_iff_not, not_or, Bool.false_eq_true, Bool.true_eq_false, false_or, or_false, not_false_eq_true] at c4
            refine W.skip ?_
            refine W.reg ?_
            refine Wx.rd (v := .int .i64 (j + 1)) (rd_add rfl rfl (in_i64 (by omega) (by omega))) rfl ?_
            refine Wx.rd (v := .int .i64 (j + 1)) (rd_move rfl) rfl ?_
            refine Wx.nil ?_
            refine ⟨(s, j + 1), (by show ((placesR (openL L fs) order).1.length - (j + 1)).toNat < ((placesR (openL L fs) order).1.length - j).toNat; omega), ?_, ?_, Out.look rfl Out.self⟩
            · exact ⟨hS, (by first | omega | assumption), (by first | omega | assumption), (by rw [← g2, drop_ix (d := 0) g0 c3, placeS, if_neg (by simp [c4])]), (g4)⟩
            · exact ⟨rfl, rfl, trivial⟩
        · -- no
          refine W.exit rfl ?_
          refine W.reg ?_
          refine Wx.rd (v := xv) (rd_move rfl) rfl ?_
          refine Wx.rd (v := .int .u8 s) (rd_move rfl) rfl ?_
          refine Wx.lit (t := (tI .u8)) (ys := [s]) (vs := [.int .u8 s]) elFe_83 hS rfl rfl ⟨(V.mkInt (in_u8 (by omega) (by omega))), trivial⟩ (by decide) rfl (fun v_41 w_42 hx_43 hS => ?_)
          refine Wx.append elFe_83 hS 1 rfl rfl rfl (Src.ofR hS 0 rfl) (by simp only [maxLen]; simp; omega) (by simp; omega) rfl (fun v_44 w_45 hz_46 hS => ?_)
          refine Wx.rd (v := v_44) (rd_assign rfl) rfl ?_
          refine Wx.nil ?_
          refine W.reg ?_
          refine Wx.rd (v := .int .i64 (k + 1)) (rd_add rfl rfl (in_i64 (by omega) (by omega))) rfl ?_
          refine Wx.rd (v := .int .i64 (k + 1)) (rd_move rfl) rfl ?_
          refine Wx.nil ?_
          refine ⟨(k + 1, v_44, out ++ [s]), (by show ((openS L fs).length - (k + 1)).toNat < ((openS L fs).length - k).toNat; omega), ?_, ?_, Out.look rfl (Out.hav rfl (Out.look rfl Out.self))⟩
          · exact ⟨hS.tl, (by first | omega | assumption), (by first | omega | assumption), (by rw [take_ix (d := 0) h0 c2, h2, show s = placeS (ix 0 (openS L fs) k) 0 (placesR (openL L fs) order).1 0 by rw [← g2, drop_end (by omega)]; rfl]; simp)⟩
          · exact ⟨rfl, rfl, trivial⟩
      · -- no
        refine W.exit rfl ?_
        refine W.seq ?_
        refine W.reg ?_
        refine Wx.rd (v := xv) (rd_move rfl) rfl ?_
        refine Wx.rd (v := xv) (rd_assign rfl) rfl ?_
        refine Wx.rd (v := .int .i64 0) (rd_assign rfl) rfl ?_
        refine Wx.nil ?_
        have hl : shownL L fs order = out := by rw [shownL, if_pos hE, h2, take_end (by omega), ho.1, ho.2.1]
        have e2_0 : shownL L fs order = out := by exact hl
        have e2_1 : (shownE L fs order) = (0 : Int) := by exact hE
        exact W.ret ⟨.tuple #[xv, .int .i64 0], ResIs.two, hS.bel, ⟨xv, (by rw [e2_1]), (by rw [e2_0]; exact (hS.fr 0 rfl flat_int))⟩⟩

theorem F32 {L : Int} {fv : Value} {fs : List (List Int)} {Fr_fv : List (Option Nat)} {ov : Value} {order : List Int} {Fr_ov : List (Option Nat)} {w : World} (i_L : InK .i64 L) (h_fv : V (tSl (tSl (tI .i64))) fs fv Fr_fv w) (h_ov : V (tSl (tI .i64)) order ov Fr_ov w) : Calls Try.prog 32 #[.agg #[.int .i64 L, fv], ov] w (Ret w (fun r _ => r = .tuple #[.int .i64 (gapsE L fs order), .int .i64 (shownE L fs order)])) := by
  have b_L := bd_i64 i_L
  have hlo := shownL_len (L := L) (fs := fs) (order := order)
  have a_fv := h_fv.any
  have l_fv := h_fv.len63
  have a_ov := h_ov.any
  have l_ov := h_ov.len63
  have hS := St.start0 w
  refine enterR Try.func32 rfl Try.ntmps32 Try.results32 rfl ?_
  refine W.seq ?_
  refine W.reg ?_
  refine Wx.box (cs := [.int .i64 L, fv]) hS rfl rfl rfl (fun g_1 w_2 hx_4 hb_3 hS => ?_)
  refine Wx.rd (v := .int .i64 0) (rd_assign rfl) rfl ?_
  refine Wx.rd (v := .int .i64 0) (rd_assign rfl) rfl ?_
  refine Wx.nil ?_
  refine W.seq ?_
  refine W.reg ?_
  refine Wx.rd (v := .agg #[.int .i64 L, fv]) (rd_loadXs (ds := [.int .i64 L, fv]) hS 0 rfl rfl rfl rfl Try.isAgg24 Try.sizeOf24) rfl ?_
  refine Wx.rd (v := ov) (rd_move rfl) rfl ?_
  refine Wx.callF (run_callF Try.call76 rfl) (F76 (in_i64 (by omega) (by omega)) (hS.arg a_fv) (hS.arg a_ov)) rfl ?_
  rintro r_5 w_6 hx_7 ⟨v_8, rfl, hv_9⟩
  have hS := hS.pushFr hx_7 hv_9
  refine Wx.rd (v := .tuple #[v_8, .int .i64 (shownE L fs order)]) (rd_move rfl) rfl ?_
  refine Wx.rd (v := v_8) (rd_extract rfl rfl) rfl ?_
  refine Wx.rd (v := .int .i64 (shownE L fs order)) (rd_extract rfl rfl) rfl ?_
  refine Wx.rd (v := v_8) (rd_assign rfl) rfl ?_
  refine Wx.rd (v := .int .i64 (shownE L fs order)) (rd_assign rfl) rfl ?_
  refine Wx.nil ?_
  refine W.seq ?_
  refine W.reg ?_
  refine Wx.rd (v := .int .i64 0) (rd_assign rfl) rfl ?_
  refine Wx.nil ?_
  refine W.seq ?_
  refine W.seq ?_
  refine W.reg ?_
  refine Wx.rd (v := v_8) (rd_move rfl) rfl ?_
  refine Wx.rd (v := .int .i64 ((shownL L fs order).length : Int)) (rd_lenR hS 0 rfl rfl Try.underlying83) rfl ?_
  refine Wx.rd (v := .int .i64 0) (rd_move rfl) rfl ?_
  refine Wx.nil ?_
  refine W.block ?_
  refine W.loop [8, 10, 19, 20, 21, 22, 23, 24, 25, 26, 27] (fun x : Int × Int => match x with | (n, k) => [(8, .int .i64 n), (19, .int .i64 k)]) (fun (x : Int × Int) w' => match x with | (n, k) => St w [] w' [.row (tI .u8) 89 v_8 (shownL L fs order), .box g_1 24 [.int .i64 L, fv]] ∧ 0 ≤ k ∧ k ≤ (shownL L fs order).length ∧ n = sumG ((shownL L fs order).take k.toNat) ∧ -1 * k ≤ n ∧ n ≤ 254 * k) (fun x : Int × Int => match x with | (n, k) => ((shownL L fs order).length - k).toNat) (0, 0) ⟨rfl, rfl, trivial⟩ ⟨hS, (by first | omega | simp), (by first | omega | simp), (by simp [sumG]), (by first | omega | simp), (by first | omega | simp)⟩ ?_
  rintro ⟨n, k⟩ u_12 w_11 ⟨hS, h0, h1, h2, h3, h4⟩
  have hg := gapS_bd (ix 0 (shownL L fs order) k)
  refine W.seq ?_
  refine W.reg ?_
  refine Wx.rd (v := .bool (decide (k < ((shownL L fs order).length : Int)))) (rd_lss rfl rfl) rfl ?_
  refine Wx.nil ?_
  refine W.seq ?_
  refine W.condD rfl (fun c0 => ?_) (fun c0 => ?_)
  · -- yes
    refine W.skip ?_
    refine W.seq ?_
    refine W.block ?_
    refine W.seq ?_
    refine W.reg ?_
    refine Wx.indexR hS 0 rfl rfl rfl Try.underlying83 Try.sizeOf89 (by first | omega | (simp only [List.length_set, List.length_append, List.length_cons, List.length_nil, List.length_replicate]; omega)) (by first | omega | (simp only [List.length_set, List.length_append, List.length_cons, List.length_nil, List.length_replicate]; omega)) rfl (fun g_13 hg_14 => ?_)
    refine Wx.rd (v := .int .u8 (ix 0 (shownL L fs order) k)) (rd_loadRI' hS 0 rfl hg_14 rfl (by first | omega | (simp only [List.length_set, List.length_append, List.length_cons, List.length_nil, List.length_replicate]; omega)) (by first | omega | (simp only [List.length_set, List.length_append, List.length_cons, List.length_nil, List.length_replicate]; omega)) Try.isAgg89 Try.sizeOf89) rfl ?_
    have bd_15 := bd_u8 (hS.rowInK' 0 rfl (by first | omega | (simp only [List.length_set, List.length_append, List.length_cons, List.length_nil, List.length_replicate]; omega)) (by first | omega | (simp only [List.length_set, List.length_append, List.length_cons, List.length_nil, List.length_replicate]; omega)) : InK .u8 (ix 0 (shownL L fs order) k))
    refine Wx.rd (v := .int .u8 (ix 0 (shownL L fs order) k)) (rd_assign rfl) rfl ?_
    refine Wx.nil ?_
    refine W.reg ?_
    refine Wx.rd (v := .int .i64 n) (rd_move rfl) rfl ?_
    refine Wx.rd (v := .int .u8 (ix 0 (shownL L fs order) k)) (rd_move rfl) rfl ?_
    refine Wx.callF (run_callF Try.call77 rfl) (F77 (in_u8 (by omega) (by omega))) rfl ?_
    rintro r_16 w_17 hx_18 rfl
    have hS := hS.ext hx_18
    refine Wx.rd (v := .int .i64 (n + (gapS (ix 0 (shownL L fs order) k)))) (rd_add rfl rfl (in_i64 (by omega) (by omega))) rfl ?_
    refine Wx.rd (v := .int .i64 (n + (gapS (ix 0 (shownL L fs order) k)))) (rd_assign rfl) rfl ?_
    refine Wx.nil ?_
    refine W.reg ?_
    refine Wx.rd (v := .int .i64 (k + 1)) (rd_add rfl rfl (in_i64 (by omega) (by omega))) rfl ?_
    refine Wx.rd (v := .int .i64 (k + 1)) (rd_move rfl) rfl ?_
    refine Wx.nil ?_
    refine ⟨(n + (gapS (ix 0 (shownL L fs order) k)), k + 1), (by show ((shownL L fs order).length - (k + 1)).toNat < ((shownL L fs order).length - k).toNat; omega), ?_, ?_, Out.look rfl Out.self⟩
    · exact ⟨hS, (by first | omega | assumption), (by first | omega | assumption), (by rw [take_ix (d := 0) h0 c0, sumG_snoc, ← h2]), (by first | omega | assumption), (by first | omega | assumption)⟩
    · exact ⟨rfl, rfl, trivial⟩
  · -- no
    refine W.exit rfl ?_
    refine W.seq ?_
    refine W.reg ?_
    refine Wx.rd (v := .int .i64 n) (rd_move rfl) rfl ?_
    refine Wx.rd (v := .int .i64 (shownE L fs order)) (rd_move rfl) rfl ?_
    refine Wx.rd (v := .int .i64 n) (rd_assign rfl) rfl ?_
    refine Wx.rd (v := .int .i64 (shownE L fs order)) (rd_assign rfl) rfl ?_
    refine Wx.nil ?_
    have e0_0 : (gapsE L fs order) = (n : Int) := by rw [h2, take_end (by omega), gapsE]
    exact W.ret ⟨.tuple #[.int .i64 n, .int .i64 (shownE L fs order)], ResIs.two, hS.bel, (by rw [e0_0])⟩

theorem F30 {L : Int} {fv : Value} {fs : List (List Int)} {Fr_fv : List (Option Nat)} {ov : Value} {order : List Int} {Fr_ov : List (Option Nat)} {w : World} (i_L : InK .i64 L) (h_fv : V (tSl (tSl (tI .i64))) fs fv Fr_fv w) (h_ov : V (tSl (tI .i64)) order ov Fr_ov w) : Calls Try.prog 30 #[.agg #[.int .i64 L, fv], ov] w (Ret w (fun r _ => r = .tuple #[.bool (decide (shownE L fs order = 0) && decide (gapsE L fs order = 0)), .int .i64 (shownE L fs order)])) := by
  have b_L := bd_i64 i_L
  have a_fv := h_fv.any
  have l_fv := h_fv.len63
  have a_ov := h_ov.any
  have l_ov := h_ov.len63
  have hS := St.start0 w
  refine enterR Try.func30 rfl Try.ntmps30 Try.results30 rfl ?_
  refine W.seq ?_
  refine W.reg ?_
  refine Wx.box (cs := [.int .i64 L, fv]) hS rfl rfl rfl (fun g_1 w_2 hx_4 hb_3 hS => ?_)
  refine Wx.rd (v := .bool false) (rd_assign rfl) rfl ?_
  refine Wx.rd (v := .int .i64 0) (rd_assign rfl) rfl ?_
  refine Wx.nil ?_
  refine W.seq ?_
  refine W.reg ?_
  refine Wx.rd (v := .agg #[.int .i64 L, fv]) (rd_loadXs (ds := [.int .i64 L, fv]) hS 0 rfl rfl rfl rfl Try.isAgg24 Try.sizeOf24) rfl ?_
  refine Wx.rd (v := ov) (rd_move rfl) rfl ?_
  refine Wx.callF (run_callF Try.call32 rfl) (F32 (in_i64 (by omega) (by omega)) (hS.arg a_fv) (hS.arg a_ov)) rfl ?_
  rintro r_5 w_6 hx_7 rfl
  have hS := hS.ext hx_7
  refine Wx.rd (v := .tuple #[.int .i64 (gapsE L fs order), .int .i64 (shownE L fs order)]) (rd_move rfl) rfl ?_
  refine Wx.rd (v := .int .i64 (gapsE L fs order)) (rd_extract rfl rfl) rfl ?_
  refine Wx.rd (v := .int .i64 (shownE L fs order)) (rd_extract rfl rfl) rfl ?_
  refine Wx.rd (v := .int .i64 (gapsE L fs order)) (rd_assign rfl) rfl ?_
  refine Wx.rd (v := .int .i64 (shownE L fs order)) (rd_assign rfl) rfl ?_
  refine Wx.nil ?_
  refine W.seq ?_
  refine W.reg ?_
  refine Wx.rd (v := .int .i64 (shownE L fs order)) (rd_move rfl) rfl ?_
  refine Wx.rd (v := .bool (decide ((shownE L fs order) = 0))) (rd_eql rfl rfl) rfl ?_
  refine Wx.rd (v := .bool (decide ((shownE L fs order) = 0))) (rd_move rfl) rfl ?_
  refine Wx.cut (X := Unit) 3 [17, 18, 19] (fun _ => [(19, .bool (decide ((shownE L fs order) = 0) && decide ((gapsE L fs order) = 0)))]) (fun _ w' => St w [] w' [.box g_1 24 [.int .i64 L, fv]]) ?_ ?_
  · rcases Bool.eq_false_or_eq_true (decide ((shownE L fs order) = 0)) with g_8 | g_8
    · -- True
      have gp_9 := of_decide_eq_true g_8
      refine Wx.gyes rfl rfl (congrArg Value.bool g_8) ?_
      refine Wx.rd (v := .int .i64 (gapsE L fs order)) (rd_move rfl) rfl ?_
      refine Wx.gyes rfl rfl (congrArg Value.bool g_8) ?_
      refine Wx.rd (v := .bool (decide ((gapsE L fs order) = 0))) (rd_eql rfl rfl) rfl ?_
      refine Wx.rd (v := .bool (decide ((gapsE L fs order) = 0))) (rd_pickT (congrArg Value.bool g_8) rfl) rfl ?_
      refine Wx.nil ⟨(), hS, ⟨?_, trivial⟩, Out.look rfl Out.refl⟩
      show Value.bool (decide ((gapsE L fs order) = 0)) = Value.bool (decide ((shownE L fs order) = 0) && decide ((gapsE L fs order) = 0))
      rw [g_8]; rfl
    · -- False
      have gp_10 := of_decide_eq_false g_8
      refine Wx.gnoB rfl rfl (congrArg Value.bool g_8) rfl rfl ?_
      refine Wx.gnoB rfl rfl (congrArg Value.bool g_8) rfl rfl ?_
      refine Wx.rd (v := .bool false) (rd_pickF (congrArg Value.bool g_8) rfl) rfl ?_
      refine Wx.nil ⟨(), hS, ⟨?_, trivial⟩, Out.look rfl Out.refl⟩
      show Value.bool false = Value.bool (decide ((shownE L fs order) = 0) && decide ((gapsE L fs order) = 0))
      rw [g_8]; rfl
  rintro ⟨⟩ u_12 w_11 hS
  refine Wx.rd (v := .int .i64 (shownE L fs order)) (rd_move rfl) rfl ?_
  refine Wx.rd (v := .bool (decide ((shownE L fs order) = 0) && decide ((gapsE L fs order) = 0))) (rd_assign rfl) rfl ?_
  refine Wx.rd (v := .int .i64 (shownE L fs order)) (rd_assign rfl) rfl ?_
  refine Wx.nil ?_
  have e0_0 : (decide (shownE L fs order = 0) && decide (gapsE L fs order = 0)) = (decide ((shownE L fs order) = 0) && decide ((gapsE L fs order) = 0)) := by first | rfl | omega
  exact W.ret ⟨.tuple #[.bool (decide ((shownE L fs order) = 0) && decide ((gapsE L fs order) = 0)), .int .i64 (shownE L fs order)], ResIs.two, hS.bel, (by rw [e0_0])⟩

theorem F34 {L : Int} {fv : Value} {fs : List (List Int)} {Fr_fv : List (Option Nat)} {ov : Value} {order : List Int} {Fr_ov : List (Option Nat)} {w : World} (i_L : InK .i64 L) (h_fv : V (tSl (tSl (tI .i64))) fs fv Fr_fv w) (h_ov : V (tSl (tI .i64)) order ov Fr_ov w) : Calls Try.prog 34 #[.agg #[.int .i64 L, fv], ov] w (Ret w (fun r w' => ∃ rv, r = .tuple #[rv, .int .i64 (shownE L fs order)] ∧ Fresh (tP (tI .i64) (tI .i64)) 61 (datesL L fs order) rv w.heap.size w')) := by
  have b_L := bd_i64 i_L
  have hlo := shownL_len (L := L) (fs := fs) (order := order)
  have a_fv := h_fv.any
  have l_fv := h_fv.len63
  have a_ov := h_ov.any
  have l_ov := h_ov.len63
  have hS := St.start0 w
  refine enterR Try.func34 rfl Try.ntmps34 Try.results34 rfl ?_
  refine W.seq ?_
  refine W.reg ?_
  refine Wx.box (cs := [.int .i64 L, fv]) hS rfl rfl rfl (fun g_1 w_2 hx_4 hb_3 hS => ?_)
  refine Wx.rd (v := (.slice none 0 0)) (rd_assign rfl) rfl ?_
  refine Wx.rd (v := .int .i64 0) (rd_assign rfl) rfl ?_
  refine Wx.nil ?_
  refine W.seq ?_
  refine W.reg ?_
  refine Wx.rd (v := .agg #[.int .i64 L, fv]) (rd_loadXs (ds := [.int .i64 L, fv]) hS 0 rfl rfl rfl rfl Try.isAgg24 Try.sizeOf24) rfl ?_
  refine Wx.rd (v := ov) (rd_move rfl) rfl ?_
  refine Wx.callF (run_callF Try.call76 rfl) (F76 (in_i64 (by omega) (by omega)) (hS.arg a_fv) (hS.arg a_ov)) rfl ?_
  rintro r_5 w_6 hx_7 ⟨v_8, rfl, hv_9⟩
  have hS := hS.pushFr hx_7 hv_9
  refine Wx.rd (v := .tuple #[v_8, .int .i64 (shownE L fs order)]) (rd_move rfl) rfl ?_
  refine Wx.rd (v := v_8) (rd_extract rfl rfl) rfl ?_
  refine Wx.rd (v := .int .i64 (shownE L fs order)) (rd_extract rfl rfl) rfl ?_
  refine Wx.rd (v := v_8) (rd_assign rfl) rfl ?_
  refine Wx.rd (v := .int .i64 (shownE L fs order)) (rd_assign rfl) rfl ?_
  refine Wx.nil ?_
  refine W.seq ?_
  refine W.reg ?_
  refine Wx.rd (v := (.slice none 0 0)) (rd_assign rfl) rfl ?_
  refine Wx.nil ?_
  refine W.seq ?_
  refine W.seq ?_
  refine W.reg ?_
  refine Wx.rd (v := v_8) (rd_move rfl) rfl ?_
  refine Wx.rd (v := .int .i64 ((shownL L fs order).length : Int)) (rd_lenR hS 0 rfl rfl Try.underlying83) rfl ?_
  refine Wx.rd (v := .int .i64 0) (rd_move rfl) rfl ?_
  refine Wx.nil ?_
  refine W.block ?_
  have hS := hS.addNil (tP (tI .i64) (tI .i64)) 61
  refine W.loop [8, 10, 19, 20, 21, 22, 23, 24, 25, 26, 27, 28, 29, 30, 31, 32] (fun x : Int × Value × (List (Int × Int)) => match x with | (k, xv, out) => [(19, .int .i64 k), (8, xv)]) (fun (x : Int × Value × (List (Int × Int))) w' => match x with | (k, xv, out) => St w [] w' [.row (tP (tI .i64) (tI .i64)) 61 xv out, .row (tI .u8) 89 v_8 (shownL L fs order), .box g_1 24 [.int .i64 L, fv]] ∧ 0 ≤ k ∧ k ≤ (shownL L fs order).length ∧ out = ((shownL L fs order).take k.toNat).map fun s => (tabAt ntz8tab s, tabAt len8tab s - 1)) (fun x : Int × Value × (List (Int × Int)) => match x with | (k, xv, out) => ((shownL L fs order).length - k).toNat) (0, (.slice none 0 0), []) ⟨rfl, rfl, trivial⟩ ⟨hS, (by first | omega | simp), (by first | omega | simp), (by simp)⟩ ?_
  rintro ⟨k, xv, out⟩ u_12 w_11 ⟨hS, h0, h1, h2⟩
  have hln : (out.length : Int) ≤ 10 := by rw [h2]; simp; omega
  refine W.seq ?_
  refine W.reg ?_
  refine Wx.rd (v := .bool (decide (k < ((shownL L fs order).length : Int)))) (rd_lss rfl rfl) rfl ?_
  refine Wx.nil ?_
  refine W.seq ?_
  refine W.condD rfl (fun c0 => ?_) (fun c0 => ?_)
  · -- yes
    refine W.skip ?_
    refine W.seq ?_
    refine W.block ?_
    refine W.seq ?_
    refine W.reg ?_
    refine Wx.indexR hS 1 rfl rfl rfl Try.underlying83 Try.sizeOf89 (by first | omega | (simp only [List.length_set, List.length_append, List.length_cons, List.length_nil, List.length_replicate]; omega)) (by first | omega | (simp only [List.length_set, List.length_append, List.length_cons, List.length_nil, List.length_replicate]; omega)) rfl (fun g_13 hg_14 => ?_)
    refine Wx.rd (v := .int .u8 (ix 0 (shownL L fs order) k)) (rd_loadRI' hS 1 rfl hg_14 rfl (by first | omega | (simp only [List.length_set, List.length_append, List.length_cons, List.length_nil, List.length_replicate]; omega)) (by first | omega | (simp only [List.length_set, List.length_append, List.length_cons, List.length_nil, List.length_replicate]; omega)) Try.isAgg89 Try.sizeOf89) rfl ?_
    have bd_15 := bd_u8 (hS.rowInK' 1 rfl (by first | omega | (simp only [List.length_set, List.length_append, List.length_cons, List.length_nil, List.length_replicate]; omega)) (by first | omega | (simp only [List.length_set, List.length_append, List.length_cons, List.length_nil, List.length_replicate]; omega)) : InK .u8 (ix 0 (shownL L fs order) k))
    refine Wx.rd (v := .int .u8 (ix 0 (shownL L fs order) k)) (rd_assign rfl) rfl ?_
    refine Wx.nil ?_
    refine W.reg ?_
    refine Wx.rd (v := xv) (rd_move rfl) rfl ?_
    refine Wx.rd (v := .int .u8 (ix 0 (shownL L fs order) k)) (rd_move rfl) rfl ?_
    refine Wx.callF (run_callF Try.call79 rfl) (F79 (in_u8 (by omega) (by omega))) rfl ?_
    rintro r_16 w_17 hx_18 rfl
    have hS := hS.ext hx_18
    have in_19 := tabAt_bd ntz8tab (ix 0 (shownL L fs order) k)
    refine Wx.rd (v := .int .u8 (ix 0 (shownL L fs order) k)) (rd_move rfl) rfl ?_
    refine Wx.callF (run_callF Try.call80 rfl) (F80 (in_u8 (by omega) (by omega))) rfl ?_
    rintro r_20 w_21 hx_22 rfl
    have hS := hS.ext hx_22
    have in_23 := tabAt_bd len8tab (ix 0 (shownL L fs order) k)
    refine Wx.rd (v := .int .i64 ((tabAt len8tab (ix 0 (shownL L fs order) k)) - 1)) (rd_sub rfl rfl (in_i64 (by omega) (by omega))) rfl ?_
    refine Wx.rd (v := .agg #[.int .i64 (tabAt ntz8tab (ix 0 (shownL L fs order) k)), .int .i64 ((tabAt len8tab (ix 0 (shownL L fs order) k)) - 1)]) (rd_build (vs := [(0, .int .i64 (tabAt ntz8tab (ix 0 (shownL L fs order) k))), (1, .int .i64 ((tabAt len8tab (ix 0 (shownL L fs order) k)) - 1))]) rfl (by kernel_rfl)) rfl ?_
    refine Wx.lit (t := (tP (tI .i64) (tI .i64))) (ys := [(tabAt ntz8tab (ix 0 (shownL L fs order) k), (tabAt len8tab (ix 0 (shownL L fs order) k)) - 1)]) (vs := [.agg #[.int .i64 (tabAt ntz8tab (ix 0 (shownL L fs order) k)), .int .i64 ((tabAt len8tab (ix 0 (shownL L fs order) k)) - 1)]]) elFe_36 hS rfl rfl ⟨(V.mk2 (in_i64 (by omega) (by omega)) (in_i64 (by omega) (by omega))), trivial⟩ (by decide) rfl (fun v_24 w_25 hx_26 hS => ?_)
    refine Wx.append elFe_36 hS 1 rfl rfl rfl (Src.ofR hS 0 rfl) (by simp only [maxLen]; simp; omega) (by simp; omega) rfl (fun v_27 w_28 hz_29 hS => ?_)
    refine Wx.rd (v := v_27) (rd_assign rfl) rfl ?_
    refine Wx.nil ?_
    refine W.reg ?_
    refine Wx.rd (v := .int .i64 (k + 1)) (rd_add rfl rfl (in_i64 (by omega) (by omega))) rfl ?_
    refine Wx.rd (v := .int .i64 (k + 1)) (rd_move rfl) rfl ?_
    refine Wx.nil ?_
    refine ⟨(k + 1, v_27, out ++ [(tabAt ntz8tab (ix 0 (shownL L fs order) k), (tabAt len8tab (ix 0 (shownL L fs order) k)) - 1)]), (by show ((shownL L fs order).length - (k + 1)).toNat < ((shownL L fs order).length - k).toNat; omega), ?_, ?_, Out.look rfl Out.self⟩
    · exact ⟨hS.tl, (by first | omega | assumption), (by first | omega | assumption), (by rw [take_ix (d := 0) h0 c0, h2]; simp)⟩
    · exact ⟨rfl, rfl, trivial⟩
  · -- no
    refine W.exit rfl ?_
    refine W.seq ?_
    refine W.reg ?_
    refine Wx.rd (v := xv) (rd_move rfl) rfl ?_
    refine Wx.rd (v := .int .i64 (shownE L fs order)) (rd_move rfl) rfl ?_
    refine Wx.rd (v := xv) (rd_assign rfl) rfl ?_
    refine Wx.rd (v := .int .i64 (shownE L fs order)) (rd_assign rfl) rfl ?_
    refine Wx.nil ?_
    have e0_0 : datesL L fs order = out := by rw [h2, take_end (by omega), datesL]
    exact W.ret ⟨.tuple #[xv, .int .i64 (shownE L fs order)], ResIs.two, hS.bel, ⟨xv, rfl, (by rw [e0_0]; exact (hS.fr 0 rfl flat_i2))⟩⟩
end Go.Proofs.Ytjmpojoimcljoaa
