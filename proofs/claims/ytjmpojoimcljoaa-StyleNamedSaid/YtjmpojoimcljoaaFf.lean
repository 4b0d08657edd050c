/-
  WHAT IS PROVED HERE: what functions of layer 3 hand back, each out of its own code; the conditions stand in each statement.
-/
import Derived.Test.YtjmpojoimcljoaaProg
import Derived.Test.YtjmpojoimcljoaaWk9
import Derived.Test.YtjmpojoimcljoaaSpec6
import Derived.Test.YtjmpojoimcljoaaFa
import Derived.Test.YtjmpojoimcljoaaFb
import Derived.Test.YtjmpojoimcljoaaFc
namespace Go.Proofs.Ytjmpojoimcljoaa
open Go.Wk Go.RowKit
set_option linter.unusedVariables false
set_option linter.unusedSimpArgs false
theorem foFf_85_0 : fldOff Try.prog 85 0 = some 0 := by kernel_rfl
theorem elFf_28 : ElemI Try.prog 28 3 (.int .i64 0) 1 8 := ElemI.of Try.underlying28 (by kernel_rfl) (by first | rfl | kernel_rfl) (by decide)

theorem F65 {L : Int} {sv : Value} {ss : List Int} {Fr_sv : List (Option Nat)} {w : World} (i_L : InK .i64 L) (h_sv : V (tSl (tI .u8)) ss sv Fr_sv w) (p_1 : 1 ≤ L) (p_7 : L ≤ 7) : Calls Try.prog 65 #[.agg #[.int .i64 L, sv]] w (Ret w (fun r _ => r = .int .i64 (countT L ss))) := by
  have b_L := bd_i64 i_L
  have hpw := powI_bd p_1 p_7
  have hel := endT_len L ss
  have a_sv := h_sv.any
  have l_sv := h_sv.len63
  have hS := St.start0 w
  refine enterR Try.func65 rfl Try.ntmps65 Try.results65 rfl ?_
  refine W.seq ?_
  refine W.reg ?_
  refine Wx.box (cs := [.int .i64 L, sv]) hS rfl rfl rfl (fun g_1 w_2 hx_4 hb_3 hS => ?_)
  refine Wx.rd (v := .int .i64 0) (rd_assign rfl) rfl ?_
  refine Wx.nil ?_
  refine W.seq ?_
  refine W.reg ?_
  refine Wx.rd (v := .agg #[.int .i64 L, sv]) (rd_loadXs (ds := [.int .i64 L, sv]) hS 0 rfl rfl rfl rfl Try.isAgg85 Try.sizeOf85) rfl ?_
  refine Wx.callF (run_callF Try.call61 rfl) (F61 (in_i64 (by omega) (by omega)) (hS.arg a_sv) (by omega) (by omega)) rfl ?_
  rintro r_5 w_6 hx_7 ⟨_, rfl, hv_8⟩
  have hS := hS.pushFr hx_7 hv_8
  refine Wx.indexR hS 0 rfl rfl rfl Try.underlying28 Try.sizeOf3 (by first | omega | (simp only [List.length_set, List.length_append, List.length_cons, List.length_nil, List.length_replicate]; omega)) (by first | omega | (simp only [List.length_set, List.length_append, List.length_cons, List.length_nil, List.length_replicate]; omega)) rfl (fun g_10 hg_11 => ?_)
  refine Wx.rd (v := .int .i64 (ix 0 (endT L ss) 0)) (rd_loadRI' hS 0 rfl hg_11 rfl (by first | omega | (simp only [List.length_set, List.length_append, List.length_cons, List.length_nil, List.length_replicate]; omega)) (by first | omega | (simp only [List.length_set, List.length_append, List.length_cons, List.length_nil, List.length_replicate]; omega)) Try.isAgg3 Try.sizeOf3) rfl ?_
  have bd_12 := bd_i64 (hS.rowInK' 0 rfl (by first | omega | (simp only [List.length_set, List.length_append, List.length_cons, List.length_nil, List.length_replicate]; omega)) (by first | omega | (simp only [List.length_set, List.length_append, List.length_cons, List.length_nil, List.length_replicate]; omega)) : InK .i64 (ix 0 (endT L ss) 0))
  refine Wx.rd (v := .int .i64 (ix 0 (endT L ss) 0)) (rd_assign rfl) rfl ?_
  refine Wx.nil ?_
  have e0_0 : (countT L ss) = (ix 0 (endT L ss) 0 : Int) := by exact (endT0 ss p_1 p_7).symm
  exact W.ret ⟨.int .i64 (ix 0 (endT L ss) 0), ResIs.one, hS.bel, (by rw [e0_0])⟩

theorem F18 {L : Int} {fv : Value} {fs : List (List Int)} {Fr_fv : List (Option Nat)} {w : World} (i_L : InK .i64 L) (h_fv : V (tSl (tSl (tI .i64))) fs fv Fr_fv w) : Calls Try.prog 18 #[.agg #[.int .i64 L, fv]] w (Ret w (fun r _ => r = .tuple #[.int .i64 (countE L fs), .int .i64 (checkE L fs)])) := by
  have b_L := bd_i64 i_L
  have a_fv := h_fv.any
  have l_fv := h_fv.len63
  have hS := St.start0 w
  refine enterR Try.func18 rfl Try.ntmps18 Try.results18 rfl ?_
  refine W.seq ?_
  refine W.reg ?_
  refine Wx.box (cs := [.int .i64 L, fv]) hS rfl rfl rfl (fun g_1 w_2 hx_4 hb_3 hS => ?_)
  refine Wx.rd (v := .int .i64 0) (rd_assign rfl) rfl ?_
  refine Wx.rd (v := .int .i64 0) (rd_assign rfl) rfl ?_
  refine Wx.nil ?_
  refine W.seq ?_
  refine W.reg ?_
  refine Wx.rd (v := .agg #[.int .i64 L, fv]) (rd_loadXs (ds := [.int .i64 L, fv]) hS 0 rfl rfl rfl rfl Try.isAgg24 Try.sizeOf24) rfl ?_
  refine Wx.callF (run_callF Try.call60 rfl) (F60 (in_i64 (by omega) (by omega)) (hS.arg a_fv) hS.fb_lt) rfl ?_
  rintro r_5 w_6 hx_7 ⟨v_8, rfl, hv_9⟩
  have ln_11 := hv_9.len63
  have hS := hS.ext hx_7
  have hS := hS.add hv_9
  refine Wx.rd (v := .tuple #[.agg #[.int .i64 (openL L fs), v_8], .int .i64 (checkE L fs)]) (rd_move rfl) rfl ?_
  refine Wx.rd (v := .agg #[.int .i64 (openL L fs), v_8]) (rd_extract rfl rfl) rfl ?_
  refine Wx.rd (v := .int .i64 (checkE L fs)) (rd_extract rfl rfl) rfl ?_
  refine Wx.alloc (cs := [.int .i64 0, (.slice none 0 0)]) hS Try.zeroValue85 rfl rfl (fun g_12 w_13 hx_15 hb_14 hS => ?_)
  refine Wx.storeX (cs' := [.int .i64 (openL L fs), v_8]) (ds := [.int .i64 (openL L fs), v_8]) hS 0 rfl rfl rfl rfl Try.sizeOf85 (Nat.le_of_ble_eq_true rfl) (one_cons rfl (one_cons (V.oneC (hS.v 1 rfl)) one_nil)) rfl (fun w_16 hz_17 hS => ?_)
  refine Wx.rd (v := .int .i64 (checkE L fs)) (rd_assign rfl) rfl ?_
  refine Wx.nil ?_
  refine W.seq ?_
  refine W.seq ?_
  refine W.reg ?_
  refine Wx.rd (v := .int .i64 (checkE L fs)) (rd_move rfl) rfl ?_
  refine Wx.rd (v := .bool (decide ((checkE L fs) ≠ 0))) (rd_neq rfl rfl) rfl ?_
  refine Wx.nil ?_
  refine W.condD rfl (fun c0 => ?_) (fun c0 => ?_)
  · -- yes
    refine W.seq ?_
    refine W.reg ?_
    refine Wx.rd (v := .int .i64 (checkE L fs)) (rd_move rfl) rfl ?_
    refine Wx.rd (v := .int .i64 0) (rd_assign rfl) rfl ?_
    refine Wx.rd (v := .int .i64 (checkE L fs)) (rd_assign rfl) rfl ?_
    refine Wx.nil ?_
    have hE : countE L fs = 0 := by rw [countE, if_pos (by omega)]
    have e0_0 : (countE L fs) = (0 : Int) := by exact hE
    exact W.ret ⟨.tuple #[.int .i64 0, .int .i64 (checkE L fs)], ResIs.two, hS.bel, (by rw [e0_0])⟩
  · -- no
    have hc : checkE L fs = 0 := by omega
    have ho := openL_ok hc
    refine W.skip ?_
    refine W.seq ?_
    refine W.reg ?_
    refine Wx.rd (v := .agg #[.int .i64 (openL L fs), v_8]) (rd_loadXs (ds := [.int .i64 (openL L fs), v_8]) hS 0 rfl rfl rfl rfl Try.isAgg85 Try.sizeOf85) rfl ?_
    refine Wx.callF (run_callF Try.call65 rfl) (F65 (in_i64 (by omega) (by omega)) (hS.v 1 rfl) (by omega) (by omega)) rfl ?_
    rintro r_18 w_19 hx_20 rfl
    have hS := hS.ext hx_20
    refine Wx.rd (v := .int .i64 (countT (openL L fs) (openS L fs))) (rd_assign rfl) rfl ?_
    refine Wx.rd (v := .int .i64 0) (rd_assign rfl) rfl ?_
    refine Wx.nil ?_
    have hE : countE L fs = countT (openL L fs) (openS L fs) := by rw [countE, if_neg (by omega), ho.1, ho.2.1]
    have e1_0 : (countE L fs) = (countT (openL L fs) (openS L fs) : Int) := by exact hE
    have e1_1 : (checkE L fs) = (0 : Int) := by omega
    exact W.ret ⟨.tuple #[.int .i64 (countT (openL L fs) (openS L fs)), .int .i64 0], ResIs.two, hS.bel, (by rw [e1_0, e1_1])⟩

theorem F16 {L : Int} {fv : Value} {fs : List (List Int)} {Fr_fv : List (Option Nat)} {w : World} (i_L : InK .i64 L) (h_fv : V (tSl (tSl (tI .i64))) fs fv Fr_fv w) : Calls Try.prog 16 #[.agg #[.int .i64 L, fv]] w (Ret w (fun r w' => ∃ rv, r = .tuple #[rv, .int .i64 (firstE L fs)] ∧ Fresh (tI .i64) 3 (firstL L fs) rv w.heap.size w')) := by
  have b_L := bd_i64 i_L
  have a_fv := h_fv.any
  have l_fv := h_fv.len63
  have hS := St.start0 w
  refine enterR Try.func16 rfl Try.ntmps16 Try.results16 rfl ?_
  refine W.seq ?_
  refine W.reg ?_
  refine Wx.box (cs := [.int .i64 L, fv]) hS rfl rfl rfl (fun g_1 w_2 hx_4 hb_3 hS => ?_)
  refine Wx.rd (v := (.slice none 0 0)) (rd_assign rfl) rfl ?_
  refine Wx.rd (v := .int .i64 0) (rd_assign rfl) rfl ?_
  refine Wx.nil ?_
  refine W.seq ?_
  refine W.reg ?_
  refine Wx.rd (v := .agg #[.int .i64 L, fv]) (rd_loadXs (ds := [.int .i64 L, fv]) hS 0 rfl rfl rfl rfl Try.isAgg24 Try.sizeOf24) rfl ?_
  refine Wx.callF (run_callF Try.call60 rfl) (F60 (in_i64 (by omega) (by omega)) (hS.arg a_fv) hS.fb_lt) rfl ?_
  rintro r_5 w_6 hx_7 ⟨v_8, rfl, hv_9⟩
  have ln_11 := hv_9.len63
  have hS := hS.ext hx_7
  have hS := hS.add hv_9
  refine Wx.rd (v := .tuple #[.agg #[.int .i64 (openL L fs), v_8], .int .i64 (checkE L fs)]) (rd_move rfl) rfl ?_
  refine Wx.rd (v := .agg #[.int .i64 (openL L fs), v_8]) (rd_extract rfl rfl) rfl ?_
  refine Wx.rd (v := .int .i64 (checkE L fs)) (rd_extract rfl rfl) rfl ?_
  refine Wx.alloc (cs := [.int .i64 0, (.slice none 0 0)]) hS Try.zeroValue85 rfl rfl (fun g_12 w_13 hx_15 hb_14 hS => ?_)
  refine Wx.storeX (cs' := [.int .i64 (openL L fs), v_8]) (ds := [.int .i64 (openL L fs), v_8]) hS 0 rfl rfl rfl rfl Try.sizeOf85 (Nat.le_of_ble_eq_true rfl) (one_cons rfl (one_cons (V.oneC (hS.v 1 rfl)) one_nil)) rfl (fun w_16 hz_17 hS => ?_)
  refine Wx.rd (v := .int .i64 (checkE L fs)) (rd_assign rfl) rfl ?_
  refine Wx.nil ?_
  refine W.seq ?_
  refine W.seq ?_
  refine W.reg ?_
  refine Wx.rd (v := .int .i64 (checkE L fs)) (rd_move rfl) rfl ?_
  refine Wx.rd (v := .bool (decide ((checkE L fs) ≠ 0))) (rd_neq rfl rfl) rfl ?_
  refine Wx.nil ?_
  refine W.condD rfl (fun c0 => ?_) (fun c0 => ?_)
  · -- yes
    refine W.seq ?_
    refine W.reg ?_
    refine Wx.rd (v := .int .i64 (checkE L fs)) (rd_move rfl) rfl ?_
    refine Wx.rd (v := (.slice none 0 0)) (rd_assign rfl) rfl ?_
    refine Wx.rd (v := .int .i64 (checkE L fs)) (rd_assign rfl) rfl ?_
    refine Wx.nil ?_
    have hE : firstE L fs = checkE L fs := by rw [firstE, if_pos (by omega)]
    have hl : firstL L fs = [] := by rw [firstL, if_neg (by omega)]
    have e0_0 : firstL L fs = [] := by exact hl
    have e0_1 : (firstE L fs) = (checkE L fs : Int) := by exact hE
    exact W.ret ⟨.tuple #[(.slice none 0 0), .int .i64 (checkE L fs)], ResIs.two, hS.bel, ⟨(.slice none 0 0), (by rw [e0_1]), (by rw [e0_0]; exact ((hS.addNil (tI .i64) 3).fr 0 rfl flat_int))⟩⟩
  · -- no
    have hc : checkE L fs = 0 := by omega
    have ho := openL_ok hc
    have hpw := powI_bd (L := openL L fs) (by omega) (by omega)
    have hel := endT_len (openL L fs) (openS L fs)
    have he0 := endT0 (L := openL L fs) (openS L fs) (by omega) (by omega)
    refine W.skip ?_
    refine W.seq ?_
    refine W.reg ?_
    refine Wx.rd (v := .agg #[.int .i64 (openL L fs), v_8]) (rd_loadXs (ds := [.int .i64 (openL L fs), v_8]) hS 0 rfl rfl rfl rfl Try.isAgg85 Try.sizeOf85) rfl ?_
    refine Wx.callF (run_callF Try.call61 rfl) (F61 (in_i64 (by omega) (by omega)) (hS.v 1 rfl) (by omega) (by omega)) rfl ?_
    rintro r_18 w_19 hx_20 ⟨_, rfl, hv_21⟩
    have hS := hS.pushFr hx_20 hv_21
    refine Wx.rd (v := r_18) (rd_assign rfl) rfl ?_
    refine Wx.nil ?_
    refine W.seq ?_
    refine W.seq ?_
    refine W.reg ?_
    refine Wx.rd (v := r_18) (rd_move rfl) rfl ?_
    refine Wx.indexR hS 0 rfl rfl rfl Try.underlying28 Try.sizeOf3 (by first | omega | (simp only [List.length_set, List.length_append, List.length_cons, List.length_nil, List.length_replicate]; omega)) (by first | omega | (simp only [List.length_set, List.length_append, List.length_cons, List.length_nil, List.length_replicate]; omega)) rfl (fun g_23 hg_24 => ?_)
    refine Wx.rd (v := .int .i64 (ix 0 (endT (openL L fs) (openS L fs)) 0)) (rd_loadRI' hS 0 rfl hg_24 rfl (by first | omega | (simp only [List.length_set, List.length_append, List.length_cons, List.length_nil, List.length_replicate]; omega)) (by first | omega | (simp only [List.length_set, List.length_append, List.length_cons, List.length_nil, List.length_replicate]; omega)) Try.isAgg3 Try.sizeOf3) rfl ?_
    have bd_25 := bd_i64 (hS.rowInK' 0 rfl (by first | omega | (simp only [List.length_set, List.length_append, List.length_cons, List.length_nil, List.length_replicate]; omega)) (by first | omega | (simp only [List.length_set, List.length_append, List.length_cons, List.length_nil, List.length_replicate]; omega)) : InK .i64 (ix 0 (endT (openL L fs) (openS L fs)) 0))
    refine Wx.rd (v := .bool (decide ((ix 0 (endT (openL L fs) (openS L fs)) 0) = 0))) (rd_eql rfl rfl) rfl ?_
    refine Wx.nil ?_
    refine W.condD rfl (fun c1 => ?_) (fun c1 => ?_)
    · -- yes
      refine W.seq ?_
      refine W.reg ?_
      refine Wx.rd (v := (.slice none 0 0)) (rd_assign rfl) rfl ?_
      refine Wx.rd (v := .int .i64 12) (rd_assign rfl) rfl ?_
      refine Wx.nil ?_
      have hE : firstE L fs = 12 := by rw [firstE, if_neg (by omega), ← ho.1, ← ho.2.1, if_pos (by omega)]
      have hl : firstL L fs = [] := by rw [firstL, if_neg (by omega)]
      have e1_0 : firstL L fs = [] := by exact hl
      have e1_1 : (firstE L fs) = (12 : Int) := by exact hE
      exact W.ret ⟨.tuple #[(.slice none 0 0), .int .i64 12], ResIs.two, hS.bel, ⟨(.slice none 0 0), (by rw [e1_1]), (by rw [e1_0]; exact ((hS.addNil (tI .i64) 3).fr 0 rfl flat_int))⟩⟩
    · -- no
      have hE : firstE L fs = 0 := by rw [firstE, if_neg (by omega), ← ho.1, ← ho.2.1, if_neg (by omega)]
      refine W.skip ?_
      refine W.seq ?_
      refine W.reg ?_
      refine Wx.rd (v := .pointer (some ⟨g_12, 0, none⟩)) (rd_fieldAddr rfl foFf_85_0) rfl ?_
      refine Wx.rd (v := .int .i64 (openL L fs)) (rd_loadX hS 1 rfl rfl rfl Try.isAgg3) rfl ?_
      obtain ⟨n_29, hn_30⟩ : ∃ n_29 : Nat, (openL L fs : Int) = (n_29 : Int) := ⟨(openL L fs).toNat, by omega⟩
      refine Wx.make0 (t := (tI .i64)) (m := n_29) elFf_28 hS rfl (congrArg (Value.int .i64) hn_30) (by omega) (by simp only [maxLen]; omega) rfl (fun v_26 w_27 hx_28 hS => ?_)
      refine Wx.rd (v := v_26) (rd_assign rfl) rfl ?_
      refine Wx.nil ?_
      refine W.seq ?_
      refine W.reg ?_
      refine Wx.rd (v := .int .u8 0) (rd_assign rfl) rfl ?_
      refine Wx.nil ?_
      refine W.seq ?_
      refine W.seq ?_
      refine W.reg ?_
      refine Wx.rd (v := .pointer (some ⟨g_12, 0, none⟩)) (rd_fieldAddr rfl foFf_85_0) rfl ?_
      refine Wx.rd (v := .int .i64 (openL L fs)) (rd_loadX hS 2 rfl rfl rfl Try.isAgg3) rfl ?_
      refine Wx.rd (v := .int .i64 0) (rd_move rfl) rfl ?_
      refine Wx.nil ?_
      refine W.block ?_
      refine W.loop [7, 8, 9, 29, 30, 31, 32, 33, 34, 35, 36, 37, 38, 39, 40, 41, 42, 43, 44, 45, 46, 47, 48, 49, 50, 51, 52, 53, 54, 55, 56, 57] (fun x : Int × Int × Value × (List Int) => match x with | (q, i, xv, out) => [(8, .int .u8 q), (29, .int .i64 i), (7, xv)]) (fun (x : Int × Int × Value × (List Int)) w' => match x with | (q, i, xv, out) => St w [] w' [.row (tI .i64) 3 xv out, .row (tI .i64) 3 r_18 (endT (openL L fs) (openS L fs)), .box g_12 85 [.int .i64 (openL L fs), v_8], Ob.v (tSl (tI .u8)) (openS L fs) v_8, .box g_1 24 [.int .i64 L, fv]] ∧ 0 ≤ i ∧ i ≤ openL L fs ∧ firstG (openL L fs) (openS L fs) (openL L fs - i).toNat q out = firstG (openL L fs) (openS L fs) (openL L fs).toNat 0 [] ∧ (out.length : Int) ≤ i ∧ 0 ≤ q ∧ q < powI (openL L fs)) (fun x : Int × Int × Value × (List Int) => match x with | (q, i, xv, out) => (openL L fs - i).toNat) (0, 0, v_26, []) ⟨rfl, rfl, rfl, trivial⟩ ⟨hS, (by first | omega | simp), (by first | omega | simp), (by simp), (by simp), (by first | omega | simp), (by first | omega | simp)⟩ ?_
      rintro ⟨q, i, xv, out⟩ u_32 w_31 ⟨hS, h0, h1, h2, h3, h4, h5⟩
      refine W.seq ?_
      refine W.reg ?_
      refine Wx.rd (v := .bool (decide (i < (openL L fs)))) (rd_lss rfl rfl) rfl ?_
      refine Wx.nil ?_
      refine W.seq ?_
      refine W.condD rfl (fun c2 => ?_) (fun c2 => ?_)
      · -- yes
        refine W.skip ?_
        refine W.seq ?_
        refine W.block ?_
        refine W.seq ?_
        refine W.reg ?_
        refine Wx.rd (v := .pointer (some ⟨g_12, 0, none⟩)) (rd_fieldAddr rfl foFf_85_0) rfl ?_
        refine Wx.rd (v := .int .i64 (openL L fs)) (rd_loadX hS 2 rfl rfl rfl Try.isAgg3) rfl ?_
        refine Wx.rd (v := .int .i64 0) (rd_move rfl) rfl ?_
        refine Wx.nil ?_
        refine W.block ?_
        refine W.loop [7, 8, 9, 33, 34, 35, 36, 37, 38, 39, 40, 41, 42, 43, 44, 45, 46, 47, 48, 49, 50, 51, 52, 53, 54, 55, 56] (fun (j : Int) => [(8, .int .u8 q), (33, .int .i64 j), (7, xv)]) (fun (j : Int) w' => St w [] w' [.row (tI .i64) 3 xv out, .row (tI .i64) 3 r_18 (endT (openL L fs) (openS L fs)), .box g_12 85 [.int .i64 (openL L fs), v_8], Ob.v (tSl (tI .u8)) (openS L fs) v_8, .box g_1 24 [.int .i64 L, fv]] ∧ 0 ≤ j ∧ j ≤ openL L fs ∧ pickF (openL L fs) (openS L fs) q (openL L fs - j).toNat = pickF (openL L fs) (openS L fs) q (openL L fs).toNat) (fun (j : Int) => (openL L fs - j).toNat) 0 ⟨rfl, rfl, rfl, trivial⟩ ⟨hS, (by first | omega | simp), (by first | omega | simp), (by simp)⟩ ?_
        rintro j u_34 w_33 ⟨hS, g0, g1, g2⟩
        refine W.seq ?_
        refine W.reg ?_
        refine Wx.rd (v := .bool (decide (j < (openL L fs)))) (rd_lss rfl rfl) rfl ?_
        refine Wx.nil ?_
        refine W.seq ?_
        refine W.condD rfl (fun c3 => ?_) (fun c3 => ?_)
        · -- yes
          refine W.skip ?_
          refine W.seq ?_
          refine W.block ?_
          refine W.seq ?_
          refine W.reg ?_
          refine Wx.rd (v := .int .i64 j) (rd_move rfl) rfl ?_
          refine Wx.rd (v := .int .i64 j) (rd_assign rfl) rfl ?_
          refine Wx.nil ?_
          refine W.seq ?_
          refine W.reg ?_
          refine Wx.rd (v := .agg #[.int .i64 (openL L fs), v_8]) (rd_loadXs (ds := [.int .i64 (openL L fs), v_8]) hS 2 rfl rfl rfl rfl Try.isAgg85 Try.sizeOf85) rfl ?_
          refine Wx.rd (v := .int .u8 q) (rd_move rfl) rfl ?_
          refine Wx.rd (v := .int .i64 j) (rd_move rfl) rfl ?_
          refine Wx.callF (run_callF Try.call62 rfl) (F62 (in_i64 (by omega) (by omega)) (hS.v 3 rfl) (in_u8 (by omega) (by omega)) (in_i64 (by omega) (by omega)) (by omega)) rfl ?_
          rintro r_35 w_36 hx_37 rfl
          have hS := hS.ext hx_37
          refine Wx.rd (v := .bool (mayB (openS L fs) q j)) (rd_move rfl) rfl ?_
          refine Wx.cut (X := Unit) 8 [41, 42, 43, 44, 45, 46, 47, 48] (fun _ => [(48, .bool (mayB (openS L fs) q j && decide (0 < (ix 0 (endT (openL L fs) (openS L fs)) (withS q j)))))]) (fun _ w' => St w [] w' [.row (tI .i64) 3 xv out, .row (tI .i64) 3 r_18 (endT (openL L fs) (openS L fs)), .box g_12 85 [.int .i64 (openL L fs), v_8], Ob.v (tSl (tI .u8)) (openS L fs) v_8, .box g_1 24 [.int .i64 L, fv]]) ?_ ?_
          · rcases Bool.eq_false_or_eq_true (mayB (openS L fs) q j) with g_38 | g_38
            · -- True
              have gp_39 := g_38
              try simp only [Bool.and_eq_true, Bool.or_eq_true, Bool.not_eq_true', Bool.and_eq_false_iff, Bool.or_eq_false_iff, Bool.not_eq_false', decide_eq_true_eq, decide_eq_false_iff_not, not_or, Bool.false_eq_true, Bool.true_eq_false, false_or, or_false, not_false_eq_true] at gp_39
              refine Wx.gyes rfl rfl (congrArg Value.bool g_38) ?_
              refine Wx.rd (v := r_18) (rd_move rfl) rfl ?_
              refine Wx.gyes rfl rfl (congrArg Value.bool g_38) ?_
              refine Wx.rd (v := .int .u8 q) (rd_move rfl) rfl ?_
              refine Wx.gyes rfl rfl (congrArg Value.bool g_38) ?_
              refine Wx.rd (v := .int .i64 j) (rd_move rfl) rfl ?_
              refine Wx.gyes rfl rfl (congrArg Value.bool g_38) ?_
              refine Wx.callF (run_callF Try.call63 rfl) (F63 (in_u8 (by omega) (by omega)) (in_i64 (by omega) (by omega)) (by omega)) rfl ?_
              rintro r_40 w_41 hx_42 rfl
              have hS := hS.ext hx_42
              have in_43 := bd_u8 (withS_in q j)
              refine Wx.gyes rfl rfl (congrArg Value.bool g_38) ?_
              have hw := withS_lt (L := openL L fs) (p := q) (n := j) (by omega) (by omega) (by omega) (by omega) (by omega) (by omega)
              refine Wx.indexR hS 1 rfl rfl rfl Try.underlying28 Try.sizeOf3 (by first | omega | (simp only [List.length_set, List.length_append, List.length_cons, List.length_nil, List.length_replicate]; omega)) (by first | omega | (simp only [List.length_set, List.length_append, List.length_cons, List.length_nil, List.length_replicate]; omega)) rfl (fun g_44 hg_45 => ?_)
              refine Wx.gyes rfl rfl (congrArg Value.bool g_38) ?_
              refine Wx.rd (v := .int .i64 (ix 0 (endT (openL L fs) (openS L fs)) (withS q j))) (rd_loadRI' hS 1 rfl hg_45 rfl (by first | omega | (simp only [List.length_set, List.length_append, List.length_cons, List.length_nil, List.length_replicate]; omega)) (by first | omega | (simp only [List.length_set, List.length_append, List.length_cons, List.length_nil, List.length_replicate]; omega)) Try.isAgg3 Try.sizeOf3) rfl ?_
              have bd_46 := bd_i64 (hS.rowInK' 1 rfl (by first | omega | (simp only [List.length_set, List.length_append, List.length_cons, List.length_nil, List.length_replicate]; omega)) (by first | omega | (simp only [List.length_set, List.length_append, List.length_cons, List.length_nil, List.length_replicate]; omega)) : InK .i64 (ix 0 (endT (openL L fs) (openS L fs)) (withS q j)))
              refine Wx.gyes rfl rfl (congrArg Value.bool g_38) ?_
              refine Wx.rd (v := .bool (decide (0 < (ix 0 (endT (openL L fs) (openS L fs)) (withS q j))))) (rd_gtr rfl rfl) rfl ?_
              refine Wx.rd (v := .bool (decide (0 < (ix 0 (endT (openL L fs) (openS L fs)) (withS q j))))) (rd_pickT (congrArg Value.bool g_38) rfl) rfl ?_
              refine Wx.nil ⟨(), hS, ⟨?_, trivial⟩, Out.look rfl Out.refl⟩
              show Value.bool (decide (0 < (ix 0 (endT (openL L fs) (openS L fs)) (withS q j)))) = Value.bool (mayB (openS L fs) q j && decide (0 < (ix 0 (endT (openL L fs) (openS L fs)) (withS q j))))
              rw [g_38]; rfl
            · -- False
              have gp_47 := g_38
              try simp only [Bool.and_eq_true, Bool.or_eq_true, Bool.not_eq_true', Bool.and_eq_false_iff, Bool.or_eq_false_iff, Bool.not_eq_false', decide_eq_true_eq, decide_eq_false_iff_not, not_or, Bool.false_eq_true, Bool.true_eq_false, false_or, or_false, not_false_eq_true] at gp_47
              refine Wx.gnoB rfl rfl (congrArg Value.bool g_38) rfl rfl ?_
              refine Wx.gnoB rfl rfl (congrArg Value.bool g_38) rfl rfl ?_
              refine Wx.gnoB rfl rfl (congrArg Value.bool g_38) rfl rfl ?_
              refine Wx.gnoB rfl rfl (congrArg Value.bool g_38) rfl rfl ?_
              refine Wx.gnoB rfl rfl (congrArg Value.bool g_38) rfl rfl ?_
              refine Wx.gnoB rfl rfl (congrArg Value.bool g_38) rfl rfl ?_
              refine Wx.gnoB rfl rfl (congrArg Value.bool g_38) rfl rfl ?_
              refine Wx.rd (v := .bool false) (rd_pickF (congrArg Value.bool g_38) rfl) rfl ?_
              refine Wx.nil ⟨(), hS, ⟨?_, trivial⟩, Out.look rfl Out.refl⟩
              show Value.bool false = Value.bool (mayB (openS L fs) q j && decide (0 < (ix 0 (endT (openL L fs) (openS L fs)) (withS q j))))
              rw [g_38]; rfl
          rintro ⟨⟩ u_49 w_48 hS
          refine Wx.nil ?_
          refine W.cond rfl (fun c4 => ?_) (fun c4 => ?_)
          · -- yes
            try simp only [Bool.and_eq_true, Bool.or_eq_true, Bool.not_eq_true', Bool.and_eq_false_iff, Bool.or_eq_false_iff, Bool.not_eq_false', decide_eq_true_eq, decide_eq_false_iff_not, not_or, Bool.false_eq_true, Bool.true_eq_false, false_or, or_false, not_false_eq_true] at c4
            refine W.seq ?_
            refine W.reg ?_
            refine Wx.rd (v := xv) (rd_move rfl) rfl ?_
            refine Wx.rd (v := .int .i64 j) (rd_move rfl) rfl ?_
            refine Wx.lit (t := (tI .i64)) (ys := [j]) (vs := [.int .i64 j]) elFf_28 hS rfl rfl ⟨(V.mkInt (in_i64 (by omega) (by omega))), trivial⟩ (by decide) rfl (fun v_50 w_51 hx_52 hS => ?_)
            refine Wx.append elFf_28 hS 1 rfl rfl rfl (Src.ofR hS 0 rfl) (by simp only [maxLen]; simp; omega) (by simp; omega) rfl (fun v_53 w_54 hz_55 hS => ?_)
            refine Wx.rd (v := .int .u8 q) (rd_move rfl) rfl ?_
            refine Wx.rd (v := .int .i64 j) (rd_move rfl) rfl ?_
            have hw := withS_lt (L := openL L fs) (p := q) (n := j) (by omega) (by omega) (by omega) (by omega) (by omega) (by omega)
            refine Wx.callF (run_callF Try.call63 rfl) (F63 (in_u8 (by omega) (by omega)) (in_i64 (by omega) (by omega)) (by omega)) rfl ?_
            rintro r_56 w_57 hx_58 rfl
            have hS := hS.ext hx_58
            have in_59 := bd_u8 (withS_in q j)
            refine Wx.rd (v := v_53) (rd_assign rfl) rfl ?_
            refine Wx.rd (v := .int .u8 (withS q j)) (rd_assign rfl) rfl ?_
            refine Wx.nil ?_
            refine W.exit rfl ?_
            refine W.reg ?_
            refine Wx.rd (v := .int .i64 (i + 1)) (rd_add rfl rfl (in_i64 (by omega) (by omega))) rfl ?_
            refine Wx.rd (v := .int .i64 (i + 1)) (rd_move rfl) rfl ?_
            refine Wx.nil ?_
            refine ⟨(withS q j, i + 1, v_53, out ++ [j]), (by show (openL L fs - (i + 1)).toNat < (openL L fs - i).toNat; omega), ?_, ?_, Out.look rfl (Out.hav rfl (Out.look rfl (Out.hav rfl (Out.look rfl Out.self))))⟩
            · exact ⟨hS.tl, (by first | omega | assumption), (by first | omega | assumption), (by rw [← h2, show (openL L fs - i).toNat = (openL L fs - (i + 1)).toNat + 1 by omega, firstG, ← g2, show (openL L fs - j).toNat = (openL L fs - (j + 1)).toNat + 1 by omega, pickF, show openL L fs - (((openL L fs - (j + 1)).toNat : Nat) + 1 : Int) = j by omega, if_pos ⟨c4.1, by omega⟩]), (by simp; omega), (by first | omega | assumption), (by first | omega | assumption)⟩
            · exact ⟨rfl, rfl, rfl, trivial⟩
          · -- no
            try simp only [Bool.and_eq_true, Bool.or_eq_true, Bool.not_eq_true', Bool.and_eq_false_iff, Bool.or_eq_false_iff, Bool.not_eq_false', decide_eq_true_eq, decide_eq_false_iff_not, not_or, Bool.false_eq_true, Bool.true_eq_false, false_or, or_false, not_false_eq_true] at c4
            refine W.skip ?_
            refine W.reg ?_
            refine Wx.rd (v := .int .i64 (j + 1)) (rd_add rfl rfl (in_i64 (by omega) (by omega))) rfl ?_
            refine Wx.rd (v := .int .i64 (j + 1)) (rd_move rfl) rfl ?_
            refine Wx.nil ?_
            refine ⟨j + 1, (by show (openL L fs - (j + 1)).toNat < (openL L fs - j).toNat; omega), ?_, ?_, Out.look rfl (Out.hav rfl (Out.look rfl Out.self))⟩
            · exact ⟨hS, (by first | omega | assumption), (by first | omega | assumption), (by rw [← g2, show (openL L fs - j).toNat = (openL L fs - (j + 1)).toNat + 1 by omega, pickF, show openL L fs - (((openL L fs - (j + 1)).toNat : Nat) + 1 : Int) = j by omega, if_neg (by intro hh; rcases c4 with c4 | c4; { rw [hh.1] at c4; cases c4 }; omega)])⟩
            · exact ⟨rfl, rfl, rfl, trivial⟩
        · -- no
          refine W.exit rfl ?_
          refine W.reg ?_
          refine Wx.rd (v := .int .i64 (i + 1)) (rd_add rfl rfl (in_i64 (by omega) (by omega))) rfl ?_
          refine Wx.rd (v := .int .i64 (i + 1)) (rd_move rfl) rfl ?_
          refine Wx.nil ?_
          refine ⟨(q, i + 1, xv, out), (by show (openL L fs - (i + 1)).toNat < (openL L fs - i).toNat; omega), ?_, ?_, Out.look rfl (Out.hav rfl (Out.look rfl Out.self))⟩
          · exact ⟨hS, (by first | omega | assumption), (by first | omega | assumption), (by rw [← h2, show (openL L fs - i).toNat = (openL L fs - (i + 1)).toNat + 1 by omega, firstG, ← g2, show (openL L fs - j).toNat = 0 by omega, pickF]), (by first | omega | assumption), (by first | omega | assumption), (by first | omega | assumption)⟩
          · exact ⟨rfl, rfl, rfl, trivial⟩
      · -- no
        refine W.exit rfl ?_
        refine W.seq ?_
        refine W.reg ?_
        refine Wx.rd (v := xv) (rd_move rfl) rfl ?_
        refine Wx.rd (v := xv) (rd_assign rfl) rfl ?_
        refine Wx.rd (v := .int .i64 0) (rd_assign rfl) rfl ?_
        refine Wx.nil ?_
        have hl : firstL L fs = out := by rw [firstL, if_pos hE, ← ho.1, ← ho.2.1, ← h2, show (openL L fs - i).toNat = 0 by omega, firstG]
        have e2_0 : firstL L fs = out := by exact hl
        have e2_1 : (firstE L fs) = (0 : Int) := by exact hE
        exact W.ret ⟨.tuple #[xv, .int .i64 0], ResIs.two, hS.bel, ⟨xv, (by rw [e2_1]), (by rw [e2_0]; exact (hS.fr 0 rfl flat_int))⟩⟩
end Go.Proofs.Ytjmpojoimcljoaa
