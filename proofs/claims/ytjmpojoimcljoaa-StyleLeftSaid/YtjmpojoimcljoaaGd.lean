/-
  WHAT IS PROVED HERE: what functions of layer 3 hand back, each out of its own code; the conditions stand in each statement.
-/
import Derived.Test.YtjmpojoimcljoaaProg
import Derived.Test.YtjmpojoimcljoaaWk8
import Derived.Test.YtjmpojoimcljoaaSpec5
import Derived.Test.YtjmpojoimcljoaaFa
import Derived.Test.YtjmpojoimcljoaaGa
namespace Go.Proofs.Ytjmpojoimcljoaa
open Go.Wk Go.RowKit
set_option linter.unusedVariables false
set_option linter.unusedSimpArgs false
theorem foGd_24_0 : fldOff Try.prog 24 0 = some 0 := by kernel_rfl
theorem foGd_24_1 : fldOff Try.prog 24 1 = some 1 := by kernel_rfl
theorem elGd_22 : ElemI Try.prog 22 28 ((.slice none 0 0)) 1 24 := ElemI.of Try.underlying22 (by kernel_rfl) (by first | rfl | kernel_rfl) (by decide)

theorem F48 {o : Int} {gf : Nat} {L : Int} {fv : Value} {fs : List (List Int)} {O : List (Option Nat)} {w : World} (i_o : InK .i64 o) (i_L : InK .i64 L) (h_fv : V (tSl (tSl (tI .i64))) fs fv O w) (x_gf : w.heap[gf]? = some (.cells #[.int .i64 L, fv] 24 (0, 0))) (p_10 : (fs.length : Int) ≤ 10) (hO : ∀ b, some b ∈ O → b < w.heap.size) : Calls Try.prog 48 #[.int .i64 o, .pointer (some ⟨gf, 0, none⟩)] w (Ret w (fun r w' => ∃ rv, r = .agg #[.int .i64 L, rv] ∧ V (tSl (tSl (tI .i64))) (restW o 0 fs) rv O w')) := by
  have b_L := bd_i64 i_L
  have b_o := bd_i64 i_o
  have a_fv := h_fv
  have l_fv := h_fv.len63
  have hS := St.start w O hO
  refine enterR Try.func48 rfl Try.ntmps48 Try.results48 rfl ?_
  refine W.seq ?_
  refine W.reg ?_
  refine Wx.alloc (cs := [.int .i64 0, (.slice none 0 0)]) hS Try.zeroValue24 rfl rfl (fun g_1 w_2 hx_4 hb_3 hS => ?_)
  refine Wx.nil ?_
  refine W.seq ?_
  refine W.reg ?_
  refine Wx.rd (v := .pointer (some ⟨gf, 0, none⟩)) (rd_fieldAddr rfl foGd_24_0) rfl ?_
  refine Wx.rd (v := .int .i64 L) (rd_loadO x_gf hS.bel rfl rfl Try.isAgg3) rfl ?_
  refine Wx.rd (v := .agg #[.int .i64 L, (.slice none 0 0)]) (rd_build (vs := [(0, .int .i64 L)]) rfl (by kernel_rfl)) rfl ?_
  refine Wx.alloc (cs := [.int .i64 0, (.slice none 0 0)]) hS Try.zeroValue24 rfl rfl (fun g_5 w_6 hx_8 hb_7 hS => ?_)
  refine Wx.storeX (cs' := [.int .i64 L, (.slice none 0 0)]) (ds := [.int .i64 L, (.slice none 0 0)]) hS 0 rfl rfl rfl rfl Try.sizeOf24 (Nat.le_of_ble_eq_true rfl) (one_cons rfl (one_cons rfl one_nil)) rfl (fun w_9 hz_10 hS => ?_)
  refine Wx.nil ?_
  refine W.seq ?_
  refine W.seq ?_
  refine W.reg ?_
  refine Wx.rd (v := .pointer (some ⟨gf, 1, none⟩)) (rd_fieldAddr rfl foGd_24_1) rfl ?_
  refine Wx.rd (v := fv) (rd_loadO x_gf hS.bel rfl rfl Try.isAgg22) rfl ?_
  refine Wx.rd (v := .int .i64 (fs.length : Int)) (rd_lenV rfl (hS.arg a_fv) Try.underlying22) rfl ?_
  refine Wx.rd (v := .int .i64 0) (rd_move rfl) rfl ?_
  refine Wx.nil ?_
  refine W.block ?_
  have hS := hS.addNil (tSl (tI .i64)) 28
  refine W.loop [5, 6, 13, 14, 15, 16, 17, 18, 19, 20, 21, 22, 23, 24, 25, 26, 27, 28, 29] (fun x : Int × Value × (List (List Int)) => match x with | (k, sv, acc) => [(13, .int .i64 k)]) (fun (x : Int × Value × (List (List Int))) w' => match x with | (k, sv, acc) => St w O w' [.row (tSl (tI .i64)) 28 sv acc, .box g_5 24 [.int .i64 L, sv], .box g_1 24 [.int .i64 0, (.slice none 0 0)]] ∧ 0 ≤ k ∧ k ≤ fs.length ∧ acc ++ restW o k (fs.drop k.toNat) = restW o 0 fs ∧ (acc.length : Int) ≤ k) (fun x : Int × Value × (List (List Int)) => match x with | (k, sv, acc) => (fs.length - k).toNat) (0, (.slice none 0 0), []) ⟨rfl, trivial⟩ ⟨hS, (by first | omega | simp), (by first | omega | simp), (by simp), (by simp)⟩ ?_
  rintro ⟨k, sv, acc⟩ u_12 w_11 ⟨hS, h0, h1, h2, h3⟩
  refine W.seq ?_
  refine W.reg ?_
  refine Wx.rd (v := .bool (decide (k < (fs.length : Int)))) (rd_lss rfl rfl) rfl ?_
  refine Wx.nil ?_
  refine W.seq ?_
  refine W.condD rfl (fun c0 => ?_) (fun c0 => ?_)
  · -- yes
    refine W.skip ?_
    refine W.seq ?_
    refine W.block ?_
    refine W.seq ?_
    refine W.reg ?_
    refine Wx.rd (v := .int .i64 k) (rd_move rfl) rfl ?_
    refine Wx.ex (rd_index [] (hS.arg a_fv) rfl rfl Try.underlying22 Try.sizeOf28 (by first | omega | (simp only [List.length_set, List.length_append, List.length_cons, List.length_nil, List.length_replicate]; omega)) (by first | omega | (simp only [List.length_set, List.length_append, List.length_cons, List.length_nil, List.length_replicate]; omega))) rfl (fun p_13 hp_14 => ?_)
    refine Wx.ex (rd_load hp_14 rfl Try.isAgg28 Try.sizeOf28) rfl (fun v_15 hv_16 => ?_)
    have ln_17 := hv_16.len63
    have hS := hS.add hv_16
    refine Wx.rd (v := .int .i64 k) (rd_assign rfl) rfl ?_
    refine Wx.rd (v := v_15) (rd_assign rfl) rfl ?_
    refine Wx.nil ?_
    refine W.seq ?_
    refine W.reg ?_
    refine Wx.rd (v := .int .i64 o) (rd_move rfl) rfl ?_
    refine Wx.rd (v := .int .i64 k) (rd_move rfl) rfl ?_
    refine Wx.rd (v := .int .i64 (o / 2 ^ min k.toNat (IntKind.i64).bits)) (rd_shr rfl rfl (by omega)) rfl ?_
    refine Wx.rd (v := .int .i64 (bits .and .i64 (o / 2 ^ min k.toNat (IntKind.i64).bits) 1)) (rd_and rfl rfl) rfl ?_
    have bd_19 := bd_i64 (bits_in .and .i64 (o / 2 ^ min k.toNat (IntKind.i64).bits) 1)
    refine Wx.rd (v := .bool (decide ((bits .and .i64 (o / 2 ^ min k.toNat (IntKind.i64).bits) 1) = 0))) (rd_eql rfl rfl) rfl ?_
    refine Wx.nil ?_
    refine W.condD rfl (fun c1 => ?_) (fun c1 => ?_)
    · -- yes
      refine W.reg ?_
      refine Wx.rd (v := .pointer (some ⟨g_5, 1, none⟩)) (rd_fieldAddr rfl foGd_24_1) rfl ?_
      refine Wx.rd (v := sv) (rd_loadX hS 2 rfl rfl rfl Try.isAgg22) rfl ?_
      refine Wx.rd (v := v_15) (rd_move rfl) rfl ?_
      refine Wx.lit (t := (tSl (tI .i64))) (ys := [ix [] fs k]) (vs := [v_15]) elGd_22 hS rfl rfl ⟨(hS.v 0 rfl), trivial⟩ (by decide) rfl (fun v_20 w_21 hx_22 hS => ?_)
      refine Wx.append elGd_22 hS 2 rfl rfl rfl (Src.ofR hS 0 rfl) (by simp only [maxLen]; simp; omega) (by simp; omega) rfl (fun v_23 w_24 hz_25 hS => ?_)
      refine Wx.rd (v := .pointer (some ⟨g_5, 1, none⟩)) (rd_fieldAddr rfl foGd_24_1) rfl ?_
      refine Wx.storeX (cs' := [.int .i64 L, v_23]) (ds := [v_23]) hS 3 rfl rfl rfl (cells_one (hS.rowOne 2 rfl)) Try.sizeOf22 (Nat.le_of_ble_eq_true rfl) (one_cons (hS.rowOne 2 rfl) one_nil) rfl (fun w_26 hz_27 hS => ?_)
      refine Wx.nil ?_
      refine W.reg ?_
      refine Wx.rd (v := .int .i64 (k + 1)) (rd_add rfl rfl (in_i64 (by omega) (by omega))) rfl ?_
      refine Wx.rd (v := .int .i64 (k + 1)) (rd_move rfl) rfl ?_
      refine Wx.nil ?_
      refine ⟨(k + 1, v_23, acc ++ [ix [] fs k]), (by show (fs.length - (k + 1)).toNat < (fs.length - k).toNat; omega), ?_, ?_, Out.look rfl Out.self⟩
      · exact ⟨St.tl (hS.tl), (by first | omega | assumption), (by first | omega | assumption), (by rw [← h2, drop_ix (d := []) h0 c0, restW, if_pos c1, List.append_assoc]; rfl), (by simp; omega)⟩
      · exact ⟨rfl, trivial⟩
    · -- no
      refine W.skip ?_
      refine W.reg ?_
      refine Wx.rd (v := .int .i64 (k + 1)) (rd_add rfl rfl (in_i64 (by omega) (by omega))) rfl ?_
      refine Wx.rd (v := .int .i64 (k + 1)) (rd_move rfl) rfl ?_
      refine Wx.nil ?_
      refine ⟨(k + 1, sv, acc), (by show (fs.length - (k + 1)).toNat < (fs.length - k).toNat; omega), ?_, ?_, Out.look rfl Out.self⟩
      · exact ⟨hS.tl, (by first | omega | assumption), (by first | omega | assumption), (by rw [← h2, drop_ix (d := []) h0 c0, restW, if_neg c1]), (by omega)⟩
      · exact ⟨rfl, trivial⟩
  · -- no
    refine W.exit rfl ?_
    refine W.seq ?_
    refine W.reg ?_
    refine Wx.rd (v := .agg #[.int .i64 L, sv]) (rd_loadXs (ds := [.int .i64 L, sv]) hS 1 rfl rfl rfl rfl Try.isAgg24 Try.sizeOf24) rfl ?_
    refine Wx.storeX (cs' := [.int .i64 L, sv]) (ds := [.int .i64 L, sv]) hS 2 rfl rfl rfl rfl Try.sizeOf24 (Nat.le_of_ble_eq_true rfl) (one_cons rfl (one_cons (hS.rowOne 0 rfl) one_nil)) rfl (fun w_28 hz_29 hS => ?_)
    refine Wx.nil ?_
    have e0_1 : restW o 0 fs = acc := by rw [← h2, drop_end (by omega)]; simp [restW]
    exact W.ret ⟨.agg #[.int .i64 L, sv], (ResIs.cell1 hS 2 rfl rfl Try.isAgg24 Try.sizeOf24), hS.bel, ⟨sv, rfl, (by rw [e0_1]; exact ((hS.lend 0 rfl).mv (.less (fun _ h => List.mem_append.2 (.inr h)))))⟩⟩

theorem F50 {L : Int} {l : List Int} {lv ov : Value} {fs : List (List Int)} {b : Bool} {gi go : Nat} {ob : List Ob} {w0 w : World} {O : List (Option Nat)} (i_L : InK .i64 L) (hS : St w0 O w (Ob.v (tSl (tSl (tI .i64))) fs ov :: .box gi 4 [.bool b] :: .box go 24 [.int .i64 L, ov] :: ob)) (hv : V (tSl (tI .i64)) l lv (fb (Ob.v (tSl (tSl (tI .i64))) fs ov :: .box gi 4 [.bool b] :: .box go 24 [.int .i64 L, ov] :: ob) O) w) : Calls Try.prog 50 #[lv, .pointer (some ⟨gi, 0, none⟩), .pointer (some ⟨go, 0, none⟩)] w (Bk fun r w' => r = .tuple #[] ∧ St w0 O w' (Ob.v (tSl (tSl (tI .i64))) fs ov :: .box gi 4 [.bool (b || fitsW fs l)] :: .box go 24 [.int .i64 L, ov] :: ob)) := by
  have b_L := bd_i64 i_L
  have hS := hS.add (hv)
  have ln_2 := (hS.v 0 rfl).len63
  refine enterB Try.func50 rfl Try.ntmps50 Try.results50 rfl ?_
  refine W.reg ?_
  refine Wx.rd (v := .bool b) (rd_loadX hS 2 rfl rfl rfl Try.isAgg4) rfl ?_
  refine Wx.rd (v := .bool b) (rd_move rfl) rfl ?_
  refine Wx.cut (X := Unit) 4 [6, 7, 8, 9] (fun _ => [(9, .bool (b || fitsW fs l))]) (fun _ w' => St w0 O w' (Ob.v (tSl (tI .i64)) l lv :: Ob.v (tSl (tSl (tI .i64))) fs ov :: .box gi 4 [.bool b] :: .box go 24 [.int .i64 L, ov] :: ob)) ?_ ?_
  · rcases Bool.eq_false_or_eq_true b with g_3 | g_3
    · -- True
      have gp_4 := g_3
      try simp only [Bool.and_eq_true, Bool.or_eq_true, Bool.not_eq_true', Bool.and_eq_false_iff, Bool.or_eq_false_iff, Bool.not_eq_false', decide_eq_true_eq, decide_eq_false_iff_not, not_or, Bool.false_eq_true, Bool.true_eq_false, false_or, or_false, not_false_eq_true] at gp_4
      refine Wx.gnoB rfl rfl (congrArg Value.bool g_3) rfl rfl ?_
      refine Wx.gnoB rfl rfl (congrArg Value.bool g_3) rfl rfl ?_
      refine Wx.gnoB rfl rfl (congrArg Value.bool g_3) rfl rfl ?_
      refine Wx.rd (v := .bool true) (rd_pickT (congrArg Value.bool g_3) rfl) rfl ?_
      refine Wx.nil ⟨(), hS, ⟨?_, trivial⟩, Out.look rfl Out.refl⟩
      show Value.bool true = Value.bool (b || fitsW fs l)
      rw [g_3]; rfl
    · -- False
      have gp_5 := g_3
      try simp only [Bool.and_eq_true, Bool.or_eq_true, Bool.not_eq_true', Bool.and_eq_false_iff, Bool.or_eq_false_iff, Bool.not_eq_false', decide_eq_true_eq, decide_eq_false_iff_not, not_or, Bool.false_eq_true, Bool.true_eq_false, false_or, or_false, not_false_eq_true] at gp_5
      refine Wx.gyes rfl rfl (congrArg Value.bool g_3) ?_
      refine Wx.rd (v := .agg #[.int .i64 L, ov]) (rd_loadXs (ds := [.int .i64 L, ov]) hS 3 rfl rfl rfl rfl Try.isAgg24 Try.sizeOf24) rfl ?_
      refine Wx.gyes rfl rfl (congrArg Value.bool g_3) ?_
      refine Wx.rd (v := lv) (rd_move rfl) rfl ?_
      refine Wx.gyes rfl rfl (congrArg Value.bool g_3) ?_
      refine Wx.callF (run_callF Try.call46 rfl) (F46 (in_i64 (by omega) (by omega)) (hS.v 1 rfl) (hS.v 0 rfl)) rfl ?_
      rintro r_6 w_7 hx_8 rfl
      have hS := hS.ext hx_8
      refine Wx.rd (v := .bool (fitsW fs l)) (rd_pickF (congrArg Value.bool g_3) rfl) rfl ?_
      refine Wx.nil ⟨(), hS, ⟨?_, trivial⟩, Out.look rfl Out.refl⟩
      show Value.bool (fitsW fs l) = Value.bool (b || fitsW fs l)
      rw [g_3]; rfl
  rintro ⟨⟩ u_10 w_9 hS
  refine Wx.storeX (cs' := [.bool (b || fitsW fs l)]) (ds := [.bool (b || fitsW fs l)]) hS 2 rfl rfl rfl rfl Try.sizeOf4 (Nat.le_of_ble_eq_true rfl) (one_cons rfl one_nil) rfl (fun w_11 hz_12 hS => ?_)
  refine Wx.nil ?_
  exact ⟨.tuple #[], ResIs.zero, rfl, (St.tl hS)⟩
end Go.Proofs.Ytjmpojoimcljoaa
