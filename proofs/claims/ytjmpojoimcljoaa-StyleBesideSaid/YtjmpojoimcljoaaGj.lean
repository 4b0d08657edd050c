/-
  WHAT IS PROVED HERE: what functions of layer 3 hand back, each out of its own code; the conditions stand in each statement.
-/
import Derived.Test.YtjmpojoimcljoaaProg
import Derived.Test.YtjmpojoimcljoaaWk9
import Derived.Test.YtjmpojoimcljoaaSpec6
import Derived.Test.YtjmpojoimcljoaaFa
import Derived.Test.YtjmpojoimcljoaaFj
import Derived.Test.YtjmpojoimcljoaaGa
import Derived.Test.YtjmpojoimcljoaaGc
import Derived.Test.YtjmpojoimcljoaaGh
import Derived.Test.YtjmpojoimcljoaaWk11
import Derived.Test.YtjmpojoimcljoaaSpec7
namespace Go.Proofs.Ytjmpojoimcljoaa
open Go.Wk Go.RowKit
set_option linter.unusedVariables false
set_option linter.unusedSimpArgs false


theorem F51 {L c : Int} {l : List Int} {far : List Bool} {lv ov : Value} {fs : List (List Int)} {gf gc gt : Nat} {ob : List Ob} {w0 w : World} {O : List (Option Nat)} (i_L : InK .i64 L) (i_c : InK .i64 c) (p_25 : far.length = 25) (p_l : (l.length : Int) ≤ 5) (p_b : ∀ x ∈ l, 0 ≤ x ∧ x < 5) (hS : St w0 O w (Ob.v (tSl (tSl (tI .i64))) fs ov :: .box gf 24 [.int .i64 L, ov] :: .box gc 3 [.int .i64 c] :: .box gt 74 (List.map Value.bool far) :: ob)) (hv : V (tSl (tI .i64)) l lv (fb (Ob.v (tSl (tSl (tI .i64))) fs ov :: .box gf 24 [.int .i64 L, ov] :: .box gc 3 [.int .i64 c] :: .box gt 74 (List.map Value.bool far) :: ob) O) w) : Calls Try.prog 51 #[lv, .pointer (some ⟨gf, 0, none⟩), .pointer (some ⟨gc, 0, none⟩), .pointer (some ⟨gt, 0, none⟩)] w (Bk fun r w' => r = .tuple #[] ∧ St w0 O w' (Ob.v (tSl (tSl (tI .i64))) fs ov :: .box gf 24 [.int .i64 L, ov] :: .box gc 3 [.int .i64 (stepB fs (c, far) l).1] :: .box gt 74 (List.map Value.bool (stepB fs (c, far) l).2) :: ob)) := by
  have b_L := bd_i64 i_L
  have b_c := bd_i64 i_c
  have hst : stepB fs (c, far) l = if fitsW fs l = true then (IntKind.i64.wrap (c + 1), farA l 0 l far) else (c, far) := rfl
  have hS := hS.add (hv)
  have ln_2 := (hS.v 0 rfl).len63
  refine enterB Try.func51 rfl Try.ntmps51 Try.results51 rfl ?_
  refine W.seq ?_
  refine W.seq ?_
  refine W.reg ?_
  refine Wx.rd (v := .agg #[.int .i64 L, ov]) (rd_loadXs (ds := [.int .i64 L, ov]) hS 2 rfl rfl rfl rfl Try.isAgg24 Try.sizeOf24) rfl ?_
  refine Wx.rd (v := lv) (rd_move rfl) rfl ?_
  refine Wx.callF (run_callF Try.call46 rfl) (F46 (in_i64 (by omega) (by omega)) (hS.v 1 rfl) (hS.v 0 rfl)) rfl ?_
  rintro r_3 w_4 hx_5 rfl
  have hS := hS.ext hx_5
  refine Wx.rd (v := .bool (!(fitsW fs l))) (rd_not rfl) rfl ?_
  refine Wx.nil ?_
  refine W.cond rfl (fun c0 => ?_) (fun c0 => ?_)
  · -- yes
    try simp only [Bool.and_eq_true, Bool.or_eq_true, Bool.not_eq_true', Bool.and_eq_false_iff, Bool.or_eq_false_iff, Bool.not_eq_false', decide_eq_true_eq, decide_eq_false_iff_not, not_or, Bool.false_eq_true, Bool.true_eq_false, false_or, or_false, not_false_eq_true] at c0
    exact W.ret ⟨.tuple #[], ResIs.zero, rfl, by rw [hst, if_neg (by rw [c0]; decide)]; exact hS.tl⟩
  · -- no
    try simp only [Bool.and_eq_true, Bool.or_eq_true, Bool.not_eq_true', Bool.and_eq_false_iff, Bool.or_eq_false_iff, Bool.not_eq_false', decide_eq_true_eq, decide_eq_false_iff_not, not_or, Bool.false_eq_true, Bool.true_eq_false, false_or, or_false, not_false_eq_true] at c0
    refine W.skip ?_
    refine W.seq ?_
    refine W.reg ?_
    refine Wx.rd (v := .int .i64 c) (rd_loadX hS 3 rfl rfl rfl Try.isAgg3) rfl ?_
    refine Wx.rd (v := .int .i64 (IntKind.i64.wrap (c + 1))) (rd_addw rfl rfl) rfl ?_
    refine Wx.storeX (cs' := [.int .i64 (IntKind.i64.wrap (c + 1))]) (ds := [.int .i64 (IntKind.i64.wrap (c + 1))]) hS 3 rfl rfl rfl rfl Try.sizeOf3 (Nat.le_of_ble_eq_true rfl) (one_cons rfl one_nil) rfl (fun w_6 hz_7 hS => ?_)
    refine Wx.nil ?_
    refine W.seq ?_
    refine W.reg ?_
    refine Wx.rd (v := lv) (rd_move rfl) rfl ?_
    refine Wx.rd (v := .int .i64 (l.length : Int)) (rd_lenV rfl (hS.v 0 rfl) Try.underlying28) rfl ?_
    refine Wx.rd (v := .int .i64 0) (rd_move rfl) rfl ?_
    refine Wx.nil ?_
    refine W.block ?_
    refine W.loop [5, 6, 7, 8, 17, 18, 19, 20, 21, 22, 23, 24, 25, 26, 27, 28, 29, 30, 31, 32, 33, 34, 35, 36, 37, 38, 39, 40, 41, 42] (fun x : Int × (List Bool) => match x with | (i, fa) => [(17, .int .i64 i)]) (fun (x : Int × (List Bool)) w' => match x with | (i, fa) => St w0 O w' (Ob.v (tSl (tI .i64)) l lv :: Ob.v (tSl (tSl (tI .i64))) fs ov :: .box gf 24 [.int .i64 L, ov] :: .box gc 3 [.int .i64 (IntKind.i64.wrap (c + 1))] :: .box gt 74 (List.map Value.bool fa) :: ob) ∧ 0 ≤ i ∧ i ≤ l.length ∧ farA l i (l.drop i.toNat) fa = farA l 0 l far ∧ fa.length = 25) (fun x : Int × (List Bool) => match x with | (i, fa) => (l.length - i).toNat) (0, far) ⟨rfl, trivial⟩ ⟨hS, (by first | omega | simp), (by first | omega | simp), (by simp), (p_25)⟩ ?_
    rintro ⟨i, fa⟩ u_9 w_8 ⟨hS, h0, h1, h2, h3⟩
    refine W.seq ?_
    refine W.reg ?_
    refine Wx.rd (v := .bool (decide (i < (l.length : Int)))) (rd_lss rfl rfl) rfl ?_
    refine Wx.nil ?_
    refine W.seq ?_
    refine W.condD rfl (fun c1 => ?_) (fun c1 => ?_)
    · -- yes
      have hib := p_b _ (ix_mem h0 c1)
      refine W.skip ?_
      refine W.seq ?_
      refine W.block ?_
      refine W.seq ?_
      refine W.reg ?_
      refine Wx.rd (v := .int .i64 i) (rd_move rfl) rfl ?_
      refine Wx.ex (rd_index 0 (hS.v 0 rfl) rfl rfl Try.underlying28 Try.sizeOf3 (by first | omega | (simp only [List.length_set, List.length_append, List.length_cons, List.length_nil, List.length_replicate]; omega)) (by first | omega | (simp only [List.length_set, List.length_append, List.length_cons, List.length_nil, List.length_replicate]; omega))) rfl (fun p_10 hp_11 => ?_)
      refine Wx.rd (v := .int .i64 (ix 0 l i)) (rd_loadI hp_11 rfl Try.isAgg3 Try.sizeOf3) rfl ?_
      have bd_12 := bd_i64 hp_11.inK
      refine Wx.rd (v := .int .i64 i) (rd_assign rfl) rfl ?_
      refine Wx.rd (v := .int .i64 (ix 0 l i)) (rd_assign rfl) rfl ?_
      refine Wx.nil ?_
      refine W.seq ?_
      refine W.reg ?_
      refine Wx.rd (v := lv) (rd_move rfl) rfl ?_
      refine Wx.rd (v := .int .i64 (l.length : Int)) (rd_lenV rfl (hS.v 0 rfl) Try.underlying28) rfl ?_
      refine Wx.rd (v := .int .i64 0) (rd_move rfl) rfl ?_
      refine Wx.nil ?_
      refine W.block ?_
      refine W.loop [7, 8, 24, 25, 26, 27, 28, 29, 30, 31, 32, 33, 34, 35, 36, 37, 38, 39, 40, 41] (fun x : Int × (List Bool) => match x with | (k, ft) => [(24, .int .i64 k)]) (fun (x : Int × (List Bool)) w' => match x with | (k, ft) => St w0 O w' (Ob.v (tSl (tI .i64)) l lv :: Ob.v (tSl (tSl (tI .i64))) fs ov :: .box gf 24 [.int .i64 L, ov] :: .box gc 3 [.int .i64 (IntKind.i64.wrap (c + 1))] :: .box gt 74 (List.map Value.bool ft) :: ob) ∧ 0 ≤ k ∧ k ≤ l.length ∧ farB i (ix 0 l i) k (l.drop k.toNat) ft = farB i (ix 0 l i) 0 l fa ∧ ft.length = 25) (fun x : Int × (List Bool) => match x with | (k, ft) => (l.length - k).toNat) (0, fa) ⟨rfl, trivial⟩ ⟨hS, (by first | omega | simp), (by first | omega | simp), (by simp), (h3)⟩ ?_
      rintro ⟨k, ft⟩ u_14 w_13 ⟨hS, g0, g1, g2, g3⟩
      refine W.seq ?_
      refine W.reg ?_
      refine Wx.rd (v := .bool (decide (k < (l.length : Int)))) (rd_lss rfl rfl) rfl ?_
      refine Wx.nil ?_
      refine W.seq ?_
      refine W.condD rfl (fun c2 => ?_) (fun c2 => ?_)
      · -- yes
        have hkb := p_b _ (ix_mem g0 c2)
        refine W.skip ?_
        refine W.seq ?_
        refine W.block ?_
        refine W.seq ?_
        refine W.reg ?_
        refine Wx.rd (v := .int .i64 k) (rd_move rfl) rfl ?_
        refine Wx.ex (rd_index 0 (hS.v 0 rfl) rfl rfl Try.underlying28 Try.sizeOf3 (by first | omega | (simp only [List.length_set, List.length_append, List.length_cons, List.length_nil, List.length_replicate]; omega)) (by first | omega | (simp only [List.length_set, List.length_append, List.length_cons, List.length_nil, List.length_replicate]; omega))) rfl (fun p_15 hp_16 => ?_)
        refine Wx.rd (v := .int .i64 (ix 0 l k)) (rd_loadI hp_16 rfl Try.isAgg3 Try.sizeOf3) rfl ?_
        have bd_17 := bd_i64 hp_16.inK
        refine Wx.rd (v := .int .i64 k) (rd_assign rfl) rfl ?_
        refine Wx.rd (v := .int .i64 (ix 0 l k)) (rd_assign rfl) rfl ?_
        refine Wx.nil ?_
        refine W.seq ?_
        refine W.reg ?_
        refine Wx.rd (v := .int .i64 i) (rd_move rfl) rfl ?_
        refine Wx.rd (v := .int .i64 k) (rd_move rfl) rfl ?_
        refine Wx.rd (v := .int .i64 (i - k)) (rd_sub rfl rfl (in_i64 (by omega) (by omega))) rfl ?_
        refine Wx.rd (v := .int .i64 k) (rd_move rfl) rfl ?_
        refine Wx.rd (v := .int .i64 i) (rd_move rfl) rfl ?_
        refine Wx.rd (v := .int .i64 (k - i)) (rd_sub rfl rfl (in_i64 (by omega) (by omega))) rfl ?_
        refine Wx.rd (v := .int .i64 (max (i - k) (k - i))) (rd_max rfl rfl) rfl ?_
        refine Wx.rd (v := .bool (decide ((max (i - k) (k - i)) ≠ 1))) (rd_neq rfl rfl) rfl ?_
        refine Wx.nil ?_
        refine W.condD rfl (fun c3 => ?_) (fun c3 => ?_)
        · -- yes
          refine W.reg ?_
          refine Wx.rd (v := .int .i64 (ix 0 l i)) (rd_move rfl) rfl ?_
          refine Wx.rd (v := .int .i64 (ix 0 l k)) (rd_move rfl) rfl ?_
          refine Wx.rd (v := .pointer (some ⟨gt, 0 + (ix 0 l i).toNat * 5, none⟩)) (rd_indexArr rfl rfl Try.underlying74 Try.sizeOf73 (by omega) (by omega)) rfl ?_
          refine Wx.rd (v := .pointer (some ⟨gt, 0 + (ix 0 l i).toNat * 5 + (ix 0 l k).toNat * 1, none⟩)) (rd_indexArr rfl rfl Try.underlying73 Try.sizeOf4 (by omega) (by omega)) rfl ?_
          refine Wx.storeXa (j := (ix 0 l i) * 5 + (ix 0 l k)) (f := Value.bool) (u := true) hS 4 rfl rfl (by omega) rfl rfl rfl Try.sizeOf4 (by omega) (by omega) (fun w_18 hz_19 hS => ?_)
          refine Wx.nil ?_
          refine W.reg ?_
          refine Wx.rd (v := .int .i64 (k + 1)) (rd_add rfl rfl (in_i64 (by omega) (by omega))) rfl ?_
          refine Wx.rd (v := .int .i64 (k + 1)) (rd_move rfl) rfl ?_
          refine Wx.nil ?_
          refine ⟨(k + 1, List.set ft ((ix 0 l i) * 5 + (ix 0 l k)).toNat true), (by show (l.length - (k + 1)).toNat < (l.length - k).toNat; omega), ?_, ?_, Out.look rfl Out.self⟩
          · exact ⟨hS, (by first | omega | assumption), (by first | omega | assumption), (by rw [← g2, drop_ix (d := 0) g0 c2, farB, if_pos c3]), (by rw [List.length_set]; exact g3)⟩
          · exact ⟨rfl, trivial⟩
        · -- no
          refine W.skip ?_
          refine W.reg ?_
          refine Wx.rd (v := .int .i64 (k + 1)) (rd_add rfl rfl (in_i64 (by omega) (by omega))) rfl ?_
          refine Wx.rd (v := .int .i64 (k + 1)) (rd_move rfl) rfl ?_
          refine Wx.nil ?_
          refine ⟨(k + 1, ft), (by show (l.length - (k + 1)).toNat < (l.length - k).toNat; omega), ?_, ?_, Out.look rfl Out.self⟩
          · exact ⟨hS, (by first | omega | assumption), (by first | omega | assumption), (by rw [← g2, drop_ix (d := 0) g0 c2, farB, if_neg c3]), (g3)⟩
          · exact ⟨rfl, trivial⟩
      · -- no
        refine W.exit rfl ?_
        refine W.reg ?_
        refine Wx.rd (v := .int .i64 (i + 1)) (rd_add rfl rfl (in_i64 (by omega) (by omega))) rfl ?_
        refine Wx.rd (v := .int .i64 (i + 1)) (rd_move rfl) rfl ?_
        refine Wx.nil ?_
        refine ⟨(i + 1, ft), (by show (l.length - (i + 1)).toNat < (l.length - i).toNat; omega), ?_, ?_, Out.look rfl (Out.hav rfl (Out.look rfl Out.self))⟩
        · exact ⟨hS, (by first | omega | assumption), (by first | omega | assumption), (by rw [← h2, drop_ix (d := 0) h0 c1, farA, ← g2, drop_end (n := k) (by omega)]; rfl), (g3)⟩
        · exact ⟨rfl, trivial⟩
    · -- no
      refine W.exit rfl ?_
      exact ⟨.tuple #[], ResIs.zero, rfl, by rw [hst, if_pos c0, ← h2, drop_end (by omega)]; exact hS.tl⟩
end Go.Proofs.Ytjmpojoimcljoaa
