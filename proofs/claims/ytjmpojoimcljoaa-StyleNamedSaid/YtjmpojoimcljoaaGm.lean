/-
  WHAT IS PROVED HERE: what functions of layer 3 hand back, each out of its own code; the conditions stand in each statement.
-/
import Derived.Test.YtjmpojoimcljoaaProg
import Derived.Test.YtjmpojoimcljoaaWk9
import Derived.Test.YtjmpojoimcljoaaSpec6
import Derived.Test.YtjmpojoimcljoaaFa
import Derived.Test.YtjmpojoimcljoaaGh
import Derived.Test.YtjmpojoimcljoaaWk11
import Derived.Test.YtjmpojoimcljoaaSpec7
namespace Go.Proofs.Ytjmpojoimcljoaa
open Go.Wk Go.RowKit
set_option linter.unusedVariables false
set_option linter.unusedSimpArgs false
theorem mixedGm_ : Try.prog.follows .mixedOrders = true := by kernel_rfl

theorem F100 {x : Int} {w : World} (i_x : InK .i64 x) : Calls Try.prog 100 #[.int .i64 x] w (Ret w (fun r _ => r = .bool false)) := by
  have b_x := bd_i64 i_x
  have hS := St.start0 w
  refine enterR Try.func100 rfl Try.ntmps100 Try.results100 rfl ?_
  refine W.seq ?_
  refine W.reg ?_
  refine Wx.rd (v := .bool false) (rd_assign rfl) rfl ?_
  refine Wx.nil ?_
  refine W.seq ?_
  refine W.reg ?_
  refine Wx.rd (v := .int .i64 x) (rd_move rfl) rfl ?_
  refine Wx.rd (v := .int .i64 x) (rd_move rfl) rfl ?_
  refine Wx.rd (v := .bool (decide (x ≠ x))) (rd_neq rfl rfl) rfl ?_
  refine Wx.rd (v := .bool (decide (x ≠ x))) (rd_assign rfl) rfl ?_
  refine Wx.nil ?_
  have e0_0 : (decide (x ≠ x)) = false := by simp
  exact W.ret ⟨.bool (decide (x ≠ x)), ResIs.one, hS.bel, (by rw [e0_0])⟩

theorem F107 {x : Int} {y : Int} {w : World} (i_x : InK .i64 x) (i_y : InK .i64 y) : Calls Try.prog 107 #[.int .i64 x, .int .i64 y] w (Ret w (fun r _ => r = .bool (decide (x < y)))) := by
  have b_y := bd_i64 i_y
  have b_x := bd_i64 i_x
  have hS := St.start0 w
  refine enterR Try.func107 rfl Try.ntmps107 Try.results107 rfl ?_
  refine W.seq ?_
  refine W.reg ?_
  refine Wx.rd (v := .bool false) (rd_assign rfl) rfl ?_
  refine Wx.nil ?_
  refine W.seq ?_
  refine W.reg ?_
  refine Wx.rd (v := .int .i64 x) (rd_move rfl) rfl ?_
  refine Wx.callF (run_callF Try.call100 rfl) (F100 (in_i64 (by omega) (by omega))) rfl ?_
  rintro r_1 w_2 hx_3 rfl
  have hS := hS.ext hx_3
  refine Wx.rd (v := .bool false) (rd_move rfl) rfl ?_
  refine Wx.gnoB rfl rfl rfl rfl rfl ?_
  refine Wx.gnoB rfl rfl rfl rfl rfl ?_
  refine Wx.gnoB rfl rfl rfl rfl rfl ?_
  refine Wx.rd (v := .bool false) (rd_pickF rfl rfl) rfl ?_
  refine Wx.rd (v := .bool false) (rd_move rfl) rfl ?_
  refine Wx.gyes rfl rfl rfl ?_
  refine Wx.rd (v := .int .i64 x) (rd_move rfl) rfl ?_
  refine Wx.gyes rfl rfl rfl ?_
  refine Wx.rd (v := .int .i64 y) (rd_move rfl) rfl ?_
  refine Wx.gyes rfl rfl rfl ?_
  refine Wx.rd (v := .bool (decide (x < y))) (rd_lss rfl rfl) rfl ?_
  refine Wx.rd (v := .bool (decide (x < y))) (rd_pickF rfl rfl) rfl ?_
  refine Wx.rd (v := .bool (decide (x < y))) (rd_assign rfl) rfl ?_
  refine Wx.nil ?_
  exact W.ret ⟨.bool (decide (x < y)), ResIs.one, hS.bel, rfl⟩

theorem F111 {x : Int} {w : World} (i_x : InK .u64 x) (p_x : x ≤ 255) : Calls Try.prog 111 #[.int .u64 x] w (Ret w (fun r _ => r = .int .i64 (0 + tabAt len8tab x))) := by
  have b_x := bd_u64 i_x
  have hS := St.start0 w
  refine enterR Try.func111 rfl Try.ntmps111 Try.results111 rfl ?_
  refine W.seq ?_
  refine W.reg ?_
  refine Wx.rd (v := .int .i64 0) (rd_assign rfl) rfl ?_
  refine Wx.nil ?_
  refine W.seq ?_
  refine W.seq ?_
  refine W.reg ?_
  refine Wx.rd (v := .int .u64 x) (rd_move rfl) rfl ?_
  refine Wx.rd (v := .bool (decide (4294967296 ≤ x))) (rd_geq rfl rfl) rfl ?_
  refine Wx.nil ?_
  refine W.condF rfl (decide_eq_false (by omega)) ?_
  refine W.skip ?_
  refine W.seq ?_
  refine W.seq ?_
  refine W.reg ?_
  refine Wx.rd (v := .int .u64 x) (rd_move rfl) rfl ?_
  refine Wx.rd (v := .bool (decide (65536 ≤ x))) (rd_geq rfl rfl) rfl ?_
  refine Wx.nil ?_
  refine W.condF rfl (decide_eq_false (by omega)) ?_
  refine W.skip ?_
  refine W.seq ?_
  refine W.seq ?_
  refine W.reg ?_
  refine Wx.rd (v := .int .u64 x) (rd_move rfl) rfl ?_
  refine Wx.rd (v := .bool (decide (256 ≤ x))) (rd_geq rfl rfl) rfl ?_
  refine Wx.nil ?_
  refine W.condF rfl (decide_eq_false (by omega)) ?_
  refine W.skip ?_
  refine W.seq ?_
  refine W.reg ?_
  refine Wx.rd (v := .int .i64 0) (rd_move rfl) rfl ?_
  refine Wx.rd (v := .int .u64 x) (rd_move rfl) rfl ?_
  refine Wx.rd (v := .int .u8 x) (rd_convIn rfl Try.underlying121 Try.underlying5 (in_u8 (by omega) (by omega))) rfl ?_
  have hsz : (len8tab.size : Int) = 256 := by decide +kernel
  refine Wx.rd (v := .int .u8 (tabAt len8tab x)) (rd_indexS' (by kernel_rfl) rfl Try.underlying9 (by omega) (by omega)) rfl ?_
  have bd_1 := tabAt_bd len8tab x
  refine Wx.rd (v := .int .i64 (tabAt len8tab x)) (rd_convIn rfl Try.underlying5 Try.underlying3 (in_i64 (by omega) (by omega))) rfl ?_
  refine Wx.rd (v := .int .i64 (0 + (tabAt len8tab x))) (rd_add rfl rfl (in_i64 (by omega) (by omega))) rfl ?_
  refine Wx.rd (v := .int .i64 (0 + (tabAt len8tab x))) (rd_assign rfl) rfl ?_
  refine Wx.nil ?_
  have e0_0 : (0 + tabAt len8tab x) = (0 + (tabAt len8tab x) : Int) := by first | rfl | omega
  exact W.ret ⟨.int .i64 (0 + (tabAt len8tab x)), ResIs.one, hS.bel, (by rw [e0_0])⟩

theorem F87 {x : Int} {w : World} (i_x : InK .u64 x) (p_x : x ≤ 255) : Calls Try.prog 87 #[.int .u64 x] w (Ret w (fun r _ => r = .int .i64 (0 + tabAt len8tab x))) := by
  have b_x := bd_u64 i_x
  have hS := St.start0 w
  refine enterR Try.func87 rfl Try.ntmps87 Try.results87 rfl ?_
  refine W.seq ?_
  refine W.reg ?_
  refine Wx.rd (v := .int .i64 0) (rd_assign rfl) rfl ?_
  refine Wx.nil ?_
  refine W.seq ?_
  refine W.condF rfl rfl ?_
  refine W.skip ?_
  refine W.seq ?_
  refine W.reg ?_
  refine Wx.rd (v := .int .u64 x) (rd_move rfl) rfl ?_
  refine Wx.callF (run_callF Try.call111 rfl) (F111 (in_u64 (by omega) (by omega)) (by omega)) rfl ?_
  rintro r_1 w_2 hx_3 rfl
  have hS := hS.ext hx_3
  refine Wx.rd (v := .int .i64 (0 + tabAt len8tab x)) (rd_assign rfl) rfl ?_
  refine Wx.nil ?_
  exact W.ret ⟨.int .i64 (0 + tabAt len8tab x), ResIs.one, hS.bel, rfl⟩

theorem F101 {v : Value} {ys : List Int} {a : Int} {b : Int} {ob : List Ob} {w0 w : World} {O : List (Option Nat)} (i_a : InK .i64 a) (i_b : InK .i64 b) (p_a : a = 0) (p_b : b = ys.length) (hS : St w0 O w (.row (tI .i64) 3 v ys :: ob)) : Calls Try.prog 101 #[v, .int .i64 a, .int .i64 b] w (Bk fun r w' => r = .tuple #[] ∧ St w0 O w' (.row (tI .i64) 3 v (sortW ys) :: ob)) := by
  have b_a := bd_i64 i_a
  have b_b := bd_i64 i_b
  refine enterB Try.func101 rfl Try.ntmps101 Try.results101 rfl ?_
  refine W.seq ?_
  refine W.reg ?_
  refine Wx.rd (v := .int .i64 a) (rd_move rfl) rfl ?_
  refine Wx.rd (v := .int .i64 (a + 1)) (rd_add rfl rfl (in_i64 (by omega) (by omega))) rfl ?_
  refine Wx.rd (v := .int .i64 (a + 1)) (rd_assign rfl) rfl ?_
  refine Wx.nil ?_
  refine W.block ?_
  refine W.loop [6, 7, 10, 11, 12, 13, 14, 15, 16, 17, 18, 19, 20, 21, 22, 23, 24, 25, 26, 27, 28, 29, 30, 31, 32, 33, 34, 35, 36, 37, 38, 39, 40, 41, 42, 43, 44, 45, 46, 47, 48] (fun x : Int × (List Int) => match x with | (i, z) => [(6, .int .i64 i)]) (fun (x : Int × (List Int)) w' => match x with | (i, z) => St w0 O w' (.row (tI .i64) 3 v z :: ob) ∧ 1 ≤ i ∧ i ≤ ys.length + 1 ∧ sortG z i.toNat ((ys.length : Int) - i).toNat = sortW ys ∧ z.length = ys.length) (fun x : Int × (List Int) => match x with | (i, z) => (b - i).toNat) (a + 1, ys) ⟨rfl, trivial⟩ ⟨hS, (by first | omega | simp), (by omega), (by rw [p_a, sortW]; congr 1; omega), (rfl)⟩ ?_
  rintro ⟨i, z⟩ u_2 w_1 ⟨hS, h0, h1, h2, h3⟩
  refine W.seq ?_
  refine W.seq ?_
  refine W.reg ?_
  refine Wx.rd (v := .int .i64 i) (rd_move rfl) rfl ?_
  refine Wx.rd (v := .int .i64 b) (rd_move rfl) rfl ?_
  refine Wx.rd (v := .bool (decide (i < b))) (rd_lss rfl rfl) rfl ?_
  refine Wx.nil ?_
  refine W.condD rfl (fun c0 => ?_) (fun c0 => ?_)
  · -- yes
    refine W.skip ?_
    refine W.seq ?_
    refine W.block ?_
    refine W.seq ?_
    refine W.reg ?_
    refine Wx.rd (v := .int .i64 i) (rd_move rfl) rfl ?_
    refine Wx.rd (v := .int .i64 i) (rd_assign rfl) rfl ?_
    refine Wx.nil ?_
    refine W.block ?_
    refine W.loop [7, 16, 17, 18, 19, 20, 21, 22, 23, 24, 25, 26, 27, 28, 29, 30, 31, 32, 33, 34, 35, 36, 37, 38, 39, 40, 41, 42, 43, 44, 45, 46, 47, 48] (fun x : Int × (List Int) => match x with | (j, z2) => [(7, .int .i64 j)]) (fun (x : Int × (List Int)) w' => match x with | (j, z2) => St w0 O w' (.row (tI .i64) 3 v z2 :: ob) ∧ 0 ≤ j ∧ j ≤ i ∧ sinkD z2 j.toNat = sinkD z i.toNat ∧ z2.length = ys.length) (fun x : Int × (List Int) => match x with | (j, z2) => j.toNat) (i, z) ⟨rfl, trivial⟩ ⟨hS, (by first | omega | simp), (by first | omega | simp), (rfl), (h3)⟩ ?_
    rintro ⟨j, z2⟩ u_4 w_3 ⟨hS, g0, g1, g2, g3⟩
    refine W.seq ?_
    refine W.seq ?_
    refine W.regQ mixedGm_ (by kernel_rfl) ?_
    refine Wx.rd (v := .int .i64 j) (rd_move rfl) rfl ?_
    refine Wx.rd (v := .int .i64 a) (rd_move rfl) rfl ?_
    refine Wx.rd (v := .bool (decide (a < j))) (rd_gtr rfl rfl) rfl ?_
    refine Wx.rd (v := .bool (decide (a < j))) (rd_move rfl) rfl ?_
    refine Wx.cutQ (X := Unit) 11 [20, 21, 22, 23, 24, 25, 26, 27, 28, 29, 30] (fun _ => [(30, .bool (decide (a < j) && decide ((ix 0 z2 j) < (ix 0 z2 (j - 1)))))]) (fun _ => True) ?_ ?_
    · rcases Bool.eq_false_or_eq_true (decide (a < j)) with g_5 | g_5
      · -- True
        have gp_6 := of_decide_eq_true g_5
        refine Wx.gyes rfl rfl (congrArg Value.bool g_5) ?_
        refine Wx.rd (v := v) (rd_move rfl) rfl ?_
        refine Wx.gyes rfl rfl (congrArg Value.bool g_5) ?_
        refine Wx.rd (v := .int .i64 j) (rd_move rfl) rfl ?_
        refine Wx.gyes rfl rfl (congrArg Value.bool g_5) ?_
        refine Wx.indexR hS 0 rfl rfl rfl Try.underlying28 Try.sizeOf3 (by first | omega | (simp only [List.length_set, List.length_append, List.length_cons, List.length_nil, List.length_replicate]; omega)) (by first | omega | (simp only [List.length_set, List.length_append, List.length_cons, List.length_nil, List.length_replicate]; omega)) rfl (fun g_7 hg_8 => ?_)
        refine Wx.gyes rfl rfl (congrArg Value.bool g_5) ?_
        refine Wx.rd (v := .int .i64 (ix 0 z2 j)) (rd_loadRI' hS 0 rfl hg_8 rfl (by first | omega | (simp only [List.length_set, List.length_append, List.length_cons, List.length_nil, List.length_replicate]; omega)) (by first | omega | (simp only [List.length_set, List.length_append, List.length_cons, List.length_nil, List.length_replicate]; omega)) Try.isAgg3 Try.sizeOf3) rfl ?_
        have bd_9 := bd_i64 (hS.rowInK' 0 rfl (by first | omega | (simp only [List.length_set, List.length_append, List.length_cons, List.length_nil, List.length_replicate]; omega)) (by first | omega | (simp only [List.length_set, List.length_append, List.length_cons, List.length_nil, List.length_replicate]; omega)) : InK .i64 (ix 0 z2 j))
        refine Wx.gyes rfl rfl (congrArg Value.bool g_5) ?_
        refine Wx.rd (v := v) (rd_move rfl) rfl ?_
        refine Wx.gyes rfl rfl (congrArg Value.bool g_5) ?_
        refine Wx.rd (v := .int .i64 j) (rd_move rfl) rfl ?_
        refine Wx.gyes rfl rfl (congrArg Value.bool g_5) ?_
        refine Wx.rd (v := .int .i64 (j - 1)) (rd_sub rfl rfl (in_i64 (by omega) (by omega))) rfl ?_
        refine Wx.gyes rfl rfl (congrArg Value.bool g_5) ?_
        refine Wx.indexR hS 0 rfl rfl rfl Try.underlying28 Try.sizeOf3 (by first | omega | (simp only [List.length_set, List.length_append, List.length_cons, List.length_nil, List.length_replicate]; omega)) (by first | omega | (simp only [List.length_set, List.length_append, List.length_cons, List.length_nil, List.length_replicate]; omega)) rfl (fun g_10 hg_11 => ?_)
        refine Wx.gyes rfl rfl (congrArg Value.bool g_5) ?_
        refine Wx.rd (v := .int .i64 (ix 0 z2 (j - 1))) (rd_loadRI' hS 0 rfl hg_11 rfl (by first | omega | (simp only [List.length_set, List.length_append, List.length_cons, List.length_nil, List.length_replicate]; omega)) (by first | omega | (simp only [List.length_set, List.length_append, List.length_cons, List.length_nil, List.length_replicate]; omega)) Try.isAgg3 Try.sizeOf3) rfl ?_
        have bd_12 := bd_i64 (hS.rowInK' 0 rfl (by first | omega | (simp only [List.length_set, List.length_append, List.length_cons, List.length_nil, List.length_replicate]; omega)) (by first | omega | (simp only [List.length_set, List.length_append, List.length_cons, List.length_nil, List.length_replicate]; omega)) : InK .i64 (ix 0 z2 (j - 1)))
        refine Wx.gyes rfl rfl (congrArg Value.bool g_5) ?_
        refine Wx.callV (v := .bool (decide ((ix 0 z2 j) < (ix 0 z2 (j - 1))))) (run_callF Try.call107 rfl) (fun w_13 hw_14 => (F107 (in_i64 (by omega) (by omega)) (in_i64 (by omega) (by omega)))) rfl ?_
        refine Wx.rd (v := .bool (decide ((ix 0 z2 j) < (ix 0 z2 (j - 1))))) (rd_pickT (congrArg Value.bool g_5) rfl) rfl ?_
        refine Wx.nilQ (fun _ _ => ⟨(), trivial, ⟨?_, trivial⟩, Out.look rfl Out.refl⟩)
        show Value.bool (decide ((ix 0 z2 j) < (ix 0 z2 (j - 1)))) = Value.bool (decide (a < j) && decide ((ix 0 z2 j) < (ix 0 z2 (j - 1))))
        rw [g_5]; rfl
      · -- False
        have gp_15 := of_decide_eq_false g_5
        refine Wx.gnoB rfl rfl (congrArg Value.bool g_5) rfl rfl ?_
        refine Wx.gnoB rfl rfl (congrArg Value.bool g_5) rfl rfl ?_
        refine Wx.gnoB rfl rfl (congrArg Value.bool g_5) rfl rfl ?_
        refine Wx.gnoB rfl rfl (congrArg Value.bool g_5) rfl rfl ?_
        refine Wx.gnoB rfl rfl (congrArg Value.bool g_5) rfl rfl ?_
        refine Wx.gnoB rfl rfl (congrArg Value.bool g_5) rfl rfl ?_
        refine Wx.gnoB rfl rfl (congrArg Value.bool g_5) rfl rfl ?_
        refine Wx.gnoB rfl rfl (congrArg Value.bool g_5) rfl rfl ?_
        refine Wx.gnoB rfl rfl (congrArg Value.bool g_5) rfl rfl ?_
        refine Wx.gnoB rfl rfl (congrArg Value.bool g_5) rfl rfl ?_
        refine Wx.rd (v := .bool false) (rd_pickF (congrArg Value.bool g_5) rfl) rfl ?_
        refine Wx.nilQ (fun _ _ => ⟨(), trivial, ⟨?_, trivial⟩, Out.look rfl Out.refl⟩)
        show Value.bool false = Value.bool (decide (a < j) && decide ((ix 0 z2 j) < (ix 0 z2 (j - 1))))
        rw [g_5]; rfl
    rintro ⟨⟩ u_17 -
    refine Wx.nilQ (fun w_18 hx_19 => ?_)
    have hS := hS.ext hx_19
    refine W.cond rfl (fun c1 => ?_) (fun c1 => ?_)
    · -- yes
      try simp only [Bool.and_eq_true, Bool.or_eq_true, Bool.not_eq_true', Bool.and_eq_false_iff, Bool.or_eq_false_iff, Bool.not_eq_false', decide_eq_true_eq, decide_eq_false_iff_not, not_or, Bool.false_eq_true, Bool.true_eq_false, false_or, or_false, not_false_eq_true] at c1
      refine W.skip ?_
      refine W.seq ?_
      refine W.block ?_
      refine W.regP mixedGm_ (fun w_20 hx_21 => ?_)
      have hS := hS.ext hx_21
      obtain ⟨g_22, c_23, rfl, hc_24⟩ := hS.rowForm 0 rfl (by omega)
      refine Wp.rd (v := (.slice (some ⟨g_22, 0, none⟩) z2.length c_23)) 0 rfl (by kernel_rfl) (fun _ => (rd_move rfl)) rfl ?_
      refine Wp.rd (v := .int .i64 j) 1 rfl (by kernel_rfl) (fun _ => (rd_move rfl)) rfl ?_
      refine Wp.rd (v := (.slice (some ⟨g_22, 0, none⟩) z2.length c_23)) 2 rfl (by kernel_rfl) (fun _ => (rd_move rfl)) rfl ?_
      refine Wp.rd (v := .int .i64 j) 3 rfl (by kernel_rfl) (fun _ => (rd_move rfl)) rfl ?_
      refine Wp.rd (v := .int .i64 (j - 1)) 4 rfl (by kernel_rfl) (fun _ => (rd_sub rfl rfl (in_i64 (by omega) (by omega)))) rfl ?_
      refine Wp.rd (v := (.slice (some ⟨g_22, 0, none⟩) z2.length c_23)) 5 rfl (by kernel_rfl) (fun _ => (rd_move rfl)) rfl ?_
      refine Wp.rd (v := .int .i64 j) 6 rfl (by kernel_rfl) (fun _ => (rd_move rfl)) rfl ?_
      refine Wp.rd (v := .int .i64 (j - 1)) 7 rfl (by kernel_rfl) (fun _ => (rd_sub rfl rfl (in_i64 (by omega) (by omega)))) rfl ?_
      refine Wp.rd (v := .pointer (some ⟨g_22, (j - 1).toNat * 1, none⟩)) 8 rfl (by kernel_rfl) (fun _ => (rd_indexO Try.underlying28 Try.sizeOf3 rfl rfl (by first | omega | (simp only [List.length_set, List.length_append, List.length_cons, List.length_nil, List.length_replicate]; omega)) (by first | omega | (simp only [List.length_set, List.length_append, List.length_cons, List.length_nil, List.length_replicate]; omega)))) rfl ?_
      refine Wp.rd (v := (.slice (some ⟨g_22, 0, none⟩) z2.length c_23)) 10 rfl (by kernel_rfl) (fun _ => (rd_move rfl)) rfl ?_
      refine Wp.rd (v := .int .i64 j) 11 rfl (by kernel_rfl) (fun _ => (rd_move rfl)) rfl ?_
      refine Wp.rd (v := .pointer (some ⟨g_22, j.toNat * 1, none⟩)) 12 rfl (by kernel_rfl) (fun _ => (rd_indexO Try.underlying28 Try.sizeOf3 rfl rfl (by first | omega | (simp only [List.length_set, List.length_append, List.length_cons, List.length_nil, List.length_replicate]; omega)) (by first | omega | (simp only [List.length_set, List.length_append, List.length_cons, List.length_nil, List.length_replicate]; omega)))) rfl ?_
      refine Wp.br [9, 13] (by kernel_rfl) (by decide) ⟨⟨_, rfl, ?_⟩, ⟨_, rfl, ?_⟩, trivial⟩
      · -- operation 9
        refine Wx.rd (v := .int .i64 (ix 0 z2 (j - 1))) (rd_loadRI' hS 0 rfl rfl rfl (by first | omega | (simp only [List.length_set, List.length_append, List.length_cons, List.length_nil, List.length_replicate]; omega)) (by first | omega | (simp only [List.length_set, List.length_append, List.length_cons, List.length_nil, List.length_replicate]; omega)) Try.isAgg3 Try.sizeOf3) rfl ?_
        have bd_25 := bd_i64 (hS.rowInK' 0 rfl (by first | omega | (simp only [List.length_set, List.length_append, List.length_cons, List.length_nil, List.length_replicate]; omega)) (by first | omega | (simp only [List.length_set, List.length_append, List.length_cons, List.length_nil, List.length_replicate]; omega)) : InK .i64 (ix 0 z2 (j - 1)))
        refine Wx.nil ?_
        refine Wp.br [13] (by kernel_rfl) (by decide) ⟨⟨_, rfl, ?_⟩, trivial⟩
        refine Wx.rd (v := .int .i64 (ix 0 z2 j)) (rd_loadRI' hS 0 rfl rfl rfl (by first | omega | (simp only [List.length_set, List.length_append, List.length_cons, List.length_nil, List.length_replicate]; omega)) (by first | omega | (simp only [List.length_set, List.length_append, List.length_cons, List.length_nil, List.length_replicate]; omega)) Try.isAgg3 Try.sizeOf3) rfl ?_
        have bd_26 := bd_i64 (hS.rowInK' 0 rfl (by first | omega | (simp only [List.length_set, List.length_append, List.length_cons, List.length_nil, List.length_replicate]; omega)) (by first | omega | (simp only [List.length_set, List.length_append, List.length_cons, List.length_nil, List.length_replicate]; omega)) : InK .i64 (ix 0 z2 j))
        refine Wx.nil ?_
        refine Wp.rd (v := .pointer (some ⟨g_22, j.toNat * 1, none⟩)) 14 rfl (by kernel_rfl) (fun _ => (rd_indexO Try.underlying28 Try.sizeOf3 rfl rfl (by first | omega | (simp only [List.length_set, List.length_append, List.length_cons, List.length_nil, List.length_replicate]; omega)) (by first | omega | (simp only [List.length_set, List.length_append, List.length_cons, List.length_nil, List.length_replicate]; omega)))) rfl ?_
        refine Wp.br [15] (by kernel_rfl) (by decide) ⟨⟨_, rfl, ?_⟩, trivial⟩
        refine Wx.storeR (j := j.toNat) (z := ix 0 z2 (j - 1)) hS 0 rfl rfl rfl (by first | omega | (simp only [List.length_set, List.length_append, List.length_cons, List.length_nil, List.length_replicate]; omega)) rfl (V.mkInt (in_i64 (by omega) (by omega))) Try.sizeOf3 (fun w_27 hz_28 hS => ?_)
        refine Wx.nil ?_
        refine Wp.rd (v := .pointer (some ⟨g_22, (j - 1).toNat * 1, none⟩)) 16 rfl (by kernel_rfl) (fun _ => (rd_indexO Try.underlying28 Try.sizeOf3 rfl rfl (by first | omega | (simp only [List.length_set, List.length_append, List.length_cons, List.length_nil, List.length_replicate]; omega)) (by first | omega | (simp only [List.length_set, List.length_append, List.length_cons, List.length_nil, List.length_replicate]; omega)))) rfl ?_
        refine Wp.br [17] (by kernel_rfl) (by decide) ⟨⟨_, rfl, ?_⟩, trivial⟩
        refine Wx.storeR (j := (j - 1).toNat) (z := ix 0 z2 j) hS 0 rfl rfl rfl (by first | omega | (simp only [List.length_set, List.length_append, List.length_cons, List.length_nil, List.length_replicate]; omega)) rfl (V.mkInt (in_i64 (by omega) (by omega))) Try.sizeOf3 (fun w_29 hz_30 hS => ?_)
        refine Wx.nil ?_
        refine Wp.done (by kernel_rfl) ?_
        refine W.reg ?_
        refine Wx.rd (v := .int .i64 j) (rd_move rfl) rfl ?_
        refine Wx.rd (v := .int .i64 (j - 1)) (rd_sub rfl rfl (in_i64 (by omega) (by omega))) rfl ?_
        refine Wx.rd (v := .int .i64 (j - 1)) (rd_assign rfl) rfl ?_
        refine Wx.nil ?_
        refine ⟨(j - 1, List.set (List.set z2 j.toNat (ix 0 z2 (j - 1))) (j - 1).toNat (ix 0 z2 j)), (by show (j - 1).toNat < j.toNat; omega), ?_, ?_, Out.look rfl (Out.hav rfl (Out.look rfl Out.self))⟩
        · exact ⟨hS, (by first | omega | assumption), (by first | omega | assumption), (by rw [← g2]; exact sink_step (by omega) c1.2), (by simp; omega)⟩
        · exact ⟨rfl, trivial⟩
      · -- operation 13
        refine Wx.rd (v := .int .i64 (ix 0 z2 j)) (rd_loadRI' hS 0 rfl rfl rfl (by first | omega | (simp only [List.length_set, List.length_append, List.length_cons, List.length_nil, List.length_replicate]; omega)) (by first | omega | (simp only [List.length_set, List.length_append, List.length_cons, List.length_nil, List.length_replicate]; omega)) Try.isAgg3 Try.sizeOf3) rfl ?_
        have bd_31 := bd_i64 (hS.rowInK' 0 rfl (by first | omega | (simp only [List.length_set, List.length_append, List.length_cons, List.length_nil, List.length_replicate]; omega)) (by first | omega | (simp only [List.length_set, List.length_append, List.length_cons, List.length_nil, List.length_replicate]; omega)) : InK .i64 (ix 0 z2 j))
        refine Wx.nil ?_
        refine Wp.br [9] (by kernel_rfl) (by decide) ⟨⟨_, rfl, ?_⟩, trivial⟩
        refine Wx.rd (v := .int .i64 (ix 0 z2 (j - 1))) (rd_loadRI' hS 0 rfl rfl rfl (by first | omega | (simp only [List.length_set, List.length_append, List.length_cons, List.length_nil, List.length_replicate]; omega)) (by first | omega | (simp only [List.length_set, List.length_append, List.length_cons, List.length_nil, List.length_replicate]; omega)) Try.isAgg3 Try.sizeOf3) rfl ?_
        have bd_32 := bd_i64 (hS.rowInK' 0 rfl (by first | omega | (simp only [List.length_set, List.length_append, List.length_cons, List.length_nil, List.length_replicate]; omega)) (by first | omega | (simp only [List.length_set, List.length_append, List.length_cons, List.length_nil, List.length_replicate]; omega)) : InK .i64 (ix 0 z2 (j - 1)))
        refine Wx.nil ?_
        refine Wp.rd (v := .pointer (some ⟨g_22, j.toNat * 1, none⟩)) 14 rfl (by kernel_rfl) (fun _ => (rd_indexO Try.underlying28 Try.sizeOf3 rfl rfl (by first | omega | (simp only [List.length_set, List.length_append, List.length_cons, List.length_nil, List.length_replicate]; omega)) (by first | omega | (simp only [List.length_set, List.length_append, List.length_cons, List.length_nil, List.length_replicate]; omega)))) rfl ?_
        refine Wp.br [15] (by kernel_rfl) (by decide) ⟨⟨_, rfl, ?_⟩, trivial⟩
        refine Wx.storeR (j := j.toNat) (z := ix 0 z2 (j - 1)) hS 0 rfl rfl rfl (by first | omega | (simp only [List.length_set, List.length_append, List.length_cons, List.length_nil, List.length_replicate]; omega)) rfl (V.mkInt (in_i64 (by omega) (by omega))) Try.sizeOf3 (fun w_33 hz_34 hS => ?_)
        refine Wx.nil ?_
        refine Wp.rd (v := .pointer (some ⟨g_22, (j - 1).toNat * 1, none⟩)) 16 rfl (by kernel_rfl) (fun _ => (rd_indexO Try.underlying28 Try.sizeOf3 rfl rfl (by first | omega | (simp only [List.length_set, List.length_append, List.length_cons, List.length_nil, List.length_replicate]; omega)) (by first | omega | (simp only [List.length_set, List.length_append, List.length_cons, List.length_nil, List.length_replicate]; omega)))) rfl ?_
        refine Wp.br [17] (by kernel_rfl) (by decide) ⟨⟨_, rfl, ?_⟩, trivial⟩
        refine Wx.storeR (j := (j - 1).toNat) (z := ix 0 z2 j) hS 0 rfl rfl rfl (by first | omega | (simp only [List.length_set, List.length_append, List.length_cons, List.length_nil, List.length_replicate]; omega)) rfl (V.mkInt (in_i64 (by omega) (by omega))) Try.sizeOf3 (fun w_35 hz_36 hS => ?_)
        refine Wx.nil ?_
        refine Wp.done (by kernel_rfl) ?_
        refine W.reg ?_
        refine Wx.rd (v := .int .i64 j) (rd_move rfl) rfl ?_
        refine Wx.rd (v := .int .i64 (j - 1)) (rd_sub rfl rfl (in_i64 (by omega) (by omega))) rfl ?_
        refine Wx.rd (v := .int .i64 (j - 1)) (rd_assign rfl) rfl ?_
        refine Wx.nil ?_
        refine ⟨(j - 1, List.set (List.set z2 j.toNat (ix 0 z2 (j - 1))) (j - 1).toNat (ix 0 z2 j)), (by show (j - 1).toNat < j.toNat; omega), ?_, ?_, Out.look rfl (Out.hav rfl (Out.look rfl Out.self))⟩
        · exact ⟨hS, (by first | omega | assumption), (by first | omega | assumption), (by rw [← g2]; exact sink_step (by omega) c1.2), (by simp; omega)⟩
        · exact ⟨rfl, trivial⟩
    · -- no
      try simp only [Bool.and_eq_true, Bool.or_eq_true, Bool.not_eq_true', Bool.and_eq_false_iff, Bool.or_eq_false_iff, Bool.not_eq_false', decide_eq_true_eq, decide_eq_false_iff_not, not_or, Bool.false_eq_true, Bool.true_eq_false, false_or, or_false, not_false_eq_true] at c1
      refine W.exit rfl ?_
      refine W.reg ?_
      refine Wx.rd (v := .int .i64 i) (rd_move rfl) rfl ?_
      refine Wx.rd (v := .int .i64 (i + 1)) (rd_add rfl rfl (in_i64 (by omega) (by omega))) rfl ?_
      refine Wx.rd (v := .int .i64 (i + 1)) (rd_assign rfl) rfl ?_
      refine Wx.nil ?_
      refine ⟨(i + 1, z2), (by show (b - (i + 1)).toNat < (b - i).toNat; omega), ?_, ?_, Out.look rfl (Out.hav rfl (Out.look rfl (Out.hav rfl (Out.look rfl Out.self))))⟩
      · exact ⟨hS, (by first | omega | assumption), (by first | omega | assumption), (by rw [← h2]; exact sort_next (by omega) (by rw [← g2]; exact (sink_stop g0 (fun hh => by rcases c1 with c | c; omega; exact c hh.2)).symm) (by omega)), (g3)⟩
      · exact ⟨rfl, trivial⟩
  · -- no
    refine W.exit rfl ?_
    exact ⟨.tuple #[], ResIs.zero, rfl, hS.spell (ys' := sortW ys) 0 rfl (by rw [← h2, show ((ys.length : Int) - i).toNat = 0 by omega]; rfl)⟩

theorem F86 {v : Value} {ys : List Int} {a : Int} {b : Int} {limit : Int} {ob : List Ob} {w0 w : World} {O : List (Option Nat)} (i_a : InK .i64 a) (i_b : InK .i64 b) (i_limit : InK .i64 limit) (p_a : a = 0) (p_b : b = ys.length) (p_12 : ys.length ≤ 12) (hS : St w0 O w (.row (tI .i64) 3 v ys :: ob)) : Calls Try.prog 86 #[v, .int .i64 a, .int .i64 b, .int .i64 limit] w (Bk fun r w' => r = .tuple #[] ∧ St w0 O w' (.row (tI .i64) 3 v (sortW ys) :: ob)) := by
  have b_a := bd_i64 i_a
  have b_b := bd_i64 i_b
  have b_limit := bd_i64 i_limit
  refine enterB Try.func86 rfl Try.ntmps86 Try.results86 rfl ?_
  refine W.seq ?_
  refine W.reg ?_
  refine Wx.rd (v := .bool true) (rd_assign rfl) rfl ?_
  refine Wx.nil ?_
  refine W.seq ?_
  refine W.reg ?_
  refine Wx.rd (v := .bool true) (rd_assign rfl) rfl ?_
  refine Wx.nil ?_
  refine W.block ?_
  refine W.loop [1, 2, 3, 8, 9, 10, 11, 12, 13, 14, 15, 16, 17, 18, 19, 20, 21, 22, 23, 24, 25, 26, 27, 28, 29, 30, 31, 32, 33, 34, 35, 36, 37, 38, 39, 40, 41, 42, 43, 44, 45, 46, 47, 48, 49, 50, 51, 52, 53, 54, 55, 56, 57, 58, 59, 60, 61, 62, 63, 64, 65, 66, 67, 68, 69, 70, 71, 72, 73, 74, 75, 76, 77, 78, 79, 80, 81, 82, 83, 84, 85, 86, 87, 88, 89, 90, 91, 92, 93, 94, 95, 96, 97, 98, 99, 100, 101, 102, 103, 104, 105, 106, 107, 108, 109, 110, 111, 112, 113, 114, 115, 116, 117, 118, 119, 120, 121, 122, 123, 124, 125, 126, 127, 128, 129, 130, 131, 132, 133] (fun x : Int × Int × Int => match x with | (a2, b2, l2) => [(1, .int .i64 a2), (2, .int .i64 b2), (3, .int .i64 l2)]) (fun (x : Int × Int × Int) w' => match x with | (a2, b2, l2) => St w0 O w' (.row (tI .i64) 3 v ys :: ob) ∧ a2 = 0 ∧ b2 = ys.length) (fun x : Int × Int × Int => match x with | (a2, b2, l2) => 0) (a, b, limit) ⟨rfl, rfl, rfl, trivial⟩ ⟨hS, (by first | omega | simp), (by first | omega | simp)⟩ ?_
  rintro ⟨a2, b2, l2⟩ u_2 w_1 ⟨hS, h0, h1⟩
  refine W.block ?_
  refine W.seq ?_
  refine W.reg ?_
  refine Wx.rd (v := .int .i64 b2) (rd_move rfl) rfl ?_
  refine Wx.rd (v := .int .i64 a2) (rd_move rfl) rfl ?_
  refine Wx.rd (v := .int .i64 (b2 - a2)) (rd_sub rfl rfl (in_i64 (by omega) (by omega))) rfl ?_
  refine Wx.rd (v := .int .i64 (b2 - a2)) (rd_assign rfl) rfl ?_
  refine Wx.nil ?_
  refine W.seq ?_
  refine W.seq ?_
  refine W.reg ?_
  refine Wx.rd (v := .int .i64 (b2 - a2)) (rd_move rfl) rfl ?_
  refine Wx.rd (v := .bool (decide ((b2 - a2) ≤ 12))) (rd_leq rfl rfl) rfl ?_
  refine Wx.nil ?_
  refine W.condT rfl (decide_eq_true (by omega)) ?_
  refine W.seq ?_
  refine W.reg ?_
  refine Wx.rd (v := v) (rd_move rfl) rfl ?_
  refine Wx.rd (v := .int .i64 a2) (rd_move rfl) rfl ?_
  refine Wx.rd (v := .int .i64 b2) (rd_move rfl) rfl ?_
  refine Wx.callB (run_callF Try.call101 rfl) (F101 (ob := (ob)) (in_i64 (by omega) (by omega)) (in_i64 (by omega) (by omega)) (by omega) (by omega) (hS.front 0 rfl)) rfl ?_
  rintro r_3 w_4 ⟨rfl, hS⟩
  have hS : St _ _ w_4 (.row (tI .i64) 3 v (sortW ys) :: ob) := St.putBack (obs := (.row (tI .i64) 3 v ys :: ob)) 0 hS (by simp)
  refine Wx.nil ?_
  exact W.ret ⟨.tuple #[], ResIs.zero, rfl, hS⟩

theorem F59 {v : Value} {ys : List Int}  {ob : List Ob} {w0 w : World} {O : List (Option Nat)}  (p_12 : ys.length ≤ 12) (hS : St w0 O w (.row (tI .i64) 3 v ys :: ob)) : Calls Try.prog 59 #[v] w (Bk fun r w' => r = .tuple #[] ∧ St w0 O w' (.row (tI .i64) 3 v (sortW ys) :: ob)) := by
  refine enterB Try.func59 rfl Try.ntmps59 Try.results59 rfl ?_
  refine W.seq ?_
  refine W.reg ?_
  refine Wx.rd (v := v) (rd_move rfl) rfl ?_
  refine Wx.rd (v := .int .i64 (ys.length : Int)) (rd_lenR hS 0 rfl rfl Try.underlying28) rfl ?_
  refine Wx.rd (v := .int .i64 (ys.length : Int)) (rd_assign rfl) rfl ?_
  refine Wx.nil ?_
  refine W.reg ?_
  refine Wx.rd (v := v) (rd_move rfl) rfl ?_
  refine Wx.rd (v := .int .i64 (ys.length : Int)) (rd_move rfl) rfl ?_
  refine Wx.rd (v := .int .i64 (ys.length : Int)) (rd_move rfl) rfl ?_
  refine Wx.rd (v := .int .u64 (ys.length : Int)) (rd_convIn rfl Try.underlying3 Try.underlying99 (in_u64 (by omega) (by omega))) rfl ?_
  refine Wx.callF (run_callF Try.call87 rfl) (F87 (in_u64 (by omega) (by omega)) (by omega)) rfl ?_
  rintro r_1 w_2 hx_3 rfl
  have hS := hS.ext hx_3
  have htb := tabAt_bd len8tab (ys.length : Int)
  refine Wx.callB (run_callF Try.call86 rfl) (F86 (ob := (ob)) (in_i64 (by omega) (by omega)) (in_i64 (by omega) (by omega)) (in_i64 (by omega) (by omega)) (by omega) (by omega) (by omega) (hS.front 0 rfl)) rfl ?_
  rintro r_4 w_5 ⟨rfl, hS⟩
  have hS : St _ _ w_5 (.row (tI .i64) 3 v (sortW ys) :: ob) := St.putBack (obs := (.row (tI .i64) 3 v ys :: ob)) 0 hS (by simp)
  refine Wx.nil ?_
  exact ⟨.tuple #[], ResIs.zero, rfl, hS⟩
end Go.Proofs.Ytjmpojoimcljoaa
