/-
  WHAT IS PROVED HERE, TEXT BY TEXT (several texts of one prover, joined to one file; the conditions stand in each statement):
  * WHAT IS PROVED HERE: what functions of layer 10 hand back, each out of its own code; the conditions stand in each statement.
  * WHAT IS PROVED HERE: what functions of layer 10 hand back, each out of its own code; the conditions stand in each statement.
  * WHAT IS PROVED HERE: what functions of layer 10 hand back, each out of its own code; the conditions stand in each statement.
  * WHAT IS PROVED HERE: what functions of layer 10 hand back, each out of its own code; the conditions stand in each statement.
  * WHAT IS PROVED HERE: what functions of layer 10 hand back, each out of its own code; the conditions stand in each statement.
  * WHAT IS PROVED HERE: what functions of layer 10 hand back, each out of its own code; the conditions stand in each statement.
  * WHAT IS PROVED HERE: what functions of layer 10 hand back, each out of its own code; the conditions stand in each statement.
  * WHAT IS PROVED HERE: what functions of layer 10 hand back, each out of its own code; the conditions stand in each statement.
  * WHAT IS PROVED HERE: what functions of layer 10 hand back, each out of its own code; the conditions stand in each statement.
  * WHAT IS PROVED HERE: what functions of layer 10 hand back, each out of its own code; the conditions stand in each statement.
  * WHAT IS PROVED HERE: what functions of layer 10 hand back, each out of its own code; the conditions stand in each statement.
  * WHAT IS PROVED HERE: what functions of layer 10 hand back, each out of its own code; the conditions stand in each statement.
-/
import Derived.Test.YtjbcpggikaeleaaProg
import Derived.Test.YtjbcpggikaeleaaU2
import Derived.Test.YtjbcpggikaeleaaU3
import Derived.Test.YtjbcpggikaeleaaU4
import Derived.Test.YtjbcpggikaeleaaU5

set_option linter.unusedVariables false
set_option linter.unusedSimpArgs false

namespace Go.Proofs.Ytjbcpggikaeleaa
open Go.Wk Go.RowKit Go.Lib
set_option linter.unusedVariables false
set_option linter.unusedSimpArgs false
theorem elLi_31 : ElemI Try.prog 31 59 (.agg #[.int .i64 0, .int .i64 0]) 2 16 := ElemI.of Try.underlying31 (by kernel_rfl) (by first | rfl | kernel_rfl) (by decide)
theorem elLi_39 : ElemI Try.prog 39 3 (.int .i64 0) 1 8 := ElemI.of Try.underlying39 (by kernel_rfl) (by first | rfl | kernel_rfl) (by decide)

set_option maxHeartbeats 4000000 in
set_option maxRecDepth 10000 in
theorem F16 {O : List (Option Nat)} {w : World} (hO : ∀ b, some b ∈ O → b < w.heap.size) : Calls Try.prog 16 #[] w (Ret w (fun r _ => r = .bool true)) := by
  have hS := St.start w O hO
  refine enterR Try.func16 rfl Try.ntmps16 Try.results16 rfl ?_
  refine W.seq ?_
  refine W.reg ?_
  refine Wx.rd (v := .bool false) (rd_assign rfl) rfl ?_
  refine Wx.nil ?_
  refine W.seq ?_
  refine W.reg ?_
  refine Wx.callF (run_callF Try.call43 rfl) (F43 hS.fb_lt) rfl ?_
  rintro r_1 w_2 hx_3 ⟨_, rfl, hv_4⟩
  have ln_6 := hv_4.len63
  have hS := hS.ext hx_3
  have hS := hS.add hv_4
  refine Wx.callF (run_callF Try.call18 rfl) (F18 (in_i64 (by omega) (by omega)) (hS.v 0 rfl) (in_i64 (by omega) (by omega)) (in_i64 (by omega) (by omega)) hS.fb_lt) rfl ?_
  rintro r_7 w_8 hx_9 rfl
  have hS := hS.ext hx_9
  refine Wx.rd (v := .tuple #[.int .i64 (costE 2 [([1, 2], [2, 1]), ([2, 1], [1, 2]), ([1, 1], [2, 2])] 0 1), .int .i64 (twoE 2 [([1, 2], [2, 1]), ([2, 1], [1, 2]), ([1, 1], [2, 2])] 0 1)]) (rd_move rfl) rfl ?_
  refine Wx.rd (v := .int .i64 (costE 2 [([1, 2], [2, 1]), ([2, 1], [1, 2]), ([1, 1], [2, 2])] 0 1)) (rd_extract rfl rfl) rfl ?_
  refine Wx.rd (v := .int .i64 (twoE 2 [([1, 2], [2, 1]), ([2, 1], [1, 2]), ([1, 1], [2, 2])] 0 1)) (rd_extract rfl rfl) rfl ?_
  refine Wx.rd (v := .int .i64 5) (Rd.to (v := .int .i64 (costE 2 [([1, 2], [2, 1]), ([2, 1], [1, 2]), ([1, 1], [2, 2])] 0 1)) (rd_assign rfl) (congrArg (Value.int .i64) (show (5 : Int) = (costE 2 [([1, 2], [2, 1]), ([2, 1], [1, 2]), ([1, 1], [2, 2])] 0 1 : Int) from (by decide +kernel)).symm)) rfl ?_
  refine Wx.rd (v := .int .i64 0) (Rd.to (v := .int .i64 (twoE 2 [([1, 2], [2, 1]), ([2, 1], [1, 2]), ([1, 1], [2, 2])] 0 1)) (rd_assign rfl) (congrArg (Value.int .i64) (show (0 : Int) = (twoE 2 [([1, 2], [2, 1]), ([2, 1], [1, 2]), ([1, 1], [2, 2])] 0 1 : Int) from (by decide +kernel)).symm)) rfl ?_
  refine Wx.nil ?_
  refine W.seq ?_
  refine W.reg ?_
  refine Wx.callF (run_callF Try.call43 rfl) (F43 hS.fb_lt) rfl ?_
  rintro r_10 w_11 hx_12 ⟨_, rfl, hv_13⟩
  have ln_15 := hv_13.len63
  have hS := hS.ext hx_12
  have hS := hS.add hv_13
  refine Wx.callF (run_callF Try.call20 rfl) (F20 (in_i64 (by omega) (by omega)) (hS.v 0 rfl) hS.fb_lt) rfl ?_
  rintro r_16 w_17 hx_18 ⟨v_19, rfl, hv_20⟩
  have hS := hS.pushFr hx_18 hv_20
  refine Wx.rd (v := .tuple #[v_19, .int .i64 (checkE 2 [([1, 2], [2, 1]), ([2, 1], [1, 2]), ([1, 1], [2, 2])])]) (rd_move rfl) rfl ?_
  refine Wx.rd (v := v_19) (rd_extract rfl rfl) rfl ?_
  refine Wx.rd (v := .int .i64 (checkE 2 [([1, 2], [2, 1]), ([2, 1], [1, 2]), ([1, 1], [2, 2])])) (rd_extract rfl rfl) rfl ?_
  refine Wx.rd (v := v_19) (rd_assign rfl) rfl ?_
  refine Wx.rd (v := .int .i64 0) (Rd.to (v := .int .i64 (checkE 2 [([1, 2], [2, 1]), ([2, 1], [1, 2]), ([1, 1], [2, 2])])) (rd_assign rfl) (congrArg (Value.int .i64) (show (0 : Int) = (checkE 2 [([1, 2], [2, 1]), ([2, 1], [1, 2]), ([1, 1], [2, 2])] : Int) from (by decide +kernel)).symm)) rfl ?_
  refine Wx.nil ?_
  refine W.seq ?_
  refine W.reg ?_
  refine Wx.callF (run_callF Try.call45 rfl) (F45 hS.fb_lt) rfl ?_
  rintro r_22 w_23 hx_24 ⟨_, rfl, hv_25⟩
  have ln_27 := hv_25.len63
  have hS := hS.ext hx_24
  have hS := hS.add hv_25
  refine Wx.callF (run_callF Try.call22 rfl) (F22 (in_i64 (by omega) (by omega)) (hS.v 0 rfl) hS.fb_lt) rfl ?_
  rintro r_28 w_29 hx_30 ⟨v_31, rfl, hv_32⟩
  have hS := hS.pushFr hx_30 hv_32
  refine Wx.rd (v := .tuple #[v_31, .int .i64 (checkE 2 [([2, 1], [2, 1]), ([1, 2], [1, 2])])]) (rd_move rfl) rfl ?_
  refine Wx.rd (v := v_31) (rd_extract rfl rfl) rfl ?_
  refine Wx.rd (v := .int .i64 (checkE 2 [([2, 1], [2, 1]), ([1, 2], [1, 2])])) (rd_extract rfl rfl) rfl ?_
  refine Wx.rd (v := v_31) (rd_assign rfl) rfl ?_
  refine Wx.rd (v := .int .i64 0) (Rd.to (v := .int .i64 (checkE 2 [([2, 1], [2, 1]), ([1, 2], [1, 2])])) (rd_assign rfl) (congrArg (Value.int .i64) (show (0 : Int) = (checkE 2 [([2, 1], [2, 1]), ([1, 2], [1, 2])] : Int) from (by decide +kernel)).symm)) rfl ?_
  refine Wx.nil ?_
  refine W.seq ?_
  refine W.reg ?_
  refine Wx.callF (run_callF Try.call43 rfl) (F43 hS.fb_lt) rfl ?_
  rintro r_34 w_35 hx_36 ⟨_, rfl, hv_37⟩
  have ln_39 := hv_37.len63
  have hS := hS.ext hx_36
  have hS := hS.add hv_37
  refine Wx.callF (run_callF Try.call27 rfl) (F27 (in_i64 (by omega) (by omega)) (hS.v 0 rfl) (in_i64 (by omega) (by omega)) (in_i64 (by omega) (by omega)) hS.fb_lt) rfl ?_
  rintro r_40 w_41 hx_42 ⟨v_43, rfl, hv_44⟩
  have ln_46 := hv_44.len63
  have hS := hS.ext hx_42
  have hS := hS.add hv_44
  refine Wx.rd (v := .tuple #[v_43, .int .i64 (leastX 2 [([1, 2], [2, 1]), ([2, 1], [1, 2]), ([1, 1], [2, 2])] 2 0)]) (rd_move rfl) rfl ?_
  refine Wx.rd (v := v_43) (rd_extract rfl rfl) rfl ?_
  refine Wx.rd (v := .int .i64 (leastX 2 [([1, 2], [2, 1]), ([2, 1], [1, 2]), ([1, 1], [2, 2])] 2 0)) (rd_extract rfl rfl) rfl ?_
  refine Wx.rd (v := v_43) (rd_assign rfl) rfl ?_
  refine Wx.rd (v := .int .i64 0) (Rd.to (v := .int .i64 (leastX 2 [([1, 2], [2, 1]), ([2, 1], [1, 2]), ([1, 1], [2, 2])] 2 0)) (rd_assign rfl) (congrArg (Value.int .i64) (show (0 : Int) = (leastX 2 [([1, 2], [2, 1]), ([2, 1], [1, 2]), ([1, 1], [2, 2])] 2 0 : Int) from (by decide +kernel)).symm)) rfl ?_
  refine Wx.nil ?_
  refine W.seq ?_
  refine W.reg ?_
  refine Wx.callF (run_callF Try.call43 rfl) (F43 hS.fb_lt) rfl ?_
  rintro r_47 w_48 hx_49 ⟨_, rfl, hv_50⟩
  have ln_52 := hv_50.len63
  have hS := hS.ext hx_49
  have hS := hS.add hv_50
  refine Wx.callF (run_callF Try.call29 rfl) (F29 (in_i64 (by omega) (by omega)) (hS.v 0 rfl) hS.fb_lt) rfl ?_
  rintro r_53 w_54 hx_55 rfl
  have hS := hS.ext hx_55
  refine Wx.rd (v := .tuple #[.bool (tasteE 2 [([1, 2], [2, 1]), ([2, 1], [1, 2]), ([1, 1], [2, 2])]), .int .i64 (checkE 2 [([1, 2], [2, 1]), ([2, 1], [1, 2]), ([1, 1], [2, 2])])]) (rd_move rfl) rfl ?_
  refine Wx.rd (v := .bool (tasteE 2 [([1, 2], [2, 1]), ([2, 1], [1, 2]), ([1, 1], [2, 2])])) (rd_extract rfl rfl) rfl ?_
  refine Wx.rd (v := .int .i64 (checkE 2 [([1, 2], [2, 1]), ([2, 1], [1, 2]), ([1, 1], [2, 2])])) (rd_extract rfl rfl) rfl ?_
  refine Wx.rd (v := .bool true) (Rd.to (v := .bool (tasteE 2 [([1, 2], [2, 1]), ([2, 1], [1, 2]), ([1, 1], [2, 2])])) (rd_assign rfl) (congrArg (Value.bool) (show (true : Bool) = (tasteE 2 [([1, 2], [2, 1]), ([2, 1], [1, 2]), ([1, 1], [2, 2])] : Bool) from (by decide +kernel)).symm)) rfl ?_
  refine Wx.rd (v := .int .i64 0) (Rd.to (v := .int .i64 (checkE 2 [([1, 2], [2, 1]), ([2, 1], [1, 2]), ([1, 1], [2, 2])])) (rd_assign rfl) (congrArg (Value.int .i64) (show (0 : Int) = (checkE 2 [([1, 2], [2, 1]), ([2, 1], [1, 2]), ([1, 1], [2, 2])] : Int) from (by decide +kernel)).symm)) rfl ?_
  refine Wx.nil ?_
  refine W.seq ?_
  refine W.reg ?_
  refine Wx.callF (run_callF Try.call45 rfl) (F45 hS.fb_lt) rfl ?_
  rintro r_56 w_57 hx_58 ⟨_, rfl, hv_59⟩
  have ln_61 := hv_59.len63
  have hS := hS.ext hx_58
  have hS := hS.add hv_59
  refine Wx.callF (run_callF Try.call29 rfl) (F29 (in_i64 (by omega) (by omega)) (hS.v 0 rfl) hS.fb_lt) rfl ?_
  rintro r_62 w_63 hx_64 rfl
  have hS := hS.ext hx_64
  refine Wx.rd (v := .tuple #[.bool (tasteE 2 [([2, 1], [2, 1]), ([1, 2], [1, 2])]), .int .i64 (checkE 2 [([2, 1], [2, 1]), ([1, 2], [1, 2])])]) (rd_move rfl) rfl ?_
  refine Wx.rd (v := .bool (tasteE 2 [([2, 1], [2, 1]), ([1, 2], [1, 2])])) (rd_extract rfl rfl) rfl ?_
  refine Wx.rd (v := .int .i64 (checkE 2 [([2, 1], [2, 1]), ([1, 2], [1, 2])])) (rd_extract rfl rfl) rfl ?_
  refine Wx.rd (v := .bool false) (Rd.to (v := .bool (tasteE 2 [([2, 1], [2, 1]), ([1, 2], [1, 2])])) (rd_assign rfl) (congrArg (Value.bool) (show (false : Bool) = (tasteE 2 [([2, 1], [2, 1]), ([1, 2], [1, 2])] : Bool) from (by decide +kernel)).symm)) rfl ?_
  refine Wx.rd (v := .int .i64 0) (Rd.to (v := .int .i64 (checkE 2 [([2, 1], [2, 1]), ([1, 2], [1, 2])])) (rd_assign rfl) (congrArg (Value.int .i64) (show (0 : Int) = (checkE 2 [([2, 1], [2, 1]), ([1, 2], [1, 2])] : Int) from (by decide +kernel)).symm)) rfl ?_
  refine Wx.nil ?_
  refine W.seq ?_
  refine W.seq ?_
  refine W.reg ?_
  refine Wx.rd (v := .int .i64 0) (rd_move rfl) rfl ?_
  refine Wx.rd (v := .bool (decide ((0 : Int) ≠ 0))) (rd_neq rfl rfl) rfl ?_
  refine Wx.rd (v := .bool (decide ((0 : Int) ≠ 0))) (rd_move rfl) rfl ?_
  refine Wx.cut (X := Unit) 3 [53, 54, 55] (fun _ => [(55, .bool (decide ((0 : Int) ≠ 0) || decide ((0 : Int) ≠ 0)))]) (fun _ w' => St w O w' [Ob.v (tSl (tP (tSl (tI .i64)) (tSl (tI .i64)))) [([2, 1], [2, 1]), ([1, 2], [1, 2])] r_56, Ob.v (tSl (tP (tSl (tI .i64)) (tSl (tI .i64)))) [([1, 2], [2, 1]), ([2, 1], [1, 2]), ([1, 1], [2, 2])] r_47, Ob.v (tSl (tI .i64)) (leastL 2 [([1, 2], [2, 1]), ([2, 1], [1, 2]), ([1, 1], [2, 2])] 2 0) v_43, Ob.v (tSl (tP (tSl (tI .i64)) (tSl (tI .i64)))) [([1, 2], [2, 1]), ([2, 1], [1, 2]), ([1, 1], [2, 2])] r_34, .row (tP (tI .i64) (tI .i64)) 59 v_31 (pairsE (bS [([2, 1], [2, 1]), ([1, 2], [1, 2])]) 2 [([2, 1], [2, 1]), ([1, 2], [1, 2])]), Ob.v (tSl (tP (tSl (tI .i64)) (tSl (tI .i64)))) [([2, 1], [2, 1]), ([1, 2], [1, 2])] r_22, .row (tP (tI .i64) (tI .i64)) 59 v_19 (pairsE (gS [([1, 2], [2, 1]), ([2, 1], [1, 2]), ([1, 1], [2, 2])]) 2 [([1, 2], [2, 1]), ([2, 1], [1, 2]), ([1, 1], [2, 2])]), Ob.v (tSl (tP (tSl (tI .i64)) (tSl (tI .i64)))) [([1, 2], [2, 1]), ([2, 1], [1, 2]), ([1, 1], [2, 2])] r_10, Ob.v (tSl (tP (tSl (tI .i64)) (tSl (tI .i64)))) [([1, 2], [2, 1]), ([2, 1], [1, 2]), ([1, 1], [2, 2])] r_1]) ?_ ?_
  · rcases Bool.eq_false_or_eq_true (decide ((0 : Int) ≠ 0)) with g_65 | g_65
    · -- True
      have gp_66 := of_decide_eq_true g_65
      refine Wx.gnoB rfl rfl (congrArg Value.bool g_65) rfl rfl ?_
      refine Wx.gnoB rfl rfl (congrArg Value.bool g_65) rfl rfl ?_
      refine Wx.rd (v := .bool true) (rd_pickT (congrArg Value.bool g_65) rfl) rfl ?_
      refine Wx.nil ⟨(), hS, ⟨?_, trivial⟩, Out.look rfl Out.refl⟩
      show Value.bool true = Value.bool (decide ((0 : Int) ≠ 0) || decide ((0 : Int) ≠ 0))
      first | rw [g_65, Bool.true_or] | (rw [g_65]; rfl)
    · -- False
      have gp_67 := of_decide_eq_false g_65
      refine Wx.gyes rfl rfl (congrArg Value.bool g_65) ?_
      refine Wx.rd (v := .int .i64 0) (rd_move rfl) rfl ?_
      refine Wx.gyes rfl rfl (congrArg Value.bool g_65) ?_
      refine Wx.rd (v := .bool (decide ((0 : Int) ≠ 0))) (rd_neq rfl rfl) rfl ?_
      refine Wx.rd (v := .bool (decide ((0 : Int) ≠ 0))) (rd_pickF (congrArg Value.bool g_65) rfl) rfl ?_
      refine Wx.nil ⟨(), hS, ⟨?_, trivial⟩, Out.look rfl Out.refl⟩
      show Value.bool (decide ((0 : Int) ≠ 0)) = Value.bool (decide ((0 : Int) ≠ 0) || decide ((0 : Int) ≠ 0))
      first | rw [g_65, Bool.false_or] | (rw [g_65]; rfl)
  rintro ⟨⟩ u_69 w_68 hS
  refine Wx.rd (v := .bool (decide ((0 : Int) ≠ 0) || decide ((0 : Int) ≠ 0))) (rd_move rfl) rfl ?_
  refine Wx.cut (X := Unit) 3 [57, 58, 59] (fun _ => [(59, .bool ((decide ((0 : Int) ≠ 0) || decide ((0 : Int) ≠ 0)) || decide ((0 : Int) ≠ 0)))]) (fun _ w' => St w O w' [Ob.v (tSl (tP (tSl (tI .i64)) (tSl (tI .i64)))) [([2, 1], [2, 1]), ([1, 2], [1, 2])] r_56, Ob.v (tSl (tP (tSl (tI .i64)) (tSl (tI .i64)))) [([1, 2], [2, 1]), ([2, 1], [1, 2]), ([1, 1], [2, 2])] r_47, Ob.v (tSl (tI .i64)) (leastL 2 [([1, 2], [2, 1]), ([2, 1], [1, 2]), ([1, 1], [2, 2])] 2 0) v_43, Ob.v (tSl (tP (tSl (tI .i64)) (tSl (tI .i64)))) [([1, 2], [2, 1]), ([2, 1], [1, 2]), ([1, 1], [2, 2])] r_34, .row (tP (tI .i64) (tI .i64)) 59 v_31 (pairsE (bS [([2, 1], [2, 1]), ([1, 2], [1, 2])]) 2 [([2, 1], [2, 1]), ([1, 2], [1, 2])]), Ob.v (tSl (tP (tSl (tI .i64)) (tSl (tI .i64)))) [([2, 1], [2, 1]), ([1, 2], [1, 2])] r_22, .row (tP (tI .i64) (tI .i64)) 59 v_19 (pairsE (gS [([1, 2], [2, 1]), ([2, 1], [1, 2]), ([1, 1], [2, 2])]) 2 [([1, 2], [2, 1]), ([2, 1], [1, 2]), ([1, 1], [2, 2])]), Ob.v (tSl (tP (tSl (tI .i64)) (tSl (tI .i64)))) [([1, 2], [2, 1]), ([2, 1], [1, 2]), ([1, 1], [2, 2])] r_10, Ob.v (tSl (tP (tSl (tI .i64)) (tSl (tI .i64)))) [([1, 2], [2, 1]), ([2, 1], [1, 2]), ([1, 1], [2, 2])] r_1]) ?_ ?_
  · rcases Bool.eq_false_or_eq_true (decide ((0 : Int) ≠ 0) || decide ((0 : Int) ≠ 0)) with g_70 | g_70
    · -- True
      have gp_71 := g_70
      try simp only [Bool.and_eq_true, Bool.or_eq_true, Bool.not_eq_true', Bool.and_eq_false_iff, Bool.or_eq_false_iff, Bool.not_eq_false', decide_eq_true_eq, decide_eq_false_iff_not, not_or, Bool.false_eq_true, Bool.true_eq_false, false_or, or_false, not_false_eq_true] at gp_71
      refine Wx.gnoB rfl rfl (congrArg Value.bool g_70) rfl rfl ?_
      refine Wx.gnoB rfl rfl (congrArg Value.bool g_70) rfl rfl ?_
      refine Wx.rd (v := .bool true) (rd_pickT (congrArg Value.bool g_70) rfl) rfl ?_
      refine Wx.nil ⟨(), hS, ⟨?_, trivial⟩, Out.look rfl Out.refl⟩
      show Value.bool true = Value.bool ((decide ((0 : Int) ≠ 0) || decide ((0 : Int) ≠ 0)) || decide ((0 : Int) ≠ 0))
      first | rw [g_70, Bool.true_or] | (rw [g_70]; rfl)
    · -- False
      have gp_72 := g_70
      try simp only [Bool.and_eq_true, Bool.or_eq_true, Bool.not_eq_true', Bool.and_eq_false_iff, Bool.or_eq_false_iff, Bool.not_eq_false', decide_eq_true_eq, decide_eq_false_iff_not, not_or, Bool.false_eq_true, Bool.true_eq_false, false_or, or_false, not_false_eq_true] at gp_72
      refine Wx.gyes rfl rfl (congrArg Value.bool g_70) ?_
      refine Wx.rd (v := .int .i64 0) (rd_move rfl) rfl ?_
      refine Wx.gyes rfl rfl (congrArg Value.bool g_70) ?_
      refine Wx.rd (v := .bool (decide ((0 : Int) ≠ 0))) (rd_neq rfl rfl) rfl ?_
      refine Wx.rd (v := .bool (decide ((0 : Int) ≠ 0))) (rd_pickF (congrArg Value.bool g_70) rfl) rfl ?_
      refine Wx.nil ⟨(), hS, ⟨?_, trivial⟩, Out.look rfl Out.refl⟩
      show Value.bool (decide ((0 : Int) ≠ 0)) = Value.bool ((decide ((0 : Int) ≠ 0) || decide ((0 : Int) ≠ 0)) || decide ((0 : Int) ≠ 0))
      first | rw [g_70, Bool.false_or] | (rw [g_70]; rfl)
  rintro ⟨⟩ u_74 w_73 hS
  refine Wx.rd (v := .bool ((decide ((0 : Int) ≠ 0) || decide ((0 : Int) ≠ 0)) || decide ((0 : Int) ≠ 0))) (rd_move rfl) rfl ?_
  refine Wx.cut (X := Unit) 3 [61, 62, 63] (fun _ => [(63, .bool (((decide ((0 : Int) ≠ 0) || decide ((0 : Int) ≠ 0)) || decide ((0 : Int) ≠ 0)) || decide ((0 : Int) ≠ 0)))]) (fun _ w' => St w O w' [Ob.v (tSl (tP (tSl (tI .i64)) (tSl (tI .i64)))) [([2, 1], [2, 1]), ([1, 2], [1, 2])] r_56, Ob.v (tSl (tP (tSl (tI .i64)) (tSl (tI .i64)))) [([1, 2], [2, 1]), ([2, 1], [1, 2]), ([1, 1], [2, 2])] r_47, Ob.v (tSl (tI .i64)) (leastL 2 [([1, 2], [2, 1]), ([2, 1], [1, 2]), ([1, 1], [2, 2])] 2 0) v_43, Ob.v (tSl (tP (tSl (tI .i64)) (tSl (tI .i64)))) [([1, 2], [2, 1]), ([2, 1], [1, 2]), ([1, 1], [2, 2])] r_34, .row (tP (tI .i64) (tI .i64)) 59 v_31 (pairsE (bS [([2, 1], [2, 1]), ([1, 2], [1, 2])]) 2 [([2, 1], [2, 1]), ([1, 2], [1, 2])]), Ob.v (tSl (tP (tSl (tI .i64)) (tSl (tI .i64)))) [([2, 1], [2, 1]), ([1, 2], [1, 2])] r_22, .row (tP (tI .i64) (tI .i64)) 59 v_19 (pairsE (gS [([1, 2], [2, 1]), ([2, 1], [1, 2]), ([1, 1], [2, 2])]) 2 [([1, 2], [2, 1]), ([2, 1], [1, 2]), ([1, 1], [2, 2])]), Ob.v (tSl (tP (tSl (tI .i64)) (tSl (tI .i64)))) [([1, 2], [2, 1]), ([2, 1], [1, 2]), ([1, 1], [2, 2])] r_10, Ob.v (tSl (tP (tSl (tI .i64)) (tSl (tI .i64)))) [([1, 2], [2, 1]), ([2, 1], [1, 2]), ([1, 1], [2, 2])] r_1]) ?_ ?_
  · rcases Bool.eq_false_or_eq_true ((decide ((0 : Int) ≠ 0) || decide ((0 : Int) ≠ 0)) || decide ((0 : Int) ≠ 0)) with g_75 | g_75
    · -- True
      have gp_76 := g_75
      try simp only [Bool.and_eq_true, Bool.or_eq_true, Bool.not_eq_true', Bool.and_eq_false_iff, Bool.or_eq_false_iff, Bool.not_eq_false', decide_eq_true_eq, decide_eq_false_iff_not, not_or, Bool.false_eq_true, Bool.true_eq_false, false_or, or_false, not_false_eq_true] at gp_76
      refine Wx.gnoB rfl rfl (congrArg Value.bool g_75) rfl rfl ?_
      refine Wx.gnoB rfl rfl (congrArg Value.bool g_75) rfl rfl ?_
      refine Wx.rd (v := .bool true) (rd_pickT (congrArg Value.bool g_75) rfl) rfl ?_
      refine Wx.nil ⟨(), hS, ⟨?_, trivial⟩, Out.look rfl Out.refl⟩
      show Value.bool true = Value.bool (((decide ((0 : Int) ≠ 0) || decide ((0 : Int) ≠ 0)) || decide ((0 : Int) ≠ 0)) || decide ((0 : Int) ≠ 0))
      first | rw [g_75, Bool.true_or] | (rw [g_75]; rfl)
    · -- False
      have gp_77 := g_75
      try simp only [Bool.and_eq_true, Bool.or_eq_true, Bool.not_eq_true', Bool.and_eq_false_iff, Bool.or_eq_false_iff, Bool.not_eq_false', decide_eq_true_eq, decide_eq_false_iff_not, not_or, Bool.false_eq_true, Bool.true_eq_false, false_or, or_false, not_false_eq_true] at gp_77
      refine Wx.gyes rfl rfl (congrArg Value.bool g_75) ?_
      refine Wx.rd (v := .int .i64 0) (rd_move rfl) rfl ?_
      refine Wx.gyes rfl rfl (congrArg Value.bool g_75) ?_
      refine Wx.rd (v := .bool (decide ((0 : Int) ≠ 0))) (rd_neq rfl rfl) rfl ?_
      refine Wx.rd (v := .bool (decide ((0 : Int) ≠ 0))) (rd_pickF (congrArg Value.bool g_75) rfl) rfl ?_
      refine Wx.nil ⟨(), hS, ⟨?_, trivial⟩, Out.look rfl Out.refl⟩
      show Value.bool (decide ((0 : Int) ≠ 0)) = Value.bool (((decide ((0 : Int) ≠ 0) || decide ((0 : Int) ≠ 0)) || decide ((0 : Int) ≠ 0)) || decide ((0 : Int) ≠ 0))
      first | rw [g_75, Bool.false_or] | (rw [g_75]; rfl)
  rintro ⟨⟩ u_79 w_78 hS
  refine Wx.rd (v := .bool (((decide ((0 : Int) ≠ 0) || decide ((0 : Int) ≠ 0)) || decide ((0 : Int) ≠ 0)) || decide ((0 : Int) ≠ 0))) (rd_move rfl) rfl ?_
  refine Wx.cut (X := Unit) 3 [65, 66, 67] (fun _ => [(67, .bool ((((decide ((0 : Int) ≠ 0) || decide ((0 : Int) ≠ 0)) || decide ((0 : Int) ≠ 0)) || decide ((0 : Int) ≠ 0)) || decide ((0 : Int) ≠ 0)))]) (fun _ w' => St w O w' [Ob.v (tSl (tP (tSl (tI .i64)) (tSl (tI .i64)))) [([2, 1], [2, 1]), ([1, 2], [1, 2])] r_56, Ob.v (tSl (tP (tSl (tI .i64)) (tSl (tI .i64)))) [([1, 2], [2, 1]), ([2, 1], [1, 2]), ([1, 1], [2, 2])] r_47, Ob.v (tSl (tI .i64)) (leastL 2 [([1, 2], [2, 1]), ([2, 1], [1, 2]), ([1, 1], [2, 2])] 2 0) v_43, Ob.v (tSl (tP (tSl (tI .i64)) (tSl (tI .i64)))) [([1, 2], [2, 1]), ([2, 1], [1, 2]), ([1, 1], [2, 2])] r_34, .row (tP (tI .i64) (tI .i64)) 59 v_31 (pairsE (bS [([2, 1], [2, 1]), ([1, 2], [1, 2])]) 2 [([2, 1], [2, 1]), ([1, 2], [1, 2])]), Ob.v (tSl (tP (tSl (tI .i64)) (tSl (tI .i64)))) [([2, 1], [2, 1]), ([1, 2], [1, 2])] r_22, .row (tP (tI .i64) (tI .i64)) 59 v_19 (pairsE (gS [([1, 2], [2, 1]), ([2, 1], [1, 2]), ([1, 1], [2, 2])]) 2 [([1, 2], [2, 1]), ([2, 1], [1, 2]), ([1, 1], [2, 2])]), Ob.v (tSl (tP (tSl (tI .i64)) (tSl (tI .i64)))) [([1, 2], [2, 1]), ([2, 1], [1, 2]), ([1, 1], [2, 2])] r_10, Ob.v (tSl (tP (tSl (tI .i64)) (tSl (tI .i64)))) [([1, 2], [2, 1]), ([2, 1], [1, 2]), ([1, 1], [2, 2])] r_1]) ?_ ?_
  · rcases Bool.eq_false_or_eq_true (((decide ((0 : Int) ≠ 0) || decide ((0 : Int) ≠ 0)) || decide ((0 : Int) ≠ 0)) || decide ((0 : Int) ≠ 0)) with g_80 | g_80
    · -- True
      have gp_81 := g_80
      try simp only [Bool.and_eq_true, Bool.or_eq_true, Bool.not_eq_true', Bool.and_eq_false_iff, Bool.or_eq_false_iff, Bool.not_eq_false', decide_eq_true_eq, decide_eq_false_iff_not, not_or, Bool.false_eq_true, Bool.true_eq_false, false_or, or_false, not_false_eq_true] at gp_81
      refine Wx.gnoB rfl rfl (congrArg Value.bool g_80) rfl rfl ?_
      refine Wx.gnoB rfl rfl (congrArg Value.bool g_80) rfl rfl ?_
      refine Wx.rd (v := .bool true) (rd_pickT (congrArg Value.bool g_80) rfl) rfl ?_
      refine Wx.nil ⟨(), hS, ⟨?_, trivial⟩, Out.look rfl Out.refl⟩
      show Value.bool true = Value.bool ((((decide ((0 : Int) ≠ 0) || decide ((0 : Int) ≠ 0)) || decide ((0 : Int) ≠ 0)) || decide ((0 : Int) ≠ 0)) || decide ((0 : Int) ≠ 0))
      first | rw [g_80, Bool.true_or] | (rw [g_80]; rfl)
    · -- False
      have gp_82 := g_80
      try simp only [Bool.and_eq_true, Bool.or_eq_true, Bool.not_eq_true', Bool.and_eq_false_iff, Bool.or_eq_false_iff, Bool.not_eq_false', decide_eq_true_eq, decide_eq_false_iff_not, not_or, Bool.false_eq_true, Bool.true_eq_false, false_or, or_false, not_false_eq_true] at gp_82
      refine Wx.gyes rfl rfl (congrArg Value.bool g_80) ?_
      refine Wx.rd (v := .int .i64 0) (rd_move rfl) rfl ?_
      refine Wx.gyes rfl rfl (congrArg Value.bool g_80) ?_
      refine Wx.rd (v := .bool (decide ((0 : Int) ≠ 0))) (rd_neq rfl rfl) rfl ?_
      refine Wx.rd (v := .bool (decide ((0 : Int) ≠ 0))) (rd_pickF (congrArg Value.bool g_80) rfl) rfl ?_
      refine Wx.nil ⟨(), hS, ⟨?_, trivial⟩, Out.look rfl Out.refl⟩
      show Value.bool (decide ((0 : Int) ≠ 0)) = Value.bool ((((decide ((0 : Int) ≠ 0) || decide ((0 : Int) ≠ 0)) || decide ((0 : Int) ≠ 0)) || decide ((0 : Int) ≠ 0)) || decide ((0 : Int) ≠ 0))
      first | rw [g_80, Bool.false_or] | (rw [g_80]; rfl)
  rintro ⟨⟩ u_84 w_83 hS
  refine Wx.rd (v := .bool ((((decide ((0 : Int) ≠ 0) || decide ((0 : Int) ≠ 0)) || decide ((0 : Int) ≠ 0)) || decide ((0 : Int) ≠ 0)) || decide ((0 : Int) ≠ 0))) (rd_move rfl) rfl ?_
  refine Wx.cut (X := Unit) 3 [69, 70, 71] (fun _ => [(71, .bool (((((decide ((0 : Int) ≠ 0) || decide ((0 : Int) ≠ 0)) || decide ((0 : Int) ≠ 0)) || decide ((0 : Int) ≠ 0)) || decide ((0 : Int) ≠ 0)) || decide ((0 : Int) ≠ 0)))]) (fun _ w' => St w O w' [Ob.v (tSl (tP (tSl (tI .i64)) (tSl (tI .i64)))) [([2, 1], [2, 1]), ([1, 2], [1, 2])] r_56, Ob.v (tSl (tP (tSl (tI .i64)) (tSl (tI .i64)))) [([1, 2], [2, 1]), ([2, 1], [1, 2]), ([1, 1], [2, 2])] r_47, Ob.v (tSl (tI .i64)) (leastL 2 [([1, 2], [2, 1]), ([2, 1], [1, 2]), ([1, 1], [2, 2])] 2 0) v_43, Ob.v (tSl (tP (tSl (tI .i64)) (tSl (tI .i64)))) [([1, 2], [2, 1]), ([2, 1], [1, 2]), ([1, 1], [2, 2])] r_34, .row (tP (tI .i64) (tI .i64)) 59 v_31 (pairsE (bS [([2, 1], [2, 1]), ([1, 2], [1, 2])]) 2 [([2, 1], [2, 1]), ([1, 2], [1, 2])]), Ob.v (tSl (tP (tSl (tI .i64)) (tSl (tI .i64)))) [([2, 1], [2, 1]), ([1, 2], [1, 2])] r_22, .row (tP (tI .i64) (tI .i64)) 59 v_19 (pairsE (gS [([1, 2], [2, 1]), ([2, 1], [1, 2]), ([1, 1], [2, 2])]) 2 [([1, 2], [2, 1]), ([2, 1], [1, 2]), ([1, 1], [2, 2])]), Ob.v (tSl (tP (tSl (tI .i64)) (tSl (tI .i64)))) [([1, 2], [2, 1]), ([2, 1], [1, 2]), ([1, 1], [2, 2])] r_10, Ob.v (tSl (tP (tSl (tI .i64)) (tSl (tI .i64)))) [([1, 2], [2, 1]), ([2, 1], [1, 2]), ([1, 1], [2, 2])] r_1]) ?_ ?_
  · rcases Bool.eq_false_or_eq_true ((((decide ((0 : Int) ≠ 0) || decide ((0 : Int) ≠ 0)) || decide ((0 : Int) ≠ 0)) || decide ((0 : Int) ≠ 0)) || decide ((0 : Int) ≠ 0)) with g_85 | g_85
    · -- True
      have gp_86 := g_85
      try simp only [Bool.and_eq_true, Bool.or_eq_true, Bool.not_eq_true', Bool.and_eq_false_iff, Bool.or_eq_false_iff, Bool.not_eq_false', decide_eq_true_eq, decide_eq_false_iff_not, not_or, Bool.false_eq_true, Bool.true_eq_false, false_or, or_false, not_false_eq_true] at gp_86
      refine Wx.gnoB rfl rfl (congrArg Value.bool g_85) rfl rfl ?_
      refine Wx.gnoB rfl rfl (congrArg Value.bool g_85) rfl rfl ?_
      refine Wx.rd (v := .bool true) (rd_pickT (congrArg Value.bool g_85) rfl) rfl ?_
      refine Wx.nil ⟨(), hS, ⟨?_, trivial⟩, Out.look rfl Out.refl⟩
      show Value.bool true = Value.bool (((((decide ((0 : Int) ≠ 0) || decide ((0 : Int) ≠ 0)) || decide ((0 : Int) ≠ 0)) || decide ((0 : Int) ≠ 0)) || decide ((0 : Int) ≠ 0)) || decide ((0 : Int) ≠ 0))
      first | rw [g_85, Bool.true_or] | (rw [g_85]; rfl)
    · -- False
      have gp_87 := g_85
      try simp only [Bool.and_eq_true, Bool.or_eq_true, Bool.not_eq_true', Bool.and_eq_false_iff, Bool.or_eq_false_iff, Bool.not_eq_false', decide_eq_true_eq, decide_eq_false_iff_not, not_or, Bool.false_eq_true, Bool.true_eq_false, false_or, or_false, not_false_eq_true] at gp_87
      refine Wx.gyes rfl rfl (congrArg Value.bool g_85) ?_
      refine Wx.rd (v := .int .i64 0) (rd_move rfl) rfl ?_
      refine Wx.gyes rfl rfl (congrArg Value.bool g_85) ?_
      refine Wx.rd (v := .bool (decide ((0 : Int) ≠ 0))) (rd_neq rfl rfl) rfl ?_
      refine Wx.rd (v := .bool (decide ((0 : Int) ≠ 0))) (rd_pickF (congrArg Value.bool g_85) rfl) rfl ?_
      refine Wx.nil ⟨(), hS, ⟨?_, trivial⟩, Out.look rfl Out.refl⟩
      show Value.bool (decide ((0 : Int) ≠ 0)) = Value.bool (((((decide ((0 : Int) ≠ 0) || decide ((0 : Int) ≠ 0)) || decide ((0 : Int) ≠ 0)) || decide ((0 : Int) ≠ 0)) || decide ((0 : Int) ≠ 0)) || decide ((0 : Int) ≠ 0))
      first | rw [g_85, Bool.false_or] | (rw [g_85]; rfl)
  rintro ⟨⟩ u_89 w_88 hS
  refine Wx.nil ?_
  refine W.cond rfl (fun c0 => ?_) (fun c0 => ?_)
  · -- yes
    try simp only [Bool.and_eq_true, Bool.or_eq_true, Bool.not_eq_true', Bool.and_eq_false_iff, Bool.or_eq_false_iff, Bool.not_eq_false', decide_eq_true_eq, decide_eq_false_iff_not, not_or, Bool.false_eq_true, Bool.true_eq_false, false_or, or_false, not_false_eq_true] at c0
    refine W.seq ?_
    refine W.reg ?_
    refine Wx.rd (v := .bool false) (rd_assign rfl) rfl ?_
    refine Wx.nil ?_
    have e0_0 : false = true := by first | rfl | omega
    exact W.ret ⟨.bool false, ResIs.one, hS.bel, (by rw [e0_0])⟩
  · -- no
    try simp only [Bool.and_eq_true, Bool.or_eq_true, Bool.not_eq_true', Bool.and_eq_false_iff, Bool.or_eq_false_iff, Bool.not_eq_false', decide_eq_true_eq, decide_eq_false_iff_not, not_or, Bool.false_eq_true, Bool.true_eq_false, false_or, or_false, not_false_eq_true] at c0
    refine W.skip ?_
    refine W.seq ?_
    refine W.reg ?_
    refine Wx.callF (run_callF Try.call45 rfl) (F45 hS.fb_lt) rfl ?_
    rintro r_90 w_91 hx_92 ⟨_, rfl, hv_93⟩
    have ln_95 := hv_93.len63
    have hS := hS.ext hx_92
    have hS := hS.add hv_93
    refine Wx.callF (run_callF Try.call31 rfl) (F31 (in_i64 (by omega) (by omega)) (hS.v 0 rfl) hS.fb_lt) rfl ?_
    rintro r_96 w_97 hx_98 ⟨v_99, rfl, hv_100⟩
    have ln_102 := hv_100.len63
    have hS := hS.ext hx_98
    have hS := hS.add hv_100
    refine Wx.rd (v := .tuple #[v_99, .int .i64 (ringX 2 [([2, 1], [2, 1]), ([1, 2], [1, 2])])]) (rd_move rfl) rfl ?_
    refine Wx.rd (v := v_99) (rd_extract rfl rfl) rfl ?_
    refine Wx.rd (v := .int .i64 (ringX 2 [([2, 1], [2, 1]), ([1, 2], [1, 2])])) (rd_extract rfl rfl) rfl ?_
    refine Wx.rd (v := v_99) (rd_assign rfl) rfl ?_
    refine Wx.rd (v := .int .i64 0) (Rd.to (v := .int .i64 (ringX 2 [([2, 1], [2, 1]), ([1, 2], [1, 2])])) (rd_assign rfl) (congrArg (Value.int .i64) (show (0 : Int) = (ringX 2 [([2, 1], [2, 1]), ([1, 2], [1, 2])] : Int) from (by decide +kernel)).symm)) rfl ?_
    refine Wx.nil ?_
    refine W.seq ?_
    refine W.reg ?_
    refine Wx.callF (run_callF Try.call45 rfl) (F45 hS.fb_lt) rfl ?_
    rintro r_103 w_104 hx_105 ⟨_, rfl, hv_106⟩
    have ln_108 := hv_106.len63
    have hS := hS.ext hx_105
    have hS := hS.add hv_106
    refine Wx.callF (run_callF Try.call39 rfl) (F39 (in_i64 (by omega) (by omega)) (hS.v 0 rfl) hS.fb_lt) rfl ?_
    rintro r_109 w_110 hx_111 ⟨v_112, rfl, hv_113⟩
    have ln_115 := hv_113.len63
    have hS := hS.ext hx_111
    have hS := hS.add hv_113
    refine Wx.rd (v := .tuple #[v_112, .int .i64 (checkE 2 [([2, 1], [2, 1]), ([1, 2], [1, 2])])]) (rd_move rfl) rfl ?_
    refine Wx.rd (v := v_112) (rd_extract rfl rfl) rfl ?_
    refine Wx.rd (v := .int .i64 (checkE 2 [([2, 1], [2, 1]), ([1, 2], [1, 2])])) (rd_extract rfl rfl) rfl ?_
    refine Wx.rd (v := v_112) (rd_assign rfl) rfl ?_
    refine Wx.rd (v := .int .i64 0) (Rd.to (v := .int .i64 (checkE 2 [([2, 1], [2, 1]), ([1, 2], [1, 2])])) (rd_assign rfl) (congrArg (Value.int .i64) (show (0 : Int) = (checkE 2 [([2, 1], [2, 1]), ([1, 2], [1, 2])] : Int) from (by decide +kernel)).symm)) rfl ?_
    refine Wx.nil ?_
    refine W.seq ?_
    refine W.reg ?_
    refine Wx.callF (run_callF Try.call43 rfl) (F43 hS.fb_lt) rfl ?_
    rintro r_116 w_117 hx_118 ⟨_, rfl, hv_119⟩
    have ln_121 := hv_119.len63
    have hS := hS.ext hx_118
    have hS := hS.add hv_119
    refine Wx.callF (run_callF Try.call41 rfl) (F41 (in_i64 (by omega) (by omega)) (hS.v 0 rfl) hS.fb_lt) rfl ?_
    rintro r_122 w_123 hx_124 ⟨v_125, rfl, hv_126⟩
    have hS := hS.pushFr hx_124 hv_126
    refine Wx.rd (v := .tuple #[v_125, .int .i64 (ranksX 2 [([1, 2], [2, 1]), ([2, 1], [1, 2]), ([1, 1], [2, 2])])]) (rd_move rfl) rfl ?_
    refine Wx.rd (v := v_125) (rd_extract rfl rfl) rfl ?_
    refine Wx.rd (v := .int .i64 (ranksX 2 [([1, 2], [2, 1]), ([2, 1], [1, 2]), ([1, 1], [2, 2])])) (rd_extract rfl rfl) rfl ?_
    refine Wx.rd (v := v_125) (rd_assign rfl) rfl ?_
    refine Wx.rd (v := .int .i64 0) (Rd.to (v := .int .i64 (ranksX 2 [([1, 2], [2, 1]), ([2, 1], [1, 2]), ([1, 1], [2, 2])])) (rd_assign rfl) (congrArg (Value.int .i64) (show (0 : Int) = (ranksX 2 [([1, 2], [2, 1]), ([2, 1], [1, 2]), ([1, 1], [2, 2])] : Int) from (by decide +kernel)).symm)) rfl ?_
    refine Wx.nil ?_
    refine W.seq ?_
    refine W.reg ?_
    refine Wx.callF (run_callF Try.call43 rfl) (F43 hS.fb_lt) rfl ?_
    rintro r_128 w_129 hx_130 ⟨_, rfl, hv_131⟩
    have ln_133 := hv_131.len63
    have hS := hS.ext hx_130
    have hS := hS.add hv_131
    refine Wx.callF (run_callF Try.call36 rfl) (F36 (in_i64 (by omega) (by omega)) (hS.v 0 rfl) hS.fb_lt) rfl ?_
    rintro r_134 w_135 hx_136 ⟨v_137, v_138, rfl, hv_139, hv_140⟩
    have ln_142 := hv_139.len63
    have ln_144 := hv_140.len63
    have hS := hS.ext hx_136
    have hS := hS.add hv_139
    have hS := hS.add (hv_140.mv (.less (by simp [fb, Ob.blk])))
    refine Wx.rd (v := .tuple #[v_137, v_138, .int .i64 (numX 2 [([1, 2], [2, 1]), ([2, 1], [1, 2]), ([1, 1], [2, 2])])]) (rd_move rfl) rfl ?_
    refine Wx.rd (v := v_137) (rd_extract rfl rfl) rfl ?_
    refine Wx.rd (v := v_138) (rd_extract rfl rfl) rfl ?_
    refine Wx.rd (v := .int .i64 (numX 2 [([1, 2], [2, 1]), ([2, 1], [1, 2]), ([1, 1], [2, 2])])) (rd_extract rfl rfl) rfl ?_
    refine Wx.rd (v := v_137) (rd_assign rfl) rfl ?_
    refine Wx.rd (v := v_138) (rd_assign rfl) rfl ?_
    refine Wx.rd (v := .int .i64 0) (Rd.to (v := .int .i64 (numX 2 [([1, 2], [2, 1]), ([2, 1], [1, 2]), ([1, 1], [2, 2])])) (rd_assign rfl) (congrArg (Value.int .i64) (show (0 : Int) = (numX 2 [([1, 2], [2, 1]), ([2, 1], [1, 2]), ([1, 1], [2, 2])] : Int) from (by decide +kernel)).symm)) rfl ?_
    refine Wx.nil ?_
    refine W.seq ?_
    refine W.reg ?_
    refine Wx.callF (run_callF Try.call43 rfl) (F43 hS.fb_lt) rfl ?_
    rintro r_145 w_146 hx_147 ⟨_, rfl, hv_148⟩
    have ln_150 := hv_148.len63
    have hS := hS.ext hx_147
    have hS := hS.add hv_148
    refine Wx.callF (run_callF Try.call31 rfl) (F31 (in_i64 (by omega) (by omega)) (hS.v 0 rfl) hS.fb_lt) rfl ?_
    rintro r_151 w_152 hx_153 ⟨v_154, rfl, hv_155⟩
    have ln_157 := hv_155.len63
    have hS := hS.ext hx_153
    have hS := hS.add hv_155
    refine Wx.rd (v := .tuple #[v_154, .int .i64 (ringX 2 [([1, 2], [2, 1]), ([2, 1], [1, 2]), ([1, 1], [2, 2])])]) (rd_move rfl) rfl ?_
    refine Wx.rd (v := v_154) (rd_extract rfl rfl) rfl ?_
    refine Wx.rd (v := .int .i64 (ringX 2 [([1, 2], [2, 1]), ([2, 1], [1, 2]), ([1, 1], [2, 2])])) (rd_extract rfl rfl) rfl ?_
    refine Wx.rd (v := .int .i64 13) (Rd.to (v := .int .i64 (ringX 2 [([1, 2], [2, 1]), ([2, 1], [1, 2]), ([1, 1], [2, 2])])) (rd_assign rfl) (congrArg (Value.int .i64) (show (13 : Int) = (ringX 2 [([1, 2], [2, 1]), ([2, 1], [1, 2]), ([1, 1], [2, 2])] : Int) from (by decide +kernel)).symm)) rfl ?_
    refine Wx.nil ?_
    refine W.seq ?_
    refine W.reg ?_
    refine Wx.callF (run_callF Try.call45 rfl) (F45 hS.fb_lt) rfl ?_
    rintro r_158 w_159 hx_160 ⟨_, rfl, hv_161⟩
    have ln_163 := hv_161.len63
    have hS := hS.ext hx_160
    have hS := hS.add hv_161
    refine Wx.callF (run_callF Try.call36 rfl) (F36 (in_i64 (by omega) (by omega)) (hS.v 0 rfl) hS.fb_lt) rfl ?_
    rintro r_164 w_165 hx_166 ⟨v_167, v_168, rfl, hv_169, hv_170⟩
    have ln_172 := hv_169.len63
    have ln_174 := hv_170.len63
    have hS := hS.ext hx_166
    have hS := hS.add hv_169
    have hS := hS.add (hv_170.mv (.less (by simp [fb, Ob.blk])))
    refine Wx.rd (v := .tuple #[v_167, v_168, .int .i64 (numX 2 [([2, 1], [2, 1]), ([1, 2], [1, 2])])]) (rd_move rfl) rfl ?_
    refine Wx.rd (v := v_167) (rd_extract rfl rfl) rfl ?_
    refine Wx.rd (v := v_168) (rd_extract rfl rfl) rfl ?_
    refine Wx.rd (v := .int .i64 (numX 2 [([2, 1], [2, 1]), ([1, 2], [1, 2])])) (rd_extract rfl rfl) rfl ?_
    refine Wx.rd (v := .int .i64 13) (Rd.to (v := .int .i64 (numX 2 [([2, 1], [2, 1]), ([1, 2], [1, 2])])) (rd_assign rfl) (congrArg (Value.int .i64) (show (13 : Int) = (numX 2 [([2, 1], [2, 1]), ([1, 2], [1, 2])] : Int) from (by decide +kernel)).symm)) rfl ?_
    refine Wx.nil ?_
    refine W.seq ?_
    refine W.reg ?_
    refine Wx.callF (run_callF Try.call43 rfl) (F43 hS.fb_lt) rfl ?_
    rintro r_175 w_176 hx_177 ⟨_, rfl, hv_178⟩
    have ln_180 := hv_178.len63
    have hS := hS.ext hx_177
    have hS := hS.add hv_178
    refine Wx.callF (run_callF Try.call27 rfl) (F27 (in_i64 (by omega) (by omega)) (hS.v 0 rfl) (in_i64 (by omega) (by omega)) (in_i64 (by omega) (by omega)) hS.fb_lt) rfl ?_
    rintro r_181 w_182 hx_183 ⟨v_184, rfl, hv_185⟩
    have ln_187 := hv_185.len63
    have hS := hS.ext hx_183
    have hS := hS.add hv_185
    refine Wx.rd (v := .tuple #[v_184, .int .i64 (leastX 2 [([1, 2], [2, 1]), ([2, 1], [1, 2]), ([1, 1], [2, 2])] 0 1)]) (rd_move rfl) rfl ?_
    refine Wx.rd (v := v_184) (rd_extract rfl rfl) rfl ?_
    refine Wx.rd (v := .int .i64 (leastX 2 [([1, 2], [2, 1]), ([2, 1], [1, 2]), ([1, 1], [2, 2])] 0 1)) (rd_extract rfl rfl) rfl ?_
    refine Wx.rd (v := v_184) (rd_assign rfl) rfl ?_
    refine Wx.rd (v := .int .i64 12) (Rd.to (v := .int .i64 (leastX 2 [([1, 2], [2, 1]), ([2, 1], [1, 2]), ([1, 1], [2, 2])] 0 1)) (rd_assign rfl) (congrArg (Value.int .i64) (show (12 : Int) = (leastX 2 [([1, 2], [2, 1]), ([2, 1], [1, 2]), ([1, 1], [2, 2])] 0 1 : Int) from (by decide +kernel)).symm)) rfl ?_
    refine Wx.nil ?_
    refine W.seq ?_
    refine W.reg ?_
    refine Wx.rd (v := .int .i64 0) (rd_move rfl) rfl ?_
    refine Wx.rd (v := .bool (decide ((0 : Int) = 0))) (rd_eql rfl rfl) rfl ?_
    refine Wx.rd (v := .bool (decide ((0 : Int) = 0))) (rd_move rfl) rfl ?_
    refine Wx.cut (X := Unit) 3 [112, 113, 114] (fun _ => [(114, .bool (decide ((0 : Int) = 0) && decide ((0 : Int) = 0)))]) (fun _ w' => St w O w' [Ob.v (tSl (tI .i64)) (leastL 2 [([1, 2], [2, 1]), ([2, 1], [1, 2]), ([1, 1], [2, 2])] 0 1) v_184, Ob.v (tSl (tP (tSl (tI .i64)) (tSl (tI .i64)))) [([1, 2], [2, 1]), ([2, 1], [1, 2]), ([1, 1], [2, 2])] r_175, Ob.v (tSl (tI .i64)) (numU 2 [([2, 1], [2, 1]), ([1, 2], [1, 2])]) v_168, Ob.v (tSl (tI .i64)) (numW 2 [([2, 1], [2, 1]), ([1, 2], [1, 2])]) v_167, Ob.v (tSl (tP (tSl (tI .i64)) (tSl (tI .i64)))) [([2, 1], [2, 1]), ([1, 2], [1, 2])] r_158, Ob.v (tSl (tI .i64)) (ringE 2 [([1, 2], [2, 1]), ([2, 1], [1, 2]), ([1, 1], [2, 2])]) v_154, Ob.v (tSl (tP (tSl (tI .i64)) (tSl (tI .i64)))) [([1, 2], [2, 1]), ([2, 1], [1, 2]), ([1, 1], [2, 2])] r_145, Ob.v (tSl (tI .i64)) (numU 2 [([1, 2], [2, 1]), ([2, 1], [1, 2]), ([1, 1], [2, 2])]) v_138, Ob.v (tSl (tI .i64)) (numW 2 [([1, 2], [2, 1]), ([2, 1], [1, 2]), ([1, 1], [2, 2])]) v_137, Ob.v (tSl (tP (tSl (tI .i64)) (tSl (tI .i64)))) [([1, 2], [2, 1]), ([2, 1], [1, 2]), ([1, 1], [2, 2])] r_128, .row (tI .i64) 3 v_125 (ranksL 2 [([1, 2], [2, 1]), ([2, 1], [1, 2]), ([1, 1], [2, 2])]), Ob.v (tSl (tP (tSl (tI .i64)) (tSl (tI .i64)))) [([1, 2], [2, 1]), ([2, 1], [1, 2]), ([1, 1], [2, 2])] r_116, Ob.v (tSl (tI .i64)) (wrongE 2 [([2, 1], [2, 1]), ([1, 2], [1, 2])]) v_112, Ob.v (tSl (tP (tSl (tI .i64)) (tSl (tI .i64)))) [([2, 1], [2, 1]), ([1, 2], [1, 2])] r_103, Ob.v (tSl (tI .i64)) (ringE 2 [([2, 1], [2, 1]), ([1, 2], [1, 2])]) v_99, Ob.v (tSl (tP (tSl (tI .i64)) (tSl (tI .i64)))) [([2, 1], [2, 1]), ([1, 2], [1, 2])] r_90, Ob.v (tSl (tP (tSl (tI .i64)) (tSl (tI .i64)))) [([2, 1], [2, 1]), ([1, 2], [1, 2])] r_56, Ob.v (tSl (tP (tSl (tI .i64)) (tSl (tI .i64)))) [([1, 2], [2, 1]), ([2, 1], [1, 2]), ([1, 1], [2, 2])] r_47, Ob.v (tSl (tI .i64)) (leastL 2 [([1, 2], [2, 1]), ([2, 1], [1, 2]), ([1, 1], [2, 2])] 2 0) v_43, Ob.v (tSl (tP (tSl (tI .i64)) (tSl (tI .i64)))) [([1, 2], [2, 1]), ([2, 1], [1, 2]), ([1, 1], [2, 2])] r_34, .row (tP (tI .i64) (tI .i64)) 59 v_31 (pairsE (bS [([2, 1], [2, 1]), ([1, 2], [1, 2])]) 2 [([2, 1], [2, 1]), ([1, 2], [1, 2])]), Ob.v (tSl (tP (tSl (tI .i64)) (tSl (tI .i64)))) [([2, 1], [2, 1]), ([1, 2], [1, 2])] r_22, .row (tP (tI .i64) (tI .i64)) 59 v_19 (pairsE (gS [([1, 2], [2, 1]), ([2, 1], [1, 2]), ([1, 1], [2, 2])]) 2 [([1, 2], [2, 1]), ([2, 1], [1, 2]), ([1, 1], [2, 2])]), Ob.v (tSl (tP (tSl (tI .i64)) (tSl (tI .i64)))) [([1, 2], [2, 1]), ([2, 1], [1, 2]), ([1, 1], [2, 2])] r_10, Ob.v (tSl (tP (tSl (tI .i64)) (tSl (tI .i64)))) [([1, 2], [2, 1]), ([2, 1], [1, 2]), ([1, 1], [2, 2])] r_1]) ?_ ?_
    · rcases Bool.eq_false_or_eq_true (decide ((0 : Int) = 0)) with g_188 | g_188
      · -- True
        have gp_189 := of_decide_eq_true g_188
        refine Wx.gyes rfl rfl (congrArg Value.bool g_188) ?_
        refine Wx.rd (v := .int .i64 0) (rd_move rfl) rfl ?_
        refine Wx.gyes rfl rfl (congrArg Value.bool g_188) ?_
        refine Wx.rd (v := .bool (decide ((0 : Int) = 0))) (rd_eql rfl rfl) rfl ?_
        refine Wx.rd (v := .bool (decide ((0 : Int) = 0))) (rd_pickT (congrArg Value.bool g_188) rfl) rfl ?_
        refine Wx.nil ⟨(), hS, ⟨?_, trivial⟩, Out.look rfl Out.refl⟩
        show Value.bool (decide ((0 : Int) = 0)) = Value.bool (decide ((0 : Int) = 0) && decide ((0 : Int) = 0))
        first | rw [g_188, Bool.true_and] | (rw [g_188]; rfl)
      · -- False
        have gp_190 := of_decide_eq_false g_188
        refine Wx.gnoB rfl rfl (congrArg Value.bool g_188) rfl rfl ?_
        refine Wx.gnoB rfl rfl (congrArg Value.bool g_188) rfl rfl ?_
        refine Wx.rd (v := .bool false) (rd_pickF (congrArg Value.bool g_188) rfl) rfl ?_
        refine Wx.nil ⟨(), hS, ⟨?_, trivial⟩, Out.look rfl Out.refl⟩
        show Value.bool false = Value.bool (decide ((0 : Int) = 0) && decide ((0 : Int) = 0))
        first | rw [g_188, Bool.false_and] | (rw [g_188]; rfl)
    rintro ⟨⟩ u_192 w_191 hS
    refine Wx.rd (v := .bool (decide ((0 : Int) = 0) && decide ((0 : Int) = 0))) (rd_move rfl) rfl ?_
    refine Wx.cut (X := Unit) 3 [116, 117, 118] (fun _ => [(118, .bool ((decide ((0 : Int) = 0) && decide ((0 : Int) = 0)) && decide ((0 : Int) = 0)))]) (fun _ w' => St w O w' [Ob.v (tSl (tI .i64)) (leastL 2 [([1, 2], [2, 1]), ([2, 1], [1, 2]), ([1, 1], [2, 2])] 0 1) v_184, Ob.v (tSl (tP (tSl (tI .i64)) (tSl (tI .i64)))) [([1, 2], [2, 1]), ([2, 1], [1, 2]), ([1, 1], [2, 2])] r_175, Ob.v (tSl (tI .i64)) (numU 2 [([2, 1], [2, 1]), ([1, 2], [1, 2])]) v_168, Ob.v (tSl (tI .i64)) (numW 2 [([2, 1], [2, 1]), ([1, 2], [1, 2])]) v_167, Ob.v (tSl (tP (tSl (tI .i64)) (tSl (tI .i64)))) [([2, 1], [2, 1]), ([1, 2], [1, 2])] r_158, Ob.v (tSl (tI .i64)) (ringE 2 [([1, 2], [2, 1]), ([2, 1], [1, 2]), ([1, 1], [2, 2])]) v_154, Ob.v (tSl (tP (tSl (tI .i64)) (tSl (tI .i64)))) [([1, 2], [2, 1]), ([2, 1], [1, 2]), ([1, 1], [2, 2])] r_145, Ob.v (tSl (tI .i64)) (numU 2 [([1, 2], [2, 1]), ([2, 1], [1, 2]), ([1, 1], [2, 2])]) v_138, Ob.v (tSl (tI .i64)) (numW 2 [([1, 2], [2, 1]), ([2, 1], [1, 2]), ([1, 1], [2, 2])]) v_137, Ob.v (tSl (tP (tSl (tI .i64)) (tSl (tI .i64)))) [([1, 2], [2, 1]), ([2, 1], [1, 2]), ([1, 1], [2, 2])] r_128, .row (tI .i64) 3 v_125 (ranksL 2 [([1, 2], [2, 1]), ([2, 1], [1, 2]), ([1, 1], [2, 2])]), Ob.v (tSl (tP (tSl (tI .i64)) (tSl (tI .i64)))) [([1, 2], [2, 1]), ([2, 1], [1, 2]), ([1, 1], [2, 2])] r_116, Ob.v (tSl (tI .i64)) (wrongE 2 [([2, 1], [2, 1]), ([1, 2], [1, 2])]) v_112, Ob.v (tSl (tP (tSl (tI .i64)) (tSl (tI .i64)))) [([2, 1], [2, 1]), ([1, 2], [1, 2])] r_103, Ob.v (tSl (tI .i64)) (ringE 2 [([2, 1], [2, 1]), ([1, 2], [1, 2])]) v_99, Ob.v (tSl (tP (tSl (tI .i64)) (tSl (tI .i64)))) [([2, 1], [2, 1]), ([1, 2], [1, 2])] r_90, Ob.v (tSl (tP (tSl (tI .i64)) (tSl (tI .i64)))) [([2, 1], [2, 1]), ([1, 2], [1, 2])] r_56, Ob.v (tSl (tP (tSl (tI .i64)) (tSl (tI .i64)))) [([1, 2], [2, 1]), ([2, 1], [1, 2]), ([1, 1], [2, 2])] r_47, Ob.v (tSl (tI .i64)) (leastL 2 [([1, 2], [2, 1]), ([2, 1], [1, 2]), ([1, 1], [2, 2])] 2 0) v_43, Ob.v (tSl (tP (tSl (tI .i64)) (tSl (tI .i64)))) [([1, 2], [2, 1]), ([2, 1], [1, 2]), ([1, 1], [2, 2])] r_34, .row (tP (tI .i64) (tI .i64)) 59 v_31 (pairsE (bS [([2, 1], [2, 1]), ([1, 2], [1, 2])]) 2 [([2, 1], [2, 1]), ([1, 2], [1, 2])]), Ob.v (tSl (tP (tSl (tI .i64)) (tSl (tI .i64)))) [([2, 1], [2, 1]), ([1, 2], [1, 2])] r_22, .row (tP (tI .i64) (tI .i64)) 59 v_19 (pairsE (gS [([1, 2], [2, 1]), ([2, 1], [1, 2]), ([1, 1], [2, 2])]) 2 [([1, 2], [2, 1]), ([2, 1], [1, 2]), ([1, 1], [2, 2])]), Ob.v (tSl (tP (tSl (tI .i64)) (tSl (tI .i64)))) [([1, 2], [2, 1]), ([2, 1], [1, 2]), ([1, 1], [2, 2])] r_10, Ob.v (tSl (tP (tSl (tI .i64)) (tSl (tI .i64)))) [([1, 2], [2, 1]), ([2, 1], [1, 2]), ([1, 1], [2, 2])] r_1]) ?_ ?_
    · rcases Bool.eq_false_or_eq_true (decide ((0 : Int) = 0) && decide ((0 : Int) = 0)) with g_193 | g_193
      · -- True
        have gp_194 := g_193
        try simp only [Bool.and_eq_true, Bool.or_eq_true, Bool.not_eq_true', Bool.and_eq_false_iff, Bool.or_eq_false_iff, Bool.not_eq_false', decide_eq_true_eq, decide_eq_false_iff_not, not_or, Bool.false_eq_true, Bool.true_eq_false, false_or, or_false, not_false_eq_true] at gp_194
        refine Wx.gyes rfl rfl (congrArg Value.bool g_193) ?_
        refine Wx.rd (v := .int .i64 0) (rd_move rfl) rfl ?_
        refine Wx.gyes rfl rfl (congrArg Value.bool g_193) ?_
        refine Wx.rd (v := .bool (decide ((0 : Int) = 0))) (rd_eql rfl rfl) rfl ?_
        refine Wx.rd (v := .bool (decide ((0 : Int) = 0))) (rd_pickT (congrArg Value.bool g_193) rfl) rfl ?_
        refine Wx.nil ⟨(), hS, ⟨?_, trivial⟩, Out.look rfl Out.refl⟩
        show Value.bool (decide ((0 : Int) = 0)) = Value.bool ((decide ((0 : Int) = 0) && decide ((0 : Int) = 0)) && decide ((0 : Int) = 0))
        first | rw [g_193, Bool.true_and] | (rw [g_193]; rfl)
      · -- False
        have gp_195 := g_193
        try simp only [Bool.and_eq_true, Bool.or_eq_true, Bool.not_eq_true', Bool.and_eq_false_iff, Bool.or_eq_false_iff, Bool.not_eq_false', decide_eq_true_eq, decide_eq_false_iff_not, not_or, Bool.false_eq_true, Bool.true_eq_false, false_or, or_false, not_false_eq_true] at gp_195
        refine Wx.gnoB rfl rfl (congrArg Value.bool g_193) rfl rfl ?_
        refine Wx.gnoB rfl rfl (congrArg Value.bool g_193) rfl rfl ?_
        refine Wx.rd (v := .bool false) (rd_pickF (congrArg Value.bool g_193) rfl) rfl ?_
        refine Wx.nil ⟨(), hS, ⟨?_, trivial⟩, Out.look rfl Out.refl⟩
        show Value.bool false = Value.bool ((decide ((0 : Int) = 0) && decide ((0 : Int) = 0)) && decide ((0 : Int) = 0))
        first | rw [g_193, Bool.false_and] | (rw [g_193]; rfl)
    rintro ⟨⟩ u_197 w_196 hS
    refine Wx.rd (v := .bool ((decide ((0 : Int) = 0) && decide ((0 : Int) = 0)) && decide ((0 : Int) = 0))) (rd_move rfl) rfl ?_
    refine Wx.cut (X := Unit) 3 [120, 121, 122] (fun _ => [(122, .bool (((decide ((0 : Int) = 0) && decide ((0 : Int) = 0)) && decide ((0 : Int) = 0)) && decide ((0 : Int) = 0)))]) (fun _ w' => St w O w' [Ob.v (tSl (tI .i64)) (leastL 2 [([1, 2], [2, 1]), ([2, 1], [1, 2]), ([1, 1], [2, 2])] 0 1) v_184, Ob.v (tSl (tP (tSl (tI .i64)) (tSl (tI .i64)))) [([1, 2], [2, 1]), ([2, 1], [1, 2]), ([1, 1], [2, 2])] r_175, Ob.v (tSl (tI .i64)) (numU 2 [([2, 1], [2, 1]), ([1, 2], [1, 2])]) v_168, Ob.v (tSl (tI .i64)) (numW 2 [([2, 1], [2, 1]), ([1, 2], [1, 2])]) v_167, Ob.v (tSl (tP (tSl (tI .i64)) (tSl (tI .i64)))) [([2, 1], [2, 1]), ([1, 2], [1, 2])] r_158, Ob.v (tSl (tI .i64)) (ringE 2 [([1, 2], [2, 1]), ([2, 1], [1, 2]), ([1, 1], [2, 2])]) v_154, Ob.v (tSl (tP (tSl (tI .i64)) (tSl (tI .i64)))) [([1, 2], [2, 1]), ([2, 1], [1, 2]), ([1, 1], [2, 2])] r_145, Ob.v (tSl (tI .i64)) (numU 2 [([1, 2], [2, 1]), ([2, 1], [1, 2]), ([1, 1], [2, 2])]) v_138, Ob.v (tSl (tI .i64)) (numW 2 [([1, 2], [2, 1]), ([2, 1], [1, 2]), ([1, 1], [2, 2])]) v_137, Ob.v (tSl (tP (tSl (tI .i64)) (tSl (tI .i64)))) [([1, 2], [2, 1]), ([2, 1], [1, 2]), ([1, 1], [2, 2])] r_128, .row (tI .i64) 3 v_125 (ranksL 2 [([1, 2], [2, 1]), ([2, 1], [1, 2]), ([1, 1], [2, 2])]), Ob.v (tSl (tP (tSl (tI .i64)) (tSl (tI .i64)))) [([1, 2], [2, 1]), ([2, 1], [1, 2]), ([1, 1], [2, 2])] r_116, Ob.v (tSl (tI .i64)) (wrongE 2 [([2, 1], [2, 1]), ([1, 2], [1, 2])]) v_112, Ob.v (tSl (tP (tSl (tI .i64)) (tSl (tI .i64)))) [([2, 1], [2, 1]), ([1, 2], [1, 2])] r_103, Ob.v (tSl (tI .i64)) (ringE 2 [([2, 1], [2, 1]), ([1, 2], [1, 2])]) v_99, Ob.v (tSl (tP (tSl (tI .i64)) (tSl (tI .i64)))) [([2, 1], [2, 1]), ([1, 2], [1, 2])] r_90, Ob.v (tSl (tP (tSl (tI .i64)) (tSl (tI .i64)))) [([2, 1], [2, 1]), ([1, 2], [1, 2])] r_56, Ob.v (tSl (tP (tSl (tI .i64)) (tSl (tI .i64)))) [([1, 2], [2, 1]), ([2, 1], [1, 2]), ([1, 1], [2, 2])] r_47, Ob.v (tSl (tI .i64)) (leastL 2 [([1, 2], [2, 1]), ([2, 1], [1, 2]), ([1, 1], [2, 2])] 2 0) v_43, Ob.v (tSl (tP (tSl (tI .i64)) (tSl (tI .i64)))) [([1, 2], [2, 1]), ([2, 1], [1, 2]), ([1, 1], [2, 2])] r_34, .row (tP (tI .i64) (tI .i64)) 59 v_31 (pairsE (bS [([2, 1], [2, 1]), ([1, 2], [1, 2])]) 2 [([2, 1], [2, 1]), ([1, 2], [1, 2])]), Ob.v (tSl (tP (tSl (tI .i64)) (tSl (tI .i64)))) [([2, 1], [2, 1]), ([1, 2], [1, 2])] r_22, .row (tP (tI .i64) (tI .i64)) 59 v_19 (pairsE (gS [([1, 2], [2, 1]), ([2, 1], [1, 2]), ([1, 1], [2, 2])]) 2 [([1, 2], [2, 1]), ([2, 1], [1, 2]), ([1, 1], [2, 2])]), Ob.v (tSl (tP (tSl (tI .i64)) (tSl (tI .i64)))) [([1, 2], [2, 1]), ([2, 1], [1, 2]), ([1, 1], [2, 2])] r_10, Ob.v (tSl (tP (tSl (tI .i64)) (tSl (tI .i64)))) [([1, 2], [2, 1]), ([2, 1], [1, 2]), ([1, 1], [2, 2])] r_1]) ?_ ?_
    · rcases Bool.eq_false_or_eq_true ((decide ((0 : Int) = 0) && decide ((0 : Int) = 0)) && decide ((0 : Int) = 0)) with g_198 | g_198
      · -- True
        have gp_199 := g_198
        try simp only [Bool.and_eq_true, Bool.or_eq_true, Bool.not_eq_true', Bool.and_eq_false_iff, Bool.or_eq_false_iff, Bool.not_eq_false', decide_eq_true_eq, decide_eq_false_iff_not, not_or, Bool.false_eq_true, Bool.true_eq_false, false_or, or_false, not_false_eq_true] at gp_199
        refine Wx.gyes rfl rfl (congrArg Value.bool g_198) ?_
        refine Wx.rd (v := .int .i64 0) (rd_move rfl) rfl ?_
        refine Wx.gyes rfl rfl (congrArg Value.bool g_198) ?_
        refine Wx.rd (v := .bool (decide ((0 : Int) = 0))) (rd_eql rfl rfl) rfl ?_
        refine Wx.rd (v := .bool (decide ((0 : Int) = 0))) (rd_pickT (congrArg Value.bool g_198) rfl) rfl ?_
        refine Wx.nil ⟨(), hS, ⟨?_, trivial⟩, Out.look rfl Out.refl⟩
        show Value.bool (decide ((0 : Int) = 0)) = Value.bool (((decide ((0 : Int) = 0) && decide ((0 : Int) = 0)) && decide ((0 : Int) = 0)) && decide ((0 : Int) = 0))
        first | rw [g_198, Bool.true_and] | (rw [g_198]; rfl)
      · -- False
        have gp_200 := g_198
        try simp only [Bool.and_eq_true, Bool.or_eq_true, Bool.not_eq_true', Bool.and_eq_false_iff, Bool.or_eq_false_iff, Bool.not_eq_false', decide_eq_true_eq, decide_eq_false_iff_not, not_or, Bool.false_eq_true, Bool.true_eq_false, false_or, or_false, not_false_eq_true] at gp_200
        refine Wx.gnoB rfl rfl (congrArg Value.bool g_198) rfl rfl ?_
        refine Wx.gnoB rfl rfl (congrArg Value.bool g_198) rfl rfl ?_
        refine Wx.rd (v := .bool false) (rd_pickF (congrArg Value.bool g_198) rfl) rfl ?_
        refine Wx.nil ⟨(), hS, ⟨?_, trivial⟩, Out.look rfl Out.refl⟩
        show Value.bool false = Value.bool (((decide ((0 : Int) = 0) && decide ((0 : Int) = 0)) && decide ((0 : Int) = 0)) && decide ((0 : Int) = 0))
        first | rw [g_198, Bool.false_and] | (rw [g_198]; rfl)
    rintro ⟨⟩ u_202 w_201 hS
    refine Wx.rd (v := .bool (((decide ((0 : Int) = 0) && decide ((0 : Int) = 0)) && decide ((0 : Int) = 0)) && decide ((0 : Int) = 0))) (rd_move rfl) rfl ?_
    refine Wx.cut (X := Unit) 3 [124, 125, 126] (fun _ => [(126, .bool ((((decide ((0 : Int) = 0) && decide ((0 : Int) = 0)) && decide ((0 : Int) = 0)) && decide ((0 : Int) = 0)) && decide ((13 : Int) = 13)))]) (fun _ w' => St w O w' [Ob.v (tSl (tI .i64)) (leastL 2 [([1, 2], [2, 1]), ([2, 1], [1, 2]), ([1, 1], [2, 2])] 0 1) v_184, Ob.v (tSl (tP (tSl (tI .i64)) (tSl (tI .i64)))) [([1, 2], [2, 1]), ([2, 1], [1, 2]), ([1, 1], [2, 2])] r_175, Ob.v (tSl (tI .i64)) (numU 2 [([2, 1], [2, 1]), ([1, 2], [1, 2])]) v_168, Ob.v (tSl (tI .i64)) (numW 2 [([2, 1], [2, 1]), ([1, 2], [1, 2])]) v_167, Ob.v (tSl (tP (tSl (tI .i64)) (tSl (tI .i64)))) [([2, 1], [2, 1]), ([1, 2], [1, 2])] r_158, Ob.v (tSl (tI .i64)) (ringE 2 [([1, 2], [2, 1]), ([2, 1], [1, 2]), ([1, 1], [2, 2])]) v_154, Ob.v (tSl (tP (tSl (tI .i64)) (tSl (tI .i64)))) [([1, 2], [2, 1]), ([2, 1], [1, 2]), ([1, 1], [2, 2])] r_145, Ob.v (tSl (tI .i64)) (numU 2 [([1, 2], [2, 1]), ([2, 1], [1, 2]), ([1, 1], [2, 2])]) v_138, Ob.v (tSl (tI .i64)) (numW 2 [([1, 2], [2, 1]), ([2, 1], [1, 2]), ([1, 1], [2, 2])]) v_137, Ob.v (tSl (tP (tSl (tI .i64)) (tSl (tI .i64)))) [([1, 2], [2, 1]), ([2, 1], [1, 2]), ([1, 1], [2, 2])] r_128, .row (tI .i64) 3 v_125 (ranksL 2 [([1, 2], [2, 1]), ([2, 1], [1, 2]), ([1, 1], [2, 2])]), Ob.v (tSl (tP (tSl (tI .i64)) (tSl (tI .i64)))) [([1, 2], [2, 1]), ([2, 1], [1, 2]), ([1, 1], [2, 2])] r_116, Ob.v (tSl (tI .i64)) (wrongE 2 [([2, 1], [2, 1]), ([1, 2], [1, 2])]) v_112, Ob.v (tSl (tP (tSl (tI .i64)) (tSl (tI .i64)))) [([2, 1], [2, 1]), ([1, 2], [1, 2])] r_103, Ob.v (tSl (tI .i64)) (ringE 2 [([2, 1], [2, 1]), ([1, 2], [1, 2])]) v_99, Ob.v (tSl (tP (tSl (tI .i64)) (tSl (tI .i64)))) [([2, 1], [2, 1]), ([1, 2], [1, 2])] r_90, Ob.v (tSl (tP (tSl (tI .i64)) (tSl (tI .i64)))) [([2, 1], [2, 1]), ([1, 2], [1, 2])] r_56, Ob.v (tSl (tP (tSl (tI .i64)) (tSl (tI .i64)))) [([1, 2], [2, 1]), ([2, 1], [1, 2]), ([1, 1], [2, 2])] r_47, Ob.v (tSl (tI .i64)) (leastL 2 [([1, 2], [2, 1]), ([2, 1], [1, 2]), ([1, 1], [2, 2])] 2 0) v_43, Ob.v (tSl (tP (tSl (tI .i64)) (tSl (tI .i64)))) [([1, 2], [2, 1]), ([2, 1], [1, 2]), ([1, 1], [2, 2])] r_34, .row (tP (tI .i64) (tI .i64)) 59 v_31 (pairsE (bS [([2, 1], [2, 1]), ([1, 2], [1, 2])]) 2 [([2, 1], [2, 1]), ([1, 2], [1, 2])]), Ob.v (tSl (tP (tSl (tI .i64)) (tSl (tI .i64)))) [([2, 1], [2, 1]), ([1, 2], [1, 2])] r_22, .row (tP (tI .i64) (tI .i64)) 59 v_19 (pairsE (gS [([1, 2], [2, 1]), ([2, 1], [1, 2]), ([1, 1], [2, 2])]) 2 [([1, 2], [2, 1]), ([2, 1], [1, 2]), ([1, 1], [2, 2])]), Ob.v (tSl (tP (tSl (tI .i64)) (tSl (tI .i64)))) [([1, 2], [2, 1]), ([2, 1], [1, 2]), ([1, 1], [2, 2])] r_10, Ob.v (tSl (tP (tSl (tI .i64)) (tSl (tI .i64)))) [([1, 2], [2, 1]), ([2, 1], [1, 2]), ([1, 1], [2, 2])] r_1]) ?_ ?_
    · rcases Bool.eq_false_or_eq_true (((decide ((0 : Int) = 0) && decide ((0 : Int) = 0)) && decide ((0 : Int) = 0)) && decide ((0 : Int) = 0)) with g_203 | g_203
      · -- True
        have gp_204 := g_203
        try simp only [Bool.and_eq_true, Bool.or_eq_true, Bool.not_eq_true', Bool.and_eq_false_iff, Bool.or_eq_false_iff, Bool.not_eq_false', decide_eq_true_eq, decide_eq_false_iff_not, not_or, Bool.false_eq_true, Bool.true_eq_false, false_or, or_false, not_false_eq_true] at gp_204
        refine Wx.gyes rfl rfl (congrArg Value.bool g_203) ?_
        refine Wx.rd (v := .int .i64 13) (rd_move rfl) rfl ?_
        refine Wx.gyes rfl rfl (congrArg Value.bool g_203) ?_
        refine Wx.rd (v := .bool (decide ((13 : Int) = 13))) (rd_eql rfl rfl) rfl ?_
        refine Wx.rd (v := .bool (decide ((13 : Int) = 13))) (rd_pickT (congrArg Value.bool g_203) rfl) rfl ?_
        refine Wx.nil ⟨(), hS, ⟨?_, trivial⟩, Out.look rfl Out.refl⟩
        show Value.bool (decide ((13 : Int) = 13)) = Value.bool ((((decide ((0 : Int) = 0) && decide ((0 : Int) = 0)) && decide ((0 : Int) = 0)) && decide ((0 : Int) = 0)) && decide ((13 : Int) = 13))
        first | rw [g_203, Bool.true_and] | (rw [g_203]; rfl)
      · -- False
        have gp_205 := g_203
        try simp only [Bool.and_eq_true, Bool.or_eq_true, Bool.not_eq_true', Bool.and_eq_false_iff, Bool.or_eq_false_iff, Bool.not_eq_false', decide_eq_true_eq, decide_eq_false_iff_not, not_or, Bool.false_eq_true, Bool.true_eq_false, false_or, or_false, not_false_eq_true] at gp_205
        refine Wx.gnoB rfl rfl (congrArg Value.bool g_203) rfl rfl ?_
        refine Wx.gnoB rfl rfl (congrArg Value.bool g_203) rfl rfl ?_
        refine Wx.rd (v := .bool false) (rd_pickF (congrArg Value.bool g_203) rfl) rfl ?_
        refine Wx.nil ⟨(), hS, ⟨?_, trivial⟩, Out.look rfl Out.refl⟩
        show Value.bool false = Value.bool ((((decide ((0 : Int) = 0) && decide ((0 : Int) = 0)) && decide ((0 : Int) = 0)) && decide ((0 : Int) = 0)) && decide ((13 : Int) = 13))
        first | rw [g_203, Bool.false_and] | (rw [g_203]; rfl)
    rintro ⟨⟩ u_207 w_206 hS
    refine Wx.rd (v := .bool ((((decide ((0 : Int) = 0) && decide ((0 : Int) = 0)) && decide ((0 : Int) = 0)) && decide ((0 : Int) = 0)) && decide ((13 : Int) = 13))) (rd_move rfl) rfl ?_
    refine Wx.cut (X := Unit) 3 [128, 129, 130] (fun _ => [(130, .bool (((((decide ((0 : Int) = 0) && decide ((0 : Int) = 0)) && decide ((0 : Int) = 0)) && decide ((0 : Int) = 0)) && decide ((13 : Int) = 13)) && decide ((13 : Int) = 13)))]) (fun _ w' => St w O w' [Ob.v (tSl (tI .i64)) (leastL 2 [([1, 2], [2, 1]), ([2, 1], [1, 2]), ([1, 1], [2, 2])] 0 1) v_184, Ob.v (tSl (tP (tSl (tI .i64)) (tSl (tI .i64)))) [([1, 2], [2, 1]), ([2, 1], [1, 2]), ([1, 1], [2, 2])] r_175, Ob.v (tSl (tI .i64)) (numU 2 [([2, 1], [2, 1]), ([1, 2], [1, 2])]) v_168, Ob.v (tSl (tI .i64)) (numW 2 [([2, 1], [2, 1]), ([1, 2], [1, 2])]) v_167, Ob.v (tSl (tP (tSl (tI .i64)) (tSl (tI .i64)))) [([2, 1], [2, 1]), ([1, 2], [1, 2])] r_158, Ob.v (tSl (tI .i64)) (ringE 2 [([1, 2], [2, 1]), ([2, 1], [1, 2]), ([1, 1], [2, 2])]) v_154, Ob.v (tSl (tP (tSl (tI .i64)) (tSl (tI .i64)))) [([1, 2], [2, 1]), ([2, 1], [1, 2]), ([1, 1], [2, 2])] r_145, Ob.v (tSl (tI .i64)) (numU 2 [([1, 2], [2, 1]), ([2, 1], [1, 2]), ([1, 1], [2, 2])]) v_138, Ob.v (tSl (tI .i64)) (numW 2 [([1, 2], [2, 1]), ([2, 1], [1, 2]), ([1, 1], [2, 2])]) v_137, Ob.v (tSl (tP (tSl (tI .i64)) (tSl (tI .i64)))) [([1, 2], [2, 1]), ([2, 1], [1, 2]), ([1, 1], [2, 2])] r_128, .row (tI .i64) 3 v_125 (ranksL 2 [([1, 2], [2, 1]), ([2, 1], [1, 2]), ([1, 1], [2, 2])]), Ob.v (tSl (tP (tSl (tI .i64)) (tSl (tI .i64)))) [([1, 2], [2, 1]), ([2, 1], [1, 2]), ([1, 1], [2, 2])] r_116, Ob.v (tSl (tI .i64)) (wrongE 2 [([2, 1], [2, 1]), ([1, 2], [1, 2])]) v_112, Ob.v (tSl (tP (tSl (tI .i64)) (tSl (tI .i64)))) [([2, 1], [2, 1]), ([1, 2], [1, 2])] r_103, Ob.v (tSl (tI .i64)) (ringE 2 [([2, 1], [2, 1]), ([1, 2], [1, 2])]) v_99, Ob.v (tSl (tP (tSl (tI .i64)) (tSl (tI .i64)))) [([2, 1], [2, 1]), ([1, 2], [1, 2])] r_90, Ob.v (tSl (tP (tSl (tI .i64)) (tSl (tI .i64)))) [([2, 1], [2, 1]), ([1, 2], [1, 2])] r_56, Ob.v (tSl (tP (tSl (tI .i64)) (tSl (tI .i64)))) [([1, 2], [2, 1]), ([2, 1], [1, 2]), ([1, 1], [2, 2])] r_47, Ob.v (tSl (tI .i64)) (leastL 2 [([1, 2], [2, 1]), ([2, 1], [1, 2]), ([1, 1], [2, 2])] 2 0) v_43, Ob.v (tSl (tP (tSl (tI .i64)) (tSl (tI .i64)))) [([1, 2], [2, 1]), ([2, 1], [1, 2]), ([1, 1], [2, 2])] r_34, .row (tP (tI .i64) (tI .i64)) 59 v_31 (pairsE (bS [([2, 1], [2, 1]), ([1, 2], [1, 2])]) 2 [([2, 1], [2, 1]), ([1, 2], [1, 2])]), Ob.v (tSl (tP (tSl (tI .i64)) (tSl (tI .i64)))) [([2, 1], [2, 1]), ([1, 2], [1, 2])] r_22, .row (tP (tI .i64) (tI .i64)) 59 v_19 (pairsE (gS [([1, 2], [2, 1]), ([2, 1], [1, 2]), ([1, 1], [2, 2])]) 2 [([1, 2], [2, 1]), ([2, 1], [1, 2]), ([1, 1], [2, 2])]), Ob.v (tSl (tP (tSl (tI .i64)) (tSl (tI .i64)))) [([1, 2], [2, 1]), ([2, 1], [1, 2]), ([1, 1], [2, 2])] r_10, Ob.v (tSl (tP (tSl (tI .i64)) (tSl (tI .i64)))) [([1, 2], [2, 1]), ([2, 1], [1, 2]), ([1, 1], [2, 2])] r_1]) ?_ ?_
    · rcases Bool.eq_false_or_eq_true ((((decide ((0 : Int) = 0) && decide ((0 : Int) = 0)) && decide ((0 : Int) = 0)) && decide ((0 : Int) = 0)) && decide ((13 : Int) = 13)) with g_208 | g_208
      · -- True
        have gp_209 := g_208
        try simp only [Bool.and_eq_true, Bool.or_eq_true, Bool.not_eq_true', Bool.and_eq_false_iff, Bool.or_eq_false_iff, Bool.not_eq_false', decide_eq_true_eq, decide_eq_false_iff_not, not_or, Bool.false_eq_true, Bool.true_eq_false, false_or, or_false, not_false_eq_true] at gp_209
        refine Wx.gyes rfl rfl (congrArg Value.bool g_208) ?_
        refine Wx.rd (v := .int .i64 13) (rd_move rfl) rfl ?_
        refine Wx.gyes rfl rfl (congrArg Value.bool g_208) ?_
        refine Wx.rd (v := .bool (decide ((13 : Int) = 13))) (rd_eql rfl rfl) rfl ?_
        refine Wx.rd (v := .bool (decide ((13 : Int) = 13))) (rd_pickT (congrArg Value.bool g_208) rfl) rfl ?_
        refine Wx.nil ⟨(), hS, ⟨?_, trivial⟩, Out.look rfl Out.refl⟩
        show Value.bool (decide ((13 : Int) = 13)) = Value.bool (((((decide ((0 : Int) = 0) && decide ((0 : Int) = 0)) && decide ((0 : Int) = 0)) && decide ((0 : Int) = 0)) && decide ((13 : Int) = 13)) && decide ((13 : Int) = 13))
        first | rw [g_208, Bool.true_and] | (rw [g_208]; rfl)
      · -- False
        have gp_210 := g_208
        try simp only [Bool.and_eq_true, Bool.or_eq_true, Bool.not_eq_true', Bool.and_eq_false_iff, Bool.or_eq_false_iff, Bool.not_eq_false', decide_eq_true_eq, decide_eq_false_iff_not, not_or, Bool.false_eq_true, Bool.true_eq_false, false_or, or_false, not_false_eq_true] at gp_210
        refine Wx.gnoB rfl rfl (congrArg Value.bool g_208) rfl rfl ?_
        refine Wx.gnoB rfl rfl (congrArg Value.bool g_208) rfl rfl ?_
        refine Wx.rd (v := .bool false) (rd_pickF (congrArg Value.bool g_208) rfl) rfl ?_
        refine Wx.nil ⟨(), hS, ⟨?_, trivial⟩, Out.look rfl Out.refl⟩
        show Value.bool false = Value.bool (((((decide ((0 : Int) = 0) && decide ((0 : Int) = 0)) && decide ((0 : Int) = 0)) && decide ((0 : Int) = 0)) && decide ((13 : Int) = 13)) && decide ((13 : Int) = 13))
        first | rw [g_208, Bool.false_and] | (rw [g_208]; rfl)
    rintro ⟨⟩ u_212 w_211 hS
    refine Wx.rd (v := .bool (((((decide ((0 : Int) = 0) && decide ((0 : Int) = 0)) && decide ((0 : Int) = 0)) && decide ((0 : Int) = 0)) && decide ((13 : Int) = 13)) && decide ((13 : Int) = 13))) (rd_move rfl) rfl ?_
    refine Wx.cut (X := Unit) 3 [132, 133, 134] (fun _ => [(134, .bool ((((((decide ((0 : Int) = 0) && decide ((0 : Int) = 0)) && decide ((0 : Int) = 0)) && decide ((0 : Int) = 0)) && decide ((13 : Int) = 13)) && decide ((13 : Int) = 13)) && decide ((12 : Int) = 12)))]) (fun _ w' => St w O w' [Ob.v (tSl (tI .i64)) (leastL 2 [([1, 2], [2, 1]), ([2, 1], [1, 2]), ([1, 1], [2, 2])] 0 1) v_184, Ob.v (tSl (tP (tSl (tI .i64)) (tSl (tI .i64)))) [([1, 2], [2, 1]), ([2, 1], [1, 2]), ([1, 1], [2, 2])] r_175, Ob.v (tSl (tI .i64)) (numU 2 [([2, 1], [2, 1]), ([1, 2], [1, 2])]) v_168, Ob.v (tSl (tI .i64)) (numW 2 [([2, 1], [2, 1]), ([1, 2], [1, 2])]) v_167, Ob.v (tSl (tP (tSl (tI .i64)) (tSl (tI .i64)))) [([2, 1], [2, 1]), ([1, 2], [1, 2])] r_158, Ob.v (tSl (tI .i64)) (ringE 2 [([1, 2], [2, 1]), ([2, 1], [1, 2]), ([1, 1], [2, 2])]) v_154, Ob.v (tSl (tP (tSl (tI .i64)) (tSl (tI .i64)))) [([1, 2], [2, 1]), ([2, 1], [1, 2]), ([1, 1], [2, 2])] r_145, Ob.v (tSl (tI .i64)) (numU 2 [([1, 2], [2, 1]), ([2, 1], [1, 2]), ([1, 1], [2, 2])]) v_138, Ob.v (tSl (tI .i64)) (numW 2 [([1, 2], [2, 1]), ([2, 1], [1, 2]), ([1, 1], [2, 2])]) v_137, Ob.v (tSl (tP (tSl (tI .i64)) (tSl (tI .i64)))) [([1, 2], [2, 1]), ([2, 1], [1, 2]), ([1, 1], [2, 2])] r_128, .row (tI .i64) 3 v_125 (ranksL 2 [([1, 2], [2, 1]), ([2, 1], [1, 2]), ([1, 1], [2, 2])]), Ob.v (tSl (tP (tSl (tI .i64)) (tSl (tI .i64)))) [([1, 2], [2, 1]), ([2, 1], [1, 2]), ([1, 1], [2, 2])] r_116, Ob.v (tSl (tI .i64)) (wrongE 2 [([2, 1], [2, 1]), ([1, 2], [1, 2])]) v_112, Ob.v (tSl (tP (tSl (tI .i64)) (tSl (tI .i64)))) [([2, 1], [2, 1]), ([1, 2], [1, 2])] r_103, Ob.v (tSl (tI .i64)) (ringE 2 [([2, 1], [2, 1]), ([1, 2], [1, 2])]) v_99, Ob.v (tSl (tP (tSl (tI .i64)) (tSl (tI .i64)))) [([2, 1], [2, 1]), ([1, 2], [1, 2])] r_90, Ob.v (tSl (tP (tSl (tI .i64)) (tSl (tI .i64)))) [([2, 1], [2, 1]), ([1, 2], [1, 2])] r_56, Ob.v (tSl (tP (tSl (tI .i64)) (tSl (tI .i64)))) [([1, 2], [2, 1]), ([2, 1], [1, 2]), ([1, 1], [2, 2])] r_47, Ob.v (tSl (tI .i64)) (leastL 2 [([1, 2], [2, 1]), ([2, 1], [1, 2]), ([1, 1], [2, 2])] 2 0) v_43, Ob.v (tSl (tP (tSl (tI .i64)) (tSl (tI .i64)))) [([1, 2], [2, 1]), ([2, 1], [1, 2]), ([1, 1], [2, 2])] r_34, .row (tP (tI .i64) (tI .i64)) 59 v_31 (pairsE (bS [([2, 1], [2, 1]), ([1, 2], [1, 2])]) 2 [([2, 1], [2, 1]), ([1, 2], [1, 2])]), Ob.v (tSl (tP (tSl (tI .i64)) (tSl (tI .i64)))) [([2, 1], [2, 1]), ([1, 2], [1, 2])] r_22, .row (tP (tI .i64) (tI .i64)) 59 v_19 (pairsE (gS [([1, 2], [2, 1]), ([2, 1], [1, 2]), ([1, 1], [2, 2])]) 2 [([1, 2], [2, 1]), ([2, 1], [1, 2]), ([1, 1], [2, 2])]), Ob.v (tSl (tP (tSl (tI .i64)) (tSl (tI .i64)))) [([1, 2], [2, 1]), ([2, 1], [1, 2]), ([1, 1], [2, 2])] r_10, Ob.v (tSl (tP (tSl (tI .i64)) (tSl (tI .i64)))) [([1, 2], [2, 1]), ([2, 1], [1, 2]), ([1, 1], [2, 2])] r_1]) ?_ ?_
    · rcases Bool.eq_false_or_eq_true (((((decide ((0 : Int) = 0) && decide ((0 : Int) = 0)) && decide ((0 : Int) = 0)) && decide ((0 : Int) = 0)) && decide ((13 : Int) = 13)) && decide ((13 : Int) = 13)) with g_213 | g_213
      · -- True
        have gp_214 := g_213
        try simp only [Bool.and_eq_true, Bool.or_eq_true, Bool.not_eq_true', Bool.and_eq_false_iff, Bool.or_eq_false_iff, Bool.not_eq_false', decide_eq_true_eq, decide_eq_false_iff_not, not_or, Bool.false_eq_true, Bool.true_eq_false, false_or, or_false, not_false_eq_true] at gp_214
        refine Wx.gyes rfl rfl (congrArg Value.bool g_213) ?_
        refine Wx.rd (v := .int .i64 12) (rd_move rfl) rfl ?_
        refine Wx.gyes rfl rfl (congrArg Value.bool g_213) ?_
        refine Wx.rd (v := .bool (decide ((12 : Int) = 12))) (rd_eql rfl rfl) rfl ?_
        refine Wx.rd (v := .bool (decide ((12 : Int) = 12))) (rd_pickT (congrArg Value.bool g_213) rfl) rfl ?_
        refine Wx.nil ⟨(), hS, ⟨?_, trivial⟩, Out.look rfl Out.refl⟩
        show Value.bool (decide ((12 : Int) = 12)) = Value.bool ((((((decide ((0 : Int) = 0) && decide ((0 : Int) = 0)) && decide ((0 : Int) = 0)) && decide ((0 : Int) = 0)) && decide ((13 : Int) = 13)) && decide ((13 : Int) = 13)) && decide ((12 : Int) = 12))
        first | rw [g_213, Bool.true_and] | (rw [g_213]; rfl)
      · -- False
        have gp_215 := g_213
        try simp only [Bool.and_eq_true, Bool.or_eq_true, Bool.not_eq_true', Bool.and_eq_false_iff, Bool.or_eq_false_iff, Bool.not_eq_false', decide_eq_true_eq, decide_eq_false_iff_not, not_or, Bool.false_eq_true, Bool.true_eq_false, false_or, or_false, not_false_eq_true] at gp_215
        refine Wx.gnoB rfl rfl (congrArg Value.bool g_213) rfl rfl ?_
        refine Wx.gnoB rfl rfl (congrArg Value.bool g_213) rfl rfl ?_
        refine Wx.rd (v := .bool false) (rd_pickF (congrArg Value.bool g_213) rfl) rfl ?_
        refine Wx.nil ⟨(), hS, ⟨?_, trivial⟩, Out.look rfl Out.refl⟩
        show Value.bool false = Value.bool ((((((decide ((0 : Int) = 0) && decide ((0 : Int) = 0)) && decide ((0 : Int) = 0)) && decide ((0 : Int) = 0)) && decide ((13 : Int) = 13)) && decide ((13 : Int) = 13)) && decide ((12 : Int) = 12))
        first | rw [g_213, Bool.false_and] | (rw [g_213]; rfl)
    rintro ⟨⟩ u_217 w_216 hS
    refine Wx.rd (v := .bool ((((((decide ((0 : Int) = 0) && decide ((0 : Int) = 0)) && decide ((0 : Int) = 0)) && decide ((0 : Int) = 0)) && decide ((13 : Int) = 13)) && decide ((13 : Int) = 13)) && decide ((12 : Int) = 12))) (rd_move rfl) rfl ?_
    refine Wx.cut (X := Unit) 3 [136, 137, 138] (fun _ => [(138, .bool (((((((decide ((0 : Int) = 0) && decide ((0 : Int) = 0)) && decide ((0 : Int) = 0)) && decide ((0 : Int) = 0)) && decide ((13 : Int) = 13)) && decide ((13 : Int) = 13)) && decide ((12 : Int) = 12)) && decide ((5 : Int) = 5)))]) (fun _ w' => St w O w' [Ob.v (tSl (tI .i64)) (leastL 2 [([1, 2], [2, 1]), ([2, 1], [1, 2]), ([1, 1], [2, 2])] 0 1) v_184, Ob.v (tSl (tP (tSl (tI .i64)) (tSl (tI .i64)))) [([1, 2], [2, 1]), ([2, 1], [1, 2]), ([1, 1], [2, 2])] r_175, Ob.v (tSl (tI .i64)) (numU 2 [([2, 1], [2, 1]), ([1, 2], [1, 2])]) v_168, Ob.v (tSl (tI .i64)) (numW 2 [([2, 1], [2, 1]), ([1, 2], [1, 2])]) v_167, Ob.v (tSl (tP (tSl (tI .i64)) (tSl (tI .i64)))) [([2, 1], [2, 1]), ([1, 2], [1, 2])] r_158, Ob.v (tSl (tI .i64)) (ringE 2 [([1, 2], [2, 1]), ([2, 1], [1, 2]), ([1, 1], [2, 2])]) v_154, Ob.v (tSl (tP (tSl (tI .i64)) (tSl (tI .i64)))) [([1, 2], [2, 1]), ([2, 1], [1, 2]), ([1, 1], [2, 2])] r_145, Ob.v (tSl (tI .i64)) (numU 2 [([1, 2], [2, 1]), ([2, 1], [1, 2]), ([1, 1], [2, 2])]) v_138, Ob.v (tSl (tI .i64)) (numW 2 [([1, 2], [2, 1]), ([2, 1], [1, 2]), ([1, 1], [2, 2])]) v_137, Ob.v (tSl (tP (tSl (tI .i64)) (tSl (tI .i64)))) [([1, 2], [2, 1]), ([2, 1], [1, 2]), ([1, 1], [2, 2])] r_128, .row (tI .i64) 3 v_125 (ranksL 2 [([1, 2], [2, 1]), ([2, 1], [1, 2]), ([1, 1], [2, 2])]), Ob.v (tSl (tP (tSl (tI .i64)) (tSl (tI .i64)))) [([1, 2], [2, 1]), ([2, 1], [1, 2]), ([1, 1], [2, 2])] r_116, Ob.v (tSl (tI .i64)) (wrongE 2 [([2, 1], [2, 1]), ([1, 2], [1, 2])]) v_112, Ob.v (tSl (tP (tSl (tI .i64)) (tSl (tI .i64)))) [([2, 1], [2, 1]), ([1, 2], [1, 2])] r_103, Ob.v (tSl (tI .i64)) (ringE 2 [([2, 1], [2, 1]), ([1, 2], [1, 2])]) v_99, Ob.v (tSl (tP (tSl (tI .i64)) (tSl (tI .i64)))) [([2, 1], [2, 1]), ([1, 2], [1, 2])] r_90, Ob.v (tSl (tP (tSl (tI .i64)) (tSl (tI .i64)))) [([2, 1], [2, 1]), ([1, 2], [1, 2])] r_56, Ob.v (tSl (tP (tSl (tI .i64)) (tSl (tI .i64)))) [([1, 2], [2, 1]), ([2, 1], [1, 2]), ([1, 1], [2, 2])] r_47, Ob.v (tSl (tI .i64)) (leastL 2 [([1, 2], [2, 1]), ([2, 1], [1, 2]), ([1, 1], [2, 2])] 2 0) v_43, Ob.v (tSl (tP (tSl (tI .i64)) (tSl (tI .i64)))) [([1, 2], [2, 1]), ([2, 1], [1, 2]), ([1, 1], [2, 2])] r_34, .row (tP (tI .i64) (tI .i64)) 59 v_31 (pairsE (bS [([2, 1], [2, 1]), ([1, 2], [1, 2])]) 2 [([2, 1], [2, 1]), ([1, 2], [1, 2])]), Ob.v (tSl (tP (tSl (tI .i64)) (tSl (tI .i64)))) [([2, 1], [2, 1]), ([1, 2], [1, 2])] r_22, .row (tP (tI .i64) (tI .i64)) 59 v_19 (pairsE (gS [([1, 2], [2, 1]), ([2, 1], [1, 2]), ([1, 1], [2, 2])]) 2 [([1, 2], [2, 1]), ([2, 1], [1, 2]), ([1, 1], [2, 2])]), Ob.v (tSl (tP (tSl (tI .i64)) (tSl (tI .i64)))) [([1, 2], [2, 1]), ([2, 1], [1, 2]), ([1, 1], [2, 2])] r_10, Ob.v (tSl (tP (tSl (tI .i64)) (tSl (tI .i64)))) [([1, 2], [2, 1]), ([2, 1], [1, 2]), ([1, 1], [2, 2])] r_1]) ?_ ?_
    · rcases Bool.eq_false_or_eq_true ((((((decide ((0 : Int) = 0) && decide ((0 : Int) = 0)) && decide ((0 : Int) = 0)) && decide ((0 : Int) = 0)) && decide ((13 : Int) = 13)) && decide ((13 : Int) = 13)) && decide ((12 : Int) = 12)) with g_218 | g_218
      · -- True
        have gp_219 := g_218
        try simp only [Bool.and_eq_true, Bool.or_eq_true, Bool.not_eq_true', Bool.and_eq_false_iff, Bool.or_eq_false_iff, Bool.not_eq_false', decide_eq_true_eq, decide_eq_false_iff_not, not_or, Bool.false_eq_true, Bool.true_eq_false, false_or, or_false, not_false_eq_true] at gp_219
        refine Wx.gyes rfl rfl (congrArg Value.bool g_218) ?_
        refine Wx.rd (v := .int .i64 5) (rd_move rfl) rfl ?_
        refine Wx.gyes rfl rfl (congrArg Value.bool g_218) ?_
        refine Wx.rd (v := .bool (decide ((5 : Int) = 5))) (rd_eql rfl rfl) rfl ?_
        refine Wx.rd (v := .bool (decide ((5 : Int) = 5))) (rd_pickT (congrArg Value.bool g_218) rfl) rfl ?_
        refine Wx.nil ⟨(), hS, ⟨?_, trivial⟩, Out.look rfl Out.refl⟩
        show Value.bool (decide ((5 : Int) = 5)) = Value.bool (((((((decide ((0 : Int) = 0) && decide ((0 : Int) = 0)) && decide ((0 : Int) = 0)) && decide ((0 : Int) = 0)) && decide ((13 : Int) = 13)) && decide ((13 : Int) = 13)) && decide ((12 : Int) = 12)) && decide ((5 : Int) = 5))
        first | rw [g_218, Bool.true_and] | (rw [g_218]; rfl)
      · -- False
        have gp_220 := g_218
        try simp only [Bool.and_eq_true, Bool.or_eq_true, Bool.not_eq_true', Bool.and_eq_false_iff, Bool.or_eq_false_iff, Bool.not_eq_false', decide_eq_true_eq, decide_eq_false_iff_not, not_or, Bool.false_eq_true, Bool.true_eq_false, false_or, or_false, not_false_eq_true] at gp_220
        refine Wx.gnoB rfl rfl (congrArg Value.bool g_218) rfl rfl ?_
        refine Wx.gnoB rfl rfl (congrArg Value.bool g_218) rfl rfl ?_
        refine Wx.rd (v := .bool false) (rd_pickF (congrArg Value.bool g_218) rfl) rfl ?_
        refine Wx.nil ⟨(), hS, ⟨?_, trivial⟩, Out.look rfl Out.refl⟩
        show Value.bool false = Value.bool (((((((decide ((0 : Int) = 0) && decide ((0 : Int) = 0)) && decide ((0 : Int) = 0)) && decide ((0 : Int) = 0)) && decide ((13 : Int) = 13)) && decide ((13 : Int) = 13)) && decide ((12 : Int) = 12)) && decide ((5 : Int) = 5))
        first | rw [g_218, Bool.false_and] | (rw [g_218]; rfl)
    rintro ⟨⟩ u_222 w_221 hS
    refine Wx.rd (v := .bool (((((((decide ((0 : Int) = 0) && decide ((0 : Int) = 0)) && decide ((0 : Int) = 0)) && decide ((0 : Int) = 0)) && decide ((13 : Int) = 13)) && decide ((13 : Int) = 13)) && decide ((12 : Int) = 12)) && decide ((5 : Int) = 5))) (rd_move rfl) rfl ?_
    refine Wx.cut (X := Unit) 6 [140, 141, 142, 143, 144, 145] (fun _ => [(145, .bool ((((((((decide ((0 : Int) = 0) && decide ((0 : Int) = 0)) && decide ((0 : Int) = 0)) && decide ((0 : Int) = 0)) && decide ((13 : Int) = 13)) && decide ((13 : Int) = 13)) && decide ((12 : Int) = 12)) && decide ((5 : Int) = 5)) && true))]) (fun _ w' => St w O w' [Ob.v (tSl (tI .i64)) (leastL 2 [([1, 2], [2, 1]), ([2, 1], [1, 2]), ([1, 1], [2, 2])] 0 1) v_184, Ob.v (tSl (tP (tSl (tI .i64)) (tSl (tI .i64)))) [([1, 2], [2, 1]), ([2, 1], [1, 2]), ([1, 1], [2, 2])] r_175, Ob.v (tSl (tI .i64)) (numU 2 [([2, 1], [2, 1]), ([1, 2], [1, 2])]) v_168, Ob.v (tSl (tI .i64)) (numW 2 [([2, 1], [2, 1]), ([1, 2], [1, 2])]) v_167, Ob.v (tSl (tP (tSl (tI .i64)) (tSl (tI .i64)))) [([2, 1], [2, 1]), ([1, 2], [1, 2])] r_158, Ob.v (tSl (tI .i64)) (ringE 2 [([1, 2], [2, 1]), ([2, 1], [1, 2]), ([1, 1], [2, 2])]) v_154, Ob.v (tSl (tP (tSl (tI .i64)) (tSl (tI .i64)))) [([1, 2], [2, 1]), ([2, 1], [1, 2]), ([1, 1], [2, 2])] r_145, Ob.v (tSl (tI .i64)) (numU 2 [([1, 2], [2, 1]), ([2, 1], [1, 2]), ([1, 1], [2, 2])]) v_138, Ob.v (tSl (tI .i64)) (numW 2 [([1, 2], [2, 1]), ([2, 1], [1, 2]), ([1, 1], [2, 2])]) v_137, Ob.v (tSl (tP (tSl (tI .i64)) (tSl (tI .i64)))) [([1, 2], [2, 1]), ([2, 1], [1, 2]), ([1, 1], [2, 2])] r_128, .row (tI .i64) 3 v_125 (ranksL 2 [([1, 2], [2, 1]), ([2, 1], [1, 2]), ([1, 1], [2, 2])]), Ob.v (tSl (tP (tSl (tI .i64)) (tSl (tI .i64)))) [([1, 2], [2, 1]), ([2, 1], [1, 2]), ([1, 1], [2, 2])] r_116, Ob.v (tSl (tI .i64)) (wrongE 2 [([2, 1], [2, 1]), ([1, 2], [1, 2])]) v_112, Ob.v (tSl (tP (tSl (tI .i64)) (tSl (tI .i64)))) [([2, 1], [2, 1]), ([1, 2], [1, 2])] r_103, Ob.v (tSl (tI .i64)) (ringE 2 [([2, 1], [2, 1]), ([1, 2], [1, 2])]) v_99, Ob.v (tSl (tP (tSl (tI .i64)) (tSl (tI .i64)))) [([2, 1], [2, 1]), ([1, 2], [1, 2])] r_90, Ob.v (tSl (tP (tSl (tI .i64)) (tSl (tI .i64)))) [([2, 1], [2, 1]), ([1, 2], [1, 2])] r_56, Ob.v (tSl (tP (tSl (tI .i64)) (tSl (tI .i64)))) [([1, 2], [2, 1]), ([2, 1], [1, 2]), ([1, 1], [2, 2])] r_47, Ob.v (tSl (tI .i64)) (leastL 2 [([1, 2], [2, 1]), ([2, 1], [1, 2]), ([1, 1], [2, 2])] 2 0) v_43, Ob.v (tSl (tP (tSl (tI .i64)) (tSl (tI .i64)))) [([1, 2], [2, 1]), ([2, 1], [1, 2]), ([1, 1], [2, 2])] r_34, .row (tP (tI .i64) (tI .i64)) 59 v_31 (pairsE (bS [([2, 1], [2, 1]), ([1, 2], [1, 2])]) 2 [([2, 1], [2, 1]), ([1, 2], [1, 2])]), Ob.v (tSl (tP (tSl (tI .i64)) (tSl (tI .i64)))) [([2, 1], [2, 1]), ([1, 2], [1, 2])] r_22, .row (tP (tI .i64) (tI .i64)) 59 v_19 (pairsE (gS [([1, 2], [2, 1]), ([2, 1], [1, 2]), ([1, 1], [2, 2])]) 2 [([1, 2], [2, 1]), ([2, 1], [1, 2]), ([1, 1], [2, 2])]), Ob.v (tSl (tP (tSl (tI .i64)) (tSl (tI .i64)))) [([1, 2], [2, 1]), ([2, 1], [1, 2]), ([1, 1], [2, 2])] r_10, Ob.v (tSl (tP (tSl (tI .i64)) (tSl (tI .i64)))) [([1, 2], [2, 1]), ([2, 1], [1, 2]), ([1, 1], [2, 2])] r_1]) ?_ ?_
    · rcases Bool.eq_false_or_eq_true (((((((decide ((0 : Int) = 0) && decide ((0 : Int) = 0)) && decide ((0 : Int) = 0)) && decide ((0 : Int) = 0)) && decide ((13 : Int) = 13)) && decide ((13 : Int) = 13)) && decide ((12 : Int) = 12)) && decide ((5 : Int) = 5)) with g_223 | g_223
      · -- True
        have gp_224 := g_223
        try simp only [Bool.and_eq_true, Bool.or_eq_true, Bool.not_eq_true', Bool.and_eq_false_iff, Bool.or_eq_false_iff, Bool.not_eq_false', decide_eq_true_eq, decide_eq_false_iff_not, not_or, Bool.false_eq_true, Bool.true_eq_false, false_or, or_false, not_false_eq_true] at gp_224
        refine Wx.gyes rfl rfl (congrArg Value.bool g_223) ?_
        refine Wx.rd (v := v_19) (rd_move rfl) rfl ?_
        refine Wx.gyes rfl rfl (congrArg Value.bool g_223) ?_
        refine Wx.rd (v := .agg #[.int .i64 2, .int .i64 0]) (rd_build (vs := [(0, .int .i64 2), (1, .int .i64 0)]) rfl (by kernel_rfl)) rfl ?_
        refine Wx.gyes rfl rfl (congrArg Value.bool g_223) ?_
        refine Wx.rd (v := .agg #[.int .i64 2, .int .i64 1]) (rd_build (vs := [(0, .int .i64 2), (1, .int .i64 1)]) rfl (by kernel_rfl)) rfl ?_
        refine Wx.gyes rfl rfl (congrArg Value.bool g_223) ?_
        refine Wx.lit (t := (tP (tI .i64) (tI .i64))) (ys := [(2, 0), (2, 1)]) (vs := [.agg #[.int .i64 2, .int .i64 0], .agg #[.int .i64 2, .int .i64 1]]) elLi_31 hS rfl rfl ⟨(V.mk2 (in_i64 (by omega) (by omega)) (in_i64 (by omega) (by omega))), ⟨(V.mk2 (in_i64 (by omega) (by omega)) (in_i64 (by omega) (by omega))), trivial⟩⟩ (by decide) rfl (fun v_225 w_226 hx_227 hS => ?_)
        refine Wx.gyes rfl rfl (congrArg Value.bool g_223) ?_
        refine Wx.callF (run_callF Try.call24 rfl) (F24 (hS.lend 23 rfl) (hS.lend 0 rfl)) rfl ?_
        rintro r_228 w_229 hx_230 rfl
        have hS := hS.ext hx_230
        rw [show (decide ((pairsE (gS [([1, 2], [2, 1]), ([2, 1], [1, 2]), ([1, 1], [2, 2])]) 2 [([1, 2], [2, 1]), ([2, 1], [1, 2]), ([1, 1], [2, 2])]) = [(2, 0), (2, 1)]) : Bool) = true from (by decide +kernel)]
        refine Wx.rd (v := .bool true) (rd_pickT (congrArg Value.bool g_223) rfl) rfl ?_
        refine Wx.nil ⟨(), hS.tl, ⟨?_, trivial⟩, Out.look rfl Out.refl⟩
        show Value.bool true = Value.bool ((((((((decide ((0 : Int) = 0) && decide ((0 : Int) = 0)) && decide ((0 : Int) = 0)) && decide ((0 : Int) = 0)) && decide ((13 : Int) = 13)) && decide ((13 : Int) = 13)) && decide ((12 : Int) = 12)) && decide ((5 : Int) = 5)) && true)
        first | rw [g_223, Bool.true_and] | (rw [g_223]; rfl)
      · -- False
        have gp_231 := g_223
        try simp only [Bool.and_eq_true, Bool.or_eq_true, Bool.not_eq_true', Bool.and_eq_false_iff, Bool.or_eq_false_iff, Bool.not_eq_false', decide_eq_true_eq, decide_eq_false_iff_not, not_or, Bool.false_eq_true, Bool.true_eq_false, false_or, or_false, not_false_eq_true] at gp_231
        refine Wx.gnoB rfl rfl (congrArg Value.bool g_223) rfl rfl ?_
        refine Wx.gnoB rfl rfl (congrArg Value.bool g_223) rfl rfl ?_
        refine Wx.gnoB rfl rfl (congrArg Value.bool g_223) rfl rfl ?_
        refine Wx.gnoB rfl rfl (congrArg Value.bool g_223) rfl rfl ?_
        refine Wx.gnoB rfl rfl (congrArg Value.bool g_223) rfl rfl ?_
        refine Wx.rd (v := .bool false) (rd_pickF (congrArg Value.bool g_223) rfl) rfl ?_
        refine Wx.nil ⟨(), hS, ⟨?_, trivial⟩, Out.look rfl Out.refl⟩
        show Value.bool false = Value.bool ((((((((decide ((0 : Int) = 0) && decide ((0 : Int) = 0)) && decide ((0 : Int) = 0)) && decide ((0 : Int) = 0)) && decide ((13 : Int) = 13)) && decide ((13 : Int) = 13)) && decide ((12 : Int) = 12)) && decide ((5 : Int) = 5)) && true)
        first | rw [g_223, Bool.false_and] | (rw [g_223]; rfl)
    rintro ⟨⟩ u_233 w_232 hS
    refine Wx.rd (v := .bool ((((((((decide ((0 : Int) = 0) && decide ((0 : Int) = 0)) && decide ((0 : Int) = 0)) && decide ((0 : Int) = 0)) && decide ((13 : Int) = 13)) && decide ((13 : Int) = 13)) && decide ((12 : Int) = 12)) && decide ((5 : Int) = 5)) && true)) (rd_move rfl) rfl ?_
    refine Wx.cut (X := Unit) 6 [147, 148, 149, 150, 151, 152] (fun _ => [(152, .bool (((((((((decide ((0 : Int) = 0) && decide ((0 : Int) = 0)) && decide ((0 : Int) = 0)) && decide ((0 : Int) = 0)) && decide ((13 : Int) = 13)) && decide ((13 : Int) = 13)) && decide ((12 : Int) = 12)) && decide ((5 : Int) = 5)) && true) && true))]) (fun _ w' => St w O w' [Ob.v (tSl (tI .i64)) (leastL 2 [([1, 2], [2, 1]), ([2, 1], [1, 2]), ([1, 1], [2, 2])] 0 1) v_184, Ob.v (tSl (tP (tSl (tI .i64)) (tSl (tI .i64)))) [([1, 2], [2, 1]), ([2, 1], [1, 2]), ([1, 1], [2, 2])] r_175, Ob.v (tSl (tI .i64)) (numU 2 [([2, 1], [2, 1]), ([1, 2], [1, 2])]) v_168, Ob.v (tSl (tI .i64)) (numW 2 [([2, 1], [2, 1]), ([1, 2], [1, 2])]) v_167, Ob.v (tSl (tP (tSl (tI .i64)) (tSl (tI .i64)))) [([2, 1], [2, 1]), ([1, 2], [1, 2])] r_158, Ob.v (tSl (tI .i64)) (ringE 2 [([1, 2], [2, 1]), ([2, 1], [1, 2]), ([1, 1], [2, 2])]) v_154, Ob.v (tSl (tP (tSl (tI .i64)) (tSl (tI .i64)))) [([1, 2], [2, 1]), ([2, 1], [1, 2]), ([1, 1], [2, 2])] r_145, Ob.v (tSl (tI .i64)) (numU 2 [([1, 2], [2, 1]), ([2, 1], [1, 2]), ([1, 1], [2, 2])]) v_138, Ob.v (tSl (tI .i64)) (numW 2 [([1, 2], [2, 1]), ([2, 1], [1, 2]), ([1, 1], [2, 2])]) v_137, Ob.v (tSl (tP (tSl (tI .i64)) (tSl (tI .i64)))) [([1, 2], [2, 1]), ([2, 1], [1, 2]), ([1, 1], [2, 2])] r_128, .row (tI .i64) 3 v_125 (ranksL 2 [([1, 2], [2, 1]), ([2, 1], [1, 2]), ([1, 1], [2, 2])]), Ob.v (tSl (tP (tSl (tI .i64)) (tSl (tI .i64)))) [([1, 2], [2, 1]), ([2, 1], [1, 2]), ([1, 1], [2, 2])] r_116, Ob.v (tSl (tI .i64)) (wrongE 2 [([2, 1], [2, 1]), ([1, 2], [1, 2])]) v_112, Ob.v (tSl (tP (tSl (tI .i64)) (tSl (tI .i64)))) [([2, 1], [2, 1]), ([1, 2], [1, 2])] r_103, Ob.v (tSl (tI .i64)) (ringE 2 [([2, 1], [2, 1]), ([1, 2], [1, 2])]) v_99, Ob.v (tSl (tP (tSl (tI .i64)) (tSl (tI .i64)))) [([2, 1], [2, 1]), ([1, 2], [1, 2])] r_90, Ob.v (tSl (tP (tSl (tI .i64)) (tSl (tI .i64)))) [([2, 1], [2, 1]), ([1, 2], [1, 2])] r_56, Ob.v (tSl (tP (tSl (tI .i64)) (tSl (tI .i64)))) [([1, 2], [2, 1]), ([2, 1], [1, 2]), ([1, 1], [2, 2])] r_47, Ob.v (tSl (tI .i64)) (leastL 2 [([1, 2], [2, 1]), ([2, 1], [1, 2]), ([1, 1], [2, 2])] 2 0) v_43, Ob.v (tSl (tP (tSl (tI .i64)) (tSl (tI .i64)))) [([1, 2], [2, 1]), ([2, 1], [1, 2]), ([1, 1], [2, 2])] r_34, .row (tP (tI .i64) (tI .i64)) 59 v_31 (pairsE (bS [([2, 1], [2, 1]), ([1, 2], [1, 2])]) 2 [([2, 1], [2, 1]), ([1, 2], [1, 2])]), Ob.v (tSl (tP (tSl (tI .i64)) (tSl (tI .i64)))) [([2, 1], [2, 1]), ([1, 2], [1, 2])] r_22, .row (tP (tI .i64) (tI .i64)) 59 v_19 (pairsE (gS [([1, 2], [2, 1]), ([2, 1], [1, 2]), ([1, 1], [2, 2])]) 2 [([1, 2], [2, 1]), ([2, 1], [1, 2]), ([1, 1], [2, 2])]), Ob.v (tSl (tP (tSl (tI .i64)) (tSl (tI .i64)))) [([1, 2], [2, 1]), ([2, 1], [1, 2]), ([1, 1], [2, 2])] r_10, Ob.v (tSl (tP (tSl (tI .i64)) (tSl (tI .i64)))) [([1, 2], [2, 1]), ([2, 1], [1, 2]), ([1, 1], [2, 2])] r_1]) ?_ ?_
    · rcases Bool.eq_false_or_eq_true ((((((((decide ((0 : Int) = 0) && decide ((0 : Int) = 0)) && decide ((0 : Int) = 0)) && decide ((0 : Int) = 0)) && decide ((13 : Int) = 13)) && decide ((13 : Int) = 13)) && decide ((12 : Int) = 12)) && decide ((5 : Int) = 5)) && true) with g_234 | g_234
      · -- True
        have gp_235 := g_234
        try simp only [Bool.and_eq_true, Bool.or_eq_true, Bool.not_eq_true', Bool.and_eq_false_iff, Bool.or_eq_false_iff, Bool.not_eq_false', decide_eq_true_eq, decide_eq_false_iff_not, not_or, Bool.false_eq_true, Bool.true_eq_false, false_or, or_false, not_false_eq_true] at gp_235
        refine Wx.gyes rfl rfl (congrArg Value.bool g_234) ?_
        refine Wx.rd (v := v_31) (rd_move rfl) rfl ?_
        refine Wx.gyes rfl rfl (congrArg Value.bool g_234) ?_
        refine Wx.rd (v := .agg #[.int .i64 0, .int .i64 1]) (rd_build (vs := [(0, .int .i64 0), (1, .int .i64 1)]) rfl (by kernel_rfl)) rfl ?_
        refine Wx.gyes rfl rfl (congrArg Value.bool g_234) ?_
        refine Wx.rd (v := .agg #[.int .i64 1, .int .i64 0]) (rd_build (vs := [(0, .int .i64 1), (1, .int .i64 0)]) rfl (by kernel_rfl)) rfl ?_
        refine Wx.gyes rfl rfl (congrArg Value.bool g_234) ?_
        refine Wx.lit (t := (tP (tI .i64) (tI .i64))) (ys := [(0, 1), (1, 0)]) (vs := [.agg #[.int .i64 0, .int .i64 1], .agg #[.int .i64 1, .int .i64 0]]) elLi_31 hS rfl rfl ⟨(V.mk2 (in_i64 (by omega) (by omega)) (in_i64 (by omega) (by omega))), ⟨(V.mk2 (in_i64 (by omega) (by omega)) (in_i64 (by omega) (by omega))), trivial⟩⟩ (by decide) rfl (fun v_236 w_237 hx_238 hS => ?_)
        refine Wx.gyes rfl rfl (congrArg Value.bool g_234) ?_
        refine Wx.callF (run_callF Try.call24 rfl) (F24 (hS.lend 21 rfl) (hS.lend 0 rfl)) rfl ?_
        rintro r_239 w_240 hx_241 rfl
        have hS := hS.ext hx_241
        rw [show (decide ((pairsE (bS [([2, 1], [2, 1]), ([1, 2], [1, 2])]) 2 [([2, 1], [2, 1]), ([1, 2], [1, 2])]) = [(0, 1), (1, 0)]) : Bool) = true from (by decide +kernel)]
        refine Wx.rd (v := .bool true) (rd_pickT (congrArg Value.bool g_234) rfl) rfl ?_
        refine Wx.nil ⟨(), hS.tl, ⟨?_, trivial⟩, Out.look rfl Out.refl⟩
        show Value.bool true = Value.bool (((((((((decide ((0 : Int) = 0) && decide ((0 : Int) = 0)) && decide ((0 : Int) = 0)) && decide ((0 : Int) = 0)) && decide ((13 : Int) = 13)) && decide ((13 : Int) = 13)) && decide ((12 : Int) = 12)) && decide ((5 : Int) = 5)) && true) && true)
        first | rw [g_234, Bool.true_and] | (rw [g_234]; rfl)
      · -- False
        have gp_242 := g_234
        try simp only [Bool.and_eq_true, Bool.or_eq_true, Bool.not_eq_true', Bool.and_eq_false_iff, Bool.or_eq_false_iff, Bool.not_eq_false', decide_eq_true_eq, decide_eq_false_iff_not, not_or, Bool.false_eq_true, Bool.true_eq_false, false_or, or_false, not_false_eq_true] at gp_242
        refine Wx.gnoB rfl rfl (congrArg Value.bool g_234) rfl rfl ?_
        refine Wx.gnoB rfl rfl (congrArg Value.bool g_234) rfl rfl ?_
        refine Wx.gnoB rfl rfl (congrArg Value.bool g_234) rfl rfl ?_
        refine Wx.gnoB rfl rfl (congrArg Value.bool g_234) rfl rfl ?_
        refine Wx.gnoB rfl rfl (congrArg Value.bool g_234) rfl rfl ?_
        refine Wx.rd (v := .bool false) (rd_pickF (congrArg Value.bool g_234) rfl) rfl ?_
        refine Wx.nil ⟨(), hS, ⟨?_, trivial⟩, Out.look rfl Out.refl⟩
        show Value.bool false = Value.bool (((((((((decide ((0 : Int) = 0) && decide ((0 : Int) = 0)) && decide ((0 : Int) = 0)) && decide ((0 : Int) = 0)) && decide ((13 : Int) = 13)) && decide ((13 : Int) = 13)) && decide ((12 : Int) = 12)) && decide ((5 : Int) = 5)) && true) && true)
        first | rw [g_234, Bool.false_and] | (rw [g_234]; rfl)
    rintro ⟨⟩ u_244 w_243 hS
    refine Wx.rd (v := .bool (((((((((decide ((0 : Int) = 0) && decide ((0 : Int) = 0)) && decide ((0 : Int) = 0)) && decide ((0 : Int) = 0)) && decide ((13 : Int) = 13)) && decide ((13 : Int) = 13)) && decide ((12 : Int) = 12)) && decide ((5 : Int) = 5)) && true) && true)) (rd_move rfl) rfl ?_
    refine Wx.cut (X := Unit) 5 [154, 155, 156, 157, 158] (fun _ => [(158, .bool ((((((((((decide ((0 : Int) = 0) && decide ((0 : Int) = 0)) && decide ((0 : Int) = 0)) && decide ((0 : Int) = 0)) && decide ((13 : Int) = 13)) && decide ((13 : Int) = 13)) && decide ((12 : Int) = 12)) && decide ((5 : Int) = 5)) && true) && true) && true))]) (fun _ w' => St w O w' [Ob.v (tSl (tI .i64)) (leastL 2 [([1, 2], [2, 1]), ([2, 1], [1, 2]), ([1, 1], [2, 2])] 0 1) v_184, Ob.v (tSl (tP (tSl (tI .i64)) (tSl (tI .i64)))) [([1, 2], [2, 1]), ([2, 1], [1, 2]), ([1, 1], [2, 2])] r_175, Ob.v (tSl (tI .i64)) (numU 2 [([2, 1], [2, 1]), ([1, 2], [1, 2])]) v_168, Ob.v (tSl (tI .i64)) (numW 2 [([2, 1], [2, 1]), ([1, 2], [1, 2])]) v_167, Ob.v (tSl (tP (tSl (tI .i64)) (tSl (tI .i64)))) [([2, 1], [2, 1]), ([1, 2], [1, 2])] r_158, Ob.v (tSl (tI .i64)) (ringE 2 [([1, 2], [2, 1]), ([2, 1], [1, 2]), ([1, 1], [2, 2])]) v_154, Ob.v (tSl (tP (tSl (tI .i64)) (tSl (tI .i64)))) [([1, 2], [2, 1]), ([2, 1], [1, 2]), ([1, 1], [2, 2])] r_145, Ob.v (tSl (tI .i64)) (numU 2 [([1, 2], [2, 1]), ([2, 1], [1, 2]), ([1, 1], [2, 2])]) v_138, Ob.v (tSl (tI .i64)) (numW 2 [([1, 2], [2, 1]), ([2, 1], [1, 2]), ([1, 1], [2, 2])]) v_137, Ob.v (tSl (tP (tSl (tI .i64)) (tSl (tI .i64)))) [([1, 2], [2, 1]), ([2, 1], [1, 2]), ([1, 1], [2, 2])] r_128, .row (tI .i64) 3 v_125 (ranksL 2 [([1, 2], [2, 1]), ([2, 1], [1, 2]), ([1, 1], [2, 2])]), Ob.v (tSl (tP (tSl (tI .i64)) (tSl (tI .i64)))) [([1, 2], [2, 1]), ([2, 1], [1, 2]), ([1, 1], [2, 2])] r_116, Ob.v (tSl (tI .i64)) (wrongE 2 [([2, 1], [2, 1]), ([1, 2], [1, 2])]) v_112, Ob.v (tSl (tP (tSl (tI .i64)) (tSl (tI .i64)))) [([2, 1], [2, 1]), ([1, 2], [1, 2])] r_103, Ob.v (tSl (tI .i64)) (ringE 2 [([2, 1], [2, 1]), ([1, 2], [1, 2])]) v_99, Ob.v (tSl (tP (tSl (tI .i64)) (tSl (tI .i64)))) [([2, 1], [2, 1]), ([1, 2], [1, 2])] r_90, Ob.v (tSl (tP (tSl (tI .i64)) (tSl (tI .i64)))) [([2, 1], [2, 1]), ([1, 2], [1, 2])] r_56, Ob.v (tSl (tP (tSl (tI .i64)) (tSl (tI .i64)))) [([1, 2], [2, 1]), ([2, 1], [1, 2]), ([1, 1], [2, 2])] r_47, Ob.v (tSl (tI .i64)) (leastL 2 [([1, 2], [2, 1]), ([2, 1], [1, 2]), ([1, 1], [2, 2])] 2 0) v_43, Ob.v (tSl (tP (tSl (tI .i64)) (tSl (tI .i64)))) [([1, 2], [2, 1]), ([2, 1], [1, 2]), ([1, 1], [2, 2])] r_34, .row (tP (tI .i64) (tI .i64)) 59 v_31 (pairsE (bS [([2, 1], [2, 1]), ([1, 2], [1, 2])]) 2 [([2, 1], [2, 1]), ([1, 2], [1, 2])]), Ob.v (tSl (tP (tSl (tI .i64)) (tSl (tI .i64)))) [([2, 1], [2, 1]), ([1, 2], [1, 2])] r_22, .row (tP (tI .i64) (tI .i64)) 59 v_19 (pairsE (gS [([1, 2], [2, 1]), ([2, 1], [1, 2]), ([1, 1], [2, 2])]) 2 [([1, 2], [2, 1]), ([2, 1], [1, 2]), ([1, 1], [2, 2])]), Ob.v (tSl (tP (tSl (tI .i64)) (tSl (tI .i64)))) [([1, 2], [2, 1]), ([2, 1], [1, 2]), ([1, 1], [2, 2])] r_10, Ob.v (tSl (tP (tSl (tI .i64)) (tSl (tI .i64)))) [([1, 2], [2, 1]), ([2, 1], [1, 2]), ([1, 1], [2, 2])] r_1]) ?_ ?_
    · rcases Bool.eq_false_or_eq_true (((((((((decide ((0 : Int) = 0) && decide ((0 : Int) = 0)) && decide ((0 : Int) = 0)) && decide ((0 : Int) = 0)) && decide ((13 : Int) = 13)) && decide ((13 : Int) = 13)) && decide ((12 : Int) = 12)) && decide ((5 : Int) = 5)) && true) && true) with g_245 | g_245
      · -- True
        have gp_246 := g_245
        try simp only [Bool.and_eq_true, Bool.or_eq_true, Bool.not_eq_true', Bool.and_eq_false_iff, Bool.or_eq_false_iff, Bool.not_eq_false', decide_eq_true_eq, decide_eq_false_iff_not, not_or, Bool.false_eq_true, Bool.true_eq_false, false_or, or_false, not_false_eq_true] at gp_246
        refine Wx.gyes rfl rfl (congrArg Value.bool g_245) ?_
        refine Wx.rd (v := v_43) (rd_move rfl) rfl ?_
        refine Wx.gyes rfl rfl (congrArg Value.bool g_245) ?_
        refine Wx.lit (t := (tI .i64)) (ys := [2, 0]) (vs := [.int .i64 2, .int .i64 0]) elLi_39 hS rfl rfl ⟨(V.mkInt (in_i64 (by omega) (by omega))), ⟨(V.mkInt (in_i64 (by omega) (by omega))), trivial⟩⟩ (by decide) rfl (fun v_247 w_248 hx_249 hS => ?_)
        refine Wx.gyes rfl rfl (congrArg Value.bool g_245) ?_
        have hS := hS.freeze 0 rfl
        refine Wx.callF (run_callF Try.call44 rfl) (F44 (hS.v 0 rfl) hS.fb_lt) rfl ?_
        rintro r_251 w_252 hx_253 ⟨_, rfl, hv_254⟩
        have ln_256 := hv_254.len63
        have hS := hS.ext hx_253
        have hS := hS.add hv_254
        refine Wx.gyes rfl rfl (congrArg Value.bool g_245) ?_
        refine Wx.callF (run_callF Try.call33 rfl) (F33 (hS.v 20 rfl) (hS.v 0 rfl)) rfl ?_
        rintro r_257 w_258 hx_259 rfl
        have hS := hS.ext hx_259
        rw [show (decide ((leastL 2 [([1, 2], [2, 1]), ([2, 1], [1, 2]), ([1, 1], [2, 2])] 2 0) = [2, 0]) : Bool) = true from (by decide +kernel)]
        refine Wx.rd (v := .bool true) (rd_pickT (congrArg Value.bool g_245) rfl) rfl ?_
        refine Wx.nil ⟨(), St.tl (hS.tl), ⟨?_, trivial⟩, Out.look rfl Out.refl⟩
        show Value.bool true = Value.bool ((((((((((decide ((0 : Int) = 0) && decide ((0 : Int) = 0)) && decide ((0 : Int) = 0)) && decide ((0 : Int) = 0)) && decide ((13 : Int) = 13)) && decide ((13 : Int) = 13)) && decide ((12 : Int) = 12)) && decide ((5 : Int) = 5)) && true) && true) && true)
        first | rw [g_245, Bool.true_and] | (rw [g_245]; rfl)
      · -- False
        have gp_260 := g_245
        try simp only [Bool.and_eq_true, Bool.or_eq_true, Bool.not_eq_true', Bool.and_eq_false_iff, Bool.or_eq_false_iff, Bool.not_eq_false', decide_eq_true_eq, decide_eq_false_iff_not, not_or, Bool.false_eq_true, Bool.true_eq_false, false_or, or_false, not_false_eq_true] at gp_260
        refine Wx.gnoB rfl rfl (congrArg Value.bool g_245) rfl rfl ?_
        refine Wx.gnoB rfl rfl (congrArg Value.bool g_245) rfl rfl ?_
        refine Wx.gnoB rfl rfl (congrArg Value.bool g_245) rfl rfl ?_
        refine Wx.gnoB rfl rfl (congrArg Value.bool g_245) rfl rfl ?_
        refine Wx.rd (v := .bool false) (rd_pickF (congrArg Value.bool g_245) rfl) rfl ?_
        refine Wx.nil ⟨(), hS, ⟨?_, trivial⟩, Out.look rfl Out.refl⟩
        show Value.bool false = Value.bool ((((((((((decide ((0 : Int) = 0) && decide ((0 : Int) = 0)) && decide ((0 : Int) = 0)) && decide ((0 : Int) = 0)) && decide ((13 : Int) = 13)) && decide ((13 : Int) = 13)) && decide ((12 : Int) = 12)) && decide ((5 : Int) = 5)) && true) && true) && true)
        first | rw [g_245, Bool.false_and] | (rw [g_245]; rfl)
    rintro ⟨⟩ u_262 w_261 hS
    refine Wx.rd (v := .bool ((((((((((decide ((0 : Int) = 0) && decide ((0 : Int) = 0)) && decide ((0 : Int) = 0)) && decide ((0 : Int) = 0)) && decide ((13 : Int) = 13)) && decide ((13 : Int) = 13)) && decide ((12 : Int) = 12)) && decide ((5 : Int) = 5)) && true) && true) && true)) (rd_move rfl) rfl ?_
    refine Wx.cut (X := Unit) 2 [160, 161] (fun _ => [(161, .bool (((((((((((decide ((0 : Int) = 0) && decide ((0 : Int) = 0)) && decide ((0 : Int) = 0)) && decide ((0 : Int) = 0)) && decide ((13 : Int) = 13)) && decide ((13 : Int) = 13)) && decide ((12 : Int) = 12)) && decide ((5 : Int) = 5)) && true) && true) && true) && true))]) (fun _ w' => St w O w' [Ob.v (tSl (tI .i64)) (leastL 2 [([1, 2], [2, 1]), ([2, 1], [1, 2]), ([1, 1], [2, 2])] 0 1) v_184, Ob.v (tSl (tP (tSl (tI .i64)) (tSl (tI .i64)))) [([1, 2], [2, 1]), ([2, 1], [1, 2]), ([1, 1], [2, 2])] r_175, Ob.v (tSl (tI .i64)) (numU 2 [([2, 1], [2, 1]), ([1, 2], [1, 2])]) v_168, Ob.v (tSl (tI .i64)) (numW 2 [([2, 1], [2, 1]), ([1, 2], [1, 2])]) v_167, Ob.v (tSl (tP (tSl (tI .i64)) (tSl (tI .i64)))) [([2, 1], [2, 1]), ([1, 2], [1, 2])] r_158, Ob.v (tSl (tI .i64)) (ringE 2 [([1, 2], [2, 1]), ([2, 1], [1, 2]), ([1, 1], [2, 2])]) v_154, Ob.v (tSl (tP (tSl (tI .i64)) (tSl (tI .i64)))) [([1, 2], [2, 1]), ([2, 1], [1, 2]), ([1, 1], [2, 2])] r_145, Ob.v (tSl (tI .i64)) (numU 2 [([1, 2], [2, 1]), ([2, 1], [1, 2]), ([1, 1], [2, 2])]) v_138, Ob.v (tSl (tI .i64)) (numW 2 [([1, 2], [2, 1]), ([2, 1], [1, 2]), ([1, 1], [2, 2])]) v_137, Ob.v (tSl (tP (tSl (tI .i64)) (tSl (tI .i64)))) [([1, 2], [2, 1]), ([2, 1], [1, 2]), ([1, 1], [2, 2])] r_128, .row (tI .i64) 3 v_125 (ranksL 2 [([1, 2], [2, 1]), ([2, 1], [1, 2]), ([1, 1], [2, 2])]), Ob.v (tSl (tP (tSl (tI .i64)) (tSl (tI .i64)))) [([1, 2], [2, 1]), ([2, 1], [1, 2]), ([1, 1], [2, 2])] r_116, Ob.v (tSl (tI .i64)) (wrongE 2 [([2, 1], [2, 1]), ([1, 2], [1, 2])]) v_112, Ob.v (tSl (tP (tSl (tI .i64)) (tSl (tI .i64)))) [([2, 1], [2, 1]), ([1, 2], [1, 2])] r_103, Ob.v (tSl (tI .i64)) (ringE 2 [([2, 1], [2, 1]), ([1, 2], [1, 2])]) v_99, Ob.v (tSl (tP (tSl (tI .i64)) (tSl (tI .i64)))) [([2, 1], [2, 1]), ([1, 2], [1, 2])] r_90, Ob.v (tSl (tP (tSl (tI .i64)) (tSl (tI .i64)))) [([2, 1], [2, 1]), ([1, 2], [1, 2])] r_56, Ob.v (tSl (tP (tSl (tI .i64)) (tSl (tI .i64)))) [([1, 2], [2, 1]), ([2, 1], [1, 2]), ([1, 1], [2, 2])] r_47, Ob.v (tSl (tI .i64)) (leastL 2 [([1, 2], [2, 1]), ([2, 1], [1, 2]), ([1, 1], [2, 2])] 2 0) v_43, Ob.v (tSl (tP (tSl (tI .i64)) (tSl (tI .i64)))) [([1, 2], [2, 1]), ([2, 1], [1, 2]), ([1, 1], [2, 2])] r_34, .row (tP (tI .i64) (tI .i64)) 59 v_31 (pairsE (bS [([2, 1], [2, 1]), ([1, 2], [1, 2])]) 2 [([2, 1], [2, 1]), ([1, 2], [1, 2])]), Ob.v (tSl (tP (tSl (tI .i64)) (tSl (tI .i64)))) [([2, 1], [2, 1]), ([1, 2], [1, 2])] r_22, .row (tP (tI .i64) (tI .i64)) 59 v_19 (pairsE (gS [([1, 2], [2, 1]), ([2, 1], [1, 2]), ([1, 1], [2, 2])]) 2 [([1, 2], [2, 1]), ([2, 1], [1, 2]), ([1, 1], [2, 2])]), Ob.v (tSl (tP (tSl (tI .i64)) (tSl (tI .i64)))) [([1, 2], [2, 1]), ([2, 1], [1, 2]), ([1, 1], [2, 2])] r_10, Ob.v (tSl (tP (tSl (tI .i64)) (tSl (tI .i64)))) [([1, 2], [2, 1]), ([2, 1], [1, 2]), ([1, 1], [2, 2])] r_1]) ?_ ?_
    · rcases Bool.eq_false_or_eq_true ((((((((((decide ((0 : Int) = 0) && decide ((0 : Int) = 0)) && decide ((0 : Int) = 0)) && decide ((0 : Int) = 0)) && decide ((13 : Int) = 13)) && decide ((13 : Int) = 13)) && decide ((12 : Int) = 12)) && decide ((5 : Int) = 5)) && true) && true) && true) with g_263 | g_263
      · -- True
        have gp_264 := g_263
        try simp only [Bool.and_eq_true, Bool.or_eq_true, Bool.not_eq_true', Bool.and_eq_false_iff, Bool.or_eq_false_iff, Bool.not_eq_false', decide_eq_true_eq, decide_eq_false_iff_not, not_or, Bool.false_eq_true, Bool.true_eq_false, false_or, or_false, not_false_eq_true] at gp_264
        refine Wx.gyes rfl rfl (congrArg Value.bool g_263) ?_
        refine Wx.rd (v := .bool true) (rd_move rfl) rfl ?_
        refine Wx.rd (v := .bool true) (rd_pickT (congrArg Value.bool g_263) rfl) rfl ?_
        refine Wx.nil ⟨(), hS, ⟨?_, trivial⟩, Out.look rfl Out.refl⟩
        show Value.bool true = Value.bool (((((((((((decide ((0 : Int) = 0) && decide ((0 : Int) = 0)) && decide ((0 : Int) = 0)) && decide ((0 : Int) = 0)) && decide ((13 : Int) = 13)) && decide ((13 : Int) = 13)) && decide ((12 : Int) = 12)) && decide ((5 : Int) = 5)) && true) && true) && true) && true)
        first | rw [g_263, Bool.true_and] | (rw [g_263]; rfl)
      · -- False
        have gp_265 := g_263
        try simp only [Bool.and_eq_true, Bool.or_eq_true, Bool.not_eq_true', Bool.and_eq_false_iff, Bool.or_eq_false_iff, Bool.not_eq_false', decide_eq_true_eq, decide_eq_false_iff_not, not_or, Bool.false_eq_true, Bool.true_eq_false, false_or, or_false, not_false_eq_true] at gp_265
        refine Wx.gnoB rfl rfl (congrArg Value.bool g_263) rfl rfl ?_
        refine Wx.rd (v := .bool false) (rd_pickF (congrArg Value.bool g_263) rfl) rfl ?_
        refine Wx.nil ⟨(), hS, ⟨?_, trivial⟩, Out.look rfl Out.refl⟩
        show Value.bool false = Value.bool (((((((((((decide ((0 : Int) = 0) && decide ((0 : Int) = 0)) && decide ((0 : Int) = 0)) && decide ((0 : Int) = 0)) && decide ((13 : Int) = 13)) && decide ((13 : Int) = 13)) && decide ((12 : Int) = 12)) && decide ((5 : Int) = 5)) && true) && true) && true) && true)
        first | rw [g_263, Bool.false_and] | (rw [g_263]; rfl)
    rintro ⟨⟩ u_267 w_266 hS
    refine Wx.rd (v := .bool (((((((((((decide ((0 : Int) = 0) && decide ((0 : Int) = 0)) && decide ((0 : Int) = 0)) && decide ((0 : Int) = 0)) && decide ((13 : Int) = 13)) && decide ((13 : Int) = 13)) && decide ((12 : Int) = 12)) && decide ((5 : Int) = 5)) && true) && true) && true) && true)) (rd_move rfl) rfl ?_
    refine Wx.cut (X := Unit) 3 [163, 164, 165] (fun _ => [(165, .bool ((((((((((((decide ((0 : Int) = 0) && decide ((0 : Int) = 0)) && decide ((0 : Int) = 0)) && decide ((0 : Int) = 0)) && decide ((13 : Int) = 13)) && decide ((13 : Int) = 13)) && decide ((12 : Int) = 12)) && decide ((5 : Int) = 5)) && true) && true) && true) && true) && true))]) (fun _ w' => St w O w' [Ob.v (tSl (tI .i64)) (leastL 2 [([1, 2], [2, 1]), ([2, 1], [1, 2]), ([1, 1], [2, 2])] 0 1) v_184, Ob.v (tSl (tP (tSl (tI .i64)) (tSl (tI .i64)))) [([1, 2], [2, 1]), ([2, 1], [1, 2]), ([1, 1], [2, 2])] r_175, Ob.v (tSl (tI .i64)) (numU 2 [([2, 1], [2, 1]), ([1, 2], [1, 2])]) v_168, Ob.v (tSl (tI .i64)) (numW 2 [([2, 1], [2, 1]), ([1, 2], [1, 2])]) v_167, Ob.v (tSl (tP (tSl (tI .i64)) (tSl (tI .i64)))) [([2, 1], [2, 1]), ([1, 2], [1, 2])] r_158, Ob.v (tSl (tI .i64)) (ringE 2 [([1, 2], [2, 1]), ([2, 1], [1, 2]), ([1, 1], [2, 2])]) v_154, Ob.v (tSl (tP (tSl (tI .i64)) (tSl (tI .i64)))) [([1, 2], [2, 1]), ([2, 1], [1, 2]), ([1, 1], [2, 2])] r_145, Ob.v (tSl (tI .i64)) (numU 2 [([1, 2], [2, 1]), ([2, 1], [1, 2]), ([1, 1], [2, 2])]) v_138, Ob.v (tSl (tI .i64)) (numW 2 [([1, 2], [2, 1]), ([2, 1], [1, 2]), ([1, 1], [2, 2])]) v_137, Ob.v (tSl (tP (tSl (tI .i64)) (tSl (tI .i64)))) [([1, 2], [2, 1]), ([2, 1], [1, 2]), ([1, 1], [2, 2])] r_128, .row (tI .i64) 3 v_125 (ranksL 2 [([1, 2], [2, 1]), ([2, 1], [1, 2]), ([1, 1], [2, 2])]), Ob.v (tSl (tP (tSl (tI .i64)) (tSl (tI .i64)))) [([1, 2], [2, 1]), ([2, 1], [1, 2]), ([1, 1], [2, 2])] r_116, Ob.v (tSl (tI .i64)) (wrongE 2 [([2, 1], [2, 1]), ([1, 2], [1, 2])]) v_112, Ob.v (tSl (tP (tSl (tI .i64)) (tSl (tI .i64)))) [([2, 1], [2, 1]), ([1, 2], [1, 2])] r_103, Ob.v (tSl (tI .i64)) (ringE 2 [([2, 1], [2, 1]), ([1, 2], [1, 2])]) v_99, Ob.v (tSl (tP (tSl (tI .i64)) (tSl (tI .i64)))) [([2, 1], [2, 1]), ([1, 2], [1, 2])] r_90, Ob.v (tSl (tP (tSl (tI .i64)) (tSl (tI .i64)))) [([2, 1], [2, 1]), ([1, 2], [1, 2])] r_56, Ob.v (tSl (tP (tSl (tI .i64)) (tSl (tI .i64)))) [([1, 2], [2, 1]), ([2, 1], [1, 2]), ([1, 1], [2, 2])] r_47, Ob.v (tSl (tI .i64)) (leastL 2 [([1, 2], [2, 1]), ([2, 1], [1, 2]), ([1, 1], [2, 2])] 2 0) v_43, Ob.v (tSl (tP (tSl (tI .i64)) (tSl (tI .i64)))) [([1, 2], [2, 1]), ([2, 1], [1, 2]), ([1, 1], [2, 2])] r_34, .row (tP (tI .i64) (tI .i64)) 59 v_31 (pairsE (bS [([2, 1], [2, 1]), ([1, 2], [1, 2])]) 2 [([2, 1], [2, 1]), ([1, 2], [1, 2])]), Ob.v (tSl (tP (tSl (tI .i64)) (tSl (tI .i64)))) [([2, 1], [2, 1]), ([1, 2], [1, 2])] r_22, .row (tP (tI .i64) (tI .i64)) 59 v_19 (pairsE (gS [([1, 2], [2, 1]), ([2, 1], [1, 2]), ([1, 1], [2, 2])]) 2 [([1, 2], [2, 1]), ([2, 1], [1, 2]), ([1, 1], [2, 2])]), Ob.v (tSl (tP (tSl (tI .i64)) (tSl (tI .i64)))) [([1, 2], [2, 1]), ([2, 1], [1, 2]), ([1, 1], [2, 2])] r_10, Ob.v (tSl (tP (tSl (tI .i64)) (tSl (tI .i64)))) [([1, 2], [2, 1]), ([2, 1], [1, 2]), ([1, 1], [2, 2])] r_1]) ?_ ?_
    · rcases Bool.eq_false_or_eq_true (((((((((((decide ((0 : Int) = 0) && decide ((0 : Int) = 0)) && decide ((0 : Int) = 0)) && decide ((0 : Int) = 0)) && decide ((13 : Int) = 13)) && decide ((13 : Int) = 13)) && decide ((12 : Int) = 12)) && decide ((5 : Int) = 5)) && true) && true) && true) && true) with g_268 | g_268
      · -- True
        have gp_269 := g_268
        try simp only [Bool.and_eq_true, Bool.or_eq_true, Bool.not_eq_true', Bool.and_eq_false_iff, Bool.or_eq_false_iff, Bool.not_eq_false', decide_eq_true_eq, decide_eq_false_iff_not, not_or, Bool.false_eq_true, Bool.true_eq_false, false_or, or_false, not_false_eq_true] at gp_269
        refine Wx.gyes rfl rfl (congrArg Value.bool g_268) ?_
        refine Wx.rd (v := .bool false) (rd_move rfl) rfl ?_
        refine Wx.gyes rfl rfl (congrArg Value.bool g_268) ?_
        refine Wx.rd (v := .bool true) (rd_not (c := false) rfl) rfl ?_
        refine Wx.rd (v := .bool true) (rd_pickT (congrArg Value.bool g_268) rfl) rfl ?_
        refine Wx.nil ⟨(), hS, ⟨?_, trivial⟩, Out.look rfl Out.refl⟩
        show Value.bool true = Value.bool ((((((((((((decide ((0 : Int) = 0) && decide ((0 : Int) = 0)) && decide ((0 : Int) = 0)) && decide ((0 : Int) = 0)) && decide ((13 : Int) = 13)) && decide ((13 : Int) = 13)) && decide ((12 : Int) = 12)) && decide ((5 : Int) = 5)) && true) && true) && true) && true) && true)
        first | rw [g_268, Bool.true_and] | (rw [g_268]; rfl)
      · -- False
        have gp_270 := g_268
        try simp only [Bool.and_eq_true, Bool.or_eq_true, Bool.not_eq_true', Bool.and_eq_false_iff, Bool.or_eq_false_iff, Bool.not_eq_false', decide_eq_true_eq, decide_eq_false_iff_not, not_or, Bool.false_eq_true, Bool.true_eq_false, false_or, or_false, not_false_eq_true] at gp_270
        refine Wx.gnoB rfl rfl (congrArg Value.bool g_268) rfl rfl ?_
        refine Wx.gnoB rfl rfl (congrArg Value.bool g_268) rfl rfl ?_
        refine Wx.rd (v := .bool false) (rd_pickF (congrArg Value.bool g_268) rfl) rfl ?_
        refine Wx.nil ⟨(), hS, ⟨?_, trivial⟩, Out.look rfl Out.refl⟩
        show Value.bool false = Value.bool ((((((((((((decide ((0 : Int) = 0) && decide ((0 : Int) = 0)) && decide ((0 : Int) = 0)) && decide ((0 : Int) = 0)) && decide ((13 : Int) = 13)) && decide ((13 : Int) = 13)) && decide ((12 : Int) = 12)) && decide ((5 : Int) = 5)) && true) && true) && true) && true) && true)
        first | rw [g_268, Bool.false_and] | (rw [g_268]; rfl)
    rintro ⟨⟩ u_272 w_271 hS
    refine Wx.rd (v := .bool ((((((((((((decide ((0 : Int) = 0) && decide ((0 : Int) = 0)) && decide ((0 : Int) = 0)) && decide ((0 : Int) = 0)) && decide ((13 : Int) = 13)) && decide ((13 : Int) = 13)) && decide ((12 : Int) = 12)) && decide ((5 : Int) = 5)) && true) && true) && true) && true) && true)) (rd_move rfl) rfl ?_
    refine Wx.cut (X := Unit) 5 [167, 168, 169, 170, 171] (fun _ => [(171, .bool (((((((((((((decide ((0 : Int) = 0) && decide ((0 : Int) = 0)) && decide ((0 : Int) = 0)) && decide ((0 : Int) = 0)) && decide ((13 : Int) = 13)) && decide ((13 : Int) = 13)) && decide ((12 : Int) = 12)) && decide ((5 : Int) = 5)) && true) && true) && true) && true) && true) && true))]) (fun _ w' => St w O w' [Ob.v (tSl (tI .i64)) (leastL 2 [([1, 2], [2, 1]), ([2, 1], [1, 2]), ([1, 1], [2, 2])] 0 1) v_184, Ob.v (tSl (tP (tSl (tI .i64)) (tSl (tI .i64)))) [([1, 2], [2, 1]), ([2, 1], [1, 2]), ([1, 1], [2, 2])] r_175, Ob.v (tSl (tI .i64)) (numU 2 [([2, 1], [2, 1]), ([1, 2], [1, 2])]) v_168, Ob.v (tSl (tI .i64)) (numW 2 [([2, 1], [2, 1]), ([1, 2], [1, 2])]) v_167, Ob.v (tSl (tP (tSl (tI .i64)) (tSl (tI .i64)))) [([2, 1], [2, 1]), ([1, 2], [1, 2])] r_158, Ob.v (tSl (tI .i64)) (ringE 2 [([1, 2], [2, 1]), ([2, 1], [1, 2]), ([1, 1], [2, 2])]) v_154, Ob.v (tSl (tP (tSl (tI .i64)) (tSl (tI .i64)))) [([1, 2], [2, 1]), ([2, 1], [1, 2]), ([1, 1], [2, 2])] r_145, Ob.v (tSl (tI .i64)) (numU 2 [([1, 2], [2, 1]), ([2, 1], [1, 2]), ([1, 1], [2, 2])]) v_138, Ob.v (tSl (tI .i64)) (numW 2 [([1, 2], [2, 1]), ([2, 1], [1, 2]), ([1, 1], [2, 2])]) v_137, Ob.v (tSl (tP (tSl (tI .i64)) (tSl (tI .i64)))) [([1, 2], [2, 1]), ([2, 1], [1, 2]), ([1, 1], [2, 2])] r_128, .row (tI .i64) 3 v_125 (ranksL 2 [([1, 2], [2, 1]), ([2, 1], [1, 2]), ([1, 1], [2, 2])]), Ob.v (tSl (tP (tSl (tI .i64)) (tSl (tI .i64)))) [([1, 2], [2, 1]), ([2, 1], [1, 2]), ([1, 1], [2, 2])] r_116, Ob.v (tSl (tI .i64)) (wrongE 2 [([2, 1], [2, 1]), ([1, 2], [1, 2])]) v_112, Ob.v (tSl (tP (tSl (tI .i64)) (tSl (tI .i64)))) [([2, 1], [2, 1]), ([1, 2], [1, 2])] r_103, Ob.v (tSl (tI .i64)) (ringE 2 [([2, 1], [2, 1]), ([1, 2], [1, 2])]) v_99, Ob.v (tSl (tP (tSl (tI .i64)) (tSl (tI .i64)))) [([2, 1], [2, 1]), ([1, 2], [1, 2])] r_90, Ob.v (tSl (tP (tSl (tI .i64)) (tSl (tI .i64)))) [([2, 1], [2, 1]), ([1, 2], [1, 2])] r_56, Ob.v (tSl (tP (tSl (tI .i64)) (tSl (tI .i64)))) [([1, 2], [2, 1]), ([2, 1], [1, 2]), ([1, 1], [2, 2])] r_47, Ob.v (tSl (tI .i64)) (leastL 2 [([1, 2], [2, 1]), ([2, 1], [1, 2]), ([1, 1], [2, 2])] 2 0) v_43, Ob.v (tSl (tP (tSl (tI .i64)) (tSl (tI .i64)))) [([1, 2], [2, 1]), ([2, 1], [1, 2]), ([1, 1], [2, 2])] r_34, .row (tP (tI .i64) (tI .i64)) 59 v_31 (pairsE (bS [([2, 1], [2, 1]), ([1, 2], [1, 2])]) 2 [([2, 1], [2, 1]), ([1, 2], [1, 2])]), Ob.v (tSl (tP (tSl (tI .i64)) (tSl (tI .i64)))) [([2, 1], [2, 1]), ([1, 2], [1, 2])] r_22, .row (tP (tI .i64) (tI .i64)) 59 v_19 (pairsE (gS [([1, 2], [2, 1]), ([2, 1], [1, 2]), ([1, 1], [2, 2])]) 2 [([1, 2], [2, 1]), ([2, 1], [1, 2]), ([1, 1], [2, 2])]), Ob.v (tSl (tP (tSl (tI .i64)) (tSl (tI .i64)))) [([1, 2], [2, 1]), ([2, 1], [1, 2]), ([1, 1], [2, 2])] r_10, Ob.v (tSl (tP (tSl (tI .i64)) (tSl (tI .i64)))) [([1, 2], [2, 1]), ([2, 1], [1, 2]), ([1, 1], [2, 2])] r_1]) ?_ ?_
    · rcases Bool.eq_false_or_eq_true ((((((((((((decide ((0 : Int) = 0) && decide ((0 : Int) = 0)) && decide ((0 : Int) = 0)) && decide ((0 : Int) = 0)) && decide ((13 : Int) = 13)) && decide ((13 : Int) = 13)) && decide ((12 : Int) = 12)) && decide ((5 : Int) = 5)) && true) && true) && true) && true) && true) with g_273 | g_273
      · -- True
        have gp_274 := g_273
        try simp only [Bool.and_eq_true, Bool.or_eq_true, Bool.not_eq_true', Bool.and_eq_false_iff, Bool.or_eq_false_iff, Bool.not_eq_false', decide_eq_true_eq, decide_eq_false_iff_not, not_or, Bool.false_eq_true, Bool.true_eq_false, false_or, or_false, not_false_eq_true] at gp_274
        refine Wx.gyes rfl rfl (congrArg Value.bool g_273) ?_
        refine Wx.rd (v := v_99) (rd_move rfl) rfl ?_
        refine Wx.gyes rfl rfl (congrArg Value.bool g_273) ?_
        refine Wx.lit (t := (tI .i64)) (ys := [0, 1]) (vs := [.int .i64 0, .int .i64 1]) elLi_39 hS rfl rfl ⟨(V.mkInt (in_i64 (by omega) (by omega))), ⟨(V.mkInt (in_i64 (by omega) (by omega))), trivial⟩⟩ (by decide) rfl (fun v_275 w_276 hx_277 hS => ?_)
        refine Wx.gyes rfl rfl (congrArg Value.bool g_273) ?_
        have hS := hS.freeze 0 rfl
        refine Wx.callF (run_callF Try.call44 rfl) (F44 (hS.v 0 rfl) hS.fb_lt) rfl ?_
        rintro r_279 w_280 hx_281 ⟨_, rfl, hv_282⟩
        have ln_284 := hv_282.len63
        have hS := hS.ext hx_281
        have hS := hS.add hv_282
        refine Wx.gyes rfl rfl (congrArg Value.bool g_273) ?_
        refine Wx.callF (run_callF Try.call33 rfl) (F33 (hS.v 16 rfl) (hS.v 0 rfl)) rfl ?_
        rintro r_285 w_286 hx_287 rfl
        have hS := hS.ext hx_287
        rw [show (decide ((ringE 2 [([2, 1], [2, 1]), ([1, 2], [1, 2])]) = [0, 1]) : Bool) = true from (by decide +kernel)]
        refine Wx.rd (v := .bool true) (rd_pickT (congrArg Value.bool g_273) rfl) rfl ?_
        refine Wx.nil ⟨(), St.tl (hS.tl), ⟨?_, trivial⟩, Out.look rfl Out.refl⟩
        show Value.bool true = Value.bool (((((((((((((decide ((0 : Int) = 0) && decide ((0 : Int) = 0)) && decide ((0 : Int) = 0)) && decide ((0 : Int) = 0)) && decide ((13 : Int) = 13)) && decide ((13 : Int) = 13)) && decide ((12 : Int) = 12)) && decide ((5 : Int) = 5)) && true) && true) && true) && true) && true) && true)
        first | rw [g_273, Bool.true_and] | (rw [g_273]; rfl)
      · -- False
        have gp_288 := g_273
        try simp only [Bool.and_eq_true, Bool.or_eq_true, Bool.not_eq_true', Bool.and_eq_false_iff, Bool.or_eq_false_iff, Bool.not_eq_false', decide_eq_true_eq, decide_eq_false_iff_not, not_or, Bool.false_eq_true, Bool.true_eq_false, false_or, or_false, not_false_eq_true] at gp_288
        refine Wx.gnoB rfl rfl (congrArg Value.bool g_273) rfl rfl ?_
        refine Wx.gnoB rfl rfl (congrArg Value.bool g_273) rfl rfl ?_
        refine Wx.gnoB rfl rfl (congrArg Value.bool g_273) rfl rfl ?_
        refine Wx.gnoB rfl rfl (congrArg Value.bool g_273) rfl rfl ?_
        refine Wx.rd (v := .bool false) (rd_pickF (congrArg Value.bool g_273) rfl) rfl ?_
        refine Wx.nil ⟨(), hS, ⟨?_, trivial⟩, Out.look rfl Out.refl⟩
        show Value.bool false = Value.bool (((((((((((((decide ((0 : Int) = 0) && decide ((0 : Int) = 0)) && decide ((0 : Int) = 0)) && decide ((0 : Int) = 0)) && decide ((13 : Int) = 13)) && decide ((13 : Int) = 13)) && decide ((12 : Int) = 12)) && decide ((5 : Int) = 5)) && true) && true) && true) && true) && true) && true)
        first | rw [g_273, Bool.false_and] | (rw [g_273]; rfl)
    rintro ⟨⟩ u_290 w_289 hS
    refine Wx.rd (v := .bool (((((((((((((decide ((0 : Int) = 0) && decide ((0 : Int) = 0)) && decide ((0 : Int) = 0)) && decide ((0 : Int) = 0)) && decide ((13 : Int) = 13)) && decide ((13 : Int) = 13)) && decide ((12 : Int) = 12)) && decide ((5 : Int) = 5)) && true) && true) && true) && true) && true) && true)) (rd_move rfl) rfl ?_
    refine Wx.cut (X := Unit) 5 [173, 174, 175, 176, 177] (fun _ => [(177, .bool ((((((((((((((decide ((0 : Int) = 0) && decide ((0 : Int) = 0)) && decide ((0 : Int) = 0)) && decide ((0 : Int) = 0)) && decide ((13 : Int) = 13)) && decide ((13 : Int) = 13)) && decide ((12 : Int) = 12)) && decide ((5 : Int) = 5)) && true) && true) && true) && true) && true) && true) && true))]) (fun _ w' => St w O w' [Ob.v (tSl (tI .i64)) (leastL 2 [([1, 2], [2, 1]), ([2, 1], [1, 2]), ([1, 1], [2, 2])] 0 1) v_184, Ob.v (tSl (tP (tSl (tI .i64)) (tSl (tI .i64)))) [([1, 2], [2, 1]), ([2, 1], [1, 2]), ([1, 1], [2, 2])] r_175, Ob.v (tSl (tI .i64)) (numU 2 [([2, 1], [2, 1]), ([1, 2], [1, 2])]) v_168, Ob.v (tSl (tI .i64)) (numW 2 [([2, 1], [2, 1]), ([1, 2], [1, 2])]) v_167, Ob.v (tSl (tP (tSl (tI .i64)) (tSl (tI .i64)))) [([2, 1], [2, 1]), ([1, 2], [1, 2])] r_158, Ob.v (tSl (tI .i64)) (ringE 2 [([1, 2], [2, 1]), ([2, 1], [1, 2]), ([1, 1], [2, 2])]) v_154, Ob.v (tSl (tP (tSl (tI .i64)) (tSl (tI .i64)))) [([1, 2], [2, 1]), ([2, 1], [1, 2]), ([1, 1], [2, 2])] r_145, Ob.v (tSl (tI .i64)) (numU 2 [([1, 2], [2, 1]), ([2, 1], [1, 2]), ([1, 1], [2, 2])]) v_138, Ob.v (tSl (tI .i64)) (numW 2 [([1, 2], [2, 1]), ([2, 1], [1, 2]), ([1, 1], [2, 2])]) v_137, Ob.v (tSl (tP (tSl (tI .i64)) (tSl (tI .i64)))) [([1, 2], [2, 1]), ([2, 1], [1, 2]), ([1, 1], [2, 2])] r_128, .row (tI .i64) 3 v_125 (ranksL 2 [([1, 2], [2, 1]), ([2, 1], [1, 2]), ([1, 1], [2, 2])]), Ob.v (tSl (tP (tSl (tI .i64)) (tSl (tI .i64)))) [([1, 2], [2, 1]), ([2, 1], [1, 2]), ([1, 1], [2, 2])] r_116, Ob.v (tSl (tI .i64)) (wrongE 2 [([2, 1], [2, 1]), ([1, 2], [1, 2])]) v_112, Ob.v (tSl (tP (tSl (tI .i64)) (tSl (tI .i64)))) [([2, 1], [2, 1]), ([1, 2], [1, 2])] r_103, Ob.v (tSl (tI .i64)) (ringE 2 [([2, 1], [2, 1]), ([1, 2], [1, 2])]) v_99, Ob.v (tSl (tP (tSl (tI .i64)) (tSl (tI .i64)))) [([2, 1], [2, 1]), ([1, 2], [1, 2])] r_90, Ob.v (tSl (tP (tSl (tI .i64)) (tSl (tI .i64)))) [([2, 1], [2, 1]), ([1, 2], [1, 2])] r_56, Ob.v (tSl (tP (tSl (tI .i64)) (tSl (tI .i64)))) [([1, 2], [2, 1]), ([2, 1], [1, 2]), ([1, 1], [2, 2])] r_47, Ob.v (tSl (tI .i64)) (leastL 2 [([1, 2], [2, 1]), ([2, 1], [1, 2]), ([1, 1], [2, 2])] 2 0) v_43, Ob.v (tSl (tP (tSl (tI .i64)) (tSl (tI .i64)))) [([1, 2], [2, 1]), ([2, 1], [1, 2]), ([1, 1], [2, 2])] r_34, .row (tP (tI .i64) (tI .i64)) 59 v_31 (pairsE (bS [([2, 1], [2, 1]), ([1, 2], [1, 2])]) 2 [([2, 1], [2, 1]), ([1, 2], [1, 2])]), Ob.v (tSl (tP (tSl (tI .i64)) (tSl (tI .i64)))) [([2, 1], [2, 1]), ([1, 2], [1, 2])] r_22, .row (tP (tI .i64) (tI .i64)) 59 v_19 (pairsE (gS [([1, 2], [2, 1]), ([2, 1], [1, 2]), ([1, 1], [2, 2])]) 2 [([1, 2], [2, 1]), ([2, 1], [1, 2]), ([1, 1], [2, 2])]), Ob.v (tSl (tP (tSl (tI .i64)) (tSl (tI .i64)))) [([1, 2], [2, 1]), ([2, 1], [1, 2]), ([1, 1], [2, 2])] r_10, Ob.v (tSl (tP (tSl (tI .i64)) (tSl (tI .i64)))) [([1, 2], [2, 1]), ([2, 1], [1, 2]), ([1, 1], [2, 2])] r_1]) ?_ ?_
    · rcases Bool.eq_false_or_eq_true (((((((((((((decide ((0 : Int) = 0) && decide ((0 : Int) = 0)) && decide ((0 : Int) = 0)) && decide ((0 : Int) = 0)) && decide ((13 : Int) = 13)) && decide ((13 : Int) = 13)) && decide ((12 : Int) = 12)) && decide ((5 : Int) = 5)) && true) && true) && true) && true) && true) && true) with g_291 | g_291
      · -- True
        have gp_292 := g_291
        try simp only [Bool.and_eq_true, Bool.or_eq_true, Bool.not_eq_true', Bool.and_eq_false_iff, Bool.or_eq_false_iff, Bool.not_eq_false', decide_eq_true_eq, decide_eq_false_iff_not, not_or, Bool.false_eq_true, Bool.true_eq_false, false_or, or_false, not_false_eq_true] at gp_292
        refine Wx.gyes rfl rfl (congrArg Value.bool g_291) ?_
        refine Wx.rd (v := v_112) (rd_move rfl) rfl ?_
        refine Wx.gyes rfl rfl (congrArg Value.bool g_291) ?_
        refine Wx.lit (t := (tI .i64)) (ys := [0]) (vs := [.int .i64 0]) elLi_39 hS rfl rfl ⟨(V.mkInt (in_i64 (by omega) (by omega))), trivial⟩ (by decide) rfl (fun v_293 w_294 hx_295 hS => ?_)
        refine Wx.gyes rfl rfl (congrArg Value.bool g_291) ?_
        have hS := hS.freeze 0 rfl
        refine Wx.callF (run_callF Try.call44 rfl) (F44 (hS.v 0 rfl) hS.fb_lt) rfl ?_
        rintro r_297 w_298 hx_299 ⟨_, rfl, hv_300⟩
        have ln_302 := hv_300.len63
        have hS := hS.ext hx_299
        have hS := hS.add hv_300
        refine Wx.gyes rfl rfl (congrArg Value.bool g_291) ?_
        refine Wx.callF (run_callF Try.call33 rfl) (F33 (hS.v 14 rfl) (hS.v 0 rfl)) rfl ?_
        rintro r_303 w_304 hx_305 rfl
        have hS := hS.ext hx_305
        rw [show (decide ((wrongE 2 [([2, 1], [2, 1]), ([1, 2], [1, 2])]) = [0]) : Bool) = true from (by decide +kernel)]
        refine Wx.rd (v := .bool true) (rd_pickT (congrArg Value.bool g_291) rfl) rfl ?_
        refine Wx.nil ⟨(), St.tl (hS.tl), ⟨?_, trivial⟩, Out.look rfl Out.refl⟩
        show Value.bool true = Value.bool ((((((((((((((decide ((0 : Int) = 0) && decide ((0 : Int) = 0)) && decide ((0 : Int) = 0)) && decide ((0 : Int) = 0)) && decide ((13 : Int) = 13)) && decide ((13 : Int) = 13)) && decide ((12 : Int) = 12)) && decide ((5 : Int) = 5)) && true) && true) && true) && true) && true) && true) && true)
        first | rw [g_291, Bool.true_and] | (rw [g_291]; rfl)
      · -- False
        have gp_306 := g_291
        try simp only [Bool.and_eq_true, Bool.or_eq_true, Bool.not_eq_true', Bool.and_eq_false_iff, Bool.or_eq_false_iff, Bool.not_eq_false', decide_eq_true_eq, decide_eq_false_iff_not, not_or, Bool.false_eq_true, Bool.true_eq_false, false_or, or_false, not_false_eq_true] at gp_306
        refine Wx.gnoB rfl rfl (congrArg Value.bool g_291) rfl rfl ?_
        refine Wx.gnoB rfl rfl (congrArg Value.bool g_291) rfl rfl ?_
        refine Wx.gnoB rfl rfl (congrArg Value.bool g_291) rfl rfl ?_
        refine Wx.gnoB rfl rfl (congrArg Value.bool g_291) rfl rfl ?_
        refine Wx.rd (v := .bool false) (rd_pickF (congrArg Value.bool g_291) rfl) rfl ?_
        refine Wx.nil ⟨(), hS, ⟨?_, trivial⟩, Out.look rfl Out.refl⟩
        show Value.bool false = Value.bool ((((((((((((((decide ((0 : Int) = 0) && decide ((0 : Int) = 0)) && decide ((0 : Int) = 0)) && decide ((0 : Int) = 0)) && decide ((13 : Int) = 13)) && decide ((13 : Int) = 13)) && decide ((12 : Int) = 12)) && decide ((5 : Int) = 5)) && true) && true) && true) && true) && true) && true) && true)
        first | rw [g_291, Bool.false_and] | (rw [g_291]; rfl)
    rintro ⟨⟩ u_308 w_307 hS
    refine Wx.rd (v := .bool ((((((((((((((decide ((0 : Int) = 0) && decide ((0 : Int) = 0)) && decide ((0 : Int) = 0)) && decide ((0 : Int) = 0)) && decide ((13 : Int) = 13)) && decide ((13 : Int) = 13)) && decide ((12 : Int) = 12)) && decide ((5 : Int) = 5)) && true) && true) && true) && true) && true) && true) && true)) (rd_move rfl) rfl ?_
    refine Wx.cut (X := Unit) 5 [179, 180, 181, 182, 183] (fun _ => [(183, .bool (((((((((((((((decide ((0 : Int) = 0) && decide ((0 : Int) = 0)) && decide ((0 : Int) = 0)) && decide ((0 : Int) = 0)) && decide ((13 : Int) = 13)) && decide ((13 : Int) = 13)) && decide ((12 : Int) = 12)) && decide ((5 : Int) = 5)) && true) && true) && true) && true) && true) && true) && true) && true))]) (fun _ w' => St w O w' [Ob.v (tSl (tI .i64)) (leastL 2 [([1, 2], [2, 1]), ([2, 1], [1, 2]), ([1, 1], [2, 2])] 0 1) v_184, Ob.v (tSl (tP (tSl (tI .i64)) (tSl (tI .i64)))) [([1, 2], [2, 1]), ([2, 1], [1, 2]), ([1, 1], [2, 2])] r_175, Ob.v (tSl (tI .i64)) (numU 2 [([2, 1], [2, 1]), ([1, 2], [1, 2])]) v_168, Ob.v (tSl (tI .i64)) (numW 2 [([2, 1], [2, 1]), ([1, 2], [1, 2])]) v_167, Ob.v (tSl (tP (tSl (tI .i64)) (tSl (tI .i64)))) [([2, 1], [2, 1]), ([1, 2], [1, 2])] r_158, Ob.v (tSl (tI .i64)) (ringE 2 [([1, 2], [2, 1]), ([2, 1], [1, 2]), ([1, 1], [2, 2])]) v_154, Ob.v (tSl (tP (tSl (tI .i64)) (tSl (tI .i64)))) [([1, 2], [2, 1]), ([2, 1], [1, 2]), ([1, 1], [2, 2])] r_145, Ob.v (tSl (tI .i64)) (numU 2 [([1, 2], [2, 1]), ([2, 1], [1, 2]), ([1, 1], [2, 2])]) v_138, Ob.v (tSl (tI .i64)) (numW 2 [([1, 2], [2, 1]), ([2, 1], [1, 2]), ([1, 1], [2, 2])]) v_137, Ob.v (tSl (tP (tSl (tI .i64)) (tSl (tI .i64)))) [([1, 2], [2, 1]), ([2, 1], [1, 2]), ([1, 1], [2, 2])] r_128, .row (tI .i64) 3 v_125 (ranksL 2 [([1, 2], [2, 1]), ([2, 1], [1, 2]), ([1, 1], [2, 2])]), Ob.v (tSl (tP (tSl (tI .i64)) (tSl (tI .i64)))) [([1, 2], [2, 1]), ([2, 1], [1, 2]), ([1, 1], [2, 2])] r_116, Ob.v (tSl (tI .i64)) (wrongE 2 [([2, 1], [2, 1]), ([1, 2], [1, 2])]) v_112, Ob.v (tSl (tP (tSl (tI .i64)) (tSl (tI .i64)))) [([2, 1], [2, 1]), ([1, 2], [1, 2])] r_103, Ob.v (tSl (tI .i64)) (ringE 2 [([2, 1], [2, 1]), ([1, 2], [1, 2])]) v_99, Ob.v (tSl (tP (tSl (tI .i64)) (tSl (tI .i64)))) [([2, 1], [2, 1]), ([1, 2], [1, 2])] r_90, Ob.v (tSl (tP (tSl (tI .i64)) (tSl (tI .i64)))) [([2, 1], [2, 1]), ([1, 2], [1, 2])] r_56, Ob.v (tSl (tP (tSl (tI .i64)) (tSl (tI .i64)))) [([1, 2], [2, 1]), ([2, 1], [1, 2]), ([1, 1], [2, 2])] r_47, Ob.v (tSl (tI .i64)) (leastL 2 [([1, 2], [2, 1]), ([2, 1], [1, 2]), ([1, 1], [2, 2])] 2 0) v_43, Ob.v (tSl (tP (tSl (tI .i64)) (tSl (tI .i64)))) [([1, 2], [2, 1]), ([2, 1], [1, 2]), ([1, 1], [2, 2])] r_34, .row (tP (tI .i64) (tI .i64)) 59 v_31 (pairsE (bS [([2, 1], [2, 1]), ([1, 2], [1, 2])]) 2 [([2, 1], [2, 1]), ([1, 2], [1, 2])]), Ob.v (tSl (tP (tSl (tI .i64)) (tSl (tI .i64)))) [([2, 1], [2, 1]), ([1, 2], [1, 2])] r_22, .row (tP (tI .i64) (tI .i64)) 59 v_19 (pairsE (gS [([1, 2], [2, 1]), ([2, 1], [1, 2]), ([1, 1], [2, 2])]) 2 [([1, 2], [2, 1]), ([2, 1], [1, 2]), ([1, 1], [2, 2])]), Ob.v (tSl (tP (tSl (tI .i64)) (tSl (tI .i64)))) [([1, 2], [2, 1]), ([2, 1], [1, 2]), ([1, 1], [2, 2])] r_10, Ob.v (tSl (tP (tSl (tI .i64)) (tSl (tI .i64)))) [([1, 2], [2, 1]), ([2, 1], [1, 2]), ([1, 1], [2, 2])] r_1]) ?_ ?_
    · rcases Bool.eq_false_or_eq_true ((((((((((((((decide ((0 : Int) = 0) && decide ((0 : Int) = 0)) && decide ((0 : Int) = 0)) && decide ((0 : Int) = 0)) && decide ((13 : Int) = 13)) && decide ((13 : Int) = 13)) && decide ((12 : Int) = 12)) && decide ((5 : Int) = 5)) && true) && true) && true) && true) && true) && true) && true) with g_309 | g_309
      · -- True
        have gp_310 := g_309
        try simp only [Bool.and_eq_true, Bool.or_eq_true, Bool.not_eq_true', Bool.and_eq_false_iff, Bool.or_eq_false_iff, Bool.not_eq_false', decide_eq_true_eq, decide_eq_false_iff_not, not_or, Bool.false_eq_true, Bool.true_eq_false, false_or, or_false, not_false_eq_true] at gp_310
        refine Wx.gyes rfl rfl (congrArg Value.bool g_309) ?_
        refine Wx.rd (v := v_125) (rd_move rfl) rfl ?_
        refine Wx.gyes rfl rfl (congrArg Value.bool g_309) ?_
        refine Wx.lit (t := (tI .i64)) (ys := [0, 0, 2]) (vs := [.int .i64 0, .int .i64 0, .int .i64 2]) elLi_39 hS rfl rfl ⟨(V.mkInt (in_i64 (by omega) (by omega))), ⟨(V.mkInt (in_i64 (by omega) (by omega))), ⟨(V.mkInt (in_i64 (by omega) (by omega))), trivial⟩⟩⟩ (by decide) rfl (fun v_311 w_312 hx_313 hS => ?_)
        refine Wx.gyes rfl rfl (congrArg Value.bool g_309) ?_
        have hS := hS.freeze 0 rfl
        refine Wx.callF (run_callF Try.call44 rfl) (F44 (hS.v 0 rfl) hS.fb_lt) rfl ?_
        rintro r_315 w_316 hx_317 ⟨_, rfl, hv_318⟩
        have ln_320 := hv_318.len63
        have hS := hS.ext hx_317
        have hS := hS.add hv_318
        refine Wx.gyes rfl rfl (congrArg Value.bool g_309) ?_
        refine Wx.callF (run_callF Try.call33 rfl) (F33 (hS.lend 12 rfl) (hS.v 0 rfl)) rfl ?_
        rintro r_321 w_322 hx_323 rfl
        have hS := hS.ext hx_323
        rw [show (decide ((ranksL 2 [([1, 2], [2, 1]), ([2, 1], [1, 2]), ([1, 1], [2, 2])]) = [0, 0, 2]) : Bool) = true from (by decide +kernel)]
        refine Wx.rd (v := .bool true) (rd_pickT (congrArg Value.bool g_309) rfl) rfl ?_
        refine Wx.nil ⟨(), St.tl (hS.tl), ⟨?_, trivial⟩, Out.look rfl Out.refl⟩
        show Value.bool true = Value.bool (((((((((((((((decide ((0 : Int) = 0) && decide ((0 : Int) = 0)) && decide ((0 : Int) = 0)) && decide ((0 : Int) = 0)) && decide ((13 : Int) = 13)) && decide ((13 : Int) = 13)) && decide ((12 : Int) = 12)) && decide ((5 : Int) = 5)) && true) && true) && true) && true) && true) && true) && true) && true)
        first | rw [g_309, Bool.true_and] | (rw [g_309]; rfl)
      · -- False
        have gp_324 := g_309
        try simp only [Bool.and_eq_true, Bool.or_eq_true, Bool.not_eq_true', Bool.and_eq_false_iff, Bool.or_eq_false_iff, Bool.not_eq_false', decide_eq_true_eq, decide_eq_false_iff_not, not_or, Bool.false_eq_true, Bool.true_eq_false, false_or, or_false, not_false_eq_true] at gp_324
        refine Wx.gnoB rfl rfl (congrArg Value.bool g_309) rfl rfl ?_
        refine Wx.gnoB rfl rfl (congrArg Value.bool g_309) rfl rfl ?_
        refine Wx.gnoB rfl rfl (congrArg Value.bool g_309) rfl rfl ?_
        refine Wx.gnoB rfl rfl (congrArg Value.bool g_309) rfl rfl ?_
        refine Wx.rd (v := .bool false) (rd_pickF (congrArg Value.bool g_309) rfl) rfl ?_
        refine Wx.nil ⟨(), hS, ⟨?_, trivial⟩, Out.look rfl Out.refl⟩
        show Value.bool false = Value.bool (((((((((((((((decide ((0 : Int) = 0) && decide ((0 : Int) = 0)) && decide ((0 : Int) = 0)) && decide ((0 : Int) = 0)) && decide ((13 : Int) = 13)) && decide ((13 : Int) = 13)) && decide ((12 : Int) = 12)) && decide ((5 : Int) = 5)) && true) && true) && true) && true) && true) && true) && true) && true)
        first | rw [g_309, Bool.false_and] | (rw [g_309]; rfl)
    rintro ⟨⟩ u_326 w_325 hS
    refine Wx.rd (v := .bool (((((((((((((((decide ((0 : Int) = 0) && decide ((0 : Int) = 0)) && decide ((0 : Int) = 0)) && decide ((0 : Int) = 0)) && decide ((13 : Int) = 13)) && decide ((13 : Int) = 13)) && decide ((12 : Int) = 12)) && decide ((5 : Int) = 5)) && true) && true) && true) && true) && true) && true) && true) && true)) (rd_move rfl) rfl ?_
    refine Wx.cut (X := Unit) 6 [185, 186, 187, 188, 189, 190] (fun _ => [(190, .bool ((((((((((((((((decide ((0 : Int) = 0) && decide ((0 : Int) = 0)) && decide ((0 : Int) = 0)) && decide ((0 : Int) = 0)) && decide ((13 : Int) = 13)) && decide ((13 : Int) = 13)) && decide ((12 : Int) = 12)) && decide ((5 : Int) = 5)) && true) && true) && true) && true) && true) && true) && true) && true) && decide ((0 : Int) = 0)))]) (fun _ w' => St w O w' [Ob.v (tSl (tI .i64)) (leastL 2 [([1, 2], [2, 1]), ([2, 1], [1, 2]), ([1, 1], [2, 2])] 0 1) v_184, Ob.v (tSl (tP (tSl (tI .i64)) (tSl (tI .i64)))) [([1, 2], [2, 1]), ([2, 1], [1, 2]), ([1, 1], [2, 2])] r_175, Ob.v (tSl (tI .i64)) (numU 2 [([2, 1], [2, 1]), ([1, 2], [1, 2])]) v_168, Ob.v (tSl (tI .i64)) (numW 2 [([2, 1], [2, 1]), ([1, 2], [1, 2])]) v_167, Ob.v (tSl (tP (tSl (tI .i64)) (tSl (tI .i64)))) [([2, 1], [2, 1]), ([1, 2], [1, 2])] r_158, Ob.v (tSl (tI .i64)) (ringE 2 [([1, 2], [2, 1]), ([2, 1], [1, 2]), ([1, 1], [2, 2])]) v_154, Ob.v (tSl (tP (tSl (tI .i64)) (tSl (tI .i64)))) [([1, 2], [2, 1]), ([2, 1], [1, 2]), ([1, 1], [2, 2])] r_145, Ob.v (tSl (tI .i64)) (numU 2 [([1, 2], [2, 1]), ([2, 1], [1, 2]), ([1, 1], [2, 2])]) v_138, Ob.v (tSl (tI .i64)) (numW 2 [([1, 2], [2, 1]), ([2, 1], [1, 2]), ([1, 1], [2, 2])]) v_137, Ob.v (tSl (tP (tSl (tI .i64)) (tSl (tI .i64)))) [([1, 2], [2, 1]), ([2, 1], [1, 2]), ([1, 1], [2, 2])] r_128, .row (tI .i64) 3 v_125 (ranksL 2 [([1, 2], [2, 1]), ([2, 1], [1, 2]), ([1, 1], [2, 2])]), Ob.v (tSl (tP (tSl (tI .i64)) (tSl (tI .i64)))) [([1, 2], [2, 1]), ([2, 1], [1, 2]), ([1, 1], [2, 2])] r_116, Ob.v (tSl (tI .i64)) (wrongE 2 [([2, 1], [2, 1]), ([1, 2], [1, 2])]) v_112, Ob.v (tSl (tP (tSl (tI .i64)) (tSl (tI .i64)))) [([2, 1], [2, 1]), ([1, 2], [1, 2])] r_103, Ob.v (tSl (tI .i64)) (ringE 2 [([2, 1], [2, 1]), ([1, 2], [1, 2])]) v_99, Ob.v (tSl (tP (tSl (tI .i64)) (tSl (tI .i64)))) [([2, 1], [2, 1]), ([1, 2], [1, 2])] r_90, Ob.v (tSl (tP (tSl (tI .i64)) (tSl (tI .i64)))) [([2, 1], [2, 1]), ([1, 2], [1, 2])] r_56, Ob.v (tSl (tP (tSl (tI .i64)) (tSl (tI .i64)))) [([1, 2], [2, 1]), ([2, 1], [1, 2]), ([1, 1], [2, 2])] r_47, Ob.v (tSl (tI .i64)) (leastL 2 [([1, 2], [2, 1]), ([2, 1], [1, 2]), ([1, 1], [2, 2])] 2 0) v_43, Ob.v (tSl (tP (tSl (tI .i64)) (tSl (tI .i64)))) [([1, 2], [2, 1]), ([2, 1], [1, 2]), ([1, 1], [2, 2])] r_34, .row (tP (tI .i64) (tI .i64)) 59 v_31 (pairsE (bS [([2, 1], [2, 1]), ([1, 2], [1, 2])]) 2 [([2, 1], [2, 1]), ([1, 2], [1, 2])]), Ob.v (tSl (tP (tSl (tI .i64)) (tSl (tI .i64)))) [([2, 1], [2, 1]), ([1, 2], [1, 2])] r_22, .row (tP (tI .i64) (tI .i64)) 59 v_19 (pairsE (gS [([1, 2], [2, 1]), ([2, 1], [1, 2]), ([1, 1], [2, 2])]) 2 [([1, 2], [2, 1]), ([2, 1], [1, 2]), ([1, 1], [2, 2])]), Ob.v (tSl (tP (tSl (tI .i64)) (tSl (tI .i64)))) [([1, 2], [2, 1]), ([2, 1], [1, 2]), ([1, 1], [2, 2])] r_10, Ob.v (tSl (tP (tSl (tI .i64)) (tSl (tI .i64)))) [([1, 2], [2, 1]), ([2, 1], [1, 2]), ([1, 1], [2, 2])] r_1]) ?_ ?_
    · rcases Bool.eq_false_or_eq_true (((((((((((((((decide ((0 : Int) = 0) && decide ((0 : Int) = 0)) && decide ((0 : Int) = 0)) && decide ((0 : Int) = 0)) && decide ((13 : Int) = 13)) && decide ((13 : Int) = 13)) && decide ((12 : Int) = 12)) && decide ((5 : Int) = 5)) && true) && true) && true) && true) && true) && true) && true) && true) with g_327 | g_327
      · -- True
        have gp_328 := g_327
        try simp only [Bool.and_eq_true, Bool.or_eq_true, Bool.not_eq_true', Bool.and_eq_false_iff, Bool.or_eq_false_iff, Bool.not_eq_false', decide_eq_true_eq, decide_eq_false_iff_not, not_or, Bool.false_eq_true, Bool.true_eq_false, false_or, or_false, not_false_eq_true] at gp_328
        refine Wx.gyes rfl rfl (congrArg Value.bool g_327) ?_
        refine Wx.callF (run_callF Try.call43 rfl) (F43 hS.fb_lt) rfl ?_
        rintro r_329 w_330 hx_331 ⟨_, rfl, hv_332⟩
        have ln_334 := hv_332.len63
        have hS := hS.ext hx_331
        have hS := hS.add hv_332
        refine Wx.gyes rfl rfl (congrArg Value.bool g_327) ?_
        refine Wx.rd (v := v_137) (rd_move rfl) rfl ?_
        refine Wx.gyes rfl rfl (congrArg Value.bool g_327) ?_
        refine Wx.rd (v := v_138) (rd_move rfl) rfl ?_
        refine Wx.gyes rfl rfl (congrArg Value.bool g_327) ?_
        refine Wx.callF (run_callF Try.call37 rfl) (F37 (in_i64 (by omega) (by omega)) (hS.v 0 rfl) (hS.v 9 rfl) (hS.v 8 rfl) hS.fb_lt) rfl ?_
        rintro r_335 w_336 hx_337 rfl
        have hS := hS.ext hx_337
        rw [show (agreesE 2 [([1, 2], [2, 1]), ([2, 1], [1, 2]), ([1, 1], [2, 2])] (numW 2 [([1, 2], [2, 1]), ([2, 1], [1, 2]), ([1, 1], [2, 2])]) (numU 2 [([1, 2], [2, 1]), ([2, 1], [1, 2]), ([1, 1], [2, 2])]) : Int) = 0 from (by rw [agrC_eq]; decide +kernel)]
        refine Wx.gyes rfl rfl (congrArg Value.bool g_327) ?_
        refine Wx.rd (v := .bool (decide ((0 : Int) = 0))) (rd_eql rfl rfl) rfl ?_
        refine Wx.rd (v := .bool (decide ((0 : Int) = 0))) (rd_pickT (congrArg Value.bool g_327) rfl) rfl ?_
        refine Wx.nil ⟨(), hS.tl, ⟨?_, trivial⟩, Out.look rfl Out.refl⟩
        show Value.bool (decide ((0 : Int) = 0)) = Value.bool ((((((((((((((((decide ((0 : Int) = 0) && decide ((0 : Int) = 0)) && decide ((0 : Int) = 0)) && decide ((0 : Int) = 0)) && decide ((13 : Int) = 13)) && decide ((13 : Int) = 13)) && decide ((12 : Int) = 12)) && decide ((5 : Int) = 5)) && true) && true) && true) && true) && true) && true) && true) && true) && decide ((0 : Int) = 0))
        first | rw [g_327, Bool.true_and] | (rw [g_327]; rfl)
      · -- False
        have gp_338 := g_327
        try simp only [Bool.and_eq_true, Bool.or_eq_true, Bool.not_eq_true', Bool.and_eq_false_iff, Bool.or_eq_false_iff, Bool.not_eq_false', decide_eq_true_eq, decide_eq_false_iff_not, not_or, Bool.false_eq_true, Bool.true_eq_false, false_or, or_false, not_false_eq_true] at gp_338
        refine Wx.gnoB rfl rfl (congrArg Value.bool g_327) rfl rfl ?_
        refine Wx.gnoB rfl rfl (congrArg Value.bool g_327) rfl rfl ?_
        refine Wx.gnoB rfl rfl (congrArg Value.bool g_327) rfl rfl ?_
        refine Wx.gnoB rfl rfl (congrArg Value.bool g_327) rfl rfl ?_
        refine Wx.gnoB rfl rfl (congrArg Value.bool g_327) rfl rfl ?_
        refine Wx.rd (v := .bool false) (rd_pickF (congrArg Value.bool g_327) rfl) rfl ?_
        refine Wx.nil ⟨(), hS, ⟨?_, trivial⟩, Out.look rfl Out.refl⟩
        show Value.bool false = Value.bool ((((((((((((((((decide ((0 : Int) = 0) && decide ((0 : Int) = 0)) && decide ((0 : Int) = 0)) && decide ((0 : Int) = 0)) && decide ((13 : Int) = 13)) && decide ((13 : Int) = 13)) && decide ((12 : Int) = 12)) && decide ((5 : Int) = 5)) && true) && true) && true) && true) && true) && true) && true) && true) && decide ((0 : Int) = 0))
        first | rw [g_327, Bool.false_and] | (rw [g_327]; rfl)
    rintro ⟨⟩ u_340 w_339 hS
    refine Wx.rd (v := .bool ((((((((((((((((decide ((0 : Int) = 0) && decide ((0 : Int) = 0)) && decide ((0 : Int) = 0)) && decide ((0 : Int) = 0)) && decide ((13 : Int) = 13)) && decide ((13 : Int) = 13)) && decide ((12 : Int) = 12)) && decide ((5 : Int) = 5)) && true) && true) && true) && true) && true) && true) && true) && true) && decide ((0 : Int) = 0))) (rd_move rfl) rfl ?_
    refine Wx.cut (X := Unit) 8 [192, 193, 194, 195, 196, 197, 198, 199] (fun _ => [(199, .bool (((((((((((((((((decide ((0 : Int) = 0) && decide ((0 : Int) = 0)) && decide ((0 : Int) = 0)) && decide ((0 : Int) = 0)) && decide ((13 : Int) = 13)) && decide ((13 : Int) = 13)) && decide ((12 : Int) = 12)) && decide ((5 : Int) = 5)) && true) && true) && true) && true) && true) && true) && true) && true) && decide ((0 : Int) = 0)) && decide ((0 : Int) = 0)))]) (fun _ w' => St w O w' [Ob.v (tSl (tI .i64)) (leastL 2 [([1, 2], [2, 1]), ([2, 1], [1, 2]), ([1, 1], [2, 2])] 0 1) v_184, Ob.v (tSl (tP (tSl (tI .i64)) (tSl (tI .i64)))) [([1, 2], [2, 1]), ([2, 1], [1, 2]), ([1, 1], [2, 2])] r_175, Ob.v (tSl (tI .i64)) (numU 2 [([2, 1], [2, 1]), ([1, 2], [1, 2])]) v_168, Ob.v (tSl (tI .i64)) (numW 2 [([2, 1], [2, 1]), ([1, 2], [1, 2])]) v_167, Ob.v (tSl (tP (tSl (tI .i64)) (tSl (tI .i64)))) [([2, 1], [2, 1]), ([1, 2], [1, 2])] r_158, Ob.v (tSl (tI .i64)) (ringE 2 [([1, 2], [2, 1]), ([2, 1], [1, 2]), ([1, 1], [2, 2])]) v_154, Ob.v (tSl (tP (tSl (tI .i64)) (tSl (tI .i64)))) [([1, 2], [2, 1]), ([2, 1], [1, 2]), ([1, 1], [2, 2])] r_145, Ob.v (tSl (tI .i64)) (numU 2 [([1, 2], [2, 1]), ([2, 1], [1, 2]), ([1, 1], [2, 2])]) v_138, Ob.v (tSl (tI .i64)) (numW 2 [([1, 2], [2, 1]), ([2, 1], [1, 2]), ([1, 1], [2, 2])]) v_137, Ob.v (tSl (tP (tSl (tI .i64)) (tSl (tI .i64)))) [([1, 2], [2, 1]), ([2, 1], [1, 2]), ([1, 1], [2, 2])] r_128, .row (tI .i64) 3 v_125 (ranksL 2 [([1, 2], [2, 1]), ([2, 1], [1, 2]), ([1, 1], [2, 2])]), Ob.v (tSl (tP (tSl (tI .i64)) (tSl (tI .i64)))) [([1, 2], [2, 1]), ([2, 1], [1, 2]), ([1, 1], [2, 2])] r_116, Ob.v (tSl (tI .i64)) (wrongE 2 [([2, 1], [2, 1]), ([1, 2], [1, 2])]) v_112, Ob.v (tSl (tP (tSl (tI .i64)) (tSl (tI .i64)))) [([2, 1], [2, 1]), ([1, 2], [1, 2])] r_103, Ob.v (tSl (tI .i64)) (ringE 2 [([2, 1], [2, 1]), ([1, 2], [1, 2])]) v_99, Ob.v (tSl (tP (tSl (tI .i64)) (tSl (tI .i64)))) [([2, 1], [2, 1]), ([1, 2], [1, 2])] r_90, Ob.v (tSl (tP (tSl (tI .i64)) (tSl (tI .i64)))) [([2, 1], [2, 1]), ([1, 2], [1, 2])] r_56, Ob.v (tSl (tP (tSl (tI .i64)) (tSl (tI .i64)))) [([1, 2], [2, 1]), ([2, 1], [1, 2]), ([1, 1], [2, 2])] r_47, Ob.v (tSl (tI .i64)) (leastL 2 [([1, 2], [2, 1]), ([2, 1], [1, 2]), ([1, 1], [2, 2])] 2 0) v_43, Ob.v (tSl (tP (tSl (tI .i64)) (tSl (tI .i64)))) [([1, 2], [2, 1]), ([2, 1], [1, 2]), ([1, 1], [2, 2])] r_34, .row (tP (tI .i64) (tI .i64)) 59 v_31 (pairsE (bS [([2, 1], [2, 1]), ([1, 2], [1, 2])]) 2 [([2, 1], [2, 1]), ([1, 2], [1, 2])]), Ob.v (tSl (tP (tSl (tI .i64)) (tSl (tI .i64)))) [([2, 1], [2, 1]), ([1, 2], [1, 2])] r_22, .row (tP (tI .i64) (tI .i64)) 59 v_19 (pairsE (gS [([1, 2], [2, 1]), ([2, 1], [1, 2]), ([1, 1], [2, 2])]) 2 [([1, 2], [2, 1]), ([2, 1], [1, 2]), ([1, 1], [2, 2])]), Ob.v (tSl (tP (tSl (tI .i64)) (tSl (tI .i64)))) [([1, 2], [2, 1]), ([2, 1], [1, 2]), ([1, 1], [2, 2])] r_10, Ob.v (tSl (tP (tSl (tI .i64)) (tSl (tI .i64)))) [([1, 2], [2, 1]), ([2, 1], [1, 2]), ([1, 1], [2, 2])] r_1]) ?_ ?_
    · rcases Bool.eq_false_or_eq_true ((((((((((((((((decide ((0 : Int) = 0) && decide ((0 : Int) = 0)) && decide ((0 : Int) = 0)) && decide ((0 : Int) = 0)) && decide ((13 : Int) = 13)) && decide ((13 : Int) = 13)) && decide ((12 : Int) = 12)) && decide ((5 : Int) = 5)) && true) && true) && true) && true) && true) && true) && true) && true) && decide ((0 : Int) = 0)) with g_341 | g_341
      · -- True
        have gp_342 := g_341
        try simp only [Bool.and_eq_true, Bool.or_eq_true, Bool.not_eq_true', Bool.and_eq_false_iff, Bool.or_eq_false_iff, Bool.not_eq_false', decide_eq_true_eq, decide_eq_false_iff_not, not_or, Bool.false_eq_true, Bool.true_eq_false, false_or, or_false, not_false_eq_true] at gp_342
        refine Wx.gyes rfl rfl (congrArg Value.bool g_341) ?_
        refine Wx.callF (run_callF Try.call43 rfl) (F43 hS.fb_lt) rfl ?_
        rintro r_343 w_344 hx_345 ⟨_, rfl, hv_346⟩
        have ln_348 := hv_346.len63
        have hS := hS.ext hx_345
        have hS := hS.add hv_346
        refine Wx.gyes rfl rfl (congrArg Value.bool g_341) ?_
        refine Wx.lit (t := (tI .i64)) (ys := [0, 0, 2]) (vs := [.int .i64 0, .int .i64 0, .int .i64 2]) elLi_39 hS rfl rfl ⟨(V.mkInt (in_i64 (by omega) (by omega))), ⟨(V.mkInt (in_i64 (by omega) (by omega))), ⟨(V.mkInt (in_i64 (by omega) (by omega))), trivial⟩⟩⟩ (by decide) rfl (fun v_349 w_350 hx_351 hS => ?_)
        refine Wx.gyes rfl rfl (congrArg Value.bool g_341) ?_
        have hS := hS.freeze 0 rfl
        refine Wx.callF (run_callF Try.call44 rfl) (F44 (hS.v 0 rfl) hS.fb_lt) rfl ?_
        rintro r_353 w_354 hx_355 ⟨_, rfl, hv_356⟩
        have ln_358 := hv_356.len63
        have hS := hS.ext hx_355
        have hS := hS.add hv_356
        refine Wx.gyes rfl rfl (congrArg Value.bool g_341) ?_
        refine Wx.lit (t := (tI .i64)) (ys := [1, 1, 1]) (vs := [.int .i64 1, .int .i64 1, .int .i64 1]) elLi_39 hS rfl rfl ⟨(V.mkInt (in_i64 (by omega) (by omega))), ⟨(V.mkInt (in_i64 (by omega) (by omega))), ⟨(V.mkInt (in_i64 (by omega) (by omega))), trivial⟩⟩⟩ (by decide) rfl (fun v_359 w_360 hx_361 hS => ?_)
        refine Wx.gyes rfl rfl (congrArg Value.bool g_341) ?_
        have hS := hS.freeze 0 rfl
        refine Wx.callF (run_callF Try.call44 rfl) (F44 (hS.v 0 rfl) hS.fb_lt) rfl ?_
        rintro r_363 w_364 hx_365 ⟨_, rfl, hv_366⟩
        have ln_368 := hv_366.len63
        have hS := hS.ext hx_365
        have hS := hS.add hv_366
        refine Wx.gyes rfl rfl (congrArg Value.bool g_341) ?_
        refine Wx.callF (run_callF Try.call37 rfl) (F37 (in_i64 (by omega) (by omega)) (hS.v 4 rfl) (hS.v 2 rfl) (hS.v 0 rfl) hS.fb_lt) rfl ?_
        rintro r_369 w_370 hx_371 rfl
        have hS := hS.ext hx_371
        rw [show (agreesE 2 [([1, 2], [2, 1]), ([2, 1], [1, 2]), ([1, 1], [2, 2])] [0, 0, 2] [1, 1, 1] : Int) = 0 from (by rw [agrC_eq]; decide +kernel)]
        refine Wx.gyes rfl rfl (congrArg Value.bool g_341) ?_
        refine Wx.rd (v := .bool (decide ((0 : Int) = 0))) (rd_eql rfl rfl) rfl ?_
        refine Wx.rd (v := .bool (decide ((0 : Int) = 0))) (rd_pickT (congrArg Value.bool g_341) rfl) rfl ?_
        refine Wx.nil ⟨(), St.tl (St.tl (St.tl (St.tl (hS.tl)))), ⟨?_, trivial⟩, Out.look rfl Out.refl⟩
        show Value.bool (decide ((0 : Int) = 0)) = Value.bool (((((((((((((((((decide ((0 : Int) = 0) && decide ((0 : Int) = 0)) && decide ((0 : Int) = 0)) && decide ((0 : Int) = 0)) && decide ((13 : Int) = 13)) && decide ((13 : Int) = 13)) && decide ((12 : Int) = 12)) && decide ((5 : Int) = 5)) && true) && true) && true) && true) && true) && true) && true) && true) && decide ((0 : Int) = 0)) && decide ((0 : Int) = 0))
        first | rw [g_341, Bool.true_and] | (rw [g_341]; rfl)
      · -- False
        have gp_372 := g_341
        try simp only [Bool.and_eq_true, Bool.or_eq_true, Bool.not_eq_true', Bool.and_eq_false_iff, Bool.or_eq_false_iff, Bool.not_eq_false', decide_eq_true_eq, decide_eq_false_iff_not, not_or, Bool.false_eq_true, Bool.true_eq_false, false_or, or_false, not_false_eq_true] at gp_372
        refine Wx.gnoB rfl rfl (congrArg Value.bool g_341) rfl rfl ?_
        refine Wx.gnoB rfl rfl (congrArg Value.bool g_341) rfl rfl ?_
        refine Wx.gnoB rfl rfl (congrArg Value.bool g_341) rfl rfl ?_
        refine Wx.gnoB rfl rfl (congrArg Value.bool g_341) rfl rfl ?_
        refine Wx.gnoB rfl rfl (congrArg Value.bool g_341) rfl rfl ?_
        refine Wx.gnoB rfl rfl (congrArg Value.bool g_341) rfl rfl ?_
        refine Wx.gnoB rfl rfl (congrArg Value.bool g_341) rfl rfl ?_
        refine Wx.rd (v := .bool false) (rd_pickF (congrArg Value.bool g_341) rfl) rfl ?_
        refine Wx.nil ⟨(), hS, ⟨?_, trivial⟩, Out.look rfl Out.refl⟩
        show Value.bool false = Value.bool (((((((((((((((((decide ((0 : Int) = 0) && decide ((0 : Int) = 0)) && decide ((0 : Int) = 0)) && decide ((0 : Int) = 0)) && decide ((13 : Int) = 13)) && decide ((13 : Int) = 13)) && decide ((12 : Int) = 12)) && decide ((5 : Int) = 5)) && true) && true) && true) && true) && true) && true) && true) && true) && decide ((0 : Int) = 0)) && decide ((0 : Int) = 0))
        first | rw [g_341, Bool.false_and] | (rw [g_341]; rfl)
    rintro ⟨⟩ u_374 w_373 hS
    refine Wx.rd (v := .bool (((((((((((((((((decide ((0 : Int) = 0) && decide ((0 : Int) = 0)) && decide ((0 : Int) = 0)) && decide ((0 : Int) = 0)) && decide ((13 : Int) = 13)) && decide ((13 : Int) = 13)) && decide ((12 : Int) = 12)) && decide ((5 : Int) = 5)) && true) && true) && true) && true) && true) && true) && true) && true) && decide ((0 : Int) = 0)) && decide ((0 : Int) = 0))) (rd_move rfl) rfl ?_
    refine Wx.cut (X := Unit) 8 [201, 202, 203, 204, 205, 206, 207, 208] (fun _ => [(208, .bool ((((((((((((((((((decide ((0 : Int) = 0) && decide ((0 : Int) = 0)) && decide ((0 : Int) = 0)) && decide ((0 : Int) = 0)) && decide ((13 : Int) = 13)) && decide ((13 : Int) = 13)) && decide ((12 : Int) = 12)) && decide ((5 : Int) = 5)) && true) && true) && true) && true) && true) && true) && true) && true) && decide ((0 : Int) = 0)) && decide ((0 : Int) = 0)) && decide ((14 : Int) = 14)))]) (fun _ w' => St w O w' [Ob.v (tSl (tI .i64)) (leastL 2 [([1, 2], [2, 1]), ([2, 1], [1, 2]), ([1, 1], [2, 2])] 0 1) v_184, Ob.v (tSl (tP (tSl (tI .i64)) (tSl (tI .i64)))) [([1, 2], [2, 1]), ([2, 1], [1, 2]), ([1, 1], [2, 2])] r_175, Ob.v (tSl (tI .i64)) (numU 2 [([2, 1], [2, 1]), ([1, 2], [1, 2])]) v_168, Ob.v (tSl (tI .i64)) (numW 2 [([2, 1], [2, 1]), ([1, 2], [1, 2])]) v_167, Ob.v (tSl (tP (tSl (tI .i64)) (tSl (tI .i64)))) [([2, 1], [2, 1]), ([1, 2], [1, 2])] r_158, Ob.v (tSl (tI .i64)) (ringE 2 [([1, 2], [2, 1]), ([2, 1], [1, 2]), ([1, 1], [2, 2])]) v_154, Ob.v (tSl (tP (tSl (tI .i64)) (tSl (tI .i64)))) [([1, 2], [2, 1]), ([2, 1], [1, 2]), ([1, 1], [2, 2])] r_145, Ob.v (tSl (tI .i64)) (numU 2 [([1, 2], [2, 1]), ([2, 1], [1, 2]), ([1, 1], [2, 2])]) v_138, Ob.v (tSl (tI .i64)) (numW 2 [([1, 2], [2, 1]), ([2, 1], [1, 2]), ([1, 1], [2, 2])]) v_137, Ob.v (tSl (tP (tSl (tI .i64)) (tSl (tI .i64)))) [([1, 2], [2, 1]), ([2, 1], [1, 2]), ([1, 1], [2, 2])] r_128, .row (tI .i64) 3 v_125 (ranksL 2 [([1, 2], [2, 1]), ([2, 1], [1, 2]), ([1, 1], [2, 2])]), Ob.v (tSl (tP (tSl (tI .i64)) (tSl (tI .i64)))) [([1, 2], [2, 1]), ([2, 1], [1, 2]), ([1, 1], [2, 2])] r_116, Ob.v (tSl (tI .i64)) (wrongE 2 [([2, 1], [2, 1]), ([1, 2], [1, 2])]) v_112, Ob.v (tSl (tP (tSl (tI .i64)) (tSl (tI .i64)))) [([2, 1], [2, 1]), ([1, 2], [1, 2])] r_103, Ob.v (tSl (tI .i64)) (ringE 2 [([2, 1], [2, 1]), ([1, 2], [1, 2])]) v_99, Ob.v (tSl (tP (tSl (tI .i64)) (tSl (tI .i64)))) [([2, 1], [2, 1]), ([1, 2], [1, 2])] r_90, Ob.v (tSl (tP (tSl (tI .i64)) (tSl (tI .i64)))) [([2, 1], [2, 1]), ([1, 2], [1, 2])] r_56, Ob.v (tSl (tP (tSl (tI .i64)) (tSl (tI .i64)))) [([1, 2], [2, 1]), ([2, 1], [1, 2]), ([1, 1], [2, 2])] r_47, Ob.v (tSl (tI .i64)) (leastL 2 [([1, 2], [2, 1]), ([2, 1], [1, 2]), ([1, 1], [2, 2])] 2 0) v_43, Ob.v (tSl (tP (tSl (tI .i64)) (tSl (tI .i64)))) [([1, 2], [2, 1]), ([2, 1], [1, 2]), ([1, 1], [2, 2])] r_34, .row (tP (tI .i64) (tI .i64)) 59 v_31 (pairsE (bS [([2, 1], [2, 1]), ([1, 2], [1, 2])]) 2 [([2, 1], [2, 1]), ([1, 2], [1, 2])]), Ob.v (tSl (tP (tSl (tI .i64)) (tSl (tI .i64)))) [([2, 1], [2, 1]), ([1, 2], [1, 2])] r_22, .row (tP (tI .i64) (tI .i64)) 59 v_19 (pairsE (gS [([1, 2], [2, 1]), ([2, 1], [1, 2]), ([1, 1], [2, 2])]) 2 [([1, 2], [2, 1]), ([2, 1], [1, 2]), ([1, 1], [2, 2])]), Ob.v (tSl (tP (tSl (tI .i64)) (tSl (tI .i64)))) [([1, 2], [2, 1]), ([2, 1], [1, 2]), ([1, 1], [2, 2])] r_10, Ob.v (tSl (tP (tSl (tI .i64)) (tSl (tI .i64)))) [([1, 2], [2, 1]), ([2, 1], [1, 2]), ([1, 1], [2, 2])] r_1]) ?_ ?_
    · rcases Bool.eq_false_or_eq_true (((((((((((((((((decide ((0 : Int) = 0) && decide ((0 : Int) = 0)) && decide ((0 : Int) = 0)) && decide ((0 : Int) = 0)) && decide ((13 : Int) = 13)) && decide ((13 : Int) = 13)) && decide ((12 : Int) = 12)) && decide ((5 : Int) = 5)) && true) && true) && true) && true) && true) && true) && true) && true) && decide ((0 : Int) = 0)) && decide ((0 : Int) = 0)) with g_375 | g_375
      · -- True
        have gp_376 := g_375
        try simp only [Bool.and_eq_true, Bool.or_eq_true, Bool.not_eq_true', Bool.and_eq_false_iff, Bool.or_eq_false_iff, Bool.not_eq_false', decide_eq_true_eq, decide_eq_false_iff_not, not_or, Bool.false_eq_true, Bool.true_eq_false, false_or, or_false, not_false_eq_true] at gp_376
        refine Wx.gyes rfl rfl (congrArg Value.bool g_375) ?_
        refine Wx.callF (run_callF Try.call43 rfl) (F43 hS.fb_lt) rfl ?_
        rintro r_377 w_378 hx_379 ⟨_, rfl, hv_380⟩
        have ln_382 := hv_380.len63
        have hS := hS.ext hx_379
        have hS := hS.add hv_380
        refine Wx.gyes rfl rfl (congrArg Value.bool g_375) ?_
        refine Wx.lit (t := (tI .i64)) (ys := [0, 0, 0]) (vs := [.int .i64 0, .int .i64 0, .int .i64 0]) elLi_39 hS rfl rfl ⟨(V.mkInt (in_i64 (by omega) (by omega))), ⟨(V.mkInt (in_i64 (by omega) (by omega))), ⟨(V.mkInt (in_i64 (by omega) (by omega))), trivial⟩⟩⟩ (by decide) rfl (fun v_383 w_384 hx_385 hS => ?_)
        refine Wx.gyes rfl rfl (congrArg Value.bool g_375) ?_
        have hS := hS.freeze 0 rfl
        refine Wx.callF (run_callF Try.call44 rfl) (F44 (hS.v 0 rfl) hS.fb_lt) rfl ?_
        rintro r_387 w_388 hx_389 ⟨_, rfl, hv_390⟩
        have ln_392 := hv_390.len63
        have hS := hS.ext hx_389
        have hS := hS.add hv_390
        refine Wx.gyes rfl rfl (congrArg Value.bool g_375) ?_
        refine Wx.lit (t := (tI .i64)) (ys := [1, 1, 1]) (vs := [.int .i64 1, .int .i64 1, .int .i64 1]) elLi_39 hS rfl rfl ⟨(V.mkInt (in_i64 (by omega) (by omega))), ⟨(V.mkInt (in_i64 (by omega) (by omega))), ⟨(V.mkInt (in_i64 (by omega) (by omega))), trivial⟩⟩⟩ (by decide) rfl (fun v_393 w_394 hx_395 hS => ?_)
        refine Wx.gyes rfl rfl (congrArg Value.bool g_375) ?_
        have hS := hS.freeze 0 rfl
        refine Wx.callF (run_callF Try.call44 rfl) (F44 (hS.v 0 rfl) hS.fb_lt) rfl ?_
        rintro r_397 w_398 hx_399 ⟨_, rfl, hv_400⟩
        have ln_402 := hv_400.len63
        have hS := hS.ext hx_399
        have hS := hS.add hv_400
        refine Wx.gyes rfl rfl (congrArg Value.bool g_375) ?_
        refine Wx.callF (run_callF Try.call37 rfl) (F37 (in_i64 (by omega) (by omega)) (hS.v 4 rfl) (hS.v 2 rfl) (hS.v 0 rfl) hS.fb_lt) rfl ?_
        rintro r_403 w_404 hx_405 rfl
        have hS := hS.ext hx_405
        rw [show (agreesE 2 [([1, 2], [2, 1]), ([2, 1], [1, 2]), ([1, 1], [2, 2])] [0, 0, 0] [1, 1, 1] : Int) = 14 from (by rw [agrC_eq]; decide +kernel)]
        refine Wx.gyes rfl rfl (congrArg Value.bool g_375) ?_
        refine Wx.rd (v := .bool (decide ((14 : Int) = 14))) (rd_eql rfl rfl) rfl ?_
        refine Wx.rd (v := .bool (decide ((14 : Int) = 14))) (rd_pickT (congrArg Value.bool g_375) rfl) rfl ?_
        refine Wx.nil ⟨(), St.tl (St.tl (St.tl (St.tl (hS.tl)))), ⟨?_, trivial⟩, Out.look rfl Out.refl⟩
        show Value.bool (decide ((14 : Int) = 14)) = Value.bool ((((((((((((((((((decide ((0 : Int) = 0) && decide ((0 : Int) = 0)) && decide ((0 : Int) = 0)) && decide ((0 : Int) = 0)) && decide ((13 : Int) = 13)) && decide ((13 : Int) = 13)) && decide ((12 : Int) = 12)) && decide ((5 : Int) = 5)) && true) && true) && true) && true) && true) && true) && true) && true) && decide ((0 : Int) = 0)) && decide ((0 : Int) = 0)) && decide ((14 : Int) = 14))
        first | rw [g_375, Bool.true_and] | (rw [g_375]; rfl)
      · -- False
        have gp_406 := g_375
        try simp only [Bool.and_eq_true, Bool.or_eq_true, Bool.not_eq_true', Bool.and_eq_false_iff, Bool.or_eq_false_iff, Bool.not_eq_false', decide_eq_true_eq, decide_eq_false_iff_not, not_or, Bool.false_eq_true, Bool.true_eq_false, false_or, or_false, not_false_eq_true] at gp_406
        refine Wx.gnoB rfl rfl (congrArg Value.bool g_375) rfl rfl ?_
        refine Wx.gnoB rfl rfl (congrArg Value.bool g_375) rfl rfl ?_
        refine Wx.gnoB rfl rfl (congrArg Value.bool g_375) rfl rfl ?_
        refine Wx.gnoB rfl rfl (congrArg Value.bool g_375) rfl rfl ?_
        refine Wx.gnoB rfl rfl (congrArg Value.bool g_375) rfl rfl ?_
        refine Wx.gnoB rfl rfl (congrArg Value.bool g_375) rfl rfl ?_
        refine Wx.gnoB rfl rfl (congrArg Value.bool g_375) rfl rfl ?_
        refine Wx.rd (v := .bool false) (rd_pickF (congrArg Value.bool g_375) rfl) rfl ?_
        refine Wx.nil ⟨(), hS, ⟨?_, trivial⟩, Out.look rfl Out.refl⟩
        show Value.bool false = Value.bool ((((((((((((((((((decide ((0 : Int) = 0) && decide ((0 : Int) = 0)) && decide ((0 : Int) = 0)) && decide ((0 : Int) = 0)) && decide ((13 : Int) = 13)) && decide ((13 : Int) = 13)) && decide ((12 : Int) = 12)) && decide ((5 : Int) = 5)) && true) && true) && true) && true) && true) && true) && true) && true) && decide ((0 : Int) = 0)) && decide ((0 : Int) = 0)) && decide ((14 : Int) = 14))
        first | rw [g_375, Bool.false_and] | (rw [g_375]; rfl)
    rintro ⟨⟩ u_408 w_407 hS
    refine Wx.rd (v := .bool ((((((((((((((((((decide ((0 : Int) = 0) && decide ((0 : Int) = 0)) && decide ((0 : Int) = 0)) && decide ((0 : Int) = 0)) && decide ((13 : Int) = 13)) && decide ((13 : Int) = 13)) && decide ((12 : Int) = 12)) && decide ((5 : Int) = 5)) && true) && true) && true) && true) && true) && true) && true) && true) && decide ((0 : Int) = 0)) && decide ((0 : Int) = 0)) && decide ((14 : Int) = 14))) (rd_move rfl) rfl ?_
    refine Wx.cut (X := Unit) 6 [210, 211, 212, 213, 214, 215] (fun _ => [(215, .bool (((((((((((((((((((decide ((0 : Int) = 0) && decide ((0 : Int) = 0)) && decide ((0 : Int) = 0)) && decide ((0 : Int) = 0)) && decide ((13 : Int) = 13)) && decide ((13 : Int) = 13)) && decide ((12 : Int) = 12)) && decide ((5 : Int) = 5)) && true) && true) && true) && true) && true) && true) && true) && true) && decide ((0 : Int) = 0)) && decide ((0 : Int) = 0)) && decide ((14 : Int) = 14)) && decide ((0 : Int) = 0)))]) (fun _ w' => St w O w' [Ob.v (tSl (tI .i64)) (leastL 2 [([1, 2], [2, 1]), ([2, 1], [1, 2]), ([1, 1], [2, 2])] 0 1) v_184, Ob.v (tSl (tP (tSl (tI .i64)) (tSl (tI .i64)))) [([1, 2], [2, 1]), ([2, 1], [1, 2]), ([1, 1], [2, 2])] r_175, Ob.v (tSl (tI .i64)) (numU 2 [([2, 1], [2, 1]), ([1, 2], [1, 2])]) v_168, Ob.v (tSl (tI .i64)) (numW 2 [([2, 1], [2, 1]), ([1, 2], [1, 2])]) v_167, Ob.v (tSl (tP (tSl (tI .i64)) (tSl (tI .i64)))) [([2, 1], [2, 1]), ([1, 2], [1, 2])] r_158, Ob.v (tSl (tI .i64)) (ringE 2 [([1, 2], [2, 1]), ([2, 1], [1, 2]), ([1, 1], [2, 2])]) v_154, Ob.v (tSl (tP (tSl (tI .i64)) (tSl (tI .i64)))) [([1, 2], [2, 1]), ([2, 1], [1, 2]), ([1, 1], [2, 2])] r_145, Ob.v (tSl (tI .i64)) (numU 2 [([1, 2], [2, 1]), ([2, 1], [1, 2]), ([1, 1], [2, 2])]) v_138, Ob.v (tSl (tI .i64)) (numW 2 [([1, 2], [2, 1]), ([2, 1], [1, 2]), ([1, 1], [2, 2])]) v_137, Ob.v (tSl (tP (tSl (tI .i64)) (tSl (tI .i64)))) [([1, 2], [2, 1]), ([2, 1], [1, 2]), ([1, 1], [2, 2])] r_128, .row (tI .i64) 3 v_125 (ranksL 2 [([1, 2], [2, 1]), ([2, 1], [1, 2]), ([1, 1], [2, 2])]), Ob.v (tSl (tP (tSl (tI .i64)) (tSl (tI .i64)))) [([1, 2], [2, 1]), ([2, 1], [1, 2]), ([1, 1], [2, 2])] r_116, Ob.v (tSl (tI .i64)) (wrongE 2 [([2, 1], [2, 1]), ([1, 2], [1, 2])]) v_112, Ob.v (tSl (tP (tSl (tI .i64)) (tSl (tI .i64)))) [([2, 1], [2, 1]), ([1, 2], [1, 2])] r_103, Ob.v (tSl (tI .i64)) (ringE 2 [([2, 1], [2, 1]), ([1, 2], [1, 2])]) v_99, Ob.v (tSl (tP (tSl (tI .i64)) (tSl (tI .i64)))) [([2, 1], [2, 1]), ([1, 2], [1, 2])] r_90, Ob.v (tSl (tP (tSl (tI .i64)) (tSl (tI .i64)))) [([2, 1], [2, 1]), ([1, 2], [1, 2])] r_56, Ob.v (tSl (tP (tSl (tI .i64)) (tSl (tI .i64)))) [([1, 2], [2, 1]), ([2, 1], [1, 2]), ([1, 1], [2, 2])] r_47, Ob.v (tSl (tI .i64)) (leastL 2 [([1, 2], [2, 1]), ([2, 1], [1, 2]), ([1, 1], [2, 2])] 2 0) v_43, Ob.v (tSl (tP (tSl (tI .i64)) (tSl (tI .i64)))) [([1, 2], [2, 1]), ([2, 1], [1, 2]), ([1, 1], [2, 2])] r_34, .row (tP (tI .i64) (tI .i64)) 59 v_31 (pairsE (bS [([2, 1], [2, 1]), ([1, 2], [1, 2])]) 2 [([2, 1], [2, 1]), ([1, 2], [1, 2])]), Ob.v (tSl (tP (tSl (tI .i64)) (tSl (tI .i64)))) [([2, 1], [2, 1]), ([1, 2], [1, 2])] r_22, .row (tP (tI .i64) (tI .i64)) 59 v_19 (pairsE (gS [([1, 2], [2, 1]), ([2, 1], [1, 2]), ([1, 1], [2, 2])]) 2 [([1, 2], [2, 1]), ([2, 1], [1, 2]), ([1, 1], [2, 2])]), Ob.v (tSl (tP (tSl (tI .i64)) (tSl (tI .i64)))) [([1, 2], [2, 1]), ([2, 1], [1, 2]), ([1, 1], [2, 2])] r_10, Ob.v (tSl (tP (tSl (tI .i64)) (tSl (tI .i64)))) [([1, 2], [2, 1]), ([2, 1], [1, 2]), ([1, 1], [2, 2])] r_1]) ?_ ?_
    · rcases Bool.eq_false_or_eq_true ((((((((((((((((((decide ((0 : Int) = 0) && decide ((0 : Int) = 0)) && decide ((0 : Int) = 0)) && decide ((0 : Int) = 0)) && decide ((13 : Int) = 13)) && decide ((13 : Int) = 13)) && decide ((12 : Int) = 12)) && decide ((5 : Int) = 5)) && true) && true) && true) && true) && true) && true) && true) && true) && decide ((0 : Int) = 0)) && decide ((0 : Int) = 0)) && decide ((14 : Int) = 14)) with g_409 | g_409
      · -- True
        have gp_410 := g_409
        try simp only [Bool.and_eq_true, Bool.or_eq_true, Bool.not_eq_true', Bool.and_eq_false_iff, Bool.or_eq_false_iff, Bool.not_eq_false', decide_eq_true_eq, decide_eq_false_iff_not, not_or, Bool.false_eq_true, Bool.true_eq_false, false_or, or_false, not_false_eq_true] at gp_410
        refine Wx.gyes rfl rfl (congrArg Value.bool g_409) ?_
        refine Wx.callF (run_callF Try.call45 rfl) (F45 hS.fb_lt) rfl ?_
        rintro r_411 w_412 hx_413 ⟨_, rfl, hv_414⟩
        have ln_416 := hv_414.len63
        have hS := hS.ext hx_413
        have hS := hS.add hv_414
        refine Wx.gyes rfl rfl (congrArg Value.bool g_409) ?_
        refine Wx.lit (t := (tI .i64)) (ys := [0, 1]) (vs := [.int .i64 0, .int .i64 1]) elLi_39 hS rfl rfl ⟨(V.mkInt (in_i64 (by omega) (by omega))), ⟨(V.mkInt (in_i64 (by omega) (by omega))), trivial⟩⟩ (by decide) rfl (fun v_417 w_418 hx_419 hS => ?_)
        refine Wx.gyes rfl rfl (congrArg Value.bool g_409) ?_
        have hS := hS.freeze 0 rfl
        refine Wx.callF (run_callF Try.call44 rfl) (F44 (hS.v 0 rfl) hS.fb_lt) rfl ?_
        rintro r_421 w_422 hx_423 ⟨_, rfl, hv_424⟩
        have ln_426 := hv_424.len63
        have hS := hS.ext hx_423
        have hS := hS.add hv_424
        refine Wx.gyes rfl rfl (congrArg Value.bool g_409) ?_
        refine Wx.callF (run_callF Try.call34 rfl) (F34 (in_i64 (by omega) (by omega)) (hS.v 2 rfl) (hS.v 0 rfl) (by decide) hS.fb_lt) rfl ?_
        rintro r_427 w_428 hx_429 rfl
        have hS := hS.ext hx_429
        rw [show (provesE 2 [([2, 1], [2, 1]), ([1, 2], [1, 2])] [0, 1] : Int) = 0 from (by decide +kernel)]
        refine Wx.gyes rfl rfl (congrArg Value.bool g_409) ?_
        refine Wx.rd (v := .bool (decide ((0 : Int) = 0))) (rd_eql rfl rfl) rfl ?_
        refine Wx.rd (v := .bool (decide ((0 : Int) = 0))) (rd_pickT (congrArg Value.bool g_409) rfl) rfl ?_
        refine Wx.nil ⟨(), St.tl (St.tl (hS.tl)), ⟨?_, trivial⟩, Out.look rfl Out.refl⟩
        show Value.bool (decide ((0 : Int) = 0)) = Value.bool (((((((((((((((((((decide ((0 : Int) = 0) && decide ((0 : Int) = 0)) && decide ((0 : Int) = 0)) && decide ((0 : Int) = 0)) && decide ((13 : Int) = 13)) && decide ((13 : Int) = 13)) && decide ((12 : Int) = 12)) && decide ((5 : Int) = 5)) && true) && true) && true) && true) && true) && true) && true) && true) && decide ((0 : Int) = 0)) && decide ((0 : Int) = 0)) && decide ((14 : Int) = 14)) && decide ((0 : Int) = 0))
        first | rw [g_409, Bool.true_and] | (rw [g_409]; rfl)
      · -- False
        have gp_430 := g_409
        try simp only [Bool.and_eq_true, Bool.or_eq_true, Bool.not_eq_true', Bool.and_eq_false_iff, Bool.or_eq_false_iff, Bool.not_eq_false', decide_eq_true_eq, decide_eq_false_iff_not, not_or, Bool.false_eq_true, Bool.true_eq_false, false_or, or_false, not_false_eq_true] at gp_430
        refine Wx.gnoB rfl rfl (congrArg Value.bool g_409) rfl rfl ?_
        refine Wx.gnoB rfl rfl (congrArg Value.bool g_409) rfl rfl ?_
        refine Wx.gnoB rfl rfl (congrArg Value.bool g_409) rfl rfl ?_
        refine Wx.gnoB rfl rfl (congrArg Value.bool g_409) rfl rfl ?_
        refine Wx.gnoB rfl rfl (congrArg Value.bool g_409) rfl rfl ?_
        refine Wx.rd (v := .bool false) (rd_pickF (congrArg Value.bool g_409) rfl) rfl ?_
        refine Wx.nil ⟨(), hS, ⟨?_, trivial⟩, Out.look rfl Out.refl⟩
        show Value.bool false = Value.bool (((((((((((((((((((decide ((0 : Int) = 0) && decide ((0 : Int) = 0)) && decide ((0 : Int) = 0)) && decide ((0 : Int) = 0)) && decide ((13 : Int) = 13)) && decide ((13 : Int) = 13)) && decide ((12 : Int) = 12)) && decide ((5 : Int) = 5)) && true) && true) && true) && true) && true) && true) && true) && true) && decide ((0 : Int) = 0)) && decide ((0 : Int) = 0)) && decide ((14 : Int) = 14)) && decide ((0 : Int) = 0))
        first | rw [g_409, Bool.false_and] | (rw [g_409]; rfl)
    rintro ⟨⟩ u_432 w_431 hS
    refine Wx.rd (v := .bool (((((((((((((((((((decide ((0 : Int) = 0) && decide ((0 : Int) = 0)) && decide ((0 : Int) = 0)) && decide ((0 : Int) = 0)) && decide ((13 : Int) = 13)) && decide ((13 : Int) = 13)) && decide ((12 : Int) = 12)) && decide ((5 : Int) = 5)) && true) && true) && true) && true) && true) && true) && true) && true) && decide ((0 : Int) = 0)) && decide ((0 : Int) = 0)) && decide ((14 : Int) = 14)) && decide ((0 : Int) = 0))) (rd_move rfl) rfl ?_
    refine Wx.cut (X := Unit) 6 [217, 218, 219, 220, 221, 222] (fun _ => [(222, .bool ((((((((((((((((((((decide ((0 : Int) = 0) && decide ((0 : Int) = 0)) && decide ((0 : Int) = 0)) && decide ((0 : Int) = 0)) && decide ((13 : Int) = 13)) && decide ((13 : Int) = 13)) && decide ((12 : Int) = 12)) && decide ((5 : Int) = 5)) && true) && true) && true) && true) && true) && true) && true) && true) && decide ((0 : Int) = 0)) && decide ((0 : Int) = 0)) && decide ((14 : Int) = 14)) && decide ((0 : Int) = 0)) && decide ((14 : Int) = 14)))]) (fun _ w' => St w O w' [Ob.v (tSl (tI .i64)) (leastL 2 [([1, 2], [2, 1]), ([2, 1], [1, 2]), ([1, 1], [2, 2])] 0 1) v_184, Ob.v (tSl (tP (tSl (tI .i64)) (tSl (tI .i64)))) [([1, 2], [2, 1]), ([2, 1], [1, 2]), ([1, 1], [2, 2])] r_175, Ob.v (tSl (tI .i64)) (numU 2 [([2, 1], [2, 1]), ([1, 2], [1, 2])]) v_168, Ob.v (tSl (tI .i64)) (numW 2 [([2, 1], [2, 1]), ([1, 2], [1, 2])]) v_167, Ob.v (tSl (tP (tSl (tI .i64)) (tSl (tI .i64)))) [([2, 1], [2, 1]), ([1, 2], [1, 2])] r_158, Ob.v (tSl (tI .i64)) (ringE 2 [([1, 2], [2, 1]), ([2, 1], [1, 2]), ([1, 1], [2, 2])]) v_154, Ob.v (tSl (tP (tSl (tI .i64)) (tSl (tI .i64)))) [([1, 2], [2, 1]), ([2, 1], [1, 2]), ([1, 1], [2, 2])] r_145, Ob.v (tSl (tI .i64)) (numU 2 [([1, 2], [2, 1]), ([2, 1], [1, 2]), ([1, 1], [2, 2])]) v_138, Ob.v (tSl (tI .i64)) (numW 2 [([1, 2], [2, 1]), ([2, 1], [1, 2]), ([1, 1], [2, 2])]) v_137, Ob.v (tSl (tP (tSl (tI .i64)) (tSl (tI .i64)))) [([1, 2], [2, 1]), ([2, 1], [1, 2]), ([1, 1], [2, 2])] r_128, .row (tI .i64) 3 v_125 (ranksL 2 [([1, 2], [2, 1]), ([2, 1], [1, 2]), ([1, 1], [2, 2])]), Ob.v (tSl (tP (tSl (tI .i64)) (tSl (tI .i64)))) [([1, 2], [2, 1]), ([2, 1], [1, 2]), ([1, 1], [2, 2])] r_116, Ob.v (tSl (tI .i64)) (wrongE 2 [([2, 1], [2, 1]), ([1, 2], [1, 2])]) v_112, Ob.v (tSl (tP (tSl (tI .i64)) (tSl (tI .i64)))) [([2, 1], [2, 1]), ([1, 2], [1, 2])] r_103, Ob.v (tSl (tI .i64)) (ringE 2 [([2, 1], [2, 1]), ([1, 2], [1, 2])]) v_99, Ob.v (tSl (tP (tSl (tI .i64)) (tSl (tI .i64)))) [([2, 1], [2, 1]), ([1, 2], [1, 2])] r_90, Ob.v (tSl (tP (tSl (tI .i64)) (tSl (tI .i64)))) [([2, 1], [2, 1]), ([1, 2], [1, 2])] r_56, Ob.v (tSl (tP (tSl (tI .i64)) (tSl (tI .i64)))) [([1, 2], [2, 1]), ([2, 1], [1, 2]), ([1, 1], [2, 2])] r_47, Ob.v (tSl (tI .i64)) (leastL 2 [([1, 2], [2, 1]), ([2, 1], [1, 2]), ([1, 1], [2, 2])] 2 0) v_43, Ob.v (tSl (tP (tSl (tI .i64)) (tSl (tI .i64)))) [([1, 2], [2, 1]), ([2, 1], [1, 2]), ([1, 1], [2, 2])] r_34, .row (tP (tI .i64) (tI .i64)) 59 v_31 (pairsE (bS [([2, 1], [2, 1]), ([1, 2], [1, 2])]) 2 [([2, 1], [2, 1]), ([1, 2], [1, 2])]), Ob.v (tSl (tP (tSl (tI .i64)) (tSl (tI .i64)))) [([2, 1], [2, 1]), ([1, 2], [1, 2])] r_22, .row (tP (tI .i64) (tI .i64)) 59 v_19 (pairsE (gS [([1, 2], [2, 1]), ([2, 1], [1, 2]), ([1, 1], [2, 2])]) 2 [([1, 2], [2, 1]), ([2, 1], [1, 2]), ([1, 1], [2, 2])]), Ob.v (tSl (tP (tSl (tI .i64)) (tSl (tI .i64)))) [([1, 2], [2, 1]), ([2, 1], [1, 2]), ([1, 1], [2, 2])] r_10, Ob.v (tSl (tP (tSl (tI .i64)) (tSl (tI .i64)))) [([1, 2], [2, 1]), ([2, 1], [1, 2]), ([1, 1], [2, 2])] r_1]) ?_ ?_
    · rcases Bool.eq_false_or_eq_true (((((((((((((((((((decide ((0 : Int) = 0) && decide ((0 : Int) = 0)) && decide ((0 : Int) = 0)) && decide ((0 : Int) = 0)) && decide ((13 : Int) = 13)) && decide ((13 : Int) = 13)) && decide ((12 : Int) = 12)) && decide ((5 : Int) = 5)) && true) && true) && true) && true) && true) && true) && true) && true) && decide ((0 : Int) = 0)) && decide ((0 : Int) = 0)) && decide ((14 : Int) = 14)) && decide ((0 : Int) = 0)) with g_433 | g_433
      · -- True
        have gp_434 := g_433
        try simp only [Bool.and_eq_true, Bool.or_eq_true, Bool.not_eq_true', Bool.and_eq_false_iff, Bool.or_eq_false_iff, Bool.not_eq_false', decide_eq_true_eq, decide_eq_false_iff_not, not_or, Bool.false_eq_true, Bool.true_eq_false, false_or, or_false, not_false_eq_true] at gp_434
        refine Wx.gyes rfl rfl (congrArg Value.bool g_433) ?_
        refine Wx.callF (run_callF Try.call45 rfl) (F45 hS.fb_lt) rfl ?_
        rintro r_435 w_436 hx_437 ⟨_, rfl, hv_438⟩
        have ln_440 := hv_438.len63
        have hS := hS.ext hx_437
        have hS := hS.add hv_438
        refine Wx.gyes rfl rfl (congrArg Value.bool g_433) ?_
        refine Wx.lit (t := (tI .i64)) (ys := [1, 0]) (vs := [.int .i64 1, .int .i64 0]) elLi_39 hS rfl rfl ⟨(V.mkInt (in_i64 (by omega) (by omega))), ⟨(V.mkInt (in_i64 (by omega) (by omega))), trivial⟩⟩ (by decide) rfl (fun v_441 w_442 hx_443 hS => ?_)
        refine Wx.gyes rfl rfl (congrArg Value.bool g_433) ?_
        have hS := hS.freeze 0 rfl
        refine Wx.callF (run_callF Try.call44 rfl) (F44 (hS.v 0 rfl) hS.fb_lt) rfl ?_
        rintro r_445 w_446 hx_447 ⟨_, rfl, hv_448⟩
        have ln_450 := hv_448.len63
        have hS := hS.ext hx_447
        have hS := hS.add hv_448
        refine Wx.gyes rfl rfl (congrArg Value.bool g_433) ?_
        refine Wx.callF (run_callF Try.call34 rfl) (F34 (in_i64 (by omega) (by omega)) (hS.v 2 rfl) (hS.v 0 rfl) (by decide) hS.fb_lt) rfl ?_
        rintro r_451 w_452 hx_453 rfl
        have hS := hS.ext hx_453
        rw [show (provesE 2 [([2, 1], [2, 1]), ([1, 2], [1, 2])] [1, 0] : Int) = 14 from (by decide +kernel)]
        refine Wx.gyes rfl rfl (congrArg Value.bool g_433) ?_
        refine Wx.rd (v := .bool (decide ((14 : Int) = 14))) (rd_eql rfl rfl) rfl ?_
        refine Wx.rd (v := .bool (decide ((14 : Int) = 14))) (rd_pickT (congrArg Value.bool g_433) rfl) rfl ?_
        refine Wx.nil ⟨(), St.tl (St.tl (hS.tl)), ⟨?_, trivial⟩, Out.look rfl Out.refl⟩
        show Value.bool (decide ((14 : Int) = 14)) = Value.bool ((((((((((((((((((((decide ((0 : Int) = 0) && decide ((0 : Int) = 0)) && decide ((0 : Int) = 0)) && decide ((0 : Int) = 0)) && decide ((13 : Int) = 13)) && decide ((13 : Int) = 13)) && decide ((12 : Int) = 12)) && decide ((5 : Int) = 5)) && true) && true) && true) && true) && true) && true) && true) && true) && decide ((0 : Int) = 0)) && decide ((0 : Int) = 0)) && decide ((14 : Int) = 14)) && decide ((0 : Int) = 0)) && decide ((14 : Int) = 14))
        first | rw [g_433, Bool.true_and] | (rw [g_433]; rfl)
      · -- False
        have gp_454 := g_433
        try simp only [Bool.and_eq_true, Bool.or_eq_true, Bool.not_eq_true', Bool.and_eq_false_iff, Bool.or_eq_false_iff, Bool.not_eq_false', decide_eq_true_eq, decide_eq_false_iff_not, not_or, Bool.false_eq_true, Bool.true_eq_false, false_or, or_false, not_false_eq_true] at gp_454
        refine Wx.gnoB rfl rfl (congrArg Value.bool g_433) rfl rfl ?_
        refine Wx.gnoB rfl rfl (congrArg Value.bool g_433) rfl rfl ?_
        refine Wx.gnoB rfl rfl (congrArg Value.bool g_433) rfl rfl ?_
        refine Wx.gnoB rfl rfl (congrArg Value.bool g_433) rfl rfl ?_
        refine Wx.gnoB rfl rfl (congrArg Value.bool g_433) rfl rfl ?_
        refine Wx.rd (v := .bool false) (rd_pickF (congrArg Value.bool g_433) rfl) rfl ?_
        refine Wx.nil ⟨(), hS, ⟨?_, trivial⟩, Out.look rfl Out.refl⟩
        show Value.bool false = Value.bool ((((((((((((((((((((decide ((0 : Int) = 0) && decide ((0 : Int) = 0)) && decide ((0 : Int) = 0)) && decide ((0 : Int) = 0)) && decide ((13 : Int) = 13)) && decide ((13 : Int) = 13)) && decide ((12 : Int) = 12)) && decide ((5 : Int) = 5)) && true) && true) && true) && true) && true) && true) && true) && true) && decide ((0 : Int) = 0)) && decide ((0 : Int) = 0)) && decide ((14 : Int) = 14)) && decide ((0 : Int) = 0)) && decide ((14 : Int) = 14))
        first | rw [g_433, Bool.false_and] | (rw [g_433]; rfl)
    rintro ⟨⟩ u_456 w_455 hS
    refine Wx.rd (v := .bool ((((((((((((((((((((decide ((0 : Int) = 0) && decide ((0 : Int) = 0)) && decide ((0 : Int) = 0)) && decide ((0 : Int) = 0)) && decide ((13 : Int) = 13)) && decide ((13 : Int) = 13)) && decide ((12 : Int) = 12)) && decide ((5 : Int) = 5)) && true) && true) && true) && true) && true) && true) && true) && true) && decide ((0 : Int) = 0)) && decide ((0 : Int) = 0)) && decide ((14 : Int) = 14)) && decide ((0 : Int) = 0)) && decide ((14 : Int) = 14))) (rd_assign rfl) rfl ?_
    refine Wx.nil ?_
    have e1_0 : ((((((((((((((((((((decide ((0 : Int) = 0) && decide ((0 : Int) = 0)) && decide ((0 : Int) = 0)) && decide ((0 : Int) = 0)) && decide ((13 : Int) = 13)) && decide ((13 : Int) = 13)) && decide ((12 : Int) = 12)) && decide ((5 : Int) = 5)) && true) && true) && true) && true) && true) && true) && true) && true) && decide ((0 : Int) = 0)) && decide ((0 : Int) = 0)) && decide ((14 : Int) = 14)) && decide ((0 : Int) = 0)) && decide ((14 : Int) = 14)) = true := by first | rfl | omega
    exact W.ret ⟨.bool ((((((((((((((((((((decide ((0 : Int) = 0) && decide ((0 : Int) = 0)) && decide ((0 : Int) = 0)) && decide ((0 : Int) = 0)) && decide ((13 : Int) = 13)) && decide ((13 : Int) = 13)) && decide ((12 : Int) = 12)) && decide ((5 : Int) = 5)) && true) && true) && true) && true) && true) && true) && true) && true) && decide ((0 : Int) = 0)) && decide ((0 : Int) = 0)) && decide ((14 : Int) = 14)) && decide ((0 : Int) = 0)) && decide ((14 : Int) = 14)), ResIs.one, hS.bel, (by rw [e1_0])⟩
end Go.Proofs.Ytjbcpggikaeleaa

namespace Go.Proofs.Ytjbcpggikaeleaa
open Go.Wk Go.RowKit Go.Lib
set_option linter.unusedVariables false
set_option linter.unusedSimpArgs false
end Go.Proofs.Ytjbcpggikaeleaa

namespace Go.Proofs.Ytjbcpggikaeleaa
open Go.Wk Go.RowKit Go.Lib
set_option linter.unusedVariables false
set_option linter.unusedSimpArgs false
end Go.Proofs.Ytjbcpggikaeleaa

namespace Go.Proofs.Ytjbcpggikaeleaa
open Go.Wk Go.RowKit Go.Lib
set_option linter.unusedVariables false
set_option linter.unusedSimpArgs false
end Go.Proofs.Ytjbcpggikaeleaa

namespace Go.Proofs.Ytjbcpggikaeleaa
open Go.Wk Go.RowKit Go.Lib
set_option linter.unusedVariables false
set_option linter.unusedSimpArgs false
end Go.Proofs.Ytjbcpggikaeleaa

namespace Go.Proofs.Ytjbcpggikaeleaa
open Go.Wk Go.RowKit Go.Lib
set_option linter.unusedVariables false
set_option linter.unusedSimpArgs false
end Go.Proofs.Ytjbcpggikaeleaa

namespace Go.Proofs.Ytjbcpggikaeleaa
open Go.Wk Go.RowKit Go.Lib
set_option linter.unusedVariables false
set_option linter.unusedSimpArgs false
end Go.Proofs.Ytjbcpggikaeleaa

namespace Go.Proofs.Ytjbcpggikaeleaa
open Go.Wk Go.RowKit Go.Lib
set_option linter.unusedVariables false
set_option linter.unusedSimpArgs false
end Go.Proofs.Ytjbcpggikaeleaa

namespace Go.Proofs.Ytjbcpggikaeleaa
open Go.Wk Go.RowKit Go.Lib
set_option linter.unusedVariables false
set_option linter.unusedSimpArgs false
end Go.Proofs.Ytjbcpggikaeleaa

namespace Go.Proofs.Ytjbcpggikaeleaa
open Go.Wk Go.RowKit Go.Lib
set_option linter.unusedVariables false
set_option linter.unusedSimpArgs false
end Go.Proofs.Ytjbcpggikaeleaa

namespace Go.Proofs.Ytjbcpggikaeleaa
open Go.Wk Go.RowKit Go.Lib
set_option linter.unusedVariables false
set_option linter.unusedSimpArgs false
end Go.Proofs.Ytjbcpggikaeleaa

namespace Go.Proofs.Ytjbcpggikaeleaa
open Go.Wk Go.RowKit Go.Lib
set_option linter.unusedVariables false
set_option linter.unusedSimpArgs false


end Go.Proofs.Ytjbcpggikaeleaa
