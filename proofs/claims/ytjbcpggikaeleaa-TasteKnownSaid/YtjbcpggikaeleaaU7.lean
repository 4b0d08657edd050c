/-
  WHAT IS PROVED HERE, TEXT BY TEXT (several texts of one prover, joined to one file; the conditions stand in each statement):
  * WHAT IS PROVED HERE: what functions of layer 10 hand back, each out of its own code; the conditions stand in each statement.
  * WHAT IS PROVED HERE: the given statement of TasteKnown: for every input it returns true, and each argument reads as it did. Conditions: none.
-/
import Derived.Test.YtjbcpggikaeleaaProg
import Derived.Test.YtjbcpggikaeleaaU2
import Derived.Test.YtjbcpggikaeleaaU6
import Derived.Test.YtjbcpggikaeleaaRows
import Derived.WalkKit
import Derived.ProofKit
import Derived.OpenShut
import Derived.Carry
import Derived.Lib.SmallJoins

set_option linter.unusedVariables false
set_option linter.unusedSimpArgs false

namespace Go.Proofs.Ytjbcpggikaeleaa
open Go.Wk Go.RowKit Go.Lib
set_option linter.unusedVariables false
set_option linter.unusedSimpArgs false
theorem elLk_39 : ElemI Try.prog 39 3 (.int .i64 0) 1 8 := ElemI.of Try.underlying39 (by kernel_rfl) (by first | rfl | kernel_rfl) (by decide)
theorem elLk_22 : ElemI Try.prog 22 62 (.agg #[(.slice none 0 0), (.slice none 0 0)]) 2 48 := ElemI.of Try.underlying22 (by kernel_rfl) (by first | rfl | kernel_rfl) (by decide)
theorem elLk_31 : ElemI Try.prog 31 59 (.agg #[.int .i64 0, .int .i64 0]) 2 16 := ElemI.of Try.underlying31 (by kernel_rfl) (by first | rfl | kernel_rfl) (by decide)
theorem foLk_62_0 : fldOff Try.prog 62 0 = some 0 := by kernel_rfl

theorem SOW {O : List (Option Nat)} {w : World} (hO : ∀ b, some b ∈ O → b < w.heap.size) : Calls Try.prog 43 #[] w (Ret w (fun r w' => ∃ rv, r = rv ∧ FreshO (tP (tSl (tI .i64)) (tSl (tI .i64))) 62 [([1, 2], [2, 1]), ([2, 1], [1, 2]), ([1, 1], [2, 2])] rv O w.heap.size w')) := by
  have hS := St.start w O hO
  refine enterR Try.func43 rfl Try.ntmps43 Try.results43 rfl ?_
  refine W.seq ?_
  refine W.reg ?_
  refine Wx.rd (v := (.slice none 0 0)) (rd_assign rfl) rfl ?_
  refine Wx.nil ?_
  refine W.seq ?_
  refine W.reg ?_
  refine Wx.lit (t := (tI .i64)) (ys := [1, 2]) (vs := [.int .i64 1, .int .i64 2]) elLk_39 hS rfl rfl ⟨(V.mkInt (in_i64 (by omega) (by omega))), ⟨(V.mkInt (in_i64 (by omega) (by omega))), trivial⟩⟩ (by decide) rfl (fun v_1 w_2 hx_3 hS => ?_)
  have hS := hS.freeze 0 rfl
  refine Wx.callF (run_callF Try.call44 rfl) (F44 (hS.v 0 rfl) hS.fb_lt) rfl ?_
  rintro r_5 w_6 hx_7 ⟨_, rfl, hv_8⟩
  have ln_10 := hv_8.len63
  have hS := hS.ext hx_7
  have hS := hS.add hv_8
  refine Wx.lit (t := (tI .i64)) (ys := [2, 1]) (vs := [.int .i64 2, .int .i64 1]) elLk_39 hS rfl rfl ⟨(V.mkInt (in_i64 (by omega) (by omega))), ⟨(V.mkInt (in_i64 (by omega) (by omega))), trivial⟩⟩ (by decide) rfl (fun v_11 w_12 hx_13 hS => ?_)
  have hS := hS.freeze 0 rfl
  refine Wx.callF (run_callF Try.call44 rfl) (F44 (hS.v 0 rfl) hS.fb_lt) rfl ?_
  rintro r_15 w_16 hx_17 ⟨_, rfl, hv_18⟩
  have ln_20 := hv_18.len63
  have hS := hS.ext hx_17
  have hS := hS.add hv_18
  refine Wx.rd (v := .agg #[r_5, r_15]) (rd_buildC (vs := [(0, r_5), (1, r_15)]) (us := [(0, .agg #[r_5]), (1, .agg #[r_15])]) rfl (parts_cons (Go.Wk.cells_one (V.oneC (hS.v 2 rfl))) (parts_cons (Go.Wk.cells_one (V.oneC (hS.v 0 rfl))) parts_nil)) (by kernel_rfl)) rfl ?_
  refine Wx.lit (t := (tI .i64)) (ys := [2, 1]) (vs := [.int .i64 2, .int .i64 1]) elLk_39 hS rfl rfl ⟨(V.mkInt (in_i64 (by omega) (by omega))), ⟨(V.mkInt (in_i64 (by omega) (by omega))), trivial⟩⟩ (by decide) rfl (fun v_21 w_22 hx_23 hS => ?_)
  have hS := hS.freeze 0 rfl
  refine Wx.callF (run_callF Try.call44 rfl) (F44 (hS.v 0 rfl) hS.fb_lt) rfl ?_
  rintro r_25 w_26 hx_27 ⟨_, rfl, hv_28⟩
  have ln_30 := hv_28.len63
  have hS := hS.ext hx_27
  have hS := hS.add hv_28
  refine Wx.lit (t := (tI .i64)) (ys := [1, 2]) (vs := [.int .i64 1, .int .i64 2]) elLk_39 hS rfl rfl ⟨(V.mkInt (in_i64 (by omega) (by omega))), ⟨(V.mkInt (in_i64 (by omega) (by omega))), trivial⟩⟩ (by decide) rfl (fun v_31 w_32 hx_33 hS => ?_)
  have hS := hS.freeze 0 rfl
  refine Wx.callF (run_callF Try.call44 rfl) (F44 (hS.v 0 rfl) hS.fb_lt) rfl ?_
  rintro r_35 w_36 hx_37 ⟨_, rfl, hv_38⟩
  have ln_40 := hv_38.len63
  have hS := hS.ext hx_37
  have hS := hS.add hv_38
  refine Wx.rd (v := .agg #[r_25, r_35]) (rd_buildC (vs := [(0, r_25), (1, r_35)]) (us := [(0, .agg #[r_25]), (1, .agg #[r_35])]) rfl (parts_cons (Go.Wk.cells_one (V.oneC (hS.v 2 rfl))) (parts_cons (Go.Wk.cells_one (V.oneC (hS.v 0 rfl))) parts_nil)) (by kernel_rfl)) rfl ?_
  refine Wx.lit (t := (tI .i64)) (ys := [1, 1]) (vs := [.int .i64 1, .int .i64 1]) elLk_39 hS rfl rfl ⟨(V.mkInt (in_i64 (by omega) (by omega))), ⟨(V.mkInt (in_i64 (by omega) (by omega))), trivial⟩⟩ (by decide) rfl (fun v_41 w_42 hx_43 hS => ?_)
  have hS := hS.freeze 0 rfl
  refine Wx.callF (run_callF Try.call44 rfl) (F44 (hS.v 0 rfl) hS.fb_lt) rfl ?_
  rintro r_45 w_46 hx_47 ⟨_, rfl, hv_48⟩
  have ln_50 := hv_48.len63
  have hS := hS.ext hx_47
  have hS := hS.add hv_48
  refine Wx.lit (t := (tI .i64)) (ys := [2, 2]) (vs := [.int .i64 2, .int .i64 2]) elLk_39 hS rfl rfl ⟨(V.mkInt (in_i64 (by omega) (by omega))), ⟨(V.mkInt (in_i64 (by omega) (by omega))), trivial⟩⟩ (by decide) rfl (fun v_51 w_52 hx_53 hS => ?_)
  have hS := hS.freeze 0 rfl
  refine Wx.callF (run_callF Try.call44 rfl) (F44 (hS.v 0 rfl) hS.fb_lt) rfl ?_
  rintro r_55 w_56 hx_57 ⟨_, rfl, hv_58⟩
  have ln_60 := hv_58.len63
  have hS := hS.ext hx_57
  have hS := hS.add hv_58
  refine Wx.rd (v := .agg #[r_45, r_55]) (rd_buildC (vs := [(0, r_45), (1, r_55)]) (us := [(0, .agg #[r_45]), (1, .agg #[r_55])]) rfl (parts_cons (Go.Wk.cells_one (V.oneC (hS.v 2 rfl))) (parts_cons (Go.Wk.cells_one (V.oneC (hS.v 0 rfl))) parts_nil)) (by kernel_rfl)) rfl ?_
  refine Wx.lit (t := (tP (tSl (tI .i64)) (tSl (tI .i64)))) (ys := [([1, 2], [2, 1]), ([2, 1], [1, 2]), ([1, 1], [2, 2])]) (vs := [.agg #[r_5, r_15], .agg #[r_25, r_35], .agg #[r_45, r_55]]) elLk_22 hS rfl rfl ⟨(V.mkS2 (z := ([1, 2], [2, 1])) (hS.v 10 rfl) (hS.v 8 rfl)), ⟨(V.mkS2 (z := ([2, 1], [1, 2])) (hS.v 6 rfl) (hS.v 4 rfl)), ⟨(V.mkS2 (z := ([1, 1], [2, 2])) (hS.v 2 rfl) (hS.v 0 rfl)), trivial⟩⟩⟩ (by decide) rfl (fun v_61 w_62 hx_63 hS => ?_)
  refine Wx.rd (v := v_61) (rd_assign rfl) rfl ?_
  refine Wx.nil ?_
  exact W.ret ⟨v_61, ResIs.one, hS.bel, ⟨v_61, rfl, (hS.frO 0 rfl)⟩⟩

set_option maxHeartbeats 4000000 in
set_option maxRecDepth 10000 in
theorem F7 {O : List (Option Nat)} {w : World} (hO : ∀ b, some b ∈ O → b < w.heap.size) : Calls Try.prog 7 #[] w (Ret w (fun r _ => r = .bool true)) := by
  have hS := St.start w O hO
  refine enterR Try.func7 rfl Try.ntmps7 Try.results7 rfl ?_
  refine W.seq ?_
  refine W.reg ?_
  refine Wx.rd (v := .bool false) (rd_assign rfl) rfl ?_
  refine Wx.nil ?_
  refine W.seq ?_
  refine W.reg ?_
  refine Wx.callF (run_callF Try.call43 rfl) (F43 hS.fb_lt) rfl ?_
  rintro r_1 w_2 hx_3 ⟨_, rfl, hv_4⟩
  have ln_6 := hv_4.len63
  have hS := hS.ext hx_3
  have hS := hS.add hv_4
  refine Wx.callF (run_callF Try.call18 rfl) (F18 (in_i64 (by omega) (by omega)) (hS.v 0 rfl) (in_i64 (by omega) (by omega)) (in_i64 (by omega) (by omega)) hS.fb_lt) rfl ?_
  rintro r_7 w_8 hx_9 rfl
  have hS := hS.ext hx_9
  refine Wx.rd (v := .tuple #[.int .i64 (costE 2 [([1, 2], [2, 1]), ([2, 1], [1, 2]), ([1, 1], [2, 2])] 1 0), .int .i64 (twoE 2 [([1, 2], [2, 1]), ([2, 1], [1, 2]), ([1, 1], [2, 2])] 1 0)]) (rd_move rfl) rfl ?_
  refine Wx.rd (v := .int .i64 (costE 2 [([1, 2], [2, 1]), ([2, 1], [1, 2]), ([1, 1], [2, 2])] 1 0)) (rd_extract rfl rfl) rfl ?_
  refine Wx.rd (v := .int .i64 (twoE 2 [([1, 2], [2, 1]), ([2, 1], [1, 2]), ([1, 1], [2, 2])] 1 0)) (rd_extract rfl rfl) rfl ?_
  refine Wx.rd (v := .int .i64 5) (Rd.to (v := .int .i64 (costE 2 [([1, 2], [2, 1]), ([2, 1], [1, 2]), ([1, 1], [2, 2])] 1 0)) (rd_assign rfl) (congrArg (Value.int .i64) (show (5 : Int) = (costE 2 [([1, 2], [2, 1]), ([2, 1], [1, 2]), ([1, 1], [2, 2])] 1 0 : Int) from (by decide +kernel)).symm)) rfl ?_
  refine Wx.rd (v := .int .i64 0) (Rd.to (v := .int .i64 (twoE 2 [([1, 2], [2, 1]), ([2, 1], [1, 2]), ([1, 1], [2, 2])] 1 0)) (rd_assign rfl) (congrArg (Value.int .i64) (show (0 : Int) = (twoE 2 [([1, 2], [2, 1]), ([2, 1], [1, 2]), ([1, 1], [2, 2])] 1 0 : Int) from (by decide +kernel)).symm)) rfl ?_
  refine Wx.nil ?_
  refine W.seq ?_
  refine W.reg ?_
  refine Wx.callF (run_callF Try.call43 rfl) (F43 hS.fb_lt) rfl ?_
  rintro r_10 w_11 hx_12 ⟨_, rfl, hv_13⟩
  have ln_15 := hv_13.len63
  have hS := hS.ext hx_12
  have hS := hS.add hv_13
  refine Wx.callF (run_callF Try.call18 rfl) (F18 (in_i64 (by omega) (by omega)) (hS.v 0 rfl) (in_i64 (by omega) (by omega)) (in_i64 (by omega) (by omega)) hS.fb_lt) rfl ?_
  rintro r_16 w_17 hx_18 rfl
  have hS := hS.ext hx_18
  refine Wx.rd (v := .tuple #[.int .i64 (costE 2 [([1, 2], [2, 1]), ([2, 1], [1, 2]), ([1, 1], [2, 2])] 2 0), .int .i64 (twoE 2 [([1, 2], [2, 1]), ([2, 1], [1, 2]), ([1, 1], [2, 2])] 2 0)]) (rd_move rfl) rfl ?_
  refine Wx.rd (v := .int .i64 (costE 2 [([1, 2], [2, 1]), ([2, 1], [1, 2]), ([1, 1], [2, 2])] 2 0)) (rd_extract rfl rfl) rfl ?_
  refine Wx.rd (v := .int .i64 (twoE 2 [([1, 2], [2, 1]), ([2, 1], [1, 2]), ([1, 1], [2, 2])] 2 0)) (rd_extract rfl rfl) rfl ?_
  refine Wx.rd (v := .int .i64 3) (Rd.to (v := .int .i64 (costE 2 [([1, 2], [2, 1]), ([2, 1], [1, 2]), ([1, 1], [2, 2])] 2 0)) (rd_assign rfl) (congrArg (Value.int .i64) (show (3 : Int) = (costE 2 [([1, 2], [2, 1]), ([2, 1], [1, 2]), ([1, 1], [2, 2])] 2 0 : Int) from (by decide +kernel)).symm)) rfl ?_
  refine Wx.rd (v := .int .i64 0) (Rd.to (v := .int .i64 (twoE 2 [([1, 2], [2, 1]), ([2, 1], [1, 2]), ([1, 1], [2, 2])] 2 0)) (rd_assign rfl) (congrArg (Value.int .i64) (show (0 : Int) = (twoE 2 [([1, 2], [2, 1]), ([2, 1], [1, 2]), ([1, 1], [2, 2])] 2 0 : Int) from (by decide +kernel)).symm)) rfl ?_
  refine Wx.nil ?_
  refine W.seq ?_
  refine W.reg ?_
  refine Wx.callF (run_callF Try.call43 rfl) (F43 hS.fb_lt) rfl ?_
  rintro r_19 w_20 hx_21 ⟨_, rfl, hv_22⟩
  have ln_24 := hv_22.len63
  have hS := hS.ext hx_21
  have hS := hS.add hv_22
  refine Wx.callF (run_callF Try.call22 rfl) (F22 (in_i64 (by omega) (by omega)) (hS.v 0 rfl) hS.fb_lt) rfl ?_
  rintro r_25 w_26 hx_27 ⟨v_28, rfl, hv_29⟩
  have hS := hS.pushFr hx_27 hv_29
  refine Wx.rd (v := .tuple #[v_28, .int .i64 (checkE 2 [([1, 2], [2, 1]), ([2, 1], [1, 2]), ([1, 1], [2, 2])])]) (rd_move rfl) rfl ?_
  refine Wx.rd (v := v_28) (rd_extract rfl rfl) rfl ?_
  refine Wx.rd (v := .int .i64 (checkE 2 [([1, 2], [2, 1]), ([2, 1], [1, 2]), ([1, 1], [2, 2])])) (rd_extract rfl rfl) rfl ?_
  refine Wx.rd (v := v_28) (rd_assign rfl) rfl ?_
  refine Wx.rd (v := .int .i64 0) (Rd.to (v := .int .i64 (checkE 2 [([1, 2], [2, 1]), ([2, 1], [1, 2]), ([1, 1], [2, 2])])) (rd_assign rfl) (congrArg (Value.int .i64) (show (0 : Int) = (checkE 2 [([1, 2], [2, 1]), ([2, 1], [1, 2]), ([1, 1], [2, 2])] : Int) from (by decide +kernel)).symm)) rfl ?_
  refine Wx.nil ?_
  refine W.seq ?_
  refine W.reg ?_
  refine Wx.callF (run_callF Try.call43 rfl) (F43 hS.fb_lt) rfl ?_
  rintro r_31 w_32 hx_33 ⟨_, rfl, hv_34⟩
  have ln_36 := hv_34.len63
  have hS := hS.ext hx_33
  have hS := hS.add hv_34
  refine Wx.callF (run_callF Try.call27 rfl) (F27 (in_i64 (by omega) (by omega)) (hS.v 0 rfl) (in_i64 (by omega) (by omega)) (in_i64 (by omega) (by omega)) hS.fb_lt) rfl ?_
  rintro r_37 w_38 hx_39 ⟨v_40, rfl, hv_41⟩
  have ln_43 := hv_41.len63
  have hS := hS.ext hx_39
  have hS := hS.add hv_41
  refine Wx.rd (v := .tuple #[v_40, .int .i64 (leastX 2 [([1, 2], [2, 1]), ([2, 1], [1, 2]), ([1, 1], [2, 2])] 1 1)]) (rd_move rfl) rfl ?_
  refine Wx.rd (v := v_40) (rd_extract rfl rfl) rfl ?_
  refine Wx.rd (v := .int .i64 (leastX 2 [([1, 2], [2, 1]), ([2, 1], [1, 2]), ([1, 1], [2, 2])] 1 1)) (rd_extract rfl rfl) rfl ?_
  refine Wx.rd (v := v_40) (rd_assign rfl) rfl ?_
  refine Wx.rd (v := .int .i64 0) (Rd.to (v := .int .i64 (leastX 2 [([1, 2], [2, 1]), ([2, 1], [1, 2]), ([1, 1], [2, 2])] 1 1)) (rd_assign rfl) (congrArg (Value.int .i64) (show (0 : Int) = (leastX 2 [([1, 2], [2, 1]), ([2, 1], [1, 2]), ([1, 1], [2, 2])] 1 1 : Int) from (by decide +kernel)).symm)) rfl ?_
  refine Wx.nil ?_
  refine W.seq ?_
  refine W.reg ?_
  refine Wx.callF (run_callF Try.call43 rfl) (F43 hS.fb_lt) rfl ?_
  rintro r_44 w_45 hx_46 ⟨_, rfl, hv_47⟩
  have ln_49 := hv_47.len63
  have hS := hS.ext hx_46
  have hS := hS.add hv_47
  refine Wx.callF (run_callF Try.call39 rfl) (F39 (in_i64 (by omega) (by omega)) (hS.v 0 rfl) hS.fb_lt) rfl ?_
  rintro r_50 w_51 hx_52 ⟨v_53, rfl, hv_54⟩
  have ln_56 := hv_54.len63
  have hS := hS.ext hx_52
  have hS := hS.add hv_54
  refine Wx.rd (v := .tuple #[v_53, .int .i64 (checkE 2 [([1, 2], [2, 1]), ([2, 1], [1, 2]), ([1, 1], [2, 2])])]) (rd_move rfl) rfl ?_
  refine Wx.rd (v := v_53) (rd_extract rfl rfl) rfl ?_
  refine Wx.rd (v := .int .i64 (checkE 2 [([1, 2], [2, 1]), ([2, 1], [1, 2]), ([1, 1], [2, 2])])) (rd_extract rfl rfl) rfl ?_
  refine Wx.rd (v := v_53) (rd_assign rfl) rfl ?_
  refine Wx.rd (v := .int .i64 0) (Rd.to (v := .int .i64 (checkE 2 [([1, 2], [2, 1]), ([2, 1], [1, 2]), ([1, 1], [2, 2])])) (rd_assign rfl) (congrArg (Value.int .i64) (show (0 : Int) = (checkE 2 [([1, 2], [2, 1]), ([2, 1], [1, 2]), ([1, 1], [2, 2])] : Int) from (by decide +kernel)).symm)) rfl ?_
  refine Wx.nil ?_
  refine W.seq ?_
  refine W.seq ?_
  refine W.reg ?_
  refine Wx.rd (v := .int .i64 0) (rd_move rfl) rfl ?_
  refine Wx.rd (v := .bool (decide ((0 : Int) ≠ 0))) (rd_neq rfl rfl) rfl ?_
  refine Wx.rd (v := .bool (decide ((0 : Int) ≠ 0))) (rd_move rfl) rfl ?_
  refine Wx.cut (X := Unit) 3 [41, 42, 43] (fun _ => [(43, .bool (decide ((0 : Int) ≠ 0) || decide ((0 : Int) ≠ 0)))]) (fun _ w' => St w O w' [Ob.v (tSl (tI .i64)) (wrongE 2 [([1, 2], [2, 1]), ([2, 1], [1, 2]), ([1, 1], [2, 2])]) v_53, Ob.v (tSl (tP (tSl (tI .i64)) (tSl (tI .i64)))) [([1, 2], [2, 1]), ([2, 1], [1, 2]), ([1, 1], [2, 2])] r_44, Ob.v (tSl (tI .i64)) (leastL 2 [([1, 2], [2, 1]), ([2, 1], [1, 2]), ([1, 1], [2, 2])] 1 1) v_40, Ob.v (tSl (tP (tSl (tI .i64)) (tSl (tI .i64)))) [([1, 2], [2, 1]), ([2, 1], [1, 2]), ([1, 1], [2, 2])] r_31, .row (tP (tI .i64) (tI .i64)) 59 v_28 (pairsE (bS [([1, 2], [2, 1]), ([2, 1], [1, 2]), ([1, 1], [2, 2])]) 2 [([1, 2], [2, 1]), ([2, 1], [1, 2]), ([1, 1], [2, 2])]), Ob.v (tSl (tP (tSl (tI .i64)) (tSl (tI .i64)))) [([1, 2], [2, 1]), ([2, 1], [1, 2]), ([1, 1], [2, 2])] r_19, Ob.v (tSl (tP (tSl (tI .i64)) (tSl (tI .i64)))) [([1, 2], [2, 1]), ([2, 1], [1, 2]), ([1, 1], [2, 2])] r_10, Ob.v (tSl (tP (tSl (tI .i64)) (tSl (tI .i64)))) [([1, 2], [2, 1]), ([2, 1], [1, 2]), ([1, 1], [2, 2])] r_1]) ?_ ?_
  · rcases Bool.eq_false_or_eq_true (decide ((0 : Int) ≠ 0)) with g_57 | g_57
    · -- True
      have gp_58 := of_decide_eq_true g_57
      refine Wx.gnoB rfl rfl (congrArg Value.bool g_57) rfl rfl ?_
      refine Wx.gnoB rfl rfl (congrArg Value.bool g_57) rfl rfl ?_
      refine Wx.rd (v := .bool true) (rd_pickT (congrArg Value.bool g_57) rfl) rfl ?_
      refine Wx.nil ⟨(), hS, ⟨?_, trivial⟩, Out.look rfl Out.refl⟩
      show Value.bool true = Value.bool (decide ((0 : Int) ≠ 0) || decide ((0 : Int) ≠ 0))
      first | rw [g_57, Bool.true_or] | (rw [g_57]; rfl)
    · -- False
      have gp_59 := of_decide_eq_false g_57
      refine Wx.gyes rfl rfl (congrArg Value.bool g_57) ?_
      refine Wx.rd (v := .int .i64 0) (rd_move rfl) rfl ?_
      refine Wx.gyes rfl rfl (congrArg Value.bool g_57) ?_
      refine Wx.rd (v := .bool (decide ((0 : Int) ≠ 0))) (rd_neq rfl rfl) rfl ?_
      refine Wx.rd (v := .bool (decide ((0 : Int) ≠ 0))) (rd_pickF (congrArg Value.bool g_57) rfl) rfl ?_
      refine Wx.nil ⟨(), hS, ⟨?_, trivial⟩, Out.look rfl Out.refl⟩
      show Value.bool (decide ((0 : Int) ≠ 0)) = Value.bool (decide ((0 : Int) ≠ 0) || decide ((0 : Int) ≠ 0))
      first | rw [g_57, Bool.false_or] | (rw [g_57]; rfl)
  rintro ⟨⟩ u_61 w_60 hS
  refine Wx.rd (v := .bool (decide ((0 : Int) ≠ 0) || decide ((0 : Int) ≠ 0))) (rd_move rfl) rfl ?_
  refine Wx.cut (X := Unit) 3 [45, 46, 47] (fun _ => [(47, .bool ((decide ((0 : Int) ≠ 0) || decide ((0 : Int) ≠ 0)) || decide ((0 : Int) ≠ 0)))]) (fun _ w' => St w O w' [Ob.v (tSl (tI .i64)) (wrongE 2 [([1, 2], [2, 1]), ([2, 1], [1, 2]), ([1, 1], [2, 2])]) v_53, Ob.v (tSl (tP (tSl (tI .i64)) (tSl (tI .i64)))) [([1, 2], [2, 1]), ([2, 1], [1, 2]), ([1, 1], [2, 2])] r_44, Ob.v (tSl (tI .i64)) (leastL 2 [([1, 2], [2, 1]), ([2, 1], [1, 2]), ([1, 1], [2, 2])] 1 1) v_40, Ob.v (tSl (tP (tSl (tI .i64)) (tSl (tI .i64)))) [([1, 2], [2, 1]), ([2, 1], [1, 2]), ([1, 1], [2, 2])] r_31, .row (tP (tI .i64) (tI .i64)) 59 v_28 (pairsE (bS [([1, 2], [2, 1]), ([2, 1], [1, 2]), ([1, 1], [2, 2])]) 2 [([1, 2], [2, 1]), ([2, 1], [1, 2]), ([1, 1], [2, 2])]), Ob.v (tSl (tP (tSl (tI .i64)) (tSl (tI .i64)))) [([1, 2], [2, 1]), ([2, 1], [1, 2]), ([1, 1], [2, 2])] r_19, Ob.v (tSl (tP (tSl (tI .i64)) (tSl (tI .i64)))) [([1, 2], [2, 1]), ([2, 1], [1, 2]), ([1, 1], [2, 2])] r_10, Ob.v (tSl (tP (tSl (tI .i64)) (tSl (tI .i64)))) [([1, 2], [2, 1]), ([2, 1], [1, 2]), ([1, 1], [2, 2])] r_1]) ?_ ?_
  · rcases Bool.eq_false_or_eq_true (decide ((0 : Int) ≠ 0) || decide ((0 : Int) ≠ 0)) with g_62 | g_62
    · -- True
      have gp_63 := g_62
      try simp only [Bool.and_eq_true, Bool.or_eq_true, Bool.not_eq_true', Bool.and_eq_false_iff, Bool.or_eq_false_iff, Bool.not_eq_false', decide_eq_true_eq, decide_eq_false_iff_not, not_or, Bool.false_eq_true, Bool.true_eq_false, false_or, or_false, not_false_eq_true] at gp_63
      refine Wx.gnoB rfl rfl (congrArg Value.bool g_62) rfl rfl ?_
      refine Wx.gnoB rfl rfl (congrArg Value.bool g_62) rfl rfl ?_
      refine Wx.rd (v := .bool true) (rd_pickT (congrArg Value.bool g_62) rfl) rfl ?_
      refine Wx.nil ⟨(), hS, ⟨?_, trivial⟩, Out.look rfl Out.refl⟩
      show Value.bool true = Value.bool ((decide ((0 : Int) ≠ 0) || decide ((0 : Int) ≠ 0)) || decide ((0 : Int) ≠ 0))
      first | rw [g_62, Bool.true_or] | (rw [g_62]; rfl)
    · -- False
      have gp_64 := g_62
      try simp only [Bool.and_eq_true, Bool.or_eq_true, Bool.not_eq_true', Bool.and_eq_false_iff, Bool.or_eq_false_iff, Bool.not_eq_false', decide_eq_true_eq, decide_eq_false_iff_not, not_or, Bool.false_eq_true, Bool.true_eq_false, false_or, or_false, not_false_eq_true] at gp_64
      refine Wx.gyes rfl rfl (congrArg Value.bool g_62) ?_
      refine Wx.rd (v := .int .i64 0) (rd_move rfl) rfl ?_
      refine Wx.gyes rfl rfl (congrArg Value.bool g_62) ?_
      refine Wx.rd (v := .bool (decide ((0 : Int) ≠ 0))) (rd_neq rfl rfl) rfl ?_
      refine Wx.rd (v := .bool (decide ((0 : Int) ≠ 0))) (rd_pickF (congrArg Value.bool g_62) rfl) rfl ?_
      refine Wx.nil ⟨(), hS, ⟨?_, trivial⟩, Out.look rfl Out.refl⟩
      show Value.bool (decide ((0 : Int) ≠ 0)) = Value.bool ((decide ((0 : Int) ≠ 0) || decide ((0 : Int) ≠ 0)) || decide ((0 : Int) ≠ 0))
      first | rw [g_62, Bool.false_or] | (rw [g_62]; rfl)
  rintro ⟨⟩ u_66 w_65 hS
  refine Wx.rd (v := .bool ((decide ((0 : Int) ≠ 0) || decide ((0 : Int) ≠ 0)) || decide ((0 : Int) ≠ 0))) (rd_move rfl) rfl ?_
  refine Wx.cut (X := Unit) 3 [49, 50, 51] (fun _ => [(51, .bool (((decide ((0 : Int) ≠ 0) || decide ((0 : Int) ≠ 0)) || decide ((0 : Int) ≠ 0)) || decide ((0 : Int) ≠ 0)))]) (fun _ w' => St w O w' [Ob.v (tSl (tI .i64)) (wrongE 2 [([1, 2], [2, 1]), ([2, 1], [1, 2]), ([1, 1], [2, 2])]) v_53, Ob.v (tSl (tP (tSl (tI .i64)) (tSl (tI .i64)))) [([1, 2], [2, 1]), ([2, 1], [1, 2]), ([1, 1], [2, 2])] r_44, Ob.v (tSl (tI .i64)) (leastL 2 [([1, 2], [2, 1]), ([2, 1], [1, 2]), ([1, 1], [2, 2])] 1 1) v_40, Ob.v (tSl (tP (tSl (tI .i64)) (tSl (tI .i64)))) [([1, 2], [2, 1]), ([2, 1], [1, 2]), ([1, 1], [2, 2])] r_31, .row (tP (tI .i64) (tI .i64)) 59 v_28 (pairsE (bS [([1, 2], [2, 1]), ([2, 1], [1, 2]), ([1, 1], [2, 2])]) 2 [([1, 2], [2, 1]), ([2, 1], [1, 2]), ([1, 1], [2, 2])]), Ob.v (tSl (tP (tSl (tI .i64)) (tSl (tI .i64)))) [([1, 2], [2, 1]), ([2, 1], [1, 2]), ([1, 1], [2, 2])] r_19, Ob.v (tSl (tP (tSl (tI .i64)) (tSl (tI .i64)))) [([1, 2], [2, 1]), ([2, 1], [1, 2]), ([1, 1], [2, 2])] r_10, Ob.v (tSl (tP (tSl (tI .i64)) (tSl (tI .i64)))) [([1, 2], [2, 1]), ([2, 1], [1, 2]), ([1, 1], [2, 2])] r_1]) ?_ ?_
  · rcases Bool.eq_false_or_eq_true ((decide ((0 : Int) ≠ 0) || decide ((0 : Int) ≠ 0)) || decide ((0 : Int) ≠ 0)) with g_67 | g_67
    · -- True
      have gp_68 := g_67
      try simp only [Bool.and_eq_true, Bool.or_eq_true, Bool.not_eq_true', Bool.and_eq_false_iff, Bool.or_eq_false_iff, Bool.not_eq_false', decide_eq_true_eq, decide_eq_false_iff_not, not_or, Bool.false_eq_true, Bool.true_eq_false, false_or, or_false, not_false_eq_true] at gp_68
      refine Wx.gnoB rfl rfl (congrArg Value.bool g_67) rfl rfl ?_
      refine Wx.gnoB rfl rfl (congrArg Value.bool g_67) rfl rfl ?_
      refine Wx.rd (v := .bool true) (rd_pickT (congrArg Value.bool g_67) rfl) rfl ?_
      refine Wx.nil ⟨(), hS, ⟨?_, trivial⟩, Out.look rfl Out.refl⟩
      show Value.bool true = Value.bool (((decide ((0 : Int) ≠ 0) || decide ((0 : Int) ≠ 0)) || decide ((0 : Int) ≠ 0)) || decide ((0 : Int) ≠ 0))
      first | rw [g_67, Bool.true_or] | (rw [g_67]; rfl)
    · -- False
      have gp_69 := g_67
      try simp only [Bool.and_eq_true, Bool.or_eq_true, Bool.not_eq_true', Bool.and_eq_false_iff, Bool.or_eq_false_iff, Bool.not_eq_false', decide_eq_true_eq, decide_eq_false_iff_not, not_or, Bool.false_eq_true, Bool.true_eq_false, false_or, or_false, not_false_eq_true] at gp_69
      refine Wx.gyes rfl rfl (congrArg Value.bool g_67) ?_
      refine Wx.rd (v := .int .i64 0) (rd_move rfl) rfl ?_
      refine Wx.gyes rfl rfl (congrArg Value.bool g_67) ?_
      refine Wx.rd (v := .bool (decide ((0 : Int) ≠ 0))) (rd_neq rfl rfl) rfl ?_
      refine Wx.rd (v := .bool (decide ((0 : Int) ≠ 0))) (rd_pickF (congrArg Value.bool g_67) rfl) rfl ?_
      refine Wx.nil ⟨(), hS, ⟨?_, trivial⟩, Out.look rfl Out.refl⟩
      show Value.bool (decide ((0 : Int) ≠ 0)) = Value.bool (((decide ((0 : Int) ≠ 0) || decide ((0 : Int) ≠ 0)) || decide ((0 : Int) ≠ 0)) || decide ((0 : Int) ≠ 0))
      first | rw [g_67, Bool.false_or] | (rw [g_67]; rfl)
  rintro ⟨⟩ u_71 w_70 hS
  refine Wx.rd (v := .bool (((decide ((0 : Int) ≠ 0) || decide ((0 : Int) ≠ 0)) || decide ((0 : Int) ≠ 0)) || decide ((0 : Int) ≠ 0))) (rd_move rfl) rfl ?_
  refine Wx.cut (X := Unit) 3 [53, 54, 55] (fun _ => [(55, .bool ((((decide ((0 : Int) ≠ 0) || decide ((0 : Int) ≠ 0)) || decide ((0 : Int) ≠ 0)) || decide ((0 : Int) ≠ 0)) || decide ((0 : Int) ≠ 0)))]) (fun _ w' => St w O w' [Ob.v (tSl (tI .i64)) (wrongE 2 [([1, 2], [2, 1]), ([2, 1], [1, 2]), ([1, 1], [2, 2])]) v_53, Ob.v (tSl (tP (tSl (tI .i64)) (tSl (tI .i64)))) [([1, 2], [2, 1]), ([2, 1], [1, 2]), ([1, 1], [2, 2])] r_44, Ob.v (tSl (tI .i64)) (leastL 2 [([1, 2], [2, 1]), ([2, 1], [1, 2]), ([1, 1], [2, 2])] 1 1) v_40, Ob.v (tSl (tP (tSl (tI .i64)) (tSl (tI .i64)))) [([1, 2], [2, 1]), ([2, 1], [1, 2]), ([1, 1], [2, 2])] r_31, .row (tP (tI .i64) (tI .i64)) 59 v_28 (pairsE (bS [([1, 2], [2, 1]), ([2, 1], [1, 2]), ([1, 1], [2, 2])]) 2 [([1, 2], [2, 1]), ([2, 1], [1, 2]), ([1, 1], [2, 2])]), Ob.v (tSl (tP (tSl (tI .i64)) (tSl (tI .i64)))) [([1, 2], [2, 1]), ([2, 1], [1, 2]), ([1, 1], [2, 2])] r_19, Ob.v (tSl (tP (tSl (tI .i64)) (tSl (tI .i64)))) [([1, 2], [2, 1]), ([2, 1], [1, 2]), ([1, 1], [2, 2])] r_10, Ob.v (tSl (tP (tSl (tI .i64)) (tSl (tI .i64)))) [([1, 2], [2, 1]), ([2, 1], [1, 2]), ([1, 1], [2, 2])] r_1]) ?_ ?_
  · rcases Bool.eq_false_or_eq_true (((decide ((0 : Int) ≠ 0) || decide ((0 : Int) ≠ 0)) || decide ((0 : Int) ≠ 0)) || decide ((0 : Int) ≠ 0)) with g_72 | g_72
    · -- True
      have gp_73 := g_72
      try simp only [Bool.and_eq_true, Bool.or_eq_true, Bool.not_eq_true', Bool.and_eq_false_iff, Bool.or_eq_false_iff, Bool.not_eq_false', decide_eq_true_eq, decide_eq_false_iff_not, not_or, Bool.false_eq_true, Bool.true_eq_false, false_or, or_false, not_false_eq_true] at gp_73
      refine Wx.gnoB rfl rfl (congrArg Value.bool g_72) rfl rfl ?_
      refine Wx.gnoB rfl rfl (congrArg Value.bool g_72) rfl rfl ?_
      refine Wx.rd (v := .bool true) (rd_pickT (congrArg Value.bool g_72) rfl) rfl ?_
      refine Wx.nil ⟨(), hS, ⟨?_, trivial⟩, Out.look rfl Out.refl⟩
      show Value.bool true = Value.bool ((((decide ((0 : Int) ≠ 0) || decide ((0 : Int) ≠ 0)) || decide ((0 : Int) ≠ 0)) || decide ((0 : Int) ≠ 0)) || decide ((0 : Int) ≠ 0))
      first | rw [g_72, Bool.true_or] | (rw [g_72]; rfl)
    · -- False
      have gp_74 := g_72
      try simp only [Bool.and_eq_true, Bool.or_eq_true, Bool.not_eq_true', Bool.and_eq_false_iff, Bool.or_eq_false_iff, Bool.not_eq_false', decide_eq_true_eq, decide_eq_false_iff_not, not_or, Bool.false_eq_true, Bool.true_eq_false, false_or, or_false, not_false_eq_true] at gp_74
      refine Wx.gyes rfl rfl (congrArg Value.bool g_72) ?_
      refine Wx.rd (v := .int .i64 0) (rd_move rfl) rfl ?_
      refine Wx.gyes rfl rfl (congrArg Value.bool g_72) ?_
      refine Wx.rd (v := .bool (decide ((0 : Int) ≠ 0))) (rd_neq rfl rfl) rfl ?_
      refine Wx.rd (v := .bool (decide ((0 : Int) ≠ 0))) (rd_pickF (congrArg Value.bool g_72) rfl) rfl ?_
      refine Wx.nil ⟨(), hS, ⟨?_, trivial⟩, Out.look rfl Out.refl⟩
      show Value.bool (decide ((0 : Int) ≠ 0)) = Value.bool ((((decide ((0 : Int) ≠ 0) || decide ((0 : Int) ≠ 0)) || decide ((0 : Int) ≠ 0)) || decide ((0 : Int) ≠ 0)) || decide ((0 : Int) ≠ 0))
      first | rw [g_72, Bool.false_or] | (rw [g_72]; rfl)
  rintro ⟨⟩ u_76 w_75 hS
  refine Wx.rd (v := .bool ((((decide ((0 : Int) ≠ 0) || decide ((0 : Int) ≠ 0)) || decide ((0 : Int) ≠ 0)) || decide ((0 : Int) ≠ 0)) || decide ((0 : Int) ≠ 0))) (rd_move rfl) rfl ?_
  refine Wx.cut (X := Unit) 3 [57, 58, 59] (fun _ => [(59, .bool (((((decide ((0 : Int) ≠ 0) || decide ((0 : Int) ≠ 0)) || decide ((0 : Int) ≠ 0)) || decide ((0 : Int) ≠ 0)) || decide ((0 : Int) ≠ 0)) || decide ((5 : Int) ≠ 5)))]) (fun _ w' => St w O w' [Ob.v (tSl (tI .i64)) (wrongE 2 [([1, 2], [2, 1]), ([2, 1], [1, 2]), ([1, 1], [2, 2])]) v_53, Ob.v (tSl (tP (tSl (tI .i64)) (tSl (tI .i64)))) [([1, 2], [2, 1]), ([2, 1], [1, 2]), ([1, 1], [2, 2])] r_44, Ob.v (tSl (tI .i64)) (leastL 2 [([1, 2], [2, 1]), ([2, 1], [1, 2]), ([1, 1], [2, 2])] 1 1) v_40, Ob.v (tSl (tP (tSl (tI .i64)) (tSl (tI .i64)))) [([1, 2], [2, 1]), ([2, 1], [1, 2]), ([1, 1], [2, 2])] r_31, .row (tP (tI .i64) (tI .i64)) 59 v_28 (pairsE (bS [([1, 2], [2, 1]), ([2, 1], [1, 2]), ([1, 1], [2, 2])]) 2 [([1, 2], [2, 1]), ([2, 1], [1, 2]), ([1, 1], [2, 2])]), Ob.v (tSl (tP (tSl (tI .i64)) (tSl (tI .i64)))) [([1, 2], [2, 1]), ([2, 1], [1, 2]), ([1, 1], [2, 2])] r_19, Ob.v (tSl (tP (tSl (tI .i64)) (tSl (tI .i64)))) [([1, 2], [2, 1]), ([2, 1], [1, 2]), ([1, 1], [2, 2])] r_10, Ob.v (tSl (tP (tSl (tI .i64)) (tSl (tI .i64)))) [([1, 2], [2, 1]), ([2, 1], [1, 2]), ([1, 1], [2, 2])] r_1]) ?_ ?_
  · rcases Bool.eq_false_or_eq_true ((((decide ((0 : Int) ≠ 0) || decide ((0 : Int) ≠ 0)) || decide ((0 : Int) ≠ 0)) || decide ((0 : Int) ≠ 0)) || decide ((0 : Int) ≠ 0)) with g_77 | g_77
    · -- True
      have gp_78 := g_77
      try simp only [Bool.and_eq_true, Bool.or_eq_true, Bool.not_eq_true', Bool.and_eq_false_iff, Bool.or_eq_false_iff, Bool.not_eq_false', decide_eq_true_eq, decide_eq_false_iff_not, not_or, Bool.false_eq_true, Bool.true_eq_false, false_or, or_false, not_false_eq_true] at gp_78
      refine Wx.gnoB rfl rfl (congrArg Value.bool g_77) rfl rfl ?_
      refine Wx.gnoB rfl rfl (congrArg Value.bool g_77) rfl rfl ?_
      refine Wx.rd (v := .bool true) (rd_pickT (congrArg Value.bool g_77) rfl) rfl ?_
      refine Wx.nil ⟨(), hS, ⟨?_, trivial⟩, Out.look rfl Out.refl⟩
      show Value.bool true = Value.bool (((((decide ((0 : Int) ≠ 0) || decide ((0 : Int) ≠ 0)) || decide ((0 : Int) ≠ 0)) || decide ((0 : Int) ≠ 0)) || decide ((0 : Int) ≠ 0)) || decide ((5 : Int) ≠ 5))
      first | rw [g_77, Bool.true_or] | (rw [g_77]; rfl)
    · -- False
      have gp_79 := g_77
      try simp only [Bool.and_eq_true, Bool.or_eq_true, Bool.not_eq_true', Bool.and_eq_false_iff, Bool.or_eq_false_iff, Bool.not_eq_false', decide_eq_true_eq, decide_eq_false_iff_not, not_or, Bool.false_eq_true, Bool.true_eq_false, false_or, or_false, not_false_eq_true] at gp_79
      refine Wx.gyes rfl rfl (congrArg Value.bool g_77) ?_
      refine Wx.rd (v := .int .i64 5) (rd_move rfl) rfl ?_
      refine Wx.gyes rfl rfl (congrArg Value.bool g_77) ?_
      refine Wx.rd (v := .bool (decide ((5 : Int) ≠ 5))) (rd_neq rfl rfl) rfl ?_
      refine Wx.rd (v := .bool (decide ((5 : Int) ≠ 5))) (rd_pickF (congrArg Value.bool g_77) rfl) rfl ?_
      refine Wx.nil ⟨(), hS, ⟨?_, trivial⟩, Out.look rfl Out.refl⟩
      show Value.bool (decide ((5 : Int) ≠ 5)) = Value.bool (((((decide ((0 : Int) ≠ 0) || decide ((0 : Int) ≠ 0)) || decide ((0 : Int) ≠ 0)) || decide ((0 : Int) ≠ 0)) || decide ((0 : Int) ≠ 0)) || decide ((5 : Int) ≠ 5))
      first | rw [g_77, Bool.false_or] | (rw [g_77]; rfl)
  rintro ⟨⟩ u_81 w_80 hS
  refine Wx.rd (v := .bool (((((decide ((0 : Int) ≠ 0) || decide ((0 : Int) ≠ 0)) || decide ((0 : Int) ≠ 0)) || decide ((0 : Int) ≠ 0)) || decide ((0 : Int) ≠ 0)) || decide ((5 : Int) ≠ 5))) (rd_move rfl) rfl ?_
  refine Wx.cut (X := Unit) 3 [61, 62, 63] (fun _ => [(63, .bool ((((((decide ((0 : Int) ≠ 0) || decide ((0 : Int) ≠ 0)) || decide ((0 : Int) ≠ 0)) || decide ((0 : Int) ≠ 0)) || decide ((0 : Int) ≠ 0)) || decide ((5 : Int) ≠ 5)) || decide ((3 : Int) ≠ 3)))]) (fun _ w' => St w O w' [Ob.v (tSl (tI .i64)) (wrongE 2 [([1, 2], [2, 1]), ([2, 1], [1, 2]), ([1, 1], [2, 2])]) v_53, Ob.v (tSl (tP (tSl (tI .i64)) (tSl (tI .i64)))) [([1, 2], [2, 1]), ([2, 1], [1, 2]), ([1, 1], [2, 2])] r_44, Ob.v (tSl (tI .i64)) (leastL 2 [([1, 2], [2, 1]), ([2, 1], [1, 2]), ([1, 1], [2, 2])] 1 1) v_40, Ob.v (tSl (tP (tSl (tI .i64)) (tSl (tI .i64)))) [([1, 2], [2, 1]), ([2, 1], [1, 2]), ([1, 1], [2, 2])] r_31, .row (tP (tI .i64) (tI .i64)) 59 v_28 (pairsE (bS [([1, 2], [2, 1]), ([2, 1], [1, 2]), ([1, 1], [2, 2])]) 2 [([1, 2], [2, 1]), ([2, 1], [1, 2]), ([1, 1], [2, 2])]), Ob.v (tSl (tP (tSl (tI .i64)) (tSl (tI .i64)))) [([1, 2], [2, 1]), ([2, 1], [1, 2]), ([1, 1], [2, 2])] r_19, Ob.v (tSl (tP (tSl (tI .i64)) (tSl (tI .i64)))) [([1, 2], [2, 1]), ([2, 1], [1, 2]), ([1, 1], [2, 2])] r_10, Ob.v (tSl (tP (tSl (tI .i64)) (tSl (tI .i64)))) [([1, 2], [2, 1]), ([2, 1], [1, 2]), ([1, 1], [2, 2])] r_1]) ?_ ?_
  · rcases Bool.eq_false_or_eq_true (((((decide ((0 : Int) ≠ 0) || decide ((0 : Int) ≠ 0)) || decide ((0 : Int) ≠ 0)) || decide ((0 : Int) ≠ 0)) || decide ((0 : Int) ≠ 0)) || decide ((5 : Int) ≠ 5)) with g_82 | g_82
    · -- True
      have gp_83 := g_82
      try simp only [Bool.and_eq_true, Bool.or_eq_true, Bool.not_eq_true', Bool.and_eq_false_iff, Bool.or_eq_false_iff, Bool.not_eq_false', decide_eq_true_eq, decide_eq_false_iff_not, not_or, Bool.false_eq_true, Bool.true_eq_false, false_or, or_false, not_false_eq_true] at gp_83
      refine Wx.gnoB rfl rfl (congrArg Value.bool g_82) rfl rfl ?_
      refine Wx.gnoB rfl rfl (congrArg Value.bool g_82) rfl rfl ?_
      refine Wx.rd (v := .bool true) (rd_pickT (congrArg Value.bool g_82) rfl) rfl ?_
      refine Wx.nil ⟨(), hS, ⟨?_, trivial⟩, Out.look rfl Out.refl⟩
      show Value.bool true = Value.bool ((((((decide ((0 : Int) ≠ 0) || decide ((0 : Int) ≠ 0)) || decide ((0 : Int) ≠ 0)) || decide ((0 : Int) ≠ 0)) || decide ((0 : Int) ≠ 0)) || decide ((5 : Int) ≠ 5)) || decide ((3 : Int) ≠ 3))
      first | rw [g_82, Bool.true_or] | (rw [g_82]; rfl)
    · -- False
      have gp_84 := g_82
      try simp only [Bool.and_eq_true, Bool.or_eq_true, Bool.not_eq_true', Bool.and_eq_false_iff, Bool.or_eq_false_iff, Bool.not_eq_false', decide_eq_true_eq, decide_eq_false_iff_not, not_or, Bool.false_eq_true, Bool.true_eq_false, false_or, or_false, not_false_eq_true] at gp_84
      refine Wx.gyes rfl rfl (congrArg Value.bool g_82) ?_
      refine Wx.rd (v := .int .i64 3) (rd_move rfl) rfl ?_
      refine Wx.gyes rfl rfl (congrArg Value.bool g_82) ?_
      refine Wx.rd (v := .bool (decide ((3 : Int) ≠ 3))) (rd_neq rfl rfl) rfl ?_
      refine Wx.rd (v := .bool (decide ((3 : Int) ≠ 3))) (rd_pickF (congrArg Value.bool g_82) rfl) rfl ?_
      refine Wx.nil ⟨(), hS, ⟨?_, trivial⟩, Out.look rfl Out.refl⟩
      show Value.bool (decide ((3 : Int) ≠ 3)) = Value.bool ((((((decide ((0 : Int) ≠ 0) || decide ((0 : Int) ≠ 0)) || decide ((0 : Int) ≠ 0)) || decide ((0 : Int) ≠ 0)) || decide ((0 : Int) ≠ 0)) || decide ((5 : Int) ≠ 5)) || decide ((3 : Int) ≠ 3))
      first | rw [g_82, Bool.false_or] | (rw [g_82]; rfl)
  rintro ⟨⟩ u_86 w_85 hS
  refine Wx.rd (v := .bool ((((((decide ((0 : Int) ≠ 0) || decide ((0 : Int) ≠ 0)) || decide ((0 : Int) ≠ 0)) || decide ((0 : Int) ≠ 0)) || decide ((0 : Int) ≠ 0)) || decide ((5 : Int) ≠ 5)) || decide ((3 : Int) ≠ 3))) (rd_move rfl) rfl ?_
  refine Wx.cut (X := Unit) 7 [65, 66, 67, 68, 69, 70, 71] (fun _ => [(71, .bool (((((((decide ((0 : Int) ≠ 0) || decide ((0 : Int) ≠ 0)) || decide ((0 : Int) ≠ 0)) || decide ((0 : Int) ≠ 0)) || decide ((0 : Int) ≠ 0)) || decide ((5 : Int) ≠ 5)) || decide ((3 : Int) ≠ 3)) || false))]) (fun _ w' => St w O w' [Ob.v (tSl (tI .i64)) (wrongE 2 [([1, 2], [2, 1]), ([2, 1], [1, 2]), ([1, 1], [2, 2])]) v_53, Ob.v (tSl (tP (tSl (tI .i64)) (tSl (tI .i64)))) [([1, 2], [2, 1]), ([2, 1], [1, 2]), ([1, 1], [2, 2])] r_44, Ob.v (tSl (tI .i64)) (leastL 2 [([1, 2], [2, 1]), ([2, 1], [1, 2]), ([1, 1], [2, 2])] 1 1) v_40, Ob.v (tSl (tP (tSl (tI .i64)) (tSl (tI .i64)))) [([1, 2], [2, 1]), ([2, 1], [1, 2]), ([1, 1], [2, 2])] r_31, .row (tP (tI .i64) (tI .i64)) 59 v_28 (pairsE (bS [([1, 2], [2, 1]), ([2, 1], [1, 2]), ([1, 1], [2, 2])]) 2 [([1, 2], [2, 1]), ([2, 1], [1, 2]), ([1, 1], [2, 2])]), Ob.v (tSl (tP (tSl (tI .i64)) (tSl (tI .i64)))) [([1, 2], [2, 1]), ([2, 1], [1, 2]), ([1, 1], [2, 2])] r_19, Ob.v (tSl (tP (tSl (tI .i64)) (tSl (tI .i64)))) [([1, 2], [2, 1]), ([2, 1], [1, 2]), ([1, 1], [2, 2])] r_10, Ob.v (tSl (tP (tSl (tI .i64)) (tSl (tI .i64)))) [([1, 2], [2, 1]), ([2, 1], [1, 2]), ([1, 1], [2, 2])] r_1]) ?_ ?_
  · rcases Bool.eq_false_or_eq_true ((((((decide ((0 : Int) ≠ 0) || decide ((0 : Int) ≠ 0)) || decide ((0 : Int) ≠ 0)) || decide ((0 : Int) ≠ 0)) || decide ((0 : Int) ≠ 0)) || decide ((5 : Int) ≠ 5)) || decide ((3 : Int) ≠ 3)) with g_87 | g_87
    · -- True
      have gp_88 := g_87
      try simp only [Bool.and_eq_true, Bool.or_eq_true, Bool.not_eq_true', Bool.and_eq_false_iff, Bool.or_eq_false_iff, Bool.not_eq_false', decide_eq_true_eq, decide_eq_false_iff_not, not_or, Bool.false_eq_true, Bool.true_eq_false, false_or, or_false, not_false_eq_true] at gp_88
      refine Wx.gnoB rfl rfl (congrArg Value.bool g_87) rfl rfl ?_
      refine Wx.gnoB rfl rfl (congrArg Value.bool g_87) rfl rfl ?_
      refine Wx.gnoB rfl rfl (congrArg Value.bool g_87) rfl rfl ?_
      refine Wx.gnoB rfl rfl (congrArg Value.bool g_87) rfl rfl ?_
      refine Wx.gnoB rfl rfl (congrArg Value.bool g_87) rfl rfl ?_
      refine Wx.gnoB rfl rfl (congrArg Value.bool g_87) rfl rfl ?_
      refine Wx.rd (v := .bool true) (rd_pickT (congrArg Value.bool g_87) rfl) rfl ?_
      refine Wx.nil ⟨(), hS, ⟨?_, trivial⟩, Out.look rfl Out.refl⟩
      show Value.bool true = Value.bool (((((((decide ((0 : Int) ≠ 0) || decide ((0 : Int) ≠ 0)) || decide ((0 : Int) ≠ 0)) || decide ((0 : Int) ≠ 0)) || decide ((0 : Int) ≠ 0)) || decide ((5 : Int) ≠ 5)) || decide ((3 : Int) ≠ 3)) || false)
      first | rw [g_87, Bool.true_or] | (rw [g_87]; rfl)
    · -- False
      have gp_89 := g_87
      try simp only [Bool.and_eq_true, Bool.or_eq_true, Bool.not_eq_true', Bool.and_eq_false_iff, Bool.or_eq_false_iff, Bool.not_eq_false', decide_eq_true_eq, decide_eq_false_iff_not, not_or, Bool.false_eq_true, Bool.true_eq_false, false_or, or_false, not_false_eq_true] at gp_89
      refine Wx.gyes rfl rfl (congrArg Value.bool g_87) ?_
      refine Wx.rd (v := v_28) (rd_move rfl) rfl ?_
      refine Wx.gyes rfl rfl (congrArg Value.bool g_87) ?_
      refine Wx.rd (v := .agg #[.int .i64 2, .int .i64 0]) (rd_build (vs := [(0, .int .i64 2), (1, .int .i64 0)]) rfl (by kernel_rfl)) rfl ?_
      refine Wx.gyes rfl rfl (congrArg Value.bool g_87) ?_
      refine Wx.rd (v := .agg #[.int .i64 2, .int .i64 1]) (rd_build (vs := [(0, .int .i64 2), (1, .int .i64 1)]) rfl (by kernel_rfl)) rfl ?_
      refine Wx.gyes rfl rfl (congrArg Value.bool g_87) ?_
      refine Wx.lit (t := (tP (tI .i64) (tI .i64))) (ys := [(2, 0), (2, 1)]) (vs := [.agg #[.int .i64 2, .int .i64 0], .agg #[.int .i64 2, .int .i64 1]]) elLk_31 hS rfl rfl ⟨(V.mk2 (in_i64 (by omega) (by omega)) (in_i64 (by omega) (by omega))), ⟨(V.mk2 (in_i64 (by omega) (by omega)) (in_i64 (by omega) (by omega))), trivial⟩⟩ (by decide) rfl (fun v_90 w_91 hx_92 hS => ?_)
      refine Wx.gyes rfl rfl (congrArg Value.bool g_87) ?_
      refine Wx.callF (run_callF Try.call24 rfl) (F24 (hS.lend 5 rfl) (hS.lend 0 rfl)) rfl ?_
      rintro r_93 w_94 hx_95 rfl
      have hS := hS.ext hx_95
      rw [show (decide ((pairsE (bS [([1, 2], [2, 1]), ([2, 1], [1, 2]), ([1, 1], [2, 2])]) 2 [([1, 2], [2, 1]), ([2, 1], [1, 2]), ([1, 1], [2, 2])]) = [(2, 0), (2, 1)]) : Bool) = true from (by decide +kernel)]
      refine Wx.gyes rfl rfl (congrArg Value.bool g_87) ?_
      refine Wx.rd (v := .bool false) (rd_not (c := true) rfl) rfl ?_
      refine Wx.rd (v := .bool false) (rd_pickF (congrArg Value.bool g_87) rfl) rfl ?_
      refine Wx.nil ⟨(), hS.tl, ⟨?_, trivial⟩, Out.look rfl Out.refl⟩
      show Value.bool false = Value.bool (((((((decide ((0 : Int) ≠ 0) || decide ((0 : Int) ≠ 0)) || decide ((0 : Int) ≠ 0)) || decide ((0 : Int) ≠ 0)) || decide ((0 : Int) ≠ 0)) || decide ((5 : Int) ≠ 5)) || decide ((3 : Int) ≠ 3)) || false)
      first | rw [g_87, Bool.false_or] | (rw [g_87]; rfl)
  rintro ⟨⟩ u_97 w_96 hS
  refine Wx.rd (v := .bool (((((((decide ((0 : Int) ≠ 0) || decide ((0 : Int) ≠ 0)) || decide ((0 : Int) ≠ 0)) || decide ((0 : Int) ≠ 0)) || decide ((0 : Int) ≠ 0)) || decide ((5 : Int) ≠ 5)) || decide ((3 : Int) ≠ 3)) || false)) (rd_move rfl) rfl ?_
  refine Wx.cut (X := Unit) 6 [73, 74, 75, 76, 77, 78] (fun _ => [(78, .bool ((((((((decide ((0 : Int) ≠ 0) || decide ((0 : Int) ≠ 0)) || decide ((0 : Int) ≠ 0)) || decide ((0 : Int) ≠ 0)) || decide ((0 : Int) ≠ 0)) || decide ((5 : Int) ≠ 5)) || decide ((3 : Int) ≠ 3)) || false) || false))]) (fun _ w' => St w O w' [Ob.v (tSl (tI .i64)) (wrongE 2 [([1, 2], [2, 1]), ([2, 1], [1, 2]), ([1, 1], [2, 2])]) v_53, Ob.v (tSl (tP (tSl (tI .i64)) (tSl (tI .i64)))) [([1, 2], [2, 1]), ([2, 1], [1, 2]), ([1, 1], [2, 2])] r_44, Ob.v (tSl (tI .i64)) (leastL 2 [([1, 2], [2, 1]), ([2, 1], [1, 2]), ([1, 1], [2, 2])] 1 1) v_40, Ob.v (tSl (tP (tSl (tI .i64)) (tSl (tI .i64)))) [([1, 2], [2, 1]), ([2, 1], [1, 2]), ([1, 1], [2, 2])] r_31, .row (tP (tI .i64) (tI .i64)) 59 v_28 (pairsE (bS [([1, 2], [2, 1]), ([2, 1], [1, 2]), ([1, 1], [2, 2])]) 2 [([1, 2], [2, 1]), ([2, 1], [1, 2]), ([1, 1], [2, 2])]), Ob.v (tSl (tP (tSl (tI .i64)) (tSl (tI .i64)))) [([1, 2], [2, 1]), ([2, 1], [1, 2]), ([1, 1], [2, 2])] r_19, Ob.v (tSl (tP (tSl (tI .i64)) (tSl (tI .i64)))) [([1, 2], [2, 1]), ([2, 1], [1, 2]), ([1, 1], [2, 2])] r_10, Ob.v (tSl (tP (tSl (tI .i64)) (tSl (tI .i64)))) [([1, 2], [2, 1]), ([2, 1], [1, 2]), ([1, 1], [2, 2])] r_1]) ?_ ?_
  · rcases Bool.eq_false_or_eq_true (((((((decide ((0 : Int) ≠ 0) || decide ((0 : Int) ≠ 0)) || decide ((0 : Int) ≠ 0)) || decide ((0 : Int) ≠ 0)) || decide ((0 : Int) ≠ 0)) || decide ((5 : Int) ≠ 5)) || decide ((3 : Int) ≠ 3)) || false) with g_98 | g_98
    · -- True
      have gp_99 := g_98
      try simp only [Bool.and_eq_true, Bool.or_eq_true, Bool.not_eq_true', Bool.and_eq_false_iff, Bool.or_eq_false_iff, Bool.not_eq_false', decide_eq_true_eq, decide_eq_false_iff_not, not_or, Bool.false_eq_true, Bool.true_eq_false, false_or, or_false, not_false_eq_true] at gp_99
      refine Wx.gnoB rfl rfl (congrArg Value.bool g_98) rfl rfl ?_
      refine Wx.gnoB rfl rfl (congrArg Value.bool g_98) rfl rfl ?_
      refine Wx.gnoB rfl rfl (congrArg Value.bool g_98) rfl rfl ?_
      refine Wx.gnoB rfl rfl (congrArg Value.bool g_98) rfl rfl ?_
      refine Wx.gnoB rfl rfl (congrArg Value.bool g_98) rfl rfl ?_
      refine Wx.rd (v := .bool true) (rd_pickT (congrArg Value.bool g_98) rfl) rfl ?_
      refine Wx.nil ⟨(), hS, ⟨?_, trivial⟩, Out.look rfl Out.refl⟩
      show Value.bool true = Value.bool ((((((((decide ((0 : Int) ≠ 0) || decide ((0 : Int) ≠ 0)) || decide ((0 : Int) ≠ 0)) || decide ((0 : Int) ≠ 0)) || decide ((0 : Int) ≠ 0)) || decide ((5 : Int) ≠ 5)) || decide ((3 : Int) ≠ 3)) || false) || false)
      first | rw [g_98, Bool.true_or] | (rw [g_98]; rfl)
    · -- False
      have gp_100 := g_98
      try simp only [Bool.and_eq_true, Bool.or_eq_true, Bool.not_eq_true', Bool.and_eq_false_iff, Bool.or_eq_false_iff, Bool.not_eq_false', decide_eq_true_eq, decide_eq_false_iff_not, not_or, Bool.false_eq_true, Bool.true_eq_false, false_or, or_false, not_false_eq_true] at gp_100
      refine Wx.gyes rfl rfl (congrArg Value.bool g_98) ?_
      refine Wx.rd (v := v_40) (rd_move rfl) rfl ?_
      refine Wx.gyes rfl rfl (congrArg Value.bool g_98) ?_
      refine Wx.lit (t := (tI .i64)) (ys := [1]) (vs := [.int .i64 1]) elLk_39 hS rfl rfl ⟨(V.mkInt (in_i64 (by omega) (by omega))), trivial⟩ (by decide) rfl (fun v_101 w_102 hx_103 hS => ?_)
      refine Wx.gyes rfl rfl (congrArg Value.bool g_98) ?_
      have hS := hS.freeze 0 rfl
      refine Wx.callF (run_callF Try.call44 rfl) (F44 (hS.v 0 rfl) hS.fb_lt) rfl ?_
      rintro r_105 w_106 hx_107 ⟨_, rfl, hv_108⟩
      have ln_110 := hv_108.len63
      have hS := hS.ext hx_107
      have hS := hS.add hv_108
      refine Wx.gyes rfl rfl (congrArg Value.bool g_98) ?_
      refine Wx.callF (run_callF Try.call33 rfl) (F33 (hS.v 4 rfl) (hS.v 0 rfl)) rfl ?_
      rintro r_111 w_112 hx_113 rfl
      have hS := hS.ext hx_113
      rw [show (decide ((leastL 2 [([1, 2], [2, 1]), ([2, 1], [1, 2]), ([1, 1], [2, 2])] 1 1) = [1]) : Bool) = true from (by decide +kernel)]
      refine Wx.gyes rfl rfl (congrArg Value.bool g_98) ?_
      refine Wx.rd (v := .bool false) (rd_not (c := true) rfl) rfl ?_
      refine Wx.rd (v := .bool false) (rd_pickF (congrArg Value.bool g_98) rfl) rfl ?_
      refine Wx.nil ⟨(), St.tl (hS.tl), ⟨?_, trivial⟩, Out.look rfl Out.refl⟩
      show Value.bool false = Value.bool ((((((((decide ((0 : Int) ≠ 0) || decide ((0 : Int) ≠ 0)) || decide ((0 : Int) ≠ 0)) || decide ((0 : Int) ≠ 0)) || decide ((0 : Int) ≠ 0)) || decide ((5 : Int) ≠ 5)) || decide ((3 : Int) ≠ 3)) || false) || false)
      first | rw [g_98, Bool.false_or] | (rw [g_98]; rfl)
  rintro ⟨⟩ u_115 w_114 hS
  refine Wx.rd (v := .bool ((((((((decide ((0 : Int) ≠ 0) || decide ((0 : Int) ≠ 0)) || decide ((0 : Int) ≠ 0)) || decide ((0 : Int) ≠ 0)) || decide ((0 : Int) ≠ 0)) || decide ((5 : Int) ≠ 5)) || decide ((3 : Int) ≠ 3)) || false) || false)) (rd_move rfl) rfl ?_
  refine Wx.cut (X := Unit) 4 [80, 81, 82, 83] (fun _ => [(83, .bool (((((((((decide ((0 : Int) ≠ 0) || decide ((0 : Int) ≠ 0)) || decide ((0 : Int) ≠ 0)) || decide ((0 : Int) ≠ 0)) || decide ((0 : Int) ≠ 0)) || decide ((5 : Int) ≠ 5)) || decide ((3 : Int) ≠ 3)) || false) || false) || decide (0 < ((wrongE 2 [([1, 2], [2, 1]), ([2, 1], [1, 2]), ([1, 1], [2, 2])]).length : Int))))]) (fun _ w' => St w O w' [Ob.v (tSl (tI .i64)) (wrongE 2 [([1, 2], [2, 1]), ([2, 1], [1, 2]), ([1, 1], [2, 2])]) v_53, Ob.v (tSl (tP (tSl (tI .i64)) (tSl (tI .i64)))) [([1, 2], [2, 1]), ([2, 1], [1, 2]), ([1, 1], [2, 2])] r_44, Ob.v (tSl (tI .i64)) (leastL 2 [([1, 2], [2, 1]), ([2, 1], [1, 2]), ([1, 1], [2, 2])] 1 1) v_40, Ob.v (tSl (tP (tSl (tI .i64)) (tSl (tI .i64)))) [([1, 2], [2, 1]), ([2, 1], [1, 2]), ([1, 1], [2, 2])] r_31, .row (tP (tI .i64) (tI .i64)) 59 v_28 (pairsE (bS [([1, 2], [2, 1]), ([2, 1], [1, 2]), ([1, 1], [2, 2])]) 2 [([1, 2], [2, 1]), ([2, 1], [1, 2]), ([1, 1], [2, 2])]), Ob.v (tSl (tP (tSl (tI .i64)) (tSl (tI .i64)))) [([1, 2], [2, 1]), ([2, 1], [1, 2]), ([1, 1], [2, 2])] r_19, Ob.v (tSl (tP (tSl (tI .i64)) (tSl (tI .i64)))) [([1, 2], [2, 1]), ([2, 1], [1, 2]), ([1, 1], [2, 2])] r_10, Ob.v (tSl (tP (tSl (tI .i64)) (tSl (tI .i64)))) [([1, 2], [2, 1]), ([2, 1], [1, 2]), ([1, 1], [2, 2])] r_1]) ?_ ?_
  · rcases Bool.eq_false_or_eq_true ((((((((decide ((0 : Int) ≠ 0) || decide ((0 : Int) ≠ 0)) || decide ((0 : Int) ≠ 0)) || decide ((0 : Int) ≠ 0)) || decide ((0 : Int) ≠ 0)) || decide ((5 : Int) ≠ 5)) || decide ((3 : Int) ≠ 3)) || false) || false) with g_116 | g_116
    · -- True
      have gp_117 := g_116
      try simp only [Bool.and_eq_true, Bool.or_eq_true, Bool.not_eq_true', Bool.and_eq_false_iff, Bool.or_eq_false_iff, Bool.not_eq_false', decide_eq_true_eq, decide_eq_false_iff_not, not_or, Bool.false_eq_true, Bool.true_eq_false, false_or, or_false, not_false_eq_true] at gp_117
      refine Wx.gnoB rfl rfl (congrArg Value.bool g_116) rfl rfl ?_
      refine Wx.gnoB rfl rfl (congrArg Value.bool g_116) rfl rfl ?_
      refine Wx.gnoB rfl rfl (congrArg Value.bool g_116) rfl rfl ?_
      refine Wx.rd (v := .bool true) (rd_pickT (congrArg Value.bool g_116) rfl) rfl ?_
      refine Wx.nil ⟨(), hS, ⟨?_, trivial⟩, Out.look rfl Out.refl⟩
      show Value.bool true = Value.bool (((((((((decide ((0 : Int) ≠ 0) || decide ((0 : Int) ≠ 0)) || decide ((0 : Int) ≠ 0)) || decide ((0 : Int) ≠ 0)) || decide ((0 : Int) ≠ 0)) || decide ((5 : Int) ≠ 5)) || decide ((3 : Int) ≠ 3)) || false) || false) || decide (0 < ((wrongE 2 [([1, 2], [2, 1]), ([2, 1], [1, 2]), ([1, 1], [2, 2])]).length : Int)))
      first | rw [g_116, Bool.true_or] | (rw [g_116]; rfl)
    · -- False
      have gp_118 := g_116
      try simp only [Bool.and_eq_true, Bool.or_eq_true, Bool.not_eq_true', Bool.and_eq_false_iff, Bool.or_eq_false_iff, Bool.not_eq_false', decide_eq_true_eq, decide_eq_false_iff_not, not_or, Bool.false_eq_true, Bool.true_eq_false, false_or, or_false, not_false_eq_true] at gp_118
      refine Wx.gyes rfl rfl (congrArg Value.bool g_116) ?_
      refine Wx.rd (v := v_53) (rd_move rfl) rfl ?_
      refine Wx.gyes rfl rfl (congrArg Value.bool g_116) ?_
      refine Wx.rd (v := .int .i64 ((wrongE 2 [([1, 2], [2, 1]), ([2, 1], [1, 2]), ([1, 1], [2, 2])]).length : Int)) (rd_lenV rfl (hS.v 0 rfl) Try.underlying39) rfl ?_
      refine Wx.gyes rfl rfl (congrArg Value.bool g_116) ?_
      refine Wx.rd (v := .bool (decide (0 < ((wrongE 2 [([1, 2], [2, 1]), ([2, 1], [1, 2]), ([1, 1], [2, 2])]).length : Int)))) (rd_gtr rfl rfl) rfl ?_
      refine Wx.rd (v := .bool (decide (0 < ((wrongE 2 [([1, 2], [2, 1]), ([2, 1], [1, 2]), ([1, 1], [2, 2])]).length : Int)))) (rd_pickF (congrArg Value.bool g_116) rfl) rfl ?_
      refine Wx.nil ⟨(), hS, ⟨?_, trivial⟩, Out.look rfl Out.refl⟩
      show Value.bool (decide (0 < ((wrongE 2 [([1, 2], [2, 1]), ([2, 1], [1, 2]), ([1, 1], [2, 2])]).length : Int))) = Value.bool (((((((((decide ((0 : Int) ≠ 0) || decide ((0 : Int) ≠ 0)) || decide ((0 : Int) ≠ 0)) || decide ((0 : Int) ≠ 0)) || decide ((0 : Int) ≠ 0)) || decide ((5 : Int) ≠ 5)) || decide ((3 : Int) ≠ 3)) || false) || false) || decide (0 < ((wrongE 2 [([1, 2], [2, 1]), ([2, 1], [1, 2]), ([1, 1], [2, 2])]).length : Int)))
      first | rw [g_116, Bool.false_or] | (rw [g_116]; rfl)
  rintro ⟨⟩ u_120 w_119 hS
  refine Wx.nil ?_
  refine W.condF rfl (by decide +kernel) ?_
  refine W.skip ?_
  refine W.seq ?_
  refine W.reg ?_
  refine Wx.callF (run_callF Try.call43 rfl) (SOW hS.fb_lt) rfl ?_
  rintro r_121 w_122 hx_123 ⟨_, rfl, hv_124⟩
  have hS := hS.pushFrO hx_123 hv_124
  refine Wx.rd (v := r_121) (rd_assign rfl) rfl ?_
  refine Wx.nil ?_
  refine W.seq ?_
  refine W.reg ?_
  refine Wx.rd (v := r_121) (rd_move rfl) rfl ?_
  refine Wx.lit (t := (tI .i64)) (ys := [0, 2]) (vs := [.int .i64 0, .int .i64 2]) elLk_39 hS rfl rfl ⟨(V.mkInt (in_i64 (by omega) (by omega))), ⟨(V.mkInt (in_i64 (by omega) (by omega))), trivial⟩⟩ (by decide) rfl (fun v_126 w_127 hx_128 hS => ?_)
  have hS := hS.freeze 0 rfl
  refine Wx.callF (run_callF Try.call44 rfl) (F44 (hS.v 0 rfl) hS.fb_lt) rfl ?_
  rintro r_130 w_131 hx_132 ⟨_, rfl, hv_133⟩
  have ln_135 := hv_133.len63
  have hS := hS.ext hx_132
  have hS := hS.add hv_133
  refine Wx.indexR hS 2 rfl rfl rfl Try.underlying22 Try.sizeOf62 (by first | omega | (simp only [List.length_set, List.length_append, List.length_cons, List.length_nil, List.length_replicate]; omega)) (by first | omega | (simp only [List.length_set, List.length_append, List.length_cons, List.length_nil, List.length_replicate]; omega)) rfl (fun g_136 hg_137 => ?_)
  refine Wx.rd (v := .pointer (some ⟨g_136, (0 : Int).toNat * 2 + 0, none⟩)) (rd_fieldAddr rfl foLk_62_0) rfl ?_
  refine Wx.storeRf (j := (0 : Int).toNat) (z := [0, 2]) hS 2 rfl hg_137 rfl ([1, 2], [2, 1]) rfl rfl (hS.v 0 rfl) Try.sizeOf39 (fun w_138 hz_139 hS => ?_)
  have hS := hS.spell (ys' := [([0, 2], [2, 1]), ([2, 1], [1, 2]), ([1, 1], [2, 2])]) 2 rfl rfl
  refine Wx.nil ?_
  refine W.seq ?_
  refine W.reg ?_
  refine Wx.callF (run_callF Try.call43 rfl) (SOW hS.fb_lt) rfl ?_
  rintro r_140 w_141 hx_142 ⟨_, rfl, hv_143⟩
  have hS := hS.pushFrO hx_142 hv_143
  refine Wx.rd (v := r_140) (rd_assign rfl) rfl ?_
  refine Wx.nil ?_
  refine W.seq ?_
  refine W.reg ?_
  refine Wx.rd (v := r_140) (rd_move rfl) rfl ?_
  refine Wx.lit (t := (tI .i64)) (ys := [2]) (vs := [.int .i64 2]) elLk_39 hS rfl rfl ⟨(V.mkInt (in_i64 (by omega) (by omega))), trivial⟩ (by decide) rfl (fun v_145 w_146 hx_147 hS => ?_)
  have hS := hS.freeze 0 rfl
  refine Wx.callF (run_callF Try.call44 rfl) (F44 (hS.v 0 rfl) hS.fb_lt) rfl ?_
  rintro r_149 w_150 hx_151 ⟨_, rfl, hv_152⟩
  have ln_154 := hv_152.len63
  have hS := hS.ext hx_151
  have hS := hS.add hv_152
  refine Wx.indexR hS 2 rfl rfl rfl Try.underlying22 Try.sizeOf62 (by first | omega | (simp only [List.length_set, List.length_append, List.length_cons, List.length_nil, List.length_replicate]; omega)) (by first | omega | (simp only [List.length_set, List.length_append, List.length_cons, List.length_nil, List.length_replicate]; omega)) rfl (fun g_155 hg_156 => ?_)
  refine Wx.rd (v := .pointer (some ⟨g_155, (1 : Int).toNat * 2 + 0, none⟩)) (rd_fieldAddr rfl foLk_62_0) rfl ?_
  refine Wx.storeRf (j := (1 : Int).toNat) (z := [2]) hS 2 rfl hg_156 rfl ([2, 1], [1, 2]) rfl rfl (hS.v 0 rfl) Try.sizeOf39 (fun w_157 hz_158 hS => ?_)
  have hS := hS.spell (ys' := [([1, 2], [2, 1]), ([2], [1, 2]), ([1, 1], [2, 2])]) 2 rfl rfl
  refine Wx.nil ?_
  refine W.seq ?_
  refine W.reg ?_
  refine Wx.callF (run_callF Try.call45 rfl) (F45 hS.fb_lt) rfl ?_
  rintro r_159 w_160 hx_161 ⟨_, rfl, hv_162⟩
  have ln_164 := hv_162.len63
  have hS := hS.ext hx_161
  have hS := hS.add hv_162
  refine Wx.lit (t := (tI .i64)) (ys := [0]) (vs := [.int .i64 0]) elLk_39 hS rfl rfl ⟨(V.mkInt (in_i64 (by omega) (by omega))), trivial⟩ (by decide) rfl (fun v_165 w_166 hx_167 hS => ?_)
  have hS := hS.freeze 0 rfl
  refine Wx.callF (run_callF Try.call44 rfl) (F44 (hS.v 0 rfl) hS.fb_lt) rfl ?_
  rintro r_169 w_170 hx_171 ⟨_, rfl, hv_172⟩
  have ln_174 := hv_172.len63
  have hS := hS.ext hx_171
  have hS := hS.add hv_172
  refine Wx.callF (run_callF Try.call34 rfl) (F34 (in_i64 (by omega) (by omega)) (hS.v 2 rfl) (hS.v 0 rfl) (by decide) hS.fb_lt) rfl ?_
  rintro r_175 w_176 hx_177 rfl
  have hS := hS.ext hx_177
  rw [show (provesE 2 [([2, 1], [2, 1]), ([1, 2], [1, 2])] [0] : Int) = 14 from (by decide +kernel)]
  refine Wx.rd (v := .bool (decide ((14 : Int) = 14))) (rd_eql rfl rfl) rfl ?_
  refine Wx.rd (v := .bool (decide ((14 : Int) = 14))) (rd_move rfl) rfl ?_
  refine Wx.cut (X := Unit) 6 [102, 103, 104, 105, 106, 107] (fun _ => [(107, .bool (decide ((14 : Int) = 14) && decide ((2 : Int) = 2)))]) (fun _ w' => St w O w' [Ob.v (tSl (tI .i64)) [0] r_169, Ob.v (tSl (tI .i64)) [0] v_165, Ob.v (tSl (tP (tSl (tI .i64)) (tSl (tI .i64)))) [([2, 1], [2, 1]), ([1, 2], [1, 2])] r_159, Ob.v (tSl (tI .i64)) [2] r_149, Ob.v (tSl (tI .i64)) [2] v_145, .row (tP (tSl (tI .i64)) (tSl (tI .i64))) 62 r_140 [([1, 2], [2, 1]), ([2], [1, 2]), ([1, 1], [2, 2])], Ob.v (tSl (tI .i64)) [0, 2] r_130, Ob.v (tSl (tI .i64)) [0, 2] v_126, .row (tP (tSl (tI .i64)) (tSl (tI .i64))) 62 r_121 [([0, 2], [2, 1]), ([2, 1], [1, 2]), ([1, 1], [2, 2])], Ob.v (tSl (tI .i64)) (wrongE 2 [([1, 2], [2, 1]), ([2, 1], [1, 2]), ([1, 1], [2, 2])]) v_53, Ob.v (tSl (tP (tSl (tI .i64)) (tSl (tI .i64)))) [([1, 2], [2, 1]), ([2, 1], [1, 2]), ([1, 1], [2, 2])] r_44, Ob.v (tSl (tI .i64)) (leastL 2 [([1, 2], [2, 1]), ([2, 1], [1, 2]), ([1, 1], [2, 2])] 1 1) v_40, Ob.v (tSl (tP (tSl (tI .i64)) (tSl (tI .i64)))) [([1, 2], [2, 1]), ([2, 1], [1, 2]), ([1, 1], [2, 2])] r_31, .row (tP (tI .i64) (tI .i64)) 59 v_28 (pairsE (bS [([1, 2], [2, 1]), ([2, 1], [1, 2]), ([1, 1], [2, 2])]) 2 [([1, 2], [2, 1]), ([2, 1], [1, 2]), ([1, 1], [2, 2])]), Ob.v (tSl (tP (tSl (tI .i64)) (tSl (tI .i64)))) [([1, 2], [2, 1]), ([2, 1], [1, 2]), ([1, 1], [2, 2])] r_19, Ob.v (tSl (tP (tSl (tI .i64)) (tSl (tI .i64)))) [([1, 2], [2, 1]), ([2, 1], [1, 2]), ([1, 1], [2, 2])] r_10, Ob.v (tSl (tP (tSl (tI .i64)) (tSl (tI .i64)))) [([1, 2], [2, 1]), ([2, 1], [1, 2]), ([1, 1], [2, 2])] r_1]) ?_ ?_
  · rcases Bool.eq_false_or_eq_true (decide ((14 : Int) = 14)) with g_178 | g_178
    · -- True
      have gp_179 := of_decide_eq_true g_178
      refine Wx.gyes rfl rfl (congrArg Value.bool g_178) ?_
      refine Wx.callF (run_callF Try.call45 rfl) (F45 hS.fb_lt) rfl ?_
      rintro r_180 w_181 hx_182 ⟨_, rfl, hv_183⟩
      have ln_185 := hv_183.len63
      have hS := hS.ext hx_182
      have hS := hS.add hv_183
      refine Wx.gyes rfl rfl (congrArg Value.bool g_178) ?_
      refine Wx.lit (t := (tI .i64)) (ys := [0, 2]) (vs := [.int .i64 0, .int .i64 2]) elLk_39 hS rfl rfl ⟨(V.mkInt (in_i64 (by omega) (by omega))), ⟨(V.mkInt (in_i64 (by omega) (by omega))), trivial⟩⟩ (by decide) rfl (fun v_186 w_187 hx_188 hS => ?_)
      refine Wx.gyes rfl rfl (congrArg Value.bool g_178) ?_
      have hS := hS.freeze 0 rfl
      refine Wx.callF (run_callF Try.call44 rfl) (F44 (hS.v 0 rfl) hS.fb_lt) rfl ?_
      rintro r_190 w_191 hx_192 ⟨_, rfl, hv_193⟩
      have ln_195 := hv_193.len63
      have hS := hS.ext hx_192
      have hS := hS.add hv_193
      refine Wx.gyes rfl rfl (congrArg Value.bool g_178) ?_
      refine Wx.callF (run_callF Try.call34 rfl) (F34 (in_i64 (by omega) (by omega)) (hS.v 2 rfl) (hS.v 0 rfl) (by decide) hS.fb_lt) rfl ?_
      rintro r_196 w_197 hx_198 rfl
      have hS := hS.ext hx_198
      rw [show (provesE 2 [([2, 1], [2, 1]), ([1, 2], [1, 2])] [0, 2] : Int) = 2 from (by decide +kernel)]
      refine Wx.gyes rfl rfl (congrArg Value.bool g_178) ?_
      refine Wx.rd (v := .bool (decide ((2 : Int) = 2))) (rd_eql rfl rfl) rfl ?_
      refine Wx.rd (v := .bool (decide ((2 : Int) = 2))) (rd_pickT (congrArg Value.bool g_178) rfl) rfl ?_
      refine Wx.nil ⟨(), St.tl (St.tl (hS.tl)), ⟨?_, trivial⟩, Out.look rfl Out.refl⟩
      show Value.bool (decide ((2 : Int) = 2)) = Value.bool (decide ((14 : Int) = 14) && decide ((2 : Int) = 2))
      first | rw [g_178, Bool.true_and] | (rw [g_178]; rfl)
    · -- False
      have gp_199 := of_decide_eq_false g_178
      refine Wx.gnoB rfl rfl (congrArg Value.bool g_178) rfl rfl ?_
      refine Wx.gnoB rfl rfl (congrArg Value.bool g_178) rfl rfl ?_
      refine Wx.gnoB rfl rfl (congrArg Value.bool g_178) rfl rfl ?_
      refine Wx.gnoB rfl rfl (congrArg Value.bool g_178) rfl rfl ?_
      refine Wx.gnoB rfl rfl (congrArg Value.bool g_178) rfl rfl ?_
      refine Wx.rd (v := .bool false) (rd_pickF (congrArg Value.bool g_178) rfl) rfl ?_
      refine Wx.nil ⟨(), hS, ⟨?_, trivial⟩, Out.look rfl Out.refl⟩
      show Value.bool false = Value.bool (decide ((14 : Int) = 14) && decide ((2 : Int) = 2))
      first | rw [g_178, Bool.false_and] | (rw [g_178]; rfl)
  rintro ⟨⟩ u_201 w_200 hS
  refine Wx.rd (v := .bool (decide ((14 : Int) = 14) && decide ((2 : Int) = 2))) (rd_move rfl) rfl ?_
  refine Wx.cut (X := Unit) 4 [109, 110, 111, 112] (fun _ => [(112, .bool ((decide ((14 : Int) = 14) && decide ((2 : Int) = 2)) && decide ((14 : Int) = 14)))]) (fun _ w' => St w O w' [Ob.v (tSl (tI .i64)) [0] r_169, Ob.v (tSl (tI .i64)) [0] v_165, Ob.v (tSl (tP (tSl (tI .i64)) (tSl (tI .i64)))) [([2, 1], [2, 1]), ([1, 2], [1, 2])] r_159, Ob.v (tSl (tI .i64)) [2] r_149, Ob.v (tSl (tI .i64)) [2] v_145, .row (tP (tSl (tI .i64)) (tSl (tI .i64))) 62 r_140 [([1, 2], [2, 1]), ([2], [1, 2]), ([1, 1], [2, 2])], Ob.v (tSl (tI .i64)) [0, 2] r_130, Ob.v (tSl (tI .i64)) [0, 2] v_126, .row (tP (tSl (tI .i64)) (tSl (tI .i64))) 62 r_121 [([0, 2], [2, 1]), ([2, 1], [1, 2]), ([1, 1], [2, 2])], Ob.v (tSl (tI .i64)) (wrongE 2 [([1, 2], [2, 1]), ([2, 1], [1, 2]), ([1, 1], [2, 2])]) v_53, Ob.v (tSl (tP (tSl (tI .i64)) (tSl (tI .i64)))) [([1, 2], [2, 1]), ([2, 1], [1, 2]), ([1, 1], [2, 2])] r_44, Ob.v (tSl (tI .i64)) (leastL 2 [([1, 2], [2, 1]), ([2, 1], [1, 2]), ([1, 1], [2, 2])] 1 1) v_40, Ob.v (tSl (tP (tSl (tI .i64)) (tSl (tI .i64)))) [([1, 2], [2, 1]), ([2, 1], [1, 2]), ([1, 1], [2, 2])] r_31, .row (tP (tI .i64) (tI .i64)) 59 v_28 (pairsE (bS [([1, 2], [2, 1]), ([2, 1], [1, 2]), ([1, 1], [2, 2])]) 2 [([1, 2], [2, 1]), ([2, 1], [1, 2]), ([1, 1], [2, 2])]), Ob.v (tSl (tP (tSl (tI .i64)) (tSl (tI .i64)))) [([1, 2], [2, 1]), ([2, 1], [1, 2]), ([1, 1], [2, 2])] r_19, Ob.v (tSl (tP (tSl (tI .i64)) (tSl (tI .i64)))) [([1, 2], [2, 1]), ([2, 1], [1, 2]), ([1, 1], [2, 2])] r_10, Ob.v (tSl (tP (tSl (tI .i64)) (tSl (tI .i64)))) [([1, 2], [2, 1]), ([2, 1], [1, 2]), ([1, 1], [2, 2])] r_1]) ?_ ?_
  · rcases Bool.eq_false_or_eq_true (decide ((14 : Int) = 14) && decide ((2 : Int) = 2)) with g_202 | g_202
    · -- True
      have gp_203 := g_202
      try simp only [Bool.and_eq_true, Bool.or_eq_true, Bool.not_eq_true', Bool.and_eq_false_iff, Bool.or_eq_false_iff, Bool.not_eq_false', decide_eq_true_eq, decide_eq_false_iff_not, not_or, Bool.false_eq_true, Bool.true_eq_false, false_or, or_false, not_false_eq_true] at gp_203
      refine Wx.gyes rfl rfl (congrArg Value.bool g_202) ?_
      refine Wx.callF (run_callF Try.call45 rfl) (F45 hS.fb_lt) rfl ?_
      rintro r_204 w_205 hx_206 ⟨_, rfl, hv_207⟩
      have ln_209 := hv_207.len63
      have hS := hS.ext hx_206
      have hS := hS.add hv_207
      refine Wx.gyes rfl rfl (congrArg Value.bool g_202) ?_
      refine Wx.callF (run_callF Try.call34 rfl) (F34 (in_i64 (by omega) (by omega)) (hS.v 0 rfl) (V.nil (t := (tI .i64))) (by decide) hS.fb_lt) rfl ?_
      rintro r_210 w_211 hx_212 rfl
      have hS := hS.ext hx_212
      rw [show (provesE 2 [([2, 1], [2, 1]), ([1, 2], [1, 2])] ([] : List Int) : Int) = 14 from (by decide +kernel)]
      refine Wx.gyes rfl rfl (congrArg Value.bool g_202) ?_
      refine Wx.rd (v := .bool (decide ((14 : Int) = 14))) (rd_eql rfl rfl) rfl ?_
      refine Wx.rd (v := .bool (decide ((14 : Int) = 14))) (rd_pickT (congrArg Value.bool g_202) rfl) rfl ?_
      refine Wx.nil ⟨(), hS.tl, ⟨?_, trivial⟩, Out.look rfl Out.refl⟩
      show Value.bool (decide ((14 : Int) = 14)) = Value.bool ((decide ((14 : Int) = 14) && decide ((2 : Int) = 2)) && decide ((14 : Int) = 14))
      first | rw [g_202, Bool.true_and] | (rw [g_202]; rfl)
    · -- False
      have gp_213 := g_202
      try simp only [Bool.and_eq_true, Bool.or_eq_true, Bool.not_eq_true', Bool.and_eq_false_iff, Bool.or_eq_false_iff, Bool.not_eq_false', decide_eq_true_eq, decide_eq_false_iff_not, not_or, Bool.false_eq_true, Bool.true_eq_false, false_or, or_false, not_false_eq_true] at gp_213
      refine Wx.gnoB rfl rfl (congrArg Value.bool g_202) rfl rfl ?_
      refine Wx.gnoB rfl rfl (congrArg Value.bool g_202) rfl rfl ?_
      refine Wx.gnoB rfl rfl (congrArg Value.bool g_202) rfl rfl ?_
      refine Wx.rd (v := .bool false) (rd_pickF (congrArg Value.bool g_202) rfl) rfl ?_
      refine Wx.nil ⟨(), hS, ⟨?_, trivial⟩, Out.look rfl Out.refl⟩
      show Value.bool false = Value.bool ((decide ((14 : Int) = 14) && decide ((2 : Int) = 2)) && decide ((14 : Int) = 14))
      first | rw [g_202, Bool.false_and] | (rw [g_202]; rfl)
  rintro ⟨⟩ u_215 w_214 hS
  refine Wx.rd (v := .bool ((decide ((14 : Int) = 14) && decide ((2 : Int) = 2)) && decide ((14 : Int) = 14))) (rd_move rfl) rfl ?_
  refine Wx.cut (X := Unit) 8 [114, 115, 116, 117, 118, 119, 120, 121] (fun _ => [(121, .bool (((decide ((14 : Int) = 14) && decide ((2 : Int) = 2)) && decide ((14 : Int) = 14)) && decide ((5 : Int) = 5)))]) (fun _ w' => St w O w' [Ob.v (tSl (tI .i64)) [0] r_169, Ob.v (tSl (tI .i64)) [0] v_165, Ob.v (tSl (tP (tSl (tI .i64)) (tSl (tI .i64)))) [([2, 1], [2, 1]), ([1, 2], [1, 2])] r_159, Ob.v (tSl (tI .i64)) [2] r_149, Ob.v (tSl (tI .i64)) [2] v_145, .row (tP (tSl (tI .i64)) (tSl (tI .i64))) 62 r_140 [([1, 2], [2, 1]), ([2], [1, 2]), ([1, 1], [2, 2])], Ob.v (tSl (tI .i64)) [0, 2] r_130, Ob.v (tSl (tI .i64)) [0, 2] v_126, .row (tP (tSl (tI .i64)) (tSl (tI .i64))) 62 r_121 [([0, 2], [2, 1]), ([2, 1], [1, 2]), ([1, 1], [2, 2])], Ob.v (tSl (tI .i64)) (wrongE 2 [([1, 2], [2, 1]), ([2, 1], [1, 2]), ([1, 1], [2, 2])]) v_53, Ob.v (tSl (tP (tSl (tI .i64)) (tSl (tI .i64)))) [([1, 2], [2, 1]), ([2, 1], [1, 2]), ([1, 1], [2, 2])] r_44, Ob.v (tSl (tI .i64)) (leastL 2 [([1, 2], [2, 1]), ([2, 1], [1, 2]), ([1, 1], [2, 2])] 1 1) v_40, Ob.v (tSl (tP (tSl (tI .i64)) (tSl (tI .i64)))) [([1, 2], [2, 1]), ([2, 1], [1, 2]), ([1, 1], [2, 2])] r_31, .row (tP (tI .i64) (tI .i64)) 59 v_28 (pairsE (bS [([1, 2], [2, 1]), ([2, 1], [1, 2]), ([1, 1], [2, 2])]) 2 [([1, 2], [2, 1]), ([2, 1], [1, 2]), ([1, 1], [2, 2])]), Ob.v (tSl (tP (tSl (tI .i64)) (tSl (tI .i64)))) [([1, 2], [2, 1]), ([2, 1], [1, 2]), ([1, 1], [2, 2])] r_19, Ob.v (tSl (tP (tSl (tI .i64)) (tSl (tI .i64)))) [([1, 2], [2, 1]), ([2, 1], [1, 2]), ([1, 1], [2, 2])] r_10, Ob.v (tSl (tP (tSl (tI .i64)) (tSl (tI .i64)))) [([1, 2], [2, 1]), ([2, 1], [1, 2]), ([1, 1], [2, 2])] r_1]) ?_ ?_
  · rcases Bool.eq_false_or_eq_true ((decide ((14 : Int) = 14) && decide ((2 : Int) = 2)) && decide ((14 : Int) = 14)) with g_216 | g_216
    · -- True
      have gp_217 := g_216
      try simp only [Bool.and_eq_true, Bool.or_eq_true, Bool.not_eq_true', Bool.and_eq_false_iff, Bool.or_eq_false_iff, Bool.not_eq_false', decide_eq_true_eq, decide_eq_false_iff_not, not_or, Bool.false_eq_true, Bool.true_eq_false, false_or, or_false, not_false_eq_true] at gp_217
      refine Wx.gyes rfl rfl (congrArg Value.bool g_216) ?_
      refine Wx.callF (run_callF Try.call43 rfl) (F43 hS.fb_lt) rfl ?_
      rintro r_218 w_219 hx_220 ⟨_, rfl, hv_221⟩
      have ln_223 := hv_221.len63
      have hS := hS.ext hx_220
      have hS := hS.add hv_221
      refine Wx.gyes rfl rfl (congrArg Value.bool g_216) ?_
      refine Wx.lit (t := (tI .i64)) (ys := [0]) (vs := [.int .i64 0]) elLk_39 hS rfl rfl ⟨(V.mkInt (in_i64 (by omega) (by omega))), trivial⟩ (by decide) rfl (fun v_224 w_225 hx_226 hS => ?_)
      refine Wx.gyes rfl rfl (congrArg Value.bool g_216) ?_
      have hS := hS.freeze 0 rfl
      refine Wx.callF (run_callF Try.call44 rfl) (F44 (hS.v 0 rfl) hS.fb_lt) rfl ?_
      rintro r_228 w_229 hx_230 ⟨_, rfl, hv_231⟩
      have ln_233 := hv_231.len63
      have hS := hS.ext hx_230
      have hS := hS.add hv_231
      refine Wx.gyes rfl rfl (congrArg Value.bool g_216) ?_
      refine Wx.lit (t := (tI .i64)) (ys := [1]) (vs := [.int .i64 1]) elLk_39 hS rfl rfl ⟨(V.mkInt (in_i64 (by omega) (by omega))), trivial⟩ (by decide) rfl (fun v_234 w_235 hx_236 hS => ?_)
      refine Wx.gyes rfl rfl (congrArg Value.bool g_216) ?_
      have hS := hS.freeze 0 rfl
      refine Wx.callF (run_callF Try.call44 rfl) (F44 (hS.v 0 rfl) hS.fb_lt) rfl ?_
      rintro r_238 w_239 hx_240 ⟨_, rfl, hv_241⟩
      have ln_243 := hv_241.len63
      have hS := hS.ext hx_240
      have hS := hS.add hv_241
      refine Wx.gyes rfl rfl (congrArg Value.bool g_216) ?_
      refine Wx.callF (run_callF Try.call37 rfl) (F37 (in_i64 (by omega) (by omega)) (hS.v 4 rfl) (hS.v 2 rfl) (hS.v 0 rfl) hS.fb_lt) rfl ?_
      rintro r_244 w_245 hx_246 rfl
      have hS := hS.ext hx_246
      rw [show (agreesE 2 [([1, 2], [2, 1]), ([2, 1], [1, 2]), ([1, 1], [2, 2])] [0] [1] : Int) = 5 from (by rw [agrC_eq]; decide +kernel)]
      refine Wx.gyes rfl rfl (congrArg Value.bool g_216) ?_
      refine Wx.rd (v := .bool (decide ((5 : Int) = 5))) (rd_eql rfl rfl) rfl ?_
      refine Wx.rd (v := .bool (decide ((5 : Int) = 5))) (rd_pickT (congrArg Value.bool g_216) rfl) rfl ?_
      refine Wx.nil ⟨(), St.tl (St.tl (St.tl (St.tl (hS.tl)))), ⟨?_, trivial⟩, Out.look rfl Out.refl⟩
      show Value.bool (decide ((5 : Int) = 5)) = Value.bool (((decide ((14 : Int) = 14) && decide ((2 : Int) = 2)) && decide ((14 : Int) = 14)) && decide ((5 : Int) = 5))
      first | rw [g_216, Bool.true_and] | (rw [g_216]; rfl)
    · -- False
      have gp_247 := g_216
      try simp only [Bool.and_eq_true, Bool.or_eq_true, Bool.not_eq_true', Bool.and_eq_false_iff, Bool.or_eq_false_iff, Bool.not_eq_false', decide_eq_true_eq, decide_eq_false_iff_not, not_or, Bool.false_eq_true, Bool.true_eq_false, false_or, or_false, not_false_eq_true] at gp_247
      refine Wx.gnoB rfl rfl (congrArg Value.bool g_216) rfl rfl ?_
      refine Wx.gnoB rfl rfl (congrArg Value.bool g_216) rfl rfl ?_
      refine Wx.gnoB rfl rfl (congrArg Value.bool g_216) rfl rfl ?_
      refine Wx.gnoB rfl rfl (congrArg Value.bool g_216) rfl rfl ?_
      refine Wx.gnoB rfl rfl (congrArg Value.bool g_216) rfl rfl ?_
      refine Wx.gnoB rfl rfl (congrArg Value.bool g_216) rfl rfl ?_
      refine Wx.gnoB rfl rfl (congrArg Value.bool g_216) rfl rfl ?_
      refine Wx.rd (v := .bool false) (rd_pickF (congrArg Value.bool g_216) rfl) rfl ?_
      refine Wx.nil ⟨(), hS, ⟨?_, trivial⟩, Out.look rfl Out.refl⟩
      show Value.bool false = Value.bool (((decide ((14 : Int) = 14) && decide ((2 : Int) = 2)) && decide ((14 : Int) = 14)) && decide ((5 : Int) = 5))
      first | rw [g_216, Bool.false_and] | (rw [g_216]; rfl)
  rintro ⟨⟩ u_249 w_248 hS
  refine Wx.rd (v := .bool (((decide ((14 : Int) = 14) && decide ((2 : Int) = 2)) && decide ((14 : Int) = 14)) && decide ((5 : Int) = 5))) (rd_move rfl) rfl ?_
  refine Wx.cut (X := Unit) 3 [123, 124, 125] (fun _ => [(125, .bool ((((decide ((14 : Int) = 14) && decide ((2 : Int) = 2)) && decide ((14 : Int) = 14)) && decide ((5 : Int) = 5)) && decide ((1 : Int) = 1)))]) (fun _ w' => St w O w' [Ob.v (tSl (tI .i64)) [0] r_169, Ob.v (tSl (tI .i64)) [0] v_165, Ob.v (tSl (tP (tSl (tI .i64)) (tSl (tI .i64)))) [([2, 1], [2, 1]), ([1, 2], [1, 2])] r_159, Ob.v (tSl (tI .i64)) [2] r_149, Ob.v (tSl (tI .i64)) [2] v_145, .row (tP (tSl (tI .i64)) (tSl (tI .i64))) 62 r_140 [([1, 2], [2, 1]), ([2], [1, 2]), ([1, 1], [2, 2])], Ob.v (tSl (tI .i64)) [0, 2] r_130, Ob.v (tSl (tI .i64)) [0, 2] v_126, .row (tP (tSl (tI .i64)) (tSl (tI .i64))) 62 r_121 [([0, 2], [2, 1]), ([2, 1], [1, 2]), ([1, 1], [2, 2])], Ob.v (tSl (tI .i64)) (wrongE 2 [([1, 2], [2, 1]), ([2, 1], [1, 2]), ([1, 1], [2, 2])]) v_53, Ob.v (tSl (tP (tSl (tI .i64)) (tSl (tI .i64)))) [([1, 2], [2, 1]), ([2, 1], [1, 2]), ([1, 1], [2, 2])] r_44, Ob.v (tSl (tI .i64)) (leastL 2 [([1, 2], [2, 1]), ([2, 1], [1, 2]), ([1, 1], [2, 2])] 1 1) v_40, Ob.v (tSl (tP (tSl (tI .i64)) (tSl (tI .i64)))) [([1, 2], [2, 1]), ([2, 1], [1, 2]), ([1, 1], [2, 2])] r_31, .row (tP (tI .i64) (tI .i64)) 59 v_28 (pairsE (bS [([1, 2], [2, 1]), ([2, 1], [1, 2]), ([1, 1], [2, 2])]) 2 [([1, 2], [2, 1]), ([2, 1], [1, 2]), ([1, 1], [2, 2])]), Ob.v (tSl (tP (tSl (tI .i64)) (tSl (tI .i64)))) [([1, 2], [2, 1]), ([2, 1], [1, 2]), ([1, 1], [2, 2])] r_19, Ob.v (tSl (tP (tSl (tI .i64)) (tSl (tI .i64)))) [([1, 2], [2, 1]), ([2, 1], [1, 2]), ([1, 1], [2, 2])] r_10, Ob.v (tSl (tP (tSl (tI .i64)) (tSl (tI .i64)))) [([1, 2], [2, 1]), ([2, 1], [1, 2]), ([1, 1], [2, 2])] r_1]) ?_ ?_
  · rcases Bool.eq_false_or_eq_true (((decide ((14 : Int) = 14) && decide ((2 : Int) = 2)) && decide ((14 : Int) = 14)) && decide ((5 : Int) = 5)) with g_250 | g_250
    · -- True
      have gp_251 := g_250
      try simp only [Bool.and_eq_true, Bool.or_eq_true, Bool.not_eq_true', Bool.and_eq_false_iff, Bool.or_eq_false_iff, Bool.not_eq_false', decide_eq_true_eq, decide_eq_false_iff_not, not_or, Bool.false_eq_true, Bool.true_eq_false, false_or, or_false, not_false_eq_true] at gp_251
      refine Wx.gyes rfl rfl (congrArg Value.bool g_250) ?_
      refine Wx.callF (run_callF Try.call25 rfl) (F25 (in_i64 (by omega) (by omega)) (V.nil (O := []) (t := (tP (tSl (tI .i64)) (tSl (tI .i64)))))) rfl ?_
      rintro r_252 w_253 hx_254 rfl
      have hS := hS.ext hx_254
      rw [show (checkE 4 ([] : List ((List Int) × (List Int))) : Int) = 1 from (by decide +kernel)]
      refine Wx.gyes rfl rfl (congrArg Value.bool g_250) ?_
      refine Wx.rd (v := .bool (decide ((1 : Int) = 1))) (rd_eql rfl rfl) rfl ?_
      refine Wx.rd (v := .bool (decide ((1 : Int) = 1))) (rd_pickT (congrArg Value.bool g_250) rfl) rfl ?_
      refine Wx.nil ⟨(), hS, ⟨?_, trivial⟩, Out.look rfl Out.refl⟩
      show Value.bool (decide ((1 : Int) = 1)) = Value.bool ((((decide ((14 : Int) = 14) && decide ((2 : Int) = 2)) && decide ((14 : Int) = 14)) && decide ((5 : Int) = 5)) && decide ((1 : Int) = 1))
      first | rw [g_250, Bool.true_and] | (rw [g_250]; rfl)
    · -- False
      have gp_255 := g_250
      try simp only [Bool.and_eq_true, Bool.or_eq_true, Bool.not_eq_true', Bool.and_eq_false_iff, Bool.or_eq_false_iff, Bool.not_eq_false', decide_eq_true_eq, decide_eq_false_iff_not, not_or, Bool.false_eq_true, Bool.true_eq_false, false_or, or_false, not_false_eq_true] at gp_255
      refine Wx.gnoB rfl rfl (congrArg Value.bool g_250) rfl rfl ?_
      refine Wx.gnoB rfl rfl (congrArg Value.bool g_250) rfl rfl ?_
      refine Wx.rd (v := .bool false) (rd_pickF (congrArg Value.bool g_250) rfl) rfl ?_
      refine Wx.nil ⟨(), hS, ⟨?_, trivial⟩, Out.look rfl Out.refl⟩
      show Value.bool false = Value.bool ((((decide ((14 : Int) = 14) && decide ((2 : Int) = 2)) && decide ((14 : Int) = 14)) && decide ((5 : Int) = 5)) && decide ((1 : Int) = 1))
      first | rw [g_250, Bool.false_and] | (rw [g_250]; rfl)
  rintro ⟨⟩ u_257 w_256 hS
  refine Wx.rd (v := .bool ((((decide ((14 : Int) = 14) && decide ((2 : Int) = 2)) && decide ((14 : Int) = 14)) && decide ((5 : Int) = 5)) && decide ((1 : Int) = 1))) (rd_move rfl) rfl ?_
  refine Wx.cut (X := Unit) 4 [127, 128, 129, 130] (fun _ => [(130, .bool (((((decide ((14 : Int) = 14) && decide ((2 : Int) = 2)) && decide ((14 : Int) = 14)) && decide ((5 : Int) = 5)) && decide ((1 : Int) = 1)) && decide ((1 : Int) = 1)))]) (fun _ w' => St w O w' [Ob.v (tSl (tI .i64)) [0] r_169, Ob.v (tSl (tI .i64)) [0] v_165, Ob.v (tSl (tP (tSl (tI .i64)) (tSl (tI .i64)))) [([2, 1], [2, 1]), ([1, 2], [1, 2])] r_159, Ob.v (tSl (tI .i64)) [2] r_149, Ob.v (tSl (tI .i64)) [2] v_145, .row (tP (tSl (tI .i64)) (tSl (tI .i64))) 62 r_140 [([1, 2], [2, 1]), ([2], [1, 2]), ([1, 1], [2, 2])], Ob.v (tSl (tI .i64)) [0, 2] r_130, Ob.v (tSl (tI .i64)) [0, 2] v_126, .row (tP (tSl (tI .i64)) (tSl (tI .i64))) 62 r_121 [([0, 2], [2, 1]), ([2, 1], [1, 2]), ([1, 1], [2, 2])], Ob.v (tSl (tI .i64)) (wrongE 2 [([1, 2], [2, 1]), ([2, 1], [1, 2]), ([1, 1], [2, 2])]) v_53, Ob.v (tSl (tP (tSl (tI .i64)) (tSl (tI .i64)))) [([1, 2], [2, 1]), ([2, 1], [1, 2]), ([1, 1], [2, 2])] r_44, Ob.v (tSl (tI .i64)) (leastL 2 [([1, 2], [2, 1]), ([2, 1], [1, 2]), ([1, 1], [2, 2])] 1 1) v_40, Ob.v (tSl (tP (tSl (tI .i64)) (tSl (tI .i64)))) [([1, 2], [2, 1]), ([2, 1], [1, 2]), ([1, 1], [2, 2])] r_31, .row (tP (tI .i64) (tI .i64)) 59 v_28 (pairsE (bS [([1, 2], [2, 1]), ([2, 1], [1, 2]), ([1, 1], [2, 2])]) 2 [([1, 2], [2, 1]), ([2, 1], [1, 2]), ([1, 1], [2, 2])]), Ob.v (tSl (tP (tSl (tI .i64)) (tSl (tI .i64)))) [([1, 2], [2, 1]), ([2, 1], [1, 2]), ([1, 1], [2, 2])] r_19, Ob.v (tSl (tP (tSl (tI .i64)) (tSl (tI .i64)))) [([1, 2], [2, 1]), ([2, 1], [1, 2]), ([1, 1], [2, 2])] r_10, Ob.v (tSl (tP (tSl (tI .i64)) (tSl (tI .i64)))) [([1, 2], [2, 1]), ([2, 1], [1, 2]), ([1, 1], [2, 2])] r_1]) ?_ ?_
  · rcases Bool.eq_false_or_eq_true ((((decide ((14 : Int) = 14) && decide ((2 : Int) = 2)) && decide ((14 : Int) = 14)) && decide ((5 : Int) = 5)) && decide ((1 : Int) = 1)) with g_258 | g_258
    · -- True
      have gp_259 := g_258
      try simp only [Bool.and_eq_true, Bool.or_eq_true, Bool.not_eq_true', Bool.and_eq_false_iff, Bool.or_eq_false_iff, Bool.not_eq_false', decide_eq_true_eq, decide_eq_false_iff_not, not_or, Bool.false_eq_true, Bool.true_eq_false, false_or, or_false, not_false_eq_true] at gp_259
      refine Wx.gyes rfl rfl (congrArg Value.bool g_258) ?_
      refine Wx.rd (v := r_121) (rd_move rfl) rfl ?_
      refine Wx.gyes rfl rfl (congrArg Value.bool g_258) ?_
      refine Wx.callF (run_callF Try.call25 rfl) (F25 (in_i64 (by omega) (by omega)) (hS.lend 8 rfl)) rfl ?_
      rintro r_260 w_261 hx_262 rfl
      have hS := hS.ext hx_262
      rw [show (checkE 2 [([0, 2], [2, 1]), ([2, 1], [1, 2]), ([1, 1], [2, 2])] : Int) = 1 from (by decide +kernel)]
      refine Wx.gyes rfl rfl (congrArg Value.bool g_258) ?_
      refine Wx.rd (v := .bool (decide ((1 : Int) = 1))) (rd_eql rfl rfl) rfl ?_
      refine Wx.rd (v := .bool (decide ((1 : Int) = 1))) (rd_pickT (congrArg Value.bool g_258) rfl) rfl ?_
      refine Wx.nil ⟨(), hS, ⟨?_, trivial⟩, Out.look rfl Out.refl⟩
      show Value.bool (decide ((1 : Int) = 1)) = Value.bool (((((decide ((14 : Int) = 14) && decide ((2 : Int) = 2)) && decide ((14 : Int) = 14)) && decide ((5 : Int) = 5)) && decide ((1 : Int) = 1)) && decide ((1 : Int) = 1))
      first | rw [g_258, Bool.true_and] | (rw [g_258]; rfl)
    · -- False
      have gp_263 := g_258
      try simp only [Bool.and_eq_true, Bool.or_eq_true, Bool.not_eq_true', Bool.and_eq_false_iff, Bool.or_eq_false_iff, Bool.not_eq_false', decide_eq_true_eq, decide_eq_false_iff_not, not_or, Bool.false_eq_true, Bool.true_eq_false, false_or, or_false, not_false_eq_true] at gp_263
      refine Wx.gnoB rfl rfl (congrArg Value.bool g_258) rfl rfl ?_
      refine Wx.gnoB rfl rfl (congrArg Value.bool g_258) rfl rfl ?_
      refine Wx.gnoB rfl rfl (congrArg Value.bool g_258) rfl rfl ?_
      refine Wx.rd (v := .bool false) (rd_pickF (congrArg Value.bool g_258) rfl) rfl ?_
      refine Wx.nil ⟨(), hS, ⟨?_, trivial⟩, Out.look rfl Out.refl⟩
      show Value.bool false = Value.bool (((((decide ((14 : Int) = 14) && decide ((2 : Int) = 2)) && decide ((14 : Int) = 14)) && decide ((5 : Int) = 5)) && decide ((1 : Int) = 1)) && decide ((1 : Int) = 1))
      first | rw [g_258, Bool.false_and] | (rw [g_258]; rfl)
  rintro ⟨⟩ u_265 w_264 hS
  refine Wx.rd (v := .bool (((((decide ((14 : Int) = 14) && decide ((2 : Int) = 2)) && decide ((14 : Int) = 14)) && decide ((5 : Int) = 5)) && decide ((1 : Int) = 1)) && decide ((1 : Int) = 1))) (rd_move rfl) rfl ?_
  refine Wx.cut (X := Unit) 4 [132, 133, 134, 135] (fun _ => [(135, .bool ((((((decide ((14 : Int) = 14) && decide ((2 : Int) = 2)) && decide ((14 : Int) = 14)) && decide ((5 : Int) = 5)) && decide ((1 : Int) = 1)) && decide ((1 : Int) = 1)) && decide ((5 : Int) = 5)))]) (fun _ w' => St w O w' [Ob.v (tSl (tI .i64)) [0] r_169, Ob.v (tSl (tI .i64)) [0] v_165, Ob.v (tSl (tP (tSl (tI .i64)) (tSl (tI .i64)))) [([2, 1], [2, 1]), ([1, 2], [1, 2])] r_159, Ob.v (tSl (tI .i64)) [2] r_149, Ob.v (tSl (tI .i64)) [2] v_145, .row (tP (tSl (tI .i64)) (tSl (tI .i64))) 62 r_140 [([1, 2], [2, 1]), ([2], [1, 2]), ([1, 1], [2, 2])], Ob.v (tSl (tI .i64)) [0, 2] r_130, Ob.v (tSl (tI .i64)) [0, 2] v_126, .row (tP (tSl (tI .i64)) (tSl (tI .i64))) 62 r_121 [([0, 2], [2, 1]), ([2, 1], [1, 2]), ([1, 1], [2, 2])], Ob.v (tSl (tI .i64)) (wrongE 2 [([1, 2], [2, 1]), ([2, 1], [1, 2]), ([1, 1], [2, 2])]) v_53, Ob.v (tSl (tP (tSl (tI .i64)) (tSl (tI .i64)))) [([1, 2], [2, 1]), ([2, 1], [1, 2]), ([1, 1], [2, 2])] r_44, Ob.v (tSl (tI .i64)) (leastL 2 [([1, 2], [2, 1]), ([2, 1], [1, 2]), ([1, 1], [2, 2])] 1 1) v_40, Ob.v (tSl (tP (tSl (tI .i64)) (tSl (tI .i64)))) [([1, 2], [2, 1]), ([2, 1], [1, 2]), ([1, 1], [2, 2])] r_31, .row (tP (tI .i64) (tI .i64)) 59 v_28 (pairsE (bS [([1, 2], [2, 1]), ([2, 1], [1, 2]), ([1, 1], [2, 2])]) 2 [([1, 2], [2, 1]), ([2, 1], [1, 2]), ([1, 1], [2, 2])]), Ob.v (tSl (tP (tSl (tI .i64)) (tSl (tI .i64)))) [([1, 2], [2, 1]), ([2, 1], [1, 2]), ([1, 1], [2, 2])] r_19, Ob.v (tSl (tP (tSl (tI .i64)) (tSl (tI .i64)))) [([1, 2], [2, 1]), ([2, 1], [1, 2]), ([1, 1], [2, 2])] r_10, Ob.v (tSl (tP (tSl (tI .i64)) (tSl (tI .i64)))) [([1, 2], [2, 1]), ([2, 1], [1, 2]), ([1, 1], [2, 2])] r_1]) ?_ ?_
  · rcases Bool.eq_false_or_eq_true (((((decide ((14 : Int) = 14) && decide ((2 : Int) = 2)) && decide ((14 : Int) = 14)) && decide ((5 : Int) = 5)) && decide ((1 : Int) = 1)) && decide ((1 : Int) = 1)) with g_266 | g_266
    · -- True
      have gp_267 := g_266
      try simp only [Bool.and_eq_true, Bool.or_eq_true, Bool.not_eq_true', Bool.and_eq_false_iff, Bool.or_eq_false_iff, Bool.not_eq_false', decide_eq_true_eq, decide_eq_false_iff_not, not_or, Bool.false_eq_true, Bool.true_eq_false, false_or, or_false, not_false_eq_true] at gp_267
      refine Wx.gyes rfl rfl (congrArg Value.bool g_266) ?_
      refine Wx.rd (v := r_140) (rd_move rfl) rfl ?_
      refine Wx.gyes rfl rfl (congrArg Value.bool g_266) ?_
      refine Wx.callF (run_callF Try.call25 rfl) (F25 (in_i64 (by omega) (by omega)) (hS.lend 5 rfl)) rfl ?_
      rintro r_268 w_269 hx_270 rfl
      have hS := hS.ext hx_270
      rw [show (checkE 2 [([1, 2], [2, 1]), ([2], [1, 2]), ([1, 1], [2, 2])] : Int) = 5 from (by decide +kernel)]
      refine Wx.gyes rfl rfl (congrArg Value.bool g_266) ?_
      refine Wx.rd (v := .bool (decide ((5 : Int) = 5))) (rd_eql rfl rfl) rfl ?_
      refine Wx.rd (v := .bool (decide ((5 : Int) = 5))) (rd_pickT (congrArg Value.bool g_266) rfl) rfl ?_
      refine Wx.nil ⟨(), hS, ⟨?_, trivial⟩, Out.look rfl Out.refl⟩
      show Value.bool (decide ((5 : Int) = 5)) = Value.bool ((((((decide ((14 : Int) = 14) && decide ((2 : Int) = 2)) && decide ((14 : Int) = 14)) && decide ((5 : Int) = 5)) && decide ((1 : Int) = 1)) && decide ((1 : Int) = 1)) && decide ((5 : Int) = 5))
      first | rw [g_266, Bool.true_and] | (rw [g_266]; rfl)
    · -- False
      have gp_271 := g_266
      try simp only [Bool.and_eq_true, Bool.or_eq_true, Bool.not_eq_true', Bool.and_eq_false_iff, Bool.or_eq_false_iff, Bool.not_eq_false', decide_eq_true_eq, decide_eq_false_iff_not, not_or, Bool.false_eq_true, Bool.true_eq_false, false_or, or_false, not_false_eq_true] at gp_271
      refine Wx.gnoB rfl rfl (congrArg Value.bool g_266) rfl rfl ?_
      refine Wx.gnoB rfl rfl (congrArg Value.bool g_266) rfl rfl ?_
      refine Wx.gnoB rfl rfl (congrArg Value.bool g_266) rfl rfl ?_
      refine Wx.rd (v := .bool false) (rd_pickF (congrArg Value.bool g_266) rfl) rfl ?_
      refine Wx.nil ⟨(), hS, ⟨?_, trivial⟩, Out.look rfl Out.refl⟩
      show Value.bool false = Value.bool ((((((decide ((14 : Int) = 14) && decide ((2 : Int) = 2)) && decide ((14 : Int) = 14)) && decide ((5 : Int) = 5)) && decide ((1 : Int) = 1)) && decide ((1 : Int) = 1)) && decide ((5 : Int) = 5))
      first | rw [g_266, Bool.false_and] | (rw [g_266]; rfl)
  rintro ⟨⟩ u_273 w_272 hS
  refine Wx.rd (v := .bool ((((((decide ((14 : Int) = 14) && decide ((2 : Int) = 2)) && decide ((14 : Int) = 14)) && decide ((5 : Int) = 5)) && decide ((1 : Int) = 1)) && decide ((1 : Int) = 1)) && decide ((5 : Int) = 5))) (rd_move rfl) rfl ?_
  refine Wx.cut (X := Unit) 4 [137, 138, 139, 140] (fun _ => [(140, .bool (((((((decide ((14 : Int) = 14) && decide ((2 : Int) = 2)) && decide ((14 : Int) = 14)) && decide ((5 : Int) = 5)) && decide ((1 : Int) = 1)) && decide ((1 : Int) = 1)) && decide ((5 : Int) = 5)) && decide ((3 : Int) = 3)))]) (fun _ w' => St w O w' [Ob.v (tSl (tI .i64)) [0] r_169, Ob.v (tSl (tI .i64)) [0] v_165, Ob.v (tSl (tP (tSl (tI .i64)) (tSl (tI .i64)))) [([2, 1], [2, 1]), ([1, 2], [1, 2])] r_159, Ob.v (tSl (tI .i64)) [2] r_149, Ob.v (tSl (tI .i64)) [2] v_145, .row (tP (tSl (tI .i64)) (tSl (tI .i64))) 62 r_140 [([1, 2], [2, 1]), ([2], [1, 2]), ([1, 1], [2, 2])], Ob.v (tSl (tI .i64)) [0, 2] r_130, Ob.v (tSl (tI .i64)) [0, 2] v_126, .row (tP (tSl (tI .i64)) (tSl (tI .i64))) 62 r_121 [([0, 2], [2, 1]), ([2, 1], [1, 2]), ([1, 1], [2, 2])], Ob.v (tSl (tI .i64)) (wrongE 2 [([1, 2], [2, 1]), ([2, 1], [1, 2]), ([1, 1], [2, 2])]) v_53, Ob.v (tSl (tP (tSl (tI .i64)) (tSl (tI .i64)))) [([1, 2], [2, 1]), ([2, 1], [1, 2]), ([1, 1], [2, 2])] r_44, Ob.v (tSl (tI .i64)) (leastL 2 [([1, 2], [2, 1]), ([2, 1], [1, 2]), ([1, 1], [2, 2])] 1 1) v_40, Ob.v (tSl (tP (tSl (tI .i64)) (tSl (tI .i64)))) [([1, 2], [2, 1]), ([2, 1], [1, 2]), ([1, 1], [2, 2])] r_31, .row (tP (tI .i64) (tI .i64)) 59 v_28 (pairsE (bS [([1, 2], [2, 1]), ([2, 1], [1, 2]), ([1, 1], [2, 2])]) 2 [([1, 2], [2, 1]), ([2, 1], [1, 2]), ([1, 1], [2, 2])]), Ob.v (tSl (tP (tSl (tI .i64)) (tSl (tI .i64)))) [([1, 2], [2, 1]), ([2, 1], [1, 2]), ([1, 1], [2, 2])] r_19, Ob.v (tSl (tP (tSl (tI .i64)) (tSl (tI .i64)))) [([1, 2], [2, 1]), ([2, 1], [1, 2]), ([1, 1], [2, 2])] r_10, Ob.v (tSl (tP (tSl (tI .i64)) (tSl (tI .i64)))) [([1, 2], [2, 1]), ([2, 1], [1, 2]), ([1, 1], [2, 2])] r_1]) ?_ ?_
  · rcases Bool.eq_false_or_eq_true ((((((decide ((14 : Int) = 14) && decide ((2 : Int) = 2)) && decide ((14 : Int) = 14)) && decide ((5 : Int) = 5)) && decide ((1 : Int) = 1)) && decide ((1 : Int) = 1)) && decide ((5 : Int) = 5)) with g_274 | g_274
    · -- True
      have gp_275 := g_274
      try simp only [Bool.and_eq_true, Bool.or_eq_true, Bool.not_eq_true', Bool.and_eq_false_iff, Bool.or_eq_false_iff, Bool.not_eq_false', decide_eq_true_eq, decide_eq_false_iff_not, not_or, Bool.false_eq_true, Bool.true_eq_false, false_or, or_false, not_false_eq_true] at gp_275
      refine Wx.gyes rfl rfl (congrArg Value.bool g_274) ?_
      refine Wx.makeP (t := (tP (tSl (tI .i64)) (tSl (tI .i64)))) (c := .slice none 0 0) (zy := ([], [])) (m := 7) elLk_22 rfl (fun _ _ => ⟨[_], [_], rfl, ⟨none, 0, rfl, Nat.le_refl _, Nat.zero_le _, fun h => (h rfl).elim⟩, ⟨none, 0, rfl, Nat.le_refl _, Nat.zero_le _, fun h => (h rfl).elim⟩⟩) hS (congrArg (Value.int .i64) rfl) (congrArg (Value.int .i64) rfl) (by omega) (by simp only [maxLen]; omega) rfl (fun v_276 w_277 hx_278 hS => ?_)
      refine Wx.gyes rfl rfl (congrArg Value.bool g_274) ?_
      refine Wx.callF (run_callF Try.call25 rfl) (F25 (in_i64 (by omega) (by omega)) (hS.lend 0 rfl)) rfl ?_
      rintro r_281 w_282 hx_283 rfl
      have hS := hS.ext hx_283
      rw [show (checkE 2 (List.replicate 7 ([], [])) : Int) = 3 from (by decide +kernel)]
      refine Wx.gyes rfl rfl (congrArg Value.bool g_274) ?_
      refine Wx.rd (v := .bool (decide ((3 : Int) = 3))) (rd_eql rfl rfl) rfl ?_
      refine Wx.rd (v := .bool (decide ((3 : Int) = 3))) (rd_pickT (congrArg Value.bool g_274) rfl) rfl ?_
      refine Wx.nil ⟨(), hS.tl, ⟨?_, trivial⟩, Out.look rfl Out.refl⟩
      show Value.bool (decide ((3 : Int) = 3)) = Value.bool (((((((decide ((14 : Int) = 14) && decide ((2 : Int) = 2)) && decide ((14 : Int) = 14)) && decide ((5 : Int) = 5)) && decide ((1 : Int) = 1)) && decide ((1 : Int) = 1)) && decide ((5 : Int) = 5)) && decide ((3 : Int) = 3))
      first | rw [g_274, Bool.true_and] | (rw [g_274]; rfl)
    · -- False
      have gp_284 := g_274
      try simp only [Bool.and_eq_true, Bool.or_eq_true, Bool.not_eq_true', Bool.and_eq_false_iff, Bool.or_eq_false_iff, Bool.not_eq_false', decide_eq_true_eq, decide_eq_false_iff_not, not_or, Bool.false_eq_true, Bool.true_eq_false, false_or, or_false, not_false_eq_true] at gp_284
      refine Wx.gnoB rfl rfl (congrArg Value.bool g_274) rfl rfl ?_
      refine Wx.gnoB rfl rfl (congrArg Value.bool g_274) rfl rfl ?_
      refine Wx.gnoB rfl rfl (congrArg Value.bool g_274) rfl rfl ?_
      refine Wx.rd (v := .bool false) (rd_pickF (congrArg Value.bool g_274) rfl) rfl ?_
      refine Wx.nil ⟨(), hS, ⟨?_, trivial⟩, Out.look rfl Out.refl⟩
      show Value.bool false = Value.bool (((((((decide ((14 : Int) = 14) && decide ((2 : Int) = 2)) && decide ((14 : Int) = 14)) && decide ((5 : Int) = 5)) && decide ((1 : Int) = 1)) && decide ((1 : Int) = 1)) && decide ((5 : Int) = 5)) && decide ((3 : Int) = 3))
      first | rw [g_274, Bool.false_and] | (rw [g_274]; rfl)
  rintro ⟨⟩ u_286 w_285 hS
  refine Wx.rd (v := .bool (((((((decide ((14 : Int) = 14) && decide ((2 : Int) = 2)) && decide ((14 : Int) = 14)) && decide ((5 : Int) = 5)) && decide ((1 : Int) = 1)) && decide ((1 : Int) = 1)) && decide ((5 : Int) = 5)) && decide ((3 : Int) = 3))) (rd_move rfl) rfl ?_
  refine Wx.cut (X := Unit) 2 [142, 143] (fun _ => [(143, .bool ((((((((decide ((14 : Int) = 14) && decide ((2 : Int) = 2)) && decide ((14 : Int) = 14)) && decide ((5 : Int) = 5)) && decide ((1 : Int) = 1)) && decide ((1 : Int) = 1)) && decide ((5 : Int) = 5)) && decide ((3 : Int) = 3)) && true))]) (fun _ w' => St w O w' [Ob.v (tSl (tI .i64)) [0] r_169, Ob.v (tSl (tI .i64)) [0] v_165, Ob.v (tSl (tP (tSl (tI .i64)) (tSl (tI .i64)))) [([2, 1], [2, 1]), ([1, 2], [1, 2])] r_159, Ob.v (tSl (tI .i64)) [2] r_149, Ob.v (tSl (tI .i64)) [2] v_145, .row (tP (tSl (tI .i64)) (tSl (tI .i64))) 62 r_140 [([1, 2], [2, 1]), ([2], [1, 2]), ([1, 1], [2, 2])], Ob.v (tSl (tI .i64)) [0, 2] r_130, Ob.v (tSl (tI .i64)) [0, 2] v_126, .row (tP (tSl (tI .i64)) (tSl (tI .i64))) 62 r_121 [([0, 2], [2, 1]), ([2, 1], [1, 2]), ([1, 1], [2, 2])], Ob.v (tSl (tI .i64)) (wrongE 2 [([1, 2], [2, 1]), ([2, 1], [1, 2]), ([1, 1], [2, 2])]) v_53, Ob.v (tSl (tP (tSl (tI .i64)) (tSl (tI .i64)))) [([1, 2], [2, 1]), ([2, 1], [1, 2]), ([1, 1], [2, 2])] r_44, Ob.v (tSl (tI .i64)) (leastL 2 [([1, 2], [2, 1]), ([2, 1], [1, 2]), ([1, 1], [2, 2])] 1 1) v_40, Ob.v (tSl (tP (tSl (tI .i64)) (tSl (tI .i64)))) [([1, 2], [2, 1]), ([2, 1], [1, 2]), ([1, 1], [2, 2])] r_31, .row (tP (tI .i64) (tI .i64)) 59 v_28 (pairsE (bS [([1, 2], [2, 1]), ([2, 1], [1, 2]), ([1, 1], [2, 2])]) 2 [([1, 2], [2, 1]), ([2, 1], [1, 2]), ([1, 1], [2, 2])]), Ob.v (tSl (tP (tSl (tI .i64)) (tSl (tI .i64)))) [([1, 2], [2, 1]), ([2, 1], [1, 2]), ([1, 1], [2, 2])] r_19, Ob.v (tSl (tP (tSl (tI .i64)) (tSl (tI .i64)))) [([1, 2], [2, 1]), ([2, 1], [1, 2]), ([1, 1], [2, 2])] r_10, Ob.v (tSl (tP (tSl (tI .i64)) (tSl (tI .i64)))) [([1, 2], [2, 1]), ([2, 1], [1, 2]), ([1, 1], [2, 2])] r_1]) ?_ ?_
  · rcases Bool.eq_false_or_eq_true (((((((decide ((14 : Int) = 14) && decide ((2 : Int) = 2)) && decide ((14 : Int) = 14)) && decide ((5 : Int) = 5)) && decide ((1 : Int) = 1)) && decide ((1 : Int) = 1)) && decide ((5 : Int) = 5)) && decide ((3 : Int) = 3)) with g_287 | g_287
    · -- True
      have gp_288 := g_287
      try simp only [Bool.and_eq_true, Bool.or_eq_true, Bool.not_eq_true', Bool.and_eq_false_iff, Bool.or_eq_false_iff, Bool.not_eq_false', decide_eq_true_eq, decide_eq_false_iff_not, not_or, Bool.false_eq_true, Bool.true_eq_false, false_or, or_false, not_false_eq_true] at gp_288
      refine Wx.gyes rfl rfl (congrArg Value.bool g_287) ?_
      refine Wx.callF (run_callF Try.call16 rfl) (F16 hS.fb_lt) rfl ?_
      rintro r_289 w_290 hx_291 rfl
      have hS := hS.ext hx_291
      refine Wx.rd (v := .bool true) (rd_pickT (congrArg Value.bool g_287) rfl) rfl ?_
      refine Wx.nil ⟨(), hS, ⟨?_, trivial⟩, Out.look rfl Out.refl⟩
      show Value.bool true = Value.bool ((((((((decide ((14 : Int) = 14) && decide ((2 : Int) = 2)) && decide ((14 : Int) = 14)) && decide ((5 : Int) = 5)) && decide ((1 : Int) = 1)) && decide ((1 : Int) = 1)) && decide ((5 : Int) = 5)) && decide ((3 : Int) = 3)) && true)
      first | rw [g_287, Bool.true_and] | (rw [g_287]; rfl)
    · -- False
      have gp_292 := g_287
      try simp only [Bool.and_eq_true, Bool.or_eq_true, Bool.not_eq_true', Bool.and_eq_false_iff, Bool.or_eq_false_iff, Bool.not_eq_false', decide_eq_true_eq, decide_eq_false_iff_not, not_or, Bool.false_eq_true, Bool.true_eq_false, false_or, or_false, not_false_eq_true] at gp_292
      refine Wx.gnoB rfl rfl (congrArg Value.bool g_287) rfl rfl ?_
      refine Wx.rd (v := .bool false) (rd_pickF (congrArg Value.bool g_287) rfl) rfl ?_
      refine Wx.nil ⟨(), hS, ⟨?_, trivial⟩, Out.look rfl Out.refl⟩
      show Value.bool false = Value.bool ((((((((decide ((14 : Int) = 14) && decide ((2 : Int) = 2)) && decide ((14 : Int) = 14)) && decide ((5 : Int) = 5)) && decide ((1 : Int) = 1)) && decide ((1 : Int) = 1)) && decide ((5 : Int) = 5)) && decide ((3 : Int) = 3)) && true)
      first | rw [g_287, Bool.false_and] | (rw [g_287]; rfl)
  rintro ⟨⟩ u_294 w_293 hS
  refine Wx.rd (v := .bool ((((((((decide ((14 : Int) = 14) && decide ((2 : Int) = 2)) && decide ((14 : Int) = 14)) && decide ((5 : Int) = 5)) && decide ((1 : Int) = 1)) && decide ((1 : Int) = 1)) && decide ((5 : Int) = 5)) && decide ((3 : Int) = 3)) && true)) (rd_assign rfl) rfl ?_
  refine Wx.nil ?_
  have e0_0 : ((((((((decide ((14 : Int) = 14) && decide ((2 : Int) = 2)) && decide ((14 : Int) = 14)) && decide ((5 : Int) = 5)) && decide ((1 : Int) = 1)) && decide ((1 : Int) = 1)) && decide ((5 : Int) = 5)) && decide ((3 : Int) = 3)) && true) = true := by first | rfl | omega
  exact W.ret ⟨.bool ((((((((decide ((14 : Int) = 14) && decide ((2 : Int) = 2)) && decide ((14 : Int) = 14)) && decide ((5 : Int) = 5)) && decide ((1 : Int) = 1)) && decide ((1 : Int) = 1)) && decide ((5 : Int) = 5)) && decide ((3 : Int) = 3)) && true), ResIs.one, hS.bel, (by rw [e0_0])⟩
end Go.Proofs.Ytjbcpggikaeleaa

namespace Go.Proofs.Ytjbcpggikaeleaa.tasteKnown
open Go.ChangeShapes Go.WideShapes Go.ChangeAt Go.RowKit Go.Joins Go.Wk
set_option linter.unusedVariables false

theorem own : ownKnob Try.prog.godebug = none := by kernel_rfl
theorem laidOut : laidOutB Try.prog = true := by kernel_rfl

set_option maxRecDepth 100000 in
theorem lifted (os : Os) (started : os.Started) (H : Type) (enc : TypeId × Value → H) :
    ReturnsInHanded {} Try.checked os 7 .any (Rows.tasteKnownSpec.pre6 enc Try.prog Try.f7 Rows.tasteKnownRow.domain false) (Rows.tasteKnownSpec.post enc Try.prog Try.f7 false true false false) := by
  refine returnsInHanded_of_change (C := Try.checked) own started (by kernel_rfl) Try.func7
    (ChangeSpec.witness6 (enc := enc) (C := Try.checked) false ⟨#[], #[], []⟩ 8 (by kernel_rfl) (by kernel_rfl) (by kernel_rfl) (by kernel_rfl)) ?_
  intro W base args ds gs before hval0 hW hcnd _
  have hval : ∀ (j : Nat) t v, Try.f7.params[j]? = some t → args[j]? = some v → Value.okWide Try.prog W .any base t v := hval0
  have hW' := hW
  obtain ⟨p, q, hA0, hV, rfl, hfz, hnd⟩ := hW
  have hA : DataW.TrodAll enc Try.prog W 0 (fun _ => true) true Try.f7.params.toList args.toList ds p := hA0
  rw [Try.params7] at hA hval
  obtain ⟨rfl, rfl, rfl⟩ := trodAll_none hA
  obtain ⟨rfl, rfl⟩ := trodVars_none hV
  clear hA0 hval0
  refine (F7 (fun b (h : some b ∈ ([] : List (Option Nat))) => nomatch h)).mono fun e W' hE => ?_
  obtain ⟨r, he, bel, hr⟩ := hE
  subst he
  subst hr
  exact ⟨_, rfl, _, _, _, [], _, [], hW', trodAll_mk1 (shut_bool Try.underlying4 _), rfl, rfl, bel.frame _, fun h => by cases h⟩

theorem over : Rows.tasteKnownRow.holds Try.pinned (OpenSpec.ofChange Rows.tasteKnownSpec) :=
  OpenClaim.holds_of_wide 7 Try.f7 rfl rfl rfl rfl rfl rfl rfl ⟨rfl, rfl, rfl, rfl, rfl⟩ rfl rfl rfl rfl rfl (by kernel_rfl) Try.func7 (by kernel_rfl)
    (of_decide_eq_true (by kernel_rfl)) (by unfold Func.isWrapper; first | (rw [if_pos (by decide +kernel)]; kernel_rfl) | (rw [if_neg (by decide +kernel)]; exact ⟨rfl, rfl⟩))
    (fun os started H enc _ => lifted os started H enc)

end Go.Proofs.Ytjbcpggikaeleaa.tasteKnown
namespace Go.Proofs.Ytjbcpggikaeleaa
/-- The statement. -/
theorem tasteKnown_proved : Rows.TasteKnownSaid := tasteKnown.over
#print axioms tasteKnown_proved
end Go.Proofs.Ytjbcpggikaeleaa
