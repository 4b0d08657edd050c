/-
  WHAT IS PROVED HERE, TEXT BY TEXT (several texts of one prover, joined to one file; the conditions stand in each statement):
  * WHAT IS PROVED HERE: a struct that is somebody else's variable, loaded whole. The conditions stand in each statement; they hold over any program.
  * WHAT IS PROVED HERE: what functions of layer 1 hand back, each out of its own code; the conditions stand in each statement.
-/
import Derived.Test.YtjhimoeodkaihaaU2
import Derived.Test.YtjhimoeodkaihaaProg
import Derived.Test.YtjhimoeodkaihaaU6

set_option linter.unusedVariables false
set_option linter.unusedSimpArgs false

namespace Go.Wk
open Go.RowKit
set_option linter.unusedVariables false
end Go.Wk

namespace Go.Proofs.Ytjhimoeodkaihaa
open Go.Wk Go.RowKit Go.Lib
set_option linter.unusedVariables false
set_option linter.unusedSimpArgs false
theorem elMq_22 : ElemI Try.prog 22 3 (.int .i64 0) 1 8 := ElemI.of Try.underlying22 (by kernel_rfl) (by first | rfl | kernel_rfl) (by decide)
theorem mixedMq_ : Try.prog.follows .mixedOrders = true := by kernel_rfl

theorem F89 {y : Int} {w : World} (i_y : InK .u64 y) (q1 : 1 ≤ y) (q7 : y ≤ 40) : Calls Try.prog 89 #[.int .u64 1, .int .u64 y] w (Ret w (fun r _ => r = .tuple #[.int .u64 0, .int .u64 y])) := by
  have b_y := bd_u64 i_y
  have hm := and_mask q1 q7
  have hS := St.start0 w
  refine enterR Try.func89 rfl Try.ntmps89 Try.results89 rfl ?_
  refine W.seq ?_
  refine W.reg ?_
  refine Wx.rd (v := .int .u64 0) (rd_assign rfl) rfl ?_
  refine Wx.rd (v := .int .u64 0) (rd_assign rfl) rfl ?_
  refine Wx.nil ?_
  refine W.seq ?_
  refine W.reg ?_
  refine Wx.rd (v := .int .u64 1) (rd_move rfl) rfl ?_
  refine Wx.rd (v := .int .u64 1) (Rd.to (v := .int .u64 (bits .and .u64 1 4294967295)) (rd_and rfl rfl) (congrArg (Value.int .u64) (show (1 : Int) = (bits .and .u64 1 4294967295 : Int) from (by decide +kernel)).symm)) rfl ?_
  have bd_1 := bd_u64 (bits_in .and .u64 1 4294967295)
  refine Wx.rd (v := .int .u64 1) (rd_assign rfl) rfl ?_
  refine Wx.nil ?_
  refine W.seq ?_
  refine W.reg ?_
  refine Wx.rd (v := .int .u64 1) (rd_move rfl) rfl ?_
  refine Wx.rd (v := .int .u64 0) (Rd.to (v := .int .u64 (1 / 2 ^ min (32 : Int).toNat (IntKind.u64).bits)) (rd_shr rfl rfl (by omega)) (congrArg (Value.int .u64) (show (0 : Int) = (1 / 2 ^ min (32 : Int).toNat (IntKind.u64).bits : Int) from (by decide +kernel)).symm)) rfl ?_
  refine Wx.rd (v := .int .u64 0) (rd_assign rfl) rfl ?_
  refine Wx.nil ?_
  refine W.seq ?_
  refine W.reg ?_
  refine Wx.rd (v := .int .u64 y) (rd_move rfl) rfl ?_
  refine Wx.rd (v := .int .u64 y) (Rd.to (v := .int .u64 (bits .and .u64 y 4294967295)) (rd_and rfl rfl) (congrArg (Value.int .u64) (show (y : Int) = (bits .and .u64 y 4294967295 : Int) from hm.1.symm).symm)) rfl ?_
  have bd_2 := bd_u64 (bits_in .and .u64 y 4294967295)
  refine Wx.rd (v := .int .u64 y) (rd_assign rfl) rfl ?_
  refine Wx.nil ?_
  refine W.seq ?_
  refine W.reg ?_
  refine Wx.rd (v := .int .u64 y) (rd_move rfl) rfl ?_
  refine Wx.rd (v := .int .u64 0) (Rd.to (v := .int .u64 (y / 2 ^ min (32 : Int).toNat (IntKind.u64).bits)) (rd_shr rfl rfl (by omega)) (congrArg (Value.int .u64) (show (0 : Int) = (y / 2 ^ min (32 : Int).toNat (IntKind.u64).bits : Int) from hm.2.symm).symm)) rfl ?_
  refine Wx.rd (v := .int .u64 0) (rd_assign rfl) rfl ?_
  refine Wx.nil ?_
  refine W.seq ?_
  refine W.reg ?_
  refine Wx.rd (v := .int .u64 1) (rd_move rfl) rfl ?_
  refine Wx.rd (v := .int .u64 y) (rd_move rfl) rfl ?_
  refine Wx.rd (v := .int .u64 y) (Rd.to (v := .int .u64 (1 * y)) (rd_mul rfl rfl (in_u64 (by omega) (by omega))) (congrArg (Value.int .u64) (show (y : Int) = (1 * y : Int) from (by omega)).symm)) rfl ?_
  refine Wx.rd (v := .int .u64 y) (rd_assign rfl) rfl ?_
  refine Wx.nil ?_
  refine W.seq ?_
  refine W.reg ?_
  refine Wx.rd (v := .int .u64 0) (rd_move rfl) rfl ?_
  refine Wx.rd (v := .int .u64 y) (rd_move rfl) rfl ?_
  refine Wx.rd (v := .int .u64 0) (Rd.to (v := .int .u64 (0 * y)) (rd_mul rfl rfl (in_u64 (by omega) (by omega))) (congrArg (Value.int .u64) (show (0 : Int) = (0 * y : Int) from (by omega)).symm)) rfl ?_
  refine Wx.rd (v := .int .u64 y) (rd_move rfl) rfl ?_
  refine Wx.rd (v := .int .u64 0) (Rd.to (v := .int .u64 (y / 2 ^ min (32 : Int).toNat (IntKind.u64).bits)) (rd_shr rfl rfl (by omega)) (congrArg (Value.int .u64) (show (0 : Int) = (y / 2 ^ min (32 : Int).toNat (IntKind.u64).bits : Int) from hm.2.symm).symm)) rfl ?_
  refine Wx.rd (v := .int .u64 0) (rd_add (a := 0) (b := 0) rfl rfl (in_u64 (by omega) (by omega))) rfl ?_
  refine Wx.rd (v := .int .u64 0) (rd_assign rfl) rfl ?_
  refine Wx.nil ?_
  refine W.seq ?_
  refine W.reg ?_
  refine Wx.rd (v := .int .u64 0) (rd_move rfl) rfl ?_
  refine Wx.rd (v := .int .u64 0) (Rd.to (v := .int .u64 (bits .and .u64 0 4294967295)) (rd_and rfl rfl) (congrArg (Value.int .u64) (show (0 : Int) = (bits .and .u64 0 4294967295 : Int) from (by decide +kernel)).symm)) rfl ?_
  have bd_3 := bd_u64 (bits_in .and .u64 0 4294967295)
  refine Wx.rd (v := .int .u64 0) (rd_assign rfl) rfl ?_
  refine Wx.nil ?_
  refine W.seq ?_
  refine W.reg ?_
  refine Wx.rd (v := .int .u64 0) (rd_move rfl) rfl ?_
  refine Wx.rd (v := .int .u64 0) (Rd.to (v := .int .u64 (0 / 2 ^ min (32 : Int).toNat (IntKind.u64).bits)) (rd_shr rfl rfl (by omega)) (congrArg (Value.int .u64) (show (0 : Int) = (0 / 2 ^ min (32 : Int).toNat (IntKind.u64).bits : Int) from (by decide +kernel)).symm)) rfl ?_
  refine Wx.rd (v := .int .u64 0) (rd_assign rfl) rfl ?_
  refine Wx.nil ?_
  refine W.seq ?_
  refine W.reg ?_
  refine Wx.rd (v := .int .u64 0) (rd_move rfl) rfl ?_
  refine Wx.rd (v := .int .u64 1) (rd_move rfl) rfl ?_
  refine Wx.rd (v := .int .u64 0) (rd_move rfl) rfl ?_
  refine Wx.rd (v := .int .u64 0) (rd_mul (a := 1) (b := 0) rfl rfl (in_u64 (by omega) (by omega))) rfl ?_
  refine Wx.rd (v := .int .u64 0) (rd_add (a := 0) (b := 0) rfl rfl (in_u64 (by omega) (by omega))) rfl ?_
  refine Wx.rd (v := .int .u64 0) (rd_assign rfl) rfl ?_
  refine Wx.nil ?_
  refine W.seq ?_
  refine W.reg ?_
  refine Wx.rd (v := .int .u64 0) (rd_move rfl) rfl ?_
  refine Wx.rd (v := .int .u64 0) (rd_move rfl) rfl ?_
  refine Wx.rd (v := .int .u64 0) (rd_mul (a := 0) (b := 0) rfl rfl (in_u64 (by omega) (by omega))) rfl ?_
  refine Wx.rd (v := .int .u64 0) (rd_move rfl) rfl ?_
  refine Wx.rd (v := .int .u64 0) (rd_add (a := 0) (b := 0) rfl rfl (in_u64 (by omega) (by omega))) rfl ?_
  refine Wx.rd (v := .int .u64 0) (rd_move rfl) rfl ?_
  refine Wx.rd (v := .int .u64 0) (Rd.to (v := .int .u64 (0 / 2 ^ min (32 : Int).toNat (IntKind.u64).bits)) (rd_shr rfl rfl (by omega)) (congrArg (Value.int .u64) (show (0 : Int) = (0 / 2 ^ min (32 : Int).toNat (IntKind.u64).bits : Int) from (by decide +kernel)).symm)) rfl ?_
  refine Wx.rd (v := .int .u64 0) (rd_add (a := 0) (b := 0) rfl rfl (in_u64 (by omega) (by omega))) rfl ?_
  refine Wx.rd (v := .int .u64 0) (rd_assign rfl) rfl ?_
  refine Wx.nil ?_
  refine W.seq ?_
  refine W.reg ?_
  refine Wx.rd (v := .int .u64 1) (rd_move rfl) rfl ?_
  refine Wx.rd (v := .int .u64 y) (rd_move rfl) rfl ?_
  refine Wx.rd (v := .int .u64 y) (Rd.to (v := .int .u64 (1 * y)) (rd_mul rfl rfl (in_u64 (by omega) (by omega))) (congrArg (Value.int .u64) (show (y : Int) = (1 * y : Int) from (by omega)).symm)) rfl ?_
  refine Wx.rd (v := .int .u64 y) (rd_assign rfl) rfl ?_
  refine Wx.nil ?_
  exact W.ret ⟨.tuple #[.int .u64 0, .int .u64 y], ResIs.two, hS.bel, rfl⟩

theorem F83 {y : Int} {w : World} (i_y : InK .u64 y) (q1 : 1 ≤ y) (q7 : y ≤ 40) : Calls Try.prog 83 #[.int .u64 1, .int .u64 y] w (Ret w (fun r _ => r = .tuple #[.int .u64 0, .int .u64 y])) := by
  have b_y := bd_u64 i_y
  have hS := St.start0 w
  refine enterR Try.func83 rfl Try.ntmps83 Try.results83 rfl ?_
  refine W.seq ?_
  refine W.reg ?_
  refine Wx.rd (v := .int .u64 0) (rd_assign rfl) rfl ?_
  refine Wx.rd (v := .int .u64 0) (rd_assign rfl) rfl ?_
  refine Wx.nil ?_
  refine W.seq ?_
  refine W.condF rfl rfl ?_
  refine W.skip ?_
  refine W.seq ?_
  refine W.reg ?_
  refine Wx.rd (v := .int .u64 1) (rd_move rfl) rfl ?_
  refine Wx.rd (v := .int .u64 y) (rd_move rfl) rfl ?_
  refine Wx.callF (run_callF Try.call89 rfl) (F89 i_y (by omega) (by omega)) rfl ?_
  rintro r_1 w_2 hx_3 rfl
  have hS := hS.ext hx_3
  refine Wx.rd (v := .tuple #[.int .u64 0, .int .u64 y]) (rd_move rfl) rfl ?_
  refine Wx.rd (v := .int .u64 0) (rd_extract rfl rfl) rfl ?_
  refine Wx.rd (v := .int .u64 y) (rd_extract rfl rfl) rfl ?_
  refine Wx.rd (v := .int .u64 0) (rd_assign rfl) rfl ?_
  refine Wx.rd (v := .int .u64 y) (rd_assign rfl) rfl ?_
  refine Wx.nil ?_
  refine W.seq ?_
  refine W.reg ?_
  refine Wx.rd (v := .int .u64 0) (rd_move rfl) rfl ?_
  refine Wx.rd (v := .int .u64 y) (rd_move rfl) rfl ?_
  refine Wx.rd (v := .int .u64 0) (rd_assign rfl) rfl ?_
  refine Wx.rd (v := .int .u64 y) (rd_assign rfl) rfl ?_
  refine Wx.nil ?_
  exact W.ret ⟨.tuple #[.int .u64 0, .int .u64 y], ResIs.two, hS.bel, rfl⟩

theorem F51 {xv : Value} {Fr_xv : List (Option Nat)} {n : Int} {a : Int} {w : World} (h_xv : V (tSl (tI .i64)) [a] xv Fr_xv w) (i_n : InK .i64 n) (q1 : 1 ≤ n) (q7 : n ≤ 40) : Calls Try.prog 51 #[xv, .int .i64 n] w (Ret w (fun r w' => ∃ rv, r = rv ∧ Fresh (tI .i64) 3 (List.replicate n.toNat a) rv w.heap.size w')) := by
  have b_n := bd_i64 i_n
  have a_xv := h_xv.any
  have l_xv := h_xv.len63
  have hS := St.start0 w
  refine enterR Try.func51 rfl Try.ntmps51 Try.results51 rfl ?_
  refine W.seq ?_
  refine W.reg ?_
  refine Wx.rd (v := (.slice none 0 0)) (rd_assign rfl) rfl ?_
  refine Wx.nil ?_
  refine W.seq ?_
  refine W.seq ?_
  refine W.reg ?_
  refine Wx.rd (v := .int .i64 n) (rd_move rfl) rfl ?_
  refine Wx.rd (v := .bool (decide (n < 0))) (rd_lss rfl rfl) rfl ?_
  refine Wx.nil ?_
  refine W.condF rfl (decide_eq_false (by omega)) ?_
  refine W.skip ?_
  refine W.seq ?_
  refine W.reg ?_
  refine Wx.rd (v := xv) (rd_move rfl) rfl ?_
  refine Wx.rd (v := .int .i64 1) (Rd.to (v := .int .i64 ([a].length : Int)) (rd_lenV rfl (hS.arg a_xv) Try.underlying22) (congrArg (Value.int .i64) (show (1 : Int) = (([a].length : Int) : Int) from rfl).symm)) rfl ?_
  refine Wx.rd (v := .int .u64 1) (rd_convIn rfl Try.underlying3 Try.underlying107 (in_u64 (by omega) (by omega))) rfl ?_
  refine Wx.rd (v := .int .i64 n) (rd_move rfl) rfl ?_
  refine Wx.rd (v := .int .u64 n) (rd_convIn rfl Try.underlying3 Try.underlying107 (in_u64 (by omega) (by omega))) rfl ?_
  refine Wx.callF (run_callF Try.call83 rfl) (F83 (in_u64 (by omega) (by omega)) (by omega) (by omega)) rfl ?_
  rintro r_1 w_2 hx_3 rfl
  have hS := hS.ext hx_3
  refine Wx.rd (v := .tuple #[.int .u64 0, .int .u64 n]) (rd_move rfl) rfl ?_
  refine Wx.rd (v := .int .u64 0) (rd_extract rfl rfl) rfl ?_
  refine Wx.rd (v := .int .u64 n) (rd_extract rfl rfl) rfl ?_
  refine Wx.rd (v := .int .u64 0) (rd_assign rfl) rfl ?_
  refine Wx.rd (v := .int .u64 n) (rd_assign rfl) rfl ?_
  refine Wx.nil ?_
  refine W.seq ?_
  refine W.seq ?_
  refine W.reg ?_
  refine Wx.rd (v := .int .u64 0) (rd_move rfl) rfl ?_
  refine Wx.rd (v := .bool false) (Rd.to (v := .bool (decide ((0 : Int) < 0))) (rd_gtr rfl rfl) rfl) rfl ?_
  refine Wx.rd (v := .bool false) (rd_move rfl) rfl ?_
  refine Wx.gyes rfl rfl rfl ?_
  refine Wx.rd (v := .int .u64 n) (rd_move rfl) rfl ?_
  refine Wx.gyes rfl rfl rfl ?_
  refine Wx.rd (v := .bool (decide (9223372036854775807 < n))) (rd_gtr rfl rfl) rfl ?_
  refine Wx.rd (v := .bool (decide (9223372036854775807 < n))) (rd_pickF rfl rfl) rfl ?_
  refine Wx.nil ?_
  refine W.condF rfl (by simp; omega) ?_
  refine W.skip ?_
  refine W.seq ?_
  refine W.reg ?_
  refine Wx.rd (v := .int .u64 n) (rd_move rfl) rfl ?_
  refine Wx.rd (v := .int .i64 n) (rd_convIn rfl Try.underlying107 Try.underlying3 (in_i64 (by omega) (by omega))) rfl ?_
  refine Wx.make (t := (tI .i64)) (zy := 0) (m := n.toNat) elMq_22 rfl rfl (fun _ _ => ⟨rfl, by decide, by decide⟩) hS (congrArg (Value.int .i64) (by omega)) (congrArg (Value.int .i64) (by omega)) (by omega) (by simp only [maxLen]; omega) rfl (fun v_4 w_5 hx_6 hS => ?_)
  refine Wx.rd (v := v_4) (rd_assign rfl) rfl ?_
  refine Wx.nil ?_
  refine W.seq ?_
  refine W.reg ?_
  refine Wx.rd (v := v_4) (rd_move rfl) rfl ?_
  refine Wx.rd (v := xv) (rd_move rfl) rfl ?_
  have hrl : (List.replicate n.toNat (0 : Int)).length = n.toNat := by simp
  refine Wx.copyW (c := 1) (yn := List.replicate 1 a ++ List.replicate (n.toNat - 1) 0) rfl Try.underlying22 Try.sizeOf3 hS 0 rfl rfl (by simp; omega) rfl (Src.ofV (hS.arg a_xv)) rfl (by simp; omega) (rep_first (by omega)) (fun w_9 hz_10 hS => ?_)
  refine Wx.rd (v := .int .i64 1) (rd_assign rfl) rfl ?_
  refine Wx.nil ?_
  refine W.seq ?_
  refine W.block ?_
  refine W.loop [8, 34, 35, 36, 37, 38, 39, 40, 41, 42, 43, 44, 45, 46] (fun x : Int × (List Int) => match x with | (b, out) => [(8, .int .i64 b)]) (fun (x : Int × (List Int)) w' => match x with | (b, out) => St w [] w' [.row (tI .i64) 3 v_4 out] ∧ 1 ≤ b ∧ b ≤ n ∧ out = List.replicate b.toNat a ++ List.replicate (n.toNat - b.toNat) 0 ∧ (out.length : Int) = n) (fun x : Int × (List Int) => match x with | (b, out) => (n - b).toNat) (1, List.replicate 1 a ++ List.replicate (n.toNat - 1) 0) ⟨rfl, trivial⟩ ⟨hS, (by first | omega | simp), (by first | omega | simp), (rfl), (by simp; omega)⟩ ?_
  rintro ⟨b, out⟩ u_12 w_11 ⟨hS, h0, h1, h2, h3⟩
  refine W.seq ?_
  refine W.seq ?_
  refine W.reg ?_
  refine Wx.rd (v := .int .i64 b) (rd_move rfl) rfl ?_
  refine Wx.rd (v := v_4) (rd_move rfl) rfl ?_
  refine Wx.rd (v := .int .i64 (out.length : Int)) (rd_lenR hS 0 rfl rfl Try.underlying22) rfl ?_
  refine Wx.rd (v := .bool (decide (b < (out.length : Int)))) (rd_lss rfl rfl) rfl ?_
  refine Wx.nil ?_
  refine W.condD rfl (fun c2 => ?_) (fun c2 => ?_)
  · -- yes
    refine W.skip ?_
    refine W.block ?_
    refine W.regP mixedMq_ (fun w_13 hx_14 => ?_)
    have hS := hS.ext hx_14
    refine Wp.rd (v := .int .i64 b) 0 rfl (by kernel_rfl) (fun _ => (rd_move rfl)) rfl ?_
    refine Wp.rd (v := v_4) 1 rfl (by kernel_rfl) (fun _ => (rd_move rfl)) rfl ?_
    refine Wp.rd (v := .int .i64 b) 2 rfl (by kernel_rfl) (fun _ => (rd_move rfl)) rfl ?_
    refine Wp.ex2 3 rfl (by kernel_rfl) (rd_tailR hS 0 rfl Try.underlying22 Try.sizeOf3 rfl rfl (by omega) (by omega)) rfl (fun g_15 c_16 hg_17 => ?_)
    refine Wp.rd (v := v_4) 4 rfl (by kernel_rfl) (fun _ => (rd_move rfl)) rfl ?_
    refine Wp.rd (v := .int .i64 b) 5 rfl (by kernel_rfl) (fun _ => (rd_move rfl)) rfl ?_
    refine Wp.ex2 6 rfl (by kernel_rfl) (rd_headR hS 0 rfl Try.underlying22 Try.sizeOf3 rfl rfl (by omega) (by omega)) rfl (fun g_18 c_19 hg_20 => ?_)
    refine Wp.br [7] (by kernel_rfl) (by decide) ⟨⟨_, rfl, ?_⟩, trivial⟩
    refine Wx.copyR (c := min (b + b) n - b) (yn := List.replicate (min (b + b) n).toNat a ++ List.replicate (n.toNat - (min (b + b) n).toNat) 0) rfl Try.underlying22 Try.sizeOf3 hS 0 rfl hg_17 rfl (by show b.toNat * 1 + (out.length - b.toNat) ≤ out.length; omega) rfl (Src.headR hS 0 rfl hg_20 (by omega)) rfl (by rw [List.length_take, Nat.min_eq_left (show b.toNat ≤ out.length by omega), Nat.min_def, Int.min_def]; split <;> split <;> omega) (by rw [h2]; exact rep_next (by omega) (by omega)) (fun w_21 hz_22 hS => ?_)
    refine Wx.nil ?_
    refine Wp.rd (v := .int .i64 (b + (min (b + b) n - b))) 8 rfl (by kernel_rfl) (fun _ => (rd_add rfl rfl (in_i64 (by omega) (by omega)))) rfl ?_
    refine Wp.rd (v := .int .i64 (b + (min (b + b) n - b))) 9 rfl (by kernel_rfl) (fun _ => (rd_assign rfl)) rfl ?_
    refine Wp.done (by kernel_rfl) ?_
    refine ⟨(b + (min (b + b) n - b), List.replicate (min (b + b) n).toNat a ++ List.replicate (n.toNat - (min (b + b) n).toNat) 0), (by show (n - (b + (min (b + b) n - b))).toNat < (n - b).toNat; omega), ?_, ?_, Out.look rfl Out.self⟩
    · exact ⟨hS, (by first | omega | assumption), (by first | omega | assumption), (by rw [show b + (min (b + b) n - b) = min (b + b) n by omega]), (by simp; omega)⟩
    · exact ⟨rfl, trivial⟩
  · -- no
    refine W.exit rfl ?_
    refine W.seq ?_
    refine W.reg ?_
    refine Wx.rd (v := v_4) (rd_move rfl) rfl ?_
    refine Wx.rd (v := v_4) (rd_assign rfl) rfl ?_
    refine Wx.nil ?_
    have e0_0 : List.replicate n.toNat a = out := by rw [h2, show n.toNat - b.toNat = 0 by omega, show b = n by omega]; simp
    exact W.ret ⟨v_4, ResIs.one, hS.bel, ⟨v_4, rfl, (by rw [e0_0]; exact (hS.fr 0 rfl flat_int))⟩⟩

end Go.Proofs.Ytjhimoeodkaihaa
