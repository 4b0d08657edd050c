/-
  WHAT IS PROVED HERE, TEXT BY TEXT (several texts of one prover, joined to one file; the conditions stand in each statement):
  * WHAT IS PROVED HERE: what functions of layer 1 hand back, each out of its own code; the conditions stand in each statement.
  * WHAT IS PROVED HERE: an argument that reads as data is, in the world at the start, a value that stands for a plain list, number, or pair (V of Wk2). Conditions: the types' closed facts, as hypotheses.
  * WHAT IS PROVED HERE: the given statement of EbbWays: for every input it returns true, and each argument reads as it did. Conditions: none.
-/
import Derived.Test.YtjhimoeodkaihaaProg
import Derived.Test.YtjhimoeodkaihaaU2
import Derived.Test.YtjhimoeodkaihaaU5
import Derived.Test.YtjhimoeodkaihaaU1
import Derived.Deep.Slices
import Derived.Deep.Strs
import Derived.Lib.SmallJoins
import Derived.OpenShut
import Derived.Carry
import Derived.ProofKit
import Derived.Test.YtjhimoeodkaihaaRows
import Derived.WalkKit

set_option linter.unusedVariables false
set_option linter.unusedSimpArgs false

namespace Go.Proofs.Ytjhimoeodkaihaa
open Go.Wk Go.RowKit Go.Lib
set_option linter.unusedVariables false
set_option linter.unusedSimpArgs false
theorem foMe_24_2 : fldOff Try.prog 24 2 = some 2 := by kernel_rfl
theorem mixedMe_ : Try.prog.follows .mixedOrders = true := by kernel_rfl

set_option maxHeartbeats 2000000 in
theorem F5 {R : Int} {C : Int} {hv : Value} {H : List Int} {p : Int} {wv : Value} {ps : List Int} {h : Int} {O : List (Option Nat)} {w : World} (i_R : InK .i64 R) (i_C : InK .i64 C) (h_hv : V (tSl (tI .i64)) H hv O w) (i_p : InK .i64 p) (h_wv : V (tSl (tI .i64)) ps wv O w) (i_h : InK .i64 h) (hO : ∀ b, some b ∈ O → b < w.heap.size) : Calls Try.prog 5 #[.agg #[.int .i64 R, .int .i64 C, hv], .int .i64 p, wv, .int .i64 h] w (Ret w (fun r _ => r = .bool true)) := by
  have b_h := bd_i64 i_h
  have b_p := bd_i64 i_p
  have b_C := bd_i64 i_C
  have b_R := bd_i64 i_R
  have a_hv := h_hv
  have l_hv := h_hv.len63
  have a_wv := h_wv
  have l_wv := h_wv.len63
  have hS := St.start w O hO
  refine enterR Try.func5 rfl Try.ntmps5 Try.results5 rfl ?_
  refine W.seq ?_
  refine W.reg ?_
  refine Wx.box (cs := [.int .i64 R, .int .i64 C, hv]) hS rfl rfl rfl (fun g_1 w_2 hx_4 hb_3 hS => ?_)
  refine Wx.rd (v := .bool false) (rd_assign rfl) rfl ?_
  refine Wx.nil ?_
  refine W.seq ?_
  refine W.seq ?_
  refine W.reg ?_
  refine Wx.rd (v := .pointer (some ⟨g_1, 2, none⟩)) (rd_fieldAddr rfl foMe_24_2) rfl ?_
  refine Wx.rd (v := hv) (rd_loadX hS 0 rfl rfl rfl Try.isAgg22) rfl ?_
  refine Wx.callF (run_callF Try.call15 rfl) (F15 (hS.arg a_hv)) rfl ?_
  rintro r_5 w_6 hx_7 rfl
  have hS := hS.ext hx_7
  refine Wx.rd (v := .bool (decide (60 < (H.length : Int)))) (rd_move rfl) rfl ?_
  refine Wx.cut (X := Unit) 3 [22, 23, 24] (fun _ => [(24, .bool (decide (60 < (H.length : Int)) || decide (60 < (ps.length : Int))))]) (fun _ w' => St w O w' [.box g_1 24 [.int .i64 R, .int .i64 C, hv]]) ?_ ?_
  · rcases Bool.eq_false_or_eq_true (decide (60 < (H.length : Int))) with g_8 | g_8
    · -- True
      have gp_9 := of_decide_eq_true g_8
      refine Wx.gnoB rfl rfl (congrArg Value.bool g_8) rfl rfl ?_
      refine Wx.gnoB rfl rfl (congrArg Value.bool g_8) rfl rfl ?_
      refine Wx.rd (v := .bool true) (rd_pickT (congrArg Value.bool g_8) rfl) rfl ?_
      refine Wx.nil ⟨(), hS, ⟨?_, trivial⟩, Out.look rfl Out.refl⟩
      show Value.bool true = Value.bool (decide (60 < (H.length : Int)) || decide (60 < (ps.length : Int)))
      first | rw [g_8, Bool.true_or] | (rw [g_8]; rfl)
    · -- False
      have gp_10 := of_decide_eq_false g_8
      refine Wx.gyes rfl rfl (congrArg Value.bool g_8) ?_
      refine Wx.rd (v := wv) (rd_move rfl) rfl ?_
      refine Wx.gyes rfl rfl (congrArg Value.bool g_8) ?_
      refine Wx.callF (run_callF Try.call15 rfl) (F15 (hS.arg a_wv)) rfl ?_
      rintro r_11 w_12 hx_13 rfl
      have hS := hS.ext hx_13
      refine Wx.rd (v := .bool (decide (60 < (ps.length : Int)))) (rd_pickF (congrArg Value.bool g_8) rfl) rfl ?_
      refine Wx.nil ⟨(), hS, ⟨?_, trivial⟩, Out.look rfl Out.refl⟩
      show Value.bool (decide (60 < (ps.length : Int))) = Value.bool (decide (60 < (H.length : Int)) || decide (60 < (ps.length : Int)))
      first | rw [g_8, Bool.false_or] | (rw [g_8]; rfl)
  rintro ⟨⟩ u_15 w_14 hS
  refine Wx.nil ?_
  refine W.cond rfl (fun c0 => ?_) (fun c0 => ?_)
  · -- yes
    try simp only [Bool.and_eq_true, Bool.or_eq_true, Bool.not_eq_true', Bool.and_eq_false_iff, Bool.or_eq_false_iff, Bool.not_eq_false', decide_eq_true_eq, decide_eq_false_iff_not, not_or, Bool.false_eq_true, Bool.true_eq_false, false_or, or_false, not_false_eq_true] at c0
    refine W.seq ?_
    refine W.reg ?_
    refine Wx.callF (run_callF Try.call16 rfl) (F16) rfl ?_
    rintro r_16 w_17 hx_18 rfl
    have hS := hS.ext hx_18
    refine Wx.rd (v := .bool true) (rd_assign rfl) rfl ?_
    refine Wx.nil ?_
    exact W.ret ⟨.bool true, ResIs.one, hS.bel, rfl⟩
  · -- no
    try simp only [Bool.and_eq_true, Bool.or_eq_true, Bool.not_eq_true', Bool.and_eq_false_iff, Bool.or_eq_false_iff, Bool.not_eq_false', decide_eq_true_eq, decide_eq_false_iff_not, not_or, Bool.false_eq_true, Bool.true_eq_false, false_or, or_false, not_false_eq_true] at c0
    refine W.skip ?_
    refine W.seq ?_
    refine W.reg ?_
    refine Wx.rd (v := .agg #[.int .i64 R, .int .i64 C, hv]) (rd_loadXs (ds := [.int .i64 R, .int .i64 C, hv]) hS 0 rfl rfl rfl rfl Try.isAgg24 Try.sizeOf24) rfl ?_
    refine Wx.alloc (cs := [.int .i64 0, .int .i64 0, (.slice none 0 0)]) hS Try.zeroValue27 rfl rfl (fun g_19 w_20 hx_22 hb_21 hS => ?_)
    refine Wx.storeX (cs' := [.int .i64 R, .int .i64 C, hv]) (ds := [.int .i64 R, .int .i64 C, hv]) hS 0 rfl rfl rfl rfl Try.sizeOf27 (Nat.le_of_ble_eq_true rfl) (one_cons rfl (one_cons rfl (one_cons (V.oneC (hS.arg a_hv)) one_nil))) rfl (fun w_23 hz_24 hS => ?_)
    refine Wx.nil ?_
    refine W.seq ?_
    refine W.reg ?_
    refine Wx.rd (v := .agg #[.int .i64 R, .int .i64 C, hv]) (rd_loadXs (ds := [.int .i64 R, .int .i64 C, hv]) hS 1 rfl rfl rfl rfl Try.isAgg24 Try.sizeOf24) rfl ?_
    refine Wx.rd (v := .int .i64 p) (rd_move rfl) rfl ?_
    refine Wx.callF (run_callF Try.call31 rfl) (F31 i_R i_C (hS.arg a_hv) i_p hS.fb_lt) rfl ?_
    rintro r_25 w_26 hx_27 ⟨v_28, rfl, hv_29⟩
    have hS := hS.pushFr hx_27 hv_29
    refine Wx.rd (v := .tuple #[v_28, .int .i64 (atE R C H p)]) (rd_move rfl) rfl ?_
    refine Wx.rd (v := v_28) (rd_extract rfl rfl) rfl ?_
    refine Wx.rd (v := .int .i64 (atE R C H p)) (rd_extract rfl rfl) rfl ?_
    refine Wx.rd (v := v_28) (rd_assign rfl) rfl ?_
    refine Wx.rd (v := .int .i64 (atE R C H p)) (rd_assign rfl) rfl ?_
    refine Wx.nil ?_
    refine W.seq ?_
    refine W.reg ?_
    refine Wx.rd (v := .agg #[.int .i64 R, .int .i64 C, hv]) (rd_loadXs (ds := [.int .i64 R, .int .i64 C, hv]) hS 1 rfl rfl rfl rfl Try.isAgg27 Try.sizeOf27) rfl ?_
    refine Wx.rd (v := .int .i64 p) (rd_move rfl) rfl ?_
    refine Wx.callF (run_callF Try.call32 rfl) (F32 i_R i_C (hS.arg a_hv) i_p hS.fb_lt) rfl ?_
    rintro r_31 w_32 hx_33 ⟨v_34, rfl, hv_35⟩
    have hS := hS.pushFr hx_33 hv_35
    refine Wx.rd (v := .tuple #[v_34, .int .i64 (atE R C H p)]) (rd_move rfl) rfl ?_
    refine Wx.rd (v := v_34) (rd_extract rfl rfl) rfl ?_
    refine Wx.rd (v := .int .i64 (atE R C H p)) (rd_extract rfl rfl) rfl ?_
    refine Wx.rd (v := v_34) (rd_assign rfl) rfl ?_
    refine Wx.rd (v := .int .i64 (atE R C H p)) (rd_assign rfl) rfl ?_
    refine Wx.nil ?_
    refine W.seq ?_
    refine W.reg ?_
    refine Wx.rd (v := .agg #[.int .i64 R, .int .i64 C, hv]) (rd_loadXs (ds := [.int .i64 R, .int .i64 C, hv]) hS 3 rfl rfl rfl rfl Try.isAgg24 Try.sizeOf24) rfl ?_
    refine Wx.rd (v := .int .i64 p) (rd_move rfl) rfl ?_
    refine Wx.callF (run_callF Try.call33 rfl) (F33 i_R i_C (hS.arg a_hv) i_p hS.fb_lt) rfl ?_
    rintro r_37 w_38 hx_39 ⟨v_40, rfl, hv_41⟩
    have hS := hS.pushFr hx_39 hv_41
    refine Wx.rd (v := .tuple #[v_40, .int .i64 (atE R C H p)]) (rd_move rfl) rfl ?_
    refine Wx.rd (v := v_40) (rd_extract rfl rfl) rfl ?_
    refine Wx.rd (v := .int .i64 (atE R C H p)) (rd_extract rfl rfl) rfl ?_
    refine Wx.rd (v := v_40) (rd_assign rfl) rfl ?_
    refine Wx.rd (v := .int .i64 (atE R C H p)) (rd_assign rfl) rfl ?_
    refine Wx.nil ?_
    refine W.seq ?_
    refine W.reg ?_
    refine Wx.rd (v := .agg #[.int .i64 R, .int .i64 C, hv]) (rd_loadXs (ds := [.int .i64 R, .int .i64 C, hv]) hS 3 rfl rfl rfl rfl Try.isAgg27 Try.sizeOf27) rfl ?_
    refine Wx.rd (v := .int .i64 p) (rd_move rfl) rfl ?_
    refine Wx.callF (run_callF Try.call34 rfl) (F34 i_R i_C (hS.arg a_hv) i_p hS.fb_lt) rfl ?_
    rintro r_43 w_44 hx_45 ⟨v_46, rfl, hv_47⟩
    have hS := hS.pushFr hx_45 hv_47
    refine Wx.rd (v := .tuple #[v_46, .int .i64 (atE R C H p)]) (rd_move rfl) rfl ?_
    refine Wx.rd (v := v_46) (rd_extract rfl rfl) rfl ?_
    refine Wx.rd (v := .int .i64 (atE R C H p)) (rd_extract rfl rfl) rfl ?_
    refine Wx.rd (v := v_46) (rd_assign rfl) rfl ?_
    refine Wx.rd (v := .int .i64 (atE R C H p)) (rd_assign rfl) rfl ?_
    refine Wx.nil ?_
    refine W.seq ?_
    refine W.regQ mixedMe_ (by kernel_rfl) ?_
    refine Wx.rd (v := v_28) (rd_move rfl) rfl ?_
    refine Wx.rd (v := v_34) (rd_move rfl) rfl ?_
    refine Wx.callV (v := .bool (decide ((wayE R C H p) = (wayE R C H p)))) (run_callF Try.call21 rfl) (fun w_49 hw_50 => (F21 ((hS.lend 3 rfl).ext hw_50) ((hS.lend 2 rfl).ext hw_50))) rfl ?_
    rw [show (decide ((wayE R C H p) = (wayE R C H p)) : Bool) = true from (decide_eq_true rfl)]
    refine Wx.rd (v := .bool true) (rd_move rfl) rfl ?_
    refine Wx.gyes rfl rfl rfl ?_
    refine Wx.rd (v := .int .i64 (atE R C H p)) (rd_move rfl) rfl ?_
    refine Wx.gyes rfl rfl rfl ?_
    refine Wx.rd (v := .int .i64 (atE R C H p)) (rd_move rfl) rfl ?_
    refine Wx.gyes rfl rfl rfl ?_
    refine Wx.rd (v := .bool true) (Rd.to (v := .bool (decide ((atE R C H p) = (atE R C H p)))) (rd_eql rfl rfl) (congrArg (Value.bool) (show (true : Bool) = (decide ((atE R C H p) = (atE R C H p)) : Bool) from (decide_eq_true rfl).symm).symm)) rfl ?_
    refine Wx.rd (v := .bool true) (rd_pickT rfl rfl) rfl ?_
    refine Wx.rd (v := .bool true) (rd_move rfl) rfl ?_
    refine Wx.gyes rfl rfl rfl ?_
    refine Wx.rd (v := v_40) (rd_move rfl) rfl ?_
    refine Wx.gyes rfl rfl rfl ?_
    refine Wx.rd (v := v_46) (rd_move rfl) rfl ?_
    refine Wx.gyes rfl rfl rfl ?_
    refine Wx.callV (v := .bool (decide ((basinE R C H p) = (basinE R C H p)))) (run_callF Try.call21 rfl) (fun w_51 hw_52 => (F21 ((hS.lend 1 rfl).ext hw_52) ((hS.lend 0 rfl).ext hw_52))) rfl ?_
    rw [show (decide ((basinE R C H p) = (basinE R C H p)) : Bool) = true from (decide_eq_true rfl)]
    refine Wx.rd (v := .bool true) (rd_pickT rfl rfl) rfl ?_
    refine Wx.rd (v := .bool true) (rd_move rfl) rfl ?_
    refine Wx.gyes rfl rfl rfl ?_
    refine Wx.rd (v := .int .i64 (atE R C H p)) (rd_move rfl) rfl ?_
    refine Wx.gyes rfl rfl rfl ?_
    refine Wx.rd (v := .int .i64 (atE R C H p)) (rd_move rfl) rfl ?_
    refine Wx.gyes rfl rfl rfl ?_
    refine Wx.rd (v := .bool true) (Rd.to (v := .bool (decide ((atE R C H p) = (atE R C H p)))) (rd_eql rfl rfl) (congrArg (Value.bool) (show (true : Bool) = (decide ((atE R C H p) = (atE R C H p)) : Bool) from (decide_eq_true rfl).symm).symm)) rfl ?_
    refine Wx.rd (v := .bool true) (rd_pickT rfl rfl) rfl ?_
    refine Wx.rd (v := .bool true) (rd_move rfl) rfl ?_
    refine Wx.gyes rfl rfl rfl ?_
    refine Wx.rd (v := .agg #[.int .i64 R, .int .i64 C, hv]) (rd_loadXs (ds := [.int .i64 R, .int .i64 C, hv]) hS 5 rfl rfl rfl rfl Try.isAgg24 Try.sizeOf24) rfl ?_
    refine Wx.gyes rfl rfl rfl ?_
    refine Wx.rd (v := wv) (rd_move rfl) rfl ?_
    refine Wx.gyes rfl rfl rfl ?_
    refine Wx.rd (v := .int .i64 h) (rd_move rfl) rfl ?_
    refine Wx.gyes rfl rfl rfl ?_
    refine Wx.callV (v := .int .i64 (provesE R C H ps h)) (run_callF Try.call35 rfl) (fun w_53 hw_54 => (F35 i_R i_C ((hS.arg a_hv).ext hw_54) ((hS.arg a_wv).ext hw_54) i_h)) rfl ?_
    refine Wx.gyes rfl rfl rfl ?_
    refine Wx.rd (v := .agg #[.int .i64 R, .int .i64 C, hv]) (rd_loadXs (ds := [.int .i64 R, .int .i64 C, hv]) hS 4 rfl rfl rfl rfl Try.isAgg27 Try.sizeOf27) rfl ?_
    refine Wx.gyes rfl rfl rfl ?_
    refine Wx.rd (v := wv) (rd_move rfl) rfl ?_
    refine Wx.gyes rfl rfl rfl ?_
    refine Wx.rd (v := .int .i64 h) (rd_move rfl) rfl ?_
    refine Wx.gyes rfl rfl rfl ?_
    refine Wx.callV (v := .int .i64 (provesE R C H ps h)) (run_callF Try.call36 rfl) (fun w_55 hw_56 => (F36 i_R i_C ((hS.arg a_hv).ext hw_56) ((hS.arg a_wv).ext hw_56) i_h (by omega))) rfl ?_
    refine Wx.gyes rfl rfl rfl ?_
    refine Wx.rd (v := .bool true) (Rd.to (v := .bool (decide ((provesE R C H ps h) = (provesE R C H ps h)))) (rd_eql rfl rfl) (congrArg (Value.bool) (show (true : Bool) = (decide ((provesE R C H ps h) = (provesE R C H ps h)) : Bool) from (decide_eq_true rfl).symm).symm)) rfl ?_
    refine Wx.rd (v := .bool true) (rd_pickT rfl rfl) rfl ?_
    refine Wx.rd (v := .bool true) (rd_move rfl) rfl ?_
    refine Wx.gyes rfl rfl rfl ?_
    refine Wx.callV (v := .bool true) (run_callF Try.call16 rfl) (fun w_57 hw_58 => (F16)) rfl ?_
    refine Wx.rd (v := .bool true) (rd_pickT rfl rfl) rfl ?_
    refine Wx.rd (v := .bool true) (rd_assign rfl) rfl ?_
    refine Wx.nilQ (fun w_59 hx_60 => ?_)
    have hS := hS.ext hx_60
    exact W.ret ⟨.bool true, ResIs.one, hS.bel, rfl⟩
end Go.Proofs.Ytjhimoeodkaihaa

namespace Go.Wk
open Go.RowKit Go.ChangeShapes

section
variable {H : Type} {enc : TypeId × Value → H} {P : Program} {W : World}

theorem inK_of_wf {k : IntKind} {n : Int} (h : (Lit.int k n).wf = true) : InK k n := by
  cases k <;> simp [Lit.wf, IntKind.min, IntKind.max, IntKind.bits, IntKind.signed] at h <;> simp only [InK, lo, hi] <;> omega

theorem cell_lt {a : Addr} {v : Value} (h : W.cell? a = some v) : a.block < W.heap.size := by
  by_cases hb : a.block < W.heap.size
  · exact hb
  · have : W.heap[a.block]? = none := by simp; omega
    simp [World.cell?, this] at h

theorem add_add (a : Addr) (i j : Nat) : (a.add i).add j = a.add (i + j) := by
  obtain ⟨b, o, s⟩ := a
  by_cases hi : i = 0
  · subst hi; simp [Addr.add]
  · by_cases hj : j = 0
    · subst hj; simp [Addr.add]
    · simp [Addr.add, hi, hj, Nat.add_assoc]
structure Rds {α : Type} (enc : TypeId × Value → H) (P : Program) (W : World) (t : Ty α) (e : TypeId) : Prop where
  n : P.cellsOf e = t.n
  pos : 0 < t.n
  get : ∀ fuel cs x, DataW.trod enc P W 0 (fun _ => true) true fuel e cs = some x → ∃ y, t.rep [] W y cs

theorem Rds.int {k : IntKind} {e : TypeId} (hu : P.underlying e = some (.int k)) (hc : P.cellsOf e = 1) : Rds enc P W (tI k) e :=
  ⟨hc, Nat.one_pos, fun _ _ _ h => let ⟨n, h1, _, h3⟩ := DataW.trod_int hu h; ⟨n, h1, inK_of_wf h3⟩⟩

theorem list_of {α : Type} {p : Nat → α → Prop} : ∀ n : Nat, (∀ i, i < n → ∃ y, p i y) → ∃ ys : List α, ys.length = n ∧ ∀ i y, ys[i]? = some y → p i y
  | 0, _ => ⟨[], rfl, by simp⟩
  | n + 1, h => by
    obtain ⟨ys, h1, h2⟩ := list_of n (fun i hi => h i (by omega))
    obtain ⟨y, hy⟩ := h n (by omega)
    refine ⟨ys ++ [y], by simp [h1], fun i z hz => ?_⟩
    by_cases hi : i < ys.length
    · rw [List.getElem?_append_left hi] at hz; exact h2 i z hz
    · rw [List.getElem?_append_right (by omega)] at hz
      have : i - ys.length = 0 := by
        rcases Nat.eq_zero_or_pos (i - ys.length) with h | h
        · exact h
        · rw [List.getElem?_eq_none (by simp; omega)] at hz; cases hz
      rw [this] at hz
      simp at hz
      subst hz
      have : i = n := by omega
      rw [this]; exact hy

theorem Rds.sl {α : Type} {t : Ty α} {e s : TypeId} (h : Rds enc P W t e) (hu : P.underlying s = some (.slice e)) (hc : P.cellsOf s = 1) : Rds enc P W (tSl t) s := by
  refine ⟨hc, Nat.one_pos, fun fuel cs x hx => ?_⟩
  rcases Go.Deep.open_slice hu hx with ⟨rfl, _⟩ | ⟨a, len, cap, m, n, D, Pl, rfl, _, hl, hm, hmm, _, hel⟩
  · exact ⟨[], none, 0, rfl, Nat.le_refl _, Nat.zero_le _, fun h => (h rfl).elim⟩
  · obtain ⟨ys, hy1, hy2⟩ := list_of (p := fun i y => ∃ cs', W.cells? 0 (a.add (i * P.cellsOf e)) (P.cellsOf e) = some cs' ∧ t.rep [] W y cs') len (fun i hi => by
      obtain ⟨cs', h1, h2⟩ := hel i (by simp at hmm; omega)
      obtain ⟨y, hy⟩ := h.get _ _ _ h2
      exact ⟨y, cs', h1, hy⟩)
    refine ⟨ys, some a, cap, by rw [hy1], by omega, hm, fun hn => ?_⟩
    have hp : 0 < ys.length := by cases ys with | nil => exact (hn rfl).elim | cons => simp
    have hcell : ∀ i y, ys[i]? = some y → ∃ es, t.rep [] W y es ∧ ∀ j u, es[j]? = some u → W.cell? (a.add (i * t.n + j)) = some u := by
      intro i y hi
      obtain ⟨cs', h1, h2⟩ := hy2 i y hi
      obtain ⟨_, hlen, hc'⟩ := World.cells?_some h1
      refine ⟨cs', h2, fun j u hu' => ?_⟩
      have hj : j < P.cellsOf e := by
        obtain ⟨hlt, _⟩ := List.getElem?_eq_some_iff.1 hu'
        omega
      have := hc' j hj
      rw [hu', h.n, add_add] at this
      exact this
    obtain ⟨y0, hy0⟩ : ∃ y, ys[0]? = some y := ⟨ys[0], List.getElem?_eq_getElem hp⟩
    obtain ⟨es, he, hce⟩ := hcell 0 y0 hy0
    have hel' := t.len he
    obtain ⟨u0, hu0⟩ : ∃ u, es[0]? = some u := ⟨es[0]'(by have := h.pos; omega), List.getElem?_eq_getElem _⟩
    have hc0 := hce 0 u0 hu0
    obtain ⟨b, o, spot⟩ := a
    have hspot : spot = none := by simpa [Addr.add] using World.cell?_spot hc0
    subst hspot
    refine ⟨b, o, rfl, by simp, by simpa [Addr.add] using cell_lt hc0, fun i x hx => ?_⟩
    obtain ⟨es', he', hce'⟩ := hcell i x hx
    exact ⟨es', he', fun j u hu' => by rw [Nat.add_assoc, ← Go.WideShapes.add_plain]; exact hce' j u hu'⟩

theorem Rds.v {α : Type} {t : Ty α} {e : TypeId} {v : Value} {d : DataW H} {p : List MemPlace} (h : Rds enc P W (tSl t) e) (hx : DataW.Trod enc P W 0 (fun _ => true) true e v d p) (hone : v.oneCell' = true) : ∃ y, V (tSl t) y v [] W := by
  obtain ⟨fuel, hf⟩ := hx
  obtain ⟨y, hy⟩ := h.get _ _ _ hf
  rw [cells_one hone] at hy
  obtain ⟨a, cap, h1, h2⟩ := hy
  exact ⟨y, [v], by simp at h1; rw [h1]; rfl, a, cap, h1, h2⟩
theorem Rds.v1 {α : Type} {t : Ty α} {e : TypeId} {v : Value} {fuel : Nat} {x : DataW H × List MemPlace} (h : Rds enc P W (tSl t) e) (hx : DataW.trod enc P W 0 (fun _ => true) true fuel e [v] = some x) : ∃ y, V (tSl t) y v [] W := by
  obtain ⟨y, a, cap, h1, h2⟩ := h.get _ _ _ hx
  exact ⟨y, [v], by simp at h1; rw [h1]; rfl, a, cap, h1, h2⟩
end
end Go.Wk

namespace Go.Proofs.Ytjhimoeodkaihaa.ebbWays
open Go.ChangeShapes Go.WideShapes Go.ChangeAt Go.RowKit Go.Joins Go.Wk
set_option linter.unusedVariables false

theorem own : ownKnob Try.prog.godebug = none := by kernel_rfl
theorem laidOut : laidOutB Try.prog = true := by kernel_rfl
theorem cells3 : Try.prog.cellsOf 3 = 1 := by kernel_rfl
theorem cells22 : Try.prog.cellsOf 22 = 1 := by kernel_rfl
theorem cells24 : Try.prog.cellsOf 24 = 3 := by kernel_rfl

set_option maxRecDepth 100000 in
theorem lifted (os : Os) (started : os.Started) (H : Type) (enc : TypeId × Value → H) :
    ReturnsInHanded {} Try.checked os 5 .any (Rows.ebbWaysSpec.pre6 enc Try.prog Try.f5 Rows.ebbWaysRow.domain false) (Rows.ebbWaysSpec.post enc Try.prog Try.f5 false true false false) := by
  refine returnsInHanded_of_change (C := Try.checked) own started (by kernel_rfl) Try.func5
    (ChangeSpec.witness6 (enc := enc) (C := Try.checked) false ⟨#[], #[.agg #[.int .i64 0, .int .i64 0, .slice none 0 0], .int .i64 0, .slice none 0 0, .int .i64 0], []⟩ 8 (by kernel_rfl) (by kernel_rfl) (by kernel_rfl) (by kernel_rfl)) ?_
  intro W base args ds gs before hval0 hW hcnd _
  have hval : ∀ (j : Nat) t v, Try.f5.params[j]? = some t → args[j]? = some v → Value.okWide Try.prog W .any base t v := hval0
  have hW' := hW
  obtain ⟨p, q, hA0, hV, rfl, hfz, hnd⟩ := hW
  have hA : DataW.TrodAll enc Try.prog W 0 (fun _ => true) true Try.f5.params.toList args.toList ds p := hA0
  rw [Try.params5] at hA hval
  obtain ⟨v0, vs0, d0, ds0, p0, q0, hargs, rfl, rfl, h0, r0⟩ := trodAll_cons hA
  obtain ⟨v1, vs1, d1, ds1, p1, q1, rfl, rfl, rfl, h1, r1⟩ := trodAll_cons r0
  obtain ⟨v2, vs2, d2, ds2, p2, q2, rfl, rfl, rfl, h2, r2⟩ := trodAll_cons r1
  obtain ⟨v3, vs3, d3, ds3, p3, q3, rfl, rfl, rfl, h3, r3⟩ := trodAll_cons r2
  obtain ⟨rfl, rfl, rfl⟩ := trodAll_nil r3
  obtain rfl : args = #[v0, v1, v2, v3] := by cases args; simp_all
  obtain ⟨rfl, rfl⟩ := trodVars_none hV
  have k0 := h0
  have lt0 : ∀ x ∈ p0, x.block < W.heap.size := by obtain ⟨m, hm⟩ := k0; exact DataW.trod_lt m _ _ _ hm
  obtain ⟨c0_0, c0_1, c0_2, y0_0, y0_1, y0_2, m0, rfl, rfl, rfl, q0_0, q0_1, q0_2⟩ := open_agg3 Try.underlying24 (by kernel_rfl) cells24 (hval 0 24 v0 rfl rfl) h0
  obtain ⟨a0_0, e0_0, _, u0_0⟩ := DataW.trod_int Try.underlying3 q0_0
  simp at e0_0
  subst e0_0
  obtain ⟨a0_1, e0_1, _, u0_1⟩ := DataW.trod_int Try.underlying3 q0_1
  simp at e0_1
  subst e0_1
  obtain ⟨xs0_2, hv0_2⟩ := Rds.v1 (Rds.sl (Rds.int Try.underlying3 cells3) Try.underlying22 cells22) q0_2
  obtain ⟨a1, rfl, rfl, rfl, u1⟩ := open_int Try.underlying3 (hval 1 3 v1 rfl rfl) h1
  have k2 := h2
  have lt2 : ∀ x ∈ p2, x.block < W.heap.size := by obtain ⟨m, hm⟩ := k2; exact DataW.trod_lt m _ _ _ hm
  obtain ⟨ad2, len2, cap2, rfl⟩ := okWide_slice Try.underlying22 (hval 2 22 v2 rfl rfl)
  obtain ⟨xs2, hv2⟩ := Rds.v (Rds.sl (Rds.int Try.underlying3 cells3) Try.underlying22 cells22) h2 rfl
  obtain ⟨a3, rfl, rfl, rfl, u3⟩ := open_int Try.underlying3 (hval 3 3 v3 rfl rfl) h3
  clear hA0 hval0
  refine (F5 (inK_of_wf u0_0) (inK_of_wf u0_1) hv0_2 (inK_of_wf u1) hv2 (inK_of_wf u3) (fun b (h : some b ∈ ([] : List (Option Nat))) => nomatch h)).mono fun e W' hE => ?_
  obtain ⟨r, he, bel, hr⟩ := hE
  subst he
  subst hr
  exact ⟨_, rfl, _, _, _, [], _, [], hW', trodAll_mk1 (shut_bool Try.underlying4 _), (trodAll_cons_mk (Below.trod laidOut (by kernel_rfl) (of_decide_eq_true (by kernel_rfl)) k0 bel lt0) (trodAll_cons_mk (shut_int Try.underlying3 u1) (trodAll_cons_mk (Below.trod laidOut (by kernel_rfl) (of_decide_eq_true (by kernel_rfl)) k2 bel lt2) (trodAll_cons_mk (shut_int Try.underlying3 u3) trodAll_mk0)))), rfl, bel.frame _, fun h => by cases h⟩

theorem over : Rows.ebbWaysRow.holds Try.pinned (OpenSpec.ofChange Rows.ebbWaysSpec) :=
  OpenClaim.holds_of_wide 5 Try.f5 rfl rfl rfl rfl rfl rfl rfl ⟨rfl, rfl, rfl, rfl, rfl⟩ rfl rfl rfl rfl rfl (by kernel_rfl) Try.func5 (by kernel_rfl)
    (of_decide_eq_true (by kernel_rfl)) (by unfold Func.isWrapper; first | (rw [if_pos (by decide +kernel)]; kernel_rfl) | (rw [if_neg (by decide +kernel)]; exact ⟨rfl, rfl⟩))
    (fun os started H enc _ => lifted os started H enc)

end Go.Proofs.Ytjhimoeodkaihaa.ebbWays
namespace Go.Proofs.Ytjhimoeodkaihaa
/-- The statement. -/
theorem ebbWays_proved : Rows.EbbWaysSaid := ebbWays.over
#print axioms ebbWays_proved
end Go.Proofs.Ytjhimoeodkaihaa
