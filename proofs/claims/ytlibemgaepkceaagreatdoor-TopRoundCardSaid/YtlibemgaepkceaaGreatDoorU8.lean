/-
  WHAT IS PROVED HERE, TEXT BY TEXT (several texts of one prover, joined to one file; the conditions stand in each statement):
  * WHAT IS PROVED HERE: what functions hand back, each out of its own code; the conditions stand in each statement.
  * WHAT IS PROVED HERE: what functions hand back, each out of its own code; the conditions stand in each statement.
  * WHAT IS PROVED HERE: slices of slices of the call's own: the rows are objects of the call as well, and can be written, or turned into other ones. Conditions stand in each statement; they hold over any program.
  * WHAT IS PROVED HERE: scopes in which the run jumps back to one label: what holds at every jump, and a measure that every pass from the label lowers. Nothing here speaks of a program.
  * WHAT IS PROVED HERE: what functions hand back, each out of its own code; the conditions stand in each statement.
  * WHAT IS PROVED HERE: what functions hand back, each out of its own code; the conditions stand in each statement.
  * WHAT IS PROVED HERE: what functions hand back, each out of its own code; the conditions stand in each statement.
  * WHAT IS PROVED HERE: what functions hand back, each out of its own code; the conditions stand in each statement.
  * WHAT IS PROVED HERE: what functions hand back, each out of its own code; the conditions stand in each statement.
  * WHAT IS PROVED HERE: what functions hand back, each out of its own code; the conditions stand in each statement.
  * WHAT IS PROVED HERE: what functions hand back, each out of its own code; the conditions stand in each statement.
  * WHAT IS PROVED HERE: what functions hand back, each out of its own code; the conditions stand in each statement.
  * WHAT IS PROVED HERE: what functions hand back, each out of its own code; the conditions stand in each statement.
  * WHAT IS PROVED HERE: what functions hand back, each out of its own code; the conditions stand in each statement.
  * WHAT IS PROVED HERE: what functions hand back, each out of its own code; the conditions stand in each statement.
  * WHAT IS PROVED HERE: what functions hand back, each out of its own code; the conditions stand in each statement.
  * WHAT IS PROVED HERE: what functions hand back, each out of its own code; the conditions stand in each statement.
  * WHAT IS PROVED HERE: what functions hand back, each out of its own code; the conditions stand in each statement.
  * WHAT IS PROVED HERE: what functions hand back, each out of its own code; the conditions stand in each statement.
  * WHAT IS PROVED HERE: the tail of a slice of the call's own, where it does not begin at the capacity's end. Conditions stand in the statement; it holds over any program.
  * WHAT IS PROVED HERE: an element of the tail of a slice of the call's own. Conditions stand in the statement; it holds over any program.
  * WHAT IS PROVED HERE: what functions hand back, each out of its own code; the conditions stand in each statement.
  * WHAT IS PROVED HERE: what functions hand back, each out of its own code; the conditions stand in each statement.
  * WHAT IS PROVED HERE: what functions hand back, each out of its own code; the conditions stand in each statement.
-/
import Derived.Test.YtlibemgaepkceaaGreatDoorProg
import Derived.Test.YtlibemgaepkceaaGreatDoorU6
import Derived.Test.YtlibemgaepkceaaGreatDoorU7
import Derived.Test.YtlibemgaepkceaaGreatDoorU1
import Derived.ScopeJumps
import Derived.Test.YtlibemgaepkceaaGreatDoorU4
import Derived.Test.YtlibemgaepkceaaGreatDoorU2

set_option linter.unusedVariables false
set_option linter.unusedSimpArgs false

namespace Go.Proofs.YtlibemgaepkceaaGreatDoor
open Go.Wk Go.RowKit Go.Lib
set_option linter.unusedVariables false
set_option linter.unusedSimpArgs false
theorem foUd_137_1 : fldOff Tryz.prog 137 1 = some 1 := by kernel_rfl

set_option maxHeartbeats 2000000 in
theorem F83 {vv : Value} {vs : List (List Int)} {m : Int} {res : List Int} {O : List (Option Nat)} {w : World} (h_vv : V (tSl (tSl (tI .i64))) vs vv O w) (p_dv : DvOK vs m) (p_m : 1 ≤ m) (p_r : rgR vs m 50 0 (List.replicate m.toNat (-1)) = some res) (hO : ∀ b, some b ∈ O → b < w.heap.size) : Calls Tryz.prog 83 #[vv] w (Ret w (fun r w' => ∃ rv, r = .tuple #[rv, .int .i64 0] ∧ Fresh (tI .i64) 3 res rv w.heap.size w')) := by
  have hm6 := p_dv.m6
  have hrl : (List.replicate m.toNat (-1 : Int)).length = m.toNat := List.length_replicate
  have a_vv := h_vv
  have l_vv := h_vv.len63
  have hS := St.start w O hO
  refine enterR Tryz.func83 rfl Tryz.ntmps83 Tryz.results83 rfl ?_
  refine W.seq ?_
  refine W.reg ?_
  refine Wx.rd (v := (.slice none 0 0)) (rd_assign rfl) rfl ?_
  refine Wx.rd (v := .int .i64 0) (rd_assign rfl) rfl ?_
  refine Wx.nil ?_
  refine W.seq ?_
  refine W.seq ?_
  refine W.reg ?_
  refine Wx.rd (v := vv) (rd_move rfl) rfl ?_
  refine Wx.callF (run_callF Tryz.call91 rfl) (F91 (m := m) (hS.arg a_vv) p_dv) rfl ?_
  rintro r_1 w_2 hx_3 rfl
  have hS := hS.ext hx_3
  refine Wx.rd (v := .int .i64 0) (rd_assign rfl) rfl ?_
  refine Wx.nil ?_
  refine W.seq ?_
  refine W.reg ?_
  refine Wx.rd (v := .int .i64 0) (rd_move rfl) rfl ?_
  refine Wx.rd (v := .bool false) (Rd.to (v := .bool (decide ((0 : Int) ≠ 0))) (rd_neq rfl rfl) rfl) rfl ?_
  refine Wx.nil ?_
  refine W.condF rfl rfl ?_
  refine W.skip ?_
  refine W.seq ?_
  refine W.reg ?_
  refine Wx.rd (v := vv) (rd_move rfl) rfl ?_
  refine Wx.callF (run_callF Tryz.call92 rfl) (F92 (m := m) (hS.arg a_vv) p_dv p_m hS.fb_lt) rfl ?_
  rintro r_4 w_5 hx_6 ⟨v_7, rfl, hv_8⟩
  have hS := hS.pushFr hx_6 hv_8
  refine Wx.alloc (cs := [(.slice none 0 0), (.slice none 0 0)]) hS Tryz.zeroValue137 rfl rfl (fun g_10 w_11 hx_13 hb_12 hS => ?_)
  refine Wx.storeX (cs' := [vv, v_7]) (ds := [vv, v_7]) hS 0 rfl rfl rfl rfl Tryz.sizeOf137 (Nat.le_of_ble_eq_true rfl) (one_cons (V.oneC (hS.arg a_vv)) (one_cons (hS.rowOne 1 rfl) one_nil)) rfl (fun w_14 hz_15 hS => ?_)
  have hS := hS.add (hS.arg a_vv)
  refine Wx.nil ?_
  refine W.seq ?_
  refine W.seq ?_
  refine W.reg ?_
  refine Wx.rd (v := .pointer (some ⟨g_10, 1, none⟩)) (rd_fieldAddr rfl foUd_137_1) rfl ?_
  refine Wx.rd (v := v_7) (rd_loadX hS 1 rfl rfl rfl Tryz.isAgg25) rfl ?_
  refine Wx.rd (v := .int .i64 ((List.replicate m.toNat (-1)).length : Int)) (rd_lenR hS 2 rfl rfl Tryz.underlying25) rfl ?_
  refine Wx.rd (v := .int .i64 0) (rd_move rfl) rfl ?_
  refine Wx.nil ?_
  refine W.block ?_
  refine W.loop [6, 7, 18, 19, 20, 21, 22, 23, 24, 25, 26, 27, 28, 29, 30, 31, 32, 33, 34] (fun x : Int × Value × (List Int) × Nat => match x with | (q, ov, ow, n) => [(18, .int .i64 q)]) (fun (x : Int × Value × (List Int) × Nat) w' => match x with | (q, ov, ow, n) => St w O w' [Ob.v (tSl (tSl (tI .i64))) vs vv, .box g_10 137 [vv, ov], .row (tI .i64) 3 ov ow] ∧ 0 ≤ q ∧ q ≤ m ∧ rgR vs m n q ow = some res ∧ (ow.length : Int) = m) (fun x : Int × Value × (List Int) × Nat => match x with | (q, ov, ow, n) => (m - q).toNat) (0, v_7, List.replicate m.toNat (-1), 50) ⟨rfl, trivial⟩ ⟨hS, (by first | omega | simp), (by first | omega | simp), (p_r), (by omega)⟩ ?_
  rintro ⟨q, ov, ow, n⟩ u_17 w_16 ⟨hS, h0, h1, h2, h3⟩
  refine W.seq ?_
  refine W.reg ?_
  refine Wx.rd (v := .bool (decide (q < ((List.replicate m.toNat (-1)).length : Int)))) (rd_lss rfl rfl) rfl ?_
  refine Wx.nil ?_
  refine W.seq ?_
  refine W.condD rfl (fun c1 => ?_) (fun c1 => ?_)
  · -- yes
    have hdo : DvOK vs ow.length := by rw [h3]; exact p_dv
    have hxm : q < m := by omega
    refine W.skip ?_
    refine W.seq ?_
    refine W.block ?_
    refine W.seq ?_
    refine W.reg ?_
    refine Wx.rd (v := .int .i64 q) (rd_move rfl) rfl ?_
    refine Wx.rd (v := .int .i64 q) (rd_assign rfl) rfl ?_
    refine Wx.nil ?_
    refine W.seq ?_
    refine W.reg ?_
    refine Wx.rd (v := .agg #[vv, ov]) (rd_loadXs (ds := [vv, ov]) hS 1 rfl rfl rfl rfl Tryz.isAgg137 Tryz.sizeOf137) rfl ?_
    refine Wx.callF (run_callF Tryz.call93 rfl) (F93 (hS.v 0 rfl) (hS.lend 2 rfl) hdo) rfl ?_
    rintro r_18 w_19 hx_20 rfl
    have hS := hS.ext hx_20
    refine Wx.rd (v := .int .i64 (calV vs ow)) (rd_assign rfl) rfl ?_
    refine Wx.nil ?_
    refine W.seq ?_
    refine W.block ?_
    refine W.loop [7, 23, 24, 25, 26, 27, 28] (fun x : Int × Value × (List Int) × Nat => match x with | (c, ov2, ow2, n2) => [(7, .int .i64 c)]) (fun (x : Int × Value × (List Int) × Nat) w' => match x with | (c, ov2, ow2, n2) => St w O w' [Ob.v (tSl (tSl (tI .i64))) vs vv, .box g_10 137 [vv, ov2], .row (tI .i64) 3 ov2 ow2] ∧ rgR vs m n2 q ow2 = some res ∧ c = calV vs ow2 ∧ (ow2.length : Int) = m) (fun x : Int × Value × (List Int) × Nat => match x with | (c, ov2, ow2, n2) => n2) (calV vs ow, ov, ow, n) ⟨rfl, trivial⟩ ⟨hS, (h2), (rfl), (h3)⟩ ?_
    rintro ⟨c, ov2, ow2, n2⟩ u_22 w_21 ⟨hS, g2, g3, g4⟩
    have hdo2 : DvOK vs ow2.length := by rw [g4]; exact p_dv
    refine W.seq ?_
    refine W.seq ?_
    refine W.reg ?_
    refine Wx.rd (v := .int .i64 c) (rd_move rfl) rfl ?_
    refine Wx.rd (v := .bool (decide (c = (-1)))) (rd_eql rfl rfl) rfl ?_
    refine Wx.nil ?_
    refine W.condD rfl (fun c2 => ?_) (fun c2 => ?_)
    · -- yes
      obtain ⟨lw, hw1, hw2, hw3, hw4⟩ := rg_turn g2 hxm (by rw [← g3]; exact c2)
      refine W.skip ?_
      refine W.block ?_
      refine W.seq ?_
      refine W.reg ?_
      refine Wx.rd (v := .agg #[vv, ov2]) (rd_loadXs (ds := [vv, ov2]) hS 1 rfl rfl rfl rfl Tryz.isAgg137 Tryz.sizeOf137) rfl ?_
      have hS := hS.front 1 rfl
      have hS := hS.front 2 rfl
      have hS := hS.front 2 rfl
      have hS : St _ _ w_21 [Ob.v (tSl (tSl (tI .i64))) vs vv, .row (tI .i64) 3 ov2 ow2, .box g_10 137 [vv, ov2]] := hS
      refine Wx.callB (run_callF Tryz.call94 rfl) (F94 (ob := [.box g_10 137 [vv, ov2]]) hdo2 hw1 hw2 hS) rfl ?_
      rintro r_23 w_24 ⟨rfl, hS⟩
      have hS : St _ _ w_24 [Ob.v (tSl (tSl (tI .i64))) vs vv, .row (tI .i64) 3 ov2 (turV vs ow2 lw), .box g_10 137 [vv, ov2]] := hS
      have hS := hS.front 1 rfl
      have hS := hS.front 2 rfl
      have hS := hS.front 2 rfl
      have hS : St _ _ w_24 [Ob.v (tSl (tSl (tI .i64))) vs vv, .box g_10 137 [vv, ov2], .row (tI .i64) 3 ov2 (turV vs ow2 lw)] := hS
      refine Wx.nil ?_
      refine W.reg ?_
      refine Wx.rd (v := .agg #[vv, ov2]) (rd_loadXs (ds := [vv, ov2]) hS 1 rfl rfl rfl rfl Tryz.isAgg137 Tryz.sizeOf137) rfl ?_
      refine Wx.callF (run_callF Tryz.call93 rfl) (F93 (hS.v 0 rfl) (hS.lend 2 rfl) (by rw [tur_len]; exact hdo2)) rfl ?_
      rintro r_25 w_26 hx_27 rfl
      have hS := hS.ext hx_27
      refine Wx.rd (v := .int .i64 (calV vs (turV vs ow2 lw))) (rd_assign rfl) rfl ?_
      refine Wx.nil ?_
      refine ⟨(calV vs (turV vs ow2 lw), ov2, turV vs ow2 lw, n2 - 1), (by show n2 - 1 < n2; omega), ?_, ?_, Out.look rfl Out.self⟩
      · exact ⟨hS, (hw3), (rfl), (by rw [tur_len]; exact g4)⟩
      · exact ⟨rfl, trivial⟩
    · -- no
      have hpt := rg_put g2 hxm (by rw [← g3]; exact c2)
      rw [← g3] at hpt
      have hcb := cal_bd (ow := ow2) p_dv
      refine W.exit rfl ?_
      refine W.reg ?_
      refine Wx.rd (v := .pointer (some ⟨g_10, 1, none⟩)) (rd_fieldAddr rfl foUd_137_1) rfl ?_
      refine Wx.rd (v := ov2) (rd_loadX hS 1 rfl rfl rfl Tryz.isAgg25) rfl ?_
      refine Wx.rd (v := .int .i64 q) (rd_move rfl) rfl ?_
      refine Wx.rd (v := .int .i64 c) (rd_move rfl) rfl ?_
      refine Wx.indexR hS 2 rfl rfl rfl Tryz.underlying25 Tryz.sizeOf3 (by first | omega | (simp only [List.length_set, List.length_append, List.length_cons, List.length_nil, List.length_replicate]; omega)) (by first | omega | (simp only [List.length_set, List.length_append, List.length_cons, List.length_nil, List.length_replicate]; omega)) rfl (fun g_28 hg_29 => ?_)
      refine Wx.storeR (j := q.toNat) (z := c) hS 2 rfl hg_29 rfl (by first | omega | (simp only [List.length_set, List.length_append, List.length_cons, List.length_nil, List.length_replicate]; omega)) rfl (V.mkInt (in_i64 (by omega) (by omega))) Tryz.sizeOf3 (fun w_30 hz_31 hS => ?_)
      refine Wx.nil ?_
      refine W.reg ?_
      refine Wx.rd (v := .int .i64 (q + 1)) (rd_add rfl rfl (in_i64 (by omega) (by omega))) rfl ?_
      refine Wx.rd (v := .int .i64 (q + 1)) (rd_move rfl) rfl ?_
      refine Wx.nil ?_
      refine ⟨(q + 1, ov2, List.set ow2 q.toNat c, n2 - 1), (by show (m - (q + 1)).toNat < (m - q).toNat; omega), ?_, ?_, Out.look rfl (Out.hav rfl (Out.look rfl Out.self))⟩
      · exact ⟨hS, (by first | omega | assumption), (by first | omega | assumption), (hpt.1), (by rw [List.length_set]; exact g4)⟩
      · exact ⟨rfl, trivial⟩
  · -- no
    refine W.exit rfl ?_
    refine W.seq ?_
    refine W.reg ?_
    refine Wx.rd (v := .pointer (some ⟨g_10, 1, none⟩)) (rd_fieldAddr rfl foUd_137_1) rfl ?_
    refine Wx.rd (v := ov) (rd_loadX hS 1 rfl rfl rfl Tryz.isAgg25) rfl ?_
    refine Wx.rd (v := ov) (rd_assign rfl) rfl ?_
    refine Wx.rd (v := .int .i64 0) (rd_assign rfl) rfl ?_
    refine Wx.nil ?_
    have e0_0 : res = ow := by exact (rg_end h2 (by omega)).symm
    exact W.ret ⟨.tuple #[ov, .int .i64 0], ResIs.two, hS.bel, ⟨ov, rfl, (by rw [e0_0]; exact (hS.fr 2 rfl flat_int))⟩⟩
end Go.Proofs.YtlibemgaepkceaaGreatDoor

namespace Go.Proofs.YtlibemgaepkceaaGreatDoor
open Go.Wk Go.RowKit Go.Lib
set_option linter.unusedVariables false
set_option linter.unusedSimpArgs false
theorem elVd_25 : ElemI Tryz.prog 25 3 (.int .i64 0) 1 8 := ElemI.of Tryz.underlying25 (by kernel_rfl) (by first | rfl | kernel_rfl) (by decide)
theorem elVd_24 : ElemI Tryz.prog 24 25 ((.slice none 0 0)) 1 24 := ElemI.of Tryz.underlying24 (by kernel_rfl) (by first | rfl | kernel_rfl) (by decide)

set_option maxHeartbeats 2000000 in
theorem F69  {w : World} (hG : Laid w) : Calls Tryz.prog 69 #[] w (Ret w (fun r _ => r = .bool true)) := by
  have hS := St.start0 w
  refine enterR Tryz.func69 rfl Tryz.ntmps69 Tryz.results69 rfl ?_
  refine W.seq ?_
  refine W.reg ?_
  refine Wx.rd (v := .bool false) (rd_assign rfl) rfl ?_
  refine Wx.nil ?_
  refine W.seq ?_
  refine W.reg ?_
  refine Wx.lit (t := (tI .i64)) (ys := [1, 5, 2]) (vs := [.int .i64 1, .int .i64 5, .int .i64 2]) elVd_25 hS rfl rfl ⟨(V.mkInt (in_i64 (by omega) (by omega))), ⟨(V.mkInt (in_i64 (by omega) (by omega))), ⟨(V.mkInt (in_i64 (by omega) (by omega))), trivial⟩⟩⟩ (by decide) rfl (fun v_1 w_2 hx_3 hS => ?_)
  refine Wx.lit (t := (tI .i64)) (ys := [5, 1, 2]) (vs := [.int .i64 5, .int .i64 1, .int .i64 2]) elVd_25 hS rfl rfl ⟨(V.mkInt (in_i64 (by omega) (by omega))), ⟨(V.mkInt (in_i64 (by omega) (by omega))), ⟨(V.mkInt (in_i64 (by omega) (by omega))), trivial⟩⟩⟩ (by decide) rfl (fun v_4 w_5 hx_6 hS => ?_)
  have hS := hS.freeze 1 rfl
  have hS := hS.freeze 1 rfl
  refine Wx.lit (t := (tSl (tI .i64))) (ys := [[1, 5, 2], [5, 1, 2]]) (vs := [v_1, v_4]) elVd_24 hS rfl rfl ⟨(hS.v 1 rfl), ⟨(hS.v 0 rfl), trivial⟩⟩ (by decide) rfl (fun v_9 w_10 hx_11 hS => ?_)
  have hS := hS.freeze 0 rfl
  refine Wx.callF (run_callF Tryz.call83 rfl) (F83 (m := 3) (res := ([1, 0, 0] : List Int)) (hS.v 0 rfl) dv_0 (by decide) rg_0 hS.fb_lt) rfl ?_
  rintro r_13 w_14 hx_15 ⟨v_16, rfl, hv_17⟩
  have hS := hS.pushFr hx_15 hv_17
  refine Wx.rd (v := .tuple #[v_16, .int .i64 0]) (rd_move rfl) rfl ?_
  refine Wx.rd (v := v_16) (rd_extract rfl rfl) rfl ?_
  refine Wx.rd (v := .int .i64 0) (rd_extract rfl rfl) rfl ?_
  refine Wx.rd (v := v_16) (rd_assign rfl) rfl ?_
  refine Wx.rd (v := .int .i64 0) (rd_assign rfl) rfl ?_
  refine Wx.nil ?_
  refine W.seq ?_
  refine W.reg ?_
  refine Wx.rd (v := .int .i64 0) (rd_move rfl) rfl ?_
  refine Wx.rd (v := .bool true) (Rd.to (v := .bool (decide ((0 : Int) = 0))) (rd_eql rfl rfl) rfl) rfl ?_
  refine Wx.rd (v := .bool true) (rd_move rfl) rfl ?_
  refine Wx.gyes rfl rfl rfl ?_
  refine Wx.rd (v := v_16) (rd_move rfl) rfl ?_
  refine Wx.gyes rfl rfl rfl ?_
  refine Wx.lit (t := (tI .i64)) (ys := [1, 0, 0]) (vs := [.int .i64 1, .int .i64 0, .int .i64 0]) elVd_25 hS rfl rfl ⟨(V.mkInt (in_i64 (by omega) (by omega))), ⟨(V.mkInt (in_i64 (by omega) (by omega))), ⟨(V.mkInt (in_i64 (by omega) (by omega))), trivial⟩⟩⟩ (by decide) rfl (fun v_19 w_20 hx_21 hS => ?_)
  refine Wx.gyes rfl rfl rfl ?_
  have hS := hS.freeze 0 rfl
  refine Wx.callF (run_callF Tryz.call30 rfl) (F30 (hS.v 0 rfl) hS.fb_lt) rfl ?_
  rintro r_23 w_24 hx_25 ⟨_, rfl, hv_26⟩
  have ln_28 := hv_26.len63
  have hS := hS.ext hx_25
  have hS := hS.add hv_26
  refine Wx.gyes rfl rfl rfl ?_
  refine Wx.callF (run_callF Tryz.call27 rfl) (F27 (hS.lend 2 rfl) (hS.v 0 rfl)) rfl ?_
  rintro r_29 w_30 hx_31 rfl
  have hS := hS.ext hx_31
  rw [show (decide (([1, 0, 0] : List Int) = [1, 0, 0]) : Bool) = true from (by decide +kernel)]
  refine Wx.rd (v := .bool true) (rd_pickT rfl rfl) rfl ?_
  refine Wx.rd (v := .bool true) (rd_move rfl) rfl ?_
  refine Wx.gyes rfl rfl rfl ?_
  refine Wx.callF (run_callF Tryz.call84 rfl) (C5.F84 (hG.ext hS.bel)) rfl ?_
  rintro r_32 w_33 hx_34 rfl
  have hS := hS.ext hx_34
  refine Wx.rd (v := .bool true) (rd_pickT rfl rfl) rfl ?_
  refine Wx.rd (v := .bool true) (rd_assign rfl) rfl ?_
  refine Wx.nil ?_
  exact W.ret ⟨.bool true, ResIs.one, hS.bel, rfl⟩
end Go.Proofs.YtlibemgaepkceaaGreatDoor

namespace Go.Wk
open Go.RowKit
set_option linter.unusedVariables false
section
variable {w0 w : World} {O : List (Option Nat)} {obs : List Ob} {e1 e2 : TypeId} {g p i : Nat} {vs : List Value} {yss : List (List Int)} {v : Value} {y : List Int}
end
section
variable {P : Program} {n : Nat} {w w0 : World} {O : List (Option Nat)} {obs : List Ob} {ops : Array Oper} {rest : List Oper} {k : Cont} {d : Tmp} {ty : TypeId} {pos : String} {af : Array Edge}
  {l : List (Nat × Value)} {σ0 σ : Fr} {T s : TypeId} {x z : Operand} {e1 e2 : TypeId} {g p i : Nat} {vs : List Value} {yss : List (List Int)} {v : Value} {y : List Int} {ik : IntKind}
theorem rd_indexM {len cap : Nat} {m : Int} {e : TypeId} (hx : ev σ x = .slice (some ⟨g, 0, none⟩) len cap) (hi : ev σ z = .int ik m) (hu : P.underlying s = some (.slice e)) (hsz : ∀ w', (sizeOf e).run P w' = .ok 1 w') (h0 : 0 ≤ m) (h1 : m < len) :
    Rd P σ (.indexAddr s x z) ty w (.pointer (some ⟨g, m.toNat, none⟩)) := by
  have := run_indexSl (P := P) (w := w) (ty := ty) hx hi hu hsz h0 h1
  rw [Addr.add_lit, Nat.mul_one, Nat.zero_add] at this
  exact this
end
end Go.Wk

namespace Go.Wk
open Go.RowKit Go.Lib
set_option linter.unusedVariables false

theorem wpIn_scope_jumps {F : Fence} {m : Nat} {P : Program} {Q : Exit → Act → World → Prop} {a : Act} {w : World} {c rest : Code} (l : Nat) (J : Act → World → Prop) (μ : Act → World → Nat → Prop) (hf : findLabel c l = some rest)
    (first : c.wpIn F m P (Exit.jump l (fun a w => J a w ∧ ∃ n, μ a w n) Q) a w)
    (pass : ∀ a w n, J a w → μ a w n → rest.wpIn F m P (Exit.jump l (fun a' w' => J a' w' ∧ ∃ n', n' < n ∧ μ a' w' n') Q) a w) : (Code.scope c).wpIn F m P Q a w := by
  intro b k cs hro hb hr
  have hg : gotoIn l (.inScope c :: k) = some (.code rest :: .inScope c :: k) := by simp [gotoIn, hf]
  have s0 : ∀ a w, StepsIn (Machine.fenced P F) P (lone (b.atR a (.code (.scope c) :: k)) cs w) (lone (b.atR a (.code c :: .inScope c :: k)) cs w) := fun a w => .one (fenced_calm hb hr rfl) (step_lone_go (by simp [stepG, stepG.exec, Frame.atR]))
  have s1 : ∀ a w, StepsIn (Machine.fenced P F) P (lone (b.atR a (.inScope c :: k)) cs w) (lone (b.atR a k) cs w) := fun a w => .one (fenced_calm hb hr rfl) (step_lone_go (by simp [stepG, stepG.exec, Frame.atR]))
  have key : ∀ n a w, μ a w n → J a w → ∃ e a' w', Q e a' w' ∧ ArrivesIn (Machine.fenced P F) P (lone (b.atR a (.code rest :: .inScope c :: k)) cs w) b k cs e a' w' := by
    intro n
    induction n using Nat.strongRecOn with
    | _ n ih =>
      intro a w hn hJ
      obtain ⟨e, a₁, w₁, hq, harr⟩ := pass a w n hJ hn b (.inScope c :: k) cs hro hb hr
      cases e with
      | normal => exact ⟨.normal, a₁, w₁, hq, StepsIn.trans harr (s1 _ _)⟩
      | exit id => exact ⟨.exit id, a₁, w₁, hq, fun k' hk => harr.1 k' (by simp [exitTo, hk]), fun hro hk => harr.2 hro (by simp [exitTo, hk])⟩
      | goto l' =>
        obtain ⟨rfl, hJ', n', hlt, hm⟩ := hq
        obtain ⟨e₂, a₂, w₂, hq₂, harr₂⟩ := ih n' hlt a₁ w₁ hm hJ'
        exact ⟨e₂, a₂, w₂, hq₂, .of_steps (harr.1 _ hg) harr₂⟩
      | ret => exact ⟨_, a₁, w₁, hq, harr⟩
      | panic ch => exact ⟨_, a₁, w₁, hq, harr⟩
      | outgrown => exact ⟨_, a₁, w₁, hq, harr⟩
  obtain ⟨e, a₁, w₁, hq, harr⟩ := first b (.inScope c :: k) cs hro hb hr
  cases e with
  | normal => exact ⟨.normal, a₁, w₁, hq, StepsIn.trans (s0 _ _) (StepsIn.trans harr (s1 _ _))⟩
  | exit id => exact ⟨.exit id, a₁, w₁, hq, fun k' hk => StepsIn.trans (s0 _ _) (harr.1 k' (by simp [exitTo, hk])), fun hro hk => let ⟨k₁, h1, h2⟩ := harr.2 hro (by simp [exitTo, hk]); ⟨k₁, h1, StepsIn.trans (s0 _ _) h2⟩⟩
  | goto l' =>
    obtain ⟨rfl, hJ', n', hm⟩ := hq
    obtain ⟨e₂, a₂, w₂, hq₂, harr₂⟩ := key n' a₁ w₁ hm hJ'
    exact ⟨e₂, a₂, w₂, hq₂, .of_steps (StepsIn.trans (s0 _ _) (harr.1 _ hg)) harr₂⟩
  | ret => exact ⟨_, a₁, w₁, hq, .of_steps (s0 _ _) harr⟩
  | panic ch => exact ⟨_, a₁, w₁, hq, .of_steps (s0 _ _) harr⟩
  | outgrown => exact ⟨_, a₁, w₁, hq, .of_steps (s0 _ _) harr⟩

def postJ (n : Nat) (ds : List Deferred) (kn kr : Cont) (ke : List (Nat × Cont)) (l : Nat) (J : Cont) : Exit → Act → World → Prop
  | .goto l', a, w => l' = l ∧ a.tmps.size = n ∧ a.defers = ds ∧ J (fun i => a.tmps.getD i undef) w
  | e, a, w => postD n ds kn kr ke e a w
def WJ (P : Program) (n : Nat) (c : Code) (kn kr : Cont) (ke : List (Nat × Cont)) (l : Nat) (J : Cont) (σ : Fr) (w : World) : Prop :=
  ∀ T, AtF n σ T → ∀ (r : Option Nat) (ds : List Deferred) (m : Nat), c.wpIn (ringF r) m P (postJ n ds kn kr ke l J) ⟨T, ds⟩ w
section
variable {P : Program} {n : Nat} {kn kr : Cont} {ke : List (Nat × Cont)} {σ : Fr} {w : World} {l : Nat} {J : Cont}
theorem WJ.of {c : Code} (h : W P n c kn kr ke σ w) : WJ P n c kn kr ke l J σ w := fun T hT r ds m => wpIn_mono (h T hT r ds m) fun e a w q => by
  cases e <;> first | exact q | exact q.elim
theorem WJ.seq {a b : Code} (h : W P n a (fun σ w => WJ P n b kn kr ke l J σ w) kr ke σ w) : WJ P n (.seq a b) kn kr ke l J σ w := by
  intro T hT r ds m
  refine wpIn_seq (wpIn_mono (h T hT r ds m) ?_)
  intro e a' w' hq
  cases e with
  | normal =>
    obtain ⟨h1, h2, h3⟩ := hq
    have := h3 a'.tmps (AtF.self h1) r ds m
    cases a'
    simp only at h2
    subst h2
    exact this
  | exit id => exact hq
  | goto l => exact hq.elim
  | ret => exact hq
  | panic ch => exact hq
  | outgrown => exact hq
theorem WJ.seqJ {a b : Code} (h : WJ P n a (fun σ w => WJ P n b kn kr ke l J σ w) kr ke l J σ w) : WJ P n (.seq a b) kn kr ke l J σ w := by
  intro T hT r ds m
  refine wpIn_seq (wpIn_mono (h T hT r ds m) ?_)
  intro e a' w' hq
  cases e with
  | normal =>
    obtain ⟨h1, h2, h3⟩ := hq
    have := h3 a'.tmps (AtF.self h1) r ds m
    cases a'
    simp only at h2
    subst h2
    exact this
  | exit id => exact hq
  | goto l => exact hq
  | ret => exact hq
  | panic ch => exact hq
  | outgrown => exact hq
theorem WJ.skip (h : kn σ w) : WJ P n .skip kn kr ke l J σ w := WJ.of (W.skip h)
theorem WJ.goto (h : J σ w) : WJ P n (.goto l) kn kr ke l J σ w := fun T hT _ _ _ => wpIn_goto ⟨rfl, hT.1, rfl, by rw [hT.fun_eq]; exact h⟩
theorem WJ.cond {c : Operand} {x y : Code} {t : Bool} (hc : ev σ c = .bool t) (hx : t = true → WJ P n x kn kr ke l J σ w) (hy : t = false → WJ P n y kn kr ke l J σ w) : WJ P n (.cond c x y) kn kr ke l J σ w := by
  intro T hT r ds m
  have hc' : (Act.mk T ds).eval c = .bool t := by rw [hT.eval]; exact hc
  cases t with
  | true => exact wpIn_cond_true hc' (hx rfl T hT r ds m)
  | false => exact wpIn_cond_false hc' (hy rfl T hT r ds m)
theorem WJ.condD {c : Operand} {x y : Code} {p : Prop} [Decidable p] (hc : ev σ c = .bool (decide p)) (hx : p → WJ P n x kn kr ke l J σ w) (hy : ¬ p → WJ P n y kn kr ke l J σ w) : WJ P n (.cond c x y) kn kr ke l J σ w :=
  WJ.cond hc (fun h => hx (of_decide_eq_true h)) (fun h => hy (of_decide_eq_false h))
theorem W.scopeJ {X : Type _} (l : Nat) (D : List Nat) (f : X → List (Nat × Value)) (I : X → World → Prop) (μ : X → Nat) {c rest : Code} (hf : findLabel c l = some rest)
    (first : WJ P n c kn kr ke l (fun σ' w' => ∃ x, I x w' ∧ Agr D (f x) σ σ') σ w)
    (pass : ∀ (x : X) (u : Fr) (w : World), I x w → WJ P n rest kn kr ke l (fun σ' w' => ∃ x', μ x' < μ x ∧ I x' w' ∧ Agr D (f x') σ σ') (look (f x) (hav D u σ)) w) : W P n (.scope c) kn kr ke σ w := by
  intro T hT r ds rm
  refine wpIn_scope_jumps l (fun a w => a.tmps.size = n ∧ a.defers = ds) (fun a w k => ∃ x, μ x = k ∧ I x w ∧ Agr D (f x) σ (fun i => a.tmps.getD i undef)) hf ?_ ?_
  · refine wpIn_mono (first T hT r ds rm) fun e a' w' hq => ?_
    cases e with
    | goto l' =>
      obtain ⟨h1, h2, h3, x, h4, h5⟩ := hq
      exact ⟨h1, ⟨h2, h3⟩, μ x, x, rfl, h4, h5⟩
    | normal => exact hq
    | exit id => exact hq
    | ret => exact hq
    | panic ch => exact hq
    | outgrown => exact hq
  · rintro a w k ⟨h1, h2⟩ ⟨x, rfl, hI, hA⟩
    have hr := pass x (fun i => a.tmps.getD i undef) w hI
    have hF : AtF n (look (f x) (hav D (fun i => a.tmps.getD i undef) σ)) a.tmps := ⟨h1, fun i => congrFun hA.eq i⟩
    have := hr a.tmps hF r ds rm
    cases a
    simp only at h2
    subst h2
    refine wpIn_mono this fun e a' w' hq => ?_
    cases e with
    | goto l' =>
      obtain ⟨g1, g2, g3, x', g4, g5, g6⟩ := hq
      exact ⟨g1, ⟨g2, g3⟩, μ x', g4, x', rfl, g5, g6⟩
    | normal => exact hq
    | exit id => exact hq
    | ret => exact hq
    | panic ch => exact hq
    | outgrown => exact hq
theorem W.label {i : Nat} (h : kn σ w) : W P n (.label i) kn kr ke σ w := fun T hT _ _ _ => wpIn_label ⟨hT.1, rfl, by rw [hT.fun_eq]; exact h⟩
theorem WJ.mono {c : Code} {J' : Cont} (h : WJ P n c kn kr ke l J σ w) (hJ : ∀ σ w, J σ w → J' σ w) : WJ P n c kn kr ke l J' σ w := fun T hT r ds m => wpIn_mono (h T hT r ds m) fun e a w q => by
  cases e <;> first | exact q | exact ⟨q.1, q.2.1, q.2.2.1, hJ _ _ q.2.2.2⟩
theorem W.scopeL {X : Type _} (l : Nat) (D : List Nat) (f : X → List (Nat × Value)) (I : X → World → Prop) (μ : X → Nat) {c B : Code} (hf : findLabel c l = some (.seq .skip B))
    (pass : ∀ (x : X) (u : Fr) (w : World), I x w → WJ P n B kn kr ke l (fun σ' w' => ∃ x', μ x' < μ x ∧ I x' w' ∧ Agr D (f x') σ σ') (look (f x) (hav D u σ)) w)
    (first : ∀ K : Cont, (∀ σ' w', (∃ x, I x w' ∧ Agr D (f x) σ σ') → K σ' w') → (∀ σ' w', K σ' w' → WJ P n B kn kr ke l (fun σ' w' => ∃ x, I x w' ∧ Agr D (f x) σ σ') σ' w') → WJ P n c kn kr ke l (fun σ' w' => ∃ x, I x w' ∧ Agr D (f x) σ σ') (look [] σ) w) : W P n (.scope c) kn kr ke σ w := by
  refine W.scopeJ l D f I μ hf ?_ fun x u w hI => WJ.seq (W.skip (pass x u w hI))
  refine first (fun σ' w' => ∃ x, I x w' ∧ Agr D (f x) σ σ') (fun _ _ q => q) ?_
  rintro σ' w' ⟨x, hI, hA⟩
  have := pass x σ' w' hI
  rw [← hA.eq] at this
  exact this.mono fun σ'' w'' ⟨x', _, h1, h2⟩ => ⟨x', h1, h2⟩
end
end Go.Wk

namespace Go.Proofs.YtlibemgaepkceaaGreatDoor
open Go.Wk Go.RowKit Go.Lib
set_option linter.unusedVariables false
set_option linter.unusedSimpArgs false
theorem foGh_123_1 : fldOff Tryz.prog 123 1 = some 1 := by kernel_rfl

theorem F82 {ts : List Int} {e : Int} {w : World} (n_ts : ts.length = 34) (i_ts : ∀ z ∈ ts, InK .i64 z) (i_e : InK .i64 e) (p_e : 0 ≤ e ∧ e < 16) (hG : Laid w) : Calls Tryz.prog 82 #[.agg (List.map (Value.int .i64) ts).toArray, .int .i64 e] w (Ret w (fun r _ => r = .int .i64 (alngF ts e))) := by
  have b_e := bd_i64 i_e
  obtain ⟨_, _, x_0⟩ := hG.oth
  have hob := oth_bd p_e.1 p_e.2
  have hS := St.start0 w
  refine enterR Tryz.func82 rfl Tryz.ntmps82 Tryz.results82 rfl ?_
  refine W.seq ?_
  refine W.reg ?_
  refine Wx.box (cs := List.map (Value.int .i64) ts) hS rfl rfl rfl (fun g_1 w_2 hx_4 hb_3 hS => ?_)
  refine Wx.rd (v := .int .i64 0) (rd_assign rfl) rfl ?_
  refine Wx.nil ?_
  refine W.seq ?_
  refine W.reg ?_
  refine Wx.rd (v := .int .i64 e) (rd_move rfl) rfl ?_
  refine Wx.rd (v := .pointer (some ⟨0, 0 + e.toNat * 1, none⟩)) (rd_indexArr (o := 0) rfl rfl Tryz.underlying120 Tryz.sizeOf3 (by omega) (by omega)) rfl ?_
  refine Wx.rd (v := .int .i64 (ix 0 othL e)) (rd_loadOA x_0 hS.bel rfl (by omega) (by rw [oth_len]; omega) Tryz.isAgg3) rfl ?_
  refine Wx.rd (v := .pointer (some ⟨g_1, 0 + 1, none⟩)) (rd_fieldAddr (o := 0) rfl foGh_123_1) rfl ?_
  refine Wx.rd (v := .pointer (some ⟨g_1, 0 + 1 + (ix 0 othL e).toNat * 1, none⟩)) (rd_indexArr rfl rfl Tryz.underlying121 Tryz.sizeOf3 (by omega) (by omega)) rfl ?_
  have bz_5 := ix_i64 i_ts (1 + (ix 0 othL e))
  refine Wx.rd (v := .int .i64 (ix 0 ts (1 + (ix 0 othL e)))) (rd_loadXa (d := 0) (f := (Value.int .i64)) (j := 1 + (ix 0 othL e)) hS 0 rfl rfl (by omega) (by omega) (by omega) Tryz.isAgg3) rfl ?_
  refine Wx.rd (v := .int .i64 (ix 0 ts (1 + (ix 0 othL e)))) (rd_assign rfl) rfl ?_
  refine Wx.nil ?_
  have e0_0 : (alngF ts e) = (ix 0 ts (1 + (ix 0 othL e)) : Int) := by rfl
  exact W.ret ⟨.int .i64 (ix 0 ts (1 + (ix 0 othL e))), ResIs.one, hS.bel, (by rw [e0_0])⟩
end Go.Proofs.YtlibemgaepkceaaGreatDoor

namespace Go.Proofs.YtlibemgaepkceaaGreatDoor
open Go.Wk Go.RowKit Go.Lib
set_option linter.unusedVariables false
set_option linter.unusedSimpArgs false
theorem foGb_123_1 : fldOff Tryz.prog 123 1 = some 1 := by kernel_rfl
theorem foGb_123_3 : fldOff Tryz.prog 123 3 = some 33 := by kernel_rfl
theorem foGb_123_2 : fldOff Tryz.prog 123 2 = some 17 := by kernel_rfl
theorem foGb_123_0 : fldOff Tryz.prog 123 0 = some 0 := by kernel_rfl

set_option maxHeartbeats 2000000 in
theorem F90 {lv : Value} {ls : List (List Int)} {Fr_lv : List (Option Nat)} {w : World} (h_lv : V (tSl (tSl (tI .i64))) ls lv Fr_lv w) (p_r : ∀ l ∈ ls, ∀ e ∈ l, 0 ≤ e ∧ e < 16) (p_n : ∀ l ∈ ls, (l.length : Int) ≤ 1000) (p_l : (ls.length : Int) ≤ 1000) : Calls Tryz.prog 90 #[lv] w (Ret w (fun r _ => r = .agg (List.map (Value.int .i64) (tabV ls)).toArray)) := by
  have a_lv := h_lv.any
  have l_lv := h_lv.len63
  have hS := St.start0 w
  refine enterR Tryz.func90 rfl Tryz.ntmps90 Tryz.results90 rfl ?_
  refine W.seq ?_
  refine W.reg ?_
  refine Wx.alloc (cs := List.map (Value.int .i64) (List.replicate 34 (0 : Int))) hS Tryz.zeroValue123 (by kernel_rfl) rfl (fun g_1 w_2 hx_4 hb_3 hS => ?_)
  have hS : St _ _ w_2 [.box g_1 123 (List.map (Value.int .i64) (List.replicate 34 (0 : Int)))] := hS
  refine Wx.nil ?_
  refine W.seq ?_
  refine W.reg ?_
  refine Wx.alloc (cs := List.map (Value.int .i64) (List.replicate 34 (0 : Int))) hS Tryz.zeroValue123 (by kernel_rfl) rfl (fun g_5 w_6 hx_8 hb_7 hS => ?_)
  have hS : St _ _ w_6 [.box g_5 123 (List.map (Value.int .i64) (List.replicate 34 (0 : Int))), .box g_1 123 (List.map (Value.int .i64) (List.replicate 34 (0 : Int)))] := hS
  refine Wx.nil ?_
  refine W.seq ?_
  refine W.seq ?_
  refine W.reg ?_
  refine Wx.rd (v := lv) (rd_move rfl) rfl ?_
  refine Wx.rd (v := .int .i64 (ls.length : Int)) (rd_lenV rfl (hS.arg a_lv) Tryz.underlying24) rfl ?_
  refine Wx.rd (v := .int .i64 0) (rd_move rfl) rfl ?_
  refine Wx.nil ?_
  refine W.block ?_
  refine W.loop [5, 6, 7, 10, 11, 12, 13, 14, 15, 16, 17, 18, 19, 20, 21, 22, 23, 24, 25, 26, 27, 28, 29, 30, 31, 32, 33, 34, 35, 36, 37, 38, 39, 40, 41, 42, 43, 44, 45, 46, 47, 48, 49, 50, 51] (fun x : Int × (List Int) => match x with | (k, ts) => [(10, .int .i64 k)]) (fun (x : Int × (List Int)) w' => match x with | (k, ts) => St w [] w' [.box g_5 123 (List.map (Value.int .i64) ts), .box g_1 123 (List.map (Value.int .i64) (List.replicate 34 (0 : Int)))] ∧ 0 ≤ k ∧ k ≤ ls.length ∧ ts = tabK ls k ∧ TbB k ts) (fun x : Int × (List Int) => match x with | (k, ts) => (ls.length - k).toNat) (0, (List.replicate 34 (0 : Int))) ⟨rfl, trivial⟩ ⟨hS, (by first | omega | simp), (by first | omega | simp), (rfl), (tb_start)⟩ ?_
  rintro ⟨k, ts⟩ u_10 w_9 ⟨hS, h0, h1, h2, h3⟩
  refine W.seq ?_
  refine W.reg ?_
  refine Wx.rd (v := .bool (decide (k < (ls.length : Int)))) (rd_lss rfl rfl) rfl ?_
  refine Wx.nil ?_
  refine W.seq ?_
  refine W.condD rfl (fun c0 => ?_) (fun c0 => ?_)
  · -- yes
    have htl := h3.1
    have hkm : ix [] ls k ∈ ls := List.mem_of_getElem? (ix_get c0 h0)
    have hkl := p_n _ hkm
    refine W.skip ?_
    refine W.seq ?_
    refine W.block ?_
    refine W.seq ?_
    refine W.reg ?_
    refine Wx.ex (rd_index [] (hS.arg a_lv) rfl rfl Tryz.underlying24 Tryz.sizeOf25 (by first | omega | (simp only [List.length_set, List.length_append, List.length_cons, List.length_nil, List.length_replicate]; omega)) (by first | omega | (simp only [List.length_set, List.length_append, List.length_cons, List.length_nil, List.length_replicate]; omega))) rfl (fun p_11 hp_12 => ?_)
    refine Wx.ex (rd_load hp_12 rfl Tryz.isAgg25 Tryz.sizeOf25) rfl (fun v_13 hv_14 => ?_)
    have ln_15 := hv_14.len63
    have hS := hS.add hv_14
    refine Wx.rd (v := v_13) (rd_assign rfl) rfl ?_
    refine Wx.nil ?_
    refine W.seq ?_
    refine W.seq ?_
    refine W.reg ?_
    refine Wx.rd (v := v_13) (rd_move rfl) rfl ?_
    refine Wx.rd (v := .int .i64 ((ix [] ls k).length : Int)) (rd_lenV rfl (hS.v 0 rfl) Tryz.underlying25) rfl ?_
    refine Wx.rd (v := .bool (decide (((ix [] ls k).length : Int) = 0))) (rd_eql rfl rfl) rfl ?_
    refine Wx.nil ?_
    refine W.condD rfl (fun c1 => ?_) (fun c1 => ?_)
    · -- yes
      refine W.exit rfl ?_
      refine W.reg ?_
      refine Wx.rd (v := .int .i64 (k + 1)) (rd_add rfl rfl (in_i64 (by omega) (by omega))) rfl ?_
      refine Wx.rd (v := .int .i64 (k + 1)) (rd_move rfl) rfl ?_
      refine Wx.nil ?_
      refine ⟨(k + 1, ts), (by show (ls.length - (k + 1)).toNat < (ls.length - k).toNat; omega), ?_, ?_, Out.look rfl Out.self⟩
      · exact ⟨hS.tl, (by first | omega | assumption), (by first | omega | assumption), (by rw [h2]; exact tabK_skip h0 c0 c1), (tb_more h3)⟩
      · exact ⟨rfl, trivial⟩
    · -- no
      have hlp : 0 < ((ix [] ls k).length : Int) := by omega
      refine W.skip ?_
      refine W.seq ?_
      refine W.seq ?_
      refine W.reg ?_
      refine Wx.rd (v := v_13) (rd_move rfl) rfl ?_
      refine Wx.rd (v := .int .i64 ((ix [] ls k).length : Int)) (rd_lenV rfl (hS.v 0 rfl) Tryz.underlying25) rfl ?_
      refine Wx.rd (v := .int .i64 0) (rd_move rfl) rfl ?_
      refine Wx.nil ?_
      refine W.block ?_
      refine W.loop [6, 7, 19, 20, 21, 22, 23, 24, 25, 26, 27, 28, 29, 30, 31, 32, 33, 34, 35, 36, 37, 38, 39, 40] (fun x : Int × (List Int) => match x with | (j, ts2) => [(19, .int .i64 j)]) (fun (x : Int × (List Int)) w' => match x with | (j, ts2) => St w [] w' [Ob.v (tSl (tI .i64)) (ix [] ls k) v_13, .box g_5 123 (List.map (Value.int .i64) ts2), .box g_1 123 (List.map (Value.int .i64) (List.replicate 34 (0 : Int)))] ∧ 0 ≤ j ∧ j ≤ (ix [] ls k).length ∧ ts2 = tabIn (ix [] ls k) j ts ∧ TbB k ts2) (fun x : Int × (List Int) => match x with | (j, ts2) => ((ix [] ls k).length - j).toNat) (0, ts) ⟨rfl, trivial⟩ ⟨hS, (by first | omega | simp), (by first | omega | simp), (rfl), (h3)⟩ ?_
      rintro ⟨j, ts2⟩ u_18 w_17 ⟨hS, j0, j1, j2, j3⟩
      refine W.seq ?_
      refine W.reg ?_
      refine Wx.rd (v := .bool (decide (j < ((ix [] ls k).length : Int)))) (rd_lss rfl rfl) rfl ?_
      refine Wx.nil ?_
      refine W.seq ?_
      refine W.condD rfl (fun c2 => ?_) (fun c2 => ?_)
      · -- yes
        have hej := p_r _ hkm _ (ix_inl j0 c2)
        have hjb := j3
        obtain ⟨hjl, hj1, hj2⟩ := hjb
        have hmd0 := Int.emod_nonneg (j + 1) (show ((ix [] ls k).length : Int) ≠ 0 by omega)
        have hmd1 := Int.emod_lt_of_pos (j + 1) (show 0 < ((ix [] ls k).length : Int) by omega)
        refine W.skip ?_
        refine W.seq ?_
        refine W.block ?_
        refine W.seq ?_
        refine W.reg ?_
        refine Wx.rd (v := .int .i64 j) (rd_move rfl) rfl ?_
        refine Wx.ex (rd_index 0 (hS.v 0 rfl) rfl rfl Tryz.underlying25 Tryz.sizeOf3 (by first | omega | (simp only [List.length_set, List.length_append, List.length_cons, List.length_nil, List.length_replicate]; omega)) (by first | omega | (simp only [List.length_set, List.length_append, List.length_cons, List.length_nil, List.length_replicate]; omega))) rfl (fun p_19 hp_20 => ?_)
        refine Wx.rd (v := .int .i64 (ix 0 (ix [] ls k) j)) (rd_loadI hp_20 rfl Tryz.isAgg3 Tryz.sizeOf3) rfl ?_
        have bd_21 := bd_i64 hp_20.inK
        refine Wx.rd (v := .int .i64 j) (rd_assign rfl) rfl ?_
        refine Wx.rd (v := .int .i64 (ix 0 (ix [] ls k) j)) (rd_assign rfl) rfl ?_
        refine Wx.nil ?_
        refine W.seq ?_
        refine W.reg ?_
        refine Wx.rd (v := .int .i64 (ix 0 (ix [] ls k) j)) (rd_move rfl) rfl ?_
        refine Wx.rd (v := v_13) (rd_move rfl) rfl ?_
        refine Wx.rd (v := .int .i64 j) (rd_move rfl) rfl ?_
        refine Wx.rd (v := .int .i64 (j + 1)) (rd_add rfl rfl (in_i64 (by omega) (by omega))) rfl ?_
        refine Wx.rd (v := v_13) (rd_move rfl) rfl ?_
        refine Wx.rd (v := .int .i64 ((ix [] ls k).length : Int)) (rd_lenV rfl (hS.v 0 rfl) Tryz.underlying25) rfl ?_
        refine Wx.rd (v := .int .i64 ((j + 1) % ((ix [] ls k).length : Int))) (rd_rem rfl rfl (by omega) (by omega)) rfl ?_
        refine Wx.ex (rd_index 0 (hS.v 0 rfl) rfl rfl Tryz.underlying25 Tryz.sizeOf3 (by first | omega | (simp only [List.length_set, List.length_append, List.length_cons, List.length_nil, List.length_replicate]; omega)) (by first | omega | (simp only [List.length_set, List.length_append, List.length_cons, List.length_nil, List.length_replicate]; omega))) rfl (fun p_22 hp_23 => ?_)
        refine Wx.rd (v := .int .i64 (ix 0 (ix [] ls k) ((j + 1) % ((ix [] ls k).length : Int)))) (rd_loadI hp_23 rfl Tryz.isAgg3 Tryz.sizeOf3) rfl ?_
        have bd_24 := bd_i64 hp_23.inK
        refine Wx.rd (v := .pointer (some ⟨g_5, 0 + 1, none⟩)) (rd_fieldAddr (o := 0) rfl foGb_123_1) rfl ?_
        refine Wx.rd (v := .pointer (some ⟨g_5, 0 + 1 + (ix 0 (ix [] ls k) j).toNat * 1, none⟩)) (rd_indexArr rfl rfl Tryz.underlying121 Tryz.sizeOf3 (by omega) (by omega)) rfl ?_
        refine Wx.storeXa (j := 1 + (ix 0 (ix [] ls k) j)) (f := (Value.int .i64)) (u := (ix 0 (ix [] ls k) ((j + 1) % ((ix [] ls k).length : Int)))) hS 1 rfl rfl (by omega) rfl rfl rfl Tryz.sizeOf3 (by omega) (by omega) (fun w_25 hz_26 hS => ?_)
        refine Wx.nil ?_
        refine W.reg ?_
        refine Wx.rd (v := .int .i64 (ix 0 (ix [] ls k) j)) (rd_move rfl) rfl ?_
        refine Wx.rd (v := .pointer (some ⟨g_5, 0 + 33, none⟩)) (rd_fieldAddr (o := 0) rfl foGb_123_3) rfl ?_
        refine Wx.rd (v := .int .i64 (ix 0 ts2 33)) (Rd.to (v := .int .i64 (ix 0 (List.set ts2 (1 + (ix 0 (ix [] ls k) j)).toNat (ix 0 (ix [] ls k) ((j + 1) % ((ix [] ls k).length : Int)))) 33)) (rd_loadXa (d := 0) (f := (Value.int .i64)) (j := 33) hS 1 rfl rfl (by omega) (by omega) (by first | omega | (simp only [List.length_set, List.length_append, List.length_cons, List.length_nil, List.length_replicate]; omega)) Tryz.isAgg3) (congrArg (Value.int .i64) (show (ix 0 ts2 33 : Int) = (ix 0 (List.set ts2 (1 + (ix 0 (ix [] ls k) j)).toNat (ix 0 (ix [] ls k) ((j + 1) % ((ix [] ls k).length : Int)))) 33 : Int) from (tb_pts j3 hej.1 hej.2).symm).symm)) rfl ?_
        refine Wx.rd (v := .pointer (some ⟨g_5, 0 + 17, none⟩)) (rd_fieldAddr (o := 0) rfl foGb_123_2) rfl ?_
        refine Wx.rd (v := .pointer (some ⟨g_5, 0 + 17 + (ix 0 (ix [] ls k) j).toNat * 1, none⟩)) (rd_indexArr rfl rfl Tryz.underlying121 Tryz.sizeOf3 (by omega) (by omega)) rfl ?_
        refine Wx.storeXa (j := 17 + (ix 0 (ix [] ls k) j)) (f := (Value.int .i64)) (u := (ix 0 ts2 33)) hS 1 rfl rfl (by omega) rfl rfl rfl Tryz.sizeOf3 (by omega) (by first | omega | (simp only [List.length_set, List.length_append, List.length_cons, List.length_nil, List.length_replicate]; omega)) (fun w_27 hz_28 hS => ?_)
        refine Wx.nil ?_
        refine W.reg ?_
        refine Wx.rd (v := .int .i64 (j + 1)) (rd_add rfl rfl (in_i64 (by omega) (by omega))) rfl ?_
        refine Wx.rd (v := .int .i64 (j + 1)) (rd_move rfl) rfl ?_
        refine Wx.nil ?_
        refine ⟨(j + 1, List.set (List.set ts2 (1 + (ix 0 (ix [] ls k) j)).toNat (ix 0 (ix [] ls k) ((j + 1) % ((ix [] ls k).length : Int)))) (17 + (ix 0 (ix [] ls k) j)).toNat (ix 0 ts2 33)), (by show ((ix [] ls k).length - (j + 1)).toNat < ((ix [] ls k).length - j).toNat; omega), ?_, ?_, Out.look rfl Out.self⟩
        · exact ⟨hS, (by first | omega | assumption), (by first | omega | assumption), (by rw [j2, tabIn_next j0]; rfl), ((tb_set (tb_set j3 hej.1 hej.2).1 hej.1 hej.2).2)⟩
        · exact ⟨rfl, trivial⟩
      · -- no
        have hjb := j3
        obtain ⟨hjl, hj1, hj2⟩ := hjb
        refine W.exit rfl ?_
        refine W.seq ?_
        refine W.reg ?_
        refine Wx.rd (v := .pointer (some ⟨g_5, 0 + 0, none⟩)) (rd_fieldAddr (o := 0) rfl foGb_123_0) rfl ?_
        refine Wx.rd (v := .int .i64 (ix 0 ts2 0)) (rd_loadXa (d := 0) (f := (Value.int .i64)) (j := 0) hS 1 rfl rfl (by omega) (by omega) (by omega) Tryz.isAgg3) rfl ?_
        refine Wx.rd (v := v_13) (rd_move rfl) rfl ?_
        refine Wx.rd (v := .int .i64 ((ix [] ls k).length : Int)) (rd_lenV rfl (hS.v 0 rfl) Tryz.underlying25) rfl ?_
        refine Wx.rd (v := .int .i64 ((ix 0 ts2 0) + ((ix [] ls k).length : Int))) (rd_add rfl rfl (in_i64 (by omega) (by omega))) rfl ?_
        refine Wx.rd (v := .pointer (some ⟨g_5, 0 + 0, none⟩)) (rd_fieldAddr (o := 0) rfl foGb_123_0) rfl ?_
        refine Wx.storeXa (j := 0) (f := (Value.int .i64)) (u := ((ix 0 ts2 0) + ((ix [] ls k).length : Int))) hS 1 rfl rfl (by omega) rfl rfl rfl Tryz.sizeOf3 (by omega) (by omega) (fun w_29 hz_30 hS => ?_)
        refine Wx.nil ?_
        refine W.reg ?_
        refine Wx.rd (v := .pointer (some ⟨g_5, 0 + 33, none⟩)) (rd_fieldAddr (o := 0) rfl foGb_123_3) rfl ?_
        refine Wx.rd (v := .int .i64 (ix 0 ts2 33)) (Rd.to (v := .int .i64 (ix 0 (List.set ts2 (0 : Int).toNat ((ix 0 ts2 0) + ((ix [] ls k).length : Int))) 33)) (rd_loadXa (d := 0) (f := (Value.int .i64)) (j := 33) hS 1 rfl rfl (by omega) (by omega) (by first | omega | (simp only [List.length_set, List.length_append, List.length_cons, List.length_nil, List.length_replicate]; omega)) Tryz.isAgg3) (congrArg (Value.int .i64) (show (ix 0 ts2 33 : Int) = (ix 0 (List.set ts2 (0 : Int).toNat ((ix 0 ts2 0) + ((ix [] ls k).length : Int))) 33 : Int) from (tb_pts0 j3).symm).symm)) rfl ?_
        refine Wx.rd (v := .int .i64 ((ix 0 ts2 33) + 1)) (rd_add rfl rfl (in_i64 (by omega) (by omega))) rfl ?_
        refine Wx.rd (v := .pointer (some ⟨g_5, 0 + 33, none⟩)) (rd_fieldAddr (o := 0) rfl foGb_123_3) rfl ?_
        refine Wx.storeXa (j := 33) (f := (Value.int .i64)) (u := ((ix 0 ts2 33) + 1)) hS 1 rfl rfl (by omega) rfl rfl rfl Tryz.sizeOf3 (by omega) (by first | omega | (simp only [List.length_set, List.length_append, List.length_cons, List.length_nil, List.length_replicate]; omega)) (fun w_31 hz_32 hS => ?_)
        refine Wx.nil ?_
        refine W.reg ?_
        refine Wx.rd (v := .int .i64 (k + 1)) (rd_add rfl rfl (in_i64 (by omega) (by omega))) rfl ?_
        refine Wx.rd (v := .int .i64 (k + 1)) (rd_move rfl) rfl ?_
        refine Wx.nil ?_
        refine ⟨(k + 1, List.set (List.set ts2 (0 : Int).toNat ((ix 0 ts2 0) + ((ix [] ls k).length : Int))) (33 : Int).toNat ((ix 0 ts2 33) + 1)), (by show (ls.length - (k + 1)).toNat < (ls.length - k).toNat; omega), ?_, ?_, Out.look rfl (Out.hav rfl (Out.look rfl Out.self))⟩
        · exact ⟨hS.tl, (by first | omega | assumption), (by first | omega | assumption), (tabK_put2 h0 c0 c1 (by omega : j = ((ix [] ls k).length : Int)) j3 (by rw [j2, h2])), (tb_up2 j3 ⟨by omega, by omega⟩)⟩
        · exact ⟨rfl, trivial⟩
  · -- no
    have htl := h3.1
    refine W.exit rfl ?_
    refine W.seq ?_
    refine W.reg ?_
    refine Wx.rd (v := .agg (List.map (Value.int .i64) ts).toArray) (rd_loadXs (ds := List.map (Value.int .i64) ts) hS 0 rfl rfl (by rw [List.drop_zero, List.take_of_length_le (by simp; omega)]) (by simp; omega) Tryz.isAgg123 Tryz.sizeOf123) rfl ?_
    refine Wx.storeX (cs' := List.map (Value.int .i64) ts) (ds := List.map (Value.int .i64) ts) hS 1 rfl rfl rfl rfl (fun w' => by rw [List.length_map, show List.length ts = 34 by first | omega | (simp; omega) | simp]; exact Tryz.sizeOf123 w') (by first | (simp; omega) | simp) (by intro u hu; obtain ⟨_, _, rfl⟩ := List.mem_map.1 hu; rfl) (by rw [List.take_zero, List.nil_append, List.drop_of_length_le (by first | (simp; omega) | simp), List.append_nil]) (fun w_33 hz_34 hS => ?_)
    refine Wx.nil ?_
    have e0_0 : (tabV ls) = ts := by rw [h2]; exact (tabK_end (by omega)).symm
    exact W.ret ⟨.agg (List.map (Value.int .i64) ts).toArray, (ResIs.cell1 hS 1 rfl rfl Tryz.isAgg123 (fun w' => by rw [List.length_map, show List.length ts = 34 by first | omega | (simp; omega) | simp]; exact Tryz.sizeOf123 w')), hS.bel, (by rw [e0_0])⟩
end Go.Proofs.YtlibemgaepkceaaGreatDoor

namespace Go.Proofs.YtlibemgaepkceaaGreatDoor
open Go.Wk Go.RowKit Go.Lib
set_option linter.unusedVariables false
set_option linter.unusedSimpArgs false
theorem foGc_104_0 : fldOff Tryz.prog 104 0 = some 0 := by kernel_rfl

set_option maxHeartbeats 2000000 in
theorem F79 {mv : Value} {ls : List (List Int)} {Fr_mv : List (Option Nat)} {w : World} (h_mv : V (tSl (tSl (tI .i64))) ls mv Fr_mv w) (p_ok : MapOK ls) : Calls Tryz.prog 79 #[.agg #[mv]] w (Ret w (fun r _ => r = .tuple #[.agg (List.map (Value.int .i64) (tabV ls)).toArray, .int .i64 0])) := by
  have hml := p_ok.m
  have hlc := map_cnt p_ok
  have htv := tabV_len (ls := ls)
  have a_mv := h_mv.any
  have l_mv := h_mv.len63
  have hS := St.start0 w
  refine enterR Tryz.func79 rfl Tryz.ntmps79 Tryz.results79 rfl ?_
  refine W.seq ?_
  refine W.reg ?_
  refine Wx.box (cs := [mv]) hS rfl rfl rfl (fun g_1 w_2 hx_4 hb_3 hS => ?_)
  refine Wx.alloc (cs := List.map (Value.int .i64) (List.replicate 34 (0 : Int))) hS Tryz.zeroValue123 (by kernel_rfl) rfl (fun g_5 w_6 hx_8 hb_7 hS => ?_)
  have hS : St _ _ w_6 [.box g_5 123 (List.map (Value.int .i64) (List.replicate 34 (0 : Int))), .box g_1 104 [mv]] := hS
  refine Wx.rd (v := .int .i64 0) (rd_assign rfl) rfl ?_
  refine Wx.nil ?_
  refine W.seq ?_
  refine W.reg ?_
  refine Wx.rd (v := .int .i64 0) (rd_assign rfl) rfl ?_
  refine Wx.nil ?_
  refine W.seq ?_
  refine W.seq ?_
  refine W.reg ?_
  refine Wx.rd (v := .pointer (some ⟨g_1, 0, none⟩)) (rd_fieldAddr rfl foGc_104_0) rfl ?_
  refine Wx.rd (v := mv) (rd_loadX hS 1 rfl rfl rfl Tryz.isAgg24) rfl ?_
  refine Wx.rd (v := .int .i64 (ls.length : Int)) (rd_lenV rfl (hS.arg a_mv) Tryz.underlying24) rfl ?_
  refine Wx.rd (v := .int .i64 0) (rd_move rfl) rfl ?_
  refine Wx.nil ?_
  refine W.block ?_
  refine W.loop [4, 6, 15, 16, 17, 18, 19, 20, 21, 22, 23] (fun x : Int × Int => match x with | (n, k) => [(4, .int .i64 n), (15, .int .i64 k)]) (fun (x : Int × Int) w' => match x with | (n, k) => St w [] w' [.box g_5 123 (List.map (Value.int .i64) (List.replicate 34 (0 : Int))), .box g_1 104 [mv]] ∧ 0 ≤ k ∧ k ≤ ls.length ∧ n = ((ls.take k.toNat).flatten.length : Int)) (fun x : Int × Int => match x with | (n, k) => (ls.length - k).toNat) (0, 0) ⟨rfl, rfl, trivial⟩ ⟨hS, (by first | omega | simp), (by first | omega | simp), (rfl)⟩ ?_
  rintro ⟨n, k⟩ u_10 w_9 ⟨hS, h0, h1, h2⟩
  refine W.seq ?_
  refine W.reg ?_
  refine Wx.rd (v := .bool (decide (k < (ls.length : Int)))) (rd_lss rfl rfl) rfl ?_
  refine Wx.nil ?_
  refine W.seq ?_
  refine W.condD rfl (fun c0 => ?_) (fun c0 => ?_)
  · -- yes
    have hft := flat_take h0 c0
    have hfl := flat_le (ls := ls) (k := k + 1)
    refine W.skip ?_
    refine W.seq ?_
    refine W.block ?_
    refine W.seq ?_
    refine W.reg ?_
    refine Wx.ex (rd_index [] (hS.arg a_mv) rfl rfl Tryz.underlying24 Tryz.sizeOf25 (by first | omega | (simp only [List.length_set, List.length_append, List.length_cons, List.length_nil, List.length_replicate]; omega)) (by first | omega | (simp only [List.length_set, List.length_append, List.length_cons, List.length_nil, List.length_replicate]; omega))) rfl (fun p_11 hp_12 => ?_)
    refine Wx.ex (rd_load hp_12 rfl Tryz.isAgg25 Tryz.sizeOf25) rfl (fun v_13 hv_14 => ?_)
    have ln_15 := hv_14.len63
    have hS := hS.add hv_14
    refine Wx.rd (v := v_13) (rd_assign rfl) rfl ?_
    refine Wx.nil ?_
    refine W.reg ?_
    refine Wx.rd (v := .int .i64 n) (rd_move rfl) rfl ?_
    refine Wx.rd (v := v_13) (rd_move rfl) rfl ?_
    refine Wx.rd (v := .int .i64 ((ix [] ls k).length : Int)) (rd_lenV rfl (hS.v 0 rfl) Tryz.underlying25) rfl ?_
    refine Wx.rd (v := .int .i64 (n + ((ix [] ls k).length : Int))) (rd_add rfl rfl (in_i64 (by omega) (by omega))) rfl ?_
    refine Wx.rd (v := .int .i64 (n + ((ix [] ls k).length : Int))) (rd_assign rfl) rfl ?_
    refine Wx.nil ?_
    refine W.reg ?_
    refine Wx.rd (v := .int .i64 (k + 1)) (rd_add rfl rfl (in_i64 (by omega) (by omega))) rfl ?_
    refine Wx.rd (v := .int .i64 (k + 1)) (rd_move rfl) rfl ?_
    refine Wx.nil ?_
    refine ⟨(n + ((ix [] ls k).length : Int), k + 1), (by show (ls.length - (k + 1)).toNat < (ls.length - k).toNat; omega), ?_, ?_, Out.look rfl Out.self⟩
    · exact ⟨hS.tl, (by first | omega | assumption), (by first | omega | assumption), (by rw [h2]; exact hft.symm)⟩
    · exact ⟨rfl, rfl, trivial⟩
  · -- no
    have hn : n = (ls.flatten.length : Int) := by rw [h2, List.take_of_length_le (by omega)]
    refine W.exit rfl ?_
    refine W.seq ?_
    refine W.seq ?_
    refine W.reg ?_
    refine Wx.rd (v := .int .i64 n) (rd_move rfl) rfl ?_
    refine Wx.rd (v := .bool (decide (16 < n))) (rd_gtr rfl rfl) rfl ?_
    refine Wx.nil ?_
    refine W.condF rfl (decide_eq_false (by omega)) ?_
    refine W.skip ?_
    refine W.seq ?_
    refine W.reg ?_
    refine Wx.alloc (cs := List.map Value.bool (List.replicate 16 false)) hS Tryz.zeroValue133 (by kernel_rfl) rfl (fun g_17 w_18 hx_20 hb_19 hS => ?_)
    have hS : St _ _ w_18 [.box g_17 133 (List.map Value.bool (List.replicate 16 false)), .box g_5 123 (List.map (Value.int .i64) (List.replicate 34 (0 : Int))), .box g_1 104 [mv]] := hS
    refine Wx.nil ?_
    refine W.seq ?_
    refine W.seq ?_
    refine W.reg ?_
    refine Wx.rd (v := .pointer (some ⟨g_1, 0, none⟩)) (rd_fieldAddr rfl foGc_104_0) rfl ?_
    refine Wx.rd (v := mv) (rd_loadX hS 2 rfl rfl rfl Tryz.isAgg24) rfl ?_
    refine Wx.rd (v := .int .i64 (ls.length : Int)) (rd_lenV rfl (hS.arg a_mv) Tryz.underlying24) rfl ?_
    refine Wx.rd (v := .int .i64 0) (rd_move rfl) rfl ?_
    refine Wx.nil ?_
    refine W.block ?_
    refine W.loop [3, 9, 11, 30, 31, 32, 33, 34, 35, 36, 37, 38, 39, 40, 41, 42, 43, 44, 45, 46, 47, 48, 49, 50, 51, 52, 53, 54, 55, 56, 57, 58, 59, 60, 61] (fun x : Int × (List Bool) => match x with | (k, met) => [(30, .int .i64 k)]) (fun (x : Int × (List Bool)) w' => match x with | (k, met) => St w [] w' [.box g_17 133 (List.map Value.bool met), .box g_5 123 (List.map (Value.int .i64) (List.replicate 34 (0 : Int))), .box g_1 104 [mv]] ∧ 0 ≤ k ∧ k ≤ ls.length ∧ MtI ls k 0 met) (fun x : Int × (List Bool) => match x with | (k, met) => (ls.length - k).toNat) (0, (List.replicate 16 false)) ⟨rfl, trivial⟩ ⟨hS, (by first | omega | simp), (by first | omega | simp), (mt_start)⟩ ?_
    rintro ⟨k, met⟩ u_22 w_21 ⟨hS, g0, g1, g2⟩
    refine W.seq ?_
    refine W.reg ?_
    refine Wx.rd (v := .bool (decide (k < (ls.length : Int)))) (rd_lss rfl rfl) rfl ?_
    refine Wx.nil ?_
    refine W.seq ?_
    refine W.condD rfl (fun c2 => ?_) (fun c2 => ?_)
    · -- yes
      have hkm : ix [] ls k ∈ ls := List.mem_of_getElem? (ix_get c2 g0)
      have hkp := p_ok.n _ hkm
      have hml2 := g2.1
      refine W.skip ?_
      refine W.seq ?_
      refine W.block ?_
      refine W.seq ?_
      refine W.reg ?_
      refine Wx.ex (rd_index [] (hS.arg a_mv) rfl rfl Tryz.underlying24 Tryz.sizeOf25 (by first | omega | (simp only [List.length_set, List.length_append, List.length_cons, List.length_nil, List.length_replicate]; omega)) (by first | omega | (simp only [List.length_set, List.length_append, List.length_cons, List.length_nil, List.length_replicate]; omega))) rfl (fun p_23 hp_24 => ?_)
      refine Wx.ex (rd_load hp_24 rfl Tryz.isAgg25 Tryz.sizeOf25) rfl (fun v_25 hv_26 => ?_)
      have ln_27 := hv_26.len63
      have hS := hS.add hv_26
      refine Wx.rd (v := v_25) (rd_assign rfl) rfl ?_
      refine Wx.nil ?_
      refine W.seq ?_
      refine W.seq ?_
      refine W.reg ?_
      refine Wx.rd (v := v_25) (rd_move rfl) rfl ?_
      refine Wx.rd (v := .int .i64 ((ix [] ls k).length : Int)) (rd_lenV rfl (hS.v 0 rfl) Tryz.underlying25) rfl ?_
      refine Wx.rd (v := .bool (decide (((ix [] ls k).length : Int) = 0))) (rd_eql rfl rfl) rfl ?_
      refine Wx.nil ?_
      refine W.condF rfl (decide_eq_false (by omega)) ?_
      refine W.skip ?_
      refine W.seq ?_
      refine W.reg ?_
      refine Wx.rd (v := v_25) (rd_move rfl) rfl ?_
      refine Wx.rd (v := .int .i64 ((ix [] ls k).length : Int)) (rd_lenV rfl (hS.v 0 rfl) Tryz.underlying25) rfl ?_
      refine Wx.rd (v := .int .i64 0) (rd_move rfl) rfl ?_
      refine Wx.nil ?_
      refine W.block ?_
      refine W.loop [3, 11, 40, 41, 42, 43, 44, 45, 46, 47, 48, 49, 50, 51, 52, 53, 54, 55, 56, 57, 58, 59, 60] (fun x : Int × (List Bool) => match x with | (j, met2) => [(40, .int .i64 j)]) (fun (x : Int × (List Bool)) w' => match x with | (j, met2) => St w [] w' [Ob.v (tSl (tI .i64)) (ix [] ls k) v_25, .box g_17 133 (List.map Value.bool met2), .box g_5 123 (List.map (Value.int .i64) (List.replicate 34 (0 : Int))), .box g_1 104 [mv]] ∧ 0 ≤ j ∧ j ≤ (ix [] ls k).length ∧ MtI ls k j met2) (fun x : Int × (List Bool) => match x with | (j, met2) => ((ix [] ls k).length - j).toNat) (0, met) ⟨rfl, trivial⟩ ⟨hS, (by first | omega | simp), (by first | omega | simp), (g2)⟩ ?_
      rintro ⟨j, met2⟩ u_30 w_29 ⟨hS, j0, j1, j2⟩
      refine W.seq ?_
      refine W.reg ?_
      refine Wx.rd (v := .bool (decide (j < ((ix [] ls k).length : Int)))) (rd_lss rfl rfl) rfl ?_
      refine Wx.nil ?_
      refine W.seq ?_
      refine W.condD rfl (fun c4 => ?_) (fun c4 => ?_)
      · -- yes
        have hej := p_ok.r _ (end_mem g0 c2 j0 c4)
        have hfree := mt_free p_ok j2 g0 c2 j0 c4
        have hml3 := j2.1
        refine W.skip ?_
        refine W.seq ?_
        refine W.block ?_
        refine W.seq ?_
        refine W.reg ?_
        refine Wx.ex (rd_index 0 (hS.v 0 rfl) rfl rfl Tryz.underlying25 Tryz.sizeOf3 (by first | omega | (simp only [List.length_set, List.length_append, List.length_cons, List.length_nil, List.length_replicate]; omega)) (by first | omega | (simp only [List.length_set, List.length_append, List.length_cons, List.length_nil, List.length_replicate]; omega))) rfl (fun p_31 hp_32 => ?_)
        refine Wx.rd (v := .int .i64 (ix 0 (ix [] ls k) j)) (rd_loadI hp_32 rfl Tryz.isAgg3 Tryz.sizeOf3) rfl ?_
        have bd_33 := bd_i64 hp_32.inK
        refine Wx.rd (v := .int .i64 (ix 0 (ix [] ls k) j)) (rd_assign rfl) rfl ?_
        refine Wx.nil ?_
        refine W.seq ?_
        refine W.block ?_
        refine W.seq ?_
        refine W.reg ?_
        refine Wx.rd (v := .int .i64 (ix 0 (ix [] ls k) j)) (rd_move rfl) rfl ?_
        refine Wx.rd (v := .bool (decide ((ix 0 (ix [] ls k) j) < 0))) (rd_lss rfl rfl) rfl ?_
        refine Wx.rd (v := .bool (decide ((ix 0 (ix [] ls k) j) < 0))) (rd_move rfl) rfl ?_
        refine Wx.cut (X := Unit) 4 [48, 49, 50, 51] (fun _ => [(51, .bool (decide ((ix 0 (ix [] ls k) j) < 0) || decide (n ≤ (ix 0 (ix [] ls k) j))))]) (fun _ w' => St w [] w' [Ob.v (tSl (tI .i64)) (ix [] ls k) v_25, .box g_17 133 (List.map Value.bool met2), .box g_5 123 (List.map (Value.int .i64) (List.replicate 34 (0 : Int))), .box g_1 104 [mv]]) ?_ ?_
        · rcases Bool.eq_false_or_eq_true (decide ((ix 0 (ix [] ls k) j) < 0)) with g_34 | g_34
          · -- True
            have gp_35 := of_decide_eq_true g_34
            refine Wx.gnoB rfl rfl (congrArg Value.bool g_34) rfl rfl ?_
            refine Wx.gnoB rfl rfl (congrArg Value.bool g_34) rfl rfl ?_
            refine Wx.gnoB rfl rfl (congrArg Value.bool g_34) rfl rfl ?_
            refine Wx.rd (v := .bool true) (rd_pickT (congrArg Value.bool g_34) rfl) rfl ?_
            refine Wx.nil ⟨(), hS, ⟨?_, trivial⟩, Out.look rfl Out.refl⟩
            show Value.bool true = Value.bool (decide ((ix 0 (ix [] ls k) j) < 0) || decide (n ≤ (ix 0 (ix [] ls k) j)))
            first | rw [g_34, Bool.true_or] | (rw [g_34]; rfl)
          · -- False
            have gp_36 := of_decide_eq_false g_34
            refine Wx.gyes rfl rfl (congrArg Value.bool g_34) ?_
            refine Wx.rd (v := .int .i64 (ix 0 (ix [] ls k) j)) (rd_move rfl) rfl ?_
            refine Wx.gyes rfl rfl (congrArg Value.bool g_34) ?_
            refine Wx.rd (v := .int .i64 n) (rd_move rfl) rfl ?_
            refine Wx.gyes rfl rfl (congrArg Value.bool g_34) ?_
            refine Wx.rd (v := .bool (decide (n ≤ (ix 0 (ix [] ls k) j)))) (rd_geq rfl rfl) rfl ?_
            refine Wx.rd (v := .bool (decide (n ≤ (ix 0 (ix [] ls k) j)))) (rd_pickF (congrArg Value.bool g_34) rfl) rfl ?_
            refine Wx.nil ⟨(), hS, ⟨?_, trivial⟩, Out.look rfl Out.refl⟩
            show Value.bool (decide (n ≤ (ix 0 (ix [] ls k) j))) = Value.bool (decide ((ix 0 (ix [] ls k) j) < 0) || decide (n ≤ (ix 0 (ix [] ls k) j)))
            first | rw [g_34, Bool.false_or] | (rw [g_34]; rfl)
        rintro ⟨⟩ u_38 w_37 hS
        refine Wx.rd (v := .bool (decide ((ix 0 (ix [] ls k) j) < 0) || decide (n ≤ (ix 0 (ix [] ls k) j)))) (rd_assign rfl) rfl ?_
        refine Wx.nil ?_
        refine W.condF rfl (by simp; omega) ?_
        refine W.seq ?_
        refine W.reg ?_
        refine Wx.rd (v := .int .i64 (ix 0 (ix [] ls k) j)) (rd_move rfl) rfl ?_
        refine Wx.rd (v := .pointer (some ⟨g_17, 0 + (ix 0 (ix [] ls k) j).toNat * 1, none⟩)) (rd_indexArr rfl rfl Tryz.underlying133 Tryz.sizeOf4 (by omega) (by omega)) rfl ?_
        refine Wx.rd (v := .bool (ix false met2 (ix 0 (ix [] ls k) j))) (rd_loadXa (d := false) (f := Value.bool) (j := (ix 0 (ix [] ls k) j)) hS 1 rfl rfl (by omega) (by omega) (by omega) Tryz.isAgg4) rfl ?_
        refine Wx.rd (v := .bool (ix false met2 (ix 0 (ix [] ls k) j))) (rd_assign rfl) rfl ?_
        refine Wx.nil ?_
        refine W.condF rfl hfree ?_
        refine W.skip ?_
        refine W.reg ?_
        refine Wx.rd (v := .int .i64 (ix 0 (ix [] ls k) j)) (rd_move rfl) rfl ?_
        refine Wx.rd (v := .pointer (some ⟨g_17, 0 + (ix 0 (ix [] ls k) j).toNat * 1, none⟩)) (rd_indexArr rfl rfl Tryz.underlying133 Tryz.sizeOf4 (by omega) (by omega)) rfl ?_
        refine Wx.storeXa (j := (ix 0 (ix [] ls k) j)) (f := Value.bool) (u := true) hS 1 rfl rfl (by omega) rfl rfl rfl Tryz.sizeOf4 (by omega) (by omega) (fun w_39 hz_40 hS => ?_)
        refine Wx.nil ?_
        refine W.reg ?_
        refine Wx.rd (v := .int .i64 (j + 1)) (rd_add rfl rfl (in_i64 (by omega) (by omega))) rfl ?_
        refine Wx.rd (v := .int .i64 (j + 1)) (rd_move rfl) rfl ?_
        refine Wx.nil ?_
        refine ⟨(j + 1, List.set met2 (ix 0 (ix [] ls k) j).toNat true), (by show ((ix [] ls k).length - (j + 1)).toNat < ((ix [] ls k).length - j).toNat; omega), ?_, ?_, Out.look rfl (Out.hav rfl (Out.look rfl Out.self))⟩
        · exact ⟨hS, (by first | omega | assumption), (by first | omega | assumption), (mt_next p_ok j2 g0 c2 j0 c4)⟩
        · exact ⟨rfl, trivial⟩
      · -- no
        refine W.exit rfl ?_
        refine W.reg ?_
        refine Wx.rd (v := .int .i64 (k + 1)) (rd_add rfl rfl (in_i64 (by omega) (by omega))) rfl ?_
        refine Wx.rd (v := .int .i64 (k + 1)) (rd_move rfl) rfl ?_
        refine Wx.nil ?_
        refine ⟨(k + 1, met2), (by show (ls.length - (k + 1)).toNat < (ls.length - k).toNat; omega), ?_, ?_, Out.look rfl (Out.hav rfl (Out.look rfl Out.self))⟩
        · exact ⟨hS.tl, (by first | omega | assumption), (by first | omega | assumption), (mt_row j2 g0 c2 (by omega))⟩
        · exact ⟨rfl, trivial⟩
    · -- no
      refine W.exit rfl ?_
      refine W.seq ?_
      refine W.seq ?_
      refine W.reg ?_
      refine Wx.rd (v := .int .i64 n) (rd_move rfl) rfl ?_
      refine Wx.rd (v := .int .i64 (n % 2)) (rd_rem rfl rfl (by omega) (by omega)) rfl ?_
      refine Wx.rd (v := .bool (decide ((n % 2) = 1))) (rd_eql rfl rfl) rfl ?_
      refine Wx.nil ?_
      refine W.condF rfl (decide_eq_false (by omega)) ?_
      refine W.skip ?_
      refine W.seq ?_
      refine W.reg ?_
      refine Wx.rd (v := .pointer (some ⟨g_1, 0, none⟩)) (rd_fieldAddr rfl foGc_104_0) rfl ?_
      refine Wx.rd (v := mv) (rd_loadX hS 2 rfl rfl rfl Tryz.isAgg24) rfl ?_
      refine Wx.callF (run_callF Tryz.call90 rfl) (F90 (hS.arg a_mv) (map_rng p_ok) (map_len p_ok) (by omega)) rfl ?_
      rintro r_41 w_42 hx_43 rfl
      have hS := hS.ext hx_43
      refine Wx.storeX (cs' := List.map (Value.int .i64) (tabV ls)) (ds := List.map (Value.int .i64) (tabV ls)) hS 1 rfl rfl rfl rfl (fun w' => by rw [List.length_map, show List.length (tabV ls) = 34 by first | omega | (simp; omega) | simp]; exact Tryz.sizeOf123 w') (by first | (simp; omega) | simp) (by intro u hu; obtain ⟨_, _, rfl⟩ := List.mem_map.1 hu; rfl) (by rw [List.take_zero, List.nil_append, List.drop_of_length_le (by first | (simp; omega) | simp), List.append_nil]) (fun w_44 hz_45 hS => ?_)
      refine Wx.rd (v := .int .i64 0) (rd_assign rfl) rfl ?_
      refine Wx.nil ?_
      exact W.ret ⟨.tuple #[.agg (List.map (Value.int .i64) (tabV ls)).toArray, .int .i64 0], (ResIs.cell2 hS 1 rfl rfl Tryz.isAgg123 (fun w' => by rw [List.length_map, show List.length (tabV ls) = 34 by first | omega | (simp; omega) | simp]; exact Tryz.sizeOf123 w')), hS.bel, rfl⟩
end Go.Proofs.YtlibemgaepkceaaGreatDoor

namespace Go.Proofs.YtlibemgaepkceaaGreatDoor
open Go.Wk Go.RowKit Go.Lib
set_option linter.unusedVariables false
set_option linter.unusedSimpArgs false
theorem foGd_123_3 : fldOff Tryz.prog 123 3 = some 33 := by kernel_rfl
theorem foGd_123_0 : fldOff Tryz.prog 123 0 = some 0 := by kernel_rfl
theorem mixedGd_ : Tryz.prog.follows .mixedOrders = true := by kernel_rfl
theorem foGd_123_2 : fldOff Tryz.prog 123 2 = some 17 := by kernel_rfl

set_option maxHeartbeats 4000000 in
theorem F80 {ts : List Int} {w : World} (n_ts : ts.length = 34) (i_ts : ∀ z ∈ ts, InK .i64 z) (p_ok : TblOK ts) : Calls Tryz.prog 80 #[.agg (List.map (Value.int .i64) ts).toArray] w (Ret w (fun r _ => r = .int .i64 (partT ts))) := by
  obtain ⟨tl, tn, ⟨te, te2⟩, tp⟩ := id p_ok
  have hn_ : tnN ts = ix 0 ts 33 := rfl
  have he_ : teN ts = ix 0 ts 0 := rfl
  have hS := St.start0 w
  refine enterR Tryz.func80 rfl Tryz.ntmps80 Tryz.results80 rfl ?_
  refine W.seq ?_
  refine W.reg ?_
  refine Wx.box (cs := List.map (Value.int .i64) ts) hS rfl rfl rfl (fun g_1 w_2 hx_4 hb_3 hS => ?_)
  refine Wx.rd (v := .int .i64 0) (rd_assign rfl) rfl ?_
  refine Wx.nil ?_
  refine W.seq ?_
  refine W.reg ?_
  refine Wx.alloc (cs := List.map (Value.int .i64) (List.replicate 16 (0 : Int))) hS Tryz.zeroValue121 (by kernel_rfl) rfl (fun g_5 w_6 hx_8 hb_7 hS => ?_)
  have hS : St _ _ w_6 [.box g_5 121 (List.map (Value.int .i64) (List.replicate 16 (0 : Int))), .box g_1 123 (List.map (Value.int .i64) ts)] := hS
  refine Wx.nil ?_
  refine W.seq ?_
  refine W.seq ?_
  refine W.reg ?_
  refine Wx.rd (v := .pointer (some ⟨g_1, 0 + 33, none⟩)) (rd_fieldAddr (o := 0) rfl foGd_123_3) rfl ?_
  have bz_9 := ix_i64 i_ts 33
  refine Wx.rd (v := .int .i64 (ix 0 ts 33)) (rd_loadXa (d := 0) (f := (Value.int .i64)) (j := 33) hS 1 rfl rfl (by omega) (by omega) (by omega) Tryz.isAgg3) rfl ?_
  refine Wx.rd (v := .int .i64 0) (rd_move rfl) rfl ?_
  refine Wx.nil ?_
  refine W.block ?_
  refine W.loop [4, 13, 14, 15, 16, 17, 18, 19] (fun x : Int × (List Int) => match x with | (k, lab) => [(13, .int .i64 k)]) (fun (x : Int × (List Int)) w' => match x with | (k, lab) => St w [] w' [.box g_5 121 (List.map (Value.int .i64) lab), .box g_1 123 (List.map (Value.int .i64) ts)] ∧ 0 ≤ k ∧ k ≤ tnN ts ∧ (∀ x, 0 ≤ x → x < k → ix 0 lab x = x) ∧ lab.length = 16) (fun x : Int × (List Int) => match x with | (k, lab) => (tnN ts - k).toNat) (0, (List.replicate 16 (0 : Int))) ⟨rfl, trivial⟩ ⟨hS, (by first | omega | simp), (by first | omega | simp), (fun x x0 x1 => by omega), (rfl)⟩ ?_
  rintro ⟨k, lab⟩ u_11 w_10 ⟨hS, h0, h1, h2, h3⟩
  refine W.seq ?_
  refine W.reg ?_
  refine Wx.rd (v := .bool (decide (k < (ix 0 ts 33)))) (rd_lss rfl rfl) rfl ?_
  refine Wx.nil ?_
  refine W.seq ?_
  refine W.condD rfl (fun c0 => ?_) (fun c0 => ?_)
  · -- yes
    have hll := h3
    refine W.skip ?_
    refine W.seq ?_
    refine W.block ?_
    refine W.seq ?_
    refine W.reg ?_
    refine Wx.rd (v := .int .i64 k) (rd_move rfl) rfl ?_
    refine Wx.rd (v := .int .i64 k) (rd_assign rfl) rfl ?_
    refine Wx.nil ?_
    refine W.reg ?_
    refine Wx.rd (v := .int .i64 k) (rd_move rfl) rfl ?_
    refine Wx.rd (v := .int .i64 k) (rd_move rfl) rfl ?_
    refine Wx.rd (v := .pointer (some ⟨g_5, 0 + k.toNat * 1, none⟩)) (rd_indexArr rfl rfl Tryz.underlying121 Tryz.sizeOf3 (by omega) (by omega)) rfl ?_
    refine Wx.storeXa (j := k) (f := (Value.int .i64)) (u := k) hS 0 rfl rfl (by omega) rfl rfl rfl Tryz.sizeOf3 (by omega) (by omega) (fun w_12 hz_13 hS => ?_)
    refine Wx.nil ?_
    refine W.reg ?_
    refine Wx.rd (v := .int .i64 (k + 1)) (rd_add rfl rfl (in_i64 (by omega) (by omega))) rfl ?_
    refine Wx.rd (v := .int .i64 (k + 1)) (rd_move rfl) rfl ?_
    refine Wx.nil ?_
    refine ⟨(k + 1, List.set lab k.toNat k), (by show (tnN ts - (k + 1)).toNat < (tnN ts - k).toNat; omega), ?_, ?_, Out.look rfl Out.self⟩
    · exact ⟨hS, (by first | omega | assumption), (by first | omega | assumption), (fun x x0 x1 => by rw [ix_set0 h0 (by omega) x0]; split; omega; exact h2 x x0 (by omega)), (by rw [List.length_set]; exact h3)⟩
    · exact ⟨rfl, trivial⟩
  · -- no
    have hl0 : LbI ts 0 lab (tnN ts) := lb_start p_ok h3 (fun x x0 x1 => h2 x x0 (by omega))
    refine W.exit rfl ?_
    refine W.seq ?_
    refine W.reg ?_
    refine Wx.rd (v := .pointer (some ⟨g_1, 0 + 33, none⟩)) (rd_fieldAddr (o := 0) rfl foGd_123_3) rfl ?_
    have bz_14 := ix_i64 i_ts 33
    refine Wx.rd (v := .int .i64 (ix 0 ts 33)) (rd_loadXa (d := 0) (f := (Value.int .i64)) (j := 33) hS 1 rfl rfl (by omega) (by omega) (by omega) Tryz.isAgg3) rfl ?_
    refine Wx.rd (v := .int .i64 (ix 0 ts 33)) (rd_assign rfl) rfl ?_
    refine Wx.nil ?_
    refine W.seq ?_
    refine W.seq ?_
    refine W.reg ?_
    refine Wx.rd (v := .int .i64 0) (rd_assign rfl) rfl ?_
    refine Wx.nil ?_
    refine W.block ?_
    refine W.loop [5, 6, 7, 8, 9, 10, 22, 23, 24, 25, 26, 27, 28, 29, 30, 31, 32, 33, 34, 35, 36, 37, 38, 39, 40, 41, 42, 43, 44, 45, 46, 47, 48, 49, 50, 51, 52, 53, 54, 55, 56, 57, 58, 59, 60, 61] (fun x : Int × (List Int) × Int => match x with | (n, lab2, i) => [(5, .int .i64 n), (6, .int .i64 (2 * i))]) (fun (x : Int × (List Int) × Int) w' => match x with | (n, lab2, i) => St w [] w' [.box g_5 121 (List.map (Value.int .i64) lab2), .box g_1 123 (List.map (Value.int .i64) ts)] ∧ 0 ≤ i ∧ 2 * i ≤ teN ts ∧ LbI ts i lab2 n ∧ n ≤ 100 ∧ -100 ≤ n - 100 + i) (fun x : Int × (List Int) × Int => match x with | (n, lab2, i) => (teN ts - 2 * i).toNat) (ix 0 ts 33, lab, 0) ⟨rfl, rfl, trivial⟩ ⟨hS, (by first | omega | simp), (by first | omega | simp), (hl0), (by first | omega | simp), (by first | omega | simp)⟩ ?_
    rintro ⟨n, lab2, i⟩ u_16 w_15 ⟨hS, g0, g1, g2, g3, g4⟩
    refine W.seq ?_
    refine W.seq ?_
    refine W.reg ?_
    refine Wx.rd (v := .int .i64 (2 * i)) (rd_move rfl) rfl ?_
    refine Wx.rd (v := .pointer (some ⟨g_1, 0 + 0, none⟩)) (rd_fieldAddr (o := 0) rfl foGd_123_0) rfl ?_
    have bz_17 := ix_i64 i_ts 0
    refine Wx.rd (v := .int .i64 (ix 0 ts 0)) (rd_loadXa (d := 0) (f := (Value.int .i64)) (j := 0) hS 1 rfl rfl (by omega) (by omega) (by omega) Tryz.isAgg3) rfl ?_
    refine Wx.rd (v := .bool (decide ((2 * i) < (ix 0 ts 0)))) (rd_lss rfl rfl) rfl ?_
    refine Wx.nil ?_
    refine W.condD rfl (fun c1 => ?_) (fun c1 => ?_)
    · -- yes
      have hp0 := tp (2 * i) (by omega) (by omega)
      have hp1 := tp (2 * i + 1) (by omega) (by omega)
      have hll := g2.1
      have hq0 : tpF ts (2 * i) = ix 0 ts (17 + 2 * i) := rfl
      have hq1 : tpF ts (2 * i + 1) = ix 0 ts (17 + (2 * i + 1)) := rfl
      refine W.skip ?_
      refine W.seq ?_
      refine W.block ?_
      refine W.seq ?_
      refine W.regQ mixedGd_ (by kernel_rfl) ?_
      refine Wx.rd (v := .int .i64 (2 * i)) (rd_move rfl) rfl ?_
      refine Wx.rd (v := .pointer (some ⟨g_1, 0 + 17, none⟩)) (rd_fieldAddr (o := 0) rfl foGd_123_2) rfl ?_
      refine Wx.rd (v := .pointer (some ⟨g_1, 0 + 17 + (2 * i).toNat * 1, none⟩)) (rd_indexArr rfl rfl Tryz.underlying121 Tryz.sizeOf3 (by omega) (by omega)) rfl ?_
      have bz_18 := ix_i64 i_ts (17 + (2 * i))
      refine Wx.rd (v := .int .i64 (ix 0 ts (17 + (2 * i)))) (rd_loadXa (d := 0) (f := (Value.int .i64)) (j := 17 + (2 * i)) hS 1 rfl rfl (by omega) (by omega) (by omega) Tryz.isAgg3) rfl ?_
      refine Wx.rd (v := .pointer (some ⟨g_5, 0 + (ix 0 ts (17 + (2 * i))).toNat * 1, none⟩)) (rd_indexArr rfl rfl Tryz.underlying121 Tryz.sizeOf3 (by omega) (by omega)) rfl ?_
      refine Wx.rd (v := .int .i64 (ix 0 lab2 (ix 0 ts (17 + (2 * i))))) (rd_loadXa (d := 0) (f := (Value.int .i64)) (j := (ix 0 ts (17 + (2 * i)))) hS 0 rfl rfl (by omega) (by omega) (by omega) Tryz.isAgg3) rfl ?_
      refine Wx.rd (v := .int .i64 (2 * i)) (rd_move rfl) rfl ?_
      refine Wx.rd (v := .int .i64 ((2 * i) + 1)) (rd_add rfl rfl (in_i64 (by omega) (by omega))) rfl ?_
      refine Wx.rd (v := .pointer (some ⟨g_1, 0 + 17, none⟩)) (rd_fieldAddr (o := 0) rfl foGd_123_2) rfl ?_
      refine Wx.rd (v := .pointer (some ⟨g_1, 0 + 17 + ((2 * i) + 1).toNat * 1, none⟩)) (rd_indexArr rfl rfl Tryz.underlying121 Tryz.sizeOf3 (by omega) (by omega)) rfl ?_
      have bz_19 := ix_i64 i_ts (17 + ((2 * i) + 1))
      refine Wx.rd (v := .int .i64 (ix 0 ts (17 + ((2 * i) + 1)))) (rd_loadXa (d := 0) (f := (Value.int .i64)) (j := 17 + ((2 * i) + 1)) hS 1 rfl rfl (by omega) (by omega) (by omega) Tryz.isAgg3) rfl ?_
      refine Wx.rd (v := .pointer (some ⟨g_5, 0 + (ix 0 ts (17 + ((2 * i) + 1))).toNat * 1, none⟩)) (rd_indexArr rfl rfl Tryz.underlying121 Tryz.sizeOf3 (by omega) (by omega)) rfl ?_
      refine Wx.rd (v := .int .i64 (ix 0 lab2 (ix 0 ts (17 + ((2 * i) + 1))))) (rd_loadXa (d := 0) (f := (Value.int .i64)) (j := (ix 0 ts (17 + ((2 * i) + 1)))) hS 0 rfl rfl (by omega) (by omega) (by omega) Tryz.isAgg3) rfl ?_
      refine Wx.rd (v := .int .i64 (ix 0 lab2 (ix 0 ts (17 + (2 * i))))) (rd_assign rfl) rfl ?_
      refine Wx.rd (v := .int .i64 (ix 0 lab2 (ix 0 ts (17 + ((2 * i) + 1))))) (rd_assign rfl) rfl ?_
      refine Wx.nilQ (fun w_20 hx_21 => ?_)
      have hS := hS.ext hx_21
      refine W.seq ?_
      refine W.seq ?_
      refine W.reg ?_
      refine Wx.rd (v := .int .i64 (ix 0 lab2 (ix 0 ts (17 + (2 * i))))) (rd_move rfl) rfl ?_
      refine Wx.rd (v := .int .i64 (ix 0 lab2 (ix 0 ts (17 + ((2 * i) + 1))))) (rd_move rfl) rfl ?_
      refine Wx.rd (v := .bool (decide ((ix 0 lab2 (ix 0 ts (17 + (2 * i)))) = (ix 0 lab2 (ix 0 ts (17 + ((2 * i) + 1))))))) (rd_eql rfl rfl) rfl ?_
      refine Wx.nil ?_
      refine W.condD rfl (fun c2 => ?_) (fun c2 => ?_)
      · -- yes
        refine W.exit rfl ?_
        refine W.reg ?_
        refine Wx.rd (v := .int .i64 (2 * i)) (rd_move rfl) rfl ?_
        refine Wx.rd (v := .int .i64 (2 * (i + 1))) (Rd.to (v := .int .i64 ((2 * i) + 2)) (rd_add rfl rfl (in_i64 (by omega) (by omega))) (congrArg (Value.int .i64) (show (2 * (i + 1) : Int) = ((2 * i) + 2 : Int) from (by omega)).symm)) rfl ?_
        refine Wx.rd (v := .int .i64 (2 * (i + 1))) (rd_assign rfl) rfl ?_
        refine Wx.nil ?_
        refine ⟨(n, lab2, (i + 1)), (by show (teN ts - 2 * (i + 1)).toNat < (teN ts - 2 * i).toNat; omega), ?_, ?_, Out.look rfl Out.self⟩
        · exact ⟨hS, (by first | omega | assumption), (by first | omega | assumption), (lb_skip p_ok g2 g0 (by omega) c2), (by first | omega | assumption), (by first | omega | assumption)⟩
        · exact ⟨rfl, rfl, trivial⟩
      · -- no
        refine W.skip ?_
        refine W.seq ?_
        refine W.reg ?_
        refine Wx.rd (v := .int .i64 n) (rd_move rfl) rfl ?_
        refine Wx.rd (v := .int .i64 (n - 1)) (rd_sub rfl rfl (in_i64 (by omega) (by omega))) rfl ?_
        refine Wx.rd (v := .int .i64 (n - 1)) (rd_assign rfl) rfl ?_
        refine Wx.nil ?_
        refine W.seq ?_
        refine W.reg ?_
        refine Wx.rd (v := .pointer (some ⟨g_1, 0 + 33, none⟩)) (rd_fieldAddr (o := 0) rfl foGd_123_3) rfl ?_
        have bz_22 := ix_i64 i_ts 33
        refine Wx.rd (v := .int .i64 (ix 0 ts 33)) (rd_loadXa (d := 0) (f := (Value.int .i64)) (j := 33) hS 1 rfl rfl (by omega) (by omega) (by omega) Tryz.isAgg3) rfl ?_
        refine Wx.rd (v := .slice (some ⟨g_5, 0, none⟩) (ix 0 ts 33).toNat 16) (rd_sliceArrH (m := 16) Tryz.underlying121 Tryz.sizeOf3 rfl rfl (by omega) (by omega)) rfl ?_
        refine Wx.rd (v := .int .i64 (((ix 0 ts 33).toNat : Nat) : Int)) (rd_len rfl Tryz.underlying25) rfl ?_
        refine Wx.rd (v := .int .i64 0) (rd_move rfl) rfl ?_
        refine Wx.nil ?_
        refine W.block ?_
        refine W.loop [9, 10, 50, 51, 52, 53, 54, 55, 56, 57, 58, 59, 60, 61] (fun x : Int × (List Int) => match x with | (z, lab3) => [(50, .int .i64 z)]) (fun (x : Int × (List Int)) w' => match x with | (z, lab3) => St w [] w' [.box g_5 121 (List.map (Value.int .i64) lab3), .box g_1 123 (List.map (Value.int .i64) ts)] ∧ 0 ≤ z ∧ z ≤ tnN ts ∧ RelI lab2 lab3 (ix 0 lab2 (tpF ts (2 * i))) (ix 0 lab2 (tpF ts (2 * i + 1))) z) (fun x : Int × (List Int) => match x with | (z, lab3) => (tnN ts - z).toNat) (0, lab2) ⟨rfl, trivial⟩ ⟨hS, (by first | omega | simp), (by first | omega | simp), (rel_start)⟩ ?_
        rintro ⟨z, lab3⟩ u_24 w_23 ⟨hS, k0, k1, k2⟩
        refine W.seq ?_
        refine W.reg ?_
        refine Wx.rd (v := .bool (decide (z < (((ix 0 ts 33).toNat : Nat) : Int)))) (rd_lss rfl rfl) rfl ?_
        refine Wx.nil ?_
        refine W.seq ?_
        refine W.condD rfl (fun c3 => ?_) (fun c3 => ?_)
        · -- yes
          have hll2 := k2.1
          refine W.skip ?_
          refine W.seq ?_
          refine W.block ?_
          refine W.seq ?_
          refine W.reg ?_
          refine Wx.rd (v := .int .i64 z) (rd_move rfl) rfl ?_
          refine Wx.rd (v := .pointer (some ⟨g_5, z.toNat, none⟩)) (rd_indexM rfl rfl Tryz.underlying25 Tryz.sizeOf3 (by first | omega | (simp only [List.length_set, List.length_append, List.length_cons, List.length_nil, List.length_replicate]; omega)) (by first | omega | (simp only [List.length_set, List.length_append, List.length_cons, List.length_nil, List.length_replicate]; omega))) rfl ?_
          refine Wx.rd (v := .int .i64 (ix 0 lab3 z)) (rd_loadXa (d := 0) (f := (Value.int .i64)) (j := z) hS 0 rfl rfl (by omega) (by omega) (by omega) Tryz.isAgg3) rfl ?_
          refine Wx.rd (v := .int .i64 z) (rd_assign rfl) rfl ?_
          refine Wx.rd (v := .int .i64 (ix 0 lab3 z)) (rd_assign rfl) rfl ?_
          refine Wx.nil ?_
          refine W.seq ?_
          refine W.reg ?_
          refine Wx.rd (v := .int .i64 (ix 0 lab3 z)) (rd_move rfl) rfl ?_
          refine Wx.rd (v := .int .i64 (ix 0 lab2 (ix 0 ts (17 + (2 * i))))) (rd_move rfl) rfl ?_
          refine Wx.rd (v := .bool (decide ((ix 0 lab3 z) = (ix 0 lab2 (ix 0 ts (17 + (2 * i))))))) (rd_eql rfl rfl) rfl ?_
          refine Wx.nil ?_
          refine W.condD rfl (fun c4 => ?_) (fun c4 => ?_)
          · -- yes
            refine W.reg ?_
            refine Wx.rd (v := .int .i64 z) (rd_move rfl) rfl ?_
            refine Wx.rd (v := .int .i64 (ix 0 lab2 (ix 0 ts (17 + ((2 * i) + 1))))) (rd_move rfl) rfl ?_
            refine Wx.rd (v := .pointer (some ⟨g_5, 0 + z.toNat * 1, none⟩)) (rd_indexArr rfl rfl Tryz.underlying121 Tryz.sizeOf3 (by omega) (by omega)) rfl ?_
            refine Wx.storeXa (j := z) (f := (Value.int .i64)) (u := (ix 0 lab2 (ix 0 ts (17 + ((2 * i) + 1))))) hS 0 rfl rfl (by omega) rfl rfl rfl Tryz.sizeOf3 (by omega) (by omega) (fun w_25 hz_26 hS => ?_)
            refine Wx.nil ?_
            refine W.reg ?_
            refine Wx.rd (v := .int .i64 (z + 1)) (rd_add rfl rfl (in_i64 (by omega) (by omega))) rfl ?_
            refine Wx.rd (v := .int .i64 (z + 1)) (rd_move rfl) rfl ?_
            refine Wx.nil ?_
            refine ⟨(z + 1, List.set lab3 z.toNat (ix 0 lab2 (ix 0 ts (17 + ((2 * i) + 1))))), (by show (tnN ts - (z + 1)).toNat < (tnN ts - z).toNat; omega), ?_, ?_, Out.look rfl Out.self⟩
            · exact ⟨hS, (by first | omega | assumption), (by first | omega | assumption), (rel_hit k2 k0 (by omega) c4)⟩
            · exact ⟨rfl, trivial⟩
          · -- no
            refine W.skip ?_
            refine W.reg ?_
            refine Wx.rd (v := .int .i64 (z + 1)) (rd_add rfl rfl (in_i64 (by omega) (by omega))) rfl ?_
            refine Wx.rd (v := .int .i64 (z + 1)) (rd_move rfl) rfl ?_
            refine Wx.nil ?_
            refine ⟨(z + 1, lab3), (by show (tnN ts - (z + 1)).toNat < (tnN ts - z).toNat; omega), ?_, ?_, Out.look rfl Out.self⟩
            · exact ⟨hS, (by first | omega | assumption), (by first | omega | assumption), (rel_miss k2 k0 (by omega) c4)⟩
            · exact ⟨rfl, trivial⟩
        · -- no
          refine W.exit rfl ?_
          refine W.reg ?_
          refine Wx.rd (v := .int .i64 (2 * i)) (rd_move rfl) rfl ?_
          refine Wx.rd (v := .int .i64 (2 * (i + 1))) (Rd.to (v := .int .i64 ((2 * i) + 2)) (rd_add rfl rfl (in_i64 (by omega) (by omega))) (congrArg (Value.int .i64) (show (2 * (i + 1) : Int) = ((2 * i) + 2 : Int) from (by omega)).symm)) rfl ?_
          refine Wx.rd (v := .int .i64 (2 * (i + 1))) (rd_assign rfl) rfl ?_
          refine Wx.nil ?_
          refine ⟨(n - 1, lab3, (i + 1)), (by show (teN ts - 2 * (i + 1)).toNat < (teN ts - 2 * i).toNat; omega), ?_, ?_, Out.look rfl (Out.hav rfl (Out.look rfl Out.self))⟩
          · exact ⟨hS, (by first | omega | assumption), (by first | omega | assumption), (lb_take p_ok g2 g0 (by omega) c2 k2 (by omega)), (by first | omega | assumption), (by first | omega | assumption)⟩
          · exact ⟨rfl, rfl, trivial⟩
    · -- no
      refine W.exit rfl ?_
      refine W.seq ?_
      refine W.reg ?_
      refine Wx.rd (v := .int .i64 n) (rd_move rfl) rfl ?_
      refine Wx.rd (v := .int .i64 n) (rd_assign rfl) rfl ?_
      refine Wx.nil ?_
      have e0_0 : (partT ts) = (n : Int) := by exact (lb_end p_ok g2 g0 (by omega)).symm
      exact W.ret ⟨.int .i64 n, ResIs.one, hS.bel, (by rw [e0_0])⟩
end Go.Proofs.YtlibemgaepkceaaGreatDoor

namespace Go.Proofs.YtlibemgaepkceaaGreatDoor
open Go.Wk Go.RowKit Go.Lib
set_option linter.unusedVariables false
set_option linter.unusedSimpArgs false
theorem foGi_123_0 : fldOff Tryz.prog 123 0 = some 0 := by kernel_rfl
theorem elGi_25 : ElemI Tryz.prog 25 3 (.int .i64 0) 1 8 := ElemI.of Tryz.underlying25 (by kernel_rfl) (by first | rfl | kernel_rfl) (by decide)
theorem elGi_24 : ElemI Tryz.prog 24 25 ((.slice none 0 0)) 1 24 := ElemI.of Tryz.underlying24 (by kernel_rfl) (by first | rfl | kernel_rfl) (by decide)

set_option maxHeartbeats 4000000 in
theorem FCb {ts : List Int} {O : List (Option Nat)} {w : World} (n_ts : ts.length = 34) (i_ts : ∀ z ∈ ts, InK .i64 z) (n_ts : ts.length = 34) (i_ts : ∀ z ∈ ts, InK .i64 z) (p_ok : TblOK ts) (p_p : permB (teN ts) (alngF ts) = true) (hO : ∀ b, some b ∈ O → b < w.heap.size) (hG : Laid w) : Calls Tryz.prog 81 #[.agg (List.map (Value.int .i64) ts).toArray, .func (.func 82) #[.agg (List.map (Value.int .i64) ts).toArray] #[]] w (Ret w (fun r w' => ∃ rv, r = rv ∧ FreshO (tSl (tI .i64)) 25 (cycV (teN ts) (alngF ts)) rv O w.heap.size w')) := by
  obtain ⟨tl, tn, ⟨te, te2⟩, tp⟩ := id p_ok
  have he_ : teN ts = ix 0 ts 0 := rfl
  have hS := St.start w O hO
  refine enterR Tryz.func81 rfl Tryz.ntmps81 Tryz.results81 rfl ?_
  refine W.seq ?_
  refine W.reg ?_
  refine Wx.box (cs := List.map (Value.int .i64) ts) hS rfl rfl rfl (fun g_1 w_2 hx_4 hb_3 hS => ?_)
  refine Wx.rd (v := (.slice none 0 0)) (rd_assign rfl) rfl ?_
  refine Wx.nil ?_
  refine W.seq ?_
  refine W.reg ?_
  refine Wx.rd (v := (.slice none 0 0)) (rd_assign rfl) rfl ?_
  refine Wx.nil ?_
  refine W.seq ?_
  refine W.reg ?_
  refine Wx.alloc (cs := List.map Value.bool (List.replicate 16 false)) hS Tryz.zeroValue133 (by kernel_rfl) rfl (fun g_5 w_6 hx_8 hb_7 hS => ?_)
  have hS : St _ _ w_6 [.box g_5 133 (List.map Value.bool (List.replicate 16 false)), .box g_1 123 (List.map (Value.int .i64) ts)] := hS
  refine Wx.nil ?_
  refine W.seq ?_
  refine W.seq ?_
  refine W.reg ?_
  refine Wx.rd (v := .pointer (some ⟨g_1, 0 + 0, none⟩)) (rd_fieldAddr (o := 0) rfl foGi_123_0) rfl ?_
  have bz_9 := ix_i64 i_ts 0
  refine Wx.rd (v := .int .i64 (ix 0 ts 0)) (rd_loadXa (d := 0) (f := (Value.int .i64)) (j := 0) hS 1 rfl rfl (by omega) (by omega) (by omega) Tryz.isAgg3) rfl ?_
  refine Wx.rd (v := .int .i64 0) (rd_move rfl) rfl ?_
  refine Wx.nil ?_
  refine W.block ?_
  have hS := hS.addNil (tSl (tI .i64)) 25
  refine W.loop [5, 7, 8, 9, 12, 13, 14, 15, 16, 17, 18, 19, 20, 21, 22, 23, 24, 25, 26, 27, 28, 29, 30, 31, 32, 33, 34, 35] (fun x : Int × Value × (List (List Int)) × (List Bool) => match x with | (k, ov, out, met) => [(12, .int .i64 k), (5, ov)]) (fun (x : Int × Value × (List (List Int)) × (List Bool)) w' => match x with | (k, ov, out, met) => St w O w' [.row (tSl (tI .i64)) 25 ov out, .box g_5 133 (List.map Value.bool met), .box g_1 123 (List.map (Value.int .i64) ts)] ∧ 0 ≤ k ∧ k ≤ teN ts ∧ out = (rng 0 k).foldl (cycS (alngF ts)) [] ∧ MetB out met ∧ (out.length : Int) ≤ k) (fun x : Int × Value × (List (List Int)) × (List Bool) => match x with | (k, ov, out, met) => (teN ts - k).toNat) (0, (.slice none 0 0), [], (List.replicate 16 false)) ⟨rfl, rfl, trivial⟩ ⟨hS, (by first | omega | simp), (by first | omega | simp), (rfl), (met0), (by decide)⟩ ?_
  rintro ⟨k, ov, out, met⟩ u_11 w_10 ⟨hS, h0, h1, h2, h3, h4⟩
  refine W.seq ?_
  refine W.reg ?_
  refine Wx.rd (v := .bool (decide (k < (ix 0 ts 0)))) (rd_lss rfl rfl) rfl ?_
  refine Wx.nil ?_
  refine W.seq ?_
  refine W.condD rfl (fun c0 => ?_) (fun c0 => ?_)
  · -- yes
    have hml := h3.1
    have hkr : 0 ≤ k ∧ k < teN ts := ⟨h0, by omega⟩
    refine W.skip ?_
    refine W.seq ?_
    refine W.block ?_
    refine W.seq ?_
    refine W.reg ?_
    refine Wx.rd (v := .int .i64 k) (rd_move rfl) rfl ?_
    refine Wx.rd (v := .int .i64 k) (rd_assign rfl) rfl ?_
    refine Wx.nil ?_
    refine W.scopeL 0 [8, 9, 15, 16, 17, 18, 19, 20, 21, 22, 23, 24, 25, 26, 27, 28, 29, 30, 31, 32, 33, 34] (fun x : Int × Value × (List Int) × (List Bool) × Nat => match x with | (e, lv, l, met2, j) => [(9, .int .i64 e), (8, lv)]) (fun (x : Int × Value × (List Int) × (List Bool) × Nat) w' => match x with | (e, lv, l, met2, j) => St w O w' [.row (tI .i64) 3 lv l, .row (tSl (tI .i64)) 25 ov out, .box g_5 133 (List.map Value.bool met2), .box g_1 123 (List.map (Value.int .i64) ts)] ∧ CyI (alngF ts) k out j l e met2 ∧ met.getD k.toNat false = false) (fun x : Int × Value × (List Int) × (List Bool) × Nat => match x with | (e, lv, l, met2, j) => perF (alngF ts) k - j) rfl ?_ ?_
    · -- from the label on
      rintro ⟨e, lv, l, met2, j⟩ u_13 w_12 ⟨hS, y2, y5⟩
      have her := cy_rng p_p hkr y2
      have hml2 := y2.2.2.1
      have hll := cy_len y2
      have hjb := cy_bd p_p hkr y2
      refine WJ.seqJ ?_
      refine WJ.of ?_
      refine W.reg ?_
      refine Wx.rd (v := .int .i64 e) (rd_move rfl) rfl ?_
      refine Wx.rd (v := .pointer (some ⟨g_5, 0 + e.toNat * 1, none⟩)) (rd_indexArr rfl rfl Tryz.underlying133 Tryz.sizeOf4 (by omega) (by omega)) rfl ?_
      refine Wx.storeXa (j := e) (f := Value.bool) (u := true) hS 2 rfl rfl (by omega) rfl rfl rfl Tryz.sizeOf4 (by omega) (by omega) (fun w_14 hz_15 hS => ?_)
      refine Wx.nil ?_
      refine WJ.seqJ ?_
      refine WJ.of ?_
      refine W.reg ?_
      refine Wx.rd (v := lv) (rd_move rfl) rfl ?_
      refine Wx.rd (v := .int .i64 e) (rd_move rfl) rfl ?_
      refine Wx.lit (t := (tI .i64)) (ys := [e]) (vs := [.int .i64 e]) elGi_25 hS rfl rfl ⟨(V.mkInt (in_i64 (by omega) (by omega))), trivial⟩ (by decide) rfl (fun v_16 w_17 hx_18 hS => ?_)
      refine Wx.append elGi_25 hS 1 rfl rfl rfl (Src.ofR hS 0 rfl) (by simp only [maxLen]; first | omega | (simp; omega) | simp) (by first | omega | (simp; omega) | simp) rfl (fun v_19 w_20 hz_21 hS => ?_)
      refine Wx.rd (v := v_19) (rd_assign rfl) rfl ?_
      refine Wx.nil ?_
      refine WJ.seqJ ?_
      refine WJ.seqJ ?_
      refine WJ.of ?_
      refine W.reg ?_
      refine Wx.rd (v := .func (.func 82) #[.agg (List.map (Value.int .i64) ts).toArray] #[]) (rd_move rfl) rfl ?_
      refine Wx.rd (v := .int .i64 e) (rd_move rfl) rfl ?_
      refine Wx.callF (run_callC (fs := [.agg (List.map (Value.int .i64) ts).toArray]) (cs := []) (vs := [.agg (List.map (Value.int .i64) ts).toArray, .int .i64 e]) Tryz.call82 rfl rfl) (F82 n_ts i_ts (in_i64 (by omega) (by omega)) ⟨by omega, by omega⟩ (hG.ext hS.bel)) rfl ?_
      rintro r_22 w_23 hx_24 rfl
      have hS := hS.ext hx_24
      refine Wx.rd (v := .int .i64 (alngF ts e)) (rd_assign rfl) rfl ?_
      refine Wx.nil ?_
      refine WJ.seqJ ?_
      refine WJ.of ?_
      refine W.reg ?_
      refine Wx.rd (v := .int .i64 (alngF ts e)) (rd_move rfl) rfl ?_
      refine Wx.rd (v := .int .i64 k) (rd_move rfl) rfl ?_
      refine Wx.rd (v := .bool (decide ((alngF ts e) ≠ k))) (rd_neq rfl rfl) rfl ?_
      refine Wx.nil ?_
      refine WJ.condD rfl (fun c1 => ?_) (fun c1 => ?_)
      · -- yes
        refine WJ.goto ?_
        refine ⟨(alngF ts e, v_19, l ++ [e], List.set met2 e.toNat true, j + 1), (by show perF (alngF ts) k - (j + 1) < perF (alngF ts) k - j; have := y2.2.1; omega), ?_, ?_, Out.look rfl Out.self⟩
        · exact ⟨hS.tl, (cy_next p_p hkr (by omega) y2 c1), (y5)⟩
        · exact ⟨rfl, rfl, trivial⟩
      · -- no
        refine WJ.skip ?_
        refine WJ.of ?_
        refine W.reg ?_
        refine Wx.rd (v := ov) (rd_move rfl) rfl ?_
        refine Wx.rd (v := v_19) (rd_move rfl) rfl ?_
        have hS := hS.freeze 1 rfl
        refine Wx.lit (t := (tSl (tI .i64))) (ys := [l ++ [e]]) (vs := [v_19]) elGi_24 hS rfl rfl ⟨(hS.v 0 rfl), trivial⟩ (by decide) rfl (fun v_26 w_27 hx_28 hS => ?_)
        refine Wx.append elGi_24 hS 3 rfl rfl rfl (Src.ofR hS 0 rfl) (by simp only [maxLen]; first | omega | (simp; omega) | simp) (by first | omega | (simp; omega) | simp) rfl (fun v_29 w_30 hz_31 hS => ?_)
        refine Wx.rd (v := v_29) (rd_assign rfl) rfl ?_
        refine Wx.nil ?_
        refine W.reg ?_
        refine Wx.rd (v := .int .i64 (k + 1)) (rd_add rfl rfl (in_i64 (by omega) (by omega))) rfl ?_
        refine Wx.rd (v := .int .i64 (k + 1)) (rd_move rfl) rfl ?_
        refine Wx.nil ?_
        refine ⟨(k + 1, v_29, out ++ [l ++ [e]], List.set met2 e.toNat true), (by show (teN ts - (k + 1)).toNat < (teN ts - k).toNat; omega), ?_, ?_, Out.look rfl (Out.hav rfl (Out.look rfl Out.self))⟩
        · exact ⟨St.tl (St.tl (hS.tl)), (by first | omega | assumption), (by first | omega | assumption), (by rw [(cy_end p_p hkr (by omega) y2 (Decidable.not_not.1 c1)).1]; exact cyc_take h0 h2 h3 (by omega) y5), ((cy_end p_p hkr (by omega) y2 (Decidable.not_not.1 c1)).2), (by simp only [List.length_append, List.length_cons, List.length_nil]; omega)⟩
        · exact ⟨rfl, rfl, trivial⟩
    · -- up to the label
      intro K hK hB
      refine WJ.seqJ ?_
      refine WJ.of ?_
      refine W.seq ?_
      refine W.reg ?_
      refine Wx.rd (v := .int .i64 k) (rd_move rfl) rfl ?_
      refine Wx.rd (v := .pointer (some ⟨g_5, 0 + k.toNat * 1, none⟩)) (rd_indexArr rfl rfl Tryz.underlying133 Tryz.sizeOf4 (by omega) (by omega)) rfl ?_
      refine Wx.rd (v := .bool (ix false met k)) (rd_loadXa (d := false) (f := Value.bool) (j := k) hS 1 rfl rfl (by omega) (by omega) (by omega) Tryz.isAgg4) rfl ?_
      refine Wx.nil ?_
      refine W.cond rfl (fun c2 => ?_) (fun c2 => ?_)
      · -- yes
        try simp only [Bool.and_eq_true, Bool.or_eq_true, Bool.not_eq_true', Bool.and_eq_false_iff, Bool.or_eq_false_iff, Bool.not_eq_false', decide_eq_true_eq, decide_eq_false_iff_not, not_or, Bool.false_eq_true, Bool.true_eq_false, false_or, or_false, not_false_eq_true] at c2
        refine W.exit rfl ?_
        refine W.reg ?_
        refine Wx.rd (v := .int .i64 (k + 1)) (rd_add rfl rfl (in_i64 (by omega) (by omega))) rfl ?_
        refine Wx.rd (v := .int .i64 (k + 1)) (rd_move rfl) rfl ?_
        refine Wx.nil ?_
        refine ⟨(k + 1, ov, out, met), (by show (teN ts - (k + 1)).toNat < (teN ts - k).toNat; omega), ?_, ?_, Out.look rfl (Out.look rfl Out.self)⟩
        · exact ⟨hS, (by first | omega | assumption), (by first | omega | assumption), ((cyc_skip h0 h2 h3 (by omega) c2).1), (h3), (by first | omega | assumption)⟩
        · exact ⟨rfl, rfl, trivial⟩
      · -- no
        try simp only [Bool.and_eq_true, Bool.or_eq_true, Bool.not_eq_true', Bool.and_eq_false_iff, Bool.or_eq_false_iff, Bool.not_eq_false', decide_eq_true_eq, decide_eq_false_iff_not, not_or, Bool.false_eq_true, Bool.true_eq_false, false_or, or_false, not_false_eq_true] at c2
        refine W.skip ?_
        refine WJ.seqJ ?_
        refine WJ.of ?_
        refine W.reg ?_
        refine Wx.rd (v := (.slice none 0 0)) (rd_assign rfl) rfl ?_
        refine Wx.nil ?_
        refine WJ.seqJ ?_
        refine WJ.of ?_
        refine W.reg ?_
        refine Wx.rd (v := .int .i64 k) (rd_move rfl) rfl ?_
        refine Wx.rd (v := .int .i64 k) (rd_assign rfl) rfl ?_
        refine Wx.nil ?_
        refine WJ.seq (W.label ?_)
        have hS := hS.addNil (tI .i64) 3
        refine hB _ _ (hK _ _ ?_)
        refine ⟨(k, (.slice none 0 0), [], met, 0), ?_, ?_, Out.look rfl Out.refl⟩
        · exact ⟨hS, (cy_start p_p hkr h3), (c2)⟩
        · exact ⟨rfl, rfl, trivial⟩
  · -- no
    refine W.exit rfl ?_
    refine W.seq ?_
    refine W.reg ?_
    refine Wx.rd (v := ov) (rd_move rfl) rfl ?_
    refine Wx.rd (v := ov) (rd_assign rfl) rfl ?_
    refine Wx.nil ?_
    have e0_0 : cycV (teN ts) (alngF ts) = out := by rw [h2, show k = teN ts by omega]; rfl
    exact W.ret ⟨ov, ResIs.one, hS.bel, ⟨ov, rfl, (by rw [e0_0]; exact (hS.frO 0 rfl))⟩⟩
end Go.Proofs.YtlibemgaepkceaaGreatDoor

namespace Go.Proofs.YtlibemgaepkceaaGreatDoor
open Go.Wk Go.RowKit Go.Lib
set_option linter.unusedVariables false
set_option linter.unusedSimpArgs false
theorem mixedGk_ : Tryz.prog.follows .mixedOrders = true := by kernel_rfl
theorem foGk_123_3 : fldOff Tryz.prog 123 3 = some 33 := by kernel_rfl
theorem foGk_123_0 : fldOff Tryz.prog 123 0 = some 0 := by kernel_rfl

set_option maxHeartbeats 1000000 in
theorem F68 {mv : Value} {ls : List (List Int)} {Fr_mv : List (Option Nat)} {w : World} (h_mv : V (tSl (tSl (tI .i64))) ls mv Fr_mv w) (p_ok : MapOK ls) (p_t : TblOK (tabV ls)) (p_p : permB (teN (tabV ls)) (alngF (tabV ls)) = true) (p_y : 0 ≤ partT (tabV ls) ∧ partT (tabV ls) ≤ 100) (p_z : 0 ≤ tnN (tabV ls) - teN (tabV ls) / 2 + (cycV (teN (tabV ls)) (alngF (tabV ls))).length) (hG : Laid w) : Calls Tryz.prog 68 #[.agg #[mv]] w (Ret w (fun r _ => r = .tuple #[.int .i64 (genT (tabV ls)), .int .i64 0])) := by
  have htv := tabV_len (ls := ls)
  obtain ⟨tl, tn, ⟨te, te2⟩, tp⟩ := id p_t
  have hcl := cycV_len te.1 (alngF (tabV ls))
  have he_ : teN (tabV ls) = ix 0 (tabV ls) 0 := rfl
  have hn_ : tnN (tabV ls) = ix 0 (tabV ls) 33 := rfl
  have a_mv := h_mv.any
  have l_mv := h_mv.len63
  have hS := St.start0 w
  refine enterR Tryz.func68 rfl Tryz.ntmps68 Tryz.results68 rfl ?_
  refine W.seq ?_
  refine W.reg ?_
  refine Wx.box (cs := [mv]) hS rfl rfl rfl (fun g_1 w_2 hx_4 hb_3 hS => ?_)
  refine Wx.rd (v := .int .i64 0) (rd_assign rfl) rfl ?_
  refine Wx.rd (v := .int .i64 0) (rd_assign rfl) rfl ?_
  refine Wx.nil ?_
  refine W.seq ?_
  refine W.reg ?_
  refine Wx.rd (v := .agg #[mv]) (rd_loadXs (ds := [mv]) hS 0 rfl rfl rfl rfl Tryz.isAgg104 Tryz.sizeOf104) rfl ?_
  refine Wx.callF (run_callF Tryz.call79 rfl) (F79 (hS.arg a_mv) p_ok) rfl ?_
  rintro r_5 w_6 hx_7 rfl
  have hS := hS.ext hx_7
  refine Wx.rd (v := .tuple #[.agg (List.map (Value.int .i64) (tabV ls)).toArray, .int .i64 0]) (rd_move rfl) rfl ?_
  refine Wx.rd (v := .agg (List.map (Value.int .i64) (tabV ls)).toArray) (rd_extract rfl rfl) rfl ?_
  refine Wx.rd (v := .int .i64 0) (rd_extract rfl rfl) rfl ?_
  refine Wx.alloc (cs := List.map (Value.int .i64) (List.replicate 34 (0 : Int))) hS Tryz.zeroValue123 (by kernel_rfl) rfl (fun g_8 w_9 hx_11 hb_10 hS => ?_)
  have hS : St _ _ w_9 [.box g_8 123 (List.map (Value.int .i64) (List.replicate 34 (0 : Int))), .box g_1 104 [mv]] := hS
  refine Wx.storeX (cs' := List.map (Value.int .i64) (tabV ls)) (ds := List.map (Value.int .i64) (tabV ls)) hS 0 rfl rfl rfl rfl (fun w' => by rw [List.length_map, show List.length (tabV ls) = 34 by first | omega | (simp; omega) | simp]; exact Tryz.sizeOf123 w') (by first | (simp; omega) | simp) (by intro u hu; obtain ⟨_, _, rfl⟩ := List.mem_map.1 hu; rfl) (by rw [List.take_zero, List.nil_append, List.drop_of_length_le (by first | (simp; omega) | simp), List.append_nil]) (fun w_12 hz_13 hS => ?_)
  refine Wx.rd (v := .int .i64 0) (rd_assign rfl) rfl ?_
  refine Wx.nil ?_
  refine W.seq ?_
  refine W.seq ?_
  refine W.reg ?_
  refine Wx.rd (v := .int .i64 0) (rd_move rfl) rfl ?_
  refine Wx.rd (v := .bool false) (Rd.to (v := .bool (decide ((0 : Int) ≠ 0))) (rd_neq rfl rfl) rfl) rfl ?_
  refine Wx.nil ?_
  refine W.condF rfl rfl ?_
  refine W.skip ?_
  refine W.seq ?_
  refine W.regH mixedGk_ (fun w_14 hx_15 => ?_)
  have h0 := hS
  have hS := (St.start _ _ h0.fb_lt).ext hx_15
  refine Wh.rd (v := .agg (List.map (Value.int .i64) (tabV ls)).toArray) 0 rfl (by kernel_rfl) hS.bel (rd_loadXs (ds := List.map (Value.int .i64) (tabV ls)) h0 0 rfl rfl (by rw [List.drop_zero, List.take_of_length_le (by simp; omega)]) (by simp; omega) Tryz.isAgg123 Tryz.sizeOf123) rfl ?_
  refine Wh.rd (v := .pointer (some ⟨g_8, 0 + 33, none⟩)) 2 rfl (by kernel_rfl) hS.bel (rd_fieldAddr (o := 0) rfl foGk_123_3) rfl ?_
  refine Wh.rd (v := .int .i64 (ix 0 (tabV ls) 33)) 3 rfl (by kernel_rfl) hS.bel (rd_loadXa (d := 0) (f := (Value.int .i64)) (j := 33) h0 0 rfl rfl (by omega) (by omega) (by omega) Tryz.isAgg3) rfl ?_
  refine Wh.rd (v := .pointer (some ⟨g_8, 0 + 0, none⟩)) 4 rfl (by kernel_rfl) hS.bel (rd_fieldAddr (o := 0) rfl foGk_123_0) rfl ?_
  refine Wh.rd (v := .int .i64 (ix 0 (tabV ls) 0)) 5 rfl (by kernel_rfl) hS.bel (rd_loadXa (d := 0) (f := (Value.int .i64)) (j := 0) h0 0 rfl rfl (by omega) (by omega) (by omega) Tryz.isAgg3) rfl ?_
  refine Wh.rd (v := .int .i64 ((ix 0 (tabV ls) 0) / 2)) 6 rfl (by kernel_rfl) hS.bel (rd_quo rfl rfl (by omega) (by omega) (in_i64 (by omega) (by omega))) rfl ?_
  refine Wh.rd (v := .int .i64 ((ix 0 (tabV ls) 33) - ((ix 0 (tabV ls) 0) / 2))) 7 rfl (by kernel_rfl) hS.bel (rd_sub rfl rfl (in_i64 (by omega) (by omega))) rfl ?_
  refine Wh.rd (v := .agg (List.map (Value.int .i64) (tabV ls)).toArray) 8 rfl (by kernel_rfl) hS.bel (rd_loadXs (ds := List.map (Value.int .i64) (tabV ls)) h0 0 rfl rfl (by rw [List.drop_zero, List.take_of_length_le (by simp; omega)]) (by simp; omega) Tryz.isAgg123 Tryz.sizeOf123) rfl ?_
  refine Wh.rd (v := .agg (List.map (Value.int .i64) (tabV ls)).toArray) 9 rfl (by kernel_rfl) hS.bel (rd_loadXs (ds := List.map (Value.int .i64) (tabV ls)) h0 0 rfl rfl (by rw [List.drop_zero, List.take_of_length_le (by simp; omega)]) (by simp; omega) Tryz.isAgg123 Tryz.sizeOf123) rfl ?_
  refine Wh.rd (v := .func (.func 82) #[.agg (List.map (Value.int .i64) (tabV ls)).toArray] #[]) 10 rfl (by kernel_rfl) hS.bel (rd_makeFunc (vs := [.agg (List.map (Value.int .i64) (tabV ls)).toArray]) (us := []) rfl rfl) rfl ?_
  refine Wh.br [1] (by kernel_rfl) (by decide) ⟨⟨_, rfl, ?_⟩, trivial⟩
  refine Wx.callF (run_callF Tryz.call80 rfl) (F80 htv (tab_in (ls := ls) p_ok) p_t) rfl ?_
  rintro r_16 w_17 hx_18 rfl
  have hS := hS.ext hx_18
  refine Wx.nil ⟨hS.bel, ?_⟩
  refine Wh.br [11] (by kernel_rfl) (by decide) ⟨⟨_, rfl, ?_⟩, trivial⟩
  refine Wx.callF (run_callF Tryz.call81 rfl) (FCb htv (tab_in (ls := ls) p_ok) htv (tab_in (ls := ls) p_ok) p_t p_p hS.fb_lt (hG.ext (Ext.trans h0.bel hS.bel))) rfl ?_
  rintro r_19 w_20 hx_21 ⟨_, rfl, hv_22⟩
  have hS := hS.pushFrO hx_21 hv_22
  refine Wx.nil ⟨hS.bel, ?_⟩
  refine Wh.br [12] (by kernel_rfl) (by decide) ⟨⟨_, rfl, ?_⟩, trivial⟩
  refine Wx.rd (v := .int .i64 ((cycV (teN (tabV ls)) (alngF (tabV ls))).length : Int)) (rd_lenR hS 0 rfl rfl Tryz.underlying24) rfl ?_
  refine Wx.nil ⟨hS.bel, ?_⟩
  refine Wh.rd (v := .int .i64 (((ix 0 (tabV ls) 33) - ((ix 0 (tabV ls) 0) / 2)) + ((cycV (teN (tabV ls)) (alngF (tabV ls))).length : Int))) 13 rfl (by kernel_rfl) hS.bel (rd_add rfl rfl (in_i64 (by omega) (by omega))) rfl ?_
  refine Wh.rd (v := .int .i64 ((((ix 0 (tabV ls) 33) - ((ix 0 (tabV ls) 0) / 2)) + ((cycV (teN (tabV ls)) (alngF (tabV ls))).length : Int)) / 2)) 14 rfl (by kernel_rfl) hS.bel (rd_quo rfl rfl (by omega) (by omega) (in_i64 (by omega) (by omega))) rfl ?_
  refine Wh.rd (v := .int .i64 ((partT (tabV ls)) - ((((ix 0 (tabV ls) 33) - ((ix 0 (tabV ls) 0) / 2)) + ((cycV (teN (tabV ls)) (alngF (tabV ls))).length : Int)) / 2))) 15 rfl (by kernel_rfl) hS.bel (rd_sub rfl rfl (in_i64 (by omega) (by omega))) rfl ?_
  refine Wh.rd (v := .int .i64 ((partT (tabV ls)) - ((((ix 0 (tabV ls) 33) - ((ix 0 (tabV ls) 0) / 2)) + ((cycV (teN (tabV ls)) (alngF (tabV ls))).length : Int)) / 2))) 16 rfl (by kernel_rfl) hS.bel (rd_assign rfl) rfl ?_
  refine Wh.rd (v := .int .i64 0) 17 rfl (by kernel_rfl) hS.bel (rd_assign rfl) rfl ?_
  refine Wh.done (by kernel_rfl) ?_
  have hS := h0.merge hS
  have e0_0 : (genT (tabV ls)) = ((partT (tabV ls)) - ((((ix 0 (tabV ls) 33) - ((ix 0 (tabV ls) 0) / 2)) + ((cycV (teN (tabV ls)) (alngF (tabV ls))).length : Int)) / 2) : Int) := by rfl
  exact W.ret ⟨.tuple #[.int .i64 ((partT (tabV ls)) - ((((ix 0 (tabV ls) 33) - ((ix 0 (tabV ls) 0) / 2)) + ((cycV (teN (tabV ls)) (alngF (tabV ls))).length : Int)) / 2)), .int .i64 0], ResIs.two, hS.bel, (by rw [e0_0])⟩
end Go.Proofs.YtlibemgaepkceaaGreatDoor

namespace Go.Proofs.YtlibemgaepkceaaGreatDoor
open Go.Wk Go.RowKit Go.Lib
set_option linter.unusedVariables false
set_option linter.unusedSimpArgs false
theorem elVe_25 : ElemI Tryz.prog 25 3 (.int .i64 0) 1 8 := ElemI.of Tryz.underlying25 (by kernel_rfl) (by first | rfl | kernel_rfl) (by decide)
theorem elVe_24 : ElemI Tryz.prog 24 25 ((.slice none 0 0)) 1 24 := ElemI.of Tryz.underlying24 (by kernel_rfl) (by first | rfl | kernel_rfl) (by decide)

set_option maxHeartbeats 2000000 in
theorem F52  {w : World} (hG : Laid w) : Calls Tryz.prog 52 #[] w (Ret w (fun r _ => r = .bool true)) := by
  have hS := St.start0 w
  refine enterR Tryz.func52 rfl Tryz.ntmps52 Tryz.results52 rfl ?_
  refine W.seq ?_
  refine W.reg ?_
  refine Wx.rd (v := .bool false) (rd_assign rfl) rfl ?_
  refine Wx.nil ?_
  refine W.seq ?_
  refine W.reg ?_
  refine Wx.lit (t := (tI .i64)) (ys := [0, 2, 1, 3]) (vs := [.int .i64 0, .int .i64 2, .int .i64 1, .int .i64 3]) elVe_25 hS rfl rfl ⟨(V.mkInt (in_i64 (by omega) (by omega))), ⟨(V.mkInt (in_i64 (by omega) (by omega))), ⟨(V.mkInt (in_i64 (by omega) (by omega))), ⟨(V.mkInt (in_i64 (by omega) (by omega))), trivial⟩⟩⟩⟩ (by decide) rfl (fun v_1 w_2 hx_3 hS => ?_)
  have hS := hS.freeze 0 rfl
  refine Wx.lit (t := (tSl (tI .i64))) (ys := [[0, 2, 1, 3]]) (vs := [v_1]) elVe_24 hS rfl rfl ⟨(hS.v 0 rfl), trivial⟩ (by decide) rfl (fun v_5 w_6 hx_7 hS => ?_)
  refine Wx.rd (v := .agg #[v_5]) (rd_buildC (vs := [(0, v_5)]) (us := [(0, .agg #[v_5])]) rfl (parts_cons (Go.Wk.cells_one (hS.rowOne 0 rfl)) parts_nil) (by kernel_rfl)) rfl ?_
  refine Wx.callF (run_callF Tryz.call68 rfl) (F68 (hS.lend 0 rfl) good_0.o good_0.t good_0.b gen_0.1 gen_0.2 (hG.ext hS.bel)) rfl ?_
  rintro r_8 w_9 hx_10 rfl
  have hS := hS.ext hx_10
  refine Wx.rd (v := .tuple #[.int .i64 (genT (tabV [[0, 2, 1, 3]])), .int .i64 0]) (rd_move rfl) rfl ?_
  refine Wx.rd (v := .int .i64 (genT (tabV [[0, 2, 1, 3]]))) (rd_extract rfl rfl) rfl ?_
  refine Wx.rd (v := .int .i64 0) (rd_extract rfl rfl) rfl ?_
  refine Wx.rd (v := .int .i64 (genT (tabV [[0, 2, 1, 3]]))) (rd_assign rfl) rfl ?_
  refine Wx.rd (v := .int .i64 0) (rd_assign rfl) rfl ?_
  refine Wx.nil ?_
  refine W.seq ?_
  refine W.reg ?_
  refine Wx.rd (v := .int .i64 0) (rd_move rfl) rfl ?_
  refine Wx.rd (v := .bool true) (Rd.to (v := .bool (decide ((0 : Int) = 0))) (rd_eql rfl rfl) rfl) rfl ?_
  refine Wx.rd (v := .bool true) (rd_move rfl) rfl ?_
  refine Wx.gyes rfl rfl rfl ?_
  refine Wx.rd (v := .int .i64 (genT (tabV [[0, 2, 1, 3]]))) (rd_move rfl) rfl ?_
  refine Wx.gyes rfl rfl rfl ?_
  refine Wx.rd (v := .bool true) (Rd.to (v := .bool (decide ((genT (tabV [[0, 2, 1, 3]])) = 1))) (rd_eql rfl rfl) (congrArg (Value.bool) (show (true : Bool) = (decide ((genT (tabV [[0, 2, 1, 3]])) = 1) : Bool) from (by decide +kernel)).symm)) rfl ?_
  refine Wx.rd (v := .bool true) (rd_pickT rfl rfl) rfl ?_
  refine Wx.rd (v := .bool true) (rd_move rfl) rfl ?_
  refine Wx.gyes rfl rfl rfl ?_
  refine Wx.callF (run_callF Tryz.call69 rfl) (F69 (hG.ext hS.bel)) rfl ?_
  rintro r_11 w_12 hx_13 rfl
  have hS := hS.ext hx_13
  refine Wx.rd (v := .bool true) (rd_pickT rfl rfl) rfl ?_
  refine Wx.rd (v := .bool true) (rd_assign rfl) rfl ?_
  refine Wx.nil ?_
  exact W.ret ⟨.bool true, ResIs.one, hS.bel, rfl⟩
end Go.Proofs.YtlibemgaepkceaaGreatDoor

namespace Go.Proofs.YtlibemgaepkceaaGreatDoor
open Go.Wk Go.RowKit Go.Lib
set_option linter.unusedVariables false
set_option linter.unusedSimpArgs false
theorem foLa_130_0 : fldOff Tryz.prog 130 0 = some 0 := by kernel_rfl
theorem elLa_25 : ElemI Tryz.prog 25 3 (.int .i64 0) 1 8 := ElemI.of Tryz.underlying25 (by kernel_rfl) (by first | rfl | kernel_rfl) (by decide)
theorem mixedLa_ : Tryz.prog.follows .mixedOrders = true := by kernel_rfl

theorem F89 {v : Value} {ys : List Int} {gb : Nat} {x : Int} {ob : List Ob} {w0 w : World} {O : List (Option Nat)} (i_x : InK .i64 x) (p_len : (ys.length : Int) ≤ 1000) (hS : St w0 O w (.row (tI .i64) 3 v ys :: .box gb 130 [v] :: ob)) : Calls Tryz.prog 89 #[.pointer (some ⟨gb, 0, none⟩), .int .i64 x] w (Bk fun r w' => r = .tuple #[] ∧ ∃ v', St w0 O w' (.row (tI .i64) 3 v' (ys ++ [x]) :: .box gb 130 [v'] :: ob)) := by
  have b_x := bd_i64 i_x
  refine enterB Tryz.func89 rfl Tryz.ntmps89 Tryz.results89 rfl ?_
  refine W.reg ?_
  refine Wx.rd (v := .pointer (some ⟨gb, 0, none⟩)) (rd_move rfl) rfl ?_
  refine Wx.rd (v := .pointer (some ⟨gb, 0, none⟩)) (rd_move rfl) rfl ?_
  refine Wx.rd (v := .pointer (some ⟨gb, 0, none⟩)) (rd_nilCheck rfl rfl) rfl ?_
  refine Wx.rd (v := .pointer (some ⟨gb, 0, none⟩)) (rd_fieldAddr rfl foLa_130_0) rfl ?_
  refine Wx.rd (v := v) (rd_loadX hS 1 rfl rfl rfl Tryz.isAgg25) rfl ?_
  refine Wx.rd (v := .int .i64 x) (rd_move rfl) rfl ?_
  refine Wx.lit (t := (tI .i64)) (ys := [x]) (vs := [.int .i64 x]) elLa_25 hS rfl rfl ⟨(V.mkInt (in_i64 (by omega) (by omega))), trivial⟩ (by decide) rfl (fun v_1 w_2 hx_3 hS => ?_)
  refine Wx.append elLa_25 hS 1 rfl rfl rfl (Src.ofR hS 0 rfl) (by simp only [maxLen]; first | omega | (simp; omega) | simp) (by first | omega | (simp; omega) | simp) rfl (fun v_4 w_5 hz_6 hS => ?_)
  refine Wx.rd (v := .pointer (some ⟨gb, 0, none⟩)) (rd_nilCheck rfl rfl) rfl ?_
  refine Wx.rd (v := .pointer (some ⟨gb, 0, none⟩)) (rd_fieldAddr rfl foLa_130_0) rfl ?_
  refine Wx.storeX (cs' := [v_4]) (ds := [v_4]) hS 2 rfl rfl rfl (Go.Wk.cells_one (hS.rowOne 1 rfl)) Tryz.sizeOf25 (Nat.le_of_ble_eq_true rfl) (one_cons (hS.rowOne 1 rfl) one_nil) rfl (fun w_7 hz_8 hS => ?_)
  refine Wx.nil ?_
  exact ⟨.tuple #[], ResIs.zero, rfl, _, (St.tl hS)⟩

theorem F87 {v : Value} {ys : List Int} {gb : Nat}  {ob : List Ob} {w0 w : World} {O : List (Option Nat)}  (hS : St w0 O w (.row (tI .i64) 3 v ys :: .box gb 130 [v] :: ob)) : Calls Tryz.prog 87 #[.pointer (some ⟨gb, 0, none⟩)] w (Bk fun r w' => r = .tuple #[.int .i64 (topB ys), .bool (decide (0 < ys.length))] ∧ St w0 O w' (.row (tI .i64) 3 v ys :: .box gb 130 [v] :: ob)) := by
  have hyl : (ys.length : Int) ≤ 9223372036854775807 := by have := hS.rowLen 0 rfl; simp only [maxLen] at this; omega
  refine enterB Tryz.func87 rfl Tryz.ntmps87 Tryz.results87 rfl ?_
  refine W.seq ?_
  refine W.reg ?_
  refine Wx.rd (v := .int .i64 0) (rd_assign rfl) rfl ?_
  refine Wx.rd (v := .bool false) (rd_assign rfl) rfl ?_
  refine Wx.nil ?_
  refine W.seq ?_
  refine W.seq ?_
  refine W.reg ?_
  refine Wx.rd (v := .pointer (some ⟨gb, 0, none⟩)) (rd_move rfl) rfl ?_
  refine Wx.rd (v := .pointer (some ⟨gb, 0, none⟩)) (rd_nilCheck rfl rfl) rfl ?_
  refine Wx.rd (v := .pointer (some ⟨gb, 0, none⟩)) (rd_fieldAddr rfl foLa_130_0) rfl ?_
  refine Wx.rd (v := v) (rd_loadX hS 1 rfl rfl rfl Tryz.isAgg25) rfl ?_
  refine Wx.rd (v := .int .i64 (ys.length : Int)) (rd_lenR hS 0 rfl rfl Tryz.underlying25) rfl ?_
  refine Wx.rd (v := .bool (decide ((ys.length : Int) = 0))) (rd_eql rfl rfl) rfl ?_
  refine Wx.nil ?_
  refine W.condD rfl (fun c0 => ?_) (fun c0 => ?_)
  · -- yes
    refine W.seq ?_
    refine W.reg ?_
    refine Wx.rd (v := .int .i64 0) (rd_move rfl) rfl ?_
    refine Wx.rd (v := .int .i64 0) (rd_assign rfl) rfl ?_
    refine Wx.rd (v := .bool false) (rd_assign rfl) rfl ?_
    refine Wx.nil ?_
    exact W.ret ⟨.tuple #[.int .i64 0, .bool false], ResIs.two, (by rw [topB, if_pos (by omega), decide_eq_false (by omega)]), hS⟩
  · -- no
    refine W.skip ?_
    refine W.seq ?_
    refine W.regQ mixedLa_ (by kernel_rfl) ?_
    refine Wx.rd (v := .pointer (some ⟨gb, 0, none⟩)) (rd_move rfl) rfl ?_
    refine Wx.rd (v := .pointer (some ⟨gb, 0, none⟩)) (rd_nilCheck rfl rfl) rfl ?_
    refine Wx.rd (v := .pointer (some ⟨gb, 0, none⟩)) (rd_fieldAddr rfl foLa_130_0) rfl ?_
    refine Wx.rd (v := v) (rd_loadX hS 1 rfl rfl rfl Tryz.isAgg25) rfl ?_
    refine Wx.rd (v := .pointer (some ⟨gb, 0, none⟩)) (rd_move rfl) rfl ?_
    refine Wx.rd (v := .pointer (some ⟨gb, 0, none⟩)) (rd_nilCheck rfl rfl) rfl ?_
    refine Wx.rd (v := .pointer (some ⟨gb, 0, none⟩)) (rd_fieldAddr rfl foLa_130_0) rfl ?_
    refine Wx.rd (v := v) (rd_loadX hS 1 rfl rfl rfl Tryz.isAgg25) rfl ?_
    refine Wx.rd (v := .int .i64 (ys.length : Int)) (rd_lenR hS 0 rfl rfl Tryz.underlying25) rfl ?_
    refine Wx.rd (v := .int .i64 ((ys.length : Int) - 1)) (rd_sub rfl rfl (in_i64 (by omega) (by omega))) rfl ?_
    refine Wx.indexR hS 0 rfl rfl rfl Tryz.underlying25 Tryz.sizeOf3 (by first | omega | (simp only [List.length_set, List.length_append, List.length_cons, List.length_nil, List.length_replicate]; omega)) (by first | omega | (simp only [List.length_set, List.length_append, List.length_cons, List.length_nil, List.length_replicate]; omega)) rfl (fun g_1 hg_2 => ?_)
    refine Wx.rd (v := .int .i64 (ix 0 ys ((ys.length : Int) - 1))) (rd_loadRI' hS 0 rfl hg_2 rfl (by first | omega | (simp only [List.length_set, List.length_append, List.length_cons, List.length_nil, List.length_replicate]; omega)) (by first | omega | (simp only [List.length_set, List.length_append, List.length_cons, List.length_nil, List.length_replicate]; omega)) Tryz.isAgg3 Tryz.sizeOf3) rfl ?_
    have bd_3 := bd_i64 (hS.rowInK' 0 rfl (by first | omega | (simp only [List.length_set, List.length_append, List.length_cons, List.length_nil, List.length_replicate]; omega)) (by first | omega | (simp only [List.length_set, List.length_append, List.length_cons, List.length_nil, List.length_replicate]; omega)) : InK .i64 (ix 0 ys ((ys.length : Int) - 1)))
    refine Wx.rd (v := .int .i64 (ix 0 ys ((ys.length : Int) - 1))) (rd_assign rfl) rfl ?_
    refine Wx.rd (v := .bool true) (rd_assign rfl) rfl ?_
    refine Wx.nilQ (fun w_4 hx_5 => ?_)
    have hS := hS.ext hx_5
    exact W.ret ⟨.tuple #[.int .i64 (ix 0 ys ((ys.length : Int) - 1)), .bool true], ResIs.two, (by rw [topB, if_neg (by omega), decide_eq_true (by omega)]), hS⟩

theorem F88 {v : Value} {ys : List Int} {gb : Nat}  {ob : List Ob} {w0 w : World} {O : List (Option Nat)} (p_ne : 0 < ys.length) (hS : St w0 O w (.row (tI .i64) 3 v ys :: .box gb 130 [v] :: ob)) : Calls Tryz.prog 88 #[.pointer (some ⟨gb, 0, none⟩)] w (Bk fun r w' => r = .tuple #[] ∧ ∃ v', St w0 O w' (.row (tI .i64) 3 v' (popB ys) :: .box gb 130 [v'] :: ob)) := by
  have hyl : (ys.length : Int) ≤ 9223372036854775807 := by have := hS.rowLen 0 rfl; simp only [maxLen] at this; omega
  refine enterB Tryz.func88 rfl Tryz.ntmps88 Tryz.results88 rfl ?_
  refine W.regT 14 mixedLa_ (by kernel_rfl) ?_
  obtain ⟨g_1, c_2, rfl, hc_3⟩ := hS.rowForm 0 rfl p_ne
  refine Wx.rd (v := .pointer (some ⟨gb, 0, none⟩)) (rd_move rfl) rfl ?_
  refine Wx.rd (v := .pointer (some ⟨gb, 0, none⟩)) (rd_move rfl) rfl ?_
  refine Wx.rd (v := .pointer (some ⟨gb, 0, none⟩)) (rd_nilCheck rfl rfl) rfl ?_
  refine Wx.rd (v := .pointer (some ⟨gb, 0, none⟩)) (rd_fieldAddr rfl foLa_130_0) rfl ?_
  refine Wx.rd (v := (.slice (some ⟨g_1, 0, none⟩) ys.length c_2)) (rd_loadX hS 1 rfl rfl rfl Tryz.isAgg25) rfl ?_
  refine Wx.rd (v := .pointer (some ⟨gb, 0, none⟩)) (rd_move rfl) rfl ?_
  refine Wx.rd (v := .pointer (some ⟨gb, 0, none⟩)) (rd_nilCheck rfl rfl) rfl ?_
  refine Wx.rd (v := .pointer (some ⟨gb, 0, none⟩)) (rd_fieldAddr rfl foLa_130_0) rfl ?_
  refine Wx.rd (v := (.slice (some ⟨g_1, 0, none⟩) ys.length c_2)) (rd_loadX hS 1 rfl rfl rfl Tryz.isAgg25) rfl ?_
  refine Wx.rd (v := .int .i64 (ys.length : Int)) (rd_lenR hS 0 rfl rfl Tryz.underlying25) rfl ?_
  refine Wx.rd (v := .int .i64 ((ys.length : Int) - 1)) (rd_sub rfl rfl (in_i64 (by omega) (by omega))) rfl ?_
  refine Wx.rd (v := (.slice (some ⟨g_1, 0, none⟩) ((ys.length : Int) - 1).toNat c_2)) (rd_headO Tryz.underlying25 Tryz.sizeOf3 rfl rfl (by omega) (by omega)) rfl ?_
  have hS : St _ _ _ (.row (tI .i64) 3 (.slice (some ⟨g_1, 0, none⟩) ((ys.length : Int) - 1).toNat c_2) (List.take ((ys.length : Int) - 1).toNat ys) :: .box gb 130 [(.slice (some ⟨g_1, 0, none⟩) ys.length c_2)] :: ob) := hS.shrink (m := ((ys.length : Int) - 1).toNat) 0 rfl (by omega)
  refine Wx.rd (v := .pointer (some ⟨gb, 0, none⟩)) (rd_nilCheck rfl rfl) rfl ?_
  refine Wx.rd (v := .pointer (some ⟨gb, 0, none⟩)) (rd_fieldAddr rfl foLa_130_0) rfl ?_
  refine Wx.nilQ (fun w_4 hx_5 => ?_)
  have hS := hS.ext hx_5
  refine Wx.storeX (cs' := [(.slice (some ⟨g_1, 0, none⟩) ((ys.length : Int) - 1).toNat c_2)]) (ds := [(.slice (some ⟨g_1, 0, none⟩) ((ys.length : Int) - 1).toNat c_2)]) hS 1 rfl rfl rfl (Go.Wk.cells_one (hS.rowOne 0 rfl)) Tryz.sizeOf25 (Nat.le_of_ble_eq_true rfl) (one_cons (hS.rowOne 0 rfl) one_nil) rfl (fun w_6 hz_7 hS => ?_)
  refine Wx.nil ?_
  exact ⟨.tuple #[], ResIs.zero, rfl, _, hS⟩
end Go.Proofs.YtlibemgaepkceaaGreatDoor

namespace Go.Proofs.YtlibemgaepkceaaGreatDoor
open Go.Wk Go.RowKit Go.Lib
set_option linter.unusedVariables false
set_option linter.unusedSimpArgs false


set_option maxHeartbeats 2000000 in
theorem F86 {Tl : List (Int × Int) → List Ob → Prop} {ls : List (Int × Int)} {ft : FuncId} {ct : List Value} {v : Value} {ys : List Int} {gb gt : Nat} {k : Int} {ob : List Ob} {w0 w : World} {O : List (Option Nat)} (hcall : ∀ args w, (callFunc ft args).run Tryz.prog w = .ok (.enter ft args) w) (hE : TellIn Tryz.prog ft ct Tl) (hT : Tl ls ob) (i_k : InK .i64 k) (p_l : (ls.length : Int) + ys.length ≤ 90) (hS : St w0 O w (.row (tI .i64) 3 v ys :: .box gb 130 [v] :: .box gt 119 [(.func (.func ft) #[] ct.toArray)] :: ob)) : Calls Tryz.prog 86 #[.int .i64 k, .pointer (some ⟨gb, 0, none⟩), .pointer (some ⟨gt, 0, none⟩)] w (Bk fun r w' => r = .tuple #[] ∧ ∃ v' ob', Tl (ls ++ outO (popL k ys.length ys []).2) ob' ∧ St w0 O w' (.row (tI .i64) 3 v' ((popL k ys.length ys []).1) :: .box gb 130 [v'] :: .box gt 119 [(.func (.func ft) #[] ct.toArray)] :: ob')) := by
  have b_k := bd_i64 i_k
  refine enterB Tryz.func86 rfl Tryz.ntmps86 Tryz.results86 rfl ?_
  refine W.seq ?_
  refine W.reg ?_
  have hS := hS.front 2 rfl
  have hS := hS.front 2 rfl
  have hS := hS.front 2 rfl
  have hS : St _ _ w (.row (tI .i64) 3 v ys :: .box gb 130 [v] :: .box gt 119 [(.func (.func ft) #[] ct.toArray)] :: ob) := hS
  refine Wx.callB (run_callF Tryz.call87 rfl) (F87 (ob := (.box gt 119 [(.func (.func ft) #[] ct.toArray)] :: ob))  hS) rfl ?_
  rintro r_1 w_2 ⟨rfl, hS⟩
  have hS : St _ _ w_2 (.row (tI .i64) 3 v ys :: .box gb 130 [v] :: .box gt 119 [(.func (.func ft) #[] ct.toArray)] :: ob) := hS
  have hS := hS.front 2 rfl
  have hS := hS.front 2 rfl
  have hS := hS.front 2 rfl
  have hS : St _ _ w_2 (.row (tI .i64) 3 v ys :: .box gb 130 [v] :: .box gt 119 [(.func (.func ft) #[] ct.toArray)] :: ob) := hS
  have bt_3 := bd_i64 (top_in hS 0 rfl)
  refine Wx.rd (v := .tuple #[.int .i64 (topB ys), .bool (decide (0 < ys.length))]) (rd_move rfl) rfl ?_
  refine Wx.rd (v := .int .i64 (topB ys)) (rd_extract rfl rfl) rfl ?_
  refine Wx.rd (v := .bool (decide (0 < ys.length))) (rd_extract rfl rfl) rfl ?_
  refine Wx.rd (v := .int .i64 (topB ys)) (rd_assign rfl) rfl ?_
  refine Wx.rd (v := .bool (decide (0 < ys.length))) (rd_assign rfl) rfl ?_
  refine Wx.nil ?_
  refine W.block ?_
  refine W.loop [4, 5, 10, 11, 12, 13, 14, 15, 16, 17, 18, 19, 20, 21, 22, 23] (fun x : Int × Bool × Value × (List Int) × (List Ob) × (List Int) => match x with | (tp, is, v2, ys2, ot, os) => [(4, .int .i64 tp), (5, .bool is)]) (fun (x : Int × Bool × Value × (List Int) × (List Ob) × (List Int)) w' => match x with | (tp, is, v2, ys2, ot, os) => St w0 O w' (.row (tI .i64) 3 v2 ys2 :: .box gb 130 [v2] :: .box gt 119 [(.func (.func ft) #[] ct.toArray)] :: ot) ∧ tp = topB ys2 ∧ is = decide (0 < ys2.length) ∧ popL k ys2.length ys2 os = popL k ys.length ys [] ∧ Tl (ls ++ outO os) ot ∧ (ls.length : Int) + os.length + ys2.length ≤ 90 ∧ -9223372036854775808 ≤ tp ∧ tp ≤ 9223372036854775807) (fun x : Int × Bool × Value × (List Int) × (List Ob) × (List Int) => match x with | (tp, is, v2, ys2, ot, os) => ys2.length) (topB ys, decide (0 < ys.length), v, ys, ob, ([] : List Int)) ⟨rfl, rfl, trivial⟩ ⟨hS, (rfl), (rfl), (rfl), (by simpa [outO] using hT), (by simpa using p_l), (by omega)⟩ ?_
  rintro ⟨tp, is, v2, ys2, ot, os⟩ u_5 w_4 ⟨hS, h1, h2, h3, h4, h5, h6⟩
  refine W.seq ?_
  refine W.seq ?_
  refine W.reg ?_
  refine Wx.rd (v := .bool is) (rd_move rfl) rfl ?_
  refine Wx.rd (v := .bool is) (rd_move rfl) rfl ?_
  refine Wx.cut (X := Unit) 4 [12, 13, 14, 15] (fun _ => [(15, .bool (is && decide (tp < k)))]) (fun _ w' => St w0 O w' (.row (tI .i64) 3 v2 ys2 :: .box gb 130 [v2] :: .box gt 119 [(.func (.func ft) #[] ct.toArray)] :: ot)) ?_ ?_
  · rcases Bool.eq_false_or_eq_true is with g_6 | g_6
    · -- True
      have gp_7 := g_6
      try simp only [Bool.and_eq_true, Bool.or_eq_true, Bool.not_eq_true', Bool.and_eq_false_iff, Bool.or_eq_false_iff, Bool.not_eq_false', decide_eq_true_eq, decide_eq_false_iff_not, not_or, Bool.false_eq_true, Bool.true_eq_false, false_or, or_false, not_false_eq_true] at gp_7
      refine Wx.gyes rfl rfl (congrArg Value.bool g_6) ?_
      refine Wx.rd (v := .int .i64 tp) (rd_move rfl) rfl ?_
      refine Wx.gyes rfl rfl (congrArg Value.bool g_6) ?_
      refine Wx.rd (v := .int .i64 k) (rd_move rfl) rfl ?_
      refine Wx.gyes rfl rfl (congrArg Value.bool g_6) ?_
      refine Wx.rd (v := .bool (decide (tp < k))) (rd_lss rfl rfl) rfl ?_
      refine Wx.rd (v := .bool (decide (tp < k))) (rd_pickT (congrArg Value.bool g_6) rfl) rfl ?_
      refine Wx.nil ⟨(), hS, ⟨?_, trivial⟩, Out.look rfl Out.refl⟩
      show Value.bool (decide (tp < k)) = Value.bool (is && decide (tp < k))
      first | rw [g_6, Bool.true_and] | (rw [g_6]; rfl)
    · -- False
      have gp_8 := g_6
      try simp only [Bool.and_eq_true, Bool.or_eq_true, Bool.not_eq_true', Bool.and_eq_false_iff, Bool.or_eq_false_iff, Bool.not_eq_false', decide_eq_true_eq, decide_eq_false_iff_not, not_or, Bool.false_eq_true, Bool.true_eq_false, false_or, or_false, not_false_eq_true] at gp_8
      refine Wx.gnoB rfl rfl (congrArg Value.bool g_6) rfl rfl ?_
      refine Wx.gnoB rfl rfl (congrArg Value.bool g_6) rfl rfl ?_
      refine Wx.gnoB rfl rfl (congrArg Value.bool g_6) rfl rfl ?_
      refine Wx.rd (v := .bool false) (rd_pickF (congrArg Value.bool g_6) rfl) rfl ?_
      refine Wx.nil ⟨(), hS, ⟨?_, trivial⟩, Out.look rfl Out.refl⟩
      show Value.bool false = Value.bool (is && decide (tp < k))
      first | rw [g_6, Bool.false_and] | (rw [g_6]; rfl)
  rintro ⟨⟩ u_10 w_9 hS
  refine Wx.nil ?_
  refine W.cond rfl (fun c0 => ?_) (fun c0 => ?_)
  · -- yes
    try simp only [Bool.and_eq_true, Bool.or_eq_true, Bool.not_eq_true', Bool.and_eq_false_iff, Bool.or_eq_false_iff, Bool.not_eq_false', decide_eq_true_eq, decide_eq_false_iff_not, not_or, Bool.false_eq_true, Bool.true_eq_false, false_or, or_false, not_false_eq_true] at c0
    have hc0 : topB ys2 < k ∧ 0 < ys2.length := by rw [h1, h2] at c0; simpa [and_comm] using c0
    have hpb := popB_len hc0.2
    refine W.skip ?_
    refine W.seq ?_
    refine W.block ?_
    refine W.seq ?_
    refine W.reg ?_
    have hS := hS.front 2 rfl
    have hS := hS.front 2 rfl
    have hS := hS.front 2 rfl
    have hS : St _ _ w_9 (.row (tI .i64) 3 v2 ys2 :: .box gb 130 [v2] :: .box gt 119 [(.func (.func ft) #[] ct.toArray)] :: ot) := hS
    refine Wx.callB (run_callF Tryz.call88 rfl) (F88 (ob := (.box gt 119 [(.func (.func ft) #[] ct.toArray)] :: ot)) hc0.2 hS) rfl ?_
    rintro r_11 w_12 ⟨rfl, v_13, hS⟩
    have hS : St _ _ w_12 (.row (tI .i64) 3 v_13 (popB ys2) :: .box gb 130 [v_13] :: .box gt 119 [(.func (.func ft) #[] ct.toArray)] :: ot) := hS
    have hS := hS.front 2 rfl
    have hS := hS.front 2 rfl
    have hS := hS.front 2 rfl
    have hS : St _ _ w_12 (.row (tI .i64) 3 v_13 (popB ys2) :: .box gb 130 [v_13] :: .box gt 119 [(.func (.func ft) #[] ct.toArray)] :: ot) := hS
    refine Wx.nil ?_
    refine W.reg ?_
    refine Wx.rd (v := (.func (.func ft) #[] ct.toArray)) (rd_loadX hS 2 rfl rfl rfl Tryz.isAgg119) rfl ?_
    refine Wx.rd (v := .int .i64 tp) (rd_move rfl) rfl ?_
    refine Wx.callB (run_callC (fs := []) (cs := ct) (vs := .int .u8 111 :: .int .i64 tp :: ct) hcall rfl rfl) (hE (ls ++ outO os) 111 tp [.row (tI .i64) 3 v_13 (popB ys2), .box gb 130 [v_13], .box gt 119 [(.func (.func ft) #[] ct.toArray)]] ot w0 _ O (by simp only [List.length_append, outO, List.length_map]; omega) (by constructor <;> decide) (in_i64 (by omega) (by omega)) h4 hS) rfl ?_
    rintro r_14 w_15 ⟨rfl, ob_17, hT_16, hS⟩
    have hS : St w0 O w_15 (.row (tI .i64) 3 v_13 (popB ys2) :: .box gb 130 [v_13] :: .box gt 119 [(.func (.func ft) #[] ct.toArray)] :: ob_17) := hS
    have hT := hT_16
    refine Wx.nil ?_
    refine W.reg ?_
    have hS := hS.front 2 rfl
    have hS := hS.front 2 rfl
    have hS := hS.front 2 rfl
    have hS : St _ _ w_15 (.row (tI .i64) 3 v_13 (popB ys2) :: .box gb 130 [v_13] :: .box gt 119 [(.func (.func ft) #[] ct.toArray)] :: ob_17) := hS
    refine Wx.callB (run_callF Tryz.call87 rfl) (F87 (ob := (.box gt 119 [(.func (.func ft) #[] ct.toArray)] :: ob_17))  hS) rfl ?_
    rintro r_18 w_19 ⟨rfl, hS⟩
    have hS : St _ _ w_19 (.row (tI .i64) 3 v_13 (popB ys2) :: .box gb 130 [v_13] :: .box gt 119 [(.func (.func ft) #[] ct.toArray)] :: ob_17) := hS
    have hS := hS.front 2 rfl
    have hS := hS.front 2 rfl
    have hS := hS.front 2 rfl
    have hS : St _ _ w_19 (.row (tI .i64) 3 v_13 (popB ys2) :: .box gb 130 [v_13] :: .box gt 119 [(.func (.func ft) #[] ct.toArray)] :: ob_17) := hS
    have bt_20 := bd_i64 (top_in hS 0 rfl)
    refine Wx.rd (v := .tuple #[.int .i64 (topB (popB ys2)), .bool (decide (0 < (popB ys2).length))]) (rd_move rfl) rfl ?_
    refine Wx.rd (v := .int .i64 (topB (popB ys2))) (rd_extract rfl rfl) rfl ?_
    refine Wx.rd (v := .bool (decide (0 < (popB ys2).length))) (rd_extract rfl rfl) rfl ?_
    refine Wx.rd (v := .int .i64 (topB (popB ys2))) (rd_assign rfl) rfl ?_
    refine Wx.rd (v := .bool (decide (0 < (popB ys2).length))) (rd_assign rfl) rfl ?_
    refine Wx.nil ?_
    refine ⟨(topB (popB ys2), decide (0 < (popB ys2).length), v_13, popB ys2, ob_17, os ++ [tp]), (by show (popB ys2).length < ys2.length; omega), ?_, ?_, Out.look rfl (Out.hav rfl (Out.look rfl Out.self))⟩
    · exact ⟨hS, (rfl), (rfl), (by rw [← h3, pop_next hc0.1 hc0.2, ← h1]), (by rw [outO_snoc, ← List.append_assoc]; exact hT), (by simp only [List.length_append, List.length_cons, List.length_nil]; omega), (by omega)⟩
    · exact ⟨rfl, rfl, trivial⟩
  · -- no
    try simp only [Bool.and_eq_true, Bool.or_eq_true, Bool.not_eq_true', Bool.and_eq_false_iff, Bool.or_eq_false_iff, Bool.not_eq_false', decide_eq_true_eq, decide_eq_false_iff_not, not_or, Bool.false_eq_true, Bool.true_eq_false, false_or, or_false, not_false_eq_true] at c0
    have hpe : popL k ys.length ys [] = (ys2, os) := by rw [← h3]; exact pop_end (fun hh => by rw [h1, h2] at c0; simp [hh.1, hh.2] at c0)
    have hsay : ys2 = (popL k ys.length ys []).1 := by rw [hpe]
    rw [hsay] at hS
    refine W.exit rfl ?_
    exact ⟨.tuple #[], ResIs.zero, rfl, _, ot, by rw [hpe]; exact h4, hS⟩
end Go.Proofs.YtlibemgaepkceaaGreatDoor

namespace Go.Proofs.YtlibemgaepkceaaGreatDoor
open Go.Wk Go.RowKit Go.Lib
set_option linter.unusedVariables false
set_option linter.unusedSimpArgs false


set_option maxHeartbeats 2000000 in
theorem F77 {Tl : List (Int × Int) → List Ob → Prop} {ls : List (Int × Int)} {ft : FuncId} {ct : List Value} {xv : Value} {xs : List Int} {ob : List Ob} {w0 w : World} {O : List (Option Nat)} (hcall : ∀ args w, (callFunc ft args).run Tryz.prog w = .ok (.enter ft args) w) (hE : TellIn Tryz.prog ft ct Tl) (hT : Tl ls ob) (p_n : (xs.length : Int) ≤ 7) (p_l : (ls.length : Int) ≤ 50) (hS : St w0 O w ob) (hv : V (tSl tInt) xs xv (fb ob O) w) : Calls Tryz.prog 77 #[xv, .func (.func ft) #[] ct.toArray] w (Bk fun r w' => r = .tuple #[] ∧ ∃ ob', Tl (ls ++ pasV xs) ob' ∧ St w0 O w' ob') := by
  have hS := hS.add (hv)
  have ln_2 := (hS.v 0 rfl).len63
  refine enterB Tryz.func77 rfl Tryz.ntmps77 Tryz.results77 rfl ?_
  refine W.seq ?_
  refine W.reg ?_
  refine Wx.box (cs := [(.func (.func ft) #[] ct.toArray)]) hS rfl rfl rfl (fun g_3 w_4 hx_6 hb_5 hS => ?_)
  refine Wx.nil ?_
  refine W.seq ?_
  refine W.reg ?_
  refine Wx.alloc (cs := [(.slice none 0 0)]) hS Tryz.zeroValue130 rfl rfl (fun g_7 w_8 hx_10 hb_9 hS => ?_)
  refine Wx.nil ?_
  refine W.seq ?_
  refine W.reg ?_
  refine Wx.rd (v := .func (.func 86) #[] #[.pointer (some ⟨g_7, 0, none⟩), .pointer (some ⟨g_3, 0, none⟩)]) (rd_makeFunc (vs := []) (us := [.pointer (some ⟨g_7, 0, none⟩), .pointer (some ⟨g_3, 0, none⟩)]) rfl rfl) rfl ?_
  refine Wx.rd (v := .func (.func 86) #[] #[.pointer (some ⟨g_7, 0, none⟩), .pointer (some ⟨g_3, 0, none⟩)]) (rd_assign rfl) rfl ?_
  refine Wx.nil ?_
  refine W.seq ?_
  refine W.seq ?_
  refine W.reg ?_
  refine Wx.rd (v := xv) (rd_move rfl) rfl ?_
  refine Wx.rd (v := .int .i64 (xs.length : Int)) (rd_lenV rfl (hS.v 2 rfl) Tryz.underlying25) rfl ?_
  refine Wx.rd (v := .int .i64 0) (rd_move rfl) rfl ?_
  refine Wx.nil ?_
  refine W.block ?_
  have hS := hS.addNil (tI .i64) 3
  refine W.loop [7, 11, 12, 13, 14, 15, 16, 17, 18, 19, 20, 21, 22, 23] (fun x : Int × Value × (List Int) × (List Ob) × (List (Int × Int)) => match x with | (i, v2, ys2, ot, em) => [(11, .int .i64 i)]) (fun (x : Int × Value × (List Int) × (List Ob) × (List (Int × Int))) w' => match x with | (i, v2, ys2, ot, em) => St w0 O w' (.row (tI .i64) 3 v2 ys2 :: .box g_7 130 [v2] :: .box g_3 119 [(.func (.func ft) #[] ct.toArray)] :: Ob.v (tSl (tI .i64)) xs xv :: ot) ∧ 0 ≤ i ∧ i ≤ xs.length ∧ pasK xs i = (ys2, em) ∧ Tl (ls ++ em) ot) (fun x : Int × Value × (List Int) × (List Ob) × (List (Int × Int)) => match x with | (i, v2, ys2, ot, em) => (xs.length - i).toNat) (0, (.slice none 0 0), [], ob, ([] : List (Int × Int))) ⟨rfl, trivial⟩ ⟨hS, (by first | omega | simp), (by first | omega | simp), (rfl), (by simpa using hT)⟩ ?_
  rintro ⟨i, v2, ys2, ot, em⟩ u_12 w_11 ⟨hS, i0, i1, s2, s3⟩
  refine W.seq ?_
  refine W.reg ?_
  refine Wx.rd (v := .bool (decide (i < (xs.length : Int)))) (rd_lss rfl rfl) rfl ?_
  refine Wx.nil ?_
  refine W.seq ?_
  refine W.condD rfl (fun c0 => ?_) (fun c0 => ?_)
  · -- yes
    have hkl := pask_len xs i
    rw [s2] at hkl
    simp only at hkl
    have hpl := pop_len (ix 0 xs i) ys2.length ys2 [] (Nat.le_refl _)
    simp only [List.length_nil] at hpl
    refine W.skip ?_
    refine W.seq ?_
    refine W.block ?_
    refine W.seq ?_
    refine W.reg ?_
    refine Wx.ex (rd_index 0 (hS.v 3 rfl) rfl rfl Tryz.underlying25 Tryz.sizeOf3 (by first | omega | (simp only [List.length_set, List.length_append, List.length_cons, List.length_nil, List.length_replicate]; omega)) (by first | omega | (simp only [List.length_set, List.length_append, List.length_cons, List.length_nil, List.length_replicate]; omega))) rfl (fun p_13 hp_14 => ?_)
    refine Wx.rd (v := .int .i64 (ix 0 xs i)) (rd_loadI hp_14 rfl Tryz.isAgg3 Tryz.sizeOf3) rfl ?_
    have bd_15 := bd_i64 hp_14.inK
    refine Wx.rd (v := .int .i64 (ix 0 xs i)) (rd_assign rfl) rfl ?_
    refine Wx.nil ?_
    refine W.seq ?_
    refine W.reg ?_
    refine Wx.rd (v := .func (.func 86) #[] #[.pointer (some ⟨g_7, 0, none⟩), .pointer (some ⟨g_3, 0, none⟩)]) (rd_move rfl) rfl ?_
    refine Wx.rd (v := .int .i64 (ix 0 xs i)) (rd_move rfl) rfl ?_
    have hS := hS.front 3 rfl
    have hS := hS.front 3 rfl
    have hS := hS.front 3 rfl
    have hS := hS.front 3 rfl
    have hS : St _ _ w_11 (.row (tI .i64) 3 v2 ys2 :: .box g_7 130 [v2] :: .box g_3 119 [(.func (.func ft) #[] ct.toArray)] :: Ob.v (tSl (tI .i64)) xs xv :: ot) := hS
    refine Wx.callB (run_callC (fs := []) (cs := [.pointer (some ⟨g_7, 0, none⟩), .pointer (some ⟨g_3, 0, none⟩)]) (vs := [.int .i64 (ix 0 xs i), .pointer (some ⟨g_7, 0, none⟩), .pointer (some ⟨g_3, 0, none⟩)]) Tryz.call86 rfl rfl) (F86 (k := (ix 0 xs i)) (ls := ls ++ em) (Tl := fun ls ob => ∃ ob', ob = [Ob.v (tSl (tI .i64)) xs xv] ++ ob' ∧ Tl ls ob') (ob := [Ob.v (tSl (tI .i64)) xs xv] ++ ot) hcall (tellIn_pre hE [Ob.v (tSl (tI .i64)) xs xv]) ⟨_, rfl, s3⟩ (in_i64 (by omega) (by omega)) (by simp only [List.length_append]; omega) hS) rfl ?_
    rintro r_16 w_17 ⟨rfl, v_18, _, ⟨ob_19, rfl, hT_20⟩, hS⟩
    have hS : St w0 O w_17 (.row (tI .i64) 3 v_18 ((popL (ix 0 xs i) ys2.length ys2 []).1) :: .box g_7 130 [v_18] :: .box g_3 119 [(.func (.func ft) #[] ct.toArray)] :: Ob.v (tSl (tI .i64)) xs xv :: ob_19) := hS
    have hT := hT_20
    have hS := hS.front 3 rfl
    have hS := hS.front 3 rfl
    have hS := hS.front 3 rfl
    have hS := hS.front 3 rfl
    have hS : St _ _ w_17 (.row (tI .i64) 3 v_18 ((popL (ix 0 xs i) ys2.length ys2 []).1) :: .box g_7 130 [v_18] :: .box g_3 119 [(.func (.func ft) #[] ct.toArray)] :: Ob.v (tSl (tI .i64)) xs xv :: ob_19) := hS
    refine Wx.nil ?_
    refine W.seq ?_
    refine W.reg ?_
    refine Wx.rd (v := .int .i64 (ix 0 xs i)) (rd_move rfl) rfl ?_
    have hS := hS.front 3 rfl
    have hS := hS.front 3 rfl
    have hS := hS.front 3 rfl
    have hS := hS.front 3 rfl
    have hS : St _ _ w_17 (.row (tI .i64) 3 v_18 ((popL (ix 0 xs i) ys2.length ys2 []).1) :: .box g_7 130 [v_18] :: .box g_3 119 [(.func (.func ft) #[] ct.toArray)] :: Ob.v (tSl (tI .i64)) xs xv :: ob_19) := hS
    refine Wx.callB (run_callF Tryz.call89 rfl) (F89 (ob := (.box g_3 119 [(.func (.func ft) #[] ct.toArray)] :: Ob.v (tSl (tI .i64)) xs xv :: ob_19)) (x := (ix 0 xs i)) (in_i64 (by omega) (by omega)) (by omega) hS) rfl ?_
    rintro r_21 w_22 ⟨rfl, v_23, hS⟩
    have hS : St _ _ w_22 (.row (tI .i64) 3 v_23 (((popL (ix 0 xs i) ys2.length ys2 []).1) ++ [ix 0 xs i]) :: .box g_7 130 [v_23] :: .box g_3 119 [(.func (.func ft) #[] ct.toArray)] :: Ob.v (tSl (tI .i64)) xs xv :: ob_19) := hS
    have hS := hS.front 3 rfl
    have hS := hS.front 3 rfl
    have hS := hS.front 3 rfl
    have hS := hS.front 3 rfl
    have hS : St _ _ w_22 (.row (tI .i64) 3 v_23 (((popL (ix 0 xs i) ys2.length ys2 []).1) ++ [ix 0 xs i]) :: .box g_7 130 [v_23] :: .box g_3 119 [(.func (.func ft) #[] ct.toArray)] :: Ob.v (tSl (tI .i64)) xs xv :: ob_19) := hS
    refine Wx.nil ?_
    refine W.reg ?_
    refine Wx.rd (v := (.func (.func ft) #[] ct.toArray)) (rd_loadX hS 2 rfl rfl rfl Tryz.isAgg119) rfl ?_
    refine Wx.rd (v := .int .i64 (ix 0 xs i)) (rd_move rfl) rfl ?_
    refine Wx.callB (run_callC (fs := []) (cs := ct) (vs := .int .u8 105 :: .int .i64 (ix 0 xs i) :: ct) hcall rfl rfl) (hE (ls ++ em ++ outO (popL (ix 0 xs i) ys2.length ys2 []).2) 105 (ix 0 xs i) [.row (tI .i64) 3 v_23 (((popL (ix 0 xs i) ys2.length ys2 []).1) ++ [ix 0 xs i]), .box g_7 130 [v_23], .box g_3 119 [(.func (.func ft) #[] ct.toArray)], Ob.v (tSl (tI .i64)) xs xv] ob_19 w0 _ O (by simp only [List.length_append, outO, List.length_map]; omega) (by constructor <;> decide) (in_i64 (by omega) (by omega)) hT hS) rfl ?_
    rintro r_24 w_25 ⟨rfl, ob_27, hT_26, hS⟩
    have hS : St w0 O w_25 (.row (tI .i64) 3 v_23 (((popL (ix 0 xs i) ys2.length ys2 []).1) ++ [ix 0 xs i]) :: .box g_7 130 [v_23] :: .box g_3 119 [(.func (.func ft) #[] ct.toArray)] :: Ob.v (tSl (tI .i64)) xs xv :: ob_27) := hS
    have hT := hT_26
    refine Wx.nil ?_
    refine W.reg ?_
    refine Wx.rd (v := .int .i64 (i + 1)) (rd_add rfl rfl (in_i64 (by omega) (by omega))) rfl ?_
    refine Wx.rd (v := .int .i64 (i + 1)) (rd_move rfl) rfl ?_
    refine Wx.nil ?_
    refine ⟨(i + 1, v_23, ((popL (ix 0 xs i) ys2.length ys2 []).1) ++ [ix 0 xs i], ob_27, em ++ outO (popL (ix 0 xs i) ys2.length ys2 []).2 ++ [(105, (ix 0 xs i))]), (by show (xs.length - (i + 1)).toNat < (xs.length - i).toNat; omega), ?_, ?_, Out.look rfl Out.self⟩
    · exact ⟨hS, (by first | omega | assumption), (by first | omega | assumption), (by rw [pas_next i0 (by omega), s2]; rfl), (by rw [← List.append_assoc, ← List.append_assoc]; exact hT)⟩
    · exact ⟨rfl, trivial⟩
  · -- no
    have hkl := pask_len xs i
    rw [s2] at hkl
    simp only at hkl
    refine W.exit rfl ?_
    refine W.reg ?_
    refine Wx.rd (v := .func (.func 86) #[] #[.pointer (some ⟨g_7, 0, none⟩), .pointer (some ⟨g_3, 0, none⟩)]) (rd_move rfl) rfl ?_
    refine Wx.rd (v := xv) (rd_move rfl) rfl ?_
    refine Wx.rd (v := .int .i64 (xs.length : Int)) (rd_lenV rfl (hS.v 3 rfl) Tryz.underlying25) rfl ?_
    have hS := hS.front 3 rfl
    have hS := hS.front 3 rfl
    have hS := hS.front 3 rfl
    have hS := hS.front 3 rfl
    have hS : St _ _ w_11 (.row (tI .i64) 3 v2 ys2 :: .box g_7 130 [v2] :: .box g_3 119 [(.func (.func ft) #[] ct.toArray)] :: Ob.v (tSl (tI .i64)) xs xv :: ot) := hS
    refine Wx.callB (run_callC (fs := []) (cs := [.pointer (some ⟨g_7, 0, none⟩), .pointer (some ⟨g_3, 0, none⟩)]) (vs := [.int .i64 (xs.length : Int), .pointer (some ⟨g_7, 0, none⟩), .pointer (some ⟨g_3, 0, none⟩)]) Tryz.call86 rfl rfl) (F86 (k := (xs.length : Int)) (ls := ls ++ em) (Tl := fun ls ob => ∃ ob', ob = [Ob.v (tSl (tI .i64)) xs xv] ++ ob' ∧ Tl ls ob') (ob := [Ob.v (tSl (tI .i64)) xs xv] ++ ot) hcall (tellIn_pre hE [Ob.v (tSl (tI .i64)) xs xv]) ⟨_, rfl, s3⟩ (in_i64 (by omega) (by omega)) (by simp only [List.length_append]; omega) hS) rfl ?_
    rintro r_28 w_29 ⟨rfl, v_30, _, ⟨ob_31, rfl, hT_32⟩, hS⟩
    have hS : St w0 O w_29 (.row (tI .i64) 3 v_30 ((popL (xs.length : Int) ys2.length ys2 []).1) :: .box g_7 130 [v_30] :: .box g_3 119 [(.func (.func ft) #[] ct.toArray)] :: Ob.v (tSl (tI .i64)) xs xv :: ob_31) := hS
    have hT := hT_32
    have hS := hS.front 3 rfl
    have hS := hS.front 3 rfl
    have hS := hS.front 3 rfl
    have hS := hS.front 3 rfl
    have hS : St _ _ w_29 (.row (tI .i64) 3 v_30 ((popL (xs.length : Int) ys2.length ys2 []).1) :: .box g_7 130 [v_30] :: .box g_3 119 [(.func (.func ft) #[] ct.toArray)] :: Ob.v (tSl (tI .i64)) xs xv :: ob_31) := hS
    refine Wx.nil ?_
    exact ⟨.tuple #[], ResIs.zero, rfl, ob_31, by rw [show pasV xs = em ++ outO (popL (xs.length : Int) ys2.length ys2 []).2 by rw [pasV, ← pas_end (show (xs.length : Int) ≤ i by omega), s2], ← List.append_assoc]; exact hT, (St.tl (St.tl (St.tl (St.tl hS))))⟩
end Go.Proofs.YtlibemgaepkceaaGreatDoor

namespace Go.Proofs.YtlibemgaepkceaaGreatDoor
open Go.Wk Go.RowKit Go.Lib
set_option linter.unusedVariables false
set_option linter.unusedSimpArgs false
theorem elLd_25 : ElemI Tryz.prog 25 3 (.int .i64 0) 1 8 := ElemI.of Tryz.underlying25 (by kernel_rfl) (by first | rfl | kernel_rfl) (by decide)

theorem F78 {u : Value} {os : List Int} {go : Nat} {mv bg : Int} {ob : List Ob} {w0 w : World} {O : List (Option Nat)} (i_mv : InK .u8 mv) (i_bg : InK .i64 bg) (p_len : (os.length : Int) ≤ 1000) (hS : St w0 O w (.row (tI .i64) 3 u os :: .box go 25 [u] :: ob)) : Calls Tryz.prog 78 #[.int .u8 mv, .int .i64 bg, .pointer (some ⟨go, 0, none⟩)] w (Bk fun r w' => r = .tuple #[] ∧ ∃ u', St w0 O w' (.row (tI .i64) 3 u' (if mv = 111 then os ++ [bg] else os) :: .box go 25 [u'] :: ob)) := by
  have b_mv := bd_u8 i_mv
  have b_bg := bd_i64 i_bg
  refine enterB Tryz.func78 rfl Tryz.ntmps78 Tryz.results78 rfl ?_
  refine W.seq ?_
  refine W.reg ?_
  refine Wx.rd (v := .int .u8 mv) (rd_move rfl) rfl ?_
  refine Wx.rd (v := .bool (decide (mv = 111))) (rd_eql rfl rfl) rfl ?_
  refine Wx.nil ?_
  refine W.cutK [7, 8, 9, 10] (fun x : Value × (List Int) => match x with | (u2, os2) => []) (fun (x : Value × (List Int)) w' => match x with | (u2, os2) => St w0 O w' (.row (tI .i64) 3 u2 os2 :: .box go 25 [u2] :: ob) ∧ os2 = if mv = 111 then os ++ [bg] else os) ?_ ?_
  · -- up to the cut
    refine W.condD rfl (fun c0 => ?_) (fun c0 => ?_)
    · -- yes
      refine W.reg ?_
      refine Wx.rd (v := u) (rd_loadX hS 1 rfl rfl rfl Tryz.isAgg25) rfl ?_
      refine Wx.rd (v := .int .i64 bg) (rd_move rfl) rfl ?_
      refine Wx.lit (t := (tI .i64)) (ys := [bg]) (vs := [.int .i64 bg]) elLd_25 hS rfl rfl ⟨(V.mkInt (in_i64 (by omega) (by omega))), trivial⟩ (by decide) rfl (fun v_1 w_2 hx_3 hS => ?_)
      refine Wx.append elLd_25 hS 1 rfl rfl rfl (Src.ofR hS 0 rfl) (by simp only [maxLen]; first | omega | (simp; omega) | simp) (by first | omega | (simp; omega) | simp) rfl (fun v_4 w_5 hz_6 hS => ?_)
      refine Wx.storeX (cs' := [v_4]) (ds := [v_4]) hS 2 rfl rfl rfl (Go.Wk.cells_one (hS.rowOne 1 rfl)) Tryz.sizeOf25 (Nat.le_of_ble_eq_true rfl) (one_cons (hS.rowOne 1 rfl) one_nil) rfl (fun w_7 hz_8 hS => ?_)
      refine Wx.nil ?_
      refine ⟨(v_4, os ++ [bg]), ?_, ?_, Out.look rfl Out.refl⟩
      · exact ⟨hS.tl, ((if_pos c0).symm)⟩
      · exact trivial
    · -- no
      refine W.skip ?_
      refine ⟨(u, os), ?_, ?_, Out.look rfl Out.refl⟩
      · exact ⟨hS, ((if_neg c0).symm)⟩
      · exact trivial
  rintro ⟨u2, os2⟩ u_10 w_9 ⟨hS, e2⟩
  exact ⟨.tuple #[], ResIs.zero, rfl, _, (by rw [← e2]; exact hS)⟩

theorem tellP {go : Nat} : TellIn Tryz.prog 78 [.pointer (some ⟨go, 0, none⟩)] (fun (ls : List (Int × Int)) ob => ∃ u, ob = [.row (tI .i64) 3 u (outV ls), .box go 25 [u]]) := by
  rintro ls mv x pre ob w0 w O hl hm hx ⟨u, rfl⟩ hS
  have hS2 : St w0 O w ([.row (tI .i64) 3 u (outV ls), .box go 25 [u]] ++ (pre ++ [])) := St.pull (pre := pre) (A := [.row (tI .i64) 3 u (outV ls), .box go 25 [u]]) (R := []) (by simpa using hS)
  refine (F78 (u := u) (os := outV ls) (ob := pre ++ []) hm hx (by have := outV_len ls; omega) hS2).mono ?_
  rintro e w' ⟨r, he, rfl, u', hS3⟩
  refine ⟨_, he, rfl, [.row (tI .i64) 3 u' (outV (ls ++ [(mv, x)])), .box go 25 [u']], ⟨u', rfl⟩, ?_⟩
  rw [outV_snoc]
  have h4 := St.pull (pre := [.row (tI .i64) 3 u' (if mv = 111 then outV ls ++ [x] else outV ls), .box go 25 [u']]) (A := pre) (R := []) hS3
  simpa using h4


theorem F67 {xv : Value} {xs : List Int} {O : List (Option Nat)} {w : World} (h_xv : V (tSl (tI .i64)) xs xv O w) (p_ok : PmOK xs) (hO : ∀ b, some b ∈ O → b < w.heap.size) : Calls Tryz.prog 67 #[xv] w (Ret w (fun r w' => ∃ rv, r = rv ∧ Fresh (tI .i64) 3 (outV (pasV xs)) rv w.heap.size w')) := by
  have p_n : (xs.length : Int) ≤ 7 := p_ok.n.2
  have a_xv := h_xv
  have l_xv := h_xv.len63
  have hS := St.start w O hO
  refine enterR Tryz.func67 rfl Tryz.ntmps67 Tryz.results67 rfl ?_
  refine W.seq ?_
  refine W.reg ?_
  refine Wx.rd (v := (.slice none 0 0)) (rd_assign rfl) rfl ?_
  refine Wx.nil ?_
  refine W.seq ?_
  refine W.reg ?_
  refine Wx.alloc (cs := [(.slice none 0 0)]) hS Tryz.zeroValue25 rfl rfl (fun g_1 w_2 hx_4 hb_3 hS => ?_)
  have hS := hS.addNil (tI .i64) 3
  refine Wx.nil ?_
  refine W.seq ?_
  refine W.reg ?_
  refine Wx.rd (v := xv) (rd_move rfl) rfl ?_
  refine Wx.rd (v := .func (.func 78) #[] #[.pointer (some ⟨g_1, 0, none⟩)]) (rd_makeFunc (vs := []) (us := [.pointer (some ⟨g_1, 0, none⟩)]) rfl rfl) rfl ?_
  have hS := hS.front 1 rfl
  have hS := hS.front 1 rfl
  have hS : St _ _ w_2 [.row (tI .i64) 3 (.slice none 0 0) [], .box g_1 25 [(.slice none 0 0)]] := hS
  refine Wx.callB (run_callF Tryz.call77 rfl) (F77 (xs := xs) (ls := []) (Tl := (fun (ls : List (Int × Int)) ob => ∃ u, ob = [.row (tI .i64) 3 u (outV ls), .box g_1 25 [u]])) (ft := 78) (ct := [.pointer (some ⟨g_1, 0, none⟩)]) (ob := [.row (tI .i64) 3 (.slice none 0 0) [], .box g_1 25 [(.slice none 0 0)]]) (fun _ _ => Go.Proofs.enters_of Tryz.func78 (by kernel_rfl) rfl _ _) tellP ⟨_, rfl⟩ p_n (by decide) hS (hS.arg a_xv)) rfl ?_
  rintro r_5 w_6 ⟨rfl, _, ⟨u_7, rfl⟩, hS⟩
  have hS : St _ _ w_6 [.row (tI .i64) 3 u_7 (outV ([] ++ pasV xs)), .box g_1 25 [u_7]] := hS
  refine Wx.nil ?_
  refine W.seq ?_
  refine W.reg ?_
  refine Wx.rd (v := u_7) (rd_loadX hS 1 rfl rfl rfl Tryz.isAgg25) rfl ?_
  refine Wx.rd (v := u_7) (rd_assign rfl) rfl ?_
  refine Wx.nil ?_
  have e0_0 : outV (pasV xs) = outV ([] ++ pasV xs) := by rfl
  exact W.ret ⟨u_7, ResIs.one, hS.bel, ⟨u_7, rfl, (by rw [e0_0]; exact (hS.fr 0 rfl flat_int))⟩⟩

theorem F76 {n : Int} {hi : Int} {w : World} (i_n : InK .i64 n) (i_hi : InK .i64 hi) : Calls Tryz.prog 76 #[.int .i64 n, .int .i64 hi] w (Ret w (fun r _ => r = .bool (decide (0 ≤ n) && decide (n < hi)))) := by
  have b_hi := bd_i64 i_hi
  have b_n := bd_i64 i_n
  have hS := St.start0 w
  refine enterR Tryz.func76 rfl Tryz.ntmps76 Tryz.results76 rfl ?_
  refine W.seq ?_
  refine W.reg ?_
  refine Wx.rd (v := .bool false) (rd_assign rfl) rfl ?_
  refine Wx.nil ?_
  refine W.seq ?_
  refine W.reg ?_
  refine Wx.rd (v := .int .i64 n) (rd_move rfl) rfl ?_
  refine Wx.rd (v := .bool (decide (0 ≤ n))) (rd_leq rfl rfl) rfl ?_
  refine Wx.rd (v := .bool (decide (0 ≤ n))) (rd_move rfl) rfl ?_
  refine Wx.cut (X := Unit) 4 [8, 9, 10, 11] (fun _ => [(11, .bool (decide (0 ≤ n) && decide (n < hi)))]) (fun _ w' => St w [] w' []) ?_ ?_
  · rcases Bool.eq_false_or_eq_true (decide (0 ≤ n)) with g_1 | g_1
    · -- True
      have gp_2 := of_decide_eq_true g_1
      refine Wx.gyes rfl rfl (congrArg Value.bool g_1) ?_
      refine Wx.rd (v := .int .i64 n) (rd_move rfl) rfl ?_
      refine Wx.gyes rfl rfl (congrArg Value.bool g_1) ?_
      refine Wx.rd (v := .int .i64 hi) (rd_move rfl) rfl ?_
      refine Wx.gyes rfl rfl (congrArg Value.bool g_1) ?_
      refine Wx.rd (v := .bool (decide (n < hi))) (rd_lss rfl rfl) rfl ?_
      refine Wx.rd (v := .bool (decide (n < hi))) (rd_pickT (congrArg Value.bool g_1) rfl) rfl ?_
      refine Wx.nil ⟨(), hS, ⟨?_, trivial⟩, Out.look rfl Out.refl⟩
      show Value.bool (decide (n < hi)) = Value.bool (decide (0 ≤ n) && decide (n < hi))
      first | rw [g_1, Bool.true_and] | (rw [g_1]; rfl)
    · -- False
      have gp_3 := of_decide_eq_false g_1
      refine Wx.gnoB rfl rfl (congrArg Value.bool g_1) rfl rfl ?_
      refine Wx.gnoB rfl rfl (congrArg Value.bool g_1) rfl rfl ?_
      refine Wx.gnoB rfl rfl (congrArg Value.bool g_1) rfl rfl ?_
      refine Wx.rd (v := .bool false) (rd_pickF (congrArg Value.bool g_1) rfl) rfl ?_
      refine Wx.nil ⟨(), hS, ⟨?_, trivial⟩, Out.look rfl Out.refl⟩
      show Value.bool false = Value.bool (decide (0 ≤ n) && decide (n < hi))
      first | rw [g_1, Bool.false_and] | (rw [g_1]; rfl)
  rintro ⟨⟩ u_5 w_4 hS
  refine Wx.rd (v := .bool (decide (0 ≤ n) && decide (n < hi))) (rd_assign rfl) rfl ?_
  refine Wx.nil ?_
  exact W.ret ⟨.bool (decide (0 ≤ n) && decide (n < hi)), ResIs.one, hS.bel, rfl⟩

theorem F66 {xv : Value} {xs : List Int} {Fr_xv : List (Option Nat)} {w : World} (h_xv : V (tSl (tI .i64)) xs xv Fr_xv w) (p_ok : PmOK xs) : Calls Tryz.prog 66 #[xv] w (Ret w (fun r _ => r = .int .i64 0)) := by
  have hn := p_ok.n
  have a_xv := h_xv.any
  have l_xv := h_xv.len63
  have hS := St.start0 w
  refine enterR Tryz.func66 rfl Tryz.ntmps66 Tryz.results66 rfl ?_
  refine W.seq ?_
  refine W.reg ?_
  refine Wx.rd (v := .int .i64 0) (rd_assign rfl) rfl ?_
  refine Wx.nil ?_
  refine W.seq ?_
  refine W.seq ?_
  refine W.reg ?_
  refine Wx.rd (v := xv) (rd_move rfl) rfl ?_
  refine Wx.rd (v := .int .i64 (xs.length : Int)) (rd_lenV rfl (hS.arg a_xv) Tryz.underlying25) rfl ?_
  refine Wx.rd (v := .bool (decide ((xs.length : Int) = 0))) (rd_eql rfl rfl) rfl ?_
  refine Wx.rd (v := .bool (decide ((xs.length : Int) = 0))) (rd_move rfl) rfl ?_
  refine Wx.cut (X := Unit) 4 [10, 11, 12, 13] (fun _ => [(13, .bool (decide ((xs.length : Int) = 0) || decide (7 < (xs.length : Int))))]) (fun _ w' => St w [] w' []) ?_ ?_
  · rcases Bool.eq_false_or_eq_true (decide ((xs.length : Int) = 0)) with g_1 | g_1
    · -- True
      have gp_2 := of_decide_eq_true g_1
      refine Wx.gnoB rfl rfl (congrArg Value.bool g_1) rfl rfl ?_
      refine Wx.gnoB rfl rfl (congrArg Value.bool g_1) rfl rfl ?_
      refine Wx.gnoB rfl rfl (congrArg Value.bool g_1) rfl rfl ?_
      refine Wx.rd (v := .bool true) (rd_pickT (congrArg Value.bool g_1) rfl) rfl ?_
      refine Wx.nil ⟨(), hS, ⟨?_, trivial⟩, Out.look rfl Out.refl⟩
      show Value.bool true = Value.bool (decide ((xs.length : Int) = 0) || decide (7 < (xs.length : Int)))
      first | rw [g_1, Bool.true_or] | (rw [g_1]; rfl)
    · -- False
      have gp_3 := of_decide_eq_false g_1
      refine Wx.gyes rfl rfl (congrArg Value.bool g_1) ?_
      refine Wx.rd (v := xv) (rd_move rfl) rfl ?_
      refine Wx.gyes rfl rfl (congrArg Value.bool g_1) ?_
      refine Wx.rd (v := .int .i64 (xs.length : Int)) (rd_lenV rfl (hS.arg a_xv) Tryz.underlying25) rfl ?_
      refine Wx.gyes rfl rfl (congrArg Value.bool g_1) ?_
      refine Wx.rd (v := .bool (decide (7 < (xs.length : Int)))) (rd_gtr rfl rfl) rfl ?_
      refine Wx.rd (v := .bool (decide (7 < (xs.length : Int)))) (rd_pickF (congrArg Value.bool g_1) rfl) rfl ?_
      refine Wx.nil ⟨(), hS, ⟨?_, trivial⟩, Out.look rfl Out.refl⟩
      show Value.bool (decide (7 < (xs.length : Int))) = Value.bool (decide ((xs.length : Int) = 0) || decide (7 < (xs.length : Int)))
      first | rw [g_1, Bool.false_or] | (rw [g_1]; rfl)
  rintro ⟨⟩ u_5 w_4 hS
  refine Wx.nil ?_
  refine W.condF rfl (by rw [decide_eq_false (by omega), decide_eq_false (by omega)]; rfl) ?_
  refine W.skip ?_
  refine W.seq ?_
  refine W.reg ?_
  refine Wx.alloc (cs := List.map Value.bool (List.replicate 7 false)) hS Tryz.zeroValue117 (by kernel_rfl) rfl (fun g_6 w_7 hx_9 hb_8 hS => ?_)
  have hS : St _ _ w_7 [.box g_6 117 (List.map Value.bool (List.replicate 7 false))] := hS
  refine Wx.nil ?_
  refine W.seq ?_
  refine W.seq ?_
  refine W.reg ?_
  refine Wx.rd (v := xv) (rd_move rfl) rfl ?_
  refine Wx.rd (v := .int .i64 (xs.length : Int)) (rd_lenV rfl (hS.arg a_xv) Tryz.underlying25) rfl ?_
  refine Wx.rd (v := .int .i64 0) (rd_move rfl) rfl ?_
  refine Wx.nil ?_
  refine W.block ?_
  refine W.loop [2, 5, 16, 17, 18, 19, 20, 21, 22, 23, 24, 25, 26, 27, 28, 29, 30, 31, 32] (fun x : Int × (List Bool) => match x with | (k, met) => [(16, .int .i64 k)]) (fun (x : Int × (List Bool)) w' => match x with | (k, met) => St w [] w' [.box g_6 117 (List.map Value.bool met)] ∧ 0 ≤ k ∧ k ≤ xs.length ∧ PmI xs k met) (fun x : Int × (List Bool) => match x with | (k, met) => (xs.length - k).toNat) (0, (List.replicate 7 false)) ⟨rfl, trivial⟩ ⟨hS, (by first | omega | simp), (by first | omega | simp), (pm_start)⟩ ?_
  rintro ⟨k, met⟩ u_11 w_10 ⟨hS, h0, h1, h2⟩
  refine W.seq ?_
  refine W.reg ?_
  refine Wx.rd (v := .bool (decide (k < (xs.length : Int)))) (rd_lss rfl rfl) rfl ?_
  refine Wx.nil ?_
  refine W.seq ?_
  refine W.condD rfl (fun c1 => ?_) (fun c1 => ?_)
  · -- yes
    have hkx := p_ok.r _ (ix_inl h0 c1)
    have hfree := pm_free p_ok h2 h0 c1
    have hml := h2.1
    refine W.skip ?_
    refine W.seq ?_
    refine W.block ?_
    refine W.seq ?_
    refine W.reg ?_
    refine Wx.ex (rd_index 0 (hS.arg a_xv) rfl rfl Tryz.underlying25 Tryz.sizeOf3 (by first | omega | (simp only [List.length_set, List.length_append, List.length_cons, List.length_nil, List.length_replicate]; omega)) (by first | omega | (simp only [List.length_set, List.length_append, List.length_cons, List.length_nil, List.length_replicate]; omega))) rfl (fun p_12 hp_13 => ?_)
    refine Wx.rd (v := .int .i64 (ix 0 xs k)) (rd_loadI hp_13 rfl Tryz.isAgg3 Tryz.sizeOf3) rfl ?_
    have bd_14 := bd_i64 hp_13.inK
    refine Wx.rd (v := .int .i64 (ix 0 xs k)) (rd_assign rfl) rfl ?_
    refine Wx.nil ?_
    refine W.seq ?_
    refine W.block ?_
    refine W.seq ?_
    refine W.reg ?_
    refine Wx.rd (v := .int .i64 (ix 0 xs k)) (rd_move rfl) rfl ?_
    refine Wx.rd (v := xv) (rd_move rfl) rfl ?_
    refine Wx.rd (v := .int .i64 (xs.length : Int)) (rd_lenV rfl (hS.arg a_xv) Tryz.underlying25) rfl ?_
    refine Wx.callF (run_callF Tryz.call76 rfl) (F76 (in_i64 (by omega) (by omega)) (in_i64 (by omega) (by omega))) rfl ?_
    rintro r_15 w_16 hx_17 rfl
    have hS := hS.ext hx_17
    refine Wx.rd (v := .bool (!(decide (0 ≤ (ix 0 xs k)) && decide ((ix 0 xs k) < (xs.length : Int))))) (rd_not rfl) rfl ?_
    refine Wx.rd (v := .bool (!(decide (0 ≤ (ix 0 xs k)) && decide ((ix 0 xs k) < (xs.length : Int))))) (rd_assign rfl) rfl ?_
    refine Wx.nil ?_
    refine W.condF rfl (by simp; omega) ?_
    refine W.seq ?_
    refine W.reg ?_
    refine Wx.rd (v := .int .i64 (ix 0 xs k)) (rd_move rfl) rfl ?_
    refine Wx.rd (v := .pointer (some ⟨g_6, 0 + (ix 0 xs k).toNat * 1, none⟩)) (rd_indexArr rfl rfl Tryz.underlying117 Tryz.sizeOf4 (by omega) (by omega)) rfl ?_
    refine Wx.rd (v := .bool (ix false met (ix 0 xs k))) (rd_loadXa (d := false) (f := Value.bool) (j := (ix 0 xs k)) hS 0 rfl rfl (by omega) (by omega) (by omega) Tryz.isAgg4) rfl ?_
    refine Wx.rd (v := .bool (ix false met (ix 0 xs k))) (rd_assign rfl) rfl ?_
    refine Wx.nil ?_
    refine W.condF rfl hfree ?_
    refine W.skip ?_
    refine W.reg ?_
    refine Wx.rd (v := .int .i64 (ix 0 xs k)) (rd_move rfl) rfl ?_
    refine Wx.rd (v := .pointer (some ⟨g_6, 0 + (ix 0 xs k).toNat * 1, none⟩)) (rd_indexArr rfl rfl Tryz.underlying117 Tryz.sizeOf4 (by omega) (by omega)) rfl ?_
    refine Wx.storeXa (j := (ix 0 xs k)) (f := Value.bool) (u := true) hS 0 rfl rfl (by omega) rfl rfl rfl Tryz.sizeOf4 (by omega) (by omega) (fun w_18 hz_19 hS => ?_)
    refine Wx.nil ?_
    refine W.reg ?_
    refine Wx.rd (v := .int .i64 (k + 1)) (rd_add rfl rfl (in_i64 (by omega) (by omega))) rfl ?_
    refine Wx.rd (v := .int .i64 (k + 1)) (rd_move rfl) rfl ?_
    refine Wx.nil ?_
    refine ⟨(k + 1, List.set met (ix 0 xs k).toNat true), (by show (xs.length - (k + 1)).toNat < (xs.length - k).toNat; omega), ?_, ?_, Out.look rfl Out.self⟩
    · exact ⟨hS, (by first | omega | assumption), (by first | omega | assumption), (pm_next p_ok h2 h0 c1)⟩
    · exact ⟨rfl, trivial⟩
  · -- no
    refine W.exit rfl ?_
    refine W.seq ?_
    refine W.reg ?_
    refine Wx.rd (v := .int .i64 0) (rd_assign rfl) rfl ?_
    refine Wx.nil ?_
    exact W.ret ⟨.int .i64 0, ResIs.one, hS.bel, rfl⟩

theorem F51 {xv : Value} {xs : List Int} {O : List (Option Nat)} {w : World} (h_xv : V (tSl (tI .i64)) xs xv O w) (p_ok : PmOK xs) (hO : ∀ b, some b ∈ O → b < w.heap.size) : Calls Tryz.prog 51 #[xv] w (Ret w (fun r w' => ∃ rv, r = .tuple #[rv, .int .i64 0] ∧ Fresh (tI .i64) 3 (outV (pasV xs)) rv w.heap.size w')) := by
  have a_xv := h_xv
  have l_xv := h_xv.len63
  have hS := St.start w O hO
  refine enterR Tryz.func51 rfl Tryz.ntmps51 Tryz.results51 rfl ?_
  refine W.seq ?_
  refine W.reg ?_
  refine Wx.rd (v := (.slice none 0 0)) (rd_assign rfl) rfl ?_
  refine Wx.rd (v := .int .i64 0) (rd_assign rfl) rfl ?_
  refine Wx.nil ?_
  refine W.seq ?_
  refine W.seq ?_
  refine W.reg ?_
  refine Wx.rd (v := xv) (rd_move rfl) rfl ?_
  refine Wx.callF (run_callF Tryz.call66 rfl) (F66 (hS.arg a_xv) p_ok) rfl ?_
  rintro r_1 w_2 hx_3 rfl
  have hS := hS.ext hx_3
  refine Wx.rd (v := .int .i64 0) (rd_assign rfl) rfl ?_
  refine Wx.nil ?_
  refine W.seq ?_
  refine W.reg ?_
  refine Wx.rd (v := .int .i64 0) (rd_move rfl) rfl ?_
  refine Wx.rd (v := .bool false) (Rd.to (v := .bool (decide ((0 : Int) ≠ 0))) (rd_neq rfl rfl) rfl) rfl ?_
  refine Wx.nil ?_
  refine W.condF rfl rfl ?_
  refine W.skip ?_
  refine W.seq ?_
  refine W.reg ?_
  refine Wx.rd (v := xv) (rd_move rfl) rfl ?_
  refine Wx.callF (run_callF Tryz.call67 rfl) (F67 (hS.arg a_xv) p_ok hS.fb_lt) rfl ?_
  rintro r_4 w_5 hx_6 ⟨_, rfl, hv_7⟩
  have hS := hS.pushFr hx_6 hv_7
  refine Wx.rd (v := r_4) (rd_assign rfl) rfl ?_
  refine Wx.rd (v := .int .i64 0) (rd_assign rfl) rfl ?_
  refine Wx.nil ?_
  exact W.ret ⟨.tuple #[r_4, .int .i64 0], ResIs.two, hS.bel, ⟨r_4, rfl, (hS.fr 0 rfl flat_int)⟩⟩
end Go.Proofs.YtlibemgaepkceaaGreatDoor

namespace Go.Proofs.YtlibemgaepkceaaGreatDoor
open Go.Wk Go.RowKit Go.Lib
set_option linter.unusedVariables false
set_option linter.unusedSimpArgs false
theorem elVf_25 : ElemI Tryz.prog 25 3 (.int .i64 0) 1 8 := ElemI.of Tryz.underlying25 (by kernel_rfl) (by first | rfl | kernel_rfl) (by decide)

set_option maxHeartbeats 2000000 in
theorem F31  {w : World} (hG : Laid w) : Calls Tryz.prog 31 #[] w (Ret w (fun r _ => r = .bool true)) := by
  have hS := St.start0 w
  refine enterR Tryz.func31 rfl Tryz.ntmps31 Tryz.results31 rfl ?_
  refine W.seq ?_
  refine W.reg ?_
  refine Wx.rd (v := .bool false) (rd_assign rfl) rfl ?_
  refine Wx.nil ?_
  refine W.seq ?_
  refine W.reg ?_
  refine Wx.lit (t := (tI .i64)) (ys := [1, 2, 0]) (vs := [.int .i64 1, .int .i64 2, .int .i64 0]) elVf_25 hS rfl rfl ⟨(V.mkInt (in_i64 (by omega) (by omega))), ⟨(V.mkInt (in_i64 (by omega) (by omega))), ⟨(V.mkInt (in_i64 (by omega) (by omega))), trivial⟩⟩⟩ (by decide) rfl (fun v_1 w_2 hx_3 hS => ?_)
  have hS := hS.freeze 0 rfl
  refine Wx.callF (run_callF Tryz.call30 rfl) (F30 (hS.v 0 rfl) hS.fb_lt) rfl ?_
  rintro r_5 w_6 hx_7 ⟨_, rfl, hv_8⟩
  have ln_10 := hv_8.len63
  have hS := hS.ext hx_7
  have hS := hS.add hv_8
  refine Wx.callF (run_callF Tryz.call51 rfl) (F51 (hS.v 0 rfl) pm_120 hS.fb_lt) rfl ?_
  rintro r_11 w_12 hx_13 ⟨v_14, rfl, hv_15⟩
  have hS := hS.pushFr hx_13 hv_15
  refine Wx.rd (v := .tuple #[v_14, .int .i64 0]) (rd_move rfl) rfl ?_
  refine Wx.rd (v := v_14) (rd_extract rfl rfl) rfl ?_
  refine Wx.rd (v := .int .i64 0) (rd_extract rfl rfl) rfl ?_
  refine Wx.rd (v := v_14) (rd_assign rfl) rfl ?_
  refine Wx.rd (v := .int .i64 0) (rd_assign rfl) rfl ?_
  refine Wx.nil ?_
  refine W.seq ?_
  refine W.reg ?_
  refine Wx.rd (v := .int .i64 0) (rd_move rfl) rfl ?_
  refine Wx.rd (v := .bool true) (Rd.to (v := .bool (decide ((0 : Int) = 0))) (rd_eql rfl rfl) rfl) rfl ?_
  refine Wx.rd (v := .bool true) (rd_move rfl) rfl ?_
  refine Wx.gyes rfl rfl rfl ?_
  refine Wx.rd (v := v_14) (rd_move rfl) rfl ?_
  refine Wx.gyes rfl rfl rfl ?_
  refine Wx.lit (t := (tI .i64)) (ys := [1, 0, 2]) (vs := [.int .i64 1, .int .i64 0, .int .i64 2]) elVf_25 hS rfl rfl ⟨(V.mkInt (in_i64 (by omega) (by omega))), ⟨(V.mkInt (in_i64 (by omega) (by omega))), ⟨(V.mkInt (in_i64 (by omega) (by omega))), trivial⟩⟩⟩ (by decide) rfl (fun v_17 w_18 hx_19 hS => ?_)
  refine Wx.gyes rfl rfl rfl ?_
  have hS := hS.freeze 0 rfl
  refine Wx.callF (run_callF Tryz.call30 rfl) (F30 (hS.v 0 rfl) hS.fb_lt) rfl ?_
  rintro r_21 w_22 hx_23 ⟨_, rfl, hv_24⟩
  have ln_26 := hv_24.len63
  have hS := hS.ext hx_23
  have hS := hS.add hv_24
  refine Wx.gyes rfl rfl rfl ?_
  refine Wx.callF (run_callF Tryz.call27 rfl) (F27 (hS.lend 2 rfl) (hS.v 0 rfl)) rfl ?_
  rintro r_27 w_28 hx_29 rfl
  have hS := hS.ext hx_29
  rw [show (decide ((outV (pasV [1, 2, 0])) = [1, 0, 2]) : Bool) = true from (by decide +kernel)]
  refine Wx.rd (v := .bool true) (rd_pickT rfl rfl) rfl ?_
  refine Wx.rd (v := .bool true) (rd_move rfl) rfl ?_
  refine Wx.gyes rfl rfl rfl ?_
  refine Wx.callF (run_callF Tryz.call52 rfl) (F52 (hG.ext hS.bel)) rfl ?_
  rintro r_30 w_31 hx_32 rfl
  have hS := hS.ext hx_32
  refine Wx.rd (v := .bool true) (rd_pickT rfl rfl) rfl ?_
  refine Wx.rd (v := .bool true) (rd_assign rfl) rfl ?_
  refine Wx.nil ?_
  exact W.ret ⟨.bool true, ResIs.one, hS.bel, rfl⟩
end Go.Proofs.YtlibemgaepkceaaGreatDoor

namespace Go.Proofs.YtlibemgaepkceaaGreatDoor
open Go.Wk Go.RowKit Go.Lib
set_option linter.unusedVariables false
set_option linter.unusedSimpArgs false
theorem elNg_25 : ElemI Tryz.prog 25 3 (.int .i64 0) 1 8 := ElemI.of Tryz.underlying25 (by kernel_rfl) (by first | rfl | kernel_rfl) (by decide)

set_option maxHeartbeats 2000000 in
theorem F15  {w : World} (hG : Laid w) : Calls Tryz.prog 15 #[] w (Ret w (fun r _ => r = .bool true)) := by
  have hS := St.start0 w
  refine enterR Tryz.func15 rfl Tryz.ntmps15 Tryz.results15 rfl ?_
  refine W.seq ?_
  refine W.reg ?_
  refine Wx.rd (v := .bool false) (rd_assign rfl) rfl ?_
  refine Wx.nil ?_
  refine W.seq ?_
  refine W.reg ?_
  refine Wx.lit (t := (tI .i64)) (ys := [1, 0, 3, 2]) (vs := [.int .i64 1, .int .i64 0, .int .i64 3, .int .i64 2]) elNg_25 hS rfl rfl ⟨(V.mkInt (in_i64 (by omega) (by omega))), ⟨(V.mkInt (in_i64 (by omega) (by omega))), ⟨(V.mkInt (in_i64 (by omega) (by omega))), ⟨(V.mkInt (in_i64 (by omega) (by omega))), trivial⟩⟩⟩⟩ (by decide) rfl (fun v_1 w_2 hx_3 hS => ?_)
  have hS := hS.freeze 0 rfl
  refine Wx.callF (run_callF Tryz.call30 rfl) (F30 (hS.v 0 rfl) hS.fb_lt) rfl ?_
  rintro r_5 w_6 hx_7 ⟨_, rfl, hv_8⟩
  have ln_10 := hv_8.len63
  have hS := hS.ext hx_7
  have hS := hS.add hv_8
  refine Wx.callF (run_callF Tryz.call29 rfl) (F29 (hS.v 0 rfl) rfl hS.fb_lt) rfl ?_
  rintro r_11 w_12 hx_13 ⟨v_14, rfl, hv_15⟩
  have hS := hS.pushFr hx_13 hv_15
  refine Wx.rd (v := .tuple #[v_14, .int .i64 0]) (rd_move rfl) rfl ?_
  refine Wx.rd (v := v_14) (rd_extract rfl rfl) rfl ?_
  refine Wx.rd (v := .int .i64 0) (rd_extract rfl rfl) rfl ?_
  refine Wx.rd (v := v_14) (rd_assign rfl) rfl ?_
  refine Wx.rd (v := .int .i64 0) (rd_assign rfl) rfl ?_
  refine Wx.nil ?_
  refine W.seq ?_
  refine W.reg ?_
  refine Wx.rd (v := .int .i64 0) (rd_move rfl) rfl ?_
  refine Wx.rd (v := .bool true) (Rd.to (v := .bool (decide ((0 : Int) = 0))) (rd_eql rfl rfl) rfl) rfl ?_
  refine Wx.rd (v := .bool true) (rd_move rfl) rfl ?_
  refine Wx.gyes rfl rfl rfl ?_
  refine Wx.rd (v := v_14) (rd_move rfl) rfl ?_
  refine Wx.gyes rfl rfl rfl ?_
  refine Wx.lit (t := (tI .i64)) (ys := [2, 3, 1, 0]) (vs := [.int .i64 2, .int .i64 3, .int .i64 1, .int .i64 0]) elNg_25 hS rfl rfl ⟨(V.mkInt (in_i64 (by omega) (by omega))), ⟨(V.mkInt (in_i64 (by omega) (by omega))), ⟨(V.mkInt (in_i64 (by omega) (by omega))), ⟨(V.mkInt (in_i64 (by omega) (by omega))), trivial⟩⟩⟩⟩ (by decide) rfl (fun v_17 w_18 hx_19 hS => ?_)
  refine Wx.gyes rfl rfl rfl ?_
  have hS := hS.freeze 0 rfl
  refine Wx.callF (run_callF Tryz.call30 rfl) (F30 (hS.v 0 rfl) hS.fb_lt) rfl ?_
  rintro r_21 w_22 hx_23 ⟨_, rfl, hv_24⟩
  have ln_26 := hv_24.len63
  have hS := hS.ext hx_23
  have hS := hS.add hv_24
  refine Wx.gyes rfl rfl rfl ?_
  refine Wx.callF (run_callF Tryz.call27 rfl) (F27 (hS.lend 2 rfl) (hS.v 0 rfl)) rfl ?_
  rintro r_27 w_28 hx_29 rfl
  have hS := hS.ext hx_29
  rw [show (decide (([2, 3, 1, 0] : List Int) = [2, 3, 1, 0]) : Bool) = true from (by decide +kernel)]
  refine Wx.rd (v := .bool true) (rd_pickT rfl rfl) rfl ?_
  refine Wx.rd (v := .bool true) (rd_move rfl) rfl ?_
  refine Wx.gyes rfl rfl rfl ?_
  refine Wx.callF (run_callF Tryz.call31 rfl) (F31 (hG.ext hS.bel)) rfl ?_
  rintro r_30 w_31 hx_32 rfl
  have hS := hS.ext hx_32
  refine Wx.rd (v := .bool true) (rd_pickT rfl rfl) rfl ?_
  refine Wx.rd (v := .bool true) (rd_assign rfl) rfl ?_
  refine Wx.nil ?_
  exact W.ret ⟨.bool true, ResIs.one, hS.bel, rfl⟩
end Go.Proofs.YtlibemgaepkceaaGreatDoor

namespace Go.Proofs.YtlibemgaepkceaaGreatDoor
open Go.Wk Go.RowKit Go.Lib
set_option linter.unusedVariables false
set_option linter.unusedSimpArgs false
theorem mixedTa_ : Tryz.prog.follows .mixedOrders = true := by kernel_rfl

theorem F26 {xv : Value} {xs : List (List Int)} {Fr_xv : List (Option Nat)} {yv : Value} {ys : List (List Int)} {Fr_yv : List (Option Nat)} {w : World} (h_xv : V (tSl (tSl (tI .i64))) xs xv Fr_xv w) (h_yv : V (tSl (tSl (tI .i64))) ys yv Fr_yv w) : Calls Tryz.prog 26 #[xv, yv, .func (.func 27) #[] #[]] w (Ret w (fun r _ => r = .bool (decide (xs = ys)))) := by
  have a_xv := h_xv.any
  have l_xv := h_xv.len63
  have a_yv := h_yv.any
  have l_yv := h_yv.len63
  have hS := St.start0 w
  refine enterR Tryz.func26 rfl Tryz.ntmps26 Tryz.results26 rfl ?_
  refine W.seq ?_
  refine W.reg ?_
  refine Wx.rd (v := .bool false) (rd_assign rfl) rfl ?_
  refine Wx.nil ?_
  refine W.seq ?_
  refine W.seq ?_
  refine W.reg ?_
  refine Wx.rd (v := xv) (rd_move rfl) rfl ?_
  refine Wx.rd (v := .int .i64 (xs.length : Int)) (rd_lenV rfl (hS.arg a_xv) Tryz.underlying24) rfl ?_
  refine Wx.rd (v := yv) (rd_move rfl) rfl ?_
  refine Wx.rd (v := .int .i64 (ys.length : Int)) (rd_lenV rfl (hS.arg a_yv) Tryz.underlying24) rfl ?_
  refine Wx.rd (v := .bool (decide ((xs.length : Int) ≠ (ys.length : Int)))) (rd_neq rfl rfl) rfl ?_
  refine Wx.nil ?_
  refine W.condD rfl (fun c0 => ?_) (fun c0 => ?_)
  · -- yes
    refine W.seq ?_
    refine W.reg ?_
    refine Wx.rd (v := .bool false) (rd_assign rfl) rfl ?_
    refine Wx.nil ?_
    have e0_0 : (decide (xs = ys)) = false := by exact decide_eq_false (fun h : xs = ys => c0 (by rw [h]))
    exact W.ret ⟨.bool false, ResIs.one, hS.bel, (by rw [e0_0])⟩
  · -- no
    refine W.skip ?_
    refine W.seq ?_
    refine W.seq ?_
    refine W.reg ?_
    refine Wx.rd (v := xv) (rd_move rfl) rfl ?_
    refine Wx.rd (v := .int .i64 (xs.length : Int)) (rd_lenV rfl (hS.arg a_xv) Tryz.underlying24) rfl ?_
    refine Wx.rd (v := .int .i64 0) (rd_move rfl) rfl ?_
    refine Wx.nil ?_
    refine W.block ?_
    refine W.loop [6, 7, 8, 9, 17, 18, 19, 20, 21, 22, 23, 24, 25, 26, 27, 28, 29, 30, 31] (fun (k : Int) => [(17, .int .i64 k)]) (fun (k : Int) w' => St w [] w' [] ∧ 0 ≤ k ∧ k ≤ xs.length ∧ decide (xs.drop k.toNat = ys.drop k.toNat) = decide (xs = ys)) (fun (k : Int) => (xs.length - k).toNat) 0 ⟨rfl, trivial⟩ ⟨hS, (by first | omega | simp), (by first | omega | simp), (by simp)⟩ ?_
    rintro k u_2 w_1 ⟨hS, h0, h1, h2⟩
    refine W.seq ?_
    refine W.reg ?_
    refine Wx.rd (v := .bool (decide (k < (xs.length : Int)))) (rd_lss rfl rfl) rfl ?_
    refine Wx.nil ?_
    refine W.seq ?_
    refine W.condD rfl (fun c1 => ?_) (fun c1 => ?_)
    · -- yes
      refine W.skip ?_
      refine W.seq ?_
      refine W.block ?_
      refine W.seq ?_
      refine W.reg ?_
      refine Wx.rd (v := .int .i64 k) (rd_move rfl) rfl ?_
      refine Wx.ex (rd_index [] (hS.arg a_xv) rfl rfl Tryz.underlying24 Tryz.sizeOf25 (by first | omega | (simp only [List.length_set, List.length_append, List.length_cons, List.length_nil, List.length_replicate]; omega)) (by first | omega | (simp only [List.length_set, List.length_append, List.length_cons, List.length_nil, List.length_replicate]; omega))) rfl (fun p_3 hp_4 => ?_)
      refine Wx.ex (rd_load hp_4 rfl Tryz.isAgg25 Tryz.sizeOf25) rfl (fun v_5 hv_6 => ?_)
      have ln_7 := hv_6.len63
      have hS := hS.add hv_6
      refine Wx.rd (v := .int .i64 k) (rd_assign rfl) rfl ?_
      refine Wx.rd (v := v_5) (rd_assign rfl) rfl ?_
      refine Wx.nil ?_
      refine W.seq ?_
      refine W.reg ?_
      refine Wx.rd (v := yv) (rd_move rfl) rfl ?_
      refine Wx.rd (v := .int .i64 k) (rd_move rfl) rfl ?_
      refine Wx.ex (rd_index [] (hS.arg a_yv) rfl rfl Tryz.underlying24 Tryz.sizeOf25 (by first | omega | (simp only [List.length_set, List.length_append, List.length_cons, List.length_nil, List.length_replicate]; omega)) (by first | omega | (simp only [List.length_set, List.length_append, List.length_cons, List.length_nil, List.length_replicate]; omega))) rfl (fun p_9 hp_10 => ?_)
      refine Wx.ex (rd_load hp_10 rfl Tryz.isAgg25 Tryz.sizeOf25) rfl (fun v_11 hv_12 => ?_)
      have ln_13 := hv_12.len63
      have hS := hS.add hv_12
      refine Wx.rd (v := v_11) (rd_assign rfl) rfl ?_
      refine Wx.nil ?_
      refine W.seq ?_
      refine W.reg ?_
      refine Wx.rd (v := .func (.func 27) #[] #[]) (rd_move rfl) rfl ?_
      refine Wx.rd (v := v_5) (rd_move rfl) rfl ?_
      refine Wx.rd (v := v_11) (rd_move rfl) rfl ?_
      refine Wx.callF (run_callC (fs := []) (cs := []) (vs := [v_5, v_11]) Tryz.call27 rfl rfl) (F27 (hS.v 1 rfl) (hS.v 0 rfl)) rfl ?_
      rintro r_15 w_16 hx_17 rfl
      have hS := hS.ext hx_17
      refine Wx.rd (v := .bool (!(decide ((ix [] xs k) = (ix [] ys k))))) (rd_not rfl) rfl ?_
      refine Wx.nil ?_
      refine W.cond rfl (fun c2 => ?_) (fun c2 => ?_)
      · -- yes
        try simp only [Bool.and_eq_true, Bool.or_eq_true, Bool.not_eq_true', Bool.and_eq_false_iff, Bool.or_eq_false_iff, Bool.not_eq_false', decide_eq_true_eq, decide_eq_false_iff_not, not_or, Bool.false_eq_true, Bool.true_eq_false, false_or, or_false, not_false_eq_true] at c2
        refine W.seq ?_
        refine W.reg ?_
        refine Wx.rd (v := .bool false) (rd_assign rfl) rfl ?_
        refine Wx.nil ?_
        have he : ¬ ix [] xs k = ix [] ys k := of_decide_eq_false (by simpa using c2)
        have e1_0 : (decide (xs = ys)) = false := by rw [← h2, drop_ix (d := []) h0 c1, drop_ix (d := []) (xs := ys) h0 (by omega)]; simp [he]
        exact W.ret ⟨.bool false, ResIs.one, hS.bel, (by rw [e1_0])⟩
      · -- no
        try simp only [Bool.and_eq_true, Bool.or_eq_true, Bool.not_eq_true', Bool.and_eq_false_iff, Bool.or_eq_false_iff, Bool.not_eq_false', decide_eq_true_eq, decide_eq_false_iff_not, not_or, Bool.false_eq_true, Bool.true_eq_false, false_or, or_false, not_false_eq_true] at c2
        refine W.skip ?_
        refine W.reg ?_
        refine Wx.rd (v := .int .i64 (k + 1)) (rd_add rfl rfl (in_i64 (by omega) (by omega))) rfl ?_
        refine Wx.rd (v := .int .i64 (k + 1)) (rd_move rfl) rfl ?_
        refine Wx.nil ?_
        have he : ix [] xs k = ix [] ys k := of_decide_eq_true (by simpa using c2)
        refine ⟨k + 1, (by show (xs.length - (k + 1)).toNat < (xs.length - k).toNat; omega), ?_, ?_, Out.look rfl Out.self⟩
        · exact ⟨St.tl (hS.tl), (by first | omega | assumption), (by first | omega | assumption), (by rw [← h2, drop_ix (d := []) h0 c1, drop_ix (d := []) (xs := ys) h0 (by omega)]; simp [he])⟩
        · exact ⟨rfl, trivial⟩
    · -- no
      refine W.exit rfl ?_
      refine W.seq ?_
      refine W.reg ?_
      refine Wx.rd (v := .bool true) (rd_assign rfl) rfl ?_
      refine Wx.nil ?_
      have e2_0 : (decide (xs = ys)) = true := by rw [← h2, drop_end (by omega), drop_end (xs := ys) (by omega)]; simp
      exact W.ret ⟨.bool true, ResIs.one, hS.bel, (by rw [e2_0])⟩

theorem F13 {xv : Value} {xs : List (List Int)} {Fr_xv : List (Option Nat)} {yv : Value} {ys : List (List Int)} {Fr_yv : List (Option Nat)} {w : World} (h_xv : V (tSl (tSl (tI .i64))) xs xv Fr_xv w) (h_yv : V (tSl (tSl (tI .i64))) ys yv Fr_yv w) : Calls Tryz.prog 13 #[xv, yv] w (Ret w (fun r _ => r = .bool (decide (xs = ys)))) := by
  have a_xv := h_xv.any
  have l_xv := h_xv.len63
  have a_yv := h_yv.any
  have l_yv := h_yv.len63
  have hS := St.start0 w
  refine enterR Tryz.func13 rfl Tryz.ntmps13 Tryz.results13 rfl ?_
  refine W.seq ?_
  refine W.reg ?_
  refine Wx.rd (v := .bool false) (rd_assign rfl) rfl ?_
  refine Wx.nil ?_
  refine W.seq ?_
  refine W.reg ?_
  refine Wx.rd (v := xv) (rd_move rfl) rfl ?_
  refine Wx.rd (v := yv) (rd_move rfl) rfl ?_
  refine Wx.callF (run_callF Tryz.call26 rfl) (F26 (hS.arg a_xv) (hS.arg a_yv)) rfl ?_
  rintro r_1 w_2 hx_3 rfl
  have hS := hS.ext hx_3
  refine Wx.rd (v := .bool (decide (xs = ys))) (rd_assign rfl) rfl ?_
  refine Wx.nil ?_
  exact W.ret ⟨.bool (decide (xs = ys)), ResIs.one, hS.bel, rfl⟩

theorem F45 {x : Int} {w : World} (i_x : InK .i64 x) : Calls Tryz.prog 45 #[.int .i64 x] w (Ret w (fun r _ => r = .bool false)) := by
  have b_x := bd_i64 i_x
  have hS := St.start0 w
  refine enterR Tryz.func45 rfl Tryz.ntmps45 Tryz.results45 rfl ?_
  refine W.seq ?_
  refine W.reg ?_
  refine Wx.rd (v := .bool false) (rd_assign rfl) rfl ?_
  refine Wx.nil ?_
  refine W.seq ?_
  refine W.reg ?_
  refine Wx.rd (v := .int .i64 x) (rd_move rfl) rfl ?_
  refine Wx.rd (v := .int .i64 x) (rd_move rfl) rfl ?_
  refine Wx.rd (v := .bool (decide (x ≠ x))) (rd_neq rfl rfl) rfl ?_
  refine Wx.rd (v := .bool (decide (x ≠ x))) (rd_assign rfl) rfl ?_
  refine Wx.nil ?_
  have e0_0 : (decide (x ≠ x)) = false := by simp
  exact W.ret ⟨.bool (decide (x ≠ x)), ResIs.one, hS.bel, (by rw [e0_0])⟩

theorem F28 {x : Int} {y : Int} {w : World} (i_x : InK .i64 x) (i_y : InK .i64 y) : Calls Tryz.prog 28 #[.int .i64 x, .int .i64 y] w (Ret w (fun r _ => r = .bool (decide (x < y)))) := by
  have b_y := bd_i64 i_y
  have b_x := bd_i64 i_x
  have hS := St.start0 w
  refine enterR Tryz.func28 rfl Tryz.ntmps28 Tryz.results28 rfl ?_
  refine W.seq ?_
  refine W.reg ?_
  refine Wx.rd (v := .bool false) (rd_assign rfl) rfl ?_
  refine Wx.nil ?_
  refine W.seq ?_
  refine W.reg ?_
  refine Wx.rd (v := .int .i64 x) (rd_move rfl) rfl ?_
  refine Wx.callF (run_callF Tryz.call45 rfl) (F45 i_x) rfl ?_
  rintro r_1 w_2 hx_3 rfl
  have hS := hS.ext hx_3
  refine Wx.rd (v := .bool false) (rd_move rfl) rfl ?_
  refine Wx.gnoB rfl rfl rfl rfl rfl ?_
  refine Wx.gnoB rfl rfl rfl rfl rfl ?_
  refine Wx.gnoB rfl rfl rfl rfl rfl ?_
  refine Wx.rd (v := .bool false) (rd_pickF rfl rfl) rfl ?_
  refine Wx.rd (v := .bool false) (rd_move rfl) rfl ?_
  refine Wx.gyes rfl rfl rfl ?_
  refine Wx.rd (v := .int .i64 x) (rd_move rfl) rfl ?_
  refine Wx.gyes rfl rfl rfl ?_
  refine Wx.rd (v := .int .i64 y) (rd_move rfl) rfl ?_
  refine Wx.gyes rfl rfl rfl ?_
  refine Wx.rd (v := .bool (decide (x < y))) (rd_lss rfl rfl) rfl ?_
  refine Wx.rd (v := .bool (decide (x < y))) (rd_pickF rfl rfl) rfl ?_
  refine Wx.rd (v := .bool (decide (x < y))) (rd_assign rfl) rfl ?_
  refine Wx.nil ?_
  exact W.ret ⟨.bool (decide (x < y)), ResIs.one, hS.bel, rfl⟩

theorem F14 {xv : Value} {xs : List Int} {Fr_xv : List (Option Nat)} {w : World} (h_xv : V (tSl (tI .i64)) xs xv Fr_xv w) (p_x : xs = upR xs.length) : Calls Tryz.prog 14 #[xv] w (Ret w (fun r _ => r = .bool true)) := by
  have a_xv := h_xv.any
  have l_xv := h_xv.len63
  have hS := St.start0 w
  refine enterR Tryz.func14 rfl Tryz.ntmps14 Tryz.results14 rfl ?_
  refine W.seq ?_
  refine W.reg ?_
  refine Wx.rd (v := .bool false) (rd_assign rfl) rfl ?_
  refine Wx.nil ?_
  refine W.seq ?_
  refine W.seq ?_
  refine W.reg ?_
  refine Wx.rd (v := xv) (rd_move rfl) rfl ?_
  refine Wx.rd (v := .int .i64 (xs.length : Int)) (rd_lenV rfl (hS.arg a_xv) Tryz.underlying25) rfl ?_
  refine Wx.rd (v := .int .i64 ((xs.length : Int) - 1)) (rd_sub rfl rfl (in_i64 (by omega) (by omega))) rfl ?_
  refine Wx.rd (v := .int .i64 ((xs.length : Int) - 1)) (rd_assign rfl) rfl ?_
  refine Wx.nil ?_
  refine W.block ?_
  refine W.loop [2, 3, 7, 8, 9, 10, 11, 12, 13, 14, 15, 16, 17, 18, 19, 20] (fun (i : Int) => [(3, .int .i64 i)]) (fun (i : Int) w' => St w [] w' [] ∧ -1 ≤ i ∧ i ≤ xs.length - 1) (fun (i : Int) => i.toNat) ((xs.length : Int) - 1) ⟨rfl, trivial⟩ ⟨hS, (by first | omega | simp), (by first | omega | simp)⟩ ?_
  rintro i u_2 w_1 ⟨hS, h0, h1⟩
  refine W.seq ?_
  refine W.seq ?_
  refine W.reg ?_
  refine Wx.rd (v := .int .i64 i) (rd_move rfl) rfl ?_
  refine Wx.rd (v := .bool (decide (0 < i))) (rd_gtr rfl rfl) rfl ?_
  refine Wx.nil ?_
  refine W.condD rfl (fun c0 => ?_) (fun c0 => ?_)
  · -- yes
    have hx1 := upR_ix (n := xs.length) (i := i) (by omega) (by omega)
    have hx2 := upR_ix (n := xs.length) (i := i - 1) (by omega) (by omega)
    rw [← p_x] at hx1 hx2
    refine W.skip ?_
    refine W.seq ?_
    refine W.block ?_
    refine W.seq ?_
    refine W.regQ mixedTa_ (by kernel_rfl) ?_
    refine Wx.rd (v := xv) (rd_move rfl) rfl ?_
    refine Wx.rd (v := .int .i64 i) (rd_move rfl) rfl ?_
    refine Wx.ex (rd_index 0 (hS.arg a_xv) rfl rfl Tryz.underlying25 Tryz.sizeOf3 (by first | omega | (simp only [List.length_set, List.length_append, List.length_cons, List.length_nil, List.length_replicate]; omega)) (by first | omega | (simp only [List.length_set, List.length_append, List.length_cons, List.length_nil, List.length_replicate]; omega))) rfl (fun p_3 hp_4 => ?_)
    refine Wx.rd (v := .int .i64 (ix 0 xs i)) (rd_loadI hp_4 rfl Tryz.isAgg3 Tryz.sizeOf3) rfl ?_
    have bd_5 := bd_i64 hp_4.inK
    refine Wx.rd (v := xv) (rd_move rfl) rfl ?_
    refine Wx.rd (v := .int .i64 i) (rd_move rfl) rfl ?_
    refine Wx.rd (v := .int .i64 (i - 1)) (rd_sub rfl rfl (in_i64 (by omega) (by omega))) rfl ?_
    refine Wx.ex (rd_index 0 (hS.arg a_xv) rfl rfl Tryz.underlying25 Tryz.sizeOf3 (by first | omega | (simp only [List.length_set, List.length_append, List.length_cons, List.length_nil, List.length_replicate]; omega)) (by first | omega | (simp only [List.length_set, List.length_append, List.length_cons, List.length_nil, List.length_replicate]; omega))) rfl (fun p_6 hp_7 => ?_)
    refine Wx.rd (v := .int .i64 (ix 0 xs (i - 1))) (rd_loadI hp_7 rfl Tryz.isAgg3 Tryz.sizeOf3) rfl ?_
    have bd_8 := bd_i64 hp_7.inK
    refine Wx.callV (v := .bool (decide ((ix 0 xs i) < (ix 0 xs (i - 1))))) (run_callF Tryz.call28 rfl) (fun w_9 hw_10 => (F28 (in_i64 (by omega) (by omega)) (in_i64 (by omega) (by omega)))) rfl ?_
    refine Wx.nilQ (fun w_11 hx_12 => ?_)
    have hS := hS.ext hx_12
    refine W.condF rfl (decide_eq_false (by omega)) ?_
    refine W.skip ?_
    refine W.reg ?_
    refine Wx.rd (v := .int .i64 i) (rd_move rfl) rfl ?_
    refine Wx.rd (v := .int .i64 (i - 1)) (rd_sub rfl rfl (in_i64 (by omega) (by omega))) rfl ?_
    refine Wx.rd (v := .int .i64 (i - 1)) (rd_assign rfl) rfl ?_
    refine Wx.nil ?_
    refine ⟨i - 1, (by show (i - 1).toNat < i.toNat; omega), ?_, ?_, Out.look rfl Out.self⟩
    · exact ⟨hS, (by first | omega | assumption), (by first | omega | assumption)⟩
    · exact ⟨rfl, trivial⟩
  · -- no
    refine W.exit rfl ?_
    refine W.seq ?_
    refine W.reg ?_
    refine Wx.rd (v := .bool true) (rd_assign rfl) rfl ?_
    refine Wx.nil ?_
    exact W.ret ⟨.bool true, ResIs.one, hS.bel, rfl⟩
end Go.Proofs.YtlibemgaepkceaaGreatDoor

namespace Go.Proofs.YtlibemgaepkceaaGreatDoor
open Go.Wk Go.RowKit Go.Lib
set_option linter.unusedVariables false
set_option linter.unusedSimpArgs false
theorem elTb_25 : ElemI Tryz.prog 25 3 (.int .i64 0) 1 8 := ElemI.of Tryz.underlying25 (by kernel_rfl) (by first | rfl | kernel_rfl) (by decide)
theorem mixedTb_ : Tryz.prog.follows .mixedOrders = true := by kernel_rfl

theorem F4 {n : Int} {bs : List Int} {O : List (Option Nat)} {w : World} (i_n : InK .i64 n) (n_bs : bs.length = 7) (i_bs : ∀ z ∈ bs, InK .u8 z) (p_m : 1 ≤ n ∧ n ≤ 6) (hO : ∀ b, some b ∈ O → b < w.heap.size) : Calls Tryz.prog 4 #[.int .i64 n, .agg (List.map (Value.int .u8) bs).toArray] w (Ret w (fun r w' => ∃ rv, r = rv ∧ Fresh (tI .i64) 3 (deaV n.toNat bs) rv w.heap.size w')) := by
  have b_n := bd_i64 i_n
  have hS := St.start w O hO
  refine enterR Tryz.func4 rfl Tryz.ntmps4 Tryz.results4 rfl ?_
  refine W.seq ?_
  refine W.reg ?_
  refine Wx.box (cs := List.map (Value.int .u8) bs) hS rfl rfl rfl (fun g_1 w_2 hx_4 hb_3 hS => ?_)
  refine Wx.rd (v := (.slice none 0 0)) (rd_assign rfl) rfl ?_
  refine Wx.nil ?_
  refine W.seq ?_
  refine W.reg ?_
  refine Wx.rd (v := (.slice none 0 0)) (rd_assign rfl) rfl ?_
  refine Wx.rd (v := (.slice none 0 0)) (rd_assign rfl) rfl ?_
  refine Wx.nil ?_
  refine W.seq ?_
  refine W.seq ?_
  refine W.reg ?_
  refine Wx.rd (v := .int .i64 n) (rd_move rfl) rfl ?_
  refine Wx.rd (v := .int .i64 0) (rd_move rfl) rfl ?_
  refine Wx.nil ?_
  refine W.block ?_
  have hS := hS.addNil (tI .i64) 3
  refine W.loop [5, 7, 11, 12, 13, 14, 15, 16, 17, 18] (fun x : Int × Value × (List Int) => match x with | (k, v2, ys) => [(11, .int .i64 k), (5, v2)]) (fun (x : Int × Value × (List Int)) w' => match x with | (k, v2, ys) => St w O w' [.row (tI .i64) 3 v2 ys, .box g_1 22 (List.map (Value.int .u8) bs)] ∧ 0 ≤ k ∧ k ≤ n ∧ ys = upL k ∧ (ys.length : Int) = k) (fun x : Int × Value × (List Int) => match x with | (k, v2, ys) => (n - k).toNat) (0, (.slice none 0 0), []) ⟨rfl, rfl, trivial⟩ ⟨hS, (by first | omega | simp), (by first | omega | simp), (rfl), (rfl)⟩ ?_
  rintro ⟨k, v2, ys⟩ u_6 w_5 ⟨hS, h0, h1, h2, h3⟩
  refine W.seq ?_
  refine W.reg ?_
  refine Wx.rd (v := .bool (decide (k < n))) (rd_lss rfl rfl) rfl ?_
  refine Wx.nil ?_
  refine W.seq ?_
  refine W.condD rfl (fun c0 => ?_) (fun c0 => ?_)
  · -- yes
    refine W.skip ?_
    refine W.seq ?_
    refine W.block ?_
    refine W.seq ?_
    refine W.reg ?_
    refine Wx.rd (v := .int .i64 k) (rd_move rfl) rfl ?_
    refine Wx.rd (v := .int .i64 k) (rd_assign rfl) rfl ?_
    refine Wx.nil ?_
    refine W.reg ?_
    refine Wx.rd (v := v2) (rd_move rfl) rfl ?_
    refine Wx.rd (v := .int .i64 k) (rd_move rfl) rfl ?_
    refine Wx.lit (t := (tI .i64)) (ys := [k]) (vs := [.int .i64 k]) elTb_25 hS rfl rfl ⟨(V.mkInt (in_i64 (by omega) (by omega))), trivial⟩ (by decide) rfl (fun v_7 w_8 hx_9 hS => ?_)
    refine Wx.append elTb_25 hS 1 rfl rfl rfl (Src.ofR hS 0 rfl) (by simp only [maxLen]; first | omega | (simp; omega) | simp) (by first | omega | (simp; omega) | simp) rfl (fun v_10 w_11 hz_12 hS => ?_)
    refine Wx.rd (v := v_10) (rd_assign rfl) rfl ?_
    refine Wx.nil ?_
    refine W.reg ?_
    refine Wx.rd (v := .int .i64 (k + 1)) (rd_add rfl rfl (in_i64 (by omega) (by omega))) rfl ?_
    refine Wx.rd (v := .int .i64 (k + 1)) (rd_move rfl) rfl ?_
    refine Wx.nil ?_
    refine ⟨(k + 1, v_10, ys ++ [k]), (by show (n - (k + 1)).toNat < (n - k).toNat; omega), ?_, ?_, Out.look rfl Out.self⟩
    · exact ⟨hS.tl, (by first | omega | assumption), (by first | omega | assumption), (by rw [h2, upL_suc h0]), (by simp only [List.length_append, List.length_cons, List.length_nil]; omega)⟩
    · exact ⟨rfl, rfl, trivial⟩
  · -- no
    refine W.exit rfl ?_
    refine W.seq ?_
    refine W.seq ?_
    refine W.reg ?_
    refine Wx.rd (v := .int .i64 n) (rd_move rfl) rfl ?_
    refine Wx.rd (v := .int .i64 0) (rd_move rfl) rfl ?_
    refine Wx.nil ?_
    refine W.block ?_
    have hku : k = n := by omega
    have hS := hS.addNil (tI .i64) 3
    have hS := hS.freeze 1 rfl
    have hv_15 : V (tSl (tI .i64)) ys v2 _ _ := (hS.v 0 rfl)
    have hS := hS.add (hv_15)
    refine W.loop [5, 6, 8, 9, 20, 21, 22, 23, 24, 25, 26, 27, 28, 29, 30, 31, 32, 33, 34, 35, 36, 37, 38, 39, 40, 41, 42, 43, 44, 45, 46] (fun x : Value × (List Int) × Int × Value × (List Int) => match x with | (lv, ls, i, u2, os) => [(5, lv), (20, .int .i64 i), (6, u2)]) (fun (x : Value × (List Int) × Int × Value × (List Int)) w' => match x with | (lv, ls, i, u2, os) => St w O w' [Ob.v (tSl (tI .i64)) ls lv, Ob.v (tSl (tI .i64)) ys v2, .row (tI .i64) 3 u2 os, .box g_1 22 (List.map (Value.int .u8) bs)] ∧ 0 ≤ i ∧ i ≤ n ∧ comK n bs i = (ls, os) ∧ (ls.length : Int) = n - i ∧ (os.length : Int) = i) (fun x : Value × (List Int) × Int × Value × (List Int) => match x with | (lv, ls, i, u2, os) => (n - i).toNat) (v2, ys, 0, (.slice none 0 0), []) ⟨rfl, rfl, rfl, trivial⟩ ⟨hS, (by first | omega | simp), (by first | omega | simp), (by rw [h2, hku]; rfl), (by omega), (rfl)⟩ ?_
    rintro ⟨lv, ls, i, u2, os⟩ u_17 w_16 ⟨hS, i0, i1, i2, i3, i4⟩
    refine W.seq ?_
    refine W.reg ?_
    refine Wx.rd (v := .bool (decide (i < n))) (rd_lss rfl rfl) rfl ?_
    refine Wx.nil ?_
    refine W.seq ?_
    refine W.condD rfl (fun c1 => ?_) (fun c1 => ?_)
    · -- yes
      have hcm0 := Int.emod_nonneg (ix 0 bs i) (show (ls.length : Int) ≠ 0 by omega)
      have hcm1 := Int.emod_lt_of_pos (ix 0 bs i) (show (0 : Int) < ls.length by omega)
      have hcl := coms_len (s := (ls, os)) (c := ix 0 bs i) (by show 0 < ls.length; omega)
      simp only [comS] at hcl
      refine W.skip ?_
      refine W.seq ?_
      refine W.block ?_
      refine W.seq ?_
      refine W.reg ?_
      refine Wx.rd (v := .int .i64 i) (rd_move rfl) rfl ?_
      refine Wx.rd (v := .int .i64 i) (rd_assign rfl) rfl ?_
      refine Wx.nil ?_
      refine W.seq ?_
      refine W.reg ?_
      refine Wx.rd (v := .int .i64 i) (rd_move rfl) rfl ?_
      refine Wx.rd (v := .pointer (some ⟨g_1, 0 + i.toNat * 1, none⟩)) (rd_indexArr rfl rfl Tryz.underlying22 Tryz.sizeOf5 (by omega) (by omega)) rfl ?_
      have bz_18 := ix_u8 i_bs i
      refine Wx.rd (v := .int .u8 (ix 0 bs i)) (rd_loadXa (d := 0) (f := (Value.int .u8)) (j := i) hS 3 rfl rfl (by omega) (by omega) (by omega) Tryz.isAgg5) rfl ?_
      refine Wx.rd (v := .int .i64 (ix 0 bs i)) (rd_convIn rfl Tryz.underlying5 Tryz.underlying3 (in_i64 (by omega) (by omega))) rfl ?_
      refine Wx.rd (v := lv) (rd_move rfl) rfl ?_
      refine Wx.rd (v := .int .i64 (ls.length : Int)) (rd_lenV rfl (hS.v 0 rfl) Tryz.underlying25) rfl ?_
      refine Wx.rd (v := .int .i64 ((ix 0 bs i) % (ls.length : Int))) (rd_rem rfl rfl (by omega) (by omega)) rfl ?_
      refine Wx.rd (v := .int .i64 ((ix 0 bs i) % (ls.length : Int))) (rd_assign rfl) rfl ?_
      refine Wx.nil ?_
      refine W.seq ?_
      refine W.reg ?_
      refine Wx.rd (v := u2) (rd_move rfl) rfl ?_
      refine Wx.rd (v := lv) (rd_move rfl) rfl ?_
      refine Wx.rd (v := .int .i64 ((ix 0 bs i) % (ls.length : Int))) (rd_move rfl) rfl ?_
      refine Wx.ex (rd_index 0 (hS.v 0 rfl) rfl rfl Tryz.underlying25 Tryz.sizeOf3 (by first | omega | (simp only [List.length_set, List.length_append, List.length_cons, List.length_nil, List.length_replicate]; omega)) (by first | omega | (simp only [List.length_set, List.length_append, List.length_cons, List.length_nil, List.length_replicate]; omega))) rfl (fun p_19 hp_20 => ?_)
      refine Wx.rd (v := .int .i64 (ix 0 ls ((ix 0 bs i) % (ls.length : Int)))) (rd_loadI hp_20 rfl Tryz.isAgg3 Tryz.sizeOf3) rfl ?_
      have bd_21 := bd_i64 hp_20.inK
      refine Wx.lit (t := (tI .i64)) (ys := [ix 0 ls ((ix 0 bs i) % (ls.length : Int))]) (vs := [.int .i64 (ix 0 ls ((ix 0 bs i) % (ls.length : Int)))]) elTb_25 hS rfl rfl ⟨(V.mkInt (in_i64 (by omega) (by omega))), trivial⟩ (by decide) rfl (fun v_22 w_23 hx_24 hS => ?_)
      refine Wx.append elTb_25 hS 3 rfl rfl rfl (Src.ofR hS 0 rfl) (by simp only [maxLen]; first | omega | (simp; omega) | simp) (by first | omega | (simp; omega) | simp) rfl (fun v_25 w_26 hz_27 hS => ?_)
      refine Wx.rd (v := v_25) (rd_assign rfl) rfl ?_
      refine Wx.nil ?_
      refine W.regH mixedTb_ (fun w_28 hx_29 => ?_)
      have h0 := hS
      have hS := (St.start _ _ h0.fb_lt).ext hx_29
      refine Wh.rd (v := lv) 0 rfl (by kernel_rfl) hS.bel (rd_move rfl) rfl ?_
      refine Wh.rd (v := .int .i64 ((ix 0 bs i) % (ls.length : Int))) 1 rfl (by kernel_rfl) hS.bel (rd_move rfl) rfl ?_
      refine Wh.rd (v := .int .i64 ((ix 0 bs i) % (ls.length : Int))) 2 rfl (by kernel_rfl) hS.bel (rd_move rfl) rfl ?_
      refine Wh.ex 3 rfl (by kernel_rfl) hS.bel (rd_clipK (h0.v 1 rfl) Tryz.underlying25 Tryz.sizeOf3 rfl rfl rfl (by omega) (by omega)) rfl (fun u_30 hu_u_30 => ?_)
      obtain ⟨ad_32, rfl, hv_33⟩ := hu_u_30
      have hS := hS.add (hS.arg hv_33)
      refine Wh.rd (v := lv) 4 rfl (by kernel_rfl) hS.bel (rd_move rfl) rfl ?_
      refine Wh.rd (v := .int .i64 ((ix 0 bs i) % (ls.length : Int))) 5 rfl (by kernel_rfl) hS.bel (rd_move rfl) rfl ?_
      refine Wh.rd (v := .int .i64 (((ix 0 bs i) % (ls.length : Int)) + 1)) 6 rfl (by kernel_rfl) hS.bel (rd_add rfl rfl (in_i64 (by omega) (by omega))) rfl ?_
      refine Wh.ex 7 rfl (by kernel_rfl) hS.bel (rd_sliceL (h0.v 1 rfl) Tryz.underlying25 Tryz.sizeOf3 rfl rfl (by omega) (by omega)) rfl (fun u_35 hu_36 => ?_)
      have ln_37 := hu_36.len63
      refine Wh.br [8] (by kernel_rfl) (by decide) ⟨⟨_, rfl, ?_⟩, trivial⟩
      refine Wx.appendClip elTb_25 hS rfl (hS.v 0 rfl) rfl (Src.ofV (hS.arg hu_36)) (by simp only [maxLen]; first | omega | (simp; omega) | simp) (by first | omega | (simp; omega) | simp) rfl (fun v_38 w_39 hz_40 hS => ?_)
      refine Wx.nil ⟨hS.bel, ?_⟩
      refine Wh.rd (v := v_38) 9 rfl (by kernel_rfl) hS.bel (rd_assign rfl) rfl ?_
      refine Wh.done (by kernel_rfl) ?_
      have hS := h0.merge hS
      refine W.reg ?_
      refine Wx.rd (v := .int .i64 (i + 1)) (rd_add rfl rfl (in_i64 (by omega) (by omega))) rfl ?_
      refine Wx.rd (v := .int .i64 (i + 1)) (rd_move rfl) rfl ?_
      refine Wx.nil ?_
      have hv_42 : V (tSl (tI .i64)) ((ls.take ((ix 0 bs i) % (ls.length : Int)).toNat) ++ (ls.drop (((ix 0 bs i) % (ls.length : Int)) + 1).toNat)) v_38 _ _ := (hS.v 0 rfl)
      refine ⟨(v_38, (ls.take ((ix 0 bs i) % (ls.length : Int)).toNat) ++ (ls.drop (((ix 0 bs i) % (ls.length : Int)) + 1).toNat), i + 1, v_25, os ++ [ix 0 ls ((ix 0 bs i) % (ls.length : Int))]), (by show (n - (i + 1)).toNat < (n - i).toNat; omega), ?_, ?_, Out.look rfl Out.self⟩
      · exact ⟨(St.add (St.tl (St.tl (St.tl (St.tl (hS))))) (V.tlF (V.tlF (V.tlF (V.tlF (hv_42)))))), (by first | omega | assumption), (by first | omega | assumption), (by rw [comk_next i0 (by omega), i2]; rfl), (by omega), (by simp only [List.length_append, List.length_cons, List.length_nil]; omega)⟩
      · exact ⟨rfl, rfl, rfl, trivial⟩
    · -- no
      refine W.exit rfl ?_
      refine W.seq ?_
      refine W.reg ?_
      refine Wx.rd (v := u2) (rd_move rfl) rfl ?_
      refine Wx.rd (v := u2) (rd_assign rfl) rfl ?_
      refine Wx.nil ?_
      have e0_0 : deaV n.toNat bs = os := by rw [deaV, Int.toNat_of_nonneg (by omega), show comK n bs n = (ls, os) by rw [← i2]; congr 1; omega]
      exact W.ret ⟨u2, ResIs.one, hS.bel, ⟨u2, rfl, (by rw [e0_0]; exact (hS.fr 2 rfl flat_int))⟩⟩
end Go.Proofs.YtlibemgaepkceaaGreatDoor

namespace Go.Wk
open Go.RowKit Go.Lib
set_option linter.unusedVariables false
section
variable {P : Program} {σ : Fr} {w : World} {z lo : Operand} {ty T : TypeId}
theorem rd_tailP {g len c sz : Nat} {e : TypeId} {m : Int} {kk : IntKind} (hu : P.underlying T = some (.slice e)) (hsz : ∀ w', (sizeOf e).run P w' = .ok sz w') (hx : ev σ z = .slice (some ⟨g, 0, none⟩) len c) (hl : ev σ lo = .int kk m) (h0 : 0 ≤ m) (h1 : m < len) (h2 : len ≤ c) :
    Rd P σ (.slice T z (some lo) none none) ty w (.slice (some ⟨g, m.toNat * sz, none⟩) (len - m.toNat) (c - m.toNat)) := by
  have := rd_tailO (P := P) (ty := ty) (w := w) hu hsz hx hl h0 (Int.le_of_lt h1) h2
  rwa [if_neg (by omega)] at this
end
end Go.Wk

namespace Go.Wk
open Go.RowKit
set_option linter.unusedVariables false
section
variable {P : Program} {σ : Fr} {w : World} {x y : Operand} {ty T : TypeId}
theorem rd_indexT {s e : TypeId} {g len c sz : Nat} {lo m : Int} {k : IntKind} (hu : P.underlying s = some (.slice e)) (hsz : ∀ w', (sizeOf e).run P w' = .ok sz w') (hx : ev σ x = .slice (some ⟨g, lo.toNat * sz, none⟩) len c) (hi : ev σ y = .int k m) (hl : 0 ≤ lo) (h0 : 0 ≤ m) (h1 : m < len) :
    Rd P σ (.indexAddr s x y) ty w (.pointer (some ⟨g, (lo + m).toNat * sz, none⟩)) := by
  have := run_indexSl (P := P) (ty := ty) (w := w) hx hi hu hsz h0 h1
  rw [Addr.add_lit, ← Nat.add_mul, show lo.toNat + m.toNat = (lo + m).toNat by omega] at this
  exact this
end
end Go.Wk

namespace Go.Proofs.YtlibemgaepkceaaGreatDoor
open Go.Wk Go.RowKit Go.Lib
set_option linter.unusedVariables false
set_option linter.unusedSimpArgs false
theorem elMa_25 : ElemI Tryz.prog 25 3 (.int .i64 0) 1 8 := ElemI.of Tryz.underlying25 (by kernel_rfl) (by first | rfl | kernel_rfl) (by decide)

theorem F71 {v : Value} {l : List Int} {Fr_v : List (Option Nat)} {w : World} (h_v : V (tSl (tI .i64)) l v Fr_v w) (p_ne : 1 ≤ (l.length : Int)) : Calls Tryz.prog 71 #[v] w (Ret w (fun r _ => r = .int .i64 (minR l))) := by
  have a_v := h_v.any
  have l_v := h_v.len63
  have hS := St.start0 w
  refine enterR Tryz.func71 rfl Tryz.ntmps71 Tryz.results71 rfl ?_
  refine W.seq ?_
  refine W.reg ?_
  refine Wx.rd (v := .int .i64 0) (rd_assign rfl) rfl ?_
  refine Wx.nil ?_
  refine W.seq ?_
  refine W.seq ?_
  refine W.reg ?_
  refine Wx.rd (v := v) (rd_move rfl) rfl ?_
  refine Wx.rd (v := .int .i64 (l.length : Int)) (rd_lenV rfl (hS.arg a_v) Tryz.underlying25) rfl ?_
  refine Wx.rd (v := .bool (decide ((l.length : Int) < 1))) (rd_lss rfl rfl) rfl ?_
  refine Wx.nil ?_
  refine W.condF rfl (by simp; omega) ?_
  refine W.skip ?_
  refine W.seq ?_
  refine W.reg ?_
  refine Wx.rd (v := v) (rd_move rfl) rfl ?_
  refine Wx.ex (rd_index 0 (hS.arg a_v) rfl rfl Tryz.underlying25 Tryz.sizeOf3 (by first | omega | (simp only [List.length_set, List.length_append, List.length_cons, List.length_nil, List.length_replicate]; omega)) (by first | omega | (simp only [List.length_set, List.length_append, List.length_cons, List.length_nil, List.length_replicate]; omega))) rfl (fun p_1 hp_2 => ?_)
  refine Wx.rd (v := .int .i64 (ix 0 l 0)) (rd_loadI hp_2 rfl Tryz.isAgg3 Tryz.sizeOf3) rfl ?_
  have bd_3 := bd_i64 hp_2.inK
  refine Wx.rd (v := .int .i64 (ix 0 l 0)) (rd_assign rfl) rfl ?_
  refine Wx.nil ?_
  refine W.seq ?_
  refine W.seq ?_
  refine W.reg ?_
  refine Wx.rd (v := .int .i64 1) (rd_assign rfl) rfl ?_
  refine Wx.nil ?_
  refine W.block ?_
  refine W.loop [3, 4, 12, 13, 14, 15, 16, 17, 18, 19, 20, 21, 22, 23] (fun x : Int × Int => match x with | (m, k) => [(3, .int .i64 m), (4, .int .i64 k)]) (fun (x : Int × Int) w' => match x with | (m, k) => St w [] w' [] ∧ 1 ≤ k ∧ k ≤ l.length ∧ (l.drop k.toNat).foldl min m = minR l) (fun x : Int × Int => match x with | (m, k) => (l.length - k).toNat) (ix 0 l 0, 1) ⟨rfl, rfl, trivial⟩ ⟨hS, (by first | omega | simp), (by first | omega | simp), (minR_start p_ne)⟩ ?_
  rintro ⟨m, k⟩ u_5 w_4 ⟨hS, h0, h1, h2⟩
  refine W.seq ?_
  refine W.seq ?_
  refine W.reg ?_
  refine Wx.rd (v := .int .i64 k) (rd_move rfl) rfl ?_
  refine Wx.rd (v := v) (rd_move rfl) rfl ?_
  refine Wx.rd (v := .int .i64 (l.length : Int)) (rd_lenV rfl (hS.arg a_v) Tryz.underlying25) rfl ?_
  refine Wx.rd (v := .bool (decide (k < (l.length : Int)))) (rd_lss rfl rfl) rfl ?_
  refine Wx.nil ?_
  refine W.condD rfl (fun c1 => ?_) (fun c1 => ?_)
  · -- yes
    refine W.skip ?_
    refine W.seq ?_
    refine W.block ?_
    refine W.reg ?_
    refine Wx.rd (v := .int .i64 m) (rd_move rfl) rfl ?_
    refine Wx.rd (v := v) (rd_move rfl) rfl ?_
    refine Wx.rd (v := .int .i64 k) (rd_move rfl) rfl ?_
    refine Wx.ex (rd_index 0 (hS.arg a_v) rfl rfl Tryz.underlying25 Tryz.sizeOf3 (by first | omega | (simp only [List.length_set, List.length_append, List.length_cons, List.length_nil, List.length_replicate]; omega)) (by first | omega | (simp only [List.length_set, List.length_append, List.length_cons, List.length_nil, List.length_replicate]; omega))) rfl (fun p_6 hp_7 => ?_)
    refine Wx.rd (v := .int .i64 (ix 0 l k)) (rd_loadI hp_7 rfl Tryz.isAgg3 Tryz.sizeOf3) rfl ?_
    have bd_8 := bd_i64 hp_7.inK
    refine Wx.rd (v := .int .i64 (min m (ix 0 l k))) (rd_min rfl rfl) rfl ?_
    refine Wx.rd (v := .int .i64 (min m (ix 0 l k))) (rd_assign rfl) rfl ?_
    refine Wx.nil ?_
    refine W.reg ?_
    refine Wx.rd (v := .int .i64 k) (rd_move rfl) rfl ?_
    refine Wx.rd (v := .int .i64 (k + 1)) (rd_add rfl rfl (in_i64 (by omega) (by omega))) rfl ?_
    refine Wx.rd (v := .int .i64 (k + 1)) (rd_assign rfl) rfl ?_
    refine Wx.nil ?_
    refine ⟨(min m (ix 0 l k), k + 1), (by show (l.length - (k + 1)).toNat < (l.length - k).toNat; omega), ?_, ?_, Out.look rfl Out.self⟩
    · exact ⟨hS, (by first | omega | assumption), (by first | omega | assumption), (minR_next (by omega) (by omega) h2)⟩
    · exact ⟨rfl, rfl, trivial⟩
  · -- no
    refine W.exit rfl ?_
    refine W.seq ?_
    refine W.reg ?_
    refine Wx.rd (v := .int .i64 m) (rd_move rfl) rfl ?_
    refine Wx.rd (v := .int .i64 m) (rd_assign rfl) rfl ?_
    refine Wx.nil ?_
    have e0_0 : (minR l) = (m : Int) := by rw [← h2, drop_end (by omega)]; rfl
    exact W.ret ⟨.int .i64 m, ResIs.one, hS.bel, (by rw [e0_0])⟩

theorem F54 {n : Int} {lv : Value} {l : List Int} {Fr_lv : List (Option Nat)} {w : World} (i_n : InK .i64 n) (h_lv : V (tSl (tI .i64)) l lv Fr_lv w) (p_n : 0 ≤ n ∧ n ≤ 7) (p_p : PermR n.toNat l) : Calls Tryz.prog 54 #[.int .i64 n, lv] w (Ret w (fun r _ => r = .int .i64 0)) := by
  have b_n := bd_i64 i_n
  have hll := p_p.len
  have a_lv := h_lv.any
  have l_lv := h_lv.len63
  have hS := St.start0 w
  refine enterR Tryz.func54 rfl Tryz.ntmps54 Tryz.results54 rfl ?_
  refine W.seq ?_
  refine W.reg ?_
  refine Wx.rd (v := .int .i64 0) (rd_assign rfl) rfl ?_
  refine Wx.nil ?_
  refine W.seq ?_
  refine W.seq ?_
  refine W.reg ?_
  refine Wx.rd (v := lv) (rd_move rfl) rfl ?_
  refine Wx.rd (v := .int .i64 (l.length : Int)) (rd_lenV rfl (hS.arg a_lv) Tryz.underlying25) rfl ?_
  refine Wx.rd (v := .int .i64 n) (rd_move rfl) rfl ?_
  refine Wx.rd (v := .bool (decide ((l.length : Int) ≠ n))) (rd_neq rfl rfl) rfl ?_
  refine Wx.nil ?_
  refine W.condF rfl (by simp; omega) ?_
  refine W.skip ?_
  refine W.seq ?_
  refine W.reg ?_
  refine Wx.rd (v := .int .i64 0) (rd_assign rfl) rfl ?_
  refine Wx.nil ?_
  refine W.seq ?_
  refine W.seq ?_
  refine W.reg ?_
  refine Wx.rd (v := lv) (rd_move rfl) rfl ?_
  refine Wx.rd (v := .int .i64 (l.length : Int)) (rd_lenV rfl (hS.arg a_lv) Tryz.underlying25) rfl ?_
  refine Wx.rd (v := .int .i64 0) (rd_move rfl) rfl ?_
  refine Wx.nil ?_
  refine W.block ?_
  refine W.loop [4, 5, 7, 14, 15, 16, 17, 18, 19, 20, 21, 22, 23, 24, 25, 26, 27, 28, 29, 30, 31, 32, 33, 34, 35, 36] (fun x : Int × Int => match x with | (met, k) => [(5, .int .i64 met), (14, .int .i64 k)]) (fun (x : Int × Int) w' => match x with | (met, k) => St w [] w' [] ∧ 0 ≤ k ∧ k ≤ l.length ∧ MskI n.toNat met (mrkV n.toNat (l.take k.toNat))) (fun x : Int × Int => match x with | (met, k) => (l.length - k).toNat) (0, 0) ⟨rfl, rfl, trivial⟩ ⟨hS, (by first | omega | simp), (by first | omega | simp), (msk_start (by omega))⟩ ?_
  rintro ⟨met, k⟩ u_2 w_1 ⟨hS, h0, h1, h2⟩
  refine W.seq ?_
  refine W.reg ?_
  refine Wx.rd (v := .bool (decide (k < (l.length : Int)))) (rd_lss rfl rfl) rfl ?_
  refine Wx.nil ?_
  refine W.seq ?_
  refine W.condD rfl (fun c1 => ?_) (fun c1 => ?_)
  · -- yes
    have ha := p_p.at_ (i := k) h0 (by omega)
    have hmk := msk_take p_p (by omega) h2 h0 (by omega)
    refine W.skip ?_
    refine W.seq ?_
    refine W.block ?_
    refine W.seq ?_
    refine W.reg ?_
    refine Wx.ex (rd_index 0 (hS.arg a_lv) rfl rfl Tryz.underlying25 Tryz.sizeOf3 (by first | omega | (simp only [List.length_set, List.length_append, List.length_cons, List.length_nil, List.length_replicate]; omega)) (by first | omega | (simp only [List.length_set, List.length_append, List.length_cons, List.length_nil, List.length_replicate]; omega))) rfl (fun p_3 hp_4 => ?_)
    refine Wx.rd (v := .int .i64 (ix 0 l k)) (rd_loadI hp_4 rfl Tryz.isAgg3 Tryz.sizeOf3) rfl ?_
    have bd_5 := bd_i64 hp_4.inK
    refine Wx.rd (v := .int .i64 (ix 0 l k)) (rd_assign rfl) rfl ?_
    refine Wx.nil ?_
    refine W.seq ?_
    refine W.block ?_
    refine W.seq ?_
    refine W.reg ?_
    refine Wx.rd (v := .int .i64 (ix 0 l k)) (rd_move rfl) rfl ?_
    refine Wx.rd (v := .bool (decide ((ix 0 l k) < 0))) (rd_lss rfl rfl) rfl ?_
    refine Wx.rd (v := .bool (decide ((ix 0 l k) < 0))) (rd_move rfl) rfl ?_
    refine Wx.cut (X := Unit) 4 [22, 23, 24, 25] (fun _ => [(25, .bool (decide ((ix 0 l k) < 0) || decide (n ≤ (ix 0 l k))))]) (fun _ w' => St w [] w' []) ?_ ?_
    · rcases Bool.eq_false_or_eq_true (decide ((ix 0 l k) < 0)) with g_6 | g_6
      · -- True
        have gp_7 := of_decide_eq_true g_6
        refine Wx.gnoB rfl rfl (congrArg Value.bool g_6) rfl rfl ?_
        refine Wx.gnoB rfl rfl (congrArg Value.bool g_6) rfl rfl ?_
        refine Wx.gnoB rfl rfl (congrArg Value.bool g_6) rfl rfl ?_
        refine Wx.rd (v := .bool true) (rd_pickT (congrArg Value.bool g_6) rfl) rfl ?_
        refine Wx.nil ⟨(), hS, ⟨?_, trivial⟩, Out.look rfl Out.refl⟩
        show Value.bool true = Value.bool (decide ((ix 0 l k) < 0) || decide (n ≤ (ix 0 l k)))
        first | rw [g_6, Bool.true_or] | (rw [g_6]; rfl)
      · -- False
        have gp_8 := of_decide_eq_false g_6
        refine Wx.gyes rfl rfl (congrArg Value.bool g_6) ?_
        refine Wx.rd (v := .int .i64 (ix 0 l k)) (rd_move rfl) rfl ?_
        refine Wx.gyes rfl rfl (congrArg Value.bool g_6) ?_
        refine Wx.rd (v := .int .i64 n) (rd_move rfl) rfl ?_
        refine Wx.gyes rfl rfl (congrArg Value.bool g_6) ?_
        refine Wx.rd (v := .bool (decide (n ≤ (ix 0 l k)))) (rd_geq rfl rfl) rfl ?_
        refine Wx.rd (v := .bool (decide (n ≤ (ix 0 l k)))) (rd_pickF (congrArg Value.bool g_6) rfl) rfl ?_
        refine Wx.nil ⟨(), hS, ⟨?_, trivial⟩, Out.look rfl Out.refl⟩
        show Value.bool (decide (n ≤ (ix 0 l k))) = Value.bool (decide ((ix 0 l k) < 0) || decide (n ≤ (ix 0 l k)))
        first | rw [g_6, Bool.false_or] | (rw [g_6]; rfl)
    rintro ⟨⟩ u_10 w_9 hS
    refine Wx.rd (v := .bool (decide ((ix 0 l k) < 0) || decide (n ≤ (ix 0 l k)))) (rd_assign rfl) rfl ?_
    refine Wx.nil ?_
    refine W.condF rfl (by rw [decide_eq_false (by omega), decide_eq_false (by omega)]; rfl) ?_
    refine W.seq ?_
    refine W.reg ?_
    refine Wx.rd (v := .int .i64 met) (rd_move rfl) rfl ?_
    refine Wx.rd (v := .int .i64 (ix 0 l k)) (rd_move rfl) rfl ?_
    refine Wx.rd (v := .int .i64 (met / 2 ^ min (ix 0 l k).toNat (IntKind.i64).bits)) (rd_shr rfl rfl (by omega)) rfl ?_
    refine Wx.rd (v := .int .i64 (bits .and .i64 (met / 2 ^ min (ix 0 l k).toNat (IntKind.i64).bits) 1)) (rd_and rfl rfl) rfl ?_
    have bd_11 := bd_i64 (bits_in .and .i64 (met / 2 ^ min (ix 0 l k).toNat (IntKind.i64).bits) 1)
    refine Wx.rd (v := .bool (decide ((bits .and .i64 (met / 2 ^ min (ix 0 l k).toNat (IntKind.i64).bits) 1) = 1))) (rd_eql rfl rfl) rfl ?_
    refine Wx.rd (v := .bool (decide ((bits .and .i64 (met / 2 ^ min (ix 0 l k).toNat (IntKind.i64).bits) 1) = 1))) (rd_assign rfl) rfl ?_
    refine Wx.nil ?_
    refine W.condF rfl (decide_eq_false (by have hq := hmk.1; unfold bitV at hq; omega)) ?_
    refine W.skip ?_
    refine W.reg ?_
    refine Wx.rd (v := .int .i64 met) (rd_move rfl) rfl ?_
    refine Wx.rd (v := .int .i64 (ix 0 l k)) (rd_move rfl) rfl ?_
    refine Wx.rd (v := .int .i64 (IntKind.i64.wrap (1 * 2 ^ min (ix 0 l k).toNat (IntKind.i64).bits))) (rd_shl rfl rfl (by omega)) rfl ?_
    have bd_12 := bd_i64 (wrap_inK .i64 (1 * 2 ^ min (ix 0 l k).toNat (IntKind.i64).bits))
    refine Wx.rd (v := .int .i64 (bits .or .i64 met (IntKind.i64.wrap (1 * 2 ^ min (ix 0 l k).toNat (IntKind.i64).bits)))) (rd_or rfl rfl) rfl ?_
    have bd_13 := bd_i64 (bits_in .or .i64 met (IntKind.i64.wrap (1 * 2 ^ min (ix 0 l k).toNat (IntKind.i64).bits)))
    refine Wx.rd (v := .int .i64 (bits .or .i64 met (IntKind.i64.wrap (1 * 2 ^ min (ix 0 l k).toNat (IntKind.i64).bits)))) (rd_assign rfl) rfl ?_
    refine Wx.nil ?_
    refine W.reg ?_
    refine Wx.rd (v := .int .i64 (k + 1)) (rd_add rfl rfl (in_i64 (by omega) (by omega))) rfl ?_
    refine Wx.rd (v := .int .i64 (k + 1)) (rd_move rfl) rfl ?_
    refine Wx.nil ?_
    refine ⟨(bits .or .i64 met (IntKind.i64.wrap (1 * 2 ^ min (ix 0 l k).toNat (IntKind.i64).bits)), k + 1), (by show (l.length - (k + 1)).toNat < (l.length - k).toNat; omega), ?_, ?_, Out.look rfl (Out.hav rfl (Out.look rfl Out.self))⟩
    · exact ⟨hS, (by first | omega | assumption), (by first | omega | assumption), (hmk.2)⟩
    · exact ⟨rfl, rfl, trivial⟩
  · -- no
    refine W.exit rfl ?_
    refine W.seq ?_
    refine W.reg ?_
    refine Wx.rd (v := .int .i64 0) (rd_assign rfl) rfl ?_
    refine Wx.nil ?_
    exact W.ret ⟨.int .i64 0, ResIs.one, hS.bel, rfl⟩

theorem F55 {hv : Value} {H : List Int} {O : List (Option Nat)} {w : World} (h_hv : V (tSl (tI .i64)) H hv O w) (p_p : PermR H.length H) (p_n : (H.length : Int) ≤ 7) (hO : ∀ b, some b ∈ O → b < w.heap.size) : Calls Tryz.prog 55 #[hv] w (Ret w (fun r w' => ∃ rv, r = rv ∧ Fresh (tI .i64) 3 (invV H) rv w.heap.size w')) := by
  have a_hv := h_hv
  have l_hv := h_hv.len63
  have hS := St.start w O hO
  refine enterR Tryz.func55 rfl Tryz.ntmps55 Tryz.results55 rfl ?_
  refine W.seq ?_
  refine W.reg ?_
  refine Wx.rd (v := (.slice none 0 0)) (rd_assign rfl) rfl ?_
  refine Wx.nil ?_
  refine W.seq ?_
  refine W.reg ?_
  refine Wx.rd (v := hv) (rd_move rfl) rfl ?_
  refine Wx.rd (v := .int .i64 (H.length : Int)) (rd_lenV rfl (hS.arg a_hv) Tryz.underlying25) rfl ?_
  refine Wx.make (t := (tI .i64)) (zy := (0 : Int)) (m := H.length) elMa_25 rfl rfl (fun _ _ => ⟨rfl, by decide, by decide⟩) hS (congrArg (Value.int .i64) rfl) (congrArg (Value.int .i64) rfl) (by omega) (by simp only [maxLen]; omega) rfl (fun v_1 w_2 hx_3 hS => ?_)
  refine Wx.rd (v := v_1) (rd_assign rfl) rfl ?_
  refine Wx.nil ?_
  refine W.seq ?_
  refine W.seq ?_
  refine W.reg ?_
  refine Wx.rd (v := hv) (rd_move rfl) rfl ?_
  refine Wx.rd (v := .int .i64 (H.length : Int)) (rd_lenV rfl (hS.arg a_hv) Tryz.underlying25) rfl ?_
  refine Wx.rd (v := .int .i64 0) (rd_move rfl) rfl ?_
  refine Wx.nil ?_
  refine W.block ?_
  refine W.loop [4, 5, 11, 12, 13, 14, 15, 16, 17, 18, 19, 20] (fun x : Int × (List Int) => match x with | (k, os) => [(11, .int .i64 k)]) (fun (x : Int × (List Int)) w' => match x with | (k, os) => St w O w' [.row (tI .i64) 3 v_1 os] ∧ 0 ≤ k ∧ k ≤ H.length ∧ os = invK H k) (fun x : Int × (List Int) => match x with | (k, os) => (H.length - k).toNat) (0, List.replicate H.length (0 : Int)) ⟨rfl, trivial⟩ ⟨hS, (by first | omega | simp), (by first | omega | simp), (rfl)⟩ ?_
  rintro ⟨k, os⟩ u_7 w_6 ⟨hS, h0, h1, h2⟩
  have hol : os.length = H.length := by rw [h2, inv_len]
  refine W.seq ?_
  refine W.reg ?_
  refine Wx.rd (v := .bool (decide (k < (H.length : Int)))) (rd_lss rfl rfl) rfl ?_
  refine Wx.nil ?_
  refine W.seq ?_
  refine W.condD rfl (fun c0 => ?_) (fun c0 => ?_)
  · -- yes
    have ha := p_p.at_ (i := k) h0 (by omega)
    have hil := inv_len (H := H) (i := k)
    refine W.skip ?_
    refine W.seq ?_
    refine W.block ?_
    refine W.seq ?_
    refine W.reg ?_
    refine Wx.rd (v := .int .i64 k) (rd_move rfl) rfl ?_
    refine Wx.ex (rd_index 0 (hS.arg a_hv) rfl rfl Tryz.underlying25 Tryz.sizeOf3 (by first | omega | (simp only [List.length_set, List.length_append, List.length_cons, List.length_nil, List.length_replicate]; omega)) (by first | omega | (simp only [List.length_set, List.length_append, List.length_cons, List.length_nil, List.length_replicate]; omega))) rfl (fun p_8 hp_9 => ?_)
    refine Wx.rd (v := .int .i64 (ix 0 H k)) (rd_loadI hp_9 rfl Tryz.isAgg3 Tryz.sizeOf3) rfl ?_
    have bd_10 := bd_i64 hp_9.inK
    refine Wx.rd (v := .int .i64 k) (rd_assign rfl) rfl ?_
    refine Wx.rd (v := .int .i64 (ix 0 H k)) (rd_assign rfl) rfl ?_
    refine Wx.nil ?_
    refine W.reg ?_
    refine Wx.rd (v := v_1) (rd_move rfl) rfl ?_
    refine Wx.rd (v := .int .i64 (ix 0 H k)) (rd_move rfl) rfl ?_
    refine Wx.rd (v := .int .i64 k) (rd_move rfl) rfl ?_
    refine Wx.indexR hS 0 rfl rfl rfl Tryz.underlying25 Tryz.sizeOf3 (by first | omega | (simp only [List.length_set, List.length_append, List.length_cons, List.length_nil, List.length_replicate]; omega)) (by first | omega | (simp only [List.length_set, List.length_append, List.length_cons, List.length_nil, List.length_replicate]; omega)) rfl (fun g_11 hg_12 => ?_)
    refine Wx.storeR (j := (ix 0 H k).toNat) (z := k) hS 0 rfl hg_12 rfl (by first | omega | (simp only [List.length_set, List.length_append, List.length_cons, List.length_nil, List.length_replicate]; omega)) rfl (V.mkInt (in_i64 (by omega) (by omega))) Tryz.sizeOf3 (fun w_13 hz_14 hS => ?_)
    refine Wx.nil ?_
    refine W.reg ?_
    refine Wx.rd (v := .int .i64 (k + 1)) (rd_add rfl rfl (in_i64 (by omega) (by omega))) rfl ?_
    refine Wx.rd (v := .int .i64 (k + 1)) (rd_move rfl) rfl ?_
    refine Wx.nil ?_
    refine ⟨(k + 1, List.set os (ix 0 H k).toNat k), (by show (H.length - (k + 1)).toNat < (H.length - k).toNat; omega), ?_, ?_, Out.look rfl Out.self⟩
    · exact ⟨hS, (by first | omega | assumption), (by first | omega | assumption), (by rw [h2, inv_next h0 c0])⟩
    · exact ⟨rfl, trivial⟩
  · -- no
    refine W.exit rfl ?_
    refine W.seq ?_
    refine W.reg ?_
    refine Wx.rd (v := v_1) (rd_move rfl) rfl ?_
    refine Wx.rd (v := v_1) (rd_assign rfl) rfl ?_
    refine Wx.nil ?_
    have e0_0 : invV H = os := by rw [h2, inv_all (by omega)]
    exact W.ret ⟨v_1, ResIs.one, hS.bel, ⟨v_1, rfl, (by rw [e0_0]; exact (hS.fr 0 rfl flat_int))⟩⟩
end Go.Proofs.YtlibemgaepkceaaGreatDoor

namespace Go.Proofs.YtlibemgaepkceaaGreatDoor
open Go.Wk Go.RowKit Go.Lib
set_option linter.unusedVariables false
set_option linter.unusedSimpArgs false
theorem elMb_25 : ElemI Tryz.prog 25 3 (.int .i64 0) 1 8 := ElemI.of Tryz.underlying25 (by kernel_rfl) (by first | rfl | kernel_rfl) (by decide)
theorem elMb_24 : ElemI Tryz.prog 24 25 ((.slice none 0 0)) 1 24 := ElemI.of Tryz.underlying24 (by kernel_rfl) (by first | rfl | kernel_rfl) (by decide)

theorem F85 {n : Int} {O : List (Option Nat)} {w : World} (i_n : InK .i64 n) (p_0 : 0 ≤ n) (p_n : n ≤ 1000) (hO : ∀ b, some b ∈ O → b < w.heap.size) : Calls Tryz.prog 85 #[(.slice none 0 0), .int .i64 n] w (Ret w (fun r w' => ∃ rv, r = rv ∧ Fresh (tI .i64) 3 ([] : List Int) rv w.heap.size w')) := by
  have b_n := bd_i64 i_n
  have hS := St.start w O hO
  refine enterR Tryz.func85 rfl Tryz.ntmps85 Tryz.results85 rfl ?_
  refine W.seq ?_
  refine W.reg ?_
  refine Wx.rd (v := (.slice none 0 0)) (rd_assign rfl) rfl ?_
  refine Wx.nil ?_
  refine W.seq ?_
  refine W.seq ?_
  refine W.reg ?_
  refine Wx.rd (v := .int .i64 n) (rd_move rfl) rfl ?_
  refine Wx.rd (v := .bool (decide (n < 0))) (rd_lss rfl rfl) rfl ?_
  refine Wx.nil ?_
  refine W.condF rfl (decide_eq_false (by omega)) ?_
  refine W.skip ?_
  refine W.seq ?_
  refine W.seq ?_
  refine W.reg ?_
  refine Wx.rd (v := .int .i64 n) (rd_move rfl) rfl ?_
  refine Wx.rd (v := (.slice none 0 0)) (rd_move rfl) rfl ?_
  refine Wx.rd (v := .int .i64 0) (rd_cap rfl Tryz.underlying25) rfl ?_
  refine Wx.rd (v := (.slice none 0 0)) (rd_move rfl) rfl ?_
  refine Wx.rd (v := .int .i64 0) (rd_len rfl Tryz.underlying25) rfl ?_
  refine Wx.rd (v := .int .i64 0) (rd_sub (a := 0) (b := 0) rfl rfl (in_i64 (by omega) (by omega))) rfl ?_
  refine Wx.rd (v := .int .i64 (n - 0)) (rd_sub rfl rfl (in_i64 (by omega) (by omega))) rfl ?_
  refine Wx.rd (v := .int .i64 (n - 0)) (rd_assign rfl) rfl ?_
  refine Wx.nil ?_
  refine W.seq ?_
  refine W.reg ?_
  refine Wx.rd (v := .int .i64 (n - 0)) (rd_move rfl) rfl ?_
  refine Wx.rd (v := .bool (decide (0 < (n - 0)))) (rd_gtr rfl rfl) rfl ?_
  refine Wx.nil ?_
  refine W.condD rfl (fun c1 => ?_) (fun c1 => ?_)
  · -- yes
    refine W.reg ?_
    refine Wx.rd (v := (.slice none 0 0)) (rd_move rfl) rfl ?_
    refine Wx.rd (v := (.slice none 0 0)) (rd_move rfl) rfl ?_
    refine Wx.rd (v := .int .i64 0) (rd_cap rfl Tryz.underlying25) rfl ?_
    refine Wx.rd (v := (.slice none 0 0)) (rd_sliceNil Tryz.underlying25 Tryz.sizeOf3 rfl rfl) rfl ?_
    refine Wx.rd (v := .int .i64 (n - 0)) (rd_move rfl) rfl ?_
    refine Wx.zeros (t := (tI .i64)) (zy := 0) (m := n.toNat) elMb_25 rfl rfl (fun _ _ => ⟨rfl, by decide, by decide⟩) hS Tryz.underlying3 rfl (congrArg (Value.int .i64) (by omega)) (by omega) (by omega) (by simp only [maxLen]; omega) rfl (fun v_1 w_2 hx_3 hS => ?_)
    obtain ⟨g_4, c_5, rfl, hc_6⟩ := hS.rowForm 0 rfl (by simp; omega)
    refine Wx.rd (v := (.slice none 0 0)) (rd_move rfl) rfl ?_
    refine Wx.rd (v := .int .i64 0) (rd_len rfl Tryz.underlying25) rfl ?_
    refine Wx.rd (v := (.slice (some ⟨g_4, 0, none⟩) (0 : Int).toNat c_5)) (rd_headO Tryz.underlying25 Tryz.sizeOf3 rfl rfl (by omega) (by omega)) rfl ?_
    have hS : St _ _ _ [.row (tI .i64) 3 (.slice (some ⟨g_4, 0, none⟩) (0 : Int).toNat c_5) (List.take (0 : Int).toNat (List.replicate n.toNat 0))] := hS.shrink (m := (0 : Int).toNat) 0 rfl (by omega)
    refine Wx.rd (v := (.slice (some ⟨g_4, 0, none⟩) (0 : Int).toNat c_5)) (rd_assign rfl) rfl ?_
    refine Wx.nil ?_
    refine W.seq ?_
    refine W.reg ?_
    refine Wx.rd (v := (.slice (some ⟨g_4, 0, none⟩) (0 : Int).toNat c_5)) (rd_move rfl) rfl ?_
    refine Wx.rd (v := (.slice (some ⟨g_4, 0, none⟩) (0 : Int).toNat c_5)) (rd_assign rfl) rfl ?_
    refine Wx.nil ?_
    have e0_0 : ([] : List Int) = List.take (0 : Int).toNat (List.replicate n.toNat 0) := by simp
    exact W.ret ⟨(.slice (some ⟨g_4, 0, none⟩) (0 : Int).toNat c_5), ResIs.one, hS.bel, ⟨(.slice (some ⟨g_4, 0, none⟩) (0 : Int).toNat c_5), rfl, (by rw [e0_0]; exact (hS.fr 0 rfl flat_int))⟩⟩
  · -- no
    refine W.skip ?_
    refine W.seq ?_
    refine W.reg ?_
    refine Wx.rd (v := (.slice none 0 0)) (rd_move rfl) rfl ?_
    refine Wx.rd (v := (.slice none 0 0)) (rd_assign rfl) rfl ?_
    refine Wx.nil ?_
    have e1_0 : ([] : List Int) = [] := by simp
    exact W.ret ⟨(.slice none 0 0), ResIs.one, hS.bel, ⟨(.slice none 0 0), rfl, (by rw [e1_0]; exact ((hS.addNil (tI .i64) 3).fr 0 rfl flat_int))⟩⟩

theorem F72 {sv : Value} {ss : List (List Int)} {O : List (Option Nat)} {w : World} (h_sv : V (tSl (tSl (tI .i64))) ss sv O w) (p_n : (ss.flatten.length : Int) ≤ 1000) (hO : ∀ b, some b ∈ O → b < w.heap.size) : Calls Tryz.prog 72 #[sv] w (Ret w (fun r w' => ∃ rv, r = rv ∧ Fresh (tI .i64) 3 ss.flatten rv w.heap.size w')) := by
  have a_sv := h_sv
  have l_sv := h_sv.len63
  have hS := St.start w O hO
  refine enterR Tryz.func72 rfl Tryz.ntmps72 Tryz.results72 rfl ?_
  refine W.seq ?_
  refine W.reg ?_
  refine Wx.rd (v := (.slice none 0 0)) (rd_assign rfl) rfl ?_
  refine Wx.nil ?_
  refine W.seq ?_
  refine W.reg ?_
  refine Wx.rd (v := .int .i64 0) (rd_assign rfl) rfl ?_
  refine Wx.nil ?_
  refine W.seq ?_
  refine W.seq ?_
  refine W.reg ?_
  refine Wx.rd (v := sv) (rd_move rfl) rfl ?_
  refine Wx.rd (v := .int .i64 (ss.length : Int)) (rd_lenV rfl (hS.arg a_sv) Tryz.underlying24) rfl ?_
  refine Wx.rd (v := .int .i64 0) (rd_move rfl) rfl ?_
  refine Wx.nil ?_
  refine W.block ?_
  refine W.loop [3, 5, 11, 12, 13, 14, 15, 16, 17, 18, 19, 20, 21, 22] (fun x : Int × Int => match x with | (s, k) => [(3, .int .i64 s), (11, .int .i64 k)]) (fun (x : Int × Int) w' => match x with | (s, k) => St w O w' [] ∧ 0 ≤ k ∧ k ≤ ss.length ∧ s = ((ss.take k.toNat).flatten.length : Int)) (fun x : Int × Int => match x with | (s, k) => (ss.length - k).toNat) (0, 0) ⟨rfl, rfl, trivial⟩ ⟨hS, (by first | omega | simp), (by first | omega | simp), (rfl)⟩ ?_
  rintro ⟨s, k⟩ u_2 w_1 ⟨hS, h0, h1, h2⟩
  refine W.seq ?_
  refine W.reg ?_
  refine Wx.rd (v := .bool (decide (k < (ss.length : Int)))) (rd_lss rfl rfl) rfl ?_
  refine Wx.nil ?_
  refine W.seq ?_
  refine W.condD rfl (fun c0 => ?_) (fun c0 => ?_)
  · -- yes
    obtain ⟨hf1, hf2⟩ := flatR_next (ss := ss) h0 c0
    refine W.skip ?_
    refine W.seq ?_
    refine W.block ?_
    refine W.seq ?_
    refine W.reg ?_
    refine Wx.ex (rd_index [] (hS.arg a_sv) rfl rfl Tryz.underlying24 Tryz.sizeOf25 (by first | omega | (simp only [List.length_set, List.length_append, List.length_cons, List.length_nil, List.length_replicate]; omega)) (by first | omega | (simp only [List.length_set, List.length_append, List.length_cons, List.length_nil, List.length_replicate]; omega))) rfl (fun p_3 hp_4 => ?_)
    refine Wx.ex (rd_load hp_4 rfl Tryz.isAgg25 Tryz.sizeOf25) rfl (fun v_5 hv_6 => ?_)
    have ln_7 := hv_6.len63
    have hS := hS.add hv_6
    refine Wx.rd (v := v_5) (rd_assign rfl) rfl ?_
    refine Wx.nil ?_
    refine W.seq ?_
    refine W.reg ?_
    refine Wx.rd (v := .int .i64 s) (rd_move rfl) rfl ?_
    refine Wx.rd (v := v_5) (rd_move rfl) rfl ?_
    refine Wx.rd (v := .int .i64 ((ix [] ss k).length : Int)) (rd_lenV rfl (hS.v 0 rfl) Tryz.underlying25) rfl ?_
    refine Wx.rd (v := .int .i64 (s + ((ix [] ss k).length : Int))) (rd_add rfl rfl (in_i64 (by omega) (by omega))) rfl ?_
    refine Wx.rd (v := .int .i64 (s + ((ix [] ss k).length : Int))) (rd_assign rfl) rfl ?_
    refine Wx.nil ?_
    refine W.seq ?_
    refine W.reg ?_
    refine Wx.rd (v := .int .i64 (s + ((ix [] ss k).length : Int))) (rd_move rfl) rfl ?_
    refine Wx.rd (v := .bool (decide ((s + ((ix [] ss k).length : Int)) < 0))) (rd_lss rfl rfl) rfl ?_
    refine Wx.nil ?_
    refine W.condF rfl (decide_eq_false (by omega)) ?_
    refine W.skip ?_
    refine W.reg ?_
    refine Wx.rd (v := .int .i64 (k + 1)) (rd_add rfl rfl (in_i64 (by omega) (by omega))) rfl ?_
    refine Wx.rd (v := .int .i64 (k + 1)) (rd_move rfl) rfl ?_
    refine Wx.nil ?_
    refine ⟨(s + ((ix [] ss k).length : Int), k + 1), (by show (ss.length - (k + 1)).toNat < (ss.length - k).toNat; omega), ?_, ?_, Out.look rfl Out.self⟩
    · exact ⟨hS.tl, (by first | omega | assumption), (by first | omega | assumption), (by rw [hf1, List.length_append, h2]; omega)⟩
    · exact ⟨rfl, rfl, trivial⟩
  · -- no
    have hsl : s ≤ 1000 := by rw [h2, take_end (xs := ss) (by omega)]; exact p_n
    refine W.exit rfl ?_
    refine W.seq ?_
    refine W.reg ?_
    refine Wx.rd (v := .int .i64 s) (rd_move rfl) rfl ?_
    refine Wx.callF (run_callF Tryz.call85 rfl) (F85 (in_i64 (by omega) (by omega)) (by omega) (by omega) hS.fb_lt) rfl ?_
    rintro r_9 w_10 hx_11 ⟨_, rfl, hv_12⟩
    have hS := hS.pushFr hx_11 hv_12
    refine Wx.rd (v := r_9) (rd_assign rfl) rfl ?_
    refine Wx.nil ?_
    refine W.seq ?_
    refine W.seq ?_
    refine W.reg ?_
    refine Wx.rd (v := sv) (rd_move rfl) rfl ?_
    refine Wx.rd (v := .int .i64 (ss.length : Int)) (rd_lenV rfl (hS.arg a_sv) Tryz.underlying24) rfl ?_
    refine Wx.rd (v := .int .i64 0) (rd_move rfl) rfl ?_
    refine Wx.nil ?_
    refine W.block ?_
    refine W.loop [6, 8, 27, 28, 29, 30, 31, 32, 33, 34] (fun x : Int × Value × (List Int) => match x with | (j, ov, out) => [(27, .int .i64 j), (6, ov)]) (fun (x : Int × Value × (List Int)) w' => match x with | (j, ov, out) => St w O w' [.row (tI .i64) 3 ov out] ∧ 0 ≤ j ∧ j ≤ ss.length ∧ out = (ss.take j.toNat).flatten ∧ (out.length : Int) ≤ 1000) (fun x : Int × Value × (List Int) => match x with | (j, ov, out) => (ss.length - j).toNat) (0, r_9, ([] : List Int)) ⟨rfl, rfl, trivial⟩ ⟨hS, (by first | omega | simp), (by first | omega | simp), (rfl), (by simp)⟩ ?_
    rintro ⟨j, ov, out⟩ u_15 w_14 ⟨hS, g0, g1, g2, g3⟩
    refine W.seq ?_
    refine W.reg ?_
    refine Wx.rd (v := .bool (decide (j < (ss.length : Int)))) (rd_lss rfl rfl) rfl ?_
    refine Wx.nil ?_
    refine W.seq ?_
    refine W.condD rfl (fun c2 => ?_) (fun c2 => ?_)
    · -- yes
      obtain ⟨hf1, hf2⟩ := flatR_next (ss := ss) g0 c2
      have hol : (out.length : Int) + (ix [] ss j).length ≤ 1000 := by rw [g2]; omega
      refine W.skip ?_
      refine W.seq ?_
      refine W.block ?_
      refine W.seq ?_
      refine W.reg ?_
      refine Wx.ex (rd_index [] (hS.arg a_sv) rfl rfl Tryz.underlying24 Tryz.sizeOf25 (by first | omega | (simp only [List.length_set, List.length_append, List.length_cons, List.length_nil, List.length_replicate]; omega)) (by first | omega | (simp only [List.length_set, List.length_append, List.length_cons, List.length_nil, List.length_replicate]; omega))) rfl (fun p_16 hp_17 => ?_)
      refine Wx.ex (rd_load hp_17 rfl Tryz.isAgg25 Tryz.sizeOf25) rfl (fun v_18 hv_19 => ?_)
      have ln_20 := hv_19.len63
      have hS := hS.add hv_19
      refine Wx.rd (v := v_18) (rd_assign rfl) rfl ?_
      refine Wx.nil ?_
      refine W.reg ?_
      refine Wx.rd (v := ov) (rd_move rfl) rfl ?_
      refine Wx.rd (v := v_18) (rd_move rfl) rfl ?_
      refine Wx.append elMb_25 hS 1 rfl rfl rfl (Src.ofV (hS.v 0 rfl)) (by simp only [maxLen]; omega) (by omega) rfl (fun v_22 w_23 hz_24 hS => ?_)
      refine Wx.rd (v := v_22) (rd_assign rfl) rfl ?_
      refine Wx.nil ?_
      refine W.reg ?_
      refine Wx.rd (v := .int .i64 (j + 1)) (rd_add rfl rfl (in_i64 (by omega) (by omega))) rfl ?_
      refine Wx.rd (v := .int .i64 (j + 1)) (rd_move rfl) rfl ?_
      refine Wx.nil ?_
      refine ⟨(j + 1, v_22, out ++ (ix [] ss j)), (by show (ss.length - (j + 1)).toNat < (ss.length - j).toNat; omega), ?_, ?_, Out.look rfl Out.self⟩
      · exact ⟨hS.tl, (by first | omega | assumption), (by first | omega | assumption), (by rw [hf1, g2]), (by rw [List.length_append]; omega)⟩
      · exact ⟨rfl, rfl, trivial⟩
    · -- no
      refine W.exit rfl ?_
      refine W.seq ?_
      refine W.reg ?_
      refine Wx.rd (v := ov) (rd_move rfl) rfl ?_
      refine Wx.rd (v := ov) (rd_assign rfl) rfl ?_
      refine Wx.nil ?_
      have e0_0 : ss.flatten = out := by rw [g2, take_end (by omega)]
      exact W.ret ⟨ov, ResIs.one, hS.bel, ⟨ov, rfl, (by rw [e0_0]; exact (hS.fr 0 rfl flat_int))⟩⟩

theorem F70 {n : Int} {O : List (Option Nat)} {w : World} (i_n : InK .i64 n) (p_0 : 0 ≤ n) (p_n : n ≤ 1000) (hO : ∀ b, some b ∈ O → b < w.heap.size) : Calls Tryz.prog 70 #[(.slice none 0 0), .int .i64 n] w (Ret w (fun r w' => ∃ rv, r = rv ∧ FreshO (tSl (tI .i64)) 25 ([] : List (List Int)) rv O w.heap.size w')) := by
  have b_n := bd_i64 i_n
  have hS := St.start w O hO
  refine enterR Tryz.func70 rfl Tryz.ntmps70 Tryz.results70 rfl ?_
  refine W.seq ?_
  refine W.reg ?_
  refine Wx.rd (v := (.slice none 0 0)) (rd_assign rfl) rfl ?_
  refine Wx.nil ?_
  refine W.seq ?_
  refine W.seq ?_
  refine W.reg ?_
  refine Wx.rd (v := .int .i64 n) (rd_move rfl) rfl ?_
  refine Wx.rd (v := .bool (decide (n < 0))) (rd_lss rfl rfl) rfl ?_
  refine Wx.nil ?_
  refine W.condF rfl (decide_eq_false (by omega)) ?_
  refine W.skip ?_
  refine W.seq ?_
  refine W.seq ?_
  refine W.reg ?_
  refine Wx.rd (v := .int .i64 n) (rd_move rfl) rfl ?_
  refine Wx.rd (v := (.slice none 0 0)) (rd_move rfl) rfl ?_
  refine Wx.rd (v := .int .i64 0) (rd_cap rfl Tryz.underlying24) rfl ?_
  refine Wx.rd (v := (.slice none 0 0)) (rd_move rfl) rfl ?_
  refine Wx.rd (v := .int .i64 0) (rd_len rfl Tryz.underlying24) rfl ?_
  refine Wx.rd (v := .int .i64 0) (rd_sub (a := 0) (b := 0) rfl rfl (in_i64 (by omega) (by omega))) rfl ?_
  refine Wx.rd (v := .int .i64 (n - 0)) (rd_sub rfl rfl (in_i64 (by omega) (by omega))) rfl ?_
  refine Wx.rd (v := .int .i64 (n - 0)) (rd_assign rfl) rfl ?_
  refine Wx.nil ?_
  refine W.seq ?_
  refine W.reg ?_
  refine Wx.rd (v := .int .i64 (n - 0)) (rd_move rfl) rfl ?_
  refine Wx.rd (v := .bool (decide (0 < (n - 0)))) (rd_gtr rfl rfl) rfl ?_
  refine Wx.nil ?_
  refine W.condD rfl (fun c1 => ?_) (fun c1 => ?_)
  · -- yes
    refine W.reg ?_
    refine Wx.rd (v := (.slice none 0 0)) (rd_move rfl) rfl ?_
    refine Wx.rd (v := (.slice none 0 0)) (rd_move rfl) rfl ?_
    refine Wx.rd (v := .int .i64 0) (rd_cap rfl Tryz.underlying24) rfl ?_
    refine Wx.rd (v := (.slice none 0 0)) (rd_sliceNil Tryz.underlying24 Tryz.sizeOf25 rfl rfl) rfl ?_
    refine Wx.rd (v := .int .i64 (n - 0)) (rd_move rfl) rfl ?_
    refine Wx.zeros (t := (tSl (tI .i64))) (zy := []) (m := n.toNat) elMb_24 rfl rfl (fun _ _ => ⟨none, 0, rfl, Nat.le_refl _, Nat.zero_le _, fun h => (h rfl).elim⟩) hS Tryz.underlying3 rfl (congrArg (Value.int .i64) (by omega)) (by omega) (by omega) (by simp only [maxLen]; omega) rfl (fun v_1 w_2 hx_3 hS => ?_)
    obtain ⟨g_4, c_5, rfl, hc_6⟩ := hS.rowForm 0 rfl (by simp; omega)
    refine Wx.rd (v := (.slice none 0 0)) (rd_move rfl) rfl ?_
    refine Wx.rd (v := .int .i64 0) (rd_len rfl Tryz.underlying24) rfl ?_
    refine Wx.rd (v := (.slice (some ⟨g_4, 0, none⟩) (0 : Int).toNat c_5)) (rd_headO Tryz.underlying24 Tryz.sizeOf25 rfl rfl (by omega) (by omega)) rfl ?_
    have hS : St _ _ _ [.row (tSl (tI .i64)) 25 (.slice (some ⟨g_4, 0, none⟩) (0 : Int).toNat c_5) (List.take (0 : Int).toNat (List.replicate n.toNat []))] := hS.shrink (m := (0 : Int).toNat) 0 rfl (by omega)
    refine Wx.rd (v := (.slice (some ⟨g_4, 0, none⟩) (0 : Int).toNat c_5)) (rd_assign rfl) rfl ?_
    refine Wx.nil ?_
    refine W.seq ?_
    refine W.reg ?_
    refine Wx.rd (v := (.slice (some ⟨g_4, 0, none⟩) (0 : Int).toNat c_5)) (rd_move rfl) rfl ?_
    refine Wx.rd (v := (.slice (some ⟨g_4, 0, none⟩) (0 : Int).toNat c_5)) (rd_assign rfl) rfl ?_
    refine Wx.nil ?_
    have e0_0 : ([] : List (List Int)) = List.take (0 : Int).toNat (List.replicate n.toNat []) := by simp
    exact W.ret ⟨(.slice (some ⟨g_4, 0, none⟩) (0 : Int).toNat c_5), ResIs.one, hS.bel, ⟨(.slice (some ⟨g_4, 0, none⟩) (0 : Int).toNat c_5), rfl, (by rw [e0_0]; exact (hS.frO 0 rfl))⟩⟩
  · -- no
    refine W.skip ?_
    refine W.seq ?_
    refine W.reg ?_
    refine Wx.rd (v := (.slice none 0 0)) (rd_move rfl) rfl ?_
    refine Wx.rd (v := (.slice none 0 0)) (rd_assign rfl) rfl ?_
    refine Wx.nil ?_
    have e1_0 : ([] : List (List Int)) = [] := by simp
    exact W.ret ⟨(.slice none 0 0), ResIs.one, hS.bel, ⟨(.slice none 0 0), rfl, (by rw [e1_0]; exact ((hS.addNil (tSl (tI .i64)) 25).frO 0 rfl))⟩⟩

theorem F53 {sv : Value} {ss : List (List (List Int))} {O : List (Option Nat)} {w : World} (h_sv : V (tSl (tSl (tSl (tI .i64)))) ss sv O w) (p_n : (ss.flatten.length : Int) ≤ 1000) (hO : ∀ b, some b ∈ O → b < w.heap.size) : Calls Tryz.prog 53 #[sv] w (Ret w (fun r w' => ∃ rv, r = rv ∧ FreshO (tSl (tI .i64)) 25 ss.flatten rv O w.heap.size w')) := by
  have a_sv := h_sv
  have l_sv := h_sv.len63
  have hS := St.start w O hO
  refine enterR Tryz.func53 rfl Tryz.ntmps53 Tryz.results53 rfl ?_
  refine W.seq ?_
  refine W.reg ?_
  refine Wx.rd (v := (.slice none 0 0)) (rd_assign rfl) rfl ?_
  refine Wx.nil ?_
  refine W.seq ?_
  refine W.reg ?_
  refine Wx.rd (v := .int .i64 0) (rd_assign rfl) rfl ?_
  refine Wx.nil ?_
  refine W.seq ?_
  refine W.seq ?_
  refine W.reg ?_
  refine Wx.rd (v := sv) (rd_move rfl) rfl ?_
  refine Wx.rd (v := .int .i64 (ss.length : Int)) (rd_lenV rfl (hS.arg a_sv) Tryz.underlying105) rfl ?_
  refine Wx.rd (v := .int .i64 0) (rd_move rfl) rfl ?_
  refine Wx.nil ?_
  refine W.block ?_
  refine W.loop [3, 5, 11, 12, 13, 14, 15, 16, 17, 18, 19, 20, 21, 22] (fun x : Int × Int => match x with | (s, k) => [(3, .int .i64 s), (11, .int .i64 k)]) (fun (x : Int × Int) w' => match x with | (s, k) => St w O w' [] ∧ 0 ≤ k ∧ k ≤ ss.length ∧ s = ((ss.take k.toNat).flatten.length : Int)) (fun x : Int × Int => match x with | (s, k) => (ss.length - k).toNat) (0, 0) ⟨rfl, rfl, trivial⟩ ⟨hS, (by first | omega | simp), (by first | omega | simp), (rfl)⟩ ?_
  rintro ⟨s, k⟩ u_2 w_1 ⟨hS, h0, h1, h2⟩
  refine W.seq ?_
  refine W.reg ?_
  refine Wx.rd (v := .bool (decide (k < (ss.length : Int)))) (rd_lss rfl rfl) rfl ?_
  refine Wx.nil ?_
  refine W.seq ?_
  refine W.condD rfl (fun c0 => ?_) (fun c0 => ?_)
  · -- yes
    obtain ⟨hf1, hf2⟩ := flatR_next (ss := ss) h0 c0
    refine W.skip ?_
    refine W.seq ?_
    refine W.block ?_
    refine W.seq ?_
    refine W.reg ?_
    refine Wx.ex (rd_index [] (hS.arg a_sv) rfl rfl Tryz.underlying105 Tryz.sizeOf24 (by first | omega | (simp only [List.length_set, List.length_append, List.length_cons, List.length_nil, List.length_replicate]; omega)) (by first | omega | (simp only [List.length_set, List.length_append, List.length_cons, List.length_nil, List.length_replicate]; omega))) rfl (fun p_3 hp_4 => ?_)
    refine Wx.ex (rd_load hp_4 rfl Tryz.isAgg24 Tryz.sizeOf24) rfl (fun v_5 hv_6 => ?_)
    have ln_7 := hv_6.len63
    have hS := hS.add hv_6
    refine Wx.rd (v := v_5) (rd_assign rfl) rfl ?_
    refine Wx.nil ?_
    refine W.seq ?_
    refine W.reg ?_
    refine Wx.rd (v := .int .i64 s) (rd_move rfl) rfl ?_
    refine Wx.rd (v := v_5) (rd_move rfl) rfl ?_
    refine Wx.rd (v := .int .i64 ((ix [] ss k).length : Int)) (rd_lenV rfl (hS.v 0 rfl) Tryz.underlying24) rfl ?_
    refine Wx.rd (v := .int .i64 (s + ((ix [] ss k).length : Int))) (rd_add rfl rfl (in_i64 (by omega) (by omega))) rfl ?_
    refine Wx.rd (v := .int .i64 (s + ((ix [] ss k).length : Int))) (rd_assign rfl) rfl ?_
    refine Wx.nil ?_
    refine W.seq ?_
    refine W.reg ?_
    refine Wx.rd (v := .int .i64 (s + ((ix [] ss k).length : Int))) (rd_move rfl) rfl ?_
    refine Wx.rd (v := .bool (decide ((s + ((ix [] ss k).length : Int)) < 0))) (rd_lss rfl rfl) rfl ?_
    refine Wx.nil ?_
    refine W.condF rfl (decide_eq_false (by omega)) ?_
    refine W.skip ?_
    refine W.reg ?_
    refine Wx.rd (v := .int .i64 (k + 1)) (rd_add rfl rfl (in_i64 (by omega) (by omega))) rfl ?_
    refine Wx.rd (v := .int .i64 (k + 1)) (rd_move rfl) rfl ?_
    refine Wx.nil ?_
    refine ⟨(s + ((ix [] ss k).length : Int), k + 1), (by show (ss.length - (k + 1)).toNat < (ss.length - k).toNat; omega), ?_, ?_, Out.look rfl Out.self⟩
    · exact ⟨hS.tl, (by first | omega | assumption), (by first | omega | assumption), (by rw [hf1, List.length_append, h2]; omega)⟩
    · exact ⟨rfl, rfl, trivial⟩
  · -- no
    have hsl : s ≤ 1000 := by rw [h2, take_end (xs := ss) (by omega)]; exact p_n
    refine W.exit rfl ?_
    refine W.seq ?_
    refine W.reg ?_
    refine Wx.rd (v := .int .i64 s) (rd_move rfl) rfl ?_
    refine Wx.callF (run_callF Tryz.call70 rfl) (F70 (in_i64 (by omega) (by omega)) (by omega) (by omega) hS.fb_lt) rfl ?_
    rintro r_9 w_10 hx_11 ⟨_, rfl, hv_12⟩
    have hS := hS.pushFrO hx_11 hv_12
    refine Wx.rd (v := r_9) (rd_assign rfl) rfl ?_
    refine Wx.nil ?_
    refine W.seq ?_
    refine W.seq ?_
    refine W.reg ?_
    refine Wx.rd (v := sv) (rd_move rfl) rfl ?_
    refine Wx.rd (v := .int .i64 (ss.length : Int)) (rd_lenV rfl (hS.arg a_sv) Tryz.underlying105) rfl ?_
    refine Wx.rd (v := .int .i64 0) (rd_move rfl) rfl ?_
    refine Wx.nil ?_
    refine W.block ?_
    refine W.loop [6, 8, 27, 28, 29, 30, 31, 32, 33, 34] (fun x : Int × Value × (List (List Int)) => match x with | (j, ov, out) => [(27, .int .i64 j), (6, ov)]) (fun (x : Int × Value × (List (List Int))) w' => match x with | (j, ov, out) => St w O w' [.row (tSl (tI .i64)) 25 ov out] ∧ 0 ≤ j ∧ j ≤ ss.length ∧ out = (ss.take j.toNat).flatten ∧ (out.length : Int) ≤ 1000) (fun x : Int × Value × (List (List Int)) => match x with | (j, ov, out) => (ss.length - j).toNat) (0, r_9, ([] : List (List Int))) ⟨rfl, rfl, trivial⟩ ⟨hS, (by first | omega | simp), (by first | omega | simp), (rfl), (by simp)⟩ ?_
    rintro ⟨j, ov, out⟩ u_15 w_14 ⟨hS, g0, g1, g2, g3⟩
    refine W.seq ?_
    refine W.reg ?_
    refine Wx.rd (v := .bool (decide (j < (ss.length : Int)))) (rd_lss rfl rfl) rfl ?_
    refine Wx.nil ?_
    refine W.seq ?_
    refine W.condD rfl (fun c2 => ?_) (fun c2 => ?_)
    · -- yes
      obtain ⟨hf1, hf2⟩ := flatR_next (ss := ss) g0 c2
      have hol : (out.length : Int) + (ix [] ss j).length ≤ 1000 := by rw [g2]; omega
      refine W.skip ?_
      refine W.seq ?_
      refine W.block ?_
      refine W.seq ?_
      refine W.reg ?_
      refine Wx.ex (rd_index [] (hS.arg a_sv) rfl rfl Tryz.underlying105 Tryz.sizeOf24 (by first | omega | (simp only [List.length_set, List.length_append, List.length_cons, List.length_nil, List.length_replicate]; omega)) (by first | omega | (simp only [List.length_set, List.length_append, List.length_cons, List.length_nil, List.length_replicate]; omega))) rfl (fun p_16 hp_17 => ?_)
      refine Wx.ex (rd_load hp_17 rfl Tryz.isAgg24 Tryz.sizeOf24) rfl (fun v_18 hv_19 => ?_)
      have ln_20 := hv_19.len63
      have hS := hS.add hv_19
      refine Wx.rd (v := v_18) (rd_assign rfl) rfl ?_
      refine Wx.nil ?_
      refine W.reg ?_
      refine Wx.rd (v := ov) (rd_move rfl) rfl ?_
      refine Wx.rd (v := v_18) (rd_move rfl) rfl ?_
      refine Wx.append elMb_24 hS 1 rfl rfl rfl (Src.ofV (hS.v 0 rfl)) (by simp only [maxLen]; omega) (by omega) rfl (fun v_22 w_23 hz_24 hS => ?_)
      refine Wx.rd (v := v_22) (rd_assign rfl) rfl ?_
      refine Wx.nil ?_
      refine W.reg ?_
      refine Wx.rd (v := .int .i64 (j + 1)) (rd_add rfl rfl (in_i64 (by omega) (by omega))) rfl ?_
      refine Wx.rd (v := .int .i64 (j + 1)) (rd_move rfl) rfl ?_
      refine Wx.nil ?_
      refine ⟨(j + 1, v_22, out ++ (ix [] ss j)), (by show (ss.length - (j + 1)).toNat < (ss.length - j).toNat; omega), ?_, ?_, Out.look rfl Out.self⟩
      · exact ⟨hS.tl, (by first | omega | assumption), (by first | omega | assumption), (by rw [hf1, g2]), (by rw [List.length_append]; omega)⟩
      · exact ⟨rfl, rfl, trivial⟩
    · -- no
      refine W.exit rfl ?_
      refine W.seq ?_
      refine W.reg ?_
      refine Wx.rd (v := ov) (rd_move rfl) rfl ?_
      refine Wx.rd (v := ov) (rd_assign rfl) rfl ?_
      refine Wx.nil ?_
      have e0_0 : ss.flatten = out := by rw [g2, take_end (by omega)]
      exact W.ret ⟨ov, ResIs.one, hS.bel, ⟨ov, rfl, (by rw [e0_0]; exact (hS.frO 0 rfl))⟩⟩
end Go.Proofs.YtlibemgaepkceaaGreatDoor

namespace Go.Proofs.YtlibemgaepkceaaGreatDoor
open Go.Wk Go.RowKit Go.Lib
set_option linter.unusedVariables false
set_option linter.unusedSimpArgs false
theorem elMc_105 : ElemI Tryz.prog 105 24 ((.slice none 0 0)) 1 24 := ElemI.of Tryz.underlying105 (by kernel_rfl) (by first | rfl | kernel_rfl) (by decide)

theorem F32 {wv : Value} {Ws : List (List Int)} {xv : Value} {Xs : List (List Int)} {O : List (Option Nat)} {w : World} (h_wv : V (tSl (tSl (tI .i64))) Ws wv O w) (h_xv : V (tSl (tSl (tI .i64))) Xs xv O w) (p_n : 1 ≤ (Ws.length : Int) ∧ (Ws.length : Int) ≤ 6) (p_x : (Xs.length : Int) ≤ 10) (p_p : ∀ l ∈ Ws ++ Xs, PermR Ws.length l) (hO : ∀ b, some b ∈ O → b < w.heap.size) : Calls Tryz.prog 32 #[wv, xv] w (Ret w (fun r _ => r = .int .i64 0)) := by
  have a_wv := h_wv
  have l_wv := h_wv.len63
  have a_xv := h_xv
  have l_xv := h_xv.len63
  have hS := St.start w O hO
  refine enterR Tryz.func32 rfl Tryz.ntmps32 Tryz.results32 rfl ?_
  refine W.seq ?_
  refine W.reg ?_
  refine Wx.rd (v := .int .i64 0) (rd_assign rfl) rfl ?_
  refine Wx.nil ?_
  refine W.seq ?_
  refine W.reg ?_
  refine Wx.rd (v := wv) (rd_move rfl) rfl ?_
  refine Wx.rd (v := .int .i64 (Ws.length : Int)) (rd_lenV rfl (hS.arg a_wv) Tryz.underlying24) rfl ?_
  refine Wx.rd (v := .int .i64 (Ws.length : Int)) (rd_assign rfl) rfl ?_
  refine Wx.nil ?_
  refine W.seq ?_
  refine W.block ?_
  refine W.seq ?_
  refine W.reg ?_
  refine Wx.rd (v := .int .i64 (Ws.length : Int)) (rd_move rfl) rfl ?_
  refine Wx.rd (v := .bool (decide ((Ws.length : Int) = 0))) (rd_eql rfl rfl) rfl ?_
  refine Wx.rd (v := .bool (decide ((Ws.length : Int) = 0))) (rd_assign rfl) rfl ?_
  refine Wx.nil ?_
  refine W.condF rfl (decide_eq_false (by omega)) ?_
  refine W.seq ?_
  refine W.reg ?_
  refine Wx.rd (v := .int .i64 (Ws.length : Int)) (rd_move rfl) rfl ?_
  refine Wx.rd (v := .bool (decide (6 < (Ws.length : Int)))) (rd_gtr rfl rfl) rfl ?_
  refine Wx.rd (v := .bool (decide (6 < (Ws.length : Int)))) (rd_assign rfl) rfl ?_
  refine Wx.nil ?_
  refine W.condF rfl (decide_eq_false (by omega)) ?_
  refine W.skip ?_
  refine W.seq ?_
  refine W.seq ?_
  refine W.reg ?_
  refine Wx.rd (v := wv) (rd_move rfl) rfl ?_
  refine Wx.rd (v := xv) (rd_move rfl) rfl ?_
  refine Wx.lit (t := (tSl (tSl (tI .i64)))) (ys := [Ws, Xs]) (vs := [wv, xv]) elMc_105 hS rfl rfl ⟨(hS.arg a_wv), ⟨(hS.arg a_xv), trivial⟩⟩ (by decide) rfl (fun v_1 w_2 hx_3 hS => ?_)
  have hS := hS.freeze 0 rfl
  refine Wx.callF (run_callF Tryz.call53 rfl) (F53 (hS.v 0 rfl) (by simp; omega) hS.fb_lt) rfl ?_
  rintro r_5 w_6 hx_7 ⟨_, rfl, hv_8⟩
  have hS := hS.pushFrO hx_7 hv_8
  have hfl : ([Ws, Xs].flatten : List (List Int)) = Ws ++ Xs := by simp
  have hfl2 : (([Ws, Xs].flatten : List (List Int)).length : Int) ≤ 16 := by rw [hfl, List.length_append]; omega
  have hfm : ∀ l ∈ ([Ws, Xs].flatten : List (List Int)), PermR Ws.length l := by rw [hfl]; exact p_p
  refine Wx.rd (v := .int .i64 (([Ws, Xs].flatten).length : Int)) (rd_lenR hS 0 rfl rfl Tryz.underlying24) rfl ?_
  refine Wx.rd (v := .int .i64 0) (rd_move rfl) rfl ?_
  refine Wx.nil ?_
  refine W.block ?_
  refine W.loop [4, 7, 8, 22, 23, 24, 25, 26, 27, 28, 29, 30, 31, 32] (fun (k : Int) => [(22, .int .i64 k)]) (fun (k : Int) w' => St w O w' [.row (tSl (tI .i64)) 25 r_5 ([Ws, Xs].flatten), Ob.v (tSl (tSl (tSl (tI .i64)))) [Ws, Xs] v_1] ∧ 0 ≤ k ∧ k ≤ ([Ws, Xs].flatten : List (List Int)).length) (fun (k : Int) => (([Ws, Xs].flatten : List (List Int)).length - k).toNat) 0 ⟨rfl, trivial⟩ ⟨hS, (by first | omega | simp), (by first | omega | simp)⟩ ?_
  rintro k u_11 w_10 ⟨hS, h0, h1⟩
  refine W.seq ?_
  refine W.reg ?_
  refine Wx.rd (v := .bool (decide (k < (([Ws, Xs].flatten).length : Int)))) (rd_lss rfl rfl) rfl ?_
  refine Wx.nil ?_
  refine W.seq ?_
  refine W.condD rfl (fun c2 => ?_) (fun c2 => ?_)
  · -- yes
    refine W.skip ?_
    refine W.seq ?_
    refine W.block ?_
    refine W.seq ?_
    refine W.reg ?_
    refine Wx.indexR hS 0 rfl rfl rfl Tryz.underlying24 Tryz.sizeOf25 (by first | omega | (simp only [List.length_set, List.length_append, List.length_cons, List.length_nil, List.length_replicate]; omega)) (by first | omega | (simp only [List.length_set, List.length_append, List.length_cons, List.length_nil, List.length_replicate]; omega)) rfl (fun g_12 hg_13 => ?_)
    refine Wx.ex (rd_loadR' [] hS 0 rfl hg_13 rfl (by first | omega | (simp only [List.length_set, List.length_append, List.length_cons, List.length_nil, List.length_replicate]; omega)) (by first | omega | (simp only [List.length_set, List.length_append, List.length_cons, List.length_nil, List.length_replicate]; omega)) Tryz.isAgg25 Tryz.sizeOf25) rfl (fun v_14 hv_15 => ?_)
    have ln_16 := hv_15.len63
    have hS := hS.add hv_15
    refine Wx.rd (v := v_14) (rd_assign rfl) rfl ?_
    refine Wx.nil ?_
    refine W.seq ?_
    refine W.reg ?_
    refine Wx.rd (v := .int .i64 (Ws.length : Int)) (rd_move rfl) rfl ?_
    refine Wx.rd (v := v_14) (rd_move rfl) rfl ?_
    refine Wx.callF (run_callF Tryz.call54 rfl) (F54 (in_i64 (by omega) (by omega)) (hS.v 0 rfl) ⟨by omega, by omega⟩ (by rw [Int.toNat_natCast]; exact hfm _ (ix_memR h0 c2))) rfl ?_
    rintro r_18 w_19 hx_20 rfl
    have hS := hS.ext hx_20
    refine Wx.rd (v := .int .i64 0) (rd_assign rfl) rfl ?_
    refine Wx.nil ?_
    refine W.seq ?_
    refine W.reg ?_
    refine Wx.rd (v := .int .i64 0) (rd_move rfl) rfl ?_
    refine Wx.rd (v := .bool false) (Rd.to (v := .bool (decide ((0 : Int) ≠ 0))) (rd_neq rfl rfl) rfl) rfl ?_
    refine Wx.nil ?_
    refine W.condF rfl rfl ?_
    refine W.skip ?_
    refine W.reg ?_
    refine Wx.rd (v := .int .i64 (k + 1)) (rd_add rfl rfl (in_i64 (by omega) (by omega))) rfl ?_
    refine Wx.rd (v := .int .i64 (k + 1)) (rd_move rfl) rfl ?_
    refine Wx.nil ?_
    refine ⟨k + 1, (by show (([Ws, Xs].flatten : List (List Int)).length - (k + 1)).toNat < (([Ws, Xs].flatten : List (List Int)).length - k).toNat; omega), ?_, ?_, Out.look rfl Out.self⟩
    · exact ⟨hS.tl, (by first | omega | assumption), (by first | omega | assumption)⟩
    · exact ⟨rfl, trivial⟩
  · -- no
    refine W.exit rfl ?_
    refine W.seq ?_
    refine W.reg ?_
    refine Wx.rd (v := .int .i64 0) (rd_assign rfl) rfl ?_
    refine Wx.nil ?_
    exact W.ret ⟨.int .i64 0, ResIs.one, hS.bel, rfl⟩
end Go.Proofs.YtlibemgaepkceaaGreatDoor
