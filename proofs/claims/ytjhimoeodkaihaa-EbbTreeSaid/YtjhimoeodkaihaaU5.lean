/-
  WHAT IS PROVED HERE, TEXT BY TEXT (several texts of one prover, joined to one file; the conditions stand in each statement):
  * WHAT IS PROVED HERE: what functions of layer 1 hand back, each out of its own code; the conditions stand in each statement.
  * WHAT IS PROVED HERE: what functions of layer 1 hand back, each out of its own code; the conditions stand in each statement.
  * WHAT IS PROVED HERE: what functions of layer 1 hand back, each out of its own code; the conditions stand in each statement.
  * WHAT IS PROVED HERE: what functions of layer 1 hand back, each out of its own code; the conditions stand in each statement.
  * WHAT IS PROVED HERE: what functions of layer 1 hand back, each out of its own code; the conditions stand in each statement.
  * WHAT IS PROVED HERE: what functions of layer 1 hand back, each out of its own code; the conditions stand in each statement.
  * WHAT IS PROVED HERE: what functions of layer 1 hand back, each out of its own code; the conditions stand in each statement.
  * WHAT IS PROVED HERE: what functions of layer 1 hand back, each out of its own code; the conditions stand in each statement.
  * WHAT IS PROVED HERE: what functions of layer 1 hand back, each out of its own code; the conditions stand in each statement.
  * WHAT IS PROVED HERE: what functions of layer 1 hand back, each out of its own code; the conditions stand in each statement.
  * WHAT IS PROVED HERE: what functions of layer 1 hand back, each out of its own code; the conditions stand in each statement.
  * WHAT IS PROVED HERE: what functions of layer 1 hand back, each out of its own code; the conditions stand in each statement.
  * WHAT IS PROVED HERE: what functions of layer 1 hand back, each out of its own code; the conditions stand in each statement.
  * WHAT IS PROVED HERE: what functions of layer 1 hand back, each out of its own code; the conditions stand in each statement.
  * WHAT IS PROVED HERE: what functions of layer 1 hand back, each out of its own code; the conditions stand in each statement.
-/
import Derived.Test.YtjhimoeodkaihaaProg
import Derived.Test.YtjhimoeodkaihaaU2
import Derived.Test.YtjhimoeodkaihaaU4
import Derived.Test.YtjhimoeodkaihaaU1

set_option linter.unusedVariables false
set_option linter.unusedSimpArgs false

namespace Go.Proofs.Ytjhimoeodkaihaa
open Go.Wk Go.RowKit Go.Lib
set_option linter.unusedVariables false
set_option linter.unusedSimpArgs false
theorem mixedLk_ : Try.prog.follows .mixedOrders = true := by kernel_rfl
theorem foLk_24_1 : fldOff Try.prog 24 1 = some 1 := by kernel_rfl
theorem elLk_22 : ElemI Try.prog 22 3 (.int .i64 0) 1 8 := ElemI.of Try.underlying22 (by kernel_rfl) (by first | rfl | kernel_rfl) (by decide)

set_option maxHeartbeats 8000000 in
theorem F31 {R : Int} {C : Int} {hv : Value} {H : List Int} {p : Int} {O : List (Option Nat)} {w : World} (i_R : InK .i64 R) (i_C : InK .i64 C) (h_hv : V (tSl (tI .i64)) H hv O w) (i_p : InK .i64 p) (hO : ∀ b, some b ∈ O → b < w.heap.size) : Calls Try.prog 31 #[.agg #[.int .i64 R, .int .i64 C, hv], .int .i64 p] w (Ret w (fun r w' => ∃ rv, r = .tuple #[rv, .int .i64 (atE R C H p)] ∧ Fresh (tI .i64) 3 (wayE R C H p) rv w.heap.size w')) := by
  have b_p := bd_i64 i_p
  have b_C := bd_i64 i_C
  have b_R := bd_i64 i_R
  have a_hv := h_hv
  have l_hv := h_hv.len63
  have hS := St.start w O hO
  have hS : St w O w (DOb []) := hS
  refine enterMR (O := O) Try.func31 rfl Try.ntmps31 Try.results31 rfl ?_
  refine WD.seq ?_
  refine WD.ofW ?_
  refine W.reg ?_
  refine Wx.box (cs := [.int .i64 R, .int .i64 C, hv]) hS rfl rfl rfl (fun g_1 w_2 hx_4 hb_3 hS => ?_)
  refine Wx.box (cs := [.int .i64 p]) hS rfl rfl rfl (fun g_5 w_6 hx_8 hb_7 hS => ?_)
  refine Wx.rd (v := (.slice none 0 0)) (rd_assign rfl) rfl ?_
  refine Wx.rd (v := .int .i64 0) (rd_assign rfl) rfl ?_
  refine Wx.nil ?_
  refine WD.seq ?_
  refine WD.ofW ?_
  refine W.seq ?_
  refine W.reg ?_
  refine Wx.rd (v := .agg #[.int .i64 R, .int .i64 C, hv]) (rd_loadXs (ds := [.int .i64 R, .int .i64 C, hv]) hS 1 rfl rfl rfl rfl Try.isAgg24 Try.sizeOf24) rfl ?_
  refine Wx.rd (v := .int .i64 p) (rd_loadX hS 0 rfl rfl rfl Try.isAgg3) rfl ?_
  refine Wx.callF (run_callF Try.call71 rfl) (F71 i_R i_C (hS.arg a_hv) i_p) rfl ?_
  rintro r_9 w_10 hx_11 rfl
  have hS := hS.ext hx_11
  refine Wx.rd (v := .int .i64 (atE R C H p)) (rd_assign rfl) rfl ?_
  refine Wx.nil ?_
  refine W.seq ?_
  refine W.reg ?_
  refine Wx.rd (v := .int .i64 (atE R C H p)) (rd_move rfl) rfl ?_
  refine Wx.rd (v := .bool (decide ((atE R C H p) ≠ 0))) (rd_neq rfl rfl) rfl ?_
  refine Wx.nil ?_
  refine W.condD rfl (fun c0 => ?_) (fun c0 => ?_)
  · -- yes
    refine W.seq ?_
    refine W.reg ?_
    refine Wx.rd (v := .int .i64 (atE R C H p)) (rd_move rfl) rfl ?_
    refine Wx.rd (v := (.slice none 0 0)) (rd_assign rfl) rfl ?_
    refine Wx.rd (v := .int .i64 (atE R C H p)) (rd_assign rfl) rfl ?_
    refine Wx.nil ?_
    have hS : St _ _ w_10 (.box g_5 3 [.int .i64 p] :: .box g_1 24 [.int .i64 R, .int .i64 C, hv] :: DOb []) := hS
    refine W.ret ⟨[.box g_5 3 [.int .i64 p], .box g_1 24 [.int .i64 R, .int .i64 C, hv]], hS, fun w_12 hS => ?_⟩
    have e0_0 : wayE R C H p = [] := by rw [wayE, if_neg c0]
    exact ⟨.tuple #[(.slice none 0 0), .int .i64 (atE R C H p)], ResIs.two, hS.bel, ⟨(.slice none 0 0), rfl, (by rw [e0_0]; exact ((hS.addNil (tI .i64) 3).fr 0 rfl flat_int))⟩⟩
  · -- no
    obtain ⟨h0c, p_a⟩ := at_ok (R := R) (C := C) (H := H) (p := p) (by omega)
    have p_ok := SOK.of h0c
    obtain ⟨⟨r1, r2⟩, ⟨c1_, c2_⟩, hRC, ⟨n1, n36⟩, hCn, hok⟩ := id p_ok
    have hsl := p_ok.sill p_a.1 p_a.2
    have hdb := dist_bd (C := C) (h := sillV C H p) p_a
    have hds := dist_sill (C := C) p_ok.o p_a
    refine W.skip ?_
    refine WD.seq ?_
    refine WD.ofW ?_
    refine W.cutK [7, 22, 23, 24, 25] (fun (g7 : Nat) => [(7, .pointer (some ⟨g7, 0, none⟩))]) (fun (g7 : Nat) w' => St w O w' (.box g7 3 [.int .i64 (sillV C H p)] :: .box g_5 3 [.int .i64 p] :: .box g_1 24 [.int .i64 R, .int .i64 C, hv] :: DOb [])) ?_ ?_
    · -- up to the cut
      refine W.regP mixedLk_ (fun w_13 hx_14 => ?_)
      have hS := hS.ext hx_14
      refine Wp.br [0, 2, 4] (by kernel_rfl) (by decide) ⟨⟨_, rfl, ?_⟩, ⟨_, rfl, ?_⟩, ⟨_, rfl, ?_⟩, trivial⟩
      · -- operation 0
        refine Wx.rd (v := .agg #[.int .i64 R, .int .i64 C, hv]) (rd_loadXs (ds := [.int .i64 R, .int .i64 C, hv]) hS 1 rfl rfl rfl rfl Try.isAgg24 Try.sizeOf24) rfl ?_
        refine Wx.nil ?_
        refine Wp.br [1, 2, 4] (by kernel_rfl) (by decide) ⟨⟨_, rfl, ?_⟩, ⟨_, rfl, ?_⟩, ⟨_, rfl, ?_⟩, trivial⟩
        · -- operation 1
          refine Wx.callF (run_callF Try.call55 rfl) (F55v i_R i_C (hS.arg a_hv) p_ok) rfl ?_
          rintro r_15 w_16 hx_17 rfl
          have hS := hS.ext hx_17
          refine Wx.nil ?_
          refine Wp.br [2, 4] (by kernel_rfl) (by decide) ⟨⟨_, rfl, ?_⟩, ⟨_, rfl, ?_⟩, trivial⟩
          · -- operation 2
            refine Wx.rd (v := .int .i64 p) (rd_loadX hS 0 rfl rfl rfl Try.isAgg3) rfl ?_
            refine Wx.nil ?_
            refine Wp.rd (v := .int .i64 (sillV C H p)) 3 rfl (by kernel_rfl) (fun _ => (Rd.to (v := .int .i64 (ix 0 (knL (sillV C H) H.length) p)) (rd_indexVi (d := (0 : Int)) (f := Value.int .i64) (xs := (knL (sillV C H) H.length)) rfl rfl Try.underlying83 Try.sizeOf3 Try.isAgg3 rfl knL_len.symm (by omega) (by rw [knL_len]; omega)) (congrArg (Value.int .i64) (show (sillV C H p : Int) = (ix 0 (knL (sillV C H) H.length) p : Int) from (by rw [knL_ix (by omega) (by omega), if_pos (by omega)])).symm))) rfl ?_
            refine Wp.br [4] (by kernel_rfl) (by decide) ⟨⟨_, rfl, ?_⟩, trivial⟩
            refine Wx.alloc (cs := [.int .i64 0]) hS Try.zeroValue3 rfl rfl (fun g_18 w_19 hx_21 hb_20 hS => ?_)
            refine Wx.nil ?_
            refine Wp.br [5] (by kernel_rfl) (by decide) ⟨⟨_, rfl, ?_⟩, trivial⟩
            refine Wx.storeX (cs' := [.int .i64 (sillV C H p)]) (ds := [.int .i64 (sillV C H p)]) hS 0 rfl rfl rfl rfl Try.sizeOf3 (Nat.le_of_ble_eq_true rfl) (one_cons rfl one_nil) rfl (fun w_22 hz_23 hS => ?_)
            refine Wx.nil ?_
            refine Wp.done (by kernel_rfl) ?_
            have hS := hS.front 2 rfl
            have hS := hS.front 2 rfl
            have hS := hS.front 2 rfl
            refine ⟨g_18, ?_, ?_, Out.look rfl Out.refl⟩
            · exact hS
            · exact ⟨rfl, trivial⟩
          · -- operation 4
            refine Wx.alloc (cs := [.int .i64 0]) hS Try.zeroValue3 rfl rfl (fun g_24 w_25 hx_27 hb_26 hS => ?_)
            refine Wx.nil ?_
            refine Wp.br [2] (by kernel_rfl) (by decide) ⟨⟨_, rfl, ?_⟩, trivial⟩
            refine Wx.rd (v := .int .i64 p) (rd_loadX hS 1 rfl rfl rfl Try.isAgg3) rfl ?_
            refine Wx.nil ?_
            refine Wp.rd (v := .int .i64 (sillV C H p)) 3 rfl (by kernel_rfl) (fun _ => (Rd.to (v := .int .i64 (ix 0 (knL (sillV C H) H.length) p)) (rd_indexVi (d := (0 : Int)) (f := Value.int .i64) (xs := (knL (sillV C H) H.length)) rfl rfl Try.underlying83 Try.sizeOf3 Try.isAgg3 rfl knL_len.symm (by omega) (by rw [knL_len]; omega)) (congrArg (Value.int .i64) (show (sillV C H p : Int) = (ix 0 (knL (sillV C H) H.length) p : Int) from (by rw [knL_ix (by omega) (by omega), if_pos (by omega)])).symm))) rfl ?_
            refine Wp.br [5] (by kernel_rfl) (by decide) ⟨⟨_, rfl, ?_⟩, trivial⟩
            refine Wx.storeX (cs' := [.int .i64 (sillV C H p)]) (ds := [.int .i64 (sillV C H p)]) hS 0 rfl rfl rfl rfl Try.sizeOf3 (Nat.le_of_ble_eq_true rfl) (one_cons rfl one_nil) rfl (fun w_28 hz_29 hS => ?_)
            refine Wx.nil ?_
            refine Wp.done (by kernel_rfl) ?_
            have hS := hS.front 2 rfl
            have hS := hS.front 2 rfl
            have hS := hS.front 2 rfl
            refine ⟨g_24, ?_, ?_, Out.look rfl Out.refl⟩
            · exact hS
            · exact ⟨rfl, trivial⟩
        · -- operation 2
          refine Wx.rd (v := .int .i64 p) (rd_loadX hS 0 rfl rfl rfl Try.isAgg3) rfl ?_
          refine Wx.nil ?_
          refine Wp.br [1, 4] (by kernel_rfl) (by decide) ⟨⟨_, rfl, ?_⟩, ⟨_, rfl, ?_⟩, trivial⟩
          · -- operation 1
            refine Wx.callF (run_callF Try.call55 rfl) (F55v i_R i_C (hS.arg a_hv) p_ok) rfl ?_
            rintro r_30 w_31 hx_32 rfl
            have hS := hS.ext hx_32
            refine Wx.nil ?_
            refine Wp.rd (v := .int .i64 (sillV C H p)) 3 rfl (by kernel_rfl) (fun _ => (Rd.to (v := .int .i64 (ix 0 (knL (sillV C H) H.length) p)) (rd_indexVi (d := (0 : Int)) (f := Value.int .i64) (xs := (knL (sillV C H) H.length)) rfl rfl Try.underlying83 Try.sizeOf3 Try.isAgg3 rfl knL_len.symm (by omega) (by rw [knL_len]; omega)) (congrArg (Value.int .i64) (show (sillV C H p : Int) = (ix 0 (knL (sillV C H) H.length) p : Int) from (by rw [knL_ix (by omega) (by omega), if_pos (by omega)])).symm))) rfl ?_
            refine Wp.br [4] (by kernel_rfl) (by decide) ⟨⟨_, rfl, ?_⟩, trivial⟩
            refine Wx.alloc (cs := [.int .i64 0]) hS Try.zeroValue3 rfl rfl (fun g_33 w_34 hx_36 hb_35 hS => ?_)
            refine Wx.nil ?_
            refine Wp.br [5] (by kernel_rfl) (by decide) ⟨⟨_, rfl, ?_⟩, trivial⟩
            refine Wx.storeX (cs' := [.int .i64 (sillV C H p)]) (ds := [.int .i64 (sillV C H p)]) hS 0 rfl rfl rfl rfl Try.sizeOf3 (Nat.le_of_ble_eq_true rfl) (one_cons rfl one_nil) rfl (fun w_37 hz_38 hS => ?_)
            refine Wx.nil ?_
            refine Wp.done (by kernel_rfl) ?_
            have hS := hS.front 2 rfl
            have hS := hS.front 2 rfl
            have hS := hS.front 2 rfl
            refine ⟨g_33, ?_, ?_, Out.look rfl Out.refl⟩
            · exact hS
            · exact ⟨rfl, trivial⟩
          · -- operation 4
            refine Wx.alloc (cs := [.int .i64 0]) hS Try.zeroValue3 rfl rfl (fun g_39 w_40 hx_42 hb_41 hS => ?_)
            refine Wx.nil ?_
            refine Wp.br [1] (by kernel_rfl) (by decide) ⟨⟨_, rfl, ?_⟩, trivial⟩
            refine Wx.callF (run_callF Try.call55 rfl) (F55v i_R i_C (hS.arg a_hv) p_ok) rfl ?_
            rintro r_43 w_44 hx_45 rfl
            have hS := hS.ext hx_45
            refine Wx.nil ?_
            refine Wp.rd (v := .int .i64 (sillV C H p)) 3 rfl (by kernel_rfl) (fun _ => (Rd.to (v := .int .i64 (ix 0 (knL (sillV C H) H.length) p)) (rd_indexVi (d := (0 : Int)) (f := Value.int .i64) (xs := (knL (sillV C H) H.length)) rfl rfl Try.underlying83 Try.sizeOf3 Try.isAgg3 rfl knL_len.symm (by omega) (by rw [knL_len]; omega)) (congrArg (Value.int .i64) (show (sillV C H p : Int) = (ix 0 (knL (sillV C H) H.length) p : Int) from (by rw [knL_ix (by omega) (by omega), if_pos (by omega)])).symm))) rfl ?_
            refine Wp.br [5] (by kernel_rfl) (by decide) ⟨⟨_, rfl, ?_⟩, trivial⟩
            refine Wx.storeX (cs' := [.int .i64 (sillV C H p)]) (ds := [.int .i64 (sillV C H p)]) hS 0 rfl rfl rfl rfl Try.sizeOf3 (Nat.le_of_ble_eq_true rfl) (one_cons rfl one_nil) rfl (fun w_46 hz_47 hS => ?_)
            refine Wx.nil ?_
            refine Wp.done (by kernel_rfl) ?_
            have hS := hS.front 2 rfl
            have hS := hS.front 2 rfl
            have hS := hS.front 2 rfl
            refine ⟨g_39, ?_, ?_, Out.look rfl Out.refl⟩
            · exact hS
            · exact ⟨rfl, trivial⟩
        · -- operation 4
          refine Wx.alloc (cs := [.int .i64 0]) hS Try.zeroValue3 rfl rfl (fun g_48 w_49 hx_51 hb_50 hS => ?_)
          refine Wx.nil ?_
          refine Wp.br [1, 2] (by kernel_rfl) (by decide) ⟨⟨_, rfl, ?_⟩, ⟨_, rfl, ?_⟩, trivial⟩
          · -- operation 1
            refine Wx.callF (run_callF Try.call55 rfl) (F55v i_R i_C (hS.arg a_hv) p_ok) rfl ?_
            rintro r_52 w_53 hx_54 rfl
            have hS := hS.ext hx_54
            refine Wx.nil ?_
            refine Wp.br [2] (by kernel_rfl) (by decide) ⟨⟨_, rfl, ?_⟩, trivial⟩
            refine Wx.rd (v := .int .i64 p) (rd_loadX hS 1 rfl rfl rfl Try.isAgg3) rfl ?_
            refine Wx.nil ?_
            refine Wp.rd (v := .int .i64 (sillV C H p)) 3 rfl (by kernel_rfl) (fun _ => (Rd.to (v := .int .i64 (ix 0 (knL (sillV C H) H.length) p)) (rd_indexVi (d := (0 : Int)) (f := Value.int .i64) (xs := (knL (sillV C H) H.length)) rfl rfl Try.underlying83 Try.sizeOf3 Try.isAgg3 rfl knL_len.symm (by omega) (by rw [knL_len]; omega)) (congrArg (Value.int .i64) (show (sillV C H p : Int) = (ix 0 (knL (sillV C H) H.length) p : Int) from (by rw [knL_ix (by omega) (by omega), if_pos (by omega)])).symm))) rfl ?_
            refine Wp.br [5] (by kernel_rfl) (by decide) ⟨⟨_, rfl, ?_⟩, trivial⟩
            refine Wx.storeX (cs' := [.int .i64 (sillV C H p)]) (ds := [.int .i64 (sillV C H p)]) hS 0 rfl rfl rfl rfl Try.sizeOf3 (Nat.le_of_ble_eq_true rfl) (one_cons rfl one_nil) rfl (fun w_55 hz_56 hS => ?_)
            refine Wx.nil ?_
            refine Wp.done (by kernel_rfl) ?_
            have hS := hS.front 2 rfl
            have hS := hS.front 2 rfl
            have hS := hS.front 2 rfl
            refine ⟨g_48, ?_, ?_, Out.look rfl Out.refl⟩
            · exact hS
            · exact ⟨rfl, trivial⟩
          · -- operation 2
            refine Wx.rd (v := .int .i64 p) (rd_loadX hS 1 rfl rfl rfl Try.isAgg3) rfl ?_
            refine Wx.nil ?_
            refine Wp.br [1] (by kernel_rfl) (by decide) ⟨⟨_, rfl, ?_⟩, trivial⟩
            refine Wx.callF (run_callF Try.call55 rfl) (F55v i_R i_C (hS.arg a_hv) p_ok) rfl ?_
            rintro r_57 w_58 hx_59 rfl
            have hS := hS.ext hx_59
            refine Wx.nil ?_
            refine Wp.rd (v := .int .i64 (sillV C H p)) 3 rfl (by kernel_rfl) (fun _ => (Rd.to (v := .int .i64 (ix 0 (knL (sillV C H) H.length) p)) (rd_indexVi (d := (0 : Int)) (f := Value.int .i64) (xs := (knL (sillV C H) H.length)) rfl rfl Try.underlying83 Try.sizeOf3 Try.isAgg3 rfl knL_len.symm (by omega) (by rw [knL_len]; omega)) (congrArg (Value.int .i64) (show (sillV C H p : Int) = (ix 0 (knL (sillV C H) H.length) p : Int) from (by rw [knL_ix (by omega) (by omega), if_pos (by omega)])).symm))) rfl ?_
            refine Wp.br [5] (by kernel_rfl) (by decide) ⟨⟨_, rfl, ?_⟩, trivial⟩
            refine Wx.storeX (cs' := [.int .i64 (sillV C H p)]) (ds := [.int .i64 (sillV C H p)]) hS 0 rfl rfl rfl rfl Try.sizeOf3 (Nat.le_of_ble_eq_true rfl) (one_cons rfl one_nil) rfl (fun w_60 hz_61 hS => ?_)
            refine Wx.nil ?_
            refine Wp.done (by kernel_rfl) ?_
            have hS := hS.front 2 rfl
            have hS := hS.front 2 rfl
            have hS := hS.front 2 rfl
            refine ⟨g_48, ?_, ?_, Out.look rfl Out.refl⟩
            · exact hS
            · exact ⟨rfl, trivial⟩
      · -- operation 2
        refine Wx.rd (v := .int .i64 p) (rd_loadX hS 0 rfl rfl rfl Try.isAgg3) rfl ?_
        refine Wx.nil ?_
        refine Wp.br [0, 4] (by kernel_rfl) (by decide) ⟨⟨_, rfl, ?_⟩, ⟨_, rfl, ?_⟩, trivial⟩
        · -- operation 0
          refine Wx.rd (v := .agg #[.int .i64 R, .int .i64 C, hv]) (rd_loadXs (ds := [.int .i64 R, .int .i64 C, hv]) hS 1 rfl rfl rfl rfl Try.isAgg24 Try.sizeOf24) rfl ?_
          refine Wx.nil ?_
          refine Wp.br [1, 4] (by kernel_rfl) (by decide) ⟨⟨_, rfl, ?_⟩, ⟨_, rfl, ?_⟩, trivial⟩
          · -- operation 1
            refine Wx.callF (run_callF Try.call55 rfl) (F55v i_R i_C (hS.arg a_hv) p_ok) rfl ?_
            rintro r_62 w_63 hx_64 rfl
            have hS := hS.ext hx_64
            refine Wx.nil ?_
            refine Wp.rd (v := .int .i64 (sillV C H p)) 3 rfl (by kernel_rfl) (fun _ => (Rd.to (v := .int .i64 (ix 0 (knL (sillV C H) H.length) p)) (rd_indexVi (d := (0 : Int)) (f := Value.int .i64) (xs := (knL (sillV C H) H.length)) rfl rfl Try.underlying83 Try.sizeOf3 Try.isAgg3 rfl knL_len.symm (by omega) (by rw [knL_len]; omega)) (congrArg (Value.int .i64) (show (sillV C H p : Int) = (ix 0 (knL (sillV C H) H.length) p : Int) from (by rw [knL_ix (by omega) (by omega), if_pos (by omega)])).symm))) rfl ?_
            refine Wp.br [4] (by kernel_rfl) (by decide) ⟨⟨_, rfl, ?_⟩, trivial⟩
            refine Wx.alloc (cs := [.int .i64 0]) hS Try.zeroValue3 rfl rfl (fun g_65 w_66 hx_68 hb_67 hS => ?_)
            refine Wx.nil ?_
            refine Wp.br [5] (by kernel_rfl) (by decide) ⟨⟨_, rfl, ?_⟩, trivial⟩
            refine Wx.storeX (cs' := [.int .i64 (sillV C H p)]) (ds := [.int .i64 (sillV C H p)]) hS 0 rfl rfl rfl rfl Try.sizeOf3 (Nat.le_of_ble_eq_true rfl) (one_cons rfl one_nil) rfl (fun w_69 hz_70 hS => ?_)
            refine Wx.nil ?_
            refine Wp.done (by kernel_rfl) ?_
            have hS := hS.front 2 rfl
            have hS := hS.front 2 rfl
            have hS := hS.front 2 rfl
            refine ⟨g_65, ?_, ?_, Out.look rfl Out.refl⟩
            · exact hS
            · exact ⟨rfl, trivial⟩
          · -- operation 4
            refine Wx.alloc (cs := [.int .i64 0]) hS Try.zeroValue3 rfl rfl (fun g_71 w_72 hx_74 hb_73 hS => ?_)
            refine Wx.nil ?_
            refine Wp.br [1] (by kernel_rfl) (by decide) ⟨⟨_, rfl, ?_⟩, trivial⟩
            refine Wx.callF (run_callF Try.call55 rfl) (F55v i_R i_C (hS.arg a_hv) p_ok) rfl ?_
            rintro r_75 w_76 hx_77 rfl
            have hS := hS.ext hx_77
            refine Wx.nil ?_
            refine Wp.rd (v := .int .i64 (sillV C H p)) 3 rfl (by kernel_rfl) (fun _ => (Rd.to (v := .int .i64 (ix 0 (knL (sillV C H) H.length) p)) (rd_indexVi (d := (0 : Int)) (f := Value.int .i64) (xs := (knL (sillV C H) H.length)) rfl rfl Try.underlying83 Try.sizeOf3 Try.isAgg3 rfl knL_len.symm (by omega) (by rw [knL_len]; omega)) (congrArg (Value.int .i64) (show (sillV C H p : Int) = (ix 0 (knL (sillV C H) H.length) p : Int) from (by rw [knL_ix (by omega) (by omega), if_pos (by omega)])).symm))) rfl ?_
            refine Wp.br [5] (by kernel_rfl) (by decide) ⟨⟨_, rfl, ?_⟩, trivial⟩
            refine Wx.storeX (cs' := [.int .i64 (sillV C H p)]) (ds := [.int .i64 (sillV C H p)]) hS 0 rfl rfl rfl rfl Try.sizeOf3 (Nat.le_of_ble_eq_true rfl) (one_cons rfl one_nil) rfl (fun w_78 hz_79 hS => ?_)
            refine Wx.nil ?_
            refine Wp.done (by kernel_rfl) ?_
            have hS := hS.front 2 rfl
            have hS := hS.front 2 rfl
            have hS := hS.front 2 rfl
            refine ⟨g_71, ?_, ?_, Out.look rfl Out.refl⟩
            · exact hS
            · exact ⟨rfl, trivial⟩
        · -- operation 4
          refine Wx.alloc (cs := [.int .i64 0]) hS Try.zeroValue3 rfl rfl (fun g_80 w_81 hx_83 hb_82 hS => ?_)
          refine Wx.nil ?_
          refine Wp.br [0] (by kernel_rfl) (by decide) ⟨⟨_, rfl, ?_⟩, trivial⟩
          refine Wx.rd (v := .agg #[.int .i64 R, .int .i64 C, hv]) (rd_loadXs (ds := [.int .i64 R, .int .i64 C, hv]) hS 2 rfl rfl rfl rfl Try.isAgg24 Try.sizeOf24) rfl ?_
          refine Wx.nil ?_
          refine Wp.br [1] (by kernel_rfl) (by decide) ⟨⟨_, rfl, ?_⟩, trivial⟩
          refine Wx.callF (run_callF Try.call55 rfl) (F55v i_R i_C (hS.arg a_hv) p_ok) rfl ?_
          rintro r_84 w_85 hx_86 rfl
          have hS := hS.ext hx_86
          refine Wx.nil ?_
          refine Wp.rd (v := .int .i64 (sillV C H p)) 3 rfl (by kernel_rfl) (fun _ => (Rd.to (v := .int .i64 (ix 0 (knL (sillV C H) H.length) p)) (rd_indexVi (d := (0 : Int)) (f := Value.int .i64) (xs := (knL (sillV C H) H.length)) rfl rfl Try.underlying83 Try.sizeOf3 Try.isAgg3 rfl knL_len.symm (by omega) (by rw [knL_len]; omega)) (congrArg (Value.int .i64) (show (sillV C H p : Int) = (ix 0 (knL (sillV C H) H.length) p : Int) from (by rw [knL_ix (by omega) (by omega), if_pos (by omega)])).symm))) rfl ?_
          refine Wp.br [5] (by kernel_rfl) (by decide) ⟨⟨_, rfl, ?_⟩, trivial⟩
          refine Wx.storeX (cs' := [.int .i64 (sillV C H p)]) (ds := [.int .i64 (sillV C H p)]) hS 0 rfl rfl rfl rfl Try.sizeOf3 (Nat.le_of_ble_eq_true rfl) (one_cons rfl one_nil) rfl (fun w_87 hz_88 hS => ?_)
          refine Wx.nil ?_
          refine Wp.done (by kernel_rfl) ?_
          have hS := hS.front 2 rfl
          have hS := hS.front 2 rfl
          have hS := hS.front 2 rfl
          refine ⟨g_80, ?_, ?_, Out.look rfl Out.refl⟩
          · exact hS
          · exact ⟨rfl, trivial⟩
      · -- operation 4
        refine Wx.alloc (cs := [.int .i64 0]) hS Try.zeroValue3 rfl rfl (fun g_89 w_90 hx_92 hb_91 hS => ?_)
        refine Wx.nil ?_
        refine Wp.br [0, 2] (by kernel_rfl) (by decide) ⟨⟨_, rfl, ?_⟩, ⟨_, rfl, ?_⟩, trivial⟩
        · -- operation 0
          refine Wx.rd (v := .agg #[.int .i64 R, .int .i64 C, hv]) (rd_loadXs (ds := [.int .i64 R, .int .i64 C, hv]) hS 2 rfl rfl rfl rfl Try.isAgg24 Try.sizeOf24) rfl ?_
          refine Wx.nil ?_
          refine Wp.br [1, 2] (by kernel_rfl) (by decide) ⟨⟨_, rfl, ?_⟩, ⟨_, rfl, ?_⟩, trivial⟩
          · -- operation 1
            refine Wx.callF (run_callF Try.call55 rfl) (F55v i_R i_C (hS.arg a_hv) p_ok) rfl ?_
            rintro r_93 w_94 hx_95 rfl
            have hS := hS.ext hx_95
            refine Wx.nil ?_
            refine Wp.br [2] (by kernel_rfl) (by decide) ⟨⟨_, rfl, ?_⟩, trivial⟩
            refine Wx.rd (v := .int .i64 p) (rd_loadX hS 1 rfl rfl rfl Try.isAgg3) rfl ?_
            refine Wx.nil ?_
            refine Wp.rd (v := .int .i64 (sillV C H p)) 3 rfl (by kernel_rfl) (fun _ => (Rd.to (v := .int .i64 (ix 0 (knL (sillV C H) H.length) p)) (rd_indexVi (d := (0 : Int)) (f := Value.int .i64) (xs := (knL (sillV C H) H.length)) rfl rfl Try.underlying83 Try.sizeOf3 Try.isAgg3 rfl knL_len.symm (by omega) (by rw [knL_len]; omega)) (congrArg (Value.int .i64) (show (sillV C H p : Int) = (ix 0 (knL (sillV C H) H.length) p : Int) from (by rw [knL_ix (by omega) (by omega), if_pos (by omega)])).symm))) rfl ?_
            refine Wp.br [5] (by kernel_rfl) (by decide) ⟨⟨_, rfl, ?_⟩, trivial⟩
            refine Wx.storeX (cs' := [.int .i64 (sillV C H p)]) (ds := [.int .i64 (sillV C H p)]) hS 0 rfl rfl rfl rfl Try.sizeOf3 (Nat.le_of_ble_eq_true rfl) (one_cons rfl one_nil) rfl (fun w_96 hz_97 hS => ?_)
            refine Wx.nil ?_
            refine Wp.done (by kernel_rfl) ?_
            have hS := hS.front 2 rfl
            have hS := hS.front 2 rfl
            have hS := hS.front 2 rfl
            refine ⟨g_89, ?_, ?_, Out.look rfl Out.refl⟩
            · exact hS
            · exact ⟨rfl, trivial⟩
          · -- operation 2
            refine Wx.rd (v := .int .i64 p) (rd_loadX hS 1 rfl rfl rfl Try.isAgg3) rfl ?_
            refine Wx.nil ?_
            refine Wp.br [1] (by kernel_rfl) (by decide) ⟨⟨_, rfl, ?_⟩, trivial⟩
            refine Wx.callF (run_callF Try.call55 rfl) (F55v i_R i_C (hS.arg a_hv) p_ok) rfl ?_
            rintro r_98 w_99 hx_100 rfl
            have hS := hS.ext hx_100
            refine Wx.nil ?_
            refine Wp.rd (v := .int .i64 (sillV C H p)) 3 rfl (by kernel_rfl) (fun _ => (Rd.to (v := .int .i64 (ix 0 (knL (sillV C H) H.length) p)) (rd_indexVi (d := (0 : Int)) (f := Value.int .i64) (xs := (knL (sillV C H) H.length)) rfl rfl Try.underlying83 Try.sizeOf3 Try.isAgg3 rfl knL_len.symm (by omega) (by rw [knL_len]; omega)) (congrArg (Value.int .i64) (show (sillV C H p : Int) = (ix 0 (knL (sillV C H) H.length) p : Int) from (by rw [knL_ix (by omega) (by omega), if_pos (by omega)])).symm))) rfl ?_
            refine Wp.br [5] (by kernel_rfl) (by decide) ⟨⟨_, rfl, ?_⟩, trivial⟩
            refine Wx.storeX (cs' := [.int .i64 (sillV C H p)]) (ds := [.int .i64 (sillV C H p)]) hS 0 rfl rfl rfl rfl Try.sizeOf3 (Nat.le_of_ble_eq_true rfl) (one_cons rfl one_nil) rfl (fun w_101 hz_102 hS => ?_)
            refine Wx.nil ?_
            refine Wp.done (by kernel_rfl) ?_
            have hS := hS.front 2 rfl
            have hS := hS.front 2 rfl
            have hS := hS.front 2 rfl
            refine ⟨g_89, ?_, ?_, Out.look rfl Out.refl⟩
            · exact hS
            · exact ⟨rfl, trivial⟩
        · -- operation 2
          refine Wx.rd (v := .int .i64 p) (rd_loadX hS 1 rfl rfl rfl Try.isAgg3) rfl ?_
          refine Wx.nil ?_
          refine Wp.br [0] (by kernel_rfl) (by decide) ⟨⟨_, rfl, ?_⟩, trivial⟩
          refine Wx.rd (v := .agg #[.int .i64 R, .int .i64 C, hv]) (rd_loadXs (ds := [.int .i64 R, .int .i64 C, hv]) hS 2 rfl rfl rfl rfl Try.isAgg24 Try.sizeOf24) rfl ?_
          refine Wx.nil ?_
          refine Wp.br [1] (by kernel_rfl) (by decide) ⟨⟨_, rfl, ?_⟩, trivial⟩
          refine Wx.callF (run_callF Try.call55 rfl) (F55v i_R i_C (hS.arg a_hv) p_ok) rfl ?_
          rintro r_103 w_104 hx_105 rfl
          have hS := hS.ext hx_105
          refine Wx.nil ?_
          refine Wp.rd (v := .int .i64 (sillV C H p)) 3 rfl (by kernel_rfl) (fun _ => (Rd.to (v := .int .i64 (ix 0 (knL (sillV C H) H.length) p)) (rd_indexVi (d := (0 : Int)) (f := Value.int .i64) (xs := (knL (sillV C H) H.length)) rfl rfl Try.underlying83 Try.sizeOf3 Try.isAgg3 rfl knL_len.symm (by omega) (by rw [knL_len]; omega)) (congrArg (Value.int .i64) (show (sillV C H p : Int) = (ix 0 (knL (sillV C H) H.length) p : Int) from (by rw [knL_ix (by omega) (by omega), if_pos (by omega)])).symm))) rfl ?_
          refine Wp.br [5] (by kernel_rfl) (by decide) ⟨⟨_, rfl, ?_⟩, trivial⟩
          refine Wx.storeX (cs' := [.int .i64 (sillV C H p)]) (ds := [.int .i64 (sillV C H p)]) hS 0 rfl rfl rfl rfl Try.sizeOf3 (Nat.le_of_ble_eq_true rfl) (one_cons rfl one_nil) rfl (fun w_106 hz_107 hS => ?_)
          refine Wx.nil ?_
          refine Wp.done (by kernel_rfl) ?_
          have hS := hS.front 2 rfl
          have hS := hS.front 2 rfl
          have hS := hS.front 2 rfl
          refine ⟨g_89, ?_, ?_, Out.look rfl Out.refl⟩
          · exact hS
          · exact ⟨rfl, trivial⟩
    rintro g7 u_109 w_108 hS
    refine WD.seq ?_
    refine WD.ofW ?_
    refine W.reg ?_
    refine Wx.alloc (cs := List.map (Value.int .i64) (List.replicate 37 (0 : Int))) hS Try.zeroValue83 (by kernel_rfl) rfl (fun g_110 w_111 hx_113 hb_112 hS => ?_)
    have hS : St _ _ w_111 (.box g_110 83 (List.map (Value.int .i64) (List.replicate 37 (0 : Int))) :: .box g7 3 [.int .i64 (sillV C H p)] :: .box g_5 3 [.int .i64 p] :: .box g_1 24 [.int .i64 R, .int .i64 C, hv] :: DOb []) := hS
    refine Wx.nil ?_
    refine WD.seq ?_
    refine WD.ofW ?_
    refine W.reg ?_
    refine Wx.alloc (cs := [(.slice none 0 0)]) hS Try.zeroValue22 rfl rfl (fun g_114 w_115 hx_117 hb_116 hS => ?_)
    refine Wx.nil ?_
    refine WD.seq ?_
    refine WD.ofW ?_
    refine W.reg ?_
    refine Wx.rd (v := .func (.func 72) #[] #[.pointer (some ⟨g_110, 0, none⟩), .pointer (some ⟨g_1, 0, none⟩), .pointer (some ⟨g7, 0, none⟩), .pointer (some ⟨g_114, 0, none⟩)]) (rd_makeFunc (vs := []) (us := [.pointer (some ⟨g_110, 0, none⟩), .pointer (some ⟨g_1, 0, none⟩), .pointer (some ⟨g7, 0, none⟩), .pointer (some ⟨g_114, 0, none⟩)]) rfl rfl) rfl ?_
    refine Wx.alloc (cs := [.nilFunc]) hS Try.zeroValue97 rfl rfl (fun g_118 w_119 hx_121 hb_120 hS => ?_)
    refine Wx.storeX (cs' := [.func (.func 72) #[] #[.pointer (some ⟨g_110, 0, none⟩), .pointer (some ⟨g_1, 0, none⟩), .pointer (some ⟨g7, 0, none⟩), .pointer (some ⟨g_114, 0, none⟩)]]) (ds := [.func (.func 72) #[] #[.pointer (some ⟨g_110, 0, none⟩), .pointer (some ⟨g_1, 0, none⟩), .pointer (some ⟨g7, 0, none⟩), .pointer (some ⟨g_114, 0, none⟩)]]) hS 0 rfl rfl rfl rfl Try.sizeOf97 (Nat.le_of_ble_eq_true rfl) (one_cons rfl one_nil) rfl (fun w_122 hz_123 hS => ?_)
    refine Wx.nil ?_
    refine WD.seq ?_
    refine WD.ofW ?_
    refine W.seq ?_
    refine W.regQ mixedLk_ (by kernel_rfl) ?_
    refine Wx.rd (v := .agg #[.int .i64 R, .int .i64 C, hv]) (rd_loadXs (ds := [.int .i64 R, .int .i64 C, hv]) hS 5 rfl rfl rfl rfl Try.isAgg24 Try.sizeOf24) rfl ?_
    refine Wx.callV (v := .int .i64 (H.length : Int)) (run_callF Try.call56 rfl) (fun w_124 hw_125 => (F56 i_R i_C ((hS.arg a_hv).ext hw_125))) rfl ?_
    refine Wx.rd (v := .pointer (some ⟨g_1, 1, none⟩)) (rd_fieldAddr rfl foLk_24_1) rfl ?_
    refine Wx.rd (v := .int .i64 C) (rd_loadX hS 5 rfl rfl rfl Try.isAgg3) rfl ?_
    refine Wx.rd (v := .int .i64 ((H.length : Int) - C)) (rd_sub rfl rfl (in_i64 (by omega) (by omega))) rfl ?_
    refine Wx.rd (v := .int .i64 ((H.length : Int) - C)) (rd_assign rfl) rfl ?_
    refine Wx.nilQ (fun w_126 hx_127 => ?_)
    have hS := hS.ext hx_127
    refine W.block ?_
    have hS := hS.addNil (tI .i64) 3
    refine W.loop [11, 32, 33, 34, 35, 36, 37, 38, 39, 40] (fun x : Int × Value × (List Int) × (List Int) => match x with | (k, tv, td, y1) => [(11, .int .i64 k)]) (fun (x : Int × Value × (List Int) × (List Int)) w' => match x with | (k, tv, td, y1) => St w O w' (.row (tI .i64) 3 tv td :: .box g_118 97 [.func (.func 72) #[] #[.pointer (some ⟨g_110, 0, none⟩), .pointer (some ⟨g_1, 0, none⟩), .pointer (some ⟨g7, 0, none⟩), .pointer (some ⟨g_114, 0, none⟩)]] :: .box g_114 22 [tv] :: .box g_110 83 (List.map (Value.int .i64) y1) :: .box g7 3 [.int .i64 (sillV C H p)] :: .box g_5 3 [.int .i64 p] :: .box g_1 24 [.int .i64 R, .int .i64 C, hv] :: DOb []) ∧ (H.length : Int) - C ≤ k ∧ k ≤ H.length ∧ QI C H (sillV C H p) 0 y1 td ∧ LC C H (sillV C H p) k y1) (fun x : Int × Value × (List Int) × (List Int) => match x with | (k, tv, td, y1) => (H.length - k).toNat) ((H.length : Int) - C, (.slice none 0 0), [], (List.replicate 37 (0 : Int))) ⟨rfl, trivial⟩ ⟨hS, (by first | omega | simp), (by first | omega | simp), (qi_start n36), (lc_start)⟩ ?_
    rintro ⟨k, tv, td, y1⟩ u_129 w_128 ⟨hS, h0, h1, h2, h3⟩
    refine W.seq ?_
    refine W.seq ?_
    refine W.reg ?_
    refine Wx.rd (v := .int .i64 k) (rd_move rfl) rfl ?_
    refine Wx.rd (v := .agg #[.int .i64 R, .int .i64 C, hv]) (rd_loadXs (ds := [.int .i64 R, .int .i64 C, hv]) hS 6 rfl rfl rfl rfl Try.isAgg24 Try.sizeOf24) rfl ?_
    refine Wx.callF (run_callF Try.call56 rfl) (F56 i_R i_C (hS.arg a_hv)) rfl ?_
    rintro r_130 w_131 hx_132 rfl
    have hS := hS.ext hx_132
    refine Wx.rd (v := .bool (decide (k < (H.length : Int)))) (rd_lss rfl rfl) rfl ?_
    refine Wx.nil ?_
    refine W.condD rfl (fun c1 => ?_) (fun c1 => ?_)
    · -- yes
      have htl := short_of (n := H.length) (by omega) h2.nd (fun x hx => (h2.mem x hx).1)
      refine W.skip ?_
      refine W.seq ?_
      refine W.block ?_
      refine W.reg ?_
      refine Wx.rd (v := .func (.func 72) #[] #[.pointer (some ⟨g_110, 0, none⟩), .pointer (some ⟨g_1, 0, none⟩), .pointer (some ⟨g7, 0, none⟩), .pointer (some ⟨g_114, 0, none⟩)]) (rd_loadX hS 1 rfl rfl rfl Try.isAgg97) rfl ?_
      refine Wx.rd (v := .int .i64 k) (rd_move rfl) rfl ?_
      have hS := hS.add (hS.arg a_hv)
      have hS := hS.front 6 rfl
      have hS := hS.front 3 rfl
      have hS := hS.front 3 rfl
      have hS := hS.front 4 rfl
      have hS := hS.front 6 rfl
      have hS := hS.front 5 rfl
      have hS := hS.front 7 rfl
      have hS := hS.front 7 rfl
      have hS : St _ _ w_131 (.box g_110 83 (List.map (Value.int .i64) y1) :: .box g_1 24 [.int .i64 R, .int .i64 C, hv] :: Ob.v (tSl (tI .i64)) H hv :: .box g7 3 [.int .i64 (sillV C H p)] :: .box g_114 22 [tv] :: .row (tI .i64) 3 tv td :: .box g_118 97 [.func (.func 72) #[] #[.pointer (some ⟨g_110, 0, none⟩), .pointer (some ⟨g_1, 0, none⟩), .pointer (some ⟨g7, 0, none⟩), .pointer (some ⟨g_114, 0, none⟩)]] :: .box g_5 3 [.int .i64 p] :: DOb []) := hS
      refine Wx.callB (run_callC (fs := []) (cs := [.pointer (some ⟨g_110, 0, none⟩), .pointer (some ⟨g_1, 0, none⟩), .pointer (some ⟨g7, 0, none⟩), .pointer (some ⟨g_114, 0, none⟩)]) (vs := [.int .i64 k, .int .i64 1, .pointer (some ⟨g_110, 0, none⟩), .pointer (some ⟨g_1, 0, none⟩), .pointer (some ⟨g7, 0, none⟩), .pointer (some ⟨g_114, 0, none⟩)]) Try.call72 rfl rfl) (F72 ⟨by omega, by omega⟩ (by omega) (by omega) (by omega) h2.len (by omega) hS) rfl ?_
      rintro r_134 w_135 ⟨y9, tv_136, td9, hm9, hS⟩
      have hS : St _ _ w_135 (.box g_110 83 (List.map (Value.int .i64) y9) :: .box g_1 24 [.int .i64 R, .int .i64 C, hv] :: Ob.v (tSl (tI .i64)) H hv :: .box g7 3 [.int .i64 (sillV C H p)] :: .box g_114 22 [tv_136] :: .row (tI .i64) 3 tv_136 td9 :: .box g_118 97 [.func (.func 72) #[] #[.pointer (some ⟨g_110, 0, none⟩), .pointer (some ⟨g_1, 0, none⟩), .pointer (some ⟨g7, 0, none⟩), .pointer (some ⟨g_114, 0, none⟩)]] :: .box g_5 3 [.int .i64 p] :: DOb []) := hS
      have hS := hS.drop 2
      have hS := hS.front 1 rfl
      have hS := hS.front 6 rfl
      have hS := hS.front 3 rfl
      have hS := hS.front 3 rfl
      have hS := hS.front 4 rfl
      have hS := hS.front 6 rfl
      have hS := hS.front 6 rfl
      have hS : St _ _ w_135 (.row (tI .i64) 3 tv_136 td9 :: .box g_118 97 [.func (.func 72) #[] #[.pointer (some ⟨g_110, 0, none⟩), .pointer (some ⟨g_1, 0, none⟩), .pointer (some ⟨g7, 0, none⟩), .pointer (some ⟨g_114, 0, none⟩)]] :: .box g_114 22 [tv_136] :: .box g_110 83 (List.map (Value.int .i64) y9) :: .box g7 3 [.int .i64 (sillV C H p)] :: .box g_5 3 [.int .i64 p] :: .box g_1 24 [.int .i64 R, .int .i64 C, hv] :: DOb []) := hS
      refine Wx.nil ?_
      refine W.reg ?_
      refine Wx.rd (v := .int .i64 k) (rd_move rfl) rfl ?_
      refine Wx.rd (v := .int .i64 (k + 1)) (rd_add rfl rfl (in_i64 (by omega) (by omega))) rfl ?_
      refine Wx.rd (v := .int .i64 (k + 1)) (rd_assign rfl) rfl ?_
      refine Wx.nil ?_
      obtain ⟨q1, q2, q3, q4, q5⟩ := qi_meet (m := k) h2 n36 (Int.le_refl 0) ⟨by omega, by omega⟩ (fun hl => rW_zero.2 ⟨hl, decide_eq_true (by omega)⟩) hm9
      refine ⟨(k + 1, tv_136, td9, y9), (by show (H.length - (k + 1)).toNat < (H.length - k).toNat; omega), ?_, ?_, Out.look rfl Out.self⟩
      · exact ⟨hS, (by first | omega | assumption), (by first | omega | assumption), (q1), (lc_step h3 q2 q3)⟩
      · exact ⟨rfl, trivial⟩
    · -- no
      refine W.exit rfl ?_
      refine WD.seq ?_
      refine WD.seq ?_
      refine WD.ofW ?_
      refine W.reg ?_
      refine Wx.alloc (cs := [.int .i64 0]) hS Try.zeroValue3 rfl rfl (fun g_137 w_138 hx_140 hb_139 hS => ?_)
      refine Wx.storeX (cs' := [.int .i64 0]) (ds := [.int .i64 0]) hS 0 rfl rfl rfl rfl Try.sizeOf3 (Nat.le_of_ble_eq_true rfl) (one_cons rfl one_nil) rfl (fun w_141 hz_142 hS => ?_)
      refine Wx.nil ?_
      refine WD.block ?_
      refine WD.loop [12, 41, 42, 43, 44, 45, 46, 47, 48, 49, 50, 51, 52, 68] (fun x : Value × (List Int) × (List Int) × Int × Nat × (List Nat) => match x with | (tv, td, y, i, g12, Ds) => [(12, .pointer (some ⟨g12, 0, none⟩))]) (fun (x : Value × (List Int) × (List Int) × Int × Nat × (List Nat)) w' => match x with | (tv, td, y, i, g12, Ds) => St w O w' (.box g12 3 [.int .i64 i] :: .row (tI .i64) 3 tv td :: .box g_118 97 [.func (.func 72) #[] #[.pointer (some ⟨g_110, 0, none⟩), .pointer (some ⟨g_1, 0, none⟩), .pointer (some ⟨g7, 0, none⟩), .pointer (some ⟨g_114, 0, none⟩)]] :: .box g_114 22 [tv] :: .box g_110 83 (List.map (Value.int .i64) y) :: .box g7 3 [.int .i64 (sillV C H p)] :: .box g_5 3 [.int .i64 p] :: .box g_1 24 [.int .i64 R, .int .i64 C, hv] :: DOb Ds) ∧ 0 ≤ i ∧ QAt C H (sillV C H p) i y td ∧ LC C H (sillV C H p) H.length y ∧ NC C H (sillV C H p) i (fun _ => False) y td ∧ i ≤ td.length) (fun x : Value × (List Int) × (List Int) × Int × Nat × (List Nat) => match x with | (tv, td, y, i, g12, Ds) => (H.length - i).toNat) (fun x : Value × (List Int) × (List Int) × Int × Nat × (List Nat) => match x with | (tv, td, y, i, g12, Ds) => Ds) (tv, td, y1, 0, g_137, []) ⟨rfl, trivial⟩ rfl ⟨hS, (by first | omega | simp), (qat_start h2), (by rw [show (H.length : Int) = k by omega]; exact h3), (nc_start (fun _ => id)), (by first | omega | simp)⟩ ?_
      rintro ⟨tv, td, y, i, g12, Ds⟩ u_144 w_143 ⟨hS, i0, i1, i2, i3, i4⟩
      refine WD.seq ?_
      refine WD.ofW ?_
      refine W.seq ?_
      refine W.reg ?_
      refine Wx.rd (v := .int .i64 i) (rd_loadX hS 0 rfl rfl rfl Try.isAgg3) rfl ?_
      refine Wx.rd (v := tv) (rd_loadX hS 3 rfl rfl rfl Try.isAgg22) rfl ?_
      refine Wx.rd (v := .int .i64 (td.length : Int)) (rd_lenR hS 1 rfl rfl Try.underlying22) rfl ?_
      refine Wx.rd (v := .bool (decide (i < (td.length : Int)))) (rd_lss rfl rfl) rfl ?_
      refine Wx.nil ?_
      refine W.condD rfl (fun c2 => ?_) (fun c2 => ?_)
      · -- yes
        obtain ⟨hql, hqf⟩ := qat_len i1
        have hqo := qat_open i1 i0 (by omega)
        obtain ⟨hpl, _, hpf, hpr⟩ := hqo.mem _ (ix_inl i0 (by omega))
        have hpb := hqo.bd
        refine W.skip ?_
        refine WD.seq ?_
        refine WD.block ?_
        refine WD.seq ?_
        refine WD.ofW ?_
        refine W.regT 5 mixedLk_ (by kernel_rfl) ?_
        refine Wx.rd (v := .agg #[.int .i64 R, .int .i64 C, hv]) (rd_loadXs (ds := [.int .i64 R, .int .i64 C, hv]) hS 7 rfl rfl rfl rfl Try.isAgg24 Try.sizeOf24) rfl ?_
        refine Wx.rd (v := tv) (rd_loadX hS 3 rfl rfl rfl Try.isAgg22) rfl ?_
        refine Wx.rd (v := .int .i64 i) (rd_loadX hS 0 rfl rfl rfl Try.isAgg3) rfl ?_
        refine Wx.indexR hS 1 rfl rfl rfl Try.underlying22 Try.sizeOf3 (by first | omega | (simp only [List.length_set, List.length_append, List.length_cons, List.length_nil, List.length_replicate]; omega)) (by first | omega | (simp only [List.length_set, List.length_append, List.length_cons, List.length_nil, List.length_replicate]; omega)) rfl (fun g_145 hg_146 => ?_)
        refine Wx.rd (v := .int .i64 (ix 0 td i)) (rd_loadRI' hS 1 rfl hg_146 rfl (by first | omega | (simp only [List.length_set, List.length_append, List.length_cons, List.length_nil, List.length_replicate]; omega)) (by first | omega | (simp only [List.length_set, List.length_append, List.length_cons, List.length_nil, List.length_replicate]; omega)) Try.isAgg3 Try.sizeOf3) rfl ?_
        have bd_147 := bd_i64 (hS.rowInK' 1 rfl (by first | omega | (simp only [List.length_set, List.length_append, List.length_cons, List.length_nil, List.length_replicate]; omega)) (by first | omega | (simp only [List.length_set, List.length_append, List.length_cons, List.length_nil, List.length_replicate]; omega)) : InK .i64 (ix 0 td i))
        refine Wx.nilQ (fun w_148 hx_149 => ?_)
        have hS := hS.ext hx_149
        refine Wx.callB (run_callF Try.call73 rfl) (F73 hS (hS.arg a_hv)) rfl ?_
        rintro r_150 w_151 ⟨gn_152, gs_153, rfl, hS⟩
        refine Wx.nil ?_
        refine WD.block ?_
        have hS := hS.add (hS.arg a_hv)
        have hS := hS.front 10 rfl
        have hS := hS.front 10 rfl
        have hS := hS.front 10 rfl
        have hS := hS.front 10 rfl
        have hS := hS.front 10 rfl
        have hS := hS.front 10 rfl
        have hS := hS.front 10 rfl
        have hS := hS.front 10 rfl
        have hS := hS.front 8 rfl
        have hS := hS.front 10 rfl
        have hS := hS.front 10 rfl
        have hS : St _ _ w_151 (.box gn_152 3 [.int .i64 (ix 0 td i)] :: .box gs_153 24 [.int .i64 R, .int .i64 C, hv] :: Ob.v (tSl (tI .i64)) H hv :: .box g12 3 [.int .i64 i] :: .row (tI .i64) 3 tv td :: .box g_118 97 [.func (.func 72) #[] #[.pointer (some ⟨g_110, 0, none⟩), .pointer (some ⟨g_1, 0, none⟩), .pointer (some ⟨g7, 0, none⟩), .pointer (some ⟨g_114, 0, none⟩)]] :: .box g_114 22 [tv] :: .box g_110 83 (List.map (Value.int .i64) y) :: .box g7 3 [.int .i64 (sillV C H p)] :: .box g_5 3 [.int .i64 p] :: .box g_1 24 [.int .i64 R, .int .i64 C, hv] :: DOb Ds) := hS
        refine WD.range (ob := [.box g12 3 [.int .i64 i], .row (tI .i64) 3 tv td, .box g_118 97 [.func (.func 72) #[] #[.pointer (some ⟨g_110, 0, none⟩), .pointer (some ⟨g_1, 0, none⟩), .pointer (some ⟨g7, 0, none⟩), .pointer (some ⟨g_114, 0, none⟩)]], .box g_114 22 [tv], .box g_110 83 (List.map (Value.int .i64) y), .box g7 3 [.int .i64 (sillV C H p)], .box g_5 3 [.int .i64 p], .box g_1 24 [.int .i64 R, .int .i64 C, hv]]) (nbW C H.length (ix 0 td i)) (fun ls ob => ∃ (tv2 : Value) (td2 : List Int) (y2 : List Int), (QI C H (sillV C H p) (ix 0 y (ix 0 td i)) y2 td2) ∧ (LC C H (sillV C H p) H.length y2) ∧ (NC C H (sillV C H p) i (fun x => x ∈ ls) y2 td2) ∧ (ix 0 td2 i = ix 0 td i) ∧ (i < td2.length) ∧ (ix 0 y2 (ix 0 td i) = ix 0 y (ix 0 td i)) ∧ ob = [.box g12 3 [.int .i64 i], .row (tI .i64) 3 tv2 td2, .box g_118 97 [.func (.func 72) #[] #[.pointer (some ⟨g_110, 0, none⟩), .pointer (some ⟨g_1, 0, none⟩), .pointer (some ⟨g7, 0, none⟩), .pointer (some ⟨g_114, 0, none⟩)]], .box g_114 22 [tv2], .box g_110 83 (List.map (Value.int .i64) y2), .box g7 3 [.int .i64 (sillV C H p)], .box g_5 3 [.int .i64 p], .box g_1 24 [.int .i64 R, .int .i64 C, hv]]) (fun _ _ _ => False) [] rfl Try.call85 rfl rfl (iter85 p_ok hpl) hS ⟨tv, td, y, (hqo), (i2), (nc_open i3 (fun z q => nomatch q)), (rfl), (by first | omega | rfl), (rfl), rfl⟩ ?_ ?_ ?_
        · -- a round
          rintro ls m pre_158 _ w_157 hpx ⟨tv2, td2, y2, m1, m2, m3, m4, m5, m6, rfl⟩ hS
          have hm := mem_nbW.1 (mem_pre hpx)
          have hm0 : 0 ≤ m ∧ m ≤ (H.length : Int) := by rcases hm with ⟨q, _⟩ | q <;> omega
          have hyl := m1.len
          refine W.block ?_
          refine W.seq ?_
          refine W.reg ?_
          refine Wx.rd (v := .int .i64 m) (rd_move rfl) rfl ?_
          refine Wx.rd (v := .agg #[.int .i64 R, .int .i64 C, hv]) (rd_loadXs (ds := [.int .i64 R, .int .i64 C, hv]) hS 7 rfl rfl rfl rfl Try.isAgg24 Try.sizeOf24) rfl ?_
          refine Wx.callF (run_callF Try.call56 rfl) (F56 i_R i_C (hS.arg a_hv)) rfl ?_
          rintro r_159 w_160 hx_161 rfl
          have hS := hS.ext hx_161
          refine Wx.rd (v := .bool (decide (m < (H.length : Int)))) (rd_lss rfl rfl) rfl ?_
          refine Wx.nil ?_
          refine W.condD rfl (fun c3 => ?_) (fun c3 => ?_)
          · -- yes
            have htl := short_of (n := H.length) (by omega) m1.nd (fun x hx => (m1.mem x hx).1)
            have hma : adjB C (ix 0 td i) m = true := by rcases hm with q | q; exact q.2; omega
            have hm46 : ix 0 y2 (ix 0 td2 i) = ix 0 y (ix 0 td i) := by rw [m4, m6]
            refine W.regT 9 mixedLk_ (by kernel_rfl) ?_
            refine Wx.rd (v := .func (.func 72) #[] #[.pointer (some ⟨g_110, 0, none⟩), .pointer (some ⟨g_1, 0, none⟩), .pointer (some ⟨g7, 0, none⟩), .pointer (some ⟨g_114, 0, none⟩)]) (rd_loadX hS 2 rfl rfl rfl Try.isAgg97) rfl ?_
            refine Wx.rd (v := .int .i64 m) (rd_move rfl) rfl ?_
            refine Wx.rd (v := tv2) (rd_loadX hS 3 rfl rfl rfl Try.isAgg22) rfl ?_
            refine Wx.rd (v := .int .i64 i) (rd_loadX hS 0 rfl rfl rfl Try.isAgg3) rfl ?_
            refine Wx.indexR hS 1 rfl rfl rfl Try.underlying22 Try.sizeOf3 (by first | omega | (simp only [List.length_set, List.length_append, List.length_cons, List.length_nil, List.length_replicate]; omega)) (by first | omega | (simp only [List.length_set, List.length_append, List.length_cons, List.length_nil, List.length_replicate]; omega)) rfl (fun g_162 hg_163 => ?_)
            refine Wx.rd (v := .int .i64 (ix 0 td2 i)) (rd_loadRI' hS 1 rfl hg_163 rfl (by first | omega | (simp only [List.length_set, List.length_append, List.length_cons, List.length_nil, List.length_replicate]; omega)) (by first | omega | (simp only [List.length_set, List.length_append, List.length_cons, List.length_nil, List.length_replicate]; omega)) Try.isAgg3 Try.sizeOf3) rfl ?_
            have bd_164 := bd_i64 (hS.rowInK' 1 rfl (by first | omega | (simp only [List.length_set, List.length_append, List.length_cons, List.length_nil, List.length_replicate]; omega)) (by first | omega | (simp only [List.length_set, List.length_append, List.length_cons, List.length_nil, List.length_replicate]; omega)) : InK .i64 (ix 0 td2 i))
            refine Wx.rd (v := .pointer (some ⟨g_110, 0 + (ix 0 td2 i).toNat * 1, none⟩)) (rd_indexArr rfl rfl Try.underlying83 Try.sizeOf3 (by omega) (by omega)) rfl ?_
            refine Wx.rd (v := .int .i64 (ix 0 y2 (ix 0 td2 i))) (rd_loadXa (d := 0) (f := (Value.int .i64)) (j := (ix 0 td2 i)) hS 4 rfl rfl (by omega) (by omega) (by omega) Try.isAgg3) rfl ?_
            refine Wx.rd (v := .int .i64 (ix 0 y (ix 0 td i) + 1)) (Rd.to (v := .int .i64 ((ix 0 y2 (ix 0 td2 i)) + 1)) (rd_add rfl rfl (in_i64 (by omega) (by omega))) (congrArg (Value.int .i64) (show (ix 0 y (ix 0 td i) + 1 : Int) = ((ix 0 y2 (ix 0 td2 i)) + 1 : Int) from (by rw [m4, m6])).symm)) rfl ?_
            refine Wx.nilQ (fun w_165 hx_166 => ?_)
            have hS := hS.ext hx_166
            have hS := hS.add (hS.arg a_hv)
            have hS := hS.front 7 rfl
            have hS := hS.front 4 rfl
            have hS := hS.front 3 rfl
            have hS := hS.front 4 rfl
            have hS := hS.front 5 rfl
            have hS := hS.front 7 rfl
            have hS := hS.front 6 rfl
            have hS := hS.front 8 rfl
            have hS := hS.front 8 rfl
            have hS : St _ _ w_165 (.box g_110 83 (List.map (Value.int .i64) y2) :: .box g_1 24 [.int .i64 R, .int .i64 C, hv] :: Ob.v (tSl (tI .i64)) H hv :: .box g7 3 [.int .i64 (sillV C H p)] :: .box g_114 22 [tv2] :: .row (tI .i64) 3 tv2 td2 :: .box g12 3 [.int .i64 i] :: .box g_118 97 [.func (.func 72) #[] #[.pointer (some ⟨g_110, 0, none⟩), .pointer (some ⟨g_1, 0, none⟩), .pointer (some ⟨g7, 0, none⟩), .pointer (some ⟨g_114, 0, none⟩)]] :: .box g_5 3 [.int .i64 p] :: pre_158) := hS
            refine Wx.callB (run_callC (fs := []) (cs := [.pointer (some ⟨g_110, 0, none⟩), .pointer (some ⟨g_1, 0, none⟩), .pointer (some ⟨g7, 0, none⟩), .pointer (some ⟨g_114, 0, none⟩)]) (vs := [.int .i64 m, .int .i64 (ix 0 y (ix 0 td i) + 1), .pointer (some ⟨g_110, 0, none⟩), .pointer (some ⟨g_1, 0, none⟩), .pointer (some ⟨g7, 0, none⟩), .pointer (some ⟨g_114, 0, none⟩)]) Try.call72 rfl rfl) (F72 ⟨by omega, by omega⟩ (by omega) (by omega) (by omega) m1.len (by omega) hS) rfl ?_
            rintro r_168 w_169 ⟨y9, tv_170, td9, hm9, hS⟩
            have hS : St _ _ w_169 (.box g_110 83 (List.map (Value.int .i64) y9) :: .box g_1 24 [.int .i64 R, .int .i64 C, hv] :: Ob.v (tSl (tI .i64)) H hv :: .box g7 3 [.int .i64 (sillV C H p)] :: .box g_114 22 [tv_170] :: .row (tI .i64) 3 tv_170 td9 :: .box g12 3 [.int .i64 i] :: .box g_118 97 [.func (.func 72) #[] #[.pointer (some ⟨g_110, 0, none⟩), .pointer (some ⟨g_1, 0, none⟩), .pointer (some ⟨g7, 0, none⟩), .pointer (some ⟨g_114, 0, none⟩)]] :: .box g_5 3 [.int .i64 p] :: pre_158) := hS
            have hS := hS.drop 2
            have hS := hS.front 1 rfl
            have hS := hS.front 7 rfl
            have hS := hS.front 3 rfl
            have hS := hS.front 3 rfl
            have hS := hS.front 4 rfl
            have hS := hS.front 7 rfl
            have hS := hS.front 6 rfl
            have hS := hS.front 7 rfl
            have hS : St _ _ w_169 (.box g12 3 [.int .i64 i] :: .row (tI .i64) 3 tv_170 td9 :: .box g_118 97 [.func (.func 72) #[] #[.pointer (some ⟨g_110, 0, none⟩), .pointer (some ⟨g_1, 0, none⟩), .pointer (some ⟨g7, 0, none⟩), .pointer (some ⟨g_114, 0, none⟩)]] :: .box g_114 22 [tv_170] :: .box g_110 83 (List.map (Value.int .i64) y9) :: .box g7 3 [.int .i64 (sillV C H p)] :: .box g_5 3 [.int .i64 p] :: .box g_1 24 [.int .i64 R, .int .i64 C, hv] :: pre_158) := hS
            refine Wx.nil ?_
            obtain ⟨q1, q2, q3, q4, q5⟩ := qi_meet (m := m) m1 n36 (by omega) ⟨by omega, by omega⟩ (fun hl => by rw [show (ix 0 y (ix 0 td i)).toNat = (ix 0 y (ix 0 td i) - 1).toNat + 1 by omega]; exact rW_step.2 ⟨hl, _, hpl, by rw [adj_symm]; exact hma, hpr⟩) hm9
            have hS := hS.front 7 rfl
            have hS := hS.front 7 rfl
            have hS := hS.front 7 rfl
            have hS := hS.front 7 rfl
            have hS := hS.front 7 rfl
            have hS := hS.front 7 rfl
            have hS := hS.front 7 rfl
            have hS := hS.front 7 rfl
            have hS : St _ _ w_169 (.box g12 3 [.int .i64 i] :: .row (tI .i64) 3 tv_170 td9 :: .box g_118 97 [.func (.func 72) #[] #[.pointer (some ⟨g_110, 0, none⟩), .pointer (some ⟨g_1, 0, none⟩), .pointer (some ⟨g7, 0, none⟩), .pointer (some ⟨g_114, 0, none⟩)]] :: .box g_114 22 [tv_170] :: .box g_110 83 (List.map (Value.int .i64) y9) :: .box g7 3 [.int .i64 (sillV C H p)] :: .box g_5 3 [.int .i64 p] :: .box g_1 24 [.int .i64 R, .int .i64 C, hv] :: pre_158) := hS
            exact ⟨_, ⟨tv_170, td9, y9, (q1), (lc_keep m2 q2), (nc_step m1 m3 i0 m5 q2 q5 (by rw [m4]; exact m6) (fun _ hl => q3 hl)), (by rw [q5 i i0 m5]; exact m4), (by first | omega | assumption), (by rw [q2 _ hpl.1 (by omega)]; exact m6), rfl⟩, hS⟩
          · -- no
            refine W.skip ?_
            have hS := hS.front 7 rfl
            have hS := hS.front 7 rfl
            have hS := hS.front 7 rfl
            have hS := hS.front 7 rfl
            have hS := hS.front 7 rfl
            have hS := hS.front 7 rfl
            have hS := hS.front 7 rfl
            have hS := hS.front 7 rfl
            have hS : St _ _ w_160 (.box g12 3 [.int .i64 i] :: .row (tI .i64) 3 tv2 td2 :: .box g_118 97 [.func (.func 72) #[] #[.pointer (some ⟨g_110, 0, none⟩), .pointer (some ⟨g_1, 0, none⟩), .pointer (some ⟨g7, 0, none⟩), .pointer (some ⟨g_114, 0, none⟩)]] :: .box g_114 22 [tv2] :: .box g_110 83 (List.map (Value.int .i64) y2) :: .box g7 3 [.int .i64 (sillV C H p)] :: .box g_5 3 [.int .i64 p] :: .box g_1 24 [.int .i64 R, .int .i64 C, hv] :: pre_158) := hS
            exact ⟨_, ⟨tv2, td2, y2, (by first | omega | assumption), (by first | omega | assumption), (nc_step m1 m3 i0 m5 (fun _ _ _ => rfl) (fun _ _ _ => rfl) (by rw [m4]; exact m6) (fun hy _ => absurd hy.2 (by omega))), (by first | omega | assumption), (by first | omega | assumption), (by first | omega | assumption), rfl⟩, hS⟩
        · -- all have come
          rintro _ D_171 w_172 ⟨tv2, td2, y2, m1, m2, m3, m4, m5, m6, rfl⟩ hS
          have hS : St _ _ w_172 (.box g12 3 [.int .i64 i] :: .row (tI .i64) 3 tv2 td2 :: .box g_118 97 [.func (.func 72) #[] #[.pointer (some ⟨g_110, 0, none⟩), .pointer (some ⟨g_1, 0, none⟩), .pointer (some ⟨g7, 0, none⟩), .pointer (some ⟨g_114, 0, none⟩)]] :: .box g_114 22 [tv2] :: .box g_110 83 (List.map (Value.int .i64) y2) :: .box g7 3 [.int .i64 (sillV C H p)] :: .box g_5 3 [.int .i64 p] :: .box g_1 24 [.int .i64 R, .int .i64 C, hv] :: DOb (D_171 :: Ds)) := hS
          refine WD.ofW ?_
          refine W.seq ?_
          refine W.seq ?_
          refine W.reg ?_
          refine Wx.rd (v := .int .i64 i) (rd_loadX hS 0 rfl rfl rfl Try.isAgg3) rfl ?_
          refine Wx.nil ?_
          refine W.reg ?_
          refine Wx.alloc (cs := [.int .i64 0]) hS Try.zeroValue3 rfl rfl (fun g_173 w_174 hx_176 hb_175 hS => ?_)
          refine Wx.storeX (cs' := [.int .i64 i]) (ds := [.int .i64 i]) hS 0 rfl rfl rfl rfl Try.sizeOf3 (Nat.le_of_ble_eq_true rfl) (one_cons rfl one_nil) rfl (fun w_177 hz_178 hS => ?_)
          have hS := hS.drop 1
          have hS := hS.front 7 rfl
          have hS := hS.front 7 rfl
          have hS := hS.front 7 rfl
          have hS := hS.front 7 rfl
          have hS := hS.front 7 rfl
          have hS := hS.front 7 rfl
          have hS := hS.front 7 rfl
          have hS := hS.front 7 rfl
          have hS : St _ _ w_177 (.box g_173 3 [.int .i64 i] :: .row (tI .i64) 3 tv2 td2 :: .box g_118 97 [.func (.func 72) #[] #[.pointer (some ⟨g_110, 0, none⟩), .pointer (some ⟨g_1, 0, none⟩), .pointer (some ⟨g7, 0, none⟩), .pointer (some ⟨g_114, 0, none⟩)]] :: .box g_114 22 [tv2] :: .box g_110 83 (List.map (Value.int .i64) y2) :: .box g7 3 [.int .i64 (sillV C H p)] :: .box g_5 3 [.int .i64 p] :: .box g_1 24 [.int .i64 R, .int .i64 C, hv] :: DOb (D_171 :: Ds)) := hS
          refine Wx.nil ?_
          refine W.reg ?_
          refine Wx.rd (v := .int .i64 i) (rd_loadX hS 0 rfl rfl rfl Try.isAgg3) rfl ?_
          refine Wx.rd (v := .int .i64 (i + 1)) (rd_add rfl rfl (in_i64 (by omega) (by omega))) rfl ?_
          refine Wx.storeX (cs' := [.int .i64 (i + 1)]) (ds := [.int .i64 (i + 1)]) hS 0 rfl rfl rfl rfl Try.sizeOf3 (Nat.le_of_ble_eq_true rfl) (one_cons rfl one_nil) rfl (fun w_179 hz_180 hS => ?_)
          refine Wx.nil ?_
          refine ⟨(tv2, td2, y2, i + 1, g_173, (D_171 :: Ds)), (by show (H.length - (i + 1)).toNat < (H.length - i).toNat; omega), rfl, ?_, ?_, Out.look rfl Out.self⟩
          · exact ⟨hS, (by first | omega | assumption), (qat_next m1 (by omega) i0 m5 (by rw [m4]; exact m6)), (m2), (nc_close m3 (fun z hz hA => mem_nbW.2 (.inl ⟨hz, by rw [m4] at hA; exact hA⟩)) (fun _ => id)), (by first | omega | assumption)⟩
          · exact ⟨rfl, trivial⟩
        · exact fun _ _ _ _ _ h => h.elim
      · -- no
        obtain ⟨hql, hqf⟩ := qat_len i1
        have hfd : ∀ q, 0 ≤ q → q < (H.length : Int) → ix 0 y q = distV C H (sillV C H p) q := fun q q0 q1 => far_dist (adj_symm C) i1 (by omega) i2 i3 (fun a ha => of_decide_eq_true ha) ⟨q0, q1⟩
        refine W.exit rfl ?_
        refine WD.seq ?_
        refine WD.ofW ?_
        refine W.reg ?_
        refine Wx.rd (v := .int .i64 p) (rd_loadX hS 6 rfl rfl rfl Try.isAgg3) rfl ?_
        refine Wx.lit (t := (tI .i64)) (ys := [p]) (vs := [.int .i64 p]) elLk_22 hS rfl rfl ⟨(V.mkInt (in_i64 (by omega) (by omega))), trivial⟩ (by decide) rfl (fun v_181 w_182 hx_183 hS => ?_)
        refine Wx.rd (v := v_181) (rd_assign rfl) rfl ?_
        refine Wx.nil ?_
        refine WD.seq ?_
        refine WD.seq ?_
        refine WD.ofW ?_
        refine W.reg ?_
        refine Wx.rd (v := .int .i64 p) (rd_loadX hS 7 rfl rfl rfl Try.isAgg3) rfl ?_
        refine Wx.rd (v := .pointer (some ⟨g_110, 0 + p.toNat * 1, none⟩)) (rd_indexArr rfl rfl Try.underlying83 Try.sizeOf3 (by omega) (by omega)) rfl ?_
        refine Wx.rd (v := .int .i64 (distV C H (sillV C H p) p)) (Rd.to (v := .int .i64 (ix 0 y p)) (rd_loadXa (d := 0) (f := (Value.int .i64)) (j := p) hS 5 rfl rfl (by omega) (by omega) (by omega) Try.isAgg3) (congrArg (Value.int .i64) (show (distV C H (sillV C H p) p : Int) = (ix 0 y p : Int) from (hfd p p_a.1 p_a.2).symm).symm)) rfl ?_
        refine Wx.rd (v := .int .i64 ((distV C H (sillV C H p) p) - 1)) (rd_sub rfl rfl (in_i64 (by omega) (by omega))) rfl ?_
        refine Wx.rd (v := .int .i64 0) (rd_move rfl) rfl ?_
        refine Wx.nil ?_
        refine WD.block ?_
        refine WD.loop [14, 75, 76, 77, 78, 79, 102, 103, 104, 105, 106] (fun x : Int × Value × (List Int) × Int × (List Nat) => match x with | (k, ov, out, xp, Ds) => [(75, .int .i64 k), (14, ov)]) (fun (x : Int × Value × (List Int) × Int × (List Nat)) w' => match x with | (k, ov, out, xp, Ds) => St w O w' (.row (tI .i64) 3 ov out :: .box g12 3 [.int .i64 i] :: .row (tI .i64) 3 tv td :: .box g_118 97 [.func (.func 72) #[] #[.pointer (some ⟨g_110, 0, none⟩), .pointer (some ⟨g_1, 0, none⟩), .pointer (some ⟨g7, 0, none⟩), .pointer (some ⟨g_114, 0, none⟩)]] :: .box g_114 22 [tv] :: .box g_110 83 (List.map (Value.int .i64) y) :: .box g7 3 [.int .i64 (sillV C H p)] :: .box g_5 3 [.int .i64 xp] :: .box g_1 24 [.int .i64 R, .int .i64 C, hv] :: DOb Ds) ∧ 0 ≤ k ∧ (0 ≤ xp ∧ xp < H.length) ∧ distV C H (sillV C H p) xp = distV C H (sillV C H p) p - k ∧ out ++ wayF C H (sillV C H p) (distV C H (sillV C H p) xp - 1).toNat xp = wayV C H (sillV C H p) p ∧ (out.length : Int) = k + 1 ∧ k ≤ distV C H (sillV C H p) p - 1) (fun x : Int × Value × (List Int) × Int × (List Nat) => match x with | (k, ov, out, xp, Ds) => (distV C H (sillV C H p) p - 1 - k).toNat) (fun x : Int × Value × (List Int) × Int × (List Nat) => match x with | (k, ov, out, xp, Ds) => Ds) (0, v_181, [p], p, Ds) ⟨rfl, rfl, trivial⟩ rfl ⟨hS, (by first | omega | simp), (p_a), (by omega), (rfl), (by simp), (by first | omega | simp)⟩ ?_
        rintro ⟨k, ov, out, xp, Ds⟩ u_185 w_184 ⟨hS, g0, g1, g2, g3, g4, g5⟩
        refine WD.seq ?_
        refine WD.ofW ?_
        refine W.reg ?_
        refine Wx.rd (v := .bool (decide (k < ((distV C H (sillV C H p) p) - 1)))) (rd_lss rfl rfl) rfl ?_
        refine Wx.nil ?_
        refine WD.seq ?_
        refine WD.ofW ?_
        refine W.condD rfl (fun c4 => ?_) (fun c4 => ?_)
        · -- yes
          refine W.skip ?_
          refine WD.seq ?_
          refine WD.block ?_
          refine WD.seq ?_
          refine WD.seq ?_
          refine WD.ofW ?_
          refine W.reg ?_
          refine Wx.rd (v := .agg #[.int .i64 R, .int .i64 C, hv]) (rd_loadXs (ds := [.int .i64 R, .int .i64 C, hv]) hS 8 rfl rfl rfl rfl Try.isAgg24 Try.sizeOf24) rfl ?_
          refine Wx.rd (v := .int .i64 xp) (rd_loadX hS 7 rfl rfl rfl Try.isAgg3) rfl ?_
          refine Wx.callB (run_callF Try.call73 rfl) (F73 hS (hS.arg a_hv)) rfl ?_
          rintro r_186 w_187 ⟨gn_188, gs_189, rfl, hS⟩
          refine Wx.nil ?_
          refine WD.block ?_
          have hS := hS.add (hS.arg a_hv)
          have hS := hS.front 11 rfl
          have hS := hS.front 11 rfl
          have hS := hS.front 11 rfl
          have hS := hS.front 11 rfl
          have hS := hS.front 11 rfl
          have hS := hS.front 11 rfl
          have hS := hS.front 11 rfl
          have hS := hS.front 11 rfl
          have hS := hS.front 11 rfl
          have hS := hS.front 9 rfl
          have hS := hS.front 11 rfl
          have hS := hS.front 11 rfl
          have hS : St _ _ w_187 (.box gn_188 3 [.int .i64 xp] :: .box gs_189 24 [.int .i64 R, .int .i64 C, hv] :: Ob.v (tSl (tI .i64)) H hv :: .row (tI .i64) 3 ov out :: .box g12 3 [.int .i64 i] :: .row (tI .i64) 3 tv td :: .box g_118 97 [.func (.func 72) #[] #[.pointer (some ⟨g_110, 0, none⟩), .pointer (some ⟨g_1, 0, none⟩), .pointer (some ⟨g7, 0, none⟩), .pointer (some ⟨g_114, 0, none⟩)]] :: .box g_114 22 [tv] :: .box g_110 83 (List.map (Value.int .i64) y) :: .box g7 3 [.int .i64 (sillV C H p)] :: .box g_5 3 [.int .i64 xp] :: .box g_1 24 [.int .i64 R, .int .i64 C, hv] :: DOb Ds) := hS
          refine WD.range (ob := [.row (tI .i64) 3 ov out, .box g12 3 [.int .i64 i], .row (tI .i64) 3 tv td, .box g_118 97 [.func (.func 72) #[] #[.pointer (some ⟨g_110, 0, none⟩), .pointer (some ⟨g_1, 0, none⟩), .pointer (some ⟨g7, 0, none⟩), .pointer (some ⟨g_114, 0, none⟩)]], .box g_114 22 [tv], .box g_110 83 (List.map (Value.int .i64) y), .box g7 3 [.int .i64 (sillV C H p)], .box g_5 3 [.int .i64 xp], .box g_1 24 [.int .i64 R, .int .i64 C, hv]]) (nbW C H.length xp) (fun ls ob => (∀ q ∈ ls, ¬ (q < (H.length : Int) ∧ distV C H (sillV C H p) q = distV C H (sillV C H p) xp - 1)) ∧ ob = [.row (tI .i64) 3 ov out, .box g12 3 [.int .i64 i], .row (tI .i64) 3 tv td, .box g_118 97 [.func (.func 72) #[] #[.pointer (some ⟨g_110, 0, none⟩), .pointer (some ⟨g_1, 0, none⟩), .pointer (some ⟨g7, 0, none⟩), .pointer (some ⟨g_114, 0, none⟩)]], .box g_114 22 [tv], .box g_110 83 (List.map (Value.int .i64) y), .box g7 3 [.int .i64 (sillV C H p)], .box g_5 3 [.int .i64 xp], .box g_1 24 [.int .i64 R, .int .i64 C, hv]]) (fun x ls ob => x = some 8 ∧ ∃ (nx : Int), ((0 ≤ nx ∧ nx < H.length)) ∧ (distV C H (sillV C H p) nx = distV C H (sillV C H p) xp - 1) ∧ (nextW C H (sillV C H p) xp = nx) ∧ ob = [.row (tI .i64) 3 ov out, .box g12 3 [.int .i64 i], .row (tI .i64) 3 tv td, .box g_118 97 [.func (.func 72) #[] #[.pointer (some ⟨g_110, 0, none⟩), .pointer (some ⟨g_1, 0, none⟩), .pointer (some ⟨g7, 0, none⟩), .pointer (some ⟨g_114, 0, none⟩)]], .box g_114 22 [tv], .box g_110 83 (List.map (Value.int .i64) y), .box g7 3 [.int .i64 (sillV C H p)], .box g_5 3 [.int .i64 nx], .box g_1 24 [.int .i64 R, .int .i64 C, hv]]) [8] rfl Try.call85 rfl rfl (iter85 p_ok g1) hS ⟨(fun q hq => nomatch hq), rfl⟩ ?_ ?_ ?_
          · -- a round
            rintro ls m pre_194 _ w_193 hpx ⟨s1, rfl⟩ hS
            have hm := mem_nbW.1 (mem_pre hpx)
            have hm0 : 0 ≤ m ∧ m ≤ (H.length : Int) := by rcases hm with ⟨q, _⟩ | q <;> omega
            have hdx := dist_bd (C := C) (h := sillV C H p) g1
            refine W.block ?_
            refine W.seq ?_
            refine W.regQ mixedLk_ (by kernel_rfl) ?_
            refine Wx.rd (v := .int .i64 m) (rd_move rfl) rfl ?_
            refine Wx.rd (v := .agg #[.int .i64 R, .int .i64 C, hv]) (rd_loadXs (ds := [.int .i64 R, .int .i64 C, hv]) hS 8 rfl rfl rfl rfl Try.isAgg24 Try.sizeOf24) rfl ?_
            refine Wx.callV (v := .int .i64 (H.length : Int)) (run_callF Try.call56 rfl) (fun w_195 hw_196 => (F56 i_R i_C ((hS.arg a_hv).ext hw_196))) rfl ?_
            refine Wx.rd (v := .bool (decide (m < (H.length : Int)))) (rd_lss rfl rfl) rfl ?_
            refine Wx.rd (v := .bool (decide (m < (H.length : Int)))) (rd_move rfl) rfl ?_
            refine Wx.cutQ (X := Unit) 5 [86, 87, 88, 89, 90] (fun _ => [(90, .bool (decide (m < (H.length : Int)) && decide (0 < (distV C H (sillV C H p) m))))]) (fun _ => True) ?_ ?_
            · rcases Bool.eq_false_or_eq_true (decide (m < (H.length : Int))) with g_197 | g_197
              · -- True
                have gp_198 := of_decide_eq_true g_197
                refine Wx.gyes rfl rfl (congrArg Value.bool g_197) ?_
                refine Wx.rd (v := .int .i64 m) (rd_move rfl) rfl ?_
                refine Wx.gyes rfl rfl (congrArg Value.bool g_197) ?_
                refine Wx.rd (v := .pointer (some ⟨g_110, 0 + m.toNat * 1, none⟩)) (rd_indexArr rfl rfl Try.underlying83 Try.sizeOf3 (by omega) (by omega)) rfl ?_
                refine Wx.gyes rfl rfl (congrArg Value.bool g_197) ?_
                refine Wx.rd (v := .int .i64 (distV C H (sillV C H p) m)) (Rd.to (v := .int .i64 (ix 0 y m)) (rd_loadXa (d := 0) (f := (Value.int .i64)) (j := m) hS 5 rfl rfl (by omega) (by omega) (by omega) Try.isAgg3) (congrArg (Value.int .i64) (show (distV C H (sillV C H p) m : Int) = (ix 0 y m : Int) from (hfd m hm0.1 (by omega)).symm).symm)) rfl ?_
                refine Wx.gyes rfl rfl (congrArg Value.bool g_197) ?_
                refine Wx.rd (v := .bool (decide (0 < (distV C H (sillV C H p) m)))) (rd_gtr rfl rfl) rfl ?_
                refine Wx.rd (v := .bool (decide (0 < (distV C H (sillV C H p) m)))) (rd_pickT (congrArg Value.bool g_197) rfl) rfl ?_
                refine Wx.nilQ (fun _ _ => ⟨(), trivial, ⟨?_, trivial⟩, Out.look rfl Out.refl⟩)
                show Value.bool (decide (0 < (distV C H (sillV C H p) m))) = Value.bool (decide (m < (H.length : Int)) && decide (0 < (distV C H (sillV C H p) m)))
                first | rw [g_197, Bool.true_and] | (rw [g_197]; rfl)
              · -- False
                have gp_199 := of_decide_eq_false g_197
                refine Wx.gnoB rfl rfl (congrArg Value.bool g_197) rfl rfl ?_
                refine Wx.gnoB rfl rfl (congrArg Value.bool g_197) rfl rfl ?_
                refine Wx.gnoB rfl rfl (congrArg Value.bool g_197) rfl rfl ?_
                refine Wx.gnoB rfl rfl (congrArg Value.bool g_197) rfl rfl ?_
                refine Wx.rd (v := .bool false) (rd_pickF (congrArg Value.bool g_197) rfl) rfl ?_
                refine Wx.nilQ (fun _ _ => ⟨(), trivial, ⟨?_, trivial⟩, Out.look rfl Out.refl⟩)
                show Value.bool false = Value.bool (decide (m < (H.length : Int)) && decide (0 < (distV C H (sillV C H p) m)))
                first | rw [g_197, Bool.false_and] | (rw [g_197]; rfl)
            rintro ⟨⟩ u_201 -
            refine Wx.rd (v := .bool (decide (m < (H.length : Int)) && decide (0 < (distV C H (sillV C H p) m)))) (rd_move rfl) rfl ?_
            refine Wx.cutQ (X := Unit) 9 [92, 93, 94, 95, 96, 97, 98, 99, 100] (fun _ => [(100, .bool ((decide (m < (H.length : Int)) && decide (0 < (distV C H (sillV C H p) m))) && decide ((distV C H (sillV C H p) m) = ((distV C H (sillV C H p) xp) - 1))))]) (fun _ => True) ?_ ?_
            · rcases Bool.eq_false_or_eq_true (decide (m < (H.length : Int)) && decide (0 < (distV C H (sillV C H p) m))) with g_202 | g_202
              · -- True
                have gp_203 := g_202
                try simp only [Bool.and_eq_true, Bool.or_eq_true, Bool.not_eq_true', Bool.and_eq_false_iff, Bool.or_eq_false_iff, Bool.not_eq_false', decide_eq_true_eq, decide_eq_false_iff_not, not_or, Bool.false_eq_true, Bool.true_eq_false, false_or, or_false, not_false_eq_true] at gp_203
                refine Wx.gyes rfl rfl (congrArg Value.bool g_202) ?_
                refine Wx.rd (v := .int .i64 m) (rd_move rfl) rfl ?_
                refine Wx.gyes rfl rfl (congrArg Value.bool g_202) ?_
                refine Wx.rd (v := .pointer (some ⟨g_110, 0 + m.toNat * 1, none⟩)) (rd_indexArr rfl rfl Try.underlying83 Try.sizeOf3 (by omega) (by omega)) rfl ?_
                refine Wx.gyes rfl rfl (congrArg Value.bool g_202) ?_
                refine Wx.rd (v := .int .i64 (distV C H (sillV C H p) m)) (Rd.to (v := .int .i64 (ix 0 y m)) (rd_loadXa (d := 0) (f := (Value.int .i64)) (j := m) hS 5 rfl rfl (by omega) (by omega) (by omega) Try.isAgg3) (congrArg (Value.int .i64) (show (distV C H (sillV C H p) m : Int) = (ix 0 y m : Int) from (hfd m hm0.1 (by omega)).symm).symm)) rfl ?_
                refine Wx.gyes rfl rfl (congrArg Value.bool g_202) ?_
                refine Wx.rd (v := .int .i64 xp) (rd_loadX hS 7 rfl rfl rfl Try.isAgg3) rfl ?_
                refine Wx.gyes rfl rfl (congrArg Value.bool g_202) ?_
                refine Wx.rd (v := .pointer (some ⟨g_110, 0 + xp.toNat * 1, none⟩)) (rd_indexArr rfl rfl Try.underlying83 Try.sizeOf3 (by omega) (by omega)) rfl ?_
                refine Wx.gyes rfl rfl (congrArg Value.bool g_202) ?_
                refine Wx.rd (v := .int .i64 (distV C H (sillV C H p) xp)) (Rd.to (v := .int .i64 (ix 0 y xp)) (rd_loadXa (d := 0) (f := (Value.int .i64)) (j := xp) hS 5 rfl rfl (by omega) (by omega) (by omega) Try.isAgg3) (congrArg (Value.int .i64) (show (distV C H (sillV C H p) xp : Int) = (ix 0 y xp : Int) from (hfd xp g1.1 g1.2).symm).symm)) rfl ?_
                refine Wx.gyes rfl rfl (congrArg Value.bool g_202) ?_
                refine Wx.rd (v := .int .i64 ((distV C H (sillV C H p) xp) - 1)) (rd_sub rfl rfl (in_i64 (by omega) (by omega))) rfl ?_
                refine Wx.gyes rfl rfl (congrArg Value.bool g_202) ?_
                refine Wx.rd (v := .bool (decide ((distV C H (sillV C H p) m) = ((distV C H (sillV C H p) xp) - 1)))) (rd_eql rfl rfl) rfl ?_
                refine Wx.rd (v := .bool (decide ((distV C H (sillV C H p) m) = ((distV C H (sillV C H p) xp) - 1)))) (rd_pickT (congrArg Value.bool g_202) rfl) rfl ?_
                refine Wx.nilQ (fun _ _ => ⟨(), trivial, ⟨?_, trivial⟩, Out.look rfl Out.refl⟩)
                show Value.bool (decide ((distV C H (sillV C H p) m) = ((distV C H (sillV C H p) xp) - 1))) = Value.bool ((decide (m < (H.length : Int)) && decide (0 < (distV C H (sillV C H p) m))) && decide ((distV C H (sillV C H p) m) = ((distV C H (sillV C H p) xp) - 1)))
                first | rw [g_202, Bool.true_and] | (rw [g_202]; rfl)
              · -- False
                have gp_204 := g_202
                try simp only [Bool.and_eq_true, Bool.or_eq_true, Bool.not_eq_true', Bool.and_eq_false_iff, Bool.or_eq_false_iff, Bool.not_eq_false', decide_eq_true_eq, decide_eq_false_iff_not, not_or, Bool.false_eq_true, Bool.true_eq_false, false_or, or_false, not_false_eq_true] at gp_204
                refine Wx.gnoB rfl rfl (congrArg Value.bool g_202) rfl rfl ?_
                refine Wx.gnoB rfl rfl (congrArg Value.bool g_202) rfl rfl ?_
                refine Wx.gnoB rfl rfl (congrArg Value.bool g_202) rfl rfl ?_
                refine Wx.gnoB rfl rfl (congrArg Value.bool g_202) rfl rfl ?_
                refine Wx.gnoB rfl rfl (congrArg Value.bool g_202) rfl rfl ?_
                refine Wx.gnoB rfl rfl (congrArg Value.bool g_202) rfl rfl ?_
                refine Wx.gnoB rfl rfl (congrArg Value.bool g_202) rfl rfl ?_
                refine Wx.gnoB rfl rfl (congrArg Value.bool g_202) rfl rfl ?_
                refine Wx.rd (v := .bool false) (rd_pickF (congrArg Value.bool g_202) rfl) rfl ?_
                refine Wx.nilQ (fun _ _ => ⟨(), trivial, ⟨?_, trivial⟩, Out.look rfl Out.refl⟩)
                show Value.bool false = Value.bool ((decide (m < (H.length : Int)) && decide (0 < (distV C H (sillV C H p) m))) && decide ((distV C H (sillV C H p) m) = ((distV C H (sillV C H p) xp) - 1)))
                first | rw [g_202, Bool.false_and] | (rw [g_202]; rfl)
            rintro ⟨⟩ u_206 -
            refine Wx.nilQ (fun w_207 hx_208 => ?_)
            have hS := hS.ext hx_208
            refine W.cond rfl (fun c5 => ?_) (fun c5 => ?_)
            · -- yes
              try simp only [Bool.and_eq_true, Bool.or_eq_true, Bool.not_eq_true', Bool.and_eq_false_iff, Bool.or_eq_false_iff, Bool.not_eq_false', decide_eq_true_eq, decide_eq_false_iff_not, not_or, Bool.false_eq_true, Bool.true_eq_false, false_or, or_false, not_false_eq_true] at c5
              refine W.seq ?_
              refine W.reg ?_
              refine Wx.rd (v := .int .i64 m) (rd_move rfl) rfl ?_
              refine Wx.storeX (cs' := [.int .i64 m]) (ds := [.int .i64 m]) hS 7 rfl rfl rfl rfl Try.sizeOf3 (Nat.le_of_ble_eq_true rfl) (one_cons rfl one_nil) rfl (fun w_209 hz_210 hS => ?_)
              refine Wx.nil ?_
              refine W.exit rfl ?_
              have hS := hS.front 8 rfl
              have hS := hS.front 8 rfl
              have hS := hS.front 8 rfl
              have hS := hS.front 8 rfl
              have hS := hS.front 8 rfl
              have hS := hS.front 8 rfl
              have hS := hS.front 8 rfl
              have hS := hS.front 8 rfl
              have hS := hS.front 8 rfl
              have hS : St _ _ w_209 (.row (tI .i64) 3 ov out :: .box g12 3 [.int .i64 i] :: .row (tI .i64) 3 tv td :: .box g_118 97 [.func (.func 72) #[] #[.pointer (some ⟨g_110, 0, none⟩), .pointer (some ⟨g_1, 0, none⟩), .pointer (some ⟨g7, 0, none⟩), .pointer (some ⟨g_114, 0, none⟩)]] :: .box g_114 22 [tv] :: .box g_110 83 (List.map (Value.int .i64) y) :: .box g7 3 [.int .i64 (sillV C H p)] :: .box g_5 3 [.int .i64 m] :: .box g_1 24 [.int .i64 R, .int .i64 C, hv] :: pre_194) := hS
              exact ⟨_, ⟨rfl, m, (⟨by omega, by omega⟩), (by first | omega | assumption), (next_is (by omega) ⟨hm0.1, by omega⟩ (by rcases hm with q | q; exact q.2; omega) (by omega) (fun q q0 q1 hh => s1 q (pre_before nbW_asc hpx (mem_nbW.2 (.inl ⟨⟨q0, by omega⟩, hh.1⟩)) q1) ⟨by omega, hh.2⟩)), rfl⟩, hS⟩
            · -- no
              try simp only [Bool.and_eq_true, Bool.or_eq_true, Bool.not_eq_true', Bool.and_eq_false_iff, Bool.or_eq_false_iff, Bool.not_eq_false', decide_eq_true_eq, decide_eq_false_iff_not, not_or, Bool.false_eq_true, Bool.true_eq_false, false_or, or_false, not_false_eq_true] at c5
              refine W.skip ?_
              have hS := hS.front 8 rfl
              have hS := hS.front 8 rfl
              have hS := hS.front 8 rfl
              have hS := hS.front 8 rfl
              have hS := hS.front 8 rfl
              have hS := hS.front 8 rfl
              have hS := hS.front 8 rfl
              have hS := hS.front 8 rfl
              have hS := hS.front 8 rfl
              have hS : St _ _ w_207 (.row (tI .i64) 3 ov out :: .box g12 3 [.int .i64 i] :: .row (tI .i64) 3 tv td :: .box g_118 97 [.func (.func 72) #[] #[.pointer (some ⟨g_110, 0, none⟩), .pointer (some ⟨g_1, 0, none⟩), .pointer (some ⟨g7, 0, none⟩), .pointer (some ⟨g_114, 0, none⟩)]] :: .box g_114 22 [tv] :: .box g_110 83 (List.map (Value.int .i64) y) :: .box g7 3 [.int .i64 (sillV C H p)] :: .box g_5 3 [.int .i64 xp] :: .box g_1 24 [.int .i64 R, .int .i64 C, hv] :: pre_194) := hS
              exact ⟨_, ⟨(fun q hq hh => by rcases List.mem_append.1 hq with hq | hq; exact s1 q hq hh; rw [List.mem_singleton.1 hq] at hh; omega), rfl⟩, hS⟩
          · -- all have come
            rintro _ D_211 w_212 ⟨s1, rfl⟩ hS
            have hS : St _ _ w_212 (.row (tI .i64) 3 ov out :: .box g12 3 [.int .i64 i] :: .row (tI .i64) 3 tv td :: .box g_118 97 [.func (.func 72) #[] #[.pointer (some ⟨g_110, 0, none⟩), .pointer (some ⟨g_1, 0, none⟩), .pointer (some ⟨g7, 0, none⟩), .pointer (some ⟨g_114, 0, none⟩)]] :: .box g_114 22 [tv] :: .box g_110 83 (List.map (Value.int .i64) y) :: .box g7 3 [.int .i64 (sillV C H p)] :: .box g_5 3 [.int .i64 xp] :: .box g_1 24 [.int .i64 R, .int .i64 C, hv] :: DOb (D_211 :: Ds)) := hS
            obtain ⟨nz, nz1, nz2, nz3⟩ := next_ex (C := C) (h := sillV C H p) g1 (by omega)
            exact (s1 nz (mem_nbW.2 (.inl ⟨nz1, nz2⟩)) ⟨nz1.2, nz3⟩).elim
          · -- it was left
            rintro _ lsx _ D_213 w_214 ⟨rfl, nx, n1, n2, n3, rfl⟩ hpx hS
            have hS : St _ _ w_214 (.row (tI .i64) 3 ov out :: .box g12 3 [.int .i64 i] :: .row (tI .i64) 3 tv td :: .box g_118 97 [.func (.func 72) #[] #[.pointer (some ⟨g_110, 0, none⟩), .pointer (some ⟨g_1, 0, none⟩), .pointer (some ⟨g7, 0, none⟩), .pointer (some ⟨g_114, 0, none⟩)]] :: .box g_114 22 [tv] :: .box g_110 83 (List.map (Value.int .i64) y) :: .box g7 3 [.int .i64 (sillV C H p)] :: .box g_5 3 [.int .i64 nx] :: .box g_1 24 [.int .i64 R, .int .i64 C, hv] :: DOb (D_213 :: Ds)) := hS
            refine ⟨_, rfl, ?_⟩
            refine WD.ofW ?_
            refine W.reg ?_
            refine Wx.rd (v := ov) (rd_move rfl) rfl ?_
            refine Wx.rd (v := .int .i64 nx) (rd_loadX hS 7 rfl rfl rfl Try.isAgg3) rfl ?_
            refine Wx.lit (t := (tI .i64)) (ys := [nx]) (vs := [.int .i64 nx]) elLk_22 hS rfl rfl ⟨(V.mkInt (in_i64 (by omega) (by omega))), trivial⟩ (by decide) rfl (fun v_215 w_216 hx_217 hS => ?_)
            refine Wx.append elLk_22 hS 1 rfl rfl rfl (Src.ofR hS 0 rfl) (by simp only [maxLen]; first | omega | (simp; omega) | simp) (by first | omega | (simp; omega) | simp) rfl (fun v_218 w_219 hz_220 hS => ?_)
            refine Wx.rd (v := v_218) (rd_assign rfl) rfl ?_
            refine Wx.nil ?_
            refine WD.ofW ?_
            refine W.reg ?_
            refine Wx.rd (v := .int .i64 (k + 1)) (rd_add rfl rfl (in_i64 (by omega) (by omega))) rfl ?_
            refine Wx.rd (v := .int .i64 (k + 1)) (rd_move rfl) rfl ?_
            refine Wx.nil ?_
            refine ⟨(k + 1, v_218, out ++ [nx], nx, (D_213 :: Ds)), (by show (distV C H (sillV C H p) p - 1 - (k + 1)).toNat < (distV C H (sillV C H p) p - 1 - k).toNat; omega), rfl, ?_, ?_, Out.look rfl Out.self⟩
            · exact ⟨hS.tl, (by first | omega | assumption), (n1), (by omega), (by rw [n2, ← g3]; exact (way_step rfl (by omega) n3).symm), (by simp only [List.length_append, List.length_cons, List.length_nil]; omega), (by first | omega | assumption)⟩
            · exact ⟨rfl, rfl, trivial⟩
        · -- no
          refine W.exit rfl ?_
          refine WD.ofW ?_
          refine W.seq ?_
          refine W.reg ?_
          refine Wx.rd (v := ov) (rd_move rfl) rfl ?_
          refine Wx.rd (v := ov) (rd_assign rfl) rfl ?_
          refine Wx.rd (v := .int .i64 0) (rd_assign rfl) rfl ?_
          refine Wx.nil ?_
          have hS : St _ _ w_184 (.row (tI .i64) 3 ov out :: .box g12 3 [.int .i64 i] :: .row (tI .i64) 3 tv td :: .box g_118 97 [.func (.func 72) #[] #[.pointer (some ⟨g_110, 0, none⟩), .pointer (some ⟨g_1, 0, none⟩), .pointer (some ⟨g7, 0, none⟩), .pointer (some ⟨g_114, 0, none⟩)]] :: .box g_114 22 [tv] :: .box g_110 83 (List.map (Value.int .i64) y) :: .box g7 3 [.int .i64 (sillV C H p)] :: .box g_5 3 [.int .i64 xp] :: .box g_1 24 [.int .i64 R, .int .i64 C, hv] :: DOb Ds) := hS
          refine W.ret ⟨[.row (tI .i64) 3 ov out, .box g12 3 [.int .i64 i], .row (tI .i64) 3 tv td, .box g_118 97 [.func (.func 72) #[] #[.pointer (some ⟨g_110, 0, none⟩), .pointer (some ⟨g_1, 0, none⟩), .pointer (some ⟨g7, 0, none⟩), .pointer (some ⟨g_114, 0, none⟩)]], .box g_114 22 [tv], .box g_110 83 (List.map (Value.int .i64) y), .box g7 3 [.int .i64 (sillV C H p)], .box g_5 3 [.int .i64 xp], .box g_1 24 [.int .i64 R, .int .i64 C, hv]], hS, fun w_221 hS => ?_⟩
          have e1_0 : wayE R C H p = out := by rw [wayE, if_pos (by omega), ← g3, show (distV C H (sillV C H p) xp - 1).toNat = 0 by omega]; simp [wayF]
          have e1_1 : (atE R C H p) = (0 : Int) := by omega
          exact ⟨.tuple #[ov, .int .i64 0], ResIs.two, hS.bel, ⟨ov, (by rw [e1_1]), (by rw [e1_0]; exact (hS.fr 0 rfl flat_int))⟩⟩
end Go.Proofs.Ytjhimoeodkaihaa

namespace Go.Proofs.Ytjhimoeodkaihaa
open Go.Wk Go.RowKit Go.Lib
set_option linter.unusedVariables false
set_option linter.unusedSimpArgs false
theorem mixedLl_ : Try.prog.follows .mixedOrders = true := by kernel_rfl
theorem foLl_24_2 : fldOff Try.prog 24 2 = some 2 := by kernel_rfl

theorem F82 {xv : Value} {xs : List Int} {Fr_xv : List (Option Nat)} {n : Int} {w : World} (h_xv : V (tSl (tI .i64)) xs xv Fr_xv w) (i_n : InK .i64 n) : Calls Try.prog 82 #[xv, .int .i64 n] w (Ret w (fun r _ => r = .int .i64 (idxP (fun y => decide (y = n)) 0 xs))) := by
  have b_n := bd_i64 i_n
  have a_xv := h_xv.any
  have l_xv := h_xv.len63
  have hS := St.start0 w
  refine enterR Try.func82 rfl Try.ntmps82 Try.results82 rfl ?_
  refine W.seq ?_
  refine W.reg ?_
  refine Wx.rd (v := .int .i64 0) (rd_assign rfl) rfl ?_
  refine Wx.nil ?_
  refine W.seq ?_
  refine W.seq ?_
  refine W.reg ?_
  refine Wx.rd (v := xv) (rd_move rfl) rfl ?_
  refine Wx.rd (v := .int .i64 (xs.length : Int)) (rd_lenV rfl (hS.arg a_xv) Try.underlying22) rfl ?_
  refine Wx.rd (v := .int .i64 0) (rd_move rfl) rfl ?_
  refine Wx.nil ?_
  refine W.block ?_
  refine W.loop [4, 5, 8, 9, 10, 11, 12, 13, 14, 15, 16, 17, 18] (fun (k : Int) => [(8, .int .i64 k)]) (fun (k : Int) w' => St w [] w' [] ∧ 0 ≤ k ∧ k ≤ xs.length ∧ idxP (fun y => decide (y = n)) k (xs.drop k.toNat) = idxP (fun y => decide (y = n)) 0 xs) (fun (k : Int) => (xs.length - k).toNat) 0 ⟨rfl, trivial⟩ ⟨hS, (by first | omega | simp), (by first | omega | simp), (by simp)⟩ ?_
  rintro k u_2 w_1 ⟨hS, h0, h1, h2⟩
  refine W.seq ?_
  refine W.reg ?_
  refine Wx.rd (v := .bool (decide (k < (xs.length : Int)))) (rd_lss rfl rfl) rfl ?_
  refine Wx.nil ?_
  refine W.seq ?_
  refine W.condD rfl (fun c0 => ?_) (fun c0 => ?_)
  · -- yes
    refine W.skip ?_
    refine W.seq ?_
    refine W.block ?_
    refine W.seq ?_
    refine W.reg ?_
    refine Wx.rd (v := .int .i64 k) (rd_move rfl) rfl ?_
    refine Wx.rd (v := .int .i64 k) (rd_assign rfl) rfl ?_
    refine Wx.nil ?_
    refine W.seq ?_
    refine W.reg ?_
    refine Wx.rd (v := .int .i64 n) (rd_move rfl) rfl ?_
    refine Wx.rd (v := xv) (rd_move rfl) rfl ?_
    refine Wx.rd (v := .int .i64 k) (rd_move rfl) rfl ?_
    refine Wx.ex (rd_index 0 (hS.arg a_xv) rfl rfl Try.underlying22 Try.sizeOf3 (by first | omega | (simp only [List.length_set, List.length_append, List.length_cons, List.length_nil, List.length_replicate]; omega)) (by first | omega | (simp only [List.length_set, List.length_append, List.length_cons, List.length_nil, List.length_replicate]; omega))) rfl (fun p_3 hp_4 => ?_)
    refine Wx.rd (v := .int .i64 (ix 0 xs k)) (rd_loadI hp_4 rfl Try.isAgg3 Try.sizeOf3) rfl ?_
    have bd_5 := bd_i64 hp_4.inK
    refine Wx.rd (v := .bool (decide (n = (ix 0 xs k)))) (rd_eql rfl rfl) rfl ?_
    refine Wx.nil ?_
    refine W.condD rfl (fun c1 => ?_) (fun c1 => ?_)
    · -- yes
      refine W.seq ?_
      refine W.reg ?_
      refine Wx.rd (v := .int .i64 k) (rd_move rfl) rfl ?_
      refine Wx.rd (v := .int .i64 k) (rd_assign rfl) rfl ?_
      refine Wx.nil ?_
      have e0_0 : (idxP (fun y => decide (y = n)) 0 xs) = (k : Int) := by exact idxP_here h0 c0 h2 (decide_eq_true c1.symm)
      exact W.ret ⟨.int .i64 k, ResIs.one, hS.bel, (by rw [e0_0])⟩
    · -- no
      refine W.skip ?_
      refine W.reg ?_
      refine Wx.rd (v := .int .i64 (k + 1)) (rd_add rfl rfl (in_i64 (by omega) (by omega))) rfl ?_
      refine Wx.rd (v := .int .i64 (k + 1)) (rd_move rfl) rfl ?_
      refine Wx.nil ?_
      refine ⟨k + 1, (by show (xs.length - (k + 1)).toNat < (xs.length - k).toNat; omega), ?_, ?_, Out.look rfl Out.self⟩
      · exact ⟨hS, (by first | omega | assumption), (by first | omega | assumption), (idxP_step h0 c0 h2 (decide_eq_false fun q => c1 q.symm))⟩
      · exact ⟨rfl, trivial⟩
  · -- no
    refine W.exit rfl ?_
    refine W.seq ?_
    refine W.reg ?_
    refine Wx.rd (v := .int .i64 (-1)) (rd_assign rfl) rfl ?_
    refine Wx.nil ?_
    have e1_0 : (idxP (fun y => decide (y = n)) 0 xs) = (-1 : Int) := by exact idxP_out (by omega) h2
    exact W.ret ⟨.int .i64 (-1), ResIs.one, hS.bel, (by rw [e1_0])⟩

theorem F44 {xv : Value} {xs : List Int} {Fr_xv : List (Option Nat)} {n : Int} {w : World} (h_xv : V (tSl (tI .i64)) xs xv Fr_xv w) (i_n : InK .i64 n) : Calls Try.prog 44 #[xv, .int .i64 n] w (Ret w (fun r _ => r = .bool (hasL xs n))) := by
  have b_n := bd_i64 i_n
  have a_xv := h_xv.any
  have l_xv := h_xv.len63
  have hS := St.start0 w
  refine enterR Try.func44 rfl Try.ntmps44 Try.results44 rfl ?_
  refine W.seq ?_
  refine W.reg ?_
  refine Wx.rd (v := .bool false) (rd_assign rfl) rfl ?_
  refine Wx.nil ?_
  refine W.seq ?_
  refine W.reg ?_
  refine Wx.rd (v := xv) (rd_move rfl) rfl ?_
  refine Wx.rd (v := .int .i64 n) (rd_move rfl) rfl ?_
  refine Wx.callF (run_callF Try.call82 rfl) (F82 (hS.arg a_xv) i_n) rfl ?_
  rintro r_1 w_2 hx_3 rfl
  have hS := hS.ext hx_3
  have ib_4 := idxP_bd (fun y => decide (y = n)) xs 0 (Int.le_refl 0)
  refine Wx.rd (v := .bool (decide (0 ≤ (idxP (fun y => decide (y = n)) 0 xs)))) (rd_geq rfl rfl) rfl ?_
  refine Wx.rd (v := .bool (decide (0 ≤ (idxP (fun y => decide (y = n)) 0 xs)))) (rd_assign rfl) rfl ?_
  refine Wx.nil ?_
  have e0_0 : (hasL xs n) = (decide (0 ≤ (idxP (fun y => decide (y = n)) 0 xs))) := by exact (idxP_any (fun y => decide (y = n)) xs 0 (Int.le_refl 0)).symm
  exact W.ret ⟨.bool (decide (0 ≤ (idxP (fun y => decide (y = n)) 0 xs))), ResIs.one, hS.bel, (by rw [e0_0])⟩

set_option maxHeartbeats 4000000 in
theorem F35 {R : Int} {C : Int} {hv : Value} {H : List Int} {Fr_hv : List (Option Nat)} {wv : Value} {ps : List Int} {Fr_wv : List (Option Nat)} {h : Int} {w : World} (i_R : InK .i64 R) (i_C : InK .i64 C) (h_hv : V (tSl (tI .i64)) H hv Fr_hv w) (h_wv : V (tSl (tI .i64)) ps wv Fr_wv w) (i_h : InK .i64 h) : Calls Try.prog 35 #[.agg #[.int .i64 R, .int .i64 C, hv], wv, .int .i64 h] w (Ret w (fun r _ => r = .int .i64 (provesE R C H ps h))) := by
  have b_h := bd_i64 i_h
  have b_C := bd_i64 i_C
  have b_R := bd_i64 i_R
  have a_hv := h_hv.any
  have l_hv := h_hv.len63
  have a_wv := h_wv.any
  have l_wv := h_wv.len63
  have hS := St.start0 w
  have hS : St w [] w (DOb []) := hS
  refine enterMR (O := []) Try.func35 rfl Try.ntmps35 Try.results35 rfl ?_
  refine WD.seq ?_
  refine WD.ofW ?_
  refine W.reg ?_
  refine Wx.box (cs := [.int .i64 R, .int .i64 C, hv]) hS rfl rfl rfl (fun g_1 w_2 hx_4 hb_3 hS => ?_)
  refine Wx.box (cs := [wv]) hS rfl (Go.Wk.cells_one (V.oneC (hS.arg a_wv))) rfl (fun g_5 w_6 hx_8 hb_7 hS => ?_)
  refine Wx.box (cs := [.int .i64 h]) hS rfl rfl rfl (fun g_9 w_10 hx_12 hb_11 hS => ?_)
  refine Wx.alloc (cs := [.int .i64 0]) hS Try.zeroValue28 rfl rfl (fun g_13 w_14 hx_16 hb_15 hS => ?_)
  refine Wx.nil ?_
  refine WD.seq ?_
  refine WD.ofW ?_
  refine W.seq ?_
  refine W.reg ?_
  refine Wx.rd (v := .agg #[.int .i64 R, .int .i64 C, hv]) (rd_loadXs (ds := [.int .i64 R, .int .i64 C, hv]) hS 3 rfl rfl rfl rfl Try.isAgg24 Try.sizeOf24) rfl ?_
  refine Wx.callF (run_callF Try.call22 rfl) (F22 i_R i_C (hS.arg a_hv)) rfl ?_
  rintro r_17 w_18 hx_19 rfl
  have hS := hS.ext hx_19
  refine Wx.rd (v := .int .i64 (checkS R C H)) (rd_assign rfl) rfl ?_
  refine Wx.nil ?_
  refine W.seq ?_
  refine W.reg ?_
  refine Wx.rd (v := .int .i64 (checkS R C H)) (rd_move rfl) rfl ?_
  refine Wx.rd (v := .bool (decide ((checkS R C H) ≠ 0))) (rd_neq rfl rfl) rfl ?_
  refine Wx.nil ?_
  refine W.condD rfl (fun c0 => ?_) (fun c0 => ?_)
  · -- yes
    refine W.seq ?_
    refine W.reg ?_
    refine Wx.rd (v := .int .i64 (checkS R C H)) (rd_move rfl) rfl ?_
    refine Wx.storeX (cs' := [.int .i64 (checkS R C H)]) (ds := [.int .i64 (checkS R C H)]) hS 0 rfl rfl rfl rfl Try.sizeOf28 (Nat.le_of_ble_eq_true rfl) (one_cons rfl one_nil) rfl (fun w_20 hz_21 hS => ?_)
    refine Wx.nil ?_
    have hS : St _ _ w_20 (.box g_13 28 [.int .i64 (checkS R C H)] :: .box g_9 3 [.int .i64 h] :: .box g_5 22 [wv] :: .box g_1 24 [.int .i64 R, .int .i64 C, hv] :: DOb []) := hS
    refine W.ret ⟨[.box g_13 28 [.int .i64 (checkS R C H)], .box g_9 3 [.int .i64 h], .box g_5 22 [wv], .box g_1 24 [.int .i64 R, .int .i64 C, hv]], hS, fun w_22 hS => ?_⟩
    have e0_0 : (provesE R C H ps h) = (checkS R C H : Int) := by exact proves_check c0
    exact ⟨.int .i64 (checkS R C H), (ResIs.cellV hS 0 rfl rfl Try.isAgg28), hS.bel, (by rw [e0_0])⟩
  · -- no
    have h0c : checkS R C H = 0 := by omega
    have p_ok := SOK.of h0c
    obtain ⟨⟨r1, r2⟩, ⟨c1_, c2_⟩, hRC, ⟨n1, n36⟩, hCn, hok⟩ := id p_ok
    refine W.skip ?_
    refine WD.seq ?_
    refine WD.ofW ?_
    refine W.reg ?_
    refine Wx.rd (v := .int .i64 (-1)) (rd_assign rfl) rfl ?_
    refine Wx.nil ?_
    refine WD.seq ?_
    refine WD.ofW ?_
    refine W.seq ?_
    refine W.reg ?_
    refine Wx.rd (v := wv) (rd_loadX hS 2 rfl rfl rfl Try.isAgg22) rfl ?_
    refine Wx.rd (v := .int .i64 (ps.length : Int)) (rd_lenV rfl (hS.arg a_wv) Try.underlying22) rfl ?_
    refine Wx.rd (v := .int .i64 0) (rd_move rfl) rfl ?_
    refine Wx.nil ?_
    refine W.block ?_
    refine W.loop [8, 10, 21, 22, 23, 24, 25, 26, 27, 28, 29, 30, 31, 32, 33, 34, 35, 36, 37] (fun x : Int × Int => match x with | (lp, k) => [(8, .int .i64 lp), (21, .int .i64 k)]) (fun (x : Int × Int) w' => match x with | (lp, k) => St w [] w' (.box g_13 28 [.int .i64 0] :: .box g_9 3 [.int .i64 h] :: .box g_5 22 [wv] :: .box g_1 24 [.int .i64 R, .int .i64 C, hv] :: DOb []) ∧ 0 ≤ k ∧ k ≤ ps.length ∧ lp = lastP ps k ∧ ordE H.length (lastP ps k) (ps.drop k.toNat) = ordE H.length (-1) ps) (fun x : Int × Int => match x with | (lp, k) => (ps.length - k).toNat) (-1, 0) ⟨rfl, rfl, trivial⟩ ⟨hS, (by first | omega | simp), (by first | omega | simp), (rfl), (rfl)⟩ ?_
    rintro ⟨lp, k⟩ u_24 w_23 ⟨hS, h0, h1, h3, h2⟩
    refine W.seq ?_
    refine W.reg ?_
    refine Wx.rd (v := .bool (decide (k < (ps.length : Int)))) (rd_lss rfl rfl) rfl ?_
    refine Wx.nil ?_
    refine W.seq ?_
    refine W.condD rfl (fun c1 => ?_) (fun c1 => ?_)
    · -- yes
      refine W.skip ?_
      refine W.seq ?_
      refine W.block ?_
      refine W.seq ?_
      refine W.reg ?_
      refine Wx.ex (rd_index 0 (hS.arg a_wv) rfl rfl Try.underlying22 Try.sizeOf3 (by first | omega | (simp only [List.length_set, List.length_append, List.length_cons, List.length_nil, List.length_replicate]; omega)) (by first | omega | (simp only [List.length_set, List.length_append, List.length_cons, List.length_nil, List.length_replicate]; omega))) rfl (fun p_25 hp_26 => ?_)
      refine Wx.rd (v := .int .i64 (ix 0 ps k)) (rd_loadI hp_26 rfl Try.isAgg3 Try.sizeOf3) rfl ?_
      have bd_27 := bd_i64 hp_26.inK
      refine Wx.rd (v := .int .i64 (ix 0 ps k)) (rd_assign rfl) rfl ?_
      refine Wx.nil ?_
      refine W.seq ?_
      refine W.block ?_
      refine W.seq ?_
      refine W.reg ?_
      refine Wx.rd (v := .int .i64 (ix 0 ps k)) (rd_move rfl) rfl ?_
      refine Wx.rd (v := .agg #[.int .i64 R, .int .i64 C, hv]) (rd_loadXs (ds := [.int .i64 R, .int .i64 C, hv]) hS 3 rfl rfl rfl rfl Try.isAgg24 Try.sizeOf24) rfl ?_
      refine Wx.callF (run_callF Try.call56 rfl) (F56 i_R i_C (hS.arg a_hv)) rfl ?_
      rintro r_28 w_29 hx_30 rfl
      have hS := hS.ext hx_30
      refine Wx.rd (v := .int .i64 ((H.length : Int) - 1)) (rd_sub rfl rfl (in_i64 (by omega) (by omega))) rfl ?_
      refine Wx.callF (run_callF Try.call61 rfl) (F61 (in_i64 (by omega) (by omega)) (in_i64 (by omega) (by omega)) (in_i64 (by omega) (by omega))) rfl ?_
      rintro r_31 w_32 hx_33 rfl
      have hS := hS.ext hx_33
      refine Wx.rd (v := .bool (!(decide (0 ≤ (ix 0 ps k)) && decide ((ix 0 ps k) ≤ ((H.length : Int) - 1))))) (rd_not rfl) rfl ?_
      refine Wx.rd (v := .bool (!(decide (0 ≤ (ix 0 ps k)) && decide ((ix 0 ps k) ≤ ((H.length : Int) - 1))))) (rd_assign rfl) rfl ?_
      refine Wx.nil ?_
      refine W.cond rfl (fun c2 => ?_) (fun c2 => ?_)
      · -- yes
        try simp only [Bool.and_eq_true, Bool.or_eq_true, Bool.not_eq_true', Bool.and_eq_false_iff, Bool.or_eq_false_iff, Bool.not_eq_false', decide_eq_true_eq, decide_eq_false_iff_not, not_or, Bool.false_eq_true, Bool.true_eq_false, false_or, or_false, not_false_eq_true] at c2
        refine W.seq ?_
        refine W.reg ?_
        refine Wx.storeX (cs' := [.int .i64 2]) (ds := [.int .i64 2]) hS 0 rfl rfl rfl rfl Try.sizeOf28 (Nat.le_of_ble_eq_true rfl) (one_cons rfl one_nil) rfl (fun w_34 hz_35 hS => ?_)
        refine Wx.nil ?_
        have hS : St _ _ w_34 (.box g_13 28 [.int .i64 2] :: .box g_9 3 [.int .i64 h] :: .box g_5 22 [wv] :: .box g_1 24 [.int .i64 R, .int .i64 C, hv] :: DOb []) := hS
        refine W.ret ⟨[.box g_13 28 [.int .i64 2], .box g_9 3 [.int .i64 h], .box g_5 22 [wv], .box g_1 24 [.int .i64 R, .int .i64 C, hv]], hS, fun w_36 hS => ?_⟩
        have e1_0 : (provesE R C H ps h) = (2 : Int) := by rw [proves_ord h0c (by rw [ord_none h0 c1 h2 (by omega)]; decide)]; exact ord_none h0 c1 h2 (by omega)
        exact ⟨.int .i64 2, (ResIs.cellV hS 0 rfl rfl Try.isAgg28), hS.bel, (by rw [e1_0])⟩
      · -- no
        try simp only [Bool.and_eq_true, Bool.or_eq_true, Bool.not_eq_true', Bool.and_eq_false_iff, Bool.or_eq_false_iff, Bool.not_eq_false', decide_eq_true_eq, decide_eq_false_iff_not, not_or, Bool.false_eq_true, Bool.true_eq_false, false_or, or_false, not_false_eq_true] at c2
        refine W.seq ?_
        refine W.reg ?_
        refine Wx.rd (v := .int .i64 (ix 0 ps k)) (rd_move rfl) rfl ?_
        refine Wx.rd (v := .int .i64 lp) (rd_move rfl) rfl ?_
        refine Wx.rd (v := .bool (decide ((ix 0 ps k) ≤ lp))) (rd_leq rfl rfl) rfl ?_
        refine Wx.rd (v := .bool (decide ((ix 0 ps k) ≤ lp))) (rd_assign rfl) rfl ?_
        refine Wx.nil ?_
        refine W.condD rfl (fun c3 => ?_) (fun c3 => ?_)
        · -- yes
          refine W.seq ?_
          refine W.reg ?_
          refine Wx.storeX (cs' := [.int .i64 7]) (ds := [.int .i64 7]) hS 0 rfl rfl rfl rfl Try.sizeOf28 (Nat.le_of_ble_eq_true rfl) (one_cons rfl one_nil) rfl (fun w_37 hz_38 hS => ?_)
          refine Wx.nil ?_
          have hS : St _ _ w_37 (.box g_13 28 [.int .i64 7] :: .box g_9 3 [.int .i64 h] :: .box g_5 22 [wv] :: .box g_1 24 [.int .i64 R, .int .i64 C, hv] :: DOb []) := hS
          refine W.ret ⟨[.box g_13 28 [.int .i64 7], .box g_9 3 [.int .i64 h], .box g_5 22 [wv], .box g_1 24 [.int .i64 R, .int .i64 C, hv]], hS, fun w_39 hS => ?_⟩
          have e2_0 : (provesE R C H ps h) = (7 : Int) := by rw [proves_ord h0c (by rw [ord_less h0 c1 h2 (by omega) (by omega)]; decide)]; exact ord_less h0 c1 h2 (by omega) (by omega)
          exact ⟨.int .i64 7, (ResIs.cellV hS 0 rfl rfl Try.isAgg28), hS.bel, (by rw [e2_0])⟩
        · -- no
          refine W.skip ?_
          refine W.reg ?_
          refine Wx.rd (v := .int .i64 (ix 0 ps k)) (rd_move rfl) rfl ?_
          refine Wx.rd (v := .int .i64 (ix 0 ps k)) (rd_assign rfl) rfl ?_
          refine Wx.nil ?_
          refine W.reg ?_
          refine Wx.rd (v := .int .i64 (k + 1)) (rd_add rfl rfl (in_i64 (by omega) (by omega))) rfl ?_
          refine Wx.rd (v := .int .i64 (k + 1)) (rd_move rfl) rfl ?_
          refine Wx.nil ?_
          refine ⟨(ix 0 ps k, k + 1), (by show (ps.length - (k + 1)).toNat < (ps.length - k).toNat; omega), ?_, ?_, Out.look rfl Out.self⟩
          · exact ⟨hS, (by first | omega | assumption), (by first | omega | assumption), ((lastP_next h0).symm), (ord_step h0 c1 h2 ⟨by omega, by omega⟩ (by omega))⟩
          · exact ⟨rfl, rfl, trivial⟩
    · -- no
      have hod := ord_end (by omega) h2
      refine W.exit rfl ?_
      refine WD.seq ?_
      refine WD.ofW ?_
      refine W.seq ?_
      refine W.reg ?_
      refine Wx.rd (v := .int .i64 h) (rd_loadX hS 1 rfl rfl rfl Try.isAgg3) rfl ?_
      refine Wx.callF (run_callF Try.call62 rfl) (F62 i_h) rfl ?_
      rintro r_40 w_41 hx_42 rfl
      have hS := hS.ext hx_42
      refine Wx.nil ?_
      refine W.cond rfl (fun c4 => ?_) (fun c4 => ?_)
      · -- yes
        try simp only [Bool.and_eq_true, Bool.or_eq_true, Bool.not_eq_true', Bool.and_eq_false_iff, Bool.or_eq_false_iff, Bool.not_eq_false', decide_eq_true_eq, decide_eq_false_iff_not, not_or, Bool.false_eq_true, Bool.true_eq_false, false_or, or_false, not_false_eq_true] at c4
        refine W.seq ?_
        refine W.reg ?_
        refine Wx.storeX (cs' := [.int .i64 1]) (ds := [.int .i64 1]) hS 0 rfl rfl rfl rfl Try.sizeOf28 (Nat.le_of_ble_eq_true rfl) (one_cons rfl one_nil) rfl (fun w_43 hz_44 hS => ?_)
        refine Wx.nil ?_
        have hS : St _ _ w_43 (.box g_13 28 [.int .i64 1] :: .box g_9 3 [.int .i64 h] :: .box g_5 22 [wv] :: .box g_1 24 [.int .i64 R, .int .i64 C, hv] :: DOb []) := hS
        refine W.ret ⟨[.box g_13 28 [.int .i64 1], .box g_9 3 [.int .i64 h], .box g_5 22 [wv], .box g_1 24 [.int .i64 R, .int .i64 C, hv]], hS, fun w_45 hS => ?_⟩
        have e3_0 : (provesE R C H ps h) = (1 : Int) := by exact proves_range h0c hod (fun q => by rw [badH_iff.2 q] at c4; cases c4)
        exact ⟨.int .i64 1, (ResIs.cellV hS 0 rfl rfl Try.isAgg28), hS.bel, (by rw [e3_0])⟩
      · -- no
        try simp only [Bool.and_eq_true, Bool.or_eq_true, Bool.not_eq_true', Bool.and_eq_false_iff, Bool.or_eq_false_iff, Bool.not_eq_false', decide_eq_true_eq, decide_eq_false_iff_not, not_or, Bool.false_eq_true, Bool.true_eq_false, false_or, or_false, not_false_eq_true] at c4
        have hh := badH_iff.1 c4
        have hpsm := ord_mem hod
        refine W.skip ?_
        refine WD.seq ?_
        refine WD.seq ?_
        refine WD.ofW ?_
        refine W.reg ?_
        refine Wx.rd (v := wv) (rd_loadX hS 2 rfl rfl rfl Try.isAgg22) rfl ?_
        refine Wx.rd (v := .int .i64 (ps.length : Int)) (rd_lenV rfl (hS.arg a_wv) Try.underlying22) rfl ?_
        refine Wx.rd (v := .int .i64 0) (rd_move rfl) rfl ?_
        refine Wx.nil ?_
        refine WD.block ?_
        refine WD.loop [12, 42, 43, 44, 45, 46, 47, 48, 69] (fun x : Int × (List Nat) => match x with | (i, Ds) => [(42, .int .i64 i)]) (fun (x : Int × (List Nat)) w' => match x with | (i, Ds) => St w [] w' (.box g_13 28 [.int .i64 0] :: .box g_9 3 [.int .i64 h] :: .box g_5 22 [wv] :: .box g_1 24 [.int .i64 R, .int .i64 C, hv] :: DOb Ds) ∧ 0 ≤ i ∧ i ≤ ps.length ∧ (∀ j, 0 ≤ j → j < i → dikeB C H ps h (ix 0 ps j) = true)) (fun x : Int × (List Nat) => match x with | (i, Ds) => (ps.length - i).toNat) (fun x : Int × (List Nat) => match x with | (i, Ds) => Ds) (0, []) ⟨rfl, trivial⟩ rfl ⟨hS, (by first | omega | simp), (by first | omega | simp), (fun j j0 j1 => by omega)⟩ ?_
        rintro ⟨i, Ds⟩ u_47 w_46 ⟨hS, i0, i1, i2⟩
        refine WD.seq ?_
        refine WD.ofW ?_
        refine W.reg ?_
        refine Wx.rd (v := .bool (decide (i < (ps.length : Int)))) (rd_lss rfl rfl) rfl ?_
        refine Wx.nil ?_
        refine WD.seq ?_
        refine WD.ofW ?_
        refine W.condD rfl (fun c5 => ?_) (fun c5 => ?_)
        · -- yes
          have hpi := hpsm _ (ix_inl i0 c5)
          refine W.skip ?_
          refine WD.seq ?_
          refine WD.block ?_
          refine WD.seq ?_
          refine WD.ofW ?_
          refine W.reg ?_
          refine Wx.ex (rd_index 0 (hS.arg a_wv) rfl rfl Try.underlying22 Try.sizeOf3 (by first | omega | (simp only [List.length_set, List.length_append, List.length_cons, List.length_nil, List.length_replicate]; omega)) (by first | omega | (simp only [List.length_set, List.length_append, List.length_cons, List.length_nil, List.length_replicate]; omega))) rfl (fun p_48 hp_49 => ?_)
          refine Wx.rd (v := .int .i64 (ix 0 ps i)) (rd_loadI hp_49 rfl Try.isAgg3 Try.sizeOf3) rfl ?_
          have bd_50 := bd_i64 hp_49.inK
          refine Wx.rd (v := .int .i64 (ix 0 ps i)) (rd_assign rfl) rfl ?_
          refine Wx.nil ?_
          refine WD.seq ?_
          refine WD.ofW ?_
          refine W.reg ?_
          refine Wx.rd (v := .agg #[.int .i64 R, .int .i64 C, hv]) (rd_loadXs (ds := [.int .i64 R, .int .i64 C, hv]) hS 3 rfl rfl rfl rfl Try.isAgg24 Try.sizeOf24) rfl ?_
          refine Wx.rd (v := .int .i64 (ix 0 ps i)) (rd_move rfl) rfl ?_
          refine Wx.callB (run_callF Try.call73 rfl) (F73 hS (hS.arg a_hv)) rfl ?_
          rintro r_51 w_52 ⟨gn_53, gs_54, rfl, hS⟩
          refine Wx.nil ?_
          refine WD.block ?_
          have hS := hS.add (hS.arg a_hv)
          have hS := hS.front 6 rfl
          have hS := hS.front 6 rfl
          have hS := hS.front 6 rfl
          have hS := hS.front 6 rfl
          have hS := hS.front 4 rfl
          have hS := hS.front 6 rfl
          have hS := hS.front 6 rfl
          have hS : St _ _ w_52 (.box gn_53 3 [.int .i64 (ix 0 ps i)] :: .box gs_54 24 [.int .i64 R, .int .i64 C, hv] :: Ob.v (tSl (tI .i64)) H hv :: .box g_13 28 [.int .i64 0] :: .box g_9 3 [.int .i64 h] :: .box g_5 22 [wv] :: .box g_1 24 [.int .i64 R, .int .i64 C, hv] :: DOb Ds) := hS
          refine WD.range (ob := [.box g_13 28 [.int .i64 0], .box g_9 3 [.int .i64 h], .box g_5 22 [wv], .box g_1 24 [.int .i64 R, .int .i64 C, hv]]) (nbW C H.length (ix 0 ps i)) (fun ls ob => (∀ q ∈ ls, ¬ (q = (H.length : Int) ∨ (ix 0 H q < h ∧ hasL ps q = false))) ∧ ob = [.box g_13 28 [.int .i64 0], .box g_9 3 [.int .i64 h], .box g_5 22 [wv], .box g_1 24 [.int .i64 R, .int .i64 C, hv]]) (fun x ls ob => x = none ∧ (dikeB C H ps h (ix 0 ps i) = false) ∧ ob = [.box g_13 28 [.int .i64 14], .box g_9 3 [.int .i64 h], .box g_5 22 [wv], .box g_1 24 [.int .i64 R, .int .i64 C, hv]]) [] rfl Try.call85 rfl rfl (iter85 p_ok hpi) hS ⟨(fun q hq => nomatch hq), rfl⟩ ?_ ?_ ?_
          · -- a round
            rintro ls m pre_59 _ w_58 hpx ⟨s1, rfl⟩ hS
            have hm := mem_nbW.1 (mem_pre hpx)
            have hm0 : 0 ≤ m ∧ m ≤ (H.length : Int) := by rcases hm with ⟨q, _⟩ | q <;> omega
            refine W.block ?_
            refine W.seq ?_
            refine W.regQ mixedLl_ (by kernel_rfl) ?_
            refine Wx.rd (v := .int .i64 m) (rd_move rfl) rfl ?_
            refine Wx.rd (v := .agg #[.int .i64 R, .int .i64 C, hv]) (rd_loadXs (ds := [.int .i64 R, .int .i64 C, hv]) hS 3 rfl rfl rfl rfl Try.isAgg24 Try.sizeOf24) rfl ?_
            refine Wx.callV (v := .int .i64 (H.length : Int)) (run_callF Try.call56 rfl) (fun w_60 hw_61 => (F56 i_R i_C ((hS.arg a_hv).ext hw_61))) rfl ?_
            refine Wx.rd (v := .bool (decide (m = (H.length : Int)))) (rd_eql rfl rfl) rfl ?_
            refine Wx.rd (v := .bool (decide (m = (H.length : Int)))) (rd_move rfl) rfl ?_
            refine Wx.cutQ (X := Unit) 14 [55, 56, 57, 58, 59, 60, 61, 62, 63, 64, 65, 66, 67, 68] (fun _ => [(68, .bool (decide (m = (H.length : Int)) || (decide ((ix 0 H m) < h) && !(hasL ps m))))]) (fun _ => True) ?_ ?_
            · rcases Bool.eq_false_or_eq_true (decide (m = (H.length : Int))) with g_62 | g_62
              · -- True
                have gp_63 := of_decide_eq_true g_62
                refine Wx.gnoB rfl rfl (congrArg Value.bool g_62) rfl rfl ?_
                refine Wx.gnoB rfl rfl (congrArg Value.bool g_62) rfl rfl ?_
                refine Wx.gnoB rfl rfl (congrArg Value.bool g_62) rfl rfl ?_
                refine Wx.gnoB rfl rfl (congrArg Value.bool g_62) rfl rfl ?_
                refine Wx.gnoB rfl rfl (congrArg Value.bool g_62) rfl rfl ?_
                refine Wx.gnoB rfl rfl (congrArg Value.bool g_62) rfl rfl ?_
                refine Wx.gnoB rfl rfl (congrArg Value.bool g_62) rfl rfl ?_
                refine Wx.gnoB rfl rfl (congrArg Value.bool g_62) rfl rfl ?_
                refine Wx.gno rfl rfl rfl rfl ?_
                refine Wx.gno rfl rfl rfl rfl ?_
                refine Wx.gno rfl rfl rfl rfl ?_
                refine Wx.gno rfl rfl rfl rfl ?_
                refine Wx.gnoB rfl rfl (congrArg Value.bool g_62) rfl rfl ?_
                refine Wx.rd (v := .bool true) (rd_pickT (congrArg Value.bool g_62) rfl) rfl ?_
                refine Wx.nilQ (fun _ _ => ⟨(), trivial, ⟨?_, trivial⟩, Out.look rfl Out.refl⟩)
                show Value.bool true = Value.bool (decide (m = (H.length : Int)) || (decide ((ix 0 H m) < h) && !(hasL ps m)))
                first | rw [g_62, Bool.true_or] | (rw [g_62]; rfl)
              · -- False
                have gp_64 := of_decide_eq_false g_62
                refine Wx.gyes rfl rfl (congrArg Value.bool g_62) ?_
                refine Wx.rd (v := .pointer (some ⟨g_1, 2, none⟩)) (rd_fieldAddr rfl foLl_24_2) rfl ?_
                refine Wx.gyes rfl rfl (congrArg Value.bool g_62) ?_
                refine Wx.rd (v := hv) (rd_loadX hS 3 rfl rfl rfl Try.isAgg22) rfl ?_
                refine Wx.gyes rfl rfl (congrArg Value.bool g_62) ?_
                refine Wx.rd (v := .int .i64 m) (rd_move rfl) rfl ?_
                refine Wx.gyes rfl rfl (congrArg Value.bool g_62) ?_
                refine Wx.ex (rd_index 0 (hS.arg a_hv) rfl rfl Try.underlying22 Try.sizeOf3 (by first | omega | (simp only [List.length_set, List.length_append, List.length_cons, List.length_nil, List.length_replicate]; omega)) (by first | omega | (simp only [List.length_set, List.length_append, List.length_cons, List.length_nil, List.length_replicate]; omega))) rfl (fun p_65 hp_66 => ?_)
                refine Wx.gyes rfl rfl (congrArg Value.bool g_62) ?_
                refine Wx.rd (v := .int .i64 (ix 0 H m)) (rd_loadI hp_66 rfl Try.isAgg3 Try.sizeOf3) rfl ?_
                have bd_67 := bd_i64 hp_66.inK
                refine Wx.gyes rfl rfl (congrArg Value.bool g_62) ?_
                refine Wx.rd (v := .int .i64 h) (rd_loadX hS 1 rfl rfl rfl Try.isAgg3) rfl ?_
                refine Wx.gyes rfl rfl (congrArg Value.bool g_62) ?_
                refine Wx.rd (v := .bool (decide ((ix 0 H m) < h))) (rd_lss rfl rfl) rfl ?_
                refine Wx.gyes rfl rfl (congrArg Value.bool g_62) ?_
                refine Wx.rd (v := .bool (decide ((ix 0 H m) < h))) (rd_move rfl) rfl ?_
                refine Wx.cutQ (X := Unit) 5 [63, 64, 65, 66, 67] (fun _ => [(67, .bool (decide ((ix 0 H m) < h) && !(hasL ps m)))]) (fun _ => True) ?_ ?_
                · rcases Bool.eq_false_or_eq_true (decide ((ix 0 H m) < h)) with g_68 | g_68
                  · -- True
                    have gp_69 := of_decide_eq_true g_68
                    refine Wx.gyes rfl rfl (congrArg Value.bool g_68) ?_
                    refine Wx.rd (v := wv) (rd_loadX hS 2 rfl rfl rfl Try.isAgg22) rfl ?_
                    refine Wx.gyes rfl rfl (congrArg Value.bool g_68) ?_
                    refine Wx.rd (v := .int .i64 m) (rd_move rfl) rfl ?_
                    refine Wx.gyes rfl rfl (congrArg Value.bool g_68) ?_
                    refine Wx.callV (v := .bool (hasL ps m)) (run_callF Try.call44 rfl) (fun w_70 hw_71 => (F44 ((hS.arg a_wv).ext hw_71) (in_i64 (by omega) (by omega)))) rfl ?_
                    refine Wx.gyes rfl rfl (congrArg Value.bool g_68) ?_
                    refine Wx.rd (v := .bool (!(hasL ps m))) (rd_not rfl) rfl ?_
                    refine Wx.gyes rfl rfl (congrArg Value.bool g_62) ?_
                    refine Wx.rd (v := .bool (!(hasL ps m))) (rd_pickT (congrArg Value.bool g_68) rfl) rfl ?_
                    refine Wx.nilQ (fun _ _ => ⟨(), trivial, ⟨?_, trivial⟩, Out.look rfl Out.refl⟩)
                    show Value.bool (!(hasL ps m)) = Value.bool (decide ((ix 0 H m) < h) && !(hasL ps m))
                    first | rw [g_68, Bool.true_and] | (rw [g_68]; rfl)
                  · -- False
                    have gp_72 := of_decide_eq_false g_68
                    refine Wx.gnoB rfl rfl (congrArg Value.bool g_68) rfl rfl ?_
                    refine Wx.gnoB rfl rfl (congrArg Value.bool g_68) rfl rfl ?_
                    refine Wx.gnoB rfl rfl (congrArg Value.bool g_68) rfl rfl ?_
                    refine Wx.gnoB rfl rfl (congrArg Value.bool g_68) rfl rfl ?_
                    refine Wx.gyes rfl rfl (congrArg Value.bool g_62) ?_
                    refine Wx.rd (v := .bool false) (rd_pickF (congrArg Value.bool g_68) rfl) rfl ?_
                    refine Wx.nilQ (fun _ _ => ⟨(), trivial, ⟨?_, trivial⟩, Out.look rfl Out.refl⟩)
                    show Value.bool false = Value.bool (decide ((ix 0 H m) < h) && !(hasL ps m))
                    first | rw [g_68, Bool.false_and] | (rw [g_68]; rfl)
                rintro ⟨⟩ u_74 -
                refine Wx.rd (v := .bool (decide ((ix 0 H m) < h) && !(hasL ps m))) (rd_pickF (congrArg Value.bool g_62) rfl) rfl ?_
                refine Wx.nilQ (fun _ _ => ⟨(), trivial, ⟨?_, trivial⟩, Out.look rfl (Out.hav rfl (Out.look rfl Out.refl))⟩)
                show Value.bool (decide ((ix 0 H m) < h) && !(hasL ps m)) = Value.bool (decide (m = (H.length : Int)) || (decide ((ix 0 H m) < h) && !(hasL ps m)))
                first | rw [g_62, Bool.false_or] | (rw [g_62]; rfl)
            rintro ⟨⟩ u_76 -
            refine Wx.nilQ (fun w_77 hx_78 => ?_)
            have hS := hS.ext hx_78
            refine W.cond rfl (fun c6 => ?_) (fun c6 => ?_)
            · -- yes
              try simp only [Bool.and_eq_true, Bool.or_eq_true, Bool.not_eq_true', Bool.and_eq_false_iff, Bool.or_eq_false_iff, Bool.not_eq_false', decide_eq_true_eq, decide_eq_false_iff_not, not_or, Bool.false_eq_true, Bool.true_eq_false, false_or, or_false, not_false_eq_true] at c6
              refine W.seq ?_
              refine W.reg ?_
              refine Wx.storeX (cs' := [.int .i64 14]) (ds := [.int .i64 14]) hS 0 rfl rfl rfl rfl Try.sizeOf28 (Nat.le_of_ble_eq_true rfl) (one_cons rfl one_nil) rfl (fun w_79 hz_80 hS => ?_)
              refine Wx.nil ?_
              refine W.ret ?_
              have hS := hS.front 3 rfl
              have hS := hS.front 3 rfl
              have hS := hS.front 3 rfl
              have hS := hS.front 3 rfl
              have hS : St _ _ w_79 (.box g_13 28 [.int .i64 14] :: .box g_9 3 [.int .i64 h] :: .box g_5 22 [wv] :: .box g_1 24 [.int .i64 R, .int .i64 C, hv] :: pre_59) := hS
              exact ⟨_, ⟨rfl, (by rcases c6 with q | q; exact dike_last (decide_eq_true (by rcases hm with z | z; omega; exact z.2)); (by_cases hz : m = (H.length : Int); exact dike_last (decide_eq_true (by rcases hm with z | z; omega; exact z.2)); exact dike_jam ⟨hm0.1, by omega⟩ (jam_iff.2 ⟨⟨by rcases hm with z | z; exact z.2; exact absurd z.1 hz, q.2⟩, q.1⟩))), rfl⟩, hS⟩
            · -- no
              try simp only [Bool.and_eq_true, Bool.or_eq_true, Bool.not_eq_true', Bool.and_eq_false_iff, Bool.or_eq_false_iff, Bool.not_eq_false', decide_eq_true_eq, decide_eq_false_iff_not, not_or, Bool.false_eq_true, Bool.true_eq_false, false_or, or_false, not_false_eq_true] at c6
              refine W.skip ?_
              have hS := hS.front 3 rfl
              have hS := hS.front 3 rfl
              have hS := hS.front 3 rfl
              have hS := hS.front 3 rfl
              have hS : St _ _ w_77 (.box g_13 28 [.int .i64 0] :: .box g_9 3 [.int .i64 h] :: .box g_5 22 [wv] :: .box g_1 24 [.int .i64 R, .int .i64 C, hv] :: pre_59) := hS
              exact ⟨_, ⟨(fun q hq hc => by rcases List.mem_append.1 hq with hq | hq; exact s1 q hq hc; rw [List.mem_singleton.1 hq] at hc; rcases hc with hc | ⟨hc, hc2⟩; exact c6.1 hc; exact c6.2.elim (fun z => z hc) (fun z => by rw [hc2] at z; cases z)), rfl⟩, hS⟩
          · -- all have come
            rintro _ D_81 w_82 ⟨s1, rfl⟩ hS
            have hS : St _ _ w_82 (.box g_13 28 [.int .i64 0] :: .box g_9 3 [.int .i64 h] :: .box g_5 22 [wv] :: .box g_1 24 [.int .i64 R, .int .i64 C, hv] :: DOb (D_81 :: Ds)) := hS
            have hdk : dikeB C H ps h (ix 0 ps i) = true := dike_yes (decide_eq_false (fun hl => s1 _ (mem_nbW.2 (.inr ⟨rfl, hl⟩)) (.inl rfl))) (fun z z0 z1 => jam_no (fun ⟨⟨b1, b2⟩, b3⟩ => s1 z (mem_nbW.2 (.inl ⟨⟨z0, z1⟩, b1⟩)) (.inr ⟨b3, b2⟩)))
            refine WD.ofW ?_
            refine W.reg ?_
            refine Wx.rd (v := .int .i64 (i + 1)) (rd_add rfl rfl (in_i64 (by omega) (by omega))) rfl ?_
            refine Wx.rd (v := .int .i64 (i + 1)) (rd_move rfl) rfl ?_
            refine Wx.nil ?_
            refine ⟨(i + 1, (D_81 :: Ds)), (by show (ps.length - (i + 1)).toNat < (ps.length - i).toNat; omega), rfl, ?_, ?_, Out.look rfl Out.self⟩
            · exact ⟨hS, (by first | omega | assumption), (by first | omega | assumption), (fun j j0 j1 => by by_cases ee : j = i; (rw [ee]; exact hdk); exact i2 j j0 (by omega))⟩
            · exact ⟨rfl, trivial⟩
          · -- it was left
            rintro _ lsx _ D_83 w_84 ⟨rfl, o1, rfl⟩ hpx hS
            have hS : St _ _ w_84 (.box g_13 28 [.int .i64 14] :: .box g_9 3 [.int .i64 h] :: .box g_5 22 [wv] :: .box g_1 24 [.int .i64 R, .int .i64 C, hv] :: DOb (D_83 :: Ds)) := hS
            have hS : St _ _ w_84 (.box g_13 28 [.int .i64 14] :: .box g_9 3 [.int .i64 h] :: .box g_5 22 [wv] :: .box g_1 24 [.int .i64 R, .int .i64 C, hv] :: DOb (D_83 :: Ds)) := hS
            refine ⟨[.box g_13 28 [.int .i64 14], .box g_9 3 [.int .i64 h], .box g_5 22 [wv], .box g_1 24 [.int .i64 R, .int .i64 C, hv]], hS, fun w_85 hS => ?_⟩
            have e4_0 : (provesE R C H ps h) = (14 : Int) := by exact proves_no h0c hod hh (ix_inl i0 c5) o1
            exact ⟨.int .i64 14, (ResIs.cellV hS 0 rfl rfl Try.isAgg28), hS.bel, (by rw [e4_0])⟩
        · -- no
          refine W.exit rfl ?_
          refine WD.ofW ?_
          refine W.seq ?_
          refine W.reg ?_
          refine Wx.storeX (cs' := [.int .i64 0]) (ds := [.int .i64 0]) hS 0 rfl rfl rfl rfl Try.sizeOf28 (Nat.le_of_ble_eq_true rfl) (one_cons rfl one_nil) rfl (fun w_86 hz_87 hS => ?_)
          refine Wx.nil ?_
          have hS : St _ _ w_86 (.box g_13 28 [.int .i64 0] :: .box g_9 3 [.int .i64 h] :: .box g_5 22 [wv] :: .box g_1 24 [.int .i64 R, .int .i64 C, hv] :: DOb Ds) := hS
          refine W.ret ⟨[.box g_13 28 [.int .i64 0], .box g_9 3 [.int .i64 h], .box g_5 22 [wv], .box g_1 24 [.int .i64 R, .int .i64 C, hv]], hS, fun w_88 hS => ?_⟩
          have e5_0 : (provesE R C H ps h) = (0 : Int) := by exact proves_yes h0c hod hh (all_at (by omega) i2)
          exact ⟨.int .i64 0, (ResIs.cellV hS 0 rfl rfl Try.isAgg28), hS.bel, (by rw [e5_0])⟩
end Go.Proofs.Ytjhimoeodkaihaa

namespace Go.Proofs.Ytjhimoeodkaihaa
open Go.Wk Go.RowKit Go.Lib
set_option linter.unusedVariables false
set_option linter.unusedSimpArgs false
theorem foLm_24_2 : fldOff Try.prog 24 2 = some 2 := by kernel_rfl
theorem elLm_101 : ElemI Try.prog 101 105 (.agg #[.int .i64 0, .int .i64 0, .int .i64 0]) 3 24 := ElemI.of Try.underlying101 (by kernel_rfl) (by first | rfl | kernel_rfl) (by decide)
theorem mixedLm_ : Try.prog.follows .mixedOrders = true := by kernel_rfl

set_option maxHeartbeats 4000000 in
theorem F87 {R : Int} {C : Int} {hv : Value} {H : List Int} {O : List (Option Nat)} {w : World} (i_R : InK .i64 R) (i_C : InK .i64 C) (h_hv : V (tSl (tI .i64)) H hv O w) (p_ok : SOK R C H) (hO : ∀ b, some b ∈ O → b < w.heap.size) : Calls Try.prog 87 #[.agg #[.int .i64 R, .int .i64 C, hv]] w (Ret w (fun r w' => ∃ rv, r = rv ∧ FreshO (tP (tP (tI .i64) (tI .i64)) (tI .i64)) 105 (jTL C H) rv O w.heap.size w')) := by
  have b_C := bd_i64 i_C
  have b_R := bd_i64 i_R
  obtain ⟨⟨r1, r2⟩, ⟨c1_, c2_⟩, hRC, ⟨n1, n36⟩, hCn, hok⟩ := id p_ok
  have a_hv := h_hv
  have l_hv := h_hv.len63
  have hS := St.start w O hO
  have hS : St w O w (DOb []) := hS
  refine enterMR (O := O) Try.func87 rfl Try.ntmps87 Try.results87 rfl ?_
  refine WD.seq ?_
  refine WD.ofW ?_
  refine W.reg ?_
  refine Wx.box (cs := [.int .i64 R, .int .i64 C, hv]) hS rfl rfl rfl (fun g_1 w_2 hx_4 hb_3 hS => ?_)
  refine Wx.rd (v := (.slice none 0 0)) (rd_assign rfl) rfl ?_
  refine Wx.nil ?_
  refine WD.seq ?_
  refine WD.ofW ?_
  refine W.reg ?_
  refine Wx.alloc (cs := [(.slice none 0 0)]) hS Try.zeroValue101 rfl rfl (fun g_5 w_6 hx_8 hb_7 hS => ?_)
  refine Wx.nil ?_
  refine WD.seq ?_
  refine WD.seq ?_
  refine WD.ofW ?_
  refine W.reg ?_
  refine Wx.rd (v := .pointer (some ⟨g_1, 2, none⟩)) (rd_fieldAddr rfl foLm_24_2) rfl ?_
  refine Wx.rd (v := hv) (rd_loadX hS 1 rfl rfl rfl Try.isAgg22) rfl ?_
  refine Wx.rd (v := .int .i64 (H.length : Int)) (rd_lenV rfl (hS.arg a_hv) Try.underlying22) rfl ?_
  refine Wx.rd (v := .int .i64 0) (rd_move rfl) rfl ?_
  refine Wx.nil ?_
  refine WD.block ?_
  have hS := hS.addNil (tP (tP (tI .i64) (tI .i64)) (tI .i64)) 105
  refine WD.loop [4, 5, 10, 11, 12, 13, 14, 15, 16, 17, 50] (fun x : Int × Value × (List ((Int × Int) × Int)) × (List Nat) => match x with | (k, jv, out, Ds) => [(10, .int .i64 k)]) (fun (x : Int × Value × (List ((Int × Int) × Int)) × (List Nat)) w' => match x with | (k, jv, out, Ds) => St w O w' (.row (tP (tP (tI .i64) (tI .i64)) (tI .i64)) 105 jv out :: .box g_5 101 [jv] :: .box g_1 24 [.int .i64 R, .int .i64 C, hv] :: DOb Ds) ∧ 0 ≤ k ∧ k ≤ H.length ∧ out = (rng 0 k).flatMap (jRowP C H) ∧ (out.length : Int) ≤ 5 * k) (fun x : Int × Value × (List ((Int × Int) × Int)) × (List Nat) => match x with | (k, jv, out, Ds) => (H.length - k).toNat) (fun x : Int × Value × (List ((Int × Int) × Int)) × (List Nat) => match x with | (k, jv, out, Ds) => Ds) (0, (.slice none 0 0), [], []) ⟨rfl, trivial⟩ rfl ⟨hS, (by first | omega | simp), (by first | omega | simp), (rfl), (by decide)⟩ ?_
  rintro ⟨k, jv, out, Ds⟩ u_10 w_9 ⟨hS, h0, h1, h2, h3⟩
  refine WD.seq ?_
  refine WD.ofW ?_
  refine W.reg ?_
  refine Wx.rd (v := .bool (decide (k < (H.length : Int)))) (rd_lss rfl rfl) rfl ?_
  refine Wx.nil ?_
  refine WD.seq ?_
  refine WD.ofW ?_
  refine W.condD rfl (fun c0 => ?_) (fun c0 => ?_)
  · -- yes
    have hak := p_ok.at h0 c0
    refine W.skip ?_
    refine WD.seq ?_
    refine WD.block ?_
    refine WD.seq ?_
    refine WD.ofW ?_
    refine W.reg ?_
    refine Wx.rd (v := .int .i64 k) (rd_move rfl) rfl ?_
    refine Wx.ex (rd_index 0 (hS.arg a_hv) rfl rfl Try.underlying22 Try.sizeOf3 (by first | omega | (simp only [List.length_set, List.length_append, List.length_cons, List.length_nil, List.length_replicate]; omega)) (by first | omega | (simp only [List.length_set, List.length_append, List.length_cons, List.length_nil, List.length_replicate]; omega))) rfl (fun p_11 hp_12 => ?_)
    refine Wx.rd (v := .int .i64 (ix 0 H k)) (rd_loadI hp_12 rfl Try.isAgg3 Try.sizeOf3) rfl ?_
    have bd_13 := bd_i64 hp_12.inK
    refine Wx.alloc (cs := [.int .i64 0]) hS Try.zeroValue3 rfl rfl (fun g_14 w_15 hx_17 hb_16 hS => ?_)
    refine Wx.alloc (cs := [.int .i64 0]) hS Try.zeroValue3 rfl rfl (fun g_18 w_19 hx_21 hb_20 hS => ?_)
    refine Wx.storeX (cs' := [.int .i64 k]) (ds := [.int .i64 k]) hS 1 rfl rfl rfl rfl Try.sizeOf3 (Nat.le_of_ble_eq_true rfl) (one_cons rfl one_nil) rfl (fun w_22 hz_23 hS => ?_)
    refine Wx.storeX (cs' := [.int .i64 (ix 0 H k)]) (ds := [.int .i64 (ix 0 H k)]) hS 0 rfl rfl rfl rfl Try.sizeOf3 (Nat.le_of_ble_eq_true rfl) (one_cons rfl one_nil) rfl (fun w_24 hz_25 hS => ?_)
    refine Wx.nil ?_
    refine WD.seq ?_
    refine WD.ofW ?_
    refine W.reg ?_
    refine Wx.rd (v := .agg #[.int .i64 R, .int .i64 C, hv]) (rd_loadXs (ds := [.int .i64 R, .int .i64 C, hv]) hS 4 rfl rfl rfl rfl Try.isAgg24 Try.sizeOf24) rfl ?_
    refine Wx.rd (v := .int .i64 k) (rd_loadX hS 1 rfl rfl rfl Try.isAgg3) rfl ?_
    refine Wx.callB (run_callF Try.call73 rfl) (F73 hS (hS.arg a_hv)) rfl ?_
    rintro r_26 w_27 ⟨gn_28, gs_29, rfl, hS⟩
    refine Wx.nil ?_
    refine WD.block ?_
    have hS := hS.add (hS.arg a_hv)
    have hS := hS.front 7 rfl
    have hS := hS.front 7 rfl
    have hS := hS.front 7 rfl
    have hS := hS.front 7 rfl
    have hS := hS.front 7 rfl
    have hS := hS.front 5 rfl
    have hS := hS.front 7 rfl
    have hS := hS.front 7 rfl
    have hS : St _ _ w_27 (.box gn_28 3 [.int .i64 k] :: .box gs_29 24 [.int .i64 R, .int .i64 C, hv] :: Ob.v (tSl (tI .i64)) H hv :: .box g_18 3 [.int .i64 (ix 0 H k)] :: .box g_14 3 [.int .i64 k] :: .row (tP (tP (tI .i64) (tI .i64)) (tI .i64)) 105 jv out :: .box g_5 101 [jv] :: .box g_1 24 [.int .i64 R, .int .i64 C, hv] :: DOb Ds) := hS
    refine WD.range (ob := [.box g_18 3 [.int .i64 (ix 0 H k)], .box g_14 3 [.int .i64 k], .row (tP (tP (tI .i64) (tI .i64)) (tI .i64)) 105 jv out, .box g_5 101 [jv], .box g_1 24 [.int .i64 R, .int .i64 C, hv]]) (nbW C H.length k) (fun ls ob => ∃ (jv2 : Value) (out2 : List ((Int × Int) × Int)), (out2 = out ++ (ls).flatMap (jF H k)) ∧ ((out2.length : Int) ≤ out.length + (ls).length) ∧ ob = [.box g_18 3 [.int .i64 (ix 0 H k)], .box g_14 3 [.int .i64 k], .row (tP (tP (tI .i64) (tI .i64)) (tI .i64)) 105 jv2 out2, .box g_5 101 [jv2], .box g_1 24 [.int .i64 R, .int .i64 C, hv]]) (fun _ _ _ => False) [] rfl Try.call85 rfl rfl (iter85 p_ok ⟨h0, c0⟩) hS ⟨jv, out, (by simp), (by simp), rfl⟩ ?_ ?_ ?_
    · -- a round
      rintro ls m pre_34 _ w_33 hpx ⟨jv2, out2, m1, m2, rfl⟩ hS
      have hm := mem_nbW.1 (mem_pre hpx)
      have hm0 : 0 ≤ m ∧ m ≤ (H.length : Int) := by rcases hm with ⟨q, _⟩ | q <;> omega
      have hls := pre_len c1_ hpx
      refine W.block ?_
      refine W.block ?_
      refine W.seq ?_
      refine W.reg ?_
      refine Wx.rd (v := .int .i64 m) (rd_move rfl) rfl ?_
      refine Wx.rd (v := .agg #[.int .i64 R, .int .i64 C, hv]) (rd_loadXs (ds := [.int .i64 R, .int .i64 C, hv]) hS 4 rfl rfl rfl rfl Try.isAgg24 Try.sizeOf24) rfl ?_
      refine Wx.callF (run_callF Try.call56 rfl) (F56 i_R i_C (hS.arg a_hv)) rfl ?_
      rintro r_35 w_36 hx_37 rfl
      have hS := hS.ext hx_37
      refine Wx.rd (v := .bool (decide (m = (H.length : Int)))) (rd_eql rfl rfl) rfl ?_
      refine Wx.rd (v := .bool (decide (m = (H.length : Int)))) (rd_assign rfl) rfl ?_
      refine Wx.nil ?_
      refine W.condD rfl (fun c1 => ?_) (fun c1 => ?_)
      · -- yes
        refine W.reg ?_
        refine Wx.rd (v := jv2) (rd_loadX hS 3 rfl rfl rfl Try.isAgg101) rfl ?_
        refine Wx.rd (v := .int .i64 k) (rd_loadX hS 1 rfl rfl rfl Try.isAgg3) rfl ?_
        refine Wx.rd (v := .int .i64 m) (rd_move rfl) rfl ?_
        refine Wx.rd (v := .agg #[.int .i64 k, .int .i64 m]) (rd_build (vs := [(0, .int .i64 k), (1, .int .i64 m)]) rfl (by kernel_rfl)) rfl ?_
        refine Wx.rd (v := .int .i64 (ix 0 H k)) (rd_loadX hS 0 rfl rfl rfl Try.isAgg3) rfl ?_
        refine Wx.rd (v := .agg #[.int .i64 k, .int .i64 m, .int .i64 (ix 0 H k)]) (rd_build (vs := [(0, .agg #[.int .i64 k, .int .i64 m]), (1, .int .i64 (ix 0 H k))]) rfl (by kernel_rfl)) rfl ?_
        refine Wx.lit (t := (tP (tP (tI .i64) (tI .i64)) (tI .i64))) (ys := [((k, m), ix 0 H k)]) (vs := [.agg #[.int .i64 k, .int .i64 m, .int .i64 (ix 0 H k)]]) elLm_101 hS rfl rfl ⟨(V.mk3 (in_i64 (by omega) (by omega)) (in_i64 (by omega) (by omega)) (in_i64 (by omega) (by omega))), trivial⟩ (by decide) rfl (fun v_38 w_39 hx_40 hS => ?_)
        refine Wx.append elLm_101 hS 3 rfl rfl rfl (Src.ofR hS 0 rfl) (by simp only [maxLen]; first | omega | (simp; omega) | simp) (by first | omega | (simp; omega) | simp) rfl (fun v_41 w_42 hz_43 hS => ?_)
        refine Wx.storeX (cs' := [v_41]) (ds := [v_41]) hS 4 rfl rfl rfl (Go.Wk.cells_one (hS.rowOne 3 rfl)) Try.sizeOf101 (Nat.le_of_ble_eq_true rfl) (one_cons (hS.rowOne 3 rfl) one_nil) rfl (fun w_44 hz_45 hS => ?_)
        refine Wx.nil ?_
        have hS := hS.drop 0
        have hS := hS.front 4 rfl
        have hS := hS.front 4 rfl
        have hS := hS.front 4 rfl
        have hS := hS.front 4 rfl
        have hS := hS.front 4 rfl
        have hS : St _ _ w_44 (.box g_18 3 [.int .i64 (ix 0 H k)] :: .box g_14 3 [.int .i64 k] :: .row (tP (tP (tI .i64) (tI .i64)) (tI .i64)) 105 v_41 (out2 ++ [((k, m), ix 0 H k)]) :: .box g_5 101 [v_41] :: .box g_1 24 [.int .i64 R, .int .i64 C, hv] :: pre_34) := hS
        exact ⟨_, ⟨v_41, out2 ++ [((k, m), ix 0 H k)], (by rw [m1]; exact jf_add (jf_river c1)), (by simp only [List.length_append, List.length_cons, List.length_nil]; omega), rfl⟩, hS⟩
      · -- no
        refine W.seq ?_
        refine W.reg ?_
        refine Wx.rd (v := .int .i64 k) (rd_loadX hS 1 rfl rfl rfl Try.isAgg3) rfl ?_
        refine Wx.rd (v := .int .i64 m) (rd_move rfl) rfl ?_
        refine Wx.rd (v := .bool (decide (k < m))) (rd_lss rfl rfl) rfl ?_
        refine Wx.rd (v := .bool (decide (k < m))) (rd_assign rfl) rfl ?_
        refine Wx.nil ?_
        refine W.condD rfl (fun c2 => ?_) (fun c2 => ?_)
        · -- yes
          have ham := p_ok.at hm0.1 (show m < H.length by omega)
          refine W.cutK [36, 37, 38, 39, 40, 41, 42, 43, 44, 45, 46, 47, 48, 49] (fun x : Value × (List ((Int × Int) × Int)) => match x with | (jv3, out3) => []) (fun (x : Value × (List ((Int × Int) × Int))) w' => match x with | (jv3, out3) => St w O w' (.box g_18 3 [.int .i64 (ix 0 H k)] :: .box g_14 3 [.int .i64 k] :: .row (tP (tP (tI .i64) (tI .i64)) (tI .i64)) 105 jv3 out3 :: .box g_5 101 [jv3] :: .box g_1 24 [.int .i64 R, .int .i64 C, hv] :: pre_34) ∧ out3 = out2 ++ [((k, m), max (ix 0 H k) (ix 0 H m))]) ?_ ?_
          · -- up to the cut
            refine W.regZ (fun _ w' => St w O w' [.box g_18 3 [.int .i64 (ix 0 H k)], .box g_14 3 [.int .i64 k]]) mixedLm_ (fun w_46 hx_47 => ?_)
            have hS := hS.ext hx_47
            refine Wz.rd (v := .int .i64 k) 1 rfl (by kernel_rfl) (St.sub hS (List.Sublist.cons_cons _ (List.Sublist.cons_cons _ (.cons _ (.cons _ (.cons _ (List.nil_sublist _))))))) (fun _ hS => (rd_loadX hS 1 rfl rfl rfl Try.isAgg3)) rfl ?_
            refine Wz.rd (v := .int .i64 m) 2 rfl (by kernel_rfl) (St.sub hS (List.Sublist.cons_cons _ (List.Sublist.cons_cons _ (.cons _ (.cons _ (.cons _ (List.nil_sublist _))))))) (fun _ hS => (rd_move rfl)) rfl ?_
            refine Wz.rd (v := .agg #[.int .i64 k, .int .i64 m]) 3 rfl (by kernel_rfl) (St.sub hS (List.Sublist.cons_cons _ (List.Sublist.cons_cons _ (.cons _ (.cons _ (.cons _ (List.nil_sublist _))))))) (fun _ hS => (rd_build (vs := [(0, .int .i64 k), (1, .int .i64 m)]) rfl (by kernel_rfl))) rfl ?_
            refine Wz.rd (v := .int .i64 (ix 0 H k)) 4 rfl (by kernel_rfl) (St.sub hS (List.Sublist.cons_cons _ (List.Sublist.cons_cons _ (.cons _ (.cons _ (.cons _ (List.nil_sublist _))))))) (fun _ hS => (rd_loadX hS 0 rfl rfl rfl Try.isAgg3)) rfl ?_
            refine Wz.rd (v := .pointer (some ⟨g_1, 2, none⟩)) 5 rfl (by kernel_rfl) (St.sub hS (List.Sublist.cons_cons _ (List.Sublist.cons_cons _ (.cons _ (.cons _ (.cons _ (List.nil_sublist _))))))) (fun _ hS => (rd_fieldAddr rfl foLm_24_2)) rfl ?_
            refine Wz.rd (v := .int .i64 m) 7 rfl (by kernel_rfl) (St.sub hS (List.Sublist.cons_cons _ (List.Sublist.cons_cons _ (.cons _ (.cons _ (.cons _ (List.nil_sublist _))))))) (fun _ hS => (rd_move rfl)) rfl ?_
            refine Wz.br [0, 6] (by kernel_rfl) (by decide) ⟨⟨_, rfl, ?_⟩, ⟨_, rfl, ?_⟩, trivial⟩
            · -- operation 0
              refine Wx.rd (v := jv2) (rd_loadX hS 3 rfl rfl rfl Try.isAgg101) rfl ?_
              refine Wx.nil ⟨(St.sub hS (List.Sublist.cons_cons _ (List.Sublist.cons_cons _ (.cons _ (.cons _ (.cons _ (List.nil_sublist _))))))), ?_⟩
              refine Wz.br [6] (by kernel_rfl) (by decide) ⟨⟨_, rfl, ?_⟩, trivial⟩
              refine Wx.rd (v := hv) (rd_loadX hS 4 rfl rfl rfl Try.isAgg22) rfl ?_
              refine Wx.nil ⟨(St.sub hS (List.Sublist.cons_cons _ (List.Sublist.cons_cons _ (.cons _ (.cons _ (.cons _ (List.nil_sublist _))))))), ?_⟩
              refine Wz.br [8] (by kernel_rfl) (by decide) ⟨⟨_, rfl, ?_⟩, trivial⟩
              refine Wx.ex (rd_index 0 (hS.arg a_hv) rfl rfl Try.underlying22 Try.sizeOf3 (by first | omega | (simp only [List.length_set, List.length_append, List.length_cons, List.length_nil, List.length_replicate]; omega)) (by first | omega | (simp only [List.length_set, List.length_append, List.length_cons, List.length_nil, List.length_replicate]; omega))) rfl (fun p_48 hp_49 => ?_)
              refine Wx.nil ⟨(St.sub hS (List.Sublist.cons_cons _ (List.Sublist.cons_cons _ (.cons _ (.cons _ (.cons _ (List.nil_sublist _))))))), ?_⟩
              refine Wz.br [9] (by kernel_rfl) (by decide) ⟨⟨_, rfl, ?_⟩, trivial⟩
              refine Wx.rd (v := .int .i64 (ix 0 H m)) (rd_loadI hp_49 rfl Try.isAgg3 Try.sizeOf3) rfl ?_
              have bd_50 := bd_i64 hp_49.inK
              refine Wx.nil ⟨(St.sub hS (List.Sublist.cons_cons _ (List.Sublist.cons_cons _ (.cons _ (.cons _ (.cons _ (List.nil_sublist _))))))), ?_⟩
              refine Wz.rd (v := .int .i64 (max (ix 0 H k) (ix 0 H m))) 10 rfl (by kernel_rfl) (St.sub hS (List.Sublist.cons_cons _ (List.Sublist.cons_cons _ (.cons _ (.cons _ (.cons _ (List.nil_sublist _))))))) (fun _ hS => (rd_max rfl rfl)) rfl ?_
              refine Wz.rd (v := .agg #[.int .i64 k, .int .i64 m, .int .i64 (max (ix 0 H k) (ix 0 H m))]) 11 rfl (by kernel_rfl) (St.sub hS (List.Sublist.cons_cons _ (List.Sublist.cons_cons _ (.cons _ (.cons _ (.cons _ (List.nil_sublist _))))))) (fun _ hS => (rd_build (vs := [(0, .agg #[.int .i64 k, .int .i64 m]), (1, .int .i64 (max (ix 0 H k) (ix 0 H m)))]) rfl (by kernel_rfl))) rfl ?_
              refine Wz.br [12] (by kernel_rfl) (by decide) ⟨⟨_, rfl, ?_⟩, trivial⟩
              refine Wx.lit (t := (tP (tP (tI .i64) (tI .i64)) (tI .i64))) (ys := [((k, m), max (ix 0 H k) (ix 0 H m))]) (vs := [.agg #[.int .i64 k, .int .i64 m, .int .i64 (max (ix 0 H k) (ix 0 H m))]]) elLm_101 hS rfl rfl ⟨(V.mk3 (in_i64 (by omega) (by omega)) (in_i64 (by omega) (by omega)) (in_i64 (by omega) (by omega))), trivial⟩ (by decide) rfl (fun v_51 w_52 hx_53 hS => ?_)
              refine Wx.nil ⟨(St.sub hS (.cons _ (List.Sublist.cons_cons _ (List.Sublist.cons_cons _ (.cons _ (.cons _ (.cons _ (List.nil_sublist _)))))))), ?_⟩
              refine Wz.br [13] (by kernel_rfl) (by decide) ⟨⟨_, rfl, ?_⟩, trivial⟩
              refine Wx.append elLm_101 hS 3 rfl rfl rfl (Src.ofR hS 0 rfl) (by simp only [maxLen]; first | omega | (simp; omega) | simp) (by first | omega | (simp; omega) | simp) rfl (fun v_54 w_55 hz_56 hS => ?_)
              refine Wx.nil ⟨(St.sub hS (.cons _ (List.Sublist.cons_cons _ (List.Sublist.cons_cons _ (.cons _ (.cons _ (.cons _ (List.nil_sublist _)))))))), ?_⟩
              refine Wz.br [14] (by kernel_rfl) (by decide) ⟨⟨_, rfl, ?_⟩, trivial⟩
              refine Wx.storeX (cs' := [v_54]) (ds := [v_54]) hS 4 rfl rfl rfl (Go.Wk.cells_one (hS.rowOne 3 rfl)) Try.sizeOf101 (Nat.le_of_ble_eq_true rfl) (one_cons (hS.rowOne 3 rfl) one_nil) rfl (fun w_57 hz_58 hS => ?_)
              refine Wx.nil ⟨(St.sub hS (.cons _ (List.Sublist.cons_cons _ (List.Sublist.cons_cons _ (.cons _ (.cons _ (.cons _ (List.nil_sublist _)))))))), ?_⟩
              refine Wz.done (by kernel_rfl) ?_
              refine ⟨(v_54, out2 ++ [((k, m), max (ix 0 H k) (ix 0 H m))]), ?_, ?_, Out.look rfl Out.refl⟩
              · exact ⟨hS.tl, (rfl)⟩
              · exact trivial
            · -- operation 6
              refine Wx.rd (v := hv) (rd_loadX hS 4 rfl rfl rfl Try.isAgg22) rfl ?_
              refine Wx.nil ⟨(St.sub hS (List.Sublist.cons_cons _ (List.Sublist.cons_cons _ (.cons _ (.cons _ (.cons _ (List.nil_sublist _))))))), ?_⟩
              refine Wz.br [0, 8] (by kernel_rfl) (by decide) ⟨⟨_, rfl, ?_⟩, ⟨_, rfl, ?_⟩, trivial⟩
              · -- operation 0
                refine Wx.rd (v := jv2) (rd_loadX hS 3 rfl rfl rfl Try.isAgg101) rfl ?_
                refine Wx.nil ⟨(St.sub hS (List.Sublist.cons_cons _ (List.Sublist.cons_cons _ (.cons _ (.cons _ (.cons _ (List.nil_sublist _))))))), ?_⟩
                refine Wz.br [8] (by kernel_rfl) (by decide) ⟨⟨_, rfl, ?_⟩, trivial⟩
                refine Wx.ex (rd_index 0 (hS.arg a_hv) rfl rfl Try.underlying22 Try.sizeOf3 (by first | omega | (simp only [List.length_set, List.length_append, List.length_cons, List.length_nil, List.length_replicate]; omega)) (by first | omega | (simp only [List.length_set, List.length_append, List.length_cons, List.length_nil, List.length_replicate]; omega))) rfl (fun p_59 hp_60 => ?_)
                refine Wx.nil ⟨(St.sub hS (List.Sublist.cons_cons _ (List.Sublist.cons_cons _ (.cons _ (.cons _ (.cons _ (List.nil_sublist _))))))), ?_⟩
                refine Wz.br [9] (by kernel_rfl) (by decide) ⟨⟨_, rfl, ?_⟩, trivial⟩
                refine Wx.rd (v := .int .i64 (ix 0 H m)) (rd_loadI hp_60 rfl Try.isAgg3 Try.sizeOf3) rfl ?_
                have bd_61 := bd_i64 hp_60.inK
                refine Wx.nil ⟨(St.sub hS (List.Sublist.cons_cons _ (List.Sublist.cons_cons _ (.cons _ (.cons _ (.cons _ (List.nil_sublist _))))))), ?_⟩
                refine Wz.rd (v := .int .i64 (max (ix 0 H k) (ix 0 H m))) 10 rfl (by kernel_rfl) (St.sub hS (List.Sublist.cons_cons _ (List.Sublist.cons_cons _ (.cons _ (.cons _ (.cons _ (List.nil_sublist _))))))) (fun _ hS => (rd_max rfl rfl)) rfl ?_
                refine Wz.rd (v := .agg #[.int .i64 k, .int .i64 m, .int .i64 (max (ix 0 H k) (ix 0 H m))]) 11 rfl (by kernel_rfl) (St.sub hS (List.Sublist.cons_cons _ (List.Sublist.cons_cons _ (.cons _ (.cons _ (.cons _ (List.nil_sublist _))))))) (fun _ hS => (rd_build (vs := [(0, .agg #[.int .i64 k, .int .i64 m]), (1, .int .i64 (max (ix 0 H k) (ix 0 H m)))]) rfl (by kernel_rfl))) rfl ?_
                refine Wz.br [12] (by kernel_rfl) (by decide) ⟨⟨_, rfl, ?_⟩, trivial⟩
                refine Wx.lit (t := (tP (tP (tI .i64) (tI .i64)) (tI .i64))) (ys := [((k, m), max (ix 0 H k) (ix 0 H m))]) (vs := [.agg #[.int .i64 k, .int .i64 m, .int .i64 (max (ix 0 H k) (ix 0 H m))]]) elLm_101 hS rfl rfl ⟨(V.mk3 (in_i64 (by omega) (by omega)) (in_i64 (by omega) (by omega)) (in_i64 (by omega) (by omega))), trivial⟩ (by decide) rfl (fun v_62 w_63 hx_64 hS => ?_)
                refine Wx.nil ⟨(St.sub hS (.cons _ (List.Sublist.cons_cons _ (List.Sublist.cons_cons _ (.cons _ (.cons _ (.cons _ (List.nil_sublist _)))))))), ?_⟩
                refine Wz.br [13] (by kernel_rfl) (by decide) ⟨⟨_, rfl, ?_⟩, trivial⟩
                refine Wx.append elLm_101 hS 3 rfl rfl rfl (Src.ofR hS 0 rfl) (by simp only [maxLen]; first | omega | (simp; omega) | simp) (by first | omega | (simp; omega) | simp) rfl (fun v_65 w_66 hz_67 hS => ?_)
                refine Wx.nil ⟨(St.sub hS (.cons _ (List.Sublist.cons_cons _ (List.Sublist.cons_cons _ (.cons _ (.cons _ (.cons _ (List.nil_sublist _)))))))), ?_⟩
                refine Wz.br [14] (by kernel_rfl) (by decide) ⟨⟨_, rfl, ?_⟩, trivial⟩
                refine Wx.storeX (cs' := [v_65]) (ds := [v_65]) hS 4 rfl rfl rfl (Go.Wk.cells_one (hS.rowOne 3 rfl)) Try.sizeOf101 (Nat.le_of_ble_eq_true rfl) (one_cons (hS.rowOne 3 rfl) one_nil) rfl (fun w_68 hz_69 hS => ?_)
                refine Wx.nil ⟨(St.sub hS (.cons _ (List.Sublist.cons_cons _ (List.Sublist.cons_cons _ (.cons _ (.cons _ (.cons _ (List.nil_sublist _)))))))), ?_⟩
                refine Wz.done (by kernel_rfl) ?_
                refine ⟨(v_65, out2 ++ [((k, m), max (ix 0 H k) (ix 0 H m))]), ?_, ?_, Out.look rfl Out.refl⟩
                · exact ⟨hS.tl, (rfl)⟩
                · exact trivial
              · -- operation 8
                refine Wx.ex (rd_index 0 (hS.arg a_hv) rfl rfl Try.underlying22 Try.sizeOf3 (by first | omega | (simp only [List.length_set, List.length_append, List.length_cons, List.length_nil, List.length_replicate]; omega)) (by first | omega | (simp only [List.length_set, List.length_append, List.length_cons, List.length_nil, List.length_replicate]; omega))) rfl (fun p_70 hp_71 => ?_)
                refine Wx.nil ⟨(St.sub hS (List.Sublist.cons_cons _ (List.Sublist.cons_cons _ (.cons _ (.cons _ (.cons _ (List.nil_sublist _))))))), ?_⟩
                refine Wz.br [0, 9] (by kernel_rfl) (by decide) ⟨⟨_, rfl, ?_⟩, ⟨_, rfl, ?_⟩, trivial⟩
                · -- operation 0
                  refine Wx.rd (v := jv2) (rd_loadX hS 3 rfl rfl rfl Try.isAgg101) rfl ?_
                  refine Wx.nil ⟨(St.sub hS (List.Sublist.cons_cons _ (List.Sublist.cons_cons _ (.cons _ (.cons _ (.cons _ (List.nil_sublist _))))))), ?_⟩
                  refine Wz.br [9] (by kernel_rfl) (by decide) ⟨⟨_, rfl, ?_⟩, trivial⟩
                  refine Wx.rd (v := .int .i64 (ix 0 H m)) (rd_loadI hp_71 rfl Try.isAgg3 Try.sizeOf3) rfl ?_
                  have bd_72 := bd_i64 hp_71.inK
                  refine Wx.nil ⟨(St.sub hS (List.Sublist.cons_cons _ (List.Sublist.cons_cons _ (.cons _ (.cons _ (.cons _ (List.nil_sublist _))))))), ?_⟩
                  refine Wz.rd (v := .int .i64 (max (ix 0 H k) (ix 0 H m))) 10 rfl (by kernel_rfl) (St.sub hS (List.Sublist.cons_cons _ (List.Sublist.cons_cons _ (.cons _ (.cons _ (.cons _ (List.nil_sublist _))))))) (fun _ hS => (rd_max rfl rfl)) rfl ?_
                  refine Wz.rd (v := .agg #[.int .i64 k, .int .i64 m, .int .i64 (max (ix 0 H k) (ix 0 H m))]) 11 rfl (by kernel_rfl) (St.sub hS (List.Sublist.cons_cons _ (List.Sublist.cons_cons _ (.cons _ (.cons _ (.cons _ (List.nil_sublist _))))))) (fun _ hS => (rd_build (vs := [(0, .agg #[.int .i64 k, .int .i64 m]), (1, .int .i64 (max (ix 0 H k) (ix 0 H m)))]) rfl (by kernel_rfl))) rfl ?_
                  refine Wz.br [12] (by kernel_rfl) (by decide) ⟨⟨_, rfl, ?_⟩, trivial⟩
                  refine Wx.lit (t := (tP (tP (tI .i64) (tI .i64)) (tI .i64))) (ys := [((k, m), max (ix 0 H k) (ix 0 H m))]) (vs := [.agg #[.int .i64 k, .int .i64 m, .int .i64 (max (ix 0 H k) (ix 0 H m))]]) elLm_101 hS rfl rfl ⟨(V.mk3 (in_i64 (by omega) (by omega)) (in_i64 (by omega) (by omega)) (in_i64 (by omega) (by omega))), trivial⟩ (by decide) rfl (fun v_73 w_74 hx_75 hS => ?_)
                  refine Wx.nil ⟨(St.sub hS (.cons _ (List.Sublist.cons_cons _ (List.Sublist.cons_cons _ (.cons _ (.cons _ (.cons _ (List.nil_sublist _)))))))), ?_⟩
                  refine Wz.br [13] (by kernel_rfl) (by decide) ⟨⟨_, rfl, ?_⟩, trivial⟩
                  refine Wx.append elLm_101 hS 3 rfl rfl rfl (Src.ofR hS 0 rfl) (by simp only [maxLen]; first | omega | (simp; omega) | simp) (by first | omega | (simp; omega) | simp) rfl (fun v_76 w_77 hz_78 hS => ?_)
                  refine Wx.nil ⟨(St.sub hS (.cons _ (List.Sublist.cons_cons _ (List.Sublist.cons_cons _ (.cons _ (.cons _ (.cons _ (List.nil_sublist _)))))))), ?_⟩
                  refine Wz.br [14] (by kernel_rfl) (by decide) ⟨⟨_, rfl, ?_⟩, trivial⟩
                  refine Wx.storeX (cs' := [v_76]) (ds := [v_76]) hS 4 rfl rfl rfl (Go.Wk.cells_one (hS.rowOne 3 rfl)) Try.sizeOf101 (Nat.le_of_ble_eq_true rfl) (one_cons (hS.rowOne 3 rfl) one_nil) rfl (fun w_79 hz_80 hS => ?_)
                  refine Wx.nil ⟨(St.sub hS (.cons _ (List.Sublist.cons_cons _ (List.Sublist.cons_cons _ (.cons _ (.cons _ (.cons _ (List.nil_sublist _)))))))), ?_⟩
                  refine Wz.done (by kernel_rfl) ?_
                  refine ⟨(v_76, out2 ++ [((k, m), max (ix 0 H k) (ix 0 H m))]), ?_, ?_, Out.look rfl Out.refl⟩
                  · exact ⟨hS.tl, (rfl)⟩
                  · exact trivial
                · -- operation 9
                  refine Wx.rd (v := .int .i64 (ix 0 H m)) (rd_loadI hp_71 rfl Try.isAgg3 Try.sizeOf3) rfl ?_
                  have bd_81 := bd_i64 hp_71.inK
                  refine Wx.nil ⟨(St.sub hS (List.Sublist.cons_cons _ (List.Sublist.cons_cons _ (.cons _ (.cons _ (.cons _ (List.nil_sublist _))))))), ?_⟩
                  refine Wz.rd (v := .int .i64 (max (ix 0 H k) (ix 0 H m))) 10 rfl (by kernel_rfl) (St.sub hS (List.Sublist.cons_cons _ (List.Sublist.cons_cons _ (.cons _ (.cons _ (.cons _ (List.nil_sublist _))))))) (fun _ hS => (rd_max rfl rfl)) rfl ?_
                  refine Wz.rd (v := .agg #[.int .i64 k, .int .i64 m, .int .i64 (max (ix 0 H k) (ix 0 H m))]) 11 rfl (by kernel_rfl) (St.sub hS (List.Sublist.cons_cons _ (List.Sublist.cons_cons _ (.cons _ (.cons _ (.cons _ (List.nil_sublist _))))))) (fun _ hS => (rd_build (vs := [(0, .agg #[.int .i64 k, .int .i64 m]), (1, .int .i64 (max (ix 0 H k) (ix 0 H m)))]) rfl (by kernel_rfl))) rfl ?_
                  refine Wz.br [0, 12] (by kernel_rfl) (by decide) ⟨⟨_, rfl, ?_⟩, ⟨_, rfl, ?_⟩, trivial⟩
                  · -- operation 0
                    refine Wx.rd (v := jv2) (rd_loadX hS 3 rfl rfl rfl Try.isAgg101) rfl ?_
                    refine Wx.nil ⟨(St.sub hS (List.Sublist.cons_cons _ (List.Sublist.cons_cons _ (.cons _ (.cons _ (.cons _ (List.nil_sublist _))))))), ?_⟩
                    refine Wz.br [12] (by kernel_rfl) (by decide) ⟨⟨_, rfl, ?_⟩, trivial⟩
                    refine Wx.lit (t := (tP (tP (tI .i64) (tI .i64)) (tI .i64))) (ys := [((k, m), max (ix 0 H k) (ix 0 H m))]) (vs := [.agg #[.int .i64 k, .int .i64 m, .int .i64 (max (ix 0 H k) (ix 0 H m))]]) elLm_101 hS rfl rfl ⟨(V.mk3 (in_i64 (by omega) (by omega)) (in_i64 (by omega) (by omega)) (in_i64 (by omega) (by omega))), trivial⟩ (by decide) rfl (fun v_82 w_83 hx_84 hS => ?_)
                    refine Wx.nil ⟨(St.sub hS (.cons _ (List.Sublist.cons_cons _ (List.Sublist.cons_cons _ (.cons _ (.cons _ (.cons _ (List.nil_sublist _)))))))), ?_⟩
                    refine Wz.br [13] (by kernel_rfl) (by decide) ⟨⟨_, rfl, ?_⟩, trivial⟩
                    refine Wx.append elLm_101 hS 3 rfl rfl rfl (Src.ofR hS 0 rfl) (by simp only [maxLen]; first | omega | (simp; omega) | simp) (by first | omega | (simp; omega) | simp) rfl (fun v_85 w_86 hz_87 hS => ?_)
                    refine Wx.nil ⟨(St.sub hS (.cons _ (List.Sublist.cons_cons _ (List.Sublist.cons_cons _ (.cons _ (.cons _ (.cons _ (List.nil_sublist _)))))))), ?_⟩
                    refine Wz.br [14] (by kernel_rfl) (by decide) ⟨⟨_, rfl, ?_⟩, trivial⟩
                    refine Wx.storeX (cs' := [v_85]) (ds := [v_85]) hS 4 rfl rfl rfl (Go.Wk.cells_one (hS.rowOne 3 rfl)) Try.sizeOf101 (Nat.le_of_ble_eq_true rfl) (one_cons (hS.rowOne 3 rfl) one_nil) rfl (fun w_88 hz_89 hS => ?_)
                    refine Wx.nil ⟨(St.sub hS (.cons _ (List.Sublist.cons_cons _ (List.Sublist.cons_cons _ (.cons _ (.cons _ (.cons _ (List.nil_sublist _)))))))), ?_⟩
                    refine Wz.done (by kernel_rfl) ?_
                    refine ⟨(v_85, out2 ++ [((k, m), max (ix 0 H k) (ix 0 H m))]), ?_, ?_, Out.look rfl Out.refl⟩
                    · exact ⟨hS.tl, (rfl)⟩
                    · exact trivial
                  · -- operation 12
                    refine Wx.lit (t := (tP (tP (tI .i64) (tI .i64)) (tI .i64))) (ys := [((k, m), max (ix 0 H k) (ix 0 H m))]) (vs := [.agg #[.int .i64 k, .int .i64 m, .int .i64 (max (ix 0 H k) (ix 0 H m))]]) elLm_101 hS rfl rfl ⟨(V.mk3 (in_i64 (by omega) (by omega)) (in_i64 (by omega) (by omega)) (in_i64 (by omega) (by omega))), trivial⟩ (by decide) rfl (fun v_90 w_91 hx_92 hS => ?_)
                    refine Wx.nil ⟨(St.sub hS (.cons _ (List.Sublist.cons_cons _ (List.Sublist.cons_cons _ (.cons _ (.cons _ (.cons _ (List.nil_sublist _)))))))), ?_⟩
                    refine Wz.br [0] (by kernel_rfl) (by decide) ⟨⟨_, rfl, ?_⟩, trivial⟩
                    refine Wx.rd (v := jv2) (rd_loadX hS 4 rfl rfl rfl Try.isAgg101) rfl ?_
                    refine Wx.nil ⟨(St.sub hS (.cons _ (List.Sublist.cons_cons _ (List.Sublist.cons_cons _ (.cons _ (.cons _ (.cons _ (List.nil_sublist _)))))))), ?_⟩
                    refine Wz.br [13] (by kernel_rfl) (by decide) ⟨⟨_, rfl, ?_⟩, trivial⟩
                    refine Wx.append elLm_101 hS 3 rfl rfl rfl (Src.ofR hS 0 rfl) (by simp only [maxLen]; first | omega | (simp; omega) | simp) (by first | omega | (simp; omega) | simp) rfl (fun v_93 w_94 hz_95 hS => ?_)
                    refine Wx.nil ⟨(St.sub hS (.cons _ (List.Sublist.cons_cons _ (List.Sublist.cons_cons _ (.cons _ (.cons _ (.cons _ (List.nil_sublist _)))))))), ?_⟩
                    refine Wz.br [14] (by kernel_rfl) (by decide) ⟨⟨_, rfl, ?_⟩, trivial⟩
                    refine Wx.storeX (cs' := [v_93]) (ds := [v_93]) hS 4 rfl rfl rfl (Go.Wk.cells_one (hS.rowOne 3 rfl)) Try.sizeOf101 (Nat.le_of_ble_eq_true rfl) (one_cons (hS.rowOne 3 rfl) one_nil) rfl (fun w_96 hz_97 hS => ?_)
                    refine Wx.nil ⟨(St.sub hS (.cons _ (List.Sublist.cons_cons _ (List.Sublist.cons_cons _ (.cons _ (.cons _ (.cons _ (List.nil_sublist _)))))))), ?_⟩
                    refine Wz.done (by kernel_rfl) ?_
                    refine ⟨(v_93, out2 ++ [((k, m), max (ix 0 H k) (ix 0 H m))]), ?_, ?_, Out.look rfl Out.refl⟩
                    · exact ⟨hS.tl, (rfl)⟩
                    · exact trivial
          rintro ⟨jv3, out3⟩ u_99 w_98 ⟨hS, e3⟩
          have hS := hS.front 4 rfl
          have hS := hS.front 4 rfl
          have hS := hS.front 4 rfl
          have hS := hS.front 4 rfl
          have hS := hS.front 4 rfl
          have hS : St _ _ w_98 (.box g_18 3 [.int .i64 (ix 0 H k)] :: .box g_14 3 [.int .i64 k] :: .row (tP (tP (tI .i64) (tI .i64)) (tI .i64)) 105 jv3 out3 :: .box g_5 101 [jv3] :: .box g_1 24 [.int .i64 R, .int .i64 C, hv] :: pre_34) := hS
          exact ⟨_, ⟨jv3, out3, (by rw [e3, m1]; exact jf_add (jf_step c1 c2)), (by rw [e3]; simp only [List.length_append, List.length_cons, List.length_nil]; omega), rfl⟩, hS⟩
        · -- no
          refine W.skip ?_
          have hS := hS.front 4 rfl
          have hS := hS.front 4 rfl
          have hS := hS.front 4 rfl
          have hS := hS.front 4 rfl
          have hS := hS.front 4 rfl
          have hS : St _ _ w_36 (.box g_18 3 [.int .i64 (ix 0 H k)] :: .box g_14 3 [.int .i64 k] :: .row (tP (tP (tI .i64) (tI .i64)) (tI .i64)) 105 jv2 out2 :: .box g_5 101 [jv2] :: .box g_1 24 [.int .i64 R, .int .i64 C, hv] :: pre_34) := hS
          exact ⟨_, ⟨jv2, out2, (by rw [m1]; have hj := jf_add (out := out) (ls := ls) (jf_none c1 c2); rw [List.append_nil] at hj; exact hj), (by simp only [List.length_append, List.length_cons, List.length_nil]; omega), rfl⟩, hS⟩
    · -- all have come
      rintro _ D_100 w_101 ⟨jv2, out2, m1, m2, rfl⟩ hS
      have hS : St _ _ w_101 (.box g_18 3 [.int .i64 (ix 0 H k)] :: .box g_14 3 [.int .i64 k] :: .row (tP (tP (tI .i64) (tI .i64)) (tI .i64)) 105 jv2 out2 :: .box g_5 101 [jv2] :: .box g_1 24 [.int .i64 R, .int .i64 C, hv] :: DOb (D_100 :: Ds)) := hS
      have hnl := nbw_len (H := H) (a := k) c1_
      refine WD.ofW ?_
      refine W.reg ?_
      refine Wx.rd (v := .int .i64 (k + 1)) (rd_add rfl rfl (in_i64 (by omega) (by omega))) rfl ?_
      refine Wx.rd (v := .int .i64 (k + 1)) (rd_move rfl) rfl ?_
      refine Wx.nil ?_
      refine ⟨(k + 1, jv2, out2, (D_100 :: Ds)), (by show (H.length - (k + 1)).toNat < (H.length - k).toNat; omega), rfl, ?_, ?_, Out.look rfl Out.self⟩
      · exact ⟨St.tl (hS.tl), (by first | omega | assumption), (by first | omega | assumption), (by rw [m1, h2, flat_snoc h0]; rfl), (by omega)⟩
      · exact ⟨rfl, trivial⟩
    · exact fun _ _ _ _ _ h => h.elim
  · -- no
    have hraw : out = jRawL C H := by rw [h2, show k = (H.length : Int) by omega]; rfl
    refine W.exit rfl ?_
    refine WD.ofW ?_
    refine W.seq ?_
    refine W.reg ?_
    refine Wx.rd (v := jv) (rd_loadX hS 1 rfl rfl rfl Try.isAgg101) rfl ?_
    refine Wx.callB (run_callF Try.call92 rfl) (X92 hS 0 rfl (by rw [hraw]; exact raw_pos c1_ n1) (by rw [hraw]; exact raw_bd p_ok.o n36) (by omega)) rfl ?_
    rintro r_102 w_103 ⟨ys_104, hsp, hss, hS⟩
    have hse : ys_104 = jTL C H := raw_sort p_ok.o (by rw [← hraw]; exact hsp) hss
    subst hse
    have hS : St _ _ w_103 (.row (tP (tP (tI .i64) (tI .i64)) (tI .i64)) 105 jv (jTL C H) :: .box g_5 101 [jv] :: .box g_1 24 [.int .i64 R, .int .i64 C, hv] :: DOb Ds) := hS
    refine Wx.nil ?_
    refine W.seq ?_
    refine W.reg ?_
    refine Wx.rd (v := jv) (rd_loadX hS 1 rfl rfl rfl Try.isAgg101) rfl ?_
    refine Wx.rd (v := jv) (rd_assign rfl) rfl ?_
    refine Wx.nil ?_
    have hS : St _ _ w_103 (.row (tP (tP (tI .i64) (tI .i64)) (tI .i64)) 105 jv (jTL C H) :: .box g_5 101 [jv] :: .box g_1 24 [.int .i64 R, .int .i64 C, hv] :: DOb Ds) := hS
    refine W.ret ⟨[.row (tP (tP (tI .i64) (tI .i64)) (tI .i64)) 105 jv (jTL C H), .box g_5 101 [jv], .box g_1 24 [.int .i64 R, .int .i64 C, hv]], hS, fun w_105 hS => ?_⟩
    exact ⟨jv, ResIs.one, hS.bel, ⟨jv, rfl, (hS.frO 0 rfl)⟩⟩
end Go.Proofs.Ytjhimoeodkaihaa

namespace Go.Proofs.Ytjhimoeodkaihaa
open Go.Wk Go.RowKit Go.Lib
set_option linter.unusedVariables false
set_option linter.unusedSimpArgs false
theorem foLn_24_2 : fldOff Try.prog 24 2 = some 2 := by kernel_rfl
theorem mixedLn_ : Try.prog.follows .mixedOrders = true := by kernel_rfl
theorem foLn_105_0 : fldOff Try.prog 105 0 = some 0 := by kernel_rfl
theorem elLn_101 : ElemI Try.prog 101 105 (.agg #[.int .i64 0, .int .i64 0, .int .i64 0]) 3 24 := ElemI.of Try.underlying101 (by kernel_rfl) (by first | rfl | kernel_rfl) (by decide)
theorem foLn_105_1 : fldOff Try.prog 105 1 = some 2 := by kernel_rfl

theorem F86 {n : Int} {gl : Nat} {ys : List Int} {mm : Nat} {w : World} (i_n : InK .i64 n) (x_gl : w.heap[gl]? = some (.cells (List.map (Value.int .i64) ys).toArray 83 (0, 0))) (p_u : UF mm ys) (p_m : mm ≤ 1000) (p_n : 0 ≤ n ∧ n < 37) : Calls Try.prog 86 #[.int .i64 n, .pointer (some ⟨gl, 0, none⟩)] w (Ret w (fun r _ => r = .int .i64 (topV ys n))) := by
  have b_n := bd_i64 i_n
  have hyl := p_u.len
  obtain ⟨rk, hrk⟩ := p_u.rk
  have hS := St.start0 w
  refine enterR Try.func86 rfl Try.ntmps86 Try.results86 rfl ?_
  refine W.seq ?_
  refine W.reg ?_
  refine Wx.rd (v := .int .i64 0) (rd_assign rfl) rfl ?_
  refine Wx.nil ?_
  refine W.seq ?_
  refine W.block ?_
  refine W.loop [0, 4, 5, 6, 7, 8, 9, 10, 11] (fun (x : Int) => [(0, .int .i64 x)]) (fun (x : Int) w' => St w [] w' [] ∧ (0 ≤ x ∧ x < 37) ∧ topV ys x = topV ys n) (fun (x : Int) => rk x) n ⟨rfl, trivial⟩ ⟨hS, (p_n), (rfl)⟩ ?_
  rintro x u_2 w_1 ⟨hS, h0, h1⟩
  refine W.seq ?_
  refine W.seq ?_
  refine W.reg ?_
  refine Wx.rd (v := .int .i64 x) (rd_move rfl) rfl ?_
  refine Wx.rd (v := .pointer (some ⟨gl, 0 + x.toNat * 1, none⟩)) (rd_indexArr (o := 0) rfl rfl Try.underlying83 Try.sizeOf3 (by omega) (by omega)) rfl ?_
  refine Wx.rd (v := .int .i64 (ix 0 ys x)) (rd_loadOA x_gl hS.bel rfl (by omega) (by omega) Try.isAgg3) rfl ?_
  refine Wx.rd (v := .int .i64 x) (rd_move rfl) rfl ?_
  refine Wx.rd (v := .bool (decide ((ix 0 ys x) ≠ x))) (rd_neq rfl rfl) rfl ?_
  refine Wx.nil ?_
  refine W.condD rfl (fun c0 => ?_) (fun c0 => ?_)
  · -- yes
    refine W.skip ?_
    refine W.block ?_
    refine W.reg ?_
    refine Wx.rd (v := .int .i64 x) (rd_move rfl) rfl ?_
    refine Wx.rd (v := .pointer (some ⟨gl, 0 + x.toNat * 1, none⟩)) (rd_indexArr (o := 0) rfl rfl Try.underlying83 Try.sizeOf3 (by omega) (by omega)) rfl ?_
    refine Wx.rd (v := .int .i64 (ix 0 ys x)) (rd_loadOA x_gl hS.bel rfl (by omega) (by omega) Try.isAgg3) rfl ?_
    refine Wx.rd (v := .int .i64 (ix 0 ys x)) (rd_assign rfl) rfl ?_
    refine Wx.nil ?_
    refine ⟨ix 0 ys x, (by show rk (ix 0 ys x) < rk x; exact (hrk x h0).2.2 c0), ?_, ?_, Out.look rfl Out.self⟩
    · exact ⟨hS, (p_u.rng x h0), (by rw [top_step p_u p_m h0]; exact h1)⟩
    · exact ⟨rfl, trivial⟩
  · -- no
    refine W.exit rfl ?_
    refine W.seq ?_
    refine W.reg ?_
    refine Wx.rd (v := .int .i64 x) (rd_move rfl) rfl ?_
    refine Wx.rd (v := .int .i64 x) (rd_assign rfl) rfl ?_
    refine Wx.nil ?_
    have e0_0 : (topV ys n) = (x : Int) := by rw [← h1]; exact top_self p_u p_m h0 (by omega)
    exact W.ret ⟨.int .i64 x, ResIs.one, hS.bel, (by rw [e0_0])⟩

set_option maxHeartbeats 4000000 in
theorem F78 {R : Int} {C : Int} {hv : Value} {H : List Int} {a : Int} {b : Int} {O : List (Option Nat)} {w : World} (i_R : InK .i64 R) (i_C : InK .i64 C) (h_hv : V (tSl (tI .i64)) H hv O w) (i_a : InK .i64 a) (i_b : InK .i64 b) (p_ok : SOK R C H) (p_a : 0 ≤ a ∧ a ≤ (H.length : Int)) (p_b : 0 ≤ b ∧ b ≤ (H.length : Int)) (hO : ∀ b, some b ∈ O → b < w.heap.size) : Calls Try.prog 78 #[.agg #[.int .i64 R, .int .i64 C, hv], .int .i64 a, .int .i64 b] w (Ret w (fun r w' => ∃ rv, r = .tuple #[rv, .int .i64 (betwV C H a b)] ∧ FreshO (tP (tP (tI .i64) (tI .i64)) (tI .i64)) 105 (treeJ C H) rv O w.heap.size w')) := by
  have b_b := bd_i64 i_b
  have b_a := bd_i64 i_a
  have b_C := bd_i64 i_C
  have b_R := bd_i64 i_R
  obtain ⟨⟨r1, r2⟩, ⟨c1_, c2_⟩, hRC, ⟨n1, n36⟩, hCn, hok⟩ := id p_ok
  have hjl := jtl_len p_ok.o c1_ n36
  have hab := high_bd p_ok p_a
  have a_hv := h_hv
  have l_hv := h_hv.len63
  have hS := St.start w O hO
  refine enterR Try.func78 rfl Try.ntmps78 Try.results78 rfl ?_
  refine W.seq ?_
  refine W.reg ?_
  refine Wx.box (cs := [.int .i64 R, .int .i64 C, hv]) hS rfl rfl rfl (fun g_1 w_2 hx_4 hb_3 hS => ?_)
  refine Wx.rd (v := (.slice none 0 0)) (rd_assign rfl) rfl ?_
  refine Wx.rd (v := .int .i64 0) (rd_assign rfl) rfl ?_
  refine Wx.nil ?_
  refine W.seq ?_
  refine W.reg ?_
  refine Wx.alloc (cs := List.map (Value.int .i64) (List.replicate 37 (0 : Int))) hS Try.zeroValue83 (by kernel_rfl) rfl (fun g_5 w_6 hx_8 hb_7 hS => ?_)
  have hS : St _ _ w_6 [.box g_5 83 (List.map (Value.int .i64) (List.replicate 37 (0 : Int))), .box g_1 24 [.int .i64 R, .int .i64 C, hv]] := hS
  refine Wx.nil ?_
  refine W.seq ?_
  refine W.seq ?_
  refine W.reg ?_
  refine Wx.rd (v := .int .i64 0) (rd_move rfl) rfl ?_
  refine Wx.nil ?_
  refine W.block ?_
  refine W.loop [9, 16, 17, 18, 19, 20, 21, 22] (fun x : Int × (List Int) => match x with | (k, y1) => [(16, .int .i64 k)]) (fun (x : Int × (List Int)) w' => match x with | (k, y1) => St w O w' [.box g_5 83 (List.map (Value.int .i64) y1), .box g_1 24 [.int .i64 R, .int .i64 C, hv]] ∧ 0 ≤ k ∧ k ≤ 37 ∧ y1.length = 37 ∧ (∀ x, 0 ≤ x → x < k → ix 0 y1 x = x)) (fun x : Int × (List Int) => match x with | (k, y1) => (37 - k).toNat) (0, (List.replicate 37 (0 : Int))) ⟨rfl, trivial⟩ ⟨hS, (by first | omega | simp), (by first | omega | simp), (by simp), (fun x x0 x1 => by omega)⟩ ?_
  rintro ⟨k, y1⟩ u_10 w_9 ⟨hS, h0, h1, h2, h3⟩
  refine W.seq ?_
  refine W.reg ?_
  refine Wx.rd (v := .bool (decide (k < 37))) (rd_lss rfl rfl) rfl ?_
  refine Wx.nil ?_
  refine W.seq ?_
  refine W.condD rfl (fun c0 => ?_) (fun c0 => ?_)
  · -- yes
    refine W.skip ?_
    refine W.seq ?_
    refine W.block ?_
    refine W.seq ?_
    refine W.reg ?_
    refine Wx.rd (v := .int .i64 k) (rd_move rfl) rfl ?_
    refine Wx.rd (v := .int .i64 k) (rd_assign rfl) rfl ?_
    refine Wx.nil ?_
    refine W.reg ?_
    refine Wx.rd (v := .int .i64 k) (rd_move rfl) rfl ?_
    refine Wx.rd (v := .int .i64 k) (rd_move rfl) rfl ?_
    refine Wx.rd (v := .pointer (some ⟨g_5, 0 + k.toNat * 1, none⟩)) (rd_indexArr rfl rfl Try.underlying83 Try.sizeOf3 (by omega) (by omega)) rfl ?_
    refine Wx.storeXa (j := k) (f := (Value.int .i64)) (u := k) hS 0 rfl rfl (by omega) rfl rfl rfl Try.sizeOf3 (by omega) (by omega) (fun w_11 hz_12 hS => ?_)
    refine Wx.nil ?_
    refine W.reg ?_
    refine Wx.rd (v := .int .i64 (k + 1)) (rd_add rfl rfl (in_i64 (by omega) (by omega))) rfl ?_
    refine Wx.rd (v := .int .i64 (k + 1)) (rd_move rfl) rfl ?_
    refine Wx.nil ?_
    refine ⟨(k + 1, List.set y1 k.toNat k), (by show (37 - (k + 1)).toNat < (37 - k).toNat; omega), ?_, ?_, Out.look rfl Out.self⟩
    · exact ⟨hS, (by first | omega | assumption), (by first | omega | assumption), (by simp only [List.length_set]; exact h2), (fun x x0 x1 => by rw [ix_set0 h0 (by omega) x0]; split; omega; exact h3 x x0 (by omega))⟩
    · exact ⟨rfl, trivial⟩
  · -- no
    refine W.exit rfl ?_
    refine W.seq ?_
    refine W.reg ?_
    refine Wx.rd (v := .func (.func 86) #[] #[.pointer (some ⟨g_5, 0, none⟩)]) (rd_makeFunc (vs := []) (us := [.pointer (some ⟨g_5, 0, none⟩)]) rfl rfl) rfl ?_
    refine Wx.rd (v := .func (.func 86) #[] #[.pointer (some ⟨g_5, 0, none⟩)]) (rd_assign rfl) rfl ?_
    refine Wx.nil ?_
    refine W.seq ?_
    refine W.seq ?_
    refine W.reg ?_
    refine Wx.rd (v := .int .i64 a) (rd_move rfl) rfl ?_
    refine Wx.rd (v := .agg #[.int .i64 R, .int .i64 C, hv]) (rd_loadXs (ds := [.int .i64 R, .int .i64 C, hv]) hS 1 rfl rfl rfl rfl Try.isAgg24 Try.sizeOf24) rfl ?_
    refine Wx.callF (run_callF Try.call56 rfl) (F56 i_R i_C (hS.arg a_hv)) rfl ?_
    rintro r_13 w_14 hx_15 rfl
    have hS := hS.ext hx_15
    refine Wx.rd (v := .bool (decide (a < (H.length : Int)))) (rd_lss rfl rfl) rfl ?_
    refine Wx.nil ?_
    refine W.cutK [7, 28, 29, 30, 31, 32] (fun (hg : Int) => [(7, .int .i64 hg)]) (fun (hg : Int) w' => St w O w' [.box g_5 83 (List.map (Value.int .i64) y1), .box g_1 24 [.int .i64 R, .int .i64 C, hv]] ∧ hg = highV H a) ?_ ?_
    · -- up to the cut
      refine W.condD rfl (fun c1 => ?_) (fun c1 => ?_)
      · -- yes
        refine W.reg ?_
        refine Wx.rd (v := .pointer (some ⟨g_1, 2, none⟩)) (rd_fieldAddr rfl foLn_24_2) rfl ?_
        refine Wx.rd (v := hv) (rd_loadX hS 1 rfl rfl rfl Try.isAgg22) rfl ?_
        refine Wx.rd (v := .int .i64 a) (rd_move rfl) rfl ?_
        refine Wx.ex (rd_index 0 (hS.arg a_hv) rfl rfl Try.underlying22 Try.sizeOf3 (by first | omega | (simp only [List.length_set, List.length_append, List.length_cons, List.length_nil, List.length_replicate]; omega)) (by first | omega | (simp only [List.length_set, List.length_append, List.length_cons, List.length_nil, List.length_replicate]; omega))) rfl (fun p_16 hp_17 => ?_)
        refine Wx.rd (v := .int .i64 (ix 0 H a)) (rd_loadI hp_17 rfl Try.isAgg3 Try.sizeOf3) rfl ?_
        have bd_18 := bd_i64 hp_17.inK
        refine Wx.rd (v := .int .i64 (ix 0 H a)) (rd_assign rfl) rfl ?_
        refine Wx.nil ?_
        refine ⟨ix 0 H a, ?_, ?_, Out.look rfl Out.refl⟩
        · exact ⟨hS, (by rw [highV, if_neg (by omega)])⟩
        · exact ⟨rfl, trivial⟩
      · -- no
        refine W.skip ?_
        refine ⟨0, ?_, ?_, Out.look rfl Out.refl⟩
        · exact ⟨hS, (by rw [highV, if_pos (by omega)])⟩
        · exact ⟨rfl, trivial⟩
    rintro hg u_20 w_19 ⟨hS, hh⟩
    refine W.seq ?_
    refine W.seq ?_
    refine W.reg ?_
    refine Wx.rd (v := .agg #[.int .i64 R, .int .i64 C, hv]) (rd_loadXs (ds := [.int .i64 R, .int .i64 C, hv]) hS 1 rfl rfl rfl rfl Try.isAgg24 Try.sizeOf24) rfl ?_
    refine Wx.callF (run_callF Try.call87 rfl) (F87 i_R i_C (hS.arg a_hv) p_ok hS.fb_lt) rfl ?_
    rintro r_21 w_22 hx_23 ⟨_, rfl, hv_24⟩
    have hS := hS.pushFrO hx_23 hv_24
    refine Wx.rd (v := .int .i64 ((jTL C H).length : Int)) (rd_lenR hS 0 rfl rfl Try.underlying101) rfl ?_
    refine Wx.rd (v := .int .i64 0) (rd_move rfl) rfl ?_
    refine Wx.nil ?_
    refine W.block ?_
    have hy1 : y1 = rng 0 37 := id_rng h2 (fun x x0 x1 => h3 x x0 (by omega))
    subst hy1
    have hS := hS.addNil (tP (tP (tI .i64) (tI .i64)) (tI .i64)) 105
    refine W.loop [6, 7, 12, 13, 14, 15, 36, 37, 38, 39, 40, 41, 42, 43, 44, 45, 46, 47, 48, 49, 50, 51, 52, 53, 54, 55, 56, 57, 58, 59, 60, 61, 62, 63, 64, 65, 66, 67, 68, 69, 70] (fun x : Int × Int × Value × (List ((Int × Int) × Int)) × (List Int) => match x with | (high, k, ov, out, ys) => [(7, .int .i64 high), (36, .int .i64 k), (6, ov)]) (fun (x : Int × Int × Value × (List ((Int × Int) × Int)) × (List Int)) w' => match x with | (high, k, ov, out, ys) => St w O w' [.row (tP (tP (tI .i64) (tI .i64)) (tI .i64)) 105 ov out, .row (tP (tP (tI .i64) (tI .i64)) (tI .i64)) 105 r_21 (jTL C H), .box g_5 83 (List.map (Value.int .i64) ys), .box g_1 24 [.int .i64 R, .int .i64 C, hv]] ∧ 0 ≤ k ∧ k ≤ (jTL C H).length ∧ TrI C H a b k ys out high) (fun x : Int × Int × Value × (List ((Int × Int) × Int)) × (List Int) => match x with | (high, k, ov, out, ys) => ((jTL C H).length - k).toNat) (hg, 0, (.slice none 0 0), [], rng 0 37) ⟨rfl, rfl, rfl, trivial⟩ ⟨hS, (by first | omega | simp), (by first | omega | simp), (by rw [hh]; exact tr_start p_ok p_a)⟩ ?_
    rintro ⟨high, k, ov, out, ys⟩ u_27 w_26 ⟨hS, g0, g1, g2⟩
    refine W.seq ?_
    refine W.reg ?_
    refine Wx.rd (v := .bool (decide (k < ((jTL C H).length : Int)))) (rd_lss rfl rfl) rfl ?_
    refine Wx.nil ?_
    refine W.seq ?_
    refine W.condD rfl (fun c2 => ?_) (fun c2 => ?_)
    · -- yes
      obtain ⟨hjp, hjq, hjh⟩ := jtl_jbd p_ok g0 c2
      have hol := tr_len g2 g0
      have hul := g2.uf.len
      have hgb := g2.bd
      have ht0 := top_rng g2.uf (x := (ix ((0, 0), 0) (jTL C H) k).1.1) ⟨by omega, by omega⟩
      have ht1 := top_rng g2.uf (x := (ix ((0, 0), 0) (jTL C H) k).1.2) ⟨by omega, by omega⟩
      have ht2 := top_rng g2.uf (x := a) ⟨by omega, by omega⟩
      have ht3 := top_rng g2.uf (x := b) ⟨by omega, by omega⟩
      refine W.skip ?_
      refine W.seq ?_
      refine W.block ?_
      refine W.seq ?_
      refine W.reg ?_
      refine Wx.indexR hS 1 rfl rfl rfl Try.underlying101 Try.sizeOf105 (by first | omega | (simp only [List.length_set, List.length_append, List.length_cons, List.length_nil, List.length_replicate]; omega)) (by first | omega | (simp only [List.length_set, List.length_append, List.length_cons, List.length_nil, List.length_replicate]; omega)) rfl (fun g_28 hg_29 => ?_)
      refine Wx.ex (rd_loadR' ((0, 0), 0) hS 1 rfl hg_29 rfl (by first | omega | (simp only [List.length_set, List.length_append, List.length_cons, List.length_nil, List.length_replicate]; omega)) (by first | omega | (simp only [List.length_set, List.length_append, List.length_cons, List.length_nil, List.length_replicate]; omega)) Try.isAgg105 Try.sizeOf105) rfl (fun v_30 hv_31 => ?_)
      obtain ⟨rfl, bd_32, bd_33, bd_34⟩ := hv_31.i3
      have bd_32 := bd_i64 bd_32
      have bd_33 := bd_i64 bd_33
      have bd_34 := bd_i64 bd_34
      refine Wx.alloc (cs := [.int .i64 0, .int .i64 0, .int .i64 0]) hS Try.zeroValue105 rfl rfl (fun g_35 w_36 hx_38 hb_37 hS => ?_)
      refine Wx.storeX (cs' := [.int .i64 ((ix ((0, 0), 0) (jTL C H) k).1.1), .int .i64 ((ix ((0, 0), 0) (jTL C H) k).1.2), .int .i64 ((ix ((0, 0), 0) (jTL C H) k).2)]) (ds := [.int .i64 ((ix ((0, 0), 0) (jTL C H) k).1.1), .int .i64 ((ix ((0, 0), 0) (jTL C H) k).1.2), .int .i64 ((ix ((0, 0), 0) (jTL C H) k).2)]) hS 0 rfl rfl rfl rfl Try.sizeOf105 (Nat.le_of_ble_eq_true rfl) (one_cons rfl (one_cons rfl (one_cons rfl one_nil))) rfl (fun w_39 hz_40 hS => ?_)
      refine Wx.nil ?_
      refine W.seq ?_
      refine W.regQ mixedLn_ (by kernel_rfl) ?_
      refine Wx.rd (v := .func (.func 86) #[] #[.pointer (some ⟨g_5, 0, none⟩)]) (rd_move rfl) rfl ?_
      refine Wx.rd (v := .pointer (some ⟨g_35, 0, none⟩)) (rd_fieldAddr rfl foLn_105_0) rfl ?_
      refine Wx.rd (v := .pointer (some ⟨g_35, 0, none⟩)) (rd_indexArr (n := 0) rfl rfl Try.underlying74 Try.sizeOf3 (by decide) (by decide)) rfl ?_
      refine Wx.rd (v := .int .i64 ((ix ((0, 0), 0) (jTL C H) k).1.1)) (rd_loadX hS 0 rfl rfl rfl Try.isAgg3) rfl ?_
      refine Wx.callV (v := .int .i64 (topV ys ((ix ((0, 0), 0) (jTL C H) k).1.1))) (run_callC (fs := []) (cs := [.pointer (some ⟨g_5, 0, none⟩)]) (vs := [.int .i64 ((ix ((0, 0), 0) (jTL C H) k).1.1), .pointer (some ⟨g_5, 0, none⟩)]) Try.call86 rfl rfl) (fun w_41 hw_42 => (F86 (mm := out.length) (in_i64 (by omega) (by omega)) (boxAt hS 3 rfl hw_42) g2.uf (by omega) ⟨by omega, by omega⟩)) rfl ?_
      refine Wx.rd (v := .func (.func 86) #[] #[.pointer (some ⟨g_5, 0, none⟩)]) (rd_move rfl) rfl ?_
      refine Wx.rd (v := .pointer (some ⟨g_35, 0, none⟩)) (rd_fieldAddr rfl foLn_105_0) rfl ?_
      refine Wx.rd (v := .pointer (some ⟨g_35, 1, none⟩)) (rd_indexArr (n := 1) rfl rfl Try.underlying74 Try.sizeOf3 (by decide) (by decide)) rfl ?_
      refine Wx.rd (v := .int .i64 ((ix ((0, 0), 0) (jTL C H) k).1.2)) (rd_loadX hS 0 rfl rfl rfl Try.isAgg3) rfl ?_
      refine Wx.callV (v := .int .i64 (topV ys ((ix ((0, 0), 0) (jTL C H) k).1.2))) (run_callC (fs := []) (cs := [.pointer (some ⟨g_5, 0, none⟩)]) (vs := [.int .i64 ((ix ((0, 0), 0) (jTL C H) k).1.2), .pointer (some ⟨g_5, 0, none⟩)]) Try.call86 rfl rfl) (fun w_43 hw_44 => (F86 (mm := out.length) (in_i64 (by omega) (by omega)) (boxAt hS 3 rfl hw_44) g2.uf (by omega) ⟨by omega, by omega⟩)) rfl ?_
      refine Wx.rd (v := .int .i64 (topV ys ((ix ((0, 0), 0) (jTL C H) k).1.1))) (rd_assign rfl) rfl ?_
      refine Wx.rd (v := .int .i64 (topV ys ((ix ((0, 0), 0) (jTL C H) k).1.2))) (rd_assign rfl) rfl ?_
      refine Wx.nilQ (fun w_45 hx_46 => ?_)
      have hS := hS.ext hx_46
      refine W.seq ?_
      refine W.seq ?_
      refine W.reg ?_
      refine Wx.rd (v := .int .i64 (topV ys ((ix ((0, 0), 0) (jTL C H) k).1.1))) (rd_move rfl) rfl ?_
      refine Wx.rd (v := .int .i64 (topV ys ((ix ((0, 0), 0) (jTL C H) k).1.2))) (rd_move rfl) rfl ?_
      refine Wx.rd (v := .bool (decide ((topV ys ((ix ((0, 0), 0) (jTL C H) k).1.1)) = (topV ys ((ix ((0, 0), 0) (jTL C H) k).1.2))))) (rd_eql rfl rfl) rfl ?_
      refine Wx.nil ?_
      refine W.condD rfl (fun c3 => ?_) (fun c3 => ?_)
      · -- yes
        refine W.exit rfl ?_
        refine W.reg ?_
        refine Wx.rd (v := .int .i64 (k + 1)) (rd_add rfl rfl (in_i64 (by omega) (by omega))) rfl ?_
        refine Wx.rd (v := .int .i64 (k + 1)) (rd_move rfl) rfl ?_
        refine Wx.nil ?_
        refine ⟨(high, k + 1, ov, out, ys), (by show ((jTL C H).length - (k + 1)).toNat < ((jTL C H).length - k).toNat; omega), ?_, ?_, Out.look rfl Out.self⟩
        · exact ⟨hS.tl, (by first | omega | assumption), (by first | omega | assumption), (tr_skip (p := (ix ((0, 0), 0) (jTL C H) k).1.1) (q := (ix ((0, 0), 0) (jTL C H) k).1.2) (h := (ix ((0, 0), 0) (jTL C H) k).2) g2 g0 c2 rfl ⟨by omega, by omega⟩ hjq c3)⟩
        · exact ⟨rfl, rfl, rfl, trivial⟩
      · -- no
        refine W.skip ?_
        refine W.seq ?_
        refine W.reg ?_
        refine Wx.rd (v := .func (.func 86) #[] #[.pointer (some ⟨g_5, 0, none⟩)]) (rd_move rfl) rfl ?_
        refine Wx.rd (v := .int .i64 a) (rd_move rfl) rfl ?_
        refine Wx.callF (run_callC (fs := []) (cs := [.pointer (some ⟨g_5, 0, none⟩)]) (vs := [.int .i64 a, .pointer (some ⟨g_5, 0, none⟩)]) Try.call86 rfl rfl) (F86 (mm := out.length) i_a (boxAt hS 3 rfl (Ext.refl _)) g2.uf (by omega) ⟨by omega, by omega⟩) rfl ?_
        rintro r_47 w_48 hx_49 rfl
        have hS := hS.ext hx_49
        refine Wx.rd (v := .func (.func 86) #[] #[.pointer (some ⟨g_5, 0, none⟩)]) (rd_move rfl) rfl ?_
        refine Wx.rd (v := .int .i64 b) (rd_move rfl) rfl ?_
        refine Wx.callF (run_callC (fs := []) (cs := [.pointer (some ⟨g_5, 0, none⟩)]) (vs := [.int .i64 b, .pointer (some ⟨g_5, 0, none⟩)]) Try.call86 rfl rfl) (F86 (mm := out.length) i_b (boxAt hS 3 rfl (Ext.refl _)) g2.uf (by omega) ⟨by omega, by omega⟩) rfl ?_
        rintro r_50 w_51 hx_52 rfl
        have hS := hS.ext hx_52
        refine Wx.rd (v := .bool (decide ((topV ys a) ≠ (topV ys b)))) (rd_neq rfl rfl) rfl ?_
        refine Wx.rd (v := .bool (decide ((topV ys a) ≠ (topV ys b)))) (rd_assign rfl) rfl ?_
        refine Wx.nil ?_
        refine W.seq ?_
        refine W.reg ?_
        refine Wx.rd (v := .int .i64 (topV ys ((ix ((0, 0), 0) (jTL C H) k).1.1))) (rd_move rfl) rfl ?_
        refine Wx.rd (v := .int .i64 (topV ys ((ix ((0, 0), 0) (jTL C H) k).1.2))) (rd_move rfl) rfl ?_
        refine Wx.rd (v := .pointer (some ⟨g_5, 0 + (topV ys ((ix ((0, 0), 0) (jTL C H) k).1.1)).toNat * 1, none⟩)) (rd_indexArr rfl rfl Try.underlying83 Try.sizeOf3 (by omega) (by omega)) rfl ?_
        refine Wx.storeXa (j := (topV ys ((ix ((0, 0), 0) (jTL C H) k).1.1))) (f := (Value.int .i64)) (u := (topV ys ((ix ((0, 0), 0) (jTL C H) k).1.2))) hS 3 rfl rfl (by omega) rfl rfl rfl Try.sizeOf3 (by omega) (by omega) (fun w_53 hz_54 hS => ?_)
        refine Wx.nil ?_
        refine W.seq ?_
        refine W.reg ?_
        refine Wx.rd (v := ov) (rd_move rfl) rfl ?_
        refine Wx.rd (v := .agg #[.int .i64 ((ix ((0, 0), 0) (jTL C H) k).1.1), .int .i64 ((ix ((0, 0), 0) (jTL C H) k).1.2), .int .i64 ((ix ((0, 0), 0) (jTL C H) k).2)]) (rd_loadXs (ds := [.int .i64 ((ix ((0, 0), 0) (jTL C H) k).1.1), .int .i64 ((ix ((0, 0), 0) (jTL C H) k).1.2), .int .i64 ((ix ((0, 0), 0) (jTL C H) k).2)]) hS 0 rfl rfl rfl rfl Try.isAgg105 Try.sizeOf105) rfl ?_
        refine Wx.lit (t := (tP (tP (tI .i64) (tI .i64)) (tI .i64))) (ys := [(((ix ((0, 0), 0) (jTL C H) k).1.1, (ix ((0, 0), 0) (jTL C H) k).1.2), (ix ((0, 0), 0) (jTL C H) k).2)]) (vs := [.agg #[.int .i64 ((ix ((0, 0), 0) (jTL C H) k).1.1), .int .i64 ((ix ((0, 0), 0) (jTL C H) k).1.2), .int .i64 ((ix ((0, 0), 0) (jTL C H) k).2)]]) elLn_101 hS rfl rfl ⟨(V.mk3 (in_i64 (by omega) (by omega)) (in_i64 (by omega) (by omega)) (in_i64 (by omega) (by omega))), trivial⟩ (by decide) rfl (fun v_55 w_56 hx_57 hS => ?_)
        refine Wx.append elLn_101 hS 2 rfl rfl rfl (Src.ofR hS 0 rfl) (by simp only [maxLen]; first | omega | (simp; omega) | simp) (by first | omega | (simp; omega) | simp) rfl (fun v_58 w_59 hz_60 hS => ?_)
        refine Wx.rd (v := v_58) (rd_assign rfl) rfl ?_
        refine Wx.nil ?_
        refine W.seq ?_
        refine W.reg ?_
        refine Wx.rd (v := .bool (decide ((topV ys a) ≠ (topV ys b)))) (rd_move rfl) rfl ?_
        refine Wx.nil ?_
        refine W.condD rfl (fun c4 => ?_) (fun c4 => ?_)
        · -- yes
          refine W.reg ?_
          refine Wx.rd (v := .pointer (some ⟨g_35, 2, none⟩)) (rd_fieldAddr rfl foLn_105_1) rfl ?_
          refine Wx.rd (v := .int .i64 ((ix ((0, 0), 0) (jTL C H) k).2)) (rd_loadX hS 1 rfl rfl rfl Try.isAgg3) rfl ?_
          refine Wx.rd (v := .int .i64 ((ix ((0, 0), 0) (jTL C H) k).2)) (rd_assign rfl) rfl ?_
          refine Wx.nil ?_
          refine W.reg ?_
          refine Wx.rd (v := .int .i64 (k + 1)) (rd_add rfl rfl (in_i64 (by omega) (by omega))) rfl ?_
          refine Wx.rd (v := .int .i64 (k + 1)) (rd_move rfl) rfl ?_
          refine Wx.nil ?_
          refine ⟨((ix ((0, 0), 0) (jTL C H) k).2, k + 1, v_58, out ++ [(((ix ((0, 0), 0) (jTL C H) k).1.1, (ix ((0, 0), 0) (jTL C H) k).1.2), (ix ((0, 0), 0) (jTL C H) k).2)], List.set ys (topV ys ((ix ((0, 0), 0) (jTL C H) k).1.1)).toNat (topV ys ((ix ((0, 0), 0) (jTL C H) k).1.2))), (by show ((jTL C H).length - (k + 1)).toNat < ((jTL C H).length - k).toNat; omega), ?_, ?_, Out.look rfl Out.self⟩
          · exact ⟨St.tl (hS.tl), (by first | omega | assumption), (by first | omega | assumption), (tr_take (p := (ix ((0, 0), 0) (jTL C H) k).1.1) (q := (ix ((0, 0), 0) (jTL C H) k).1.2) (h := (ix ((0, 0), 0) (jTL C H) k).2) p_ok g2 p_a p_b g0 c2 (by omega) rfl ⟨by omega, by omega⟩ hjq hjh c3 (by rw [if_neg c4]))⟩
          · exact ⟨rfl, rfl, rfl, trivial⟩
        · -- no
          refine W.skip ?_
          refine W.reg ?_
          refine Wx.rd (v := .int .i64 (k + 1)) (rd_add rfl rfl (in_i64 (by omega) (by omega))) rfl ?_
          refine Wx.rd (v := .int .i64 (k + 1)) (rd_move rfl) rfl ?_
          refine Wx.nil ?_
          refine ⟨(high, k + 1, v_58, out ++ [(((ix ((0, 0), 0) (jTL C H) k).1.1, (ix ((0, 0), 0) (jTL C H) k).1.2), (ix ((0, 0), 0) (jTL C H) k).2)], List.set ys (topV ys ((ix ((0, 0), 0) (jTL C H) k).1.1)).toNat (topV ys ((ix ((0, 0), 0) (jTL C H) k).1.2))), (by show ((jTL C H).length - (k + 1)).toNat < ((jTL C H).length - k).toNat; omega), ?_, ?_, Out.look rfl Out.self⟩
          · exact ⟨St.tl (hS.tl), (by first | omega | assumption), (by first | omega | assumption), (tr_take (p := (ix ((0, 0), 0) (jTL C H) k).1.1) (q := (ix ((0, 0), 0) (jTL C H) k).1.2) (h := (ix ((0, 0), 0) (jTL C H) k).2) p_ok g2 p_a p_b g0 c2 (by omega) rfl ⟨by omega, by omega⟩ hjq hjh c3 (by rw [if_pos (by omega)]))⟩
          · exact ⟨rfl, rfl, rfl, trivial⟩
    · -- no
      refine W.exit rfl ?_
      refine W.seq ?_
      refine W.reg ?_
      refine Wx.rd (v := ov) (rd_move rfl) rfl ?_
      refine Wx.rd (v := .int .i64 high) (rd_move rfl) rfl ?_
      refine Wx.rd (v := ov) (rd_assign rfl) rfl ?_
      refine Wx.rd (v := .int .i64 high) (rd_assign rfl) rfl ?_
      refine Wx.nil ?_
      have e0_0 : treeJ C H = out := by exact (tr_end p_ok p_a p_b g2 (by omega)).1.symm
      have e0_1 : (betwV C H a b) = (high : Int) := by exact (tr_end p_ok p_a p_b g2 (by omega)).2.symm
      exact W.ret ⟨.tuple #[ov, .int .i64 high], ResIs.two, hS.bel, ⟨ov, (by rw [e0_1]), (by rw [e0_0]; exact (hS.frO 0 rfl))⟩⟩
end Go.Proofs.Ytjhimoeodkaihaa

namespace Go.Proofs.Ytjhimoeodkaihaa
open Go.Wk Go.RowKit Go.Lib
set_option linter.unusedVariables false
set_option linter.unusedSimpArgs false
theorem foLo_105_0 : fldOff Try.prog 105 0 = some 0 := by kernel_rfl
theorem elLo_52 : ElemI Try.prog 52 74 (.agg #[.int .i64 0, .int .i64 0]) 2 16 := ElemI.of Try.underlying52 (by kernel_rfl) (by first | rfl | kernel_rfl) (by decide)

set_option maxHeartbeats 1000000 in
theorem F37 {R : Int} {C : Int} {hv : Value} {H : List Int} {a : Int} {b : Int} {O : List (Option Nat)} {w : World} (i_R : InK .i64 R) (i_C : InK .i64 C) (h_hv : V (tSl (tI .i64)) H hv O w) (i_a : InK .i64 a) (i_b : InK .i64 b) (hO : ∀ b, some b ∈ O → b < w.heap.size) : Calls Try.prog 37 #[.agg #[.int .i64 R, .int .i64 C, hv], .int .i64 a, .int .i64 b] w (Ret w (fun r _ => r = .tuple #[.int .i64 (betwE R C H a b), .int .i64 (betwX R C H a b)])) := by
  have b_b := bd_i64 i_b
  have b_a := bd_i64 i_a
  have b_C := bd_i64 i_C
  have b_R := bd_i64 i_R
  have a_hv := h_hv
  have l_hv := h_hv.len63
  have hS := St.start w O hO
  refine enterR Try.func37 rfl Try.ntmps37 Try.results37 rfl ?_
  refine W.seq ?_
  refine W.reg ?_
  refine Wx.box (cs := [.int .i64 R, .int .i64 C, hv]) hS rfl rfl rfl (fun g_1 w_2 hx_4 hb_3 hS => ?_)
  refine Wx.rd (v := .int .i64 0) (rd_assign rfl) rfl ?_
  refine Wx.rd (v := .int .i64 0) (rd_assign rfl) rfl ?_
  refine Wx.nil ?_
  refine W.seq ?_
  refine W.seq ?_
  refine W.reg ?_
  refine Wx.rd (v := .agg #[.int .i64 R, .int .i64 C, hv]) (rd_loadXs (ds := [.int .i64 R, .int .i64 C, hv]) hS 0 rfl rfl rfl rfl Try.isAgg24 Try.sizeOf24) rfl ?_
  refine Wx.callF (run_callF Try.call22 rfl) (F22 i_R i_C (hS.arg a_hv)) rfl ?_
  rintro r_5 w_6 hx_7 rfl
  have hS := hS.ext hx_7
  refine Wx.rd (v := .int .i64 (checkS R C H)) (rd_assign rfl) rfl ?_
  refine Wx.nil ?_
  refine W.seq ?_
  refine W.reg ?_
  refine Wx.rd (v := .int .i64 (checkS R C H)) (rd_move rfl) rfl ?_
  refine Wx.rd (v := .bool (decide ((checkS R C H) ≠ 0))) (rd_neq rfl rfl) rfl ?_
  refine Wx.nil ?_
  refine W.condD rfl (fun c0 => ?_) (fun c0 => ?_)
  · -- yes
    refine W.seq ?_
    refine W.reg ?_
    refine Wx.rd (v := .int .i64 (checkS R C H)) (rd_move rfl) rfl ?_
    refine Wx.rd (v := .int .i64 0) (rd_assign rfl) rfl ?_
    refine Wx.rd (v := .int .i64 (checkS R C H)) (rd_assign rfl) rfl ?_
    refine Wx.nil ?_
    have e0_0 : (betwE R C H a b) = (0 : Int) := by rw [betwE, if_neg (by rw [betwX, if_neg (fun q => c0 q.1)]; exact c0)]
    have e0_1 : (betwX R C H a b) = (checkS R C H : Int) := by rw [betwX, if_neg (fun q => c0 q.1)]
    exact W.ret ⟨.tuple #[.int .i64 0, .int .i64 (checkS R C H)], ResIs.two, hS.bel, (by rw [e0_0, e0_1])⟩
  · -- no
    have h0c : checkS R C H = 0 := by omega
    have p_ok := SOK.of h0c
    obtain ⟨⟨r1, r2⟩, ⟨c1_, c2_⟩, hRC, ⟨n1, n36⟩, hCn, hok⟩ := id p_ok
    refine W.skip ?_
    refine W.seq ?_
    refine W.seq ?_
    refine W.reg ?_
    refine Wx.rd (v := .int .i64 a) (rd_move rfl) rfl ?_
    refine Wx.rd (v := .agg #[.int .i64 R, .int .i64 C, hv]) (rd_loadXs (ds := [.int .i64 R, .int .i64 C, hv]) hS 0 rfl rfl rfl rfl Try.isAgg24 Try.sizeOf24) rfl ?_
    refine Wx.callF (run_callF Try.call56 rfl) (F56 i_R i_C (hS.arg a_hv)) rfl ?_
    rintro r_8 w_9 hx_10 rfl
    have hS := hS.ext hx_10
    refine Wx.callF (run_callF Try.call61 rfl) (F61 (in_i64 (by omega) (by omega)) i_a (in_i64 (by omega) (by omega))) rfl ?_
    rintro r_11 w_12 hx_13 rfl
    have hS := hS.ext hx_13
    refine Wx.rd (v := .bool (!(decide (0 ≤ a) && decide (a ≤ (H.length : Int))))) (rd_not rfl) rfl ?_
    refine Wx.rd (v := .bool (!(decide (0 ≤ a) && decide (a ≤ (H.length : Int))))) (rd_move rfl) rfl ?_
    refine Wx.cut (X := Unit) 6 [22, 23, 24, 25, 26, 27] (fun _ => [(27, .bool (!(decide (0 ≤ a) && decide (a ≤ (H.length : Int))) || !(decide (0 ≤ b) && decide (b ≤ (H.length : Int)))))]) (fun _ w' => St w O w' [.box g_1 24 [.int .i64 R, .int .i64 C, hv]]) ?_ ?_
    · rcases Bool.eq_false_or_eq_true (!(decide (0 ≤ a) && decide (a ≤ (H.length : Int)))) with g_14 | g_14
      · -- True
        have gp_15 := g_14
        try simp only [Bool.and_eq_true, Bool.or_eq_true, Bool.not_eq_true', Bool.and_eq_false_iff, Bool.or_eq_false_iff, Bool.not_eq_false', decide_eq_true_eq, decide_eq_false_iff_not, not_or, Bool.false_eq_true, Bool.true_eq_false, false_or, or_false, not_false_eq_true] at gp_15
        refine Wx.gnoB rfl rfl (congrArg Value.bool g_14) rfl rfl ?_
        refine Wx.gnoB rfl rfl (congrArg Value.bool g_14) rfl rfl ?_
        refine Wx.gnoB rfl rfl (congrArg Value.bool g_14) rfl rfl ?_
        refine Wx.gnoB rfl rfl (congrArg Value.bool g_14) rfl rfl ?_
        refine Wx.gnoB rfl rfl (congrArg Value.bool g_14) rfl rfl ?_
        refine Wx.rd (v := .bool true) (rd_pickT (congrArg Value.bool g_14) rfl) rfl ?_
        refine Wx.nil ⟨(), hS, ⟨?_, trivial⟩, Out.look rfl Out.refl⟩
        show Value.bool true = Value.bool (!(decide (0 ≤ a) && decide (a ≤ (H.length : Int))) || !(decide (0 ≤ b) && decide (b ≤ (H.length : Int))))
        first | rw [g_14, Bool.true_or] | (rw [g_14]; rfl)
      · -- False
        have gp_16 := g_14
        try simp only [Bool.and_eq_true, Bool.or_eq_true, Bool.not_eq_true', Bool.and_eq_false_iff, Bool.or_eq_false_iff, Bool.not_eq_false', decide_eq_true_eq, decide_eq_false_iff_not, not_or, Bool.false_eq_true, Bool.true_eq_false, false_or, or_false, not_false_eq_true] at gp_16
        refine Wx.gyes rfl rfl (congrArg Value.bool g_14) ?_
        refine Wx.rd (v := .int .i64 b) (rd_move rfl) rfl ?_
        refine Wx.gyes rfl rfl (congrArg Value.bool g_14) ?_
        refine Wx.rd (v := .agg #[.int .i64 R, .int .i64 C, hv]) (rd_loadXs (ds := [.int .i64 R, .int .i64 C, hv]) hS 0 rfl rfl rfl rfl Try.isAgg24 Try.sizeOf24) rfl ?_
        refine Wx.gyes rfl rfl (congrArg Value.bool g_14) ?_
        refine Wx.callF (run_callF Try.call56 rfl) (F56 i_R i_C (hS.arg a_hv)) rfl ?_
        rintro r_17 w_18 hx_19 rfl
        have hS := hS.ext hx_19
        refine Wx.gyes rfl rfl (congrArg Value.bool g_14) ?_
        refine Wx.callF (run_callF Try.call61 rfl) (F61 (in_i64 (by omega) (by omega)) i_b (in_i64 (by omega) (by omega))) rfl ?_
        rintro r_20 w_21 hx_22 rfl
        have hS := hS.ext hx_22
        refine Wx.gyes rfl rfl (congrArg Value.bool g_14) ?_
        refine Wx.rd (v := .bool (!(decide (0 ≤ b) && decide (b ≤ (H.length : Int))))) (rd_not rfl) rfl ?_
        refine Wx.rd (v := .bool (!(decide (0 ≤ b) && decide (b ≤ (H.length : Int))))) (rd_pickF (congrArg Value.bool g_14) rfl) rfl ?_
        refine Wx.nil ⟨(), hS, ⟨?_, trivial⟩, Out.look rfl Out.refl⟩
        show Value.bool (!(decide (0 ≤ b) && decide (b ≤ (H.length : Int)))) = Value.bool (!(decide (0 ≤ a) && decide (a ≤ (H.length : Int))) || !(decide (0 ≤ b) && decide (b ≤ (H.length : Int))))
        first | rw [g_14, Bool.false_or] | (rw [g_14]; rfl)
    rintro ⟨⟩ u_24 w_23 hS
    refine Wx.nil ?_
    refine W.cond rfl (fun c1 => ?_) (fun c1 => ?_)
    · -- yes
      try simp only [Bool.and_eq_true, Bool.or_eq_true, Bool.not_eq_true', Bool.and_eq_false_iff, Bool.or_eq_false_iff, Bool.not_eq_false', decide_eq_true_eq, decide_eq_false_iff_not, not_or, Bool.false_eq_true, Bool.true_eq_false, false_or, or_false, not_false_eq_true] at c1
      refine W.seq ?_
      refine W.reg ?_
      refine Wx.rd (v := .int .i64 0) (rd_assign rfl) rfl ?_
      refine Wx.rd (v := .int .i64 2) (rd_assign rfl) rfl ?_
      refine Wx.nil ?_
      have e1_0 : (betwE R C H a b) = (0 : Int) := by rw [betwE, if_neg (by rw [betwX, if_pos ⟨h0c, by omega⟩]; decide)]
      have e1_1 : (betwX R C H a b) = (2 : Int) := by rw [betwX, if_pos ⟨h0c, by omega⟩]
      exact W.ret ⟨.tuple #[.int .i64 0, .int .i64 2], ResIs.two, hS.bel, (by rw [e1_0, e1_1])⟩
    · -- no
      try simp only [Bool.and_eq_true, Bool.or_eq_true, Bool.not_eq_true', Bool.and_eq_false_iff, Bool.or_eq_false_iff, Bool.not_eq_false', decide_eq_true_eq, decide_eq_false_iff_not, not_or, Bool.false_eq_true, Bool.true_eq_false, false_or, or_false, not_false_eq_true] at c1
      refine W.skip ?_
      refine W.seq ?_
      refine W.reg ?_
      refine Wx.rd (v := .agg #[.int .i64 R, .int .i64 C, hv]) (rd_loadXs (ds := [.int .i64 R, .int .i64 C, hv]) hS 0 rfl rfl rfl rfl Try.isAgg24 Try.sizeOf24) rfl ?_
      refine Wx.rd (v := .int .i64 a) (rd_move rfl) rfl ?_
      refine Wx.rd (v := .int .i64 b) (rd_move rfl) rfl ?_
      refine Wx.callF (run_callF Try.call78 rfl) (F78 i_R i_C (hS.arg a_hv) i_a i_b p_ok ⟨by omega, by omega⟩ ⟨by omega, by omega⟩ hS.fb_lt) rfl ?_
      rintro r_25 w_26 hx_27 ⟨v_28, rfl, hv_29⟩
      have hS := hS.pushFrO hx_27 hv_29
      refine Wx.rd (v := .tuple #[v_28, .int .i64 (betwV C H a b)]) (rd_move rfl) rfl ?_
      refine Wx.rd (v := v_28) (rd_extract rfl rfl) rfl ?_
      refine Wx.rd (v := .int .i64 (betwV C H a b)) (rd_extract rfl rfl) rfl ?_
      refine Wx.rd (v := v_28) (rd_assign rfl) rfl ?_
      refine Wx.rd (v := .int .i64 (betwV C H a b)) (rd_assign rfl) rfl ?_
      refine Wx.nil ?_
      refine W.seq ?_
      refine W.reg ?_
      refine Wx.rd (v := .int .i64 (betwV C H a b)) (rd_move rfl) rfl ?_
      refine Wx.rd (v := .int .i64 (betwV C H a b)) (rd_assign rfl) rfl ?_
      refine Wx.rd (v := .int .i64 0) (rd_assign rfl) rfl ?_
      refine Wx.nil ?_
      have e2_0 : (betwE R C H a b) = (betwV C H a b : Int) := by rw [betwE, if_pos (by rw [betwX, if_neg (fun q => q.2 ⟨⟨by omega, by omega⟩, ⟨by omega, by omega⟩⟩)]; exact h0c)]
      have e2_1 : (betwX R C H a b) = (0 : Int) := by rw [betwX, if_neg (fun q => q.2 ⟨⟨by omega, by omega⟩, ⟨by omega, by omega⟩⟩)]; exact h0c
      exact W.ret ⟨.tuple #[.int .i64 (betwV C H a b), .int .i64 0], ResIs.two, hS.bel, (by rw [e2_0, e2_1])⟩

set_option maxHeartbeats 1000000 in
theorem F39 {R : Int} {C : Int} {hv : Value} {H : List Int} {O : List (Option Nat)} {w : World} (i_R : InK .i64 R) (i_C : InK .i64 C) (h_hv : V (tSl (tI .i64)) H hv O w) (hO : ∀ b, some b ∈ O → b < w.heap.size) : Calls Try.prog 39 #[.agg #[.int .i64 R, .int .i64 C, hv]] w (Ret w (fun r w' => ∃ rv, r = .tuple #[rv, .int .i64 (checkS R C H)] ∧ Fresh (tP (tI .i64) (tI .i64)) 74 (treeE R C H) rv w.heap.size w')) := by
  have b_C := bd_i64 i_C
  have b_R := bd_i64 i_R
  have a_hv := h_hv
  have l_hv := h_hv.len63
  have hS := St.start w O hO
  refine enterR Try.func39 rfl Try.ntmps39 Try.results39 rfl ?_
  refine W.seq ?_
  refine W.reg ?_
  refine Wx.box (cs := [.int .i64 R, .int .i64 C, hv]) hS rfl rfl rfl (fun g_1 w_2 hx_4 hb_3 hS => ?_)
  refine Wx.rd (v := (.slice none 0 0)) (rd_assign rfl) rfl ?_
  refine Wx.rd (v := .int .i64 0) (rd_assign rfl) rfl ?_
  refine Wx.nil ?_
  refine W.seq ?_
  refine W.seq ?_
  refine W.reg ?_
  refine Wx.rd (v := .agg #[.int .i64 R, .int .i64 C, hv]) (rd_loadXs (ds := [.int .i64 R, .int .i64 C, hv]) hS 0 rfl rfl rfl rfl Try.isAgg24 Try.sizeOf24) rfl ?_
  refine Wx.callF (run_callF Try.call22 rfl) (F22 i_R i_C (hS.arg a_hv)) rfl ?_
  rintro r_5 w_6 hx_7 rfl
  have hS := hS.ext hx_7
  refine Wx.rd (v := .int .i64 (checkS R C H)) (rd_assign rfl) rfl ?_
  refine Wx.nil ?_
  refine W.seq ?_
  refine W.reg ?_
  refine Wx.rd (v := .int .i64 (checkS R C H)) (rd_move rfl) rfl ?_
  refine Wx.rd (v := .bool (decide ((checkS R C H) ≠ 0))) (rd_neq rfl rfl) rfl ?_
  refine Wx.nil ?_
  refine W.condD rfl (fun c0 => ?_) (fun c0 => ?_)
  · -- yes
    refine W.seq ?_
    refine W.reg ?_
    refine Wx.rd (v := .int .i64 (checkS R C H)) (rd_move rfl) rfl ?_
    refine Wx.rd (v := (.slice none 0 0)) (rd_assign rfl) rfl ?_
    refine Wx.rd (v := .int .i64 (checkS R C H)) (rd_assign rfl) rfl ?_
    refine Wx.nil ?_
    have e0_0 : treeE R C H = [] := by rw [treeE, if_neg c0]
    exact W.ret ⟨.tuple #[(.slice none 0 0), .int .i64 (checkS R C H)], ResIs.two, hS.bel, ⟨(.slice none 0 0), rfl, (by rw [e0_0]; exact ((hS.addNil (tP (tI .i64) (tI .i64)) 74).fr 0 rfl flat_i2))⟩⟩
  · -- no
    have h0c : checkS R C H = 0 := by omega
    have p_ok := SOK.of h0c
    obtain ⟨⟨r1, r2⟩, ⟨c1_, c2_⟩, hRC, ⟨n1, n36⟩, hCn, hok⟩ := id p_ok
    refine W.skip ?_
    refine W.seq ?_
    refine W.reg ?_
    refine Wx.rd (v := (.slice none 0 0)) (rd_assign rfl) rfl ?_
    refine Wx.nil ?_
    refine W.seq ?_
    refine W.reg ?_
    refine Wx.rd (v := .agg #[.int .i64 R, .int .i64 C, hv]) (rd_loadXs (ds := [.int .i64 R, .int .i64 C, hv]) hS 0 rfl rfl rfl rfl Try.isAgg24 Try.sizeOf24) rfl ?_
    refine Wx.callF (run_callF Try.call78 rfl) (F78 i_R i_C (hS.arg a_hv) (in_i64 (by omega) (by omega)) (in_i64 (by omega) (by omega)) p_ok ⟨by omega, by omega⟩ ⟨by omega, by omega⟩ hS.fb_lt) rfl ?_
    rintro r_8 w_9 hx_10 ⟨v_11, rfl, hv_12⟩
    have hS := hS.pushFrO hx_10 hv_12
    have htl := tree_len p_ok
    refine Wx.rd (v := .tuple #[v_11, .int .i64 (betwV C H 0 0)]) (rd_move rfl) rfl ?_
    refine Wx.rd (v := v_11) (rd_extract rfl rfl) rfl ?_
    refine Wx.rd (v := .int .i64 (betwV C H 0 0)) (rd_extract rfl rfl) rfl ?_
    refine Wx.rd (v := v_11) (rd_assign rfl) rfl ?_
    refine Wx.rd (v := .int .i64 (betwV C H 0 0)) (rd_assign rfl) rfl ?_
    refine Wx.nil ?_
    refine W.seq ?_
    refine W.seq ?_
    refine W.reg ?_
    refine Wx.rd (v := v_11) (rd_move rfl) rfl ?_
    refine Wx.rd (v := .int .i64 ((treeJ C H).length : Int)) (rd_lenR hS 0 rfl rfl Try.underlying101) rfl ?_
    refine Wx.rd (v := .int .i64 0) (rd_move rfl) rfl ?_
    refine Wx.nil ?_
    refine W.block ?_
    have hS := hS.addNil (tP (tI .i64) (tI .i64)) 74
    refine W.loop [5, 9, 22, 23, 24, 25, 26, 27, 28, 29, 30, 31] (fun x : Int × Value × (List (Int × Int)) => match x with | (k, ov, out) => [(22, .int .i64 k), (5, ov)]) (fun (x : Int × Value × (List (Int × Int))) w' => match x with | (k, ov, out) => St w O w' [.row (tP (tI .i64) (tI .i64)) 74 ov out, .row (tP (tP (tI .i64) (tI .i64)) (tI .i64)) 105 v_11 (treeJ C H), .box g_1 24 [.int .i64 R, .int .i64 C, hv]] ∧ 0 ≤ k ∧ k ≤ (treeJ C H).length ∧ out = ((treeJ C H).take k.toNat).map (·.1) ∧ (out.length : Int) = k) (fun x : Int × Value × (List (Int × Int)) => match x with | (k, ov, out) => ((treeJ C H).length - k).toNat) (0, (.slice none 0 0), []) ⟨rfl, rfl, trivial⟩ ⟨hS, (by first | omega | simp), (by first | omega | simp), (rfl), (rfl)⟩ ?_
    rintro ⟨k, ov, out⟩ u_15 w_14 ⟨hS, h0, h1, h2, h3⟩
    refine W.seq ?_
    refine W.reg ?_
    refine Wx.rd (v := .bool (decide (k < ((treeJ C H).length : Int)))) (rd_lss rfl rfl) rfl ?_
    refine Wx.nil ?_
    refine W.seq ?_
    refine W.condD rfl (fun c1 => ?_) (fun c1 => ?_)
    · -- yes
      refine W.skip ?_
      refine W.seq ?_
      refine W.block ?_
      refine W.seq ?_
      refine W.reg ?_
      refine Wx.indexR hS 1 rfl rfl rfl Try.underlying101 Try.sizeOf105 (by first | omega | (simp only [List.length_set, List.length_append, List.length_cons, List.length_nil, List.length_replicate]; omega)) (by first | omega | (simp only [List.length_set, List.length_append, List.length_cons, List.length_nil, List.length_replicate]; omega)) rfl (fun g_16 hg_17 => ?_)
      refine Wx.ex (rd_loadR' ((0, 0), 0) hS 1 rfl hg_17 rfl (by first | omega | (simp only [List.length_set, List.length_append, List.length_cons, List.length_nil, List.length_replicate]; omega)) (by first | omega | (simp only [List.length_set, List.length_append, List.length_cons, List.length_nil, List.length_replicate]; omega)) Try.isAgg105 Try.sizeOf105) rfl (fun v_18 hv_19 => ?_)
      obtain ⟨rfl, bd_20, bd_21, bd_22⟩ := hv_19.i3
      have bd_20 := bd_i64 bd_20
      have bd_21 := bd_i64 bd_21
      have bd_22 := bd_i64 bd_22
      refine Wx.alloc (cs := [.int .i64 0, .int .i64 0, .int .i64 0]) hS Try.zeroValue105 rfl rfl (fun g_23 w_24 hx_26 hb_25 hS => ?_)
      refine Wx.storeX (cs' := [.int .i64 ((ix ((0, 0), 0) (treeJ C H) k).1.1), .int .i64 ((ix ((0, 0), 0) (treeJ C H) k).1.2), .int .i64 ((ix ((0, 0), 0) (treeJ C H) k).2)]) (ds := [.int .i64 ((ix ((0, 0), 0) (treeJ C H) k).1.1), .int .i64 ((ix ((0, 0), 0) (treeJ C H) k).1.2), .int .i64 ((ix ((0, 0), 0) (treeJ C H) k).2)]) hS 0 rfl rfl rfl rfl Try.sizeOf105 (Nat.le_of_ble_eq_true rfl) (one_cons rfl (one_cons rfl (one_cons rfl one_nil))) rfl (fun w_27 hz_28 hS => ?_)
      refine Wx.nil ?_
      refine W.reg ?_
      refine Wx.rd (v := ov) (rd_move rfl) rfl ?_
      refine Wx.rd (v := .pointer (some ⟨g_23, 0, none⟩)) (rd_fieldAddr rfl foLo_105_0) rfl ?_
      refine Wx.rd (v := .agg #[.int .i64 ((ix ((0, 0), 0) (treeJ C H) k).1.1), .int .i64 ((ix ((0, 0), 0) (treeJ C H) k).1.2)]) (rd_loadXs (ds := [.int .i64 ((ix ((0, 0), 0) (treeJ C H) k).1.1), .int .i64 ((ix ((0, 0), 0) (treeJ C H) k).1.2)]) hS 0 rfl rfl rfl rfl Try.isAgg74 Try.sizeOf74) rfl ?_
      refine Wx.lit (t := (tP (tI .i64) (tI .i64))) (ys := [((ix ((0, 0), 0) (treeJ C H) k).1.1, (ix ((0, 0), 0) (treeJ C H) k).1.2)]) (vs := [.agg #[.int .i64 ((ix ((0, 0), 0) (treeJ C H) k).1.1), .int .i64 ((ix ((0, 0), 0) (treeJ C H) k).1.2)]]) elLo_52 hS rfl rfl ⟨(V.mk2 (in_i64 (by omega) (by omega)) (in_i64 (by omega) (by omega))), trivial⟩ (by decide) rfl (fun v_29 w_30 hx_31 hS => ?_)
      refine Wx.append elLo_52 hS 2 rfl rfl rfl (Src.ofR hS 0 rfl) (by simp only [maxLen]; first | omega | (simp; omega) | simp) (by first | omega | (simp; omega) | simp) rfl (fun v_32 w_33 hz_34 hS => ?_)
      refine Wx.rd (v := v_32) (rd_assign rfl) rfl ?_
      refine Wx.nil ?_
      refine W.reg ?_
      refine Wx.rd (v := .int .i64 (k + 1)) (rd_add rfl rfl (in_i64 (by omega) (by omega))) rfl ?_
      refine Wx.rd (v := .int .i64 (k + 1)) (rd_move rfl) rfl ?_
      refine Wx.nil ?_
      refine ⟨(k + 1, v_32, out ++ [((ix ((0, 0), 0) (treeJ C H) k).1.1, (ix ((0, 0), 0) (treeJ C H) k).1.2)]), (by show ((treeJ C H).length - (k + 1)).toNat < ((treeJ C H).length - k).toNat; omega), ?_, ?_, Out.look rfl Out.self⟩
      · exact ⟨St.tl (hS.tl), (by first | omega | assumption), (by first | omega | assumption), (tree_snoc h2 h0 c1), (by simp only [List.length_append, List.length_cons, List.length_nil]; omega)⟩
      · exact ⟨rfl, rfl, trivial⟩
    · -- no
      refine W.exit rfl ?_
      refine W.seq ?_
      refine W.reg ?_
      refine Wx.rd (v := ov) (rd_move rfl) rfl ?_
      refine Wx.rd (v := ov) (rd_assign rfl) rfl ?_
      refine Wx.rd (v := .int .i64 0) (rd_assign rfl) rfl ?_
      refine Wx.nil ?_
      have e1_0 : treeE R C H = out := by rw [treeE, if_pos h0c, h2, tree_full (by omega)]
      have e1_1 : (checkS R C H) = (0 : Int) := by exact h0c
      exact W.ret ⟨.tuple #[ov, .int .i64 0], ResIs.two, hS.bel, ⟨ov, (by rw [e1_1]), (by rw [e1_0]; exact (hS.fr 0 rfl flat_i2))⟩⟩
end Go.Proofs.Ytjhimoeodkaihaa

namespace Go.Proofs.Ytjhimoeodkaihaa
open Go.Wk Go.RowKit Go.Lib
set_option linter.unusedVariables false
set_option linter.unusedSimpArgs false
end Go.Proofs.Ytjhimoeodkaihaa

namespace Go.Proofs.Ytjhimoeodkaihaa
open Go.Wk Go.RowKit Go.Lib
set_option linter.unusedVariables false
set_option linter.unusedSimpArgs false
end Go.Proofs.Ytjhimoeodkaihaa

namespace Go.Proofs.Ytjhimoeodkaihaa
open Go.Wk Go.RowKit Go.Lib
set_option linter.unusedVariables false
set_option linter.unusedSimpArgs false
end Go.Proofs.Ytjhimoeodkaihaa

namespace Go.Proofs.Ytjhimoeodkaihaa
open Go.Wk Go.RowKit Go.Lib
set_option linter.unusedVariables false
set_option linter.unusedSimpArgs false
end Go.Proofs.Ytjhimoeodkaihaa

namespace Go.Proofs.Ytjhimoeodkaihaa
open Go.Wk Go.RowKit Go.Lib
set_option linter.unusedVariables false
set_option linter.unusedSimpArgs false
end Go.Proofs.Ytjhimoeodkaihaa

namespace Go.Proofs.Ytjhimoeodkaihaa
open Go.Wk Go.RowKit Go.Lib
set_option linter.unusedVariables false
set_option linter.unusedSimpArgs false
end Go.Proofs.Ytjhimoeodkaihaa

namespace Go.Proofs.Ytjhimoeodkaihaa
open Go.Wk Go.RowKit Go.Lib
set_option linter.unusedVariables false
set_option linter.unusedSimpArgs false
end Go.Proofs.Ytjhimoeodkaihaa

namespace Go.Proofs.Ytjhimoeodkaihaa
open Go.Wk Go.RowKit Go.Lib
set_option linter.unusedVariables false
set_option linter.unusedSimpArgs false
end Go.Proofs.Ytjhimoeodkaihaa

namespace Go.Proofs.Ytjhimoeodkaihaa
open Go.Wk Go.RowKit Go.Lib
set_option linter.unusedVariables false
set_option linter.unusedSimpArgs false
end Go.Proofs.Ytjhimoeodkaihaa

namespace Go.Proofs.Ytjhimoeodkaihaa
open Go.Wk Go.RowKit Go.Lib
set_option linter.unusedVariables false
set_option linter.unusedSimpArgs false
theorem mixedMa_ : Try.prog.follows .mixedOrders = true := by kernel_rfl
theorem elMa_22 : ElemI Try.prog 22 3 (.int .i64 0) 1 8 := ElemI.of Try.underlying22 (by kernel_rfl) (by first | rfl | kernel_rfl) (by decide)

theorem F21 {xv : Value} {xs : List Int} {Fr_xv : List (Option Nat)} {yv : Value} {ys : List Int} {Fr_yv : List (Option Nat)} {w : World} (h_xv : V (tSl (tI .i64)) xs xv Fr_xv w) (h_yv : V (tSl (tI .i64)) ys yv Fr_yv w) : Calls Try.prog 21 #[xv, yv] w (Ret w (fun r _ => r = .bool (decide (xs = ys)))) := by
  have a_xv := h_xv.any
  have l_xv := h_xv.len63
  have a_yv := h_yv.any
  have l_yv := h_yv.len63
  have hS := St.start0 w
  refine enterR Try.func21 rfl Try.ntmps21 Try.results21 rfl ?_
  refine W.seq ?_
  refine W.reg ?_
  refine Wx.rd (v := .bool false) (rd_assign rfl) rfl ?_
  refine Wx.nil ?_
  refine W.seq ?_
  refine W.seq ?_
  refine W.reg ?_
  refine Wx.rd (v := xv) (rd_move rfl) rfl ?_
  refine Wx.rd (v := .int .i64 (xs.length : Int)) (rd_lenV rfl (hS.arg a_xv) Try.underlying22) rfl ?_
  refine Wx.rd (v := yv) (rd_move rfl) rfl ?_
  refine Wx.rd (v := .int .i64 (ys.length : Int)) (rd_lenV rfl (hS.arg a_yv) Try.underlying22) rfl ?_
  refine Wx.rd (v := .bool (decide ((xs.length : Int) ≠ (ys.length : Int)))) (rd_neq rfl rfl) rfl ?_
  refine Wx.nil ?_
  refine W.condD rfl (fun c0 => ?_) (fun c0 => ?_)
  · -- yes
    refine W.seq ?_
    refine W.reg ?_
    refine Wx.rd (v := .bool false) (rd_assign rfl) rfl ?_
    refine Wx.nil ?_
    have e0_0 : (decide (xs = ys)) = false := by exact decide_eq_false (fun h : xs = ys => c0 (by rw [h]))
    exact W.ret ⟨.bool false, ResIs.one, hS.bel, (by rw [e0_0])⟩
  · -- no
    refine W.skip ?_
    refine W.seq ?_
    refine W.seq ?_
    refine W.reg ?_
    refine Wx.rd (v := .int .i64 0) (rd_assign rfl) rfl ?_
    refine Wx.nil ?_
    refine W.block ?_
    refine W.loop [4, 5, 11, 12, 13, 14, 15, 16, 17, 18, 19, 20, 21, 22, 23, 24, 25] (fun (k : Int) => [(5, .int .i64 k)]) (fun (k : Int) w' => St w [] w' [] ∧ 0 ≤ k ∧ k ≤ xs.length ∧ decide (xs.drop k.toNat = ys.drop k.toNat) = decide (xs = ys)) (fun (k : Int) => (xs.length - k).toNat) 0 ⟨rfl, trivial⟩ ⟨hS, (by first | omega | simp), (by first | omega | simp), (by simp)⟩ ?_
    rintro k u_2 w_1 ⟨hS, h0, h1, h2⟩
    refine W.seq ?_
    refine W.seq ?_
    refine W.reg ?_
    refine Wx.rd (v := .int .i64 k) (rd_move rfl) rfl ?_
    refine Wx.rd (v := xv) (rd_move rfl) rfl ?_
    refine Wx.rd (v := .int .i64 (xs.length : Int)) (rd_lenV rfl (hS.arg a_xv) Try.underlying22) rfl ?_
    refine Wx.rd (v := .bool (decide (k < (xs.length : Int)))) (rd_lss rfl rfl) rfl ?_
    refine Wx.nil ?_
    refine W.condD rfl (fun c1 => ?_) (fun c1 => ?_)
    · -- yes
      refine W.skip ?_
      refine W.seq ?_
      refine W.block ?_
      refine W.seq ?_
      refine W.regQ mixedMa_ (by kernel_rfl) ?_
      refine Wx.rd (v := xv) (rd_move rfl) rfl ?_
      refine Wx.rd (v := .int .i64 k) (rd_move rfl) rfl ?_
      refine Wx.ex (rd_index 0 (hS.arg a_xv) rfl rfl Try.underlying22 Try.sizeOf3 (by first | omega | (simp only [List.length_set, List.length_append, List.length_cons, List.length_nil, List.length_replicate]; omega)) (by first | omega | (simp only [List.length_set, List.length_append, List.length_cons, List.length_nil, List.length_replicate]; omega))) rfl (fun p_3 hp_4 => ?_)
      refine Wx.rd (v := .int .i64 (ix 0 xs k)) (rd_loadI hp_4 rfl Try.isAgg3 Try.sizeOf3) rfl ?_
      have bd_5 := bd_i64 hp_4.inK
      refine Wx.rd (v := yv) (rd_move rfl) rfl ?_
      refine Wx.rd (v := .int .i64 k) (rd_move rfl) rfl ?_
      refine Wx.ex (rd_index 0 (hS.arg a_yv) rfl rfl Try.underlying22 Try.sizeOf3 (by first | omega | (simp only [List.length_set, List.length_append, List.length_cons, List.length_nil, List.length_replicate]; omega)) (by first | omega | (simp only [List.length_set, List.length_append, List.length_cons, List.length_nil, List.length_replicate]; omega))) rfl (fun p_6 hp_7 => ?_)
      refine Wx.rd (v := .int .i64 (ix 0 ys k)) (rd_loadI hp_7 rfl Try.isAgg3 Try.sizeOf3) rfl ?_
      have bd_8 := bd_i64 hp_7.inK
      refine Wx.rd (v := .bool (decide ((ix 0 xs k) ≠ (ix 0 ys k)))) (rd_neq rfl rfl) rfl ?_
      refine Wx.nilQ (fun w_9 hx_10 => ?_)
      have hS := hS.ext hx_10
      refine W.condD rfl (fun c2 => ?_) (fun c2 => ?_)
      · -- yes
        refine W.seq ?_
        refine W.reg ?_
        refine Wx.rd (v := .bool false) (rd_assign rfl) rfl ?_
        refine Wx.nil ?_
        have he : ¬ ix 0 xs k = ix 0 ys k := fun hh => by rw [hh] at c2; omega
        have e1_0 : (decide (xs = ys)) = false := by rw [← h2, drop_ix (d := 0) h0 c1, drop_ix (d := 0) (xs := ys) h0 (by omega)]; simp [he]
        exact W.ret ⟨.bool false, ResIs.one, hS.bel, (by rw [e1_0])⟩
      · -- no
        refine W.skip ?_
        refine W.reg ?_
        refine Wx.rd (v := .int .i64 k) (rd_move rfl) rfl ?_
        refine Wx.rd (v := .int .i64 (k + 1)) (rd_add rfl rfl (in_i64 (by omega) (by omega))) rfl ?_
        refine Wx.rd (v := .int .i64 (k + 1)) (rd_assign rfl) rfl ?_
        refine Wx.nil ?_
        have he : ix 0 xs k = ix 0 ys k := by omega
        refine ⟨k + 1, (by show (xs.length - (k + 1)).toNat < (xs.length - k).toNat; omega), ?_, ?_, Out.look rfl Out.self⟩
        · exact ⟨hS, (by first | omega | assumption), (by first | omega | assumption), (by rw [← h2, drop_ix (d := 0) h0 c1, drop_ix (d := 0) (xs := ys) h0 (by omega)]; simp [he])⟩
        · exact ⟨rfl, trivial⟩
    · -- no
      refine W.exit rfl ?_
      refine W.seq ?_
      refine W.reg ?_
      refine Wx.rd (v := .bool true) (rd_assign rfl) rfl ?_
      refine Wx.nil ?_
      have e2_0 : (decide (xs = ys)) = true := by rw [← h2, drop_end (by omega), drop_end (xs := ys) (by omega)]; simp
      exact W.ret ⟨.bool true, ResIs.one, hS.bel, (by rw [e2_0])⟩

theorem F28 {xv : Value} {xs : List (List Int)} {Fr_xv : List (Option Nat)} {yv : Value} {ys : List (List Int)} {Fr_yv : List (Option Nat)} {w : World} (h_xv : V (tSl (tSl (tI .i64))) xs xv Fr_xv w) (h_yv : V (tSl (tSl (tI .i64))) ys yv Fr_yv w) : Calls Try.prog 28 #[xv, yv] w (Ret w (fun r _ => r = .bool (decide (xs = ys)))) := by
  have a_xv := h_xv.any
  have l_xv := h_xv.len63
  have a_yv := h_yv.any
  have l_yv := h_yv.len63
  have hS := St.start0 w
  refine enterR Try.func28 rfl Try.ntmps28 Try.results28 rfl ?_
  refine W.seq ?_
  refine W.reg ?_
  refine Wx.rd (v := .bool false) (rd_assign rfl) rfl ?_
  refine Wx.nil ?_
  refine W.seq ?_
  refine W.seq ?_
  refine W.reg ?_
  refine Wx.rd (v := xv) (rd_move rfl) rfl ?_
  refine Wx.rd (v := .int .i64 (xs.length : Int)) (rd_lenV rfl (hS.arg a_xv) Try.underlying37) rfl ?_
  refine Wx.rd (v := yv) (rd_move rfl) rfl ?_
  refine Wx.rd (v := .int .i64 (ys.length : Int)) (rd_lenV rfl (hS.arg a_yv) Try.underlying37) rfl ?_
  refine Wx.rd (v := .bool (decide ((xs.length : Int) ≠ (ys.length : Int)))) (rd_neq rfl rfl) rfl ?_
  refine Wx.nil ?_
  refine W.condD rfl (fun c0 => ?_) (fun c0 => ?_)
  · -- yes
    refine W.seq ?_
    refine W.reg ?_
    refine Wx.rd (v := .bool false) (rd_assign rfl) rfl ?_
    refine Wx.nil ?_
    have e0_0 : (decide (xs = ys)) = false := by exact decide_eq_false (fun h : xs = ys => c0 (by rw [h]))
    exact W.ret ⟨.bool false, ResIs.one, hS.bel, (by rw [e0_0])⟩
  · -- no
    refine W.skip ?_
    refine W.seq ?_
    refine W.seq ?_
    refine W.reg ?_
    refine Wx.rd (v := .int .i64 0) (rd_assign rfl) rfl ?_
    refine Wx.nil ?_
    refine W.block ?_
    refine W.loop [4, 5, 11, 12, 13, 14, 15, 16, 17, 18, 19, 20, 21, 22, 23, 24, 25, 26] (fun (k : Int) => [(5, .int .i64 k)]) (fun (k : Int) w' => St w [] w' [] ∧ 0 ≤ k ∧ k ≤ xs.length ∧ decide (xs.drop k.toNat = ys.drop k.toNat) = decide (xs = ys)) (fun (k : Int) => (xs.length - k).toNat) 0 ⟨rfl, trivial⟩ ⟨hS, (by first | omega | simp), (by first | omega | simp), (by simp)⟩ ?_
    rintro k u_2 w_1 ⟨hS, h0, h1, h2⟩
    refine W.seq ?_
    refine W.seq ?_
    refine W.reg ?_
    refine Wx.rd (v := .int .i64 k) (rd_move rfl) rfl ?_
    refine Wx.rd (v := xv) (rd_move rfl) rfl ?_
    refine Wx.rd (v := .int .i64 (xs.length : Int)) (rd_lenV rfl (hS.arg a_xv) Try.underlying37) rfl ?_
    refine Wx.rd (v := .bool (decide (k < (xs.length : Int)))) (rd_lss rfl rfl) rfl ?_
    refine Wx.nil ?_
    refine W.condD rfl (fun c1 => ?_) (fun c1 => ?_)
    · -- yes
      refine W.skip ?_
      refine W.seq ?_
      refine W.block ?_
      refine W.seq ?_
      refine W.regQ mixedMa_ (by kernel_rfl) ?_
      refine Wx.rd (v := xv) (rd_move rfl) rfl ?_
      refine Wx.rd (v := .int .i64 k) (rd_move rfl) rfl ?_
      refine Wx.ex (rd_index [] (hS.arg a_xv) rfl rfl Try.underlying37 Try.sizeOf22 (by first | omega | (simp only [List.length_set, List.length_append, List.length_cons, List.length_nil, List.length_replicate]; omega)) (by first | omega | (simp only [List.length_set, List.length_append, List.length_cons, List.length_nil, List.length_replicate]; omega))) rfl (fun p_3 hp_4 => ?_)
      refine Wx.ex (rd_load hp_4 rfl Try.isAgg22 Try.sizeOf22) rfl (fun v_5 hv_6 => ?_)
      have ln_7 := hv_6.len63
      have hS := hS.add hv_6
      refine Wx.rd (v := yv) (rd_move rfl) rfl ?_
      refine Wx.rd (v := .int .i64 k) (rd_move rfl) rfl ?_
      refine Wx.ex (rd_index [] (hS.arg a_yv) rfl rfl Try.underlying37 Try.sizeOf22 (by first | omega | (simp only [List.length_set, List.length_append, List.length_cons, List.length_nil, List.length_replicate]; omega)) (by first | omega | (simp only [List.length_set, List.length_append, List.length_cons, List.length_nil, List.length_replicate]; omega))) rfl (fun p_9 hp_10 => ?_)
      refine Wx.ex (rd_load hp_10 rfl Try.isAgg22 Try.sizeOf22) rfl (fun v_11 hv_12 => ?_)
      have ln_13 := hv_12.len63
      have hS := hS.add hv_12
      refine Wx.callV (v := .bool (decide ((ix [] xs k) = (ix [] ys k)))) (run_callF Try.call21 rfl) (fun w_15 hw_16 => (F21 ((hS.v 1 rfl).ext hw_16) ((hS.v 0 rfl).ext hw_16))) rfl ?_
      refine Wx.rd (v := .bool (!(decide ((ix [] xs k) = (ix [] ys k))))) (rd_not rfl) rfl ?_
      refine Wx.nilQ (fun w_17 hx_18 => ?_)
      have hS := hS.ext hx_18
      refine W.cond rfl (fun c2 => ?_) (fun c2 => ?_)
      · -- yes
        try simp only [Bool.and_eq_true, Bool.or_eq_true, Bool.not_eq_true', Bool.and_eq_false_iff, Bool.or_eq_false_iff, Bool.not_eq_false', decide_eq_true_eq, decide_eq_false_iff_not, not_or, Bool.false_eq_true, Bool.true_eq_false, false_or, or_false, not_false_eq_true] at c2
        refine W.seq ?_
        refine W.reg ?_
        refine Wx.rd (v := .bool false) (rd_assign rfl) rfl ?_
        refine Wx.nil ?_
        have he : ¬ ix [] xs k = ix [] ys k := c2
        have e1_0 : (decide (xs = ys)) = false := by rw [← h2, drop_ix (d := []) h0 c1, drop_ix (d := []) (xs := ys) h0 (by omega)]; simp [he]
        exact W.ret ⟨.bool false, ResIs.one, hS.bel, (by rw [e1_0])⟩
      · -- no
        try simp only [Bool.and_eq_true, Bool.or_eq_true, Bool.not_eq_true', Bool.and_eq_false_iff, Bool.or_eq_false_iff, Bool.not_eq_false', decide_eq_true_eq, decide_eq_false_iff_not, not_or, Bool.false_eq_true, Bool.true_eq_false, false_or, or_false, not_false_eq_true] at c2
        refine W.skip ?_
        refine W.reg ?_
        refine Wx.rd (v := .int .i64 k) (rd_move rfl) rfl ?_
        refine Wx.rd (v := .int .i64 (k + 1)) (rd_add rfl rfl (in_i64 (by omega) (by omega))) rfl ?_
        refine Wx.rd (v := .int .i64 (k + 1)) (rd_assign rfl) rfl ?_
        refine Wx.nil ?_
        have he : ix [] xs k = ix [] ys k := c2
        refine ⟨k + 1, (by show (xs.length - (k + 1)).toNat < (xs.length - k).toNat; omega), ?_, ?_, Out.look rfl Out.self⟩
        · exact ⟨St.tl (hS.tl), (by first | omega | assumption), (by first | omega | assumption), (by rw [← h2, drop_ix (d := []) h0 c1, drop_ix (d := []) (xs := ys) h0 (by omega)]; simp [he])⟩
        · exact ⟨rfl, trivial⟩
    · -- no
      refine W.exit rfl ?_
      refine W.seq ?_
      refine W.reg ?_
      refine Wx.rd (v := .bool true) (rd_assign rfl) rfl ?_
      refine Wx.nil ?_
      have e2_0 : (decide (xs = ys)) = true := by rw [← h2, drop_end (by omega), drop_end (xs := ys) (by omega)]; simp
      exact W.ret ⟨.bool true, ResIs.one, hS.bel, (by rw [e2_0])⟩

theorem F41 {xv : Value} {xs : List (Int × Int)} {Fr_xv : List (Option Nat)} {yv : Value} {ys : List (Int × Int)} {Fr_yv : List (Option Nat)} {w : World} (h_xv : V (tSl (tP (tI .i64) (tI .i64))) xs xv Fr_xv w) (h_yv : V (tSl (tP (tI .i64) (tI .i64))) ys yv Fr_yv w) : Calls Try.prog 41 #[xv, yv] w (Ret w (fun r _ => r = .bool (decide (xs = ys)))) := by
  have a_xv := h_xv.any
  have l_xv := h_xv.len63
  have a_yv := h_yv.any
  have l_yv := h_yv.len63
  have hS := St.start0 w
  refine enterR Try.func41 rfl Try.ntmps41 Try.results41 rfl ?_
  refine W.seq ?_
  refine W.reg ?_
  refine Wx.rd (v := .bool false) (rd_assign rfl) rfl ?_
  refine Wx.nil ?_
  refine W.seq ?_
  refine W.seq ?_
  refine W.reg ?_
  refine Wx.rd (v := xv) (rd_move rfl) rfl ?_
  refine Wx.rd (v := .int .i64 (xs.length : Int)) (rd_lenV rfl (hS.arg a_xv) Try.underlying52) rfl ?_
  refine Wx.rd (v := yv) (rd_move rfl) rfl ?_
  refine Wx.rd (v := .int .i64 (ys.length : Int)) (rd_lenV rfl (hS.arg a_yv) Try.underlying52) rfl ?_
  refine Wx.rd (v := .bool (decide ((xs.length : Int) ≠ (ys.length : Int)))) (rd_neq rfl rfl) rfl ?_
  refine Wx.nil ?_
  refine W.condD rfl (fun c0 => ?_) (fun c0 => ?_)
  · -- yes
    refine W.seq ?_
    refine W.reg ?_
    refine Wx.rd (v := .bool false) (rd_assign rfl) rfl ?_
    refine Wx.nil ?_
    have e0_0 : (decide (xs = ys)) = false := by exact decide_eq_false (fun h : xs = ys => c0 (by rw [h]))
    exact W.ret ⟨.bool false, ResIs.one, hS.bel, (by rw [e0_0])⟩
  · -- no
    refine W.skip ?_
    refine W.seq ?_
    refine W.seq ?_
    refine W.reg ?_
    refine Wx.rd (v := .int .i64 0) (rd_assign rfl) rfl ?_
    refine Wx.nil ?_
    refine W.block ?_
    refine W.loop [4, 5, 11, 12, 13, 14, 15, 16, 17, 18, 19, 20, 21, 22, 23, 24, 25] (fun (k : Int) => [(5, .int .i64 k)]) (fun (k : Int) w' => St w [] w' [] ∧ 0 ≤ k ∧ k ≤ xs.length ∧ decide (xs.drop k.toNat = ys.drop k.toNat) = decide (xs = ys)) (fun (k : Int) => (xs.length - k).toNat) 0 ⟨rfl, trivial⟩ ⟨hS, (by first | omega | simp), (by first | omega | simp), (by simp)⟩ ?_
    rintro k u_2 w_1 ⟨hS, h0, h1, h2⟩
    refine W.seq ?_
    refine W.seq ?_
    refine W.reg ?_
    refine Wx.rd (v := .int .i64 k) (rd_move rfl) rfl ?_
    refine Wx.rd (v := xv) (rd_move rfl) rfl ?_
    refine Wx.rd (v := .int .i64 (xs.length : Int)) (rd_lenV rfl (hS.arg a_xv) Try.underlying52) rfl ?_
    refine Wx.rd (v := .bool (decide (k < (xs.length : Int)))) (rd_lss rfl rfl) rfl ?_
    refine Wx.nil ?_
    refine W.condD rfl (fun c1 => ?_) (fun c1 => ?_)
    · -- yes
      refine W.skip ?_
      refine W.seq ?_
      refine W.block ?_
      refine W.seq ?_
      refine W.regQ mixedMa_ (by kernel_rfl) ?_
      refine Wx.rd (v := xv) (rd_move rfl) rfl ?_
      refine Wx.rd (v := .int .i64 k) (rd_move rfl) rfl ?_
      refine Wx.ex (rd_index (0, 0) (hS.arg a_xv) rfl rfl Try.underlying52 Try.sizeOf74 (by first | omega | (simp only [List.length_set, List.length_append, List.length_cons, List.length_nil, List.length_replicate]; omega)) (by first | omega | (simp only [List.length_set, List.length_append, List.length_cons, List.length_nil, List.length_replicate]; omega))) rfl (fun p_3 hp_4 => ?_)
      refine Wx.ex (rd_load hp_4 rfl Try.isAgg74 Try.sizeOf74) rfl (fun v_5 hv_6 => ?_)
      obtain ⟨rfl, bd_7, bd_8⟩ := hv_6.i2
      have bd_7 := bd_i64 bd_7
      have bd_8 := bd_i64 bd_8
      refine Wx.rd (v := yv) (rd_move rfl) rfl ?_
      refine Wx.rd (v := .int .i64 k) (rd_move rfl) rfl ?_
      refine Wx.ex (rd_index (0, 0) (hS.arg a_yv) rfl rfl Try.underlying52 Try.sizeOf74 (by first | omega | (simp only [List.length_set, List.length_append, List.length_cons, List.length_nil, List.length_replicate]; omega)) (by first | omega | (simp only [List.length_set, List.length_append, List.length_cons, List.length_nil, List.length_replicate]; omega))) rfl (fun p_9 hp_10 => ?_)
      refine Wx.ex (rd_load hp_10 rfl Try.isAgg74 Try.sizeOf74) rfl (fun v_11 hv_12 => ?_)
      obtain ⟨rfl, bd_13, bd_14⟩ := hv_12.i2
      have bd_13 := bd_i64 bd_13
      have bd_14 := bd_i64 bd_14
      refine Wx.rd (v := .bool (!(decide ((ix (0, 0) xs k).1 = (ix (0, 0) ys k).1) && decide ((ix (0, 0) xs k).2 = (ix (0, 0) ys k).2)))) (rd_neqA2 rfl rfl Try.underlying74 Try.underlying3 Try.sizeOf3 Try.eqGuardType74) rfl ?_
      refine Wx.nilQ (fun w_15 hx_16 => ?_)
      have hS := hS.ext hx_16
      refine W.cond rfl (fun c2 => ?_) (fun c2 => ?_)
      · -- yes
        try simp only [Bool.and_eq_true, Bool.or_eq_true, Bool.not_eq_true', Bool.and_eq_false_iff, Bool.or_eq_false_iff, Bool.not_eq_false', decide_eq_true_eq, decide_eq_false_iff_not, not_or, Bool.false_eq_true, Bool.true_eq_false, false_or, or_false, not_false_eq_true] at c2
        refine W.seq ?_
        refine W.reg ?_
        refine Wx.rd (v := .bool false) (rd_assign rfl) rfl ?_
        refine Wx.nil ?_
        have he : ¬ ix (0, 0) xs k = ix (0, 0) ys k := fun hh => by rw [hh] at c2; omega
        have e1_0 : (decide (xs = ys)) = false := by rw [← h2, drop_ix (d := (0, 0)) h0 c1, drop_ix (d := (0, 0)) (xs := ys) h0 (by omega)]; simp [he]
        exact W.ret ⟨.bool false, ResIs.one, hS.bel, (by rw [e1_0])⟩
      · -- no
        try simp only [Bool.and_eq_true, Bool.or_eq_true, Bool.not_eq_true', Bool.and_eq_false_iff, Bool.or_eq_false_iff, Bool.not_eq_false', decide_eq_true_eq, decide_eq_false_iff_not, not_or, Bool.false_eq_true, Bool.true_eq_false, false_or, or_false, not_false_eq_true] at c2
        refine W.skip ?_
        refine W.reg ?_
        refine Wx.rd (v := .int .i64 k) (rd_move rfl) rfl ?_
        refine Wx.rd (v := .int .i64 (k + 1)) (rd_add rfl rfl (in_i64 (by omega) (by omega))) rfl ?_
        refine Wx.rd (v := .int .i64 (k + 1)) (rd_assign rfl) rfl ?_
        refine Wx.nil ?_
        have he : ix (0, 0) xs k = ix (0, 0) ys k := Prod.ext (by omega) (by omega)
        refine ⟨k + 1, (by show (xs.length - (k + 1)).toNat < (xs.length - k).toNat; omega), ?_, ?_, Out.look rfl Out.self⟩
        · exact ⟨hS, (by first | omega | assumption), (by first | omega | assumption), (by rw [← h2, drop_ix (d := (0, 0)) h0 c1, drop_ix (d := (0, 0)) (xs := ys) h0 (by omega)]; simp [he])⟩
        · exact ⟨rfl, trivial⟩
    · -- no
      refine W.exit rfl ?_
      refine W.seq ?_
      refine W.reg ?_
      refine Wx.rd (v := .bool true) (rd_assign rfl) rfl ?_
      refine Wx.nil ?_
      have e2_0 : (decide (xs = ys)) = true := by rw [← h2, drop_end (by omega), drop_end (xs := ys) (by omega)]; simp
      exact W.ret ⟨.bool true, ResIs.one, hS.bel, (by rw [e2_0])⟩

theorem F49 {lv : Value} {l : List Int} {O : List (Option Nat)} {w : World} (h_lv : V (tSl (tI .i64)) l lv O w) (hO : ∀ b, some b ∈ O → b < w.heap.size) : Calls Try.prog 49 #[lv] w (Ret w (fun r w' => ∃ rv, r = rv ∧ V (tSl (tI .i64)) l rv O w')) := by
  have a_lv := h_lv
  have l_lv := h_lv.len63
  have hS := St.start w O hO
  refine enterR Try.func49 rfl Try.ntmps49 Try.results49 rfl ?_
  refine W.seq ?_
  refine W.reg ?_
  refine Wx.rd (v := (.slice none 0 0)) (rd_assign rfl) rfl ?_
  refine Wx.nil ?_
  refine W.seq ?_
  refine W.reg ?_
  refine Wx.rd (v := lv) (rd_move rfl) rfl ?_
  refine Wx.rd (v := lv) (rd_assign rfl) rfl ?_
  refine Wx.nil ?_
  exact W.ret ⟨lv, ResIs.one, hS.bel, ⟨lv, rfl, (V.mv (hS.arg a_lv) (.less (fun _ h => List.mem_append.2 (.inr h))))⟩⟩

theorem F48 {O : List (Option Nat)} {w : World} (hO : ∀ b, some b ∈ O → b < w.heap.size) : Calls Try.prog 48 #[] w (Ret w (fun r w' => ∃ rv, r = .agg #[.int .i64 3, .int .i64 3, rv] ∧ V (tSl (tI .i64)) sS rv O w')) := by
  have hS := St.start w O hO
  refine enterR Try.func48 rfl Try.ntmps48 Try.results48 rfl ?_
  refine W.seq ?_
  refine W.reg ?_
  refine Wx.alloc (cs := [.int .i64 0, .int .i64 0, (.slice none 0 0)]) hS Try.zeroValue24 rfl rfl (fun g_1 w_2 hx_4 hb_3 hS => ?_)
  refine Wx.nil ?_
  refine W.seq ?_
  refine W.reg ?_
  refine Wx.lit (t := (tI .i64)) (ys := [5, 5, 5, 5, 2, 5, 5, 4, 5]) (vs := [.int .i64 5, .int .i64 5, .int .i64 5, .int .i64 5, .int .i64 2, .int .i64 5, .int .i64 5, .int .i64 4, .int .i64 5]) elMa_22 hS rfl rfl ⟨(V.mkInt (in_i64 (by omega) (by omega))), ⟨(V.mkInt (in_i64 (by omega) (by omega))), ⟨(V.mkInt (in_i64 (by omega) (by omega))), ⟨(V.mkInt (in_i64 (by omega) (by omega))), ⟨(V.mkInt (in_i64 (by omega) (by omega))), ⟨(V.mkInt (in_i64 (by omega) (by omega))), ⟨(V.mkInt (in_i64 (by omega) (by omega))), ⟨(V.mkInt (in_i64 (by omega) (by omega))), ⟨(V.mkInt (in_i64 (by omega) (by omega))), trivial⟩⟩⟩⟩⟩⟩⟩⟩⟩ (by decide) rfl (fun v_5 w_6 hx_7 hS => ?_)
  have hS := hS.freeze 0 rfl
  refine Wx.callF (run_callF Try.call49 rfl) (F49 (hS.v 0 rfl) hS.fb_lt) rfl ?_
  rintro r_9 w_10 hx_11 ⟨_, rfl, hv_12⟩
  have ln_14 := hv_12.len63
  have hS := hS.ext hx_11
  have hS := hS.add hv_12
  refine Wx.rd (v := .agg #[.int .i64 3, .int .i64 3, r_9]) (rd_buildC (vs := [(0, .int .i64 3), (1, .int .i64 3), (2, r_9)]) (us := [(0, .agg #[.int .i64 3]), (1, .agg #[.int .i64 3]), (2, .agg #[r_9])]) rfl (parts_cons rfl (parts_cons rfl (parts_cons (Go.Wk.cells_one (V.oneC (hS.v 0 rfl))) parts_nil))) (by kernel_rfl)) rfl ?_
  refine Wx.storeX (cs' := [.int .i64 3, .int .i64 3, r_9]) (ds := [.int .i64 3, .int .i64 3, r_9]) hS 2 rfl rfl rfl rfl Try.sizeOf24 (Nat.le_of_ble_eq_true rfl) (one_cons rfl (one_cons rfl (one_cons (V.oneC (hS.v 0 rfl)) one_nil))) rfl (fun w_15 hz_16 hS => ?_)
  refine Wx.nil ?_
  have e0_2 : sS = [5, 5, 5, 5, 2, 5, 5, 4, 5] := by rfl
  exact W.ret ⟨.agg #[.int .i64 3, .int .i64 3, r_9], (ResIs.cell1 hS 2 rfl rfl Try.isAgg24 Try.sizeOf24), hS.bel, ⟨r_9, rfl, (by rw [e0_2]; exact (V.mv (hS.v 0 rfl) (.less (fun _ h => List.mem_append.2 (.inr h)))))⟩⟩

theorem F47 {O : List (Option Nat)} {w : World} (hO : ∀ b, some b ∈ O → b < w.heap.size) : Calls Try.prog 47 #[] w (Ret w (fun r w' => ∃ rv, r = .agg #[.int .i64 4, .int .i64 1, rv] ∧ V (tSl (tI .i64)) sT rv O w')) := by
  have hS := St.start w O hO
  refine enterR Try.func47 rfl Try.ntmps47 Try.results47 rfl ?_
  refine W.seq ?_
  refine W.reg ?_
  refine Wx.alloc (cs := [.int .i64 0, .int .i64 0, (.slice none 0 0)]) hS Try.zeroValue24 rfl rfl (fun g_1 w_2 hx_4 hb_3 hS => ?_)
  refine Wx.nil ?_
  refine W.seq ?_
  refine W.reg ?_
  refine Wx.lit (t := (tI .i64)) (ys := [9, 3, 6, 1]) (vs := [.int .i64 9, .int .i64 3, .int .i64 6, .int .i64 1]) elMa_22 hS rfl rfl ⟨(V.mkInt (in_i64 (by omega) (by omega))), ⟨(V.mkInt (in_i64 (by omega) (by omega))), ⟨(V.mkInt (in_i64 (by omega) (by omega))), ⟨(V.mkInt (in_i64 (by omega) (by omega))), trivial⟩⟩⟩⟩ (by decide) rfl (fun v_5 w_6 hx_7 hS => ?_)
  have hS := hS.freeze 0 rfl
  refine Wx.callF (run_callF Try.call49 rfl) (F49 (hS.v 0 rfl) hS.fb_lt) rfl ?_
  rintro r_9 w_10 hx_11 ⟨_, rfl, hv_12⟩
  have ln_14 := hv_12.len63
  have hS := hS.ext hx_11
  have hS := hS.add hv_12
  refine Wx.rd (v := .agg #[.int .i64 4, .int .i64 1, r_9]) (rd_buildC (vs := [(0, .int .i64 4), (1, .int .i64 1), (2, r_9)]) (us := [(0, .agg #[.int .i64 4]), (1, .agg #[.int .i64 1]), (2, .agg #[r_9])]) rfl (parts_cons rfl (parts_cons rfl (parts_cons (Go.Wk.cells_one (V.oneC (hS.v 0 rfl))) parts_nil))) (by kernel_rfl)) rfl ?_
  refine Wx.storeX (cs' := [.int .i64 4, .int .i64 1, r_9]) (ds := [.int .i64 4, .int .i64 1, r_9]) hS 2 rfl rfl rfl rfl Try.sizeOf24 (Nat.le_of_ble_eq_true rfl) (one_cons rfl (one_cons rfl (one_cons (V.oneC (hS.v 0 rfl)) one_nil))) rfl (fun w_15 hz_16 hS => ?_)
  refine Wx.nil ?_
  have e0_2 : sT = [9, 3, 6, 1] := by rfl
  exact W.ret ⟨.agg #[.int .i64 4, .int .i64 1, r_9], (ResIs.cell1 hS 2 rfl rfl Try.isAgg24 Try.sizeOf24), hS.bel, ⟨r_9, rfl, (by rw [e0_2]; exact (V.mv (hS.v 0 rfl) (.less (fun _ h => List.mem_append.2 (.inr h)))))⟩⟩

end Go.Proofs.Ytjhimoeodkaihaa
