/-
  WHAT IS PROVED HERE, TEXT BY TEXT (several texts of one prover, joined to one file; the conditions stand in each statement):
  * WHAT IS PROVED HERE: what functions of layer 5 hand back, each out of its own code; the conditions stand in each statement.
  * WHAT IS PROVED HERE: what functions of layer 5 hand back, each out of its own code; the conditions stand in each statement.
  * WHAT IS PROVED HERE: the tail of a slice of the call's own, where it does not begin at the capacity's end. Conditions stand in the statement; it holds over any program.
  * WHAT IS PROVED HERE: what functions of layer 5 hand back, each out of its own code; the conditions stand in each statement.
  * WHAT IS PROVED HERE: what functions of layer 5 hand back, each out of its own code; the conditions stand in each statement.
  * WHAT IS PROVED HERE: what functions of layer 5 hand back, each out of its own code; the conditions stand in each statement.
  * WHAT IS PROVED HERE: what functions of layer 5 hand back, each out of its own code; the conditions stand in each statement.
  * WHAT IS PROVED HERE: what functions of layer 5 hand back, each out of its own code; the conditions stand in each statement.
-/
import Derived.Test.YtokdjjebnomciaaDoorProg
import Derived.Test.YtokdjjebnomciaaDoorU2
import Derived.Test.YtokdjjebnomciaaDoorU3

set_option linter.unusedVariables false
set_option linter.unusedSimpArgs false

namespace Go.Proofs.YtokdjjebnomciaaDoor
open Go.Wk Go.RowKit Go.Lib
set_option linter.unusedVariables false
set_option linter.unusedSimpArgs false
theorem mixedHc_ : Tryd.prog.follows .mixedOrders = true := by kernel_rfl
theorem foHc_94_1 : fldOff Tryd.prog 94 1 = some 1 := by kernel_rfl
theorem foHc_82_0 : fldOff Tryd.prog 82 0 = some 0 := by kernel_rfl
theorem foHc_82_1 : fldOff Tryd.prog 82 1 = some 1 := by kernel_rfl
theorem foHc_94_0 : fldOff Tryd.prog 94 0 = some 0 := by kernel_rfl

theorem F91 {g : Nat} {s : ByteArray} {T : Tab} {i : Int} {j : Int} {n : Int} {w : World} (x_g : w.heap[g]? = some (.cells (tabC s T).toArray 94 (0, 0))) (i_i : InK .i64 i) (i_j : InK .i64 j) (i_n : InK .i64 n) (p_T : TabB T) (p_i : 0 ≤ i) (p_i2 : i < 12) (p_j : 0 ≤ j) (p_j2 : j < 12) (p_n : 0 ≤ n) (p_n2 : n ≤ 12) : Calls Tryd.prog 91 #[.pointer (some ⟨g, 0, none⟩), .int .i64 i, .int .i64 j, .int .i64 n] w (Ret w (fun r _ => r = .agg #[.int .i64 ((T (i + 1) j).1 + (T (j + 1) n).1 + 1), .int .i64 ((T (i + 1) j).2 * (T (j + 1) n).2)])) := by
  have b_n := bd_i64 i_n
  have b_j := bd_i64 i_j
  have b_i := bd_i64 i_i
  have hm := p_T.mul i j n
  have hS := St.start0 w
  refine enterR Tryd.func91 rfl Tryd.ntmps91 Tryd.results91 rfl ?_
  refine W.seq ?_
  refine W.reg ?_
  refine Wx.alloc (cs := [.int .i64 0, .int .i64 0]) hS Tryd.zeroValue82 rfl rfl (fun g_1 w_2 hx_4 hb_3 hS => ?_)
  refine Wx.nil ?_
  refine W.seq ?_
  refine W.regH mixedHc_ (fun w_5 hx_6 => ?_)
  have h0 := hS
  have hS := (St.start _ _ h0.fb_lt).ext hx_6
  refine Wh.rd (v := .pointer (some ⟨g, 0, none⟩)) 0 rfl (by kernel_rfl) hS.bel (rd_move rfl) rfl ?_
  refine Wh.rd (v := .int .i64 i) 1 rfl (by kernel_rfl) hS.bel (rd_move rfl) rfl ?_
  refine Wh.rd (v := .int .i64 (i + 1)) 2 rfl (by kernel_rfl) hS.bel (rd_add rfl rfl (in_i64 (by omega) (by omega))) rfl ?_
  refine Wh.rd (v := .int .i64 j) 3 rfl (by kernel_rfl) hS.bel (rd_move rfl) rfl ?_
  refine Wh.rd (v := .pointer (some ⟨g, 0, none⟩)) 4 rfl (by kernel_rfl) hS.bel (rd_nilCheck rfl rfl) rfl ?_
  refine Wh.rd (v := .pointer (some ⟨g, 1, none⟩)) 5 rfl (by kernel_rfl) hS.bel (rd_fieldAddr (o := 0) rfl foHc_94_1) rfl ?_
  refine Wh.rd (v := .pointer (some ⟨g, 1 + (i + 1).toNat * 26, none⟩)) 6 rfl (by kernel_rfl) hS.bel (rd_indexArr (o := 1) rfl rfl Tryd.underlying92 Tryd.sizeOf91 (by omega) (by omega)) rfl ?_
  refine Wh.rd (v := .pointer (some ⟨g, 1 + (i + 1).toNat * 26 + j.toNat * 2, none⟩)) 7 rfl (by kernel_rfl) hS.bel (rd_indexArr (o := 1 + (i + 1).toNat * 26) rfl rfl Tryd.underlying91 Tryd.sizeOf82 (by omega) (by omega)) rfl ?_
  refine Wh.rd (v := .agg #[.int .i64 ((T (i + 1) j).1), .int .i64 ((T (i + 1) j).2)]) 8 rfl (by kernel_rfl) hS.bel (rd_tabP (fun _ q => extAt x_g (Ext.trans h0.bel q)) rfl (by omega) (by omega) (by omega) (by omega) Tryd.isAgg82 Tryd.sizeOf82) rfl ?_
  have bt_7 := p_T (i + 1) j
  refine Wh.rd (v := .pointer (some ⟨g, 0, none⟩)) 9 rfl (by kernel_rfl) hS.bel (rd_move rfl) rfl ?_
  refine Wh.rd (v := .int .i64 j) 10 rfl (by kernel_rfl) hS.bel (rd_move rfl) rfl ?_
  refine Wh.rd (v := .int .i64 (j + 1)) 11 rfl (by kernel_rfl) hS.bel (rd_add rfl rfl (in_i64 (by omega) (by omega))) rfl ?_
  refine Wh.rd (v := .int .i64 n) 12 rfl (by kernel_rfl) hS.bel (rd_move rfl) rfl ?_
  refine Wh.rd (v := .pointer (some ⟨g, 0, none⟩)) 13 rfl (by kernel_rfl) hS.bel (rd_nilCheck rfl rfl) rfl ?_
  refine Wh.rd (v := .pointer (some ⟨g, 1, none⟩)) 14 rfl (by kernel_rfl) hS.bel (rd_fieldAddr (o := 0) rfl foHc_94_1) rfl ?_
  refine Wh.rd (v := .pointer (some ⟨g, 1 + (j + 1).toNat * 26, none⟩)) 15 rfl (by kernel_rfl) hS.bel (rd_indexArr (o := 1) rfl rfl Tryd.underlying92 Tryd.sizeOf91 (by omega) (by omega)) rfl ?_
  refine Wh.rd (v := .pointer (some ⟨g, 1 + (j + 1).toNat * 26 + n.toNat * 2, none⟩)) 16 rfl (by kernel_rfl) hS.bel (rd_indexArr (o := 1 + (j + 1).toNat * 26) rfl rfl Tryd.underlying91 Tryd.sizeOf82 (by omega) (by omega)) rfl ?_
  refine Wh.rd (v := .agg #[.int .i64 ((T (j + 1) n).1), .int .i64 ((T (j + 1) n).2)]) 17 rfl (by kernel_rfl) hS.bel (rd_tabP (fun _ q => extAt x_g (Ext.trans h0.bel q)) rfl (by omega) (by omega) (by omega) (by omega) Tryd.isAgg82 Tryd.sizeOf82) rfl ?_
  have bt_8 := p_T (j + 1) n
  refine Wh.br [18, 19] (by kernel_rfl) (by decide) ⟨⟨_, rfl, ?_⟩, ⟨_, rfl, ?_⟩, trivial⟩
  · -- operation 18
    refine Wx.alloc (cs := [.int .i64 0, .int .i64 0]) hS Tryd.zeroValue82 rfl rfl (fun g_9 w_10 hx_12 hb_11 hS => ?_)
    refine Wx.nil ⟨hS.bel, ?_⟩
    refine Wh.br [19] (by kernel_rfl) (by decide) ⟨⟨_, rfl, ?_⟩, trivial⟩
    refine Wx.alloc (cs := [.int .i64 0, .int .i64 0]) hS Tryd.zeroValue82 rfl rfl (fun g_13 w_14 hx_16 hb_15 hS => ?_)
    refine Wx.nil ⟨hS.bel, ?_⟩
    refine Wh.br [20] (by kernel_rfl) (by decide) ⟨⟨_, rfl, ?_⟩, trivial⟩
    refine Wx.storeX (cs' := [.int .i64 ((T (i + 1) j).1), .int .i64 ((T (i + 1) j).2)]) (ds := [.int .i64 ((T (i + 1) j).1), .int .i64 ((T (i + 1) j).2)]) hS 1 rfl rfl rfl rfl Tryd.sizeOf82 (Nat.le_of_ble_eq_true rfl) (one_cons rfl (one_cons rfl one_nil)) rfl (fun w_17 hz_18 hS => ?_)
    refine Wx.nil ⟨hS.bel, ?_⟩
    refine Wh.br [21] (by kernel_rfl) (by decide) ⟨⟨_, rfl, ?_⟩, trivial⟩
    refine Wx.storeX (cs' := [.int .i64 ((T (j + 1) n).1), .int .i64 ((T (j + 1) n).2)]) (ds := [.int .i64 ((T (j + 1) n).1), .int .i64 ((T (j + 1) n).2)]) hS 0 rfl rfl rfl rfl Tryd.sizeOf82 (Nat.le_of_ble_eq_true rfl) (one_cons rfl (one_cons rfl one_nil)) rfl (fun w_19 hz_20 hS => ?_)
    refine Wx.nil ⟨hS.bel, ?_⟩
    refine Wh.done (by kernel_rfl) ?_
    have hS := h0.merge hS
    refine W.seq ?_
    refine W.reg ?_
    refine Wx.rd (v := .pointer (some ⟨g_9, 0, none⟩)) (rd_fieldAddr rfl foHc_82_0) rfl ?_
    refine Wx.rd (v := .int .i64 ((T (i + 1) j).1)) (rd_loadX hS 1 rfl rfl rfl Tryd.isAgg3) rfl ?_
    refine Wx.rd (v := .pointer (some ⟨g_13, 0, none⟩)) (rd_fieldAddr rfl foHc_82_0) rfl ?_
    refine Wx.rd (v := .int .i64 ((T (j + 1) n).1)) (rd_loadX hS 0 rfl rfl rfl Tryd.isAgg3) rfl ?_
    refine Wx.rd (v := .int .i64 (((T (i + 1) j).1) + ((T (j + 1) n).1))) (rd_add rfl rfl (in_i64 (by omega) (by omega))) rfl ?_
    refine Wx.rd (v := .int .i64 ((((T (i + 1) j).1) + ((T (j + 1) n).1)) + 1)) (rd_add rfl rfl (in_i64 (by omega) (by omega))) rfl ?_
    refine Wx.rd (v := .pointer (some ⟨g_9, 1, none⟩)) (rd_fieldAddr rfl foHc_82_1) rfl ?_
    refine Wx.rd (v := .int .i64 ((T (i + 1) j).2)) (rd_loadX hS 1 rfl rfl rfl Tryd.isAgg3) rfl ?_
    refine Wx.rd (v := .pointer (some ⟨g_13, 1, none⟩)) (rd_fieldAddr rfl foHc_82_1) rfl ?_
    refine Wx.rd (v := .int .i64 ((T (j + 1) n).2)) (rd_loadX hS 0 rfl rfl rfl Tryd.isAgg3) rfl ?_
    refine Wx.rd (v := .int .i64 (((T (i + 1) j).2) * ((T (j + 1) n).2))) (rd_mul rfl rfl (in_i64 (by omega) (by omega))) rfl ?_
    refine Wx.rd (v := .agg #[.int .i64 ((((T (i + 1) j).1) + ((T (j + 1) n).1)) + 1), .int .i64 (((T (i + 1) j).2) * ((T (j + 1) n).2))]) (rd_build (vs := [(0, .int .i64 ((((T (i + 1) j).1) + ((T (j + 1) n).1)) + 1)), (1, .int .i64 (((T (i + 1) j).2) * ((T (j + 1) n).2)))]) rfl (by kernel_rfl)) rfl ?_
    refine Wx.storeX (cs' := [.int .i64 ((((T (i + 1) j).1) + ((T (j + 1) n).1)) + 1), .int .i64 (((T (i + 1) j).2) * ((T (j + 1) n).2))]) (ds := [.int .i64 ((((T (i + 1) j).1) + ((T (j + 1) n).1)) + 1), .int .i64 (((T (i + 1) j).2) * ((T (j + 1) n).2))]) hS 2 rfl rfl rfl rfl Tryd.sizeOf82 (Nat.le_of_ble_eq_true rfl) (one_cons rfl (one_cons rfl one_nil)) rfl (fun w_21 hz_22 hS => ?_)
    refine Wx.nil ?_
    have e0_0 : ((T (i + 1) j).1 + (T (j + 1) n).1 + 1) = ((((T (i + 1) j).1) + ((T (j + 1) n).1)) + 1 : Int) := by first | rfl | omega
    have e0_1 : ((T (i + 1) j).2 * (T (j + 1) n).2) = (((T (i + 1) j).2) * ((T (j + 1) n).2) : Int) := by first | rfl | omega
    exact W.ret ⟨.agg #[.int .i64 ((((T (i + 1) j).1) + ((T (j + 1) n).1)) + 1), .int .i64 (((T (i + 1) j).2) * ((T (j + 1) n).2))], (ResIs.cell1 hS 2 rfl rfl Tryd.isAgg82 Tryd.sizeOf82), hS.bel, (by rw [e0_0, e0_1])⟩
  · -- operation 19
    refine Wx.alloc (cs := [.int .i64 0, .int .i64 0]) hS Tryd.zeroValue82 rfl rfl (fun g_23 w_24 hx_26 hb_25 hS => ?_)
    refine Wx.nil ⟨hS.bel, ?_⟩
    refine Wh.br [18] (by kernel_rfl) (by decide) ⟨⟨_, rfl, ?_⟩, trivial⟩
    refine Wx.alloc (cs := [.int .i64 0, .int .i64 0]) hS Tryd.zeroValue82 rfl rfl (fun g_27 w_28 hx_30 hb_29 hS => ?_)
    refine Wx.nil ⟨hS.bel, ?_⟩
    refine Wh.br [20] (by kernel_rfl) (by decide) ⟨⟨_, rfl, ?_⟩, trivial⟩
    refine Wx.storeX (cs' := [.int .i64 ((T (i + 1) j).1), .int .i64 ((T (i + 1) j).2)]) (ds := [.int .i64 ((T (i + 1) j).1), .int .i64 ((T (i + 1) j).2)]) hS 0 rfl rfl rfl rfl Tryd.sizeOf82 (Nat.le_of_ble_eq_true rfl) (one_cons rfl (one_cons rfl one_nil)) rfl (fun w_31 hz_32 hS => ?_)
    refine Wx.nil ⟨hS.bel, ?_⟩
    refine Wh.br [21] (by kernel_rfl) (by decide) ⟨⟨_, rfl, ?_⟩, trivial⟩
    refine Wx.storeX (cs' := [.int .i64 ((T (j + 1) n).1), .int .i64 ((T (j + 1) n).2)]) (ds := [.int .i64 ((T (j + 1) n).1), .int .i64 ((T (j + 1) n).2)]) hS 1 rfl rfl rfl rfl Tryd.sizeOf82 (Nat.le_of_ble_eq_true rfl) (one_cons rfl (one_cons rfl one_nil)) rfl (fun w_33 hz_34 hS => ?_)
    refine Wx.nil ⟨hS.bel, ?_⟩
    refine Wh.done (by kernel_rfl) ?_
    have hS := h0.merge hS
    refine W.seq ?_
    refine W.reg ?_
    refine Wx.rd (v := .pointer (some ⟨g_27, 0, none⟩)) (rd_fieldAddr rfl foHc_82_0) rfl ?_
    refine Wx.rd (v := .int .i64 ((T (i + 1) j).1)) (rd_loadX hS 0 rfl rfl rfl Tryd.isAgg3) rfl ?_
    refine Wx.rd (v := .pointer (some ⟨g_23, 0, none⟩)) (rd_fieldAddr rfl foHc_82_0) rfl ?_
    refine Wx.rd (v := .int .i64 ((T (j + 1) n).1)) (rd_loadX hS 1 rfl rfl rfl Tryd.isAgg3) rfl ?_
    refine Wx.rd (v := .int .i64 (((T (i + 1) j).1) + ((T (j + 1) n).1))) (rd_add rfl rfl (in_i64 (by omega) (by omega))) rfl ?_
    refine Wx.rd (v := .int .i64 ((((T (i + 1) j).1) + ((T (j + 1) n).1)) + 1)) (rd_add rfl rfl (in_i64 (by omega) (by omega))) rfl ?_
    refine Wx.rd (v := .pointer (some ⟨g_27, 1, none⟩)) (rd_fieldAddr rfl foHc_82_1) rfl ?_
    refine Wx.rd (v := .int .i64 ((T (i + 1) j).2)) (rd_loadX hS 0 rfl rfl rfl Tryd.isAgg3) rfl ?_
    refine Wx.rd (v := .pointer (some ⟨g_23, 1, none⟩)) (rd_fieldAddr rfl foHc_82_1) rfl ?_
    refine Wx.rd (v := .int .i64 ((T (j + 1) n).2)) (rd_loadX hS 1 rfl rfl rfl Tryd.isAgg3) rfl ?_
    refine Wx.rd (v := .int .i64 (((T (i + 1) j).2) * ((T (j + 1) n).2))) (rd_mul rfl rfl (in_i64 (by omega) (by omega))) rfl ?_
    refine Wx.rd (v := .agg #[.int .i64 ((((T (i + 1) j).1) + ((T (j + 1) n).1)) + 1), .int .i64 (((T (i + 1) j).2) * ((T (j + 1) n).2))]) (rd_build (vs := [(0, .int .i64 ((((T (i + 1) j).1) + ((T (j + 1) n).1)) + 1)), (1, .int .i64 (((T (i + 1) j).2) * ((T (j + 1) n).2)))]) rfl (by kernel_rfl)) rfl ?_
    refine Wx.storeX (cs' := [.int .i64 ((((T (i + 1) j).1) + ((T (j + 1) n).1)) + 1), .int .i64 (((T (i + 1) j).2) * ((T (j + 1) n).2))]) (ds := [.int .i64 ((((T (i + 1) j).1) + ((T (j + 1) n).1)) + 1), .int .i64 (((T (i + 1) j).2) * ((T (j + 1) n).2))]) hS 2 rfl rfl rfl rfl Tryd.sizeOf82 (Nat.le_of_ble_eq_true rfl) (one_cons rfl (one_cons rfl one_nil)) rfl (fun w_35 hz_36 hS => ?_)
    refine Wx.nil ?_
    have e0_0 : ((T (i + 1) j).1 + (T (j + 1) n).1 + 1) = ((((T (i + 1) j).1) + ((T (j + 1) n).1)) + 1 : Int) := by first | rfl | omega
    have e0_1 : ((T (i + 1) j).2 * (T (j + 1) n).2) = (((T (i + 1) j).2) * ((T (j + 1) n).2) : Int) := by first | rfl | omega
    exact W.ret ⟨.agg #[.int .i64 ((((T (i + 1) j).1) + ((T (j + 1) n).1)) + 1), .int .i64 (((T (i + 1) j).2) * ((T (j + 1) n).2))], (ResIs.cell1 hS 2 rfl rfl Tryd.isAgg82 Tryd.sizeOf82), hS.bel, (by rw [e0_0, e0_1])⟩

theorem F67 {g : Nat} {s : ByteArray} {T : Tab} {w : World} (x_g : w.heap[g]? = some (.cells (tabC s T).toArray 94 (0, 0))) (p_T : TabB T) (p_s : (s.size : Int) ≤ 12) : Calls Tryd.prog 67 #[.pointer (some ⟨g, 0, none⟩)] w (Ret w (fun r _ => r = .agg #[.int .i64 ((T 0 s.size).1), .int .i64 ((T 0 s.size).2)])) := by
  have hS := St.start0 w
  refine enterR Tryd.func67 rfl Tryd.ntmps67 Tryd.results67 rfl ?_
  refine W.seq ?_
  refine W.reg ?_
  refine Wx.alloc (cs := [.int .i64 0, .int .i64 0]) hS Tryd.zeroValue82 rfl rfl (fun g_1 w_2 hx_4 hb_3 hS => ?_)
  refine Wx.nil ?_
  refine W.seq ?_
  refine W.regT 11 mixedHc_ (by kernel_rfl) ?_
  refine Wx.rd (v := .pointer (some ⟨g, 0, none⟩)) (rd_move rfl) rfl ?_
  refine Wx.rd (v := .pointer (some ⟨g, 0, none⟩)) (rd_move rfl) rfl ?_
  refine Wx.rd (v := .pointer (some ⟨g, 0, none⟩)) (rd_nilCheck rfl rfl) rfl ?_
  refine Wx.rd (v := .pointer (some ⟨g, 0, none⟩)) (rd_fieldAddr (o := 0) rfl foHc_94_0) rfl ?_
  refine Wx.rd (v := .string s) (rd_tabS (fun _ q => extAt x_g (Ext.trans hS.bel q)) rfl Tryd.isAgg9) rfl ?_
  refine Wx.rd (v := .int .i64 (s.size : Int)) (rd_lenS rfl Tryd.underlying9) rfl ?_
  refine Wx.rd (v := .pointer (some ⟨g, 0, none⟩)) (rd_nilCheck rfl rfl) rfl ?_
  refine Wx.rd (v := .pointer (some ⟨g, 1, none⟩)) (rd_fieldAddr (o := 0) rfl foHc_94_1) rfl ?_
  refine Wx.rd (v := .pointer (some ⟨g, 1 + (0 : Int).toNat * 26, none⟩)) (rd_indexArr (o := 1) rfl rfl Tryd.underlying92 Tryd.sizeOf91 (by omega) (by omega)) rfl ?_
  refine Wx.rd (v := .pointer (some ⟨g, 1 + (0 : Int).toNat * 26 + (s.size : Int).toNat * 2, none⟩)) (rd_indexArr (o := 1 + (0 : Int).toNat * 26) rfl rfl Tryd.underlying91 Tryd.sizeOf82 (by omega) (by omega)) rfl ?_
  refine Wx.rd (v := .agg #[.int .i64 ((T (0 : Int) (s.size : Int)).1), .int .i64 ((T (0 : Int) (s.size : Int)).2)]) (rd_tabP (fun _ q => extAt x_g (Ext.trans hS.bel q)) rfl (by omega) (by omega) (by omega) (by omega) Tryd.isAgg82 Tryd.sizeOf82) rfl ?_
  have bt_5 := p_T (0 : Int) (s.size : Int)
  refine Wx.nilQ (fun w_6 hx_7 => ?_)
  have hS := hS.ext hx_7
  refine Wx.storeX (cs' := [.int .i64 ((T (0 : Int) (s.size : Int)).1), .int .i64 ((T (0 : Int) (s.size : Int)).2)]) (ds := [.int .i64 ((T (0 : Int) (s.size : Int)).1), .int .i64 ((T (0 : Int) (s.size : Int)).2)]) hS 0 rfl rfl rfl rfl Tryd.sizeOf82 (Nat.le_of_ble_eq_true rfl) (one_cons rfl (one_cons rfl one_nil)) rfl (fun w_8 hz_9 hS => ?_)
  refine Wx.nil ?_
  have e0_0 : ((T 0 s.size).1) = ((T (0 : Int) (s.size : Int)).1 : Int) := by first | rfl | omega
  have e0_1 : ((T 0 s.size).2) = ((T (0 : Int) (s.size : Int)).2 : Int) := by first | rfl | omega
  exact W.ret ⟨.agg #[.int .i64 ((T (0 : Int) (s.size : Int)).1), .int .i64 ((T (0 : Int) (s.size : Int)).2)], (ResIs.cell1 hS 0 rfl rfl Tryd.isAgg82 Tryd.sizeOf82), hS.bel, (by rw [e0_0, e0_1])⟩

theorem F66 {rim : ByteArray} {w : World} (s_rim : rim.size ≤ maxLen) (p_12 : (rim.size : Int) ≤ 12) (p_l : Lets rim) (hG : Laid w) : Calls Tryd.prog 66 #[.string rim] w (Ret w (fun r w' => ∃ g T, r = .pointer (some ⟨g, 0, none⟩) ∧ w.heap.size ≤ g ∧ w'.heap[g]? = some (.cells (tabC rim T).toArray 94 (0, 0)) ∧ TabOK rim T)) := by
  have hS := St.start0 w
  refine enterR Tryd.func66 rfl Tryd.ntmps66 Tryd.results66 rfl ?_
  refine W.seq ?_
  refine W.reg ?_
  refine Wx.rd (v := (Go.Value.pointer none)) (rd_assign rfl) rfl ?_
  refine Wx.nil ?_
  refine W.seq ?_
  refine W.reg ?_
  refine Wx.rd (v := .string rim) (rd_move rfl) rfl ?_
  refine Wx.rd (v := .agg (tabC rim (fun _ _ => (0, 0))).toArray) (rd_build (vs := [(0, .string rim)]) rfl (by kernel_rfl)) rfl ?_
  refine Wx.box (cs := tabC rim (fun _ _ => (0, 0))) hS rfl rfl rfl (fun g_1 w_2 hx_4 hb_3 hS => ?_)
  refine Wx.rd (v := .pointer (some ⟨g_1, 0, none⟩)) (rd_assign rfl) rfl ?_
  refine Wx.nil ?_
  refine W.seq ?_
  refine W.seq ?_
  refine W.reg ?_
  refine Wx.rd (v := .string rim) (rd_move rfl) rfl ?_
  refine Wx.rd (v := .int .i64 (rim.size : Int)) (rd_lenS rfl Tryd.underlying9) rfl ?_
  refine Wx.rd (v := .int .i64 ((rim.size : Int) + 1)) (rd_add rfl rfl (in_i64 (by omega) (by omega))) rfl ?_
  refine Wx.rd (v := .int .i64 0) (rd_move rfl) rfl ?_
  refine Wx.nil ?_
  refine W.block ?_
  refine W.loop [4, 5, 6, 7, 8, 15, 16, 17, 18, 19, 20, 21, 22, 23, 24, 25, 26, 27, 28, 29, 30, 31, 32, 33, 34, 35, 36, 37, 38, 39, 40, 41, 42, 43, 44, 45, 46, 47, 48, 49, 50, 51, 52, 53, 54, 55, 56, 57, 58, 59, 60, 61, 62, 63, 64, 65, 66, 67, 68, 69, 70, 71, 72, 73, 74, 75, 76, 77, 78, 79, 80, 81, 82, 83, 84, 85] (fun x : Int × Tab => match x with | (n, T) => [(15, .int .i64 n)]) (fun (x : Int × Tab) w' => match x with | (n, T) => St w [] w' [.box g_1 94 (tabC rim T)] ∧ 0 ≤ n ∧ n ≤ rim.size + 1 ∧ TabB T ∧ (∀ a b, 0 ≤ a → a ≤ b → b < n → T a b = partP (fitR rim) a b)) (fun x : Int × Tab => match x with | (n, T) => (rim.size + 1 - n).toNat) (0, (fun _ _ => (0, 0))) ⟨rfl, trivial⟩ ⟨hS, (by first | omega | simp), (by first | omega | simp), (TabB.zero), (fun a b a0 ab b0 => by omega)⟩ ?_
  rintro ⟨n, T⟩ u_6 w_5 ⟨hS, h0, h1, hB, hT⟩
  refine W.seq ?_
  refine W.reg ?_
  refine Wx.rd (v := .bool (decide (n < ((rim.size : Int) + 1)))) (rd_lss rfl rfl) rfl ?_
  refine Wx.nil ?_
  refine W.seq ?_
  refine W.condD rfl (fun c0 => ?_) (fun c0 => ?_)
  · -- yes
    refine W.skip ?_
    refine W.seq ?_
    refine W.block ?_
    refine W.seq ?_
    refine W.reg ?_
    refine Wx.rd (v := .int .i64 n) (rd_move rfl) rfl ?_
    refine Wx.rd (v := .int .i64 n) (rd_assign rfl) rfl ?_
    refine Wx.nil ?_
    refine W.seq ?_
    refine W.reg ?_
    refine Wx.rd (v := .pointer (some ⟨g_1, 0, none⟩)) (rd_move rfl) rfl ?_
    refine Wx.rd (v := .int .i64 n) (rd_move rfl) rfl ?_
    refine Wx.rd (v := .int .i64 n) (rd_move rfl) rfl ?_
    refine Wx.rd (v := .agg #[.int .i64 0, .int .i64 1]) (rd_build (vs := [(0, .int .i64 0), (1, .int .i64 1)]) rfl (by kernel_rfl)) rfl ?_
    refine Wx.rd (v := .pointer (some ⟨g_1, 0, none⟩)) (rd_nilCheck rfl rfl) rfl ?_
    refine Wx.rd (v := .pointer (some ⟨g_1, 1, none⟩)) (rd_fieldAddr (o := 0) rfl foHc_94_1) rfl ?_
    refine Wx.rd (v := .pointer (some ⟨g_1, 1 + n.toNat * 26, none⟩)) (rd_indexArr (o := 1) rfl rfl Tryd.underlying92 Tryd.sizeOf91 (by omega) (by omega)) rfl ?_
    refine Wx.rd (v := .pointer (some ⟨g_1, 1 + n.toNat * 26 + n.toNat * 2, none⟩)) (rd_indexArr (o := 1 + n.toNat * 26) rfl rfl Tryd.underlying91 Tryd.sizeOf82 (by omega) (by omega)) rfl ?_
    refine Wx.storeX (cs' := tabC rim (updT T n n (0, 1))) (ds := [.int .i64 0, .int .i64 1]) hS 0 rfl rfl rfl rfl Tryd.sizeOf82 (by rw [tabC_len]; show _ + 2 ≤ 339; omega) (one_cons rfl (one_cons rfl one_nil)) (tabC_set rim T (by omega) (by omega) (by omega) (by omega) 0 1) (fun w_7 hz_8 hS => ?_)
    refine Wx.nil ?_
    refine W.seq ?_
    refine W.reg ?_
    refine Wx.rd (v := .int .i64 n) (rd_move rfl) rfl ?_
    refine Wx.rd (v := .int .i64 (n - 1)) (rd_sub rfl rfl (in_i64 (by omega) (by omega))) rfl ?_
    refine Wx.rd (v := .int .i64 (n - 1)) (rd_assign rfl) rfl ?_
    refine Wx.nil ?_
    refine W.block ?_
    refine W.loop [5, 6, 7, 8, 28, 29, 30, 31, 32, 33, 34, 35, 36, 37, 38, 39, 40, 41, 42, 43, 44, 45, 46, 47, 48, 49, 50, 51, 52, 53, 54, 55, 56, 57, 58, 59, 60, 61, 62, 63, 64, 65, 66, 67, 68, 69, 70, 71, 72, 73, 74, 75, 76, 77, 78, 79, 80, 81, 82, 83, 84] (fun x : Int × Tab => match x with | (i, T2) => [(5, .int .i64 i)]) (fun (x : Int × Tab) w' => match x with | (i, T2) => St w [] w' [.box g_1 94 (tabC rim T2)] ∧ -1 ≤ i ∧ i < n ∧ TabB T2 ∧ (∀ a b, 0 ≤ a → a ≤ b → b < n → T2 a b = partP (fitR rim) a b) ∧ (∀ a, i < a → a ≤ n → T2 a n = partP (fitR rim) a n)) (fun x : Int × Tab => match x with | (i, T2) => (i + 1).toNat) (n - 1, updT T n n (0, 1)) ⟨rfl, trivial⟩ ⟨hS, (by first | omega | simp), (by first | omega | simp), (hB.upd (by decide)), (fun a b a0 ab hb => by rw [updT_ne (by omega)]; exact hT a b a0 ab hb), (fun a h1 h2 => by rw [show a = n by omega, updT_at, partP_nil (by omega)])⟩ ?_
    rintro ⟨i, T2⟩ u_10 w_9 ⟨hS, g0, g1, hB, hT2, hN⟩
    refine W.seq ?_
    refine W.seq ?_
    refine W.reg ?_
    refine Wx.rd (v := .int .i64 i) (rd_move rfl) rfl ?_
    refine Wx.rd (v := .bool (decide (0 ≤ i))) (rd_geq rfl rfl) rfl ?_
    refine Wx.nil ?_
    refine W.condD rfl (fun c1 => ?_) (fun c1 => ?_)
    · -- yes
      refine W.skip ?_
      refine W.seq ?_
      refine W.block ?_
      refine W.seq ?_
      refine W.reg ?_
      refine Wx.rd (v := .pointer (some ⟨g_1, 0, none⟩)) (rd_move rfl) rfl ?_
      refine Wx.rd (v := .int .i64 i) (rd_move rfl) rfl ?_
      refine Wx.rd (v := .int .i64 (i + 1)) (rd_add rfl rfl (in_i64 (by omega) (by omega))) rfl ?_
      refine Wx.rd (v := .int .i64 n) (rd_move rfl) rfl ?_
      refine Wx.rd (v := .pointer (some ⟨g_1, 0, none⟩)) (rd_nilCheck rfl rfl) rfl ?_
      refine Wx.rd (v := .pointer (some ⟨g_1, 1, none⟩)) (rd_fieldAddr (o := 0) rfl foHc_94_1) rfl ?_
      refine Wx.rd (v := .pointer (some ⟨g_1, 1 + (i + 1).toNat * 26, none⟩)) (rd_indexArr (o := 1) rfl rfl Tryd.underlying92 Tryd.sizeOf91 (by omega) (by omega)) rfl ?_
      refine Wx.rd (v := .pointer (some ⟨g_1, 1 + (i + 1).toNat * 26 + n.toNat * 2, none⟩)) (rd_indexArr (o := 1 + (i + 1).toNat * 26) rfl rfl Tryd.underlying91 Tryd.sizeOf82 (by omega) (by omega)) rfl ?_
      refine Wx.rd (v := .agg #[.int .i64 ((T2 (i + 1) n).1), .int .i64 ((T2 (i + 1) n).2)]) (rd_tabP (fun _ q => boxAt hS 0 rfl q) rfl (by omega) (by omega) (by omega) (by omega) Tryd.isAgg82 Tryd.sizeOf82) rfl ?_
      have bt_11 := hB (i + 1) n
      refine Wx.alloc (cs := [.int .i64 0, .int .i64 0]) hS Tryd.zeroValue82 rfl rfl (fun g_12 w_13 hx_15 hb_14 hS => ?_)
      refine Wx.storeX (cs' := [.int .i64 ((T2 (i + 1) n).1), .int .i64 ((T2 (i + 1) n).2)]) (ds := [.int .i64 ((T2 (i + 1) n).1), .int .i64 ((T2 (i + 1) n).2)]) hS 0 rfl rfl rfl rfl Tryd.sizeOf82 (Nat.le_of_ble_eq_true rfl) (one_cons rfl (one_cons rfl one_nil)) rfl (fun w_16 hz_17 hS => ?_)
      refine Wx.nil ?_
      refine W.seq ?_
      refine W.seq ?_
      refine W.reg ?_
      refine Wx.rd (v := .int .i64 i) (rd_move rfl) rfl ?_
      refine Wx.rd (v := .int .i64 (i + 1)) (rd_add rfl rfl (in_i64 (by omega) (by omega))) rfl ?_
      refine Wx.rd (v := .int .i64 (i + 1)) (rd_assign rfl) rfl ?_
      refine Wx.nil ?_
      refine W.block ?_
      refine W.loop [7, 8, 43, 44, 45, 46, 47, 48, 49, 50, 51, 52, 53, 54, 55, 56, 57, 58, 59, 60, 61, 62, 63, 64, 65, 66, 67, 68, 69, 70, 71, 72, 73, 74, 75, 76] (fun x : Int × Int × Int => match x with | (j, bm, bc) => [(7, .int .i64 j)]) (fun (x : Int × Int × Int) w' => match x with | (j, bm, bc) => St w [] w' [.box g_12 82 [.int .i64 bm, .int .i64 bc], .box g_1 94 (tabC rim T2)] ∧ i + 1 ≤ j ∧ j ≤ n ∧ bm = (foldP (fitR rim) i n j).1 ∧ bc = (foldP (fitR rim) i n j).2) (fun x : Int × Int × Int => match x with | (j, bm, bc) => (n - j).toNat) (i + 1, (T2 (i + 1) n).1, (T2 (i + 1) n).2) ⟨rfl, trivial⟩ ⟨hS, (by first | omega | simp), (by first | omega | simp), (by rw [foldP_start, hN (i + 1) (by omega) (by omega)]), (by rw [foldP_start, hN (i + 1) (by omega) (by omega)])⟩ ?_
      rintro ⟨j, bm, bc⟩ u_19 w_18 ⟨hS, k0, k1, k2, k3⟩
      have hfb := foldP_bd (F := fitR rim) (i := i) (n := n) (j := j) (by omega) (by omega) k0 k1
      refine W.seq ?_
      refine W.seq ?_
      refine W.reg ?_
      refine Wx.rd (v := .int .i64 j) (rd_move rfl) rfl ?_
      refine Wx.rd (v := .int .i64 n) (rd_move rfl) rfl ?_
      refine Wx.rd (v := .bool (decide (j < n))) (rd_lss rfl rfl) rfl ?_
      refine Wx.nil ?_
      refine W.condD rfl (fun c2 => ?_) (fun c2 => ?_)
      · -- yes
        refine W.skip ?_
        refine W.seq ?_
        refine W.block ?_
        refine W.seq ?_
        refine W.seq ?_
        refine W.reg ?_
        refine Wx.rd (v := .string rim) (rd_move rfl) rfl ?_
        refine Wx.rd (v := .int .i64 i) (rd_move rfl) rfl ?_
        refine Wx.rd (v := .int .i64 j) (rd_move rfl) rfl ?_
        refine Wx.callF (run_callF Tryd.call61 rfl) (F61 (by first | assumption | (simp only [maxLen]; omega) | (simp only [ByteArray.size_extract, ByteArray.size_append, maxLen] at *; omega) | decide) (in_i64 (by omega) (by omega)) (in_i64 (by omega) (by omega)) (by omega) (by omega) (by omega) (by omega) (by omega) (hG.ext hS.bel)) rfl ?_
        rintro r_20 w_21 hx_22 rfl
        have hS := hS.ext hx_22
        refine Wx.rd (v := .bool (!(fitR rim i j))) (rd_not rfl) rfl ?_
        refine Wx.nil ?_
        refine W.cond rfl (fun c3 => ?_) (fun c3 => ?_)
        · -- yes
          try simp only [Bool.and_eq_true, Bool.or_eq_true, Bool.not_eq_true', Bool.and_eq_false_iff, Bool.or_eq_false_iff, Bool.not_eq_false', decide_eq_true_eq, decide_eq_false_iff_not, not_or, Bool.false_eq_true, Bool.true_eq_false, false_or, or_false, not_false_eq_true] at c3
          refine W.exit rfl ?_
          refine W.reg ?_
          refine Wx.rd (v := .int .i64 j) (rd_move rfl) rfl ?_
          refine Wx.rd (v := .int .i64 (j + 1)) (rd_add rfl rfl (in_i64 (by omega) (by omega))) rfl ?_
          refine Wx.rd (v := .int .i64 (j + 1)) (rd_assign rfl) rfl ?_
          refine Wx.nil ?_
          refine ⟨(j + 1, bm, bc), (by show (n - (j + 1)).toNat < (n - j).toNat; omega), ?_, ?_, Out.look rfl Out.self⟩
          · exact ⟨hS, (by first | omega | assumption), (by first | omega | assumption), ((step_no k0 k2 k3 c3).1), ((step_no k0 k2 k3 c3).2)⟩
          · exact ⟨rfl, trivial⟩
        · -- no
          try simp only [Bool.and_eq_true, Bool.or_eq_true, Bool.not_eq_true', Bool.and_eq_false_iff, Bool.or_eq_false_iff, Bool.not_eq_false', decide_eq_true_eq, decide_eq_false_iff_not, not_or, Bool.false_eq_true, Bool.true_eq_false, false_or, or_false, not_false_eq_true] at c3
          refine W.skip ?_
          refine W.seq ?_
          refine W.reg ?_
          refine Wx.rd (v := .pointer (some ⟨g_1, 0, none⟩)) (rd_move rfl) rfl ?_
          refine Wx.rd (v := .int .i64 i) (rd_move rfl) rfl ?_
          refine Wx.rd (v := .int .i64 j) (rd_move rfl) rfl ?_
          refine Wx.rd (v := .int .i64 n) (rd_move rfl) rfl ?_
          have hmb := hB.mul i j n
          have hjp : joinP (partP (fitR rim) (i + 1) j) (partP (fitR rim) (j + 1) n) = ((T2 (i + 1) j).1 + (T2 (j + 1) n).1 + 1, (T2 (i + 1) j).2 * (T2 (j + 1) n).2) := by rw [← hT2 (i + 1) j (by omega) k0 c2, ← hN (j + 1) (by omega) (by omega)]; rfl
          have hb1 := hB (i + 1) j
          have hb2 := hB (j + 1) n
          refine Wx.callF (run_callF Tryd.call91 rfl) (F91 (boxAt hS 1 rfl (Ext.refl _)) (in_i64 (by omega) (by omega)) (in_i64 (by omega) (by omega)) (in_i64 (by omega) (by omega)) hB (by omega) (by omega) (by omega) (by omega) (by omega) (by omega)) rfl ?_
          rintro r_23 w_24 hx_25 rfl
          have hS := hS.ext hx_25
          refine Wx.alloc (cs := [.int .i64 0, .int .i64 0]) hS Tryd.zeroValue82 rfl rfl (fun g_26 w_27 hx_29 hb_28 hS => ?_)
          refine Wx.storeX (cs' := [.int .i64 ((T2 (i + 1) j).1 + (T2 (j + 1) n).1 + 1), .int .i64 ((T2 (i + 1) j).2 * (T2 (j + 1) n).2)]) (ds := [.int .i64 ((T2 (i + 1) j).1 + (T2 (j + 1) n).1 + 1), .int .i64 ((T2 (i + 1) j).2 * (T2 (j + 1) n).2)]) hS 0 rfl rfl rfl rfl Tryd.sizeOf82 (Nat.le_of_ble_eq_true rfl) (one_cons rfl (one_cons rfl one_nil)) rfl (fun w_30 hz_31 hS => ?_)
          refine Wx.nil ?_
          refine W.block ?_
          refine W.seq ?_
          refine W.reg ?_
          refine Wx.rd (v := .pointer (some ⟨g_26, 0, none⟩)) (rd_fieldAddr rfl foHc_82_0) rfl ?_
          refine Wx.rd (v := .int .i64 ((T2 (i + 1) j).1 + (T2 (j + 1) n).1 + 1)) (rd_loadX hS 0 rfl rfl rfl Tryd.isAgg3) rfl ?_
          refine Wx.rd (v := .pointer (some ⟨g_12, 0, none⟩)) (rd_fieldAddr rfl foHc_82_0) rfl ?_
          refine Wx.rd (v := .int .i64 bm) (rd_loadX hS 1 rfl rfl rfl Tryd.isAgg3) rfl ?_
          refine Wx.rd (v := .bool (decide (bm < ((T2 (i + 1) j).1 + (T2 (j + 1) n).1 + 1)))) (rd_gtr rfl rfl) rfl ?_
          refine Wx.rd (v := .bool (decide (bm < ((T2 (i + 1) j).1 + (T2 (j + 1) n).1 + 1)))) (rd_assign rfl) rfl ?_
          refine Wx.nil ?_
          refine W.condD rfl (fun c4 => ?_) (fun c4 => ?_)
          · -- yes
            refine W.reg ?_
            refine Wx.rd (v := .agg #[.int .i64 ((T2 (i + 1) j).1 + (T2 (j + 1) n).1 + 1), .int .i64 ((T2 (i + 1) j).2 * (T2 (j + 1) n).2)]) (rd_loadXs (ds := [.int .i64 ((T2 (i + 1) j).1 + (T2 (j + 1) n).1 + 1), .int .i64 ((T2 (i + 1) j).2 * (T2 (j + 1) n).2)]) hS 0 rfl rfl rfl rfl Tryd.isAgg82 Tryd.sizeOf82) rfl ?_
            refine Wx.storeX (cs' := [.int .i64 ((T2 (i + 1) j).1 + (T2 (j + 1) n).1 + 1), .int .i64 ((T2 (i + 1) j).2 * (T2 (j + 1) n).2)]) (ds := [.int .i64 ((T2 (i + 1) j).1 + (T2 (j + 1) n).1 + 1), .int .i64 ((T2 (i + 1) j).2 * (T2 (j + 1) n).2)]) hS 1 rfl rfl rfl rfl Tryd.sizeOf82 (Nat.le_of_ble_eq_true rfl) (one_cons rfl (one_cons rfl one_nil)) rfl (fun w_32 hz_33 hS => ?_)
            refine Wx.nil ?_
            refine W.reg ?_
            refine Wx.rd (v := .int .i64 j) (rd_move rfl) rfl ?_
            refine Wx.rd (v := .int .i64 (j + 1)) (rd_add rfl rfl (in_i64 (by omega) (by omega))) rfl ?_
            refine Wx.rd (v := .int .i64 (j + 1)) (rd_assign rfl) rfl ?_
            refine Wx.nil ?_
            refine ⟨(j + 1, (T2 (i + 1) j).1 + (T2 (j + 1) n).1 + 1, (T2 (i + 1) j).2 * (T2 (j + 1) n).2), (by show (n - (j + 1)).toNat < (n - j).toNat; omega), ?_, ?_, Out.look rfl Out.self⟩
            · exact ⟨hS.tl, (by first | omega | assumption), (by first | omega | assumption), ((step_gt k0 k2 c3 hjp c4).1), ((step_gt k0 k2 c3 hjp c4).2)⟩
            · exact ⟨rfl, trivial⟩
          · -- no
            refine W.seq ?_
            refine W.reg ?_
            refine Wx.rd (v := .pointer (some ⟨g_26, 0, none⟩)) (rd_fieldAddr rfl foHc_82_0) rfl ?_
            refine Wx.rd (v := .int .i64 ((T2 (i + 1) j).1 + (T2 (j + 1) n).1 + 1)) (rd_loadX hS 0 rfl rfl rfl Tryd.isAgg3) rfl ?_
            refine Wx.rd (v := .pointer (some ⟨g_12, 0, none⟩)) (rd_fieldAddr rfl foHc_82_0) rfl ?_
            refine Wx.rd (v := .int .i64 bm) (rd_loadX hS 1 rfl rfl rfl Tryd.isAgg3) rfl ?_
            refine Wx.rd (v := .bool (decide (((T2 (i + 1) j).1 + (T2 (j + 1) n).1 + 1) = bm))) (rd_eql rfl rfl) rfl ?_
            refine Wx.rd (v := .bool (decide (((T2 (i + 1) j).1 + (T2 (j + 1) n).1 + 1) = bm))) (rd_assign rfl) rfl ?_
            refine Wx.nil ?_
            refine W.condD rfl (fun c5 => ?_) (fun c5 => ?_)
            · -- yes
              refine W.reg ?_
              refine Wx.rd (v := .pointer (some ⟨g_12, 1, none⟩)) (rd_fieldAddr rfl foHc_82_1) rfl ?_
              refine Wx.rd (v := .int .i64 bc) (rd_loadX hS 1 rfl rfl rfl Tryd.isAgg3) rfl ?_
              refine Wx.rd (v := .pointer (some ⟨g_26, 1, none⟩)) (rd_fieldAddr rfl foHc_82_1) rfl ?_
              refine Wx.rd (v := .int .i64 ((T2 (i + 1) j).2 * (T2 (j + 1) n).2)) (rd_loadX hS 0 rfl rfl rfl Tryd.isAgg3) rfl ?_
              refine Wx.rd (v := .int .i64 (bc + ((T2 (i + 1) j).2 * (T2 (j + 1) n).2))) (rd_add rfl rfl (in_i64 (by omega) (by omega))) rfl ?_
              refine Wx.rd (v := .pointer (some ⟨g_12, 1, none⟩)) (rd_fieldAddr rfl foHc_82_1) rfl ?_
              refine Wx.storeX (cs' := [.int .i64 bm, .int .i64 (bc + ((T2 (i + 1) j).2 * (T2 (j + 1) n).2))]) (ds := [.int .i64 (bc + ((T2 (i + 1) j).2 * (T2 (j + 1) n).2))]) hS 1 rfl rfl rfl rfl Tryd.sizeOf3 (Nat.le_of_ble_eq_true rfl) (one_cons rfl one_nil) rfl (fun w_34 hz_35 hS => ?_)
              refine Wx.nil ?_
              refine W.reg ?_
              refine Wx.rd (v := .int .i64 j) (rd_move rfl) rfl ?_
              refine Wx.rd (v := .int .i64 (j + 1)) (rd_add rfl rfl (in_i64 (by omega) (by omega))) rfl ?_
              refine Wx.rd (v := .int .i64 (j + 1)) (rd_assign rfl) rfl ?_
              refine Wx.nil ?_
              refine ⟨(j + 1, bm, bc + ((T2 (i + 1) j).2 * (T2 (j + 1) n).2)), (by show (n - (j + 1)).toNat < (n - j).toNat; omega), ?_, ?_, Out.look rfl Out.self⟩
              · exact ⟨hS.tl, (by first | omega | assumption), (by first | omega | assumption), ((step_eq k0 k2 k3 c3 hjp c4 c5).1), ((step_eq k0 k2 k3 c3 hjp c4 c5).2)⟩
              · exact ⟨rfl, trivial⟩
            · -- no
              refine W.skip ?_
              refine W.reg ?_
              refine Wx.rd (v := .int .i64 j) (rd_move rfl) rfl ?_
              refine Wx.rd (v := .int .i64 (j + 1)) (rd_add rfl rfl (in_i64 (by omega) (by omega))) rfl ?_
              refine Wx.rd (v := .int .i64 (j + 1)) (rd_assign rfl) rfl ?_
              refine Wx.nil ?_
              refine ⟨(j + 1, bm, bc), (by show (n - (j + 1)).toNat < (n - j).toNat; omega), ?_, ?_, Out.look rfl Out.self⟩
              · exact ⟨hS.tl, (by first | omega | assumption), (by first | omega | assumption), ((step_lt k0 k2 k3 c3 hjp c4 c5).1), ((step_lt k0 k2 k3 c3 hjp c4 c5).2)⟩
              · exact ⟨rfl, trivial⟩
      · -- no
        refine W.exit rfl ?_
        refine W.regT 8 mixedHc_ (by kernel_rfl) ?_
        refine Wx.rd (v := .pointer (some ⟨g_1, 0, none⟩)) (rd_move rfl) rfl ?_
        refine Wx.rd (v := .int .i64 i) (rd_move rfl) rfl ?_
        refine Wx.rd (v := .int .i64 n) (rd_move rfl) rfl ?_
        refine Wx.rd (v := .agg #[.int .i64 bm, .int .i64 bc]) (rd_loadXs (ds := [.int .i64 bm, .int .i64 bc]) hS 0 rfl rfl rfl rfl Tryd.isAgg82 Tryd.sizeOf82) rfl ?_
        refine Wx.rd (v := .pointer (some ⟨g_1, 0, none⟩)) (rd_nilCheck rfl rfl) rfl ?_
        refine Wx.rd (v := .pointer (some ⟨g_1, 1, none⟩)) (rd_fieldAddr (o := 0) rfl foHc_94_1) rfl ?_
        refine Wx.rd (v := .pointer (some ⟨g_1, 1 + i.toNat * 26, none⟩)) (rd_indexArr (o := 1) rfl rfl Tryd.underlying92 Tryd.sizeOf91 (by omega) (by omega)) rfl ?_
        refine Wx.rd (v := .pointer (some ⟨g_1, 1 + i.toNat * 26 + n.toNat * 2, none⟩)) (rd_indexArr (o := 1 + i.toNat * 26) rfl rfl Tryd.underlying91 Tryd.sizeOf82 (by omega) (by omega)) rfl ?_
        refine Wx.nilQ (fun w_36 hx_37 => ?_)
        have hS := hS.ext hx_37
        refine Wx.storeX (cs' := tabC rim (updT T2 i n (bm, bc))) (ds := [.int .i64 bm, .int .i64 bc]) hS 1 rfl rfl rfl rfl Tryd.sizeOf82 (by rw [tabC_len]; show _ + 2 ≤ 339; omega) (one_cons rfl (one_cons rfl one_nil)) (tabC_set rim T2 (by omega) (by omega) (by omega) (by omega) bm bc) (fun w_38 hz_39 hS => ?_)
        refine Wx.nil ?_
        refine W.reg ?_
        refine Wx.rd (v := .int .i64 i) (rd_move rfl) rfl ?_
        refine Wx.rd (v := .int .i64 (i - 1)) (rd_sub rfl rfl (in_i64 (by omega) (by omega))) rfl ?_
        refine Wx.rd (v := .int .i64 (i - 1)) (rd_assign rfl) rfl ?_
        refine Wx.nil ?_
        refine ⟨(i - 1, updT T2 i n (bm, bc)), (by show ((i - 1) + 1).toNat < (i + 1).toNat; omega), ?_, ?_, Out.look rfl (Out.hav rfl (Out.look rfl Out.self))⟩
        · exact ⟨hS.tl, (by first | omega | assumption), (by first | omega | assumption), (hB.upd (by rw [k2, k3]; exact hfb)), (fun a b a0 ab hb => by rw [updT_ne (by omega)]; exact hT2 a b a0 ab hb), (fun a h1 h2 => by by_cases h : a = i; (subst h; rw [updT_at, k2, k3, show j = n by omega, foldP_end (by omega)]); rw [updT_ne (by omega)]; exact hN a (by omega) h2)⟩
        · exact ⟨rfl, trivial⟩
    · -- no
      refine W.exit rfl ?_
      refine W.reg ?_
      refine Wx.rd (v := .int .i64 (n + 1)) (rd_add rfl rfl (in_i64 (by omega) (by omega))) rfl ?_
      refine Wx.rd (v := .int .i64 (n + 1)) (rd_move rfl) rfl ?_
      refine Wx.nil ?_
      refine ⟨(n + 1, T2), (by show (rim.size + 1 - (n + 1)).toNat < (rim.size + 1 - n).toNat; omega), ?_, ?_, Out.look rfl (Out.hav rfl (Out.look rfl Out.self))⟩
      · exact ⟨hS, (by first | omega | assumption), (by first | omega | assumption), (hB), (fun a b a0 ab hb => by by_cases h : b = n; (subst h; exact hN a (by omega) ab); exact hT2 a b a0 ab (by omega))⟩
      · exact ⟨rfl, trivial⟩
  · -- no
    refine W.exit rfl ?_
    refine W.seq ?_
    refine W.reg ?_
    refine Wx.rd (v := .pointer (some ⟨g_1, 0, none⟩)) (rd_move rfl) rfl ?_
    refine Wx.rd (v := .pointer (some ⟨g_1, 0, none⟩)) (rd_assign rfl) rfl ?_
    refine Wx.nil ?_
    exact W.ret ⟨.pointer (some ⟨g_1, 0, none⟩), ResIs.one, hS.bel, ⟨g_1, T, rfl, (hS.get 0 rfl).1, (hS.get 0 rfl).2, by exact ⟨hB, fun a b a0 ab bn => hT a b a0 ab (by omega)⟩⟩⟩
end Go.Proofs.YtokdjjebnomciaaDoor

namespace Go.Proofs.YtokdjjebnomciaaDoor
open Go.Wk Go.RowKit Go.Lib
set_option linter.unusedVariables false
set_option linter.unusedSimpArgs false
theorem mixedHd_ : Tryd.prog.follows .mixedOrders = true := by kernel_rfl
theorem foHd_94_0 : fldOff Tryd.prog 94 0 = some 0 := by kernel_rfl
theorem ftHd_82_0 : fldTy Tryd.prog 82 0 = some (3, 0) := by kernel_rfl
theorem foHd_94_1 : fldOff Tryd.prog 94 1 = some 1 := by kernel_rfl
theorem foHd_82_0 : fldOff Tryd.prog 82 0 = some 0 := by kernel_rfl
theorem elHd_22 : ElemI Tryd.prog 22 58 (.agg #[.int .i64 0, .int .i64 0]) 2 16 := ElemI.of Tryd.underlying22 (by kernel_rfl) (by first | rfl | kernel_rfl) (by decide)
theorem ftHd_82_1 : fldTy Tryd.prog 82 1 = some (3, 1) := by kernel_rfl

theorem F69  : ∀ (fuel : Nat) {i n : Int} {v : Value} {ys : List (Int × Int)} {g : Nat} {s : ByteArray} {T : Tab} {ob : List Ob} {w0 w : World} {O : List (Option Nat)} (i_i : InK .i64 i) (i_n : InK .i64 n) (p_i : 0 ≤ i) (p_n : i ≤ n) (p_s : n ≤ s.size) (p_y : (ys.length : Int) + n - i ≤ 100) (p_ok : TabOK s T) (p_l : Lets s) (p_12 : (s.size : Int) ≤ 12) (hG : Laid w0) (hS : St w0 O w (.row (tP (tI .i64) (tI .i64)) 58 v ys :: .box g 94 (tabC s T) :: ob)) (hf : (n - i).toNat < fuel), Calls Tryd.prog 69 #[.pointer (some ⟨g, 0, none⟩), v, .int .i64 i, .int .i64 n] w (Bk fun r w' => ∃ v', r = v' ∧ St w0 O w' (.row (tP (tI .i64) (tI .i64)) 58 v' (ys ++ firstP (fitR s) i n) :: .box g 94 (tabC s T) :: ob)) := by
  intro fuel
  induction fuel with
  | zero => intros; omega
  | succ fuel IH =>
  intro i n v ys g s T ob w0 w O i_i i_n p_i p_n p_s p_y p_ok p_l p_12 hG hS hf
  have b_i := bd_i64 i_i
  have b_n := bd_i64 i_n
  have hB := p_ok.1
  refine enterB Tryd.func69 rfl Tryd.ntmps69 Tryd.results69 rfl ?_
  refine W.seq ?_
  refine W.reg ?_
  refine Wx.rd (v := (.slice none 0 0)) (rd_assign rfl) rfl ?_
  refine Wx.nil ?_
  refine W.seq ?_
  refine W.seq ?_
  refine W.reg ?_
  refine Wx.rd (v := .int .i64 i) (rd_move rfl) rfl ?_
  refine Wx.rd (v := .int .i64 n) (rd_move rfl) rfl ?_
  refine Wx.rd (v := .bool (decide (n ≤ i))) (rd_geq rfl rfl) rfl ?_
  refine Wx.nil ?_
  refine W.condD rfl (fun c0 => ?_) (fun c0 => ?_)
  · -- yes
    refine W.seq ?_
    refine W.reg ?_
    refine Wx.rd (v := v) (rd_move rfl) rfl ?_
    refine Wx.rd (v := v) (rd_assign rfl) rfl ?_
    refine Wx.nil ?_
    exact W.ret ⟨v, ResIs.one, _, rfl, hS.spell (ys' := ys ++ firstP (fitR s) i n) 0 rfl (by rw [firstP_nil (by omega), List.append_nil])⟩
  · -- no
    refine W.skip ?_
    refine W.seq ?_
    refine W.seq ?_
    refine W.reg ?_
    refine Wx.rd (v := .int .i64 i) (rd_move rfl) rfl ?_
    refine Wx.rd (v := .int .i64 (i + 1)) (rd_add rfl rfl (in_i64 (by omega) (by omega))) rfl ?_
    refine Wx.rd (v := .int .i64 (i + 1)) (rd_assign rfl) rfl ?_
    refine Wx.nil ?_
    refine W.block ?_
    refine W.loop [1, 8, 9, 16, 17, 18, 19, 20, 21, 22, 23, 24, 25, 26, 27, 28, 29, 30, 31, 32, 33, 34, 35, 36, 37, 38, 39, 40, 41, 42, 43, 44, 45, 46, 47, 48, 49, 50, 51, 52, 53, 54, 55, 56, 57, 58, 59, 60, 61, 62] (fun (j : Int) => [(9, .int .i64 j), (1, v)]) (fun (j : Int) w' => St w0 O w' (.row (tP (tI .i64) (tI .i64)) 58 v ys :: .box g 94 (tabC s T) :: ob) ∧ i + 1 ≤ j ∧ j ≤ n ∧ (∀ q, i < q → q < j → isF (fitR s) i n q = false)) (fun (j : Int) => (n - j).toNat) (i + 1) ⟨rfl, rfl, trivial⟩ ⟨hS, (by first | omega | simp), (by first | omega | simp), (fun q q0 q1 => by omega)⟩ ?_
    rintro j u_2 w_1 ⟨hS, h1, h1b, h2⟩
    refine W.seq ?_
    refine W.seq ?_
    refine W.reg ?_
    refine Wx.rd (v := .int .i64 j) (rd_move rfl) rfl ?_
    refine Wx.rd (v := .int .i64 n) (rd_move rfl) rfl ?_
    refine Wx.rd (v := .bool (decide (j < n))) (rd_lss rfl rfl) rfl ?_
    refine Wx.nil ?_
    refine W.condD rfl (fun c1 => ?_) (fun c1 => ?_)
    · -- yes
      refine W.skip ?_
      refine W.seq ?_
      refine W.block ?_
      refine W.seq ?_
      refine W.regQ mixedHd_ (by kernel_rfl) ?_
      refine Wx.rd (v := .pointer (some ⟨g, 0, none⟩)) (rd_move rfl) rfl ?_
      refine Wx.rd (v := .pointer (some ⟨g, 0, none⟩)) (rd_nilCheck rfl rfl) rfl ?_
      refine Wx.rd (v := .pointer (some ⟨g, 0, none⟩)) (rd_fieldAddr (o := 0) rfl foHd_94_0) rfl ?_
      refine Wx.rd (v := .string s) (rd_tabS (fun _ q => boxAt hS 1 rfl q) rfl Tryd.isAgg9) rfl ?_
      refine Wx.rd (v := .int .i64 i) (rd_move rfl) rfl ?_
      refine Wx.rd (v := .int .i64 j) (rd_move rfl) rfl ?_
      refine Wx.callV (v := .bool (fitR s i j)) (run_callF Tryd.call61 rfl) (fun w_3 hw_4 => (F61 (by first | assumption | (simp only [maxLen]; omega) | (simp only [ByteArray.size_extract, ByteArray.size_append, maxLen] at *; omega) | decide) (in_i64 (by omega) (by omega)) (in_i64 (by omega) (by omega)) (by omega) (by omega) (by omega) (by omega) (by omega) (hG.ext (Ext.trans hS.bel hw_4)))) rfl ?_
      refine Wx.rd (v := .bool (fitR s i j)) (rd_move rfl) rfl ?_
      refine Wx.cutQ (X := Unit) 17 [29, 30, 31, 32, 33, 34, 35, 36, 37, 38, 39, 40, 41, 42, 43, 44, 45] (fun _ => [(45, .bool (fitR s i j && decide (((T (i + 1) j).1 + (T (j + 1) n).1 + 1) = ((T i n).1))))]) (fun _ => True) ?_ ?_
      · rcases Bool.eq_false_or_eq_true (fitR s i j) with g_5 | g_5
        · -- True
          have gp_6 := g_5
          try simp only [Bool.and_eq_true, Bool.or_eq_true, Bool.not_eq_true', Bool.and_eq_false_iff, Bool.or_eq_false_iff, Bool.not_eq_false', decide_eq_true_eq, decide_eq_false_iff_not, not_or, Bool.false_eq_true, Bool.true_eq_false, false_or, or_false, not_false_eq_true] at gp_6
          refine Wx.gyes rfl rfl (congrArg Value.bool g_5) ?_
          refine Wx.rd (v := .pointer (some ⟨g, 0, none⟩)) (rd_move rfl) rfl ?_
          refine Wx.gyes rfl rfl (congrArg Value.bool g_5) ?_
          refine Wx.rd (v := .int .i64 i) (rd_move rfl) rfl ?_
          refine Wx.gyes rfl rfl (congrArg Value.bool g_5) ?_
          refine Wx.rd (v := .int .i64 j) (rd_move rfl) rfl ?_
          refine Wx.gyes rfl rfl (congrArg Value.bool g_5) ?_
          refine Wx.rd (v := .int .i64 n) (rd_move rfl) rfl ?_
          refine Wx.gyes rfl rfl (congrArg Value.bool g_5) ?_
          refine Wx.callV (v := .agg #[.int .i64 ((T (i + 1) j).1 + (T (j + 1) n).1 + 1), .int .i64 ((T (i + 1) j).2 * (T (j + 1) n).2)]) (run_callF Tryd.call91 rfl) (fun w_7 hw_8 => (F91 (boxAt hS 1 rfl hw_8) (in_i64 (by omega) (by omega)) (in_i64 (by omega) (by omega)) (in_i64 (by omega) (by omega)) hB (by omega) (by omega) (by omega) (by omega) (by omega) (by omega))) rfl ?_
          refine Wx.gyes rfl rfl (congrArg Value.bool g_5) ?_
          refine Wx.rd (v := .int .i64 ((T (i + 1) j).1 + (T (j + 1) n).1 + 1)) (rd_fieldV rfl ftHd_82_0 Tryd.isAgg3 rfl) rfl ?_
          refine Wx.gyes rfl rfl (congrArg Value.bool g_5) ?_
          refine Wx.rd (v := .pointer (some ⟨g, 0, none⟩)) (rd_move rfl) rfl ?_
          refine Wx.gyes rfl rfl (congrArg Value.bool g_5) ?_
          refine Wx.rd (v := .int .i64 i) (rd_move rfl) rfl ?_
          refine Wx.gyes rfl rfl (congrArg Value.bool g_5) ?_
          refine Wx.rd (v := .int .i64 n) (rd_move rfl) rfl ?_
          refine Wx.gyes rfl rfl (congrArg Value.bool g_5) ?_
          refine Wx.rd (v := .pointer (some ⟨g, 0, none⟩)) (rd_nilCheck rfl rfl) rfl ?_
          refine Wx.gyes rfl rfl (congrArg Value.bool g_5) ?_
          refine Wx.rd (v := .pointer (some ⟨g, 1, none⟩)) (rd_fieldAddr (o := 0) rfl foHd_94_1) rfl ?_
          refine Wx.gyes rfl rfl (congrArg Value.bool g_5) ?_
          refine Wx.rd (v := .pointer (some ⟨g, 1 + i.toNat * 26, none⟩)) (rd_indexArr (o := 1) rfl rfl Tryd.underlying92 Tryd.sizeOf91 (by omega) (by omega)) rfl ?_
          refine Wx.gyes rfl rfl (congrArg Value.bool g_5) ?_
          refine Wx.rd (v := .pointer (some ⟨g, 1 + i.toNat * 26 + n.toNat * 2, none⟩)) (rd_indexArr (o := 1 + i.toNat * 26) rfl rfl Tryd.underlying91 Tryd.sizeOf82 (by omega) (by omega)) rfl ?_
          refine Wx.gyes rfl rfl (congrArg Value.bool g_5) ?_
          refine Wx.rd (v := .pointer (some ⟨g, 1 + i.toNat * 26 + n.toNat * 2, none⟩)) (rd_fieldAddr (o := 1 + i.toNat * 26 + n.toNat * 2) rfl foHd_82_0) rfl ?_
          refine Wx.gyes rfl rfl (congrArg Value.bool g_5) ?_
          refine Wx.rd (v := .int .i64 ((T i n).1)) (rd_tab1 (fun _ q => boxAt hS 1 rfl q) rfl (by omega) (by omega) (by omega) (by omega) Tryd.isAgg3) rfl ?_
          have bt_9 := hB i n
          refine Wx.gyes rfl rfl (congrArg Value.bool g_5) ?_
          refine Wx.rd (v := .bool (decide (((T (i + 1) j).1 + (T (j + 1) n).1 + 1) = ((T i n).1)))) (rd_eql rfl rfl) rfl ?_
          refine Wx.rd (v := .bool (decide (((T (i + 1) j).1 + (T (j + 1) n).1 + 1) = ((T i n).1)))) (rd_pickT (congrArg Value.bool g_5) rfl) rfl ?_
          refine Wx.nilQ (fun _ _ => ⟨(), trivial, ⟨?_, trivial⟩, Out.look rfl Out.refl⟩)
          show Value.bool (decide (((T (i + 1) j).1 + (T (j + 1) n).1 + 1) = ((T i n).1))) = Value.bool (fitR s i j && decide (((T (i + 1) j).1 + (T (j + 1) n).1 + 1) = ((T i n).1)))
          rw [g_5]; rfl
        · -- False
          have gp_10 := g_5
          try simp only [Bool.and_eq_true, Bool.or_eq_true, Bool.not_eq_true', Bool.and_eq_false_iff, Bool.or_eq_false_iff, Bool.not_eq_false', decide_eq_true_eq, decide_eq_false_iff_not, not_or, Bool.false_eq_true, Bool.true_eq_false, false_or, or_false, not_false_eq_true] at gp_10
          refine Wx.gnoB rfl rfl (congrArg Value.bool g_5) rfl rfl ?_
          refine Wx.gnoB rfl rfl (congrArg Value.bool g_5) rfl rfl ?_
          refine Wx.gnoB rfl rfl (congrArg Value.bool g_5) rfl rfl ?_
          refine Wx.gnoB rfl rfl (congrArg Value.bool g_5) rfl rfl ?_
          refine Wx.gnoB rfl rfl (congrArg Value.bool g_5) rfl rfl ?_
          refine Wx.gnoB rfl rfl (congrArg Value.bool g_5) rfl rfl ?_
          refine Wx.gnoB rfl rfl (congrArg Value.bool g_5) rfl rfl ?_
          refine Wx.gnoB rfl rfl (congrArg Value.bool g_5) rfl rfl ?_
          refine Wx.gnoB rfl rfl (congrArg Value.bool g_5) rfl rfl ?_
          refine Wx.gnoB rfl rfl (congrArg Value.bool g_5) rfl rfl ?_
          refine Wx.gnoB rfl rfl (congrArg Value.bool g_5) rfl rfl ?_
          refine Wx.gnoB rfl rfl (congrArg Value.bool g_5) rfl rfl ?_
          refine Wx.gnoB rfl rfl (congrArg Value.bool g_5) rfl rfl ?_
          refine Wx.gnoB rfl rfl (congrArg Value.bool g_5) rfl rfl ?_
          refine Wx.gnoB rfl rfl (congrArg Value.bool g_5) rfl rfl ?_
          refine Wx.gnoB rfl rfl (congrArg Value.bool g_5) rfl rfl ?_
          refine Wx.rd (v := .bool false) (rd_pickF (congrArg Value.bool g_5) rfl) rfl ?_
          refine Wx.nilQ (fun _ _ => ⟨(), trivial, ⟨?_, trivial⟩, Out.look rfl Out.refl⟩)
          show Value.bool false = Value.bool (fitR s i j && decide (((T (i + 1) j).1 + (T (j + 1) n).1 + 1) = ((T i n).1)))
          rw [g_5]; rfl
      rintro ⟨⟩ u_12 -
      refine Wx.nilQ (fun w_13 hx_14 => ?_)
      have hS := hS.ext hx_14
      refine W.cond rfl (fun c2 => ?_) (fun c2 => ?_)
      · -- yes
        try simp only [Bool.and_eq_true, Bool.or_eq_true, Bool.not_eq_true', Bool.and_eq_false_iff, Bool.or_eq_false_iff, Bool.not_eq_false', decide_eq_true_eq, decide_eq_false_iff_not, not_or, Bool.false_eq_true, Bool.true_eq_false, false_or, or_false, not_false_eq_true] at c2
        refine W.seq ?_
        refine W.reg ?_
        refine Wx.rd (v := .pointer (some ⟨g, 0, none⟩)) (rd_move rfl) rfl ?_
        refine Wx.rd (v := v) (rd_move rfl) rfl ?_
        refine Wx.rd (v := .int .i64 i) (rd_move rfl) rfl ?_
        refine Wx.rd (v := .int .i64 j) (rd_move rfl) rfl ?_
        refine Wx.rd (v := .agg #[.int .i64 i, .int .i64 j]) (rd_build (vs := [(0, .int .i64 i), (1, .int .i64 j)]) rfl (by kernel_rfl)) rfl ?_
        refine Wx.lit (t := (tP (tI .i64) (tI .i64))) (ys := [(i, j)]) (vs := [.agg #[.int .i64 i, .int .i64 j]]) elHd_22 hS rfl rfl ⟨(V.mk2 (in_i64 (by omega) (by omega)) (in_i64 (by omega) (by omega))), trivial⟩ (by decide) rfl (fun v_15 w_16 hx_17 hS => ?_)
        refine Wx.append elHd_22 hS 1 rfl rfl rfl (Src.ofR hS 0 rfl) (by simp only [maxLen]; simp; omega) (by simp; omega) rfl (fun v_18 w_19 hz_20 hS => ?_)
        refine Wx.rd (v := .int .i64 i) (rd_move rfl) rfl ?_
        refine Wx.rd (v := .int .i64 (i + 1)) (rd_add rfl rfl (in_i64 (by omega) (by omega))) rfl ?_
        refine Wx.rd (v := .int .i64 j) (rd_move rfl) rfl ?_
        refine Wx.callB (run_callF Tryd.call69 rfl) (IH (ob := (.row (tP (tI .i64) (tI .i64)) 58 v_15 [(i, j)] :: ob)) (in_i64 (by omega) (by omega)) (in_i64 (by omega) (by omega)) (by omega) (by omega) (by omega) (by rw [List.length_append]; show ((ys.length + 1 : Nat) : Int) + _ - _ ≤ 100; omega) p_ok p_l (by omega) hG ((hS.front 2 rfl).front 2 rfl) (by omega)) rfl ?_
        rintro r_21 w_22 ⟨_, rfl, hS⟩
        have hS : St _ _ w_22 (.row (tP (tI .i64) (tI .i64)) 58 r_21 ((ys ++ [(i, j)]) ++ firstP (fitR s) (i + 1) j) :: .box g 94 (tabC s T) :: .row (tP (tI .i64) (tI .i64)) 58 v_15 [(i, j)] :: ob) := hS
        have hS := hS.front 2 rfl
        refine Wx.rd (v := r_21) (rd_assign rfl) rfl ?_
        refine Wx.nil ?_
        refine W.seq ?_
        refine W.reg ?_
        refine Wx.rd (v := .pointer (some ⟨g, 0, none⟩)) (rd_move rfl) rfl ?_
        refine Wx.rd (v := r_21) (rd_move rfl) rfl ?_
        refine Wx.rd (v := .int .i64 j) (rd_move rfl) rfl ?_
        refine Wx.rd (v := .int .i64 (j + 1)) (rd_add rfl rfl (in_i64 (by omega) (by omega))) rfl ?_
        refine Wx.rd (v := .int .i64 n) (rd_move rfl) rfl ?_
        refine Wx.callB (run_callF Tryd.call69 rfl) (IH (ob := (.row (tP (tI .i64) (tI .i64)) 58 v_15 [(i, j)] :: ob)) (in_i64 (by omega) (by omega)) (in_i64 (by omega) (by omega)) (by omega) (by omega) (by omega) (by have := firstP_len (F := fitR s) (i := i + 1) (n := j) (by omega); rw [List.length_append, List.length_append]; show ((ys.length + 1 + _ : Nat) : Int) + _ - _ ≤ 100; omega) p_ok p_l (by omega) hG ((hS.front 2 rfl).front 2 rfl) (by omega)) rfl ?_
        rintro r_23 w_24 ⟨_, rfl, hS⟩
        have hS : St _ _ w_24 (.row (tP (tI .i64) (tI .i64)) 58 r_23 (((ys ++ [(i, j)]) ++ firstP (fitR s) (i + 1) j) ++ firstP (fitR s) (j + 1) n) :: .box g 94 (tabC s T) :: .row (tP (tI .i64) (tI .i64)) 58 v_15 [(i, j)] :: ob) := hS
        have hS := hS.front 2 rfl
        refine Wx.rd (v := r_23) (rd_assign rfl) rfl ?_
        refine Wx.nil ?_
        exact W.ret ⟨r_23, ResIs.one, _, rfl, (St.tl hS).spell (ys' := ys ++ firstP (fitR s) i n) 0 rfl (by rw [firstP_found (by omega) c1 h2 ((isF_iff p_ok p_i (by omega) c1 p_s).2 c2)]; simp)⟩
      · -- no
        try simp only [Bool.and_eq_true, Bool.or_eq_true, Bool.not_eq_true', Bool.and_eq_false_iff, Bool.or_eq_false_iff, Bool.not_eq_false', decide_eq_true_eq, decide_eq_false_iff_not, not_or, Bool.false_eq_true, Bool.true_eq_false, false_or, or_false, not_false_eq_true] at c2
        refine W.skip ?_
        refine W.reg ?_
        refine Wx.rd (v := .int .i64 j) (rd_move rfl) rfl ?_
        refine Wx.rd (v := .int .i64 (j + 1)) (rd_add rfl rfl (in_i64 (by omega) (by omega))) rfl ?_
        refine Wx.rd (v := .int .i64 (j + 1)) (rd_assign rfl) rfl ?_
        refine Wx.nil ?_
        refine ⟨j + 1, (by show (n - (j + 1)).toNat < (n - j).toNat; omega), ?_, ?_, Out.look rfl (Out.hav rfl (Out.look rfl Out.self))⟩
        · exact ⟨hS, (by first | omega | assumption), (by first | omega | assumption), (fun q q1 q2 => by by_cases hq : q = j; (subst hq; exact isF_no p_ok p_i q1 c1 p_s c2); exact h2 q q1 (by omega))⟩
        · exact ⟨rfl, rfl, trivial⟩
    · -- no
      refine W.exit rfl ?_
      refine W.seq ?_
      refine W.reg ?_
      refine Wx.rd (v := .pointer (some ⟨g, 0, none⟩)) (rd_move rfl) rfl ?_
      refine Wx.rd (v := v) (rd_move rfl) rfl ?_
      refine Wx.rd (v := .int .i64 i) (rd_move rfl) rfl ?_
      refine Wx.rd (v := .int .i64 (i + 1)) (rd_add rfl rfl (in_i64 (by omega) (by omega))) rfl ?_
      refine Wx.rd (v := .int .i64 n) (rd_move rfl) rfl ?_
      refine Wx.callB (run_callF Tryd.call69 rfl) (IH (ob := (ob)) (in_i64 (by omega) (by omega)) (in_i64 (by omega) (by omega)) (by omega) (by omega) (by omega) (by omega) p_ok p_l (by omega) hG ((hS.front 1 rfl).front 1 rfl) (by omega)) rfl ?_
      rintro r_25 w_26 ⟨_, rfl, hS⟩
      have hS : St _ _ w_26 (.row (tP (tI .i64) (tI .i64)) 58 r_25 (ys ++ firstP (fitR s) (i + 1) n) :: .box g 94 (tabC s T) :: ob) := hS
      refine Wx.rd (v := r_25) (rd_assign rfl) rfl ?_
      refine Wx.nil ?_
      exact W.ret ⟨r_25, ResIs.one, _, rfl, hS.spell (ys' := ys ++ firstP (fitR s) i n) 0 rfl (by rw [firstP_none (by omega) (fun q q1 q2 => h2 q q1 (by omega))])⟩

theorem F21 {rim : ByteArray} {w : World} (s_rim : rim.size ≤ maxLen) (hG : Laid w) : Calls Tryd.prog 21 #[.string rim] w (Ret w (fun r _ => r = .tuple #[.int .i64 (mostV rim), .int .i64 (rimE rim)])) := by
  have hS := St.start0 w
  refine enterR Tryd.func21 rfl Tryd.ntmps21 Tryd.results21 rfl ?_
  refine W.seq ?_
  refine W.reg ?_
  refine Wx.rd (v := .int .i64 0) (rd_assign rfl) rfl ?_
  refine Wx.rd (v := .int .i64 0) (rd_assign rfl) rfl ?_
  refine Wx.nil ?_
  refine W.seq ?_
  refine W.seq ?_
  refine W.reg ?_
  refine Wx.rd (v := .string rim) (rd_move rfl) rfl ?_
  refine Wx.callF (run_callF Tryd.call17 rfl) (F17 (by first | assumption | (simp only [maxLen]; omega) | (simp only [ByteArray.size_extract, ByteArray.size_append, maxLen] at *; omega) | decide)) rfl ?_
  rintro r_1 w_2 hx_3 rfl
  have hS := hS.ext hx_3
  refine Wx.rd (v := .int .i64 (rimE rim)) (rd_assign rfl) rfl ?_
  refine Wx.nil ?_
  refine W.seq ?_
  refine W.reg ?_
  refine Wx.rd (v := .int .i64 (rimE rim)) (rd_move rfl) rfl ?_
  refine Wx.rd (v := .bool (decide ((rimE rim) ≠ 0))) (rd_neq rfl rfl) rfl ?_
  refine Wx.nil ?_
  refine W.condD rfl (fun c0 => ?_) (fun c0 => ?_)
  · -- yes
    refine W.seq ?_
    refine W.reg ?_
    refine Wx.rd (v := .int .i64 (rimE rim)) (rd_move rfl) rfl ?_
    refine Wx.rd (v := .int .i64 0) (rd_assign rfl) rfl ?_
    refine Wx.rd (v := .int .i64 (rimE rim)) (rd_assign rfl) rfl ?_
    refine Wx.nil ?_
    have e0_0 : (mostV rim) = (0 : Int) := by rw [mostV, if_neg c0]
    exact W.ret ⟨.tuple #[.int .i64 0, .int .i64 (rimE rim)], ResIs.two, hS.bel, (by rw [e0_0])⟩
  · -- no
    have hr0 : rimE rim = 0 := by omega
    obtain ⟨hr1, hr2⟩ := rimE_ok hr0
    refine W.skip ?_
    refine W.seq ?_
    refine W.reg ?_
    refine Wx.rd (v := .string rim) (rd_move rfl) rfl ?_
    refine Wx.callF (run_callF Tryd.call66 rfl) (F66 (by first | assumption | (simp only [maxLen]; omega) | (simp only [ByteArray.size_extract, ByteArray.size_append, maxLen] at *; omega) | decide) (by omega) hr2 (hG.ext hS.bel)) rfl ?_
    rintro r_4 w_5 hx_6 ⟨g_tb, T_tb, rfl, hg_7, hh_8, hT_tb⟩
    have hS := hS.pushBox hx_6 hg_7 hh_8
    have hB_tb := hT_tb.1
    refine Wx.callF (run_callF Tryd.call67 rfl) (F67 (boxAt hS 0 rfl (Ext.refl _)) hB_tb (by omega)) rfl ?_
    rintro r_9 w_10 hx_11 rfl
    have hS := hS.ext hx_11
    refine Wx.rd (v := .int .i64 ((T_tb 0 rim.size).1)) (rd_fieldV rfl ftHd_82_0 Tryd.isAgg3 rfl) rfl ?_
    refine Wx.rd (v := .int .i64 ((T_tb 0 rim.size).1)) (rd_assign rfl) rfl ?_
    refine Wx.rd (v := .int .i64 0) (rd_assign rfl) rfl ?_
    refine Wx.nil ?_
    have e1_0 : (mostV rim) = ((T_tb 0 rim.size).1 : Int) := by rw [mostV, if_pos hr0, hT_tb.all]
    have e1_1 : (rimE rim) = (0 : Int) := by exact hr0
    exact W.ret ⟨.tuple #[.int .i64 ((T_tb 0 rim.size).1), .int .i64 0], ResIs.two, hS.bel, (by rw [e1_0, e1_1])⟩

theorem F23 {rim : ByteArray} {w : World} (s_rim : rim.size ≤ maxLen) (hG : Laid w) : Calls Tryd.prog 23 #[.string rim] w (Ret w (fun r _ => r = .tuple #[.int .i64 (countV rim), .int .i64 (rimE rim)])) := by
  have hS := St.start0 w
  refine enterR Tryd.func23 rfl Tryd.ntmps23 Tryd.results23 rfl ?_
  refine W.seq ?_
  refine W.reg ?_
  refine Wx.rd (v := .int .i64 0) (rd_assign rfl) rfl ?_
  refine Wx.rd (v := .int .i64 0) (rd_assign rfl) rfl ?_
  refine Wx.nil ?_
  refine W.seq ?_
  refine W.seq ?_
  refine W.reg ?_
  refine Wx.rd (v := .string rim) (rd_move rfl) rfl ?_
  refine Wx.callF (run_callF Tryd.call17 rfl) (F17 (by first | assumption | (simp only [maxLen]; omega) | (simp only [ByteArray.size_extract, ByteArray.size_append, maxLen] at *; omega) | decide)) rfl ?_
  rintro r_1 w_2 hx_3 rfl
  have hS := hS.ext hx_3
  refine Wx.rd (v := .int .i64 (rimE rim)) (rd_assign rfl) rfl ?_
  refine Wx.nil ?_
  refine W.seq ?_
  refine W.reg ?_
  refine Wx.rd (v := .int .i64 (rimE rim)) (rd_move rfl) rfl ?_
  refine Wx.rd (v := .bool (decide ((rimE rim) ≠ 0))) (rd_neq rfl rfl) rfl ?_
  refine Wx.nil ?_
  refine W.condD rfl (fun c0 => ?_) (fun c0 => ?_)
  · -- yes
    refine W.seq ?_
    refine W.reg ?_
    refine Wx.rd (v := .int .i64 (rimE rim)) (rd_move rfl) rfl ?_
    refine Wx.rd (v := .int .i64 0) (rd_assign rfl) rfl ?_
    refine Wx.rd (v := .int .i64 (rimE rim)) (rd_assign rfl) rfl ?_
    refine Wx.nil ?_
    have e0_0 : (countV rim) = (0 : Int) := by rw [countV, if_neg c0]
    exact W.ret ⟨.tuple #[.int .i64 0, .int .i64 (rimE rim)], ResIs.two, hS.bel, (by rw [e0_0])⟩
  · -- no
    have hr0 : rimE rim = 0 := by omega
    obtain ⟨hr1, hr2⟩ := rimE_ok hr0
    refine W.skip ?_
    refine W.seq ?_
    refine W.reg ?_
    refine Wx.rd (v := .string rim) (rd_move rfl) rfl ?_
    refine Wx.callF (run_callF Tryd.call66 rfl) (F66 (by first | assumption | (simp only [maxLen]; omega) | (simp only [ByteArray.size_extract, ByteArray.size_append, maxLen] at *; omega) | decide) (by omega) hr2 (hG.ext hS.bel)) rfl ?_
    rintro r_4 w_5 hx_6 ⟨g_tb, T_tb, rfl, hg_7, hh_8, hT_tb⟩
    have hS := hS.pushBox hx_6 hg_7 hh_8
    have hB_tb := hT_tb.1
    refine Wx.callF (run_callF Tryd.call67 rfl) (F67 (boxAt hS 0 rfl (Ext.refl _)) hB_tb (by omega)) rfl ?_
    rintro r_9 w_10 hx_11 rfl
    have hS := hS.ext hx_11
    refine Wx.rd (v := .int .i64 ((T_tb 0 rim.size).2)) (rd_fieldV rfl ftHd_82_1 Tryd.isAgg3 rfl) rfl ?_
    refine Wx.rd (v := .int .i64 ((T_tb 0 rim.size).2)) (rd_assign rfl) rfl ?_
    refine Wx.rd (v := .int .i64 0) (rd_assign rfl) rfl ?_
    refine Wx.nil ?_
    have e1_0 : (countV rim) = ((T_tb 0 rim.size).2 : Int) := by rw [countV, if_pos hr0, hT_tb.all]
    have e1_1 : (rimE rim) = (0 : Int) := by exact hr0
    exact W.ret ⟨.tuple #[.int .i64 ((T_tb 0 rim.size).2), .int .i64 0], ResIs.two, hS.bel, (by rw [e1_0, e1_1])⟩

theorem F25 {rim : ByteArray} {w : World} (s_rim : rim.size ≤ maxLen) (hG : Laid w) : Calls Tryd.prog 25 #[.string rim] w (Ret w (fun r w' => ∃ rv, r = .tuple #[rv, .int .i64 (rimE rim)] ∧ Fresh (tP (tI .i64) (tI .i64)) 58 (firstV rim) rv w.heap.size w')) := by
  have hS := St.start0 w
  refine enterR Tryd.func25 rfl Tryd.ntmps25 Tryd.results25 rfl ?_
  refine W.seq ?_
  refine W.reg ?_
  refine Wx.rd (v := (.slice none 0 0)) (rd_assign rfl) rfl ?_
  refine Wx.rd (v := .int .i64 0) (rd_assign rfl) rfl ?_
  refine Wx.nil ?_
  refine W.seq ?_
  refine W.seq ?_
  refine W.reg ?_
  refine Wx.rd (v := .string rim) (rd_move rfl) rfl ?_
  refine Wx.callF (run_callF Tryd.call17 rfl) (F17 (by first | assumption | (simp only [maxLen]; omega) | (simp only [ByteArray.size_extract, ByteArray.size_append, maxLen] at *; omega) | decide)) rfl ?_
  rintro r_1 w_2 hx_3 rfl
  have hS := hS.ext hx_3
  refine Wx.rd (v := .int .i64 (rimE rim)) (rd_assign rfl) rfl ?_
  refine Wx.nil ?_
  refine W.seq ?_
  refine W.reg ?_
  refine Wx.rd (v := .int .i64 (rimE rim)) (rd_move rfl) rfl ?_
  refine Wx.rd (v := .bool (decide ((rimE rim) ≠ 0))) (rd_neq rfl rfl) rfl ?_
  refine Wx.nil ?_
  refine W.condD rfl (fun c0 => ?_) (fun c0 => ?_)
  · -- yes
    refine W.seq ?_
    refine W.reg ?_
    refine Wx.rd (v := .int .i64 (rimE rim)) (rd_move rfl) rfl ?_
    refine Wx.rd (v := (.slice none 0 0)) (rd_assign rfl) rfl ?_
    refine Wx.rd (v := .int .i64 (rimE rim)) (rd_assign rfl) rfl ?_
    refine Wx.nil ?_
    have e0_0 : firstV rim = [] := by rw [firstV, if_neg c0]
    exact W.ret ⟨.tuple #[(.slice none 0 0), .int .i64 (rimE rim)], ResIs.two, hS.bel, ⟨(.slice none 0 0), rfl, (by rw [e0_0]; exact ((hS.addNil (tP (tI .i64) (tI .i64)) 58).fr 0 rfl flat_i2))⟩⟩
  · -- no
    have hr0 : rimE rim = 0 := by omega
    obtain ⟨hr1, hr2⟩ := rimE_ok hr0
    refine W.skip ?_
    refine W.seq ?_
    refine W.reg ?_
    refine Wx.rd (v := .string rim) (rd_move rfl) rfl ?_
    refine Wx.callF (run_callF Tryd.call66 rfl) (F66 (by first | assumption | (simp only [maxLen]; omega) | (simp only [ByteArray.size_extract, ByteArray.size_append, maxLen] at *; omega) | decide) (by omega) hr2 (hG.ext hS.bel)) rfl ?_
    rintro r_4 w_5 hx_6 ⟨g_tb, T_tb, rfl, hg_7, hh_8, hT_tb⟩
    have hS := hS.pushBox hx_6 hg_7 hh_8
    have hB_tb := hT_tb.1
    refine Wx.rd (v := .string rim) (rd_move rfl) rfl ?_
    refine Wx.rd (v := .int .i64 (rim.size : Int)) (rd_lenS rfl Tryd.underlying9) rfl ?_
    have hS := hS.addNil (tP (tI .i64) (tI .i64)) 58
    refine Wx.callB (run_callF Tryd.call69 rfl) (F69 _ (ob := []) (in_i64 (by omega) (by omega)) (in_i64 (by omega) (by omega)) (by omega) (by omega) (by omega) (by show (0 : Int) + _ - 0 ≤ 100; omega) hT_tb hr2 (by omega) hG ((hS.front 1 rfl).front 1 rfl) (Nat.lt_succ_self _)) rfl ?_
    rintro r_9 w_10 ⟨_, rfl, hS⟩
    have hS : St _ _ w_10 [.row (tP (tI .i64) (tI .i64)) 58 r_9 ([] ++ firstP (fitR rim) (0 : Int) (rim.size : Int)), .box g_tb 94 (tabC rim T_tb)] := hS
    refine Wx.rd (v := r_9) (rd_assign rfl) rfl ?_
    refine Wx.rd (v := .int .i64 0) (rd_assign rfl) rfl ?_
    refine Wx.nil ?_
    have e1_0 : firstV rim = [] ++ firstP (fitR rim) (0 : Int) (rim.size : Int) := by rw [firstV, if_pos hr0]; rfl
    have e1_1 : (rimE rim) = (0 : Int) := by exact hr0
    exact W.ret ⟨.tuple #[r_9, .int .i64 0], ResIs.two, hS.bel, ⟨r_9, (by rw [e1_1]), (by rw [e1_0]; exact (hS.fr 0 rfl flat_i2))⟩⟩
end Go.Proofs.YtokdjjebnomciaaDoor

namespace Go.Wk
open Go.RowKit Go.Lib
set_option linter.unusedVariables false
section
variable {P : Program} {σ : Fr} {w : World} {z lo : Operand} {ty T : TypeId}
theorem rd_tailP {g len c sz : Nat} {e : TypeId} {m : Int} {kk : IntKind} (hu : P.underlying T = some (.slice e)) (hsz : ∀ w', (sizeOf e).run P w' = .ok sz w') (hx : ev σ z = .slice (some ⟨g, 0, none⟩) len c) (hl : ev σ lo = .int kk m) (h0 : 0 ≤ m) (h1 : m < len) (h2 : len ≤ c) :
    Rd P σ (.slice T z (some lo) none none) ty w (.slice (some ⟨g, m.toNat * sz, none⟩) (len - m.toNat) (c - m.toNat)) := by
  have := rd_tailO (P := P) (ty := ty) (w := w) hu hsz hx hl h0 (Int.le_of_lt h1) h2
  rwa [if_neg (by omega)] at this
end
end Go.Wk

namespace Go.Proofs.YtokdjjebnomciaaDoor
open Go.Wk Go.RowKit Go.Lib
set_option linter.unusedVariables false
set_option linter.unusedSimpArgs false
theorem mixedHj_ : Tryd.prog.follows .mixedOrders = true := by kernel_rfl
theorem foHj_94_1 : fldOff Tryd.prog 94 1 = some 1 := by kernel_rfl
theorem foHj_82_1 : fldOff Tryd.prog 82 1 = some 1 := by kernel_rfl
theorem ftHj_82_1 : fldTy Tryd.prog 82 1 = some (3, 1) := by kernel_rfl
theorem elHj_22 : ElemI Tryd.prog 22 58 (.agg #[.int .i64 0, .int .i64 0]) 2 16 := ElemI.of Tryd.underlying22 (by kernel_rfl) (by first | rfl | kernel_rfl) (by decide)

theorem F71 {a : Int} {b : Int} {gt : Nat} {g : Nat} {rim : ByteArray} {T : Tab} {gr : Nat} {w : World} (i_a : InK .i64 a) (i_b : InK .i64 b) (x_g : w.heap[g]? = some (.cells (tabC rim T).toArray 94 (0, 0))) (x_gt : w.heap[gt]? = some (.cells #[.pointer (some ⟨g, 0, none⟩)] 83 (0, 0))) (s_rim : rim.size ≤ maxLen) (x_gr : w.heap[gr]? = some (.cells #[.string rim] 9 (0, 0))) (p_12 : (rim.size : Int) ≤ 12) (p_l : Lets rim) (p_ok : TabOK rim T) (p_a : 0 ≤ a) (p_b : a < b) (p_s : b < rim.size) (hG : Laid w) : Calls Tryd.prog 71 #[.agg #[.int .i64 a, .int .i64 b], .pointer (some ⟨gt, 0, none⟩), .pointer (some ⟨gr, 0, none⟩)] w (Ret w (fun r _ => r = .bool (!frcN rim (a, b)))) := by
  have b_b := bd_i64 i_b
  have b_a := bd_i64 i_a
  have hB := p_ok.1
  have p_T := p_ok.1
  have hcs := cut_size (s := rim) p_a p_b p_s
  have hcb := allV_bd (s := cutS rim a b) (by omega)
  have hml := mul_bd (hB (a + 1) b).2.2.1 (hB (a + 1) b).2.2.2 hcb.2.2.1 hcb.2.2.2
  have hcs2 : (((rim.extract 0 a.toNat) ++ (rim.extract (b + 1).toNat rim.size)).size : Int) = rim.size - (b - a + 1) := hcs
  have hS := St.start0 w
  refine enterR Tryd.func71 rfl Tryd.ntmps71 Tryd.results71 rfl ?_
  refine W.seq ?_
  refine W.reg ?_
  refine Wx.box (cs := [.int .i64 a, .int .i64 b]) hS rfl rfl rfl (fun g_1 w_2 hx_4 hb_3 hS => ?_)
  refine Wx.rd (v := .bool false) (rd_assign rfl) rfl ?_
  refine Wx.nil ?_
  refine W.seq ?_
  refine W.regH mixedHj_ (fun w_5 hx_6 => ?_)
  have h0 := hS
  have hS := (St.start _ _ h0.fb_lt).ext hx_6
  refine Wh.rd (v := .pointer (some ⟨g, 0, none⟩)) 0 rfl (by kernel_rfl) hS.bel (rd_loadO x_gt h0.bel rfl rfl Tryd.isAgg83) rfl ?_
  refine Wh.rd (v := .pointer (some ⟨g_1, 0, none⟩)) 1 rfl (by kernel_rfl) hS.bel (rd_indexArr (n := 0) rfl rfl Tryd.underlying58 Tryd.sizeOf3 (by decide) (by decide)) rfl ?_
  refine Wh.rd (v := .int .i64 a) 2 rfl (by kernel_rfl) hS.bel (rd_loadX h0 0 rfl rfl rfl Tryd.isAgg3) rfl ?_
  refine Wh.rd (v := .int .i64 (a + 1)) 3 rfl (by kernel_rfl) hS.bel (rd_add rfl rfl (in_i64 (by omega) (by omega))) rfl ?_
  refine Wh.rd (v := .pointer (some ⟨g_1, 1, none⟩)) 4 rfl (by kernel_rfl) hS.bel (rd_indexArr (n := 1) rfl rfl Tryd.underlying58 Tryd.sizeOf3 (by decide) (by decide)) rfl ?_
  refine Wh.rd (v := .int .i64 b) 5 rfl (by kernel_rfl) hS.bel (rd_loadX h0 0 rfl rfl rfl Tryd.isAgg3) rfl ?_
  refine Wh.rd (v := .pointer (some ⟨g, 0, none⟩)) 6 rfl (by kernel_rfl) hS.bel (rd_nilCheck rfl rfl) rfl ?_
  refine Wh.rd (v := .pointer (some ⟨g, 1, none⟩)) 7 rfl (by kernel_rfl) hS.bel (rd_fieldAddr (o := 0) rfl foHj_94_1) rfl ?_
  refine Wh.rd (v := .pointer (some ⟨g, 1 + (a + 1).toNat * 26, none⟩)) 8 rfl (by kernel_rfl) hS.bel (rd_indexArr (o := 1) rfl rfl Tryd.underlying92 Tryd.sizeOf91 (by omega) (by omega)) rfl ?_
  refine Wh.rd (v := .pointer (some ⟨g, 1 + (a + 1).toNat * 26 + b.toNat * 2, none⟩)) 9 rfl (by kernel_rfl) hS.bel (rd_indexArr (o := 1 + (a + 1).toNat * 26) rfl rfl Tryd.underlying91 Tryd.sizeOf82 (by omega) (by omega)) rfl ?_
  refine Wh.rd (v := .agg #[.int .i64 ((T (a + 1) b).1), .int .i64 ((T (a + 1) b).2)]) 10 rfl (by kernel_rfl) hS.bel (rd_tabP (fun _ q => extAt x_g (Ext.trans h0.bel q)) rfl (by omega) (by omega) (by omega) (by omega) Tryd.isAgg82 Tryd.sizeOf82) rfl ?_
  have bt_7 := p_T (a + 1) b
  refine Wh.br [11] (by kernel_rfl) (by decide) ⟨⟨_, rfl, ?_⟩, trivial⟩
  refine Wx.alloc (cs := [.int .i64 0, .int .i64 0]) hS Tryd.zeroValue82 rfl rfl (fun g_8 w_9 hx_11 hb_10 hS => ?_)
  refine Wx.nil ⟨hS.bel, ?_⟩
  refine Wh.br [12] (by kernel_rfl) (by decide) ⟨⟨_, rfl, ?_⟩, trivial⟩
  refine Wx.storeX (cs' := [.int .i64 ((T (a + 1) b).1), .int .i64 ((T (a + 1) b).2)]) (ds := [.int .i64 ((T (a + 1) b).1), .int .i64 ((T (a + 1) b).2)]) hS 0 rfl rfl rfl rfl Tryd.sizeOf82 (Nat.le_of_ble_eq_true rfl) (one_cons rfl (one_cons rfl one_nil)) rfl (fun w_12 hz_13 hS => ?_)
  refine Wx.nil ⟨hS.bel, ?_⟩
  refine Wh.done (by kernel_rfl) ?_
  have hS := h0.merge hS
  refine W.seq ?_
  refine W.regH mixedHj_ (fun w_14 hx_15 => ?_)
  have h0 := hS
  have hS := (St.start _ _ h0.fb_lt).ext hx_15
  refine Wh.rd (v := .string rim) 0 rfl (by kernel_rfl) hS.bel (rd_loadO x_gr h0.bel rfl rfl Tryd.isAgg9) rfl ?_
  refine Wh.rd (v := .pointer (some ⟨g_1, 0, none⟩)) 1 rfl (by kernel_rfl) hS.bel (rd_indexArr (n := 0) rfl rfl Tryd.underlying58 Tryd.sizeOf3 (by decide) (by decide)) rfl ?_
  refine Wh.rd (v := .int .i64 a) 2 rfl (by kernel_rfl) hS.bel (rd_loadX h0 1 rfl rfl rfl Tryd.isAgg3) rfl ?_
  refine Wh.rd (v := .string ((rim).extract 0 a.toNat)) 3 rfl (by kernel_rfl) hS.bel (rd_sliceS_H Tryd.underlying9 rfl rfl (by omega) (by omega)) rfl ?_
  refine Wh.rd (v := .string rim) 4 rfl (by kernel_rfl) hS.bel (rd_loadO x_gr h0.bel rfl rfl Tryd.isAgg9) rfl ?_
  refine Wh.rd (v := .pointer (some ⟨g_1, 1, none⟩)) 5 rfl (by kernel_rfl) hS.bel (rd_indexArr (n := 1) rfl rfl Tryd.underlying58 Tryd.sizeOf3 (by decide) (by decide)) rfl ?_
  refine Wh.rd (v := .int .i64 b) 6 rfl (by kernel_rfl) hS.bel (rd_loadX h0 1 rfl rfl rfl Tryd.isAgg3) rfl ?_
  refine Wh.rd (v := .int .i64 (b + 1)) 7 rfl (by kernel_rfl) hS.bel (rd_add rfl rfl (in_i64 (by omega) (by omega))) rfl ?_
  refine Wh.rd (v := .string ((rim).extract (b + 1).toNat rim.size)) 8 rfl (by kernel_rfl) hS.bel (rd_sliceS_L Tryd.underlying9 rfl rfl (by omega) (by omega)) rfl ?_
  refine Wh.rd (v := .string (((rim).extract 0 a.toNat) ++ ((rim).extract (b + 1).toNat rim.size))) 9 rfl (by kernel_rfl) hS.bel (rd_addS rfl rfl (by rw [ByteArray.size_extract, ByteArray.size_extract]; omega)) rfl ?_
  refine Wh.br [10, 12] (by kernel_rfl) (by decide) ⟨⟨_, rfl, ?_⟩, ⟨_, rfl, ?_⟩, trivial⟩
  · -- operation 10
    refine Wx.callF (run_callF Tryd.call66 rfl) (F66 (by first | assumption | (simp only [maxLen]; omega) | (simp only [ByteArray.size_extract, ByteArray.size_append, maxLen] at *; omega) | decide) (by omega) (p_l.cut a b) (hG.ext (Ext.trans h0.bel hS.bel))) rfl ?_
    rintro r_16 w_17 hx_18 ⟨g_tc, T_tc, rfl, hg_19, hh_20, hT_tc⟩
    have hS := hS.pushBox hx_18 hg_19 hh_20
    have hB_tc := hT_tc.1
    have hca := hT_tc.all
    refine Wx.nil ⟨hS.bel, ?_⟩
    refine Wh.br [11, 12] (by kernel_rfl) (by decide) ⟨⟨_, rfl, ?_⟩, ⟨_, rfl, ?_⟩, trivial⟩
    · -- operation 11
      refine Wx.callF (run_callF Tryd.call67 rfl) (F67 (boxAt hS 0 rfl (Ext.refl _)) hB_tc (by omega)) rfl ?_
      rintro r_21 w_22 hx_23 rfl
      have hS := hS.ext hx_23
      refine Wx.nil ⟨hS.bel, ?_⟩
      refine Wh.br [12] (by kernel_rfl) (by decide) ⟨⟨_, rfl, ?_⟩, trivial⟩
      refine Wx.alloc (cs := [.int .i64 0, .int .i64 0]) hS Tryd.zeroValue82 rfl rfl (fun g_24 w_25 hx_27 hb_26 hS => ?_)
      refine Wx.nil ⟨hS.bel, ?_⟩
      refine Wh.br [13] (by kernel_rfl) (by decide) ⟨⟨_, rfl, ?_⟩, trivial⟩
      refine Wx.storeX (cs' := [.int .i64 ((T_tc 0 (((rim).extract 0 a.toNat) ++ ((rim).extract (b + 1).toNat rim.size)).size).1), .int .i64 ((T_tc 0 (((rim).extract 0 a.toNat) ++ ((rim).extract (b + 1).toNat rim.size)).size).2)]) (ds := [.int .i64 ((T_tc 0 (((rim).extract 0 a.toNat) ++ ((rim).extract (b + 1).toNat rim.size)).size).1), .int .i64 ((T_tc 0 (((rim).extract 0 a.toNat) ++ ((rim).extract (b + 1).toNat rim.size)).size).2)]) hS 0 rfl rfl rfl rfl Tryd.sizeOf82 (Nat.le_of_ble_eq_true rfl) (one_cons rfl (one_cons rfl one_nil)) rfl (fun w_28 hz_29 hS => ?_)
      refine Wx.nil ⟨hS.bel, ?_⟩
      refine Wh.done (by kernel_rfl) ?_
      have hS := h0.merge hS
      refine W.seq ?_
      refine W.regQ mixedHj_ (by kernel_rfl) ?_
      refine Wx.rd (v := .pointer (some ⟨g_8, 1, none⟩)) (rd_fieldAddr rfl foHj_82_1) rfl ?_
      refine Wx.rd (v := .int .i64 ((T (a + 1) b).2)) (rd_loadX hS 2 rfl rfl rfl Tryd.isAgg3) rfl ?_
      refine Wx.rd (v := .pointer (some ⟨g_24, 1, none⟩)) (rd_fieldAddr rfl foHj_82_1) rfl ?_
      refine Wx.rd (v := .int .i64 ((T_tc 0 (((rim).extract 0 a.toNat) ++ ((rim).extract (b + 1).toNat rim.size)).size).2)) (rd_loadX hS 0 rfl rfl rfl Tryd.isAgg3) rfl ?_
      refine Wx.rd (v := .int .i64 (((T (a + 1) b).2) * ((T_tc 0 (((rim).extract 0 a.toNat) ++ ((rim).extract (b + 1).toNat rim.size)).size).2))) (rd_mul rfl rfl (by rw [hca]; exact in_i64 (by show -9223372036854775808 ≤ (T (a + 1) b).2 * (allV (cutS rim a b)).2; omega) (by show (T (a + 1) b).2 * (allV (cutS rim a b)).2 ≤ _; omega))) rfl ?_
      refine Wx.rd (v := .pointer (some ⟨g, 0, none⟩)) (rd_loadO x_gt hS.bel rfl rfl Tryd.isAgg83) rfl ?_
      refine Wx.callV (v := .agg #[.int .i64 ((T 0 rim.size).1), .int .i64 ((T 0 rim.size).2)]) (run_callF Tryd.call67 rfl) (fun w_30 hw_31 => (F67 (extAt x_g (Ext.trans hS.bel hw_31)) hB (by omega))) rfl ?_
      refine Wx.rd (v := .int .i64 ((T 0 rim.size).2)) (rd_fieldV rfl ftHj_82_1 Tryd.isAgg3 rfl) rfl ?_
      refine Wx.rd (v := .bool (decide ((((T (a + 1) b).2) * ((T_tc 0 (((rim).extract 0 a.toNat) ++ ((rim).extract (b + 1).toNat rim.size)).size).2)) ≠ ((T 0 rim.size).2)))) (rd_neq rfl rfl) rfl ?_
      refine Wx.rd (v := .bool (decide ((((T (a + 1) b).2) * ((T_tc 0 (((rim).extract 0 a.toNat) ++ ((rim).extract (b + 1).toNat rim.size)).size).2)) ≠ ((T 0 rim.size).2)))) (rd_assign rfl) rfl ?_
      refine Wx.nilQ (fun w_32 hx_33 => ?_)
      have hS := hS.ext hx_33
      have e0_0 : (!frcN rim (a, b)) = (decide ((((T (a + 1) b).2) * ((T_tc 0 (((rim).extract 0 a.toNat) ++ ((rim).extract (b + 1).toNat rim.size)).size).2)) ≠ ((T 0 rim.size).2))) := by rw [frcN, p_ok.all, hca, p_ok.2 (a + 1) b (by omega) (by omega) (by omega)]; exact decide_not.symm
      exact W.ret ⟨.bool (decide ((((T (a + 1) b).2) * ((T_tc 0 (((rim).extract 0 a.toNat) ++ ((rim).extract (b + 1).toNat rim.size)).size).2)) ≠ ((T 0 rim.size).2))), ResIs.one, hS.bel, (by rw [e0_0])⟩
    · -- operation 12
      refine Wx.alloc (cs := [.int .i64 0, .int .i64 0]) hS Tryd.zeroValue82 rfl rfl (fun g_34 w_35 hx_37 hb_36 hS => ?_)
      refine Wx.nil ⟨hS.bel, ?_⟩
      refine Wh.br [11] (by kernel_rfl) (by decide) ⟨⟨_, rfl, ?_⟩, trivial⟩
      refine Wx.callF (run_callF Tryd.call67 rfl) (F67 (boxAt hS 1 rfl (Ext.refl _)) hB_tc (by omega)) rfl ?_
      rintro r_38 w_39 hx_40 rfl
      have hS := hS.ext hx_40
      refine Wx.nil ⟨hS.bel, ?_⟩
      refine Wh.br [13] (by kernel_rfl) (by decide) ⟨⟨_, rfl, ?_⟩, trivial⟩
      refine Wx.storeX (cs' := [.int .i64 ((T_tc 0 (((rim).extract 0 a.toNat) ++ ((rim).extract (b + 1).toNat rim.size)).size).1), .int .i64 ((T_tc 0 (((rim).extract 0 a.toNat) ++ ((rim).extract (b + 1).toNat rim.size)).size).2)]) (ds := [.int .i64 ((T_tc 0 (((rim).extract 0 a.toNat) ++ ((rim).extract (b + 1).toNat rim.size)).size).1), .int .i64 ((T_tc 0 (((rim).extract 0 a.toNat) ++ ((rim).extract (b + 1).toNat rim.size)).size).2)]) hS 0 rfl rfl rfl rfl Tryd.sizeOf82 (Nat.le_of_ble_eq_true rfl) (one_cons rfl (one_cons rfl one_nil)) rfl (fun w_41 hz_42 hS => ?_)
      refine Wx.nil ⟨hS.bel, ?_⟩
      refine Wh.done (by kernel_rfl) ?_
      have hS := h0.merge hS
      refine W.seq ?_
      refine W.regQ mixedHj_ (by kernel_rfl) ?_
      refine Wx.rd (v := .pointer (some ⟨g_8, 1, none⟩)) (rd_fieldAddr rfl foHj_82_1) rfl ?_
      refine Wx.rd (v := .int .i64 ((T (a + 1) b).2)) (rd_loadX hS 2 rfl rfl rfl Tryd.isAgg3) rfl ?_
      refine Wx.rd (v := .pointer (some ⟨g_34, 1, none⟩)) (rd_fieldAddr rfl foHj_82_1) rfl ?_
      refine Wx.rd (v := .int .i64 ((T_tc 0 (((rim).extract 0 a.toNat) ++ ((rim).extract (b + 1).toNat rim.size)).size).2)) (rd_loadX hS 0 rfl rfl rfl Tryd.isAgg3) rfl ?_
      refine Wx.rd (v := .int .i64 (((T (a + 1) b).2) * ((T_tc 0 (((rim).extract 0 a.toNat) ++ ((rim).extract (b + 1).toNat rim.size)).size).2))) (rd_mul rfl rfl (by rw [hca]; exact in_i64 (by show -9223372036854775808 ≤ (T (a + 1) b).2 * (allV (cutS rim a b)).2; omega) (by show (T (a + 1) b).2 * (allV (cutS rim a b)).2 ≤ _; omega))) rfl ?_
      refine Wx.rd (v := .pointer (some ⟨g, 0, none⟩)) (rd_loadO x_gt hS.bel rfl rfl Tryd.isAgg83) rfl ?_
      refine Wx.callV (v := .agg #[.int .i64 ((T 0 rim.size).1), .int .i64 ((T 0 rim.size).2)]) (run_callF Tryd.call67 rfl) (fun w_43 hw_44 => (F67 (extAt x_g (Ext.trans hS.bel hw_44)) hB (by omega))) rfl ?_
      refine Wx.rd (v := .int .i64 ((T 0 rim.size).2)) (rd_fieldV rfl ftHj_82_1 Tryd.isAgg3 rfl) rfl ?_
      refine Wx.rd (v := .bool (decide ((((T (a + 1) b).2) * ((T_tc 0 (((rim).extract 0 a.toNat) ++ ((rim).extract (b + 1).toNat rim.size)).size).2)) ≠ ((T 0 rim.size).2)))) (rd_neq rfl rfl) rfl ?_
      refine Wx.rd (v := .bool (decide ((((T (a + 1) b).2) * ((T_tc 0 (((rim).extract 0 a.toNat) ++ ((rim).extract (b + 1).toNat rim.size)).size).2)) ≠ ((T 0 rim.size).2)))) (rd_assign rfl) rfl ?_
      refine Wx.nilQ (fun w_45 hx_46 => ?_)
      have hS := hS.ext hx_46
      have e0_0 : (!frcN rim (a, b)) = (decide ((((T (a + 1) b).2) * ((T_tc 0 (((rim).extract 0 a.toNat) ++ ((rim).extract (b + 1).toNat rim.size)).size).2)) ≠ ((T 0 rim.size).2))) := by rw [frcN, p_ok.all, hca, p_ok.2 (a + 1) b (by omega) (by omega) (by omega)]; exact decide_not.symm
      exact W.ret ⟨.bool (decide ((((T (a + 1) b).2) * ((T_tc 0 (((rim).extract 0 a.toNat) ++ ((rim).extract (b + 1).toNat rim.size)).size).2)) ≠ ((T 0 rim.size).2))), ResIs.one, hS.bel, (by rw [e0_0])⟩
  · -- operation 12
    refine Wx.alloc (cs := [.int .i64 0, .int .i64 0]) hS Tryd.zeroValue82 rfl rfl (fun g_47 w_48 hx_50 hb_49 hS => ?_)
    refine Wx.nil ⟨hS.bel, ?_⟩
    refine Wh.br [10] (by kernel_rfl) (by decide) ⟨⟨_, rfl, ?_⟩, trivial⟩
    refine Wx.callF (run_callF Tryd.call66 rfl) (F66 (by first | assumption | (simp only [maxLen]; omega) | (simp only [ByteArray.size_extract, ByteArray.size_append, maxLen] at *; omega) | decide) (by omega) (p_l.cut a b) (hG.ext (Ext.trans h0.bel hS.bel))) rfl ?_
    rintro r_51 w_52 hx_53 ⟨g_tc, T_tc, rfl, hg_54, hh_55, hT_tc⟩
    have hS := hS.pushBox hx_53 hg_54 hh_55
    have hB_tc := hT_tc.1
    have hca := hT_tc.all
    refine Wx.nil ⟨hS.bel, ?_⟩
    refine Wh.br [11] (by kernel_rfl) (by decide) ⟨⟨_, rfl, ?_⟩, trivial⟩
    refine Wx.callF (run_callF Tryd.call67 rfl) (F67 (boxAt hS 0 rfl (Ext.refl _)) hB_tc (by omega)) rfl ?_
    rintro r_56 w_57 hx_58 rfl
    have hS := hS.ext hx_58
    refine Wx.nil ⟨hS.bel, ?_⟩
    refine Wh.br [13] (by kernel_rfl) (by decide) ⟨⟨_, rfl, ?_⟩, trivial⟩
    refine Wx.storeX (cs' := [.int .i64 ((T_tc 0 (((rim).extract 0 a.toNat) ++ ((rim).extract (b + 1).toNat rim.size)).size).1), .int .i64 ((T_tc 0 (((rim).extract 0 a.toNat) ++ ((rim).extract (b + 1).toNat rim.size)).size).2)]) (ds := [.int .i64 ((T_tc 0 (((rim).extract 0 a.toNat) ++ ((rim).extract (b + 1).toNat rim.size)).size).1), .int .i64 ((T_tc 0 (((rim).extract 0 a.toNat) ++ ((rim).extract (b + 1).toNat rim.size)).size).2)]) hS 1 rfl rfl rfl rfl Tryd.sizeOf82 (Nat.le_of_ble_eq_true rfl) (one_cons rfl (one_cons rfl one_nil)) rfl (fun w_59 hz_60 hS => ?_)
    refine Wx.nil ⟨hS.bel, ?_⟩
    refine Wh.done (by kernel_rfl) ?_
    have hS := h0.merge hS
    refine W.seq ?_
    refine W.regQ mixedHj_ (by kernel_rfl) ?_
    refine Wx.rd (v := .pointer (some ⟨g_8, 1, none⟩)) (rd_fieldAddr rfl foHj_82_1) rfl ?_
    refine Wx.rd (v := .int .i64 ((T (a + 1) b).2)) (rd_loadX hS 2 rfl rfl rfl Tryd.isAgg3) rfl ?_
    refine Wx.rd (v := .pointer (some ⟨g_47, 1, none⟩)) (rd_fieldAddr rfl foHj_82_1) rfl ?_
    refine Wx.rd (v := .int .i64 ((T_tc 0 (((rim).extract 0 a.toNat) ++ ((rim).extract (b + 1).toNat rim.size)).size).2)) (rd_loadX hS 1 rfl rfl rfl Tryd.isAgg3) rfl ?_
    refine Wx.rd (v := .int .i64 (((T (a + 1) b).2) * ((T_tc 0 (((rim).extract 0 a.toNat) ++ ((rim).extract (b + 1).toNat rim.size)).size).2))) (rd_mul rfl rfl (by rw [hca]; exact in_i64 (by show -9223372036854775808 ≤ (T (a + 1) b).2 * (allV (cutS rim a b)).2; omega) (by show (T (a + 1) b).2 * (allV (cutS rim a b)).2 ≤ _; omega))) rfl ?_
    refine Wx.rd (v := .pointer (some ⟨g, 0, none⟩)) (rd_loadO x_gt hS.bel rfl rfl Tryd.isAgg83) rfl ?_
    refine Wx.callV (v := .agg #[.int .i64 ((T 0 rim.size).1), .int .i64 ((T 0 rim.size).2)]) (run_callF Tryd.call67 rfl) (fun w_61 hw_62 => (F67 (extAt x_g (Ext.trans hS.bel hw_62)) hB (by omega))) rfl ?_
    refine Wx.rd (v := .int .i64 ((T 0 rim.size).2)) (rd_fieldV rfl ftHj_82_1 Tryd.isAgg3 rfl) rfl ?_
    refine Wx.rd (v := .bool (decide ((((T (a + 1) b).2) * ((T_tc 0 (((rim).extract 0 a.toNat) ++ ((rim).extract (b + 1).toNat rim.size)).size).2)) ≠ ((T 0 rim.size).2)))) (rd_neq rfl rfl) rfl ?_
    refine Wx.rd (v := .bool (decide ((((T (a + 1) b).2) * ((T_tc 0 (((rim).extract 0 a.toNat) ++ ((rim).extract (b + 1).toNat rim.size)).size).2)) ≠ ((T 0 rim.size).2)))) (rd_assign rfl) rfl ?_
    refine Wx.nilQ (fun w_63 hx_64 => ?_)
    have hS := hS.ext hx_64
    have e0_0 : (!frcN rim (a, b)) = (decide ((((T (a + 1) b).2) * ((T_tc 0 (((rim).extract 0 a.toNat) ++ ((rim).extract (b + 1).toNat rim.size)).size).2)) ≠ ((T 0 rim.size).2))) := by rw [frcN, p_ok.all, hca, p_ok.2 (a + 1) b (by omega) (by omega) (by omega)]; exact decide_not.symm
    exact W.ret ⟨.bool (decide ((((T (a + 1) b).2) * ((T_tc 0 (((rim).extract 0 a.toNat) ++ ((rim).extract (b + 1).toNat rim.size)).size).2)) ≠ ((T 0 rim.size).2))), ResIs.one, hS.bel, (by rw [e0_0])⟩

theorem F93 {lv : Value} {l : List (Int × Int)} {Fr_lv : List (Option Nat)} {gt : Nat} {g : Nat} {rim : ByteArray} {T : Tab} {gr : Nat} {w : World} (h_lv : V (tSl (tP (tI .i64) (tI .i64))) l lv Fr_lv w) (x_g : w.heap[g]? = some (.cells (tabC rim T).toArray 94 (0, 0))) (x_gt : w.heap[gt]? = some (.cells #[.pointer (some ⟨g, 0, none⟩)] 83 (0, 0))) (s_rim : rim.size ≤ maxLen) (x_gr : w.heap[gr]? = some (.cells #[.string rim] 9 (0, 0))) (p_12 : (rim.size : Int) ≤ 12) (p_l : Lets rim) (p_ok : TabOK rim T) (p_in : ∀ x ∈ l, 0 ≤ x.1 ∧ x.1 < x.2 ∧ x.2 < rim.size) (hG : Laid w) : Calls Tryd.prog 93 #[lv, .func (.func 71) #[] #[.pointer (some ⟨gt, 0, none⟩), .pointer (some ⟨gr, 0, none⟩)]] w (Ret w (fun r _ => r = .int .i64 (idxF (frcN rim) l 0))) := by
  have a_lv := h_lv.any
  have l_lv := h_lv.len63
  have hS := St.start0 w
  refine enterR Tryd.func93 rfl Tryd.ntmps93 Tryd.results93 rfl ?_
  refine W.seq ?_
  refine W.reg ?_
  refine Wx.rd (v := .int .i64 0) (rd_assign rfl) rfl ?_
  refine Wx.nil ?_
  refine W.seq ?_
  refine W.seq ?_
  refine W.reg ?_
  refine Wx.rd (v := lv) (rd_move rfl) rfl ?_
  refine Wx.rd (v := .int .i64 (l.length : Int)) (rd_lenV rfl (hS.arg a_lv) Tryd.underlying22) rfl ?_
  refine Wx.rd (v := .int .i64 0) (rd_move rfl) rfl ?_
  refine Wx.nil ?_
  refine W.block ?_
  refine W.loop [4, 5, 8, 9, 10, 11, 12, 13, 14, 15, 16, 17, 18] (fun (k : Int) => [(8, .int .i64 k)]) (fun (k : Int) w' => St w [] w' [] ∧ 0 ≤ k ∧ k ≤ l.length ∧ idxF (frcN rim) (l.drop k.toNat) k = idxF (frcN rim) l 0) (fun (k : Int) => (l.length - k).toNat) 0 ⟨rfl, trivial⟩ ⟨hS, (by first | omega | simp), (by first | omega | simp), (rfl)⟩ ?_
  rintro k u_2 w_1 ⟨hS, h0, h1, h2⟩
  refine W.seq ?_
  refine W.reg ?_
  refine Wx.rd (v := .bool (decide (k < (l.length : Int)))) (rd_lss rfl rfl) rfl ?_
  refine Wx.nil ?_
  refine W.seq ?_
  refine W.condD rfl (fun c0 => ?_) (fun c0 => ?_)
  · -- yes
    have hin := p_in _ (ix_mem (d := (0, 0)) h0 c0)
    refine W.skip ?_
    refine W.seq ?_
    refine W.block ?_
    refine W.seq ?_
    refine W.reg ?_
    refine Wx.rd (v := .int .i64 k) (rd_move rfl) rfl ?_
    refine Wx.rd (v := .int .i64 k) (rd_assign rfl) rfl ?_
    refine Wx.nil ?_
    refine W.seq ?_
    refine W.reg ?_
    refine Wx.rd (v := .func (.func 71) #[] #[.pointer (some ⟨gt, 0, none⟩), .pointer (some ⟨gr, 0, none⟩)]) (rd_move rfl) rfl ?_
    refine Wx.rd (v := lv) (rd_move rfl) rfl ?_
    refine Wx.rd (v := .int .i64 k) (rd_move rfl) rfl ?_
    refine Wx.ex (rd_index (0, 0) (hS.arg a_lv) rfl rfl Tryd.underlying22 Tryd.sizeOf58 (by first | omega | (simp only [List.length_set, List.length_append, List.length_cons, List.length_nil, List.length_replicate]; omega)) (by first | omega | (simp only [List.length_set, List.length_append, List.length_cons, List.length_nil, List.length_replicate]; omega))) rfl (fun p_3 hp_4 => ?_)
    refine Wx.ex (rd_load hp_4 rfl Tryd.isAgg58 Tryd.sizeOf58) rfl (fun v_5 hv_6 => ?_)
    obtain ⟨rfl, bd_7, bd_8⟩ := hv_6.i2
    have bd_7 := bd_i64 bd_7
    have bd_8 := bd_i64 bd_8
    refine Wx.callF (run_callC (fs := []) (cs := [.pointer (some ⟨gt, 0, none⟩), .pointer (some ⟨gr, 0, none⟩)]) (vs := [.agg #[.int .i64 ((ix (0, 0) l k).1), .int .i64 ((ix (0, 0) l k).2)], .pointer (some ⟨gt, 0, none⟩), .pointer (some ⟨gr, 0, none⟩)]) Tryd.call71 rfl rfl) (F71 (in_i64 (by omega) (by omega)) (in_i64 (by omega) (by omega)) (extAt x_g hS.bel) (extAt x_gt hS.bel) (by first | assumption | (simp only [maxLen]; omega) | (simp only [ByteArray.size_extract, ByteArray.size_append, maxLen] at *; omega) | decide) (extAt x_gr hS.bel) (by omega) (by omega) (by omega) (by omega) (by omega) (by omega) (hG.ext hS.bel)) rfl ?_
    rintro r_9 w_10 hx_11 rfl
    have hS := hS.ext hx_11
    refine Wx.nil ?_
    refine W.cond rfl (fun c1 => ?_) (fun c1 => ?_)
    · -- yes
      try simp only [Bool.and_eq_true, Bool.or_eq_true, Bool.not_eq_true', Bool.and_eq_false_iff, Bool.or_eq_false_iff, Bool.not_eq_false', decide_eq_true_eq, decide_eq_false_iff_not, not_or, Bool.false_eq_true, Bool.true_eq_false, false_or, or_false, not_false_eq_true] at c1
      refine W.seq ?_
      refine W.reg ?_
      refine Wx.rd (v := .int .i64 k) (rd_move rfl) rfl ?_
      refine Wx.rd (v := .int .i64 k) (rd_assign rfl) rfl ?_
      refine Wx.nil ?_
      have e0_0 : (idxF (frcN rim) l 0) = (k : Int) := by exact idxF_no h0 c0 h2 c1
      exact W.ret ⟨.int .i64 k, ResIs.one, hS.bel, (by rw [e0_0])⟩
    · -- no
      try simp only [Bool.and_eq_true, Bool.or_eq_true, Bool.not_eq_true', Bool.and_eq_false_iff, Bool.or_eq_false_iff, Bool.not_eq_false', decide_eq_true_eq, decide_eq_false_iff_not, not_or, Bool.false_eq_true, Bool.true_eq_false, false_or, or_false, not_false_eq_true] at c1
      refine W.skip ?_
      refine W.reg ?_
      refine Wx.rd (v := .int .i64 (k + 1)) (rd_add rfl rfl (in_i64 (by omega) (by omega))) rfl ?_
      refine Wx.rd (v := .int .i64 (k + 1)) (rd_move rfl) rfl ?_
      refine Wx.nil ?_
      refine ⟨k + 1, (by show (l.length - (k + 1)).toNat < (l.length - k).toNat; omega), ?_, ?_, Out.look rfl Out.self⟩
      · exact ⟨hS, (by first | omega | assumption), (by first | omega | assumption), (idxF_yes h0 c0 h2 c1)⟩
      · exact ⟨rfl, trivial⟩
  · -- no
    refine W.exit rfl ?_
    refine W.seq ?_
    refine W.reg ?_
    refine Wx.rd (v := .int .i64 (-1)) (rd_assign rfl) rfl ?_
    refine Wx.nil ?_
    have e1_0 : (idxF (frcN rim) l 0) = (-1 : Int) := by exact idxF_end (by omega) h2
    exact W.ret ⟨.int .i64 (-1), ResIs.one, hS.bel, (by rw [e1_0])⟩

theorem F70 {v : Value} {ys : List (Int × Int)} {gt gr g : Nat} {rim : ByteArray} {T : Tab} {ob : List Ob} {w0 w : World} {O : List (Option Nat)} (s_rim : rim.size ≤ maxLen) (p_12 : (rim.size : Int) ≤ 12) (p_l : Lets rim) (p_ok : TabOK rim T) (p_in : ∀ x ∈ ys, 0 ≤ x.1 ∧ x.1 < x.2 ∧ x.2 < rim.size) (p_len : (ys.length : Int) ≤ 100) (hG : Laid w0) (hS : St w0 O w (.row (tP (tI .i64) (tI .i64)) 58 v (ys) :: .box gt 83 [.pointer (some ⟨g, 0, none⟩)] :: .box gr 9 [.string rim] :: .box g 94 (tabC rim T) :: ob)) : Calls Tryd.prog 70 #[v, .func (.func 71) #[] #[.pointer (some ⟨gt, 0, none⟩), .pointer (some ⟨gr, 0, none⟩)]] w (Bk fun r w' => ∃ v', r = v' ∧ St w0 O w' (.row (tP (tI .i64) (tI .i64)) 58 v' (ys.filter (frcN rim)) :: .box gt 83 [.pointer (some ⟨g, 0, none⟩)] :: .box gr 9 [.string rim] :: .box g 94 (tabC rim T) :: ob)) := by
  have hB := p_ok.1
  refine enterB Tryd.func70 rfl Tryd.ntmps70 Tryd.results70 rfl ?_
  refine W.seq ?_
  refine W.reg ?_
  refine Wx.rd (v := (.slice none 0 0)) (rd_assign rfl) rfl ?_
  refine Wx.nil ?_
  refine W.seq ?_
  refine W.reg ?_
  refine Wx.rd (v := v) (rd_move rfl) rfl ?_
  refine Wx.rd (v := .func (.func 71) #[] #[.pointer (some ⟨gt, 0, none⟩), .pointer (some ⟨gr, 0, none⟩)]) (rd_move rfl) rfl ?_
  refine Wx.callF (run_callF Tryd.call93 rfl) (F93 (hS.lend 0 rfl) (boxAt hS 3 rfl (Ext.refl _)) (boxAt hS 1 rfl (Ext.refl _)) (by first | assumption | (simp only [maxLen]; omega) | (simp only [ByteArray.size_extract, ByteArray.size_append, maxLen] at *; omega) | decide) (boxAt hS 2 rfl (Ext.refl _)) (by omega) p_l p_ok p_in (hG.ext hS.bel)) rfl ?_
  rintro r_1 w_2 hx_3 rfl
  have hS := hS.ext hx_3
  refine Wx.rd (v := .int .i64 (idxF (frcN rim) ys 0)) (rd_assign rfl) rfl ?_
  refine Wx.nil ?_
  refine W.seq ?_
  refine W.seq ?_
  refine W.reg ?_
  refine Wx.rd (v := .int .i64 (idxF (frcN rim) ys 0)) (rd_move rfl) rfl ?_
  refine Wx.rd (v := .bool (decide ((idxF (frcN rim) ys 0) = (-1)))) (rd_eql rfl rfl) rfl ?_
  refine Wx.nil ?_
  refine W.condD rfl (fun c0 => ?_) (fun c0 => ?_)
  · -- yes
    refine W.seq ?_
    refine W.reg ?_
    refine Wx.rd (v := v) (rd_move rfl) rfl ?_
    refine Wx.rd (v := v) (rd_assign rfl) rfl ?_
    refine Wx.nil ?_
    exact W.ret ⟨v, ResIs.one, _, rfl, hS.spell (ys' := ys.filter (frcN rim)) 0 rfl (del_none c0).symm⟩
  · -- no
    obtain ⟨hi0, hi1, hi2⟩ := del_start c0
    refine W.skip ?_
    refine W.seq ?_
    refine W.seq ?_
    refine W.reg ?_
    obtain ⟨g_4, c_5, rfl, hc_6⟩ := hS.rowForm 0 rfl (by omega)
    refine Wx.rd (v := .int .i64 (idxF (frcN rim) ys 0)) (rd_move rfl) rfl ?_
    refine Wx.rd (v := .int .i64 ((idxF (frcN rim) ys 0) + 1)) (rd_add rfl rfl (in_i64 (by omega) (by omega))) rfl ?_
    refine Wx.rd (v := .int .i64 ((idxF (frcN rim) ys 0) + 1)) (rd_assign rfl) rfl ?_
    refine Wx.nil ?_
    refine W.block ?_
    refine W.loop [5, 6, 7, 16, 17, 18, 19, 20, 21, 22, 23, 24, 25, 26, 27, 28, 29, 30, 31, 32, 33, 34, 35] (fun x : Int × Int × (List (Int × Int)) => match x with | (i, j, z) => [(5, .int .i64 i), (6, .int .i64 j)]) (fun (x : Int × Int × (List (Int × Int))) w' => match x with | (i, j, z) => St w0 O w' (.row (tP (tI .i64) (tI .i64)) 58 (.slice (some ⟨g_4, 0, none⟩) ys.length c_5) z :: .box gt 83 [.pointer (some ⟨g, 0, none⟩)] :: .box gr 9 [.string rim] :: .box g 94 (tabC rim T) :: ob) ∧ 0 ≤ i ∧ i < j ∧ j ≤ ys.length ∧ z.length = ys.length ∧ z.take i.toNat = (ys.take j.toNat).filter (frcN rim) ∧ z.drop j.toNat = ys.drop j.toNat) (fun x : Int × Int × (List (Int × Int)) => match x with | (i, j, z) => (ys.length - j).toNat) (idxF (frcN rim) ys 0, (idxF (frcN rim) ys 0) + 1, ys) ⟨rfl, rfl, trivial⟩ ⟨hS, (by first | omega | simp), (by first | omega | simp), (by first | omega | simp), (rfl), (hi2), (rfl)⟩ ?_
    rintro ⟨i, j, z⟩ u_8 w_7 ⟨hS, h0, h1, h1b, hl, hT, hD⟩
    refine W.seq ?_
    refine W.seq ?_
    refine W.reg ?_
    refine Wx.rd (v := .int .i64 j) (rd_move rfl) rfl ?_
    refine Wx.rd (v := (.slice (some ⟨g_4, 0, none⟩) ys.length c_5)) (rd_move rfl) rfl ?_
    refine Wx.rd (v := .int .i64 (z.length : Int)) (rd_lenR hS 0 rfl rfl Tryd.underlying22) rfl ?_
    refine Wx.rd (v := .bool (decide (j < (z.length : Int)))) (rd_lss rfl rfl) rfl ?_
    refine Wx.nil ?_
    refine W.condD rfl (fun c1 => ?_) (fun c1 => ?_)
    · -- yes
      have hix := del_ix (by omega) (by omega) hl hD
      have hin := p_in _ (ix_mem (d := (0, 0)) (xs := ys) (j := j) (by omega) (by omega))
      rw [← hix] at hin
      refine W.skip ?_
      refine W.seq ?_
      refine W.block ?_
      refine W.seq ?_
      refine W.reg ?_
      refine Wx.rd (v := (.slice (some ⟨g_4, 0, none⟩) ys.length c_5)) (rd_move rfl) rfl ?_
      refine Wx.rd (v := .int .i64 j) (rd_move rfl) rfl ?_
      refine Wx.rd (v := .pointer (some ⟨g_4, j.toNat * 2, none⟩)) (rd_indexO Tryd.underlying22 Tryd.sizeOf58 rfl rfl (by first | omega | (simp only [List.length_set, List.length_append, List.length_cons, List.length_nil, List.length_replicate]; omega)) (by first | omega | (simp only [List.length_set, List.length_append, List.length_cons, List.length_nil, List.length_replicate]; omega))) rfl ?_
      refine Wx.ex (rd_loadR' (0, 0) hS 0 rfl rfl rfl (by first | omega | (simp only [List.length_set, List.length_append, List.length_cons, List.length_nil, List.length_replicate]; omega)) (by first | omega | (simp only [List.length_set, List.length_append, List.length_cons, List.length_nil, List.length_replicate]; omega)) Tryd.isAgg58 Tryd.sizeOf58) rfl (fun v_9 hv_10 => ?_)
      obtain ⟨rfl, bd_11, bd_12⟩ := hv_10.i2
      have bd_11 := bd_i64 bd_11
      have bd_12 := bd_i64 bd_12
      refine Wx.alloc (cs := [.int .i64 0, .int .i64 0]) hS Tryd.zeroValue58 rfl rfl (fun g_13 w_14 hx_16 hb_15 hS => ?_)
      refine Wx.storeX (cs' := [.int .i64 ((ix (0, 0) z j).1), .int .i64 ((ix (0, 0) z j).2)]) (ds := [.int .i64 ((ix (0, 0) z j).1), .int .i64 ((ix (0, 0) z j).2)]) hS 0 rfl rfl rfl rfl Tryd.sizeOf58 (Nat.le_of_ble_eq_true rfl) (one_cons rfl (one_cons rfl one_nil)) rfl (fun w_17 hz_18 hS => ?_)
      refine Wx.nil ?_
      refine W.seq ?_
      refine W.reg ?_
      refine Wx.rd (v := .func (.func 71) #[] #[.pointer (some ⟨gt, 0, none⟩), .pointer (some ⟨gr, 0, none⟩)]) (rd_move rfl) rfl ?_
      refine Wx.rd (v := .agg #[.int .i64 ((ix (0, 0) z j).1), .int .i64 ((ix (0, 0) z j).2)]) (rd_loadXs (ds := [.int .i64 ((ix (0, 0) z j).1), .int .i64 ((ix (0, 0) z j).2)]) hS 0 rfl rfl rfl rfl Tryd.isAgg58 Tryd.sizeOf58) rfl ?_
      refine Wx.callF (run_callC (fs := []) (cs := [.pointer (some ⟨gt, 0, none⟩), .pointer (some ⟨gr, 0, none⟩)]) (vs := [.agg #[.int .i64 ((ix (0, 0) z j).1), .int .i64 ((ix (0, 0) z j).2)], .pointer (some ⟨gt, 0, none⟩), .pointer (some ⟨gr, 0, none⟩)]) Tryd.call71 rfl rfl) (F71 (in_i64 (by omega) (by omega)) (in_i64 (by omega) (by omega)) (boxAt hS 4 rfl (Ext.refl _)) (boxAt hS 2 rfl (Ext.refl _)) (by first | assumption | (simp only [maxLen]; omega) | (simp only [ByteArray.size_extract, ByteArray.size_append, maxLen] at *; omega) | decide) (boxAt hS 3 rfl (Ext.refl _)) (by omega) p_l p_ok (by omega) (by omega) (by omega) (hG.ext hS.bel)) rfl ?_
      rintro r_19 w_20 hx_21 rfl
      have hS := hS.ext hx_21
      refine Wx.rd (v := .bool (!(!frcN rim (((ix (0, 0) z j).1), ((ix (0, 0) z j).2))))) (rd_not rfl) rfl ?_
      refine Wx.nil ?_
      refine W.cond rfl (fun c2 => ?_) (fun c2 => ?_)
      · -- yes
        try simp only [Bool.and_eq_true, Bool.or_eq_true, Bool.not_eq_true', Bool.and_eq_false_iff, Bool.or_eq_false_iff, Bool.not_eq_false', decide_eq_true_eq, decide_eq_false_iff_not, not_or, Bool.false_eq_true, Bool.true_eq_false, false_or, or_false, not_false_eq_true] at c2
        refine W.seq ?_
        refine W.reg ?_
        refine Wx.rd (v := (.slice (some ⟨g_4, 0, none⟩) ys.length c_5)) (rd_move rfl) rfl ?_
        refine Wx.rd (v := .int .i64 i) (rd_move rfl) rfl ?_
        refine Wx.rd (v := .agg #[.int .i64 ((ix (0, 0) z j).1), .int .i64 ((ix (0, 0) z j).2)]) (rd_loadXs (ds := [.int .i64 ((ix (0, 0) z j).1), .int .i64 ((ix (0, 0) z j).2)]) hS 0 rfl rfl rfl rfl Tryd.isAgg58 Tryd.sizeOf58) rfl ?_
        refine Wx.rd (v := .pointer (some ⟨g_4, i.toNat * 2, none⟩)) (rd_indexO Tryd.underlying22 Tryd.sizeOf58 rfl rfl (by first | omega | (simp only [List.length_set, List.length_append, List.length_cons, List.length_nil, List.length_replicate]; omega)) (by first | omega | (simp only [List.length_set, List.length_append, List.length_cons, List.length_nil, List.length_replicate]; omega))) rfl ?_
        refine Wx.storeR (j := i.toNat) (z := ((ix (0, 0) z j).1, (ix (0, 0) z j).2)) hS 1 rfl rfl rfl (by first | omega | (simp only [List.length_set, List.length_append, List.length_cons, List.length_nil, List.length_replicate]; omega)) rfl (V.mk2 (in_i64 (by omega) (by omega)) (in_i64 (by omega) (by omega))) Tryd.sizeOf58 (fun w_22 hz_23 hS => ?_)
        refine Wx.nil ?_
        refine W.reg ?_
        refine Wx.rd (v := .int .i64 i) (rd_move rfl) rfl ?_
        refine Wx.rd (v := .int .i64 (i + 1)) (rd_add rfl rfl (in_i64 (by omega) (by omega))) rfl ?_
        refine Wx.rd (v := .int .i64 (i + 1)) (rd_assign rfl) rfl ?_
        refine Wx.nil ?_
        refine W.reg ?_
        refine Wx.rd (v := .int .i64 j) (rd_move rfl) rfl ?_
        refine Wx.rd (v := .int .i64 (j + 1)) (rd_add rfl rfl (in_i64 (by omega) (by omega))) rfl ?_
        refine Wx.rd (v := .int .i64 (j + 1)) (rd_assign rfl) rfl ?_
        refine Wx.nil ?_
        refine ⟨(i + 1, j + 1, List.set z i.toNat ((ix (0, 0) z j).1, (ix (0, 0) z j).2)), (by show (ys.length - (j + 1)).toNat < (ys.length - j).toNat; omega), ?_, ?_, Out.look rfl Out.self⟩
        · exact ⟨hS.tl, (by first | omega | assumption), (by first | omega | assumption), (by first | omega | assumption), (by rw [List.length_set]; exact hl), ((del_yes h0 h1 (by omega) hl hT hD c2).1), ((del_yes h0 h1 (by omega) hl hT hD c2).2)⟩
        · exact ⟨rfl, rfl, trivial⟩
      · -- no
        try simp only [Bool.and_eq_true, Bool.or_eq_true, Bool.not_eq_true', Bool.and_eq_false_iff, Bool.or_eq_false_iff, Bool.not_eq_false', decide_eq_true_eq, decide_eq_false_iff_not, not_or, Bool.false_eq_true, Bool.true_eq_false, false_or, or_false, not_false_eq_true] at c2
        refine W.skip ?_
        refine W.reg ?_
        refine Wx.rd (v := .int .i64 j) (rd_move rfl) rfl ?_
        refine Wx.rd (v := .int .i64 (j + 1)) (rd_add rfl rfl (in_i64 (by omega) (by omega))) rfl ?_
        refine Wx.rd (v := .int .i64 (j + 1)) (rd_assign rfl) rfl ?_
        refine Wx.nil ?_
        refine ⟨(i, j + 1, z), (by show (ys.length - (j + 1)).toNat < (ys.length - j).toNat; omega), ?_, ?_, Out.look rfl Out.self⟩
        · exact ⟨hS.tl, (by first | omega | assumption), (by first | omega | assumption), (by first | omega | assumption), (by first | omega | assumption), ((del_no (by omega) (by omega) hl hT hD (by rw [c2]; decide)).1), ((del_no (by omega) (by omega) hl hT hD (by rw [c2]; decide)).2)⟩
        · exact ⟨rfl, rfl, trivial⟩
    · -- no
      refine W.exit rfl ?_
      refine W.seq ?_
      refine W.reg ?_
      refine Wx.rd (v := (.slice (some ⟨g_4, 0, none⟩) ys.length c_5)) (rd_move rfl) rfl ?_
      refine Wx.rd (v := .int .i64 i) (rd_move rfl) rfl ?_
      refine Wx.rd (v := .slice (some ⟨g_4, i.toNat * 2, none⟩) (ys.length - i.toNat) (c_5 - i.toNat)) (rd_tailP Tryd.underlying22 Tryd.sizeOf58 rfl rfl (by omega) (by omega) (by omega)) rfl ?_
      have hS : St _ _ _ (.row (tP (tI .i64) (tI .i64)) 58 (.slice (some ⟨g_4, 0, none⟩) i.toNat c_5) (List.take i.toNat z) :: .box gt 83 [.pointer (some ⟨g, 0, none⟩)] :: .box gr 9 [.string rim] :: .box g 94 (tabC rim T) :: ob) := hS.shrink (m := i.toNat) 0 rfl (by omega)
      refine Wx.clearR (o := i.toNat) elHj_22 hS 0 rfl rfl (Nat.le_refl _) (by omega) (by omega) (by simp [Value.cells, Value.oneCell']) (fun w_24 hz_25 hS => ?_)
      refine Wx.nil ?_
      refine W.seq ?_
      refine W.reg ?_
      refine Wx.rd (v := (.slice (some ⟨g_4, 0, none⟩) ys.length c_5)) (rd_move rfl) rfl ?_
      refine Wx.rd (v := .int .i64 i) (rd_move rfl) rfl ?_
      refine Wx.rd (v := (.slice (some ⟨g_4, 0, none⟩) i.toNat c_5)) (rd_headO Tryd.underlying22 Tryd.sizeOf58 rfl rfl (by omega) (by omega)) rfl ?_
      refine Wx.rd (v := (.slice (some ⟨g_4, 0, none⟩) i.toNat c_5)) (rd_assign rfl) rfl ?_
      refine Wx.nil ?_
      exact W.ret ⟨(.slice (some ⟨g_4, 0, none⟩) i.toNat c_5), ResIs.one, _, rfl, hS.spell (ys' := ys.filter (frcN rim)) 0 rfl (by rw [hT, List.take_of_length_le (by omega)])⟩

theorem F27 {rim : ByteArray} {w : World} (s_rim : rim.size ≤ maxLen) (hG : Laid w) : Calls Tryd.prog 27 #[.string rim] w (Ret w (fun r w' => ∃ rv, r = .tuple #[rv, .int .i64 (rimE rim)] ∧ Fresh (tP (tI .i64) (tI .i64)) 58 (forcedP rim) rv w.heap.size w')) := by
  have hS := St.start0 w
  refine enterR Tryd.func27 rfl Tryd.ntmps27 Tryd.results27 rfl ?_
  refine W.seq ?_
  refine W.reg ?_
  refine Wx.box (cs := [.string rim]) hS rfl rfl rfl (fun g_1 w_2 hx_4 hb_3 hS => ?_)
  refine Wx.rd (v := (.slice none 0 0)) (rd_assign rfl) rfl ?_
  refine Wx.rd (v := .int .i64 0) (rd_assign rfl) rfl ?_
  refine Wx.nil ?_
  refine W.seq ?_
  refine W.reg ?_
  refine Wx.rd (v := .string rim) (rd_loadX hS 0 rfl rfl rfl Tryd.isAgg9) rfl ?_
  refine Wx.callF (run_callF Tryd.call25 rfl) (F25 (by first | assumption | (simp only [maxLen]; omega) | (simp only [ByteArray.size_extract, ByteArray.size_append, maxLen] at *; omega) | decide) (hG.ext hS.bel)) rfl ?_
  rintro r_5 w_6 hx_7 ⟨v_8, rfl, hv_9⟩
  have hS := hS.pushFr hx_7 hv_9
  refine Wx.rd (v := .tuple #[v_8, .int .i64 (rimE rim)]) (rd_move rfl) rfl ?_
  refine Wx.rd (v := v_8) (rd_extract rfl rfl) rfl ?_
  refine Wx.rd (v := .int .i64 (rimE rim)) (rd_extract rfl rfl) rfl ?_
  refine Wx.rd (v := v_8) (rd_assign rfl) rfl ?_
  refine Wx.rd (v := .int .i64 (rimE rim)) (rd_assign rfl) rfl ?_
  refine Wx.nil ?_
  refine W.seq ?_
  refine W.seq ?_
  refine W.reg ?_
  refine Wx.rd (v := .int .i64 (rimE rim)) (rd_move rfl) rfl ?_
  refine Wx.rd (v := .bool (decide ((rimE rim) ≠ 0))) (rd_neq rfl rfl) rfl ?_
  refine Wx.nil ?_
  refine W.condD rfl (fun c0 => ?_) (fun c0 => ?_)
  · -- yes
    refine W.seq ?_
    refine W.reg ?_
    refine Wx.rd (v := .int .i64 (rimE rim)) (rd_move rfl) rfl ?_
    refine Wx.rd (v := (.slice none 0 0)) (rd_assign rfl) rfl ?_
    refine Wx.rd (v := .int .i64 (rimE rim)) (rd_assign rfl) rfl ?_
    refine Wx.nil ?_
    have e0_0 : forcedP rim = [] := by exact if_neg c0
    exact W.ret ⟨.tuple #[(.slice none 0 0), .int .i64 (rimE rim)], ResIs.two, hS.bel, ⟨(.slice none 0 0), rfl, (by rw [e0_0]; exact ((hS.addNil (tP (tI .i64) (tI .i64)) 58).fr 0 rfl flat_i2))⟩⟩
  · -- no
    have hr0 : rimE rim = 0 := by omega
    obtain ⟨hr1, hr2⟩ := rimE_ok hr0
    have hfe : firstV rim = firstP (fitR rim) 0 rim.size := if_pos hr0
    have hfl := firstP_len (F := fitR rim) (i := 0) (n := rim.size) (by omega)
    have hfi := first_in rim
    refine W.skip ?_
    refine W.seq ?_
    refine W.reg ?_
    refine Wx.rd (v := .string rim) (rd_loadX hS 1 rfl rfl rfl Tryd.isAgg9) rfl ?_
    refine Wx.callF (run_callF Tryd.call66 rfl) (F66 (by first | assumption | (simp only [maxLen]; omega) | (simp only [ByteArray.size_extract, ByteArray.size_append, maxLen] at *; omega) | decide) (by omega) hr2 (hG.ext hS.bel)) rfl ?_
    rintro r_11 w_12 hx_13 ⟨g_tb, T_tb, rfl, hg_14, hh_15, hT_tb⟩
    have hS := hS.pushBox hx_13 hg_14 hh_15
    have hB_tb := hT_tb.1
    refine Wx.alloc (cs := [(.pointer none)]) hS Tryd.zeroValue83 rfl rfl (fun g_16 w_17 hx_19 hb_18 hS => ?_)
    refine Wx.storeX (cs' := [.pointer (some ⟨g_tb, 0, none⟩)]) (ds := [.pointer (some ⟨g_tb, 0, none⟩)]) hS 0 rfl rfl rfl rfl Tryd.sizeOf83 (Nat.le_of_ble_eq_true rfl) (one_cons rfl one_nil) rfl (fun w_20 hz_21 hS => ?_)
    refine Wx.nil ?_
    refine W.seq ?_
    refine W.reg ?_
    refine Wx.rd (v := v_8) (rd_move rfl) rfl ?_
    refine Wx.rd (v := .func (.func 71) #[] #[.pointer (some ⟨g_16, 0, none⟩), .pointer (some ⟨g_1, 0, none⟩)]) (rd_makeFunc (vs := []) (us := [.pointer (some ⟨g_16, 0, none⟩), .pointer (some ⟨g_1, 0, none⟩)]) rfl rfl) rfl ?_
    refine Wx.callB (run_callF Tryd.call70 rfl) (F70 (ob := []) s_rim hr1 hr2 hT_tb (by rw [hfe]; exact hfi) (by rw [hfe]; omega) hG ((((hS.front 1 rfl).front 3 rfl).front 2 rfl).front 3 rfl)) rfl ?_
    rintro r_22 w_23 ⟨_, rfl, hS⟩
    have hS : St _ _ w_23 [.row (tP (tI .i64) (tI .i64)) 58 r_22 (List.filter (frcN rim) (firstV rim)), .box g_16 83 [.pointer (some ⟨g_tb, 0, none⟩)], .box g_1 9 [.string rim], .box g_tb 94 (tabC rim T_tb)] := hS
    refine Wx.rd (v := r_22) (rd_assign rfl) rfl ?_
    refine Wx.rd (v := .int .i64 0) (rd_assign rfl) rfl ?_
    refine Wx.nil ?_
    have e1_0 : forcedP rim = List.filter (frcN rim) (firstV rim) := by rw [forcedP, if_pos hr0, hfe]
    have e1_1 : (rimE rim) = (0 : Int) := by exact hr0
    exact W.ret ⟨.tuple #[r_22, .int .i64 0], ResIs.two, hS.bel, ⟨r_22, (by rw [e1_1]), (by rw [e1_0]; exact (hS.fr 0 rfl flat_i2))⟩⟩
end Go.Proofs.YtokdjjebnomciaaDoor

namespace Go.Proofs.YtokdjjebnomciaaDoor
open Go.Wk Go.RowKit Go.Lib
set_option linter.unusedVariables false
set_option linter.unusedSimpArgs false
theorem mixedHk_ : Tryd.prog.follows .mixedOrders = true := by kernel_rfl
theorem elHk_22 : ElemI Tryd.prog 22 58 (.agg #[.int .i64 0, .int .i64 0]) 2 16 := ElemI.of Tryd.underlying22 (by kernel_rfl) (by first | rfl | kernel_rfl) (by decide)

theorem F29 {xv : Value} {xs : List (Int × Int)} {Fr_xv : List (Option Nat)} {yv : Value} {ys : List (Int × Int)} {Fr_yv : List (Option Nat)} {w : World} (h_xv : V (tSl (tP (tI .i64) (tI .i64))) xs xv Fr_xv w) (h_yv : V (tSl (tP (tI .i64) (tI .i64))) ys yv Fr_yv w) : Calls Tryd.prog 29 #[xv, yv] w (Ret w (fun r _ => r = .bool (decide (xs = ys)))) := by
  have a_xv := h_xv.any
  have l_xv := h_xv.len63
  have a_yv := h_yv.any
  have l_yv := h_yv.len63
  have hS := St.start0 w
  refine enterR Tryd.func29 rfl Tryd.ntmps29 Tryd.results29 rfl ?_
  refine W.seq ?_
  refine W.reg ?_
  refine Wx.rd (v := .bool false) (rd_assign rfl) rfl ?_
  refine Wx.nil ?_
  refine W.seq ?_
  refine W.seq ?_
  refine W.reg ?_
  refine Wx.rd (v := xv) (rd_move rfl) rfl ?_
  refine Wx.rd (v := .int .i64 (xs.length : Int)) (rd_lenV rfl (hS.arg a_xv) Tryd.underlying22) rfl ?_
  refine Wx.rd (v := yv) (rd_move rfl) rfl ?_
  refine Wx.rd (v := .int .i64 (ys.length : Int)) (rd_lenV rfl (hS.arg a_yv) Tryd.underlying22) rfl ?_
  refine Wx.rd (v := .bool (decide ((xs.length : Int) ≠ (ys.length : Int)))) (rd_neq rfl rfl) rfl ?_
  refine Wx.nil ?_
  refine W.condD rfl (fun c0 => ?_) (fun c0 => ?_)
  · -- yes
    refine W.seq ?_
    refine W.reg ?_
    refine Wx.rd (v := .bool false) (rd_assign rfl) rfl ?_
    refine Wx.nil ?_
    have e0_0 : (decide (xs = ys)) = false := by exact decide_eq_false (fun h : xs = ys => c0 (by rw [h]))
    exact W.ret ⟨.bool false, ResIs.one, hS.bel, (by rw [e0_0])⟩
  · -- no
    refine W.skip ?_
    refine W.seq ?_
    refine W.seq ?_
    refine W.reg ?_
    refine Wx.rd (v := .int .i64 0) (rd_assign rfl) rfl ?_
    refine Wx.nil ?_
    refine W.block ?_
    refine W.loop [4, 5, 11, 12, 13, 14, 15, 16, 17, 18, 19, 20, 21, 22, 23, 24, 25] (fun (k : Int) => [(5, .int .i64 k)]) (fun (k : Int) w' => St w [] w' [] ∧ 0 ≤ k ∧ k ≤ xs.length ∧ decide (xs.drop k.toNat = ys.drop k.toNat) = decide (xs = ys)) (fun (k : Int) => (xs.length - k).toNat) 0 ⟨rfl, trivial⟩ ⟨hS, (by first | omega | simp), (by first | omega | simp), (by simp)⟩ ?_
    rintro k u_2 w_1 ⟨hS, h0, h1, h2⟩
    refine W.seq ?_
    refine W.seq ?_
    refine W.reg ?_
    refine Wx.rd (v := .int .i64 k) (rd_move rfl) rfl ?_
    refine Wx.rd (v := xv) (rd_move rfl) rfl ?_
    refine Wx.rd (v := .int .i64 (xs.length : Int)) (rd_lenV rfl (hS.arg a_xv) Tryd.underlying22) rfl ?_
    refine Wx.rd (v := .bool (decide (k < (xs.length : Int)))) (rd_lss rfl rfl) rfl ?_
    refine Wx.nil ?_
    refine W.condD rfl (fun c1 => ?_) (fun c1 => ?_)
    · -- yes
      refine W.skip ?_
      refine W.seq ?_
      refine W.block ?_
      refine W.seq ?_
      refine W.regQ mixedHk_ (by kernel_rfl) ?_
      refine Wx.rd (v := xv) (rd_move rfl) rfl ?_
      refine Wx.rd (v := .int .i64 k) (rd_move rfl) rfl ?_
      refine Wx.ex (rd_index (0, 0) (hS.arg a_xv) rfl rfl Tryd.underlying22 Tryd.sizeOf58 (by first | omega | (simp only [List.length_set, List.length_append, List.length_cons, List.length_nil, List.length_replicate]; omega)) (by first | omega | (simp only [List.length_set, List.length_append, List.length_cons, List.length_nil, List.length_replicate]; omega))) rfl (fun p_3 hp_4 => ?_)
      refine Wx.ex (rd_load hp_4 rfl Tryd.isAgg58 Tryd.sizeOf58) rfl (fun v_5 hv_6 => ?_)
      obtain ⟨rfl, bd_7, bd_8⟩ := hv_6.i2
      have bd_7 := bd_i64 bd_7
      have bd_8 := bd_i64 bd_8
      refine Wx.rd (v := yv) (rd_move rfl) rfl ?_
      refine Wx.rd (v := .int .i64 k) (rd_move rfl) rfl ?_
      refine Wx.ex (rd_index (0, 0) (hS.arg a_yv) rfl rfl Tryd.underlying22 Tryd.sizeOf58 (by first | omega | (simp only [List.length_set, List.length_append, List.length_cons, List.length_nil, List.length_replicate]; omega)) (by first | omega | (simp only [List.length_set, List.length_append, List.length_cons, List.length_nil, List.length_replicate]; omega))) rfl (fun p_9 hp_10 => ?_)
      refine Wx.ex (rd_load hp_10 rfl Tryd.isAgg58 Tryd.sizeOf58) rfl (fun v_11 hv_12 => ?_)
      obtain ⟨rfl, bd_13, bd_14⟩ := hv_12.i2
      have bd_13 := bd_i64 bd_13
      have bd_14 := bd_i64 bd_14
      refine Wx.rd (v := .bool (!(decide ((ix (0, 0) xs k).1 = (ix (0, 0) ys k).1) && decide ((ix (0, 0) xs k).2 = (ix (0, 0) ys k).2)))) (rd_neqA2 rfl rfl Tryd.underlying58 Tryd.underlying3 Tryd.sizeOf3 Tryd.eqGuardType58) rfl ?_
      refine Wx.nilQ (fun w_15 hx_16 => ?_)
      have hS := hS.ext hx_16
      refine W.cond rfl (fun c2 => ?_) (fun c2 => ?_)
      · -- yes
        try simp only [Bool.and_eq_true, Bool.or_eq_true, Bool.not_eq_true', Bool.and_eq_false_iff, Bool.or_eq_false_iff, Bool.not_eq_false', decide_eq_true_eq, decide_eq_false_iff_not, not_or, Bool.false_eq_true, Bool.true_eq_false, false_or, or_false, not_false_eq_true] at c2
        refine W.seq ?_
        refine W.reg ?_
        refine Wx.rd (v := .bool false) (rd_assign rfl) rfl ?_
        refine Wx.nil ?_
        have he : ¬ ix (0, 0) xs k = ix (0, 0) ys k := fun hh => by rw [hh] at c2; omega
        have e1_0 : (decide (xs = ys)) = false := by rw [← h2, drop_ix (d := (0, 0)) h0 c1, drop_ix (d := (0, 0)) (xs := ys) h0 (by omega)]; simp [he]
        exact W.ret ⟨.bool false, ResIs.one, hS.bel, (by rw [e1_0])⟩
      · -- no
        try simp only [Bool.and_eq_true, Bool.or_eq_true, Bool.not_eq_true', Bool.and_eq_false_iff, Bool.or_eq_false_iff, Bool.not_eq_false', decide_eq_true_eq, decide_eq_false_iff_not, not_or, Bool.false_eq_true, Bool.true_eq_false, false_or, or_false, not_false_eq_true] at c2
        refine W.skip ?_
        refine W.reg ?_
        refine Wx.rd (v := .int .i64 k) (rd_move rfl) rfl ?_
        refine Wx.rd (v := .int .i64 (k + 1)) (rd_add rfl rfl (in_i64 (by omega) (by omega))) rfl ?_
        refine Wx.rd (v := .int .i64 (k + 1)) (rd_assign rfl) rfl ?_
        refine Wx.nil ?_
        have he : ix (0, 0) xs k = ix (0, 0) ys k := Prod.ext (by omega) (by omega)
        refine ⟨k + 1, (by show (xs.length - (k + 1)).toNat < (xs.length - k).toNat; omega), ?_, ?_, Out.look rfl Out.self⟩
        · exact ⟨hS, (by first | omega | assumption), (by first | omega | assumption), (by rw [← h2, drop_ix (d := (0, 0)) h0 c1, drop_ix (d := (0, 0)) (xs := ys) h0 (by omega)]; simp [he])⟩
        · exact ⟨rfl, trivial⟩
    · -- no
      refine W.exit rfl ?_
      refine W.seq ?_
      refine W.reg ?_
      refine Wx.rd (v := .bool true) (rd_assign rfl) rfl ?_
      refine Wx.nil ?_
      have e2_0 : (decide (xs = ys)) = true := by rw [← h2, drop_end (by omega), drop_end (xs := ys) (by omega)]; simp
      exact W.ret ⟨.bool true, ResIs.one, hS.bel, (by rw [e2_0])⟩

theorem F48 {lv : Value} {l : List Int} {O : List (Option Nat)} {w : World} (h_lv : V (tSl (tI .i64)) l lv O w) (p_l : (l.length : Int) ≤ 100) (hO : ∀ b, some b ∈ O → b < w.heap.size) : Calls Tryd.prog 48 #[lv] w (Ret w (fun r w' => ∃ rv, r = rv ∧ Fresh (tP (tI .i64) (tI .i64)) 58 (pairsU l) rv w.heap.size w')) := by
  have a_lv := h_lv
  have l_lv := h_lv.len63
  have hS := St.start w O hO
  refine enterR Tryd.func48 rfl Tryd.ntmps48 Tryd.results48 rfl ?_
  refine W.seq ?_
  refine W.reg ?_
  refine Wx.rd (v := (.slice none 0 0)) (rd_assign rfl) rfl ?_
  refine Wx.nil ?_
  refine W.seq ?_
  refine W.reg ?_
  refine Wx.rd (v := (.slice none 0 0)) (rd_assign rfl) rfl ?_
  refine Wx.nil ?_
  refine W.seq ?_
  refine W.seq ?_
  refine W.reg ?_
  refine Wx.rd (v := .int .i64 0) (rd_assign rfl) rfl ?_
  refine Wx.nil ?_
  refine W.block ?_
  have hS := hS.addNil (tP (tI .i64) (tI .i64)) 58
  refine W.loop [3, 4, 5, 6, 7, 8, 9, 10, 11, 12, 13, 14, 15, 16, 17, 18, 19, 20, 21, 22, 23, 24] (fun x : Int × Value × (List (Int × Int)) => match x with | (i, ov, out) => [(4, .int .i64 i), (3, ov)]) (fun (x : Int × Value × (List (Int × Int))) w' => match x with | (i, ov, out) => St w O w' [.row (tP (tI .i64) (tI .i64)) 58 ov out] ∧ 0 ≤ i ∧ i ≤ l.length ∧ out ++ pairsU (l.drop i.toNat) = pairsU l ∧ (out.length : Int) ≤ i) (fun x : Int × Value × (List (Int × Int)) => match x with | (i, ov, out) => (l.length - i).toNat) (0, (.slice none 0 0), []) ⟨rfl, rfl, trivial⟩ ⟨hS, (by first | omega | simp), (by first | omega | simp), (rfl), (Int.le_refl 0)⟩ ?_
  rintro ⟨i, ov, out⟩ u_2 w_1 ⟨hS, h0, h1, h2, h3⟩
  refine W.seq ?_
  refine W.seq ?_
  refine W.reg ?_
  refine Wx.rd (v := .int .i64 i) (rd_move rfl) rfl ?_
  refine Wx.rd (v := .int .i64 (i + 1)) (rd_add rfl rfl (in_i64 (by omega) (by omega))) rfl ?_
  refine Wx.rd (v := lv) (rd_move rfl) rfl ?_
  refine Wx.rd (v := .int .i64 (l.length : Int)) (rd_lenV rfl (hS.arg a_lv) Tryd.underlying60) rfl ?_
  refine Wx.rd (v := .bool (decide ((i + 1) < (l.length : Int)))) (rd_lss rfl rfl) rfl ?_
  refine Wx.nil ?_
  refine W.condD rfl (fun c0 => ?_) (fun c0 => ?_)
  · -- yes
    refine W.skip ?_
    refine W.seq ?_
    refine W.block ?_
    refine W.regP mixedHk_ (fun w_3 hx_4 => ?_)
    have hS := hS.ext hx_4
    refine Wp.rd (v := ov) 0 rfl (by kernel_rfl) (fun _ => (rd_move rfl)) rfl ?_
    refine Wp.rd (v := lv) 1 rfl (by kernel_rfl) (fun _ => (rd_move rfl)) rfl ?_
    refine Wp.rd (v := .int .i64 i) 2 rfl (by kernel_rfl) (fun _ => (rd_move rfl)) rfl ?_
    refine Wp.rd (v := lv) 5 rfl (by kernel_rfl) (fun _ => (rd_move rfl)) rfl ?_
    refine Wp.rd (v := .int .i64 i) 6 rfl (by kernel_rfl) (fun _ => (rd_move rfl)) rfl ?_
    refine Wp.rd (v := .int .i64 (i + 1)) 7 rfl (by kernel_rfl) (fun _ => (rd_add rfl rfl (in_i64 (by omega) (by omega)))) rfl ?_
    refine Wp.br [3, 8] (by kernel_rfl) (by decide) ⟨⟨_, rfl, ?_⟩, ⟨_, rfl, ?_⟩, trivial⟩
    · -- operation 3
      refine Wx.ex (rd_index 0 (hS.arg a_lv) rfl rfl Tryd.underlying60 Tryd.sizeOf3 (by first | omega | (simp only [List.length_set, List.length_append, List.length_cons, List.length_nil, List.length_replicate]; omega)) (by first | omega | (simp only [List.length_set, List.length_append, List.length_cons, List.length_nil, List.length_replicate]; omega))) rfl (fun p_5 hp_6 => ?_)
      refine Wx.nil ?_
      refine Wp.br [4, 8] (by kernel_rfl) (by decide) ⟨⟨_, rfl, ?_⟩, ⟨_, rfl, ?_⟩, trivial⟩
      · -- operation 4
        refine Wx.rd (v := .int .i64 (ix 0 l i)) (rd_loadI hp_6 rfl Tryd.isAgg3 Tryd.sizeOf3) rfl ?_
        have bd_7 := bd_i64 hp_6.inK
        refine Wx.nil ?_
        refine Wp.br [8] (by kernel_rfl) (by decide) ⟨⟨_, rfl, ?_⟩, trivial⟩
        refine Wx.ex (rd_index 0 (hS.arg a_lv) rfl rfl Tryd.underlying60 Tryd.sizeOf3 (by first | omega | (simp only [List.length_set, List.length_append, List.length_cons, List.length_nil, List.length_replicate]; omega)) (by first | omega | (simp only [List.length_set, List.length_append, List.length_cons, List.length_nil, List.length_replicate]; omega))) rfl (fun p_8 hp_9 => ?_)
        refine Wx.nil ?_
        refine Wp.br [9] (by kernel_rfl) (by decide) ⟨⟨_, rfl, ?_⟩, trivial⟩
        refine Wx.rd (v := .int .i64 (ix 0 l (i + 1))) (rd_loadI hp_9 rfl Tryd.isAgg3 Tryd.sizeOf3) rfl ?_
        have bd_10 := bd_i64 hp_9.inK
        refine Wx.nil ?_
        refine Wp.rd (v := .agg #[.int .i64 (ix 0 l i), .int .i64 (ix 0 l (i + 1))]) 10 rfl (by kernel_rfl) (fun _ => (rd_build (vs := [(0, .int .i64 (ix 0 l i)), (1, .int .i64 (ix 0 l (i + 1)))]) rfl (by kernel_rfl))) rfl ?_
        refine Wp.br [11] (by kernel_rfl) (by decide) ⟨⟨_, rfl, ?_⟩, trivial⟩
        refine Wx.lit (t := (tP (tI .i64) (tI .i64))) (ys := [(ix 0 l i, ix 0 l (i + 1))]) (vs := [.agg #[.int .i64 (ix 0 l i), .int .i64 (ix 0 l (i + 1))]]) elHk_22 hS rfl rfl ⟨(V.mk2 (in_i64 (by omega) (by omega)) (in_i64 (by omega) (by omega))), trivial⟩ (by decide) rfl (fun v_11 w_12 hx_13 hS => ?_)
        refine Wx.nil ?_
        refine Wp.br [12] (by kernel_rfl) (by decide) ⟨⟨_, rfl, ?_⟩, trivial⟩
        refine Wx.append elHk_22 hS 1 rfl rfl rfl (Src.ofR hS 0 rfl) (by simp only [maxLen]; simp; omega) (by simp; omega) rfl (fun v_14 w_15 hz_16 hS => ?_)
        refine Wx.nil ?_
        refine Wp.rd (v := v_14) 13 rfl (by kernel_rfl) (fun _ => (rd_assign rfl)) rfl ?_
        refine Wp.done (by kernel_rfl) ?_
        refine W.reg ?_
        refine Wx.rd (v := .int .i64 i) (rd_move rfl) rfl ?_
        refine Wx.rd (v := .int .i64 (i + 2)) (rd_add rfl rfl (in_i64 (by omega) (by omega))) rfl ?_
        refine Wx.rd (v := .int .i64 (i + 2)) (rd_assign rfl) rfl ?_
        refine Wx.nil ?_
        refine ⟨(i + 2, v_14, out ++ [(ix 0 l i, ix 0 l (i + 1))]), (by show (l.length - (i + 2)).toNat < (l.length - i).toNat; omega), ?_, ?_, Out.look rfl Out.self⟩
        · exact ⟨hS.tl, (by first | omega | assumption), (by first | omega | assumption), (by rw [← h2, pairsU_step h0 c0]; simp), (by simp only [List.length_append, List.length_cons, List.length_nil]; omega)⟩
        · exact ⟨rfl, rfl, trivial⟩
      · -- operation 8
        refine Wx.ex (rd_index 0 (hS.arg a_lv) rfl rfl Tryd.underlying60 Tryd.sizeOf3 (by first | omega | (simp only [List.length_set, List.length_append, List.length_cons, List.length_nil, List.length_replicate]; omega)) (by first | omega | (simp only [List.length_set, List.length_append, List.length_cons, List.length_nil, List.length_replicate]; omega))) rfl (fun p_17 hp_18 => ?_)
        refine Wx.nil ?_
        refine Wp.br [4, 9] (by kernel_rfl) (by decide) ⟨⟨_, rfl, ?_⟩, ⟨_, rfl, ?_⟩, trivial⟩
        · -- operation 4
          refine Wx.rd (v := .int .i64 (ix 0 l i)) (rd_loadI hp_6 rfl Tryd.isAgg3 Tryd.sizeOf3) rfl ?_
          have bd_19 := bd_i64 hp_6.inK
          refine Wx.nil ?_
          refine Wp.br [9] (by kernel_rfl) (by decide) ⟨⟨_, rfl, ?_⟩, trivial⟩
          refine Wx.rd (v := .int .i64 (ix 0 l (i + 1))) (rd_loadI hp_18 rfl Tryd.isAgg3 Tryd.sizeOf3) rfl ?_
          have bd_20 := bd_i64 hp_18.inK
          refine Wx.nil ?_
          refine Wp.rd (v := .agg #[.int .i64 (ix 0 l i), .int .i64 (ix 0 l (i + 1))]) 10 rfl (by kernel_rfl) (fun _ => (rd_build (vs := [(0, .int .i64 (ix 0 l i)), (1, .int .i64 (ix 0 l (i + 1)))]) rfl (by kernel_rfl))) rfl ?_
          refine Wp.br [11] (by kernel_rfl) (by decide) ⟨⟨_, rfl, ?_⟩, trivial⟩
          refine Wx.lit (t := (tP (tI .i64) (tI .i64))) (ys := [(ix 0 l i, ix 0 l (i + 1))]) (vs := [.agg #[.int .i64 (ix 0 l i), .int .i64 (ix 0 l (i + 1))]]) elHk_22 hS rfl rfl ⟨(V.mk2 (in_i64 (by omega) (by omega)) (in_i64 (by omega) (by omega))), trivial⟩ (by decide) rfl (fun v_21 w_22 hx_23 hS => ?_)
          refine Wx.nil ?_
          refine Wp.br [12] (by kernel_rfl) (by decide) ⟨⟨_, rfl, ?_⟩, trivial⟩
          refine Wx.append elHk_22 hS 1 rfl rfl rfl (Src.ofR hS 0 rfl) (by simp only [maxLen]; simp; omega) (by simp; omega) rfl (fun v_24 w_25 hz_26 hS => ?_)
          refine Wx.nil ?_
          refine Wp.rd (v := v_24) 13 rfl (by kernel_rfl) (fun _ => (rd_assign rfl)) rfl ?_
          refine Wp.done (by kernel_rfl) ?_
          refine W.reg ?_
          refine Wx.rd (v := .int .i64 i) (rd_move rfl) rfl ?_
          refine Wx.rd (v := .int .i64 (i + 2)) (rd_add rfl rfl (in_i64 (by omega) (by omega))) rfl ?_
          refine Wx.rd (v := .int .i64 (i + 2)) (rd_assign rfl) rfl ?_
          refine Wx.nil ?_
          refine ⟨(i + 2, v_24, out ++ [(ix 0 l i, ix 0 l (i + 1))]), (by show (l.length - (i + 2)).toNat < (l.length - i).toNat; omega), ?_, ?_, Out.look rfl Out.self⟩
          · exact ⟨hS.tl, (by first | omega | assumption), (by first | omega | assumption), (by rw [← h2, pairsU_step h0 c0]; simp), (by simp only [List.length_append, List.length_cons, List.length_nil]; omega)⟩
          · exact ⟨rfl, rfl, trivial⟩
        · -- operation 9
          refine Wx.rd (v := .int .i64 (ix 0 l (i + 1))) (rd_loadI hp_18 rfl Tryd.isAgg3 Tryd.sizeOf3) rfl ?_
          have bd_27 := bd_i64 hp_18.inK
          refine Wx.nil ?_
          refine Wp.br [4] (by kernel_rfl) (by decide) ⟨⟨_, rfl, ?_⟩, trivial⟩
          refine Wx.rd (v := .int .i64 (ix 0 l i)) (rd_loadI hp_6 rfl Tryd.isAgg3 Tryd.sizeOf3) rfl ?_
          have bd_28 := bd_i64 hp_6.inK
          refine Wx.nil ?_
          refine Wp.rd (v := .agg #[.int .i64 (ix 0 l i), .int .i64 (ix 0 l (i + 1))]) 10 rfl (by kernel_rfl) (fun _ => (rd_build (vs := [(0, .int .i64 (ix 0 l i)), (1, .int .i64 (ix 0 l (i + 1)))]) rfl (by kernel_rfl))) rfl ?_
          refine Wp.br [11] (by kernel_rfl) (by decide) ⟨⟨_, rfl, ?_⟩, trivial⟩
          refine Wx.lit (t := (tP (tI .i64) (tI .i64))) (ys := [(ix 0 l i, ix 0 l (i + 1))]) (vs := [.agg #[.int .i64 (ix 0 l i), .int .i64 (ix 0 l (i + 1))]]) elHk_22 hS rfl rfl ⟨(V.mk2 (in_i64 (by omega) (by omega)) (in_i64 (by omega) (by omega))), trivial⟩ (by decide) rfl (fun v_29 w_30 hx_31 hS => ?_)
          refine Wx.nil ?_
          refine Wp.br [12] (by kernel_rfl) (by decide) ⟨⟨_, rfl, ?_⟩, trivial⟩
          refine Wx.append elHk_22 hS 1 rfl rfl rfl (Src.ofR hS 0 rfl) (by simp only [maxLen]; simp; omega) (by simp; omega) rfl (fun v_32 w_33 hz_34 hS => ?_)
          refine Wx.nil ?_
          refine Wp.rd (v := v_32) 13 rfl (by kernel_rfl) (fun _ => (rd_assign rfl)) rfl ?_
          refine Wp.done (by kernel_rfl) ?_
          refine W.reg ?_
          refine Wx.rd (v := .int .i64 i) (rd_move rfl) rfl ?_
          refine Wx.rd (v := .int .i64 (i + 2)) (rd_add rfl rfl (in_i64 (by omega) (by omega))) rfl ?_
          refine Wx.rd (v := .int .i64 (i + 2)) (rd_assign rfl) rfl ?_
          refine Wx.nil ?_
          refine ⟨(i + 2, v_32, out ++ [(ix 0 l i, ix 0 l (i + 1))]), (by show (l.length - (i + 2)).toNat < (l.length - i).toNat; omega), ?_, ?_, Out.look rfl Out.self⟩
          · exact ⟨hS.tl, (by first | omega | assumption), (by first | omega | assumption), (by rw [← h2, pairsU_step h0 c0]; simp), (by simp only [List.length_append, List.length_cons, List.length_nil]; omega)⟩
          · exact ⟨rfl, rfl, trivial⟩
    · -- operation 8
      refine Wx.ex (rd_index 0 (hS.arg a_lv) rfl rfl Tryd.underlying60 Tryd.sizeOf3 (by first | omega | (simp only [List.length_set, List.length_append, List.length_cons, List.length_nil, List.length_replicate]; omega)) (by first | omega | (simp only [List.length_set, List.length_append, List.length_cons, List.length_nil, List.length_replicate]; omega))) rfl (fun p_35 hp_36 => ?_)
      refine Wx.nil ?_
      refine Wp.br [3, 9] (by kernel_rfl) (by decide) ⟨⟨_, rfl, ?_⟩, ⟨_, rfl, ?_⟩, trivial⟩
      · -- operation 3
        refine Wx.ex (rd_index 0 (hS.arg a_lv) rfl rfl Tryd.underlying60 Tryd.sizeOf3 (by first | omega | (simp only [List.length_set, List.length_append, List.length_cons, List.length_nil, List.length_replicate]; omega)) (by first | omega | (simp only [List.length_set, List.length_append, List.length_cons, List.length_nil, List.length_replicate]; omega))) rfl (fun p_37 hp_38 => ?_)
        refine Wx.nil ?_
        refine Wp.br [4, 9] (by kernel_rfl) (by decide) ⟨⟨_, rfl, ?_⟩, ⟨_, rfl, ?_⟩, trivial⟩
        · -- operation 4
          refine Wx.rd (v := .int .i64 (ix 0 l i)) (rd_loadI hp_38 rfl Tryd.isAgg3 Tryd.sizeOf3) rfl ?_
          have bd_39 := bd_i64 hp_38.inK
          refine Wx.nil ?_
          refine Wp.br [9] (by kernel_rfl) (by decide) ⟨⟨_, rfl, ?_⟩, trivial⟩
          refine Wx.rd (v := .int .i64 (ix 0 l (i + 1))) (rd_loadI hp_36 rfl Tryd.isAgg3 Tryd.sizeOf3) rfl ?_
          have bd_40 := bd_i64 hp_36.inK
          refine Wx.nil ?_
          refine Wp.rd (v := .agg #[.int .i64 (ix 0 l i), .int .i64 (ix 0 l (i + 1))]) 10 rfl (by kernel_rfl) (fun _ => (rd_build (vs := [(0, .int .i64 (ix 0 l i)), (1, .int .i64 (ix 0 l (i + 1)))]) rfl (by kernel_rfl))) rfl ?_
          refine Wp.br [11] (by kernel_rfl) (by decide) ⟨⟨_, rfl, ?_⟩, trivial⟩
          refine Wx.lit (t := (tP (tI .i64) (tI .i64))) (ys := [(ix 0 l i, ix 0 l (i + 1))]) (vs := [.agg #[.int .i64 (ix 0 l i), .int .i64 (ix 0 l (i + 1))]]) elHk_22 hS rfl rfl ⟨(V.mk2 (in_i64 (by omega) (by omega)) (in_i64 (by omega) (by omega))), trivial⟩ (by decide) rfl (fun v_41 w_42 hx_43 hS => ?_)
          refine Wx.nil ?_
          refine Wp.br [12] (by kernel_rfl) (by decide) ⟨⟨_, rfl, ?_⟩, trivial⟩
          refine Wx.append elHk_22 hS 1 rfl rfl rfl (Src.ofR hS 0 rfl) (by simp only [maxLen]; simp; omega) (by simp; omega) rfl (fun v_44 w_45 hz_46 hS => ?_)
          refine Wx.nil ?_
          refine Wp.rd (v := v_44) 13 rfl (by kernel_rfl) (fun _ => (rd_assign rfl)) rfl ?_
          refine Wp.done (by kernel_rfl) ?_
          refine W.reg ?_
          refine Wx.rd (v := .int .i64 i) (rd_move rfl) rfl ?_
          refine Wx.rd (v := .int .i64 (i + 2)) (rd_add rfl rfl (in_i64 (by omega) (by omega))) rfl ?_
          refine Wx.rd (v := .int .i64 (i + 2)) (rd_assign rfl) rfl ?_
          refine Wx.nil ?_
          refine ⟨(i + 2, v_44, out ++ [(ix 0 l i, ix 0 l (i + 1))]), (by show (l.length - (i + 2)).toNat < (l.length - i).toNat; omega), ?_, ?_, Out.look rfl Out.self⟩
          · exact ⟨hS.tl, (by first | omega | assumption), (by first | omega | assumption), (by rw [← h2, pairsU_step h0 c0]; simp), (by simp only [List.length_append, List.length_cons, List.length_nil]; omega)⟩
          · exact ⟨rfl, rfl, trivial⟩
        · -- operation 9
          refine Wx.rd (v := .int .i64 (ix 0 l (i + 1))) (rd_loadI hp_36 rfl Tryd.isAgg3 Tryd.sizeOf3) rfl ?_
          have bd_47 := bd_i64 hp_36.inK
          refine Wx.nil ?_
          refine Wp.br [4] (by kernel_rfl) (by decide) ⟨⟨_, rfl, ?_⟩, trivial⟩
          refine Wx.rd (v := .int .i64 (ix 0 l i)) (rd_loadI hp_38 rfl Tryd.isAgg3 Tryd.sizeOf3) rfl ?_
          have bd_48 := bd_i64 hp_38.inK
          refine Wx.nil ?_
          refine Wp.rd (v := .agg #[.int .i64 (ix 0 l i), .int .i64 (ix 0 l (i + 1))]) 10 rfl (by kernel_rfl) (fun _ => (rd_build (vs := [(0, .int .i64 (ix 0 l i)), (1, .int .i64 (ix 0 l (i + 1)))]) rfl (by kernel_rfl))) rfl ?_
          refine Wp.br [11] (by kernel_rfl) (by decide) ⟨⟨_, rfl, ?_⟩, trivial⟩
          refine Wx.lit (t := (tP (tI .i64) (tI .i64))) (ys := [(ix 0 l i, ix 0 l (i + 1))]) (vs := [.agg #[.int .i64 (ix 0 l i), .int .i64 (ix 0 l (i + 1))]]) elHk_22 hS rfl rfl ⟨(V.mk2 (in_i64 (by omega) (by omega)) (in_i64 (by omega) (by omega))), trivial⟩ (by decide) rfl (fun v_49 w_50 hx_51 hS => ?_)
          refine Wx.nil ?_
          refine Wp.br [12] (by kernel_rfl) (by decide) ⟨⟨_, rfl, ?_⟩, trivial⟩
          refine Wx.append elHk_22 hS 1 rfl rfl rfl (Src.ofR hS 0 rfl) (by simp only [maxLen]; simp; omega) (by simp; omega) rfl (fun v_52 w_53 hz_54 hS => ?_)
          refine Wx.nil ?_
          refine Wp.rd (v := v_52) 13 rfl (by kernel_rfl) (fun _ => (rd_assign rfl)) rfl ?_
          refine Wp.done (by kernel_rfl) ?_
          refine W.reg ?_
          refine Wx.rd (v := .int .i64 i) (rd_move rfl) rfl ?_
          refine Wx.rd (v := .int .i64 (i + 2)) (rd_add rfl rfl (in_i64 (by omega) (by omega))) rfl ?_
          refine Wx.rd (v := .int .i64 (i + 2)) (rd_assign rfl) rfl ?_
          refine Wx.nil ?_
          refine ⟨(i + 2, v_52, out ++ [(ix 0 l i, ix 0 l (i + 1))]), (by show (l.length - (i + 2)).toNat < (l.length - i).toNat; omega), ?_, ?_, Out.look rfl Out.self⟩
          · exact ⟨hS.tl, (by first | omega | assumption), (by first | omega | assumption), (by rw [← h2, pairsU_step h0 c0]; simp), (by simp only [List.length_append, List.length_cons, List.length_nil]; omega)⟩
          · exact ⟨rfl, rfl, trivial⟩
      · -- operation 9
        refine Wx.rd (v := .int .i64 (ix 0 l (i + 1))) (rd_loadI hp_36 rfl Tryd.isAgg3 Tryd.sizeOf3) rfl ?_
        have bd_55 := bd_i64 hp_36.inK
        refine Wx.nil ?_
        refine Wp.br [3] (by kernel_rfl) (by decide) ⟨⟨_, rfl, ?_⟩, trivial⟩
        refine Wx.ex (rd_index 0 (hS.arg a_lv) rfl rfl Tryd.underlying60 Tryd.sizeOf3 (by first | omega | (simp only [List.length_set, List.length_append, List.length_cons, List.length_nil, List.length_replicate]; omega)) (by first | omega | (simp only [List.length_set, List.length_append, List.length_cons, List.length_nil, List.length_replicate]; omega))) rfl (fun p_56 hp_57 => ?_)
        refine Wx.nil ?_
        refine Wp.br [4] (by kernel_rfl) (by decide) ⟨⟨_, rfl, ?_⟩, trivial⟩
        refine Wx.rd (v := .int .i64 (ix 0 l i)) (rd_loadI hp_57 rfl Tryd.isAgg3 Tryd.sizeOf3) rfl ?_
        have bd_58 := bd_i64 hp_57.inK
        refine Wx.nil ?_
        refine Wp.rd (v := .agg #[.int .i64 (ix 0 l i), .int .i64 (ix 0 l (i + 1))]) 10 rfl (by kernel_rfl) (fun _ => (rd_build (vs := [(0, .int .i64 (ix 0 l i)), (1, .int .i64 (ix 0 l (i + 1)))]) rfl (by kernel_rfl))) rfl ?_
        refine Wp.br [11] (by kernel_rfl) (by decide) ⟨⟨_, rfl, ?_⟩, trivial⟩
        refine Wx.lit (t := (tP (tI .i64) (tI .i64))) (ys := [(ix 0 l i, ix 0 l (i + 1))]) (vs := [.agg #[.int .i64 (ix 0 l i), .int .i64 (ix 0 l (i + 1))]]) elHk_22 hS rfl rfl ⟨(V.mk2 (in_i64 (by omega) (by omega)) (in_i64 (by omega) (by omega))), trivial⟩ (by decide) rfl (fun v_59 w_60 hx_61 hS => ?_)
        refine Wx.nil ?_
        refine Wp.br [12] (by kernel_rfl) (by decide) ⟨⟨_, rfl, ?_⟩, trivial⟩
        refine Wx.append elHk_22 hS 1 rfl rfl rfl (Src.ofR hS 0 rfl) (by simp only [maxLen]; simp; omega) (by simp; omega) rfl (fun v_62 w_63 hz_64 hS => ?_)
        refine Wx.nil ?_
        refine Wp.rd (v := v_62) 13 rfl (by kernel_rfl) (fun _ => (rd_assign rfl)) rfl ?_
        refine Wp.done (by kernel_rfl) ?_
        refine W.reg ?_
        refine Wx.rd (v := .int .i64 i) (rd_move rfl) rfl ?_
        refine Wx.rd (v := .int .i64 (i + 2)) (rd_add rfl rfl (in_i64 (by omega) (by omega))) rfl ?_
        refine Wx.rd (v := .int .i64 (i + 2)) (rd_assign rfl) rfl ?_
        refine Wx.nil ?_
        refine ⟨(i + 2, v_62, out ++ [(ix 0 l i, ix 0 l (i + 1))]), (by show (l.length - (i + 2)).toNat < (l.length - i).toNat; omega), ?_, ?_, Out.look rfl Out.self⟩
        · exact ⟨hS.tl, (by first | omega | assumption), (by first | omega | assumption), (by rw [← h2, pairsU_step h0 c0]; simp), (by simp only [List.length_append, List.length_cons, List.length_nil]; omega)⟩
        · exact ⟨rfl, rfl, trivial⟩
  · -- no
    refine W.exit rfl ?_
    refine W.seq ?_
    refine W.reg ?_
    refine Wx.rd (v := ov) (rd_move rfl) rfl ?_
    refine Wx.rd (v := ov) (rd_assign rfl) rfl ?_
    refine Wx.nil ?_
    have e0_0 : pairsU l = out := by rw [← h2, pairsU_end h0 c0, List.append_nil]
    exact W.ret ⟨ov, ResIs.one, hS.bel, ⟨ov, rfl, (by rw [e0_0]; exact (hS.fr 0 rfl flat_i2))⟩⟩
end Go.Proofs.YtokdjjebnomciaaDoor

namespace Go.Proofs.YtokdjjebnomciaaDoor
open Go.Wk Go.RowKit Go.Lib
set_option linter.unusedVariables false
set_option linter.unusedSimpArgs false
theorem elHm_60 : ElemI Tryd.prog 60 3 (.int .i64 0) 1 8 := ElemI.of Tryd.underlying60 (by kernel_rfl) (by first | rfl | kernel_rfl) (by decide)

theorem F16 {O : List (Option Nat)} {w : World} (hO : ∀ b, some b ∈ O → b < w.heap.size) (hG : Laid w) : Calls Tryd.prog 16 #[] w (Ret w (fun r _ => r = .bool true)) := by
  have hS := St.start w O hO
  refine enterR Tryd.func16 rfl Tryd.ntmps16 Tryd.results16 rfl ?_
  refine W.seq ?_
  refine W.reg ?_
  refine Wx.rd (v := .bool false) (rd_assign rfl) rfl ?_
  refine Wx.nil ?_
  refine W.seq ?_
  refine W.reg ?_
  refine Wx.callF (run_callF Tryd.call21 rfl) (F21 (by first | assumption | (simp only [maxLen]; omega) | (simp only [ByteArray.size_extract, ByteArray.size_append, maxLen] at *; omega) | decide) (hG.ext hS.bel)) rfl ?_
  rintro r_1 w_2 hx_3 rfl
  have hS := hS.ext hx_3
  refine Wx.rd (v := .tuple #[.int .i64 (mostV rQ), .int .i64 (rimE rQ)]) (rd_move rfl) rfl ?_
  refine Wx.rd (v := .int .i64 (mostV rQ)) (rd_extract rfl rfl) rfl ?_
  refine Wx.rd (v := .int .i64 (rimE rQ)) (rd_extract rfl rfl) rfl ?_
  refine Wx.rd (v := .int .i64 1) (Rd.to (v := .int .i64 (mostV rQ)) (rd_assign rfl) (congrArg (Value.int .i64) (show (1 : Int) = (mostV rQ : Int) from (by decide +kernel)).symm)) rfl ?_
  refine Wx.rd (v := .int .i64 0) (Rd.to (v := .int .i64 (rimE rQ)) (rd_assign rfl) (congrArg (Value.int .i64) (show (0 : Int) = (rimE rQ : Int) from (by decide +kernel)).symm)) rfl ?_
  refine Wx.nil ?_
  refine W.seq ?_
  refine W.reg ?_
  refine Wx.callF (run_callF Tryd.call25 rfl) (F25 (by first | assumption | (simp only [maxLen]; omega) | (simp only [ByteArray.size_extract, ByteArray.size_append, maxLen] at *; omega) | decide) (hG.ext hS.bel)) rfl ?_
  rintro r_4 w_5 hx_6 ⟨v_7, rfl, hv_8⟩
  have hS := hS.pushFr hx_6 hv_8
  refine Wx.rd (v := .tuple #[v_7, .int .i64 (rimE rR)]) (rd_move rfl) rfl ?_
  refine Wx.rd (v := v_7) (rd_extract rfl rfl) rfl ?_
  refine Wx.rd (v := .int .i64 (rimE rR)) (rd_extract rfl rfl) rfl ?_
  refine Wx.rd (v := v_7) (rd_assign rfl) rfl ?_
  refine Wx.rd (v := .int .i64 0) (Rd.to (v := .int .i64 (rimE rR)) (rd_assign rfl) (congrArg (Value.int .i64) (show (0 : Int) = (rimE rR : Int) from (by decide +kernel)).symm)) rfl ?_
  refine Wx.nil ?_
  refine W.seq ?_
  refine W.reg ?_
  refine Wx.callF (run_callF Tryd.call23 rfl) (F23 (by first | assumption | (simp only [maxLen]; omega) | (simp only [ByteArray.size_extract, ByteArray.size_append, maxLen] at *; omega) | decide) (hG.ext hS.bel)) rfl ?_
  rintro r_10 w_11 hx_12 rfl
  have hS := hS.ext hx_12
  refine Wx.rd (v := .tuple #[.int .i64 (countV rR), .int .i64 (rimE rR)]) (rd_move rfl) rfl ?_
  refine Wx.rd (v := .int .i64 (countV rR)) (rd_extract rfl rfl) rfl ?_
  refine Wx.rd (v := .int .i64 (rimE rR)) (rd_extract rfl rfl) rfl ?_
  refine Wx.rd (v := .int .i64 2) (Rd.to (v := .int .i64 (countV rR)) (rd_assign rfl) (congrArg (Value.int .i64) (show (2 : Int) = (countV rR : Int) from (by decide +kernel)).symm)) rfl ?_
  refine Wx.rd (v := .int .i64 0) (Rd.to (v := .int .i64 (rimE rR)) (rd_assign rfl) (congrArg (Value.int .i64) (show (0 : Int) = (rimE rR : Int) from (by decide +kernel)).symm)) rfl ?_
  refine Wx.nil ?_
  refine W.seq ?_
  refine W.reg ?_
  refine Wx.callF (run_callF Tryd.call27 rfl) (F27 (by first | assumption | (simp only [maxLen]; omega) | (simp only [ByteArray.size_extract, ByteArray.size_append, maxLen] at *; omega) | decide) (hG.ext hS.bel)) rfl ?_
  rintro r_13 w_14 hx_15 ⟨v_16, rfl, hv_17⟩
  have hS := hS.pushFr hx_15 hv_17
  refine Wx.rd (v := .tuple #[v_16, .int .i64 (rimE rP)]) (rd_move rfl) rfl ?_
  refine Wx.rd (v := v_16) (rd_extract rfl rfl) rfl ?_
  refine Wx.rd (v := .int .i64 (rimE rP)) (rd_extract rfl rfl) rfl ?_
  refine Wx.rd (v := v_16) (rd_assign rfl) rfl ?_
  refine Wx.rd (v := .int .i64 0) (Rd.to (v := .int .i64 (rimE rP)) (rd_assign rfl) (congrArg (Value.int .i64) (show (0 : Int) = (rimE rP : Int) from (by decide +kernel)).symm)) rfl ?_
  refine Wx.nil ?_
  refine W.seq ?_
  refine W.reg ?_
  refine Wx.callF (run_callF Tryd.call30 rfl) (F30 (by first | assumption | (simp only [maxLen]; omega) | (simp only [ByteArray.size_extract, ByteArray.size_append, maxLen] at *; omega) | decide) hS.fb_lt (hG.ext hS.bel)) rfl ?_
  rintro r_19 w_20 hx_21 ⟨v_22, rfl, hv_23⟩
  have ln_25 := hv_23.len63
  have hS := hS.ext hx_21
  have hS := hS.add hv_23
  refine Wx.rd (v := .tuple #[v_22, .int .i64 (rimE rP)]) (rd_move rfl) rfl ?_
  refine Wx.rd (v := v_22) (rd_extract rfl rfl) rfl ?_
  refine Wx.rd (v := .int .i64 (rimE rP)) (rd_extract rfl rfl) rfl ?_
  refine Wx.rd (v := v_22) (rd_assign rfl) rfl ?_
  refine Wx.rd (v := .int .i64 0) (Rd.to (v := .int .i64 (rimE rP)) (rd_assign rfl) (congrArg (Value.int .i64) (show (0 : Int) = (rimE rP : Int) from (by decide +kernel)).symm)) rfl ?_
  refine Wx.nil ?_
  refine W.seq ?_
  refine W.reg ?_
  refine Wx.callF (run_callF Tryd.call32 rfl) (F32 (by first | assumption | (simp only [maxLen]; omega) | (simp only [ByteArray.size_extract, ByteArray.size_append, maxLen] at *; omega) | decide) (hG.ext hS.bel)) rfl ?_
  rintro r_26 w_27 hx_28 rfl
  have hS := hS.ext hx_28
  refine Wx.rd (v := .tuple #[.string (restE rQ), .int .i64 (rimE rQ)]) (rd_move rfl) rfl ?_
  refine Wx.rd (v := .string (restE rQ)) (rd_extract rfl rfl) rfl ?_
  refine Wx.rd (v := .int .i64 (rimE rQ)) (rd_extract rfl rfl) rfl ?_
  refine Wx.rd (v := .string (restE rQ)) (rd_assign rfl) rfl ?_
  refine Wx.rd (v := .int .i64 0) (Rd.to (v := .int .i64 (rimE rQ)) (rd_assign rfl) (congrArg (Value.int .i64) (show (0 : Int) = (rimE rQ : Int) from (by decide +kernel)).symm)) rfl ?_
  refine Wx.nil ?_
  refine W.seq ?_
  refine W.seq ?_
  refine W.reg ?_
  refine Wx.rd (v := .int .i64 0) (rd_move rfl) rfl ?_
  refine Wx.rd (v := .bool (decide ((0 : Int) ≠ 0))) (rd_neq rfl rfl) rfl ?_
  refine Wx.rd (v := .bool (decide ((0 : Int) ≠ 0))) (rd_move rfl) rfl ?_
  refine Wx.cut (X := Unit) 3 [48, 49, 50] (fun _ => [(50, .bool (decide ((0 : Int) ≠ 0) || decide ((0 : Int) ≠ 0)))]) (fun _ w' => St w O w' [Ob.v (tSl (tP (tI .i64) (tI .i64))) (stepsV rP) v_22, .row (tP (tI .i64) (tI .i64)) 58 v_16 (forcedP rP), .row (tP (tI .i64) (tI .i64)) 58 v_7 (firstV rR)]) ?_ ?_
  · rcases Bool.eq_false_or_eq_true (decide ((0 : Int) ≠ 0)) with g_29 | g_29
    · -- True
      have gp_30 := of_decide_eq_true g_29
      refine Wx.gnoB rfl rfl (congrArg Value.bool g_29) rfl rfl ?_
      refine Wx.gnoB rfl rfl (congrArg Value.bool g_29) rfl rfl ?_
      refine Wx.rd (v := .bool true) (rd_pickT (congrArg Value.bool g_29) rfl) rfl ?_
      refine Wx.nil ⟨(), hS, ⟨?_, trivial⟩, Out.look rfl Out.refl⟩
      show Value.bool true = Value.bool (decide ((0 : Int) ≠ 0) || decide ((0 : Int) ≠ 0))
      rw [g_29]; rfl
    · -- False
      have gp_31 := of_decide_eq_false g_29
      refine Wx.gyes rfl rfl (congrArg Value.bool g_29) ?_
      refine Wx.rd (v := .int .i64 0) (rd_move rfl) rfl ?_
      refine Wx.gyes rfl rfl (congrArg Value.bool g_29) ?_
      refine Wx.rd (v := .bool (decide ((0 : Int) ≠ 0))) (rd_neq rfl rfl) rfl ?_
      refine Wx.rd (v := .bool (decide ((0 : Int) ≠ 0))) (rd_pickF (congrArg Value.bool g_29) rfl) rfl ?_
      refine Wx.nil ⟨(), hS, ⟨?_, trivial⟩, Out.look rfl Out.refl⟩
      show Value.bool (decide ((0 : Int) ≠ 0)) = Value.bool (decide ((0 : Int) ≠ 0) || decide ((0 : Int) ≠ 0))
      rw [g_29]; rfl
  rintro ⟨⟩ u_33 w_32 hS
  refine Wx.rd (v := .bool (decide ((0 : Int) ≠ 0) || decide ((0 : Int) ≠ 0))) (rd_move rfl) rfl ?_
  refine Wx.cut (X := Unit) 3 [52, 53, 54] (fun _ => [(54, .bool ((decide ((0 : Int) ≠ 0) || decide ((0 : Int) ≠ 0)) || decide ((0 : Int) ≠ 0)))]) (fun _ w' => St w O w' [Ob.v (tSl (tP (tI .i64) (tI .i64))) (stepsV rP) v_22, .row (tP (tI .i64) (tI .i64)) 58 v_16 (forcedP rP), .row (tP (tI .i64) (tI .i64)) 58 v_7 (firstV rR)]) ?_ ?_
  · rcases Bool.eq_false_or_eq_true (decide ((0 : Int) ≠ 0) || decide ((0 : Int) ≠ 0)) with g_34 | g_34
    · -- True
      have gp_35 := g_34
      try simp only [Bool.and_eq_true, Bool.or_eq_true, Bool.not_eq_true', Bool.and_eq_false_iff, Bool.or_eq_false_iff, Bool.not_eq_false', decide_eq_true_eq, decide_eq_false_iff_not, not_or, Bool.false_eq_true, Bool.true_eq_false, false_or, or_false, not_false_eq_true] at gp_35
      refine Wx.gnoB rfl rfl (congrArg Value.bool g_34) rfl rfl ?_
      refine Wx.gnoB rfl rfl (congrArg Value.bool g_34) rfl rfl ?_
      refine Wx.rd (v := .bool true) (rd_pickT (congrArg Value.bool g_34) rfl) rfl ?_
      refine Wx.nil ⟨(), hS, ⟨?_, trivial⟩, Out.look rfl Out.refl⟩
      show Value.bool true = Value.bool ((decide ((0 : Int) ≠ 0) || decide ((0 : Int) ≠ 0)) || decide ((0 : Int) ≠ 0))
      rw [g_34]; rfl
    · -- False
      have gp_36 := g_34
      try simp only [Bool.and_eq_true, Bool.or_eq_true, Bool.not_eq_true', Bool.and_eq_false_iff, Bool.or_eq_false_iff, Bool.not_eq_false', decide_eq_true_eq, decide_eq_false_iff_not, not_or, Bool.false_eq_true, Bool.true_eq_false, false_or, or_false, not_false_eq_true] at gp_36
      refine Wx.gyes rfl rfl (congrArg Value.bool g_34) ?_
      refine Wx.rd (v := .int .i64 0) (rd_move rfl) rfl ?_
      refine Wx.gyes rfl rfl (congrArg Value.bool g_34) ?_
      refine Wx.rd (v := .bool (decide ((0 : Int) ≠ 0))) (rd_neq rfl rfl) rfl ?_
      refine Wx.rd (v := .bool (decide ((0 : Int) ≠ 0))) (rd_pickF (congrArg Value.bool g_34) rfl) rfl ?_
      refine Wx.nil ⟨(), hS, ⟨?_, trivial⟩, Out.look rfl Out.refl⟩
      show Value.bool (decide ((0 : Int) ≠ 0)) = Value.bool ((decide ((0 : Int) ≠ 0) || decide ((0 : Int) ≠ 0)) || decide ((0 : Int) ≠ 0))
      rw [g_34]; rfl
  rintro ⟨⟩ u_38 w_37 hS
  refine Wx.rd (v := .bool ((decide ((0 : Int) ≠ 0) || decide ((0 : Int) ≠ 0)) || decide ((0 : Int) ≠ 0))) (rd_move rfl) rfl ?_
  refine Wx.cut (X := Unit) 3 [56, 57, 58] (fun _ => [(58, .bool (((decide ((0 : Int) ≠ 0) || decide ((0 : Int) ≠ 0)) || decide ((0 : Int) ≠ 0)) || decide ((0 : Int) ≠ 0)))]) (fun _ w' => St w O w' [Ob.v (tSl (tP (tI .i64) (tI .i64))) (stepsV rP) v_22, .row (tP (tI .i64) (tI .i64)) 58 v_16 (forcedP rP), .row (tP (tI .i64) (tI .i64)) 58 v_7 (firstV rR)]) ?_ ?_
  · rcases Bool.eq_false_or_eq_true ((decide ((0 : Int) ≠ 0) || decide ((0 : Int) ≠ 0)) || decide ((0 : Int) ≠ 0)) with g_39 | g_39
    · -- True
      have gp_40 := g_39
      try simp only [Bool.and_eq_true, Bool.or_eq_true, Bool.not_eq_true', Bool.and_eq_false_iff, Bool.or_eq_false_iff, Bool.not_eq_false', decide_eq_true_eq, decide_eq_false_iff_not, not_or, Bool.false_eq_true, Bool.true_eq_false, false_or, or_false, not_false_eq_true] at gp_40
      refine Wx.gnoB rfl rfl (congrArg Value.bool g_39) rfl rfl ?_
      refine Wx.gnoB rfl rfl (congrArg Value.bool g_39) rfl rfl ?_
      refine Wx.rd (v := .bool true) (rd_pickT (congrArg Value.bool g_39) rfl) rfl ?_
      refine Wx.nil ⟨(), hS, ⟨?_, trivial⟩, Out.look rfl Out.refl⟩
      show Value.bool true = Value.bool (((decide ((0 : Int) ≠ 0) || decide ((0 : Int) ≠ 0)) || decide ((0 : Int) ≠ 0)) || decide ((0 : Int) ≠ 0))
      rw [g_39]; rfl
    · -- False
      have gp_41 := g_39
      try simp only [Bool.and_eq_true, Bool.or_eq_true, Bool.not_eq_true', Bool.and_eq_false_iff, Bool.or_eq_false_iff, Bool.not_eq_false', decide_eq_true_eq, decide_eq_false_iff_not, not_or, Bool.false_eq_true, Bool.true_eq_false, false_or, or_false, not_false_eq_true] at gp_41
      refine Wx.gyes rfl rfl (congrArg Value.bool g_39) ?_
      refine Wx.rd (v := .int .i64 0) (rd_move rfl) rfl ?_
      refine Wx.gyes rfl rfl (congrArg Value.bool g_39) ?_
      refine Wx.rd (v := .bool (decide ((0 : Int) ≠ 0))) (rd_neq rfl rfl) rfl ?_
      refine Wx.rd (v := .bool (decide ((0 : Int) ≠ 0))) (rd_pickF (congrArg Value.bool g_39) rfl) rfl ?_
      refine Wx.nil ⟨(), hS, ⟨?_, trivial⟩, Out.look rfl Out.refl⟩
      show Value.bool (decide ((0 : Int) ≠ 0)) = Value.bool (((decide ((0 : Int) ≠ 0) || decide ((0 : Int) ≠ 0)) || decide ((0 : Int) ≠ 0)) || decide ((0 : Int) ≠ 0))
      rw [g_39]; rfl
  rintro ⟨⟩ u_43 w_42 hS
  refine Wx.rd (v := .bool (((decide ((0 : Int) ≠ 0) || decide ((0 : Int) ≠ 0)) || decide ((0 : Int) ≠ 0)) || decide ((0 : Int) ≠ 0))) (rd_move rfl) rfl ?_
  refine Wx.cut (X := Unit) 3 [60, 61, 62] (fun _ => [(62, .bool ((((decide ((0 : Int) ≠ 0) || decide ((0 : Int) ≠ 0)) || decide ((0 : Int) ≠ 0)) || decide ((0 : Int) ≠ 0)) || decide ((0 : Int) ≠ 0)))]) (fun _ w' => St w O w' [Ob.v (tSl (tP (tI .i64) (tI .i64))) (stepsV rP) v_22, .row (tP (tI .i64) (tI .i64)) 58 v_16 (forcedP rP), .row (tP (tI .i64) (tI .i64)) 58 v_7 (firstV rR)]) ?_ ?_
  · rcases Bool.eq_false_or_eq_true (((decide ((0 : Int) ≠ 0) || decide ((0 : Int) ≠ 0)) || decide ((0 : Int) ≠ 0)) || decide ((0 : Int) ≠ 0)) with g_44 | g_44
    · -- True
      have gp_45 := g_44
      try simp only [Bool.and_eq_true, Bool.or_eq_true, Bool.not_eq_true', Bool.and_eq_false_iff, Bool.or_eq_false_iff, Bool.not_eq_false', decide_eq_true_eq, decide_eq_false_iff_not, not_or, Bool.false_eq_true, Bool.true_eq_false, false_or, or_false, not_false_eq_true] at gp_45
      refine Wx.gnoB rfl rfl (congrArg Value.bool g_44) rfl rfl ?_
      refine Wx.gnoB rfl rfl (congrArg Value.bool g_44) rfl rfl ?_
      refine Wx.rd (v := .bool true) (rd_pickT (congrArg Value.bool g_44) rfl) rfl ?_
      refine Wx.nil ⟨(), hS, ⟨?_, trivial⟩, Out.look rfl Out.refl⟩
      show Value.bool true = Value.bool ((((decide ((0 : Int) ≠ 0) || decide ((0 : Int) ≠ 0)) || decide ((0 : Int) ≠ 0)) || decide ((0 : Int) ≠ 0)) || decide ((0 : Int) ≠ 0))
      rw [g_44]; rfl
    · -- False
      have gp_46 := g_44
      try simp only [Bool.and_eq_true, Bool.or_eq_true, Bool.not_eq_true', Bool.and_eq_false_iff, Bool.or_eq_false_iff, Bool.not_eq_false', decide_eq_true_eq, decide_eq_false_iff_not, not_or, Bool.false_eq_true, Bool.true_eq_false, false_or, or_false, not_false_eq_true] at gp_46
      refine Wx.gyes rfl rfl (congrArg Value.bool g_44) ?_
      refine Wx.rd (v := .int .i64 0) (rd_move rfl) rfl ?_
      refine Wx.gyes rfl rfl (congrArg Value.bool g_44) ?_
      refine Wx.rd (v := .bool (decide ((0 : Int) ≠ 0))) (rd_neq rfl rfl) rfl ?_
      refine Wx.rd (v := .bool (decide ((0 : Int) ≠ 0))) (rd_pickF (congrArg Value.bool g_44) rfl) rfl ?_
      refine Wx.nil ⟨(), hS, ⟨?_, trivial⟩, Out.look rfl Out.refl⟩
      show Value.bool (decide ((0 : Int) ≠ 0)) = Value.bool ((((decide ((0 : Int) ≠ 0) || decide ((0 : Int) ≠ 0)) || decide ((0 : Int) ≠ 0)) || decide ((0 : Int) ≠ 0)) || decide ((0 : Int) ≠ 0))
      rw [g_44]; rfl
  rintro ⟨⟩ u_48 w_47 hS
  refine Wx.rd (v := .bool ((((decide ((0 : Int) ≠ 0) || decide ((0 : Int) ≠ 0)) || decide ((0 : Int) ≠ 0)) || decide ((0 : Int) ≠ 0)) || decide ((0 : Int) ≠ 0))) (rd_move rfl) rfl ?_
  refine Wx.cut (X := Unit) 3 [64, 65, 66] (fun _ => [(66, .bool (((((decide ((0 : Int) ≠ 0) || decide ((0 : Int) ≠ 0)) || decide ((0 : Int) ≠ 0)) || decide ((0 : Int) ≠ 0)) || decide ((0 : Int) ≠ 0)) || decide ((0 : Int) ≠ 0)))]) (fun _ w' => St w O w' [Ob.v (tSl (tP (tI .i64) (tI .i64))) (stepsV rP) v_22, .row (tP (tI .i64) (tI .i64)) 58 v_16 (forcedP rP), .row (tP (tI .i64) (tI .i64)) 58 v_7 (firstV rR)]) ?_ ?_
  · rcases Bool.eq_false_or_eq_true ((((decide ((0 : Int) ≠ 0) || decide ((0 : Int) ≠ 0)) || decide ((0 : Int) ≠ 0)) || decide ((0 : Int) ≠ 0)) || decide ((0 : Int) ≠ 0)) with g_49 | g_49
    · -- True
      have gp_50 := g_49
      try simp only [Bool.and_eq_true, Bool.or_eq_true, Bool.not_eq_true', Bool.and_eq_false_iff, Bool.or_eq_false_iff, Bool.not_eq_false', decide_eq_true_eq, decide_eq_false_iff_not, not_or, Bool.false_eq_true, Bool.true_eq_false, false_or, or_false, not_false_eq_true] at gp_50
      refine Wx.gnoB rfl rfl (congrArg Value.bool g_49) rfl rfl ?_
      refine Wx.gnoB rfl rfl (congrArg Value.bool g_49) rfl rfl ?_
      refine Wx.rd (v := .bool true) (rd_pickT (congrArg Value.bool g_49) rfl) rfl ?_
      refine Wx.nil ⟨(), hS, ⟨?_, trivial⟩, Out.look rfl Out.refl⟩
      show Value.bool true = Value.bool (((((decide ((0 : Int) ≠ 0) || decide ((0 : Int) ≠ 0)) || decide ((0 : Int) ≠ 0)) || decide ((0 : Int) ≠ 0)) || decide ((0 : Int) ≠ 0)) || decide ((0 : Int) ≠ 0))
      rw [g_49]; rfl
    · -- False
      have gp_51 := g_49
      try simp only [Bool.and_eq_true, Bool.or_eq_true, Bool.not_eq_true', Bool.and_eq_false_iff, Bool.or_eq_false_iff, Bool.not_eq_false', decide_eq_true_eq, decide_eq_false_iff_not, not_or, Bool.false_eq_true, Bool.true_eq_false, false_or, or_false, not_false_eq_true] at gp_51
      refine Wx.gyes rfl rfl (congrArg Value.bool g_49) ?_
      refine Wx.rd (v := .int .i64 0) (rd_move rfl) rfl ?_
      refine Wx.gyes rfl rfl (congrArg Value.bool g_49) ?_
      refine Wx.rd (v := .bool (decide ((0 : Int) ≠ 0))) (rd_neq rfl rfl) rfl ?_
      refine Wx.rd (v := .bool (decide ((0 : Int) ≠ 0))) (rd_pickF (congrArg Value.bool g_49) rfl) rfl ?_
      refine Wx.nil ⟨(), hS, ⟨?_, trivial⟩, Out.look rfl Out.refl⟩
      show Value.bool (decide ((0 : Int) ≠ 0)) = Value.bool (((((decide ((0 : Int) ≠ 0) || decide ((0 : Int) ≠ 0)) || decide ((0 : Int) ≠ 0)) || decide ((0 : Int) ≠ 0)) || decide ((0 : Int) ≠ 0)) || decide ((0 : Int) ≠ 0))
      rw [g_49]; rfl
  rintro ⟨⟩ u_53 w_52 hS
  refine Wx.nil ?_
  refine W.cond rfl (fun c0 => ?_) (fun c0 => ?_)
  · -- yes
    try simp only [Bool.and_eq_true, Bool.or_eq_true, Bool.not_eq_true', Bool.and_eq_false_iff, Bool.or_eq_false_iff, Bool.not_eq_false', decide_eq_true_eq, decide_eq_false_iff_not, not_or, Bool.false_eq_true, Bool.true_eq_false, false_or, or_false, not_false_eq_true] at c0
    refine W.seq ?_
    refine W.reg ?_
    refine Wx.rd (v := .bool false) (rd_assign rfl) rfl ?_
    refine Wx.nil ?_
    have e0_0 : false = true := by first | rfl | omega
    exact W.ret ⟨.bool false, ResIs.one, hS.bel, (by rw [e0_0])⟩
  · -- no
    try simp only [Bool.and_eq_true, Bool.or_eq_true, Bool.not_eq_true', Bool.and_eq_false_iff, Bool.or_eq_false_iff, Bool.not_eq_false', decide_eq_true_eq, decide_eq_false_iff_not, not_or, Bool.false_eq_true, Bool.true_eq_false, false_or, or_false, not_false_eq_true] at c0
    refine W.skip ?_
    refine W.seq ?_
    refine W.reg ?_
    refine Wx.callF (run_callF Tryd.call34 rfl) (F34 (by first | assumption | (simp only [maxLen]; omega) | (simp only [ByteArray.size_extract, ByteArray.size_append, maxLen] at *; omega) | decide) (hG.ext hS.bel)) rfl ?_
    rintro r_54 w_55 hx_56 rfl
    have hS := hS.ext hx_56
    refine Wx.rd (v := .tuple #[.bool (fullP rP), .int .i64 (rimE rP)]) (rd_move rfl) rfl ?_
    refine Wx.rd (v := .bool (fullP rP)) (rd_extract rfl rfl) rfl ?_
    refine Wx.rd (v := .int .i64 (rimE rP)) (rd_extract rfl rfl) rfl ?_
    refine Wx.rd (v := .bool true) (Rd.to (v := .bool (fullP rP)) (rd_assign rfl) (congrArg (Value.bool) (show (true : Bool) = (fullP rP : Bool) from (by decide +kernel)).symm)) rfl ?_
    refine Wx.rd (v := .int .i64 0) (Rd.to (v := .int .i64 (rimE rP)) (rd_assign rfl) (congrArg (Value.int .i64) (show (0 : Int) = (rimE rP : Int) from (by decide +kernel)).symm)) rfl ?_
    refine Wx.nil ?_
    refine W.seq ?_
    refine W.reg ?_
    refine Wx.callF (run_callF Tryd.call34 rfl) (F34 (by first | assumption | (simp only [maxLen]; omega) | (simp only [ByteArray.size_extract, ByteArray.size_append, maxLen] at *; omega) | decide) (hG.ext hS.bel)) rfl ?_
    rintro r_57 w_58 hx_59 rfl
    have hS := hS.ext hx_59
    refine Wx.rd (v := .tuple #[.bool (fullP rQ), .int .i64 (rimE rQ)]) (rd_move rfl) rfl ?_
    refine Wx.rd (v := .bool (fullP rQ)) (rd_extract rfl rfl) rfl ?_
    refine Wx.rd (v := .int .i64 (rimE rQ)) (rd_extract rfl rfl) rfl ?_
    refine Wx.rd (v := .bool false) (Rd.to (v := .bool (fullP rQ)) (rd_assign rfl) (congrArg (Value.bool) (show (false : Bool) = (fullP rQ : Bool) from (by decide +kernel)).symm)) rfl ?_
    refine Wx.rd (v := .int .i64 0) (Rd.to (v := .int .i64 (rimE rQ)) (rd_assign rfl) (congrArg (Value.int .i64) (show (0 : Int) = (rimE rQ : Int) from (by decide +kernel)).symm)) rfl ?_
    refine Wx.nil ?_
    refine W.seq ?_
    refine W.reg ?_
    refine Wx.callF (run_callF Tryd.call36 rfl) (F36 (by first | assumption | (simp only [maxLen]; omega) | (simp only [ByteArray.size_extract, ByteArray.size_append, maxLen] at *; omega) | decide) (hG.ext hS.bel)) rfl ?_
    rintro r_60 w_61 hx_62 rfl
    have hS := hS.ext hx_62
    refine Wx.rd (v := .tuple #[.string (coreV r1), .int .i64 (rimE r1)]) (rd_move rfl) rfl ?_
    refine Wx.rd (v := .string (coreV r1)) (rd_extract rfl rfl) rfl ?_
    refine Wx.rd (v := .int .i64 (rimE r1)) (rd_extract rfl rfl) rfl ?_
    refine Wx.rd (v := .string (coreV r1)) (rd_assign rfl) rfl ?_
    refine Wx.rd (v := .int .i64 0) (Rd.to (v := .int .i64 (rimE r1)) (rd_assign rfl) (congrArg (Value.int .i64) (show (0 : Int) = (rimE r1 : Int) from (by decide +kernel)).symm)) rfl ?_
    refine Wx.nil ?_
    refine W.seq ?_
    refine W.reg ?_
    refine Wx.callF (run_callF Tryd.call38 rfl) (F38 (by first | assumption | (simp only [maxLen]; omega) | (simp only [ByteArray.size_extract, ByteArray.size_append, maxLen] at *; omega) | decide) (in_i64 (by omega) (by omega)) (hG.ext hS.bel)) rfl ?_
    rintro r_63 w_64 hx_65 rfl
    have hS := hS.ext hx_65
    refine Wx.rd (v := .tuple #[.string (turnS rQ 1), .int .i64 (turnE rQ 1)]) (rd_move rfl) rfl ?_
    refine Wx.rd (v := .string (turnS rQ 1)) (rd_extract rfl rfl) rfl ?_
    refine Wx.rd (v := .int .i64 (turnE rQ 1)) (rd_extract rfl rfl) rfl ?_
    refine Wx.rd (v := .string (turnS rQ 1)) (rd_assign rfl) rfl ?_
    refine Wx.rd (v := .int .i64 0) (Rd.to (v := .int .i64 (turnE rQ 1)) (rd_assign rfl) (congrArg (Value.int .i64) (show (0 : Int) = (turnE rQ 1 : Int) from (by decide +kernel)).symm)) rfl ?_
    refine Wx.nil ?_
    refine W.seq ?_
    refine W.reg ?_
    refine Wx.callF (run_callF Tryd.call40 rfl) (F40 (by first | assumption | (simp only [maxLen]; omega) | (simp only [ByteArray.size_extract, ByteArray.size_append, maxLen] at *; omega) | decide) (hG.ext hS.bel)) rfl ?_
    rintro r_66 w_67 hx_68 rfl
    have hS := hS.ext hx_68
    refine Wx.rd (v := .tuple #[.string (oppV r2), .int .i64 (rimE r2)]) (rd_move rfl) rfl ?_
    refine Wx.rd (v := .string (oppV r2)) (rd_extract rfl rfl) rfl ?_
    refine Wx.rd (v := .int .i64 (rimE r2)) (rd_extract rfl rfl) rfl ?_
    refine Wx.rd (v := .string (oppV r2)) (rd_assign rfl) rfl ?_
    refine Wx.rd (v := .int .i64 0) (Rd.to (v := .int .i64 (rimE r2)) (rd_assign rfl) (congrArg (Value.int .i64) (show (0 : Int) = (rimE r2 : Int) from (by decide +kernel)).symm)) rfl ?_
    refine Wx.nil ?_
    refine W.seq ?_
    refine W.reg ?_
    refine Wx.callF (run_callF Tryd.call42 rfl) (F42 (by first | assumption | (simp only [maxLen]; omega) | (simp only [ByteArray.size_extract, ByteArray.size_append, maxLen] at *; omega) | decide) (by first | assumption | (simp only [maxLen]; omega) | (simp only [ByteArray.size_extract, ByteArray.size_append, maxLen] at *; omega) | decide) (hG.ext hS.bel)) rfl ?_
    rintro r_69 w_70 hx_71 rfl
    have hS := hS.ext hx_71
    refine Wx.rd (v := .tuple #[.bool (alikeP r3 r4), .int .i64 (alikeE r3 r4)]) (rd_move rfl) rfl ?_
    refine Wx.rd (v := .bool (alikeP r3 r4)) (rd_extract rfl rfl) rfl ?_
    refine Wx.rd (v := .int .i64 (alikeE r3 r4)) (rd_extract rfl rfl) rfl ?_
    refine Wx.rd (v := .bool true) (Rd.to (v := .bool (alikeP r3 r4)) (rd_assign rfl) (congrArg (Value.bool) (show (true : Bool) = (alikeP r3 r4 : Bool) from (by decide +kernel)).symm)) rfl ?_
    refine Wx.rd (v := .int .i64 0) (Rd.to (v := .int .i64 (alikeE r3 r4)) (rd_assign rfl) (congrArg (Value.int .i64) (show (0 : Int) = (alikeE r3 r4 : Int) from (by decide +kernel)).symm)) rfl ?_
    refine Wx.nil ?_
    refine W.seq ?_
    refine W.reg ?_
    refine Wx.callF (run_callF Tryd.call42 rfl) (F42 (by first | assumption | (simp only [maxLen]; omega) | (simp only [ByteArray.size_extract, ByteArray.size_append, maxLen] at *; omega) | decide) (by first | assumption | (simp only [maxLen]; omega) | (simp only [ByteArray.size_extract, ByteArray.size_append, maxLen] at *; omega) | decide) (hG.ext hS.bel)) rfl ?_
    rintro r_72 w_73 hx_74 rfl
    have hS := hS.ext hx_74
    refine Wx.rd (v := .tuple #[.bool (alikeP r5 r6), .int .i64 (alikeE r5 r6)]) (rd_move rfl) rfl ?_
    refine Wx.rd (v := .bool (alikeP r5 r6)) (rd_extract rfl rfl) rfl ?_
    refine Wx.rd (v := .int .i64 (alikeE r5 r6)) (rd_extract rfl rfl) rfl ?_
    refine Wx.rd (v := .bool false) (Rd.to (v := .bool (alikeP r5 r6)) (rd_assign rfl) (congrArg (Value.bool) (show (false : Bool) = (alikeP r5 r6 : Bool) from (by decide +kernel)).symm)) rfl ?_
    refine Wx.rd (v := .int .i64 0) (Rd.to (v := .int .i64 (alikeE r5 r6)) (rd_assign rfl) (congrArg (Value.int .i64) (show (0 : Int) = (alikeE r5 r6 : Int) from (by decide +kernel)).symm)) rfl ?_
    refine Wx.nil ?_
    refine W.seq ?_
    refine W.reg ?_
    refine Wx.rd (v := .int .i64 0) (rd_move rfl) rfl ?_
    refine Wx.rd (v := .bool (decide ((0 : Int) = 0))) (rd_eql rfl rfl) rfl ?_
    refine Wx.rd (v := .bool (decide ((0 : Int) = 0))) (rd_move rfl) rfl ?_
    refine Wx.cut (X := Unit) 3 [98, 99, 100] (fun _ => [(100, .bool (decide ((0 : Int) = 0) && decide ((0 : Int) = 0)))]) (fun _ w' => St w O w' [Ob.v (tSl (tP (tI .i64) (tI .i64))) (stepsV rP) v_22, .row (tP (tI .i64) (tI .i64)) 58 v_16 (forcedP rP), .row (tP (tI .i64) (tI .i64)) 58 v_7 (firstV rR)]) ?_ ?_
    · rcases Bool.eq_false_or_eq_true (decide ((0 : Int) = 0)) with g_75 | g_75
      · -- True
        have gp_76 := of_decide_eq_true g_75
        refine Wx.gyes rfl rfl (congrArg Value.bool g_75) ?_
        refine Wx.rd (v := .int .i64 0) (rd_move rfl) rfl ?_
        refine Wx.gyes rfl rfl (congrArg Value.bool g_75) ?_
        refine Wx.rd (v := .bool (decide ((0 : Int) = 0))) (rd_eql rfl rfl) rfl ?_
        refine Wx.rd (v := .bool (decide ((0 : Int) = 0))) (rd_pickT (congrArg Value.bool g_75) rfl) rfl ?_
        refine Wx.nil ⟨(), hS, ⟨?_, trivial⟩, Out.look rfl Out.refl⟩
        show Value.bool (decide ((0 : Int) = 0)) = Value.bool (decide ((0 : Int) = 0) && decide ((0 : Int) = 0))
        rw [g_75]; rfl
      · -- False
        have gp_77 := of_decide_eq_false g_75
        refine Wx.gnoB rfl rfl (congrArg Value.bool g_75) rfl rfl ?_
        refine Wx.gnoB rfl rfl (congrArg Value.bool g_75) rfl rfl ?_
        refine Wx.rd (v := .bool false) (rd_pickF (congrArg Value.bool g_75) rfl) rfl ?_
        refine Wx.nil ⟨(), hS, ⟨?_, trivial⟩, Out.look rfl Out.refl⟩
        show Value.bool false = Value.bool (decide ((0 : Int) = 0) && decide ((0 : Int) = 0))
        rw [g_75]; rfl
    rintro ⟨⟩ u_79 w_78 hS
    refine Wx.rd (v := .bool (decide ((0 : Int) = 0) && decide ((0 : Int) = 0))) (rd_move rfl) rfl ?_
    refine Wx.cut (X := Unit) 3 [102, 103, 104] (fun _ => [(104, .bool ((decide ((0 : Int) = 0) && decide ((0 : Int) = 0)) && decide ((0 : Int) = 0)))]) (fun _ w' => St w O w' [Ob.v (tSl (tP (tI .i64) (tI .i64))) (stepsV rP) v_22, .row (tP (tI .i64) (tI .i64)) 58 v_16 (forcedP rP), .row (tP (tI .i64) (tI .i64)) 58 v_7 (firstV rR)]) ?_ ?_
    · rcases Bool.eq_false_or_eq_true (decide ((0 : Int) = 0) && decide ((0 : Int) = 0)) with g_80 | g_80
      · -- True
        have gp_81 := g_80
        try simp only [Bool.and_eq_true, Bool.or_eq_true, Bool.not_eq_true', Bool.and_eq_false_iff, Bool.or_eq_false_iff, Bool.not_eq_false', decide_eq_true_eq, decide_eq_false_iff_not, not_or, Bool.false_eq_true, Bool.true_eq_false, false_or, or_false, not_false_eq_true] at gp_81
        refine Wx.gyes rfl rfl (congrArg Value.bool g_80) ?_
        refine Wx.rd (v := .int .i64 0) (rd_move rfl) rfl ?_
        refine Wx.gyes rfl rfl (congrArg Value.bool g_80) ?_
        refine Wx.rd (v := .bool (decide ((0 : Int) = 0))) (rd_eql rfl rfl) rfl ?_
        refine Wx.rd (v := .bool (decide ((0 : Int) = 0))) (rd_pickT (congrArg Value.bool g_80) rfl) rfl ?_
        refine Wx.nil ⟨(), hS, ⟨?_, trivial⟩, Out.look rfl Out.refl⟩
        show Value.bool (decide ((0 : Int) = 0)) = Value.bool ((decide ((0 : Int) = 0) && decide ((0 : Int) = 0)) && decide ((0 : Int) = 0))
        rw [g_80]; rfl
      · -- False
        have gp_82 := g_80
        try simp only [Bool.and_eq_true, Bool.or_eq_true, Bool.not_eq_true', Bool.and_eq_false_iff, Bool.or_eq_false_iff, Bool.not_eq_false', decide_eq_true_eq, decide_eq_false_iff_not, not_or, Bool.false_eq_true, Bool.true_eq_false, false_or, or_false, not_false_eq_true] at gp_82
        refine Wx.gnoB rfl rfl (congrArg Value.bool g_80) rfl rfl ?_
        refine Wx.gnoB rfl rfl (congrArg Value.bool g_80) rfl rfl ?_
        refine Wx.rd (v := .bool false) (rd_pickF (congrArg Value.bool g_80) rfl) rfl ?_
        refine Wx.nil ⟨(), hS, ⟨?_, trivial⟩, Out.look rfl Out.refl⟩
        show Value.bool false = Value.bool ((decide ((0 : Int) = 0) && decide ((0 : Int) = 0)) && decide ((0 : Int) = 0))
        rw [g_80]; rfl
    rintro ⟨⟩ u_84 w_83 hS
    refine Wx.rd (v := .bool ((decide ((0 : Int) = 0) && decide ((0 : Int) = 0)) && decide ((0 : Int) = 0))) (rd_move rfl) rfl ?_
    refine Wx.cut (X := Unit) 3 [106, 107, 108] (fun _ => [(108, .bool (((decide ((0 : Int) = 0) && decide ((0 : Int) = 0)) && decide ((0 : Int) = 0)) && decide ((0 : Int) = 0)))]) (fun _ w' => St w O w' [Ob.v (tSl (tP (tI .i64) (tI .i64))) (stepsV rP) v_22, .row (tP (tI .i64) (tI .i64)) 58 v_16 (forcedP rP), .row (tP (tI .i64) (tI .i64)) 58 v_7 (firstV rR)]) ?_ ?_
    · rcases Bool.eq_false_or_eq_true ((decide ((0 : Int) = 0) && decide ((0 : Int) = 0)) && decide ((0 : Int) = 0)) with g_85 | g_85
      · -- True
        have gp_86 := g_85
        try simp only [Bool.and_eq_true, Bool.or_eq_true, Bool.not_eq_true', Bool.and_eq_false_iff, Bool.or_eq_false_iff, Bool.not_eq_false', decide_eq_true_eq, decide_eq_false_iff_not, not_or, Bool.false_eq_true, Bool.true_eq_false, false_or, or_false, not_false_eq_true] at gp_86
        refine Wx.gyes rfl rfl (congrArg Value.bool g_85) ?_
        refine Wx.rd (v := .int .i64 0) (rd_move rfl) rfl ?_
        refine Wx.gyes rfl rfl (congrArg Value.bool g_85) ?_
        refine Wx.rd (v := .bool (decide ((0 : Int) = 0))) (rd_eql rfl rfl) rfl ?_
        refine Wx.rd (v := .bool (decide ((0 : Int) = 0))) (rd_pickT (congrArg Value.bool g_85) rfl) rfl ?_
        refine Wx.nil ⟨(), hS, ⟨?_, trivial⟩, Out.look rfl Out.refl⟩
        show Value.bool (decide ((0 : Int) = 0)) = Value.bool (((decide ((0 : Int) = 0) && decide ((0 : Int) = 0)) && decide ((0 : Int) = 0)) && decide ((0 : Int) = 0))
        rw [g_85]; rfl
      · -- False
        have gp_87 := g_85
        try simp only [Bool.and_eq_true, Bool.or_eq_true, Bool.not_eq_true', Bool.and_eq_false_iff, Bool.or_eq_false_iff, Bool.not_eq_false', decide_eq_true_eq, decide_eq_false_iff_not, not_or, Bool.false_eq_true, Bool.true_eq_false, false_or, or_false, not_false_eq_true] at gp_87
        refine Wx.gnoB rfl rfl (congrArg Value.bool g_85) rfl rfl ?_
        refine Wx.gnoB rfl rfl (congrArg Value.bool g_85) rfl rfl ?_
        refine Wx.rd (v := .bool false) (rd_pickF (congrArg Value.bool g_85) rfl) rfl ?_
        refine Wx.nil ⟨(), hS, ⟨?_, trivial⟩, Out.look rfl Out.refl⟩
        show Value.bool false = Value.bool (((decide ((0 : Int) = 0) && decide ((0 : Int) = 0)) && decide ((0 : Int) = 0)) && decide ((0 : Int) = 0))
        rw [g_85]; rfl
    rintro ⟨⟩ u_89 w_88 hS
    refine Wx.rd (v := .bool (((decide ((0 : Int) = 0) && decide ((0 : Int) = 0)) && decide ((0 : Int) = 0)) && decide ((0 : Int) = 0))) (rd_move rfl) rfl ?_
    refine Wx.cut (X := Unit) 3 [110, 111, 112] (fun _ => [(112, .bool ((((decide ((0 : Int) = 0) && decide ((0 : Int) = 0)) && decide ((0 : Int) = 0)) && decide ((0 : Int) = 0)) && decide ((0 : Int) = 0)))]) (fun _ w' => St w O w' [Ob.v (tSl (tP (tI .i64) (tI .i64))) (stepsV rP) v_22, .row (tP (tI .i64) (tI .i64)) 58 v_16 (forcedP rP), .row (tP (tI .i64) (tI .i64)) 58 v_7 (firstV rR)]) ?_ ?_
    · rcases Bool.eq_false_or_eq_true (((decide ((0 : Int) = 0) && decide ((0 : Int) = 0)) && decide ((0 : Int) = 0)) && decide ((0 : Int) = 0)) with g_90 | g_90
      · -- True
        have gp_91 := g_90
        try simp only [Bool.and_eq_true, Bool.or_eq_true, Bool.not_eq_true', Bool.and_eq_false_iff, Bool.or_eq_false_iff, Bool.not_eq_false', decide_eq_true_eq, decide_eq_false_iff_not, not_or, Bool.false_eq_true, Bool.true_eq_false, false_or, or_false, not_false_eq_true] at gp_91
        refine Wx.gyes rfl rfl (congrArg Value.bool g_90) ?_
        refine Wx.rd (v := .int .i64 0) (rd_move rfl) rfl ?_
        refine Wx.gyes rfl rfl (congrArg Value.bool g_90) ?_
        refine Wx.rd (v := .bool (decide ((0 : Int) = 0))) (rd_eql rfl rfl) rfl ?_
        refine Wx.rd (v := .bool (decide ((0 : Int) = 0))) (rd_pickT (congrArg Value.bool g_90) rfl) rfl ?_
        refine Wx.nil ⟨(), hS, ⟨?_, trivial⟩, Out.look rfl Out.refl⟩
        show Value.bool (decide ((0 : Int) = 0)) = Value.bool ((((decide ((0 : Int) = 0) && decide ((0 : Int) = 0)) && decide ((0 : Int) = 0)) && decide ((0 : Int) = 0)) && decide ((0 : Int) = 0))
        rw [g_90]; rfl
      · -- False
        have gp_92 := g_90
        try simp only [Bool.and_eq_true, Bool.or_eq_true, Bool.not_eq_true', Bool.and_eq_false_iff, Bool.or_eq_false_iff, Bool.not_eq_false', decide_eq_true_eq, decide_eq_false_iff_not, not_or, Bool.false_eq_true, Bool.true_eq_false, false_or, or_false, not_false_eq_true] at gp_92
        refine Wx.gnoB rfl rfl (congrArg Value.bool g_90) rfl rfl ?_
        refine Wx.gnoB rfl rfl (congrArg Value.bool g_90) rfl rfl ?_
        refine Wx.rd (v := .bool false) (rd_pickF (congrArg Value.bool g_90) rfl) rfl ?_
        refine Wx.nil ⟨(), hS, ⟨?_, trivial⟩, Out.look rfl Out.refl⟩
        show Value.bool false = Value.bool ((((decide ((0 : Int) = 0) && decide ((0 : Int) = 0)) && decide ((0 : Int) = 0)) && decide ((0 : Int) = 0)) && decide ((0 : Int) = 0))
        rw [g_90]; rfl
    rintro ⟨⟩ u_94 w_93 hS
    refine Wx.rd (v := .bool ((((decide ((0 : Int) = 0) && decide ((0 : Int) = 0)) && decide ((0 : Int) = 0)) && decide ((0 : Int) = 0)) && decide ((0 : Int) = 0))) (rd_move rfl) rfl ?_
    refine Wx.cut (X := Unit) 3 [114, 115, 116] (fun _ => [(116, .bool (((((decide ((0 : Int) = 0) && decide ((0 : Int) = 0)) && decide ((0 : Int) = 0)) && decide ((0 : Int) = 0)) && decide ((0 : Int) = 0)) && decide ((0 : Int) = 0)))]) (fun _ w' => St w O w' [Ob.v (tSl (tP (tI .i64) (tI .i64))) (stepsV rP) v_22, .row (tP (tI .i64) (tI .i64)) 58 v_16 (forcedP rP), .row (tP (tI .i64) (tI .i64)) 58 v_7 (firstV rR)]) ?_ ?_
    · rcases Bool.eq_false_or_eq_true ((((decide ((0 : Int) = 0) && decide ((0 : Int) = 0)) && decide ((0 : Int) = 0)) && decide ((0 : Int) = 0)) && decide ((0 : Int) = 0)) with g_95 | g_95
      · -- True
        have gp_96 := g_95
        try simp only [Bool.and_eq_true, Bool.or_eq_true, Bool.not_eq_true', Bool.and_eq_false_iff, Bool.or_eq_false_iff, Bool.not_eq_false', decide_eq_true_eq, decide_eq_false_iff_not, not_or, Bool.false_eq_true, Bool.true_eq_false, false_or, or_false, not_false_eq_true] at gp_96
        refine Wx.gyes rfl rfl (congrArg Value.bool g_95) ?_
        refine Wx.rd (v := .int .i64 0) (rd_move rfl) rfl ?_
        refine Wx.gyes rfl rfl (congrArg Value.bool g_95) ?_
        refine Wx.rd (v := .bool (decide ((0 : Int) = 0))) (rd_eql rfl rfl) rfl ?_
        refine Wx.rd (v := .bool (decide ((0 : Int) = 0))) (rd_pickT (congrArg Value.bool g_95) rfl) rfl ?_
        refine Wx.nil ⟨(), hS, ⟨?_, trivial⟩, Out.look rfl Out.refl⟩
        show Value.bool (decide ((0 : Int) = 0)) = Value.bool (((((decide ((0 : Int) = 0) && decide ((0 : Int) = 0)) && decide ((0 : Int) = 0)) && decide ((0 : Int) = 0)) && decide ((0 : Int) = 0)) && decide ((0 : Int) = 0))
        rw [g_95]; rfl
      · -- False
        have gp_97 := g_95
        try simp only [Bool.and_eq_true, Bool.or_eq_true, Bool.not_eq_true', Bool.and_eq_false_iff, Bool.or_eq_false_iff, Bool.not_eq_false', decide_eq_true_eq, decide_eq_false_iff_not, not_or, Bool.false_eq_true, Bool.true_eq_false, false_or, or_false, not_false_eq_true] at gp_97
        refine Wx.gnoB rfl rfl (congrArg Value.bool g_95) rfl rfl ?_
        refine Wx.gnoB rfl rfl (congrArg Value.bool g_95) rfl rfl ?_
        refine Wx.rd (v := .bool false) (rd_pickF (congrArg Value.bool g_95) rfl) rfl ?_
        refine Wx.nil ⟨(), hS, ⟨?_, trivial⟩, Out.look rfl Out.refl⟩
        show Value.bool false = Value.bool (((((decide ((0 : Int) = 0) && decide ((0 : Int) = 0)) && decide ((0 : Int) = 0)) && decide ((0 : Int) = 0)) && decide ((0 : Int) = 0)) && decide ((0 : Int) = 0))
        rw [g_95]; rfl
    rintro ⟨⟩ u_99 w_98 hS
    refine Wx.rd (v := .bool (((((decide ((0 : Int) = 0) && decide ((0 : Int) = 0)) && decide ((0 : Int) = 0)) && decide ((0 : Int) = 0)) && decide ((0 : Int) = 0)) && decide ((0 : Int) = 0))) (rd_move rfl) rfl ?_
    refine Wx.cut (X := Unit) 3 [118, 119, 120] (fun _ => [(120, .bool ((((((decide ((0 : Int) = 0) && decide ((0 : Int) = 0)) && decide ((0 : Int) = 0)) && decide ((0 : Int) = 0)) && decide ((0 : Int) = 0)) && decide ((0 : Int) = 0)) && decide ((0 : Int) = 0)))]) (fun _ w' => St w O w' [Ob.v (tSl (tP (tI .i64) (tI .i64))) (stepsV rP) v_22, .row (tP (tI .i64) (tI .i64)) 58 v_16 (forcedP rP), .row (tP (tI .i64) (tI .i64)) 58 v_7 (firstV rR)]) ?_ ?_
    · rcases Bool.eq_false_or_eq_true (((((decide ((0 : Int) = 0) && decide ((0 : Int) = 0)) && decide ((0 : Int) = 0)) && decide ((0 : Int) = 0)) && decide ((0 : Int) = 0)) && decide ((0 : Int) = 0)) with g_100 | g_100
      · -- True
        have gp_101 := g_100
        try simp only [Bool.and_eq_true, Bool.or_eq_true, Bool.not_eq_true', Bool.and_eq_false_iff, Bool.or_eq_false_iff, Bool.not_eq_false', decide_eq_true_eq, decide_eq_false_iff_not, not_or, Bool.false_eq_true, Bool.true_eq_false, false_or, or_false, not_false_eq_true] at gp_101
        refine Wx.gyes rfl rfl (congrArg Value.bool g_100) ?_
        refine Wx.rd (v := .int .i64 0) (rd_move rfl) rfl ?_
        refine Wx.gyes rfl rfl (congrArg Value.bool g_100) ?_
        refine Wx.rd (v := .bool (decide ((0 : Int) = 0))) (rd_eql rfl rfl) rfl ?_
        refine Wx.rd (v := .bool (decide ((0 : Int) = 0))) (rd_pickT (congrArg Value.bool g_100) rfl) rfl ?_
        refine Wx.nil ⟨(), hS, ⟨?_, trivial⟩, Out.look rfl Out.refl⟩
        show Value.bool (decide ((0 : Int) = 0)) = Value.bool ((((((decide ((0 : Int) = 0) && decide ((0 : Int) = 0)) && decide ((0 : Int) = 0)) && decide ((0 : Int) = 0)) && decide ((0 : Int) = 0)) && decide ((0 : Int) = 0)) && decide ((0 : Int) = 0))
        rw [g_100]; rfl
      · -- False
        have gp_102 := g_100
        try simp only [Bool.and_eq_true, Bool.or_eq_true, Bool.not_eq_true', Bool.and_eq_false_iff, Bool.or_eq_false_iff, Bool.not_eq_false', decide_eq_true_eq, decide_eq_false_iff_not, not_or, Bool.false_eq_true, Bool.true_eq_false, false_or, or_false, not_false_eq_true] at gp_102
        refine Wx.gnoB rfl rfl (congrArg Value.bool g_100) rfl rfl ?_
        refine Wx.gnoB rfl rfl (congrArg Value.bool g_100) rfl rfl ?_
        refine Wx.rd (v := .bool false) (rd_pickF (congrArg Value.bool g_100) rfl) rfl ?_
        refine Wx.nil ⟨(), hS, ⟨?_, trivial⟩, Out.look rfl Out.refl⟩
        show Value.bool false = Value.bool ((((((decide ((0 : Int) = 0) && decide ((0 : Int) = 0)) && decide ((0 : Int) = 0)) && decide ((0 : Int) = 0)) && decide ((0 : Int) = 0)) && decide ((0 : Int) = 0)) && decide ((0 : Int) = 0))
        rw [g_100]; rfl
    rintro ⟨⟩ u_104 w_103 hS
    refine Wx.rd (v := .bool ((((((decide ((0 : Int) = 0) && decide ((0 : Int) = 0)) && decide ((0 : Int) = 0)) && decide ((0 : Int) = 0)) && decide ((0 : Int) = 0)) && decide ((0 : Int) = 0)) && decide ((0 : Int) = 0))) (rd_move rfl) rfl ?_
    refine Wx.cut (X := Unit) 3 [122, 123, 124] (fun _ => [(124, .bool (((((((decide ((0 : Int) = 0) && decide ((0 : Int) = 0)) && decide ((0 : Int) = 0)) && decide ((0 : Int) = 0)) && decide ((0 : Int) = 0)) && decide ((0 : Int) = 0)) && decide ((0 : Int) = 0)) && decide ((1 : Int) = 1)))]) (fun _ w' => St w O w' [Ob.v (tSl (tP (tI .i64) (tI .i64))) (stepsV rP) v_22, .row (tP (tI .i64) (tI .i64)) 58 v_16 (forcedP rP), .row (tP (tI .i64) (tI .i64)) 58 v_7 (firstV rR)]) ?_ ?_
    · rcases Bool.eq_false_or_eq_true ((((((decide ((0 : Int) = 0) && decide ((0 : Int) = 0)) && decide ((0 : Int) = 0)) && decide ((0 : Int) = 0)) && decide ((0 : Int) = 0)) && decide ((0 : Int) = 0)) && decide ((0 : Int) = 0)) with g_105 | g_105
      · -- True
        have gp_106 := g_105
        try simp only [Bool.and_eq_true, Bool.or_eq_true, Bool.not_eq_true', Bool.and_eq_false_iff, Bool.or_eq_false_iff, Bool.not_eq_false', decide_eq_true_eq, decide_eq_false_iff_not, not_or, Bool.false_eq_true, Bool.true_eq_false, false_or, or_false, not_false_eq_true] at gp_106
        refine Wx.gyes rfl rfl (congrArg Value.bool g_105) ?_
        refine Wx.rd (v := .int .i64 1) (rd_move rfl) rfl ?_
        refine Wx.gyes rfl rfl (congrArg Value.bool g_105) ?_
        refine Wx.rd (v := .bool (decide ((1 : Int) = 1))) (rd_eql rfl rfl) rfl ?_
        refine Wx.rd (v := .bool (decide ((1 : Int) = 1))) (rd_pickT (congrArg Value.bool g_105) rfl) rfl ?_
        refine Wx.nil ⟨(), hS, ⟨?_, trivial⟩, Out.look rfl Out.refl⟩
        show Value.bool (decide ((1 : Int) = 1)) = Value.bool (((((((decide ((0 : Int) = 0) && decide ((0 : Int) = 0)) && decide ((0 : Int) = 0)) && decide ((0 : Int) = 0)) && decide ((0 : Int) = 0)) && decide ((0 : Int) = 0)) && decide ((0 : Int) = 0)) && decide ((1 : Int) = 1))
        rw [g_105]; rfl
      · -- False
        have gp_107 := g_105
        try simp only [Bool.and_eq_true, Bool.or_eq_true, Bool.not_eq_true', Bool.and_eq_false_iff, Bool.or_eq_false_iff, Bool.not_eq_false', decide_eq_true_eq, decide_eq_false_iff_not, not_or, Bool.false_eq_true, Bool.true_eq_false, false_or, or_false, not_false_eq_true] at gp_107
        refine Wx.gnoB rfl rfl (congrArg Value.bool g_105) rfl rfl ?_
        refine Wx.gnoB rfl rfl (congrArg Value.bool g_105) rfl rfl ?_
        refine Wx.rd (v := .bool false) (rd_pickF (congrArg Value.bool g_105) rfl) rfl ?_
        refine Wx.nil ⟨(), hS, ⟨?_, trivial⟩, Out.look rfl Out.refl⟩
        show Value.bool false = Value.bool (((((((decide ((0 : Int) = 0) && decide ((0 : Int) = 0)) && decide ((0 : Int) = 0)) && decide ((0 : Int) = 0)) && decide ((0 : Int) = 0)) && decide ((0 : Int) = 0)) && decide ((0 : Int) = 0)) && decide ((1 : Int) = 1))
        rw [g_105]; rfl
    rintro ⟨⟩ u_109 w_108 hS
    refine Wx.rd (v := .bool (((((((decide ((0 : Int) = 0) && decide ((0 : Int) = 0)) && decide ((0 : Int) = 0)) && decide ((0 : Int) = 0)) && decide ((0 : Int) = 0)) && decide ((0 : Int) = 0)) && decide ((0 : Int) = 0)) && decide ((1 : Int) = 1))) (rd_move rfl) rfl ?_
    refine Wx.cut (X := Unit) 5 [126, 127, 128, 129, 130] (fun _ => [(130, .bool ((((((((decide ((0 : Int) = 0) && decide ((0 : Int) = 0)) && decide ((0 : Int) = 0)) && decide ((0 : Int) = 0)) && decide ((0 : Int) = 0)) && decide ((0 : Int) = 0)) && decide ((0 : Int) = 0)) && decide ((1 : Int) = 1)) && true))]) (fun _ w' => St w O w' [Ob.v (tSl (tP (tI .i64) (tI .i64))) (stepsV rP) v_22, .row (tP (tI .i64) (tI .i64)) 58 v_16 (forcedP rP), .row (tP (tI .i64) (tI .i64)) 58 v_7 (firstV rR)]) ?_ ?_
    · rcases Bool.eq_false_or_eq_true (((((((decide ((0 : Int) = 0) && decide ((0 : Int) = 0)) && decide ((0 : Int) = 0)) && decide ((0 : Int) = 0)) && decide ((0 : Int) = 0)) && decide ((0 : Int) = 0)) && decide ((0 : Int) = 0)) && decide ((1 : Int) = 1)) with g_110 | g_110
      · -- True
        have gp_111 := g_110
        try simp only [Bool.and_eq_true, Bool.or_eq_true, Bool.not_eq_true', Bool.and_eq_false_iff, Bool.or_eq_false_iff, Bool.not_eq_false', decide_eq_true_eq, decide_eq_false_iff_not, not_or, Bool.false_eq_true, Bool.true_eq_false, false_or, or_false, not_false_eq_true] at gp_111
        refine Wx.gyes rfl rfl (congrArg Value.bool g_110) ?_
        refine Wx.rd (v := v_7) (rd_move rfl) rfl ?_
        refine Wx.gyes rfl rfl (congrArg Value.bool g_110) ?_
        refine Wx.lit (t := (tI .i64)) (ys := [0, 1, 2, 3]) (vs := [.int .i64 0, .int .i64 1, .int .i64 2, .int .i64 3]) elHm_60 hS rfl rfl ⟨(V.mkInt (in_i64 (by omega) (by omega))), ⟨(V.mkInt (in_i64 (by omega) (by omega))), ⟨(V.mkInt (in_i64 (by omega) (by omega))), ⟨(V.mkInt (in_i64 (by omega) (by omega))), trivial⟩⟩⟩⟩ (by decide) rfl (fun v_112 w_113 hx_114 hS => ?_)
        refine Wx.gyes rfl rfl (congrArg Value.bool g_110) ?_
        have hS := hS.freeze 0 rfl
        refine Wx.callF (run_callF Tryd.call48 rfl) (F48 (hS.v 0 rfl) (by decide) hS.fb_lt) rfl ?_
        rintro r_116 w_117 hx_118 ⟨_, rfl, hv_119⟩
        have hS := hS.pushFr hx_118 hv_119
        refine Wx.gyes rfl rfl (congrArg Value.bool g_110) ?_
        refine Wx.callF (run_callF Tryd.call29 rfl) (F29 (hS.lend 4 rfl) (hS.lend 0 rfl)) rfl ?_
        rintro r_121 w_122 hx_123 rfl
        have hS := hS.ext hx_123
        rw [show (decide ((firstV rR) = (pairsU [0, 1, 2, 3])) : Bool) = true from (by decide +kernel)]
        refine Wx.rd (v := .bool true) (rd_pickT (congrArg Value.bool g_110) rfl) rfl ?_
        refine Wx.nil ⟨(), St.tl (hS.tl), ⟨?_, trivial⟩, Out.look rfl Out.refl⟩
        show Value.bool true = Value.bool ((((((((decide ((0 : Int) = 0) && decide ((0 : Int) = 0)) && decide ((0 : Int) = 0)) && decide ((0 : Int) = 0)) && decide ((0 : Int) = 0)) && decide ((0 : Int) = 0)) && decide ((0 : Int) = 0)) && decide ((1 : Int) = 1)) && true)
        rw [g_110]; rfl
      · -- False
        have gp_124 := g_110
        try simp only [Bool.and_eq_true, Bool.or_eq_true, Bool.not_eq_true', Bool.and_eq_false_iff, Bool.or_eq_false_iff, Bool.not_eq_false', decide_eq_true_eq, decide_eq_false_iff_not, not_or, Bool.false_eq_true, Bool.true_eq_false, false_or, or_false, not_false_eq_true] at gp_124
        refine Wx.gnoB rfl rfl (congrArg Value.bool g_110) rfl rfl ?_
        refine Wx.gnoB rfl rfl (congrArg Value.bool g_110) rfl rfl ?_
        refine Wx.gnoB rfl rfl (congrArg Value.bool g_110) rfl rfl ?_
        refine Wx.gnoB rfl rfl (congrArg Value.bool g_110) rfl rfl ?_
        refine Wx.rd (v := .bool false) (rd_pickF (congrArg Value.bool g_110) rfl) rfl ?_
        refine Wx.nil ⟨(), hS, ⟨?_, trivial⟩, Out.look rfl Out.refl⟩
        show Value.bool false = Value.bool ((((((((decide ((0 : Int) = 0) && decide ((0 : Int) = 0)) && decide ((0 : Int) = 0)) && decide ((0 : Int) = 0)) && decide ((0 : Int) = 0)) && decide ((0 : Int) = 0)) && decide ((0 : Int) = 0)) && decide ((1 : Int) = 1)) && true)
        rw [g_110]; rfl
    rintro ⟨⟩ u_126 w_125 hS
    refine Wx.rd (v := .bool ((((((((decide ((0 : Int) = 0) && decide ((0 : Int) = 0)) && decide ((0 : Int) = 0)) && decide ((0 : Int) = 0)) && decide ((0 : Int) = 0)) && decide ((0 : Int) = 0)) && decide ((0 : Int) = 0)) && decide ((1 : Int) = 1)) && true)) (rd_move rfl) rfl ?_
    refine Wx.cut (X := Unit) 3 [132, 133, 134] (fun _ => [(134, .bool (((((((((decide ((0 : Int) = 0) && decide ((0 : Int) = 0)) && decide ((0 : Int) = 0)) && decide ((0 : Int) = 0)) && decide ((0 : Int) = 0)) && decide ((0 : Int) = 0)) && decide ((0 : Int) = 0)) && decide ((1 : Int) = 1)) && true) && decide ((2 : Int) = 2)))]) (fun _ w' => St w O w' [Ob.v (tSl (tP (tI .i64) (tI .i64))) (stepsV rP) v_22, .row (tP (tI .i64) (tI .i64)) 58 v_16 (forcedP rP), .row (tP (tI .i64) (tI .i64)) 58 v_7 (firstV rR)]) ?_ ?_
    · rcases Bool.eq_false_or_eq_true ((((((((decide ((0 : Int) = 0) && decide ((0 : Int) = 0)) && decide ((0 : Int) = 0)) && decide ((0 : Int) = 0)) && decide ((0 : Int) = 0)) && decide ((0 : Int) = 0)) && decide ((0 : Int) = 0)) && decide ((1 : Int) = 1)) && true) with g_127 | g_127
      · -- True
        have gp_128 := g_127
        try simp only [Bool.and_eq_true, Bool.or_eq_true, Bool.not_eq_true', Bool.and_eq_false_iff, Bool.or_eq_false_iff, Bool.not_eq_false', decide_eq_true_eq, decide_eq_false_iff_not, not_or, Bool.false_eq_true, Bool.true_eq_false, false_or, or_false, not_false_eq_true] at gp_128
        refine Wx.gyes rfl rfl (congrArg Value.bool g_127) ?_
        refine Wx.rd (v := .int .i64 2) (rd_move rfl) rfl ?_
        refine Wx.gyes rfl rfl (congrArg Value.bool g_127) ?_
        refine Wx.rd (v := .bool (decide ((2 : Int) = 2))) (rd_eql rfl rfl) rfl ?_
        refine Wx.rd (v := .bool (decide ((2 : Int) = 2))) (rd_pickT (congrArg Value.bool g_127) rfl) rfl ?_
        refine Wx.nil ⟨(), hS, ⟨?_, trivial⟩, Out.look rfl Out.refl⟩
        show Value.bool (decide ((2 : Int) = 2)) = Value.bool (((((((((decide ((0 : Int) = 0) && decide ((0 : Int) = 0)) && decide ((0 : Int) = 0)) && decide ((0 : Int) = 0)) && decide ((0 : Int) = 0)) && decide ((0 : Int) = 0)) && decide ((0 : Int) = 0)) && decide ((1 : Int) = 1)) && true) && decide ((2 : Int) = 2))
        rw [g_127]; rfl
      · -- False
        have gp_129 := g_127
        try simp only [Bool.and_eq_true, Bool.or_eq_true, Bool.not_eq_true', Bool.and_eq_false_iff, Bool.or_eq_false_iff, Bool.not_eq_false', decide_eq_true_eq, decide_eq_false_iff_not, not_or, Bool.false_eq_true, Bool.true_eq_false, false_or, or_false, not_false_eq_true] at gp_129
        refine Wx.gnoB rfl rfl (congrArg Value.bool g_127) rfl rfl ?_
        refine Wx.gnoB rfl rfl (congrArg Value.bool g_127) rfl rfl ?_
        refine Wx.rd (v := .bool false) (rd_pickF (congrArg Value.bool g_127) rfl) rfl ?_
        refine Wx.nil ⟨(), hS, ⟨?_, trivial⟩, Out.look rfl Out.refl⟩
        show Value.bool false = Value.bool (((((((((decide ((0 : Int) = 0) && decide ((0 : Int) = 0)) && decide ((0 : Int) = 0)) && decide ((0 : Int) = 0)) && decide ((0 : Int) = 0)) && decide ((0 : Int) = 0)) && decide ((0 : Int) = 0)) && decide ((1 : Int) = 1)) && true) && decide ((2 : Int) = 2))
        rw [g_127]; rfl
    rintro ⟨⟩ u_131 w_130 hS
    refine Wx.rd (v := .bool (((((((((decide ((0 : Int) = 0) && decide ((0 : Int) = 0)) && decide ((0 : Int) = 0)) && decide ((0 : Int) = 0)) && decide ((0 : Int) = 0)) && decide ((0 : Int) = 0)) && decide ((0 : Int) = 0)) && decide ((1 : Int) = 1)) && true) && decide ((2 : Int) = 2))) (rd_move rfl) rfl ?_
    refine Wx.cut (X := Unit) 5 [136, 137, 138, 139, 140] (fun _ => [(140, .bool ((((((((((decide ((0 : Int) = 0) && decide ((0 : Int) = 0)) && decide ((0 : Int) = 0)) && decide ((0 : Int) = 0)) && decide ((0 : Int) = 0)) && decide ((0 : Int) = 0)) && decide ((0 : Int) = 0)) && decide ((1 : Int) = 1)) && true) && decide ((2 : Int) = 2)) && true))]) (fun _ w' => St w O w' [Ob.v (tSl (tP (tI .i64) (tI .i64))) (stepsV rP) v_22, .row (tP (tI .i64) (tI .i64)) 58 v_16 (forcedP rP), .row (tP (tI .i64) (tI .i64)) 58 v_7 (firstV rR)]) ?_ ?_
    · rcases Bool.eq_false_or_eq_true (((((((((decide ((0 : Int) = 0) && decide ((0 : Int) = 0)) && decide ((0 : Int) = 0)) && decide ((0 : Int) = 0)) && decide ((0 : Int) = 0)) && decide ((0 : Int) = 0)) && decide ((0 : Int) = 0)) && decide ((1 : Int) = 1)) && true) && decide ((2 : Int) = 2)) with g_132 | g_132
      · -- True
        have gp_133 := g_132
        try simp only [Bool.and_eq_true, Bool.or_eq_true, Bool.not_eq_true', Bool.and_eq_false_iff, Bool.or_eq_false_iff, Bool.not_eq_false', decide_eq_true_eq, decide_eq_false_iff_not, not_or, Bool.false_eq_true, Bool.true_eq_false, false_or, or_false, not_false_eq_true] at gp_133
        refine Wx.gyes rfl rfl (congrArg Value.bool g_132) ?_
        refine Wx.rd (v := v_16) (rd_move rfl) rfl ?_
        refine Wx.gyes rfl rfl (congrArg Value.bool g_132) ?_
        refine Wx.lit (t := (tI .i64)) (ys := [0, 3, 1, 2]) (vs := [.int .i64 0, .int .i64 3, .int .i64 1, .int .i64 2]) elHm_60 hS rfl rfl ⟨(V.mkInt (in_i64 (by omega) (by omega))), ⟨(V.mkInt (in_i64 (by omega) (by omega))), ⟨(V.mkInt (in_i64 (by omega) (by omega))), ⟨(V.mkInt (in_i64 (by omega) (by omega))), trivial⟩⟩⟩⟩ (by decide) rfl (fun v_134 w_135 hx_136 hS => ?_)
        refine Wx.gyes rfl rfl (congrArg Value.bool g_132) ?_
        have hS := hS.freeze 0 rfl
        refine Wx.callF (run_callF Tryd.call48 rfl) (F48 (hS.v 0 rfl) (by decide) hS.fb_lt) rfl ?_
        rintro r_138 w_139 hx_140 ⟨_, rfl, hv_141⟩
        have hS := hS.pushFr hx_140 hv_141
        refine Wx.gyes rfl rfl (congrArg Value.bool g_132) ?_
        refine Wx.callF (run_callF Tryd.call29 rfl) (F29 (hS.lend 3 rfl) (hS.lend 0 rfl)) rfl ?_
        rintro r_143 w_144 hx_145 rfl
        have hS := hS.ext hx_145
        rw [show (decide ((forcedP rP) = (pairsU [0, 3, 1, 2])) : Bool) = true from (by decide +kernel)]
        refine Wx.rd (v := .bool true) (rd_pickT (congrArg Value.bool g_132) rfl) rfl ?_
        refine Wx.nil ⟨(), St.tl (hS.tl), ⟨?_, trivial⟩, Out.look rfl Out.refl⟩
        show Value.bool true = Value.bool ((((((((((decide ((0 : Int) = 0) && decide ((0 : Int) = 0)) && decide ((0 : Int) = 0)) && decide ((0 : Int) = 0)) && decide ((0 : Int) = 0)) && decide ((0 : Int) = 0)) && decide ((0 : Int) = 0)) && decide ((1 : Int) = 1)) && true) && decide ((2 : Int) = 2)) && true)
        rw [g_132]; rfl
      · -- False
        have gp_146 := g_132
        try simp only [Bool.and_eq_true, Bool.or_eq_true, Bool.not_eq_true', Bool.and_eq_false_iff, Bool.or_eq_false_iff, Bool.not_eq_false', decide_eq_true_eq, decide_eq_false_iff_not, not_or, Bool.false_eq_true, Bool.true_eq_false, false_or, or_false, not_false_eq_true] at gp_146
        refine Wx.gnoB rfl rfl (congrArg Value.bool g_132) rfl rfl ?_
        refine Wx.gnoB rfl rfl (congrArg Value.bool g_132) rfl rfl ?_
        refine Wx.gnoB rfl rfl (congrArg Value.bool g_132) rfl rfl ?_
        refine Wx.gnoB rfl rfl (congrArg Value.bool g_132) rfl rfl ?_
        refine Wx.rd (v := .bool false) (rd_pickF (congrArg Value.bool g_132) rfl) rfl ?_
        refine Wx.nil ⟨(), hS, ⟨?_, trivial⟩, Out.look rfl Out.refl⟩
        show Value.bool false = Value.bool ((((((((((decide ((0 : Int) = 0) && decide ((0 : Int) = 0)) && decide ((0 : Int) = 0)) && decide ((0 : Int) = 0)) && decide ((0 : Int) = 0)) && decide ((0 : Int) = 0)) && decide ((0 : Int) = 0)) && decide ((1 : Int) = 1)) && true) && decide ((2 : Int) = 2)) && true)
        rw [g_132]; rfl
    rintro ⟨⟩ u_148 w_147 hS
    refine Wx.rd (v := .bool ((((((((((decide ((0 : Int) = 0) && decide ((0 : Int) = 0)) && decide ((0 : Int) = 0)) && decide ((0 : Int) = 0)) && decide ((0 : Int) = 0)) && decide ((0 : Int) = 0)) && decide ((0 : Int) = 0)) && decide ((1 : Int) = 1)) && true) && decide ((2 : Int) = 2)) && true)) (rd_move rfl) rfl ?_
    refine Wx.cut (X := Unit) 5 [142, 143, 144, 145, 146] (fun _ => [(146, .bool (((((((((((decide ((0 : Int) = 0) && decide ((0 : Int) = 0)) && decide ((0 : Int) = 0)) && decide ((0 : Int) = 0)) && decide ((0 : Int) = 0)) && decide ((0 : Int) = 0)) && decide ((0 : Int) = 0)) && decide ((1 : Int) = 1)) && true) && decide ((2 : Int) = 2)) && true) && true))]) (fun _ w' => St w O w' [Ob.v (tSl (tP (tI .i64) (tI .i64))) (stepsV rP) v_22, .row (tP (tI .i64) (tI .i64)) 58 v_16 (forcedP rP), .row (tP (tI .i64) (tI .i64)) 58 v_7 (firstV rR)]) ?_ ?_
    · rcases Bool.eq_false_or_eq_true ((((((((((decide ((0 : Int) = 0) && decide ((0 : Int) = 0)) && decide ((0 : Int) = 0)) && decide ((0 : Int) = 0)) && decide ((0 : Int) = 0)) && decide ((0 : Int) = 0)) && decide ((0 : Int) = 0)) && decide ((1 : Int) = 1)) && true) && decide ((2 : Int) = 2)) && true) with g_149 | g_149
      · -- True
        have gp_150 := g_149
        try simp only [Bool.and_eq_true, Bool.or_eq_true, Bool.not_eq_true', Bool.and_eq_false_iff, Bool.or_eq_false_iff, Bool.not_eq_false', decide_eq_true_eq, decide_eq_false_iff_not, not_or, Bool.false_eq_true, Bool.true_eq_false, false_or, or_false, not_false_eq_true] at gp_150
        refine Wx.gyes rfl rfl (congrArg Value.bool g_149) ?_
        refine Wx.rd (v := v_22) (rd_move rfl) rfl ?_
        refine Wx.gyes rfl rfl (congrArg Value.bool g_149) ?_
        refine Wx.lit (t := (tI .i64)) (ys := [1, 2, 0, 3]) (vs := [.int .i64 1, .int .i64 2, .int .i64 0, .int .i64 3]) elHm_60 hS rfl rfl ⟨(V.mkInt (in_i64 (by omega) (by omega))), ⟨(V.mkInt (in_i64 (by omega) (by omega))), ⟨(V.mkInt (in_i64 (by omega) (by omega))), ⟨(V.mkInt (in_i64 (by omega) (by omega))), trivial⟩⟩⟩⟩ (by decide) rfl (fun v_151 w_152 hx_153 hS => ?_)
        refine Wx.gyes rfl rfl (congrArg Value.bool g_149) ?_
        have hS := hS.freeze 0 rfl
        refine Wx.callF (run_callF Tryd.call48 rfl) (F48 (hS.v 0 rfl) (by decide) hS.fb_lt) rfl ?_
        rintro r_155 w_156 hx_157 ⟨_, rfl, hv_158⟩
        have hS := hS.pushFr hx_157 hv_158
        refine Wx.gyes rfl rfl (congrArg Value.bool g_149) ?_
        refine Wx.callF (run_callF Tryd.call29 rfl) (F29 (hS.v 2 rfl) (hS.lend 0 rfl)) rfl ?_
        rintro r_160 w_161 hx_162 rfl
        have hS := hS.ext hx_162
        rw [show (decide ((stepsV rP) = (pairsU [1, 2, 0, 3])) : Bool) = true from (by decide +kernel)]
        refine Wx.rd (v := .bool true) (rd_pickT (congrArg Value.bool g_149) rfl) rfl ?_
        refine Wx.nil ⟨(), St.tl (hS.tl), ⟨?_, trivial⟩, Out.look rfl Out.refl⟩
        show Value.bool true = Value.bool (((((((((((decide ((0 : Int) = 0) && decide ((0 : Int) = 0)) && decide ((0 : Int) = 0)) && decide ((0 : Int) = 0)) && decide ((0 : Int) = 0)) && decide ((0 : Int) = 0)) && decide ((0 : Int) = 0)) && decide ((1 : Int) = 1)) && true) && decide ((2 : Int) = 2)) && true) && true)
        rw [g_149]; rfl
      · -- False
        have gp_163 := g_149
        try simp only [Bool.and_eq_true, Bool.or_eq_true, Bool.not_eq_true', Bool.and_eq_false_iff, Bool.or_eq_false_iff, Bool.not_eq_false', decide_eq_true_eq, decide_eq_false_iff_not, not_or, Bool.false_eq_true, Bool.true_eq_false, false_or, or_false, not_false_eq_true] at gp_163
        refine Wx.gnoB rfl rfl (congrArg Value.bool g_149) rfl rfl ?_
        refine Wx.gnoB rfl rfl (congrArg Value.bool g_149) rfl rfl ?_
        refine Wx.gnoB rfl rfl (congrArg Value.bool g_149) rfl rfl ?_
        refine Wx.gnoB rfl rfl (congrArg Value.bool g_149) rfl rfl ?_
        refine Wx.rd (v := .bool false) (rd_pickF (congrArg Value.bool g_149) rfl) rfl ?_
        refine Wx.nil ⟨(), hS, ⟨?_, trivial⟩, Out.look rfl Out.refl⟩
        show Value.bool false = Value.bool (((((((((((decide ((0 : Int) = 0) && decide ((0 : Int) = 0)) && decide ((0 : Int) = 0)) && decide ((0 : Int) = 0)) && decide ((0 : Int) = 0)) && decide ((0 : Int) = 0)) && decide ((0 : Int) = 0)) && decide ((1 : Int) = 1)) && true) && decide ((2 : Int) = 2)) && true) && true)
        rw [g_149]; rfl
    rintro ⟨⟩ u_165 w_164 hS
    refine Wx.rd (v := .bool (((((((((((decide ((0 : Int) = 0) && decide ((0 : Int) = 0)) && decide ((0 : Int) = 0)) && decide ((0 : Int) = 0)) && decide ((0 : Int) = 0)) && decide ((0 : Int) = 0)) && decide ((0 : Int) = 0)) && decide ((1 : Int) = 1)) && true) && decide ((2 : Int) = 2)) && true) && true)) (rd_move rfl) rfl ?_
    refine Wx.cut (X := Unit) 3 [148, 149, 150] (fun _ => [(150, .bool ((((((((((((decide ((0 : Int) = 0) && decide ((0 : Int) = 0)) && decide ((0 : Int) = 0)) && decide ((0 : Int) = 0)) && decide ((0 : Int) = 0)) && decide ((0 : Int) = 0)) && decide ((0 : Int) = 0)) && decide ((1 : Int) = 1)) && true) && decide ((2 : Int) = 2)) && true) && true) && true))]) (fun _ w' => St w O w' [Ob.v (tSl (tP (tI .i64) (tI .i64))) (stepsV rP) v_22, .row (tP (tI .i64) (tI .i64)) 58 v_16 (forcedP rP), .row (tP (tI .i64) (tI .i64)) 58 v_7 (firstV rR)]) ?_ ?_
    · rcases Bool.eq_false_or_eq_true (((((((((((decide ((0 : Int) = 0) && decide ((0 : Int) = 0)) && decide ((0 : Int) = 0)) && decide ((0 : Int) = 0)) && decide ((0 : Int) = 0)) && decide ((0 : Int) = 0)) && decide ((0 : Int) = 0)) && decide ((1 : Int) = 1)) && true) && decide ((2 : Int) = 2)) && true) && true) with g_166 | g_166
      · -- True
        have gp_167 := g_166
        try simp only [Bool.and_eq_true, Bool.or_eq_true, Bool.not_eq_true', Bool.and_eq_false_iff, Bool.or_eq_false_iff, Bool.not_eq_false', decide_eq_true_eq, decide_eq_false_iff_not, not_or, Bool.false_eq_true, Bool.true_eq_false, false_or, or_false, not_false_eq_true] at gp_167
        refine Wx.gyes rfl rfl (congrArg Value.bool g_166) ?_
        refine Wx.rd (v := .string (restE rQ)) (rd_move rfl) rfl ?_
        refine Wx.gyes rfl rfl (congrArg Value.bool g_166) ?_
        refine Wx.rd (v := .bool true) (Rd.to (v := .bool ((restE rQ) == rQ)) (rd_eqlS rfl rfl) (congrArg (Value.bool) (show (true : Bool) = ((restE rQ) == rQ : Bool) from (by decide +kernel)).symm)) rfl ?_
        refine Wx.rd (v := .bool true) (rd_pickT (congrArg Value.bool g_166) rfl) rfl ?_
        refine Wx.nil ⟨(), hS, ⟨?_, trivial⟩, Out.look rfl Out.refl⟩
        show Value.bool true = Value.bool ((((((((((((decide ((0 : Int) = 0) && decide ((0 : Int) = 0)) && decide ((0 : Int) = 0)) && decide ((0 : Int) = 0)) && decide ((0 : Int) = 0)) && decide ((0 : Int) = 0)) && decide ((0 : Int) = 0)) && decide ((1 : Int) = 1)) && true) && decide ((2 : Int) = 2)) && true) && true) && true)
        rw [g_166]; rfl
      · -- False
        have gp_168 := g_166
        try simp only [Bool.and_eq_true, Bool.or_eq_true, Bool.not_eq_true', Bool.and_eq_false_iff, Bool.or_eq_false_iff, Bool.not_eq_false', decide_eq_true_eq, decide_eq_false_iff_not, not_or, Bool.false_eq_true, Bool.true_eq_false, false_or, or_false, not_false_eq_true] at gp_168
        refine Wx.gnoB rfl rfl (congrArg Value.bool g_166) rfl rfl ?_
        refine Wx.gnoB rfl rfl (congrArg Value.bool g_166) rfl rfl ?_
        refine Wx.rd (v := .bool false) (rd_pickF (congrArg Value.bool g_166) rfl) rfl ?_
        refine Wx.nil ⟨(), hS, ⟨?_, trivial⟩, Out.look rfl Out.refl⟩
        show Value.bool false = Value.bool ((((((((((((decide ((0 : Int) = 0) && decide ((0 : Int) = 0)) && decide ((0 : Int) = 0)) && decide ((0 : Int) = 0)) && decide ((0 : Int) = 0)) && decide ((0 : Int) = 0)) && decide ((0 : Int) = 0)) && decide ((1 : Int) = 1)) && true) && decide ((2 : Int) = 2)) && true) && true) && true)
        rw [g_166]; rfl
    rintro ⟨⟩ u_170 w_169 hS
    refine Wx.rd (v := .bool ((((((((((((decide ((0 : Int) = 0) && decide ((0 : Int) = 0)) && decide ((0 : Int) = 0)) && decide ((0 : Int) = 0)) && decide ((0 : Int) = 0)) && decide ((0 : Int) = 0)) && decide ((0 : Int) = 0)) && decide ((1 : Int) = 1)) && true) && decide ((2 : Int) = 2)) && true) && true) && true)) (rd_move rfl) rfl ?_
    refine Wx.cut (X := Unit) 2 [152, 153] (fun _ => [(153, .bool (((((((((((((decide ((0 : Int) = 0) && decide ((0 : Int) = 0)) && decide ((0 : Int) = 0)) && decide ((0 : Int) = 0)) && decide ((0 : Int) = 0)) && decide ((0 : Int) = 0)) && decide ((0 : Int) = 0)) && decide ((1 : Int) = 1)) && true) && decide ((2 : Int) = 2)) && true) && true) && true) && true))]) (fun _ w' => St w O w' [Ob.v (tSl (tP (tI .i64) (tI .i64))) (stepsV rP) v_22, .row (tP (tI .i64) (tI .i64)) 58 v_16 (forcedP rP), .row (tP (tI .i64) (tI .i64)) 58 v_7 (firstV rR)]) ?_ ?_
    · rcases Bool.eq_false_or_eq_true ((((((((((((decide ((0 : Int) = 0) && decide ((0 : Int) = 0)) && decide ((0 : Int) = 0)) && decide ((0 : Int) = 0)) && decide ((0 : Int) = 0)) && decide ((0 : Int) = 0)) && decide ((0 : Int) = 0)) && decide ((1 : Int) = 1)) && true) && decide ((2 : Int) = 2)) && true) && true) && true) with g_171 | g_171
      · -- True
        have gp_172 := g_171
        try simp only [Bool.and_eq_true, Bool.or_eq_true, Bool.not_eq_true', Bool.and_eq_false_iff, Bool.or_eq_false_iff, Bool.not_eq_false', decide_eq_true_eq, decide_eq_false_iff_not, not_or, Bool.false_eq_true, Bool.true_eq_false, false_or, or_false, not_false_eq_true] at gp_172
        refine Wx.gyes rfl rfl (congrArg Value.bool g_171) ?_
        refine Wx.rd (v := .bool true) (rd_move rfl) rfl ?_
        refine Wx.rd (v := .bool true) (rd_pickT (congrArg Value.bool g_171) rfl) rfl ?_
        refine Wx.nil ⟨(), hS, ⟨?_, trivial⟩, Out.look rfl Out.refl⟩
        show Value.bool true = Value.bool (((((((((((((decide ((0 : Int) = 0) && decide ((0 : Int) = 0)) && decide ((0 : Int) = 0)) && decide ((0 : Int) = 0)) && decide ((0 : Int) = 0)) && decide ((0 : Int) = 0)) && decide ((0 : Int) = 0)) && decide ((1 : Int) = 1)) && true) && decide ((2 : Int) = 2)) && true) && true) && true) && true)
        rw [g_171]; rfl
      · -- False
        have gp_173 := g_171
        try simp only [Bool.and_eq_true, Bool.or_eq_true, Bool.not_eq_true', Bool.and_eq_false_iff, Bool.or_eq_false_iff, Bool.not_eq_false', decide_eq_true_eq, decide_eq_false_iff_not, not_or, Bool.false_eq_true, Bool.true_eq_false, false_or, or_false, not_false_eq_true] at gp_173
        refine Wx.gnoB rfl rfl (congrArg Value.bool g_171) rfl rfl ?_
        refine Wx.rd (v := .bool false) (rd_pickF (congrArg Value.bool g_171) rfl) rfl ?_
        refine Wx.nil ⟨(), hS, ⟨?_, trivial⟩, Out.look rfl Out.refl⟩
        show Value.bool false = Value.bool (((((((((((((decide ((0 : Int) = 0) && decide ((0 : Int) = 0)) && decide ((0 : Int) = 0)) && decide ((0 : Int) = 0)) && decide ((0 : Int) = 0)) && decide ((0 : Int) = 0)) && decide ((0 : Int) = 0)) && decide ((1 : Int) = 1)) && true) && decide ((2 : Int) = 2)) && true) && true) && true) && true)
        rw [g_171]; rfl
    rintro ⟨⟩ u_175 w_174 hS
    refine Wx.rd (v := .bool (((((((((((((decide ((0 : Int) = 0) && decide ((0 : Int) = 0)) && decide ((0 : Int) = 0)) && decide ((0 : Int) = 0)) && decide ((0 : Int) = 0)) && decide ((0 : Int) = 0)) && decide ((0 : Int) = 0)) && decide ((1 : Int) = 1)) && true) && decide ((2 : Int) = 2)) && true) && true) && true) && true)) (rd_move rfl) rfl ?_
    refine Wx.cut (X := Unit) 3 [155, 156, 157] (fun _ => [(157, .bool ((((((((((((((decide ((0 : Int) = 0) && decide ((0 : Int) = 0)) && decide ((0 : Int) = 0)) && decide ((0 : Int) = 0)) && decide ((0 : Int) = 0)) && decide ((0 : Int) = 0)) && decide ((0 : Int) = 0)) && decide ((1 : Int) = 1)) && true) && decide ((2 : Int) = 2)) && true) && true) && true) && true) && !false))]) (fun _ w' => St w O w' [Ob.v (tSl (tP (tI .i64) (tI .i64))) (stepsV rP) v_22, .row (tP (tI .i64) (tI .i64)) 58 v_16 (forcedP rP), .row (tP (tI .i64) (tI .i64)) 58 v_7 (firstV rR)]) ?_ ?_
    · rcases Bool.eq_false_or_eq_true (((((((((((((decide ((0 : Int) = 0) && decide ((0 : Int) = 0)) && decide ((0 : Int) = 0)) && decide ((0 : Int) = 0)) && decide ((0 : Int) = 0)) && decide ((0 : Int) = 0)) && decide ((0 : Int) = 0)) && decide ((1 : Int) = 1)) && true) && decide ((2 : Int) = 2)) && true) && true) && true) && true) with g_176 | g_176
      · -- True
        have gp_177 := g_176
        try simp only [Bool.and_eq_true, Bool.or_eq_true, Bool.not_eq_true', Bool.and_eq_false_iff, Bool.or_eq_false_iff, Bool.not_eq_false', decide_eq_true_eq, decide_eq_false_iff_not, not_or, Bool.false_eq_true, Bool.true_eq_false, false_or, or_false, not_false_eq_true] at gp_177
        refine Wx.gyes rfl rfl (congrArg Value.bool g_176) ?_
        refine Wx.rd (v := .bool false) (rd_move rfl) rfl ?_
        refine Wx.gyes rfl rfl (congrArg Value.bool g_176) ?_
        refine Wx.rd (v := .bool (!false)) (rd_not rfl) rfl ?_
        refine Wx.rd (v := .bool (!false)) (rd_pickT (congrArg Value.bool g_176) rfl) rfl ?_
        refine Wx.nil ⟨(), hS, ⟨?_, trivial⟩, Out.look rfl Out.refl⟩
        show Value.bool (!false) = Value.bool ((((((((((((((decide ((0 : Int) = 0) && decide ((0 : Int) = 0)) && decide ((0 : Int) = 0)) && decide ((0 : Int) = 0)) && decide ((0 : Int) = 0)) && decide ((0 : Int) = 0)) && decide ((0 : Int) = 0)) && decide ((1 : Int) = 1)) && true) && decide ((2 : Int) = 2)) && true) && true) && true) && true) && !false)
        rw [g_176]; rfl
      · -- False
        have gp_178 := g_176
        try simp only [Bool.and_eq_true, Bool.or_eq_true, Bool.not_eq_true', Bool.and_eq_false_iff, Bool.or_eq_false_iff, Bool.not_eq_false', decide_eq_true_eq, decide_eq_false_iff_not, not_or, Bool.false_eq_true, Bool.true_eq_false, false_or, or_false, not_false_eq_true] at gp_178
        refine Wx.gnoB rfl rfl (congrArg Value.bool g_176) rfl rfl ?_
        refine Wx.gnoB rfl rfl (congrArg Value.bool g_176) rfl rfl ?_
        refine Wx.rd (v := .bool false) (rd_pickF (congrArg Value.bool g_176) rfl) rfl ?_
        refine Wx.nil ⟨(), hS, ⟨?_, trivial⟩, Out.look rfl Out.refl⟩
        show Value.bool false = Value.bool ((((((((((((((decide ((0 : Int) = 0) && decide ((0 : Int) = 0)) && decide ((0 : Int) = 0)) && decide ((0 : Int) = 0)) && decide ((0 : Int) = 0)) && decide ((0 : Int) = 0)) && decide ((0 : Int) = 0)) && decide ((1 : Int) = 1)) && true) && decide ((2 : Int) = 2)) && true) && true) && true) && true) && !false)
        rw [g_176]; rfl
    rintro ⟨⟩ u_180 w_179 hS
    refine Wx.rd (v := .bool ((((((((((((((decide ((0 : Int) = 0) && decide ((0 : Int) = 0)) && decide ((0 : Int) = 0)) && decide ((0 : Int) = 0)) && decide ((0 : Int) = 0)) && decide ((0 : Int) = 0)) && decide ((0 : Int) = 0)) && decide ((1 : Int) = 1)) && true) && decide ((2 : Int) = 2)) && true) && true) && true) && true) && !false)) (rd_move rfl) rfl ?_
    refine Wx.cut (X := Unit) 3 [159, 160, 161] (fun _ => [(161, .bool (((((((((((((((decide ((0 : Int) = 0) && decide ((0 : Int) = 0)) && decide ((0 : Int) = 0)) && decide ((0 : Int) = 0)) && decide ((0 : Int) = 0)) && decide ((0 : Int) = 0)) && decide ((0 : Int) = 0)) && decide ((1 : Int) = 1)) && true) && decide ((2 : Int) = 2)) && true) && true) && true) && true) && !false) && true))]) (fun _ w' => St w O w' [Ob.v (tSl (tP (tI .i64) (tI .i64))) (stepsV rP) v_22, .row (tP (tI .i64) (tI .i64)) 58 v_16 (forcedP rP), .row (tP (tI .i64) (tI .i64)) 58 v_7 (firstV rR)]) ?_ ?_
    · rcases Bool.eq_false_or_eq_true ((((((((((((((decide ((0 : Int) = 0) && decide ((0 : Int) = 0)) && decide ((0 : Int) = 0)) && decide ((0 : Int) = 0)) && decide ((0 : Int) = 0)) && decide ((0 : Int) = 0)) && decide ((0 : Int) = 0)) && decide ((1 : Int) = 1)) && true) && decide ((2 : Int) = 2)) && true) && true) && true) && true) && !false) with g_181 | g_181
      · -- True
        have gp_182 := g_181
        try simp only [Bool.and_eq_true, Bool.or_eq_true, Bool.not_eq_true', Bool.and_eq_false_iff, Bool.or_eq_false_iff, Bool.not_eq_false', decide_eq_true_eq, decide_eq_false_iff_not, not_or, Bool.false_eq_true, Bool.true_eq_false, false_or, or_false, not_false_eq_true] at gp_182
        refine Wx.gyes rfl rfl (congrArg Value.bool g_181) ?_
        refine Wx.rd (v := .string (coreV r1)) (rd_move rfl) rfl ?_
        refine Wx.gyes rfl rfl (congrArg Value.bool g_181) ?_
        refine Wx.rd (v := .bool true) (Rd.to (v := .bool ((coreV r1) == ({ data := #[99] } : ByteArray))) (rd_eqlS rfl rfl) (congrArg (Value.bool) (show (true : Bool) = ((coreV r1) == ({ data := #[99] } : ByteArray) : Bool) from (by decide +kernel)).symm)) rfl ?_
        refine Wx.rd (v := .bool true) (rd_pickT (congrArg Value.bool g_181) rfl) rfl ?_
        refine Wx.nil ⟨(), hS, ⟨?_, trivial⟩, Out.look rfl Out.refl⟩
        show Value.bool true = Value.bool (((((((((((((((decide ((0 : Int) = 0) && decide ((0 : Int) = 0)) && decide ((0 : Int) = 0)) && decide ((0 : Int) = 0)) && decide ((0 : Int) = 0)) && decide ((0 : Int) = 0)) && decide ((0 : Int) = 0)) && decide ((1 : Int) = 1)) && true) && decide ((2 : Int) = 2)) && true) && true) && true) && true) && !false) && true)
        rw [g_181]; rfl
      · -- False
        have gp_183 := g_181
        try simp only [Bool.and_eq_true, Bool.or_eq_true, Bool.not_eq_true', Bool.and_eq_false_iff, Bool.or_eq_false_iff, Bool.not_eq_false', decide_eq_true_eq, decide_eq_false_iff_not, not_or, Bool.false_eq_true, Bool.true_eq_false, false_or, or_false, not_false_eq_true] at gp_183
        refine Wx.gnoB rfl rfl (congrArg Value.bool g_181) rfl rfl ?_
        refine Wx.gnoB rfl rfl (congrArg Value.bool g_181) rfl rfl ?_
        refine Wx.rd (v := .bool false) (rd_pickF (congrArg Value.bool g_181) rfl) rfl ?_
        refine Wx.nil ⟨(), hS, ⟨?_, trivial⟩, Out.look rfl Out.refl⟩
        show Value.bool false = Value.bool (((((((((((((((decide ((0 : Int) = 0) && decide ((0 : Int) = 0)) && decide ((0 : Int) = 0)) && decide ((0 : Int) = 0)) && decide ((0 : Int) = 0)) && decide ((0 : Int) = 0)) && decide ((0 : Int) = 0)) && decide ((1 : Int) = 1)) && true) && decide ((2 : Int) = 2)) && true) && true) && true) && true) && !false) && true)
        rw [g_181]; rfl
    rintro ⟨⟩ u_185 w_184 hS
    refine Wx.rd (v := .bool (((((((((((((((decide ((0 : Int) = 0) && decide ((0 : Int) = 0)) && decide ((0 : Int) = 0)) && decide ((0 : Int) = 0)) && decide ((0 : Int) = 0)) && decide ((0 : Int) = 0)) && decide ((0 : Int) = 0)) && decide ((1 : Int) = 1)) && true) && decide ((2 : Int) = 2)) && true) && true) && true) && true) && !false) && true)) (rd_move rfl) rfl ?_
    refine Wx.cut (X := Unit) 3 [163, 164, 165] (fun _ => [(165, .bool ((((((((((((((((decide ((0 : Int) = 0) && decide ((0 : Int) = 0)) && decide ((0 : Int) = 0)) && decide ((0 : Int) = 0)) && decide ((0 : Int) = 0)) && decide ((0 : Int) = 0)) && decide ((0 : Int) = 0)) && decide ((1 : Int) = 1)) && true) && decide ((2 : Int) = 2)) && true) && true) && true) && true) && !false) && true) && true))]) (fun _ w' => St w O w' [Ob.v (tSl (tP (tI .i64) (tI .i64))) (stepsV rP) v_22, .row (tP (tI .i64) (tI .i64)) 58 v_16 (forcedP rP), .row (tP (tI .i64) (tI .i64)) 58 v_7 (firstV rR)]) ?_ ?_
    · rcases Bool.eq_false_or_eq_true (((((((((((((((decide ((0 : Int) = 0) && decide ((0 : Int) = 0)) && decide ((0 : Int) = 0)) && decide ((0 : Int) = 0)) && decide ((0 : Int) = 0)) && decide ((0 : Int) = 0)) && decide ((0 : Int) = 0)) && decide ((1 : Int) = 1)) && true) && decide ((2 : Int) = 2)) && true) && true) && true) && true) && !false) && true) with g_186 | g_186
      · -- True
        have gp_187 := g_186
        try simp only [Bool.and_eq_true, Bool.or_eq_true, Bool.not_eq_true', Bool.and_eq_false_iff, Bool.or_eq_false_iff, Bool.not_eq_false', decide_eq_true_eq, decide_eq_false_iff_not, not_or, Bool.false_eq_true, Bool.true_eq_false, false_or, or_false, not_false_eq_true] at gp_187
        refine Wx.gyes rfl rfl (congrArg Value.bool g_186) ?_
        refine Wx.rd (v := .string (turnS rQ 1)) (rd_move rfl) rfl ?_
        refine Wx.gyes rfl rfl (congrArg Value.bool g_186) ?_
        refine Wx.rd (v := .bool true) (Rd.to (v := .bool ((turnS rQ 1) == ({ data := #[98, 65, 66, 97] } : ByteArray))) (rd_eqlS rfl rfl) (congrArg (Value.bool) (show (true : Bool) = ((turnS rQ 1) == ({ data := #[98, 65, 66, 97] } : ByteArray) : Bool) from (by decide +kernel)).symm)) rfl ?_
        refine Wx.rd (v := .bool true) (rd_pickT (congrArg Value.bool g_186) rfl) rfl ?_
        refine Wx.nil ⟨(), hS, ⟨?_, trivial⟩, Out.look rfl Out.refl⟩
        show Value.bool true = Value.bool ((((((((((((((((decide ((0 : Int) = 0) && decide ((0 : Int) = 0)) && decide ((0 : Int) = 0)) && decide ((0 : Int) = 0)) && decide ((0 : Int) = 0)) && decide ((0 : Int) = 0)) && decide ((0 : Int) = 0)) && decide ((1 : Int) = 1)) && true) && decide ((2 : Int) = 2)) && true) && true) && true) && true) && !false) && true) && true)
        rw [g_186]; rfl
      · -- False
        have gp_188 := g_186
        try simp only [Bool.and_eq_true, Bool.or_eq_true, Bool.not_eq_true', Bool.and_eq_false_iff, Bool.or_eq_false_iff, Bool.not_eq_false', decide_eq_true_eq, decide_eq_false_iff_not, not_or, Bool.false_eq_true, Bool.true_eq_false, false_or, or_false, not_false_eq_true] at gp_188
        refine Wx.gnoB rfl rfl (congrArg Value.bool g_186) rfl rfl ?_
        refine Wx.gnoB rfl rfl (congrArg Value.bool g_186) rfl rfl ?_
        refine Wx.rd (v := .bool false) (rd_pickF (congrArg Value.bool g_186) rfl) rfl ?_
        refine Wx.nil ⟨(), hS, ⟨?_, trivial⟩, Out.look rfl Out.refl⟩
        show Value.bool false = Value.bool ((((((((((((((((decide ((0 : Int) = 0) && decide ((0 : Int) = 0)) && decide ((0 : Int) = 0)) && decide ((0 : Int) = 0)) && decide ((0 : Int) = 0)) && decide ((0 : Int) = 0)) && decide ((0 : Int) = 0)) && decide ((1 : Int) = 1)) && true) && decide ((2 : Int) = 2)) && true) && true) && true) && true) && !false) && true) && true)
        rw [g_186]; rfl
    rintro ⟨⟩ u_190 w_189 hS
    refine Wx.rd (v := .bool ((((((((((((((((decide ((0 : Int) = 0) && decide ((0 : Int) = 0)) && decide ((0 : Int) = 0)) && decide ((0 : Int) = 0)) && decide ((0 : Int) = 0)) && decide ((0 : Int) = 0)) && decide ((0 : Int) = 0)) && decide ((1 : Int) = 1)) && true) && decide ((2 : Int) = 2)) && true) && true) && true) && true) && !false) && true) && true)) (rd_move rfl) rfl ?_
    refine Wx.cut (X := Unit) 3 [167, 168, 169] (fun _ => [(169, .bool (((((((((((((((((decide ((0 : Int) = 0) && decide ((0 : Int) = 0)) && decide ((0 : Int) = 0)) && decide ((0 : Int) = 0)) && decide ((0 : Int) = 0)) && decide ((0 : Int) = 0)) && decide ((0 : Int) = 0)) && decide ((1 : Int) = 1)) && true) && decide ((2 : Int) = 2)) && true) && true) && true) && true) && !false) && true) && true) && true))]) (fun _ w' => St w O w' [Ob.v (tSl (tP (tI .i64) (tI .i64))) (stepsV rP) v_22, .row (tP (tI .i64) (tI .i64)) 58 v_16 (forcedP rP), .row (tP (tI .i64) (tI .i64)) 58 v_7 (firstV rR)]) ?_ ?_
    · rcases Bool.eq_false_or_eq_true ((((((((((((((((decide ((0 : Int) = 0) && decide ((0 : Int) = 0)) && decide ((0 : Int) = 0)) && decide ((0 : Int) = 0)) && decide ((0 : Int) = 0)) && decide ((0 : Int) = 0)) && decide ((0 : Int) = 0)) && decide ((1 : Int) = 1)) && true) && decide ((2 : Int) = 2)) && true) && true) && true) && true) && !false) && true) && true) with g_191 | g_191
      · -- True
        have gp_192 := g_191
        try simp only [Bool.and_eq_true, Bool.or_eq_true, Bool.not_eq_true', Bool.and_eq_false_iff, Bool.or_eq_false_iff, Bool.not_eq_false', decide_eq_true_eq, decide_eq_false_iff_not, not_or, Bool.false_eq_true, Bool.true_eq_false, false_or, or_false, not_false_eq_true] at gp_192
        refine Wx.gyes rfl rfl (congrArg Value.bool g_191) ?_
        refine Wx.rd (v := .string (oppV r2)) (rd_move rfl) rfl ?_
        refine Wx.gyes rfl rfl (congrArg Value.bool g_191) ?_
        refine Wx.rd (v := .bool true) (Rd.to (v := .bool ((oppV r2) == ({ data := #[99, 66, 65] } : ByteArray))) (rd_eqlS rfl rfl) (congrArg (Value.bool) (show (true : Bool) = ((oppV r2) == ({ data := #[99, 66, 65] } : ByteArray) : Bool) from (by decide +kernel)).symm)) rfl ?_
        refine Wx.rd (v := .bool true) (rd_pickT (congrArg Value.bool g_191) rfl) rfl ?_
        refine Wx.nil ⟨(), hS, ⟨?_, trivial⟩, Out.look rfl Out.refl⟩
        show Value.bool true = Value.bool (((((((((((((((((decide ((0 : Int) = 0) && decide ((0 : Int) = 0)) && decide ((0 : Int) = 0)) && decide ((0 : Int) = 0)) && decide ((0 : Int) = 0)) && decide ((0 : Int) = 0)) && decide ((0 : Int) = 0)) && decide ((1 : Int) = 1)) && true) && decide ((2 : Int) = 2)) && true) && true) && true) && true) && !false) && true) && true) && true)
        rw [g_191]; rfl
      · -- False
        have gp_193 := g_191
        try simp only [Bool.and_eq_true, Bool.or_eq_true, Bool.not_eq_true', Bool.and_eq_false_iff, Bool.or_eq_false_iff, Bool.not_eq_false', decide_eq_true_eq, decide_eq_false_iff_not, not_or, Bool.false_eq_true, Bool.true_eq_false, false_or, or_false, not_false_eq_true] at gp_193
        refine Wx.gnoB rfl rfl (congrArg Value.bool g_191) rfl rfl ?_
        refine Wx.gnoB rfl rfl (congrArg Value.bool g_191) rfl rfl ?_
        refine Wx.rd (v := .bool false) (rd_pickF (congrArg Value.bool g_191) rfl) rfl ?_
        refine Wx.nil ⟨(), hS, ⟨?_, trivial⟩, Out.look rfl Out.refl⟩
        show Value.bool false = Value.bool (((((((((((((((((decide ((0 : Int) = 0) && decide ((0 : Int) = 0)) && decide ((0 : Int) = 0)) && decide ((0 : Int) = 0)) && decide ((0 : Int) = 0)) && decide ((0 : Int) = 0)) && decide ((0 : Int) = 0)) && decide ((1 : Int) = 1)) && true) && decide ((2 : Int) = 2)) && true) && true) && true) && true) && !false) && true) && true) && true)
        rw [g_191]; rfl
    rintro ⟨⟩ u_195 w_194 hS
    refine Wx.rd (v := .bool (((((((((((((((((decide ((0 : Int) = 0) && decide ((0 : Int) = 0)) && decide ((0 : Int) = 0)) && decide ((0 : Int) = 0)) && decide ((0 : Int) = 0)) && decide ((0 : Int) = 0)) && decide ((0 : Int) = 0)) && decide ((1 : Int) = 1)) && true) && decide ((2 : Int) = 2)) && true) && true) && true) && true) && !false) && true) && true) && true)) (rd_move rfl) rfl ?_
    refine Wx.cut (X := Unit) 2 [171, 172] (fun _ => [(172, .bool ((((((((((((((((((decide ((0 : Int) = 0) && decide ((0 : Int) = 0)) && decide ((0 : Int) = 0)) && decide ((0 : Int) = 0)) && decide ((0 : Int) = 0)) && decide ((0 : Int) = 0)) && decide ((0 : Int) = 0)) && decide ((1 : Int) = 1)) && true) && decide ((2 : Int) = 2)) && true) && true) && true) && true) && !false) && true) && true) && true) && true))]) (fun _ w' => St w O w' [Ob.v (tSl (tP (tI .i64) (tI .i64))) (stepsV rP) v_22, .row (tP (tI .i64) (tI .i64)) 58 v_16 (forcedP rP), .row (tP (tI .i64) (tI .i64)) 58 v_7 (firstV rR)]) ?_ ?_
    · rcases Bool.eq_false_or_eq_true (((((((((((((((((decide ((0 : Int) = 0) && decide ((0 : Int) = 0)) && decide ((0 : Int) = 0)) && decide ((0 : Int) = 0)) && decide ((0 : Int) = 0)) && decide ((0 : Int) = 0)) && decide ((0 : Int) = 0)) && decide ((1 : Int) = 1)) && true) && decide ((2 : Int) = 2)) && true) && true) && true) && true) && !false) && true) && true) && true) with g_196 | g_196
      · -- True
        have gp_197 := g_196
        try simp only [Bool.and_eq_true, Bool.or_eq_true, Bool.not_eq_true', Bool.and_eq_false_iff, Bool.or_eq_false_iff, Bool.not_eq_false', decide_eq_true_eq, decide_eq_false_iff_not, not_or, Bool.false_eq_true, Bool.true_eq_false, false_or, or_false, not_false_eq_true] at gp_197
        refine Wx.gyes rfl rfl (congrArg Value.bool g_196) ?_
        refine Wx.rd (v := .bool true) (rd_move rfl) rfl ?_
        refine Wx.rd (v := .bool true) (rd_pickT (congrArg Value.bool g_196) rfl) rfl ?_
        refine Wx.nil ⟨(), hS, ⟨?_, trivial⟩, Out.look rfl Out.refl⟩
        show Value.bool true = Value.bool ((((((((((((((((((decide ((0 : Int) = 0) && decide ((0 : Int) = 0)) && decide ((0 : Int) = 0)) && decide ((0 : Int) = 0)) && decide ((0 : Int) = 0)) && decide ((0 : Int) = 0)) && decide ((0 : Int) = 0)) && decide ((1 : Int) = 1)) && true) && decide ((2 : Int) = 2)) && true) && true) && true) && true) && !false) && true) && true) && true) && true)
        rw [g_196]; rfl
      · -- False
        have gp_198 := g_196
        try simp only [Bool.and_eq_true, Bool.or_eq_true, Bool.not_eq_true', Bool.and_eq_false_iff, Bool.or_eq_false_iff, Bool.not_eq_false', decide_eq_true_eq, decide_eq_false_iff_not, not_or, Bool.false_eq_true, Bool.true_eq_false, false_or, or_false, not_false_eq_true] at gp_198
        refine Wx.gnoB rfl rfl (congrArg Value.bool g_196) rfl rfl ?_
        refine Wx.rd (v := .bool false) (rd_pickF (congrArg Value.bool g_196) rfl) rfl ?_
        refine Wx.nil ⟨(), hS, ⟨?_, trivial⟩, Out.look rfl Out.refl⟩
        show Value.bool false = Value.bool ((((((((((((((((((decide ((0 : Int) = 0) && decide ((0 : Int) = 0)) && decide ((0 : Int) = 0)) && decide ((0 : Int) = 0)) && decide ((0 : Int) = 0)) && decide ((0 : Int) = 0)) && decide ((0 : Int) = 0)) && decide ((1 : Int) = 1)) && true) && decide ((2 : Int) = 2)) && true) && true) && true) && true) && !false) && true) && true) && true) && true)
        rw [g_196]; rfl
    rintro ⟨⟩ u_200 w_199 hS
    refine Wx.rd (v := .bool ((((((((((((((((((decide ((0 : Int) = 0) && decide ((0 : Int) = 0)) && decide ((0 : Int) = 0)) && decide ((0 : Int) = 0)) && decide ((0 : Int) = 0)) && decide ((0 : Int) = 0)) && decide ((0 : Int) = 0)) && decide ((1 : Int) = 1)) && true) && decide ((2 : Int) = 2)) && true) && true) && true) && true) && !false) && true) && true) && true) && true)) (rd_move rfl) rfl ?_
    refine Wx.cut (X := Unit) 3 [174, 175, 176] (fun _ => [(176, .bool (((((((((((((((((((decide ((0 : Int) = 0) && decide ((0 : Int) = 0)) && decide ((0 : Int) = 0)) && decide ((0 : Int) = 0)) && decide ((0 : Int) = 0)) && decide ((0 : Int) = 0)) && decide ((0 : Int) = 0)) && decide ((1 : Int) = 1)) && true) && decide ((2 : Int) = 2)) && true) && true) && true) && true) && !false) && true) && true) && true) && true) && !false))]) (fun _ w' => St w O w' [Ob.v (tSl (tP (tI .i64) (tI .i64))) (stepsV rP) v_22, .row (tP (tI .i64) (tI .i64)) 58 v_16 (forcedP rP), .row (tP (tI .i64) (tI .i64)) 58 v_7 (firstV rR)]) ?_ ?_
    · rcases Bool.eq_false_or_eq_true ((((((((((((((((((decide ((0 : Int) = 0) && decide ((0 : Int) = 0)) && decide ((0 : Int) = 0)) && decide ((0 : Int) = 0)) && decide ((0 : Int) = 0)) && decide ((0 : Int) = 0)) && decide ((0 : Int) = 0)) && decide ((1 : Int) = 1)) && true) && decide ((2 : Int) = 2)) && true) && true) && true) && true) && !false) && true) && true) && true) && true) with g_201 | g_201
      · -- True
        have gp_202 := g_201
        try simp only [Bool.and_eq_true, Bool.or_eq_true, Bool.not_eq_true', Bool.and_eq_false_iff, Bool.or_eq_false_iff, Bool.not_eq_false', decide_eq_true_eq, decide_eq_false_iff_not, not_or, Bool.false_eq_true, Bool.true_eq_false, false_or, or_false, not_false_eq_true] at gp_202
        refine Wx.gyes rfl rfl (congrArg Value.bool g_201) ?_
        refine Wx.rd (v := .bool false) (rd_move rfl) rfl ?_
        refine Wx.gyes rfl rfl (congrArg Value.bool g_201) ?_
        refine Wx.rd (v := .bool (!false)) (rd_not rfl) rfl ?_
        refine Wx.rd (v := .bool (!false)) (rd_pickT (congrArg Value.bool g_201) rfl) rfl ?_
        refine Wx.nil ⟨(), hS, ⟨?_, trivial⟩, Out.look rfl Out.refl⟩
        show Value.bool (!false) = Value.bool (((((((((((((((((((decide ((0 : Int) = 0) && decide ((0 : Int) = 0)) && decide ((0 : Int) = 0)) && decide ((0 : Int) = 0)) && decide ((0 : Int) = 0)) && decide ((0 : Int) = 0)) && decide ((0 : Int) = 0)) && decide ((1 : Int) = 1)) && true) && decide ((2 : Int) = 2)) && true) && true) && true) && true) && !false) && true) && true) && true) && true) && !false)
        rw [g_201]; rfl
      · -- False
        have gp_203 := g_201
        try simp only [Bool.and_eq_true, Bool.or_eq_true, Bool.not_eq_true', Bool.and_eq_false_iff, Bool.or_eq_false_iff, Bool.not_eq_false', decide_eq_true_eq, decide_eq_false_iff_not, not_or, Bool.false_eq_true, Bool.true_eq_false, false_or, or_false, not_false_eq_true] at gp_203
        refine Wx.gnoB rfl rfl (congrArg Value.bool g_201) rfl rfl ?_
        refine Wx.gnoB rfl rfl (congrArg Value.bool g_201) rfl rfl ?_
        refine Wx.rd (v := .bool false) (rd_pickF (congrArg Value.bool g_201) rfl) rfl ?_
        refine Wx.nil ⟨(), hS, ⟨?_, trivial⟩, Out.look rfl Out.refl⟩
        show Value.bool false = Value.bool (((((((((((((((((((decide ((0 : Int) = 0) && decide ((0 : Int) = 0)) && decide ((0 : Int) = 0)) && decide ((0 : Int) = 0)) && decide ((0 : Int) = 0)) && decide ((0 : Int) = 0)) && decide ((0 : Int) = 0)) && decide ((1 : Int) = 1)) && true) && decide ((2 : Int) = 2)) && true) && true) && true) && true) && !false) && true) && true) && true) && true) && !false)
        rw [g_201]; rfl
    rintro ⟨⟩ u_205 w_204 hS
    refine Wx.rd (v := .bool (((((((((((((((((((decide ((0 : Int) = 0) && decide ((0 : Int) = 0)) && decide ((0 : Int) = 0)) && decide ((0 : Int) = 0)) && decide ((0 : Int) = 0)) && decide ((0 : Int) = 0)) && decide ((0 : Int) = 0)) && decide ((1 : Int) = 1)) && true) && decide ((2 : Int) = 2)) && true) && true) && true) && true) && !false) && true) && true) && true) && true) && !false)) (rd_move rfl) rfl ?_
    refine Wx.cut (X := Unit) 5 [178, 179, 180, 181, 182] (fun _ => [(182, .bool ((((((((((((((((((((decide ((0 : Int) = 0) && decide ((0 : Int) = 0)) && decide ((0 : Int) = 0)) && decide ((0 : Int) = 0)) && decide ((0 : Int) = 0)) && decide ((0 : Int) = 0)) && decide ((0 : Int) = 0)) && decide ((1 : Int) = 1)) && true) && decide ((2 : Int) = 2)) && true) && true) && true) && true) && !false) && true) && true) && true) && true) && !false) && true))]) (fun _ w' => St w O w' [Ob.v (tSl (tP (tI .i64) (tI .i64))) (stepsV rP) v_22, .row (tP (tI .i64) (tI .i64)) 58 v_16 (forcedP rP), .row (tP (tI .i64) (tI .i64)) 58 v_7 (firstV rR)]) ?_ ?_
    · rcases Bool.eq_false_or_eq_true (((((((((((((((((((decide ((0 : Int) = 0) && decide ((0 : Int) = 0)) && decide ((0 : Int) = 0)) && decide ((0 : Int) = 0)) && decide ((0 : Int) = 0)) && decide ((0 : Int) = 0)) && decide ((0 : Int) = 0)) && decide ((1 : Int) = 1)) && true) && decide ((2 : Int) = 2)) && true) && true) && true) && true) && !false) && true) && true) && true) && true) && !false) with g_206 | g_206
      · -- True
        have gp_207 := g_206
        try simp only [Bool.and_eq_true, Bool.or_eq_true, Bool.not_eq_true', Bool.and_eq_false_iff, Bool.or_eq_false_iff, Bool.not_eq_false', decide_eq_true_eq, decide_eq_false_iff_not, not_or, Bool.false_eq_true, Bool.true_eq_false, false_or, or_false, not_false_eq_true] at gp_207
        refine Wx.gyes rfl rfl (congrArg Value.bool g_206) ?_
        refine Wx.lit (t := (tI .i64)) (ys := [0, 3, 1, 2]) (vs := [.int .i64 0, .int .i64 3, .int .i64 1, .int .i64 2]) elHm_60 hS rfl rfl ⟨(V.mkInt (in_i64 (by omega) (by omega))), ⟨(V.mkInt (in_i64 (by omega) (by omega))), ⟨(V.mkInt (in_i64 (by omega) (by omega))), ⟨(V.mkInt (in_i64 (by omega) (by omega))), trivial⟩⟩⟩⟩ (by decide) rfl (fun v_208 w_209 hx_210 hS => ?_)
        refine Wx.gyes rfl rfl (congrArg Value.bool g_206) ?_
        have hS := hS.freeze 0 rfl
        refine Wx.callF (run_callF Tryd.call48 rfl) (F48 (hS.v 0 rfl) (by decide) hS.fb_lt) rfl ?_
        rintro r_212 w_213 hx_214 ⟨_, rfl, hv_215⟩
        have hS := hS.pushFr hx_214 hv_215
        refine Wx.gyes rfl rfl (congrArg Value.bool g_206) ?_
        refine Wx.callF (run_callF Tryd.call19 rfl) (F19 (by first | assumption | (simp only [maxLen]; omega) | (simp only [ByteArray.size_extract, ByteArray.size_append, maxLen] at *; omega) | decide) (hS.lend 0 rfl) (hG.ext hS.bel)) rfl ?_
        rintro r_217 w_218 hx_219 rfl
        have hS := hS.ext hx_219
        refine Wx.gyes rfl rfl (congrArg Value.bool g_206) ?_
        refine Wx.rd (v := .bool true) (Rd.to (v := .bool (decide ((validE rP (pairsU [0, 3, 1, 2])) = 0))) (rd_eql rfl rfl) (congrArg (Value.bool) (show (true : Bool) = (decide ((validE rP (pairsU [0, 3, 1, 2])) = 0) : Bool) from (by decide +kernel)).symm)) rfl ?_
        refine Wx.rd (v := .bool true) (rd_pickT (congrArg Value.bool g_206) rfl) rfl ?_
        refine Wx.nil ⟨(), St.tl (hS.tl), ⟨?_, trivial⟩, Out.look rfl Out.refl⟩
        show Value.bool true = Value.bool ((((((((((((((((((((decide ((0 : Int) = 0) && decide ((0 : Int) = 0)) && decide ((0 : Int) = 0)) && decide ((0 : Int) = 0)) && decide ((0 : Int) = 0)) && decide ((0 : Int) = 0)) && decide ((0 : Int) = 0)) && decide ((1 : Int) = 1)) && true) && decide ((2 : Int) = 2)) && true) && true) && true) && true) && !false) && true) && true) && true) && true) && !false) && true)
        rw [g_206]; rfl
      · -- False
        have gp_220 := g_206
        try simp only [Bool.and_eq_true, Bool.or_eq_true, Bool.not_eq_true', Bool.and_eq_false_iff, Bool.or_eq_false_iff, Bool.not_eq_false', decide_eq_true_eq, decide_eq_false_iff_not, not_or, Bool.false_eq_true, Bool.true_eq_false, false_or, or_false, not_false_eq_true] at gp_220
        refine Wx.gnoB rfl rfl (congrArg Value.bool g_206) rfl rfl ?_
        refine Wx.gnoB rfl rfl (congrArg Value.bool g_206) rfl rfl ?_
        refine Wx.gnoB rfl rfl (congrArg Value.bool g_206) rfl rfl ?_
        refine Wx.gnoB rfl rfl (congrArg Value.bool g_206) rfl rfl ?_
        refine Wx.rd (v := .bool false) (rd_pickF (congrArg Value.bool g_206) rfl) rfl ?_
        refine Wx.nil ⟨(), hS, ⟨?_, trivial⟩, Out.look rfl Out.refl⟩
        show Value.bool false = Value.bool ((((((((((((((((((((decide ((0 : Int) = 0) && decide ((0 : Int) = 0)) && decide ((0 : Int) = 0)) && decide ((0 : Int) = 0)) && decide ((0 : Int) = 0)) && decide ((0 : Int) = 0)) && decide ((0 : Int) = 0)) && decide ((1 : Int) = 1)) && true) && decide ((2 : Int) = 2)) && true) && true) && true) && true) && !false) && true) && true) && true) && true) && !false) && true)
        rw [g_206]; rfl
    rintro ⟨⟩ u_222 w_221 hS
    refine Wx.rd (v := .bool ((((((((((((((((((((decide ((0 : Int) = 0) && decide ((0 : Int) = 0)) && decide ((0 : Int) = 0)) && decide ((0 : Int) = 0)) && decide ((0 : Int) = 0)) && decide ((0 : Int) = 0)) && decide ((0 : Int) = 0)) && decide ((1 : Int) = 1)) && true) && decide ((2 : Int) = 2)) && true) && true) && true) && true) && !false) && true) && true) && true) && true) && !false) && true)) (rd_move rfl) rfl ?_
    refine Wx.cut (X := Unit) 5 [184, 185, 186, 187, 188] (fun _ => [(188, .bool (((((((((((((((((((((decide ((0 : Int) = 0) && decide ((0 : Int) = 0)) && decide ((0 : Int) = 0)) && decide ((0 : Int) = 0)) && decide ((0 : Int) = 0)) && decide ((0 : Int) = 0)) && decide ((0 : Int) = 0)) && decide ((1 : Int) = 1)) && true) && decide ((2 : Int) = 2)) && true) && true) && true) && true) && !false) && true) && true) && true) && true) && !false) && true) && true))]) (fun _ w' => St w O w' [Ob.v (tSl (tP (tI .i64) (tI .i64))) (stepsV rP) v_22, .row (tP (tI .i64) (tI .i64)) 58 v_16 (forcedP rP), .row (tP (tI .i64) (tI .i64)) 58 v_7 (firstV rR)]) ?_ ?_
    · rcases Bool.eq_false_or_eq_true ((((((((((((((((((((decide ((0 : Int) = 0) && decide ((0 : Int) = 0)) && decide ((0 : Int) = 0)) && decide ((0 : Int) = 0)) && decide ((0 : Int) = 0)) && decide ((0 : Int) = 0)) && decide ((0 : Int) = 0)) && decide ((1 : Int) = 1)) && true) && decide ((2 : Int) = 2)) && true) && true) && true) && true) && !false) && true) && true) && true) && true) && !false) && true) with g_223 | g_223
      · -- True
        have gp_224 := g_223
        try simp only [Bool.and_eq_true, Bool.or_eq_true, Bool.not_eq_true', Bool.and_eq_false_iff, Bool.or_eq_false_iff, Bool.not_eq_false', decide_eq_true_eq, decide_eq_false_iff_not, not_or, Bool.false_eq_true, Bool.true_eq_false, false_or, or_false, not_false_eq_true] at gp_224
        refine Wx.gyes rfl rfl (congrArg Value.bool g_223) ?_
        refine Wx.lit (t := (tI .i64)) (ys := [0, 2, 1, 3]) (vs := [.int .i64 0, .int .i64 2, .int .i64 1, .int .i64 3]) elHm_60 hS rfl rfl ⟨(V.mkInt (in_i64 (by omega) (by omega))), ⟨(V.mkInt (in_i64 (by omega) (by omega))), ⟨(V.mkInt (in_i64 (by omega) (by omega))), ⟨(V.mkInt (in_i64 (by omega) (by omega))), trivial⟩⟩⟩⟩ (by decide) rfl (fun v_225 w_226 hx_227 hS => ?_)
        refine Wx.gyes rfl rfl (congrArg Value.bool g_223) ?_
        have hS := hS.freeze 0 rfl
        refine Wx.callF (run_callF Tryd.call48 rfl) (F48 (hS.v 0 rfl) (by decide) hS.fb_lt) rfl ?_
        rintro r_229 w_230 hx_231 ⟨_, rfl, hv_232⟩
        have hS := hS.pushFr hx_231 hv_232
        refine Wx.gyes rfl rfl (congrArg Value.bool g_223) ?_
        refine Wx.callF (run_callF Tryd.call19 rfl) (F19 (by first | assumption | (simp only [maxLen]; omega) | (simp only [ByteArray.size_extract, ByteArray.size_append, maxLen] at *; omega) | decide) (hS.lend 0 rfl) (hG.ext hS.bel)) rfl ?_
        rintro r_234 w_235 hx_236 rfl
        have hS := hS.ext hx_236
        refine Wx.gyes rfl rfl (congrArg Value.bool g_223) ?_
        refine Wx.rd (v := .bool true) (Rd.to (v := .bool (decide ((validE rQ (pairsU [0, 2, 1, 3])) = 5))) (rd_eql rfl rfl) (congrArg (Value.bool) (show (true : Bool) = (decide ((validE rQ (pairsU [0, 2, 1, 3])) = 5) : Bool) from (by decide +kernel)).symm)) rfl ?_
        refine Wx.rd (v := .bool true) (rd_pickT (congrArg Value.bool g_223) rfl) rfl ?_
        refine Wx.nil ⟨(), St.tl (hS.tl), ⟨?_, trivial⟩, Out.look rfl Out.refl⟩
        show Value.bool true = Value.bool (((((((((((((((((((((decide ((0 : Int) = 0) && decide ((0 : Int) = 0)) && decide ((0 : Int) = 0)) && decide ((0 : Int) = 0)) && decide ((0 : Int) = 0)) && decide ((0 : Int) = 0)) && decide ((0 : Int) = 0)) && decide ((1 : Int) = 1)) && true) && decide ((2 : Int) = 2)) && true) && true) && true) && true) && !false) && true) && true) && true) && true) && !false) && true) && true)
        rw [g_223]; rfl
      · -- False
        have gp_237 := g_223
        try simp only [Bool.and_eq_true, Bool.or_eq_true, Bool.not_eq_true', Bool.and_eq_false_iff, Bool.or_eq_false_iff, Bool.not_eq_false', decide_eq_true_eq, decide_eq_false_iff_not, not_or, Bool.false_eq_true, Bool.true_eq_false, false_or, or_false, not_false_eq_true] at gp_237
        refine Wx.gnoB rfl rfl (congrArg Value.bool g_223) rfl rfl ?_
        refine Wx.gnoB rfl rfl (congrArg Value.bool g_223) rfl rfl ?_
        refine Wx.gnoB rfl rfl (congrArg Value.bool g_223) rfl rfl ?_
        refine Wx.gnoB rfl rfl (congrArg Value.bool g_223) rfl rfl ?_
        refine Wx.rd (v := .bool false) (rd_pickF (congrArg Value.bool g_223) rfl) rfl ?_
        refine Wx.nil ⟨(), hS, ⟨?_, trivial⟩, Out.look rfl Out.refl⟩
        show Value.bool false = Value.bool (((((((((((((((((((((decide ((0 : Int) = 0) && decide ((0 : Int) = 0)) && decide ((0 : Int) = 0)) && decide ((0 : Int) = 0)) && decide ((0 : Int) = 0)) && decide ((0 : Int) = 0)) && decide ((0 : Int) = 0)) && decide ((1 : Int) = 1)) && true) && decide ((2 : Int) = 2)) && true) && true) && true) && true) && !false) && true) && true) && true) && true) && !false) && true) && true)
        rw [g_223]; rfl
    rintro ⟨⟩ u_239 w_238 hS
    refine Wx.rd (v := .bool (((((((((((((((((((((decide ((0 : Int) = 0) && decide ((0 : Int) = 0)) && decide ((0 : Int) = 0)) && decide ((0 : Int) = 0)) && decide ((0 : Int) = 0)) && decide ((0 : Int) = 0)) && decide ((0 : Int) = 0)) && decide ((1 : Int) = 1)) && true) && decide ((2 : Int) = 2)) && true) && true) && true) && true) && !false) && true) && true) && true) && true) && !false) && true) && true)) (rd_assign rfl) rfl ?_
    refine Wx.nil ?_
    have e1_0 : (((((((((((((((((((((decide ((0 : Int) = 0) && decide ((0 : Int) = 0)) && decide ((0 : Int) = 0)) && decide ((0 : Int) = 0)) && decide ((0 : Int) = 0)) && decide ((0 : Int) = 0)) && decide ((0 : Int) = 0)) && decide ((1 : Int) = 1)) && true) && decide ((2 : Int) = 2)) && true) && true) && true) && true) && !false) && true) && true) && true) && true) && !false) && true) && true) = true := by first | rfl | omega
    exact W.ret ⟨.bool (((((((((((((((((((((decide ((0 : Int) = 0) && decide ((0 : Int) = 0)) && decide ((0 : Int) = 0)) && decide ((0 : Int) = 0)) && decide ((0 : Int) = 0)) && decide ((0 : Int) = 0)) && decide ((0 : Int) = 0)) && decide ((1 : Int) = 1)) && true) && decide ((2 : Int) = 2)) && true) && true) && true) && true) && !false) && true) && true) && true) && true) && !false) && true) && true), ResIs.one, hS.bel, (by rw [e1_0])⟩
end Go.Proofs.YtokdjjebnomciaaDoor

namespace Go.Proofs.YtokdjjebnomciaaDoor
open Go.Wk Go.RowKit Go.Lib
set_option linter.unusedVariables false
set_option linter.unusedSimpArgs false
theorem foHs_43_1 : fldOff Tryd.prog 43 1 = some 1 := by kernel_rfl
theorem foHs_43_2 : fldOff Tryd.prog 43 2 = some 2 := by kernel_rfl
theorem foHs_43_0 : fldOff Tryd.prog 43 0 = some 0 := by kernel_rfl

set_option maxHeartbeats 2000000 in
theorem F44 {e : Int} {kd : Int} {x0 : Int} {x1 : Int} {x2 : Int} {x3 : Int} {x4 : Int} {x5 : Int} {x6 : Int} {x7 : Int} {x8 : Int} {x9 : Int} {x10 : Int} {x11 : Int} {most : Int} {w : World} (i_e : InK .u8 e) (i_kd : InK .u8 kd) (i_x0 : InK .u8 x0) (i_x1 : InK .u8 x1) (i_x2 : InK .u8 x2) (i_x3 : InK .u8 x3) (i_x4 : InK .u8 x4) (i_x5 : InK .u8 x5) (i_x6 : InK .u8 x6) (i_x7 : InK .u8 x7) (i_x8 : InK .u8 x8) (i_x9 : InK .u8 x9) (i_x10 : InK .u8 x10) (i_x11 : InK .u8 x11) (i_most : InK .i64 most) (p_m : 0 ≤ most) (p_12 : most ≤ 12) : Calls Tryd.prog 44 #[.agg #[.int .u8 e, .int .u8 kd, .int .u8 x0, .int .u8 x1, .int .u8 x2, .int .u8 x3, .int .u8 x4, .int .u8 x5, .int .u8 x6, .int .u8 x7, .int .u8 x8, .int .u8 x9, .int .u8 x10, .int .u8 x11], .int .i64 most] w (Ret w (fun r _ => r = .string (madeS e kd [x0, x1, x2, x3, x4, x5, x6, x7, x8, x9, x10, x11] most))) := by
  have b_most := bd_i64 i_most
  have b_x11 := bd_u8 i_x11
  have b_x10 := bd_u8 i_x10
  have b_x9 := bd_u8 i_x9
  have b_x8 := bd_u8 i_x8
  have b_x7 := bd_u8 i_x7
  have b_x6 := bd_u8 i_x6
  have b_x5 := bd_u8 i_x5
  have b_x4 := bd_u8 i_x4
  have b_x3 := bd_u8 i_x3
  have b_x2 := bd_u8 i_x2
  have b_x1 := bd_u8 i_x1
  have b_x0 := bd_u8 i_x0
  have b_kd := bd_u8 i_kd
  have b_e := bd_u8 i_e
  have he0 := Int.emod_nonneg e (show most + 1 ≠ 0 by omega)
  have he1 := Int.emod_lt_of_pos e (show 0 < most + 1 by omega)
  have hk0 : 1 ≤ (1 + kd % 3) ∧ (1 + kd % 3) ≤ 3 := ⟨by omega, by omega⟩
  have hzl : (((([x0, x1, x2, x3, x4, x5, x6, x7, x8, x9, x10, x11] : List Int).take (e % (most + 1)).toNat)).length : Int) ≤ 12 := by rw [List.length_take]; simp; omega
  have hS := St.start0 w
  refine enterR Tryd.func44 rfl Tryd.ntmps44 Tryd.results44 rfl ?_
  refine W.seq ?_
  refine W.reg ?_
  refine Wx.box (cs := [.int .u8 e, .int .u8 kd, .int .u8 x0, .int .u8 x1, .int .u8 x2, .int .u8 x3, .int .u8 x4, .int .u8 x5, .int .u8 x6, .int .u8 x7, .int .u8 x8, .int .u8 x9, .int .u8 x10, .int .u8 x11]) hS rfl rfl rfl (fun g_1 w_2 hx_4 hb_3 hS => ?_)
  refine Wx.rd (v := .string ({ data := #[] } : ByteArray)) (rd_assign rfl) rfl ?_
  refine Wx.nil ?_
  refine W.seq ?_
  refine W.reg ?_
  refine Wx.rd (v := .pointer (some ⟨g_1, 1, none⟩)) (rd_fieldAddr rfl foHs_43_1) rfl ?_
  refine Wx.rd (v := .int .u8 kd) (rd_loadX hS 0 rfl rfl rfl Tryd.isAgg5) rfl ?_
  refine Wx.rd (v := .int .i64 kd) (rd_convIn rfl Tryd.underlying5 Tryd.underlying3 (in_i64 (by omega) (by omega))) rfl ?_
  refine Wx.rd (v := .int .i64 (kd % 3)) (rd_rem rfl rfl (by omega) (by omega)) rfl ?_
  refine Wx.rd (v := .int .i64 (1 + (kd % 3))) (rd_add rfl rfl (in_i64 (by omega) (by omega))) rfl ?_
  refine Wx.rd (v := .int .i64 (1 + (kd % 3))) (rd_assign rfl) rfl ?_
  refine Wx.nil ?_
  refine W.seq ?_
  refine W.reg ?_
  refine Wx.rd (v := .string ({ data := #[] } : ByteArray)) (rd_assign rfl) rfl ?_
  refine Wx.nil ?_
  refine W.seq ?_
  refine W.seq ?_
  refine W.reg ?_
  refine Wx.rd (v := .pointer (some ⟨g_1, 2, none⟩)) (rd_fieldAddr rfl foHs_43_2) rfl ?_
  refine Wx.rd (v := .pointer (some ⟨g_1, 0, none⟩)) (rd_fieldAddr rfl foHs_43_0) rfl ?_
  refine Wx.rd (v := .int .u8 e) (rd_loadX hS 0 rfl rfl rfl Tryd.isAgg5) rfl ?_
  refine Wx.rd (v := .int .i64 e) (rd_convIn rfl Tryd.underlying5 Tryd.underlying3 (in_i64 (by omega) (by omega))) rfl ?_
  refine Wx.rd (v := .int .i64 most) (rd_move rfl) rfl ?_
  refine Wx.rd (v := .int .i64 (most + 1)) (rd_add rfl rfl (in_i64 (by omega) (by omega))) rfl ?_
  refine Wx.rd (v := .int .i64 (e % (most + 1))) (rd_rem rfl rfl (by omega) (by omega)) rfl ?_
  refine Wx.rd (v := (.slice (some ⟨g_1, 2, none⟩) (e % (most + 1)).toNat 12)) (rd_sliceArrH (m := 12) Tryd.underlying41 Tryd.sizeOf5 rfl rfl (by omega) (by omega)) rfl ?_
  have hS := hS.sliceBox (o := 2) (k := .u8) (m := (e % (most + 1)).toNat) (xs := ([x0, x1, x2, x3, x4, x5, x6, x7, x8, x9, x10, x11] : List Int).take (e % (most + 1)).toNat) (cap := 12) 0 rfl (by exact take_map_take (Value.int .u8) [x0, x1, x2, x3, x4, x5, x6, x7, x8, x9, x10, x11] _) (fun x hx => by have hx := List.mem_of_mem_take hx; simp only [List.mem_cons, List.not_mem_nil, or_false] at hx; rcases hx with rfl | rfl | rfl | rfl | rfl | rfl | rfl | rfl | rfl | rfl | rfl | rfl <;> assumption) (by simp; omega) (by omega) (by decide)
  refine Wx.rd (v := .int .i64 ((([x0, x1, x2, x3, x4, x5, x6, x7, x8, x9, x10, x11] : List Int).take (e % (most + 1)).toNat).length : Int)) (rd_lenV rfl (hS.v 0 rfl) Tryd.underlying102) rfl ?_
  refine Wx.rd (v := .int .i64 0) (rd_move rfl) rfl ?_
  refine Wx.nil ?_
  refine W.block ?_
  refine W.loop [6, 8, 9, 24, 25, 26, 27, 28, 29, 30, 31, 32, 33, 34, 35, 36, 37, 38, 39] (fun x : ByteArray × Int => match x with | (out, j) => [(6, .string out), (24, .int .i64 j)]) (fun (x : ByteArray × Int) w' => match x with | (out, j) => St w [] w' [Ob.v (tSl (tI .u8)) (([x0, x1, x2, x3, x4, x5, x6, x7, x8, x9, x10, x11] : List Int).take (e % (most + 1)).toNat) (.slice (some ⟨g_1, 2, none⟩) (e % (most + 1)).toNat 12)] ∧ 0 ≤ j ∧ j ≤ ((([x0, x1, x2, x3, x4, x5, x6, x7, x8, x9, x10, x11] : List Int).take (e % (most + 1)).toNat)).length ∧ out = mkB ((((([x0, x1, x2, x3, x4, x5, x6, x7, x8, x9, x10, x11] : List Int).take (e % (most + 1)).toNat)).take j.toNat).map (letK (1 + kd % 3)))) (fun x : ByteArray × Int => match x with | (out, j) => (((([x0, x1, x2, x3, x4, x5, x6, x7, x8, x9, x10, x11] : List Int).take (e % (most + 1)).toNat)).length - j).toNat) (({ data := #[] } : ByteArray), 0) ⟨rfl, rfl, trivial⟩ ⟨hS, (by first | omega | simp), (by first | omega | simp), (rfl)⟩ ?_
  rintro ⟨out, j⟩ u_7 w_6 ⟨hS, h0, h1, h2⟩
  refine W.seq ?_
  refine W.reg ?_
  refine Wx.rd (v := .bool (decide (j < ((([x0, x1, x2, x3, x4, x5, x6, x7, x8, x9, x10, x11] : List Int).take (e % (most + 1)).toNat).length : Int)))) (rd_lss rfl rfl) rfl ?_
  refine Wx.nil ?_
  refine W.seq ?_
  refine W.condD rfl (fun c0 => ?_) (fun c0 => ?_)
  · -- yes
    refine W.skip ?_
    refine W.seq ?_
    refine W.block ?_
    refine W.seq ?_
    refine W.reg ?_
    refine Wx.ex (rd_index 0 (hS.v 0 rfl) rfl rfl Tryd.underlying102 Tryd.sizeOf5 (by first | omega | (simp only [List.length_set, List.length_append, List.length_cons, List.length_nil, List.length_replicate]; omega)) (by first | omega | (simp only [List.length_set, List.length_append, List.length_cons, List.length_nil, List.length_replicate]; omega))) rfl (fun p_8 hp_9 => ?_)
    refine Wx.rd (v := .int .u8 (ix 0 (([x0, x1, x2, x3, x4, x5, x6, x7, x8, x9, x10, x11] : List Int).take (e % (most + 1)).toNat) j)) (rd_loadI hp_9 rfl Tryd.isAgg5 Tryd.sizeOf5) rfl ?_
    have bd_10 := bd_u8 hp_9.inK
    refine Wx.rd (v := .int .u8 (ix 0 (([x0, x1, x2, x3, x4, x5, x6, x7, x8, x9, x10, x11] : List Int).take (e % (most + 1)).toNat) j)) (rd_assign rfl) rfl ?_
    refine Wx.nil ?_
    refine W.seq ?_
    refine W.reg ?_
    refine Wx.rd (v := .int .u8 (ix 0 (([x0, x1, x2, x3, x4, x5, x6, x7, x8, x9, x10, x11] : List Int).take (e % (most + 1)).toNat) j)) (rd_move rfl) rfl ?_
    refine Wx.rd (v := .int .i64 (ix 0 (([x0, x1, x2, x3, x4, x5, x6, x7, x8, x9, x10, x11] : List Int).take (e % (most + 1)).toNat) j)) (rd_convIn rfl Tryd.underlying5 Tryd.underlying3 (in_i64 (by omega) (by omega))) rfl ?_
    refine Wx.rd (v := .int .i64 (1 + (kd % 3))) (rd_move rfl) rfl ?_
    refine Wx.rd (v := .int .i64 (2 * (1 + (kd % 3)))) (rd_mul rfl rfl (in_i64 (by omega) (by omega))) rfl ?_
    refine Wx.rd (v := .int .i64 ((ix 0 (([x0, x1, x2, x3, x4, x5, x6, x7, x8, x9, x10, x11] : List Int).take (e % (most + 1)).toNat) j) % (2 * (1 + (kd % 3))))) (rd_rem rfl rfl (by omega) (by omega)) rfl ?_
    refine Wx.rd (v := .int .i64 ((ix 0 (([x0, x1, x2, x3, x4, x5, x6, x7, x8, x9, x10, x11] : List Int).take (e % (most + 1)).toNat) j) % (2 * (1 + (kd % 3))))) (rd_assign rfl) rfl ?_
    refine Wx.nil ?_
    refine W.reg ?_
    have hq0 := Int.emod_nonneg (ix 0 (([x0, x1, x2, x3, x4, x5, x6, x7, x8, x9, x10, x11] : List Int).take (e % (most + 1)).toNat) j) (b := 2 * (1 + kd % 3)) (by omega)
    have hq1 := Int.emod_lt_of_pos (ix 0 (([x0, x1, x2, x3, x4, x5, x6, x7, x8, x9, x10, x11] : List Int).take (e % (most + 1)).toNat) j) (b := 2 * (1 + kd % 3)) (by omega)
    have h6 : (sixS.size : Int) = 6 := rfl
    have hos : (out.size : Int) = j := by rw [h2, mkB_size, List.length_map, List.length_take]; omega
    refine Wx.rd (v := .string out) (rd_move rfl) rfl ?_
    refine Wx.rd (v := .int .i64 ((ix 0 (([x0, x1, x2, x3, x4, x5, x6, x7, x8, x9, x10, x11] : List Int).take (e % (most + 1)).toNat) j) % (2 * (1 + (kd % 3))))) (rd_move rfl) rfl ?_
    refine Wx.rd (v := .int .i64 ((ix 0 (([x0, x1, x2, x3, x4, x5, x6, x7, x8, x9, x10, x11] : List Int).take (e % (most + 1)).toNat) j) % (2 * (1 + (kd % 3))))) (rd_move rfl) rfl ?_
    refine Wx.rd (v := .int .i64 (((ix 0 (([x0, x1, x2, x3, x4, x5, x6, x7, x8, x9, x10, x11] : List Int).take (e % (most + 1)).toNat) j) % (2 * (1 + (kd % 3)))) + 1)) (rd_add rfl rfl (in_i64 (by omega) (by omega))) rfl ?_
    refine Wx.rd (v := .string ((sixS).extract ((ix 0 (([x0, x1, x2, x3, x4, x5, x6, x7, x8, x9, x10, x11] : List Int).take (e % (most + 1)).toNat) j) % (2 * (1 + (kd % 3)))).toNat (((ix 0 (([x0, x1, x2, x3, x4, x5, x6, x7, x8, x9, x10, x11] : List Int).take (e % (most + 1)).toNat) j) % (2 * (1 + (kd % 3)))) + 1).toNat)) (rd_sliceS_LH Tryd.underlying9 rfl rfl rfl (by omega) (by omega) (by omega)) rfl ?_
    refine Wx.rd (v := .string (out ++ ((sixS).extract ((ix 0 (([x0, x1, x2, x3, x4, x5, x6, x7, x8, x9, x10, x11] : List Int).take (e % (most + 1)).toNat) j) % (2 * (1 + (kd % 3)))).toNat (((ix 0 (([x0, x1, x2, x3, x4, x5, x6, x7, x8, x9, x10, x11] : List Int).take (e % (most + 1)).toNat) j) % (2 * (1 + (kd % 3)))) + 1).toNat))) (rd_addS rfl rfl (by rw [ByteArray.size_extract]; omega)) rfl ?_
    refine Wx.rd (v := .string (out ++ ((sixS).extract ((ix 0 (([x0, x1, x2, x3, x4, x5, x6, x7, x8, x9, x10, x11] : List Int).take (e % (most + 1)).toNat) j) % (2 * (1 + (kd % 3)))).toNat (((ix 0 (([x0, x1, x2, x3, x4, x5, x6, x7, x8, x9, x10, x11] : List Int).take (e % (most + 1)).toNat) j) % (2 * (1 + (kd % 3)))) + 1).toNat))) (rd_assign rfl) rfl ?_
    refine Wx.nil ?_
    refine W.reg ?_
    refine Wx.rd (v := .int .i64 (j + 1)) (rd_add rfl rfl (in_i64 (by omega) (by omega))) rfl ?_
    refine Wx.rd (v := .int .i64 (j + 1)) (rd_move rfl) rfl ?_
    refine Wx.nil ?_
    refine ⟨(out ++ ((sixS).extract ((ix 0 (([x0, x1, x2, x3, x4, x5, x6, x7, x8, x9, x10, x11] : List Int).take (e % (most + 1)).toNat) j) % (2 * (1 + (kd % 3)))).toNat (((ix 0 (([x0, x1, x2, x3, x4, x5, x6, x7, x8, x9, x10, x11] : List Int).take (e % (most + 1)).toNat) j) % (2 * (1 + (kd % 3)))) + 1).toNat), j + 1), (by show (((([x0, x1, x2, x3, x4, x5, x6, x7, x8, x9, x10, x11] : List Int).take (e % (most + 1)).toNat)).length - (j + 1)).toNat < (((([x0, x1, x2, x3, x4, x5, x6, x7, x8, x9, x10, x11] : List Int).take (e % (most + 1)).toNat)).length - j).toNat; omega), ?_, ?_, Out.look rfl Out.self⟩
    · exact ⟨hS, (by first | omega | assumption), (by first | omega | assumption), (by rw [take_ix (d := 0) h0 c0, List.map_append, ← mkB_app, ← h2, mkB_one hq0 (by omega)]; rfl)⟩
    · exact ⟨rfl, rfl, trivial⟩
  · -- no
    refine W.exit rfl ?_
    refine W.seq ?_
    refine W.reg ?_
    refine Wx.rd (v := .string out) (rd_move rfl) rfl ?_
    refine Wx.rd (v := .string out) (rd_assign rfl) rfl ?_
    refine Wx.nil ?_
    have e0_0 : (madeS e kd [x0, x1, x2, x3, x4, x5, x6, x7, x8, x9, x10, x11] most) = out := by rw [h2, madeS, List.take_of_length_le (i := j.toNat) (by omega)]
    exact W.ret ⟨.string out, ResIs.one, hS.bel, (by rw [e0_0])⟩
end Go.Proofs.YtokdjjebnomciaaDoor

namespace Go.Proofs.YtokdjjebnomciaaDoor
open Go.Wk Go.RowKit Go.Lib
set_option linter.unusedVariables false
set_option linter.unusedSimpArgs false
theorem F58 {a : Int} {b : Int} {w : World} (i_a : InK .u8 a) (i_b : InK .u8 b) : Calls Tryd.prog 58 #[.int .u8 a, .int .u8 b] w (Ret w (fun r _ => r = .bool (fitC a b))) := by
  have b_b := bd_u8 i_b
  have b_a := bd_u8 i_a
  have hS := St.start0 w
  refine enterR Tryd.func58 rfl Tryd.ntmps58 Tryd.results58 rfl ?_
  refine W.seq ?_
  refine W.reg ?_
  refine Wx.rd (v := .bool false) (rd_assign rfl) rfl ?_
  refine Wx.nil ?_
  refine W.seq ?_
  refine W.reg ?_
  refine Wx.rd (v := .int .u8 a) (rd_move rfl) rfl ?_
  refine Wx.rd (v := .int .u8 b) (rd_move rfl) rfl ?_
  refine Wx.rd (v := .int .u8 (max a b)) (rd_max rfl rfl) rfl ?_
  refine Wx.rd (v := .int .u8 a) (rd_move rfl) rfl ?_
  refine Wx.rd (v := .int .u8 b) (rd_move rfl) rfl ?_
  refine Wx.rd (v := .int .u8 (min a b)) (rd_min rfl rfl) rfl ?_
  refine Wx.rd (v := .int .u8 ((max a b) - (min a b))) (rd_sub rfl rfl (in_u8 (by omega) (by omega))) rfl ?_
  refine Wx.rd (v := .bool (decide (((max a b) - (min a b)) = 32))) (rd_eql rfl rfl) rfl ?_
  refine Wx.rd (v := .bool (decide (((max a b) - (min a b)) = 32))) (rd_assign rfl) rfl ?_
  refine Wx.nil ?_
  have e0_0 : (fitC a b) = (decide (((max a b) - (min a b)) = 32)) := by rw [fitC]; exact decide_eq_decide.2 ⟨fun h => by omega, fun h => by omega⟩
  exact W.ret ⟨.bool (decide (((max a b) - (min a b)) = 32)), ResIs.one, hS.bel, (by rw [e0_0])⟩

end Go.Proofs.YtokdjjebnomciaaDoor
