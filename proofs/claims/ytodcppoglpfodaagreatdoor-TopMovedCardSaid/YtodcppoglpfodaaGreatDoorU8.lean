/-
  WHAT IS PROVED HERE, TEXT BY TEXT (several texts of one prover, joined to one file; the conditions stand in each statement):
  * WHAT IS PROVED HERE: what functions hand back, each out of its own code; the conditions stand in each statement.
  * WHAT IS PROVED HERE: what functions hand back, each out of its own code; the conditions stand in each statement.
  * WHAT IS PROVED HERE: what functions hand back, each out of its own code; the conditions stand in each statement.
  * WHAT IS PROVED HERE: what functions hand back, each out of its own code; the conditions stand in each statement.
  * WHAT IS PROVED HERE: what functions hand back, each out of its own code; the conditions stand in each statement.
  * WHAT IS PROVED HERE: what functions hand back, each out of its own code; the conditions stand in each statement.
  * WHAT IS PROVED HERE: what functions hand back, each out of its own code; the conditions stand in each statement.
  * WHAT IS PROVED HERE: what functions hand back, each out of its own code; the conditions stand in each statement.
  * WHAT IS PROVED HERE: what functions hand back, each out of its own code; the conditions stand in each statement.
  * WHAT IS PROVED HERE: what functions hand back, each out of its own code; the conditions stand in each statement.
  * WHAT IS PROVED HERE: slices of slices of the call's own: the rows are objects of the call as well, and can be written, or turned into other ones. Conditions stand in each statement; they hold over any program.
  * WHAT IS PROVED HERE: scopes in which the run jumps back to one label: what holds at every jump, and a measure that every pass from the label lowers. Nothing here speaks of a program.
  * WHAT IS PROVED HERE: what functions hand back, each out of its own code; the conditions stand in each statement.
  * WHAT IS PROVED HERE: what functions hand back, each out of its own code; the conditions stand in each statement.
  * WHAT IS PROVED HERE: what functions hand back, each out of its own code; the conditions stand in each statement.
  * WHAT IS PROVED HERE: what functions hand back, each out of its own code; the conditions stand in each statement.
  * WHAT IS PROVED HERE: what functions hand back, each out of its own code; the conditions stand in each statement.
  * WHAT IS PROVED HERE: what functions hand back, each out of its own code; the conditions stand in each statement.
  * WHAT IS PROVED HERE: what functions hand back, each out of its own code; the conditions stand in each statement.
  * WHAT IS PROVED HERE: what functions hand back, each out of its own code; the conditions stand in each statement.
  * WHAT IS PROVED HERE: what functions hand back, each out of its own code; the conditions stand in each statement.
  * WHAT IS PROVED HERE: what functions hand back, each out of its own code; the conditions stand in each statement.
  * WHAT IS PROVED HERE: what functions hand back, each out of its own code; the conditions stand in each statement.
  * WHAT IS PROVED HERE: what functions hand back, each out of its own code; the conditions stand in each statement.
-/
import Derived.Test.YtodcppoglpfodaaGreatDoorProg
import Derived.Test.YtodcppoglpfodaaGreatDoorU2
import Derived.Test.YtodcppoglpfodaaGreatDoorU7
import Derived.ScopeJumps
import Derived.Test.YtodcppoglpfodaaGreatDoorU5

set_option linter.unusedVariables false
set_option linter.unusedSimpArgs false

namespace Go.Proofs.YtodcppoglpfodaaGreatDoor
open Go.Wk Go.RowKit Go.Lib
set_option linter.unusedVariables false
set_option linter.unusedSimpArgs false


theorem C5.F50 {rim : ByteArray} {w : World} (s_rim : rim.size ≤ maxLen) (p_12 : (rim.size : Int) ≤ 12) (p_l : Lets rim) (hG : Laid w) : Calls Tryz.prog 50 #[.string rim] w (Ret w (fun r _ => r = .string (restV rim))) := by
  have hlb := takS_bd (s := rim)
  have hS := St.start0 w
  refine enterR Tryz.func50 rfl Tryz.ntmps50 Tryz.results50 rfl ?_
  refine W.seq ?_
  refine W.reg ?_
  refine Wx.rd (v := .string ({ data := #[] } : ByteArray)) (rd_assign rfl) rfl ?_
  refine Wx.nil ?_
  refine W.seq ?_
  refine W.reg ?_
  refine Wx.alloc (cs := [(.pointer none), (.slice none 0 0)]) hS Tryz.zeroValue48 rfl rfl (fun g_1 w_2 hx_4 hb_3 hS => ?_)
  refine Wx.nil ?_
  refine W.seq ?_
  refine W.reg ?_
  refine Wx.rd (v := .string rim) (rd_move rfl) rfl ?_
  refine Wx.callF (run_callF Tryz.call66 rfl) (C5.F66b (by first | assumption | (simp only [maxLen]; omega) | (simp only [ByteArray.size_extract, ByteArray.size_append, maxLen] at *; omega) | decide) (by omega) (by omega) hS.fb_lt (hG.ext hS.bel)) rfl ?_
  rintro r_5 w_6 hx_7 ⟨v_8, v_9, rfl, hv_10, hv_11⟩
  have hS := hS.pushFr hx_7 hv_11
  refine Wx.rd (v := .tuple #[v_8, v_9]) (rd_move rfl) rfl ?_
  refine Wx.rd (v := v_8) (rd_extract rfl rfl) rfl ?_
  refine Wx.rd (v := v_9) (rd_extract rfl rfl) rfl ?_
  refine Wx.rd (v := v_8) (rd_assign rfl) rfl ?_
  refine Wx.rd (v := v_9) (rd_assign rfl) rfl ?_
  refine Wx.nil ?_
  refine W.seq ?_
  refine W.seq ?_
  refine W.reg ?_
  refine Wx.rd (v := v_9) (rd_move rfl) rfl ?_
  refine Wx.rd (v := .int .i64 (((takS rim).2).length : Int)) (rd_lenR hS 0 rfl rfl Tryz.underlying23) rfl ?_
  refine Wx.rd (v := .int .i64 0) (rd_move rfl) rfl ?_
  refine Wx.nil ?_
  refine W.block ?_
  have hbd := bld_start hS 1 rfl
  have hS := (hS.front 1 rfl).tl
  refine W.loop [7, 15, 16, 17, 18, 19, 20, 21, 22, 23] (fun (k : Int) => [(15, .int .i64 k)]) (fun (k : Int) w' => St w [] w' [.row (tI .i64) 3 v_9 ((takS rim).2)] ∧ 0 ≤ k ∧ k ≤ (takS rim).2.length ∧ Lib.IsBuilderF 48 5 w.heap.size g_1 (Lib.byteCells (((takS rim).2.take k.toNat).map (byteAt rim))) w') (fun (k : Int) => ((takS rim).2.length - k).toNat) 0 ⟨rfl, trivial⟩ ⟨hS, (by first | omega | simp), (by first | omega | simp), (hbd)⟩ ?_
  rintro k u_15 w_14 ⟨hS, h0, h1, hbd⟩
  refine W.seq ?_
  refine W.reg ?_
  refine Wx.rd (v := .bool (decide (k < (((takS rim).2).length : Int)))) (rd_lss rfl rfl) rfl ?_
  refine Wx.nil ?_
  refine W.seq ?_
  refine W.condD rfl (fun c0 => ?_) (fun c0 => ?_)
  · -- yes
    have hkb := hlb.1 (ix 0 (takS rim).2 k) (ix_mem h0 c0)
    refine W.skip ?_
    refine W.seq ?_
    refine W.block ?_
    refine W.seq ?_
    refine W.reg ?_
    refine Wx.indexR hS 0 rfl rfl rfl Tryz.underlying23 Tryz.sizeOf3 (by first | omega | (simp only [List.length_set, List.length_append, List.length_cons, List.length_nil, List.length_replicate]; omega)) (by first | omega | (simp only [List.length_set, List.length_append, List.length_cons, List.length_nil, List.length_replicate]; omega)) rfl (fun g_16 hg_17 => ?_)
    refine Wx.rd (v := .int .i64 (ix 0 ((takS rim).2) k)) (rd_loadRI' hS 0 rfl hg_17 rfl (by first | omega | (simp only [List.length_set, List.length_append, List.length_cons, List.length_nil, List.length_replicate]; omega)) (by first | omega | (simp only [List.length_set, List.length_append, List.length_cons, List.length_nil, List.length_replicate]; omega)) Tryz.isAgg3 Tryz.sizeOf3) rfl ?_
    have bd_18 := bd_i64 (hS.rowInK' 0 rfl (by first | omega | (simp only [List.length_set, List.length_append, List.length_cons, List.length_nil, List.length_replicate]; omega)) (by first | omega | (simp only [List.length_set, List.length_append, List.length_cons, List.length_nil, List.length_replicate]; omega)) : InK .i64 (ix 0 ((takS rim).2) k))
    refine Wx.rd (v := .int .i64 (ix 0 ((takS rim).2) k)) (rd_assign rfl) rfl ?_
    refine Wx.nil ?_
    refine W.reg ?_
    refine Wx.rd (v := .string rim) (rd_move rfl) rfl ?_
    refine Wx.rd (v := .int .i64 (ix 0 ((takS rim).2) k)) (rd_move rfl) rfl ?_
    refine Wx.rd (v := .int .u8 (tabAt rim (ix 0 ((takS rim).2) k))) (rd_indexS' (by kernel_rfl) rfl Tryz.underlying9 (by omega) (by omega)) rfl ?_
    have bd_19 := tabAt_bd rim (ix 0 ((takS rim).2) k)
    refine Wx.callB (run_callF Tryz.call17 rfl) (F17 hbd rfl (by rw [List.length_map, List.length_take]; omega) hS.bel.size) rfl ?_
    rintro r_20 w_21 ⟨rfl, hbd2, hBe, hBk⟩
    have hS := bld_keep hS hbd hBe hBk
    have hbd := hbd2
    refine Wx.nil ?_
    refine W.reg ?_
    refine Wx.rd (v := .int .i64 (k + 1)) (rd_add rfl rfl (in_i64 (by omega) (by omega))) rfl ?_
    refine Wx.rd (v := .int .i64 (k + 1)) (rd_move rfl) rfl ?_
    refine Wx.nil ?_
    refine ⟨k + 1, (by show ((takS rim).2.length - (k + 1)).toNat < ((takS rim).2.length - k).toNat; omega), ?_, ?_, Out.look rfl Out.self⟩
    · exact ⟨hS, (by first | omega | assumption), (by first | omega | assumption), (by rw [take_ix (d := 0) h0 c0, List.map_append]; exact hbd)⟩
    · exact ⟨rfl, trivial⟩
  · -- no
    refine W.exit rfl ?_
    refine W.seq ?_
    refine W.reg ?_
    refine Wx.callB (run_callF Tryz.call18 rfl) (F18 hbd hS.bel.size) rfl ?_
    rintro r_22 w_23 ⟨rfl, hBe⟩
    have hS := (St.start0 w).ext (Below.trans hS.bel hBe)
    refine Wx.rd (v := .string (mkB (((takS rim).2.take k.toNat).map (byteAt rim)))) (rd_assign rfl) rfl ?_
    refine Wx.nil ?_
    have e0_0 : (restV rim) = (mkB (((takS rim).2.take k.toNat).map (byteAt rim))) := by rw [restV, List.take_of_length_le (by omega)]
    exact W.ret ⟨.string (mkB (((takS rim).2.take k.toNat).map (byteAt rim))), ResIs.one, hS.bel, (by rw [e0_0])⟩
end Go.Proofs.YtodcppoglpfodaaGreatDoor

namespace Go.Proofs.YtodcppoglpfodaaGreatDoor
open Go.Wk Go.RowKit Go.Lib
set_option linter.unusedVariables false
set_option linter.unusedSimpArgs false


theorem C5.F31 {rim : ByteArray} {w : World} (s_rim : rim.size ≤ maxLen) (hG : Laid w) : Calls Tryz.prog 31 #[.string rim] w (Ret w (fun r _ => r = .tuple #[.string (restE rim), .int .i64 (rimE rim)])) := by
  have hS := St.start0 w
  refine enterR Tryz.func31 rfl Tryz.ntmps31 Tryz.results31 rfl ?_
  refine W.seq ?_
  refine W.reg ?_
  refine Wx.rd (v := .string ({ data := #[] } : ByteArray)) (rd_assign rfl) rfl ?_
  refine Wx.rd (v := .int .i64 0) (rd_assign rfl) rfl ?_
  refine Wx.nil ?_
  refine W.seq ?_
  refine W.seq ?_
  refine W.reg ?_
  refine Wx.rd (v := .string rim) (rd_move rfl) rfl ?_
  refine Wx.callF (run_callF Tryz.call32 rfl) (C5.F32 (by first | assumption | (simp only [maxLen]; omega) | (simp only [ByteArray.size_extract, ByteArray.size_append, maxLen] at *; omega) | decide)) rfl ?_
  rintro r_1 w_2 hx_3 rfl
  have hS := hS.ext hx_3
  refine Wx.rd (v := .int .i64 (rimE rim)) (rd_assign rfl) rfl ?_
  refine Wx.nil ?_
  refine W.seq ?_
  refine W.reg ?_
  refine Wx.rd (v := .int .i64 (rimE rim)) (rd_move rfl) rfl ?_
  refine Wx.rd (v := .bool (decide ((rimE rim) ≠ 0))) (rd_neq rfl rfl) rfl ?_
  refine Wx.nil ?_
  refine W.condD rfl (fun c0 => ?_) (fun c0 => ?_)
  · -- yes
    refine W.seq ?_
    refine W.reg ?_
    refine Wx.rd (v := .int .i64 (rimE rim)) (rd_move rfl) rfl ?_
    refine Wx.rd (v := .string ({ data := #[] } : ByteArray)) (rd_assign rfl) rfl ?_
    refine Wx.rd (v := .int .i64 (rimE rim)) (rd_assign rfl) rfl ?_
    refine Wx.nil ?_
    have e0_0 : (restE rim) = ({ data := #[] } : ByteArray) := by rw [restE, if_neg c0]; rfl
    exact W.ret ⟨.tuple #[.string ({ data := #[] } : ByteArray), .int .i64 (rimE rim)], ResIs.two, hS.bel, (by rw [e0_0])⟩
  · -- no
    have hr0 : rimE rim = 0 := by omega
    obtain ⟨hr1, hr2⟩ := rimE_ok hr0
    refine W.skip ?_
    refine W.seq ?_
    refine W.reg ?_
    refine Wx.rd (v := .string rim) (rd_move rfl) rfl ?_
    refine Wx.callF (run_callF Tryz.call50 rfl) (C5.F50 (by first | assumption | (simp only [maxLen]; omega) | (simp only [ByteArray.size_extract, ByteArray.size_append, maxLen] at *; omega) | decide) (by omega) hr2 (hG.ext hS.bel)) rfl ?_
    rintro r_4 w_5 hx_6 rfl
    have hS := hS.ext hx_6
    refine Wx.rd (v := .string (restV rim)) (rd_assign rfl) rfl ?_
    refine Wx.rd (v := .int .i64 0) (rd_assign rfl) rfl ?_
    refine Wx.nil ?_
    have e1_0 : (restE rim) = (restV rim) := by rw [restE, if_pos hr0]
    have e1_1 : (rimE rim) = (0 : Int) := by exact hr0
    exact W.ret ⟨.tuple #[.string (restV rim), .int .i64 0], ResIs.two, hS.bel, (by rw [e1_0, e1_1])⟩
end Go.Proofs.YtodcppoglpfodaaGreatDoor

namespace Go.Proofs.YtodcppoglpfodaaGreatDoor
open Go.Wk Go.RowKit Go.Lib
set_option linter.unusedVariables false
set_option linter.unusedSimpArgs false


set_option maxHeartbeats 2000000 in
theorem C5.F76  {w : World} (hG : Laid w) : Calls Tryz.prog 76 #[] w (Ret w (fun r _ => r = .bool true)) := by
  have hS := St.start0 w
  refine enterR Tryz.func76 rfl Tryz.ntmps76 Tryz.results76 rfl ?_
  refine W.seq ?_
  refine W.reg ?_
  refine Wx.rd (v := .bool false) (rd_assign rfl) rfl ?_
  refine Wx.nil ?_
  refine W.seq ?_
  refine W.reg ?_
  refine Wx.callF (run_callF Tryz.call31 rfl) (C5.F31 (by first | assumption | (simp only [maxLen]; omega) | (simp only [ByteArray.size_extract, ByteArray.size_append, maxLen] at *; omega) | decide) (hG.ext hS.bel)) rfl ?_
  rintro r_1 w_2 hx_3 rfl
  have hS := hS.ext hx_3
  refine Wx.rd (v := .tuple #[.string (restE ({ data := #[97, 98, 66, 99] } : ByteArray)), .int .i64 (rimE ({ data := #[97, 98, 66, 99] } : ByteArray))]) (rd_move rfl) rfl ?_
  refine Wx.rd (v := .string (restE ({ data := #[97, 98, 66, 99] } : ByteArray))) (rd_extract rfl rfl) rfl ?_
  refine Wx.rd (v := .int .i64 (rimE ({ data := #[97, 98, 66, 99] } : ByteArray))) (rd_extract rfl rfl) rfl ?_
  refine Wx.rd (v := .string (restE ({ data := #[97, 98, 66, 99] } : ByteArray))) (rd_assign rfl) rfl ?_
  refine Wx.rd (v := .int .i64 0) (Rd.to (v := .int .i64 (rimE ({ data := #[97, 98, 66, 99] } : ByteArray))) (rd_assign rfl) (congrArg (Value.int .i64) (show (0 : Int) = (rimE ({ data := #[97, 98, 66, 99] } : ByteArray) : Int) from (by decide +kernel)).symm)) rfl ?_
  refine Wx.nil ?_
  refine W.seq ?_
  refine W.reg ?_
  refine Wx.rd (v := .int .i64 0) (rd_move rfl) rfl ?_
  refine Wx.rd (v := .bool true) (Rd.to (v := .bool (decide ((0 : Int) = 0))) (rd_eql rfl rfl) rfl) rfl ?_
  refine Wx.rd (v := .bool true) (rd_move rfl) rfl ?_
  refine Wx.gyes rfl rfl rfl ?_
  refine Wx.rd (v := .string (restE ({ data := #[97, 98, 66, 99] } : ByteArray))) (rd_move rfl) rfl ?_
  refine Wx.gyes rfl rfl rfl ?_
  refine Wx.rd (v := .bool true) (Rd.to (v := .bool ((restE ({ data := #[97, 98, 66, 99] } : ByteArray)) == ({ data := #[97, 99] } : ByteArray))) (rd_eqlS rfl rfl) (congrArg (Value.bool) (show (true : Bool) = ((restE ({ data := #[97, 98, 66, 99] } : ByteArray)) == ({ data := #[97, 99] } : ByteArray) : Bool) from (by decide +kernel)).symm)) rfl ?_
  refine Wx.rd (v := .bool true) (rd_pickT rfl rfl) rfl ?_
  refine Wx.rd (v := .bool true) (rd_move rfl) rfl ?_
  refine Wx.gyes rfl rfl rfl ?_
  refine Wx.callF (run_callF Tryz.call94 rfl) (C3.F94) rfl ?_
  rintro r_4 w_5 hx_6 rfl
  have hS := hS.ext hx_6
  refine Wx.rd (v := .bool true) (rd_pickT rfl rfl) rfl ?_
  refine Wx.rd (v := .bool true) (rd_assign rfl) rfl ?_
  refine Wx.nil ?_
  exact W.ret ⟨.bool true, ResIs.one, hS.bel, rfl⟩
end Go.Proofs.YtodcppoglpfodaaGreatDoor

namespace Go.Proofs.YtodcppoglpfodaaGreatDoor
open Go.Wk Go.RowKit Go.Lib
set_option linter.unusedVariables false
set_option linter.unusedSimpArgs false
theorem elZa_23 : ElemI Tryz.prog 23 3 (.int .i64 0) 1 8 := ElemI.of Tryz.underlying23 (by kernel_rfl) (by first | rfl | kernel_rfl) (by decide)
theorem mixedZa_ : Tryz.prog.follows .mixedOrders = true := by kernel_rfl

theorem F140 {y : Int} {w : World} (i_y : InK .u64 y) (q1 : 1 ≤ y) (q7 : y ≤ 40) : Calls Tryz.prog 140 #[.int .u64 1, .int .u64 y] w (Ret w (fun r _ => r = .tuple #[.int .u64 0, .int .u64 y])) := by
  have b_y := bd_u64 i_y
  have hm := and_mask q1 q7
  have hS := St.start0 w
  refine enterR Tryz.func140 rfl Tryz.ntmps140 Tryz.results140 rfl ?_
  refine W.seq ?_
  refine W.reg ?_
  refine Wx.rd (v := .int .u64 0) (rd_assign rfl) rfl ?_
  refine Wx.rd (v := .int .u64 0) (rd_assign rfl) rfl ?_
  refine Wx.nil ?_
  refine W.seq ?_
  refine W.reg ?_
  refine Wx.rd (v := .int .u64 1) (rd_move rfl) rfl ?_
  refine Wx.rd (v := .int .u64 1) (Rd.to (v := .int .u64 (bits .and .u64 1 4294967295)) (rd_and rfl rfl) (congrArg (Value.int .u64) (show (1 : Int) = (bits .and .u64 1 4294967295 : Int) from (by decide +kernel)).symm)) rfl ?_
  have bd_1 := bd_u64 (bits_in .and .u64 1 4294967295)
  refine Wx.rd (v := .int .u64 1) (rd_assign rfl) rfl ?_
  refine Wx.nil ?_
  refine W.seq ?_
  refine W.reg ?_
  refine Wx.rd (v := .int .u64 1) (rd_move rfl) rfl ?_
  refine Wx.rd (v := .int .u64 0) (Rd.to (v := .int .u64 (1 / 2 ^ min (32 : Int).toNat (IntKind.u64).bits)) (rd_shr rfl rfl (by omega)) (congrArg (Value.int .u64) (show (0 : Int) = (1 / 2 ^ min (32 : Int).toNat (IntKind.u64).bits : Int) from (by decide +kernel)).symm)) rfl ?_
  refine Wx.rd (v := .int .u64 0) (rd_assign rfl) rfl ?_
  refine Wx.nil ?_
  refine W.seq ?_
  refine W.reg ?_
  refine Wx.rd (v := .int .u64 y) (rd_move rfl) rfl ?_
  refine Wx.rd (v := .int .u64 y) (Rd.to (v := .int .u64 (bits .and .u64 y 4294967295)) (rd_and rfl rfl) (congrArg (Value.int .u64) (show (y : Int) = (bits .and .u64 y 4294967295 : Int) from hm.1.symm).symm)) rfl ?_
  have bd_2 := bd_u64 (bits_in .and .u64 y 4294967295)
  refine Wx.rd (v := .int .u64 y) (rd_assign rfl) rfl ?_
  refine Wx.nil ?_
  refine W.seq ?_
  refine W.reg ?_
  refine Wx.rd (v := .int .u64 y) (rd_move rfl) rfl ?_
  refine Wx.rd (v := .int .u64 0) (Rd.to (v := .int .u64 (y / 2 ^ min (32 : Int).toNat (IntKind.u64).bits)) (rd_shr rfl rfl (by omega)) (congrArg (Value.int .u64) (show (0 : Int) = (y / 2 ^ min (32 : Int).toNat (IntKind.u64).bits : Int) from hm.2.symm).symm)) rfl ?_
  refine Wx.rd (v := .int .u64 0) (rd_assign rfl) rfl ?_
  refine Wx.nil ?_
  refine W.seq ?_
  refine W.reg ?_
  refine Wx.rd (v := .int .u64 1) (rd_move rfl) rfl ?_
  refine Wx.rd (v := .int .u64 y) (rd_move rfl) rfl ?_
  refine Wx.rd (v := .int .u64 y) (Rd.to (v := .int .u64 (1 * y)) (rd_mul rfl rfl (in_u64 (by omega) (by omega))) (congrArg (Value.int .u64) (show (y : Int) = (1 * y : Int) from (by omega)).symm)) rfl ?_
  refine Wx.rd (v := .int .u64 y) (rd_assign rfl) rfl ?_
  refine Wx.nil ?_
  refine W.seq ?_
  refine W.reg ?_
  refine Wx.rd (v := .int .u64 0) (rd_move rfl) rfl ?_
  refine Wx.rd (v := .int .u64 y) (rd_move rfl) rfl ?_
  refine Wx.rd (v := .int .u64 0) (Rd.to (v := .int .u64 (0 * y)) (rd_mul rfl rfl (in_u64 (by omega) (by omega))) (congrArg (Value.int .u64) (show (0 : Int) = (0 * y : Int) from (by omega)).symm)) rfl ?_
  refine Wx.rd (v := .int .u64 y) (rd_move rfl) rfl ?_
  refine Wx.rd (v := .int .u64 0) (Rd.to (v := .int .u64 (y / 2 ^ min (32 : Int).toNat (IntKind.u64).bits)) (rd_shr rfl rfl (by omega)) (congrArg (Value.int .u64) (show (0 : Int) = (y / 2 ^ min (32 : Int).toNat (IntKind.u64).bits : Int) from hm.2.symm).symm)) rfl ?_
  refine Wx.rd (v := .int .u64 0) (rd_add (a := 0) (b := 0) rfl rfl (in_u64 (by omega) (by omega))) rfl ?_
  refine Wx.rd (v := .int .u64 0) (rd_assign rfl) rfl ?_
  refine Wx.nil ?_
  refine W.seq ?_
  refine W.reg ?_
  refine Wx.rd (v := .int .u64 0) (rd_move rfl) rfl ?_
  refine Wx.rd (v := .int .u64 0) (Rd.to (v := .int .u64 (bits .and .u64 0 4294967295)) (rd_and rfl rfl) (congrArg (Value.int .u64) (show (0 : Int) = (bits .and .u64 0 4294967295 : Int) from (by decide +kernel)).symm)) rfl ?_
  have bd_3 := bd_u64 (bits_in .and .u64 0 4294967295)
  refine Wx.rd (v := .int .u64 0) (rd_assign rfl) rfl ?_
  refine Wx.nil ?_
  refine W.seq ?_
  refine W.reg ?_
  refine Wx.rd (v := .int .u64 0) (rd_move rfl) rfl ?_
  refine Wx.rd (v := .int .u64 0) (Rd.to (v := .int .u64 (0 / 2 ^ min (32 : Int).toNat (IntKind.u64).bits)) (rd_shr rfl rfl (by omega)) (congrArg (Value.int .u64) (show (0 : Int) = (0 / 2 ^ min (32 : Int).toNat (IntKind.u64).bits : Int) from (by decide +kernel)).symm)) rfl ?_
  refine Wx.rd (v := .int .u64 0) (rd_assign rfl) rfl ?_
  refine Wx.nil ?_
  refine W.seq ?_
  refine W.reg ?_
  refine Wx.rd (v := .int .u64 0) (rd_move rfl) rfl ?_
  refine Wx.rd (v := .int .u64 1) (rd_move rfl) rfl ?_
  refine Wx.rd (v := .int .u64 0) (rd_move rfl) rfl ?_
  refine Wx.rd (v := .int .u64 0) (rd_mul (a := 1) (b := 0) rfl rfl (in_u64 (by omega) (by omega))) rfl ?_
  refine Wx.rd (v := .int .u64 0) (rd_add (a := 0) (b := 0) rfl rfl (in_u64 (by omega) (by omega))) rfl ?_
  refine Wx.rd (v := .int .u64 0) (rd_assign rfl) rfl ?_
  refine Wx.nil ?_
  refine W.seq ?_
  refine W.reg ?_
  refine Wx.rd (v := .int .u64 0) (rd_move rfl) rfl ?_
  refine Wx.rd (v := .int .u64 0) (rd_move rfl) rfl ?_
  refine Wx.rd (v := .int .u64 0) (rd_mul (a := 0) (b := 0) rfl rfl (in_u64 (by omega) (by omega))) rfl ?_
  refine Wx.rd (v := .int .u64 0) (rd_move rfl) rfl ?_
  refine Wx.rd (v := .int .u64 0) (rd_add (a := 0) (b := 0) rfl rfl (in_u64 (by omega) (by omega))) rfl ?_
  refine Wx.rd (v := .int .u64 0) (rd_move rfl) rfl ?_
  refine Wx.rd (v := .int .u64 0) (Rd.to (v := .int .u64 (0 / 2 ^ min (32 : Int).toNat (IntKind.u64).bits)) (rd_shr rfl rfl (by omega)) (congrArg (Value.int .u64) (show (0 : Int) = (0 / 2 ^ min (32 : Int).toNat (IntKind.u64).bits : Int) from (by decide +kernel)).symm)) rfl ?_
  refine Wx.rd (v := .int .u64 0) (rd_add (a := 0) (b := 0) rfl rfl (in_u64 (by omega) (by omega))) rfl ?_
  refine Wx.rd (v := .int .u64 0) (rd_assign rfl) rfl ?_
  refine Wx.nil ?_
  refine W.seq ?_
  refine W.reg ?_
  refine Wx.rd (v := .int .u64 1) (rd_move rfl) rfl ?_
  refine Wx.rd (v := .int .u64 y) (rd_move rfl) rfl ?_
  refine Wx.rd (v := .int .u64 y) (Rd.to (v := .int .u64 (1 * y)) (rd_mul rfl rfl (in_u64 (by omega) (by omega))) (congrArg (Value.int .u64) (show (y : Int) = (1 * y : Int) from (by omega)).symm)) rfl ?_
  refine Wx.rd (v := .int .u64 y) (rd_assign rfl) rfl ?_
  refine Wx.nil ?_
  exact W.ret ⟨.tuple #[.int .u64 0, .int .u64 y], ResIs.two, hS.bel, rfl⟩

theorem F129 {y : Int} {w : World} (i_y : InK .u64 y) (q1 : 1 ≤ y) (q7 : y ≤ 40) : Calls Tryz.prog 129 #[.int .u64 1, .int .u64 y] w (Ret w (fun r _ => r = .tuple #[.int .u64 0, .int .u64 y])) := by
  have b_y := bd_u64 i_y
  have hS := St.start0 w
  refine enterR Tryz.func129 rfl Tryz.ntmps129 Tryz.results129 rfl ?_
  refine W.seq ?_
  refine W.reg ?_
  refine Wx.rd (v := .int .u64 0) (rd_assign rfl) rfl ?_
  refine Wx.rd (v := .int .u64 0) (rd_assign rfl) rfl ?_
  refine Wx.nil ?_
  refine W.seq ?_
  refine W.condF rfl rfl ?_
  refine W.skip ?_
  refine W.seq ?_
  refine W.reg ?_
  refine Wx.rd (v := .int .u64 1) (rd_move rfl) rfl ?_
  refine Wx.rd (v := .int .u64 y) (rd_move rfl) rfl ?_
  refine Wx.callF (run_callF Tryz.call140 rfl) (F140 i_y (by omega) (by omega)) rfl ?_
  rintro r_1 w_2 hx_3 rfl
  have hS := hS.ext hx_3
  refine Wx.rd (v := .tuple #[.int .u64 0, .int .u64 y]) (rd_move rfl) rfl ?_
  refine Wx.rd (v := .int .u64 0) (rd_extract rfl rfl) rfl ?_
  refine Wx.rd (v := .int .u64 y) (rd_extract rfl rfl) rfl ?_
  refine Wx.rd (v := .int .u64 0) (rd_assign rfl) rfl ?_
  refine Wx.rd (v := .int .u64 y) (rd_assign rfl) rfl ?_
  refine Wx.nil ?_
  refine W.seq ?_
  refine W.reg ?_
  refine Wx.rd (v := .int .u64 0) (rd_move rfl) rfl ?_
  refine Wx.rd (v := .int .u64 y) (rd_move rfl) rfl ?_
  refine Wx.rd (v := .int .u64 0) (rd_assign rfl) rfl ?_
  refine Wx.rd (v := .int .u64 y) (rd_assign rfl) rfl ?_
  refine Wx.nil ?_
  exact W.ret ⟨.tuple #[.int .u64 0, .int .u64 y], ResIs.two, hS.bel, rfl⟩

theorem F112 {xv : Value} {Fr_xv : List (Option Nat)} {n : Int} {a : Int} {w : World} (h_xv : V (tSl (tI .i64)) [a] xv Fr_xv w) (i_n : InK .i64 n) (q1 : 1 ≤ n) (q7 : n ≤ 40) : Calls Tryz.prog 112 #[xv, .int .i64 n] w (Ret w (fun r w' => ∃ rv, r = rv ∧ Fresh (tI .i64) 3 (List.replicate n.toNat a) rv w.heap.size w')) := by
  have b_n := bd_i64 i_n
  have a_xv := h_xv.any
  have l_xv := h_xv.len63
  have hS := St.start0 w
  refine enterR Tryz.func112 rfl Tryz.ntmps112 Tryz.results112 rfl ?_
  refine W.seq ?_
  refine W.reg ?_
  refine Wx.rd (v := (.slice none 0 0)) (rd_assign rfl) rfl ?_
  refine Wx.nil ?_
  refine W.seq ?_
  refine W.seq ?_
  refine W.reg ?_
  refine Wx.rd (v := .int .i64 n) (rd_move rfl) rfl ?_
  refine Wx.rd (v := .bool (decide (n < 0))) (rd_lss rfl rfl) rfl ?_
  refine Wx.nil ?_
  refine W.condF rfl (decide_eq_false (by omega)) ?_
  refine W.skip ?_
  refine W.seq ?_
  refine W.reg ?_
  refine Wx.rd (v := xv) (rd_move rfl) rfl ?_
  refine Wx.rd (v := .int .i64 1) (Rd.to (v := .int .i64 ([a].length : Int)) (rd_lenV rfl (hS.arg a_xv) Tryz.underlying23) (congrArg (Value.int .i64) (show (1 : Int) = (([a].length : Int) : Int) from rfl).symm)) rfl ?_
  refine Wx.rd (v := .int .u64 1) (rd_convIn rfl Tryz.underlying3 Tryz.underlying149 (in_u64 (by omega) (by omega))) rfl ?_
  refine Wx.rd (v := .int .i64 n) (rd_move rfl) rfl ?_
  refine Wx.rd (v := .int .u64 n) (rd_convIn rfl Tryz.underlying3 Tryz.underlying149 (in_u64 (by omega) (by omega))) rfl ?_
  refine Wx.callF (run_callF Tryz.call129 rfl) (F129 (in_u64 (by omega) (by omega)) (by omega) (by omega)) rfl ?_
  rintro r_1 w_2 hx_3 rfl
  have hS := hS.ext hx_3
  refine Wx.rd (v := .tuple #[.int .u64 0, .int .u64 n]) (rd_move rfl) rfl ?_
  refine Wx.rd (v := .int .u64 0) (rd_extract rfl rfl) rfl ?_
  refine Wx.rd (v := .int .u64 n) (rd_extract rfl rfl) rfl ?_
  refine Wx.rd (v := .int .u64 0) (rd_assign rfl) rfl ?_
  refine Wx.rd (v := .int .u64 n) (rd_assign rfl) rfl ?_
  refine Wx.nil ?_
  refine W.seq ?_
  refine W.seq ?_
  refine W.reg ?_
  refine Wx.rd (v := .int .u64 0) (rd_move rfl) rfl ?_
  refine Wx.rd (v := .bool false) (Rd.to (v := .bool (decide ((0 : Int) < 0))) (rd_gtr rfl rfl) rfl) rfl ?_
  refine Wx.rd (v := .bool false) (rd_move rfl) rfl ?_
  refine Wx.gyes rfl rfl rfl ?_
  refine Wx.rd (v := .int .u64 n) (rd_move rfl) rfl ?_
  refine Wx.gyes rfl rfl rfl ?_
  refine Wx.rd (v := .bool (decide (9223372036854775807 < n))) (rd_gtr rfl rfl) rfl ?_
  refine Wx.rd (v := .bool (decide (9223372036854775807 < n))) (rd_pickF rfl rfl) rfl ?_
  refine Wx.nil ?_
  refine W.condF rfl (by simp; omega) ?_
  refine W.skip ?_
  refine W.seq ?_
  refine W.reg ?_
  refine Wx.rd (v := .int .u64 n) (rd_move rfl) rfl ?_
  refine Wx.rd (v := .int .i64 n) (rd_convIn rfl Tryz.underlying149 Tryz.underlying3 (in_i64 (by omega) (by omega))) rfl ?_
  refine Wx.make (t := (tI .i64)) (zy := (0 : Int)) (m := n.toNat) elZa_23 rfl rfl (fun _ _ => ⟨rfl, by decide, by decide⟩) hS (congrArg (Value.int .i64) (by omega)) (congrArg (Value.int .i64) (by omega)) (by omega) (by simp only [maxLen]; omega) rfl (fun v_4 w_5 hx_6 hS => ?_)
  refine Wx.rd (v := v_4) (rd_assign rfl) rfl ?_
  refine Wx.nil ?_
  refine W.seq ?_
  refine W.reg ?_
  refine Wx.rd (v := v_4) (rd_move rfl) rfl ?_
  refine Wx.rd (v := xv) (rd_move rfl) rfl ?_
  have hrl : (List.replicate n.toNat (0 : Int)).length = n.toNat := by simp
  refine Wx.copyW (c := 1) (yn := List.replicate 1 a ++ List.replicate (n.toNat - 1) 0) rfl Tryz.underlying23 Tryz.sizeOf3 hS 0 rfl rfl (by simp; omega) rfl (Src.ofV (hS.arg a_xv)) rfl (by simp; omega) (rep_first (by omega)) (fun w_9 hz_10 hS => ?_)
  refine Wx.rd (v := .int .i64 1) (rd_assign rfl) rfl ?_
  refine Wx.nil ?_
  refine W.seq ?_
  refine W.block ?_
  refine W.loop [8, 34, 35, 36, 37, 38, 39, 40, 41, 42, 43, 44, 45, 46] (fun x : Int × (List Int) => match x with | (b, out) => [(8, .int .i64 b)]) (fun (x : Int × (List Int)) w' => match x with | (b, out) => St w [] w' [.row (tI .i64) 3 v_4 out] ∧ 1 ≤ b ∧ b ≤ n ∧ out = List.replicate b.toNat a ++ List.replicate (n.toNat - b.toNat) 0 ∧ (out.length : Int) = n) (fun x : Int × (List Int) => match x with | (b, out) => (n - b).toNat) (1, List.replicate 1 a ++ List.replicate (n.toNat - 1) 0) ⟨rfl, trivial⟩ ⟨hS, (by first | omega | simp), (by first | omega | simp), (rfl), (by simp; omega)⟩ ?_
  rintro ⟨b, out⟩ u_12 w_11 ⟨hS, h0, h1, h2, h3⟩
  refine W.seq ?_
  refine W.seq ?_
  refine W.reg ?_
  refine Wx.rd (v := .int .i64 b) (rd_move rfl) rfl ?_
  refine Wx.rd (v := v_4) (rd_move rfl) rfl ?_
  refine Wx.rd (v := .int .i64 (out.length : Int)) (rd_lenR hS 0 rfl rfl Tryz.underlying23) rfl ?_
  refine Wx.rd (v := .bool (decide (b < (out.length : Int)))) (rd_lss rfl rfl) rfl ?_
  refine Wx.nil ?_
  refine W.condD rfl (fun c2 => ?_) (fun c2 => ?_)
  · -- yes
    refine W.skip ?_
    refine W.block ?_
    refine W.regP mixedZa_ (fun w_13 hx_14 => ?_)
    have hS := hS.ext hx_14
    refine Wp.rd (v := .int .i64 b) 0 rfl (by kernel_rfl) (fun _ => (rd_move rfl)) rfl ?_
    refine Wp.rd (v := v_4) 1 rfl (by kernel_rfl) (fun _ => (rd_move rfl)) rfl ?_
    refine Wp.rd (v := .int .i64 b) 2 rfl (by kernel_rfl) (fun _ => (rd_move rfl)) rfl ?_
    refine Wp.ex2 3 rfl (by kernel_rfl) (rd_tailR hS 0 rfl Tryz.underlying23 Tryz.sizeOf3 rfl rfl (by omega) (by omega)) rfl (fun g_15 c_16 hg_17 => ?_)
    refine Wp.rd (v := v_4) 4 rfl (by kernel_rfl) (fun _ => (rd_move rfl)) rfl ?_
    refine Wp.rd (v := .int .i64 b) 5 rfl (by kernel_rfl) (fun _ => (rd_move rfl)) rfl ?_
    refine Wp.ex2 6 rfl (by kernel_rfl) (rd_headR hS 0 rfl Tryz.underlying23 Tryz.sizeOf3 rfl rfl (by omega) (by omega)) rfl (fun g_18 c_19 hg_20 => ?_)
    refine Wp.br [7] (by kernel_rfl) (by decide) ⟨⟨_, rfl, ?_⟩, trivial⟩
    refine Wx.copyR (c := min (b + b) n - b) (yn := List.replicate (min (b + b) n).toNat a ++ List.replicate (n.toNat - (min (b + b) n).toNat) 0) rfl Tryz.underlying23 Tryz.sizeOf3 hS 0 rfl hg_17 rfl (by show b.toNat * 1 + (out.length - b.toNat) ≤ out.length; omega) rfl (Src.headR hS 0 rfl hg_20 (by omega)) rfl (by rw [List.length_take, Nat.min_eq_left (show b.toNat ≤ out.length by omega), Nat.min_def, Int.min_def]; split <;> split <;> omega) (by rw [h2]; exact rep_next (by omega) (by omega)) (fun w_21 hz_22 hS => ?_)
    refine Wx.nil ?_
    refine Wp.rd (v := .int .i64 (b + (min (b + b) n - b))) 8 rfl (by kernel_rfl) (fun _ => (rd_add rfl rfl (in_i64 (by omega) (by omega)))) rfl ?_
    refine Wp.rd (v := .int .i64 (b + (min (b + b) n - b))) 9 rfl (by kernel_rfl) (fun _ => (rd_assign rfl)) rfl ?_
    refine Wp.done (by kernel_rfl) ?_
    refine ⟨(b + (min (b + b) n - b), List.replicate (min (b + b) n).toNat a ++ List.replicate (n.toNat - (min (b + b) n).toNat) 0), (by show (n - (b + (min (b + b) n - b))).toNat < (n - b).toNat; omega), ?_, ?_, Out.look rfl Out.self⟩
    · exact ⟨hS, (by first | omega | assumption), (by first | omega | assumption), (by rw [show b + (min (b + b) n - b) = min (b + b) n by omega]), (by simp; omega)⟩
    · exact ⟨rfl, trivial⟩
  · -- no
    refine W.exit rfl ?_
    refine W.seq ?_
    refine W.reg ?_
    refine Wx.rd (v := v_4) (rd_move rfl) rfl ?_
    refine Wx.rd (v := v_4) (rd_assign rfl) rfl ?_
    refine Wx.nil ?_
    have e0_0 : List.replicate n.toNat a = out := by rw [h2, show n.toNat - b.toNat = 0 by omega, show b = n by omega]; simp
    exact W.ret ⟨v_4, ResIs.one, hS.bel, ⟨v_4, rfl, (by rw [e0_0]; exact (hS.fr 0 rfl flat_int))⟩⟩
end Go.Proofs.YtodcppoglpfodaaGreatDoor

namespace Go.Proofs.YtodcppoglpfodaaGreatDoor
open Go.Wk Go.RowKit Go.Lib
set_option linter.unusedVariables false
set_option linter.unusedSimpArgs false


theorem F115 {xv : Value} {xs : List Int} {Fr_xv : List (Option Nat)} {n : Int} {w : World} (h_xv : V (tSl (tI .i64)) xs xv Fr_xv w) (i_n : InK .i64 n) : Calls Tryz.prog 115 #[xv, .int .i64 n] w (Ret w (fun r _ => r = .int .i64 (idxP (fun y => decide (y = n)) 0 xs))) := by
  have b_n := bd_i64 i_n
  have a_xv := h_xv.any
  have l_xv := h_xv.len63
  have hS := St.start0 w
  refine enterR Tryz.func115 rfl Tryz.ntmps115 Tryz.results115 rfl ?_
  refine W.seq ?_
  refine W.reg ?_
  refine Wx.rd (v := .int .i64 0) (rd_assign rfl) rfl ?_
  refine Wx.nil ?_
  refine W.seq ?_
  refine W.seq ?_
  refine W.reg ?_
  refine Wx.rd (v := xv) (rd_move rfl) rfl ?_
  refine Wx.rd (v := .int .i64 (xs.length : Int)) (rd_lenV rfl (hS.arg a_xv) Tryz.underlying23) rfl ?_
  refine Wx.rd (v := .int .i64 0) (rd_move rfl) rfl ?_
  refine Wx.nil ?_
  refine W.block ?_
  refine W.loop [4, 5, 8, 9, 10, 11, 12, 13, 14, 15, 16, 17, 18] (fun (k : Int) => [(8, .int .i64 k)]) (fun (k : Int) w' => St w [] w' [] ∧ 0 ≤ k ∧ k ≤ xs.length ∧ idxP (fun y => decide (y = n)) k (xs.drop k.toNat) = idxP (fun y => decide (y = n)) 0 xs) (fun (k : Int) => (xs.length - k).toNat) 0 ⟨rfl, trivial⟩ ⟨hS, (by first | omega | simp), (by first | omega | simp), (by simp)⟩ ?_
  rintro k u_2 w_1 ⟨hS, h0, h1, h2⟩
  refine W.seq ?_
  refine W.reg ?_
  refine Wx.rd (v := .bool (decide (k < (xs.length : Int)))) (rd_lss rfl rfl) rfl ?_
  refine Wx.nil ?_
  refine W.seq ?_
  refine W.condD rfl (fun c0 => ?_) (fun c0 => ?_)
  · -- yes
    refine W.skip ?_
    refine W.seq ?_
    refine W.block ?_
    refine W.seq ?_
    refine W.reg ?_
    refine Wx.rd (v := .int .i64 k) (rd_move rfl) rfl ?_
    refine Wx.rd (v := .int .i64 k) (rd_assign rfl) rfl ?_
    refine Wx.nil ?_
    refine W.seq ?_
    refine W.reg ?_
    refine Wx.rd (v := .int .i64 n) (rd_move rfl) rfl ?_
    refine Wx.rd (v := xv) (rd_move rfl) rfl ?_
    refine Wx.rd (v := .int .i64 k) (rd_move rfl) rfl ?_
    refine Wx.ex (rd_index 0 (hS.arg a_xv) rfl rfl Tryz.underlying23 Tryz.sizeOf3 (by first | omega | (simp only [List.length_set, List.length_append, List.length_cons, List.length_nil, List.length_replicate]; omega)) (by first | omega | (simp only [List.length_set, List.length_append, List.length_cons, List.length_nil, List.length_replicate]; omega))) rfl (fun p_3 hp_4 => ?_)
    refine Wx.rd (v := .int .i64 (ix 0 xs k)) (rd_loadI hp_4 rfl Tryz.isAgg3 Tryz.sizeOf3) rfl ?_
    have bd_5 := bd_i64 hp_4.inK
    refine Wx.rd (v := .bool (decide (n = (ix 0 xs k)))) (rd_eql rfl rfl) rfl ?_
    refine Wx.nil ?_
    refine W.condD rfl (fun c1 => ?_) (fun c1 => ?_)
    · -- yes
      refine W.seq ?_
      refine W.reg ?_
      refine Wx.rd (v := .int .i64 k) (rd_move rfl) rfl ?_
      refine Wx.rd (v := .int .i64 k) (rd_assign rfl) rfl ?_
      refine Wx.nil ?_
      have e0_0 : (idxP (fun y => decide (y = n)) 0 xs) = (k : Int) := by exact idxP_here h0 c0 h2 (decide_eq_true c1.symm)
      exact W.ret ⟨.int .i64 k, ResIs.one, hS.bel, (by rw [e0_0])⟩
    · -- no
      refine W.skip ?_
      refine W.reg ?_
      refine Wx.rd (v := .int .i64 (k + 1)) (rd_add rfl rfl (in_i64 (by omega) (by omega))) rfl ?_
      refine Wx.rd (v := .int .i64 (k + 1)) (rd_move rfl) rfl ?_
      refine Wx.nil ?_
      refine ⟨k + 1, (by show (xs.length - (k + 1)).toNat < (xs.length - k).toNat; omega), ?_, ?_, Out.look rfl Out.self⟩
      · exact ⟨hS, (by first | omega | assumption), (by first | omega | assumption), (idxP_step h0 c0 h2 (decide_eq_false fun q => c1 q.symm))⟩
      · exact ⟨rfl, trivial⟩
  · -- no
    refine W.exit rfl ?_
    refine W.seq ?_
    refine W.reg ?_
    refine Wx.rd (v := .int .i64 (-1)) (rd_assign rfl) rfl ?_
    refine Wx.nil ?_
    have e1_0 : (idxP (fun y => decide (y = n)) 0 xs) = (-1 : Int) := by exact idxP_out (by omega) h2
    exact W.ret ⟨.int .i64 (-1), ResIs.one, hS.bel, (by rw [e1_0])⟩

theorem F114 {xv : Value} {xs : List Int} {Fr_xv : List (Option Nat)} {n : Int} {w : World} (h_xv : V (tSl (tI .i64)) xs xv Fr_xv w) (i_n : InK .i64 n) : Calls Tryz.prog 114 #[xv, .int .i64 n] w (Ret w (fun r _ => r = .bool (hasL xs n))) := by
  have b_n := bd_i64 i_n
  have a_xv := h_xv.any
  have l_xv := h_xv.len63
  have hS := St.start0 w
  refine enterR Tryz.func114 rfl Tryz.ntmps114 Tryz.results114 rfl ?_
  refine W.seq ?_
  refine W.reg ?_
  refine Wx.rd (v := .bool false) (rd_assign rfl) rfl ?_
  refine Wx.nil ?_
  refine W.seq ?_
  refine W.reg ?_
  refine Wx.rd (v := xv) (rd_move rfl) rfl ?_
  refine Wx.rd (v := .int .i64 n) (rd_move rfl) rfl ?_
  refine Wx.callF (run_callF Tryz.call115 rfl) (F115 (hS.arg a_xv) i_n) rfl ?_
  rintro r_1 w_2 hx_3 rfl
  have hS := hS.ext hx_3
  have ib_4 := idxP_bd (fun y => decide (y = n)) xs 0 (Int.le_refl 0)
  refine Wx.rd (v := .bool (decide (0 ≤ (idxP (fun y => decide (y = n)) 0 xs)))) (rd_geq rfl rfl) rfl ?_
  refine Wx.rd (v := .bool (decide (0 ≤ (idxP (fun y => decide (y = n)) 0 xs)))) (rd_assign rfl) rfl ?_
  refine Wx.nil ?_
  have e0_0 : (hasL xs n) = (decide (0 ≤ (idxP (fun y => decide (y = n)) 0 xs))) := by exact (idxP_any (fun y => decide (y = n)) xs 0 (Int.le_refl 0)).symm
  exact W.ret ⟨.bool (decide (0 ≤ (idxP (fun y => decide (y = n)) 0 xs))), ResIs.one, hS.bel, (by rw [e0_0])⟩
end Go.Proofs.YtodcppoglpfodaaGreatDoor

namespace Go.Proofs.YtodcppoglpfodaaGreatDoor
open Go.Wk Go.RowKit Go.Lib
set_option linter.unusedVariables false
set_option linter.unusedSimpArgs false
theorem elUa_23 : ElemI Tryz.prog 23 3 (.int .i64 0) 1 8 := ElemI.of Tryz.underlying23 (by kernel_rfl) (by first | rfl | kernel_rfl) (by decide)

theorem F111 {n : Int} {lo : Int} {hi : Int} {w : World} (i_n : InK .i64 n) (i_lo : InK .i64 lo) (i_hi : InK .i64 hi) : Calls Tryz.prog 111 #[.int .i64 n, .int .i64 lo, .int .i64 hi] w (Ret w (fun r _ => r = .bool (decide (lo ≤ n) && decide (n ≤ hi)))) := by
  have b_hi := bd_i64 i_hi
  have b_lo := bd_i64 i_lo
  have b_n := bd_i64 i_n
  have hS := St.start0 w
  refine enterR Tryz.func111 rfl Tryz.ntmps111 Tryz.results111 rfl ?_
  refine W.seq ?_
  refine W.reg ?_
  refine Wx.rd (v := .bool false) (rd_assign rfl) rfl ?_
  refine Wx.nil ?_
  refine W.seq ?_
  refine W.reg ?_
  refine Wx.rd (v := .int .i64 lo) (rd_move rfl) rfl ?_
  refine Wx.rd (v := .int .i64 n) (rd_move rfl) rfl ?_
  refine Wx.rd (v := .bool (decide (lo ≤ n))) (rd_leq rfl rfl) rfl ?_
  refine Wx.rd (v := .bool (decide (lo ≤ n))) (rd_move rfl) rfl ?_
  refine Wx.cut (X := Unit) 4 [11, 12, 13, 14] (fun _ => [(14, .bool (decide (lo ≤ n) && decide (n ≤ hi)))]) (fun _ w' => St w [] w' []) ?_ ?_
  · rcases Bool.eq_false_or_eq_true (decide (lo ≤ n)) with g_1 | g_1
    · -- True
      have gp_2 := of_decide_eq_true g_1
      refine Wx.gyes rfl rfl (congrArg Value.bool g_1) ?_
      refine Wx.rd (v := .int .i64 n) (rd_move rfl) rfl ?_
      refine Wx.gyes rfl rfl (congrArg Value.bool g_1) ?_
      refine Wx.rd (v := .int .i64 hi) (rd_move rfl) rfl ?_
      refine Wx.gyes rfl rfl (congrArg Value.bool g_1) ?_
      refine Wx.rd (v := .bool (decide (n ≤ hi))) (rd_leq rfl rfl) rfl ?_
      refine Wx.rd (v := .bool (decide (n ≤ hi))) (rd_pickT (congrArg Value.bool g_1) rfl) rfl ?_
      refine Wx.nil ⟨(), hS, ⟨?_, trivial⟩, Out.look rfl Out.refl⟩
      show Value.bool (decide (n ≤ hi)) = Value.bool (decide (lo ≤ n) && decide (n ≤ hi))
      first | rw [g_1, Bool.true_and] | (rw [g_1]; rfl)
    · -- False
      have gp_3 := of_decide_eq_false g_1
      refine Wx.gnoB rfl rfl (congrArg Value.bool g_1) rfl rfl ?_
      refine Wx.gnoB rfl rfl (congrArg Value.bool g_1) rfl rfl ?_
      refine Wx.gnoB rfl rfl (congrArg Value.bool g_1) rfl rfl ?_
      refine Wx.rd (v := .bool false) (rd_pickF (congrArg Value.bool g_1) rfl) rfl ?_
      refine Wx.nil ⟨(), hS, ⟨?_, trivial⟩, Out.look rfl Out.refl⟩
      show Value.bool false = Value.bool (decide (lo ≤ n) && decide (n ≤ hi))
      first | rw [g_1, Bool.false_and] | (rw [g_1]; rfl)
  rintro ⟨⟩ u_5 w_4 hS
  refine Wx.rd (v := .bool (decide (lo ≤ n) && decide (n ≤ hi))) (rd_assign rfl) rfl ?_
  refine Wx.nil ?_
  exact W.ret ⟨.bool (decide (lo ≤ n) && decide (n ≤ hi)), ResIs.one, hS.bel, rfl⟩

theorem F110 {z : Int} {w : World} (i_z : InK .i64 z) : Calls Tryz.prog 110 #[.int .i64 z] w (Ret w (fun r _ => r = .bool (!(decide (0 ≤ z) && decide (z ≤ 20))))) := by
  have b_z := bd_i64 i_z
  have hS := St.start0 w
  refine enterR Tryz.func110 rfl Tryz.ntmps110 Tryz.results110 rfl ?_
  refine W.seq ?_
  refine W.reg ?_
  refine Wx.rd (v := .bool false) (rd_assign rfl) rfl ?_
  refine Wx.nil ?_
  refine W.seq ?_
  refine W.reg ?_
  refine Wx.rd (v := .int .i64 z) (rd_move rfl) rfl ?_
  refine Wx.callF (run_callF Tryz.call111 rfl) (F111 i_z (in_i64 (by omega) (by omega)) (in_i64 (by omega) (by omega))) rfl ?_
  rintro r_1 w_2 hx_3 rfl
  have hS := hS.ext hx_3
  refine Wx.rd (v := .bool (!(decide (0 ≤ z) && decide (z ≤ 20)))) (rd_not rfl) rfl ?_
  refine Wx.rd (v := .bool (!(decide (0 ≤ z) && decide (z ≤ 20)))) (rd_assign rfl) rfl ?_
  refine Wx.nil ?_
  exact W.ret ⟨.bool (!(decide (0 ≤ z) && decide (z ≤ 20))), ResIs.one, hS.bel, rfl⟩

theorem F109 {xv : Value} {xs : List Int} {Fr_xv : List (Option Nat)} {w : World} (h_xv : V (tSl (tI .i64)) xs xv Fr_xv w) (p_b : ∀ z ∈ xs, 0 ≤ z ∧ z ≤ 20) : Calls Tryz.prog 109 #[.func (.func 110) #[] #[], xv] w (Ret w (fun r _ => r = .bool false)) := by
  have a_xv := h_xv.any
  have l_xv := h_xv.len63
  have hS := St.start0 w
  refine enterR Tryz.func109 rfl Tryz.ntmps109 Tryz.results109 rfl ?_
  refine W.seq ?_
  refine W.reg ?_
  refine Wx.rd (v := .bool false) (rd_assign rfl) rfl ?_
  refine Wx.nil ?_
  refine W.seq ?_
  refine W.seq ?_
  refine W.reg ?_
  refine Wx.rd (v := xv) (rd_move rfl) rfl ?_
  refine Wx.rd (v := .int .i64 (xs.length : Int)) (rd_lenV rfl (hS.arg a_xv) Tryz.underlying23) rfl ?_
  refine Wx.rd (v := .int .i64 0) (rd_move rfl) rfl ?_
  refine Wx.nil ?_
  refine W.block ?_
  refine W.loop [4, 6, 9, 10, 11, 12, 13, 14, 15, 16] (fun (k : Int) => [(9, .int .i64 k)]) (fun (k : Int) w' => St w [] w' [] ∧ 0 ≤ k ∧ k ≤ xs.length) (fun (k : Int) => (xs.length - k).toNat) 0 ⟨rfl, trivial⟩ ⟨hS, (by first | omega | simp), (by first | omega | simp)⟩ ?_
  rintro k u_2 w_1 ⟨hS, h0, h1⟩
  refine W.seq ?_
  refine W.reg ?_
  refine Wx.rd (v := .bool (decide (k < (xs.length : Int)))) (rd_lss rfl rfl) rfl ?_
  refine Wx.nil ?_
  refine W.seq ?_
  refine W.condD rfl (fun c0 => ?_) (fun c0 => ?_)
  · -- yes
    refine W.skip ?_
    refine W.seq ?_
    refine W.block ?_
    refine W.seq ?_
    refine W.reg ?_
    refine Wx.ex (rd_index 0 (hS.arg a_xv) rfl rfl Tryz.underlying23 Tryz.sizeOf3 (by first | omega | (simp only [List.length_set, List.length_append, List.length_cons, List.length_nil, List.length_replicate]; omega)) (by first | omega | (simp only [List.length_set, List.length_append, List.length_cons, List.length_nil, List.length_replicate]; omega))) rfl (fun p_3 hp_4 => ?_)
    refine Wx.rd (v := .int .i64 (ix 0 xs k)) (rd_loadI hp_4 rfl Tryz.isAgg3 Tryz.sizeOf3) rfl ?_
    have bd_5 := bd_i64 hp_4.inK
    refine Wx.rd (v := .int .i64 (ix 0 xs k)) (rd_assign rfl) rfl ?_
    refine Wx.nil ?_
    refine W.seq ?_
    refine W.reg ?_
    refine Wx.rd (v := .func (.func 110) #[] #[]) (rd_move rfl) rfl ?_
    refine Wx.rd (v := .int .i64 (ix 0 xs k)) (rd_move rfl) rfl ?_
    refine Wx.callF (run_callC (fs := []) (cs := []) (vs := [.int .i64 (ix 0 xs k)]) Tryz.call110 rfl rfl) (F110 (in_i64 (by omega) (by omega))) rfl ?_
    rintro r_6 w_7 hx_8 rfl
    have hS := hS.ext hx_8
    refine Wx.nil ?_
    refine W.condF rfl (by have := p_b _ (ix_inl h0 c0); simp; omega) ?_
    refine W.skip ?_
    refine W.reg ?_
    refine Wx.rd (v := .int .i64 (k + 1)) (rd_add rfl rfl (in_i64 (by omega) (by omega))) rfl ?_
    refine Wx.rd (v := .int .i64 (k + 1)) (rd_move rfl) rfl ?_
    refine Wx.nil ?_
    refine ⟨k + 1, (by show (xs.length - (k + 1)).toNat < (xs.length - k).toNat; omega), ?_, ?_, Out.look rfl Out.self⟩
    · exact ⟨hS, (by first | omega | assumption), (by first | omega | assumption)⟩
    · exact ⟨rfl, trivial⟩
  · -- no
    refine W.exit rfl ?_
    refine W.seq ?_
    refine W.reg ?_
    refine Wx.rd (v := .bool false) (rd_assign rfl) rfl ?_
    refine Wx.nil ?_
    exact W.ret ⟨.bool false, ResIs.one, hS.bel, rfl⟩

theorem F90 {vv : Value} {vs : List (List Int)} {Fr_vv : List (Option Nat)} {m : Int} {w : World} (h_vv : V (tSl (tSl (tI .i64))) vs vv Fr_vv w) (p_dv : DvOK vs m) : Calls Tryz.prog 90 #[vv] w (Ret w (fun r _ => r = .int .i64 0)) := by
  have hr0 := p_dv.l _ (row_mem p_dv (Int.le_refl 0) (by have := p_dv.n; omega))
  have hvn := p_dv.n
  have hm6 := p_dv.m6
  have a_vv := h_vv.any
  have l_vv := h_vv.len63
  have hS := St.start0 w
  refine enterR Tryz.func90 rfl Tryz.ntmps90 Tryz.results90 rfl ?_
  refine W.seq ?_
  refine W.reg ?_
  refine Wx.rd (v := .int .i64 0) (rd_assign rfl) rfl ?_
  refine Wx.nil ?_
  refine W.seq ?_
  refine W.block ?_
  refine W.seq ?_
  refine W.reg ?_
  refine Wx.rd (v := vv) (rd_move rfl) rfl ?_
  refine Wx.rd (v := .int .i64 (vs.length : Int)) (rd_lenV rfl (hS.arg a_vv) Tryz.underlying115) rfl ?_
  refine Wx.rd (v := .bool (decide ((vs.length : Int) = 0))) (rd_eql rfl rfl) rfl ?_
  refine Wx.rd (v := .bool (decide ((vs.length : Int) = 0))) (rd_assign rfl) rfl ?_
  refine Wx.nil ?_
  refine W.condF rfl (decide_eq_false (by omega)) ?_
  refine W.seq ?_
  refine W.reg ?_
  refine Wx.rd (v := vv) (rd_move rfl) rfl ?_
  refine Wx.rd (v := .int .i64 (vs.length : Int)) (rd_lenV rfl (hS.arg a_vv) Tryz.underlying115) rfl ?_
  refine Wx.rd (v := .bool (decide (4 < (vs.length : Int)))) (rd_gtr rfl rfl) rfl ?_
  refine Wx.rd (v := .bool (decide (4 < (vs.length : Int)))) (rd_move rfl) rfl ?_
  refine Wx.cut (X := Unit) 6 [14, 15, 16, 17, 18, 19] (fun _ => [(19, .bool (decide (4 < (vs.length : Int)) || decide (6 < ((ix [] vs 0).length : Int))))]) (fun _ w' => St w [] w' []) ?_ ?_
  · rcases Bool.eq_false_or_eq_true (decide (4 < (vs.length : Int))) with g_1 | g_1
    · -- True
      have gp_2 := of_decide_eq_true g_1
      refine Wx.gnoB rfl rfl (congrArg Value.bool g_1) rfl rfl ?_
      refine Wx.gnoB rfl rfl (congrArg Value.bool g_1) rfl rfl ?_
      refine Wx.gnoB rfl rfl (congrArg Value.bool g_1) rfl rfl ?_
      refine Wx.gnoB rfl rfl (congrArg Value.bool g_1) rfl rfl ?_
      refine Wx.gnoB rfl rfl (congrArg Value.bool g_1) rfl rfl ?_
      refine Wx.rd (v := .bool true) (rd_pickT (congrArg Value.bool g_1) rfl) rfl ?_
      refine Wx.nil ⟨(), hS, ⟨?_, trivial⟩, Out.look rfl Out.refl⟩
      show Value.bool true = Value.bool (decide (4 < (vs.length : Int)) || decide (6 < ((ix [] vs 0).length : Int)))
      first | rw [g_1, Bool.true_or] | (rw [g_1]; rfl)
    · -- False
      have gp_3 := of_decide_eq_false g_1
      refine Wx.gyes rfl rfl (congrArg Value.bool g_1) ?_
      refine Wx.rd (v := vv) (rd_move rfl) rfl ?_
      refine Wx.gyes rfl rfl (congrArg Value.bool g_1) ?_
      refine Wx.ex (rd_index [] (hS.arg a_vv) rfl rfl Tryz.underlying115 Tryz.sizeOf23 (by first | omega | (simp only [List.length_set, List.length_append, List.length_cons, List.length_nil, List.length_replicate]; omega)) (by first | omega | (simp only [List.length_set, List.length_append, List.length_cons, List.length_nil, List.length_replicate]; omega))) rfl (fun p_4 hp_5 => ?_)
      refine Wx.gyes rfl rfl (congrArg Value.bool g_1) ?_
      refine Wx.ex (rd_load hp_5 rfl Tryz.isAgg23 Tryz.sizeOf23) rfl (fun v_6 hv_7 => ?_)
      have ln_8 := hv_7.len63
      have hS := hS.add hv_7
      refine Wx.gyes rfl rfl (congrArg Value.bool g_1) ?_
      refine Wx.rd (v := .int .i64 ((ix [] vs 0).length : Int)) (rd_lenV rfl (hS.v 0 rfl) Tryz.underlying23) rfl ?_
      refine Wx.gyes rfl rfl (congrArg Value.bool g_1) ?_
      refine Wx.rd (v := .bool (decide (6 < ((ix [] vs 0).length : Int)))) (rd_gtr rfl rfl) rfl ?_
      refine Wx.rd (v := .bool (decide (6 < ((ix [] vs 0).length : Int)))) (rd_pickF (congrArg Value.bool g_1) rfl) rfl ?_
      refine Wx.nil ⟨(), hS.tl, ⟨?_, trivial⟩, Out.look rfl Out.refl⟩
      show Value.bool (decide (6 < ((ix [] vs 0).length : Int))) = Value.bool (decide (4 < (vs.length : Int)) || decide (6 < ((ix [] vs 0).length : Int)))
      first | rw [g_1, Bool.false_or] | (rw [g_1]; rfl)
  rintro ⟨⟩ u_11 w_10 hS
  refine Wx.rd (v := .bool (decide (4 < (vs.length : Int)) || decide (6 < ((ix [] vs 0).length : Int)))) (rd_assign rfl) rfl ?_
  refine Wx.nil ?_
  refine W.condF rfl (by simp; omega) ?_
  refine W.skip ?_
  refine W.seq ?_
  refine W.seq ?_
  refine W.reg ?_
  refine Wx.rd (v := vv) (rd_move rfl) rfl ?_
  refine Wx.rd (v := .int .i64 (vs.length : Int)) (rd_lenV rfl (hS.arg a_vv) Tryz.underlying115) rfl ?_
  refine Wx.rd (v := .int .i64 0) (rd_move rfl) rfl ?_
  refine Wx.nil ?_
  refine W.block ?_
  refine W.loop [2, 4, 22, 23, 24, 25, 26, 27, 28, 29, 30, 31, 32, 33, 34, 35, 36, 37] (fun (k : Int) => [(22, .int .i64 k)]) (fun (k : Int) w' => St w [] w' [] ∧ 0 ≤ k ∧ k ≤ vs.length) (fun (k : Int) => (vs.length - k).toNat) 0 ⟨rfl, trivial⟩ ⟨hS, (by first | omega | simp), (by first | omega | simp)⟩ ?_
  rintro k u_13 w_12 ⟨hS, h0, h1⟩
  refine W.seq ?_
  refine W.reg ?_
  refine Wx.rd (v := .bool (decide (k < (vs.length : Int)))) (rd_lss rfl rfl) rfl ?_
  refine Wx.nil ?_
  refine W.seq ?_
  refine W.condD rfl (fun c2 => ?_) (fun c2 => ?_)
  · -- yes
    have hkm := row_mem p_dv h0 c2
    have hkl := p_dv.l _ hkm
    refine W.skip ?_
    refine W.seq ?_
    refine W.block ?_
    refine W.seq ?_
    refine W.reg ?_
    refine Wx.ex (rd_index [] (hS.arg a_vv) rfl rfl Tryz.underlying115 Tryz.sizeOf23 (by first | omega | (simp only [List.length_set, List.length_append, List.length_cons, List.length_nil, List.length_replicate]; omega)) (by first | omega | (simp only [List.length_set, List.length_append, List.length_cons, List.length_nil, List.length_replicate]; omega))) rfl (fun p_14 hp_15 => ?_)
    refine Wx.ex (rd_load hp_15 rfl Tryz.isAgg23 Tryz.sizeOf23) rfl (fun v_16 hv_17 => ?_)
    have ln_18 := hv_17.len63
    have hS := hS.add hv_17
    refine Wx.rd (v := v_16) (rd_assign rfl) rfl ?_
    refine Wx.nil ?_
    refine W.block ?_
    refine W.seq ?_
    refine W.reg ?_
    refine Wx.rd (v := v_16) (rd_move rfl) rfl ?_
    refine Wx.rd (v := .int .i64 ((ix [] vs k).length : Int)) (rd_lenV rfl (hS.v 0 rfl) Tryz.underlying23) rfl ?_
    refine Wx.rd (v := vv) (rd_move rfl) rfl ?_
    refine Wx.ex (rd_index [] (hS.arg a_vv) rfl rfl Tryz.underlying115 Tryz.sizeOf23 (by first | omega | (simp only [List.length_set, List.length_append, List.length_cons, List.length_nil, List.length_replicate]; omega)) (by first | omega | (simp only [List.length_set, List.length_append, List.length_cons, List.length_nil, List.length_replicate]; omega))) rfl (fun p_20 hp_21 => ?_)
    refine Wx.ex (rd_load hp_21 rfl Tryz.isAgg23 Tryz.sizeOf23) rfl (fun v_22 hv_23 => ?_)
    have ln_24 := hv_23.len63
    have hS := hS.add hv_23
    refine Wx.rd (v := .int .i64 ((ix [] vs 0).length : Int)) (rd_lenV rfl (hS.v 0 rfl) Tryz.underlying23) rfl ?_
    refine Wx.rd (v := .bool (decide (((ix [] vs k).length : Int) ≠ ((ix [] vs 0).length : Int)))) (rd_neq rfl rfl) rfl ?_
    refine Wx.rd (v := .bool (decide (((ix [] vs k).length : Int) ≠ ((ix [] vs 0).length : Int)))) (rd_assign rfl) rfl ?_
    refine Wx.nil ?_
    refine W.condF rfl (decide_eq_false (by omega)) ?_
    refine W.seq ?_
    refine W.reg ?_
    refine Wx.rd (v := v_16) (rd_move rfl) rfl ?_
    refine Wx.callF (run_callF Tryz.call109 rfl) (F109 (hS.v 1 rfl) (p_dv.b _ hkm)) rfl ?_
    rintro r_26 w_27 hx_28 rfl
    have hS := hS.ext hx_28
    refine Wx.rd (v := .bool false) (rd_assign rfl) rfl ?_
    refine Wx.nil ?_
    refine W.condF rfl rfl ?_
    refine W.skip ?_
    refine W.reg ?_
    refine Wx.rd (v := .int .i64 (k + 1)) (rd_add rfl rfl (in_i64 (by omega) (by omega))) rfl ?_
    refine Wx.rd (v := .int .i64 (k + 1)) (rd_move rfl) rfl ?_
    refine Wx.nil ?_
    refine ⟨k + 1, (by show (vs.length - (k + 1)).toNat < (vs.length - k).toNat; omega), ?_, ?_, Out.look rfl Out.self⟩
    · exact ⟨St.tl (hS.tl), (by first | omega | assumption), (by first | omega | assumption)⟩
    · exact ⟨rfl, trivial⟩
  · -- no
    refine W.exit rfl ?_
    refine W.seq ?_
    refine W.reg ?_
    refine Wx.rd (v := .int .i64 0) (rd_assign rfl) rfl ?_
    refine Wx.nil ?_
    exact W.ret ⟨.int .i64 0, ResIs.one, hS.bel, rfl⟩

theorem F91 {vv : Value} {vs : List (List Int)} {m : Int} {O : List (Option Nat)} {w : World} (h_vv : V (tSl (tSl (tI .i64))) vs vv O w) (p_dv : DvOK vs m) (p_m : 1 ≤ m) (hO : ∀ b, some b ∈ O → b < w.heap.size) : Calls Tryz.prog 91 #[vv] w (Ret w (fun r w' => ∃ ov, r = .agg #[vv, ov] ∧ Fresh (tI .i64) 3 (List.replicate m.toNat (-1)) ov w.heap.size w')) := by
  have hr0 := p_dv.l _ (row_mem p_dv (Int.le_refl 0) (by have := p_dv.n; omega))
  have hvn := p_dv.n
  have hm6 := p_dv.m6
  have a_vv := h_vv
  have l_vv := h_vv.len63
  have hS := St.start w O hO
  refine enterR Tryz.func91 rfl Tryz.ntmps91 Tryz.results91 rfl ?_
  refine W.seq ?_
  refine W.reg ?_
  refine Wx.alloc (cs := [(.slice none 0 0), (.slice none 0 0)]) hS Tryz.zeroValue176 rfl rfl (fun g_1 w_2 hx_4 hb_3 hS => ?_)
  refine Wx.nil ?_
  refine W.seq ?_
  refine W.reg ?_
  refine Wx.rd (v := vv) (rd_move rfl) rfl ?_
  refine Wx.lit (t := (tI .i64)) (ys := [-1]) (vs := [.int .i64 (-1)]) elUa_23 hS rfl rfl ⟨(V.mkInt (in_i64 (by omega) (by omega))), trivial⟩ (by decide) rfl (fun v_5 w_6 hx_7 hS => ?_)
  refine Wx.rd (v := vv) (rd_move rfl) rfl ?_
  refine Wx.ex (rd_index [] (hS.arg a_vv) rfl rfl Tryz.underlying115 Tryz.sizeOf23 (by first | omega | (simp only [List.length_set, List.length_append, List.length_cons, List.length_nil, List.length_replicate]; omega)) (by first | omega | (simp only [List.length_set, List.length_append, List.length_cons, List.length_nil, List.length_replicate]; omega))) rfl (fun p_8 hp_9 => ?_)
  refine Wx.ex (rd_load hp_9 rfl Tryz.isAgg23 Tryz.sizeOf23) rfl (fun v_10 hv_11 => ?_)
  have ln_12 := hv_11.len63
  have hS := hS.add hv_11
  refine Wx.rd (v := .int .i64 ((ix [] vs 0).length : Int)) (rd_lenV rfl (hS.v 0 rfl) Tryz.underlying23) rfl ?_
  refine Wx.callF (run_callF Tryz.call112 rfl) (F112 (a := -1) (hS.lend 1 rfl) (in_i64 (by omega) (by omega)) (by omega) (by omega)) rfl ?_
  rintro r_14 w_15 hx_16 ⟨_, rfl, hv_17⟩
  have hS := hS.pushFr hx_16 hv_17
  refine Wx.rd (v := .agg #[vv, r_14]) (rd_buildC (vs := [(0, vv), (1, r_14)]) (us := [(0, .agg #[vv]), (1, .agg #[r_14])]) rfl (parts_cons (Go.Wk.cells_one (V.oneC (hS.arg a_vv))) (parts_cons (Go.Wk.cells_one (hS.rowOne 0 rfl)) parts_nil)) (by kernel_rfl)) rfl ?_
  refine Wx.storeX (cs' := [vv, r_14]) (ds := [vv, r_14]) hS 3 rfl rfl rfl rfl Tryz.sizeOf176 (Nat.le_of_ble_eq_true rfl) (one_cons (V.oneC (hS.arg a_vv)) (one_cons (hS.rowOne 0 rfl) one_nil)) rfl (fun w_19 hz_20 hS => ?_)
  refine Wx.nil ?_
  have e0_0 : List.replicate m.toNat (-1) = List.replicate ((ix [] vs 0).length : Int).toNat (-1) := by rw [hr0]
  exact W.ret ⟨.agg #[vv, r_14], (ResIs.cell1 hS 3 rfl rfl Tryz.isAgg176 Tryz.sizeOf176), hS.bel, ⟨r_14, rfl, (by rw [e0_0]; exact (hS.fr 0 rfl flat_int))⟩⟩
end Go.Proofs.YtodcppoglpfodaaGreatDoor

namespace Go.Proofs.YtodcppoglpfodaaGreatDoor
open Go.Wk Go.RowKit Go.Lib
set_option linter.unusedVariables false
set_option linter.unusedSimpArgs false
theorem foUb_176_1 : fldOff Tryz.prog 176 1 = some 1 := by kernel_rfl
theorem foUb_176_0 : fldOff Tryz.prog 176 0 = some 0 := by kernel_rfl

set_option maxHeartbeats 1000000 in
theorem F141 {vv : Value} {vs : List (List Int)} {Fr_vv : List (Option Nat)} {ov : Value} {ow : List Int} {Fr_ov : List (Option Nat)} {i : Int} {h : Int} {w : World} (h_vv : V (tSl (tSl (tI .i64))) vs vv Fr_vv w) (h_ov : V (tSl (tI .i64)) ow ov Fr_ov w) (i_i : InK .i64 i) (i_h : InK .i64 h) (p_dv : DvOK vs ow.length) (p_i : 0 ≤ i ∧ i < vs.length) : Calls Tryz.prog 141 #[.agg #[vv, ov], .int .i64 i, .int .i64 h] w (Ret w (fun r _ => r = .tuple #[.int .i64 ((shV vs ow i h).1), .int .i64 ((shV vs ow i h).2)])) := by
  have b_h := bd_i64 i_h
  have b_i := bd_i64 i_i
  have hrm := row_mem p_dv p_i.1 p_i.2
  have hrl := p_dv.l _ hrm
  have hm6 := p_dv.m6
  have a_vv := h_vv.any
  have l_vv := h_vv.len63
  have a_ov := h_ov.any
  have l_ov := h_ov.len63
  have hS := St.start0 w
  refine enterR Tryz.func141 rfl Tryz.ntmps141 Tryz.results141 rfl ?_
  refine W.seq ?_
  refine W.reg ?_
  refine Wx.box (cs := [vv, ov]) hS rfl rfl rfl (fun g_1 w_2 hx_4 hb_3 hS => ?_)
  refine Wx.rd (v := .int .i64 0) (rd_assign rfl) rfl ?_
  refine Wx.rd (v := .int .i64 0) (rd_assign rfl) rfl ?_
  refine Wx.nil ?_
  refine W.seq ?_
  refine W.seq ?_
  refine W.reg ?_
  refine Wx.rd (v := .pointer (some ⟨g_1, 1, none⟩)) (rd_fieldAddr rfl foUb_176_1) rfl ?_
  refine Wx.rd (v := ov) (rd_loadX hS 0 rfl rfl rfl Tryz.isAgg23) rfl ?_
  refine Wx.rd (v := .int .i64 (ow.length : Int)) (rd_lenV rfl (hS.arg a_ov) Tryz.underlying23) rfl ?_
  refine Wx.rd (v := .int .i64 0) (rd_move rfl) rfl ?_
  refine Wx.nil ?_
  refine W.block ?_
  refine W.loop [6, 7, 8, 9, 13, 14, 15, 16, 17, 18, 19, 20, 21, 22, 23, 24, 25, 26, 27, 28, 29, 30, 31, 32, 33, 34, 35, 36, 37, 38, 39, 40, 41] (fun x : Int × Int × Int => match x with | (s, mx, k) => [(6, .int .i64 s), (7, .int .i64 mx), (13, .int .i64 k)]) (fun (x : Int × Int × Int) w' => match x with | (s, mx, k) => St w [] w' [.box g_1 176 [vv, ov]] ∧ 0 ≤ k ∧ k ≤ ow.length ∧ (s, mx) = shK (ix [] vs i) ow h k) (fun x : Int × Int × Int => match x with | (s, mx, k) => (ow.length - k).toNat) (0, 0, 0) ⟨rfl, rfl, rfl, trivial⟩ ⟨hS, (by first | omega | simp), (by first | omega | simp), (rfl)⟩ ?_
  rintro ⟨s, mx, k⟩ u_6 w_5 ⟨hS, h0, h1, h2⟩
  refine W.seq ?_
  refine W.reg ?_
  refine Wx.rd (v := .bool (decide (k < (ow.length : Int)))) (rd_lss rfl rfl) rfl ?_
  refine Wx.nil ?_
  refine W.seq ?_
  refine W.condD rfl (fun c0 => ?_) (fun c0 => ?_)
  · -- yes
    have hsb := shk_bd (ow := ow) (h := h) (p_dv.b _ hrm) h0 (by omega)
    have hzb := p_dv.b _ hrm _ (List.mem_of_getElem? (ix_get (d := 0) (xs := ix [] vs i) (n := k) (by omega) h0))
    rw [← h2] at hsb
    simp only at hsb
    refine W.skip ?_
    refine W.seq ?_
    refine W.block ?_
    refine W.seq ?_
    refine W.reg ?_
    refine Wx.rd (v := .int .i64 k) (rd_move rfl) rfl ?_
    refine Wx.ex (rd_index 0 (hS.arg a_ov) rfl rfl Tryz.underlying23 Tryz.sizeOf3 (by first | omega | (simp only [List.length_set, List.length_append, List.length_cons, List.length_nil, List.length_replicate]; omega)) (by first | omega | (simp only [List.length_set, List.length_append, List.length_cons, List.length_nil, List.length_replicate]; omega))) rfl (fun p_7 hp_8 => ?_)
    refine Wx.rd (v := .int .i64 (ix 0 ow k)) (rd_loadI hp_8 rfl Tryz.isAgg3 Tryz.sizeOf3) rfl ?_
    have bd_9 := bd_i64 hp_8.inK
    refine Wx.rd (v := .int .i64 k) (rd_assign rfl) rfl ?_
    refine Wx.rd (v := .int .i64 (ix 0 ow k)) (rd_assign rfl) rfl ?_
    refine Wx.nil ?_
    refine W.seq ?_
    refine W.reg ?_
    refine Wx.rd (v := .int .i64 (ix 0 ow k)) (rd_move rfl) rfl ?_
    refine Wx.rd (v := .int .i64 h) (rd_move rfl) rfl ?_
    refine Wx.rd (v := .bool (decide ((ix 0 ow k) = h))) (rd_eql rfl rfl) rfl ?_
    refine Wx.nil ?_
    refine W.condD rfl (fun c1 => ?_) (fun c1 => ?_)
    · -- yes
      refine W.seq ?_
      refine W.reg ?_
      refine Wx.rd (v := .int .i64 s) (rd_move rfl) rfl ?_
      refine Wx.rd (v := .pointer (some ⟨g_1, 0, none⟩)) (rd_fieldAddr rfl foUb_176_0) rfl ?_
      refine Wx.rd (v := vv) (rd_loadX hS 0 rfl rfl rfl Tryz.isAgg115) rfl ?_
      refine Wx.rd (v := .int .i64 i) (rd_move rfl) rfl ?_
      refine Wx.ex (rd_index [] (hS.arg a_vv) rfl rfl Tryz.underlying115 Tryz.sizeOf23 (by first | omega | (simp only [List.length_set, List.length_append, List.length_cons, List.length_nil, List.length_replicate]; omega)) (by first | omega | (simp only [List.length_set, List.length_append, List.length_cons, List.length_nil, List.length_replicate]; omega))) rfl (fun p_10 hp_11 => ?_)
      refine Wx.ex (rd_load hp_11 rfl Tryz.isAgg23 Tryz.sizeOf23) rfl (fun v_12 hv_13 => ?_)
      have ln_14 := hv_13.len63
      have hS := hS.add hv_13
      refine Wx.rd (v := .int .i64 k) (rd_move rfl) rfl ?_
      refine Wx.ex (rd_index 0 (hS.v 0 rfl) rfl rfl Tryz.underlying23 Tryz.sizeOf3 (by first | omega | (simp only [List.length_set, List.length_append, List.length_cons, List.length_nil, List.length_replicate]; omega)) (by first | omega | (simp only [List.length_set, List.length_append, List.length_cons, List.length_nil, List.length_replicate]; omega))) rfl (fun p_16 hp_17 => ?_)
      refine Wx.rd (v := .int .i64 (ix 0 (ix [] vs i) k)) (rd_loadI hp_17 rfl Tryz.isAgg3 Tryz.sizeOf3) rfl ?_
      have bd_18 := bd_i64 hp_17.inK
      refine Wx.rd (v := .int .i64 (s + (ix 0 (ix [] vs i) k))) (rd_add rfl rfl (in_i64 (by omega) (by omega))) rfl ?_
      refine Wx.rd (v := .int .i64 (s + (ix 0 (ix [] vs i) k))) (rd_assign rfl) rfl ?_
      refine Wx.nil ?_
      refine W.reg ?_
      refine Wx.rd (v := .int .i64 mx) (rd_move rfl) rfl ?_
      refine Wx.rd (v := .pointer (some ⟨g_1, 0, none⟩)) (rd_fieldAddr rfl foUb_176_0) rfl ?_
      refine Wx.rd (v := vv) (rd_loadX hS 1 rfl rfl rfl Tryz.isAgg115) rfl ?_
      refine Wx.rd (v := .int .i64 i) (rd_move rfl) rfl ?_
      refine Wx.ex (rd_index [] (hS.arg a_vv) rfl rfl Tryz.underlying115 Tryz.sizeOf23 (by first | omega | (simp only [List.length_set, List.length_append, List.length_cons, List.length_nil, List.length_replicate]; omega)) (by first | omega | (simp only [List.length_set, List.length_append, List.length_cons, List.length_nil, List.length_replicate]; omega))) rfl (fun p_19 hp_20 => ?_)
      refine Wx.ex (rd_load hp_20 rfl Tryz.isAgg23 Tryz.sizeOf23) rfl (fun v_21 hv_22 => ?_)
      have ln_23 := hv_22.len63
      have hS := hS.add hv_22
      refine Wx.rd (v := .int .i64 k) (rd_move rfl) rfl ?_
      refine Wx.ex (rd_index 0 (hS.v 0 rfl) rfl rfl Tryz.underlying23 Tryz.sizeOf3 (by first | omega | (simp only [List.length_set, List.length_append, List.length_cons, List.length_nil, List.length_replicate]; omega)) (by first | omega | (simp only [List.length_set, List.length_append, List.length_cons, List.length_nil, List.length_replicate]; omega))) rfl (fun p_25 hp_26 => ?_)
      refine Wx.rd (v := .int .i64 (ix 0 (ix [] vs i) k)) (rd_loadI hp_26 rfl Tryz.isAgg3 Tryz.sizeOf3) rfl ?_
      have bd_27 := bd_i64 hp_26.inK
      refine Wx.rd (v := .int .i64 (max mx (ix 0 (ix [] vs i) k))) (rd_max rfl rfl) rfl ?_
      refine Wx.rd (v := .int .i64 (max mx (ix 0 (ix [] vs i) k))) (rd_assign rfl) rfl ?_
      refine Wx.nil ?_
      refine W.reg ?_
      refine Wx.rd (v := .int .i64 (k + 1)) (rd_add rfl rfl (in_i64 (by omega) (by omega))) rfl ?_
      refine Wx.rd (v := .int .i64 (k + 1)) (rd_move rfl) rfl ?_
      refine Wx.nil ?_
      refine ⟨(s + (ix 0 (ix [] vs i) k), max mx (ix 0 (ix [] vs i) k), k + 1), (by show (ow.length - (k + 1)).toNat < (ow.length - k).toNat; omega), ?_, ?_, Out.look rfl Out.self⟩
      · exact ⟨St.tl (hS.tl), (by first | omega | assumption), (by first | omega | assumption), (by rw [sh_next h0, ← h2, shS, if_pos c1])⟩
      · exact ⟨rfl, rfl, rfl, trivial⟩
    · -- no
      refine W.skip ?_
      refine W.reg ?_
      refine Wx.rd (v := .int .i64 (k + 1)) (rd_add rfl rfl (in_i64 (by omega) (by omega))) rfl ?_
      refine Wx.rd (v := .int .i64 (k + 1)) (rd_move rfl) rfl ?_
      refine Wx.nil ?_
      refine ⟨(s, mx, k + 1), (by show (ow.length - (k + 1)).toNat < (ow.length - k).toNat; omega), ?_, ?_, Out.look rfl Out.self⟩
      · exact ⟨hS, (by first | omega | assumption), (by first | omega | assumption), (by rw [sh_next h0, ← h2, shS, if_neg c1])⟩
      · exact ⟨rfl, rfl, rfl, trivial⟩
  · -- no
    refine W.exit rfl ?_
    refine W.seq ?_
    refine W.reg ?_
    refine Wx.rd (v := .int .i64 s) (rd_move rfl) rfl ?_
    refine Wx.rd (v := .int .i64 mx) (rd_move rfl) rfl ?_
    refine Wx.rd (v := .int .i64 s) (rd_assign rfl) rfl ?_
    refine Wx.rd (v := .int .i64 mx) (rd_assign rfl) rfl ?_
    refine Wx.nil ?_
    have he : shV vs ow i h = (s, mx) := by rw [shV, h2, show k = (ow.length : Int) by omega]
    have e0_0 : ((shV vs ow i h).1) = (s : Int) := by rw [he]
    have e0_1 : ((shV vs ow i h).2) = (mx : Int) := by rw [he]
    exact W.ret ⟨.tuple #[.int .i64 s, .int .i64 mx], ResIs.two, hS.bel, (by rw [e0_0, e0_1])⟩

set_option maxHeartbeats 1000000 in
theorem F130 {vv : Value} {vs : List (List Int)} {Fr_vv : List (Option Nat)} {ov : Value} {ow : List Int} {Fr_ov : List (Option Nat)} {i : Int} {h : Int} {w : World} (h_vv : V (tSl (tSl (tI .i64))) vs vv Fr_vv w) (h_ov : V (tSl (tI .i64)) ow ov Fr_ov w) (i_i : InK .i64 i) (i_h : InK .i64 h) (p_dv : DvOK vs ow.length) (p_i : 0 ≤ i ∧ i < vs.length) : Calls Tryz.prog 130 #[.agg #[vv, ov], .int .i64 i, .int .i64 h] w (Ret w (fun r _ => r = .tuple #[.int .i64 (envV vs ow i h), .int .i64 ((shV vs ow i h).1 - (shV vs ow i h).2 - (shV vs ow i i).1)])) := by
  have b_h := bd_i64 i_h
  have b_i := bd_i64 i_i
  have hb1 := shv_bd p_dv p_i.1 p_i.2 h
  have hb2 := shv_bd p_dv p_i.1 p_i.2 i
  have a_vv := h_vv.any
  have l_vv := h_vv.len63
  have a_ov := h_ov.any
  have l_ov := h_ov.len63
  have hS := St.start0 w
  refine enterR Tryz.func130 rfl Tryz.ntmps130 Tryz.results130 rfl ?_
  refine W.seq ?_
  refine W.reg ?_
  refine Wx.box (cs := [vv, ov]) hS rfl rfl rfl (fun g_1 w_2 hx_4 hb_3 hS => ?_)
  refine Wx.rd (v := .int .i64 0) (rd_assign rfl) rfl ?_
  refine Wx.rd (v := .int .i64 0) (rd_assign rfl) rfl ?_
  refine Wx.nil ?_
  refine W.seq ?_
  refine W.reg ?_
  refine Wx.rd (v := .agg #[vv, ov]) (rd_loadXs (ds := [vv, ov]) hS 0 rfl rfl rfl rfl Tryz.isAgg176 Tryz.sizeOf176) rfl ?_
  refine Wx.rd (v := .int .i64 i) (rd_move rfl) rfl ?_
  refine Wx.rd (v := .int .i64 i) (rd_move rfl) rfl ?_
  refine Wx.callF (run_callF Tryz.call141 rfl) (F141 (hS.arg a_vv) (hS.arg a_ov) i_i i_i (by omega) (by omega)) rfl ?_
  rintro r_5 w_6 hx_7 rfl
  have hS := hS.ext hx_7
  refine Wx.rd (v := .tuple #[.int .i64 ((shV vs ow i i).1), .int .i64 ((shV vs ow i i).2)]) (rd_move rfl) rfl ?_
  refine Wx.rd (v := .int .i64 ((shV vs ow i i).1)) (rd_extract rfl rfl) rfl ?_
  refine Wx.rd (v := .int .i64 ((shV vs ow i i).2)) (rd_extract rfl rfl) rfl ?_
  refine Wx.rd (v := .int .i64 ((shV vs ow i i).1)) (rd_assign rfl) rfl ?_
  refine Wx.rd (v := .int .i64 ((shV vs ow i i).2)) (rd_assign rfl) rfl ?_
  refine Wx.nil ?_
  refine W.seq ?_
  refine W.reg ?_
  refine Wx.rd (v := .agg #[vv, ov]) (rd_loadXs (ds := [vv, ov]) hS 0 rfl rfl rfl rfl Tryz.isAgg176 Tryz.sizeOf176) rfl ?_
  refine Wx.rd (v := .int .i64 i) (rd_move rfl) rfl ?_
  refine Wx.rd (v := .int .i64 h) (rd_move rfl) rfl ?_
  refine Wx.callF (run_callF Tryz.call141 rfl) (F141 (hS.arg a_vv) (hS.arg a_ov) i_i i_h (by omega) (by omega)) rfl ?_
  rintro r_8 w_9 hx_10 rfl
  have hS := hS.ext hx_10
  refine Wx.rd (v := .tuple #[.int .i64 ((shV vs ow i h).1), .int .i64 ((shV vs ow i h).2)]) (rd_move rfl) rfl ?_
  refine Wx.rd (v := .int .i64 ((shV vs ow i h).1)) (rd_extract rfl rfl) rfl ?_
  refine Wx.rd (v := .int .i64 ((shV vs ow i h).2)) (rd_extract rfl rfl) rfl ?_
  refine Wx.rd (v := .int .i64 ((shV vs ow i h).1)) (rd_assign rfl) rfl ?_
  refine Wx.rd (v := .int .i64 ((shV vs ow i h).2)) (rd_assign rfl) rfl ?_
  refine Wx.nil ?_
  refine W.seq ?_
  refine W.reg ?_
  refine Wx.rd (v := .int .i64 ((shV vs ow i h).1)) (rd_move rfl) rfl ?_
  refine Wx.rd (v := .int .i64 ((shV vs ow i i).1)) (rd_move rfl) rfl ?_
  refine Wx.rd (v := .int .i64 (((shV vs ow i h).1) - ((shV vs ow i i).1))) (rd_sub rfl rfl (in_i64 (by omega) (by omega))) rfl ?_
  refine Wx.rd (v := .int .i64 ((shV vs ow i h).1)) (rd_move rfl) rfl ?_
  refine Wx.rd (v := .int .i64 ((shV vs ow i h).2)) (rd_move rfl) rfl ?_
  refine Wx.rd (v := .int .i64 (((shV vs ow i h).1) - ((shV vs ow i h).2))) (rd_sub rfl rfl (in_i64 (by omega) (by omega))) rfl ?_
  refine Wx.rd (v := .int .i64 ((shV vs ow i i).1)) (rd_move rfl) rfl ?_
  refine Wx.rd (v := .int .i64 ((((shV vs ow i h).1) - ((shV vs ow i h).2)) - ((shV vs ow i i).1))) (rd_sub rfl rfl (in_i64 (by omega) (by omega))) rfl ?_
  refine Wx.rd (v := .int .i64 (((shV vs ow i h).1) - ((shV vs ow i i).1))) (rd_assign rfl) rfl ?_
  refine Wx.rd (v := .int .i64 ((((shV vs ow i h).1) - ((shV vs ow i h).2)) - ((shV vs ow i i).1))) (rd_assign rfl) rfl ?_
  refine Wx.nil ?_
  have e0_0 : (envV vs ow i h) = (((shV vs ow i h).1) - ((shV vs ow i i).1) : Int) := by rfl
  have e0_1 : ((shV vs ow i h).1 - (shV vs ow i h).2 - (shV vs ow i i).1) = ((((shV vs ow i h).1) - ((shV vs ow i h).2)) - ((shV vs ow i i).1) : Int) := by rfl
  exact W.ret ⟨.tuple #[.int .i64 (((shV vs ow i h).1) - ((shV vs ow i i).1)), .int .i64 ((((shV vs ow i h).1) - ((shV vs ow i h).2)) - ((shV vs ow i i).1))], ResIs.two, hS.bel, (by rw [e0_0, e0_1])⟩

set_option maxHeartbeats 1000000 in
theorem F113 {vv : Value} {vs : List (List Int)} {Fr_vv : List (Option Nat)} {ov : Value} {ow : List Int} {Fr_ov : List (Option Nat)} {h : Int} {w : World} (h_vv : V (tSl (tSl (tI .i64))) vs vv Fr_vv w) (h_ov : V (tSl (tI .i64)) ow ov Fr_ov w) (i_h : InK .i64 h) (p_dv : DvOK vs ow.length) : Calls Tryz.prog 113 #[.agg #[vv, ov], .int .i64 h] w (Ret w (fun r _ => r = .int .i64 (enmV vs ow h))) := by
  have b_h := bd_i64 i_h
  have a_vv := h_vv.any
  have l_vv := h_vv.len63
  have a_ov := h_ov.any
  have l_ov := h_ov.len63
  have hS := St.start0 w
  refine enterR Tryz.func113 rfl Tryz.ntmps113 Tryz.results113 rfl ?_
  refine W.seq ?_
  refine W.reg ?_
  refine Wx.box (cs := [vv, ov]) hS rfl rfl rfl (fun g_1 w_2 hx_4 hb_3 hS => ?_)
  refine Wx.rd (v := .int .i64 0) (rd_assign rfl) rfl ?_
  refine Wx.nil ?_
  refine W.seq ?_
  refine W.seq ?_
  refine W.reg ?_
  refine Wx.rd (v := .pointer (some ⟨g_1, 0, none⟩)) (rd_fieldAddr rfl foUb_176_0) rfl ?_
  refine Wx.rd (v := vv) (rd_loadX hS 0 rfl rfl rfl Tryz.isAgg115) rfl ?_
  refine Wx.rd (v := .int .i64 (vs.length : Int)) (rd_lenV rfl (hS.arg a_vv) Tryz.underlying115) rfl ?_
  refine Wx.rd (v := .int .i64 0) (rd_move rfl) rfl ?_
  refine Wx.nil ?_
  refine W.block ?_
  refine W.loop [4, 5, 6, 7, 11, 12, 13, 14, 15, 16, 17, 18, 19, 20, 21, 22, 23, 24] (fun (k : Int) => [(11, .int .i64 k)]) (fun (k : Int) w' => St w [] w' [.box g_1 176 [vv, ov]] ∧ 0 ≤ k ∧ k ≤ vs.length ∧ (rng 0 k).find? (fun j => decide (0 < envV vs ow j h)) = none) (fun (k : Int) => (vs.length - k).toNat) 0 ⟨rfl, trivial⟩ ⟨hS, (by first | omega | simp), (by first | omega | simp), (rfl)⟩ ?_
  rintro k u_6 w_5 ⟨hS, h0, h1, h2⟩
  refine W.seq ?_
  refine W.reg ?_
  refine Wx.rd (v := .bool (decide (k < (vs.length : Int)))) (rd_lss rfl rfl) rfl ?_
  refine Wx.nil ?_
  refine W.seq ?_
  refine W.condD rfl (fun c0 => ?_) (fun c0 => ?_)
  · -- yes
    have hkk : 0 ≤ k ∧ k < vs.length := ⟨h0, by omega⟩
    refine W.skip ?_
    refine W.seq ?_
    refine W.block ?_
    refine W.seq ?_
    refine W.reg ?_
    refine Wx.rd (v := .int .i64 k) (rd_move rfl) rfl ?_
    refine Wx.rd (v := .int .i64 k) (rd_assign rfl) rfl ?_
    refine Wx.nil ?_
    refine W.seq ?_
    refine W.reg ?_
    refine Wx.rd (v := .agg #[vv, ov]) (rd_loadXs (ds := [vv, ov]) hS 0 rfl rfl rfl rfl Tryz.isAgg176 Tryz.sizeOf176) rfl ?_
    refine Wx.rd (v := .int .i64 k) (rd_move rfl) rfl ?_
    refine Wx.rd (v := .int .i64 h) (rd_move rfl) rfl ?_
    refine Wx.callF (run_callF Tryz.call130 rfl) (F130 (hS.arg a_vv) (hS.arg a_ov) (in_i64 (by omega) (by omega)) i_h p_dv hkk) rfl ?_
    rintro r_7 w_8 hx_9 rfl
    have hS := hS.ext hx_9
    refine Wx.rd (v := .tuple #[.int .i64 (envV vs ow k h), .int .i64 ((shV vs ow k h).1 - (shV vs ow k h).2 - (shV vs ow k k).1)]) (rd_move rfl) rfl ?_
    refine Wx.rd (v := .int .i64 (envV vs ow k h)) (rd_extract rfl rfl) rfl ?_
    refine Wx.rd (v := .int .i64 ((shV vs ow k h).1 - (shV vs ow k h).2 - (shV vs ow k k).1)) (rd_extract rfl rfl) rfl ?_
    refine Wx.rd (v := .int .i64 (envV vs ow k h)) (rd_assign rfl) rfl ?_
    refine Wx.rd (v := .int .i64 ((shV vs ow k h).1 - (shV vs ow k h).2 - (shV vs ow k k).1)) (rd_assign rfl) rfl ?_
    refine Wx.nil ?_
    refine W.seq ?_
    refine W.reg ?_
    refine Wx.rd (v := .int .i64 (envV vs ow k h)) (rd_move rfl) rfl ?_
    refine Wx.rd (v := .bool (decide (0 < (envV vs ow k h)))) (rd_gtr rfl rfl) rfl ?_
    refine Wx.nil ?_
    refine W.condD rfl (fun c1 => ?_) (fun c1 => ?_)
    · -- yes
      refine W.seq ?_
      refine W.reg ?_
      refine Wx.rd (v := .int .i64 k) (rd_move rfl) rfl ?_
      refine Wx.rd (v := .int .i64 k) (rd_assign rfl) rfl ?_
      refine Wx.nil ?_
      have e0_0 : (enmV vs ow h) = (k : Int) := by exact fnd_hit h0 (by omega) h2 (decide_eq_true (by omega))
      exact W.ret ⟨.int .i64 k, ResIs.one, hS.bel, (by rw [e0_0])⟩
    · -- no
      refine W.skip ?_
      refine W.reg ?_
      refine Wx.rd (v := .int .i64 (k + 1)) (rd_add rfl rfl (in_i64 (by omega) (by omega))) rfl ?_
      refine Wx.rd (v := .int .i64 (k + 1)) (rd_move rfl) rfl ?_
      refine Wx.nil ?_
      refine ⟨k + 1, (by show (vs.length - (k + 1)).toNat < (vs.length - k).toNat; omega), ?_, ?_, Out.look rfl Out.self⟩
      · exact ⟨hS, (by first | omega | assumption), (by first | omega | assumption), (fnd_next h0 h2 (decide_eq_false (by omega)))⟩
      · exact ⟨rfl, trivial⟩
  · -- no
    refine W.exit rfl ?_
    refine W.seq ?_
    refine W.reg ?_
    refine Wx.rd (v := .int .i64 (-1)) (rd_assign rfl) rfl ?_
    refine Wx.nil ?_
    have e1_0 : (enmV vs ow h) = (-1 : Int) := by exact fnd_none h2 (by omega)
    exact W.ret ⟨.int .i64 (-1), ResIs.one, hS.bel, (by rw [e1_0])⟩

set_option maxHeartbeats 1000000 in
theorem F92 {vv : Value} {vs : List (List Int)} {Fr_vv : List (Option Nat)} {ov : Value} {ow : List Int} {Fr_ov : List (Option Nat)} {w : World} (h_vv : V (tSl (tSl (tI .i64))) vs vv Fr_vv w) (h_ov : V (tSl (tI .i64)) ow ov Fr_ov w) (p_dv : DvOK vs ow.length) : Calls Tryz.prog 92 #[.agg #[vv, ov]] w (Ret w (fun r _ => r = .int .i64 (calV vs ow))) := by
  have a_vv := h_vv.any
  have l_vv := h_vv.len63
  have a_ov := h_ov.any
  have l_ov := h_ov.len63
  have hS := St.start0 w
  refine enterR Tryz.func92 rfl Tryz.ntmps92 Tryz.results92 rfl ?_
  refine W.seq ?_
  refine W.reg ?_
  refine Wx.box (cs := [vv, ov]) hS rfl rfl rfl (fun g_1 w_2 hx_4 hb_3 hS => ?_)
  refine Wx.rd (v := .int .i64 0) (rd_assign rfl) rfl ?_
  refine Wx.nil ?_
  refine W.seq ?_
  refine W.seq ?_
  refine W.reg ?_
  refine Wx.rd (v := .pointer (some ⟨g_1, 0, none⟩)) (rd_fieldAddr rfl foUb_176_0) rfl ?_
  refine Wx.rd (v := vv) (rd_loadX hS 0 rfl rfl rfl Tryz.isAgg115) rfl ?_
  refine Wx.rd (v := .int .i64 (vs.length : Int)) (rd_lenV rfl (hS.arg a_vv) Tryz.underlying115) rfl ?_
  refine Wx.rd (v := .int .i64 0) (rd_move rfl) rfl ?_
  refine Wx.nil ?_
  refine W.block ?_
  refine W.loop [2, 3, 7, 8, 9, 10, 11, 12, 13, 14, 15] (fun (k : Int) => [(7, .int .i64 k)]) (fun (k : Int) w' => St w [] w' [.box g_1 176 [vv, ov]] ∧ 0 ≤ k ∧ k ≤ vs.length ∧ (rng 0 k).find? (fun i => decide (enmV vs ow i = -1)) = none) (fun (k : Int) => (vs.length - k).toNat) 0 ⟨rfl, trivial⟩ ⟨hS, (by first | omega | simp), (by first | omega | simp), (rfl)⟩ ?_
  rintro k u_6 w_5 ⟨hS, h0, h1, h2⟩
  refine W.seq ?_
  refine W.reg ?_
  refine Wx.rd (v := .bool (decide (k < (vs.length : Int)))) (rd_lss rfl rfl) rfl ?_
  refine Wx.nil ?_
  refine W.seq ?_
  refine W.condD rfl (fun c0 => ?_) (fun c0 => ?_)
  · -- yes
    refine W.skip ?_
    refine W.seq ?_
    refine W.block ?_
    refine W.seq ?_
    refine W.reg ?_
    refine Wx.rd (v := .int .i64 k) (rd_move rfl) rfl ?_
    refine Wx.rd (v := .int .i64 k) (rd_assign rfl) rfl ?_
    refine Wx.nil ?_
    refine W.seq ?_
    refine W.reg ?_
    refine Wx.rd (v := .agg #[vv, ov]) (rd_loadXs (ds := [vv, ov]) hS 0 rfl rfl rfl rfl Tryz.isAgg176 Tryz.sizeOf176) rfl ?_
    refine Wx.rd (v := .int .i64 k) (rd_move rfl) rfl ?_
    refine Wx.callF (run_callF Tryz.call113 rfl) (F113 (hS.arg a_vv) (hS.arg a_ov) (in_i64 (by omega) (by omega)) (by omega)) rfl ?_
    rintro r_7 w_8 hx_9 rfl
    have hS := hS.ext hx_9
    refine Wx.rd (v := .bool (decide ((enmV vs ow k) = (-1)))) (rd_eql rfl rfl) rfl ?_
    refine Wx.nil ?_
    refine W.condD rfl (fun c1 => ?_) (fun c1 => ?_)
    · -- yes
      refine W.seq ?_
      refine W.reg ?_
      refine Wx.rd (v := .int .i64 k) (rd_move rfl) rfl ?_
      refine Wx.rd (v := .int .i64 k) (rd_assign rfl) rfl ?_
      refine Wx.nil ?_
      have e0_0 : (calV vs ow) = (k : Int) := by exact fnd_hit h0 (by omega) h2 (decide_eq_true c1)
      exact W.ret ⟨.int .i64 k, ResIs.one, hS.bel, (by rw [e0_0])⟩
    · -- no
      refine W.skip ?_
      refine W.reg ?_
      refine Wx.rd (v := .int .i64 (k + 1)) (rd_add rfl rfl (in_i64 (by omega) (by omega))) rfl ?_
      refine Wx.rd (v := .int .i64 (k + 1)) (rd_move rfl) rfl ?_
      refine Wx.nil ?_
      refine ⟨k + 1, (by show (vs.length - (k + 1)).toNat < (vs.length - k).toNat; omega), ?_, ?_, Out.look rfl Out.self⟩
      · exact ⟨hS, (by first | omega | assumption), (by first | omega | assumption), (fnd_next h0 h2 (decide_eq_false c1))⟩
      · exact ⟨rfl, trivial⟩
  · -- no
    refine W.exit rfl ?_
    refine W.seq ?_
    refine W.reg ?_
    refine Wx.rd (v := .int .i64 (-1)) (rd_assign rfl) rfl ?_
    refine Wx.nil ?_
    have e1_0 : (calV vs ow) = (-1 : Int) := by exact fnd_none h2 (by omega)
    exact W.ret ⟨.int .i64 (-1), ResIs.one, hS.bel, (by rw [e1_0])⟩
end Go.Proofs.YtodcppoglpfodaaGreatDoor

namespace Go.Proofs.YtodcppoglpfodaaGreatDoor
open Go.Wk Go.RowKit Go.Lib
set_option linter.unusedVariables false
set_option linter.unusedSimpArgs false
theorem elUc_23 : ElemI Tryz.prog 23 3 (.int .i64 0) 1 8 := ElemI.of Tryz.underlying23 (by kernel_rfl) (by first | rfl | kernel_rfl) (by decide)
theorem mixedUc_ : Tryz.prog.follows .mixedOrders = true := by kernel_rfl
theorem foUc_176_1 : fldOff Tryz.prog 176 1 = some 1 := by kernel_rfl

set_option maxHeartbeats 2000000 in
theorem F93 {vv ov : Value} {vs : List (List Int)} {ow l : List Int} {ob : List Ob} {w0 w : World} {O : List (Option Nat)} (p_dv : DvOK vs ow.length) (p_l : wlkR vs ow 9 [] 0 = some l) (p_k : 0 ≤ idxP (eqI (enmV vs ow (ix 0 l (l.length - 1)))) 0 l) (hS : St w0 O w (Ob.v (tSl (tSl (tI .i64))) vs vv :: .row (tI .i64) 3 ov ow :: ob)) : Calls Tryz.prog 93 #[.agg #[vv, ov]] w (Bk fun r w' => r = .tuple #[] ∧ St w0 O w' (Ob.v (tSl (tSl (tI .i64))) vs vv :: .row (tI .i64) 3 ov (turV vs ow l) :: ob)) := by
  have hm6 := p_dv.m6
  refine enterB Tryz.func93 rfl Tryz.ntmps93 Tryz.results93 rfl ?_
  refine W.seq ?_
  refine W.reg ?_
  refine Wx.box (cs := [vv, ov]) hS rfl rfl rfl (fun g_1 w_2 hx_4 hb_3 hS => ?_)
  refine Wx.nil ?_
  refine W.seq ?_
  refine W.reg ?_
  refine Wx.rd (v := (.slice none 0 0)) (rd_assign rfl) rfl ?_
  refine Wx.nil ?_
  refine W.seq ?_
  refine W.seq ?_
  refine W.reg ?_
  refine Wx.rd (v := .int .i64 0) (rd_assign rfl) rfl ?_
  refine Wx.nil ?_
  refine W.block ?_
  have hS := hS.addNil (tI .i64) 3
  refine W.loop [2, 3, 9, 10, 11, 12, 13, 14, 15, 16, 17, 18, 19] (fun x : Int × Value × (List Int) × Nat => match x with | (i, lv, l2, n) => [(3, .int .i64 i), (2, lv)]) (fun (x : Int × Value × (List Int) × Nat) w' => match x with | (i, lv, l2, n) => St w0 O w' (.row (tI .i64) 3 lv l2 :: .box g_1 176 [vv, ov] :: Ob.v (tSl (tSl (tI .i64))) vs vv :: .row (tI .i64) 3 ov ow :: ob) ∧ wlkR vs ow n l2 i = some l ∧ (l2.length : Int) + n ≤ 9 ∧ -1 ≤ i ∧ i ≤ 4) (fun x : Int × Value × (List Int) × Nat => match x with | (i, lv, l2, n) => n) (0, (.slice none 0 0), [], 9) ⟨rfl, rfl, trivial⟩ ⟨hS, (p_l), (by decide), (by decide)⟩ ?_
  rintro ⟨i, lv, l2, n⟩ u_6 w_5 ⟨hS, h1, h3, h4⟩
  refine W.seq ?_
  refine W.seq ?_
  refine W.reg ?_
  refine Wx.rd (v := lv) (rd_move rfl) rfl ?_
  refine Wx.rd (v := .int .i64 i) (rd_move rfl) rfl ?_
  refine Wx.callF (run_callF Tryz.call114 rfl) (F114 (hS.lend 0 rfl) (in_i64 (by omega) (by omega))) rfl ?_
  rintro r_7 w_8 hx_9 rfl
  have hS := hS.ext hx_9
  refine Wx.rd (v := .bool (!(hasL l2 i))) (rd_not rfl) rfl ?_
  refine Wx.nil ?_
  refine W.cond rfl (fun c0 => ?_) (fun c0 => ?_)
  · -- yes
    try simp only [Bool.and_eq_true, Bool.or_eq_true, Bool.not_eq_true', Bool.and_eq_false_iff, Bool.or_eq_false_iff, Bool.not_eq_false', decide_eq_true_eq, decide_eq_false_iff_not, not_or, Bool.false_eq_true, Bool.true_eq_false, false_or, or_false, not_false_eq_true] at c0
    refine W.skip ?_
    refine W.seq ?_
    refine W.block ?_
    refine W.reg ?_
    refine Wx.rd (v := lv) (rd_move rfl) rfl ?_
    refine Wx.rd (v := .int .i64 i) (rd_move rfl) rfl ?_
    refine Wx.lit (t := (tI .i64)) (ys := [i]) (vs := [.int .i64 i]) elUc_23 hS rfl rfl ⟨(V.mkInt (in_i64 (by omega) (by omega))), trivial⟩ (by decide) rfl (fun v_10 w_11 hx_12 hS => ?_)
    refine Wx.append elUc_23 hS 1 rfl rfl rfl (Src.ofR hS 0 rfl) (by simp only [maxLen]; first | omega | (simp; omega) | simp) (by first | omega | (simp; omega) | simp) rfl (fun v_13 w_14 hz_15 hS => ?_)
    refine Wx.rd (v := v_13) (rd_assign rfl) rfl ?_
    refine Wx.nil ?_
    refine W.reg ?_
    refine Wx.rd (v := .agg #[vv, ov]) (rd_loadXs (ds := [vv, ov]) hS 2 rfl rfl rfl rfl Tryz.isAgg176 Tryz.sizeOf176) rfl ?_
    refine Wx.rd (v := .int .i64 i) (rd_move rfl) rfl ?_
    refine Wx.callF (run_callF Tryz.call113 rfl) (F113 (hS.v 3 rfl) (hS.lend 4 rfl) (in_i64 (by omega) (by omega)) p_dv) rfl ?_
    rintro r_16 w_17 hx_18 rfl
    have hS := hS.ext hx_18
    refine Wx.rd (v := .int .i64 (enmV vs ow i)) (rd_assign rfl) rfl ?_
    refine Wx.nil ?_
    refine ⟨(enmV vs ow i, v_13, l2 ++ [i], n - 1), (by have := (wlk_next h1 c0).2; show n - 1 < n; omega), ?_, ?_, Out.look rfl Out.self⟩
    · exact ⟨hS.tl, ((wlk_next h1 c0).1), (by have := (wlk_next h1 c0).2; simp only [List.length_append, List.length_cons, List.length_nil]; omega), (enm_bd p_dv _)⟩
    · exact ⟨rfl, rfl, trivial⟩
  · -- no
    try simp only [Bool.and_eq_true, Bool.or_eq_true, Bool.not_eq_true', Bool.and_eq_false_iff, Bool.or_eq_false_iff, Bool.not_eq_false', decide_eq_true_eq, decide_eq_false_iff_not, not_or, Bool.false_eq_true, Bool.true_eq_false, false_or, or_false, not_false_eq_true] at c0
    have hll : l2.length = l.length := congrArg List.length (wlk_end h1 c0)
    have hsay : l2 = l := wlk_end h1 c0
    rw [hsay] at hS
    have hS := hS.freeze 0 rfl
    have hlp : 0 < l.length := wlk_pos p_l
    have hen := enm_bd (ow := ow) p_dv (ix 0 l (l.length - 1))
    refine W.exit rfl ?_
    refine W.seq ?_
    refine W.regQ mixedUc_ (by kernel_rfl) ?_
    refine Wx.rd (v := .agg #[vv, ov]) (rd_loadXs (ds := [vv, ov]) hS 1 rfl rfl rfl rfl Tryz.isAgg176 Tryz.sizeOf176) rfl ?_
    refine Wx.rd (v := lv) (rd_move rfl) rfl ?_
    refine Wx.rd (v := lv) (rd_move rfl) rfl ?_
    refine Wx.rd (v := .int .i64 (l.length : Int)) (rd_lenV rfl (hS.v 0 rfl) Tryz.underlying23) rfl ?_
    refine Wx.rd (v := .int .i64 ((l.length : Int) - 1)) (rd_sub rfl rfl (in_i64 (by omega) (by omega))) rfl ?_
    refine Wx.ex (rd_index 0 (hS.v 0 rfl) rfl rfl Tryz.underlying23 Tryz.sizeOf3 (by first | omega | (simp only [List.length_set, List.length_append, List.length_cons, List.length_nil, List.length_replicate]; omega)) (by first | omega | (simp only [List.length_set, List.length_append, List.length_cons, List.length_nil, List.length_replicate]; omega))) rfl (fun p_20 hp_21 => ?_)
    refine Wx.rd (v := .int .i64 (ix 0 l ((l.length : Int) - 1))) (rd_loadI hp_21 rfl Tryz.isAgg3 Tryz.sizeOf3) rfl ?_
    have bd_22 := bd_i64 hp_21.inK
    refine Wx.callV (v := .int .i64 (enmV vs ow (ix 0 l ((l.length : Int) - 1)))) (run_callF Tryz.call113 rfl) (fun w_23 hw_24 => (F113 ((hS.v 2 rfl).ext hw_24) ((hS.lend 3 rfl).ext hw_24) (in_i64 (by omega) (by omega)) p_dv)) rfl ?_
    refine Wx.rd (v := .int .i64 (enmV vs ow (ix 0 l ((l.length : Int) - 1)))) (rd_assign rfl) rfl ?_
    refine Wx.nilQ (fun w_25 hx_26 => ?_)
    have hS := hS.ext hx_26
    refine W.seq ?_
    refine W.reg ?_
    refine Wx.rd (v := lv) (rd_move rfl) rfl ?_
    refine Wx.rd (v := lv) (rd_move rfl) rfl ?_
    refine Wx.rd (v := .int .i64 (enmV vs ow (ix 0 l ((l.length : Int) - 1)))) (rd_move rfl) rfl ?_
    refine Wx.callF (run_callF Tryz.call115 rfl) (F115 (hS.v 0 rfl) (in_i64 (by omega) (by omega))) rfl ?_
    rintro r_27 w_28 hx_29 rfl
    have hS := hS.ext hx_29
    rw [show (idxP (fun y => decide (y = (enmV vs ow (ix 0 l ((l.length : Int) - 1))))) 0 l : Int) = idxP (eqI (enmV vs ow (ix 0 l (l.length - 1)))) 0 l from rfl]
    have ib_30 := idxP_bd (fun y => decide (y = (enmV vs ow (ix 0 l ((l.length : Int) - 1))))) l 0 (Int.le_refl 0)
    have hik := idx_lt p_k
    have hdl : ((l.drop (idxP (eqI (enmV vs ow (ix 0 l (l.length - 1)))) 0 l).toNat).length : Int) = l.length - idxP (eqI (enmV vs ow (ix 0 l (l.length - 1)))) 0 l := by rw [List.length_drop]; omega
    have hrn : (((rinV vs ow l)).length : Int) = (l.drop (idxP (eqI (enmV vs ow (ix 0 l (l.length - 1)))) 0 l).toNat).length := rfl
    refine Wx.ex (rd_sliceL (hS.v 0 rfl) Tryz.underlying23 Tryz.sizeOf3 rfl rfl (by omega) (by omega)) rfl (fun u_31 hu_32 => ?_)
    have ln_33 := hu_32.len63
    have hS := hS.add hu_32
    refine Wx.rd (v := u_31) (rd_assign rfl) rfl ?_
    refine Wx.nil ?_
    refine W.seq ?_
    refine W.reg ?_
    refine Wx.rd (v := .pointer (some ⟨g_1, 1, none⟩)) (rd_fieldAddr rfl foUc_176_1) rfl ?_
    refine Wx.rd (v := ov) (rd_loadX hS 2 rfl rfl rfl Tryz.isAgg23) rfl ?_
    refine Wx.rd (v := .int .i64 (ow.length : Int)) (rd_lenR hS 4 rfl rfl Tryz.underlying23) rfl ?_
    refine Wx.rd (v := .int .i64 0) (rd_move rfl) rfl ?_
    refine Wx.nil ?_
    refine W.block ?_
    refine W.loop [6, 7, 8, 36, 37, 38, 39, 40, 41, 42, 43, 44, 45, 46, 47, 48, 49, 50, 51, 52, 53, 54, 55, 56, 57, 58] (fun x : Int × (List Int) => match x with | (k, o2) => [(36, .int .i64 k)]) (fun (x : Int × (List Int)) w' => match x with | (k, o2) => St w0 O w' (Ob.v (tSl (tI .i64)) (l.drop (idxP (eqI (enmV vs ow (ix 0 l (l.length - 1)))) 0 l).toNat) u_31 :: Ob.v (tSl (tI .i64)) l lv :: .box g_1 176 [vv, ov] :: Ob.v (tSl (tSl (tI .i64))) vs vv :: .row (tI .i64) 3 ov o2 :: ob) ∧ 0 ≤ k ∧ k ≤ ow.length ∧ o2 = mpK (turM (rinV vs ow l)) ow k) (fun x : Int × (List Int) => match x with | (k, o2) => (ow.length - k).toNat) (0, ow) ⟨rfl, trivial⟩ ⟨hS, (by first | omega | simp), (by first | omega | simp), (rfl)⟩ ?_
    rintro ⟨k, o2⟩ u_36 w_35 ⟨hS, k0, k1, k2⟩
    refine W.seq ?_
    refine W.reg ?_
    refine Wx.rd (v := .bool (decide (k < (ow.length : Int)))) (rd_lss rfl rfl) rfl ?_
    refine Wx.nil ?_
    refine W.seq ?_
    refine W.condD rfl (fun c1 => ?_) (fun c1 => ?_)
    · -- yes
      have hkk : k < ow.length := by omega
      have hml := mp_len (turM (rinV vs ow l)) ow k
      have hma := mp_at (f := turM (rinV vs ow l)) k0 hkk
      rw [← k2] at hml hma
      refine W.skip ?_
      refine W.seq ?_
      refine W.block ?_
      refine W.seq ?_
      refine W.reg ?_
      refine Wx.rd (v := .int .i64 k) (rd_move rfl) rfl ?_
      refine Wx.indexR hS 4 rfl rfl rfl Tryz.underlying23 Tryz.sizeOf3 (by first | omega | (simp only [List.length_set, List.length_append, List.length_cons, List.length_nil, List.length_replicate]; omega)) (by first | omega | (simp only [List.length_set, List.length_append, List.length_cons, List.length_nil, List.length_replicate]; omega)) rfl (fun g_37 hg_38 => ?_)
      refine Wx.rd (v := .int .i64 (ix 0 o2 k)) (rd_loadRI' hS 4 rfl hg_38 rfl (by first | omega | (simp only [List.length_set, List.length_append, List.length_cons, List.length_nil, List.length_replicate]; omega)) (by first | omega | (simp only [List.length_set, List.length_append, List.length_cons, List.length_nil, List.length_replicate]; omega)) Tryz.isAgg3 Tryz.sizeOf3) rfl ?_
      have bd_39 := bd_i64 (hS.rowInK' 4 rfl (by first | omega | (simp only [List.length_set, List.length_append, List.length_cons, List.length_nil, List.length_replicate]; omega)) (by first | omega | (simp only [List.length_set, List.length_append, List.length_cons, List.length_nil, List.length_replicate]; omega)) : InK .i64 (ix 0 o2 k))
      refine Wx.rd (v := .int .i64 k) (rd_assign rfl) rfl ?_
      refine Wx.rd (v := .int .i64 (ix 0 o2 k)) (rd_assign rfl) rfl ?_
      refine Wx.nil ?_
      refine W.seq ?_
      refine W.reg ?_
      refine Wx.rd (v := u_31) (rd_move rfl) rfl ?_
      refine Wx.rd (v := .int .i64 (ix 0 o2 k)) (rd_move rfl) rfl ?_
      refine Wx.callF (run_callF Tryz.call115 rfl) (F115 (hS.v 0 rfl) (in_i64 (by omega) (by omega))) rfl ?_
      rintro r_40 w_41 hx_42 rfl
      have hS := hS.ext hx_42
      rw [show (idxP (fun y => decide (y = (ix 0 o2 k))) 0 (l.drop (idxP (eqI (enmV vs ow (ix 0 l (l.length - 1)))) 0 l).toNat) : Int) = idxP (eqI (ix 0 ow k)) 0 (rinV vs ow l) from (by rw [← hma]; rfl)]
      have ib_43 := idxP_bd (fun y => decide (y = (ix 0 o2 k))) (l.drop (idxP (eqI (enmV vs ow (ix 0 l (l.length - 1)))) 0 l).toNat) 0 (Int.le_refl 0)
      refine Wx.rd (v := .int .i64 (idxP (eqI (ix 0 ow k)) 0 (rinV vs ow l))) (rd_assign rfl) rfl ?_
      refine Wx.nil ?_
      refine W.seq ?_
      refine W.reg ?_
      refine Wx.rd (v := .int .i64 (idxP (eqI (ix 0 ow k)) 0 (rinV vs ow l))) (rd_move rfl) rfl ?_
      refine Wx.rd (v := .bool (decide (0 ≤ (idxP (eqI (ix 0 ow k)) 0 (rinV vs ow l))))) (rd_geq rfl rfl) rfl ?_
      refine Wx.nil ?_
      refine W.condD rfl (fun c2 => ?_) (fun c2 => ?_)
      · -- yes
        have hjl := idx_lt c2
        have hm0 := Int.emod_nonneg (idxP (eqI (ix 0 ow k)) 0 (rinV vs ow l) + 1) (show ((l.drop (idxP (eqI (enmV vs ow (ix 0 l (l.length - 1)))) 0 l).toNat).length : Int) ≠ 0 by omega)
        have hm1 := Int.emod_lt_of_pos (idxP (eqI (ix 0 ow k)) 0 (rinV vs ow l) + 1) (show 0 < ((l.drop (idxP (eqI (enmV vs ow (ix 0 l (l.length - 1)))) 0 l).toNat).length : Int) by omega)
        refine W.regT 12 mixedUc_ (by kernel_rfl) ?_
        refine Wx.rd (v := .pointer (some ⟨g_1, 1, none⟩)) (rd_fieldAddr rfl foUc_176_1) rfl ?_
        refine Wx.rd (v := ov) (rd_loadX hS 2 rfl rfl rfl Tryz.isAgg23) rfl ?_
        refine Wx.rd (v := .int .i64 k) (rd_move rfl) rfl ?_
        refine Wx.rd (v := u_31) (rd_move rfl) rfl ?_
        refine Wx.rd (v := .int .i64 (idxP (eqI (ix 0 ow k)) 0 (rinV vs ow l))) (rd_move rfl) rfl ?_
        refine Wx.rd (v := .int .i64 ((idxP (eqI (ix 0 ow k)) 0 (rinV vs ow l)) + 1)) (rd_add rfl rfl (in_i64 (by omega) (by omega))) rfl ?_
        refine Wx.rd (v := u_31) (rd_move rfl) rfl ?_
        refine Wx.rd (v := .int .i64 ((l.drop (idxP (eqI (enmV vs ow (ix 0 l (l.length - 1)))) 0 l).toNat).length : Int)) (rd_lenV rfl (hS.v 0 rfl) Tryz.underlying23) rfl ?_
        refine Wx.rd (v := .int .i64 (((idxP (eqI (ix 0 ow k)) 0 (rinV vs ow l)) + 1) % ((l.drop (idxP (eqI (enmV vs ow (ix 0 l (l.length - 1)))) 0 l).toNat).length : Int))) (rd_rem rfl rfl (by omega) (by omega)) rfl ?_
        refine Wx.ex (rd_index 0 (hS.v 0 rfl) rfl rfl Tryz.underlying23 Tryz.sizeOf3 (by first | omega | (simp only [List.length_set, List.length_append, List.length_cons, List.length_nil, List.length_replicate]; omega)) (by first | omega | (simp only [List.length_set, List.length_append, List.length_cons, List.length_nil, List.length_replicate]; omega))) rfl (fun p_44 hp_45 => ?_)
        refine Wx.rd (v := .int .i64 (ix 0 (l.drop (idxP (eqI (enmV vs ow (ix 0 l (l.length - 1)))) 0 l).toNat) (((idxP (eqI (ix 0 ow k)) 0 (rinV vs ow l)) + 1) % ((l.drop (idxP (eqI (enmV vs ow (ix 0 l (l.length - 1)))) 0 l).toNat).length : Int)))) (rd_loadI hp_45 rfl Tryz.isAgg3 Tryz.sizeOf3) rfl ?_
        have bd_46 := bd_i64 hp_45.inK
        refine Wx.indexR hS 4 rfl rfl rfl Tryz.underlying23 Tryz.sizeOf3 (by first | omega | (simp only [List.length_set, List.length_append, List.length_cons, List.length_nil, List.length_replicate]; omega)) (by first | omega | (simp only [List.length_set, List.length_append, List.length_cons, List.length_nil, List.length_replicate]; omega)) rfl (fun g_47 hg_48 => ?_)
        refine Wx.nilQ (fun w_49 hx_50 => ?_)
        have hS := hS.ext hx_50
        refine Wx.storeR (j := k.toNat) (z := ix 0 (l.drop (idxP (eqI (enmV vs ow (ix 0 l (l.length - 1)))) 0 l).toNat) (((idxP (eqI (ix 0 ow k)) 0 (rinV vs ow l)) + 1) % ((l.drop (idxP (eqI (enmV vs ow (ix 0 l (l.length - 1)))) 0 l).toNat).length : Int))) hS 4 rfl hg_48 rfl (by first | omega | (simp only [List.length_set, List.length_append, List.length_cons, List.length_nil, List.length_replicate]; omega)) rfl (V.mkInt (in_i64 (by omega) (by omega))) Tryz.sizeOf3 (fun w_51 hz_52 hS => ?_)
        refine Wx.nil ?_
        refine W.reg ?_
        refine Wx.rd (v := .int .i64 (k + 1)) (rd_add rfl rfl (in_i64 (by omega) (by omega))) rfl ?_
        refine Wx.rd (v := .int .i64 (k + 1)) (rd_move rfl) rfl ?_
        refine Wx.nil ?_
        refine ⟨(k + 1, List.set o2 k.toNat (ix 0 (l.drop (idxP (eqI (enmV vs ow (ix 0 l (l.length - 1)))) 0 l).toNat) (((idxP (eqI (ix 0 ow k)) 0 (rinV vs ow l)) + 1) % ((l.drop (idxP (eqI (enmV vs ow (ix 0 l (l.length - 1)))) 0 l).toNat).length : Int)))), (by show (ow.length - (k + 1)).toNat < (ow.length - k).toNat; omega), ?_, ?_, Out.look rfl Out.self⟩
        · exact ⟨hS, (by first | omega | assumption), (by first | omega | assumption), (by rw [k2, ← mp_set k0 hkk, turM, if_pos c2]; rfl)⟩
        · exact ⟨rfl, trivial⟩
      · -- no
        refine W.skip ?_
        refine W.reg ?_
        refine Wx.rd (v := .int .i64 (k + 1)) (rd_add rfl rfl (in_i64 (by omega) (by omega))) rfl ?_
        refine Wx.rd (v := .int .i64 (k + 1)) (rd_move rfl) rfl ?_
        refine Wx.nil ?_
        refine ⟨(k + 1, o2), (by show (ow.length - (k + 1)).toNat < (ow.length - k).toNat; omega), ?_, ?_, Out.look rfl Out.self⟩
        · exact ⟨hS, (by first | omega | assumption), (by first | omega | assumption), (by rw [k2]; exact mp_keep k0 hkk (by rw [turM, if_neg c2]))⟩
        · exact ⟨rfl, trivial⟩
    · -- no
      have hsay : o2 = (turV vs ow l) := by rw [k2, mp_end (by omega)]; rfl
      rw [hsay] at hS
      refine W.exit rfl ?_
      exact ⟨.tuple #[], ResIs.zero, rfl, (St.tl (St.tl (St.tl hS)))⟩
end Go.Proofs.YtodcppoglpfodaaGreatDoor

namespace Go.Proofs.YtodcppoglpfodaaGreatDoor
open Go.Wk Go.RowKit Go.Lib
set_option linter.unusedVariables false
set_option linter.unusedSimpArgs false
theorem foUd_176_1 : fldOff Tryz.prog 176 1 = some 1 := by kernel_rfl

set_option maxHeartbeats 2000000 in
theorem F75 {vv : Value} {vs : List (List Int)} {m : Int} {res : List Int} {O : List (Option Nat)} {w : World} (h_vv : V (tSl (tSl (tI .i64))) vs vv O w) (p_dv : DvOK vs m) (p_m : 1 ≤ m) (p_r : rgR vs m 50 0 (List.replicate m.toNat (-1)) = some res) (hO : ∀ b, some b ∈ O → b < w.heap.size) : Calls Tryz.prog 75 #[vv] w (Ret w (fun r w' => ∃ rv, r = .tuple #[rv, .int .i64 0] ∧ Fresh (tI .i64) 3 res rv w.heap.size w')) := by
  have hm6 := p_dv.m6
  have hrl : (List.replicate m.toNat (-1 : Int)).length = m.toNat := List.length_replicate
  have a_vv := h_vv
  have l_vv := h_vv.len63
  have hS := St.start w O hO
  refine enterR Tryz.func75 rfl Tryz.ntmps75 Tryz.results75 rfl ?_
  refine W.seq ?_
  refine W.reg ?_
  refine Wx.rd (v := (.slice none 0 0)) (rd_assign rfl) rfl ?_
  refine Wx.rd (v := .int .i64 0) (rd_assign rfl) rfl ?_
  refine Wx.nil ?_
  refine W.seq ?_
  refine W.seq ?_
  refine W.reg ?_
  refine Wx.rd (v := vv) (rd_move rfl) rfl ?_
  refine Wx.callF (run_callF Tryz.call90 rfl) (F90 (m := m) (hS.arg a_vv) p_dv) rfl ?_
  rintro r_1 w_2 hx_3 rfl
  have hS := hS.ext hx_3
  refine Wx.rd (v := .int .i64 0) (rd_assign rfl) rfl ?_
  refine Wx.nil ?_
  refine W.seq ?_
  refine W.reg ?_
  refine Wx.rd (v := .int .i64 0) (rd_move rfl) rfl ?_
  refine Wx.rd (v := .bool false) (Rd.to (v := .bool (decide ((0 : Int) ≠ 0))) (rd_neq rfl rfl) rfl) rfl ?_
  refine Wx.nil ?_
  refine W.condF rfl rfl ?_
  refine W.skip ?_
  refine W.seq ?_
  refine W.reg ?_
  refine Wx.rd (v := vv) (rd_move rfl) rfl ?_
  refine Wx.callF (run_callF Tryz.call91 rfl) (F91 (m := m) (hS.arg a_vv) p_dv p_m hS.fb_lt) rfl ?_
  rintro r_4 w_5 hx_6 ⟨v_7, rfl, hv_8⟩
  have hS := hS.pushFr hx_6 hv_8
  refine Wx.alloc (cs := [(.slice none 0 0), (.slice none 0 0)]) hS Tryz.zeroValue176 rfl rfl (fun g_10 w_11 hx_13 hb_12 hS => ?_)
  refine Wx.storeX (cs' := [vv, v_7]) (ds := [vv, v_7]) hS 0 rfl rfl rfl rfl Tryz.sizeOf176 (Nat.le_of_ble_eq_true rfl) (one_cons (V.oneC (hS.arg a_vv)) (one_cons (hS.rowOne 1 rfl) one_nil)) rfl (fun w_14 hz_15 hS => ?_)
  have hS := hS.add (hS.arg a_vv)
  refine Wx.nil ?_
  refine W.seq ?_
  refine W.seq ?_
  refine W.reg ?_
  refine Wx.rd (v := .pointer (some ⟨g_10, 1, none⟩)) (rd_fieldAddr rfl foUd_176_1) rfl ?_
  refine Wx.rd (v := v_7) (rd_loadX hS 1 rfl rfl rfl Tryz.isAgg23) rfl ?_
  refine Wx.rd (v := .int .i64 ((List.replicate m.toNat (-1)).length : Int)) (rd_lenR hS 2 rfl rfl Tryz.underlying23) rfl ?_
  refine Wx.rd (v := .int .i64 0) (rd_move rfl) rfl ?_
  refine Wx.nil ?_
  refine W.block ?_
  refine W.loop [6, 7, 18, 19, 20, 21, 22, 23, 24, 25, 26, 27, 28, 29, 30, 31, 32, 33, 34] (fun x : Int × Value × (List Int) × Nat => match x with | (q, ov, ow, n) => [(18, .int .i64 q)]) (fun (x : Int × Value × (List Int) × Nat) w' => match x with | (q, ov, ow, n) => St w O w' [Ob.v (tSl (tSl (tI .i64))) vs vv, .box g_10 176 [vv, ov], .row (tI .i64) 3 ov ow] ∧ 0 ≤ q ∧ q ≤ m ∧ rgR vs m n q ow = some res ∧ (ow.length : Int) = m) (fun x : Int × Value × (List Int) × Nat => match x with | (q, ov, ow, n) => (m - q).toNat) (0, v_7, List.replicate m.toNat (-1), 50) ⟨rfl, trivial⟩ ⟨hS, (by first | omega | simp), (by first | omega | simp), (p_r), (by omega)⟩ ?_
  rintro ⟨q, ov, ow, n⟩ u_17 w_16 ⟨hS, h0, h1, h2, h3⟩
  refine W.seq ?_
  refine W.reg ?_
  refine Wx.rd (v := .bool (decide (q < ((List.replicate m.toNat (-1)).length : Int)))) (rd_lss rfl rfl) rfl ?_
  refine Wx.nil ?_
  refine W.seq ?_
  refine W.condD rfl (fun c1 => ?_) (fun c1 => ?_)
  · -- yes
    have hdo : DvOK vs ow.length := by rw [h3]; exact p_dv
    have hxm : q < m := by omega
    refine W.skip ?_
    refine W.seq ?_
    refine W.block ?_
    refine W.seq ?_
    refine W.reg ?_
    refine Wx.rd (v := .int .i64 q) (rd_move rfl) rfl ?_
    refine Wx.rd (v := .int .i64 q) (rd_assign rfl) rfl ?_
    refine Wx.nil ?_
    refine W.seq ?_
    refine W.reg ?_
    refine Wx.rd (v := .agg #[vv, ov]) (rd_loadXs (ds := [vv, ov]) hS 1 rfl rfl rfl rfl Tryz.isAgg176 Tryz.sizeOf176) rfl ?_
    refine Wx.callF (run_callF Tryz.call92 rfl) (F92 (hS.v 0 rfl) (hS.lend 2 rfl) hdo) rfl ?_
    rintro r_18 w_19 hx_20 rfl
    have hS := hS.ext hx_20
    refine Wx.rd (v := .int .i64 (calV vs ow)) (rd_assign rfl) rfl ?_
    refine Wx.nil ?_
    refine W.seq ?_
    refine W.block ?_
    refine W.loop [7, 23, 24, 25, 26, 27, 28] (fun x : Int × Value × (List Int) × Nat => match x with | (c, ov2, ow2, n2) => [(7, .int .i64 c)]) (fun (x : Int × Value × (List Int) × Nat) w' => match x with | (c, ov2, ow2, n2) => St w O w' [Ob.v (tSl (tSl (tI .i64))) vs vv, .box g_10 176 [vv, ov2], .row (tI .i64) 3 ov2 ow2] ∧ rgR vs m n2 q ow2 = some res ∧ c = calV vs ow2 ∧ (ow2.length : Int) = m) (fun x : Int × Value × (List Int) × Nat => match x with | (c, ov2, ow2, n2) => n2) (calV vs ow, ov, ow, n) ⟨rfl, trivial⟩ ⟨hS, (h2), (rfl), (h3)⟩ ?_
    rintro ⟨c, ov2, ow2, n2⟩ u_22 w_21 ⟨hS, g2, g3, g4⟩
    have hdo2 : DvOK vs ow2.length := by rw [g4]; exact p_dv
    refine W.seq ?_
    refine W.seq ?_
    refine W.reg ?_
    refine Wx.rd (v := .int .i64 c) (rd_move rfl) rfl ?_
    refine Wx.rd (v := .bool (decide (c = (-1)))) (rd_eql rfl rfl) rfl ?_
    refine Wx.nil ?_
    refine W.condD rfl (fun c2 => ?_) (fun c2 => ?_)
    · -- yes
      obtain ⟨lw, hw1, hw2, hw3, hw4⟩ := rg_turn g2 hxm (by rw [← g3]; exact c2)
      refine W.skip ?_
      refine W.block ?_
      refine W.seq ?_
      refine W.reg ?_
      refine Wx.rd (v := .agg #[vv, ov2]) (rd_loadXs (ds := [vv, ov2]) hS 1 rfl rfl rfl rfl Tryz.isAgg176 Tryz.sizeOf176) rfl ?_
      have hS := hS.front 1 rfl
      have hS := hS.front 2 rfl
      have hS := hS.front 2 rfl
      have hS : St _ _ w_21 [Ob.v (tSl (tSl (tI .i64))) vs vv, .row (tI .i64) 3 ov2 ow2, .box g_10 176 [vv, ov2]] := hS
      refine Wx.callB (run_callF Tryz.call93 rfl) (F93 (ob := [.box g_10 176 [vv, ov2]]) hdo2 hw1 hw2 hS) rfl ?_
      rintro r_23 w_24 ⟨rfl, hS⟩
      have hS : St _ _ w_24 [Ob.v (tSl (tSl (tI .i64))) vs vv, .row (tI .i64) 3 ov2 (turV vs ow2 lw), .box g_10 176 [vv, ov2]] := hS
      have hS := hS.front 1 rfl
      have hS := hS.front 2 rfl
      have hS := hS.front 2 rfl
      have hS : St _ _ w_24 [Ob.v (tSl (tSl (tI .i64))) vs vv, .box g_10 176 [vv, ov2], .row (tI .i64) 3 ov2 (turV vs ow2 lw)] := hS
      refine Wx.nil ?_
      refine W.reg ?_
      refine Wx.rd (v := .agg #[vv, ov2]) (rd_loadXs (ds := [vv, ov2]) hS 1 rfl rfl rfl rfl Tryz.isAgg176 Tryz.sizeOf176) rfl ?_
      refine Wx.callF (run_callF Tryz.call92 rfl) (F92 (hS.v 0 rfl) (hS.lend 2 rfl) (by rw [tur_len]; exact hdo2)) rfl ?_
      rintro r_25 w_26 hx_27 rfl
      have hS := hS.ext hx_27
      refine Wx.rd (v := .int .i64 (calV vs (turV vs ow2 lw))) (rd_assign rfl) rfl ?_
      refine Wx.nil ?_
      refine ⟨(calV vs (turV vs ow2 lw), ov2, turV vs ow2 lw, n2 - 1), (by show n2 - 1 < n2; omega), ?_, ?_, Out.look rfl Out.self⟩
      · exact ⟨hS, (hw3), (rfl), (by rw [tur_len]; exact g4)⟩
      · exact ⟨rfl, trivial⟩
    · -- no
      have hpt := rg_put g2 hxm (by rw [← g3]; exact c2)
      rw [← g3] at hpt
      have hcb := cal_bd (ow := ow2) p_dv
      refine W.exit rfl ?_
      refine W.reg ?_
      refine Wx.rd (v := .pointer (some ⟨g_10, 1, none⟩)) (rd_fieldAddr rfl foUd_176_1) rfl ?_
      refine Wx.rd (v := ov2) (rd_loadX hS 1 rfl rfl rfl Tryz.isAgg23) rfl ?_
      refine Wx.rd (v := .int .i64 q) (rd_move rfl) rfl ?_
      refine Wx.rd (v := .int .i64 c) (rd_move rfl) rfl ?_
      refine Wx.indexR hS 2 rfl rfl rfl Tryz.underlying23 Tryz.sizeOf3 (by first | omega | (simp only [List.length_set, List.length_append, List.length_cons, List.length_nil, List.length_replicate]; omega)) (by first | omega | (simp only [List.length_set, List.length_append, List.length_cons, List.length_nil, List.length_replicate]; omega)) rfl (fun g_28 hg_29 => ?_)
      refine Wx.storeR (j := q.toNat) (z := c) hS 2 rfl hg_29 rfl (by first | omega | (simp only [List.length_set, List.length_append, List.length_cons, List.length_nil, List.length_replicate]; omega)) rfl (V.mkInt (in_i64 (by omega) (by omega))) Tryz.sizeOf3 (fun w_30 hz_31 hS => ?_)
      refine Wx.nil ?_
      refine W.reg ?_
      refine Wx.rd (v := .int .i64 (q + 1)) (rd_add rfl rfl (in_i64 (by omega) (by omega))) rfl ?_
      refine Wx.rd (v := .int .i64 (q + 1)) (rd_move rfl) rfl ?_
      refine Wx.nil ?_
      refine ⟨(q + 1, ov2, List.set ow2 q.toNat c, n2 - 1), (by show (m - (q + 1)).toNat < (m - q).toNat; omega), ?_, ?_, Out.look rfl (Out.hav rfl (Out.look rfl Out.self))⟩
      · exact ⟨hS, (by first | omega | assumption), (by first | omega | assumption), (hpt.1), (by rw [List.length_set]; exact g4)⟩
      · exact ⟨rfl, trivial⟩
  · -- no
    refine W.exit rfl ?_
    refine W.seq ?_
    refine W.reg ?_
    refine Wx.rd (v := .pointer (some ⟨g_10, 1, none⟩)) (rd_fieldAddr rfl foUd_176_1) rfl ?_
    refine Wx.rd (v := ov) (rd_loadX hS 1 rfl rfl rfl Tryz.isAgg23) rfl ?_
    refine Wx.rd (v := ov) (rd_assign rfl) rfl ?_
    refine Wx.rd (v := .int .i64 0) (rd_assign rfl) rfl ?_
    refine Wx.nil ?_
    have e0_0 : res = ow := by exact (rg_end h2 (by omega)).symm
    exact W.ret ⟨.tuple #[ov, .int .i64 0], ResIs.two, hS.bel, ⟨ov, rfl, (by rw [e0_0]; exact (hS.fr 2 rfl flat_int))⟩⟩
end Go.Proofs.YtodcppoglpfodaaGreatDoor

namespace Go.Proofs.YtodcppoglpfodaaGreatDoor
open Go.Wk Go.RowKit Go.Lib
set_option linter.unusedVariables false
set_option linter.unusedSimpArgs false
theorem elVd_23 : ElemI Tryz.prog 23 3 (.int .i64 0) 1 8 := ElemI.of Tryz.underlying23 (by kernel_rfl) (by first | rfl | kernel_rfl) (by decide)
theorem elVd_115 : ElemI Tryz.prog 115 23 ((.slice none 0 0)) 1 24 := ElemI.of Tryz.underlying115 (by kernel_rfl) (by first | rfl | kernel_rfl) (by decide)

set_option maxHeartbeats 2000000 in
theorem F55  {w : World} (hG : Laid w) : Calls Tryz.prog 55 #[] w (Ret w (fun r _ => r = .bool true)) := by
  have hS := St.start0 w
  refine enterR Tryz.func55 rfl Tryz.ntmps55 Tryz.results55 rfl ?_
  refine W.seq ?_
  refine W.reg ?_
  refine Wx.rd (v := .bool false) (rd_assign rfl) rfl ?_
  refine Wx.nil ?_
  refine W.seq ?_
  refine W.reg ?_
  refine Wx.lit (t := (tI .i64)) (ys := [1, 5, 2]) (vs := [.int .i64 1, .int .i64 5, .int .i64 2]) elVd_23 hS rfl rfl ⟨(V.mkInt (in_i64 (by omega) (by omega))), ⟨(V.mkInt (in_i64 (by omega) (by omega))), ⟨(V.mkInt (in_i64 (by omega) (by omega))), trivial⟩⟩⟩ (by decide) rfl (fun v_1 w_2 hx_3 hS => ?_)
  refine Wx.lit (t := (tI .i64)) (ys := [5, 1, 2]) (vs := [.int .i64 5, .int .i64 1, .int .i64 2]) elVd_23 hS rfl rfl ⟨(V.mkInt (in_i64 (by omega) (by omega))), ⟨(V.mkInt (in_i64 (by omega) (by omega))), ⟨(V.mkInt (in_i64 (by omega) (by omega))), trivial⟩⟩⟩ (by decide) rfl (fun v_4 w_5 hx_6 hS => ?_)
  have hS := hS.freeze 1 rfl
  have hS := hS.freeze 1 rfl
  refine Wx.lit (t := (tSl (tI .i64))) (ys := [[1, 5, 2], [5, 1, 2]]) (vs := [v_1, v_4]) elVd_115 hS rfl rfl ⟨(hS.v 1 rfl), ⟨(hS.v 0 rfl), trivial⟩⟩ (by decide) rfl (fun v_9 w_10 hx_11 hS => ?_)
  have hS := hS.freeze 0 rfl
  refine Wx.callF (run_callF Tryz.call75 rfl) (F75 (m := 3) (res := ([1, 0, 0] : List Int)) (hS.v 0 rfl) dv_0 (by decide) rg_0 hS.fb_lt) rfl ?_
  rintro r_13 w_14 hx_15 ⟨v_16, rfl, hv_17⟩
  have hS := hS.pushFr hx_15 hv_17
  refine Wx.rd (v := .tuple #[v_16, .int .i64 0]) (rd_move rfl) rfl ?_
  refine Wx.rd (v := v_16) (rd_extract rfl rfl) rfl ?_
  refine Wx.rd (v := .int .i64 0) (rd_extract rfl rfl) rfl ?_
  refine Wx.rd (v := v_16) (rd_assign rfl) rfl ?_
  refine Wx.rd (v := .int .i64 0) (rd_assign rfl) rfl ?_
  refine Wx.nil ?_
  refine W.seq ?_
  refine W.reg ?_
  refine Wx.rd (v := .int .i64 0) (rd_move rfl) rfl ?_
  refine Wx.rd (v := .bool true) (Rd.to (v := .bool (decide ((0 : Int) = 0))) (rd_eql rfl rfl) rfl) rfl ?_
  refine Wx.rd (v := .bool true) (rd_move rfl) rfl ?_
  refine Wx.gyes rfl rfl rfl ?_
  refine Wx.rd (v := v_16) (rd_move rfl) rfl ?_
  refine Wx.gyes rfl rfl rfl ?_
  refine Wx.lit (t := (tI .i64)) (ys := [1, 0, 0]) (vs := [.int .i64 1, .int .i64 0, .int .i64 0]) elVd_23 hS rfl rfl ⟨(V.mkInt (in_i64 (by omega) (by omega))), ⟨(V.mkInt (in_i64 (by omega) (by omega))), ⟨(V.mkInt (in_i64 (by omega) (by omega))), trivial⟩⟩⟩ (by decide) rfl (fun v_19 w_20 hx_21 hS => ?_)
  refine Wx.gyes rfl rfl rfl ?_
  have hS := hS.freeze 0 rfl
  refine Wx.callF (run_callF Tryz.call37 rfl) (F37 (hS.v 0 rfl) hS.fb_lt) rfl ?_
  rintro r_23 w_24 hx_25 ⟨_, rfl, hv_26⟩
  have ln_28 := hv_26.len63
  have hS := hS.ext hx_25
  have hS := hS.add hv_26
  refine Wx.gyes rfl rfl rfl ?_
  refine Wx.callF (run_callF Tryz.call38 rfl) (F38 (hS.lend 2 rfl) (hS.v 0 rfl)) rfl ?_
  rintro r_29 w_30 hx_31 rfl
  have hS := hS.ext hx_31
  rw [show (decide (([1, 0, 0] : List Int) = [1, 0, 0]) : Bool) = true from (by decide +kernel)]
  refine Wx.rd (v := .bool true) (rd_pickT rfl rfl) rfl ?_
  refine Wx.rd (v := .bool true) (rd_move rfl) rfl ?_
  refine Wx.gyes rfl rfl rfl ?_
  refine Wx.callF (run_callF Tryz.call76 rfl) (C5.F76 (hG.ext hS.bel)) rfl ?_
  rintro r_32 w_33 hx_34 rfl
  have hS := hS.ext hx_34
  refine Wx.rd (v := .bool true) (rd_pickT rfl rfl) rfl ?_
  refine Wx.rd (v := .bool true) (rd_assign rfl) rfl ?_
  refine Wx.nil ?_
  exact W.ret ⟨.bool true, ResIs.one, hS.bel, rfl⟩
end Go.Proofs.YtodcppoglpfodaaGreatDoor

namespace Go.Wk
open Go.RowKit
set_option linter.unusedVariables false
section
variable {w0 w : World} {O : List (Option Nat)} {obs : List Ob} {e1 e2 : TypeId} {g p i : Nat} {vs : List Value} {yss : List (List Int)} {v : Value} {y : List Int}
end
section
variable {P : Program} {n : Nat} {w w0 : World} {O : List (Option Nat)} {obs : List Ob} {ops : Array Oper} {rest : List Oper} {k : Cont} {d : Tmp} {ty : TypeId} {pos : String} {af : Array Edge}
  {l : List (Nat × Value)} {σ0 σ : Fr} {T s : TypeId} {x z : Operand} {e1 e2 : TypeId} {g p i : Nat} {vs : List Value} {yss : List (List Int)} {v : Value} {y : List Int} {ik : IntKind}
theorem rd_indexM {len cap : Nat} {m : Int} {e : TypeId} (hx : ev σ x = .slice (some ⟨g, 0, none⟩) len cap) (hi : ev σ z = .int ik m) (hu : P.underlying s = some (.slice e)) (hsz : ∀ w', (sizeOf e).run P w' = .ok 1 w') (h0 : 0 ≤ m) (h1 : m < len) :
    Rd P σ (.indexAddr s x z) ty w (.pointer (some ⟨g, m.toNat, none⟩)) := by
  have := run_indexSl (P := P) (w := w) (ty := ty) hx hi hu hsz h0 h1
  rw [Addr.add_lit, Nat.mul_one, Nat.zero_add] at this
  exact this
end
end Go.Wk

namespace Go.Wk
open Go.RowKit Go.Lib
set_option linter.unusedVariables false

theorem wpIn_scope_jumps {F : Fence} {m : Nat} {P : Program} {Q : Exit → Act → World → Prop} {a : Act} {w : World} {c rest : Code} (l : Nat) (J : Act → World → Prop) (μ : Act → World → Nat → Prop) (hf : findLabel c l = some rest)
    (first : c.wpIn F m P (Exit.jump l (fun a w => J a w ∧ ∃ n, μ a w n) Q) a w)
    (pass : ∀ a w n, J a w → μ a w n → rest.wpIn F m P (Exit.jump l (fun a' w' => J a' w' ∧ ∃ n', n' < n ∧ μ a' w' n') Q) a w) : (Code.scope c).wpIn F m P Q a w := by
  intro b k cs hro hb hr
  have hg : gotoIn l (.inScope c :: k) = some (.code rest :: .inScope c :: k) := by simp [gotoIn, hf]
  have s0 : ∀ a w, StepsIn (Machine.fenced P F) P (lone (b.atR a (.code (.scope c) :: k)) cs w) (lone (b.atR a (.code c :: .inScope c :: k)) cs w) := fun a w => .one (fenced_calm hb hr rfl) (step_lone_go (by simp [stepG, stepG.exec, Frame.atR]))
  have s1 : ∀ a w, StepsIn (Machine.fenced P F) P (lone (b.atR a (.inScope c :: k)) cs w) (lone (b.atR a k) cs w) := fun a w => .one (fenced_calm hb hr rfl) (step_lone_go (by simp [stepG, stepG.exec, Frame.atR]))
  have key : ∀ n a w, μ a w n → J a w → ∃ e a' w', Q e a' w' ∧ ArrivesIn (Machine.fenced P F) P (lone (b.atR a (.code rest :: .inScope c :: k)) cs w) b k cs e a' w' := by
    intro n
    induction n using Nat.strongRecOn with
    | _ n ih =>
      intro a w hn hJ
      obtain ⟨e, a₁, w₁, hq, harr⟩ := pass a w n hJ hn b (.inScope c :: k) cs hro hb hr
      cases e with
      | normal => exact ⟨.normal, a₁, w₁, hq, StepsIn.trans harr (s1 _ _)⟩
      | exit id => exact ⟨.exit id, a₁, w₁, hq, fun k' hk => harr.1 k' (by simp [exitTo, hk]), fun hro hk => harr.2 hro (by simp [exitTo, hk])⟩
      | goto l' =>
        obtain ⟨rfl, hJ', n', hlt, hm⟩ := hq
        obtain ⟨e₂, a₂, w₂, hq₂, harr₂⟩ := ih n' hlt a₁ w₁ hm hJ'
        exact ⟨e₂, a₂, w₂, hq₂, .of_steps (harr.1 _ hg) harr₂⟩
      | ret => exact ⟨_, a₁, w₁, hq, harr⟩
      | panic ch => exact ⟨_, a₁, w₁, hq, harr⟩
      | outgrown => exact ⟨_, a₁, w₁, hq, harr⟩
  obtain ⟨e, a₁, w₁, hq, harr⟩ := first b (.inScope c :: k) cs hro hb hr
  cases e with
  | normal => exact ⟨.normal, a₁, w₁, hq, StepsIn.trans (s0 _ _) (StepsIn.trans harr (s1 _ _))⟩
  | exit id => exact ⟨.exit id, a₁, w₁, hq, fun k' hk => StepsIn.trans (s0 _ _) (harr.1 k' (by simp [exitTo, hk])), fun hro hk => let ⟨k₁, h1, h2⟩ := harr.2 hro (by simp [exitTo, hk]); ⟨k₁, h1, StepsIn.trans (s0 _ _) h2⟩⟩
  | goto l' =>
    obtain ⟨rfl, hJ', n', hm⟩ := hq
    obtain ⟨e₂, a₂, w₂, hq₂, harr₂⟩ := key n' a₁ w₁ hm hJ'
    exact ⟨e₂, a₂, w₂, hq₂, .of_steps (StepsIn.trans (s0 _ _) (harr.1 _ hg)) harr₂⟩
  | ret => exact ⟨_, a₁, w₁, hq, .of_steps (s0 _ _) harr⟩
  | panic ch => exact ⟨_, a₁, w₁, hq, .of_steps (s0 _ _) harr⟩
  | outgrown => exact ⟨_, a₁, w₁, hq, .of_steps (s0 _ _) harr⟩

def postJ (n : Nat) (ds : List Deferred) (kn kr : Cont) (ke : List (Nat × Cont)) (l : Nat) (J : Cont) : Exit → Act → World → Prop
  | .goto l', a, w => l' = l ∧ a.tmps.size = n ∧ a.defers = ds ∧ J (fun i => a.tmps.getD i undef) w
  | e, a, w => postD n ds kn kr ke e a w
def WJ (P : Program) (n : Nat) (c : Code) (kn kr : Cont) (ke : List (Nat × Cont)) (l : Nat) (J : Cont) (σ : Fr) (w : World) : Prop :=
  ∀ T, AtF n σ T → ∀ (r : Option Nat) (ds : List Deferred) (m : Nat), c.wpIn (ringF r) m P (postJ n ds kn kr ke l J) ⟨T, ds⟩ w
section
variable {P : Program} {n : Nat} {kn kr : Cont} {ke : List (Nat × Cont)} {σ : Fr} {w : World} {l : Nat} {J : Cont}
theorem WJ.of {c : Code} (h : W P n c kn kr ke σ w) : WJ P n c kn kr ke l J σ w := fun T hT r ds m => wpIn_mono (h T hT r ds m) fun e a w q => by
  cases e <;> first | exact q | exact q.elim
theorem WJ.seq {a b : Code} (h : W P n a (fun σ w => WJ P n b kn kr ke l J σ w) kr ke σ w) : WJ P n (.seq a b) kn kr ke l J σ w := by
  intro T hT r ds m
  refine wpIn_seq (wpIn_mono (h T hT r ds m) ?_)
  intro e a' w' hq
  cases e with
  | normal =>
    obtain ⟨h1, h2, h3⟩ := hq
    have := h3 a'.tmps (AtF.self h1) r ds m
    cases a'
    simp only at h2
    subst h2
    exact this
  | exit id => exact hq
  | goto l => exact hq.elim
  | ret => exact hq
  | panic ch => exact hq
  | outgrown => exact hq
theorem WJ.seqJ {a b : Code} (h : WJ P n a (fun σ w => WJ P n b kn kr ke l J σ w) kr ke l J σ w) : WJ P n (.seq a b) kn kr ke l J σ w := by
  intro T hT r ds m
  refine wpIn_seq (wpIn_mono (h T hT r ds m) ?_)
  intro e a' w' hq
  cases e with
  | normal =>
    obtain ⟨h1, h2, h3⟩ := hq
    have := h3 a'.tmps (AtF.self h1) r ds m
    cases a'
    simp only at h2
    subst h2
    exact this
  | exit id => exact hq
  | goto l => exact hq
  | ret => exact hq
  | panic ch => exact hq
  | outgrown => exact hq
theorem WJ.skip (h : kn σ w) : WJ P n .skip kn kr ke l J σ w := WJ.of (W.skip h)
theorem WJ.goto (h : J σ w) : WJ P n (.goto l) kn kr ke l J σ w := fun T hT _ _ _ => wpIn_goto ⟨rfl, hT.1, rfl, by rw [hT.fun_eq]; exact h⟩
theorem WJ.cond {c : Operand} {x y : Code} {t : Bool} (hc : ev σ c = .bool t) (hx : t = true → WJ P n x kn kr ke l J σ w) (hy : t = false → WJ P n y kn kr ke l J σ w) : WJ P n (.cond c x y) kn kr ke l J σ w := by
  intro T hT r ds m
  have hc' : (Act.mk T ds).eval c = .bool t := by rw [hT.eval]; exact hc
  cases t with
  | true => exact wpIn_cond_true hc' (hx rfl T hT r ds m)
  | false => exact wpIn_cond_false hc' (hy rfl T hT r ds m)
theorem WJ.condD {c : Operand} {x y : Code} {p : Prop} [Decidable p] (hc : ev σ c = .bool (decide p)) (hx : p → WJ P n x kn kr ke l J σ w) (hy : ¬ p → WJ P n y kn kr ke l J σ w) : WJ P n (.cond c x y) kn kr ke l J σ w :=
  WJ.cond hc (fun h => hx (of_decide_eq_true h)) (fun h => hy (of_decide_eq_false h))
theorem W.scopeJ {X : Type _} (l : Nat) (D : List Nat) (f : X → List (Nat × Value)) (I : X → World → Prop) (μ : X → Nat) {c rest : Code} (hf : findLabel c l = some rest)
    (first : WJ P n c kn kr ke l (fun σ' w' => ∃ x, I x w' ∧ Agr D (f x) σ σ') σ w)
    (pass : ∀ (x : X) (u : Fr) (w : World), I x w → WJ P n rest kn kr ke l (fun σ' w' => ∃ x', μ x' < μ x ∧ I x' w' ∧ Agr D (f x') σ σ') (look (f x) (hav D u σ)) w) : W P n (.scope c) kn kr ke σ w := by
  intro T hT r ds rm
  refine wpIn_scope_jumps l (fun a w => a.tmps.size = n ∧ a.defers = ds) (fun a w k => ∃ x, μ x = k ∧ I x w ∧ Agr D (f x) σ (fun i => a.tmps.getD i undef)) hf ?_ ?_
  · refine wpIn_mono (first T hT r ds rm) fun e a' w' hq => ?_
    cases e with
    | goto l' =>
      obtain ⟨h1, h2, h3, x, h4, h5⟩ := hq
      exact ⟨h1, ⟨h2, h3⟩, μ x, x, rfl, h4, h5⟩
    | normal => exact hq
    | exit id => exact hq
    | ret => exact hq
    | panic ch => exact hq
    | outgrown => exact hq
  · rintro a w k ⟨h1, h2⟩ ⟨x, rfl, hI, hA⟩
    have hr := pass x (fun i => a.tmps.getD i undef) w hI
    have hF : AtF n (look (f x) (hav D (fun i => a.tmps.getD i undef) σ)) a.tmps := ⟨h1, fun i => congrFun hA.eq i⟩
    have := hr a.tmps hF r ds rm
    cases a
    simp only at h2
    subst h2
    refine wpIn_mono this fun e a' w' hq => ?_
    cases e with
    | goto l' =>
      obtain ⟨g1, g2, g3, x', g4, g5, g6⟩ := hq
      exact ⟨g1, ⟨g2, g3⟩, μ x', g4, x', rfl, g5, g6⟩
    | normal => exact hq
    | exit id => exact hq
    | ret => exact hq
    | panic ch => exact hq
    | outgrown => exact hq
theorem W.label {i : Nat} (h : kn σ w) : W P n (.label i) kn kr ke σ w := fun T hT _ _ _ => wpIn_label ⟨hT.1, rfl, by rw [hT.fun_eq]; exact h⟩
theorem WJ.mono {c : Code} {J' : Cont} (h : WJ P n c kn kr ke l J σ w) (hJ : ∀ σ w, J σ w → J' σ w) : WJ P n c kn kr ke l J' σ w := fun T hT r ds m => wpIn_mono (h T hT r ds m) fun e a w q => by
  cases e <;> first | exact q | exact ⟨q.1, q.2.1, q.2.2.1, hJ _ _ q.2.2.2⟩
theorem W.scopeL {X : Type _} (l : Nat) (D : List Nat) (f : X → List (Nat × Value)) (I : X → World → Prop) (μ : X → Nat) {c B : Code} (hf : findLabel c l = some (.seq .skip B))
    (pass : ∀ (x : X) (u : Fr) (w : World), I x w → WJ P n B kn kr ke l (fun σ' w' => ∃ x', μ x' < μ x ∧ I x' w' ∧ Agr D (f x') σ σ') (look (f x) (hav D u σ)) w)
    (first : ∀ K : Cont, (∀ σ' w', (∃ x, I x w' ∧ Agr D (f x) σ σ') → K σ' w') → (∀ σ' w', K σ' w' → WJ P n B kn kr ke l (fun σ' w' => ∃ x, I x w' ∧ Agr D (f x) σ σ') σ' w') → WJ P n c kn kr ke l (fun σ' w' => ∃ x, I x w' ∧ Agr D (f x) σ σ') (look [] σ) w) : W P n (.scope c) kn kr ke σ w := by
  refine W.scopeJ l D f I μ hf ?_ fun x u w hI => WJ.seq (W.skip (pass x u w hI))
  refine first (fun σ' w' => ∃ x, I x w' ∧ Agr D (f x) σ σ') (fun _ _ q => q) ?_
  rintro σ' w' ⟨x, hI, hA⟩
  have := pass x σ' w' hI
  rw [← hA.eq] at this
  exact this.mono fun σ'' w'' ⟨x', _, h1, h2⟩ => ⟨x', h1, h2⟩
end
end Go.Wk

namespace Go.Proofs.YtodcppoglpfodaaGreatDoor
open Go.Wk Go.RowKit Go.Lib
set_option linter.unusedVariables false
set_option linter.unusedSimpArgs false
theorem foGh_142_1 : fldOff Tryz.prog 142 1 = some 1 := by kernel_rfl

theorem F74 {ts : List Int} {e : Int} {w : World} (n_ts : ts.length = 34) (i_ts : ∀ z ∈ ts, InK .i64 z) (i_e : InK .i64 e) (p_e : 0 ≤ e ∧ e < 16) (hG : Laid w) : Calls Tryz.prog 74 #[.agg (List.map (Value.int .i64) ts).toArray, .int .i64 e] w (Ret w (fun r _ => r = .int .i64 (alngF ts e))) := by
  have b_e := bd_i64 i_e
  obtain ⟨_, _, x_4⟩ := hG.oth
  have hob := oth_bd p_e.1 p_e.2
  have hS := St.start0 w
  refine enterR Tryz.func74 rfl Tryz.ntmps74 Tryz.results74 rfl ?_
  refine W.seq ?_
  refine W.reg ?_
  refine Wx.box (cs := List.map (Value.int .i64) ts) hS rfl rfl rfl (fun g_1 w_2 hx_4 hb_3 hS => ?_)
  refine Wx.rd (v := .int .i64 0) (rd_assign rfl) rfl ?_
  refine Wx.nil ?_
  refine W.seq ?_
  refine W.reg ?_
  refine Wx.rd (v := .int .i64 e) (rd_move rfl) rfl ?_
  refine Wx.rd (v := .pointer (some ⟨4, 0 + e.toNat * 1, none⟩)) (rd_indexArr (o := 0) rfl rfl Tryz.underlying139 Tryz.sizeOf3 (by omega) (by omega)) rfl ?_
  refine Wx.rd (v := .int .i64 (ix 0 othL e)) (rd_loadOA x_4 hS.bel rfl (by omega) (by rw [oth_len]; omega) Tryz.isAgg3) rfl ?_
  refine Wx.rd (v := .pointer (some ⟨g_1, 0 + 1, none⟩)) (rd_fieldAddr (o := 0) rfl foGh_142_1) rfl ?_
  refine Wx.rd (v := .pointer (some ⟨g_1, 0 + 1 + (ix 0 othL e).toNat * 1, none⟩)) (rd_indexArr rfl rfl Tryz.underlying140 Tryz.sizeOf3 (by omega) (by omega)) rfl ?_
  have bz_5 := ix_i64 i_ts (1 + (ix 0 othL e))
  refine Wx.rd (v := .int .i64 (ix 0 ts (1 + (ix 0 othL e)))) (rd_loadXa (d := 0) (f := (Value.int .i64)) (j := 1 + (ix 0 othL e)) hS 0 rfl rfl (by omega) (by omega) (by omega) Tryz.isAgg3) rfl ?_
  refine Wx.rd (v := .int .i64 (ix 0 ts (1 + (ix 0 othL e)))) (rd_assign rfl) rfl ?_
  refine Wx.nil ?_
  have e0_0 : (alngF ts e) = (ix 0 ts (1 + (ix 0 othL e)) : Int) := by rfl
  exact W.ret ⟨.int .i64 (ix 0 ts (1 + (ix 0 othL e))), ResIs.one, hS.bel, (by rw [e0_0])⟩
end Go.Proofs.YtodcppoglpfodaaGreatDoor

namespace Go.Proofs.YtodcppoglpfodaaGreatDoor
open Go.Wk Go.RowKit Go.Lib
set_option linter.unusedVariables false
set_option linter.unusedSimpArgs false
theorem foGb_142_1 : fldOff Tryz.prog 142 1 = some 1 := by kernel_rfl
theorem foGb_142_3 : fldOff Tryz.prog 142 3 = some 33 := by kernel_rfl
theorem foGb_142_2 : fldOff Tryz.prog 142 2 = some 17 := by kernel_rfl
theorem foGb_142_0 : fldOff Tryz.prog 142 0 = some 0 := by kernel_rfl

set_option maxHeartbeats 2000000 in
theorem F89 {lv : Value} {ls : List (List Int)} {Fr_lv : List (Option Nat)} {w : World} (h_lv : V (tSl (tSl (tI .i64))) ls lv Fr_lv w) (p_r : ∀ l ∈ ls, ∀ e ∈ l, 0 ≤ e ∧ e < 16) (p_n : ∀ l ∈ ls, (l.length : Int) ≤ 1000) (p_l : (ls.length : Int) ≤ 1000) : Calls Tryz.prog 89 #[lv] w (Ret w (fun r _ => r = .agg (List.map (Value.int .i64) (tabV ls)).toArray)) := by
  have a_lv := h_lv.any
  have l_lv := h_lv.len63
  have hS := St.start0 w
  refine enterR Tryz.func89 rfl Tryz.ntmps89 Tryz.results89 rfl ?_
  refine W.seq ?_
  refine W.reg ?_
  refine Wx.alloc (cs := List.map (Value.int .i64) (List.replicate 34 (0 : Int))) hS Tryz.zeroValue142 (by kernel_rfl) rfl (fun g_1 w_2 hx_4 hb_3 hS => ?_)
  have hS : St _ _ w_2 [.box g_1 142 (List.map (Value.int .i64) (List.replicate 34 (0 : Int)))] := hS
  refine Wx.nil ?_
  refine W.seq ?_
  refine W.reg ?_
  refine Wx.alloc (cs := List.map (Value.int .i64) (List.replicate 34 (0 : Int))) hS Tryz.zeroValue142 (by kernel_rfl) rfl (fun g_5 w_6 hx_8 hb_7 hS => ?_)
  have hS : St _ _ w_6 [.box g_5 142 (List.map (Value.int .i64) (List.replicate 34 (0 : Int))), .box g_1 142 (List.map (Value.int .i64) (List.replicate 34 (0 : Int)))] := hS
  refine Wx.nil ?_
  refine W.seq ?_
  refine W.seq ?_
  refine W.reg ?_
  refine Wx.rd (v := lv) (rd_move rfl) rfl ?_
  refine Wx.rd (v := .int .i64 (ls.length : Int)) (rd_lenV rfl (hS.arg a_lv) Tryz.underlying115) rfl ?_
  refine Wx.rd (v := .int .i64 0) (rd_move rfl) rfl ?_
  refine Wx.nil ?_
  refine W.block ?_
  refine W.loop [5, 6, 7, 10, 11, 12, 13, 14, 15, 16, 17, 18, 19, 20, 21, 22, 23, 24, 25, 26, 27, 28, 29, 30, 31, 32, 33, 34, 35, 36, 37, 38, 39, 40, 41, 42, 43, 44, 45, 46, 47, 48, 49, 50, 51] (fun x : Int × (List Int) => match x with | (k, ts) => [(10, .int .i64 k)]) (fun (x : Int × (List Int)) w' => match x with | (k, ts) => St w [] w' [.box g_5 142 (List.map (Value.int .i64) ts), .box g_1 142 (List.map (Value.int .i64) (List.replicate 34 (0 : Int)))] ∧ 0 ≤ k ∧ k ≤ ls.length ∧ ts = tabK ls k ∧ TbB k ts) (fun x : Int × (List Int) => match x with | (k, ts) => (ls.length - k).toNat) (0, (List.replicate 34 (0 : Int))) ⟨rfl, trivial⟩ ⟨hS, (by first | omega | simp), (by first | omega | simp), (rfl), (tb_start)⟩ ?_
  rintro ⟨k, ts⟩ u_10 w_9 ⟨hS, h0, h1, h2, h3⟩
  refine W.seq ?_
  refine W.reg ?_
  refine Wx.rd (v := .bool (decide (k < (ls.length : Int)))) (rd_lss rfl rfl) rfl ?_
  refine Wx.nil ?_
  refine W.seq ?_
  refine W.condD rfl (fun c0 => ?_) (fun c0 => ?_)
  · -- yes
    have htl := h3.1
    have hkm : ix [] ls k ∈ ls := List.mem_of_getElem? (ix_get c0 h0)
    have hkl := p_n _ hkm
    refine W.skip ?_
    refine W.seq ?_
    refine W.block ?_
    refine W.seq ?_
    refine W.reg ?_
    refine Wx.ex (rd_index [] (hS.arg a_lv) rfl rfl Tryz.underlying115 Tryz.sizeOf23 (by first | omega | (simp only [List.length_set, List.length_append, List.length_cons, List.length_nil, List.length_replicate]; omega)) (by first | omega | (simp only [List.length_set, List.length_append, List.length_cons, List.length_nil, List.length_replicate]; omega))) rfl (fun p_11 hp_12 => ?_)
    refine Wx.ex (rd_load hp_12 rfl Tryz.isAgg23 Tryz.sizeOf23) rfl (fun v_13 hv_14 => ?_)
    have ln_15 := hv_14.len63
    have hS := hS.add hv_14
    refine Wx.rd (v := v_13) (rd_assign rfl) rfl ?_
    refine Wx.nil ?_
    refine W.seq ?_
    refine W.seq ?_
    refine W.reg ?_
    refine Wx.rd (v := v_13) (rd_move rfl) rfl ?_
    refine Wx.rd (v := .int .i64 ((ix [] ls k).length : Int)) (rd_lenV rfl (hS.v 0 rfl) Tryz.underlying23) rfl ?_
    refine Wx.rd (v := .bool (decide (((ix [] ls k).length : Int) = 0))) (rd_eql rfl rfl) rfl ?_
    refine Wx.nil ?_
    refine W.condD rfl (fun c1 => ?_) (fun c1 => ?_)
    · -- yes
      refine W.exit rfl ?_
      refine W.reg ?_
      refine Wx.rd (v := .int .i64 (k + 1)) (rd_add rfl rfl (in_i64 (by omega) (by omega))) rfl ?_
      refine Wx.rd (v := .int .i64 (k + 1)) (rd_move rfl) rfl ?_
      refine Wx.nil ?_
      refine ⟨(k + 1, ts), (by show (ls.length - (k + 1)).toNat < (ls.length - k).toNat; omega), ?_, ?_, Out.look rfl Out.self⟩
      · exact ⟨hS.tl, (by first | omega | assumption), (by first | omega | assumption), (by rw [h2]; exact tabK_skip h0 c0 c1), (tb_more h3)⟩
      · exact ⟨rfl, trivial⟩
    · -- no
      have hlp : 0 < ((ix [] ls k).length : Int) := by omega
      refine W.skip ?_
      refine W.seq ?_
      refine W.seq ?_
      refine W.reg ?_
      refine Wx.rd (v := v_13) (rd_move rfl) rfl ?_
      refine Wx.rd (v := .int .i64 ((ix [] ls k).length : Int)) (rd_lenV rfl (hS.v 0 rfl) Tryz.underlying23) rfl ?_
      refine Wx.rd (v := .int .i64 0) (rd_move rfl) rfl ?_
      refine Wx.nil ?_
      refine W.block ?_
      refine W.loop [6, 7, 19, 20, 21, 22, 23, 24, 25, 26, 27, 28, 29, 30, 31, 32, 33, 34, 35, 36, 37, 38, 39, 40] (fun x : Int × (List Int) => match x with | (j, ts2) => [(19, .int .i64 j)]) (fun (x : Int × (List Int)) w' => match x with | (j, ts2) => St w [] w' [Ob.v (tSl (tI .i64)) (ix [] ls k) v_13, .box g_5 142 (List.map (Value.int .i64) ts2), .box g_1 142 (List.map (Value.int .i64) (List.replicate 34 (0 : Int)))] ∧ 0 ≤ j ∧ j ≤ (ix [] ls k).length ∧ ts2 = tabIn (ix [] ls k) j ts ∧ TbB k ts2) (fun x : Int × (List Int) => match x with | (j, ts2) => ((ix [] ls k).length - j).toNat) (0, ts) ⟨rfl, trivial⟩ ⟨hS, (by first | omega | simp), (by first | omega | simp), (rfl), (h3)⟩ ?_
      rintro ⟨j, ts2⟩ u_18 w_17 ⟨hS, j0, j1, j2, j3⟩
      refine W.seq ?_
      refine W.reg ?_
      refine Wx.rd (v := .bool (decide (j < ((ix [] ls k).length : Int)))) (rd_lss rfl rfl) rfl ?_
      refine Wx.nil ?_
      refine W.seq ?_
      refine W.condD rfl (fun c2 => ?_) (fun c2 => ?_)
      · -- yes
        have hej := p_r _ hkm _ (ix_inl j0 c2)
        have hjb := j3
        obtain ⟨hjl, hj1, hj2⟩ := hjb
        have hmd0 := Int.emod_nonneg (j + 1) (show ((ix [] ls k).length : Int) ≠ 0 by omega)
        have hmd1 := Int.emod_lt_of_pos (j + 1) (show 0 < ((ix [] ls k).length : Int) by omega)
        refine W.skip ?_
        refine W.seq ?_
        refine W.block ?_
        refine W.seq ?_
        refine W.reg ?_
        refine Wx.rd (v := .int .i64 j) (rd_move rfl) rfl ?_
        refine Wx.ex (rd_index 0 (hS.v 0 rfl) rfl rfl Tryz.underlying23 Tryz.sizeOf3 (by first | omega | (simp only [List.length_set, List.length_append, List.length_cons, List.length_nil, List.length_replicate]; omega)) (by first | omega | (simp only [List.length_set, List.length_append, List.length_cons, List.length_nil, List.length_replicate]; omega))) rfl (fun p_19 hp_20 => ?_)
        refine Wx.rd (v := .int .i64 (ix 0 (ix [] ls k) j)) (rd_loadI hp_20 rfl Tryz.isAgg3 Tryz.sizeOf3) rfl ?_
        have bd_21 := bd_i64 hp_20.inK
        refine Wx.rd (v := .int .i64 j) (rd_assign rfl) rfl ?_
        refine Wx.rd (v := .int .i64 (ix 0 (ix [] ls k) j)) (rd_assign rfl) rfl ?_
        refine Wx.nil ?_
        refine W.seq ?_
        refine W.reg ?_
        refine Wx.rd (v := .int .i64 (ix 0 (ix [] ls k) j)) (rd_move rfl) rfl ?_
        refine Wx.rd (v := v_13) (rd_move rfl) rfl ?_
        refine Wx.rd (v := .int .i64 j) (rd_move rfl) rfl ?_
        refine Wx.rd (v := .int .i64 (j + 1)) (rd_add rfl rfl (in_i64 (by omega) (by omega))) rfl ?_
        refine Wx.rd (v := v_13) (rd_move rfl) rfl ?_
        refine Wx.rd (v := .int .i64 ((ix [] ls k).length : Int)) (rd_lenV rfl (hS.v 0 rfl) Tryz.underlying23) rfl ?_
        refine Wx.rd (v := .int .i64 ((j + 1) % ((ix [] ls k).length : Int))) (rd_rem rfl rfl (by omega) (by omega)) rfl ?_
        refine Wx.ex (rd_index 0 (hS.v 0 rfl) rfl rfl Tryz.underlying23 Tryz.sizeOf3 (by first | omega | (simp only [List.length_set, List.length_append, List.length_cons, List.length_nil, List.length_replicate]; omega)) (by first | omega | (simp only [List.length_set, List.length_append, List.length_cons, List.length_nil, List.length_replicate]; omega))) rfl (fun p_22 hp_23 => ?_)
        refine Wx.rd (v := .int .i64 (ix 0 (ix [] ls k) ((j + 1) % ((ix [] ls k).length : Int)))) (rd_loadI hp_23 rfl Tryz.isAgg3 Tryz.sizeOf3) rfl ?_
        have bd_24 := bd_i64 hp_23.inK
        refine Wx.rd (v := .pointer (some ⟨g_5, 0 + 1, none⟩)) (rd_fieldAddr (o := 0) rfl foGb_142_1) rfl ?_
        refine Wx.rd (v := .pointer (some ⟨g_5, 0 + 1 + (ix 0 (ix [] ls k) j).toNat * 1, none⟩)) (rd_indexArr rfl rfl Tryz.underlying140 Tryz.sizeOf3 (by omega) (by omega)) rfl ?_
        refine Wx.storeXa (j := 1 + (ix 0 (ix [] ls k) j)) (f := (Value.int .i64)) (u := (ix 0 (ix [] ls k) ((j + 1) % ((ix [] ls k).length : Int)))) hS 1 rfl rfl (by omega) rfl rfl rfl Tryz.sizeOf3 (by omega) (by omega) (fun w_25 hz_26 hS => ?_)
        refine Wx.nil ?_
        refine W.reg ?_
        refine Wx.rd (v := .int .i64 (ix 0 (ix [] ls k) j)) (rd_move rfl) rfl ?_
        refine Wx.rd (v := .pointer (some ⟨g_5, 0 + 33, none⟩)) (rd_fieldAddr (o := 0) rfl foGb_142_3) rfl ?_
        refine Wx.rd (v := .int .i64 (ix 0 ts2 33)) (Rd.to (v := .int .i64 (ix 0 (List.set ts2 (1 + (ix 0 (ix [] ls k) j)).toNat (ix 0 (ix [] ls k) ((j + 1) % ((ix [] ls k).length : Int)))) 33)) (rd_loadXa (d := 0) (f := (Value.int .i64)) (j := 33) hS 1 rfl rfl (by omega) (by omega) (by first | omega | (simp only [List.length_set, List.length_append, List.length_cons, List.length_nil, List.length_replicate]; omega)) Tryz.isAgg3) (congrArg (Value.int .i64) (show (ix 0 ts2 33 : Int) = (ix 0 (List.set ts2 (1 + (ix 0 (ix [] ls k) j)).toNat (ix 0 (ix [] ls k) ((j + 1) % ((ix [] ls k).length : Int)))) 33 : Int) from (tb_pts j3 hej.1 hej.2).symm).symm)) rfl ?_
        refine Wx.rd (v := .pointer (some ⟨g_5, 0 + 17, none⟩)) (rd_fieldAddr (o := 0) rfl foGb_142_2) rfl ?_
        refine Wx.rd (v := .pointer (some ⟨g_5, 0 + 17 + (ix 0 (ix [] ls k) j).toNat * 1, none⟩)) (rd_indexArr rfl rfl Tryz.underlying140 Tryz.sizeOf3 (by omega) (by omega)) rfl ?_
        refine Wx.storeXa (j := 17 + (ix 0 (ix [] ls k) j)) (f := (Value.int .i64)) (u := (ix 0 ts2 33)) hS 1 rfl rfl (by omega) rfl rfl rfl Tryz.sizeOf3 (by omega) (by first | omega | (simp only [List.length_set, List.length_append, List.length_cons, List.length_nil, List.length_replicate]; omega)) (fun w_27 hz_28 hS => ?_)
        refine Wx.nil ?_
        refine W.reg ?_
        refine Wx.rd (v := .int .i64 (j + 1)) (rd_add rfl rfl (in_i64 (by omega) (by omega))) rfl ?_
        refine Wx.rd (v := .int .i64 (j + 1)) (rd_move rfl) rfl ?_
        refine Wx.nil ?_
        refine ⟨(j + 1, List.set (List.set ts2 (1 + (ix 0 (ix [] ls k) j)).toNat (ix 0 (ix [] ls k) ((j + 1) % ((ix [] ls k).length : Int)))) (17 + (ix 0 (ix [] ls k) j)).toNat (ix 0 ts2 33)), (by show ((ix [] ls k).length - (j + 1)).toNat < ((ix [] ls k).length - j).toNat; omega), ?_, ?_, Out.look rfl Out.self⟩
        · exact ⟨hS, (by first | omega | assumption), (by first | omega | assumption), (by rw [j2, tabIn_next j0]; rfl), ((tb_set (tb_set j3 hej.1 hej.2).1 hej.1 hej.2).2)⟩
        · exact ⟨rfl, trivial⟩
      · -- no
        have hjb := j3
        obtain ⟨hjl, hj1, hj2⟩ := hjb
        refine W.exit rfl ?_
        refine W.seq ?_
        refine W.reg ?_
        refine Wx.rd (v := .pointer (some ⟨g_5, 0 + 0, none⟩)) (rd_fieldAddr (o := 0) rfl foGb_142_0) rfl ?_
        refine Wx.rd (v := .int .i64 (ix 0 ts2 0)) (rd_loadXa (d := 0) (f := (Value.int .i64)) (j := 0) hS 1 rfl rfl (by omega) (by omega) (by omega) Tryz.isAgg3) rfl ?_
        refine Wx.rd (v := v_13) (rd_move rfl) rfl ?_
        refine Wx.rd (v := .int .i64 ((ix [] ls k).length : Int)) (rd_lenV rfl (hS.v 0 rfl) Tryz.underlying23) rfl ?_
        refine Wx.rd (v := .int .i64 ((ix 0 ts2 0) + ((ix [] ls k).length : Int))) (rd_add rfl rfl (in_i64 (by omega) (by omega))) rfl ?_
        refine Wx.rd (v := .pointer (some ⟨g_5, 0 + 0, none⟩)) (rd_fieldAddr (o := 0) rfl foGb_142_0) rfl ?_
        refine Wx.storeXa (j := 0) (f := (Value.int .i64)) (u := ((ix 0 ts2 0) + ((ix [] ls k).length : Int))) hS 1 rfl rfl (by omega) rfl rfl rfl Tryz.sizeOf3 (by omega) (by omega) (fun w_29 hz_30 hS => ?_)
        refine Wx.nil ?_
        refine W.reg ?_
        refine Wx.rd (v := .pointer (some ⟨g_5, 0 + 33, none⟩)) (rd_fieldAddr (o := 0) rfl foGb_142_3) rfl ?_
        refine Wx.rd (v := .int .i64 (ix 0 ts2 33)) (Rd.to (v := .int .i64 (ix 0 (List.set ts2 (0 : Int).toNat ((ix 0 ts2 0) + ((ix [] ls k).length : Int))) 33)) (rd_loadXa (d := 0) (f := (Value.int .i64)) (j := 33) hS 1 rfl rfl (by omega) (by omega) (by first | omega | (simp only [List.length_set, List.length_append, List.length_cons, List.length_nil, List.length_replicate]; omega)) Tryz.isAgg3) (congrArg (Value.int .i64) (show (ix 0 ts2 33 : Int) = (ix 0 (List.set ts2 (0 : Int).toNat ((ix 0 ts2 0) + ((ix [] ls k).length : Int))) 33 : Int) from (tb_pts0 j3).symm).symm)) rfl ?_
        refine Wx.rd (v := .int .i64 ((ix 0 ts2 33) + 1)) (rd_add rfl rfl (in_i64 (by omega) (by omega))) rfl ?_
        refine Wx.rd (v := .pointer (some ⟨g_5, 0 + 33, none⟩)) (rd_fieldAddr (o := 0) rfl foGb_142_3) rfl ?_
        refine Wx.storeXa (j := 33) (f := (Value.int .i64)) (u := ((ix 0 ts2 33) + 1)) hS 1 rfl rfl (by omega) rfl rfl rfl Tryz.sizeOf3 (by omega) (by first | omega | (simp only [List.length_set, List.length_append, List.length_cons, List.length_nil, List.length_replicate]; omega)) (fun w_31 hz_32 hS => ?_)
        refine Wx.nil ?_
        refine W.reg ?_
        refine Wx.rd (v := .int .i64 (k + 1)) (rd_add rfl rfl (in_i64 (by omega) (by omega))) rfl ?_
        refine Wx.rd (v := .int .i64 (k + 1)) (rd_move rfl) rfl ?_
        refine Wx.nil ?_
        refine ⟨(k + 1, List.set (List.set ts2 (0 : Int).toNat ((ix 0 ts2 0) + ((ix [] ls k).length : Int))) (33 : Int).toNat ((ix 0 ts2 33) + 1)), (by show (ls.length - (k + 1)).toNat < (ls.length - k).toNat; omega), ?_, ?_, Out.look rfl (Out.hav rfl (Out.look rfl Out.self))⟩
        · exact ⟨hS.tl, (by first | omega | assumption), (by first | omega | assumption), (tabK_put2 h0 c0 c1 (by omega : j = ((ix [] ls k).length : Int)) j3 (by rw [j2, h2])), (tb_up2 j3 ⟨by omega, by omega⟩)⟩
        · exact ⟨rfl, trivial⟩
  · -- no
    have htl := h3.1
    refine W.exit rfl ?_
    refine W.seq ?_
    refine W.reg ?_
    refine Wx.rd (v := .agg (List.map (Value.int .i64) ts).toArray) (rd_loadXs (ds := List.map (Value.int .i64) ts) hS 0 rfl rfl (by rw [List.drop_zero, List.take_of_length_le (by simp; omega)]) (by simp; omega) Tryz.isAgg142 Tryz.sizeOf142) rfl ?_
    refine Wx.storeX (cs' := List.map (Value.int .i64) ts) (ds := List.map (Value.int .i64) ts) hS 1 rfl rfl rfl rfl (fun w' => by rw [List.length_map, show List.length ts = 34 by first | omega | (simp; omega) | simp]; exact Tryz.sizeOf142 w') (by first | (simp; omega) | simp) (by intro u hu; obtain ⟨_, _, rfl⟩ := List.mem_map.1 hu; rfl) (by rw [List.take_zero, List.nil_append, List.drop_of_length_le (by first | (simp; omega) | simp), List.append_nil]) (fun w_33 hz_34 hS => ?_)
    refine Wx.nil ?_
    have e0_0 : (tabV ls) = ts := by rw [h2]; exact (tabK_end (by omega)).symm
    exact W.ret ⟨.agg (List.map (Value.int .i64) ts).toArray, (ResIs.cell1 hS 1 rfl rfl Tryz.isAgg142 (fun w' => by rw [List.length_map, show List.length ts = 34 by first | omega | (simp; omega) | simp]; exact Tryz.sizeOf142 w')), hS.bel, (by rw [e0_0])⟩
end Go.Proofs.YtodcppoglpfodaaGreatDoor

namespace Go.Proofs.YtodcppoglpfodaaGreatDoor
open Go.Wk Go.RowKit Go.Lib
set_option linter.unusedVariables false
set_option linter.unusedSimpArgs false
theorem foGc_117_0 : fldOff Tryz.prog 117 0 = some 0 := by kernel_rfl

set_option maxHeartbeats 2000000 in
theorem F71 {mv : Value} {ls : List (List Int)} {Fr_mv : List (Option Nat)} {w : World} (h_mv : V (tSl (tSl (tI .i64))) ls mv Fr_mv w) (p_ok : MapOK ls) : Calls Tryz.prog 71 #[.agg #[mv]] w (Ret w (fun r _ => r = .tuple #[.agg (List.map (Value.int .i64) (tabV ls)).toArray, .int .i64 0])) := by
  have hml := p_ok.m
  have hlc := map_cnt p_ok
  have htv := tabV_len (ls := ls)
  have a_mv := h_mv.any
  have l_mv := h_mv.len63
  have hS := St.start0 w
  refine enterR Tryz.func71 rfl Tryz.ntmps71 Tryz.results71 rfl ?_
  refine W.seq ?_
  refine W.reg ?_
  refine Wx.box (cs := [mv]) hS rfl rfl rfl (fun g_1 w_2 hx_4 hb_3 hS => ?_)
  refine Wx.alloc (cs := List.map (Value.int .i64) (List.replicate 34 (0 : Int))) hS Tryz.zeroValue142 (by kernel_rfl) rfl (fun g_5 w_6 hx_8 hb_7 hS => ?_)
  have hS : St _ _ w_6 [.box g_5 142 (List.map (Value.int .i64) (List.replicate 34 (0 : Int))), .box g_1 117 [mv]] := hS
  refine Wx.rd (v := .int .i64 0) (rd_assign rfl) rfl ?_
  refine Wx.nil ?_
  refine W.seq ?_
  refine W.reg ?_
  refine Wx.rd (v := .int .i64 0) (rd_assign rfl) rfl ?_
  refine Wx.nil ?_
  refine W.seq ?_
  refine W.seq ?_
  refine W.reg ?_
  refine Wx.rd (v := .pointer (some ⟨g_1, 0, none⟩)) (rd_fieldAddr rfl foGc_117_0) rfl ?_
  refine Wx.rd (v := mv) (rd_loadX hS 1 rfl rfl rfl Tryz.isAgg115) rfl ?_
  refine Wx.rd (v := .int .i64 (ls.length : Int)) (rd_lenV rfl (hS.arg a_mv) Tryz.underlying115) rfl ?_
  refine Wx.rd (v := .int .i64 0) (rd_move rfl) rfl ?_
  refine Wx.nil ?_
  refine W.block ?_
  refine W.loop [4, 6, 15, 16, 17, 18, 19, 20, 21, 22, 23] (fun x : Int × Int => match x with | (n, k) => [(4, .int .i64 n), (15, .int .i64 k)]) (fun (x : Int × Int) w' => match x with | (n, k) => St w [] w' [.box g_5 142 (List.map (Value.int .i64) (List.replicate 34 (0 : Int))), .box g_1 117 [mv]] ∧ 0 ≤ k ∧ k ≤ ls.length ∧ n = ((ls.take k.toNat).flatten.length : Int)) (fun x : Int × Int => match x with | (n, k) => (ls.length - k).toNat) (0, 0) ⟨rfl, rfl, trivial⟩ ⟨hS, (by first | omega | simp), (by first | omega | simp), (rfl)⟩ ?_
  rintro ⟨n, k⟩ u_10 w_9 ⟨hS, h0, h1, h2⟩
  refine W.seq ?_
  refine W.reg ?_
  refine Wx.rd (v := .bool (decide (k < (ls.length : Int)))) (rd_lss rfl rfl) rfl ?_
  refine Wx.nil ?_
  refine W.seq ?_
  refine W.condD rfl (fun c0 => ?_) (fun c0 => ?_)
  · -- yes
    have hft := flat_take h0 c0
    have hfl := flat_le (ls := ls) (k := k + 1)
    refine W.skip ?_
    refine W.seq ?_
    refine W.block ?_
    refine W.seq ?_
    refine W.reg ?_
    refine Wx.ex (rd_index [] (hS.arg a_mv) rfl rfl Tryz.underlying115 Tryz.sizeOf23 (by first | omega | (simp only [List.length_set, List.length_append, List.length_cons, List.length_nil, List.length_replicate]; omega)) (by first | omega | (simp only [List.length_set, List.length_append, List.length_cons, List.length_nil, List.length_replicate]; omega))) rfl (fun p_11 hp_12 => ?_)
    refine Wx.ex (rd_load hp_12 rfl Tryz.isAgg23 Tryz.sizeOf23) rfl (fun v_13 hv_14 => ?_)
    have ln_15 := hv_14.len63
    have hS := hS.add hv_14
    refine Wx.rd (v := v_13) (rd_assign rfl) rfl ?_
    refine Wx.nil ?_
    refine W.reg ?_
    refine Wx.rd (v := .int .i64 n) (rd_move rfl) rfl ?_
    refine Wx.rd (v := v_13) (rd_move rfl) rfl ?_
    refine Wx.rd (v := .int .i64 ((ix [] ls k).length : Int)) (rd_lenV rfl (hS.v 0 rfl) Tryz.underlying23) rfl ?_
    refine Wx.rd (v := .int .i64 (n + ((ix [] ls k).length : Int))) (rd_add rfl rfl (in_i64 (by omega) (by omega))) rfl ?_
    refine Wx.rd (v := .int .i64 (n + ((ix [] ls k).length : Int))) (rd_assign rfl) rfl ?_
    refine Wx.nil ?_
    refine W.reg ?_
    refine Wx.rd (v := .int .i64 (k + 1)) (rd_add rfl rfl (in_i64 (by omega) (by omega))) rfl ?_
    refine Wx.rd (v := .int .i64 (k + 1)) (rd_move rfl) rfl ?_
    refine Wx.nil ?_
    refine ⟨(n + ((ix [] ls k).length : Int), k + 1), (by show (ls.length - (k + 1)).toNat < (ls.length - k).toNat; omega), ?_, ?_, Out.look rfl Out.self⟩
    · exact ⟨hS.tl, (by first | omega | assumption), (by first | omega | assumption), (by rw [h2]; exact hft.symm)⟩
    · exact ⟨rfl, rfl, trivial⟩
  · -- no
    have hn : n = (ls.flatten.length : Int) := by rw [h2, List.take_of_length_le (by omega)]
    refine W.exit rfl ?_
    refine W.seq ?_
    refine W.seq ?_
    refine W.reg ?_
    refine Wx.rd (v := .int .i64 n) (rd_move rfl) rfl ?_
    refine Wx.rd (v := .bool (decide (16 < n))) (rd_gtr rfl rfl) rfl ?_
    refine Wx.nil ?_
    refine W.condF rfl (decide_eq_false (by omega)) ?_
    refine W.skip ?_
    refine W.seq ?_
    refine W.reg ?_
    refine Wx.alloc (cs := List.map Value.bool (List.replicate 16 false)) hS Tryz.zeroValue172 (by kernel_rfl) rfl (fun g_17 w_18 hx_20 hb_19 hS => ?_)
    have hS : St _ _ w_18 [.box g_17 172 (List.map Value.bool (List.replicate 16 false)), .box g_5 142 (List.map (Value.int .i64) (List.replicate 34 (0 : Int))), .box g_1 117 [mv]] := hS
    refine Wx.nil ?_
    refine W.seq ?_
    refine W.seq ?_
    refine W.reg ?_
    refine Wx.rd (v := .pointer (some ⟨g_1, 0, none⟩)) (rd_fieldAddr rfl foGc_117_0) rfl ?_
    refine Wx.rd (v := mv) (rd_loadX hS 2 rfl rfl rfl Tryz.isAgg115) rfl ?_
    refine Wx.rd (v := .int .i64 (ls.length : Int)) (rd_lenV rfl (hS.arg a_mv) Tryz.underlying115) rfl ?_
    refine Wx.rd (v := .int .i64 0) (rd_move rfl) rfl ?_
    refine Wx.nil ?_
    refine W.block ?_
    refine W.loop [3, 9, 11, 30, 31, 32, 33, 34, 35, 36, 37, 38, 39, 40, 41, 42, 43, 44, 45, 46, 47, 48, 49, 50, 51, 52, 53, 54, 55, 56, 57, 58, 59, 60, 61] (fun x : Int × (List Bool) => match x with | (k, met) => [(30, .int .i64 k)]) (fun (x : Int × (List Bool)) w' => match x with | (k, met) => St w [] w' [.box g_17 172 (List.map Value.bool met), .box g_5 142 (List.map (Value.int .i64) (List.replicate 34 (0 : Int))), .box g_1 117 [mv]] ∧ 0 ≤ k ∧ k ≤ ls.length ∧ MtI ls k 0 met) (fun x : Int × (List Bool) => match x with | (k, met) => (ls.length - k).toNat) (0, (List.replicate 16 false)) ⟨rfl, trivial⟩ ⟨hS, (by first | omega | simp), (by first | omega | simp), (mt_start)⟩ ?_
    rintro ⟨k, met⟩ u_22 w_21 ⟨hS, g0, g1, g2⟩
    refine W.seq ?_
    refine W.reg ?_
    refine Wx.rd (v := .bool (decide (k < (ls.length : Int)))) (rd_lss rfl rfl) rfl ?_
    refine Wx.nil ?_
    refine W.seq ?_
    refine W.condD rfl (fun c2 => ?_) (fun c2 => ?_)
    · -- yes
      have hkm : ix [] ls k ∈ ls := List.mem_of_getElem? (ix_get c2 g0)
      have hkp := p_ok.n _ hkm
      have hml2 := g2.1
      refine W.skip ?_
      refine W.seq ?_
      refine W.block ?_
      refine W.seq ?_
      refine W.reg ?_
      refine Wx.ex (rd_index [] (hS.arg a_mv) rfl rfl Tryz.underlying115 Tryz.sizeOf23 (by first | omega | (simp only [List.length_set, List.length_append, List.length_cons, List.length_nil, List.length_replicate]; omega)) (by first | omega | (simp only [List.length_set, List.length_append, List.length_cons, List.length_nil, List.length_replicate]; omega))) rfl (fun p_23 hp_24 => ?_)
      refine Wx.ex (rd_load hp_24 rfl Tryz.isAgg23 Tryz.sizeOf23) rfl (fun v_25 hv_26 => ?_)
      have ln_27 := hv_26.len63
      have hS := hS.add hv_26
      refine Wx.rd (v := v_25) (rd_assign rfl) rfl ?_
      refine Wx.nil ?_
      refine W.seq ?_
      refine W.seq ?_
      refine W.reg ?_
      refine Wx.rd (v := v_25) (rd_move rfl) rfl ?_
      refine Wx.rd (v := .int .i64 ((ix [] ls k).length : Int)) (rd_lenV rfl (hS.v 0 rfl) Tryz.underlying23) rfl ?_
      refine Wx.rd (v := .bool (decide (((ix [] ls k).length : Int) = 0))) (rd_eql rfl rfl) rfl ?_
      refine Wx.nil ?_
      refine W.condF rfl (decide_eq_false (by omega)) ?_
      refine W.skip ?_
      refine W.seq ?_
      refine W.reg ?_
      refine Wx.rd (v := v_25) (rd_move rfl) rfl ?_
      refine Wx.rd (v := .int .i64 ((ix [] ls k).length : Int)) (rd_lenV rfl (hS.v 0 rfl) Tryz.underlying23) rfl ?_
      refine Wx.rd (v := .int .i64 0) (rd_move rfl) rfl ?_
      refine Wx.nil ?_
      refine W.block ?_
      refine W.loop [3, 11, 40, 41, 42, 43, 44, 45, 46, 47, 48, 49, 50, 51, 52, 53, 54, 55, 56, 57, 58, 59, 60] (fun x : Int × (List Bool) => match x with | (j, met2) => [(40, .int .i64 j)]) (fun (x : Int × (List Bool)) w' => match x with | (j, met2) => St w [] w' [Ob.v (tSl (tI .i64)) (ix [] ls k) v_25, .box g_17 172 (List.map Value.bool met2), .box g_5 142 (List.map (Value.int .i64) (List.replicate 34 (0 : Int))), .box g_1 117 [mv]] ∧ 0 ≤ j ∧ j ≤ (ix [] ls k).length ∧ MtI ls k j met2) (fun x : Int × (List Bool) => match x with | (j, met2) => ((ix [] ls k).length - j).toNat) (0, met) ⟨rfl, trivial⟩ ⟨hS, (by first | omega | simp), (by first | omega | simp), (g2)⟩ ?_
      rintro ⟨j, met2⟩ u_30 w_29 ⟨hS, j0, j1, j2⟩
      refine W.seq ?_
      refine W.reg ?_
      refine Wx.rd (v := .bool (decide (j < ((ix [] ls k).length : Int)))) (rd_lss rfl rfl) rfl ?_
      refine Wx.nil ?_
      refine W.seq ?_
      refine W.condD rfl (fun c4 => ?_) (fun c4 => ?_)
      · -- yes
        have hej := p_ok.r _ (end_mem g0 c2 j0 c4)
        have hfree := mt_free p_ok j2 g0 c2 j0 c4
        have hml3 := j2.1
        refine W.skip ?_
        refine W.seq ?_
        refine W.block ?_
        refine W.seq ?_
        refine W.reg ?_
        refine Wx.ex (rd_index 0 (hS.v 0 rfl) rfl rfl Tryz.underlying23 Tryz.sizeOf3 (by first | omega | (simp only [List.length_set, List.length_append, List.length_cons, List.length_nil, List.length_replicate]; omega)) (by first | omega | (simp only [List.length_set, List.length_append, List.length_cons, List.length_nil, List.length_replicate]; omega))) rfl (fun p_31 hp_32 => ?_)
        refine Wx.rd (v := .int .i64 (ix 0 (ix [] ls k) j)) (rd_loadI hp_32 rfl Tryz.isAgg3 Tryz.sizeOf3) rfl ?_
        have bd_33 := bd_i64 hp_32.inK
        refine Wx.rd (v := .int .i64 (ix 0 (ix [] ls k) j)) (rd_assign rfl) rfl ?_
        refine Wx.nil ?_
        refine W.seq ?_
        refine W.block ?_
        refine W.seq ?_
        refine W.reg ?_
        refine Wx.rd (v := .int .i64 (ix 0 (ix [] ls k) j)) (rd_move rfl) rfl ?_
        refine Wx.rd (v := .bool (decide ((ix 0 (ix [] ls k) j) < 0))) (rd_lss rfl rfl) rfl ?_
        refine Wx.rd (v := .bool (decide ((ix 0 (ix [] ls k) j) < 0))) (rd_move rfl) rfl ?_
        refine Wx.cut (X := Unit) 4 [48, 49, 50, 51] (fun _ => [(51, .bool (decide ((ix 0 (ix [] ls k) j) < 0) || decide (n ≤ (ix 0 (ix [] ls k) j))))]) (fun _ w' => St w [] w' [Ob.v (tSl (tI .i64)) (ix [] ls k) v_25, .box g_17 172 (List.map Value.bool met2), .box g_5 142 (List.map (Value.int .i64) (List.replicate 34 (0 : Int))), .box g_1 117 [mv]]) ?_ ?_
        · rcases Bool.eq_false_or_eq_true (decide ((ix 0 (ix [] ls k) j) < 0)) with g_34 | g_34
          · -- True
            have gp_35 := of_decide_eq_true g_34
            refine Wx.gnoB rfl rfl (congrArg Value.bool g_34) rfl rfl ?_
            refine Wx.gnoB rfl rfl (congrArg Value.bool g_34) rfl rfl ?_
            refine Wx.gnoB rfl rfl (congrArg Value.bool g_34) rfl rfl ?_
            refine Wx.rd (v := .bool true) (rd_pickT (congrArg Value.bool g_34) rfl) rfl ?_
            refine Wx.nil ⟨(), hS, ⟨?_, trivial⟩, Out.look rfl Out.refl⟩
            show Value.bool true = Value.bool (decide ((ix 0 (ix [] ls k) j) < 0) || decide (n ≤ (ix 0 (ix [] ls k) j)))
            first | rw [g_34, Bool.true_or] | (rw [g_34]; rfl)
          · -- False
            have gp_36 := of_decide_eq_false g_34
            refine Wx.gyes rfl rfl (congrArg Value.bool g_34) ?_
            refine Wx.rd (v := .int .i64 (ix 0 (ix [] ls k) j)) (rd_move rfl) rfl ?_
            refine Wx.gyes rfl rfl (congrArg Value.bool g_34) ?_
            refine Wx.rd (v := .int .i64 n) (rd_move rfl) rfl ?_
            refine Wx.gyes rfl rfl (congrArg Value.bool g_34) ?_
            refine Wx.rd (v := .bool (decide (n ≤ (ix 0 (ix [] ls k) j)))) (rd_geq rfl rfl) rfl ?_
            refine Wx.rd (v := .bool (decide (n ≤ (ix 0 (ix [] ls k) j)))) (rd_pickF (congrArg Value.bool g_34) rfl) rfl ?_
            refine Wx.nil ⟨(), hS, ⟨?_, trivial⟩, Out.look rfl Out.refl⟩
            show Value.bool (decide (n ≤ (ix 0 (ix [] ls k) j))) = Value.bool (decide ((ix 0 (ix [] ls k) j) < 0) || decide (n ≤ (ix 0 (ix [] ls k) j)))
            first | rw [g_34, Bool.false_or] | (rw [g_34]; rfl)
        rintro ⟨⟩ u_38 w_37 hS
        refine Wx.rd (v := .bool (decide ((ix 0 (ix [] ls k) j) < 0) || decide (n ≤ (ix 0 (ix [] ls k) j)))) (rd_assign rfl) rfl ?_
        refine Wx.nil ?_
        refine W.condF rfl (by simp; omega) ?_
        refine W.seq ?_
        refine W.reg ?_
        refine Wx.rd (v := .int .i64 (ix 0 (ix [] ls k) j)) (rd_move rfl) rfl ?_
        refine Wx.rd (v := .pointer (some ⟨g_17, 0 + (ix 0 (ix [] ls k) j).toNat * 1, none⟩)) (rd_indexArr rfl rfl Tryz.underlying172 Tryz.sizeOf4 (by omega) (by omega)) rfl ?_
        refine Wx.rd (v := .bool (ix false met2 (ix 0 (ix [] ls k) j))) (rd_loadXa (d := false) (f := Value.bool) (j := (ix 0 (ix [] ls k) j)) hS 1 rfl rfl (by omega) (by omega) (by omega) Tryz.isAgg4) rfl ?_
        refine Wx.rd (v := .bool (ix false met2 (ix 0 (ix [] ls k) j))) (rd_assign rfl) rfl ?_
        refine Wx.nil ?_
        refine W.condF rfl hfree ?_
        refine W.skip ?_
        refine W.reg ?_
        refine Wx.rd (v := .int .i64 (ix 0 (ix [] ls k) j)) (rd_move rfl) rfl ?_
        refine Wx.rd (v := .pointer (some ⟨g_17, 0 + (ix 0 (ix [] ls k) j).toNat * 1, none⟩)) (rd_indexArr rfl rfl Tryz.underlying172 Tryz.sizeOf4 (by omega) (by omega)) rfl ?_
        refine Wx.storeXa (j := (ix 0 (ix [] ls k) j)) (f := Value.bool) (u := true) hS 1 rfl rfl (by omega) rfl rfl rfl Tryz.sizeOf4 (by omega) (by omega) (fun w_39 hz_40 hS => ?_)
        refine Wx.nil ?_
        refine W.reg ?_
        refine Wx.rd (v := .int .i64 (j + 1)) (rd_add rfl rfl (in_i64 (by omega) (by omega))) rfl ?_
        refine Wx.rd (v := .int .i64 (j + 1)) (rd_move rfl) rfl ?_
        refine Wx.nil ?_
        refine ⟨(j + 1, List.set met2 (ix 0 (ix [] ls k) j).toNat true), (by show ((ix [] ls k).length - (j + 1)).toNat < ((ix [] ls k).length - j).toNat; omega), ?_, ?_, Out.look rfl (Out.hav rfl (Out.look rfl Out.self))⟩
        · exact ⟨hS, (by first | omega | assumption), (by first | omega | assumption), (mt_next p_ok j2 g0 c2 j0 c4)⟩
        · exact ⟨rfl, trivial⟩
      · -- no
        refine W.exit rfl ?_
        refine W.reg ?_
        refine Wx.rd (v := .int .i64 (k + 1)) (rd_add rfl rfl (in_i64 (by omega) (by omega))) rfl ?_
        refine Wx.rd (v := .int .i64 (k + 1)) (rd_move rfl) rfl ?_
        refine Wx.nil ?_
        refine ⟨(k + 1, met2), (by show (ls.length - (k + 1)).toNat < (ls.length - k).toNat; omega), ?_, ?_, Out.look rfl (Out.hav rfl (Out.look rfl Out.self))⟩
        · exact ⟨hS.tl, (by first | omega | assumption), (by first | omega | assumption), (mt_row j2 g0 c2 (by omega))⟩
        · exact ⟨rfl, trivial⟩
    · -- no
      refine W.exit rfl ?_
      refine W.seq ?_
      refine W.seq ?_
      refine W.reg ?_
      refine Wx.rd (v := .int .i64 n) (rd_move rfl) rfl ?_
      refine Wx.rd (v := .int .i64 (n % 2)) (rd_rem rfl rfl (by omega) (by omega)) rfl ?_
      refine Wx.rd (v := .bool (decide ((n % 2) = 1))) (rd_eql rfl rfl) rfl ?_
      refine Wx.nil ?_
      refine W.condF rfl (decide_eq_false (by omega)) ?_
      refine W.skip ?_
      refine W.seq ?_
      refine W.reg ?_
      refine Wx.rd (v := .pointer (some ⟨g_1, 0, none⟩)) (rd_fieldAddr rfl foGc_117_0) rfl ?_
      refine Wx.rd (v := mv) (rd_loadX hS 2 rfl rfl rfl Tryz.isAgg115) rfl ?_
      refine Wx.callF (run_callF Tryz.call89 rfl) (F89 (hS.arg a_mv) (map_rng p_ok) (map_len p_ok) (by omega)) rfl ?_
      rintro r_41 w_42 hx_43 rfl
      have hS := hS.ext hx_43
      refine Wx.storeX (cs' := List.map (Value.int .i64) (tabV ls)) (ds := List.map (Value.int .i64) (tabV ls)) hS 1 rfl rfl rfl rfl (fun w' => by rw [List.length_map, show List.length (tabV ls) = 34 by first | omega | (simp; omega) | simp]; exact Tryz.sizeOf142 w') (by first | (simp; omega) | simp) (by intro u hu; obtain ⟨_, _, rfl⟩ := List.mem_map.1 hu; rfl) (by rw [List.take_zero, List.nil_append, List.drop_of_length_le (by first | (simp; omega) | simp), List.append_nil]) (fun w_44 hz_45 hS => ?_)
      refine Wx.rd (v := .int .i64 0) (rd_assign rfl) rfl ?_
      refine Wx.nil ?_
      exact W.ret ⟨.tuple #[.agg (List.map (Value.int .i64) (tabV ls)).toArray, .int .i64 0], (ResIs.cell2 hS 1 rfl rfl Tryz.isAgg142 (fun w' => by rw [List.length_map, show List.length (tabV ls) = 34 by first | omega | (simp; omega) | simp]; exact Tryz.sizeOf142 w')), hS.bel, rfl⟩
end Go.Proofs.YtodcppoglpfodaaGreatDoor

namespace Go.Proofs.YtodcppoglpfodaaGreatDoor
open Go.Wk Go.RowKit Go.Lib
set_option linter.unusedVariables false
set_option linter.unusedSimpArgs false
theorem foGd_142_3 : fldOff Tryz.prog 142 3 = some 33 := by kernel_rfl
theorem foGd_142_0 : fldOff Tryz.prog 142 0 = some 0 := by kernel_rfl
theorem mixedGd_ : Tryz.prog.follows .mixedOrders = true := by kernel_rfl
theorem foGd_142_2 : fldOff Tryz.prog 142 2 = some 17 := by kernel_rfl

set_option maxHeartbeats 4000000 in
theorem F72 {ts : List Int} {w : World} (n_ts : ts.length = 34) (i_ts : ∀ z ∈ ts, InK .i64 z) (p_ok : TblOK ts) : Calls Tryz.prog 72 #[.agg (List.map (Value.int .i64) ts).toArray] w (Ret w (fun r _ => r = .int .i64 (partT ts))) := by
  obtain ⟨tl, tn, ⟨te, te2⟩, tp⟩ := id p_ok
  have hn_ : tnN ts = ix 0 ts 33 := rfl
  have he_ : teN ts = ix 0 ts 0 := rfl
  have hS := St.start0 w
  refine enterR Tryz.func72 rfl Tryz.ntmps72 Tryz.results72 rfl ?_
  refine W.seq ?_
  refine W.reg ?_
  refine Wx.box (cs := List.map (Value.int .i64) ts) hS rfl rfl rfl (fun g_1 w_2 hx_4 hb_3 hS => ?_)
  refine Wx.rd (v := .int .i64 0) (rd_assign rfl) rfl ?_
  refine Wx.nil ?_
  refine W.seq ?_
  refine W.reg ?_
  refine Wx.alloc (cs := List.map (Value.int .i64) (List.replicate 16 (0 : Int))) hS Tryz.zeroValue140 (by kernel_rfl) rfl (fun g_5 w_6 hx_8 hb_7 hS => ?_)
  have hS : St _ _ w_6 [.box g_5 140 (List.map (Value.int .i64) (List.replicate 16 (0 : Int))), .box g_1 142 (List.map (Value.int .i64) ts)] := hS
  refine Wx.nil ?_
  refine W.seq ?_
  refine W.seq ?_
  refine W.reg ?_
  refine Wx.rd (v := .pointer (some ⟨g_1, 0 + 33, none⟩)) (rd_fieldAddr (o := 0) rfl foGd_142_3) rfl ?_
  have bz_9 := ix_i64 i_ts 33
  refine Wx.rd (v := .int .i64 (ix 0 ts 33)) (rd_loadXa (d := 0) (f := (Value.int .i64)) (j := 33) hS 1 rfl rfl (by omega) (by omega) (by omega) Tryz.isAgg3) rfl ?_
  refine Wx.rd (v := .int .i64 0) (rd_move rfl) rfl ?_
  refine Wx.nil ?_
  refine W.block ?_
  refine W.loop [4, 13, 14, 15, 16, 17, 18, 19] (fun x : Int × (List Int) => match x with | (k, lab) => [(13, .int .i64 k)]) (fun (x : Int × (List Int)) w' => match x with | (k, lab) => St w [] w' [.box g_5 140 (List.map (Value.int .i64) lab), .box g_1 142 (List.map (Value.int .i64) ts)] ∧ 0 ≤ k ∧ k ≤ tnN ts ∧ (∀ x, 0 ≤ x → x < k → ix 0 lab x = x) ∧ lab.length = 16) (fun x : Int × (List Int) => match x with | (k, lab) => (tnN ts - k).toNat) (0, (List.replicate 16 (0 : Int))) ⟨rfl, trivial⟩ ⟨hS, (by first | omega | simp), (by first | omega | simp), (fun x x0 x1 => by omega), (rfl)⟩ ?_
  rintro ⟨k, lab⟩ u_11 w_10 ⟨hS, h0, h1, h2, h3⟩
  refine W.seq ?_
  refine W.reg ?_
  refine Wx.rd (v := .bool (decide (k < (ix 0 ts 33)))) (rd_lss rfl rfl) rfl ?_
  refine Wx.nil ?_
  refine W.seq ?_
  refine W.condD rfl (fun c0 => ?_) (fun c0 => ?_)
  · -- yes
    have hll := h3
    refine W.skip ?_
    refine W.seq ?_
    refine W.block ?_
    refine W.seq ?_
    refine W.reg ?_
    refine Wx.rd (v := .int .i64 k) (rd_move rfl) rfl ?_
    refine Wx.rd (v := .int .i64 k) (rd_assign rfl) rfl ?_
    refine Wx.nil ?_
    refine W.reg ?_
    refine Wx.rd (v := .int .i64 k) (rd_move rfl) rfl ?_
    refine Wx.rd (v := .int .i64 k) (rd_move rfl) rfl ?_
    refine Wx.rd (v := .pointer (some ⟨g_5, 0 + k.toNat * 1, none⟩)) (rd_indexArr rfl rfl Tryz.underlying140 Tryz.sizeOf3 (by omega) (by omega)) rfl ?_
    refine Wx.storeXa (j := k) (f := (Value.int .i64)) (u := k) hS 0 rfl rfl (by omega) rfl rfl rfl Tryz.sizeOf3 (by omega) (by omega) (fun w_12 hz_13 hS => ?_)
    refine Wx.nil ?_
    refine W.reg ?_
    refine Wx.rd (v := .int .i64 (k + 1)) (rd_add rfl rfl (in_i64 (by omega) (by omega))) rfl ?_
    refine Wx.rd (v := .int .i64 (k + 1)) (rd_move rfl) rfl ?_
    refine Wx.nil ?_
    refine ⟨(k + 1, List.set lab k.toNat k), (by show (tnN ts - (k + 1)).toNat < (tnN ts - k).toNat; omega), ?_, ?_, Out.look rfl Out.self⟩
    · exact ⟨hS, (by first | omega | assumption), (by first | omega | assumption), (fun x x0 x1 => by rw [ix_set0 h0 (by omega) x0]; split; omega; exact h2 x x0 (by omega)), (by rw [List.length_set]; exact h3)⟩
    · exact ⟨rfl, trivial⟩
  · -- no
    have hl0 : LbI ts 0 lab (tnN ts) := lb_start p_ok h3 (fun x x0 x1 => h2 x x0 (by omega))
    refine W.exit rfl ?_
    refine W.seq ?_
    refine W.reg ?_
    refine Wx.rd (v := .pointer (some ⟨g_1, 0 + 33, none⟩)) (rd_fieldAddr (o := 0) rfl foGd_142_3) rfl ?_
    have bz_14 := ix_i64 i_ts 33
    refine Wx.rd (v := .int .i64 (ix 0 ts 33)) (rd_loadXa (d := 0) (f := (Value.int .i64)) (j := 33) hS 1 rfl rfl (by omega) (by omega) (by omega) Tryz.isAgg3) rfl ?_
    refine Wx.rd (v := .int .i64 (ix 0 ts 33)) (rd_assign rfl) rfl ?_
    refine Wx.nil ?_
    refine W.seq ?_
    refine W.seq ?_
    refine W.reg ?_
    refine Wx.rd (v := .int .i64 0) (rd_assign rfl) rfl ?_
    refine Wx.nil ?_
    refine W.block ?_
    refine W.loop [5, 6, 7, 8, 9, 10, 22, 23, 24, 25, 26, 27, 28, 29, 30, 31, 32, 33, 34, 35, 36, 37, 38, 39, 40, 41, 42, 43, 44, 45, 46, 47, 48, 49, 50, 51, 52, 53, 54, 55, 56, 57, 58, 59, 60, 61] (fun x : Int × (List Int) × Int => match x with | (n, lab2, i) => [(5, .int .i64 n), (6, .int .i64 (2 * i))]) (fun (x : Int × (List Int) × Int) w' => match x with | (n, lab2, i) => St w [] w' [.box g_5 140 (List.map (Value.int .i64) lab2), .box g_1 142 (List.map (Value.int .i64) ts)] ∧ 0 ≤ i ∧ 2 * i ≤ teN ts ∧ LbI ts i lab2 n ∧ n ≤ 100 ∧ -100 ≤ n - 100 + i) (fun x : Int × (List Int) × Int => match x with | (n, lab2, i) => (teN ts - 2 * i).toNat) (ix 0 ts 33, lab, 0) ⟨rfl, rfl, trivial⟩ ⟨hS, (by first | omega | simp), (by first | omega | simp), (hl0), (by first | omega | simp), (by first | omega | simp)⟩ ?_
    rintro ⟨n, lab2, i⟩ u_16 w_15 ⟨hS, g0, g1, g2, g3, g4⟩
    refine W.seq ?_
    refine W.seq ?_
    refine W.reg ?_
    refine Wx.rd (v := .int .i64 (2 * i)) (rd_move rfl) rfl ?_
    refine Wx.rd (v := .pointer (some ⟨g_1, 0 + 0, none⟩)) (rd_fieldAddr (o := 0) rfl foGd_142_0) rfl ?_
    have bz_17 := ix_i64 i_ts 0
    refine Wx.rd (v := .int .i64 (ix 0 ts 0)) (rd_loadXa (d := 0) (f := (Value.int .i64)) (j := 0) hS 1 rfl rfl (by omega) (by omega) (by omega) Tryz.isAgg3) rfl ?_
    refine Wx.rd (v := .bool (decide ((2 * i) < (ix 0 ts 0)))) (rd_lss rfl rfl) rfl ?_
    refine Wx.nil ?_
    refine W.condD rfl (fun c1 => ?_) (fun c1 => ?_)
    · -- yes
      have hp0 := tp (2 * i) (by omega) (by omega)
      have hp1 := tp (2 * i + 1) (by omega) (by omega)
      have hll := g2.1
      have hq0 : tpF ts (2 * i) = ix 0 ts (17 + 2 * i) := rfl
      have hq1 : tpF ts (2 * i + 1) = ix 0 ts (17 + (2 * i + 1)) := rfl
      refine W.skip ?_
      refine W.seq ?_
      refine W.block ?_
      refine W.seq ?_
      refine W.regQ mixedGd_ (by kernel_rfl) ?_
      refine Wx.rd (v := .int .i64 (2 * i)) (rd_move rfl) rfl ?_
      refine Wx.rd (v := .pointer (some ⟨g_1, 0 + 17, none⟩)) (rd_fieldAddr (o := 0) rfl foGd_142_2) rfl ?_
      refine Wx.rd (v := .pointer (some ⟨g_1, 0 + 17 + (2 * i).toNat * 1, none⟩)) (rd_indexArr rfl rfl Tryz.underlying140 Tryz.sizeOf3 (by omega) (by omega)) rfl ?_
      have bz_18 := ix_i64 i_ts (17 + (2 * i))
      refine Wx.rd (v := .int .i64 (ix 0 ts (17 + (2 * i)))) (rd_loadXa (d := 0) (f := (Value.int .i64)) (j := 17 + (2 * i)) hS 1 rfl rfl (by omega) (by omega) (by omega) Tryz.isAgg3) rfl ?_
      refine Wx.rd (v := .pointer (some ⟨g_5, 0 + (ix 0 ts (17 + (2 * i))).toNat * 1, none⟩)) (rd_indexArr rfl rfl Tryz.underlying140 Tryz.sizeOf3 (by omega) (by omega)) rfl ?_
      refine Wx.rd (v := .int .i64 (ix 0 lab2 (ix 0 ts (17 + (2 * i))))) (rd_loadXa (d := 0) (f := (Value.int .i64)) (j := (ix 0 ts (17 + (2 * i)))) hS 0 rfl rfl (by omega) (by omega) (by omega) Tryz.isAgg3) rfl ?_
      refine Wx.rd (v := .int .i64 (2 * i)) (rd_move rfl) rfl ?_
      refine Wx.rd (v := .int .i64 ((2 * i) + 1)) (rd_add rfl rfl (in_i64 (by omega) (by omega))) rfl ?_
      refine Wx.rd (v := .pointer (some ⟨g_1, 0 + 17, none⟩)) (rd_fieldAddr (o := 0) rfl foGd_142_2) rfl ?_
      refine Wx.rd (v := .pointer (some ⟨g_1, 0 + 17 + ((2 * i) + 1).toNat * 1, none⟩)) (rd_indexArr rfl rfl Tryz.underlying140 Tryz.sizeOf3 (by omega) (by omega)) rfl ?_
      have bz_19 := ix_i64 i_ts (17 + ((2 * i) + 1))
      refine Wx.rd (v := .int .i64 (ix 0 ts (17 + ((2 * i) + 1)))) (rd_loadXa (d := 0) (f := (Value.int .i64)) (j := 17 + ((2 * i) + 1)) hS 1 rfl rfl (by omega) (by omega) (by omega) Tryz.isAgg3) rfl ?_
      refine Wx.rd (v := .pointer (some ⟨g_5, 0 + (ix 0 ts (17 + ((2 * i) + 1))).toNat * 1, none⟩)) (rd_indexArr rfl rfl Tryz.underlying140 Tryz.sizeOf3 (by omega) (by omega)) rfl ?_
      refine Wx.rd (v := .int .i64 (ix 0 lab2 (ix 0 ts (17 + ((2 * i) + 1))))) (rd_loadXa (d := 0) (f := (Value.int .i64)) (j := (ix 0 ts (17 + ((2 * i) + 1)))) hS 0 rfl rfl (by omega) (by omega) (by omega) Tryz.isAgg3) rfl ?_
      refine Wx.rd (v := .int .i64 (ix 0 lab2 (ix 0 ts (17 + (2 * i))))) (rd_assign rfl) rfl ?_
      refine Wx.rd (v := .int .i64 (ix 0 lab2 (ix 0 ts (17 + ((2 * i) + 1))))) (rd_assign rfl) rfl ?_
      refine Wx.nilQ (fun w_20 hx_21 => ?_)
      have hS := hS.ext hx_21
      refine W.seq ?_
      refine W.seq ?_
      refine W.reg ?_
      refine Wx.rd (v := .int .i64 (ix 0 lab2 (ix 0 ts (17 + (2 * i))))) (rd_move rfl) rfl ?_
      refine Wx.rd (v := .int .i64 (ix 0 lab2 (ix 0 ts (17 + ((2 * i) + 1))))) (rd_move rfl) rfl ?_
      refine Wx.rd (v := .bool (decide ((ix 0 lab2 (ix 0 ts (17 + (2 * i)))) = (ix 0 lab2 (ix 0 ts (17 + ((2 * i) + 1))))))) (rd_eql rfl rfl) rfl ?_
      refine Wx.nil ?_
      refine W.condD rfl (fun c2 => ?_) (fun c2 => ?_)
      · -- yes
        refine W.exit rfl ?_
        refine W.reg ?_
        refine Wx.rd (v := .int .i64 (2 * i)) (rd_move rfl) rfl ?_
        refine Wx.rd (v := .int .i64 (2 * (i + 1))) (Rd.to (v := .int .i64 ((2 * i) + 2)) (rd_add rfl rfl (in_i64 (by omega) (by omega))) (congrArg (Value.int .i64) (show (2 * (i + 1) : Int) = ((2 * i) + 2 : Int) from (by omega)).symm)) rfl ?_
        refine Wx.rd (v := .int .i64 (2 * (i + 1))) (rd_assign rfl) rfl ?_
        refine Wx.nil ?_
        refine ⟨(n, lab2, (i + 1)), (by show (teN ts - 2 * (i + 1)).toNat < (teN ts - 2 * i).toNat; omega), ?_, ?_, Out.look rfl Out.self⟩
        · exact ⟨hS, (by first | omega | assumption), (by first | omega | assumption), (lb_skip p_ok g2 g0 (by omega) c2), (by first | omega | assumption), (by first | omega | assumption)⟩
        · exact ⟨rfl, rfl, trivial⟩
      · -- no
        refine W.skip ?_
        refine W.seq ?_
        refine W.reg ?_
        refine Wx.rd (v := .int .i64 n) (rd_move rfl) rfl ?_
        refine Wx.rd (v := .int .i64 (n - 1)) (rd_sub rfl rfl (in_i64 (by omega) (by omega))) rfl ?_
        refine Wx.rd (v := .int .i64 (n - 1)) (rd_assign rfl) rfl ?_
        refine Wx.nil ?_
        refine W.seq ?_
        refine W.reg ?_
        refine Wx.rd (v := .pointer (some ⟨g_1, 0 + 33, none⟩)) (rd_fieldAddr (o := 0) rfl foGd_142_3) rfl ?_
        have bz_22 := ix_i64 i_ts 33
        refine Wx.rd (v := .int .i64 (ix 0 ts 33)) (rd_loadXa (d := 0) (f := (Value.int .i64)) (j := 33) hS 1 rfl rfl (by omega) (by omega) (by omega) Tryz.isAgg3) rfl ?_
        refine Wx.rd (v := .slice (some ⟨g_5, 0, none⟩) (ix 0 ts 33).toNat 16) (rd_sliceArrH (m := 16) Tryz.underlying140 Tryz.sizeOf3 rfl rfl (by omega) (by omega)) rfl ?_
        refine Wx.rd (v := .int .i64 (((ix 0 ts 33).toNat : Nat) : Int)) (rd_len rfl Tryz.underlying23) rfl ?_
        refine Wx.rd (v := .int .i64 0) (rd_move rfl) rfl ?_
        refine Wx.nil ?_
        refine W.block ?_
        refine W.loop [9, 10, 50, 51, 52, 53, 54, 55, 56, 57, 58, 59, 60, 61] (fun x : Int × (List Int) => match x with | (z, lab3) => [(50, .int .i64 z)]) (fun (x : Int × (List Int)) w' => match x with | (z, lab3) => St w [] w' [.box g_5 140 (List.map (Value.int .i64) lab3), .box g_1 142 (List.map (Value.int .i64) ts)] ∧ 0 ≤ z ∧ z ≤ tnN ts ∧ RelI lab2 lab3 (ix 0 lab2 (tpF ts (2 * i))) (ix 0 lab2 (tpF ts (2 * i + 1))) z) (fun x : Int × (List Int) => match x with | (z, lab3) => (tnN ts - z).toNat) (0, lab2) ⟨rfl, trivial⟩ ⟨hS, (by first | omega | simp), (by first | omega | simp), (rel_start)⟩ ?_
        rintro ⟨z, lab3⟩ u_24 w_23 ⟨hS, k0, k1, k2⟩
        refine W.seq ?_
        refine W.reg ?_
        refine Wx.rd (v := .bool (decide (z < (((ix 0 ts 33).toNat : Nat) : Int)))) (rd_lss rfl rfl) rfl ?_
        refine Wx.nil ?_
        refine W.seq ?_
        refine W.condD rfl (fun c3 => ?_) (fun c3 => ?_)
        · -- yes
          have hll2 := k2.1
          refine W.skip ?_
          refine W.seq ?_
          refine W.block ?_
          refine W.seq ?_
          refine W.reg ?_
          refine Wx.rd (v := .int .i64 z) (rd_move rfl) rfl ?_
          refine Wx.rd (v := .pointer (some ⟨g_5, z.toNat, none⟩)) (rd_indexM rfl rfl Tryz.underlying23 Tryz.sizeOf3 (by first | omega | (simp only [List.length_set, List.length_append, List.length_cons, List.length_nil, List.length_replicate]; omega)) (by first | omega | (simp only [List.length_set, List.length_append, List.length_cons, List.length_nil, List.length_replicate]; omega))) rfl ?_
          refine Wx.rd (v := .int .i64 (ix 0 lab3 z)) (rd_loadXa (d := 0) (f := (Value.int .i64)) (j := z) hS 0 rfl rfl (by omega) (by omega) (by omega) Tryz.isAgg3) rfl ?_
          refine Wx.rd (v := .int .i64 z) (rd_assign rfl) rfl ?_
          refine Wx.rd (v := .int .i64 (ix 0 lab3 z)) (rd_assign rfl) rfl ?_
          refine Wx.nil ?_
          refine W.seq ?_
          refine W.reg ?_
          refine Wx.rd (v := .int .i64 (ix 0 lab3 z)) (rd_move rfl) rfl ?_
          refine Wx.rd (v := .int .i64 (ix 0 lab2 (ix 0 ts (17 + (2 * i))))) (rd_move rfl) rfl ?_
          refine Wx.rd (v := .bool (decide ((ix 0 lab3 z) = (ix 0 lab2 (ix 0 ts (17 + (2 * i))))))) (rd_eql rfl rfl) rfl ?_
          refine Wx.nil ?_
          refine W.condD rfl (fun c4 => ?_) (fun c4 => ?_)
          · -- yes
            refine W.reg ?_
            refine Wx.rd (v := .int .i64 z) (rd_move rfl) rfl ?_
            refine Wx.rd (v := .int .i64 (ix 0 lab2 (ix 0 ts (17 + ((2 * i) + 1))))) (rd_move rfl) rfl ?_
            refine Wx.rd (v := .pointer (some ⟨g_5, 0 + z.toNat * 1, none⟩)) (rd_indexArr rfl rfl Tryz.underlying140 Tryz.sizeOf3 (by omega) (by omega)) rfl ?_
            refine Wx.storeXa (j := z) (f := (Value.int .i64)) (u := (ix 0 lab2 (ix 0 ts (17 + ((2 * i) + 1))))) hS 0 rfl rfl (by omega) rfl rfl rfl Tryz.sizeOf3 (by omega) (by omega) (fun w_25 hz_26 hS => ?_)
            refine Wx.nil ?_
            refine W.reg ?_
            refine Wx.rd (v := .int .i64 (z + 1)) (rd_add rfl rfl (in_i64 (by omega) (by omega))) rfl ?_
            refine Wx.rd (v := .int .i64 (z + 1)) (rd_move rfl) rfl ?_
            refine Wx.nil ?_
            refine ⟨(z + 1, List.set lab3 z.toNat (ix 0 lab2 (ix 0 ts (17 + ((2 * i) + 1))))), (by show (tnN ts - (z + 1)).toNat < (tnN ts - z).toNat; omega), ?_, ?_, Out.look rfl Out.self⟩
            · exact ⟨hS, (by first | omega | assumption), (by first | omega | assumption), (rel_hit k2 k0 (by omega) c4)⟩
            · exact ⟨rfl, trivial⟩
          · -- no
            refine W.skip ?_
            refine W.reg ?_
            refine Wx.rd (v := .int .i64 (z + 1)) (rd_add rfl rfl (in_i64 (by omega) (by omega))) rfl ?_
            refine Wx.rd (v := .int .i64 (z + 1)) (rd_move rfl) rfl ?_
            refine Wx.nil ?_
            refine ⟨(z + 1, lab3), (by show (tnN ts - (z + 1)).toNat < (tnN ts - z).toNat; omega), ?_, ?_, Out.look rfl Out.self⟩
            · exact ⟨hS, (by first | omega | assumption), (by first | omega | assumption), (rel_miss k2 k0 (by omega) c4)⟩
            · exact ⟨rfl, trivial⟩
        · -- no
          refine W.exit rfl ?_
          refine W.reg ?_
          refine Wx.rd (v := .int .i64 (2 * i)) (rd_move rfl) rfl ?_
          refine Wx.rd (v := .int .i64 (2 * (i + 1))) (Rd.to (v := .int .i64 ((2 * i) + 2)) (rd_add rfl rfl (in_i64 (by omega) (by omega))) (congrArg (Value.int .i64) (show (2 * (i + 1) : Int) = ((2 * i) + 2 : Int) from (by omega)).symm)) rfl ?_
          refine Wx.rd (v := .int .i64 (2 * (i + 1))) (rd_assign rfl) rfl ?_
          refine Wx.nil ?_
          refine ⟨(n - 1, lab3, (i + 1)), (by show (teN ts - 2 * (i + 1)).toNat < (teN ts - 2 * i).toNat; omega), ?_, ?_, Out.look rfl (Out.hav rfl (Out.look rfl Out.self))⟩
          · exact ⟨hS, (by first | omega | assumption), (by first | omega | assumption), (lb_take p_ok g2 g0 (by omega) c2 k2 (by omega)), (by first | omega | assumption), (by first | omega | assumption)⟩
          · exact ⟨rfl, rfl, trivial⟩
    · -- no
      refine W.exit rfl ?_
      refine W.seq ?_
      refine W.reg ?_
      refine Wx.rd (v := .int .i64 n) (rd_move rfl) rfl ?_
      refine Wx.rd (v := .int .i64 n) (rd_assign rfl) rfl ?_
      refine Wx.nil ?_
      have e0_0 : (partT ts) = (n : Int) := by exact (lb_end p_ok g2 g0 (by omega)).symm
      exact W.ret ⟨.int .i64 n, ResIs.one, hS.bel, (by rw [e0_0])⟩
end Go.Proofs.YtodcppoglpfodaaGreatDoor

namespace Go.Proofs.YtodcppoglpfodaaGreatDoor
open Go.Wk Go.RowKit Go.Lib
set_option linter.unusedVariables false
set_option linter.unusedSimpArgs false
theorem foGi_142_0 : fldOff Tryz.prog 142 0 = some 0 := by kernel_rfl
theorem elGi_23 : ElemI Tryz.prog 23 3 (.int .i64 0) 1 8 := ElemI.of Tryz.underlying23 (by kernel_rfl) (by first | rfl | kernel_rfl) (by decide)
theorem elGi_115 : ElemI Tryz.prog 115 23 ((.slice none 0 0)) 1 24 := ElemI.of Tryz.underlying115 (by kernel_rfl) (by first | rfl | kernel_rfl) (by decide)

set_option maxHeartbeats 4000000 in
theorem FCb {ts : List Int} {O : List (Option Nat)} {w : World} (n_ts : ts.length = 34) (i_ts : ∀ z ∈ ts, InK .i64 z) (n_ts : ts.length = 34) (i_ts : ∀ z ∈ ts, InK .i64 z) (p_ok : TblOK ts) (p_p : permB (teN ts) (alngF ts) = true) (hO : ∀ b, some b ∈ O → b < w.heap.size) (hG : Laid w) : Calls Tryz.prog 73 #[.agg (List.map (Value.int .i64) ts).toArray, .func (.func 74) #[.agg (List.map (Value.int .i64) ts).toArray] #[]] w (Ret w (fun r w' => ∃ rv, r = rv ∧ FreshO (tSl (tI .i64)) 23 (cycV (teN ts) (alngF ts)) rv O w.heap.size w')) := by
  obtain ⟨tl, tn, ⟨te, te2⟩, tp⟩ := id p_ok
  have he_ : teN ts = ix 0 ts 0 := rfl
  have hS := St.start w O hO
  refine enterR Tryz.func73 rfl Tryz.ntmps73 Tryz.results73 rfl ?_
  refine W.seq ?_
  refine W.reg ?_
  refine Wx.box (cs := List.map (Value.int .i64) ts) hS rfl rfl rfl (fun g_1 w_2 hx_4 hb_3 hS => ?_)
  refine Wx.rd (v := (.slice none 0 0)) (rd_assign rfl) rfl ?_
  refine Wx.nil ?_
  refine W.seq ?_
  refine W.reg ?_
  refine Wx.rd (v := (.slice none 0 0)) (rd_assign rfl) rfl ?_
  refine Wx.nil ?_
  refine W.seq ?_
  refine W.reg ?_
  refine Wx.alloc (cs := List.map Value.bool (List.replicate 16 false)) hS Tryz.zeroValue172 (by kernel_rfl) rfl (fun g_5 w_6 hx_8 hb_7 hS => ?_)
  have hS : St _ _ w_6 [.box g_5 172 (List.map Value.bool (List.replicate 16 false)), .box g_1 142 (List.map (Value.int .i64) ts)] := hS
  refine Wx.nil ?_
  refine W.seq ?_
  refine W.seq ?_
  refine W.reg ?_
  refine Wx.rd (v := .pointer (some ⟨g_1, 0 + 0, none⟩)) (rd_fieldAddr (o := 0) rfl foGi_142_0) rfl ?_
  have bz_9 := ix_i64 i_ts 0
  refine Wx.rd (v := .int .i64 (ix 0 ts 0)) (rd_loadXa (d := 0) (f := (Value.int .i64)) (j := 0) hS 1 rfl rfl (by omega) (by omega) (by omega) Tryz.isAgg3) rfl ?_
  refine Wx.rd (v := .int .i64 0) (rd_move rfl) rfl ?_
  refine Wx.nil ?_
  refine W.block ?_
  have hS := hS.addNil (tSl (tI .i64)) 23
  refine W.loop [5, 7, 8, 9, 12, 13, 14, 15, 16, 17, 18, 19, 20, 21, 22, 23, 24, 25, 26, 27, 28, 29, 30, 31, 32, 33, 34, 35] (fun x : Int × Value × (List (List Int)) × (List Bool) => match x with | (k, ov, out, met) => [(12, .int .i64 k), (5, ov)]) (fun (x : Int × Value × (List (List Int)) × (List Bool)) w' => match x with | (k, ov, out, met) => St w O w' [.row (tSl (tI .i64)) 23 ov out, .box g_5 172 (List.map Value.bool met), .box g_1 142 (List.map (Value.int .i64) ts)] ∧ 0 ≤ k ∧ k ≤ teN ts ∧ out = (rng 0 k).foldl (cycS (alngF ts)) [] ∧ MetB out met ∧ (out.length : Int) ≤ k) (fun x : Int × Value × (List (List Int)) × (List Bool) => match x with | (k, ov, out, met) => (teN ts - k).toNat) (0, (.slice none 0 0), [], (List.replicate 16 false)) ⟨rfl, rfl, trivial⟩ ⟨hS, (by first | omega | simp), (by first | omega | simp), (rfl), (met0), (by decide)⟩ ?_
  rintro ⟨k, ov, out, met⟩ u_11 w_10 ⟨hS, h0, h1, h2, h3, h4⟩
  refine W.seq ?_
  refine W.reg ?_
  refine Wx.rd (v := .bool (decide (k < (ix 0 ts 0)))) (rd_lss rfl rfl) rfl ?_
  refine Wx.nil ?_
  refine W.seq ?_
  refine W.condD rfl (fun c0 => ?_) (fun c0 => ?_)
  · -- yes
    have hml := h3.1
    have hkr : 0 ≤ k ∧ k < teN ts := ⟨h0, by omega⟩
    refine W.skip ?_
    refine W.seq ?_
    refine W.block ?_
    refine W.seq ?_
    refine W.reg ?_
    refine Wx.rd (v := .int .i64 k) (rd_move rfl) rfl ?_
    refine Wx.rd (v := .int .i64 k) (rd_assign rfl) rfl ?_
    refine Wx.nil ?_
    refine W.scopeL 0 [8, 9, 15, 16, 17, 18, 19, 20, 21, 22, 23, 24, 25, 26, 27, 28, 29, 30, 31, 32, 33, 34] (fun x : Int × Value × (List Int) × (List Bool) × Nat => match x with | (e, lv, l, met2, j) => [(9, .int .i64 e), (8, lv)]) (fun (x : Int × Value × (List Int) × (List Bool) × Nat) w' => match x with | (e, lv, l, met2, j) => St w O w' [.row (tI .i64) 3 lv l, .row (tSl (tI .i64)) 23 ov out, .box g_5 172 (List.map Value.bool met2), .box g_1 142 (List.map (Value.int .i64) ts)] ∧ CyI (alngF ts) k out j l e met2 ∧ met.getD k.toNat false = false) (fun x : Int × Value × (List Int) × (List Bool) × Nat => match x with | (e, lv, l, met2, j) => perF (alngF ts) k - j) rfl ?_ ?_
    · -- from the label on
      rintro ⟨e, lv, l, met2, j⟩ u_13 w_12 ⟨hS, y2, y5⟩
      have her := cy_rng p_p hkr y2
      have hml2 := y2.2.2.1
      have hll := cy_len y2
      have hjb := cy_bd p_p hkr y2
      refine WJ.seqJ ?_
      refine WJ.of ?_
      refine W.reg ?_
      refine Wx.rd (v := .int .i64 e) (rd_move rfl) rfl ?_
      refine Wx.rd (v := .pointer (some ⟨g_5, 0 + e.toNat * 1, none⟩)) (rd_indexArr rfl rfl Tryz.underlying172 Tryz.sizeOf4 (by omega) (by omega)) rfl ?_
      refine Wx.storeXa (j := e) (f := Value.bool) (u := true) hS 2 rfl rfl (by omega) rfl rfl rfl Tryz.sizeOf4 (by omega) (by omega) (fun w_14 hz_15 hS => ?_)
      refine Wx.nil ?_
      refine WJ.seqJ ?_
      refine WJ.of ?_
      refine W.reg ?_
      refine Wx.rd (v := lv) (rd_move rfl) rfl ?_
      refine Wx.rd (v := .int .i64 e) (rd_move rfl) rfl ?_
      refine Wx.lit (t := (tI .i64)) (ys := [e]) (vs := [.int .i64 e]) elGi_23 hS rfl rfl ⟨(V.mkInt (in_i64 (by omega) (by omega))), trivial⟩ (by decide) rfl (fun v_16 w_17 hx_18 hS => ?_)
      refine Wx.append elGi_23 hS 1 rfl rfl rfl (Src.ofR hS 0 rfl) (by simp only [maxLen]; first | omega | (simp; omega) | simp) (by first | omega | (simp; omega) | simp) rfl (fun v_19 w_20 hz_21 hS => ?_)
      refine Wx.rd (v := v_19) (rd_assign rfl) rfl ?_
      refine Wx.nil ?_
      refine WJ.seqJ ?_
      refine WJ.seqJ ?_
      refine WJ.of ?_
      refine W.reg ?_
      refine Wx.rd (v := .func (.func 74) #[.agg (List.map (Value.int .i64) ts).toArray] #[]) (rd_move rfl) rfl ?_
      refine Wx.rd (v := .int .i64 e) (rd_move rfl) rfl ?_
      refine Wx.callF (run_callC (fs := [.agg (List.map (Value.int .i64) ts).toArray]) (cs := []) (vs := [.agg (List.map (Value.int .i64) ts).toArray, .int .i64 e]) Tryz.call74 rfl rfl) (F74 n_ts i_ts (in_i64 (by omega) (by omega)) ⟨by omega, by omega⟩ (hG.ext hS.bel)) rfl ?_
      rintro r_22 w_23 hx_24 rfl
      have hS := hS.ext hx_24
      refine Wx.rd (v := .int .i64 (alngF ts e)) (rd_assign rfl) rfl ?_
      refine Wx.nil ?_
      refine WJ.seqJ ?_
      refine WJ.of ?_
      refine W.reg ?_
      refine Wx.rd (v := .int .i64 (alngF ts e)) (rd_move rfl) rfl ?_
      refine Wx.rd (v := .int .i64 k) (rd_move rfl) rfl ?_
      refine Wx.rd (v := .bool (decide ((alngF ts e) ≠ k))) (rd_neq rfl rfl) rfl ?_
      refine Wx.nil ?_
      refine WJ.condD rfl (fun c1 => ?_) (fun c1 => ?_)
      · -- yes
        refine WJ.goto ?_
        refine ⟨(alngF ts e, v_19, l ++ [e], List.set met2 e.toNat true, j + 1), (by show perF (alngF ts) k - (j + 1) < perF (alngF ts) k - j; have := y2.2.1; omega), ?_, ?_, Out.look rfl Out.self⟩
        · exact ⟨hS.tl, (cy_next p_p hkr (by omega) y2 c1), (y5)⟩
        · exact ⟨rfl, rfl, trivial⟩
      · -- no
        refine WJ.skip ?_
        refine WJ.of ?_
        refine W.reg ?_
        refine Wx.rd (v := ov) (rd_move rfl) rfl ?_
        refine Wx.rd (v := v_19) (rd_move rfl) rfl ?_
        have hS := hS.freeze 1 rfl
        refine Wx.lit (t := (tSl (tI .i64))) (ys := [l ++ [e]]) (vs := [v_19]) elGi_115 hS rfl rfl ⟨(hS.v 0 rfl), trivial⟩ (by decide) rfl (fun v_26 w_27 hx_28 hS => ?_)
        refine Wx.append elGi_115 hS 3 rfl rfl rfl (Src.ofR hS 0 rfl) (by simp only [maxLen]; first | omega | (simp; omega) | simp) (by first | omega | (simp; omega) | simp) rfl (fun v_29 w_30 hz_31 hS => ?_)
        refine Wx.rd (v := v_29) (rd_assign rfl) rfl ?_
        refine Wx.nil ?_
        refine W.reg ?_
        refine Wx.rd (v := .int .i64 (k + 1)) (rd_add rfl rfl (in_i64 (by omega) (by omega))) rfl ?_
        refine Wx.rd (v := .int .i64 (k + 1)) (rd_move rfl) rfl ?_
        refine Wx.nil ?_
        refine ⟨(k + 1, v_29, out ++ [l ++ [e]], List.set met2 e.toNat true), (by show (teN ts - (k + 1)).toNat < (teN ts - k).toNat; omega), ?_, ?_, Out.look rfl (Out.hav rfl (Out.look rfl Out.self))⟩
        · exact ⟨St.tl (St.tl (hS.tl)), (by first | omega | assumption), (by first | omega | assumption), (by rw [(cy_end p_p hkr (by omega) y2 (Decidable.not_not.1 c1)).1]; exact cyc_take h0 h2 h3 (by omega) y5), ((cy_end p_p hkr (by omega) y2 (Decidable.not_not.1 c1)).2), (by simp only [List.length_append, List.length_cons, List.length_nil]; omega)⟩
        · exact ⟨rfl, rfl, trivial⟩
    · -- up to the label
      intro K hK hB
      refine WJ.seqJ ?_
      refine WJ.of ?_
      refine W.seq ?_
      refine W.reg ?_
      refine Wx.rd (v := .int .i64 k) (rd_move rfl) rfl ?_
      refine Wx.rd (v := .pointer (some ⟨g_5, 0 + k.toNat * 1, none⟩)) (rd_indexArr rfl rfl Tryz.underlying172 Tryz.sizeOf4 (by omega) (by omega)) rfl ?_
      refine Wx.rd (v := .bool (ix false met k)) (rd_loadXa (d := false) (f := Value.bool) (j := k) hS 1 rfl rfl (by omega) (by omega) (by omega) Tryz.isAgg4) rfl ?_
      refine Wx.nil ?_
      refine W.cond rfl (fun c2 => ?_) (fun c2 => ?_)
      · -- yes
        try simp only [Bool.and_eq_true, Bool.or_eq_true, Bool.not_eq_true', Bool.and_eq_false_iff, Bool.or_eq_false_iff, Bool.not_eq_false', decide_eq_true_eq, decide_eq_false_iff_not, not_or, Bool.false_eq_true, Bool.true_eq_false, false_or, or_false, not_false_eq_true] at c2
        refine W.exit rfl ?_
        refine W.reg ?_
        refine Wx.rd (v := .int .i64 (k + 1)) (rd_add rfl rfl (in_i64 (by omega) (by omega))) rfl ?_
        refine Wx.rd (v := .int .i64 (k + 1)) (rd_move rfl) rfl ?_
        refine Wx.nil ?_
        refine ⟨(k + 1, ov, out, met), (by show (teN ts - (k + 1)).toNat < (teN ts - k).toNat; omega), ?_, ?_, Out.look rfl (Out.look rfl Out.self)⟩
        · exact ⟨hS, (by first | omega | assumption), (by first | omega | assumption), ((cyc_skip h0 h2 h3 (by omega) c2).1), (h3), (by first | omega | assumption)⟩
        · exact ⟨rfl, rfl, trivial⟩
      · -- no
        try simp only [Bool.and_eq_true, Bool.or_eq_true, Bool.not_eq_true', Bool.and_eq_false_iff, Bool.or_eq_false_iff, Bool.not_eq_false', decide_eq_true_eq, decide_eq_false_iff_not, not_or, Bool.false_eq_true, Bool.true_eq_false, false_or, or_false, not_false_eq_true] at c2
        refine W.skip ?_
        refine WJ.seqJ ?_
        refine WJ.of ?_
        refine W.reg ?_
        refine Wx.rd (v := (.slice none 0 0)) (rd_assign rfl) rfl ?_
        refine Wx.nil ?_
        refine WJ.seqJ ?_
        refine WJ.of ?_
        refine W.reg ?_
        refine Wx.rd (v := .int .i64 k) (rd_move rfl) rfl ?_
        refine Wx.rd (v := .int .i64 k) (rd_assign rfl) rfl ?_
        refine Wx.nil ?_
        refine WJ.seq (W.label ?_)
        have hS := hS.addNil (tI .i64) 3
        refine hB _ _ (hK _ _ ?_)
        refine ⟨(k, (.slice none 0 0), [], met, 0), ?_, ?_, Out.look rfl Out.refl⟩
        · exact ⟨hS, (cy_start p_p hkr h3), (c2)⟩
        · exact ⟨rfl, rfl, trivial⟩
  · -- no
    refine W.exit rfl ?_
    refine W.seq ?_
    refine W.reg ?_
    refine Wx.rd (v := ov) (rd_move rfl) rfl ?_
    refine Wx.rd (v := ov) (rd_assign rfl) rfl ?_
    refine Wx.nil ?_
    have e0_0 : cycV (teN ts) (alngF ts) = out := by rw [h2, show k = teN ts by omega]; rfl
    exact W.ret ⟨ov, ResIs.one, hS.bel, ⟨ov, rfl, (by rw [e0_0]; exact (hS.frO 0 rfl))⟩⟩
end Go.Proofs.YtodcppoglpfodaaGreatDoor

namespace Go.Proofs.YtodcppoglpfodaaGreatDoor
open Go.Wk Go.RowKit Go.Lib
set_option linter.unusedVariables false
set_option linter.unusedSimpArgs false
theorem mixedGk_ : Tryz.prog.follows .mixedOrders = true := by kernel_rfl
theorem foGk_142_3 : fldOff Tryz.prog 142 3 = some 33 := by kernel_rfl
theorem foGk_142_0 : fldOff Tryz.prog 142 0 = some 0 := by kernel_rfl

set_option maxHeartbeats 1000000 in
theorem F54 {mv : Value} {ls : List (List Int)} {Fr_mv : List (Option Nat)} {w : World} (h_mv : V (tSl (tSl (tI .i64))) ls mv Fr_mv w) (p_ok : MapOK ls) (p_t : TblOK (tabV ls)) (p_p : permB (teN (tabV ls)) (alngF (tabV ls)) = true) (p_y : 0 ≤ partT (tabV ls) ∧ partT (tabV ls) ≤ 100) (p_z : 0 ≤ tnN (tabV ls) - teN (tabV ls) / 2 + (cycV (teN (tabV ls)) (alngF (tabV ls))).length) (hG : Laid w) : Calls Tryz.prog 54 #[.agg #[mv]] w (Ret w (fun r _ => r = .tuple #[.int .i64 (genT (tabV ls)), .int .i64 0])) := by
  have htv := tabV_len (ls := ls)
  obtain ⟨tl, tn, ⟨te, te2⟩, tp⟩ := id p_t
  have hcl := cycV_len te.1 (alngF (tabV ls))
  have he_ : teN (tabV ls) = ix 0 (tabV ls) 0 := rfl
  have hn_ : tnN (tabV ls) = ix 0 (tabV ls) 33 := rfl
  have a_mv := h_mv.any
  have l_mv := h_mv.len63
  have hS := St.start0 w
  refine enterR Tryz.func54 rfl Tryz.ntmps54 Tryz.results54 rfl ?_
  refine W.seq ?_
  refine W.reg ?_
  refine Wx.box (cs := [mv]) hS rfl rfl rfl (fun g_1 w_2 hx_4 hb_3 hS => ?_)
  refine Wx.rd (v := .int .i64 0) (rd_assign rfl) rfl ?_
  refine Wx.rd (v := .int .i64 0) (rd_assign rfl) rfl ?_
  refine Wx.nil ?_
  refine W.seq ?_
  refine W.reg ?_
  refine Wx.rd (v := .agg #[mv]) (rd_loadXs (ds := [mv]) hS 0 rfl rfl rfl rfl Tryz.isAgg117 Tryz.sizeOf117) rfl ?_
  refine Wx.callF (run_callF Tryz.call71 rfl) (F71 (hS.arg a_mv) p_ok) rfl ?_
  rintro r_5 w_6 hx_7 rfl
  have hS := hS.ext hx_7
  refine Wx.rd (v := .tuple #[.agg (List.map (Value.int .i64) (tabV ls)).toArray, .int .i64 0]) (rd_move rfl) rfl ?_
  refine Wx.rd (v := .agg (List.map (Value.int .i64) (tabV ls)).toArray) (rd_extract rfl rfl) rfl ?_
  refine Wx.rd (v := .int .i64 0) (rd_extract rfl rfl) rfl ?_
  refine Wx.alloc (cs := List.map (Value.int .i64) (List.replicate 34 (0 : Int))) hS Tryz.zeroValue142 (by kernel_rfl) rfl (fun g_8 w_9 hx_11 hb_10 hS => ?_)
  have hS : St _ _ w_9 [.box g_8 142 (List.map (Value.int .i64) (List.replicate 34 (0 : Int))), .box g_1 117 [mv]] := hS
  refine Wx.storeX (cs' := List.map (Value.int .i64) (tabV ls)) (ds := List.map (Value.int .i64) (tabV ls)) hS 0 rfl rfl rfl rfl (fun w' => by rw [List.length_map, show List.length (tabV ls) = 34 by first | omega | (simp; omega) | simp]; exact Tryz.sizeOf142 w') (by first | (simp; omega) | simp) (by intro u hu; obtain ⟨_, _, rfl⟩ := List.mem_map.1 hu; rfl) (by rw [List.take_zero, List.nil_append, List.drop_of_length_le (by first | (simp; omega) | simp), List.append_nil]) (fun w_12 hz_13 hS => ?_)
  refine Wx.rd (v := .int .i64 0) (rd_assign rfl) rfl ?_
  refine Wx.nil ?_
  refine W.seq ?_
  refine W.seq ?_
  refine W.reg ?_
  refine Wx.rd (v := .int .i64 0) (rd_move rfl) rfl ?_
  refine Wx.rd (v := .bool false) (Rd.to (v := .bool (decide ((0 : Int) ≠ 0))) (rd_neq rfl rfl) rfl) rfl ?_
  refine Wx.nil ?_
  refine W.condF rfl rfl ?_
  refine W.skip ?_
  refine W.seq ?_
  refine W.regH mixedGk_ (fun w_14 hx_15 => ?_)
  have h0 := hS
  have hS := (St.start _ _ h0.fb_lt).ext hx_15
  refine Wh.rd (v := .agg (List.map (Value.int .i64) (tabV ls)).toArray) 0 rfl (by kernel_rfl) hS.bel (rd_loadXs (ds := List.map (Value.int .i64) (tabV ls)) h0 0 rfl rfl (by rw [List.drop_zero, List.take_of_length_le (by simp; omega)]) (by simp; omega) Tryz.isAgg142 Tryz.sizeOf142) rfl ?_
  refine Wh.rd (v := .pointer (some ⟨g_8, 0 + 33, none⟩)) 2 rfl (by kernel_rfl) hS.bel (rd_fieldAddr (o := 0) rfl foGk_142_3) rfl ?_
  refine Wh.rd (v := .int .i64 (ix 0 (tabV ls) 33)) 3 rfl (by kernel_rfl) hS.bel (rd_loadXa (d := 0) (f := (Value.int .i64)) (j := 33) h0 0 rfl rfl (by omega) (by omega) (by omega) Tryz.isAgg3) rfl ?_
  refine Wh.rd (v := .pointer (some ⟨g_8, 0 + 0, none⟩)) 4 rfl (by kernel_rfl) hS.bel (rd_fieldAddr (o := 0) rfl foGk_142_0) rfl ?_
  refine Wh.rd (v := .int .i64 (ix 0 (tabV ls) 0)) 5 rfl (by kernel_rfl) hS.bel (rd_loadXa (d := 0) (f := (Value.int .i64)) (j := 0) h0 0 rfl rfl (by omega) (by omega) (by omega) Tryz.isAgg3) rfl ?_
  refine Wh.rd (v := .int .i64 ((ix 0 (tabV ls) 0) / 2)) 6 rfl (by kernel_rfl) hS.bel (rd_quo rfl rfl (by omega) (by omega) (in_i64 (by omega) (by omega))) rfl ?_
  refine Wh.rd (v := .int .i64 ((ix 0 (tabV ls) 33) - ((ix 0 (tabV ls) 0) / 2))) 7 rfl (by kernel_rfl) hS.bel (rd_sub rfl rfl (in_i64 (by omega) (by omega))) rfl ?_
  refine Wh.rd (v := .agg (List.map (Value.int .i64) (tabV ls)).toArray) 8 rfl (by kernel_rfl) hS.bel (rd_loadXs (ds := List.map (Value.int .i64) (tabV ls)) h0 0 rfl rfl (by rw [List.drop_zero, List.take_of_length_le (by simp; omega)]) (by simp; omega) Tryz.isAgg142 Tryz.sizeOf142) rfl ?_
  refine Wh.rd (v := .agg (List.map (Value.int .i64) (tabV ls)).toArray) 9 rfl (by kernel_rfl) hS.bel (rd_loadXs (ds := List.map (Value.int .i64) (tabV ls)) h0 0 rfl rfl (by rw [List.drop_zero, List.take_of_length_le (by simp; omega)]) (by simp; omega) Tryz.isAgg142 Tryz.sizeOf142) rfl ?_
  refine Wh.rd (v := .func (.func 74) #[.agg (List.map (Value.int .i64) (tabV ls)).toArray] #[]) 10 rfl (by kernel_rfl) hS.bel (rd_makeFunc (vs := [.agg (List.map (Value.int .i64) (tabV ls)).toArray]) (us := []) rfl rfl) rfl ?_
  refine Wh.br [1] (by kernel_rfl) (by decide) ⟨⟨_, rfl, ?_⟩, trivial⟩
  refine Wx.callF (run_callF Tryz.call72 rfl) (F72 htv (tab_in (ls := ls) p_ok) p_t) rfl ?_
  rintro r_16 w_17 hx_18 rfl
  have hS := hS.ext hx_18
  refine Wx.nil ⟨hS.bel, ?_⟩
  refine Wh.br [11] (by kernel_rfl) (by decide) ⟨⟨_, rfl, ?_⟩, trivial⟩
  refine Wx.callF (run_callF Tryz.call73 rfl) (FCb htv (tab_in (ls := ls) p_ok) htv (tab_in (ls := ls) p_ok) p_t p_p hS.fb_lt (hG.ext (Ext.trans h0.bel hS.bel))) rfl ?_
  rintro r_19 w_20 hx_21 ⟨_, rfl, hv_22⟩
  have hS := hS.pushFrO hx_21 hv_22
  refine Wx.nil ⟨hS.bel, ?_⟩
  refine Wh.br [12] (by kernel_rfl) (by decide) ⟨⟨_, rfl, ?_⟩, trivial⟩
  refine Wx.rd (v := .int .i64 ((cycV (teN (tabV ls)) (alngF (tabV ls))).length : Int)) (rd_lenR hS 0 rfl rfl Tryz.underlying115) rfl ?_
  refine Wx.nil ⟨hS.bel, ?_⟩
  refine Wh.rd (v := .int .i64 (((ix 0 (tabV ls) 33) - ((ix 0 (tabV ls) 0) / 2)) + ((cycV (teN (tabV ls)) (alngF (tabV ls))).length : Int))) 13 rfl (by kernel_rfl) hS.bel (rd_add rfl rfl (in_i64 (by omega) (by omega))) rfl ?_
  refine Wh.rd (v := .int .i64 ((((ix 0 (tabV ls) 33) - ((ix 0 (tabV ls) 0) / 2)) + ((cycV (teN (tabV ls)) (alngF (tabV ls))).length : Int)) / 2)) 14 rfl (by kernel_rfl) hS.bel (rd_quo rfl rfl (by omega) (by omega) (in_i64 (by omega) (by omega))) rfl ?_
  refine Wh.rd (v := .int .i64 ((partT (tabV ls)) - ((((ix 0 (tabV ls) 33) - ((ix 0 (tabV ls) 0) / 2)) + ((cycV (teN (tabV ls)) (alngF (tabV ls))).length : Int)) / 2))) 15 rfl (by kernel_rfl) hS.bel (rd_sub rfl rfl (in_i64 (by omega) (by omega))) rfl ?_
  refine Wh.rd (v := .int .i64 ((partT (tabV ls)) - ((((ix 0 (tabV ls) 33) - ((ix 0 (tabV ls) 0) / 2)) + ((cycV (teN (tabV ls)) (alngF (tabV ls))).length : Int)) / 2))) 16 rfl (by kernel_rfl) hS.bel (rd_assign rfl) rfl ?_
  refine Wh.rd (v := .int .i64 0) 17 rfl (by kernel_rfl) hS.bel (rd_assign rfl) rfl ?_
  refine Wh.done (by kernel_rfl) ?_
  have hS := h0.merge hS
  have e0_0 : (genT (tabV ls)) = ((partT (tabV ls)) - ((((ix 0 (tabV ls) 33) - ((ix 0 (tabV ls) 0) / 2)) + ((cycV (teN (tabV ls)) (alngF (tabV ls))).length : Int)) / 2) : Int) := by rfl
  exact W.ret ⟨.tuple #[.int .i64 ((partT (tabV ls)) - ((((ix 0 (tabV ls) 33) - ((ix 0 (tabV ls) 0) / 2)) + ((cycV (teN (tabV ls)) (alngF (tabV ls))).length : Int)) / 2)), .int .i64 0], ResIs.two, hS.bel, (by rw [e0_0])⟩
end Go.Proofs.YtodcppoglpfodaaGreatDoor

namespace Go.Proofs.YtodcppoglpfodaaGreatDoor
open Go.Wk Go.RowKit Go.Lib
set_option linter.unusedVariables false
set_option linter.unusedSimpArgs false
theorem elVe_23 : ElemI Tryz.prog 23 3 (.int .i64 0) 1 8 := ElemI.of Tryz.underlying23 (by kernel_rfl) (by first | rfl | kernel_rfl) (by decide)
theorem elVe_115 : ElemI Tryz.prog 115 23 ((.slice none 0 0)) 1 24 := ElemI.of Tryz.underlying115 (by kernel_rfl) (by first | rfl | kernel_rfl) (by decide)

set_option maxHeartbeats 2000000 in
theorem F39  {w : World} (hG : Laid w) : Calls Tryz.prog 39 #[] w (Ret w (fun r _ => r = .bool true)) := by
  have hS := St.start0 w
  refine enterR Tryz.func39 rfl Tryz.ntmps39 Tryz.results39 rfl ?_
  refine W.seq ?_
  refine W.reg ?_
  refine Wx.rd (v := .bool false) (rd_assign rfl) rfl ?_
  refine Wx.nil ?_
  refine W.seq ?_
  refine W.reg ?_
  refine Wx.lit (t := (tI .i64)) (ys := [0, 2, 1, 3]) (vs := [.int .i64 0, .int .i64 2, .int .i64 1, .int .i64 3]) elVe_23 hS rfl rfl ⟨(V.mkInt (in_i64 (by omega) (by omega))), ⟨(V.mkInt (in_i64 (by omega) (by omega))), ⟨(V.mkInt (in_i64 (by omega) (by omega))), ⟨(V.mkInt (in_i64 (by omega) (by omega))), trivial⟩⟩⟩⟩ (by decide) rfl (fun v_1 w_2 hx_3 hS => ?_)
  have hS := hS.freeze 0 rfl
  refine Wx.lit (t := (tSl (tI .i64))) (ys := [[0, 2, 1, 3]]) (vs := [v_1]) elVe_115 hS rfl rfl ⟨(hS.v 0 rfl), trivial⟩ (by decide) rfl (fun v_5 w_6 hx_7 hS => ?_)
  refine Wx.rd (v := .agg #[v_5]) (rd_buildC (vs := [(0, v_5)]) (us := [(0, .agg #[v_5])]) rfl (parts_cons (Go.Wk.cells_one (hS.rowOne 0 rfl)) parts_nil) (by kernel_rfl)) rfl ?_
  refine Wx.callF (run_callF Tryz.call54 rfl) (F54 (hS.lend 0 rfl) good_0.o good_0.t good_0.b gen_0.1 gen_0.2 (hG.ext hS.bel)) rfl ?_
  rintro r_8 w_9 hx_10 rfl
  have hS := hS.ext hx_10
  refine Wx.rd (v := .tuple #[.int .i64 (genT (tabV [[0, 2, 1, 3]])), .int .i64 0]) (rd_move rfl) rfl ?_
  refine Wx.rd (v := .int .i64 (genT (tabV [[0, 2, 1, 3]]))) (rd_extract rfl rfl) rfl ?_
  refine Wx.rd (v := .int .i64 0) (rd_extract rfl rfl) rfl ?_
  refine Wx.rd (v := .int .i64 (genT (tabV [[0, 2, 1, 3]]))) (rd_assign rfl) rfl ?_
  refine Wx.rd (v := .int .i64 0) (rd_assign rfl) rfl ?_
  refine Wx.nil ?_
  refine W.seq ?_
  refine W.reg ?_
  refine Wx.rd (v := .int .i64 0) (rd_move rfl) rfl ?_
  refine Wx.rd (v := .bool true) (Rd.to (v := .bool (decide ((0 : Int) = 0))) (rd_eql rfl rfl) rfl) rfl ?_
  refine Wx.rd (v := .bool true) (rd_move rfl) rfl ?_
  refine Wx.gyes rfl rfl rfl ?_
  refine Wx.rd (v := .int .i64 (genT (tabV [[0, 2, 1, 3]]))) (rd_move rfl) rfl ?_
  refine Wx.gyes rfl rfl rfl ?_
  refine Wx.rd (v := .bool true) (Rd.to (v := .bool (decide ((genT (tabV [[0, 2, 1, 3]])) = 1))) (rd_eql rfl rfl) (congrArg (Value.bool) (show (true : Bool) = (decide ((genT (tabV [[0, 2, 1, 3]])) = 1) : Bool) from (by decide +kernel)).symm)) rfl ?_
  refine Wx.rd (v := .bool true) (rd_pickT rfl rfl) rfl ?_
  refine Wx.rd (v := .bool true) (rd_move rfl) rfl ?_
  refine Wx.gyes rfl rfl rfl ?_
  refine Wx.callF (run_callF Tryz.call55 rfl) (F55 (hG.ext hS.bel)) rfl ?_
  rintro r_11 w_12 hx_13 rfl
  have hS := hS.ext hx_13
  refine Wx.rd (v := .bool true) (rd_pickT rfl rfl) rfl ?_
  refine Wx.rd (v := .bool true) (rd_assign rfl) rfl ?_
  refine Wx.nil ?_
  exact W.ret ⟨.bool true, ResIs.one, hS.bel, rfl⟩
end Go.Proofs.YtodcppoglpfodaaGreatDoor

namespace Go.Proofs.YtodcppoglpfodaaGreatDoor
open Go.Wk Go.RowKit Go.Lib
set_option linter.unusedVariables false
set_option linter.unusedSimpArgs false
theorem foLa_56_0 : fldOff Tryz.prog 56 0 = some 0 := by kernel_rfl
theorem elLa_23 : ElemI Tryz.prog 23 3 (.int .i64 0) 1 8 := ElemI.of Tryz.underlying23 (by kernel_rfl) (by first | rfl | kernel_rfl) (by decide)
theorem mixedLa_ : Tryz.prog.follows .mixedOrders = true := by kernel_rfl

theorem F19 {v : Value} {ys : List Int} {gb : Nat} {x : Int} {ob : List Ob} {w0 w : World} {O : List (Option Nat)} (i_x : InK .i64 x) (p_len : (ys.length : Int) ≤ 1000) (hS : St w0 O w (.row (tI .i64) 3 v ys :: .box gb 56 [v] :: ob)) : Calls Tryz.prog 19 #[.pointer (some ⟨gb, 0, none⟩), .int .i64 x] w (Bk fun r w' => r = .tuple #[] ∧ ∃ v', St w0 O w' (.row (tI .i64) 3 v' (ys ++ [x]) :: .box gb 56 [v'] :: ob)) := by
  have b_x := bd_i64 i_x
  refine enterB Tryz.func19 rfl Tryz.ntmps19 Tryz.results19 rfl ?_
  refine W.reg ?_
  refine Wx.rd (v := .pointer (some ⟨gb, 0, none⟩)) (rd_move rfl) rfl ?_
  refine Wx.rd (v := .pointer (some ⟨gb, 0, none⟩)) (rd_move rfl) rfl ?_
  refine Wx.rd (v := .pointer (some ⟨gb, 0, none⟩)) (rd_nilCheck rfl rfl) rfl ?_
  refine Wx.rd (v := .pointer (some ⟨gb, 0, none⟩)) (rd_fieldAddr rfl foLa_56_0) rfl ?_
  refine Wx.rd (v := v) (rd_loadX hS 1 rfl rfl rfl Tryz.isAgg23) rfl ?_
  refine Wx.rd (v := .int .i64 x) (rd_move rfl) rfl ?_
  refine Wx.lit (t := (tI .i64)) (ys := [x]) (vs := [.int .i64 x]) elLa_23 hS rfl rfl ⟨(V.mkInt (in_i64 (by omega) (by omega))), trivial⟩ (by decide) rfl (fun v_1 w_2 hx_3 hS => ?_)
  refine Wx.append elLa_23 hS 1 rfl rfl rfl (Src.ofR hS 0 rfl) (by simp only [maxLen]; first | omega | (simp; omega) | simp) (by first | omega | (simp; omega) | simp) rfl (fun v_4 w_5 hz_6 hS => ?_)
  refine Wx.rd (v := .pointer (some ⟨gb, 0, none⟩)) (rd_nilCheck rfl rfl) rfl ?_
  refine Wx.rd (v := .pointer (some ⟨gb, 0, none⟩)) (rd_fieldAddr rfl foLa_56_0) rfl ?_
  refine Wx.storeX (cs' := [v_4]) (ds := [v_4]) hS 2 rfl rfl rfl (Go.Wk.cells_one (hS.rowOne 1 rfl)) Tryz.sizeOf23 (Nat.le_of_ble_eq_true rfl) (one_cons (hS.rowOne 1 rfl) one_nil) rfl (fun w_7 hz_8 hS => ?_)
  refine Wx.nil ?_
  exact ⟨.tuple #[], ResIs.zero, rfl, _, (St.tl hS)⟩

theorem F20 {v : Value} {ys : List Int} {gb : Nat}  {ob : List Ob} {w0 w : World} {O : List (Option Nat)}  (hS : St w0 O w (.row (tI .i64) 3 v ys :: .box gb 56 [v] :: ob)) : Calls Tryz.prog 20 #[.pointer (some ⟨gb, 0, none⟩)] w (Bk fun r w' => r = .tuple #[.int .i64 (topB ys), .bool (decide (0 < ys.length))] ∧ St w0 O w' (.row (tI .i64) 3 v ys :: .box gb 56 [v] :: ob)) := by
  have hyl : (ys.length : Int) ≤ 9223372036854775807 := by have := hS.rowLen 0 rfl; simp only [maxLen] at this; omega
  refine enterB Tryz.func20 rfl Tryz.ntmps20 Tryz.results20 rfl ?_
  refine W.seq ?_
  refine W.reg ?_
  refine Wx.rd (v := .int .i64 0) (rd_assign rfl) rfl ?_
  refine Wx.rd (v := .bool false) (rd_assign rfl) rfl ?_
  refine Wx.nil ?_
  refine W.seq ?_
  refine W.seq ?_
  refine W.reg ?_
  refine Wx.rd (v := .pointer (some ⟨gb, 0, none⟩)) (rd_move rfl) rfl ?_
  refine Wx.rd (v := .pointer (some ⟨gb, 0, none⟩)) (rd_nilCheck rfl rfl) rfl ?_
  refine Wx.rd (v := .pointer (some ⟨gb, 0, none⟩)) (rd_fieldAddr rfl foLa_56_0) rfl ?_
  refine Wx.rd (v := v) (rd_loadX hS 1 rfl rfl rfl Tryz.isAgg23) rfl ?_
  refine Wx.rd (v := .int .i64 (ys.length : Int)) (rd_lenR hS 0 rfl rfl Tryz.underlying23) rfl ?_
  refine Wx.rd (v := .bool (decide ((ys.length : Int) = 0))) (rd_eql rfl rfl) rfl ?_
  refine Wx.nil ?_
  refine W.condD rfl (fun c0 => ?_) (fun c0 => ?_)
  · -- yes
    refine W.seq ?_
    refine W.reg ?_
    refine Wx.rd (v := .int .i64 0) (rd_move rfl) rfl ?_
    refine Wx.rd (v := .int .i64 0) (rd_assign rfl) rfl ?_
    refine Wx.rd (v := .bool false) (rd_assign rfl) rfl ?_
    refine Wx.nil ?_
    exact W.ret ⟨.tuple #[.int .i64 0, .bool false], ResIs.two, (by rw [topB, if_pos (by omega), decide_eq_false (by omega)]), hS⟩
  · -- no
    refine W.skip ?_
    refine W.seq ?_
    refine W.regQ mixedLa_ (by kernel_rfl) ?_
    refine Wx.rd (v := .pointer (some ⟨gb, 0, none⟩)) (rd_move rfl) rfl ?_
    refine Wx.rd (v := .pointer (some ⟨gb, 0, none⟩)) (rd_nilCheck rfl rfl) rfl ?_
    refine Wx.rd (v := .pointer (some ⟨gb, 0, none⟩)) (rd_fieldAddr rfl foLa_56_0) rfl ?_
    refine Wx.rd (v := v) (rd_loadX hS 1 rfl rfl rfl Tryz.isAgg23) rfl ?_
    refine Wx.rd (v := .pointer (some ⟨gb, 0, none⟩)) (rd_move rfl) rfl ?_
    refine Wx.rd (v := .pointer (some ⟨gb, 0, none⟩)) (rd_nilCheck rfl rfl) rfl ?_
    refine Wx.rd (v := .pointer (some ⟨gb, 0, none⟩)) (rd_fieldAddr rfl foLa_56_0) rfl ?_
    refine Wx.rd (v := v) (rd_loadX hS 1 rfl rfl rfl Tryz.isAgg23) rfl ?_
    refine Wx.rd (v := .int .i64 (ys.length : Int)) (rd_lenR hS 0 rfl rfl Tryz.underlying23) rfl ?_
    refine Wx.rd (v := .int .i64 ((ys.length : Int) - 1)) (rd_sub rfl rfl (in_i64 (by omega) (by omega))) rfl ?_
    refine Wx.indexR hS 0 rfl rfl rfl Tryz.underlying23 Tryz.sizeOf3 (by first | omega | (simp only [List.length_set, List.length_append, List.length_cons, List.length_nil, List.length_replicate]; omega)) (by first | omega | (simp only [List.length_set, List.length_append, List.length_cons, List.length_nil, List.length_replicate]; omega)) rfl (fun g_1 hg_2 => ?_)
    refine Wx.rd (v := .int .i64 (ix 0 ys ((ys.length : Int) - 1))) (rd_loadRI' hS 0 rfl hg_2 rfl (by first | omega | (simp only [List.length_set, List.length_append, List.length_cons, List.length_nil, List.length_replicate]; omega)) (by first | omega | (simp only [List.length_set, List.length_append, List.length_cons, List.length_nil, List.length_replicate]; omega)) Tryz.isAgg3 Tryz.sizeOf3) rfl ?_
    have bd_3 := bd_i64 (hS.rowInK' 0 rfl (by first | omega | (simp only [List.length_set, List.length_append, List.length_cons, List.length_nil, List.length_replicate]; omega)) (by first | omega | (simp only [List.length_set, List.length_append, List.length_cons, List.length_nil, List.length_replicate]; omega)) : InK .i64 (ix 0 ys ((ys.length : Int) - 1)))
    refine Wx.rd (v := .int .i64 (ix 0 ys ((ys.length : Int) - 1))) (rd_assign rfl) rfl ?_
    refine Wx.rd (v := .bool true) (rd_assign rfl) rfl ?_
    refine Wx.nilQ (fun w_4 hx_5 => ?_)
    have hS := hS.ext hx_5
    exact W.ret ⟨.tuple #[.int .i64 (ix 0 ys ((ys.length : Int) - 1)), .bool true], ResIs.two, (by rw [topB, if_neg (by omega), decide_eq_true (by omega)]), hS⟩

theorem F21 {v : Value} {ys : List Int} {gb : Nat}  {ob : List Ob} {w0 w : World} {O : List (Option Nat)} (p_ne : 0 < ys.length) (hS : St w0 O w (.row (tI .i64) 3 v ys :: .box gb 56 [v] :: ob)) : Calls Tryz.prog 21 #[.pointer (some ⟨gb, 0, none⟩)] w (Bk fun r w' => r = .tuple #[] ∧ ∃ v', St w0 O w' (.row (tI .i64) 3 v' (popB ys) :: .box gb 56 [v'] :: ob)) := by
  have hyl : (ys.length : Int) ≤ 9223372036854775807 := by have := hS.rowLen 0 rfl; simp only [maxLen] at this; omega
  refine enterB Tryz.func21 rfl Tryz.ntmps21 Tryz.results21 rfl ?_
  refine W.regT 14 mixedLa_ (by kernel_rfl) ?_
  obtain ⟨g_1, c_2, rfl, hc_3⟩ := hS.rowForm 0 rfl p_ne
  refine Wx.rd (v := .pointer (some ⟨gb, 0, none⟩)) (rd_move rfl) rfl ?_
  refine Wx.rd (v := .pointer (some ⟨gb, 0, none⟩)) (rd_move rfl) rfl ?_
  refine Wx.rd (v := .pointer (some ⟨gb, 0, none⟩)) (rd_nilCheck rfl rfl) rfl ?_
  refine Wx.rd (v := .pointer (some ⟨gb, 0, none⟩)) (rd_fieldAddr rfl foLa_56_0) rfl ?_
  refine Wx.rd (v := (.slice (some ⟨g_1, 0, none⟩) ys.length c_2)) (rd_loadX hS 1 rfl rfl rfl Tryz.isAgg23) rfl ?_
  refine Wx.rd (v := .pointer (some ⟨gb, 0, none⟩)) (rd_move rfl) rfl ?_
  refine Wx.rd (v := .pointer (some ⟨gb, 0, none⟩)) (rd_nilCheck rfl rfl) rfl ?_
  refine Wx.rd (v := .pointer (some ⟨gb, 0, none⟩)) (rd_fieldAddr rfl foLa_56_0) rfl ?_
  refine Wx.rd (v := (.slice (some ⟨g_1, 0, none⟩) ys.length c_2)) (rd_loadX hS 1 rfl rfl rfl Tryz.isAgg23) rfl ?_
  refine Wx.rd (v := .int .i64 (ys.length : Int)) (rd_lenR hS 0 rfl rfl Tryz.underlying23) rfl ?_
  refine Wx.rd (v := .int .i64 ((ys.length : Int) - 1)) (rd_sub rfl rfl (in_i64 (by omega) (by omega))) rfl ?_
  refine Wx.rd (v := (.slice (some ⟨g_1, 0, none⟩) ((ys.length : Int) - 1).toNat c_2)) (rd_headO Tryz.underlying23 Tryz.sizeOf3 rfl rfl (by omega) (by omega)) rfl ?_
  have hS : St _ _ _ (.row (tI .i64) 3 (.slice (some ⟨g_1, 0, none⟩) ((ys.length : Int) - 1).toNat c_2) (List.take ((ys.length : Int) - 1).toNat ys) :: .box gb 56 [(.slice (some ⟨g_1, 0, none⟩) ys.length c_2)] :: ob) := hS.shrink (m := ((ys.length : Int) - 1).toNat) 0 rfl (by omega)
  refine Wx.rd (v := .pointer (some ⟨gb, 0, none⟩)) (rd_nilCheck rfl rfl) rfl ?_
  refine Wx.rd (v := .pointer (some ⟨gb, 0, none⟩)) (rd_fieldAddr rfl foLa_56_0) rfl ?_
  refine Wx.nilQ (fun w_4 hx_5 => ?_)
  have hS := hS.ext hx_5
  refine Wx.storeX (cs' := [(.slice (some ⟨g_1, 0, none⟩) ((ys.length : Int) - 1).toNat c_2)]) (ds := [(.slice (some ⟨g_1, 0, none⟩) ((ys.length : Int) - 1).toNat c_2)]) hS 1 rfl rfl rfl (Go.Wk.cells_one (hS.rowOne 0 rfl)) Tryz.sizeOf23 (Nat.le_of_ble_eq_true rfl) (one_cons (hS.rowOne 0 rfl) one_nil) rfl (fun w_6 hz_7 hS => ?_)
  refine Wx.nil ?_
  exact ⟨.tuple #[], ResIs.zero, rfl, _, hS⟩
end Go.Proofs.YtodcppoglpfodaaGreatDoor

namespace Go.Proofs.YtodcppoglpfodaaGreatDoor
open Go.Wk Go.RowKit Go.Lib
set_option linter.unusedVariables false
set_option linter.unusedSimpArgs false


set_option maxHeartbeats 2000000 in
theorem F41 {Tl : List (Int × Int) → List Ob → Prop} {ls : List (Int × Int)} {ft : FuncId} {ct : List Value} {v : Value} {ys : List Int} {gb gt : Nat} {k : Int} {ob : List Ob} {w0 w : World} {O : List (Option Nat)} (hcall : ∀ args w, (callFunc ft args).run Tryz.prog w = .ok (.enter ft args) w) (hE : TellIn Tryz.prog ft ct Tl) (hT : Tl ls ob) (i_k : InK .i64 k) (p_l : (ls.length : Int) + ys.length ≤ 90) (hS : St w0 O w (.row (tI .i64) 3 v ys :: .box gb 56 [v] :: .box gt 53 [(.func (.func ft) #[] ct.toArray)] :: ob)) : Calls Tryz.prog 41 #[.int .i64 k, .pointer (some ⟨gb, 0, none⟩), .pointer (some ⟨gt, 0, none⟩)] w (Bk fun r w' => r = .tuple #[] ∧ ∃ v' ob', Tl (ls ++ outO (popL k ys.length ys []).2) ob' ∧ St w0 O w' (.row (tI .i64) 3 v' ((popL k ys.length ys []).1) :: .box gb 56 [v'] :: .box gt 53 [(.func (.func ft) #[] ct.toArray)] :: ob')) := by
  have b_k := bd_i64 i_k
  refine enterB Tryz.func41 rfl Tryz.ntmps41 Tryz.results41 rfl ?_
  refine W.seq ?_
  refine W.reg ?_
  have hS := hS.front 2 rfl
  have hS := hS.front 2 rfl
  have hS := hS.front 2 rfl
  have hS : St _ _ w (.row (tI .i64) 3 v ys :: .box gb 56 [v] :: .box gt 53 [(.func (.func ft) #[] ct.toArray)] :: ob) := hS
  refine Wx.callB (run_callF Tryz.call20 rfl) (F20 (ob := (.box gt 53 [(.func (.func ft) #[] ct.toArray)] :: ob))  hS) rfl ?_
  rintro r_1 w_2 ⟨rfl, hS⟩
  have hS : St _ _ w_2 (.row (tI .i64) 3 v ys :: .box gb 56 [v] :: .box gt 53 [(.func (.func ft) #[] ct.toArray)] :: ob) := hS
  have hS := hS.front 2 rfl
  have hS := hS.front 2 rfl
  have hS := hS.front 2 rfl
  have hS : St _ _ w_2 (.row (tI .i64) 3 v ys :: .box gb 56 [v] :: .box gt 53 [(.func (.func ft) #[] ct.toArray)] :: ob) := hS
  have bt_3 := bd_i64 (top_in hS 0 rfl)
  refine Wx.rd (v := .tuple #[.int .i64 (topB ys), .bool (decide (0 < ys.length))]) (rd_move rfl) rfl ?_
  refine Wx.rd (v := .int .i64 (topB ys)) (rd_extract rfl rfl) rfl ?_
  refine Wx.rd (v := .bool (decide (0 < ys.length))) (rd_extract rfl rfl) rfl ?_
  refine Wx.rd (v := .int .i64 (topB ys)) (rd_assign rfl) rfl ?_
  refine Wx.rd (v := .bool (decide (0 < ys.length))) (rd_assign rfl) rfl ?_
  refine Wx.nil ?_
  refine W.block ?_
  refine W.loop [4, 5, 10, 11, 12, 13, 14, 15, 16, 17, 18, 19, 20, 21, 22, 23] (fun x : Int × Bool × Value × (List Int) × (List Ob) × (List Int) => match x with | (tp, is, v2, ys2, ot, os) => [(4, .int .i64 tp), (5, .bool is)]) (fun (x : Int × Bool × Value × (List Int) × (List Ob) × (List Int)) w' => match x with | (tp, is, v2, ys2, ot, os) => St w0 O w' (.row (tI .i64) 3 v2 ys2 :: .box gb 56 [v2] :: .box gt 53 [(.func (.func ft) #[] ct.toArray)] :: ot) ∧ tp = topB ys2 ∧ is = decide (0 < ys2.length) ∧ popL k ys2.length ys2 os = popL k ys.length ys [] ∧ Tl (ls ++ outO os) ot ∧ (ls.length : Int) + os.length + ys2.length ≤ 90 ∧ -9223372036854775808 ≤ tp ∧ tp ≤ 9223372036854775807) (fun x : Int × Bool × Value × (List Int) × (List Ob) × (List Int) => match x with | (tp, is, v2, ys2, ot, os) => ys2.length) (topB ys, decide (0 < ys.length), v, ys, ob, ([] : List Int)) ⟨rfl, rfl, trivial⟩ ⟨hS, (rfl), (rfl), (rfl), (by simpa [outO] using hT), (by simpa using p_l), (by omega)⟩ ?_
  rintro ⟨tp, is, v2, ys2, ot, os⟩ u_5 w_4 ⟨hS, h1, h2, h3, h4, h5, h6⟩
  refine W.seq ?_
  refine W.seq ?_
  refine W.reg ?_
  refine Wx.rd (v := .bool is) (rd_move rfl) rfl ?_
  refine Wx.rd (v := .bool is) (rd_move rfl) rfl ?_
  refine Wx.cut (X := Unit) 4 [12, 13, 14, 15] (fun _ => [(15, .bool (is && decide (tp < k)))]) (fun _ w' => St w0 O w' (.row (tI .i64) 3 v2 ys2 :: .box gb 56 [v2] :: .box gt 53 [(.func (.func ft) #[] ct.toArray)] :: ot)) ?_ ?_
  · rcases Bool.eq_false_or_eq_true is with g_6 | g_6
    · -- True
      have gp_7 := g_6
      try simp only [Bool.and_eq_true, Bool.or_eq_true, Bool.not_eq_true', Bool.and_eq_false_iff, Bool.or_eq_false_iff, Bool.not_eq_false', decide_eq_true_eq, decide_eq_false_iff_not, not_or, Bool.false_eq_true, Bool.true_eq_false, false_or, or_false, not_false_eq_true] at gp_7
      refine Wx.gyes rfl rfl (congrArg Value.bool g_6) ?_
      refine Wx.rd (v := .int .i64 tp) (rd_move rfl) rfl ?_
      refine Wx.gyes rfl rfl (congrArg Value.bool g_6) ?_
      refine Wx.rd (v := .int .i64 k) (rd_move rfl) rfl ?_
      refine Wx.gyes rfl rfl (congrArg Value.bool g_6) ?_
      refine Wx.rd (v := .bool (decide (tp < k))) (rd_lss rfl rfl) rfl ?_
      refine Wx.rd (v := .bool (decide (tp < k))) (rd_pickT (congrArg Value.bool g_6) rfl) rfl ?_
      refine Wx.nil ⟨(), hS, ⟨?_, trivial⟩, Out.look rfl Out.refl⟩
      show Value.bool (decide (tp < k)) = Value.bool (is && decide (tp < k))
      first | rw [g_6, Bool.true_and] | (rw [g_6]; rfl)
    · -- False
      have gp_8 := g_6
      try simp only [Bool.and_eq_true, Bool.or_eq_true, Bool.not_eq_true', Bool.and_eq_false_iff, Bool.or_eq_false_iff, Bool.not_eq_false', decide_eq_true_eq, decide_eq_false_iff_not, not_or, Bool.false_eq_true, Bool.true_eq_false, false_or, or_false, not_false_eq_true] at gp_8
      refine Wx.gnoB rfl rfl (congrArg Value.bool g_6) rfl rfl ?_
      refine Wx.gnoB rfl rfl (congrArg Value.bool g_6) rfl rfl ?_
      refine Wx.gnoB rfl rfl (congrArg Value.bool g_6) rfl rfl ?_
      refine Wx.rd (v := .bool false) (rd_pickF (congrArg Value.bool g_6) rfl) rfl ?_
      refine Wx.nil ⟨(), hS, ⟨?_, trivial⟩, Out.look rfl Out.refl⟩
      show Value.bool false = Value.bool (is && decide (tp < k))
      first | rw [g_6, Bool.false_and] | (rw [g_6]; rfl)
  rintro ⟨⟩ u_10 w_9 hS
  refine Wx.nil ?_
  refine W.cond rfl (fun c0 => ?_) (fun c0 => ?_)
  · -- yes
    try simp only [Bool.and_eq_true, Bool.or_eq_true, Bool.not_eq_true', Bool.and_eq_false_iff, Bool.or_eq_false_iff, Bool.not_eq_false', decide_eq_true_eq, decide_eq_false_iff_not, not_or, Bool.false_eq_true, Bool.true_eq_false, false_or, or_false, not_false_eq_true] at c0
    have hc0 : topB ys2 < k ∧ 0 < ys2.length := by rw [h1, h2] at c0; simpa [and_comm] using c0
    have hpb := popB_len hc0.2
    refine W.skip ?_
    refine W.seq ?_
    refine W.block ?_
    refine W.seq ?_
    refine W.reg ?_
    have hS := hS.front 2 rfl
    have hS := hS.front 2 rfl
    have hS := hS.front 2 rfl
    have hS : St _ _ w_9 (.row (tI .i64) 3 v2 ys2 :: .box gb 56 [v2] :: .box gt 53 [(.func (.func ft) #[] ct.toArray)] :: ot) := hS
    refine Wx.callB (run_callF Tryz.call21 rfl) (F21 (ob := (.box gt 53 [(.func (.func ft) #[] ct.toArray)] :: ot)) hc0.2 hS) rfl ?_
    rintro r_11 w_12 ⟨rfl, v_13, hS⟩
    have hS : St _ _ w_12 (.row (tI .i64) 3 v_13 (popB ys2) :: .box gb 56 [v_13] :: .box gt 53 [(.func (.func ft) #[] ct.toArray)] :: ot) := hS
    have hS := hS.front 2 rfl
    have hS := hS.front 2 rfl
    have hS := hS.front 2 rfl
    have hS : St _ _ w_12 (.row (tI .i64) 3 v_13 (popB ys2) :: .box gb 56 [v_13] :: .box gt 53 [(.func (.func ft) #[] ct.toArray)] :: ot) := hS
    refine Wx.nil ?_
    refine W.reg ?_
    refine Wx.rd (v := (.func (.func ft) #[] ct.toArray)) (rd_loadX hS 2 rfl rfl rfl Tryz.isAgg53) rfl ?_
    refine Wx.rd (v := .int .i64 tp) (rd_move rfl) rfl ?_
    refine Wx.callB (run_callC (fs := []) (cs := ct) (vs := .int .u8 111 :: .int .i64 tp :: ct) hcall rfl rfl) (hE (ls ++ outO os) 111 tp [.row (tI .i64) 3 v_13 (popB ys2), .box gb 56 [v_13], .box gt 53 [(.func (.func ft) #[] ct.toArray)]] ot w0 _ O (by simp only [List.length_append, outO, List.length_map]; omega) (by constructor <;> decide) (in_i64 (by omega) (by omega)) h4 hS) rfl ?_
    rintro r_14 w_15 ⟨rfl, ob_17, hT_16, hS⟩
    have hS : St w0 O w_15 (.row (tI .i64) 3 v_13 (popB ys2) :: .box gb 56 [v_13] :: .box gt 53 [(.func (.func ft) #[] ct.toArray)] :: ob_17) := hS
    have hT := hT_16
    refine Wx.nil ?_
    refine W.reg ?_
    have hS := hS.front 2 rfl
    have hS := hS.front 2 rfl
    have hS := hS.front 2 rfl
    have hS : St _ _ w_15 (.row (tI .i64) 3 v_13 (popB ys2) :: .box gb 56 [v_13] :: .box gt 53 [(.func (.func ft) #[] ct.toArray)] :: ob_17) := hS
    refine Wx.callB (run_callF Tryz.call20 rfl) (F20 (ob := (.box gt 53 [(.func (.func ft) #[] ct.toArray)] :: ob_17))  hS) rfl ?_
    rintro r_18 w_19 ⟨rfl, hS⟩
    have hS : St _ _ w_19 (.row (tI .i64) 3 v_13 (popB ys2) :: .box gb 56 [v_13] :: .box gt 53 [(.func (.func ft) #[] ct.toArray)] :: ob_17) := hS
    have hS := hS.front 2 rfl
    have hS := hS.front 2 rfl
    have hS := hS.front 2 rfl
    have hS : St _ _ w_19 (.row (tI .i64) 3 v_13 (popB ys2) :: .box gb 56 [v_13] :: .box gt 53 [(.func (.func ft) #[] ct.toArray)] :: ob_17) := hS
    have bt_20 := bd_i64 (top_in hS 0 rfl)
    refine Wx.rd (v := .tuple #[.int .i64 (topB (popB ys2)), .bool (decide (0 < (popB ys2).length))]) (rd_move rfl) rfl ?_
    refine Wx.rd (v := .int .i64 (topB (popB ys2))) (rd_extract rfl rfl) rfl ?_
    refine Wx.rd (v := .bool (decide (0 < (popB ys2).length))) (rd_extract rfl rfl) rfl ?_
    refine Wx.rd (v := .int .i64 (topB (popB ys2))) (rd_assign rfl) rfl ?_
    refine Wx.rd (v := .bool (decide (0 < (popB ys2).length))) (rd_assign rfl) rfl ?_
    refine Wx.nil ?_
    refine ⟨(topB (popB ys2), decide (0 < (popB ys2).length), v_13, popB ys2, ob_17, os ++ [tp]), (by show (popB ys2).length < ys2.length; omega), ?_, ?_, Out.look rfl (Out.hav rfl (Out.look rfl Out.self))⟩
    · exact ⟨hS, (rfl), (rfl), (by rw [← h3, pop_next hc0.1 hc0.2, ← h1]), (by rw [outO_snoc, ← List.append_assoc]; exact hT), (by simp only [List.length_append, List.length_cons, List.length_nil]; omega), (by omega)⟩
    · exact ⟨rfl, rfl, trivial⟩
  · -- no
    try simp only [Bool.and_eq_true, Bool.or_eq_true, Bool.not_eq_true', Bool.and_eq_false_iff, Bool.or_eq_false_iff, Bool.not_eq_false', decide_eq_true_eq, decide_eq_false_iff_not, not_or, Bool.false_eq_true, Bool.true_eq_false, false_or, or_false, not_false_eq_true] at c0
    have hpe : popL k ys.length ys [] = (ys2, os) := by rw [← h3]; exact pop_end (fun hh => by rw [h1, h2] at c0; simp [hh.1, hh.2] at c0)
    have hsay : ys2 = (popL k ys.length ys []).1 := by rw [hpe]
    rw [hsay] at hS
    refine W.exit rfl ?_
    exact ⟨.tuple #[], ResIs.zero, rfl, _, ot, by rw [hpe]; exact h4, hS⟩
end Go.Proofs.YtodcppoglpfodaaGreatDoor

namespace Go.Proofs.YtodcppoglpfodaaGreatDoor
open Go.Wk Go.RowKit Go.Lib
set_option linter.unusedVariables false
set_option linter.unusedSimpArgs false


set_option maxHeartbeats 2000000 in
theorem F15 {Tl : List (Int × Int) → List Ob → Prop} {ls : List (Int × Int)} {ft : FuncId} {ct : List Value} {xv : Value} {xs : List Int} {ob : List Ob} {w0 w : World} {O : List (Option Nat)} (hcall : ∀ args w, (callFunc ft args).run Tryz.prog w = .ok (.enter ft args) w) (hE : TellIn Tryz.prog ft ct Tl) (hT : Tl ls ob) (p_n : (xs.length : Int) ≤ 7) (p_l : (ls.length : Int) ≤ 50) (hS : St w0 O w ob) (hv : V (tSl tInt) xs xv (fb ob O) w) : Calls Tryz.prog 15 #[xv, .func (.func ft) #[] ct.toArray] w (Bk fun r w' => r = .tuple #[] ∧ ∃ ob', Tl (ls ++ pasV xs) ob' ∧ St w0 O w' ob') := by
  have hS := hS.add (hv)
  have ln_2 := (hS.v 0 rfl).len63
  refine enterB Tryz.func15 rfl Tryz.ntmps15 Tryz.results15 rfl ?_
  refine W.seq ?_
  refine W.reg ?_
  refine Wx.box (cs := [(.func (.func ft) #[] ct.toArray)]) hS rfl rfl rfl (fun g_3 w_4 hx_6 hb_5 hS => ?_)
  refine Wx.nil ?_
  refine W.seq ?_
  refine W.reg ?_
  refine Wx.alloc (cs := [(.slice none 0 0)]) hS Tryz.zeroValue56 rfl rfl (fun g_7 w_8 hx_10 hb_9 hS => ?_)
  refine Wx.nil ?_
  refine W.seq ?_
  refine W.reg ?_
  refine Wx.rd (v := .func (.func 41) #[] #[.pointer (some ⟨g_7, 0, none⟩), .pointer (some ⟨g_3, 0, none⟩)]) (rd_makeFunc (vs := []) (us := [.pointer (some ⟨g_7, 0, none⟩), .pointer (some ⟨g_3, 0, none⟩)]) rfl rfl) rfl ?_
  refine Wx.rd (v := .func (.func 41) #[] #[.pointer (some ⟨g_7, 0, none⟩), .pointer (some ⟨g_3, 0, none⟩)]) (rd_assign rfl) rfl ?_
  refine Wx.nil ?_
  refine W.seq ?_
  refine W.seq ?_
  refine W.reg ?_
  refine Wx.rd (v := xv) (rd_move rfl) rfl ?_
  refine Wx.rd (v := .int .i64 (xs.length : Int)) (rd_lenV rfl (hS.v 2 rfl) Tryz.underlying23) rfl ?_
  refine Wx.rd (v := .int .i64 0) (rd_move rfl) rfl ?_
  refine Wx.nil ?_
  refine W.block ?_
  have hS := hS.addNil (tI .i64) 3
  refine W.loop [7, 11, 12, 13, 14, 15, 16, 17, 18, 19, 20, 21, 22, 23] (fun x : Int × Value × (List Int) × (List Ob) × (List (Int × Int)) => match x with | (i, v2, ys2, ot, em) => [(11, .int .i64 i)]) (fun (x : Int × Value × (List Int) × (List Ob) × (List (Int × Int))) w' => match x with | (i, v2, ys2, ot, em) => St w0 O w' (.row (tI .i64) 3 v2 ys2 :: .box g_7 56 [v2] :: .box g_3 53 [(.func (.func ft) #[] ct.toArray)] :: Ob.v (tSl (tI .i64)) xs xv :: ot) ∧ 0 ≤ i ∧ i ≤ xs.length ∧ pasK xs i = (ys2, em) ∧ Tl (ls ++ em) ot) (fun x : Int × Value × (List Int) × (List Ob) × (List (Int × Int)) => match x with | (i, v2, ys2, ot, em) => (xs.length - i).toNat) (0, (.slice none 0 0), [], ob, ([] : List (Int × Int))) ⟨rfl, trivial⟩ ⟨hS, (by first | omega | simp), (by first | omega | simp), (rfl), (by simpa using hT)⟩ ?_
  rintro ⟨i, v2, ys2, ot, em⟩ u_12 w_11 ⟨hS, i0, i1, s2, s3⟩
  refine W.seq ?_
  refine W.reg ?_
  refine Wx.rd (v := .bool (decide (i < (xs.length : Int)))) (rd_lss rfl rfl) rfl ?_
  refine Wx.nil ?_
  refine W.seq ?_
  refine W.condD rfl (fun c0 => ?_) (fun c0 => ?_)
  · -- yes
    have hkl := pask_len xs i
    rw [s2] at hkl
    simp only at hkl
    have hpl := pop_len (ix 0 xs i) ys2.length ys2 [] (Nat.le_refl _)
    simp only [List.length_nil] at hpl
    refine W.skip ?_
    refine W.seq ?_
    refine W.block ?_
    refine W.seq ?_
    refine W.reg ?_
    refine Wx.ex (rd_index 0 (hS.v 3 rfl) rfl rfl Tryz.underlying23 Tryz.sizeOf3 (by first | omega | (simp only [List.length_set, List.length_append, List.length_cons, List.length_nil, List.length_replicate]; omega)) (by first | omega | (simp only [List.length_set, List.length_append, List.length_cons, List.length_nil, List.length_replicate]; omega))) rfl (fun p_13 hp_14 => ?_)
    refine Wx.rd (v := .int .i64 (ix 0 xs i)) (rd_loadI hp_14 rfl Tryz.isAgg3 Tryz.sizeOf3) rfl ?_
    have bd_15 := bd_i64 hp_14.inK
    refine Wx.rd (v := .int .i64 (ix 0 xs i)) (rd_assign rfl) rfl ?_
    refine Wx.nil ?_
    refine W.seq ?_
    refine W.reg ?_
    refine Wx.rd (v := .func (.func 41) #[] #[.pointer (some ⟨g_7, 0, none⟩), .pointer (some ⟨g_3, 0, none⟩)]) (rd_move rfl) rfl ?_
    refine Wx.rd (v := .int .i64 (ix 0 xs i)) (rd_move rfl) rfl ?_
    have hS := hS.front 3 rfl
    have hS := hS.front 3 rfl
    have hS := hS.front 3 rfl
    have hS := hS.front 3 rfl
    have hS : St _ _ w_11 (.row (tI .i64) 3 v2 ys2 :: .box g_7 56 [v2] :: .box g_3 53 [(.func (.func ft) #[] ct.toArray)] :: Ob.v (tSl (tI .i64)) xs xv :: ot) := hS
    refine Wx.callB (run_callC (fs := []) (cs := [.pointer (some ⟨g_7, 0, none⟩), .pointer (some ⟨g_3, 0, none⟩)]) (vs := [.int .i64 (ix 0 xs i), .pointer (some ⟨g_7, 0, none⟩), .pointer (some ⟨g_3, 0, none⟩)]) Tryz.call41 rfl rfl) (F41 (k := (ix 0 xs i)) (ls := ls ++ em) (Tl := fun ls ob => ∃ ob', ob = [Ob.v (tSl (tI .i64)) xs xv] ++ ob' ∧ Tl ls ob') (ob := [Ob.v (tSl (tI .i64)) xs xv] ++ ot) hcall (tellIn_pre hE [Ob.v (tSl (tI .i64)) xs xv]) ⟨_, rfl, s3⟩ (in_i64 (by omega) (by omega)) (by simp only [List.length_append]; omega) hS) rfl ?_
    rintro r_16 w_17 ⟨rfl, v_18, _, ⟨ob_19, rfl, hT_20⟩, hS⟩
    have hS : St w0 O w_17 (.row (tI .i64) 3 v_18 ((popL (ix 0 xs i) ys2.length ys2 []).1) :: .box g_7 56 [v_18] :: .box g_3 53 [(.func (.func ft) #[] ct.toArray)] :: Ob.v (tSl (tI .i64)) xs xv :: ob_19) := hS
    have hT := hT_20
    have hS := hS.front 3 rfl
    have hS := hS.front 3 rfl
    have hS := hS.front 3 rfl
    have hS := hS.front 3 rfl
    have hS : St _ _ w_17 (.row (tI .i64) 3 v_18 ((popL (ix 0 xs i) ys2.length ys2 []).1) :: .box g_7 56 [v_18] :: .box g_3 53 [(.func (.func ft) #[] ct.toArray)] :: Ob.v (tSl (tI .i64)) xs xv :: ob_19) := hS
    refine Wx.nil ?_
    refine W.seq ?_
    refine W.reg ?_
    refine Wx.rd (v := .int .i64 (ix 0 xs i)) (rd_move rfl) rfl ?_
    have hS := hS.front 3 rfl
    have hS := hS.front 3 rfl
    have hS := hS.front 3 rfl
    have hS := hS.front 3 rfl
    have hS : St _ _ w_17 (.row (tI .i64) 3 v_18 ((popL (ix 0 xs i) ys2.length ys2 []).1) :: .box g_7 56 [v_18] :: .box g_3 53 [(.func (.func ft) #[] ct.toArray)] :: Ob.v (tSl (tI .i64)) xs xv :: ob_19) := hS
    refine Wx.callB (run_callF Tryz.call19 rfl) (F19 (ob := (.box g_3 53 [(.func (.func ft) #[] ct.toArray)] :: Ob.v (tSl (tI .i64)) xs xv :: ob_19)) (x := (ix 0 xs i)) (in_i64 (by omega) (by omega)) (by omega) hS) rfl ?_
    rintro r_21 w_22 ⟨rfl, v_23, hS⟩
    have hS : St _ _ w_22 (.row (tI .i64) 3 v_23 (((popL (ix 0 xs i) ys2.length ys2 []).1) ++ [ix 0 xs i]) :: .box g_7 56 [v_23] :: .box g_3 53 [(.func (.func ft) #[] ct.toArray)] :: Ob.v (tSl (tI .i64)) xs xv :: ob_19) := hS
    have hS := hS.front 3 rfl
    have hS := hS.front 3 rfl
    have hS := hS.front 3 rfl
    have hS := hS.front 3 rfl
    have hS : St _ _ w_22 (.row (tI .i64) 3 v_23 (((popL (ix 0 xs i) ys2.length ys2 []).1) ++ [ix 0 xs i]) :: .box g_7 56 [v_23] :: .box g_3 53 [(.func (.func ft) #[] ct.toArray)] :: Ob.v (tSl (tI .i64)) xs xv :: ob_19) := hS
    refine Wx.nil ?_
    refine W.reg ?_
    refine Wx.rd (v := (.func (.func ft) #[] ct.toArray)) (rd_loadX hS 2 rfl rfl rfl Tryz.isAgg53) rfl ?_
    refine Wx.rd (v := .int .i64 (ix 0 xs i)) (rd_move rfl) rfl ?_
    refine Wx.callB (run_callC (fs := []) (cs := ct) (vs := .int .u8 105 :: .int .i64 (ix 0 xs i) :: ct) hcall rfl rfl) (hE (ls ++ em ++ outO (popL (ix 0 xs i) ys2.length ys2 []).2) 105 (ix 0 xs i) [.row (tI .i64) 3 v_23 (((popL (ix 0 xs i) ys2.length ys2 []).1) ++ [ix 0 xs i]), .box g_7 56 [v_23], .box g_3 53 [(.func (.func ft) #[] ct.toArray)], Ob.v (tSl (tI .i64)) xs xv] ob_19 w0 _ O (by simp only [List.length_append, outO, List.length_map]; omega) (by constructor <;> decide) (in_i64 (by omega) (by omega)) hT hS) rfl ?_
    rintro r_24 w_25 ⟨rfl, ob_27, hT_26, hS⟩
    have hS : St w0 O w_25 (.row (tI .i64) 3 v_23 (((popL (ix 0 xs i) ys2.length ys2 []).1) ++ [ix 0 xs i]) :: .box g_7 56 [v_23] :: .box g_3 53 [(.func (.func ft) #[] ct.toArray)] :: Ob.v (tSl (tI .i64)) xs xv :: ob_27) := hS
    have hT := hT_26
    refine Wx.nil ?_
    refine W.reg ?_
    refine Wx.rd (v := .int .i64 (i + 1)) (rd_add rfl rfl (in_i64 (by omega) (by omega))) rfl ?_
    refine Wx.rd (v := .int .i64 (i + 1)) (rd_move rfl) rfl ?_
    refine Wx.nil ?_
    refine ⟨(i + 1, v_23, ((popL (ix 0 xs i) ys2.length ys2 []).1) ++ [ix 0 xs i], ob_27, em ++ outO (popL (ix 0 xs i) ys2.length ys2 []).2 ++ [(105, (ix 0 xs i))]), (by show (xs.length - (i + 1)).toNat < (xs.length - i).toNat; omega), ?_, ?_, Out.look rfl Out.self⟩
    · exact ⟨hS, (by first | omega | assumption), (by first | omega | assumption), (by rw [pas_next i0 (by omega), s2]; rfl), (by rw [← List.append_assoc, ← List.append_assoc]; exact hT)⟩
    · exact ⟨rfl, trivial⟩
  · -- no
    have hkl := pask_len xs i
    rw [s2] at hkl
    simp only at hkl
    refine W.exit rfl ?_
    refine W.reg ?_
    refine Wx.rd (v := .func (.func 41) #[] #[.pointer (some ⟨g_7, 0, none⟩), .pointer (some ⟨g_3, 0, none⟩)]) (rd_move rfl) rfl ?_
    refine Wx.rd (v := xv) (rd_move rfl) rfl ?_
    refine Wx.rd (v := .int .i64 (xs.length : Int)) (rd_lenV rfl (hS.v 3 rfl) Tryz.underlying23) rfl ?_
    have hS := hS.front 3 rfl
    have hS := hS.front 3 rfl
    have hS := hS.front 3 rfl
    have hS := hS.front 3 rfl
    have hS : St _ _ w_11 (.row (tI .i64) 3 v2 ys2 :: .box g_7 56 [v2] :: .box g_3 53 [(.func (.func ft) #[] ct.toArray)] :: Ob.v (tSl (tI .i64)) xs xv :: ot) := hS
    refine Wx.callB (run_callC (fs := []) (cs := [.pointer (some ⟨g_7, 0, none⟩), .pointer (some ⟨g_3, 0, none⟩)]) (vs := [.int .i64 (xs.length : Int), .pointer (some ⟨g_7, 0, none⟩), .pointer (some ⟨g_3, 0, none⟩)]) Tryz.call41 rfl rfl) (F41 (k := (xs.length : Int)) (ls := ls ++ em) (Tl := fun ls ob => ∃ ob', ob = [Ob.v (tSl (tI .i64)) xs xv] ++ ob' ∧ Tl ls ob') (ob := [Ob.v (tSl (tI .i64)) xs xv] ++ ot) hcall (tellIn_pre hE [Ob.v (tSl (tI .i64)) xs xv]) ⟨_, rfl, s3⟩ (in_i64 (by omega) (by omega)) (by simp only [List.length_append]; omega) hS) rfl ?_
    rintro r_28 w_29 ⟨rfl, v_30, _, ⟨ob_31, rfl, hT_32⟩, hS⟩
    have hS : St w0 O w_29 (.row (tI .i64) 3 v_30 ((popL (xs.length : Int) ys2.length ys2 []).1) :: .box g_7 56 [v_30] :: .box g_3 53 [(.func (.func ft) #[] ct.toArray)] :: Ob.v (tSl (tI .i64)) xs xv :: ob_31) := hS
    have hT := hT_32
    have hS := hS.front 3 rfl
    have hS := hS.front 3 rfl
    have hS := hS.front 3 rfl
    have hS := hS.front 3 rfl
    have hS : St _ _ w_29 (.row (tI .i64) 3 v_30 ((popL (xs.length : Int) ys2.length ys2 []).1) :: .box g_7 56 [v_30] :: .box g_3 53 [(.func (.func ft) #[] ct.toArray)] :: Ob.v (tSl (tI .i64)) xs xv :: ob_31) := hS
    refine Wx.nil ?_
    exact ⟨.tuple #[], ResIs.zero, rfl, ob_31, by rw [show pasV xs = em ++ outO (popL (xs.length : Int) ys2.length ys2 []).2 by rw [pasV, ← pas_end (show (xs.length : Int) ≤ i by omega), s2], ← List.append_assoc]; exact hT, (St.tl (St.tl (St.tl (St.tl hS))))⟩
end Go.Proofs.YtodcppoglpfodaaGreatDoor

namespace Go.Proofs.YtodcppoglpfodaaGreatDoor
open Go.Wk Go.RowKit Go.Lib
set_option linter.unusedVariables false
set_option linter.unusedSimpArgs false
theorem elLd_23 : ElemI Tryz.prog 23 3 (.int .i64 0) 1 8 := ElemI.of Tryz.underlying23 (by kernel_rfl) (by first | rfl | kernel_rfl) (by decide)

theorem F70 {u : Value} {os : List Int} {go : Nat} {mv bg : Int} {ob : List Ob} {w0 w : World} {O : List (Option Nat)} (i_mv : InK .u8 mv) (i_bg : InK .i64 bg) (p_len : (os.length : Int) ≤ 1000) (hS : St w0 O w (.row (tI .i64) 3 u os :: .box go 23 [u] :: ob)) : Calls Tryz.prog 70 #[.int .u8 mv, .int .i64 bg, .pointer (some ⟨go, 0, none⟩)] w (Bk fun r w' => r = .tuple #[] ∧ ∃ u', St w0 O w' (.row (tI .i64) 3 u' (if mv = 111 then os ++ [bg] else os) :: .box go 23 [u'] :: ob)) := by
  have b_mv := bd_u8 i_mv
  have b_bg := bd_i64 i_bg
  refine enterB Tryz.func70 rfl Tryz.ntmps70 Tryz.results70 rfl ?_
  refine W.seq ?_
  refine W.reg ?_
  refine Wx.rd (v := .int .u8 mv) (rd_move rfl) rfl ?_
  refine Wx.rd (v := .bool (decide (mv = 111))) (rd_eql rfl rfl) rfl ?_
  refine Wx.nil ?_
  refine W.cutK [7, 8, 9, 10] (fun x : Value × (List Int) => match x with | (u2, os2) => []) (fun (x : Value × (List Int)) w' => match x with | (u2, os2) => St w0 O w' (.row (tI .i64) 3 u2 os2 :: .box go 23 [u2] :: ob) ∧ os2 = if mv = 111 then os ++ [bg] else os) ?_ ?_
  · -- up to the cut
    refine W.condD rfl (fun c0 => ?_) (fun c0 => ?_)
    · -- yes
      refine W.reg ?_
      refine Wx.rd (v := u) (rd_loadX hS 1 rfl rfl rfl Tryz.isAgg23) rfl ?_
      refine Wx.rd (v := .int .i64 bg) (rd_move rfl) rfl ?_
      refine Wx.lit (t := (tI .i64)) (ys := [bg]) (vs := [.int .i64 bg]) elLd_23 hS rfl rfl ⟨(V.mkInt (in_i64 (by omega) (by omega))), trivial⟩ (by decide) rfl (fun v_1 w_2 hx_3 hS => ?_)
      refine Wx.append elLd_23 hS 1 rfl rfl rfl (Src.ofR hS 0 rfl) (by simp only [maxLen]; first | omega | (simp; omega) | simp) (by first | omega | (simp; omega) | simp) rfl (fun v_4 w_5 hz_6 hS => ?_)
      refine Wx.storeX (cs' := [v_4]) (ds := [v_4]) hS 2 rfl rfl rfl (Go.Wk.cells_one (hS.rowOne 1 rfl)) Tryz.sizeOf23 (Nat.le_of_ble_eq_true rfl) (one_cons (hS.rowOne 1 rfl) one_nil) rfl (fun w_7 hz_8 hS => ?_)
      refine Wx.nil ?_
      refine ⟨(v_4, os ++ [bg]), ?_, ?_, Out.look rfl Out.refl⟩
      · exact ⟨hS.tl, ((if_pos c0).symm)⟩
      · exact trivial
    · -- no
      refine W.skip ?_
      refine ⟨(u, os), ?_, ?_, Out.look rfl Out.refl⟩
      · exact ⟨hS, ((if_neg c0).symm)⟩
      · exact trivial
  rintro ⟨u2, os2⟩ u_10 w_9 ⟨hS, e2⟩
  exact ⟨.tuple #[], ResIs.zero, rfl, _, (by rw [← e2]; exact hS)⟩

theorem tellP {go : Nat} : TellIn Tryz.prog 70 [.pointer (some ⟨go, 0, none⟩)] (fun (ls : List (Int × Int)) ob => ∃ u, ob = [.row (tI .i64) 3 u (outV ls), .box go 23 [u]]) := by
  rintro ls mv x pre ob w0 w O hl hm hx ⟨u, rfl⟩ hS
  have hS2 : St w0 O w ([.row (tI .i64) 3 u (outV ls), .box go 23 [u]] ++ (pre ++ [])) := St.pull (pre := pre) (A := [.row (tI .i64) 3 u (outV ls), .box go 23 [u]]) (R := []) (by simpa using hS)
  refine (F70 (u := u) (os := outV ls) (ob := pre ++ []) hm hx (by have := outV_len ls; omega) hS2).mono ?_
  rintro e w' ⟨r, he, rfl, u', hS3⟩
  refine ⟨_, he, rfl, [.row (tI .i64) 3 u' (outV (ls ++ [(mv, x)])), .box go 23 [u']], ⟨u', rfl⟩, ?_⟩
  rw [outV_snoc]
  have h4 := St.pull (pre := [.row (tI .i64) 3 u' (if mv = 111 then outV ls ++ [x] else outV ls), .box go 23 [u']]) (A := pre) (R := []) hS3
  simpa using h4


theorem F53 {xv : Value} {xs : List Int} {O : List (Option Nat)} {w : World} (h_xv : V (tSl (tI .i64)) xs xv O w) (p_ok : PmOK xs) (hO : ∀ b, some b ∈ O → b < w.heap.size) : Calls Tryz.prog 53 #[xv] w (Ret w (fun r w' => ∃ rv, r = rv ∧ Fresh (tI .i64) 3 (outV (pasV xs)) rv w.heap.size w')) := by
  have p_n : (xs.length : Int) ≤ 7 := p_ok.n.2
  have a_xv := h_xv
  have l_xv := h_xv.len63
  have hS := St.start w O hO
  refine enterR Tryz.func53 rfl Tryz.ntmps53 Tryz.results53 rfl ?_
  refine W.seq ?_
  refine W.reg ?_
  refine Wx.rd (v := (.slice none 0 0)) (rd_assign rfl) rfl ?_
  refine Wx.nil ?_
  refine W.seq ?_
  refine W.reg ?_
  refine Wx.alloc (cs := [(.slice none 0 0)]) hS Tryz.zeroValue23 rfl rfl (fun g_1 w_2 hx_4 hb_3 hS => ?_)
  have hS := hS.addNil (tI .i64) 3
  refine Wx.nil ?_
  refine W.seq ?_
  refine W.reg ?_
  refine Wx.rd (v := xv) (rd_move rfl) rfl ?_
  refine Wx.rd (v := .func (.func 70) #[] #[.pointer (some ⟨g_1, 0, none⟩)]) (rd_makeFunc (vs := []) (us := [.pointer (some ⟨g_1, 0, none⟩)]) rfl rfl) rfl ?_
  have hS := hS.front 1 rfl
  have hS := hS.front 1 rfl
  have hS : St _ _ w_2 [.row (tI .i64) 3 (.slice none 0 0) [], .box g_1 23 [(.slice none 0 0)]] := hS
  refine Wx.callB (run_callF Tryz.call15 rfl) (F15 (xs := xs) (ls := []) (Tl := (fun (ls : List (Int × Int)) ob => ∃ u, ob = [.row (tI .i64) 3 u (outV ls), .box g_1 23 [u]])) (ft := 70) (ct := [.pointer (some ⟨g_1, 0, none⟩)]) (ob := [.row (tI .i64) 3 (.slice none 0 0) [], .box g_1 23 [(.slice none 0 0)]]) (fun _ _ => Go.Proofs.enters_of Tryz.func70 (by kernel_rfl) rfl _ _) tellP ⟨_, rfl⟩ p_n (by decide) hS (hS.arg a_xv)) rfl ?_
  rintro r_5 w_6 ⟨rfl, _, ⟨u_7, rfl⟩, hS⟩
  have hS : St _ _ w_6 [.row (tI .i64) 3 u_7 (outV ([] ++ pasV xs)), .box g_1 23 [u_7]] := hS
  refine Wx.nil ?_
  refine W.seq ?_
  refine W.reg ?_
  refine Wx.rd (v := u_7) (rd_loadX hS 1 rfl rfl rfl Tryz.isAgg23) rfl ?_
  refine Wx.rd (v := u_7) (rd_assign rfl) rfl ?_
  refine Wx.nil ?_
  have e0_0 : outV (pasV xs) = outV ([] ++ pasV xs) := by rfl
  exact W.ret ⟨u_7, ResIs.one, hS.bel, ⟨u_7, rfl, (by rw [e0_0]; exact (hS.fr 0 rfl flat_int))⟩⟩

theorem F40 {n : Int} {hi : Int} {w : World} (i_n : InK .i64 n) (i_hi : InK .i64 hi) : Calls Tryz.prog 40 #[.int .i64 n, .int .i64 hi] w (Ret w (fun r _ => r = .bool (decide (0 ≤ n) && decide (n < hi)))) := by
  have b_hi := bd_i64 i_hi
  have b_n := bd_i64 i_n
  have hS := St.start0 w
  refine enterR Tryz.func40 rfl Tryz.ntmps40 Tryz.results40 rfl ?_
  refine W.seq ?_
  refine W.reg ?_
  refine Wx.rd (v := .bool false) (rd_assign rfl) rfl ?_
  refine Wx.nil ?_
  refine W.seq ?_
  refine W.reg ?_
  refine Wx.rd (v := .int .i64 n) (rd_move rfl) rfl ?_
  refine Wx.rd (v := .bool (decide (0 ≤ n))) (rd_leq rfl rfl) rfl ?_
  refine Wx.rd (v := .bool (decide (0 ≤ n))) (rd_move rfl) rfl ?_
  refine Wx.cut (X := Unit) 4 [8, 9, 10, 11] (fun _ => [(11, .bool (decide (0 ≤ n) && decide (n < hi)))]) (fun _ w' => St w [] w' []) ?_ ?_
  · rcases Bool.eq_false_or_eq_true (decide (0 ≤ n)) with g_1 | g_1
    · -- True
      have gp_2 := of_decide_eq_true g_1
      refine Wx.gyes rfl rfl (congrArg Value.bool g_1) ?_
      refine Wx.rd (v := .int .i64 n) (rd_move rfl) rfl ?_
      refine Wx.gyes rfl rfl (congrArg Value.bool g_1) ?_
      refine Wx.rd (v := .int .i64 hi) (rd_move rfl) rfl ?_
      refine Wx.gyes rfl rfl (congrArg Value.bool g_1) ?_
      refine Wx.rd (v := .bool (decide (n < hi))) (rd_lss rfl rfl) rfl ?_
      refine Wx.rd (v := .bool (decide (n < hi))) (rd_pickT (congrArg Value.bool g_1) rfl) rfl ?_
      refine Wx.nil ⟨(), hS, ⟨?_, trivial⟩, Out.look rfl Out.refl⟩
      show Value.bool (decide (n < hi)) = Value.bool (decide (0 ≤ n) && decide (n < hi))
      first | rw [g_1, Bool.true_and] | (rw [g_1]; rfl)
    · -- False
      have gp_3 := of_decide_eq_false g_1
      refine Wx.gnoB rfl rfl (congrArg Value.bool g_1) rfl rfl ?_
      refine Wx.gnoB rfl rfl (congrArg Value.bool g_1) rfl rfl ?_
      refine Wx.gnoB rfl rfl (congrArg Value.bool g_1) rfl rfl ?_
      refine Wx.rd (v := .bool false) (rd_pickF (congrArg Value.bool g_1) rfl) rfl ?_
      refine Wx.nil ⟨(), hS, ⟨?_, trivial⟩, Out.look rfl Out.refl⟩
      show Value.bool false = Value.bool (decide (0 ≤ n) && decide (n < hi))
      first | rw [g_1, Bool.false_and] | (rw [g_1]; rfl)
  rintro ⟨⟩ u_5 w_4 hS
  refine Wx.rd (v := .bool (decide (0 ≤ n) && decide (n < hi))) (rd_assign rfl) rfl ?_
  refine Wx.nil ?_
  exact W.ret ⟨.bool (decide (0 ≤ n) && decide (n < hi)), ResIs.one, hS.bel, rfl⟩

theorem F14 {xv : Value} {xs : List Int} {Fr_xv : List (Option Nat)} {w : World} (h_xv : V (tSl (tI .i64)) xs xv Fr_xv w) (p_ok : PmOK xs) : Calls Tryz.prog 14 #[xv] w (Ret w (fun r _ => r = .int .i64 0)) := by
  have hn := p_ok.n
  have a_xv := h_xv.any
  have l_xv := h_xv.len63
  have hS := St.start0 w
  refine enterR Tryz.func14 rfl Tryz.ntmps14 Tryz.results14 rfl ?_
  refine W.seq ?_
  refine W.reg ?_
  refine Wx.rd (v := .int .i64 0) (rd_assign rfl) rfl ?_
  refine Wx.nil ?_
  refine W.seq ?_
  refine W.seq ?_
  refine W.reg ?_
  refine Wx.rd (v := xv) (rd_move rfl) rfl ?_
  refine Wx.rd (v := .int .i64 (xs.length : Int)) (rd_lenV rfl (hS.arg a_xv) Tryz.underlying23) rfl ?_
  refine Wx.rd (v := .bool (decide ((xs.length : Int) = 0))) (rd_eql rfl rfl) rfl ?_
  refine Wx.rd (v := .bool (decide ((xs.length : Int) = 0))) (rd_move rfl) rfl ?_
  refine Wx.cut (X := Unit) 4 [10, 11, 12, 13] (fun _ => [(13, .bool (decide ((xs.length : Int) = 0) || decide (7 < (xs.length : Int))))]) (fun _ w' => St w [] w' []) ?_ ?_
  · rcases Bool.eq_false_or_eq_true (decide ((xs.length : Int) = 0)) with g_1 | g_1
    · -- True
      have gp_2 := of_decide_eq_true g_1
      refine Wx.gnoB rfl rfl (congrArg Value.bool g_1) rfl rfl ?_
      refine Wx.gnoB rfl rfl (congrArg Value.bool g_1) rfl rfl ?_
      refine Wx.gnoB rfl rfl (congrArg Value.bool g_1) rfl rfl ?_
      refine Wx.rd (v := .bool true) (rd_pickT (congrArg Value.bool g_1) rfl) rfl ?_
      refine Wx.nil ⟨(), hS, ⟨?_, trivial⟩, Out.look rfl Out.refl⟩
      show Value.bool true = Value.bool (decide ((xs.length : Int) = 0) || decide (7 < (xs.length : Int)))
      first | rw [g_1, Bool.true_or] | (rw [g_1]; rfl)
    · -- False
      have gp_3 := of_decide_eq_false g_1
      refine Wx.gyes rfl rfl (congrArg Value.bool g_1) ?_
      refine Wx.rd (v := xv) (rd_move rfl) rfl ?_
      refine Wx.gyes rfl rfl (congrArg Value.bool g_1) ?_
      refine Wx.rd (v := .int .i64 (xs.length : Int)) (rd_lenV rfl (hS.arg a_xv) Tryz.underlying23) rfl ?_
      refine Wx.gyes rfl rfl (congrArg Value.bool g_1) ?_
      refine Wx.rd (v := .bool (decide (7 < (xs.length : Int)))) (rd_gtr rfl rfl) rfl ?_
      refine Wx.rd (v := .bool (decide (7 < (xs.length : Int)))) (rd_pickF (congrArg Value.bool g_1) rfl) rfl ?_
      refine Wx.nil ⟨(), hS, ⟨?_, trivial⟩, Out.look rfl Out.refl⟩
      show Value.bool (decide (7 < (xs.length : Int))) = Value.bool (decide ((xs.length : Int) = 0) || decide (7 < (xs.length : Int)))
      first | rw [g_1, Bool.false_or] | (rw [g_1]; rfl)
  rintro ⟨⟩ u_5 w_4 hS
  refine Wx.nil ?_
  refine W.condF rfl (by rw [decide_eq_false (by omega), decide_eq_false (by omega)]; rfl) ?_
  refine W.skip ?_
  refine W.seq ?_
  refine W.reg ?_
  refine Wx.alloc (cs := List.map Value.bool (List.replicate 7 false)) hS Tryz.zeroValue97 (by kernel_rfl) rfl (fun g_6 w_7 hx_9 hb_8 hS => ?_)
  have hS : St _ _ w_7 [.box g_6 97 (List.map Value.bool (List.replicate 7 false))] := hS
  refine Wx.nil ?_
  refine W.seq ?_
  refine W.seq ?_
  refine W.reg ?_
  refine Wx.rd (v := xv) (rd_move rfl) rfl ?_
  refine Wx.rd (v := .int .i64 (xs.length : Int)) (rd_lenV rfl (hS.arg a_xv) Tryz.underlying23) rfl ?_
  refine Wx.rd (v := .int .i64 0) (rd_move rfl) rfl ?_
  refine Wx.nil ?_
  refine W.block ?_
  refine W.loop [2, 5, 16, 17, 18, 19, 20, 21, 22, 23, 24, 25, 26, 27, 28, 29, 30, 31, 32] (fun x : Int × (List Bool) => match x with | (k, met) => [(16, .int .i64 k)]) (fun (x : Int × (List Bool)) w' => match x with | (k, met) => St w [] w' [.box g_6 97 (List.map Value.bool met)] ∧ 0 ≤ k ∧ k ≤ xs.length ∧ PmI xs k met) (fun x : Int × (List Bool) => match x with | (k, met) => (xs.length - k).toNat) (0, (List.replicate 7 false)) ⟨rfl, trivial⟩ ⟨hS, (by first | omega | simp), (by first | omega | simp), (pm_start)⟩ ?_
  rintro ⟨k, met⟩ u_11 w_10 ⟨hS, h0, h1, h2⟩
  refine W.seq ?_
  refine W.reg ?_
  refine Wx.rd (v := .bool (decide (k < (xs.length : Int)))) (rd_lss rfl rfl) rfl ?_
  refine Wx.nil ?_
  refine W.seq ?_
  refine W.condD rfl (fun c1 => ?_) (fun c1 => ?_)
  · -- yes
    have hkx := p_ok.r _ (ix_inl h0 c1)
    have hfree := pm_free p_ok h2 h0 c1
    have hml := h2.1
    refine W.skip ?_
    refine W.seq ?_
    refine W.block ?_
    refine W.seq ?_
    refine W.reg ?_
    refine Wx.ex (rd_index 0 (hS.arg a_xv) rfl rfl Tryz.underlying23 Tryz.sizeOf3 (by first | omega | (simp only [List.length_set, List.length_append, List.length_cons, List.length_nil, List.length_replicate]; omega)) (by first | omega | (simp only [List.length_set, List.length_append, List.length_cons, List.length_nil, List.length_replicate]; omega))) rfl (fun p_12 hp_13 => ?_)
    refine Wx.rd (v := .int .i64 (ix 0 xs k)) (rd_loadI hp_13 rfl Tryz.isAgg3 Tryz.sizeOf3) rfl ?_
    have bd_14 := bd_i64 hp_13.inK
    refine Wx.rd (v := .int .i64 (ix 0 xs k)) (rd_assign rfl) rfl ?_
    refine Wx.nil ?_
    refine W.seq ?_
    refine W.block ?_
    refine W.seq ?_
    refine W.reg ?_
    refine Wx.rd (v := .int .i64 (ix 0 xs k)) (rd_move rfl) rfl ?_
    refine Wx.rd (v := xv) (rd_move rfl) rfl ?_
    refine Wx.rd (v := .int .i64 (xs.length : Int)) (rd_lenV rfl (hS.arg a_xv) Tryz.underlying23) rfl ?_
    refine Wx.callF (run_callF Tryz.call40 rfl) (F40 (in_i64 (by omega) (by omega)) (in_i64 (by omega) (by omega))) rfl ?_
    rintro r_15 w_16 hx_17 rfl
    have hS := hS.ext hx_17
    refine Wx.rd (v := .bool (!(decide (0 ≤ (ix 0 xs k)) && decide ((ix 0 xs k) < (xs.length : Int))))) (rd_not rfl) rfl ?_
    refine Wx.rd (v := .bool (!(decide (0 ≤ (ix 0 xs k)) && decide ((ix 0 xs k) < (xs.length : Int))))) (rd_assign rfl) rfl ?_
    refine Wx.nil ?_
    refine W.condF rfl (by simp; omega) ?_
    refine W.seq ?_
    refine W.reg ?_
    refine Wx.rd (v := .int .i64 (ix 0 xs k)) (rd_move rfl) rfl ?_
    refine Wx.rd (v := .pointer (some ⟨g_6, 0 + (ix 0 xs k).toNat * 1, none⟩)) (rd_indexArr rfl rfl Tryz.underlying97 Tryz.sizeOf4 (by omega) (by omega)) rfl ?_
    refine Wx.rd (v := .bool (ix false met (ix 0 xs k))) (rd_loadXa (d := false) (f := Value.bool) (j := (ix 0 xs k)) hS 0 rfl rfl (by omega) (by omega) (by omega) Tryz.isAgg4) rfl ?_
    refine Wx.rd (v := .bool (ix false met (ix 0 xs k))) (rd_assign rfl) rfl ?_
    refine Wx.nil ?_
    refine W.condF rfl hfree ?_
    refine W.skip ?_
    refine W.reg ?_
    refine Wx.rd (v := .int .i64 (ix 0 xs k)) (rd_move rfl) rfl ?_
    refine Wx.rd (v := .pointer (some ⟨g_6, 0 + (ix 0 xs k).toNat * 1, none⟩)) (rd_indexArr rfl rfl Tryz.underlying97 Tryz.sizeOf4 (by omega) (by omega)) rfl ?_
    refine Wx.storeXa (j := (ix 0 xs k)) (f := Value.bool) (u := true) hS 0 rfl rfl (by omega) rfl rfl rfl Tryz.sizeOf4 (by omega) (by omega) (fun w_18 hz_19 hS => ?_)
    refine Wx.nil ?_
    refine W.reg ?_
    refine Wx.rd (v := .int .i64 (k + 1)) (rd_add rfl rfl (in_i64 (by omega) (by omega))) rfl ?_
    refine Wx.rd (v := .int .i64 (k + 1)) (rd_move rfl) rfl ?_
    refine Wx.nil ?_
    refine ⟨(k + 1, List.set met (ix 0 xs k).toNat true), (by show (xs.length - (k + 1)).toNat < (xs.length - k).toNat; omega), ?_, ?_, Out.look rfl Out.self⟩
    · exact ⟨hS, (by first | omega | assumption), (by first | omega | assumption), (pm_next p_ok h2 h0 c1)⟩
    · exact ⟨rfl, trivial⟩
  · -- no
    refine W.exit rfl ?_
    refine W.seq ?_
    refine W.reg ?_
    refine Wx.rd (v := .int .i64 0) (rd_assign rfl) rfl ?_
    refine Wx.nil ?_
    exact W.ret ⟨.int .i64 0, ResIs.one, hS.bel, rfl⟩

theorem F36 {xv : Value} {xs : List Int} {O : List (Option Nat)} {w : World} (h_xv : V (tSl (tI .i64)) xs xv O w) (p_ok : PmOK xs) (hO : ∀ b, some b ∈ O → b < w.heap.size) : Calls Tryz.prog 36 #[xv] w (Ret w (fun r w' => ∃ rv, r = .tuple #[rv, .int .i64 0] ∧ Fresh (tI .i64) 3 (outV (pasV xs)) rv w.heap.size w')) := by
  have a_xv := h_xv
  have l_xv := h_xv.len63
  have hS := St.start w O hO
  refine enterR Tryz.func36 rfl Tryz.ntmps36 Tryz.results36 rfl ?_
  refine W.seq ?_
  refine W.reg ?_
  refine Wx.rd (v := (.slice none 0 0)) (rd_assign rfl) rfl ?_
  refine Wx.rd (v := .int .i64 0) (rd_assign rfl) rfl ?_
  refine Wx.nil ?_
  refine W.seq ?_
  refine W.seq ?_
  refine W.reg ?_
  refine Wx.rd (v := xv) (rd_move rfl) rfl ?_
  refine Wx.callF (run_callF Tryz.call14 rfl) (F14 (hS.arg a_xv) p_ok) rfl ?_
  rintro r_1 w_2 hx_3 rfl
  have hS := hS.ext hx_3
  refine Wx.rd (v := .int .i64 0) (rd_assign rfl) rfl ?_
  refine Wx.nil ?_
  refine W.seq ?_
  refine W.reg ?_
  refine Wx.rd (v := .int .i64 0) (rd_move rfl) rfl ?_
  refine Wx.rd (v := .bool false) (Rd.to (v := .bool (decide ((0 : Int) ≠ 0))) (rd_neq rfl rfl) rfl) rfl ?_
  refine Wx.nil ?_
  refine W.condF rfl rfl ?_
  refine W.skip ?_
  refine W.seq ?_
  refine W.reg ?_
  refine Wx.rd (v := xv) (rd_move rfl) rfl ?_
  refine Wx.callF (run_callF Tryz.call53 rfl) (F53 (hS.arg a_xv) p_ok hS.fb_lt) rfl ?_
  rintro r_4 w_5 hx_6 ⟨_, rfl, hv_7⟩
  have hS := hS.pushFr hx_6 hv_7
  refine Wx.rd (v := r_4) (rd_assign rfl) rfl ?_
  refine Wx.rd (v := .int .i64 0) (rd_assign rfl) rfl ?_
  refine Wx.nil ?_
  exact W.ret ⟨.tuple #[r_4, .int .i64 0], ResIs.two, hS.bel, ⟨r_4, rfl, (hS.fr 0 rfl flat_int)⟩⟩
end Go.Proofs.YtodcppoglpfodaaGreatDoor

namespace Go.Proofs.YtodcppoglpfodaaGreatDoor
open Go.Wk Go.RowKit Go.Lib
set_option linter.unusedVariables false
set_option linter.unusedSimpArgs false
theorem elVf_23 : ElemI Tryz.prog 23 3 (.int .i64 0) 1 8 := ElemI.of Tryz.underlying23 (by kernel_rfl) (by first | rfl | kernel_rfl) (by decide)

set_option maxHeartbeats 2000000 in
theorem F13  {w : World} (hG : Laid w) : Calls Tryz.prog 13 #[] w (Ret w (fun r _ => r = .bool true)) := by
  have hS := St.start0 w
  refine enterR Tryz.func13 rfl Tryz.ntmps13 Tryz.results13 rfl ?_
  refine W.seq ?_
  refine W.reg ?_
  refine Wx.rd (v := .bool false) (rd_assign rfl) rfl ?_
  refine Wx.nil ?_
  refine W.seq ?_
  refine W.reg ?_
  refine Wx.lit (t := (tI .i64)) (ys := [1, 2, 0]) (vs := [.int .i64 1, .int .i64 2, .int .i64 0]) elVf_23 hS rfl rfl ⟨(V.mkInt (in_i64 (by omega) (by omega))), ⟨(V.mkInt (in_i64 (by omega) (by omega))), ⟨(V.mkInt (in_i64 (by omega) (by omega))), trivial⟩⟩⟩ (by decide) rfl (fun v_1 w_2 hx_3 hS => ?_)
  have hS := hS.freeze 0 rfl
  refine Wx.callF (run_callF Tryz.call37 rfl) (F37 (hS.v 0 rfl) hS.fb_lt) rfl ?_
  rintro r_5 w_6 hx_7 ⟨_, rfl, hv_8⟩
  have ln_10 := hv_8.len63
  have hS := hS.ext hx_7
  have hS := hS.add hv_8
  refine Wx.callF (run_callF Tryz.call36 rfl) (F36 (hS.v 0 rfl) pm_120 hS.fb_lt) rfl ?_
  rintro r_11 w_12 hx_13 ⟨v_14, rfl, hv_15⟩
  have hS := hS.pushFr hx_13 hv_15
  refine Wx.rd (v := .tuple #[v_14, .int .i64 0]) (rd_move rfl) rfl ?_
  refine Wx.rd (v := v_14) (rd_extract rfl rfl) rfl ?_
  refine Wx.rd (v := .int .i64 0) (rd_extract rfl rfl) rfl ?_
  refine Wx.rd (v := v_14) (rd_assign rfl) rfl ?_
  refine Wx.rd (v := .int .i64 0) (rd_assign rfl) rfl ?_
  refine Wx.nil ?_
  refine W.seq ?_
  refine W.reg ?_
  refine Wx.rd (v := .int .i64 0) (rd_move rfl) rfl ?_
  refine Wx.rd (v := .bool true) (Rd.to (v := .bool (decide ((0 : Int) = 0))) (rd_eql rfl rfl) rfl) rfl ?_
  refine Wx.rd (v := .bool true) (rd_move rfl) rfl ?_
  refine Wx.gyes rfl rfl rfl ?_
  refine Wx.rd (v := v_14) (rd_move rfl) rfl ?_
  refine Wx.gyes rfl rfl rfl ?_
  refine Wx.lit (t := (tI .i64)) (ys := [1, 0, 2]) (vs := [.int .i64 1, .int .i64 0, .int .i64 2]) elVf_23 hS rfl rfl ⟨(V.mkInt (in_i64 (by omega) (by omega))), ⟨(V.mkInt (in_i64 (by omega) (by omega))), ⟨(V.mkInt (in_i64 (by omega) (by omega))), trivial⟩⟩⟩ (by decide) rfl (fun v_17 w_18 hx_19 hS => ?_)
  refine Wx.gyes rfl rfl rfl ?_
  have hS := hS.freeze 0 rfl
  refine Wx.callF (run_callF Tryz.call37 rfl) (F37 (hS.v 0 rfl) hS.fb_lt) rfl ?_
  rintro r_21 w_22 hx_23 ⟨_, rfl, hv_24⟩
  have ln_26 := hv_24.len63
  have hS := hS.ext hx_23
  have hS := hS.add hv_24
  refine Wx.gyes rfl rfl rfl ?_
  refine Wx.callF (run_callF Tryz.call38 rfl) (F38 (hS.lend 2 rfl) (hS.v 0 rfl)) rfl ?_
  rintro r_27 w_28 hx_29 rfl
  have hS := hS.ext hx_29
  rw [show (decide ((outV (pasV [1, 2, 0])) = [1, 0, 2]) : Bool) = true from (by decide +kernel)]
  refine Wx.rd (v := .bool true) (rd_pickT rfl rfl) rfl ?_
  refine Wx.rd (v := .bool true) (rd_move rfl) rfl ?_
  refine Wx.gyes rfl rfl rfl ?_
  refine Wx.callF (run_callF Tryz.call39 rfl) (F39 (hG.ext hS.bel)) rfl ?_
  rintro r_30 w_31 hx_32 rfl
  have hS := hS.ext hx_32
  refine Wx.rd (v := .bool true) (rd_pickT rfl rfl) rfl ?_
  refine Wx.rd (v := .bool true) (rd_assign rfl) rfl ?_
  refine Wx.nil ?_
  exact W.ret ⟨.bool true, ResIs.one, hS.bel, rfl⟩
end Go.Proofs.YtodcppoglpfodaaGreatDoor
