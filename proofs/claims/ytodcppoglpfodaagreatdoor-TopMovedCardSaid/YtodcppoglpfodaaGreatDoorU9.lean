/-
  WHAT IS PROVED HERE, TEXT BY TEXT (several texts of one prover, joined to one file; the conditions stand in each statement):
  * WHAT IS PROVED HERE: what functions hand back, each out of its own code; the conditions stand in each statement.
  * WHAT IS PROVED HERE: what functions hand back, each out of its own code; the conditions stand in each statement.
  * WHAT IS PROVED HERE: what functions hand back, each out of its own code; the conditions stand in each statement.
  * WHAT IS PROVED HERE: what functions hand back, each out of its own code; the conditions stand in each statement.
  * WHAT IS PROVED HERE: what functions hand back, each out of its own code; the conditions stand in each statement.
  * WHAT IS PROVED HERE: what functions hand back, each out of its own code; the conditions stand in each statement.
  * WHAT IS PROVED HERE: what functions hand back, each out of its own code; the conditions stand in each statement.
  * WHAT IS PROVED HERE: what the Once does at its first call: two calls are deferred. Conditions stand in the statement.
  * WHAT IS PROVED HERE: what functions hand back, each out of its own code; the conditions stand in each statement.
  * WHAT IS PROVED HERE: what functions hand back, each out of its own code; the conditions stand in each statement.
  * WHAT IS PROVED HERE: what functions hand back, each out of its own code; the conditions stand in each statement.
  * WHAT IS PROVED HERE: what functions hand back, each out of its own code; the conditions stand in each statement.
  * WHAT IS PROVED HERE: a strings.Builder as objects of the call's own (its bytes a row, itself a variable): what every write checks first; its string. From the shelf's contracts.
  * WHAT IS PROVED HERE: what functions hand back, each out of its own code; the conditions stand in each statement.
  * WHAT IS PROVED HERE: what functions hand back, each out of its own code; the conditions stand in each statement.
  * WHAT IS PROVED HERE: what functions hand back, each out of its own code; the conditions stand in each statement.
-/
import Derived.Test.YtodcppoglpfodaaGreatDoorProg
import Derived.Test.YtodcppoglpfodaaGreatDoorU2
import Derived.Test.YtodcppoglpfodaaGreatDoorU8
import Derived.Tactics
import Derived.Tactics2
import Derived.Defers
import Derived.Laws.Pointers
import Derived.Laws.Tables

set_option linter.unusedVariables false
set_option linter.unusedSimpArgs false

namespace Go.Proofs.YtodcppoglpfodaaGreatDoor
open Go.Wk Go.RowKit Go.Lib
set_option linter.unusedVariables false
set_option linter.unusedSimpArgs false


theorem C5.F10 {rim : ByteArray} {w : World} (s_rim : rim.size ≤ maxLen) (hG : Laid w) : Calls Tryz.prog 10 #[.string rim] w (Ret w (fun r _ => r = .tuple #[.bool (fullP rim), .int .i64 (rimE rim)])) := by
  have hS := St.start0 w
  refine enterR Tryz.func10 rfl Tryz.ntmps10 Tryz.results10 rfl ?_
  refine W.seq ?_
  refine W.reg ?_
  refine Wx.rd (v := .bool false) (rd_assign rfl) rfl ?_
  refine Wx.rd (v := .int .i64 0) (rd_assign rfl) rfl ?_
  refine Wx.nil ?_
  refine W.seq ?_
  refine W.reg ?_
  refine Wx.rd (v := .string rim) (rd_move rfl) rfl ?_
  refine Wx.callF (run_callF Tryz.call31 rfl) (C5.F31 (by first | assumption | (simp only [maxLen]; omega) | (simp only [ByteArray.size_extract, ByteArray.size_append, maxLen] at *; omega) | decide) (hG.ext hS.bel)) rfl ?_
  rintro r_1 w_2 hx_3 rfl
  have hS := hS.ext hx_3
  refine Wx.rd (v := .tuple #[.string (restE rim), .int .i64 (rimE rim)]) (rd_move rfl) rfl ?_
  refine Wx.rd (v := .string (restE rim)) (rd_extract rfl rfl) rfl ?_
  refine Wx.rd (v := .int .i64 (rimE rim)) (rd_extract rfl rfl) rfl ?_
  refine Wx.rd (v := .string (restE rim)) (rd_assign rfl) rfl ?_
  refine Wx.rd (v := .int .i64 (rimE rim)) (rd_assign rfl) rfl ?_
  refine Wx.nil ?_
  refine W.seq ?_
  refine W.reg ?_
  refine Wx.rd (v := .int .i64 (rimE rim)) (rd_move rfl) rfl ?_
  refine Wx.rd (v := .bool (decide ((rimE rim) = 0))) (rd_eql rfl rfl) rfl ?_
  refine Wx.rd (v := .bool (decide ((rimE rim) = 0))) (rd_move rfl) rfl ?_
  refine Wx.cut (X := Unit) 3 [14, 15, 16] (fun _ => [(16, .bool (decide ((rimE rim) = 0) && (restE rim) == ({ data := #[] } : ByteArray)))]) (fun _ w' => St w [] w' []) ?_ ?_
  · rcases Bool.eq_false_or_eq_true (decide ((rimE rim) = 0)) with g_4 | g_4
    · -- True
      have gp_5 := of_decide_eq_true g_4
      refine Wx.gyes rfl rfl (congrArg Value.bool g_4) ?_
      refine Wx.rd (v := .string (restE rim)) (rd_move rfl) rfl ?_
      refine Wx.gyes rfl rfl (congrArg Value.bool g_4) ?_
      refine Wx.rd (v := .bool ((restE rim) == ({ data := #[] } : ByteArray))) (rd_eqlS rfl rfl) rfl ?_
      refine Wx.rd (v := .bool ((restE rim) == ({ data := #[] } : ByteArray))) (rd_pickT (congrArg Value.bool g_4) rfl) rfl ?_
      refine Wx.nil ⟨(), hS, ⟨?_, trivial⟩, Out.look rfl Out.refl⟩
      show Value.bool ((restE rim) == ({ data := #[] } : ByteArray)) = Value.bool (decide ((rimE rim) = 0) && (restE rim) == ({ data := #[] } : ByteArray))
      first | rw [g_4, Bool.true_and] | (rw [g_4]; rfl)
    · -- False
      have gp_6 := of_decide_eq_false g_4
      refine Wx.gnoB rfl rfl (congrArg Value.bool g_4) rfl rfl ?_
      refine Wx.gnoB rfl rfl (congrArg Value.bool g_4) rfl rfl ?_
      refine Wx.rd (v := .bool false) (rd_pickF (congrArg Value.bool g_4) rfl) rfl ?_
      refine Wx.nil ⟨(), hS, ⟨?_, trivial⟩, Out.look rfl Out.refl⟩
      show Value.bool false = Value.bool (decide ((rimE rim) = 0) && (restE rim) == ({ data := #[] } : ByteArray))
      first | rw [g_4, Bool.false_and] | (rw [g_4]; rfl)
  rintro ⟨⟩ u_8 w_7 hS
  refine Wx.rd (v := .int .i64 (rimE rim)) (rd_move rfl) rfl ?_
  refine Wx.rd (v := .bool (decide ((rimE rim) = 0) && (restE rim) == ({ data := #[] } : ByteArray))) (rd_assign rfl) rfl ?_
  refine Wx.rd (v := .int .i64 (rimE rim)) (rd_assign rfl) rfl ?_
  refine Wx.nil ?_
  have e0_0 : (fullP rim) = (decide ((rimE rim) = 0) && (restE rim) == ({ data := #[] } : ByteArray)) := by rw [fullP, restE]; by_cases h : rimE rim = 0; (rw [if_pos h]; rfl); (rw [decide_eq_false h]; rfl)
  exact W.ret ⟨.tuple #[.bool (decide ((rimE rim) = 0) && (restE rim) == ({ data := #[] } : ByteArray)), .int .i64 (rimE rim)], ResIs.two, hS.bel, (by rw [e0_0])⟩
end Go.Proofs.YtodcppoglpfodaaGreatDoor

namespace Go.Proofs.YtodcppoglpfodaaGreatDoor
open Go.Wk Go.RowKit Go.Lib
set_option linter.unusedVariables false
set_option linter.unusedSimpArgs false
theorem mixedHe_ : Tryz.prog.follows .mixedOrders = true := by kernel_rfl

theorem C5.F12 {rim : ByteArray} {lv : Value} {l : List (Int × Int)} {Fr_lv : List (Option Nat)} {w : World} (s_rim : rim.size ≤ maxLen) (h_lv : V (tSl (tP (tI .i64) (tI .i64))) l lv Fr_lv w) (hG : Laid w) : Calls Tryz.prog 12 #[.string rim, lv] w (Ret w (fun r _ => r = .int .i64 (validE rim l))) := by
  have a_lv := h_lv.any
  have l_lv := h_lv.len63
  have hS := St.start0 w
  refine enterR Tryz.func12 rfl Tryz.ntmps12 Tryz.results12 rfl ?_
  refine W.seq ?_
  refine W.reg ?_
  refine Wx.rd (v := .int .i64 0) (rd_assign rfl) rfl ?_
  refine Wx.nil ?_
  refine W.seq ?_
  refine W.seq ?_
  refine W.reg ?_
  refine Wx.rd (v := .string rim) (rd_move rfl) rfl ?_
  refine Wx.callF (run_callF Tryz.call32 rfl) (C5.F32 (by first | assumption | (simp only [maxLen]; omega) | (simp only [ByteArray.size_extract, ByteArray.size_append, maxLen] at *; omega) | decide)) rfl ?_
  rintro r_1 w_2 hx_3 rfl
  have hS := hS.ext hx_3
  refine Wx.rd (v := .int .i64 (rimE rim)) (rd_assign rfl) rfl ?_
  refine Wx.nil ?_
  refine W.seq ?_
  refine W.reg ?_
  refine Wx.rd (v := .int .i64 (rimE rim)) (rd_move rfl) rfl ?_
  refine Wx.rd (v := .bool (decide ((rimE rim) ≠ 0))) (rd_neq rfl rfl) rfl ?_
  refine Wx.nil ?_
  refine W.condD rfl (fun c0 => ?_) (fun c0 => ?_)
  · -- yes
    refine W.seq ?_
    refine W.reg ?_
    refine Wx.rd (v := .int .i64 (rimE rim)) (rd_move rfl) rfl ?_
    refine Wx.rd (v := .int .i64 (rimE rim)) (rd_assign rfl) rfl ?_
    refine Wx.nil ?_
    have e0_0 : (validE rim l) = (rimE rim : Int) := by exact if_neg c0
    exact W.ret ⟨.int .i64 (rimE rim), ResIs.one, hS.bel, (by rw [e0_0])⟩
  · -- no
    have hr0 : rimE rim = 0 := by omega
    obtain ⟨hr1, hr2⟩ := rimE_ok hr0
    refine W.skip ?_
    refine W.seq ?_
    refine W.reg ?_
    refine Wx.alloc (cs := List.map (Value.int .i64) (List.replicate 12 0)) hS Tryz.zeroValue92 rfl rfl (fun g_4 w_5 hx_7 hb_6 hS => ?_)
    have hS : St _ _ w_5 [.box g_4 92 (List.map (Value.int .i64) (List.replicate 12 0))] := hS
    refine Wx.nil ?_
    refine W.seq ?_
    refine W.reg ?_
    refine Wx.rd (v := .int .i64 (-1)) (rd_assign rfl) rfl ?_
    refine Wx.nil ?_
    refine W.seq ?_
    refine W.seq ?_
    refine W.reg ?_
    refine Wx.rd (v := lv) (rd_move rfl) rfl ?_
    refine Wx.rd (v := .int .i64 (l.length : Int)) (rd_lenV rfl (hS.arg a_lv) Tryz.underlying36) rfl ?_
    refine Wx.rd (v := .int .i64 0) (rd_move rfl) rfl ?_
    refine Wx.nil ?_
    refine W.block ?_
    refine W.loop [4, 7, 9, 10, 11, 12, 20, 21, 22, 23, 24, 25, 26, 27, 28, 29, 30, 31, 32, 33, 34, 35, 36, 37, 38, 39, 40, 41, 42, 43, 44, 45, 46, 47, 48, 49, 50, 51, 52, 53, 54, 55, 56, 57, 58, 59, 60, 61, 62, 63, 64, 65, 66, 67, 68, 69, 70, 71, 72, 73, 74, 75, 76, 77, 78, 79, 80, 81, 82, 83, 84, 85, 86, 87, 88, 89, 90, 91, 92, 93, 94, 95, 96, 97, 98, 99, 100, 101] (fun x : Int × Int × (List Int) => match x with | (last, k, tb) => [(7, .int .i64 last), (20, .int .i64 k)]) (fun (x : Int × Int × (List Int)) w' => match x with | (last, k, tb) => St w [] w' [.box g_4 92 (List.map (Value.int .i64) tb)] ∧ 0 ≤ k ∧ k ≤ l.length ∧ validT rim (l.take k.toNat) (l.drop k.toNat) = validT rim [] l ∧ ToOK (l.take k.toNat) tb ∧ last = lastI (l.take k.toNat)) (fun x : Int × Int × (List Int) => match x with | (last, k, tb) => (l.length - k).toNat) (-1, 0, List.replicate 12 0) ⟨rfl, rfl, trivial⟩ ⟨hS, (by first | omega | simp), (by first | omega | simp), (by simp), (ToOK.nil), (rfl)⟩ ?_
    rintro ⟨last, k, tb⟩ u_9 w_8 ⟨hS, h0, h1, h2, h3, h4⟩
    have hl12 := h3.len
    refine W.seq ?_
    refine W.reg ?_
    refine Wx.rd (v := .bool (decide (k < (l.length : Int)))) (rd_lss rfl rfl) rfl ?_
    refine Wx.nil ?_
    refine W.seq ?_
    refine W.condD rfl (fun c1 => ?_) (fun c1 => ?_)
    · -- yes
      refine W.skip ?_
      refine W.seq ?_
      refine W.block ?_
      refine W.seq ?_
      refine W.reg ?_
      refine Wx.ex (rd_index (0, 0) (hS.arg a_lv) rfl rfl Tryz.underlying36 Tryz.sizeOf38 (by first | omega | (simp only [List.length_set, List.length_append, List.length_cons, List.length_nil, List.length_replicate]; omega)) (by first | omega | (simp only [List.length_set, List.length_append, List.length_cons, List.length_nil, List.length_replicate]; omega))) rfl (fun p_10 hp_11 => ?_)
      refine Wx.ex (rd_load hp_11 rfl Tryz.isAgg38 Tryz.sizeOf38) rfl (fun v_12 hv_13 => ?_)
      obtain ⟨rfl, bd_14, bd_15⟩ := hv_13.i2
      have bd_14 := bd_i64 bd_14
      have bd_15 := bd_i64 bd_15
      refine Wx.alloc (cs := [.int .i64 0, .int .i64 0]) hS Tryz.zeroValue38 rfl rfl (fun g_16 w_17 hx_19 hb_18 hS => ?_)
      refine Wx.storeX (cs' := [.int .i64 ((ix (0, 0) l k).1), .int .i64 ((ix (0, 0) l k).2)]) (ds := [.int .i64 ((ix (0, 0) l k).1), .int .i64 ((ix (0, 0) l k).2)]) hS 0 rfl rfl rfl rfl Tryz.sizeOf38 (Nat.le_of_ble_eq_true rfl) (one_cons rfl (one_cons rfl one_nil)) rfl (fun w_20 hz_21 hS => ?_)
      refine Wx.nil ?_
      refine W.seq ?_
      refine W.regQ mixedHe_ (by kernel_rfl) ?_
      refine Wx.rd (v := .pointer (some ⟨g_16, 0, none⟩)) (rd_indexArr (n := 0) rfl rfl Tryz.underlying38 Tryz.sizeOf3 (by decide) (by decide)) rfl ?_
      refine Wx.rd (v := .int .i64 ((ix (0, 0) l k).1)) (rd_loadX hS 0 rfl rfl rfl Tryz.isAgg3) rfl ?_
      refine Wx.rd (v := .pointer (some ⟨g_16, 1, none⟩)) (rd_indexArr (n := 1) rfl rfl Tryz.underlying38 Tryz.sizeOf3 (by decide) (by decide)) rfl ?_
      refine Wx.rd (v := .int .i64 ((ix (0, 0) l k).2)) (rd_loadX hS 0 rfl rfl rfl Tryz.isAgg3) rfl ?_
      refine Wx.rd (v := .int .i64 ((ix (0, 0) l k).1)) (rd_assign rfl) rfl ?_
      refine Wx.rd (v := .int .i64 ((ix (0, 0) l k).2)) (rd_assign rfl) rfl ?_
      refine Wx.nilQ (fun w_22 hx_23 => ?_)
      have hS := hS.ext hx_23
      refine W.seq ?_
      refine W.block ?_
      refine W.seq ?_
      refine W.reg ?_
      refine Wx.rd (v := .int .i64 ((ix (0, 0) l k).1)) (rd_move rfl) rfl ?_
      refine Wx.rd (v := .int .i64 ((ix (0, 0) l k).2)) (rd_move rfl) rfl ?_
      refine Wx.rd (v := .int .i64 (min ((ix (0, 0) l k).1) ((ix (0, 0) l k).2))) (rd_min rfl rfl) rfl ?_
      refine Wx.rd (v := .bool (decide ((min ((ix (0, 0) l k).1) ((ix (0, 0) l k).2)) < 0))) (rd_lss rfl rfl) rfl ?_
      refine Wx.rd (v := .bool (decide ((min ((ix (0, 0) l k).1) ((ix (0, 0) l k).2)) < 0))) (rd_move rfl) rfl ?_
      refine Wx.cut (X := Unit) 7 [34, 35, 36, 37, 38, 39, 40] (fun _ => [(40, .bool (decide ((min ((ix (0, 0) l k).1) ((ix (0, 0) l k).2)) < 0) || decide ((rim.size : Int) ≤ (max ((ix (0, 0) l k).1) ((ix (0, 0) l k).2)))))]) (fun _ w' => St w [] w' [.box g_16 38 [.int .i64 ((ix (0, 0) l k).1), .int .i64 ((ix (0, 0) l k).2)], .box g_4 92 (List.map (Value.int .i64) tb)]) ?_ ?_
      · rcases Bool.eq_false_or_eq_true (decide ((min ((ix (0, 0) l k).1) ((ix (0, 0) l k).2)) < 0)) with g_24 | g_24
        · -- True
          have gp_25 := of_decide_eq_true g_24
          refine Wx.gnoB rfl rfl (congrArg Value.bool g_24) rfl rfl ?_
          refine Wx.gnoB rfl rfl (congrArg Value.bool g_24) rfl rfl ?_
          refine Wx.gnoB rfl rfl (congrArg Value.bool g_24) rfl rfl ?_
          refine Wx.gnoB rfl rfl (congrArg Value.bool g_24) rfl rfl ?_
          refine Wx.gnoB rfl rfl (congrArg Value.bool g_24) rfl rfl ?_
          refine Wx.gnoB rfl rfl (congrArg Value.bool g_24) rfl rfl ?_
          refine Wx.rd (v := .bool true) (rd_pickT (congrArg Value.bool g_24) rfl) rfl ?_
          refine Wx.nil ⟨(), hS, ⟨?_, trivial⟩, Out.look rfl Out.refl⟩
          show Value.bool true = Value.bool (decide ((min ((ix (0, 0) l k).1) ((ix (0, 0) l k).2)) < 0) || decide ((rim.size : Int) ≤ (max ((ix (0, 0) l k).1) ((ix (0, 0) l k).2))))
          first | rw [g_24, Bool.true_or] | (rw [g_24]; rfl)
        · -- False
          have gp_26 := of_decide_eq_false g_24
          refine Wx.gyes rfl rfl (congrArg Value.bool g_24) ?_
          refine Wx.rd (v := .int .i64 ((ix (0, 0) l k).1)) (rd_move rfl) rfl ?_
          refine Wx.gyes rfl rfl (congrArg Value.bool g_24) ?_
          refine Wx.rd (v := .int .i64 ((ix (0, 0) l k).2)) (rd_move rfl) rfl ?_
          refine Wx.gyes rfl rfl (congrArg Value.bool g_24) ?_
          refine Wx.rd (v := .int .i64 (max ((ix (0, 0) l k).1) ((ix (0, 0) l k).2))) (rd_max rfl rfl) rfl ?_
          refine Wx.gyes rfl rfl (congrArg Value.bool g_24) ?_
          refine Wx.rd (v := .string rim) (rd_move rfl) rfl ?_
          refine Wx.gyes rfl rfl (congrArg Value.bool g_24) ?_
          refine Wx.rd (v := .int .i64 (rim.size : Int)) (rd_lenS rfl Tryz.underlying9) rfl ?_
          refine Wx.gyes rfl rfl (congrArg Value.bool g_24) ?_
          refine Wx.rd (v := .bool (decide ((rim.size : Int) ≤ (max ((ix (0, 0) l k).1) ((ix (0, 0) l k).2))))) (rd_geq rfl rfl) rfl ?_
          refine Wx.rd (v := .bool (decide ((rim.size : Int) ≤ (max ((ix (0, 0) l k).1) ((ix (0, 0) l k).2))))) (rd_pickF (congrArg Value.bool g_24) rfl) rfl ?_
          refine Wx.nil ⟨(), hS, ⟨?_, trivial⟩, Out.look rfl Out.refl⟩
          show Value.bool (decide ((rim.size : Int) ≤ (max ((ix (0, 0) l k).1) ((ix (0, 0) l k).2)))) = Value.bool (decide ((min ((ix (0, 0) l k).1) ((ix (0, 0) l k).2)) < 0) || decide ((rim.size : Int) ≤ (max ((ix (0, 0) l k).1) ((ix (0, 0) l k).2))))
          first | rw [g_24, Bool.false_or] | (rw [g_24]; rfl)
      rintro ⟨⟩ u_28 w_27 hS
      refine Wx.rd (v := .bool (decide ((min ((ix (0, 0) l k).1) ((ix (0, 0) l k).2)) < 0) || decide ((rim.size : Int) ≤ (max ((ix (0, 0) l k).1) ((ix (0, 0) l k).2))))) (rd_assign rfl) rfl ?_
      refine Wx.nil ?_
      refine W.cond rfl (fun c2 => ?_) (fun c2 => ?_)
      · -- yes
        try simp only [Bool.and_eq_true, Bool.or_eq_true, Bool.not_eq_true', Bool.and_eq_false_iff, Bool.or_eq_false_iff, Bool.not_eq_false', decide_eq_true_eq, decide_eq_false_iff_not, not_or, Bool.false_eq_true, Bool.true_eq_false, false_or, or_false, not_false_eq_true] at c2
        refine W.seq ?_
        refine W.reg ?_
        refine Wx.rd (v := .int .i64 2) (rd_assign rfl) rfl ?_
        refine Wx.nil ?_
        have e1_0 : (validE rim l) = (2 : Int) := by exact validT_bad h0 c1 h2 (badX_none (by omega)) (by decide) hr0
        exact W.ret ⟨.int .i64 2, ResIs.one, hS.bel, (by rw [e1_0])⟩
      · -- no
        try simp only [Bool.and_eq_true, Bool.or_eq_true, Bool.not_eq_true', Bool.and_eq_false_iff, Bool.or_eq_false_iff, Bool.not_eq_false', decide_eq_true_eq, decide_eq_false_iff_not, not_or, Bool.false_eq_true, Bool.true_eq_false, false_or, or_false, not_false_eq_true] at c2
        refine W.seq ?_
        refine W.reg ?_
        refine Wx.rd (v := .int .i64 ((ix (0, 0) l k).1)) (rd_move rfl) rfl ?_
        refine Wx.rd (v := .int .i64 ((ix (0, 0) l k).2)) (rd_move rfl) rfl ?_
        refine Wx.rd (v := .bool (decide (((ix (0, 0) l k).2) ≤ ((ix (0, 0) l k).1)))) (rd_geq rfl rfl) rfl ?_
        refine Wx.rd (v := .bool (decide (((ix (0, 0) l k).2) ≤ ((ix (0, 0) l k).1)))) (rd_assign rfl) rfl ?_
        refine Wx.nil ?_
        refine W.condD rfl (fun c3 => ?_) (fun c3 => ?_)
        · -- yes
          refine W.seq ?_
          refine W.reg ?_
          refine Wx.rd (v := .int .i64 7) (rd_assign rfl) rfl ?_
          refine Wx.nil ?_
          have e2_0 : (validE rim l) = (7 : Int) := by exact validT_bad h0 c1 h2 (badX_order ⟨by omega, by omega⟩ c3) (by decide) hr0
          exact W.ret ⟨.int .i64 7, ResIs.one, hS.bel, (by rw [e2_0])⟩
        · -- no
          have hx0 : 0 ≤ (ix (0, 0) l k).1 ∧ (ix (0, 0) l k).1 ≤ 11 ∧ 0 ≤ (ix (0, 0) l k).2 ∧ (ix (0, 0) l k).2 ≤ 11 := ⟨by omega, by omega, by omega, by omega⟩
          have hb1 := h3.bd (ix (0, 0) l k).1 (by omega) (by omega)
          have hb2 := h3.bd (ix (0, 0) l k).2 (by omega) (by omega)
          have hu1 := h3.used (q := (ix (0, 0) l k).1) (by omega) (by omega)
          have hu2 := h3.used (q := (ix (0, 0) l k).2) (by omega) (by omega)
          have hv1 := h3.free (q := (ix (0, 0) l k).1) (by omega) (by omega)
          have hv2 := h3.free (q := (ix (0, 0) l k).2) (by omega) (by omega)
          refine W.seq ?_
          refine W.reg ?_
          refine Wx.rd (v := .int .i64 ((ix (0, 0) l k).1)) (rd_move rfl) rfl ?_
          refine Wx.rd (v := .pointer (some ⟨g_4, 0 + ((ix (0, 0) l k).1).toNat * 1, none⟩)) (rd_indexArr rfl rfl Tryz.underlying92 Tryz.sizeOf3 (by omega) (by omega)) rfl ?_
          refine Wx.rd (v := .int .i64 (ix 0 tb ((ix (0, 0) l k).1))) (rd_loadXa (d := 0) (f := (Value.int .i64)) (j := ((ix (0, 0) l k).1)) hS 1 rfl rfl (by omega) (by omega) (by omega) Tryz.isAgg3) rfl ?_
          refine Wx.rd (v := .bool (decide (0 < (ix 0 tb ((ix (0, 0) l k).1))))) (rd_gtr rfl rfl) rfl ?_
          refine Wx.rd (v := .bool (decide (0 < (ix 0 tb ((ix (0, 0) l k).1))))) (rd_move rfl) rfl ?_
          refine Wx.cut (X := Unit) 5 [51, 52, 53, 54, 55] (fun _ => [(55, .bool (decide (0 < (ix 0 tb ((ix (0, 0) l k).1))) || decide (0 < (ix 0 tb ((ix (0, 0) l k).2)))))]) (fun _ w' => St w [] w' [.box g_16 38 [.int .i64 ((ix (0, 0) l k).1), .int .i64 ((ix (0, 0) l k).2)], .box g_4 92 (List.map (Value.int .i64) tb)]) ?_ ?_
          · rcases Bool.eq_false_or_eq_true (decide (0 < (ix 0 tb ((ix (0, 0) l k).1)))) with g_29 | g_29
            · -- True
              have gp_30 := of_decide_eq_true g_29
              refine Wx.gnoB rfl rfl (congrArg Value.bool g_29) rfl rfl ?_
              refine Wx.gnoB rfl rfl (congrArg Value.bool g_29) rfl rfl ?_
              refine Wx.gnoB rfl rfl (congrArg Value.bool g_29) rfl rfl ?_
              refine Wx.gnoB rfl rfl (congrArg Value.bool g_29) rfl rfl ?_
              refine Wx.rd (v := .bool true) (rd_pickT (congrArg Value.bool g_29) rfl) rfl ?_
              refine Wx.nil ⟨(), hS, ⟨?_, trivial⟩, Out.look rfl Out.refl⟩
              show Value.bool true = Value.bool (decide (0 < (ix 0 tb ((ix (0, 0) l k).1))) || decide (0 < (ix 0 tb ((ix (0, 0) l k).2))))
              first | rw [g_29, Bool.true_or] | (rw [g_29]; rfl)
            · -- False
              have gp_31 := of_decide_eq_false g_29
              refine Wx.gyes rfl rfl (congrArg Value.bool g_29) ?_
              refine Wx.rd (v := .int .i64 ((ix (0, 0) l k).2)) (rd_move rfl) rfl ?_
              refine Wx.gyes rfl rfl (congrArg Value.bool g_29) ?_
              refine Wx.rd (v := .pointer (some ⟨g_4, 0 + ((ix (0, 0) l k).2).toNat * 1, none⟩)) (rd_indexArr rfl rfl Tryz.underlying92 Tryz.sizeOf3 (by omega) (by omega)) rfl ?_
              refine Wx.gyes rfl rfl (congrArg Value.bool g_29) ?_
              refine Wx.rd (v := .int .i64 (ix 0 tb ((ix (0, 0) l k).2))) (rd_loadXa (d := 0) (f := (Value.int .i64)) (j := ((ix (0, 0) l k).2)) hS 1 rfl rfl (by omega) (by omega) (by omega) Tryz.isAgg3) rfl ?_
              refine Wx.gyes rfl rfl (congrArg Value.bool g_29) ?_
              refine Wx.rd (v := .bool (decide (0 < (ix 0 tb ((ix (0, 0) l k).2))))) (rd_gtr rfl rfl) rfl ?_
              refine Wx.rd (v := .bool (decide (0 < (ix 0 tb ((ix (0, 0) l k).2))))) (rd_pickF (congrArg Value.bool g_29) rfl) rfl ?_
              refine Wx.nil ⟨(), hS, ⟨?_, trivial⟩, Out.look rfl Out.refl⟩
              show Value.bool (decide (0 < (ix 0 tb ((ix (0, 0) l k).2)))) = Value.bool (decide (0 < (ix 0 tb ((ix (0, 0) l k).1))) || decide (0 < (ix 0 tb ((ix (0, 0) l k).2))))
              first | rw [g_29, Bool.false_or] | (rw [g_29]; rfl)
          rintro ⟨⟩ u_33 w_32 hS
          refine Wx.rd (v := .bool (decide (0 < (ix 0 tb ((ix (0, 0) l k).1))) || decide (0 < (ix 0 tb ((ix (0, 0) l k).2))))) (rd_assign rfl) rfl ?_
          refine Wx.nil ?_
          refine W.cond rfl (fun c4 => ?_) (fun c4 => ?_)
          · -- yes
            try simp only [Bool.and_eq_true, Bool.or_eq_true, Bool.not_eq_true', Bool.and_eq_false_iff, Bool.or_eq_false_iff, Bool.not_eq_false', decide_eq_true_eq, decide_eq_false_iff_not, not_or, Bool.false_eq_true, Bool.true_eq_false, false_or, or_false, not_false_eq_true] at c4
            refine W.seq ?_
            refine W.reg ?_
            refine Wx.rd (v := .int .i64 6) (rd_assign rfl) rfl ?_
            refine Wx.nil ?_
            have e3_0 : (validE rim l) = (6 : Int) := by exact validT_bad h0 c1 h2 (badX_twice ⟨by omega, by omega⟩ (by omega) (c4.imp hu1.1 hu2.1)) (by decide) hr0
            exact W.ret ⟨.int .i64 6, ResIs.one, hS.bel, (by rw [e3_0])⟩
          · -- no
            try simp only [Bool.and_eq_true, Bool.or_eq_true, Bool.not_eq_true', Bool.and_eq_false_iff, Bool.or_eq_false_iff, Bool.not_eq_false', decide_eq_true_eq, decide_eq_false_iff_not, not_or, Bool.false_eq_true, Bool.true_eq_false, false_or, or_false, not_false_eq_true] at c4
            refine W.seq ?_
            refine W.reg ?_
            refine Wx.rd (v := .string rim) (rd_move rfl) rfl ?_
            refine Wx.rd (v := .int .i64 ((ix (0, 0) l k).1)) (rd_move rfl) rfl ?_
            refine Wx.rd (v := .int .i64 ((ix (0, 0) l k).2)) (rd_move rfl) rfl ?_
            refine Wx.callF (run_callF Tryz.call35 rfl) (C5.F35 (by first | assumption | (simp only [maxLen]; omega) | (simp only [ByteArray.size_extract, ByteArray.size_append, maxLen] at *; omega) | decide) (in_i64 (by omega) (by omega)) (in_i64 (by omega) (by omega)) (by omega) (by omega) (by omega) (by omega) (by omega) (hG.ext hS.bel)) rfl ?_
            rintro r_34 w_35 hx_36 rfl
            have hS := hS.ext hx_36
            refine Wx.rd (v := .bool (!(fitR rim ((ix (0, 0) l k).1) ((ix (0, 0) l k).2)))) (rd_not rfl) rfl ?_
            refine Wx.rd (v := .bool (!(fitR rim ((ix (0, 0) l k).1) ((ix (0, 0) l k).2)))) (rd_assign rfl) rfl ?_
            refine Wx.nil ?_
            refine W.cond rfl (fun c5 => ?_) (fun c5 => ?_)
            · -- yes
              try simp only [Bool.and_eq_true, Bool.or_eq_true, Bool.not_eq_true', Bool.and_eq_false_iff, Bool.or_eq_false_iff, Bool.not_eq_false', decide_eq_true_eq, decide_eq_false_iff_not, not_or, Bool.false_eq_true, Bool.true_eq_false, false_or, or_false, not_false_eq_true] at c5
              refine W.seq ?_
              refine W.reg ?_
              refine Wx.rd (v := .int .i64 13) (rd_assign rfl) rfl ?_
              refine Wx.nil ?_
              have e4_0 : (validE rim l) = (13 : Int) := by exact validT_bad h0 c1 h2 (badX_clash ⟨by omega, by omega⟩ (by omega) (hv1.2 c4.1) (hv2.2 c4.2) c5) (by decide) hr0
              exact W.ret ⟨.int .i64 13, ResIs.one, hS.bel, (by rw [e4_0])⟩
            · -- no
              try simp only [Bool.and_eq_true, Bool.or_eq_true, Bool.not_eq_true', Bool.and_eq_false_iff, Bool.or_eq_false_iff, Bool.not_eq_false', decide_eq_true_eq, decide_eq_false_iff_not, not_or, Bool.false_eq_true, Bool.true_eq_false, false_or, or_false, not_false_eq_true] at c5
              refine W.skip ?_
              refine W.seq ?_
              refine W.seq ?_
              refine W.reg ?_
              refine Wx.rd (v := .int .i64 ((ix (0, 0) l k).1)) (rd_move rfl) rfl ?_
              refine Wx.rd (v := .int .i64 (((ix (0, 0) l k).1) + 1)) (rd_add rfl rfl (in_i64 (by omega) (by omega))) rfl ?_
              refine Wx.rd (v := .int .i64 (((ix (0, 0) l k).1) + 1)) (rd_assign rfl) rfl ?_
              refine Wx.nil ?_
              refine W.block ?_
              refine W.loop [4, 12, 64, 65, 66, 67, 68, 69, 70, 71, 72, 73, 74, 75, 76, 77, 78, 79, 80, 81, 82, 83, 84, 85, 86, 87, 88] (fun (q : Int) => [(12, .int .i64 q)]) (fun (q : Int) w' => St w [] w' [.box g_16 38 [.int .i64 ((ix (0, 0) l k).1), .int .i64 ((ix (0, 0) l k).2)], .box g_4 92 (List.map (Value.int .i64) tb)] ∧ (ix (0, 0) l k).1 < q ∧ q ≤ (ix (0, 0) l k).2 ∧ (∀ r, (ix (0, 0) l k).1 < r → r < q → ¬ badQ tb (ix (0, 0) l k).1 (ix (0, 0) l k).2 r)) (fun (q : Int) => ((ix (0, 0) l k).2 - q).toNat) (((ix (0, 0) l k).1) + 1) ⟨rfl, trivial⟩ ⟨hS, (by first | omega | simp), (by first | omega | simp), (fun r r1 r2 => by omega)⟩ ?_
              rintro q u_38 w_37 ⟨hS, g0, g1, g2⟩
              refine W.seq ?_
              refine W.seq ?_
              refine W.reg ?_
              refine Wx.rd (v := .int .i64 q) (rd_move rfl) rfl ?_
              refine Wx.rd (v := .int .i64 ((ix (0, 0) l k).2)) (rd_move rfl) rfl ?_
              refine Wx.rd (v := .bool (decide (q < ((ix (0, 0) l k).2)))) (rd_lss rfl rfl) rfl ?_
              refine Wx.nil ?_
              refine W.condD rfl (fun c6 => ?_) (fun c6 => ?_)
              · -- yes
                have hbq := h3.bd q (by omega) (by omega)
                refine W.skip ?_
                refine W.seq ?_
                refine W.block ?_
                refine W.seq ?_
                refine W.reg ?_
                refine Wx.rd (v := .int .i64 q) (rd_move rfl) rfl ?_
                refine Wx.rd (v := .pointer (some ⟨g_4, 0 + q.toNat * 1, none⟩)) (rd_indexArr rfl rfl Tryz.underlying92 Tryz.sizeOf3 (by omega) (by omega)) rfl ?_
                refine Wx.rd (v := .int .i64 (ix 0 tb q)) (rd_loadXa (d := 0) (f := (Value.int .i64)) (j := q) hS 1 rfl rfl (by omega) (by omega) (by omega) Tryz.isAgg3) rfl ?_
                refine Wx.rd (v := .bool (decide (0 < (ix 0 tb q)))) (rd_gtr rfl rfl) rfl ?_
                refine Wx.rd (v := .bool (decide (0 < (ix 0 tb q)))) (rd_move rfl) rfl ?_
                refine Wx.cut (X := Unit) 15 [74, 75, 76, 77, 78, 79, 80, 81, 82, 83, 84, 85, 86, 87, 88] (fun _ => [(88, .bool (decide (0 < (ix 0 tb q)) && (decide (((ix 0 tb q) - 1) < ((ix (0, 0) l k).1)) || decide (((ix (0, 0) l k).2) < ((ix 0 tb q) - 1)))))]) (fun _ w' => St w [] w' [.box g_16 38 [.int .i64 ((ix (0, 0) l k).1), .int .i64 ((ix (0, 0) l k).2)], .box g_4 92 (List.map (Value.int .i64) tb)]) ?_ ?_
                · rcases Bool.eq_false_or_eq_true (decide (0 < (ix 0 tb q))) with g_39 | g_39
                  · -- True
                    have gp_40 := of_decide_eq_true g_39
                    refine Wx.gyes rfl rfl (congrArg Value.bool g_39) ?_
                    refine Wx.rd (v := .int .i64 q) (rd_move rfl) rfl ?_
                    refine Wx.gyes rfl rfl (congrArg Value.bool g_39) ?_
                    refine Wx.rd (v := .pointer (some ⟨g_4, 0 + q.toNat * 1, none⟩)) (rd_indexArr rfl rfl Tryz.underlying92 Tryz.sizeOf3 (by omega) (by omega)) rfl ?_
                    refine Wx.gyes rfl rfl (congrArg Value.bool g_39) ?_
                    refine Wx.rd (v := .int .i64 (ix 0 tb q)) (rd_loadXa (d := 0) (f := (Value.int .i64)) (j := q) hS 1 rfl rfl (by omega) (by omega) (by omega) Tryz.isAgg3) rfl ?_
                    refine Wx.gyes rfl rfl (congrArg Value.bool g_39) ?_
                    refine Wx.rd (v := .int .i64 ((ix 0 tb q) - 1)) (rd_sub rfl rfl (in_i64 (by omega) (by omega))) rfl ?_
                    refine Wx.gyes rfl rfl (congrArg Value.bool g_39) ?_
                    refine Wx.rd (v := .int .i64 ((ix (0, 0) l k).1)) (rd_move rfl) rfl ?_
                    refine Wx.gyes rfl rfl (congrArg Value.bool g_39) ?_
                    refine Wx.rd (v := .bool (decide (((ix 0 tb q) - 1) < ((ix (0, 0) l k).1)))) (rd_lss rfl rfl) rfl ?_
                    refine Wx.gyes rfl rfl (congrArg Value.bool g_39) ?_
                    refine Wx.rd (v := .bool (decide (((ix 0 tb q) - 1) < ((ix (0, 0) l k).1)))) (rd_move rfl) rfl ?_
                    refine Wx.cut (X := Unit) 7 [81, 82, 83, 84, 85, 86, 87] (fun _ => [(87, .bool (decide (((ix 0 tb q) - 1) < ((ix (0, 0) l k).1)) || decide (((ix (0, 0) l k).2) < ((ix 0 tb q) - 1))))]) (fun _ w' => St w [] w' [.box g_16 38 [.int .i64 ((ix (0, 0) l k).1), .int .i64 ((ix (0, 0) l k).2)], .box g_4 92 (List.map (Value.int .i64) tb)]) ?_ ?_
                    · rcases Bool.eq_false_or_eq_true (decide (((ix 0 tb q) - 1) < ((ix (0, 0) l k).1))) with g_41 | g_41
                      · -- True
                        have gp_42 := of_decide_eq_true g_41
                        refine Wx.gnoB rfl rfl (congrArg Value.bool g_41) rfl rfl ?_
                        refine Wx.gnoB rfl rfl (congrArg Value.bool g_41) rfl rfl ?_
                        refine Wx.gnoB rfl rfl (congrArg Value.bool g_41) rfl rfl ?_
                        refine Wx.gnoB rfl rfl (congrArg Value.bool g_41) rfl rfl ?_
                        refine Wx.gnoB rfl rfl (congrArg Value.bool g_41) rfl rfl ?_
                        refine Wx.gnoB rfl rfl (congrArg Value.bool g_41) rfl rfl ?_
                        refine Wx.gyes rfl rfl (congrArg Value.bool g_39) ?_
                        refine Wx.rd (v := .bool true) (rd_pickT (congrArg Value.bool g_41) rfl) rfl ?_
                        refine Wx.nil ⟨(), hS, ⟨?_, trivial⟩, Out.look rfl Out.refl⟩
                        show Value.bool true = Value.bool (decide (((ix 0 tb q) - 1) < ((ix (0, 0) l k).1)) || decide (((ix (0, 0) l k).2) < ((ix 0 tb q) - 1)))
                        first | rw [g_41, Bool.true_or] | (rw [g_41]; rfl)
                      · -- False
                        have gp_43 := of_decide_eq_false g_41
                        refine Wx.gyes rfl rfl (congrArg Value.bool g_41) ?_
                        refine Wx.rd (v := .int .i64 q) (rd_move rfl) rfl ?_
                        refine Wx.gyes rfl rfl (congrArg Value.bool g_41) ?_
                        refine Wx.rd (v := .pointer (some ⟨g_4, 0 + q.toNat * 1, none⟩)) (rd_indexArr rfl rfl Tryz.underlying92 Tryz.sizeOf3 (by omega) (by omega)) rfl ?_
                        refine Wx.gyes rfl rfl (congrArg Value.bool g_41) ?_
                        refine Wx.rd (v := .int .i64 (ix 0 tb q)) (rd_loadXa (d := 0) (f := (Value.int .i64)) (j := q) hS 1 rfl rfl (by omega) (by omega) (by omega) Tryz.isAgg3) rfl ?_
                        refine Wx.gyes rfl rfl (congrArg Value.bool g_41) ?_
                        refine Wx.rd (v := .int .i64 ((ix 0 tb q) - 1)) (rd_sub rfl rfl (in_i64 (by omega) (by omega))) rfl ?_
                        refine Wx.gyes rfl rfl (congrArg Value.bool g_41) ?_
                        refine Wx.rd (v := .int .i64 ((ix (0, 0) l k).2)) (rd_move rfl) rfl ?_
                        refine Wx.gyes rfl rfl (congrArg Value.bool g_41) ?_
                        refine Wx.rd (v := .bool (decide (((ix (0, 0) l k).2) < ((ix 0 tb q) - 1)))) (rd_gtr rfl rfl) rfl ?_
                        refine Wx.gyes rfl rfl (congrArg Value.bool g_39) ?_
                        refine Wx.rd (v := .bool (decide (((ix (0, 0) l k).2) < ((ix 0 tb q) - 1)))) (rd_pickF (congrArg Value.bool g_41) rfl) rfl ?_
                        refine Wx.nil ⟨(), hS, ⟨?_, trivial⟩, Out.look rfl Out.refl⟩
                        show Value.bool (decide (((ix (0, 0) l k).2) < ((ix 0 tb q) - 1))) = Value.bool (decide (((ix 0 tb q) - 1) < ((ix (0, 0) l k).1)) || decide (((ix (0, 0) l k).2) < ((ix 0 tb q) - 1)))
                        first | rw [g_41, Bool.false_or] | (rw [g_41]; rfl)
                    rintro ⟨⟩ u_45 w_44 hS
                    refine Wx.rd (v := .bool (decide (((ix 0 tb q) - 1) < ((ix (0, 0) l k).1)) || decide (((ix (0, 0) l k).2) < ((ix 0 tb q) - 1)))) (rd_pickT (congrArg Value.bool g_39) rfl) rfl ?_
                    refine Wx.nil ⟨(), hS, ⟨?_, trivial⟩, Out.look rfl (Out.hav rfl (Out.look rfl Out.refl))⟩
                    show Value.bool (decide (((ix 0 tb q) - 1) < ((ix (0, 0) l k).1)) || decide (((ix (0, 0) l k).2) < ((ix 0 tb q) - 1))) = Value.bool (decide (0 < (ix 0 tb q)) && (decide (((ix 0 tb q) - 1) < ((ix (0, 0) l k).1)) || decide (((ix (0, 0) l k).2) < ((ix 0 tb q) - 1))))
                    first | rw [g_39, Bool.true_and] | (rw [g_39]; rfl)
                  · -- False
                    have gp_46 := of_decide_eq_false g_39
                    refine Wx.gnoB rfl rfl (congrArg Value.bool g_39) rfl rfl ?_
                    refine Wx.gnoB rfl rfl (congrArg Value.bool g_39) rfl rfl ?_
                    refine Wx.gnoB rfl rfl (congrArg Value.bool g_39) rfl rfl ?_
                    refine Wx.gnoB rfl rfl (congrArg Value.bool g_39) rfl rfl ?_
                    refine Wx.gnoB rfl rfl (congrArg Value.bool g_39) rfl rfl ?_
                    refine Wx.gnoB rfl rfl (congrArg Value.bool g_39) rfl rfl ?_
                    refine Wx.gnoB rfl rfl (congrArg Value.bool g_39) rfl rfl ?_
                    refine Wx.gno rfl rfl rfl rfl ?_
                    refine Wx.gno rfl rfl rfl rfl ?_
                    refine Wx.gno rfl rfl rfl rfl ?_
                    refine Wx.gno rfl rfl rfl rfl ?_
                    refine Wx.gno rfl rfl rfl rfl ?_
                    refine Wx.gno rfl rfl rfl rfl ?_
                    refine Wx.gnoB rfl rfl (congrArg Value.bool g_39) rfl rfl ?_
                    refine Wx.rd (v := .bool false) (rd_pickF (congrArg Value.bool g_39) rfl) rfl ?_
                    refine Wx.nil ⟨(), hS, ⟨?_, trivial⟩, Out.look rfl Out.refl⟩
                    show Value.bool false = Value.bool (decide (0 < (ix 0 tb q)) && (decide (((ix 0 tb q) - 1) < ((ix (0, 0) l k).1)) || decide (((ix (0, 0) l k).2) < ((ix 0 tb q) - 1))))
                    first | rw [g_39, Bool.false_and] | (rw [g_39]; rfl)
                rintro ⟨⟩ u_48 w_47 hS
                refine Wx.nil ?_
                refine W.cond rfl (fun c7 => ?_) (fun c7 => ?_)
                · -- yes
                  try simp only [Bool.and_eq_true, Bool.or_eq_true, Bool.not_eq_true', Bool.and_eq_false_iff, Bool.or_eq_false_iff, Bool.not_eq_false', decide_eq_true_eq, decide_eq_false_iff_not, not_or, Bool.false_eq_true, Bool.true_eq_false, false_or, or_false, not_false_eq_true] at c7
                  refine W.seq ?_
                  refine W.reg ?_
                  refine Wx.rd (v := .int .i64 5) (rd_assign rfl) rfl ?_
                  refine Wx.nil ?_
                  have e5_0 : (validE rim l) = (5 : Int) := by exact validT_bad h0 c1 h2 (badX_shape ⟨by omega, by omega⟩ (by omega) (hv1.2 c4.1) (hv2.2 c4.2) c5 (h3.cross (i := (ix (0, 0) l k).1) (j := (ix (0, 0) l k).2) (by omega) (by omega) c6 (by omega) c7)) (by decide) hr0
                  exact W.ret ⟨.int .i64 5, ResIs.one, hS.bel, (by rw [e5_0])⟩
                · -- no
                  try simp only [Bool.and_eq_true, Bool.or_eq_true, Bool.not_eq_true', Bool.and_eq_false_iff, Bool.or_eq_false_iff, Bool.not_eq_false', decide_eq_true_eq, decide_eq_false_iff_not, not_or, Bool.false_eq_true, Bool.true_eq_false, false_or, or_false, not_false_eq_true] at c7
                  refine W.skip ?_
                  refine W.reg ?_
                  refine Wx.rd (v := .int .i64 q) (rd_move rfl) rfl ?_
                  refine Wx.rd (v := .int .i64 (q + 1)) (rd_add rfl rfl (in_i64 (by omega) (by omega))) rfl ?_
                  refine Wx.rd (v := .int .i64 (q + 1)) (rd_assign rfl) rfl ?_
                  refine Wx.nil ?_
                  refine ⟨q + 1, (by show ((ix (0, 0) l k).2 - (q + 1)).toNat < ((ix (0, 0) l k).2 - q).toNat; omega), ?_, ?_, Out.look rfl (Out.hav rfl (Out.look rfl Out.self))⟩
                  · exact ⟨hS, (by first | omega | assumption), (by first | omega | assumption), (fun r r1 r2 => by by_cases hq : r = q; (subst hq; exact fun hb => by have := hb.1; have := hb.2; omega); exact g2 r r1 (by omega))⟩
                  · exact ⟨rfl, trivial⟩
              · -- no
                have hap := h3.apart (i := (ix (0, 0) l k).1) (j := (ix (0, 0) l k).2) (by omega) (by omega) (by omega) (hv1.2 c4.1) (hv2.2 c4.2) (fun r r1 r2 => g2 r r1 (by omega))
                refine W.exit rfl ?_
                refine W.seq ?_
                refine W.seq ?_
                refine W.reg ?_
                refine Wx.rd (v := .int .i64 ((ix (0, 0) l k).1)) (rd_move rfl) rfl ?_
                refine Wx.rd (v := .int .i64 last) (rd_move rfl) rfl ?_
                refine Wx.rd (v := .bool (decide (((ix (0, 0) l k).1) < last))) (rd_lss rfl rfl) rfl ?_
                refine Wx.nil ?_
                refine W.condD rfl (fun c8 => ?_) (fun c8 => ?_)
                · -- yes
                  refine W.seq ?_
                  refine W.reg ?_
                  refine Wx.rd (v := .int .i64 7) (rd_assign rfl) rfl ?_
                  refine Wx.nil ?_
                  have e6_0 : (validE rim l) = (7 : Int) := by exact validT_bad h0 c1 h2 (badX_late ⟨by omega, by omega⟩ (by omega) (hv1.2 c4.1) (hv2.2 c4.2) c5 hap (by omega)) (by decide) hr0
                  exact W.ret ⟨.int .i64 7, ResIs.one, hS.bel, (by rw [e6_0])⟩
                · -- no
                  refine W.skip ?_
                  refine W.reg ?_
                  refine Wx.rd (v := .int .i64 ((ix (0, 0) l k).1)) (rd_move rfl) rfl ?_
                  refine Wx.rd (v := .int .i64 ((ix (0, 0) l k).2)) (rd_move rfl) rfl ?_
                  refine Wx.rd (v := .int .i64 ((ix (0, 0) l k).2)) (rd_move rfl) rfl ?_
                  refine Wx.rd (v := .int .i64 (((ix (0, 0) l k).2) + 1)) (rd_add rfl rfl (in_i64 (by omega) (by omega))) rfl ?_
                  refine Wx.rd (v := .int .i64 ((ix (0, 0) l k).1)) (rd_move rfl) rfl ?_
                  refine Wx.rd (v := .int .i64 (((ix (0, 0) l k).1) + 1)) (rd_add rfl rfl (in_i64 (by omega) (by omega))) rfl ?_
                  refine Wx.rd (v := .int .i64 ((ix (0, 0) l k).1)) (rd_move rfl) rfl ?_
                  refine Wx.rd (v := .pointer (some ⟨g_4, 0 + ((ix (0, 0) l k).1).toNat * 1, none⟩)) (rd_indexArr rfl rfl Tryz.underlying92 Tryz.sizeOf3 (by omega) (by omega)) rfl ?_
                  refine Wx.storeXa (j := ((ix (0, 0) l k).1)) (f := (Value.int .i64)) (u := (((ix (0, 0) l k).2) + 1)) hS 1 rfl rfl (by omega) rfl rfl rfl Tryz.sizeOf3 (by omega) (by omega) (fun w_49 hz_50 hS => ?_)
                  refine Wx.rd (v := .pointer (some ⟨g_4, 0 + ((ix (0, 0) l k).2).toNat * 1, none⟩)) (rd_indexArr rfl rfl Tryz.underlying92 Tryz.sizeOf3 (by omega) (by omega)) rfl ?_
                  refine Wx.storeXa (j := ((ix (0, 0) l k).2)) (f := (Value.int .i64)) (u := (((ix (0, 0) l k).1) + 1)) hS 1 rfl rfl (by omega) rfl rfl rfl Tryz.sizeOf3 (by omega) (by rw [List.length_set]; omega) (fun w_51 hz_52 hS => ?_)
                  refine Wx.rd (v := .int .i64 ((ix (0, 0) l k).1)) (rd_assign rfl) rfl ?_
                  refine Wx.nil ?_
                  refine W.reg ?_
                  refine Wx.rd (v := .int .i64 (k + 1)) (rd_add rfl rfl (in_i64 (by omega) (by omega))) rfl ?_
                  refine Wx.rd (v := .int .i64 (k + 1)) (rd_move rfl) rfl ?_
                  refine Wx.nil ?_
                  refine ⟨((ix (0, 0) l k).1, k + 1, List.set (List.set tb ((ix (0, 0) l k).1).toNat (((ix (0, 0) l k).2) + 1)) ((ix (0, 0) l k).2).toNat (((ix (0, 0) l k).1) + 1)), (by show (l.length - (k + 1)).toNat < (l.length - k).toNat; omega), ?_, ?_, Out.look rfl (Out.hav rfl (Out.look rfl (Out.hav rfl (Out.look rfl (Out.hav rfl (Out.look rfl Out.self))))))⟩
                  · exact ⟨hS.tl, (by first | omega | assumption), (by first | omega | assumption), (validT_good h0 c1 h2 (badX_good ⟨by omega, by omega⟩ (by omega) (hv1.2 c4.1) (hv2.2 c4.2) c5 hap (by omega))), (by rw [take_ix (d := (0, 0)) h0 c1]; exact h3.push (i := (ix (0, 0) l k).1) (j := (ix (0, 0) l k).2) (by omega) (by omega) (by omega) (hv1.2 c4.1) (hv2.2 c4.2)), ((lastI_next h0 c1).symm)⟩
                  · exact ⟨rfl, rfl, trivial⟩
    · -- no
      refine W.exit rfl ?_
      refine W.seq ?_
      refine W.reg ?_
      refine Wx.rd (v := .int .i64 0) (rd_assign rfl) rfl ?_
      refine Wx.nil ?_
      have e7_0 : (validE rim l) = (0 : Int) := by exact validT_end (by omega) h2 hr0
      exact W.ret ⟨.int .i64 0, ResIs.one, hS.bel, (by rw [e7_0])⟩
end Go.Proofs.YtodcppoglpfodaaGreatDoor

namespace Go.Proofs.YtodcppoglpfodaaGreatDoor
open Go.Wk Go.RowKit Go.Lib
set_option linter.unusedVariables false
set_option linter.unusedSimpArgs false
theorem mixedHf_ : Tryz.prog.follows .mixedOrders = true := by kernel_rfl
theorem foHf_110_1 : fldOff Tryz.prog 110 1 = some 1 := by kernel_rfl
theorem foHf_88_0 : fldOff Tryz.prog 88 0 = some 0 := by kernel_rfl
theorem foHf_88_1 : fldOff Tryz.prog 88 1 = some 1 := by kernel_rfl
theorem foHf_110_0 : fldOff Tryz.prog 110 0 = some 0 := by kernel_rfl
theorem ftHf_88_0 : fldTy Tryz.prog 88 0 = some (3, 0) := by kernel_rfl

theorem C5.F51 {g : Nat} {s : ByteArray} {T : Go.Wk.Tab} {i : Int} {j : Int} {n : Int} {w : World} (x_g : w.heap[g]? = some (.cells (tabC s T).toArray 110 (0, 0))) (i_i : InK .i64 i) (i_j : InK .i64 j) (i_n : InK .i64 n) (p_T : TabB T) (p_i : 0 ≤ i) (p_i2 : i < 12) (p_j : 0 ≤ j) (p_j2 : j < 12) (p_n : 0 ≤ n) (p_n2 : n ≤ 12) : Calls Tryz.prog 51 #[.pointer (some ⟨g, 0, none⟩), .int .i64 i, .int .i64 j, .int .i64 n] w (Ret w (fun r _ => r = .agg #[.int .i64 ((T (i + 1) j).1 + (T (j + 1) n).1 + 1), .int .i64 ((T (i + 1) j).2 * (T (j + 1) n).2)])) := by
  have b_n := bd_i64 i_n
  have b_j := bd_i64 i_j
  have b_i := bd_i64 i_i
  have hm := p_T.mul i j n
  have hS := St.start0 w
  refine enterR Tryz.func51 rfl Tryz.ntmps51 Tryz.results51 rfl ?_
  refine W.seq ?_
  refine W.reg ?_
  refine Wx.alloc (cs := [.int .i64 0, .int .i64 0]) hS Tryz.zeroValue88 rfl rfl (fun g_1 w_2 hx_4 hb_3 hS => ?_)
  refine Wx.nil ?_
  refine W.seq ?_
  refine W.regH mixedHf_ (fun w_5 hx_6 => ?_)
  have h0 := hS
  have hS := (St.start _ _ h0.fb_lt).ext hx_6
  refine Wh.rd (v := .pointer (some ⟨g, 0, none⟩)) 0 rfl (by kernel_rfl) hS.bel (rd_move rfl) rfl ?_
  refine Wh.rd (v := .int .i64 i) 1 rfl (by kernel_rfl) hS.bel (rd_move rfl) rfl ?_
  refine Wh.rd (v := .int .i64 (i + 1)) 2 rfl (by kernel_rfl) hS.bel (rd_add rfl rfl (in_i64 (by omega) (by omega))) rfl ?_
  refine Wh.rd (v := .int .i64 j) 3 rfl (by kernel_rfl) hS.bel (rd_move rfl) rfl ?_
  refine Wh.rd (v := .pointer (some ⟨g, 0, none⟩)) 4 rfl (by kernel_rfl) hS.bel (rd_nilCheck rfl rfl) rfl ?_
  refine Wh.rd (v := .pointer (some ⟨g, 1, none⟩)) 5 rfl (by kernel_rfl) hS.bel (rd_fieldAddr (o := 0) rfl foHf_110_1) rfl ?_
  refine Wh.rd (v := .pointer (some ⟨g, 1 + (i + 1).toNat * 26, none⟩)) 6 rfl (by kernel_rfl) hS.bel (rd_indexArr (o := 1) rfl rfl Tryz.underlying108 Tryz.sizeOf107 (by omega) (by omega)) rfl ?_
  refine Wh.rd (v := .pointer (some ⟨g, 1 + (i + 1).toNat * 26 + j.toNat * 2, none⟩)) 7 rfl (by kernel_rfl) hS.bel (rd_indexArr (o := 1 + (i + 1).toNat * 26) rfl rfl Tryz.underlying107 Tryz.sizeOf88 (by omega) (by omega)) rfl ?_
  refine Wh.rd (v := .agg #[.int .i64 ((T (i + 1) j).1), .int .i64 ((T (i + 1) j).2)]) 8 rfl (by kernel_rfl) hS.bel (rd_tabP (fun _ q => extAt x_g (Ext.trans h0.bel q)) rfl (by omega) (by omega) (by omega) (by omega) Tryz.isAgg88 Tryz.sizeOf88) rfl ?_
  have bt_7 := p_T (i + 1) j
  refine Wh.rd (v := .pointer (some ⟨g, 0, none⟩)) 9 rfl (by kernel_rfl) hS.bel (rd_move rfl) rfl ?_
  refine Wh.rd (v := .int .i64 j) 10 rfl (by kernel_rfl) hS.bel (rd_move rfl) rfl ?_
  refine Wh.rd (v := .int .i64 (j + 1)) 11 rfl (by kernel_rfl) hS.bel (rd_add rfl rfl (in_i64 (by omega) (by omega))) rfl ?_
  refine Wh.rd (v := .int .i64 n) 12 rfl (by kernel_rfl) hS.bel (rd_move rfl) rfl ?_
  refine Wh.rd (v := .pointer (some ⟨g, 0, none⟩)) 13 rfl (by kernel_rfl) hS.bel (rd_nilCheck rfl rfl) rfl ?_
  refine Wh.rd (v := .pointer (some ⟨g, 1, none⟩)) 14 rfl (by kernel_rfl) hS.bel (rd_fieldAddr (o := 0) rfl foHf_110_1) rfl ?_
  refine Wh.rd (v := .pointer (some ⟨g, 1 + (j + 1).toNat * 26, none⟩)) 15 rfl (by kernel_rfl) hS.bel (rd_indexArr (o := 1) rfl rfl Tryz.underlying108 Tryz.sizeOf107 (by omega) (by omega)) rfl ?_
  refine Wh.rd (v := .pointer (some ⟨g, 1 + (j + 1).toNat * 26 + n.toNat * 2, none⟩)) 16 rfl (by kernel_rfl) hS.bel (rd_indexArr (o := 1 + (j + 1).toNat * 26) rfl rfl Tryz.underlying107 Tryz.sizeOf88 (by omega) (by omega)) rfl ?_
  refine Wh.rd (v := .agg #[.int .i64 ((T (j + 1) n).1), .int .i64 ((T (j + 1) n).2)]) 17 rfl (by kernel_rfl) hS.bel (rd_tabP (fun _ q => extAt x_g (Ext.trans h0.bel q)) rfl (by omega) (by omega) (by omega) (by omega) Tryz.isAgg88 Tryz.sizeOf88) rfl ?_
  have bt_8 := p_T (j + 1) n
  refine Wh.br [18, 19] (by kernel_rfl) (by decide) ⟨⟨_, rfl, ?_⟩, ⟨_, rfl, ?_⟩, trivial⟩
  · -- operation 18
    refine Wx.alloc (cs := [.int .i64 0, .int .i64 0]) hS Tryz.zeroValue88 rfl rfl (fun g_9 w_10 hx_12 hb_11 hS => ?_)
    refine Wx.nil ⟨hS.bel, ?_⟩
    refine Wh.br [19] (by kernel_rfl) (by decide) ⟨⟨_, rfl, ?_⟩, trivial⟩
    refine Wx.alloc (cs := [.int .i64 0, .int .i64 0]) hS Tryz.zeroValue88 rfl rfl (fun g_13 w_14 hx_16 hb_15 hS => ?_)
    refine Wx.nil ⟨hS.bel, ?_⟩
    refine Wh.br [20] (by kernel_rfl) (by decide) ⟨⟨_, rfl, ?_⟩, trivial⟩
    refine Wx.storeX (cs' := [.int .i64 ((T (i + 1) j).1), .int .i64 ((T (i + 1) j).2)]) (ds := [.int .i64 ((T (i + 1) j).1), .int .i64 ((T (i + 1) j).2)]) hS 1 rfl rfl rfl rfl Tryz.sizeOf88 (Nat.le_of_ble_eq_true rfl) (one_cons rfl (one_cons rfl one_nil)) rfl (fun w_17 hz_18 hS => ?_)
    refine Wx.nil ⟨hS.bel, ?_⟩
    refine Wh.br [21] (by kernel_rfl) (by decide) ⟨⟨_, rfl, ?_⟩, trivial⟩
    refine Wx.storeX (cs' := [.int .i64 ((T (j + 1) n).1), .int .i64 ((T (j + 1) n).2)]) (ds := [.int .i64 ((T (j + 1) n).1), .int .i64 ((T (j + 1) n).2)]) hS 0 rfl rfl rfl rfl Tryz.sizeOf88 (Nat.le_of_ble_eq_true rfl) (one_cons rfl (one_cons rfl one_nil)) rfl (fun w_19 hz_20 hS => ?_)
    refine Wx.nil ⟨hS.bel, ?_⟩
    refine Wh.done (by kernel_rfl) ?_
    have hS := h0.merge hS
    refine W.seq ?_
    refine W.reg ?_
    refine Wx.rd (v := .pointer (some ⟨g_9, 0, none⟩)) (rd_fieldAddr rfl foHf_88_0) rfl ?_
    refine Wx.rd (v := .int .i64 ((T (i + 1) j).1)) (rd_loadX hS 1 rfl rfl rfl Tryz.isAgg3) rfl ?_
    refine Wx.rd (v := .pointer (some ⟨g_13, 0, none⟩)) (rd_fieldAddr rfl foHf_88_0) rfl ?_
    refine Wx.rd (v := .int .i64 ((T (j + 1) n).1)) (rd_loadX hS 0 rfl rfl rfl Tryz.isAgg3) rfl ?_
    refine Wx.rd (v := .int .i64 (((T (i + 1) j).1) + ((T (j + 1) n).1))) (rd_add rfl rfl (in_i64 (by omega) (by omega))) rfl ?_
    refine Wx.rd (v := .int .i64 ((((T (i + 1) j).1) + ((T (j + 1) n).1)) + 1)) (rd_add rfl rfl (in_i64 (by omega) (by omega))) rfl ?_
    refine Wx.rd (v := .pointer (some ⟨g_9, 1, none⟩)) (rd_fieldAddr rfl foHf_88_1) rfl ?_
    refine Wx.rd (v := .int .i64 ((T (i + 1) j).2)) (rd_loadX hS 1 rfl rfl rfl Tryz.isAgg3) rfl ?_
    refine Wx.rd (v := .pointer (some ⟨g_13, 1, none⟩)) (rd_fieldAddr rfl foHf_88_1) rfl ?_
    refine Wx.rd (v := .int .i64 ((T (j + 1) n).2)) (rd_loadX hS 0 rfl rfl rfl Tryz.isAgg3) rfl ?_
    refine Wx.rd (v := .int .i64 (((T (i + 1) j).2) * ((T (j + 1) n).2))) (rd_mul rfl rfl (in_i64 (by omega) (by omega))) rfl ?_
    refine Wx.rd (v := .agg #[.int .i64 ((((T (i + 1) j).1) + ((T (j + 1) n).1)) + 1), .int .i64 (((T (i + 1) j).2) * ((T (j + 1) n).2))]) (rd_build (vs := [(0, .int .i64 ((((T (i + 1) j).1) + ((T (j + 1) n).1)) + 1)), (1, .int .i64 (((T (i + 1) j).2) * ((T (j + 1) n).2)))]) rfl (by kernel_rfl)) rfl ?_
    refine Wx.storeX (cs' := [.int .i64 ((((T (i + 1) j).1) + ((T (j + 1) n).1)) + 1), .int .i64 (((T (i + 1) j).2) * ((T (j + 1) n).2))]) (ds := [.int .i64 ((((T (i + 1) j).1) + ((T (j + 1) n).1)) + 1), .int .i64 (((T (i + 1) j).2) * ((T (j + 1) n).2))]) hS 2 rfl rfl rfl rfl Tryz.sizeOf88 (Nat.le_of_ble_eq_true rfl) (one_cons rfl (one_cons rfl one_nil)) rfl (fun w_21 hz_22 hS => ?_)
    refine Wx.nil ?_
    have e0_0 : ((T (i + 1) j).1 + (T (j + 1) n).1 + 1) = ((((T (i + 1) j).1) + ((T (j + 1) n).1)) + 1 : Int) := by first | rfl | omega
    have e0_1 : ((T (i + 1) j).2 * (T (j + 1) n).2) = (((T (i + 1) j).2) * ((T (j + 1) n).2) : Int) := by first | rfl | omega
    exact W.ret ⟨.agg #[.int .i64 ((((T (i + 1) j).1) + ((T (j + 1) n).1)) + 1), .int .i64 (((T (i + 1) j).2) * ((T (j + 1) n).2))], (ResIs.cell1 hS 2 rfl rfl Tryz.isAgg88 Tryz.sizeOf88), hS.bel, (by rw [e0_0, e0_1])⟩
  · -- operation 19
    refine Wx.alloc (cs := [.int .i64 0, .int .i64 0]) hS Tryz.zeroValue88 rfl rfl (fun g_23 w_24 hx_26 hb_25 hS => ?_)
    refine Wx.nil ⟨hS.bel, ?_⟩
    refine Wh.br [18] (by kernel_rfl) (by decide) ⟨⟨_, rfl, ?_⟩, trivial⟩
    refine Wx.alloc (cs := [.int .i64 0, .int .i64 0]) hS Tryz.zeroValue88 rfl rfl (fun g_27 w_28 hx_30 hb_29 hS => ?_)
    refine Wx.nil ⟨hS.bel, ?_⟩
    refine Wh.br [20] (by kernel_rfl) (by decide) ⟨⟨_, rfl, ?_⟩, trivial⟩
    refine Wx.storeX (cs' := [.int .i64 ((T (i + 1) j).1), .int .i64 ((T (i + 1) j).2)]) (ds := [.int .i64 ((T (i + 1) j).1), .int .i64 ((T (i + 1) j).2)]) hS 0 rfl rfl rfl rfl Tryz.sizeOf88 (Nat.le_of_ble_eq_true rfl) (one_cons rfl (one_cons rfl one_nil)) rfl (fun w_31 hz_32 hS => ?_)
    refine Wx.nil ⟨hS.bel, ?_⟩
    refine Wh.br [21] (by kernel_rfl) (by decide) ⟨⟨_, rfl, ?_⟩, trivial⟩
    refine Wx.storeX (cs' := [.int .i64 ((T (j + 1) n).1), .int .i64 ((T (j + 1) n).2)]) (ds := [.int .i64 ((T (j + 1) n).1), .int .i64 ((T (j + 1) n).2)]) hS 1 rfl rfl rfl rfl Tryz.sizeOf88 (Nat.le_of_ble_eq_true rfl) (one_cons rfl (one_cons rfl one_nil)) rfl (fun w_33 hz_34 hS => ?_)
    refine Wx.nil ⟨hS.bel, ?_⟩
    refine Wh.done (by kernel_rfl) ?_
    have hS := h0.merge hS
    refine W.seq ?_
    refine W.reg ?_
    refine Wx.rd (v := .pointer (some ⟨g_27, 0, none⟩)) (rd_fieldAddr rfl foHf_88_0) rfl ?_
    refine Wx.rd (v := .int .i64 ((T (i + 1) j).1)) (rd_loadX hS 0 rfl rfl rfl Tryz.isAgg3) rfl ?_
    refine Wx.rd (v := .pointer (some ⟨g_23, 0, none⟩)) (rd_fieldAddr rfl foHf_88_0) rfl ?_
    refine Wx.rd (v := .int .i64 ((T (j + 1) n).1)) (rd_loadX hS 1 rfl rfl rfl Tryz.isAgg3) rfl ?_
    refine Wx.rd (v := .int .i64 (((T (i + 1) j).1) + ((T (j + 1) n).1))) (rd_add rfl rfl (in_i64 (by omega) (by omega))) rfl ?_
    refine Wx.rd (v := .int .i64 ((((T (i + 1) j).1) + ((T (j + 1) n).1)) + 1)) (rd_add rfl rfl (in_i64 (by omega) (by omega))) rfl ?_
    refine Wx.rd (v := .pointer (some ⟨g_27, 1, none⟩)) (rd_fieldAddr rfl foHf_88_1) rfl ?_
    refine Wx.rd (v := .int .i64 ((T (i + 1) j).2)) (rd_loadX hS 0 rfl rfl rfl Tryz.isAgg3) rfl ?_
    refine Wx.rd (v := .pointer (some ⟨g_23, 1, none⟩)) (rd_fieldAddr rfl foHf_88_1) rfl ?_
    refine Wx.rd (v := .int .i64 ((T (j + 1) n).2)) (rd_loadX hS 1 rfl rfl rfl Tryz.isAgg3) rfl ?_
    refine Wx.rd (v := .int .i64 (((T (i + 1) j).2) * ((T (j + 1) n).2))) (rd_mul rfl rfl (in_i64 (by omega) (by omega))) rfl ?_
    refine Wx.rd (v := .agg #[.int .i64 ((((T (i + 1) j).1) + ((T (j + 1) n).1)) + 1), .int .i64 (((T (i + 1) j).2) * ((T (j + 1) n).2))]) (rd_build (vs := [(0, .int .i64 ((((T (i + 1) j).1) + ((T (j + 1) n).1)) + 1)), (1, .int .i64 (((T (i + 1) j).2) * ((T (j + 1) n).2)))]) rfl (by kernel_rfl)) rfl ?_
    refine Wx.storeX (cs' := [.int .i64 ((((T (i + 1) j).1) + ((T (j + 1) n).1)) + 1), .int .i64 (((T (i + 1) j).2) * ((T (j + 1) n).2))]) (ds := [.int .i64 ((((T (i + 1) j).1) + ((T (j + 1) n).1)) + 1), .int .i64 (((T (i + 1) j).2) * ((T (j + 1) n).2))]) hS 2 rfl rfl rfl rfl Tryz.sizeOf88 (Nat.le_of_ble_eq_true rfl) (one_cons rfl (one_cons rfl one_nil)) rfl (fun w_35 hz_36 hS => ?_)
    refine Wx.nil ?_
    have e0_0 : ((T (i + 1) j).1 + (T (j + 1) n).1 + 1) = ((((T (i + 1) j).1) + ((T (j + 1) n).1)) + 1 : Int) := by first | rfl | omega
    have e0_1 : ((T (i + 1) j).2 * (T (j + 1) n).2) = (((T (i + 1) j).2) * ((T (j + 1) n).2) : Int) := by first | rfl | omega
    exact W.ret ⟨.agg #[.int .i64 ((((T (i + 1) j).1) + ((T (j + 1) n).1)) + 1), .int .i64 (((T (i + 1) j).2) * ((T (j + 1) n).2))], (ResIs.cell1 hS 2 rfl rfl Tryz.isAgg88 Tryz.sizeOf88), hS.bel, (by rw [e0_0, e0_1])⟩

theorem C5.F34 {g : Nat} {s : ByteArray} {T : Go.Wk.Tab} {w : World} (x_g : w.heap[g]? = some (.cells (tabC s T).toArray 110 (0, 0))) (p_T : TabB T) (p_s : (s.size : Int) ≤ 12) : Calls Tryz.prog 34 #[.pointer (some ⟨g, 0, none⟩)] w (Ret w (fun r _ => r = .agg #[.int .i64 ((T 0 s.size).1), .int .i64 ((T 0 s.size).2)])) := by
  have hS := St.start0 w
  refine enterR Tryz.func34 rfl Tryz.ntmps34 Tryz.results34 rfl ?_
  refine W.seq ?_
  refine W.reg ?_
  refine Wx.alloc (cs := [.int .i64 0, .int .i64 0]) hS Tryz.zeroValue88 rfl rfl (fun g_1 w_2 hx_4 hb_3 hS => ?_)
  refine Wx.nil ?_
  refine W.seq ?_
  refine W.regT 11 mixedHf_ (by kernel_rfl) ?_
  refine Wx.rd (v := .pointer (some ⟨g, 0, none⟩)) (rd_move rfl) rfl ?_
  refine Wx.rd (v := .pointer (some ⟨g, 0, none⟩)) (rd_move rfl) rfl ?_
  refine Wx.rd (v := .pointer (some ⟨g, 0, none⟩)) (rd_nilCheck rfl rfl) rfl ?_
  refine Wx.rd (v := .pointer (some ⟨g, 0, none⟩)) (rd_fieldAddr (o := 0) rfl foHf_110_0) rfl ?_
  refine Wx.rd (v := .string s) (rd_tabS (fun _ q => extAt x_g (Ext.trans hS.bel q)) rfl Tryz.isAgg9) rfl ?_
  refine Wx.rd (v := .int .i64 (s.size : Int)) (rd_lenS rfl Tryz.underlying9) rfl ?_
  refine Wx.rd (v := .pointer (some ⟨g, 0, none⟩)) (rd_nilCheck rfl rfl) rfl ?_
  refine Wx.rd (v := .pointer (some ⟨g, 1, none⟩)) (rd_fieldAddr (o := 0) rfl foHf_110_1) rfl ?_
  refine Wx.rd (v := .pointer (some ⟨g, 1 + (0 : Int).toNat * 26, none⟩)) (rd_indexArr (o := 1) rfl rfl Tryz.underlying108 Tryz.sizeOf107 (by omega) (by omega)) rfl ?_
  refine Wx.rd (v := .pointer (some ⟨g, 1 + (0 : Int).toNat * 26 + (s.size : Int).toNat * 2, none⟩)) (rd_indexArr (o := 1 + (0 : Int).toNat * 26) rfl rfl Tryz.underlying107 Tryz.sizeOf88 (by omega) (by omega)) rfl ?_
  refine Wx.rd (v := .agg #[.int .i64 ((T (0 : Int) (s.size : Int)).1), .int .i64 ((T (0 : Int) (s.size : Int)).2)]) (rd_tabP (fun _ q => extAt x_g (Ext.trans hS.bel q)) rfl (by omega) (by omega) (by omega) (by omega) Tryz.isAgg88 Tryz.sizeOf88) rfl ?_
  have bt_5 := p_T (0 : Int) (s.size : Int)
  refine Wx.nilQ (fun w_6 hx_7 => ?_)
  have hS := hS.ext hx_7
  refine Wx.storeX (cs' := [.int .i64 ((T (0 : Int) (s.size : Int)).1), .int .i64 ((T (0 : Int) (s.size : Int)).2)]) (ds := [.int .i64 ((T (0 : Int) (s.size : Int)).1), .int .i64 ((T (0 : Int) (s.size : Int)).2)]) hS 0 rfl rfl rfl rfl Tryz.sizeOf88 (Nat.le_of_ble_eq_true rfl) (one_cons rfl (one_cons rfl one_nil)) rfl (fun w_8 hz_9 hS => ?_)
  refine Wx.nil ?_
  have e0_0 : ((T 0 s.size).1) = ((T (0 : Int) (s.size : Int)).1 : Int) := by first | rfl | omega
  have e0_1 : ((T 0 s.size).2) = ((T (0 : Int) (s.size : Int)).2 : Int) := by first | rfl | omega
  exact W.ret ⟨.agg #[.int .i64 ((T (0 : Int) (s.size : Int)).1), .int .i64 ((T (0 : Int) (s.size : Int)).2)], (ResIs.cell1 hS 0 rfl rfl Tryz.isAgg88 Tryz.sizeOf88), hS.bel, (by rw [e0_0, e0_1])⟩

theorem C5.F33 {rim : ByteArray} {w : World} (s_rim : rim.size ≤ maxLen) (p_12 : (rim.size : Int) ≤ 12) (p_l : Lets rim) (hG : Laid w) : Calls Tryz.prog 33 #[.string rim] w (Ret w (fun r w' => ∃ g T, r = .pointer (some ⟨g, 0, none⟩) ∧ w.heap.size ≤ g ∧ w'.heap[g]? = some (.cells (tabC rim T).toArray 110 (0, 0)) ∧ TabOK rim T)) := by
  have hS := St.start0 w
  refine enterR Tryz.func33 rfl Tryz.ntmps33 Tryz.results33 rfl ?_
  refine W.seq ?_
  refine W.reg ?_
  refine Wx.rd (v := (Go.Value.pointer none)) (rd_assign rfl) rfl ?_
  refine Wx.nil ?_
  refine W.seq ?_
  refine W.reg ?_
  refine Wx.rd (v := .string rim) (rd_move rfl) rfl ?_
  refine Wx.rd (v := .agg (tabC rim (fun _ _ => (0, 0))).toArray) (rd_build (vs := [(0, .string rim)]) rfl (by kernel_rfl)) rfl ?_
  refine Wx.box (cs := tabC rim (fun _ _ => (0, 0))) hS rfl rfl rfl (fun g_1 w_2 hx_4 hb_3 hS => ?_)
  refine Wx.rd (v := .pointer (some ⟨g_1, 0, none⟩)) (rd_assign rfl) rfl ?_
  refine Wx.nil ?_
  refine W.seq ?_
  refine W.seq ?_
  refine W.reg ?_
  refine Wx.rd (v := .string rim) (rd_move rfl) rfl ?_
  refine Wx.rd (v := .int .i64 (rim.size : Int)) (rd_lenS rfl Tryz.underlying9) rfl ?_
  refine Wx.rd (v := .int .i64 ((rim.size : Int) + 1)) (rd_add rfl rfl (in_i64 (by omega) (by omega))) rfl ?_
  refine Wx.rd (v := .int .i64 0) (rd_move rfl) rfl ?_
  refine Wx.nil ?_
  refine W.block ?_
  refine W.loop [4, 5, 6, 7, 8, 15, 16, 17, 18, 19, 20, 21, 22, 23, 24, 25, 26, 27, 28, 29, 30, 31, 32, 33, 34, 35, 36, 37, 38, 39, 40, 41, 42, 43, 44, 45, 46, 47, 48, 49, 50, 51, 52, 53, 54, 55, 56, 57, 58, 59, 60, 61, 62, 63, 64, 65, 66, 67, 68, 69, 70, 71, 72, 73, 74, 75, 76, 77, 78, 79, 80, 81, 82, 83, 84, 85] (fun x : Int × Go.Wk.Tab => match x with | (n, T) => [(15, .int .i64 n)]) (fun (x : Int × Go.Wk.Tab) w' => match x with | (n, T) => St w [] w' [.box g_1 110 (tabC rim T)] ∧ 0 ≤ n ∧ n ≤ rim.size + 1 ∧ TabB T ∧ (∀ a b, 0 ≤ a → a ≤ b → b < n → T a b = partP (fitR rim) a b)) (fun x : Int × Go.Wk.Tab => match x with | (n, T) => (rim.size + 1 - n).toNat) (0, (fun _ _ => (0, 0))) ⟨rfl, trivial⟩ ⟨hS, (by first | omega | simp), (by first | omega | simp), (TabB.zero), (fun a b a0 ab b0 => by omega)⟩ ?_
  rintro ⟨n, T⟩ u_6 w_5 ⟨hS, h0, h1, hB, hT⟩
  refine W.seq ?_
  refine W.reg ?_
  refine Wx.rd (v := .bool (decide (n < ((rim.size : Int) + 1)))) (rd_lss rfl rfl) rfl ?_
  refine Wx.nil ?_
  refine W.seq ?_
  refine W.condD rfl (fun c0 => ?_) (fun c0 => ?_)
  · -- yes
    refine W.skip ?_
    refine W.seq ?_
    refine W.block ?_
    refine W.seq ?_
    refine W.reg ?_
    refine Wx.rd (v := .int .i64 n) (rd_move rfl) rfl ?_
    refine Wx.rd (v := .int .i64 n) (rd_assign rfl) rfl ?_
    refine Wx.nil ?_
    refine W.seq ?_
    refine W.reg ?_
    refine Wx.rd (v := .pointer (some ⟨g_1, 0, none⟩)) (rd_move rfl) rfl ?_
    refine Wx.rd (v := .int .i64 n) (rd_move rfl) rfl ?_
    refine Wx.rd (v := .int .i64 n) (rd_move rfl) rfl ?_
    refine Wx.rd (v := .agg #[.int .i64 0, .int .i64 1]) (rd_build (vs := [(0, .int .i64 0), (1, .int .i64 1)]) rfl (by kernel_rfl)) rfl ?_
    refine Wx.rd (v := .pointer (some ⟨g_1, 0, none⟩)) (rd_nilCheck rfl rfl) rfl ?_
    refine Wx.rd (v := .pointer (some ⟨g_1, 1, none⟩)) (rd_fieldAddr (o := 0) rfl foHf_110_1) rfl ?_
    refine Wx.rd (v := .pointer (some ⟨g_1, 1 + n.toNat * 26, none⟩)) (rd_indexArr (o := 1) rfl rfl Tryz.underlying108 Tryz.sizeOf107 (by omega) (by omega)) rfl ?_
    refine Wx.rd (v := .pointer (some ⟨g_1, 1 + n.toNat * 26 + n.toNat * 2, none⟩)) (rd_indexArr (o := 1 + n.toNat * 26) rfl rfl Tryz.underlying107 Tryz.sizeOf88 (by omega) (by omega)) rfl ?_
    refine Wx.storeX (cs' := tabC rim (updT T n n (0, 1))) (ds := [.int .i64 0, .int .i64 1]) hS 0 rfl rfl rfl rfl Tryz.sizeOf88 (by rw [tabC_len]; show _ + 2 ≤ 339; omega) (one_cons rfl (one_cons rfl one_nil)) (tabC_set rim T (by omega) (by omega) (by omega) (by omega) 0 1) (fun w_7 hz_8 hS => ?_)
    refine Wx.nil ?_
    refine W.seq ?_
    refine W.reg ?_
    refine Wx.rd (v := .int .i64 n) (rd_move rfl) rfl ?_
    refine Wx.rd (v := .int .i64 (n - 1)) (rd_sub rfl rfl (in_i64 (by omega) (by omega))) rfl ?_
    refine Wx.rd (v := .int .i64 (n - 1)) (rd_assign rfl) rfl ?_
    refine Wx.nil ?_
    refine W.block ?_
    refine W.loop [5, 6, 7, 8, 28, 29, 30, 31, 32, 33, 34, 35, 36, 37, 38, 39, 40, 41, 42, 43, 44, 45, 46, 47, 48, 49, 50, 51, 52, 53, 54, 55, 56, 57, 58, 59, 60, 61, 62, 63, 64, 65, 66, 67, 68, 69, 70, 71, 72, 73, 74, 75, 76, 77, 78, 79, 80, 81, 82, 83, 84] (fun x : Int × Go.Wk.Tab => match x with | (i, T2) => [(5, .int .i64 i)]) (fun (x : Int × Go.Wk.Tab) w' => match x with | (i, T2) => St w [] w' [.box g_1 110 (tabC rim T2)] ∧ -1 ≤ i ∧ i < n ∧ TabB T2 ∧ (∀ a b, 0 ≤ a → a ≤ b → b < n → T2 a b = partP (fitR rim) a b) ∧ (∀ a, i < a → a ≤ n → T2 a n = partP (fitR rim) a n)) (fun x : Int × Go.Wk.Tab => match x with | (i, T2) => (i + 1).toNat) (n - 1, updT T n n (0, 1)) ⟨rfl, trivial⟩ ⟨hS, (by first | omega | simp), (by first | omega | simp), (hB.upd (by decide)), (fun a b a0 ab hb => by rw [updT_ne (by omega)]; exact hT a b a0 ab hb), (fun a h1 h2 => by rw [show a = n by omega, updT_at, partP_nil (by omega)])⟩ ?_
    rintro ⟨i, T2⟩ u_10 w_9 ⟨hS, g0, g1, hB, hT2, hN⟩
    refine W.seq ?_
    refine W.seq ?_
    refine W.reg ?_
    refine Wx.rd (v := .int .i64 i) (rd_move rfl) rfl ?_
    refine Wx.rd (v := .bool (decide (0 ≤ i))) (rd_geq rfl rfl) rfl ?_
    refine Wx.nil ?_
    refine W.condD rfl (fun c1 => ?_) (fun c1 => ?_)
    · -- yes
      refine W.skip ?_
      refine W.seq ?_
      refine W.block ?_
      refine W.seq ?_
      refine W.reg ?_
      refine Wx.rd (v := .pointer (some ⟨g_1, 0, none⟩)) (rd_move rfl) rfl ?_
      refine Wx.rd (v := .int .i64 i) (rd_move rfl) rfl ?_
      refine Wx.rd (v := .int .i64 (i + 1)) (rd_add rfl rfl (in_i64 (by omega) (by omega))) rfl ?_
      refine Wx.rd (v := .int .i64 n) (rd_move rfl) rfl ?_
      refine Wx.rd (v := .pointer (some ⟨g_1, 0, none⟩)) (rd_nilCheck rfl rfl) rfl ?_
      refine Wx.rd (v := .pointer (some ⟨g_1, 1, none⟩)) (rd_fieldAddr (o := 0) rfl foHf_110_1) rfl ?_
      refine Wx.rd (v := .pointer (some ⟨g_1, 1 + (i + 1).toNat * 26, none⟩)) (rd_indexArr (o := 1) rfl rfl Tryz.underlying108 Tryz.sizeOf107 (by omega) (by omega)) rfl ?_
      refine Wx.rd (v := .pointer (some ⟨g_1, 1 + (i + 1).toNat * 26 + n.toNat * 2, none⟩)) (rd_indexArr (o := 1 + (i + 1).toNat * 26) rfl rfl Tryz.underlying107 Tryz.sizeOf88 (by omega) (by omega)) rfl ?_
      refine Wx.rd (v := .agg #[.int .i64 ((T2 (i + 1) n).1), .int .i64 ((T2 (i + 1) n).2)]) (rd_tabP (fun _ q => boxAt hS 0 rfl q) rfl (by omega) (by omega) (by omega) (by omega) Tryz.isAgg88 Tryz.sizeOf88) rfl ?_
      have bt_11 := hB (i + 1) n
      refine Wx.alloc (cs := [.int .i64 0, .int .i64 0]) hS Tryz.zeroValue88 rfl rfl (fun g_12 w_13 hx_15 hb_14 hS => ?_)
      refine Wx.storeX (cs' := [.int .i64 ((T2 (i + 1) n).1), .int .i64 ((T2 (i + 1) n).2)]) (ds := [.int .i64 ((T2 (i + 1) n).1), .int .i64 ((T2 (i + 1) n).2)]) hS 0 rfl rfl rfl rfl Tryz.sizeOf88 (Nat.le_of_ble_eq_true rfl) (one_cons rfl (one_cons rfl one_nil)) rfl (fun w_16 hz_17 hS => ?_)
      refine Wx.nil ?_
      refine W.seq ?_
      refine W.seq ?_
      refine W.reg ?_
      refine Wx.rd (v := .int .i64 i) (rd_move rfl) rfl ?_
      refine Wx.rd (v := .int .i64 (i + 1)) (rd_add rfl rfl (in_i64 (by omega) (by omega))) rfl ?_
      refine Wx.rd (v := .int .i64 (i + 1)) (rd_assign rfl) rfl ?_
      refine Wx.nil ?_
      refine W.block ?_
      refine W.loop [7, 8, 43, 44, 45, 46, 47, 48, 49, 50, 51, 52, 53, 54, 55, 56, 57, 58, 59, 60, 61, 62, 63, 64, 65, 66, 67, 68, 69, 70, 71, 72, 73, 74, 75, 76] (fun x : Int × Int × Int => match x with | (j, bm, bc) => [(7, .int .i64 j)]) (fun (x : Int × Int × Int) w' => match x with | (j, bm, bc) => St w [] w' [.box g_12 88 [.int .i64 bm, .int .i64 bc], .box g_1 110 (tabC rim T2)] ∧ i + 1 ≤ j ∧ j ≤ n ∧ bm = (foldP (fitR rim) i n j).1 ∧ bc = (foldP (fitR rim) i n j).2) (fun x : Int × Int × Int => match x with | (j, bm, bc) => (n - j).toNat) (i + 1, (T2 (i + 1) n).1, (T2 (i + 1) n).2) ⟨rfl, trivial⟩ ⟨hS, (by first | omega | simp), (by first | omega | simp), (by rw [foldP_start, hN (i + 1) (by omega) (by omega)]), (by rw [foldP_start, hN (i + 1) (by omega) (by omega)])⟩ ?_
      rintro ⟨j, bm, bc⟩ u_19 w_18 ⟨hS, k0, k1, k2, k3⟩
      have hfb := foldP_bd (F := fitR rim) (i := i) (n := n) (j := j) (by omega) (by omega) k0 k1
      refine W.seq ?_
      refine W.seq ?_
      refine W.reg ?_
      refine Wx.rd (v := .int .i64 j) (rd_move rfl) rfl ?_
      refine Wx.rd (v := .int .i64 n) (rd_move rfl) rfl ?_
      refine Wx.rd (v := .bool (decide (j < n))) (rd_lss rfl rfl) rfl ?_
      refine Wx.nil ?_
      refine W.condD rfl (fun c2 => ?_) (fun c2 => ?_)
      · -- yes
        refine W.skip ?_
        refine W.seq ?_
        refine W.block ?_
        refine W.seq ?_
        refine W.seq ?_
        refine W.reg ?_
        refine Wx.rd (v := .string rim) (rd_move rfl) rfl ?_
        refine Wx.rd (v := .int .i64 i) (rd_move rfl) rfl ?_
        refine Wx.rd (v := .int .i64 j) (rd_move rfl) rfl ?_
        refine Wx.callF (run_callF Tryz.call35 rfl) (C5.F35 (by first | assumption | (simp only [maxLen]; omega) | (simp only [ByteArray.size_extract, ByteArray.size_append, maxLen] at *; omega) | decide) (in_i64 (by omega) (by omega)) (in_i64 (by omega) (by omega)) (by omega) (by omega) (by omega) (by omega) (by omega) (hG.ext hS.bel)) rfl ?_
        rintro r_20 w_21 hx_22 rfl
        have hS := hS.ext hx_22
        refine Wx.rd (v := .bool (!(fitR rim i j))) (rd_not rfl) rfl ?_
        refine Wx.nil ?_
        refine W.cond rfl (fun c3 => ?_) (fun c3 => ?_)
        · -- yes
          try simp only [Bool.and_eq_true, Bool.or_eq_true, Bool.not_eq_true', Bool.and_eq_false_iff, Bool.or_eq_false_iff, Bool.not_eq_false', decide_eq_true_eq, decide_eq_false_iff_not, not_or, Bool.false_eq_true, Bool.true_eq_false, false_or, or_false, not_false_eq_true] at c3
          refine W.exit rfl ?_
          refine W.reg ?_
          refine Wx.rd (v := .int .i64 j) (rd_move rfl) rfl ?_
          refine Wx.rd (v := .int .i64 (j + 1)) (rd_add rfl rfl (in_i64 (by omega) (by omega))) rfl ?_
          refine Wx.rd (v := .int .i64 (j + 1)) (rd_assign rfl) rfl ?_
          refine Wx.nil ?_
          refine ⟨(j + 1, bm, bc), (by show (n - (j + 1)).toNat < (n - j).toNat; omega), ?_, ?_, Out.look rfl Out.self⟩
          · exact ⟨hS, (by first | omega | assumption), (by first | omega | assumption), ((step_no k0 k2 k3 c3).1), ((step_no k0 k2 k3 c3).2)⟩
          · exact ⟨rfl, trivial⟩
        · -- no
          try simp only [Bool.and_eq_true, Bool.or_eq_true, Bool.not_eq_true', Bool.and_eq_false_iff, Bool.or_eq_false_iff, Bool.not_eq_false', decide_eq_true_eq, decide_eq_false_iff_not, not_or, Bool.false_eq_true, Bool.true_eq_false, false_or, or_false, not_false_eq_true] at c3
          refine W.skip ?_
          refine W.seq ?_
          refine W.reg ?_
          refine Wx.rd (v := .pointer (some ⟨g_1, 0, none⟩)) (rd_move rfl) rfl ?_
          refine Wx.rd (v := .int .i64 i) (rd_move rfl) rfl ?_
          refine Wx.rd (v := .int .i64 j) (rd_move rfl) rfl ?_
          refine Wx.rd (v := .int .i64 n) (rd_move rfl) rfl ?_
          have hmb := hB.mul i j n
          have hjp : joinP (partP (fitR rim) (i + 1) j) (partP (fitR rim) (j + 1) n) = ((T2 (i + 1) j).1 + (T2 (j + 1) n).1 + 1, (T2 (i + 1) j).2 * (T2 (j + 1) n).2) := by rw [← hT2 (i + 1) j (by omega) k0 c2, ← hN (j + 1) (by omega) (by omega)]; rfl
          have hb1 := hB (i + 1) j
          have hb2 := hB (j + 1) n
          refine Wx.callF (run_callF Tryz.call51 rfl) (C5.F51 (boxAt hS 1 rfl (Ext.refl _)) (in_i64 (by omega) (by omega)) (in_i64 (by omega) (by omega)) (in_i64 (by omega) (by omega)) hB (by omega) (by omega) (by omega) (by omega) (by omega) (by omega)) rfl ?_
          rintro r_23 w_24 hx_25 rfl
          have hS := hS.ext hx_25
          refine Wx.alloc (cs := [.int .i64 0, .int .i64 0]) hS Tryz.zeroValue88 rfl rfl (fun g_26 w_27 hx_29 hb_28 hS => ?_)
          refine Wx.storeX (cs' := [.int .i64 ((T2 (i + 1) j).1 + (T2 (j + 1) n).1 + 1), .int .i64 ((T2 (i + 1) j).2 * (T2 (j + 1) n).2)]) (ds := [.int .i64 ((T2 (i + 1) j).1 + (T2 (j + 1) n).1 + 1), .int .i64 ((T2 (i + 1) j).2 * (T2 (j + 1) n).2)]) hS 0 rfl rfl rfl rfl Tryz.sizeOf88 (Nat.le_of_ble_eq_true rfl) (one_cons rfl (one_cons rfl one_nil)) rfl (fun w_30 hz_31 hS => ?_)
          refine Wx.nil ?_
          refine W.block ?_
          refine W.seq ?_
          refine W.reg ?_
          refine Wx.rd (v := .pointer (some ⟨g_26, 0, none⟩)) (rd_fieldAddr rfl foHf_88_0) rfl ?_
          refine Wx.rd (v := .int .i64 ((T2 (i + 1) j).1 + (T2 (j + 1) n).1 + 1)) (rd_loadX hS 0 rfl rfl rfl Tryz.isAgg3) rfl ?_
          refine Wx.rd (v := .pointer (some ⟨g_12, 0, none⟩)) (rd_fieldAddr rfl foHf_88_0) rfl ?_
          refine Wx.rd (v := .int .i64 bm) (rd_loadX hS 1 rfl rfl rfl Tryz.isAgg3) rfl ?_
          refine Wx.rd (v := .bool (decide (bm < ((T2 (i + 1) j).1 + (T2 (j + 1) n).1 + 1)))) (rd_gtr rfl rfl) rfl ?_
          refine Wx.rd (v := .bool (decide (bm < ((T2 (i + 1) j).1 + (T2 (j + 1) n).1 + 1)))) (rd_assign rfl) rfl ?_
          refine Wx.nil ?_
          refine W.condD rfl (fun c4 => ?_) (fun c4 => ?_)
          · -- yes
            refine W.reg ?_
            refine Wx.rd (v := .agg #[.int .i64 ((T2 (i + 1) j).1 + (T2 (j + 1) n).1 + 1), .int .i64 ((T2 (i + 1) j).2 * (T2 (j + 1) n).2)]) (rd_loadXs (ds := [.int .i64 ((T2 (i + 1) j).1 + (T2 (j + 1) n).1 + 1), .int .i64 ((T2 (i + 1) j).2 * (T2 (j + 1) n).2)]) hS 0 rfl rfl rfl rfl Tryz.isAgg88 Tryz.sizeOf88) rfl ?_
            refine Wx.storeX (cs' := [.int .i64 ((T2 (i + 1) j).1 + (T2 (j + 1) n).1 + 1), .int .i64 ((T2 (i + 1) j).2 * (T2 (j + 1) n).2)]) (ds := [.int .i64 ((T2 (i + 1) j).1 + (T2 (j + 1) n).1 + 1), .int .i64 ((T2 (i + 1) j).2 * (T2 (j + 1) n).2)]) hS 1 rfl rfl rfl rfl Tryz.sizeOf88 (Nat.le_of_ble_eq_true rfl) (one_cons rfl (one_cons rfl one_nil)) rfl (fun w_32 hz_33 hS => ?_)
            refine Wx.nil ?_
            refine W.reg ?_
            refine Wx.rd (v := .int .i64 j) (rd_move rfl) rfl ?_
            refine Wx.rd (v := .int .i64 (j + 1)) (rd_add rfl rfl (in_i64 (by omega) (by omega))) rfl ?_
            refine Wx.rd (v := .int .i64 (j + 1)) (rd_assign rfl) rfl ?_
            refine Wx.nil ?_
            refine ⟨(j + 1, (T2 (i + 1) j).1 + (T2 (j + 1) n).1 + 1, (T2 (i + 1) j).2 * (T2 (j + 1) n).2), (by show (n - (j + 1)).toNat < (n - j).toNat; omega), ?_, ?_, Out.look rfl Out.self⟩
            · exact ⟨hS.tl, (by first | omega | assumption), (by first | omega | assumption), ((step_gt k0 k2 c3 hjp c4).1), ((step_gt k0 k2 c3 hjp c4).2)⟩
            · exact ⟨rfl, trivial⟩
          · -- no
            refine W.seq ?_
            refine W.reg ?_
            refine Wx.rd (v := .pointer (some ⟨g_26, 0, none⟩)) (rd_fieldAddr rfl foHf_88_0) rfl ?_
            refine Wx.rd (v := .int .i64 ((T2 (i + 1) j).1 + (T2 (j + 1) n).1 + 1)) (rd_loadX hS 0 rfl rfl rfl Tryz.isAgg3) rfl ?_
            refine Wx.rd (v := .pointer (some ⟨g_12, 0, none⟩)) (rd_fieldAddr rfl foHf_88_0) rfl ?_
            refine Wx.rd (v := .int .i64 bm) (rd_loadX hS 1 rfl rfl rfl Tryz.isAgg3) rfl ?_
            refine Wx.rd (v := .bool (decide (((T2 (i + 1) j).1 + (T2 (j + 1) n).1 + 1) = bm))) (rd_eql rfl rfl) rfl ?_
            refine Wx.rd (v := .bool (decide (((T2 (i + 1) j).1 + (T2 (j + 1) n).1 + 1) = bm))) (rd_assign rfl) rfl ?_
            refine Wx.nil ?_
            refine W.condD rfl (fun c5 => ?_) (fun c5 => ?_)
            · -- yes
              refine W.reg ?_
              refine Wx.rd (v := .pointer (some ⟨g_12, 1, none⟩)) (rd_fieldAddr rfl foHf_88_1) rfl ?_
              refine Wx.rd (v := .int .i64 bc) (rd_loadX hS 1 rfl rfl rfl Tryz.isAgg3) rfl ?_
              refine Wx.rd (v := .pointer (some ⟨g_26, 1, none⟩)) (rd_fieldAddr rfl foHf_88_1) rfl ?_
              refine Wx.rd (v := .int .i64 ((T2 (i + 1) j).2 * (T2 (j + 1) n).2)) (rd_loadX hS 0 rfl rfl rfl Tryz.isAgg3) rfl ?_
              refine Wx.rd (v := .int .i64 (bc + ((T2 (i + 1) j).2 * (T2 (j + 1) n).2))) (rd_add rfl rfl (in_i64 (by omega) (by omega))) rfl ?_
              refine Wx.rd (v := .pointer (some ⟨g_12, 1, none⟩)) (rd_fieldAddr rfl foHf_88_1) rfl ?_
              refine Wx.storeX (cs' := [.int .i64 bm, .int .i64 (bc + ((T2 (i + 1) j).2 * (T2 (j + 1) n).2))]) (ds := [.int .i64 (bc + ((T2 (i + 1) j).2 * (T2 (j + 1) n).2))]) hS 1 rfl rfl rfl rfl Tryz.sizeOf3 (Nat.le_of_ble_eq_true rfl) (one_cons rfl one_nil) rfl (fun w_34 hz_35 hS => ?_)
              refine Wx.nil ?_
              refine W.reg ?_
              refine Wx.rd (v := .int .i64 j) (rd_move rfl) rfl ?_
              refine Wx.rd (v := .int .i64 (j + 1)) (rd_add rfl rfl (in_i64 (by omega) (by omega))) rfl ?_
              refine Wx.rd (v := .int .i64 (j + 1)) (rd_assign rfl) rfl ?_
              refine Wx.nil ?_
              refine ⟨(j + 1, bm, bc + ((T2 (i + 1) j).2 * (T2 (j + 1) n).2)), (by show (n - (j + 1)).toNat < (n - j).toNat; omega), ?_, ?_, Out.look rfl Out.self⟩
              · exact ⟨hS.tl, (by first | omega | assumption), (by first | omega | assumption), ((step_eq k0 k2 k3 c3 hjp c4 c5).1), ((step_eq k0 k2 k3 c3 hjp c4 c5).2)⟩
              · exact ⟨rfl, trivial⟩
            · -- no
              refine W.skip ?_
              refine W.reg ?_
              refine Wx.rd (v := .int .i64 j) (rd_move rfl) rfl ?_
              refine Wx.rd (v := .int .i64 (j + 1)) (rd_add rfl rfl (in_i64 (by omega) (by omega))) rfl ?_
              refine Wx.rd (v := .int .i64 (j + 1)) (rd_assign rfl) rfl ?_
              refine Wx.nil ?_
              refine ⟨(j + 1, bm, bc), (by show (n - (j + 1)).toNat < (n - j).toNat; omega), ?_, ?_, Out.look rfl Out.self⟩
              · exact ⟨hS.tl, (by first | omega | assumption), (by first | omega | assumption), ((step_lt k0 k2 k3 c3 hjp c4 c5).1), ((step_lt k0 k2 k3 c3 hjp c4 c5).2)⟩
              · exact ⟨rfl, trivial⟩
      · -- no
        refine W.exit rfl ?_
        refine W.regT 8 mixedHf_ (by kernel_rfl) ?_
        refine Wx.rd (v := .pointer (some ⟨g_1, 0, none⟩)) (rd_move rfl) rfl ?_
        refine Wx.rd (v := .int .i64 i) (rd_move rfl) rfl ?_
        refine Wx.rd (v := .int .i64 n) (rd_move rfl) rfl ?_
        refine Wx.rd (v := .agg #[.int .i64 bm, .int .i64 bc]) (rd_loadXs (ds := [.int .i64 bm, .int .i64 bc]) hS 0 rfl rfl rfl rfl Tryz.isAgg88 Tryz.sizeOf88) rfl ?_
        refine Wx.rd (v := .pointer (some ⟨g_1, 0, none⟩)) (rd_nilCheck rfl rfl) rfl ?_
        refine Wx.rd (v := .pointer (some ⟨g_1, 1, none⟩)) (rd_fieldAddr (o := 0) rfl foHf_110_1) rfl ?_
        refine Wx.rd (v := .pointer (some ⟨g_1, 1 + i.toNat * 26, none⟩)) (rd_indexArr (o := 1) rfl rfl Tryz.underlying108 Tryz.sizeOf107 (by omega) (by omega)) rfl ?_
        refine Wx.rd (v := .pointer (some ⟨g_1, 1 + i.toNat * 26 + n.toNat * 2, none⟩)) (rd_indexArr (o := 1 + i.toNat * 26) rfl rfl Tryz.underlying107 Tryz.sizeOf88 (by omega) (by omega)) rfl ?_
        refine Wx.nilQ (fun w_36 hx_37 => ?_)
        have hS := hS.ext hx_37
        refine Wx.storeX (cs' := tabC rim (updT T2 i n (bm, bc))) (ds := [.int .i64 bm, .int .i64 bc]) hS 1 rfl rfl rfl rfl Tryz.sizeOf88 (by rw [tabC_len]; show _ + 2 ≤ 339; omega) (one_cons rfl (one_cons rfl one_nil)) (tabC_set rim T2 (by omega) (by omega) (by omega) (by omega) bm bc) (fun w_38 hz_39 hS => ?_)
        refine Wx.nil ?_
        refine W.reg ?_
        refine Wx.rd (v := .int .i64 i) (rd_move rfl) rfl ?_
        refine Wx.rd (v := .int .i64 (i - 1)) (rd_sub rfl rfl (in_i64 (by omega) (by omega))) rfl ?_
        refine Wx.rd (v := .int .i64 (i - 1)) (rd_assign rfl) rfl ?_
        refine Wx.nil ?_
        refine ⟨(i - 1, updT T2 i n (bm, bc)), (by show ((i - 1) + 1).toNat < (i + 1).toNat; omega), ?_, ?_, Out.look rfl (Out.hav rfl (Out.look rfl Out.self))⟩
        · exact ⟨hS.tl, (by first | omega | assumption), (by first | omega | assumption), (hB.upd (by rw [k2, k3]; exact hfb)), (fun a b a0 ab hb => by rw [updT_ne (by omega)]; exact hT2 a b a0 ab hb), (fun a h1 h2 => by by_cases h : a = i; (subst h; rw [updT_at, k2, k3, show j = n by omega, foldP_end (by omega)]); rw [updT_ne (by omega)]; exact hN a (by omega) h2)⟩
        · exact ⟨rfl, trivial⟩
    · -- no
      refine W.exit rfl ?_
      refine W.reg ?_
      refine Wx.rd (v := .int .i64 (n + 1)) (rd_add rfl rfl (in_i64 (by omega) (by omega))) rfl ?_
      refine Wx.rd (v := .int .i64 (n + 1)) (rd_move rfl) rfl ?_
      refine Wx.nil ?_
      refine ⟨(n + 1, T2), (by show (rim.size + 1 - (n + 1)).toNat < (rim.size + 1 - n).toNat; omega), ?_, ?_, Out.look rfl (Out.hav rfl (Out.look rfl Out.self))⟩
      · exact ⟨hS, (by first | omega | assumption), (by first | omega | assumption), (hB), (fun a b a0 ab hb => by by_cases h : b = n; (subst h; exact hN a (by omega) ab); exact hT2 a b a0 ab (by omega))⟩
      · exact ⟨rfl, trivial⟩
  · -- no
    refine W.exit rfl ?_
    refine W.seq ?_
    refine W.reg ?_
    refine Wx.rd (v := .pointer (some ⟨g_1, 0, none⟩)) (rd_move rfl) rfl ?_
    refine Wx.rd (v := .pointer (some ⟨g_1, 0, none⟩)) (rd_assign rfl) rfl ?_
    refine Wx.nil ?_
    exact W.ret ⟨.pointer (some ⟨g_1, 0, none⟩), ResIs.one, hS.bel, ⟨g_1, T, rfl, (hS.get 0 rfl).1, (hS.get 0 rfl).2, by exact ⟨hB, fun a b a0 ab bn => hT a b a0 ab (by omega)⟩⟩⟩

theorem C5.F11 {rim : ByteArray} {w : World} (s_rim : rim.size ≤ maxLen) (hG : Laid w) : Calls Tryz.prog 11 #[.string rim] w (Ret w (fun r _ => r = .tuple #[.int .i64 (mostV rim), .int .i64 (rimE rim)])) := by
  have hS := St.start0 w
  refine enterR Tryz.func11 rfl Tryz.ntmps11 Tryz.results11 rfl ?_
  refine W.seq ?_
  refine W.reg ?_
  refine Wx.rd (v := .int .i64 0) (rd_assign rfl) rfl ?_
  refine Wx.rd (v := .int .i64 0) (rd_assign rfl) rfl ?_
  refine Wx.nil ?_
  refine W.seq ?_
  refine W.seq ?_
  refine W.reg ?_
  refine Wx.rd (v := .string rim) (rd_move rfl) rfl ?_
  refine Wx.callF (run_callF Tryz.call32 rfl) (C5.F32 (by first | assumption | (simp only [maxLen]; omega) | (simp only [ByteArray.size_extract, ByteArray.size_append, maxLen] at *; omega) | decide)) rfl ?_
  rintro r_1 w_2 hx_3 rfl
  have hS := hS.ext hx_3
  refine Wx.rd (v := .int .i64 (rimE rim)) (rd_assign rfl) rfl ?_
  refine Wx.nil ?_
  refine W.seq ?_
  refine W.reg ?_
  refine Wx.rd (v := .int .i64 (rimE rim)) (rd_move rfl) rfl ?_
  refine Wx.rd (v := .bool (decide ((rimE rim) ≠ 0))) (rd_neq rfl rfl) rfl ?_
  refine Wx.nil ?_
  refine W.condD rfl (fun c0 => ?_) (fun c0 => ?_)
  · -- yes
    refine W.seq ?_
    refine W.reg ?_
    refine Wx.rd (v := .int .i64 (rimE rim)) (rd_move rfl) rfl ?_
    refine Wx.rd (v := .int .i64 0) (rd_assign rfl) rfl ?_
    refine Wx.rd (v := .int .i64 (rimE rim)) (rd_assign rfl) rfl ?_
    refine Wx.nil ?_
    have e0_0 : (mostV rim) = (0 : Int) := by rw [mostV, if_neg c0]
    exact W.ret ⟨.tuple #[.int .i64 0, .int .i64 (rimE rim)], ResIs.two, hS.bel, (by rw [e0_0])⟩
  · -- no
    have hr0 : rimE rim = 0 := by omega
    obtain ⟨hr1, hr2⟩ := rimE_ok hr0
    refine W.skip ?_
    refine W.seq ?_
    refine W.reg ?_
    refine Wx.rd (v := .string rim) (rd_move rfl) rfl ?_
    refine Wx.callF (run_callF Tryz.call33 rfl) (C5.F33 (by first | assumption | (simp only [maxLen]; omega) | (simp only [ByteArray.size_extract, ByteArray.size_append, maxLen] at *; omega) | decide) (by omega) hr2 (hG.ext hS.bel)) rfl ?_
    rintro r_4 w_5 hx_6 ⟨g_tb, T_tb, rfl, hg_7, hh_8, hT_tb⟩
    have hS := hS.pushBox hx_6 hg_7 hh_8
    have hB_tb := hT_tb.1
    refine Wx.callF (run_callF Tryz.call34 rfl) (C5.F34 (boxAt hS 0 rfl (Ext.refl _)) hB_tb (by omega)) rfl ?_
    rintro r_9 w_10 hx_11 rfl
    have hS := hS.ext hx_11
    refine Wx.rd (v := .int .i64 ((T_tb 0 rim.size).1)) (rd_fieldV rfl ftHf_88_0 Tryz.isAgg3 rfl) rfl ?_
    refine Wx.rd (v := .int .i64 ((T_tb 0 rim.size).1)) (rd_assign rfl) rfl ?_
    refine Wx.rd (v := .int .i64 0) (rd_assign rfl) rfl ?_
    refine Wx.nil ?_
    have e1_0 : (mostV rim) = ((T_tb 0 rim.size).1 : Int) := by rw [mostV, if_pos hr0, hT_tb.all]
    have e1_1 : (rimE rim) = (0 : Int) := by exact hr0
    exact W.ret ⟨.tuple #[.int .i64 ((T_tb 0 rim.size).1), .int .i64 0], ResIs.two, hS.bel, (by rw [e1_0, e1_1])⟩
end Go.Proofs.YtodcppoglpfodaaGreatDoor

namespace Go.Proofs.YtodcppoglpfodaaGreatDoor
open Go.Wk Go.RowKit Go.Lib
set_option linter.unusedVariables false
set_option linter.unusedSimpArgs false
theorem foQa_73_1 : fldOff Tryz.prog 73 1 = some 0 := by kernel_rfl
theorem foQa_75_0 : fldOff Tryz.prog 75 0 = some 0 := by kernel_rfl

theorem F47 {iv sv : Value} {gR : Nat} {dn st : Int} {ob : List Ob} {w0 w : World} {O : List (Option Nat)} (i_d : InK .u32 dn) (hS : St w0 O w (.box gR 83 [.int .u32 dn, .int .i32 st, .int .u32 0, iv, sv] :: ob)) : Calls Tryz.prog 47 #[.pointer (some ⟨gR, 0, none⟩)] w (Bk fun r w' => r = .bool (decide (dn ≠ 0)) ∧ St w0 O w' (.box gR 83 [.int .u32 dn, .int .i32 st, .int .u32 0, iv, sv] :: ob)) := by
  have b_d := bd_u32 i_d
  refine enterB Tryz.func47 rfl Tryz.ntmps47 Tryz.results47 rfl ?_
  refine W.seq ?_
  refine W.reg ?_
  refine Wx.rd (v := .bool false) (rd_assign rfl) rfl ?_
  refine Wx.nil ?_
  refine W.seq ?_
  refine W.reg ?_
  refine Wx.rd (v := .pointer (some ⟨gR, 0, none⟩)) (rd_move rfl) rfl ?_
  refine Wx.rd (v := .pointer (some ⟨gR, 0, none⟩)) (rd_nilCheck rfl rfl) rfl ?_
  refine Wx.rd (v := .pointer (some ⟨gR, 0, none⟩)) (rd_fieldAddr rfl foQa_73_1) rfl ?_
  refine Wx.val (v := .int .u32 dn) (run_callX (run_call_load Tryz.func60 (by kernel_rfl) (by kernel_rfl) (by kernel_rfl) .u32 (by kernel_rfl) (hS.boxCell (o := 0) 0 rfl rfl)) rfl) rfl ?_
  refine Wx.rd (v := .bool (decide (dn ≠ 0))) (rd_neq rfl rfl) rfl ?_
  refine Wx.rd (v := .bool (decide (dn ≠ 0))) (rd_assign rfl) rfl ?_
  refine Wx.nil ?_
  exact W.ret ⟨.bool (decide (dn ≠ 0)), ResIs.one, rfl, hS⟩

theorem F84 {b : Bool} {w : World}  : Calls Tryz.prog 84 #[.bool b] w (Ret w (fun r _ => r = .int .u32 (if b = true then 1 else 0))) := by
  have hS := St.start0 w
  refine enterR Tryz.func84 rfl Tryz.ntmps84 Tryz.results84 rfl ?_
  refine W.seq ?_
  refine W.reg ?_
  refine Wx.rd (v := .int .u32 0) (rd_assign rfl) rfl ?_
  refine Wx.nil ?_
  refine W.seq ?_
  refine W.seq ?_
  refine W.reg ?_
  refine Wx.rd (v := .bool b) (rd_move rfl) rfl ?_
  refine Wx.nil ?_
  refine W.cond rfl (fun c0 => ?_) (fun c0 => ?_)
  · -- yes
    try simp only [Bool.and_eq_true, Bool.or_eq_true, Bool.not_eq_true', Bool.and_eq_false_iff, Bool.or_eq_false_iff, Bool.not_eq_false', decide_eq_true_eq, decide_eq_false_iff_not, not_or, Bool.false_eq_true, Bool.true_eq_false, false_or, or_false, not_false_eq_true] at c0
    refine W.seq ?_
    refine W.reg ?_
    refine Wx.rd (v := .int .u32 1) (rd_assign rfl) rfl ?_
    refine Wx.nil ?_
    have e0_0 : (if b = true then 1 else 0) = (1 : Int) := by rw [if_pos c0]
    exact W.ret ⟨.int .u32 1, ResIs.one, hS.bel, (by rw [e0_0])⟩
  · -- no
    try simp only [Bool.and_eq_true, Bool.or_eq_true, Bool.not_eq_true', Bool.and_eq_false_iff, Bool.or_eq_false_iff, Bool.not_eq_false', decide_eq_true_eq, decide_eq_false_iff_not, not_or, Bool.false_eq_true, Bool.true_eq_false, false_or, or_false, not_false_eq_true] at c0
    refine W.skip ?_
    refine W.seq ?_
    refine W.reg ?_
    refine Wx.rd (v := .int .u32 0) (rd_assign rfl) rfl ?_
    refine Wx.nil ?_
    have e1_0 : (if b = true then 1 else 0) = (0 : Int) := by rw [if_neg (by simp [c0])]
    exact W.ret ⟨.int .u32 0, ResIs.one, hS.bel, (by rw [e1_0])⟩

theorem F81 {iv sv : Value} {gR : Nat} {dn : Int} {ob : List Ob} {w0 w : World} {O : List (Option Nat)}  (hS : St w0 O w (.box gR 83 [.int .u32 dn, .int .i32 0, .int .u32 0, iv, sv] :: ob)) : Calls Tryz.prog 81 #[.pointer (some ⟨gR, 1, none⟩)] w (Bk fun r w' => r = .tuple #[] ∧ St w0 O w' (.box gR 83 [.int .u32 dn, .int .i32 1, .int .u32 0, iv, sv] :: ob)) := by
  refine enterB Tryz.func81 rfl Tryz.ntmps81 Tryz.results81 rfl ?_
  refine W.seq ?_
  refine W.reg ?_
  refine Wx.val (v := .tuple #[]) (run_callX (run_call_mark0 Tryz.func96 (by kernel_rfl) (by kernel_rfl) (by kernel_rfl) .disable (by kernel_rfl) _) rfl) rfl ?_
  refine Wx.nil ?_
  refine W.seq ?_
  refine W.seq ?_
  refine W.reg ?_
  refine Wx.rd (v := .pointer (some ⟨gR, 1, none⟩)) (rd_move rfl) rfl ?_
  refine Wx.rd (v := .pointer (some ⟨gR, 1, none⟩)) (rd_nilCheck rfl rfl) rfl ?_
  refine Wx.rd (v := .pointer (some ⟨gR, 1, none⟩)) (rd_fieldAddr rfl foQa_75_0) rfl ?_
  refine Wx.val (v := .bool true) (run_callX (run_call_cas_hit Tryz.func97 (by kernel_rfl) (by kernel_rfl) (by kernel_rfl) .i32 (by kernel_rfl) (hS.boxCell (o := 1) 0 rfl rfl) (hS.boxFree (o := 1) 0 rfl)) rfl) rfl ?_
  have hS := hS.setCell (o := 1) 0 rfl (.int .i32 1) rfl
  generalize World.setCell w ⟨gR, 1, none⟩ (.int .i32 1) = w_1 at hS ⊢
  have hS : St _ _ w_1 (.box gR 83 [.int .u32 dn, .int .i32 1, .int .u32 0, iv, sv] :: ob) := hS
  refine Wx.nil ?_
  refine W.condT rfl rfl ?_
  refine W.seq ?_
  refine W.condT rfl rfl ?_
  refine W.seq ?_
  refine W.reg ?_
  refine Wx.val (v := .tuple #[]) (run_callX (run_call_mark0 Tryz.func98 (by kernel_rfl) (by kernel_rfl) (by kernel_rfl) .enable (by kernel_rfl) _) rfl) rfl ?_
  refine Wx.nil ?_
  refine W.reg ?_
  refine Wx.rd (v := .pointer (some ⟨gR, 1, none⟩)) (rd_move rfl) rfl ?_
  refine Wx.val (v := .pointer (some ⟨gR, 1, none⟩)) (run_convU rfl (run_convert_to_unsafe Tryz.underlying178 Tryz.underlying118 (by kernel_rfl) (hS.boxCell (o := 1) 0 rfl rfl))) rfl ?_
  refine Wx.val (v := .tuple #[]) (run_callX (run_call_marked Tryz.func99 (by kernel_rfl) (by kernel_rfl) (by kernel_rfl) .acquire (by kernel_rfl) _ _) rfl) rfl ?_
  refine Wx.nil ?_
  exact W.ret ⟨.tuple #[], ResIs.zero, rfl, hS⟩

theorem F82 {iv sv : Value} {gR : Nat} {dn : Int} {ob : List Ob} {w0 w : World} {O : List (Option Nat)}  (hS : St w0 O w (.box gR 83 [.int .u32 dn, .int .i32 1, .int .u32 0, iv, sv] :: ob)) : Calls Tryz.prog 82 #[.pointer (some ⟨gR, 1, none⟩)] w (Bk fun r w' => r = .tuple #[] ∧ St w0 O w' (.box gR 83 [.int .u32 dn, .int .i32 0, .int .u32 0, iv, sv] :: ob)) := by
  refine enterB Tryz.func82 rfl Tryz.ntmps82 Tryz.results82 rfl ?_
  refine W.seq ?_
  refine W.condT rfl rfl ?_
  refine W.seq ?_
  refine W.reg ?_
  refine Wx.rd (v := .pointer (some ⟨gR, 1, none⟩)) (rd_move rfl) rfl ?_
  refine Wx.rd (v := .pointer (some ⟨gR, 1, none⟩)) (rd_nilCheck rfl rfl) rfl ?_
  refine Wx.rd (v := .pointer (some ⟨gR, 1, none⟩)) (rd_fieldAddr rfl foQa_75_0) rfl ?_
  refine Wx.rd (v := .int .i32 1) (rd_loadX hS 0 rfl rfl rfl Tryz.isAgg21) rfl ?_
  refine Wx.nil ?_
  refine W.seq ?_
  refine W.reg ?_
  refine Wx.rd (v := .pointer (some ⟨gR, 1, none⟩)) (rd_move rfl) rfl ?_
  refine Wx.val (v := .pointer (some ⟨gR, 1, none⟩)) (run_convU rfl (run_convert_to_unsafe Tryz.underlying178 Tryz.underlying118 (by kernel_rfl) (hS.boxCell (o := 1) 0 rfl rfl))) rfl ?_
  refine Wx.val (v := .tuple #[]) (run_callX (run_call_marked Tryz.func101 (by kernel_rfl) (by kernel_rfl) (by kernel_rfl) .releaseMerge (by kernel_rfl) _ _) rfl) rfl ?_
  refine Wx.nil ?_
  refine W.reg ?_
  refine Wx.val (v := .tuple #[]) (run_callX (run_call_mark0 Tryz.func96 (by kernel_rfl) (by kernel_rfl) (by kernel_rfl) .disable (by kernel_rfl) _) rfl) rfl ?_
  refine Wx.nil ?_
  refine W.seq ?_
  refine W.reg ?_
  refine Wx.rd (v := .pointer (some ⟨gR, 1, none⟩)) (rd_move rfl) rfl ?_
  refine Wx.rd (v := .pointer (some ⟨gR, 1, none⟩)) (rd_nilCheck rfl rfl) rfl ?_
  refine Wx.rd (v := .pointer (some ⟨gR, 1, none⟩)) (rd_fieldAddr rfl foQa_75_0) rfl ?_
  refine Wx.val (v := .int .i32 0) (run_callX (run_call_add Tryz.func102 (by kernel_rfl) (by kernel_rfl) (by kernel_rfl) .i32 (by kernel_rfl) (hS.boxCell (o := 1) 0 rfl rfl) (hS.boxFree (o := 1) 0 rfl) (by simp [go_sem]; rfl)) rfl) rfl ?_
  have hS := hS.setCell (o := 1) 0 rfl (.int .i32 0) rfl
  generalize World.setCell w ⟨gR, 1, none⟩ (.int .i32 0) = w_1 at hS ⊢
  have hS : St _ _ w_1 (.box gR 83 [.int .u32 dn, .int .i32 0, .int .u32 0, iv, sv] :: ob) := hS
  refine Wx.rd (v := .int .i32 0) (rd_assign rfl) rfl ?_
  refine Wx.nil ?_
  refine W.seq ?_
  refine W.seq ?_
  refine W.reg ?_
  refine Wx.rd (v := .int .i32 0) (rd_move rfl) rfl ?_
  refine Wx.rd (v := .bool false) (Rd.to (v := .bool (decide ((0 : Int) ≠ 0))) (rd_neq rfl rfl) rfl) rfl ?_
  refine Wx.nil ?_
  refine W.condF rfl rfl ?_
  refine W.skip ?_
  refine W.reg ?_
  refine Wx.val (v := .tuple #[]) (run_callX (run_call_mark0 Tryz.func98 (by kernel_rfl) (by kernel_rfl) (by kernel_rfl) .enable (by kernel_rfl) _) rfl) rfl ?_
  refine Wx.nil ?_
  exact ⟨.tuple #[], ResIs.zero, rfl, hS⟩
end Go.Proofs.YtodcppoglpfodaaGreatDoor

namespace Go.Proofs.YtodcppoglpfodaaGreatDoor
open Go.Wk Go.RowKit Go.Lib
set_option linter.unusedVariables false
set_option linter.unusedSimpArgs false
theorem foQb_77_1 : fldOff Tryz.prog 77 1 = some 0 := by kernel_rfl
theorem mixedQb_ : Tryz.prog.follows .mixedOrders = true := by kernel_rfl
theorem foQb_73_1 : fldOff Tryz.prog 73 1 = some 0 := by kernel_rfl

theorem F61 {iv sv : Value} {gR : Nat} {dn : Int} {ob : List Ob} {w0 w : World} {O : List (Option Nat)}  (hS : St w0 O w (.box gR 83 [.int .u32 dn, .int .i32 0, .int .u32 0, iv, sv] :: ob)) : Calls Tryz.prog 61 #[.pointer (some ⟨gR, 1, none⟩)] w (Bk fun r w' => r = .tuple #[] ∧ St w0 O w' (.box gR 83 [.int .u32 dn, .int .i32 1, .int .u32 0, iv, sv] :: ob)) := by
  refine enterB Tryz.func61 rfl Tryz.ntmps61 Tryz.results61 rfl ?_
  refine W.reg ?_
  refine Wx.rd (v := .pointer (some ⟨gR, 1, none⟩)) (rd_move rfl) rfl ?_
  refine Wx.rd (v := .pointer (some ⟨gR, 1, none⟩)) (rd_nilCheck rfl rfl) rfl ?_
  refine Wx.rd (v := .pointer (some ⟨gR, 1, none⟩)) (rd_fieldAddr rfl foQb_77_1) rfl ?_
  have hS : St _ _ w (.box gR 83 [.int .u32 dn, .int .i32 0, .int .u32 0, iv, sv] :: ob) := hS
  refine Wx.callB (run_callF Tryz.call81 rfl) (F81 (ob := (ob))  hS) rfl ?_
  rintro r_1 w_2 ⟨rfl, hS⟩
  have hS : St _ _ w_2 (.box gR 83 [.int .u32 dn, .int .i32 1, .int .u32 0, iv, sv] :: ob) := hS
  have hS : St _ _ w_2 (.box gR 83 [.int .u32 dn, .int .i32 1, .int .u32 0, iv, sv] :: ob) := hS
  refine Wx.nil ?_
  exact ⟨.tuple #[], ResIs.zero, rfl, hS⟩

theorem unlockD {fm : FrameMode} {iv sv : Value} {gR : Nat} {dn : Int} {ob : List Ob} {w0 w : World} {O : List (Option Nat)}  (hS : St w0 O w (.box gR 83 [.int .u32 dn, .int .i32 1, .int .u32 0, iv, sv] :: ob)) : CallsD Tryz.prog 62 #[.pointer (some ⟨gR, 1, none⟩)] fm w (fun e u' w' => u' = fm ∧ (Bk fun r w' => r = .tuple #[] ∧ St w0 O w' (.box gR 83 [.int .u32 dn, .int .i32 0, .int .u32 0, iv, sv] :: ob)) e w') := by
  refine enterBD Tryz.func62 rfl Tryz.ntmps62 Tryz.results62 rfl ?_
  refine W.reg ?_
  refine Wx.rd (v := .pointer (some ⟨gR, 1, none⟩)) (rd_move rfl) rfl ?_
  refine Wx.rd (v := .pointer (some ⟨gR, 1, none⟩)) (rd_nilCheck rfl rfl) rfl ?_
  refine Wx.rd (v := .pointer (some ⟨gR, 1, none⟩)) (rd_fieldAddr rfl foQb_77_1) rfl ?_
  have hS : St _ _ w (.box gR 83 [.int .u32 dn, .int .i32 1, .int .u32 0, iv, sv] :: ob) := hS
  refine Wx.callB (run_callF Tryz.call82 rfl) (F82 (ob := (ob))  hS) rfl ?_
  rintro r_1 w_2 ⟨rfl, hS⟩
  have hS : St _ _ w_2 (.box gR 83 [.int .u32 dn, .int .i32 0, .int .u32 0, iv, sv] :: ob) := hS
  have hS : St _ _ w_2 (.box gR 83 [.int .u32 dn, .int .i32 0, .int .u32 0, iv, sv] :: ob) := hS
  refine Wx.nil ?_
  exact ⟨.tuple #[], ResIs.zero, rfl, hS⟩

theorem storeD {fm : FrameMode} {iv sv : Value} {gR : Nat} {dn st : Int} {ob : List Ob} {w0 w : World} {O : List (Option Nat)}  (hS : St w0 O w (.box gR 83 [.int .u32 dn, .int .i32 st, .int .u32 0, iv, sv] :: ob)) : CallsD Tryz.prog 63 #[.pointer (some ⟨gR, 0, none⟩), .bool true] fm w (fun e u' w' => u' = fm ∧ (Bk fun r w' => r = .tuple #[] ∧ St w0 O w' (.box gR 83 [.int .u32 1, .int .i32 st, .int .u32 0, iv, sv] :: ob)) e w') := by
  refine enterBD Tryz.func63 rfl Tryz.ntmps63 Tryz.results63 rfl ?_
  refine W.regT 5 mixedQb_ (by kernel_rfl) ?_
  refine Wx.rd (v := .pointer (some ⟨gR, 0, none⟩)) (rd_move rfl) rfl ?_
  refine Wx.rd (v := .pointer (some ⟨gR, 0, none⟩)) (rd_nilCheck rfl rfl) rfl ?_
  refine Wx.rd (v := .pointer (some ⟨gR, 0, none⟩)) (rd_fieldAddr rfl foQb_73_1) rfl ?_
  refine Wx.rd (v := .bool true) (rd_move rfl) rfl ?_
  refine Wx.callV (v := .int .u32 (if true = true then 1 else 0)) (run_callF Tryz.call84 rfl) (fun w_1 hw_2 => (F84)) rfl ?_
  rw [show (if true = true then 1 else 0 : Int) = 1 from if_pos rfl]
  refine Wx.nilQ (fun w_3 hx_4 => ?_)
  have hS := hS.ext hx_4
  refine Wx.val (v := .tuple #[]) (run_callX (run_call_store Tryz.func83 (by kernel_rfl) (by kernel_rfl) (by kernel_rfl) (by kernel_rfl) (hS.boxCell (o := 0) 0 rfl rfl) (hS.boxFree (o := 0) 0 rfl)) rfl) rfl ?_
  have hS := hS.setCell (o := 0) 0 rfl (.int .u32 1) rfl
  generalize World.setCell w_3 ⟨gR, 0, none⟩ (.int .u32 1) = w_5 at hS ⊢
  have hS : St _ _ w_5 (.box gR 83 [.int .u32 1, .int .i32 st, .int .u32 0, iv, sv] :: ob) := hS
  refine Wx.nil ?_
  exact ⟨.tuple #[], ResIs.zero, rfl, hS⟩
end Go.Proofs.YtodcppoglpfodaaGreatDoor

namespace Go.Proofs.YtodcppoglpfodaaGreatDoor
open Go.Wk Go.RowKit Go.Lib
set_option linter.unusedVariables false
set_option linter.unusedSimpArgs false
theorem foQd_83_2 : fldOff Tryz.prog 83 2 = some 4 := by kernel_rfl

set_option maxHeartbeats 2000000 in
theorem F49 {iv sv : Value} {gR : Nat} {dn st : Int} {ob : List Ob} {w0 w : World} {O : List (Option Nat)} (hS : St w0 O w (Ob.v (tSl tStr) RPS sv :: .box gR 83 [.int .u32 dn, .int .i32 st, .int .u32 0, iv, sv] :: ob)) : Calls Tryz.prog 49 #[.pointer (some ⟨gR, 0, none⟩)] w (Bk fun r w' => ∃ g, r = .iface 131 (.pointer (some ⟨g, 0, none⟩)) ∧ St w0 O w' (.box g 130 (List.map (Value.int .u8) TBR) :: Ob.v (tSl tStr) RPS sv :: .box gR 83 [.int .u32 dn, .int .i32 st, .int .u32 0, iv, sv] :: ob)) := by
  have hrl : RPS.length = 4 := rfl
  refine enterB Tryz.func49 rfl Tryz.ntmps49 Tryz.results49 rfl ?_
  refine W.seq ?_
  refine W.reg ?_
  refine Wx.rd (v := .nilIface) (rd_assign rfl) rfl ?_
  refine Wx.nil ?_
  refine W.seq ?_
  refine W.reg ?_
  refine Wx.rd (v := .pointer (some ⟨gR, 0, none⟩)) (rd_move rfl) rfl ?_
  refine Wx.rd (v := .pointer (some ⟨gR, 0, none⟩)) (rd_nilCheck rfl rfl) rfl ?_
  refine Wx.rd (v := .pointer (some ⟨gR, 4, none⟩)) (rd_fieldAddr rfl foQd_83_2) rfl ?_
  refine Wx.rd (v := sv) (rd_loadX hS 1 rfl rfl rfl Tryz.isAgg67) rfl ?_
  refine Wx.rd (v := sv) (rd_assign rfl) rfl ?_
  refine Wx.nil ?_
  refine W.seq ?_
  refine W.seq ?_
  refine W.reg ?_
  refine Wx.rd (v := sv) (rd_move rfl) rfl ?_
  refine Wx.rd (v := .int .i64 (RPS.length : Int)) (rd_lenV rfl (hS.v 0 rfl) Tryz.underlying67) rfl ?_
  refine Wx.rd (v := .bool (decide ((RPS.length : Int) = 2))) (rd_eql rfl rfl) rfl ?_
  refine Wx.rd (v := .bool (decide ((RPS.length : Int) = 2))) (rd_move rfl) rfl ?_
  refine Wx.cut (X := Unit) 6 [23, 24, 25, 26, 27, 28] (fun _ => [(28, .bool (decide ((RPS.length : Int) = 2) && decide (1 < ((ix ByteArray.empty RPS 0).size : Int))))]) (fun _ w' => St w0 O w' (Ob.v (tSl tStr) RPS sv :: .box gR 83 [.int .u32 dn, .int .i32 st, .int .u32 0, iv, sv] :: ob)) ?_ ?_
  · rcases Bool.eq_false_or_eq_true (decide ((RPS.length : Int) = 2)) with g_1 | g_1
    · -- True
      have gp_2 := of_decide_eq_true g_1
      refine Wx.gyes rfl rfl (congrArg Value.bool g_1) ?_
      refine Wx.rd (v := sv) (rd_move rfl) rfl ?_
      refine Wx.gyes rfl rfl (congrArg Value.bool g_1) ?_
      refine Wx.ex (rd_index ByteArray.empty (hS.v 0 rfl) rfl rfl Tryz.underlying67 Tryz.sizeOf9 (by first | omega | (simp only [List.length_set, List.length_append, List.length_cons, List.length_nil, List.length_replicate]; omega)) (by first | omega | (simp only [List.length_set, List.length_append, List.length_cons, List.length_nil, List.length_replicate]; omega))) rfl (fun p_3 hp_4 => ?_)
      refine Wx.gyes rfl rfl (congrArg Value.bool g_1) ?_
      refine Wx.ex (rd_load hp_4 rfl Tryz.isAgg9 Tryz.sizeOf9) rfl (fun v_5 hv_6 => ?_)
      obtain ⟨rfl, sz_7⟩ := hv_6.str
      refine Wx.gyes rfl rfl (congrArg Value.bool g_1) ?_
      refine Wx.rd (v := .int .i64 ((ix ByteArray.empty RPS 0).size : Int)) (rd_lenS rfl Tryz.underlying9) rfl ?_
      refine Wx.gyes rfl rfl (congrArg Value.bool g_1) ?_
      refine Wx.rd (v := .bool (decide (1 < ((ix ByteArray.empty RPS 0).size : Int)))) (rd_gtr rfl rfl) rfl ?_
      refine Wx.rd (v := .bool (decide (1 < ((ix ByteArray.empty RPS 0).size : Int)))) (rd_pickT (congrArg Value.bool g_1) rfl) rfl ?_
      refine Wx.nil ⟨(), hS, ⟨?_, trivial⟩, Out.look rfl Out.refl⟩
      show Value.bool (decide (1 < ((ix ByteArray.empty RPS 0).size : Int))) = Value.bool (decide ((RPS.length : Int) = 2) && decide (1 < ((ix ByteArray.empty RPS 0).size : Int)))
      first | rw [g_1, Bool.true_and] | (rw [g_1]; rfl)
    · -- False
      have gp_8 := of_decide_eq_false g_1
      refine Wx.gnoB rfl rfl (congrArg Value.bool g_1) rfl rfl ?_
      refine Wx.gnoB rfl rfl (congrArg Value.bool g_1) rfl rfl ?_
      refine Wx.gnoB rfl rfl (congrArg Value.bool g_1) rfl rfl ?_
      refine Wx.gnoB rfl rfl (congrArg Value.bool g_1) rfl rfl ?_
      refine Wx.gnoB rfl rfl (congrArg Value.bool g_1) rfl rfl ?_
      refine Wx.rd (v := .bool false) (rd_pickF (congrArg Value.bool g_1) rfl) rfl ?_
      refine Wx.nil ⟨(), hS, ⟨?_, trivial⟩, Out.look rfl Out.refl⟩
      show Value.bool false = Value.bool (decide ((RPS.length : Int) = 2) && decide (1 < ((ix ByteArray.empty RPS 0).size : Int)))
      first | rw [g_1, Bool.false_and] | (rw [g_1]; rfl)
  rintro ⟨⟩ u_10 w_9 hS
  refine Wx.nil ?_
  refine W.condF rfl rfl ?_
  refine W.skip ?_
  refine W.seq ?_
  refine W.reg ?_
  refine Wx.rd (v := .bool true) (rd_assign rfl) rfl ?_
  refine Wx.nil ?_
  refine W.seq ?_
  refine W.seq ?_
  refine W.reg ?_
  refine Wx.rd (v := .int .i64 0) (rd_assign rfl) rfl ?_
  refine Wx.nil ?_
  refine W.block ?_
  refine W.loop [2, 4, 5, 37, 38, 39, 40, 41, 42, 43, 44, 45, 46, 47, 48, 49, 50, 51, 52, 53, 54, 55, 56, 57, 58] (fun x : Bool × Int => match x with | (ab, i) => [(4, .bool ab), (5, .int .i64 i)]) (fun (x : Bool × Int) w' => match x with | (ab, i) => St w0 O w' (Ob.v (tSl tStr) RPS sv :: .box gR 83 [.int .u32 dn, .int .i32 st, .int .u32 0, iv, sv] :: ob) ∧ (i = 0 ∨ i = 2 ∨ i = 4) ∧ ab = true) (fun x : Bool × Int => match x with | (ab, i) => (4 - i).toNat) (true, 0) ⟨rfl, rfl, trivial⟩ ⟨hS, (by first | omega | simp), (rfl)⟩ ?_
  rintro ⟨ab, i⟩ u_12 w_11 ⟨hS, h0, h1⟩
  refine W.seq ?_
  refine W.seq ?_
  refine W.reg ?_
  refine Wx.rd (v := .int .i64 i) (rd_move rfl) rfl ?_
  refine Wx.rd (v := sv) (rd_move rfl) rfl ?_
  refine Wx.rd (v := .int .i64 (RPS.length : Int)) (rd_lenV rfl (hS.v 0 rfl) Tryz.underlying67) rfl ?_
  refine Wx.rd (v := .bool (decide (i < (RPS.length : Int)))) (rd_lss rfl rfl) rfl ?_
  refine Wx.nil ?_
  refine W.condD rfl (fun c1 => ?_) (fun c1 => ?_)
  · -- yes
    have hs0 := rps_size (k := i) (by omega) (by omega)
    have hs1 := rps_size (k := i + 1) (by omega) (by omega)
    refine W.skip ?_
    refine W.seq ?_
    refine W.block ?_
    refine W.seq ?_
    refine W.seq ?_
    refine W.reg ?_
    refine Wx.rd (v := sv) (rd_move rfl) rfl ?_
    refine Wx.rd (v := .int .i64 i) (rd_move rfl) rfl ?_
    refine Wx.ex (rd_index ByteArray.empty (hS.v 0 rfl) rfl rfl Tryz.underlying67 Tryz.sizeOf9 (by first | omega | (simp only [List.length_set, List.length_append, List.length_cons, List.length_nil, List.length_replicate]; omega)) (by first | omega | (simp only [List.length_set, List.length_append, List.length_cons, List.length_nil, List.length_replicate]; omega))) rfl (fun p_13 hp_14 => ?_)
    refine Wx.ex (rd_load hp_14 rfl Tryz.isAgg9 Tryz.sizeOf9) rfl (fun v_15 hv_16 => ?_)
    obtain ⟨rfl, sz_17⟩ := hv_16.str
    refine Wx.rd (v := .int .i64 ((ix ByteArray.empty RPS i).size : Int)) (rd_lenS rfl Tryz.underlying9) rfl ?_
    refine Wx.rd (v := .bool (decide (((ix ByteArray.empty RPS i).size : Int) ≠ 1))) (rd_neq rfl rfl) rfl ?_
    refine Wx.nil ?_
    refine W.condF rfl (decide_eq_false (by omega)) ?_
    refine W.skip ?_
    refine W.seq ?_
    refine W.reg ?_
    refine Wx.rd (v := sv) (rd_move rfl) rfl ?_
    refine Wx.rd (v := .int .i64 i) (rd_move rfl) rfl ?_
    refine Wx.rd (v := .int .i64 (i + 1)) (rd_add rfl rfl (in_i64 (by omega) (by omega))) rfl ?_
    refine Wx.ex (rd_index ByteArray.empty (hS.v 0 rfl) rfl rfl Tryz.underlying67 Tryz.sizeOf9 (by first | omega | (simp only [List.length_set, List.length_append, List.length_cons, List.length_nil, List.length_replicate]; omega)) (by first | omega | (simp only [List.length_set, List.length_append, List.length_cons, List.length_nil, List.length_replicate]; omega))) rfl (fun p_18 hp_19 => ?_)
    refine Wx.ex (rd_load hp_19 rfl Tryz.isAgg9 Tryz.sizeOf9) rfl (fun v_20 hv_21 => ?_)
    obtain ⟨rfl, sz_22⟩ := hv_21.str
    refine Wx.rd (v := .int .i64 ((ix ByteArray.empty RPS (i + 1)).size : Int)) (rd_lenS rfl Tryz.underlying9) rfl ?_
    refine Wx.rd (v := .bool (decide (((ix ByteArray.empty RPS (i + 1)).size : Int) ≠ 1))) (rd_neq rfl rfl) rfl ?_
    refine Wx.nil ?_
    refine W.condF rfl (decide_eq_false (by omega)) ?_
    refine W.skip ?_
    refine W.reg ?_
    refine Wx.rd (v := .int .i64 i) (rd_move rfl) rfl ?_
    refine Wx.rd (v := .int .i64 (i + 2)) (rd_add rfl rfl (in_i64 (by omega) (by omega))) rfl ?_
    refine Wx.rd (v := .int .i64 (i + 2)) (rd_assign rfl) rfl ?_
    refine Wx.nil ?_
    refine ⟨(ab, i + 2), (by show (4 - (i + 2)).toNat < (4 - i).toNat; omega), ?_, ?_, Out.look rfl Out.self⟩
    · exact ⟨hS, (by first | omega | assumption), (h1)⟩
    · exact ⟨rfl, rfl, trivial⟩
  · -- no
    refine W.exit rfl ?_
    refine W.seq ?_
    refine W.seq ?_
    refine W.reg ?_
    refine Wx.rd (v := .bool ab) (rd_move rfl) rfl ?_
    refine Wx.nil ?_
    refine W.condT rfl h1 ?_
    refine W.seq ?_
    refine W.reg ?_
    refine Wx.rd (v := .agg (List.map (Value.int .u8) (List.replicate 256 (0 : Int))).toArray) (rd_build (vs := []) rfl (by kernel_rfl)) rfl ?_
    refine Wx.alloc (cs := List.map (Value.int .u8) (List.replicate 256 (0 : Int))) hS Tryz.zeroValue130 (by kernel_rfl) rfl (fun g_23 w_24 hx_26 hb_25 hS => ?_)
    have hS : St _ _ w_24 (.box g_23 130 (List.map (Value.int .u8) (List.replicate 256 (0 : Int))) :: Ob.v (tSl tStr) RPS sv :: .box gR 83 [.int .u32 dn, .int .i32 st, .int .u32 0, iv, sv] :: ob) := hS
    refine Wx.storeX (cs' := List.map (Value.int .u8) (List.replicate 256 (0 : Int))) (ds := List.map (Value.int .u8) (List.replicate 256 (0 : Int))) hS 0 rfl rfl rfl rfl (fun w' => by rw [List.length_map, List.length_replicate]; exact Tryz.sizeOf130 w') (by rw [List.length_map, List.length_replicate]; omega) (by intro u hu; obtain ⟨_, _, rfl⟩ := List.mem_map.1 hu; rfl) (by rw [List.take_zero, List.nil_append, List.drop_of_length_le (by omega), List.append_nil]) (fun w_27 hz_28 hS => ?_)
    refine Wx.nil ?_
    refine W.seq ?_
    refine W.seq ?_
    refine W.reg ?_
    refine Wx.rd (v := .int .i64 0) (rd_move rfl) rfl ?_
    refine Wx.nil ?_
    refine W.block ?_
    refine W.loop [7, 61, 62, 63, 64, 65, 66, 67, 68] (fun x : Int × (List Int) => match x with | (k, y2) => [(61, .int .i64 k)]) (fun (x : Int × (List Int)) w' => match x with | (k, y2) => St w0 O w' (.box g_23 130 (List.map (Value.int .u8) y2) :: Ob.v (tSl tStr) RPS sv :: .box gR 83 [.int .u32 dn, .int .i32 st, .int .u32 0, iv, sv] :: ob) ∧ 0 ≤ k ∧ k ≤ 256 ∧ y2 = idT k) (fun x : Int × (List Int) => match x with | (k, y2) => (256 - k).toNat) (0, (List.replicate 256 (0 : Int))) ⟨rfl, trivial⟩ ⟨hS, (by first | omega | simp), (by first | omega | simp), (rfl)⟩ ?_
    rintro ⟨k, y2⟩ u_30 w_29 ⟨hS, g0, g1, g2⟩
    refine W.seq ?_
    refine W.reg ?_
    refine Wx.rd (v := .bool (decide (k < 256))) (rd_lss rfl rfl) rfl ?_
    refine Wx.nil ?_
    refine W.seq ?_
    refine W.condD rfl (fun c5 => ?_) (fun c5 => ?_)
    · -- yes
      have hyl2 : y2.length = 256 := by rw [g2]; exact idT_len g0 g1
      refine W.skip ?_
      refine W.seq ?_
      refine W.block ?_
      refine W.seq ?_
      refine W.reg ?_
      refine Wx.rd (v := .int .i64 k) (rd_move rfl) rfl ?_
      refine Wx.rd (v := .int .i64 k) (rd_assign rfl) rfl ?_
      refine Wx.nil ?_
      refine W.reg ?_
      refine Wx.rd (v := .int .i64 k) (rd_move rfl) rfl ?_
      refine Wx.rd (v := .int .i64 k) (rd_move rfl) rfl ?_
      refine Wx.rd (v := .int .u8 k) (rd_convIn rfl Tryz.underlying3 Tryz.underlying5 (in_u8 (by omega) (by omega))) rfl ?_
      refine Wx.rd (v := .pointer (some ⟨g_23, 0 + k.toNat * 1, none⟩)) (rd_indexArr rfl rfl Tryz.underlying130 Tryz.sizeOf5 (by omega) (by omega)) rfl ?_
      refine Wx.storeXa (j := k) (f := (Value.int .u8)) (u := k) hS 0 rfl rfl (by omega) rfl rfl rfl Tryz.sizeOf5 (by omega) (by omega) (fun w_31 hz_32 hS => ?_)
      refine Wx.nil ?_
      refine W.reg ?_
      refine Wx.rd (v := .int .i64 (k + 1)) (rd_add rfl rfl (in_i64 (by omega) (by omega))) rfl ?_
      refine Wx.rd (v := .int .i64 (k + 1)) (rd_move rfl) rfl ?_
      refine Wx.nil ?_
      refine ⟨(k + 1, List.set y2 k.toNat k), (by show (256 - (k + 1)).toNat < (256 - k).toNat; omega), ?_, ?_, Out.look rfl Out.self⟩
      · exact ⟨hS, (by first | omega | assumption), (by first | omega | assumption), (by rw [g2, idT_next g0 c5])⟩
      · exact ⟨rfl, trivial⟩
    · -- no
      have hyk : y2 = idT 256 := by rw [g2, show k = 256 by omega]
      refine W.exit rfl ?_
      refine W.seq ?_
      refine W.seq ?_
      refine W.reg ?_
      refine Wx.rd (v := sv) (rd_move rfl) rfl ?_
      refine Wx.rd (v := .int .i64 (RPS.length : Int)) (rd_lenV rfl (hS.v 1 rfl) Tryz.underlying67) rfl ?_
      refine Wx.rd (v := .int .i64 ((RPS.length : Int) - 2)) (rd_sub rfl rfl (in_i64 (by omega) (by omega))) rfl ?_
      refine Wx.rd (v := .int .i64 ((RPS.length : Int) - 2)) (rd_assign rfl) rfl ?_
      refine Wx.nil ?_
      refine W.block ?_
      refine W.loop [8, 9, 10, 72, 73, 74, 75, 76, 77, 78, 79, 80, 81, 82, 83, 84, 85, 86, 87, 88, 89] (fun x : Int × (List Int) => match x with | (j, y3) => [(8, .int .i64 j)]) (fun (x : Int × (List Int)) w' => match x with | (j, y3) => St w0 O w' (.box g_23 130 (List.map (Value.int .u8) y3) :: Ob.v (tSl tStr) RPS sv :: .box gR 83 [.int .u32 dn, .int .i32 st, .int .u32 0, iv, sv] :: ob) ∧ (j = 2 ∨ j = 0 ∨ j = -2) ∧ y3 = tbK j) (fun x : Int × (List Int) => match x with | (j, y3) => (j + 2).toNat) ((RPS.length : Int) - 2, y2) ⟨rfl, trivial⟩ ⟨hS, (by simp [RPS]), (by rw [hyk]; rfl)⟩ ?_
      rintro ⟨j, y3⟩ u_34 w_33 ⟨hS, j0, j1⟩
      refine W.seq ?_
      refine W.seq ?_
      refine W.reg ?_
      refine Wx.rd (v := .int .i64 j) (rd_move rfl) rfl ?_
      refine Wx.rd (v := .bool (decide (0 ≤ j))) (rd_geq rfl rfl) rfl ?_
      refine Wx.nil ?_
      refine W.condD rfl (fun c6 => ?_) (fun c6 => ?_)
      · -- yes
        have hs0 := rps_size (k := j) (by omega) (by omega)
        have hs1 := rps_size (k := j + 1) (by omega) (by omega)
        have hyl : y3.length = 256 := by rw [j1]; exact tbK_len j
        refine W.skip ?_
        refine W.seq ?_
        refine W.block ?_
        refine W.seq ?_
        refine W.reg ?_
        refine Wx.rd (v := sv) (rd_move rfl) rfl ?_
        refine Wx.rd (v := .int .i64 j) (rd_move rfl) rfl ?_
        refine Wx.ex (rd_index ByteArray.empty (hS.v 1 rfl) rfl rfl Tryz.underlying67 Tryz.sizeOf9 (by first | omega | (simp only [List.length_set, List.length_append, List.length_cons, List.length_nil, List.length_replicate]; omega)) (by first | omega | (simp only [List.length_set, List.length_append, List.length_cons, List.length_nil, List.length_replicate]; omega))) rfl (fun p_35 hp_36 => ?_)
        refine Wx.ex (rd_load hp_36 rfl Tryz.isAgg9 Tryz.sizeOf9) rfl (fun v_37 hv_38 => ?_)
        obtain ⟨rfl, sz_39⟩ := hv_38.str
        refine Wx.rd (v := .int .u8 (tabAt (ix ByteArray.empty RPS j) 0)) (rd_indexS' (by kernel_rfl) rfl Tryz.underlying9 (by omega) (by omega)) rfl ?_
        have bd_40 := tabAt_bd (ix ByteArray.empty RPS j) 0
        refine Wx.rd (v := .int .u8 (tabAt (ix ByteArray.empty RPS j) 0)) (rd_assign rfl) rfl ?_
        refine Wx.nil ?_
        refine W.seq ?_
        refine W.reg ?_
        refine Wx.rd (v := sv) (rd_move rfl) rfl ?_
        refine Wx.rd (v := .int .i64 j) (rd_move rfl) rfl ?_
        refine Wx.rd (v := .int .i64 (j + 1)) (rd_add rfl rfl (in_i64 (by omega) (by omega))) rfl ?_
        refine Wx.ex (rd_index ByteArray.empty (hS.v 1 rfl) rfl rfl Tryz.underlying67 Tryz.sizeOf9 (by first | omega | (simp only [List.length_set, List.length_append, List.length_cons, List.length_nil, List.length_replicate]; omega)) (by first | omega | (simp only [List.length_set, List.length_append, List.length_cons, List.length_nil, List.length_replicate]; omega))) rfl (fun p_41 hp_42 => ?_)
        refine Wx.ex (rd_load hp_42 rfl Tryz.isAgg9 Tryz.sizeOf9) rfl (fun v_43 hv_44 => ?_)
        obtain ⟨rfl, sz_45⟩ := hv_44.str
        refine Wx.rd (v := .int .u8 (tabAt (ix ByteArray.empty RPS (j + 1)) 0)) (rd_indexS' (by kernel_rfl) rfl Tryz.underlying9 (by omega) (by omega)) rfl ?_
        have bd_46 := tabAt_bd (ix ByteArray.empty RPS (j + 1)) 0
        refine Wx.rd (v := .int .u8 (tabAt (ix ByteArray.empty RPS (j + 1)) 0)) (rd_assign rfl) rfl ?_
        refine Wx.nil ?_
        refine W.reg ?_
        refine Wx.rd (v := .int .u8 (tabAt (ix ByteArray.empty RPS j) 0)) (rd_move rfl) rfl ?_
        refine Wx.rd (v := .int .u8 (tabAt (ix ByteArray.empty RPS (j + 1)) 0)) (rd_move rfl) rfl ?_
        refine Wx.rd (v := .pointer (some ⟨g_23, 0 + (tabAt (ix ByteArray.empty RPS j) 0).toNat * 1, none⟩)) (rd_indexArr rfl rfl Tryz.underlying130 Tryz.sizeOf5 (by omega) (by omega)) rfl ?_
        refine Wx.storeXa (j := (tabAt (ix ByteArray.empty RPS j) 0)) (f := (Value.int .u8)) (u := (tabAt (ix ByteArray.empty RPS (j + 1)) 0)) hS 0 rfl rfl (by omega) rfl rfl rfl Tryz.sizeOf5 (by omega) (by omega) (fun w_47 hz_48 hS => ?_)
        refine Wx.nil ?_
        refine W.reg ?_
        refine Wx.rd (v := .int .i64 j) (rd_move rfl) rfl ?_
        refine Wx.rd (v := .int .i64 (j - 2)) (rd_sub rfl rfl (in_i64 (by omega) (by omega))) rfl ?_
        refine Wx.rd (v := .int .i64 (j - 2)) (rd_assign rfl) rfl ?_
        refine Wx.nil ?_
        refine ⟨(j - 2, List.set y3 (tabAt (ix ByteArray.empty RPS j) 0).toNat (tabAt (ix ByteArray.empty RPS (j + 1)) 0)), (by show ((j - 2) + 2).toNat < (j + 2).toNat; omega), ?_, ?_, Out.look rfl Out.self⟩
        · exact ⟨hS, (by first | omega | assumption), (by rw [j1, tbK_next (by omega)])⟩
        · exact ⟨rfl, trivial⟩
      · -- no
        refine W.exit rfl ?_
        refine W.seq ?_
        refine W.reg ?_
        refine Wx.rd (v := .iface 131 (.pointer (some ⟨g_23, 0, none⟩))) (rd_mkI rfl (by kernel_rfl)) rfl ?_
        refine Wx.rd (v := .iface 131 (.pointer (some ⟨g_23, 0, none⟩))) (rd_assign rfl) rfl ?_
        refine Wx.nil ?_
        exact W.ret ⟨.iface 131 (.pointer (some ⟨g_23, 0, none⟩)), ResIs.one, _, rfl, (by rw [j1, show j = -2 by omega, tbK_end] at hS; exact hS)⟩
end Go.Proofs.YtodcppoglpfodaaGreatDoor

namespace Go.Proofs.YtodcppoglpfodaaGreatDoor
open Go.Wk Go.RowKit Go.Lib
set_option linter.unusedVariables false
set_option linter.unusedSimpArgs false
theorem foQe_83_1 : fldOff Tryz.prog 83 1 = some 3 := by kernel_rfl
theorem foQe_83_2 : fldOff Tryz.prog 83 2 = some 4 := by kernel_rfl

theorem F30 {iv sv : Value} {gR : Nat} {dn st : Int} {ob : List Ob} {w0 w : World} {O : List (Option Nat)} (hS : St w0 O w (Ob.v (tSl tStr) RPS sv :: .box gR 83 [.int .u32 dn, .int .i32 st, .int .u32 0, iv, sv] :: ob)) : Calls Tryz.prog 30 #[.pointer (some ⟨gR, 0, none⟩)] w (Bk fun r w' => r = .tuple #[] ∧ ∃ g, St w0 O w' (.box g 130 (List.map (Value.int .u8) TBR) :: Ob.v (tSl tStr) RPS sv :: .box gR 83 [.int .u32 dn, .int .i32 st, .int .u32 0, .iface 131 (.pointer (some ⟨g, 0, none⟩)), .slice none 0 0] :: ob)) := by
  refine enterB Tryz.func30 rfl Tryz.ntmps30 Tryz.results30 rfl ?_
  refine W.seq ?_
  refine W.reg ?_
  refine Wx.rd (v := .pointer (some ⟨gR, 0, none⟩)) (rd_move rfl) rfl ?_
  refine Wx.rd (v := .pointer (some ⟨gR, 0, none⟩)) (rd_move rfl) rfl ?_
  have hS := hS.front 1 rfl
  have hS := hS.front 1 rfl
  have hS : St _ _ w (Ob.v (tSl tStr) RPS sv :: .box gR 83 [.int .u32 dn, .int .i32 st, .int .u32 0, iv, sv] :: ob) := hS
  refine Wx.callB (run_callF Tryz.call49 rfl) (F49 hS) rfl ?_
  rintro r_1 w_2 ⟨g_3, rfl, hS⟩
  refine Wx.rd (v := .pointer (some ⟨gR, 0, none⟩)) (rd_nilCheck rfl rfl) rfl ?_
  refine Wx.rd (v := .pointer (some ⟨gR, 3, none⟩)) (rd_fieldAddr rfl foQe_83_1) rfl ?_
  refine Wx.storeX (cs' := [.int .u32 dn, .int .i32 st, .int .u32 0, .iface 131 (.pointer (some ⟨g_3, 0, none⟩)), sv]) (ds := [.iface 131 (.pointer (some ⟨g_3, 0, none⟩))]) hS 2 rfl rfl rfl rfl Tryz.sizeOf81 (Nat.le_of_ble_eq_true rfl) (one_cons rfl one_nil) rfl (fun w_4 hz_5 hS => ?_)
  refine Wx.nil ?_
  refine W.reg ?_
  refine Wx.rd (v := .pointer (some ⟨gR, 0, none⟩)) (rd_move rfl) rfl ?_
  refine Wx.rd (v := .pointer (some ⟨gR, 0, none⟩)) (rd_nilCheck rfl rfl) rfl ?_
  refine Wx.rd (v := .pointer (some ⟨gR, 4, none⟩)) (rd_fieldAddr rfl foQe_83_2) rfl ?_
  refine Wx.storeX (cs' := [.int .u32 dn, .int .i32 st, .int .u32 0, .iface 131 (.pointer (some ⟨g_3, 0, none⟩)), (.slice none 0 0)]) (ds := [(.slice none 0 0)]) hS 2 rfl rfl rfl rfl Tryz.sizeOf67 (Nat.le_of_ble_eq_true rfl) (one_cons rfl one_nil) rfl (fun w_6 hz_7 hS => ?_)
  refine Wx.nil ?_
  exact ⟨.tuple #[], ResIs.zero, rfl, _, hS⟩
end Go.Proofs.YtodcppoglpfodaaGreatDoor

namespace Go.Proofs.YtodcppoglpfodaaGreatDoor
open Go.Wk Go.RowKit Go.Lib
set_option linter.unusedVariables false
set_option maxRecDepth 100000 in
set_option maxHeartbeats 1600000 in
theorem F48 {iv sv : Value} {gR : Nat} {ob : List Ob} {w0 w : World} {O : List (Option Nat)} (hS : St w0 O w (Ob.v (tSl tStr) RPS sv :: .box gR 83 [.int .u32 0, .int .i32 0, .int .u32 0, iv, sv] :: ob)) :
    Calls Tryz.prog 48 #[.pointer (some ⟨gR, 0, none⟩), .func (.func 30) #[.pointer (some ⟨gR, 0, none⟩)] #[]] w (Bk fun r w' => r = .tuple #[] ∧
      ∃ g, St w0 O w' (.box g 130 (List.map (Value.int .u8) TBR) :: Ob.v (tSl tStr) RPS sv :: .box gR 83 [.int .u32 1, .int .i32 0, .int .u32 0, .iface 131 (.pointer (some ⟨g, 0, none⟩)), .slice none 0 0] :: ob)) := by
  have hS0 : St w0 O w (.box gR 83 [.int .u32 0, .int .i32 0, .int .u32 0, iv, sv] :: Ob.v (tSl tStr) RPS sv :: ob) := hS.front 1 rfl
  have hnot : ∀ (x : Bool) (w : World), (Op.unary .not (.bool x)).run Tryz.prog w = .ok (.bool (!x)) w := fun _ _ => rfl
  go_enter_defers Tryz.func48, Tryz.ntmps48
  go_wp2_with (go_at_call 61; go_loud (refine (F61 hS0).mono ?_); go_loud ( rintro e w1 ⟨r, rfl, rfl, hS1⟩))
  go_wp2_with (go_at_call 47; refine (F47 ⟨by decide, by decide⟩ hS1).mono ?_; rintro e w2 ⟨r, rfl, rfl, hS2⟩)
  go_wp2_with (go_at_call 30; refine (F30 (hS2.front 1 rfl)).mono ?_; rintro e w3 ⟨r, rfl, rfl, g, hS3⟩)
  have hS4 : St w0 O w3 (.box gR 83 [.int .u32 0, .int .i32 1, .int .u32 0, .iface 131 (.pointer (some ⟨g, 0, none⟩)), .slice none 0 0] :: .box g 130 (List.map (Value.int .u8) TBR) :: Ob.v (tSl tStr) RPS sv :: ob) := hS3.front 2 rfl
  -- two deferred calls, the last laid first
  refine leaves_cons (f := 63) (args := #[.pointer (some ⟨gR, 0, none⟩), .bool true]) (by simp) (by simp [go_sem]) ?_
  refine (storeD hS4).mono ?_
  rintro e u' w4 ⟨rfl, r, rfl, rfl, hS5⟩
  refine leaves_cons (f := 62) (args := #[.pointer (some ⟨gR, 1, none⟩)]) (by simp [settle]) (by simp [go_sem]) ?_
  refine (unlockD hS5).mono ?_
  rintro e u' w5 ⟨rfl, r, rfl, rfl, hS6⟩
  have hS7 : St w0 O w5 (.box g 130 (List.map (Value.int .u8) TBR) :: Ob.v (tSl tStr) RPS sv :: .box gR 83 [.int .u32 1, .int .i32 0, .int .u32 0, .iface 131 (.pointer (some ⟨g, 0, none⟩)), .slice none 0 0] :: ob) := (hS6.front 2 rfl).front 2 rfl
  simp [Leaves, settle, results, Tryz.results48]
  exact ⟨_, rfl, rfl, g, hS7⟩
end Go.Proofs.YtodcppoglpfodaaGreatDoor

namespace Go.Proofs.YtodcppoglpfodaaGreatDoor
open Go.Wk Go.RowKit Go.Lib
set_option linter.unusedVariables false
set_option linter.unusedSimpArgs false
theorem foQh_79_1 : fldOff Tryz.prog 79 1 = some 0 := by kernel_rfl

theorem F29 {iv sv : Value} {gR : Nat}  {ob : List Ob} {w0 w : World} {O : List (Option Nat)}  (hS : St w0 O w (Ob.v (tSl tStr) RPS sv :: .box gR 83 [.int .u32 0, .int .i32 0, .int .u32 0, iv, sv] :: ob)) : Calls Tryz.prog 29 #[.pointer (some ⟨gR, 0, none⟩), .func (.func 30) #[.pointer (some ⟨gR, 0, none⟩)] #[]] w (Bk fun r w' => r = .tuple #[] ∧ ∃ g, St w0 O w' (.box g 130 (List.map (Value.int .u8) TBR) :: Ob.v (tSl tStr) RPS sv :: .box gR 83 [.int .u32 1, .int .i32 0, .int .u32 0, .iface 131 (.pointer (some ⟨g, 0, none⟩)), .slice none 0 0] :: ob)) := by
  refine enterB Tryz.func29 rfl Tryz.ntmps29 Tryz.results29 rfl ?_
  refine W.seq ?_
  refine W.reg ?_
  refine Wx.rd (v := .pointer (some ⟨gR, 0, none⟩)) (rd_move rfl) rfl ?_
  refine Wx.rd (v := .pointer (some ⟨gR, 0, none⟩)) (rd_nilCheck rfl rfl) rfl ?_
  refine Wx.rd (v := .pointer (some ⟨gR, 0, none⟩)) (rd_fieldAddr rfl foQh_79_1) rfl ?_
  have hS := hS.front 1 rfl
  have hS : St _ _ w (.box gR 83 [.int .u32 0, .int .i32 0, .int .u32 0, iv, sv] :: Ob.v (tSl tStr) RPS sv :: ob) := hS
  refine Wx.callB (run_callF Tryz.call47 rfl) (F47 (ob := (Ob.v (tSl tStr) RPS sv :: ob)) (dn := 0) ⟨by decide, by decide⟩ hS) rfl ?_
  rintro r_1 w_2 ⟨rfl, hS⟩
  have hS : St _ _ w_2 (.box gR 83 [.int .u32 0, .int .i32 0, .int .u32 0, iv, sv] :: Ob.v (tSl tStr) RPS sv :: ob) := hS
  have hS := hS.front 1 rfl
  have hS : St _ _ w_2 (Ob.v (tSl tStr) RPS sv :: .box gR 83 [.int .u32 0, .int .i32 0, .int .u32 0, iv, sv] :: ob) := hS
  refine Wx.rd (v := .bool (!(decide ((0 : Int) ≠ 0)))) (rd_not rfl) rfl ?_
  refine Wx.nil ?_
  refine W.condT rfl rfl ?_
  refine W.reg ?_
  refine Wx.rd (v := .pointer (some ⟨gR, 0, none⟩)) (rd_move rfl) rfl ?_
  refine Wx.rd (v := (.func (.func 30) #[.pointer (some ⟨gR, 0, none⟩)] #[])) (rd_move rfl) rfl ?_
  have hS := hS.front 1 rfl
  have hS := hS.front 1 rfl
  have hS : St _ _ w_2 (Ob.v (tSl tStr) RPS sv :: .box gR 83 [.int .u32 0, .int .i32 0, .int .u32 0, iv, sv] :: ob) := hS
  refine Wx.callB (run_callF Tryz.call48 rfl) (F48 hS) rfl ?_
  rintro r_3 w_4 ⟨rfl, g_5, hS⟩
  have hS : St _ _ w_4 (.box g_5 130 (List.map (Value.int .u8) TBR) :: Ob.v (tSl tStr) RPS sv :: .box gR 83 [.int .u32 1, .int .i32 0, .int .u32 0, .iface 131 (.pointer (some ⟨g_5, 0, none⟩)), .slice none 0 0] :: ob) := hS
  refine Wx.nil ?_
  exact ⟨.tuple #[], ResIs.zero, rfl, _, hS⟩
end Go.Proofs.YtodcppoglpfodaaGreatDoor

namespace Go.Proofs.YtodcppoglpfodaaGreatDoor
open Go.Wk Go.RowKit Go.Lib
set_option linter.unusedVariables false
set_option linter.unusedSimpArgs false


theorem F179 {s : ByteArray} {gt : Nat} {ob : List Ob} {w0 w : World} {O : List (Option Nat)} (s_s : s.size ≤ maxLen) (p_1 : 1 ≤ s.size) (p_c : ∀ i : Int, 0 ≤ i → i < s.size → tabAt s i = 105 ∨ tabAt s i = 111) (hS : St w0 O w (.box gt 130 (List.map (Value.int .u8) TBR) :: ob)) : Calls Tryz.prog 179 #[.pointer (some ⟨gt, 0, none⟩), .string s] w (Bk fun r w' => r = .string (rpS s) ∧ ∃ pre, St w0 O w' (pre ++ ob)) := by
  have s63 : s.size ≤ 9223372036854775807 := s_s
  have htl := TBR_len
  refine enterB Tryz.func179 rfl Tryz.ntmps179 Tryz.results179 rfl ?_
  refine W.seq ?_
  refine W.reg ?_
  refine Wx.rd (v := .string ({ data := #[] } : ByteArray)) (rd_assign rfl) rfl ?_
  refine Wx.nil ?_
  refine W.seq ?_
  refine W.reg ?_
  refine Wx.rd (v := (.slice none 0 0)) (rd_assign rfl) rfl ?_
  refine Wx.nil ?_
  refine W.seq ?_
  refine W.seq ?_
  refine W.reg ?_
  refine Wx.rd (v := .int .i64 0) (rd_assign rfl) rfl ?_
  refine Wx.nil ?_
  refine W.block ?_
  refine W.loop [5, 6, 7, 8, 9, 10, 11, 12, 13, 14, 15, 16, 17, 18, 19, 20, 21, 22, 23, 24, 25, 26, 27, 28, 29, 30, 31, 32, 33, 34, 35] (fun x : Value × Int × (List Ob) => match x with | (bv, i, ot) => [(5, bv), (6, .int .i64 i)]) (fun (x : Value × Int × (List Ob)) w' => match x with | (bv, i, ot) => St w0 O w' (.box gt 130 (List.map (Value.int .u8) TBR) :: ot) ∧ 0 ≤ i ∧ i ≤ s.size ∧ BufI s 5 ob i bv ot) (fun x : Value × Int × (List Ob) => match x with | (bv, i, ot) => (s.size - i).toNat) ((.slice none 0 0), 0, ob) ⟨rfl, rfl, trivial⟩ ⟨hS, (by first | omega | simp), (by first | omega | simp), (.inl ⟨rfl, rfl, rfl⟩)⟩ ?_
  rintro ⟨bv, i, ot⟩ u_2 w_1 ⟨hS, h0, h1, hB⟩
  refine W.seq ?_
  refine W.seq ?_
  refine W.reg ?_
  refine Wx.rd (v := .int .i64 i) (rd_move rfl) rfl ?_
  refine Wx.rd (v := .string s) (rd_move rfl) rfl ?_
  refine Wx.rd (v := .int .i64 (s.size : Int)) (rd_lenS rfl Tryz.underlying9) rfl ?_
  refine Wx.rd (v := .bool (decide (i < (s.size : Int)))) (rd_lss rfl rfl) rfl ?_
  refine Wx.nil ?_
  refine W.condD rfl (fun c0 => ?_) (fun c0 => ?_)
  · -- yes
    have hpc := p_c i h0 c0
    have htb := tabAt_bd s i
    refine W.skip ?_
    refine W.seq ?_
    refine W.block ?_
    refine W.seq ?_
    refine W.reg ?_
    refine Wx.rd (v := .string s) (rd_move rfl) rfl ?_
    refine Wx.rd (v := .int .i64 i) (rd_move rfl) rfl ?_
    refine Wx.rd (v := .int .u8 (tabAt s i)) (rd_indexS' (by kernel_rfl) rfl Tryz.underlying9 (by omega) (by omega)) rfl ?_
    have bd_3 := tabAt_bd s i
    refine Wx.rd (v := .int .u8 (tabAt s i)) (rd_assign rfl) rfl ?_
    refine Wx.nil ?_
    refine W.seq ?_
    refine W.reg ?_
    refine Wx.rd (v := .pointer (some ⟨gt, 0, none⟩)) (rd_move rfl) rfl ?_
    refine Wx.rd (v := .int .u8 (tabAt s i)) (rd_move rfl) rfl ?_
    refine Wx.rd (v := .pointer (some ⟨gt, 0, none⟩)) (rd_nilCheck rfl rfl) rfl ?_
    refine Wx.rd (v := .pointer (some ⟨gt, 0 + (tabAt s i).toNat * 1, none⟩)) (rd_indexArr rfl rfl Tryz.underlying130 Tryz.sizeOf5 (by omega) (by omega)) rfl ?_
    refine Wx.rd (v := .int .u8 (ix 0 TBR (tabAt s i))) (rd_loadXa (d := 0) (f := (Value.int .u8)) (j := (tabAt s i)) hS 0 rfl rfl (by omega) (by omega) (by omega) Tryz.isAgg5) rfl ?_
    refine Wx.rd (v := .int .u8 (tabAt s i)) (rd_move rfl) rfl ?_
    refine Wx.rd (v := .bool (decide ((ix 0 TBR (tabAt s i)) ≠ (tabAt s i)))) (rd_neq rfl rfl) rfl ?_
    refine Wx.nil ?_
    refine W.condT rfl (decide_eq_true (by rw [tbr_ix (by omega) (by omega), rpC]; rcases hpc with h | h <;> (rw [h]; decide))) ?_
    refine W.seq ?_
    refine W.seq ?_
    refine W.reg ?_
    refine Wx.rd (v := bv) (rd_move rfl) rfl ?_
    refine Wx.rd (v := .bool (decide (i = 0))) (rd_bufNil (i := i) rfl rfl Tryz.underlying46 (hB.nil (by omega))) rfl ?_
    refine Wx.nil ?_
    refine W.condD rfl (fun c2 => ?_) (fun c2 => ?_)
    · -- yes
      rw [hB.z c2] at hS
      refine W.reg ?_
      refine Wx.rd (v := .string s) (rd_move rfl) rfl ?_
      refine Wx.bytesOf (e := 5) hS rfl Tryz.underlying9 Tryz.underlying46 Tryz.underlying5 rfl (fun g_4 w_5 z_6 hx_7 hS => ?_)
      rw [show strL s = rpK s i by rw [c2]; rfl] at hS
      refine Wx.rd (v := (.slice (some ⟨g_4, 0, none⟩) s.size (s.size + z_6))) (rd_assign rfl) rfl ?_
      refine Wx.nil ?_
      refine W.reg ?_
      refine Wx.rd (v := (.slice (some ⟨g_4, 0, none⟩) s.size (s.size + z_6))) (rd_move rfl) rfl ?_
      refine Wx.rd (v := .int .i64 i) (rd_move rfl) rfl ?_
      refine Wx.rd (v := .pointer (some ⟨gt, 0, none⟩)) (rd_move rfl) rfl ?_
      refine Wx.rd (v := .int .u8 (tabAt s i)) (rd_move rfl) rfl ?_
      refine Wx.rd (v := .pointer (some ⟨gt, 0, none⟩)) (rd_nilCheck rfl rfl) rfl ?_
      refine Wx.rd (v := .pointer (some ⟨gt, 0 + (tabAt s i).toNat * 1, none⟩)) (rd_indexArr rfl rfl Tryz.underlying130 Tryz.sizeOf5 (by omega) (by omega)) rfl ?_
      refine Wx.rd (v := .int .u8 (ix 0 TBR (tabAt s i))) (rd_loadXa (d := 0) (f := (Value.int .u8)) (j := (tabAt s i)) hS 1 rfl rfl (by omega) (by omega) (by omega) Tryz.isAgg5) rfl ?_
      refine Wx.rd (v := (.pointer (some ⟨g_4, i.toNat * 1, none⟩))) (rd_indexO Tryz.underlying46 Tryz.sizeOf5 rfl rfl (by omega) (by omega)) rfl ?_
      refine Wx.storeBuf hS 0 rfl rfl rfl Tryz.sizeOf5 (by rw [rpK_len, Nat.mul_one]; omega) (fun w_8 hz_9 hS => ?_)
      rw [tbr_ix (by omega) (by omega), Nat.mul_one, rpK_next (by omega) (by omega)] at hS
      have hS := hS.front 1 rfl
      have hS : St _ _ w_8 (.box gt 130 (List.map (Value.int .u8) TBR) :: bufO g_4 5 (rpK s (i + 1)) z_6 :: ob) := hS
      have hS : St _ _ w_8 (.box gt 130 (List.map (Value.int .u8) TBR) :: (bufO g_4 5 (rpK s (i + 1)) z_6 :: ob)) := hS
      refine Wx.nil ?_
      refine W.reg ?_
      refine Wx.rd (v := .int .i64 i) (rd_move rfl) rfl ?_
      refine Wx.rd (v := .int .i64 (i + 1)) (rd_add rfl rfl (in_i64 (by omega) (by omega))) rfl ?_
      refine Wx.rd (v := .int .i64 (i + 1)) (rd_assign rfl) rfl ?_
      refine Wx.nil ?_
      refine ⟨((.slice (some ⟨g_4, 0, none⟩) s.size (s.size + z_6)), i + 1, (bufO g_4 5 (rpK s (i + 1)) z_6 :: ob)), (by show (s.size - (i + 1)).toNat < (s.size - i).toNat; omega), ?_, ?_, Out.look rfl Out.self⟩
      · exact ⟨hS, (by first | omega | assumption), (by first | omega | assumption), (.inr ⟨by omega, _, _, rfl, rfl⟩)⟩
      · exact ⟨rfl, rfl, trivial⟩
    · -- no
      obtain ⟨g_10, z_11, hbv, hot⟩ := hB.s c2
      subst hbv
      rw [hot] at hS
      refine W.skip ?_
      refine W.reg ?_
      refine Wx.rd (v := (.slice (some ⟨g_10, 0, none⟩) s.size (s.size + z_11))) (rd_move rfl) rfl ?_
      refine Wx.rd (v := .int .i64 i) (rd_move rfl) rfl ?_
      refine Wx.rd (v := .pointer (some ⟨gt, 0, none⟩)) (rd_move rfl) rfl ?_
      refine Wx.rd (v := .int .u8 (tabAt s i)) (rd_move rfl) rfl ?_
      refine Wx.rd (v := .pointer (some ⟨gt, 0, none⟩)) (rd_nilCheck rfl rfl) rfl ?_
      refine Wx.rd (v := .pointer (some ⟨gt, 0 + (tabAt s i).toNat * 1, none⟩)) (rd_indexArr rfl rfl Tryz.underlying130 Tryz.sizeOf5 (by omega) (by omega)) rfl ?_
      refine Wx.rd (v := .int .u8 (ix 0 TBR (tabAt s i))) (rd_loadXa (d := 0) (f := (Value.int .u8)) (j := (tabAt s i)) hS 0 rfl rfl (by omega) (by omega) (by omega) Tryz.isAgg5) rfl ?_
      refine Wx.rd (v := (.pointer (some ⟨g_10, i.toNat * 1, none⟩))) (rd_indexO Tryz.underlying46 Tryz.sizeOf5 rfl rfl (by omega) (by omega)) rfl ?_
      refine Wx.storeBuf hS 1 rfl rfl rfl Tryz.sizeOf5 (by rw [rpK_len, Nat.mul_one]; omega) (fun w_12 hz_13 hS => ?_)
      rw [tbr_ix (by omega) (by omega), Nat.mul_one, rpK_next (by omega) (by omega)] at hS
      have hS := hS.front 1 rfl
      have hS := hS.front 1 rfl
      have hS : St _ _ w_12 (.box gt 130 (List.map (Value.int .u8) TBR) :: bufO g_10 5 (rpK s (i + 1)) z_11 :: ob) := hS
      have hS : St _ _ w_12 (.box gt 130 (List.map (Value.int .u8) TBR) :: (bufO g_10 5 (rpK s (i + 1)) z_11 :: ob)) := hS
      refine Wx.nil ?_
      refine W.reg ?_
      refine Wx.rd (v := .int .i64 i) (rd_move rfl) rfl ?_
      refine Wx.rd (v := .int .i64 (i + 1)) (rd_add rfl rfl (in_i64 (by omega) (by omega))) rfl ?_
      refine Wx.rd (v := .int .i64 (i + 1)) (rd_assign rfl) rfl ?_
      refine Wx.nil ?_
      refine ⟨((.slice (some ⟨g_10, 0, none⟩) s.size (s.size + z_11)), i + 1, (bufO g_10 5 (rpK s (i + 1)) z_11 :: ob)), (by show (s.size - (i + 1)).toNat < (s.size - i).toNat; omega), ?_, ?_, Out.look rfl Out.self⟩
      · exact ⟨hS, (by first | omega | assumption), (by first | omega | assumption), (.inr ⟨by omega, _, _, rfl, rfl⟩)⟩
      · exact ⟨rfl, rfl, trivial⟩
  · -- no
    obtain ⟨g_14, z_15, hbv, hot⟩ := hB.s (by omega)
    subst hbv
    rw [hot] at hS
    refine W.exit rfl ?_
    refine W.seq ?_
    refine W.seq ?_
    refine W.reg ?_
    refine Wx.rd (v := (.slice (some ⟨g_14, 0, none⟩) s.size (s.size + z_15))) (rd_move rfl) rfl ?_
    refine Wx.rd (v := .bool (decide (i = 0))) (rd_bufNil (i := i) rfl rfl Tryz.underlying46 (hB.nil (by omega))) rfl ?_
    refine Wx.nil ?_
    refine W.condF rfl (decide_eq_false (by omega)) ?_
    refine W.skip ?_
    refine W.seq ?_
    refine W.reg ?_
    refine Wx.rd (v := (.slice (some ⟨g_14, 0, none⟩) s.size (s.size + z_15))) (rd_move rfl) rfl ?_
    refine Wx.rd (v := .string (rpS s)) (rd_bufStr (e := 5) (xs := rpK s i) hS 1 rfl (by rw [rpK_len]; rfl) Tryz.underlying46 Tryz.underlying5 Tryz.underlying9 (rpK_end (by omega))) rfl ?_
    refine Wx.rd (v := .string (rpS s)) (rd_assign rfl) rfl ?_
    refine Wx.nil ?_
    exact W.ret ⟨.string (rpS s), ResIs.one, rfl, [_, _], hS⟩
end Go.Proofs.YtodcppoglpfodaaGreatDoor

namespace Go.Proofs.YtodcppoglpfodaaGreatDoor
open Go.Wk Go.RowKit Go.Lib
set_option linter.unusedVariables false
set_option linter.unusedSimpArgs false
theorem foQi_83_0 : fldOff Tryz.prog 83 0 = some 0 := by kernel_rfl
theorem foQi_83_1 : fldOff Tryz.prog 83 1 = some 3 := by kernel_rfl

theorem F9 {iv sv : Value} {gR : Nat} {s : ByteArray} {ob : List Ob} {w0 w : World} {O : List (Option Nat)} (s_s : s.size ≤ maxLen) (p_1 : 1 ≤ s.size) (p_c : ∀ i : Int, 0 ≤ i → i < s.size → tabAt s i = 105 ∨ tabAt s i = 111) (hS : St w0 O w (Ob.v (tSl tStr) RPS sv :: .box gR 83 [.int .u32 0, .int .i32 0, .int .u32 0, iv, sv] :: ob)) : Calls Tryz.prog 9 #[.pointer (some ⟨gR, 0, none⟩), .string s] w (Bk fun r w' => r = .string (rpS s) ∧ ∃ pre, St w0 O w' (pre ++ ob)) := by
  refine enterB Tryz.func9 rfl Tryz.ntmps9 Tryz.results9 rfl ?_
  refine W.seq ?_
  refine W.reg ?_
  refine Wx.rd (v := .string ({ data := #[] } : ByteArray)) (rd_assign rfl) rfl ?_
  refine Wx.nil ?_
  refine W.seq ?_
  refine W.reg ?_
  refine Wx.rd (v := .pointer (some ⟨gR, 0, none⟩)) (rd_move rfl) rfl ?_
  refine Wx.rd (v := .pointer (some ⟨gR, 0, none⟩)) (rd_nilCheck rfl rfl) rfl ?_
  refine Wx.rd (v := .pointer (some ⟨gR, 0, none⟩)) (rd_fieldAddr rfl foQi_83_0) rfl ?_
  refine Wx.rd (v := .pointer (some ⟨gR, 0, none⟩)) (rd_move rfl) rfl ?_
  refine Wx.rd (v := (.func (.func 30) #[.pointer (some ⟨gR, 0, none⟩)] #[])) (rd_makeFunc (vs := [.pointer (some ⟨gR, 0, none⟩)]) (us := []) rfl rfl) rfl ?_
  have hS := hS.front 1 rfl
  have hS := hS.front 1 rfl
  have hS : St _ _ w (Ob.v (tSl tStr) RPS sv :: .box gR 83 [.int .u32 0, .int .i32 0, .int .u32 0, iv, sv] :: ob) := hS
  refine Wx.callB (run_callF Tryz.call29 rfl) (F29 hS) rfl ?_
  rintro r_1 w_2 ⟨rfl, g_3, hS⟩
  have hS : St _ _ w_2 (.box g_3 130 (List.map (Value.int .u8) TBR) :: Ob.v (tSl tStr) RPS sv :: .box gR 83 [.int .u32 1, .int .i32 0, .int .u32 0, .iface 131 (.pointer (some ⟨g_3, 0, none⟩)), .slice none 0 0] :: ob) := hS
  refine Wx.nil ?_
  refine W.seq ?_
  refine W.reg ?_
  refine Wx.rd (v := .pointer (some ⟨gR, 0, none⟩)) (rd_move rfl) rfl ?_
  refine Wx.rd (v := .pointer (some ⟨gR, 0, none⟩)) (rd_nilCheck rfl rfl) rfl ?_
  refine Wx.rd (v := .pointer (some ⟨gR, 3, none⟩)) (rd_fieldAddr rfl foQi_83_1) rfl ?_
  refine Wx.rd (v := .iface 131 (.pointer (some ⟨g_3, 0, none⟩))) (rd_loadX hS 2 rfl rfl rfl Tryz.isAgg81) rfl ?_
  refine Wx.rd (v := .string s) (rd_move rfl) rfl ?_
  have hS := hS.front 2 rfl
  have hS := hS.front 2 rfl
  have hS := hS.front 2 rfl
  have hS : St _ _ w_2 (.box g_3 130 (List.map (Value.int .u8) TBR) :: Ob.v (tSl tStr) RPS sv :: .box gR 83 [.int .u32 1, .int .i32 0, .int .u32 0, .iface 131 (.pointer (some ⟨g_3, 0, none⟩)), .slice none 0 0] :: ob) := hS
  refine Wx.callB (run_callI (t := 131) (u := .pointer (some ⟨g_3, 0, none⟩)) rfl (fun _ => by kernel_rfl) Tryz.call179 rfl) (F179 s_s p_1 p_c hS) rfl ?_
  rintro r_4 w_5 ⟨rfl, ob_6, hS⟩
  have hS : St w0 O w_5 ((ob_6 ++ [Ob.v (tSl tStr) RPS sv, .box gR 83 [.int .u32 1, .int .i32 0, .int .u32 0, .iface 131 (.pointer (some ⟨g_3, 0, none⟩)), .slice none 0 0]]) ++ ob) := by simpa using hS
  refine Wx.rd (v := .string (rpS s)) (rd_assign rfl) rfl ?_
  refine Wx.nil ?_
  exact W.ret ⟨.string (rpS s), ResIs.one, rfl, _, hS⟩
end Go.Proofs.YtodcppoglpfodaaGreatDoor

namespace Go.Proofs.YtodcppoglpfodaaGreatDoor
open Go.Wk Go.RowKit Go.Lib
set_option linter.unusedVariables false
set_option linter.unusedSimpArgs false
theorem elQc_67 : ElemI Tryz.prog 67 9 (.string ByteArray.empty) 1 16 := ElemI.of Tryz.underlying67 (by kernel_rfl) (by first | rfl | kernel_rfl) (by decide)

theorem F8 {xv : Value} {ob : List Ob} {w0 w : World} {O : List (Option Nat)} (hS : St w0 O w ob) (hv : V (tSl tStr) RPS xv (fb ob O) w) : Calls Tryz.prog 8 #[xv] w (Bk fun r w' => ∃ g v, r = .pointer (some ⟨g, 0, none⟩) ∧ St w0 O w' (Ob.v (tSl tStr) RPS v :: .box g 83 [.int .u32 0, .int .i32 0, .int .u32 0, .nilIface, v] :: ob)) := by
  have hS := hS.add (hv)
  have ln_2 := (hS.v 0 rfl).len63
  refine enterB Tryz.func8 rfl Tryz.ntmps8 Tryz.results8 rfl ?_
  refine W.seq ?_
  refine W.reg ?_
  refine Wx.rd (v := (Go.Value.pointer none)) (rd_assign rfl) rfl ?_
  refine Wx.nil ?_
  refine W.seq ?_
  refine W.seq ?_
  refine W.reg ?_
  refine Wx.rd (v := xv) (rd_move rfl) rfl ?_
  refine Wx.rd (v := .int .i64 (RPS.length : Int)) (rd_lenV rfl (hS.v 0 rfl) Tryz.underlying67) rfl ?_
  refine Wx.rd (v := .int .i64 ((RPS.length : Int) % 2)) (rd_rem rfl rfl (by omega) (by omega)) rfl ?_
  refine Wx.rd (v := .bool (decide (((RPS.length : Int) % 2) = 1))) (rd_eql rfl rfl) rfl ?_
  refine Wx.nil ?_
  refine W.condF rfl rfl ?_
  refine W.skip ?_
  refine W.seq ?_
  refine W.reg ?_
  refine Wx.rd (v := xv) (rd_move rfl) rfl ?_
  have hS := hS.addNil tStr 9
  refine Wx.append elQc_67 hS 0 rfl rfl rfl (Src.ofV (hS.v 1 rfl)) (by decide) (by decide) rfl (fun v_3 w_4 hz_5 hS => ?_)
  refine Wx.rd (v := .agg #[.int .u32 0, .int .i32 0, .int .u32 0, .nilIface, v_3]) (rd_buildC (vs := [(2, v_3)]) (us := [(2, .agg #[v_3])]) rfl (parts_cons (Go.Wk.cells_one (hS.rowOne 0 rfl)) parts_nil) (by kernel_rfl)) rfl ?_
  refine Wx.box (cs := [.int .u32 0, .int .i32 0, .int .u32 0, .nilIface, v_3]) hS rfl rfl rfl (fun g_6 w_7 hx_9 hb_8 hS => ?_)
  refine Wx.rd (v := .pointer (some ⟨g_6, 0, none⟩)) (rd_assign rfl) rfl ?_
  refine Wx.nil ?_
  exact W.ret ⟨.pointer (some ⟨g_6, 0, none⟩), ResIs.one, _, _, rfl, (by have h := hS.freeze 1 rfl; rw [List.nil_append] at h; exact h.drop 2)⟩
end Go.Proofs.YtodcppoglpfodaaGreatDoor

namespace Go.Proofs.YtodcppoglpfodaaGreatDoor
open Go.Wk Go.RowKit Go.Lib Go Go.Proofs
set_option linter.unusedVariables false
theorem x72 : Builder.X72 Tryz.prog Tryz.lays167_ren := ⟨by kernel_rfl, by kernel_rfl⟩
theorem F42 {v p : Value} {g : Nat} {obs : List Ob} {w0 w : World} {O : List (Option Nat)} (hp : p = .pointer none ∨ p = .pointer (some ⟨g, 0, none⟩)) (hS : St w0 O w obs) (i : Nat) (hi : obs[i]? = some (.box g 48 [p, v])) :
    Calls Tryz.prog 42 #[.pointer (some ⟨g, 0, none⟩)] w (Bk fun r w' => r = .tuple #[] ∧ St w0 O w' (obs.set i (.box g 48 [.pointer (some ⟨g, 0, none⟩), v]))) := by
  have hb := hS.get i hi
  have hh : w.heap[g]? = some (.cells #[p, v] 48 (0, 0)) := hb.2
  have hc : w.cell? ⟨g, 0, none⟩ = some p := by simp [World.cell?, hh]
  rcases hp with rfl | rfl
  · refine (Any.Builder_copyCheck_fresh { Tryz.lays167 with } x72 g w hc (by simp [World.shape?, hh]; rfl) (by simp [World.frozen?, hh])).mono ?_
    rintro e w' ⟨rfl, rfl⟩
    refine ⟨_, rfl, rfl, ?_⟩
    rw [setCell_eq_setRow w g 0 _ _ _ _ hh]
    refine hS.turn i hi rfl rfl rfl (by simp) (fun b _ hb' => setRow_other w g b _ (fun hq => hb' (by rw [hq]; rfl))) (fun b hb' => .inl hb') (fun b hb' => by simpa using (Ob.ok_lt hb hb').2) (fun F _ => ?_)
    exact ⟨hb.1, setRow_heap w g _ _ _ _ hh⟩
  · refine (Any.Builder_copyCheck_used { Tryz.lays167 with } x72 g w hc).mono ?_
    rintro e w' ⟨rfl, rfl⟩
    refine ⟨_, rfl, rfl, ?_⟩
    obtain ⟨h1, h2⟩ := List.getElem?_eq_some_iff.1 hi
    rw [← h2, List.set_getElem_self]
    exact hS
theorem F18 {v p : Value} {g : Nat} {l : List UInt8} {obs : List Ob} {w0 w : World} {O : List (Option Nat)} (hp : p = .pointer none ∨ p = .pointer (some ⟨g, 0, none⟩)) (hS : St w0 O w (.row (tI .u8) 5 v (l.map fun b => (b.toNat : Int)) :: .box g 48 [p, v] :: obs)) :
    Calls Tryz.prog 18 #[.pointer (some ⟨g, 0, none⟩)] w (Bk fun r w' => r = .string ⟨l.toArray⟩ ∧ Below w0.heap.size w w') := by
  obtain ⟨cs, hr, hR⟩ := hS.get 0 rfl
  have hb := hS.get 1 rfl
  have hcs : cs = byteCells l := by rw [reps_int hR, List.map_map]; rfl
  have hbl : (byteCells l).length = l.length := by rw [byteCells, List.length_map]
  have hsp := (List.pairwise_cons.1 hS.sep).1 _ (List.mem_cons_self ..)
  have hbd : IsBuilderF 48 5 w0.heap.size g (byteCells l) w := by
    refine IsBuilderF.of ?_
    have hat : BuilderAt 48 5 w0.heap.size g p (byteCells l) w := ⟨hb.1, v, hb.2, by rw [hcs, List.length_map] at hr; rw [hbl]; exact hr, fun hq => by
      rcases hsp with h | h
      · rw [show (Ob.row (tI .u8) 5 v (l.map fun b => (b.toNat : Int))).blk = v.ownBlock from rfl, hq] at h; cases h
      · exact h (by rw [show (Ob.row (tI .u8) 5 v (l.map fun b => (b.toNat : Int))).blk = v.ownBlock from rfl, hq]; rfl)⟩
    rcases hp with rfl | rfl
    · exact .inl hat
    · exact .inr hat
  exact (Tryz.Builder_String_any_f w0.heap.size g l w hbd hS.bel.size).mono fun e w' hh => ⟨_, hh.1, rfl, hh.2.2⟩
end Go.Proofs.YtodcppoglpfodaaGreatDoor

namespace Go.Proofs.YtodcppoglpfodaaGreatDoor
open Go.Wk Go.RowKit Go.Lib
set_option linter.unusedVariables false
set_option linter.unusedSimpArgs false
theorem foLq_48_1 : fldOff Tryz.prog 48 1 = some 1 := by kernel_rfl
theorem elLq_46 : ElemI Tryz.prog 46 5 (.int .u8 0) 1 1 := ElemI.of Tryz.underlying46 (by kernel_rfl) (by first | rfl | kernel_rfl) (by decide)

theorem F17 {v p : Value} {ys : List Int} {gb : Nat} {c : Int} {ob : List Ob} {w0 w : World} {O : List (Option Nat)} (i_c : InK .u8 c) (p_len : (ys.length : Int) ≤ 1000) (hp : p = .pointer none ∨ p = .pointer (some ⟨gb, 0, none⟩)) (hS : St w0 O w (.row (tI .u8) 5 v ys :: .box gb 48 [p, v] :: ob)) : Calls Tryz.prog 17 #[.pointer (some ⟨gb, 0, none⟩), .int .u8 c] w (Bk fun r w' => r = .nilIface ∧ ∃ v', St w0 O w' (.row (tI .u8) 5 v' (ys ++ [c]) :: .box gb 48 [(.pointer (some ⟨gb, 0, none⟩)), v'] :: ob)) := by
  have b_c := bd_u8 i_c
  refine enterB Tryz.func17 rfl Tryz.ntmps17 Tryz.results17 rfl ?_
  refine W.seq ?_
  refine W.reg ?_
  refine Wx.rd (v := (Go.Value.nilIface)) (rd_assign rfl) rfl ?_
  refine Wx.nil ?_
  refine W.seq ?_
  refine W.reg ?_
  refine Wx.rd (v := .pointer (some ⟨gb, 0, none⟩)) (rd_move rfl) rfl ?_
  refine Wx.callB (run_callF Tryz.call42 rfl) (F42 hp hS 1 rfl) rfl ?_
  rintro r_1 w_2 ⟨rfl, hS⟩
  have hS : St _ _ w_2 (.row (tI .u8) 5 v ys :: .box gb 48 [.pointer (some ⟨gb, 0, none⟩), v] :: ob) := hS
  refine Wx.nil ?_
  refine W.seq ?_
  refine W.reg ?_
  refine Wx.rd (v := .pointer (some ⟨gb, 0, none⟩)) (rd_move rfl) rfl ?_
  refine Wx.rd (v := .pointer (some ⟨gb, 0, none⟩)) (rd_move rfl) rfl ?_
  refine Wx.rd (v := .pointer (some ⟨gb, 0, none⟩)) (rd_nilCheck rfl rfl) rfl ?_
  refine Wx.rd (v := .pointer (some ⟨gb, 1, none⟩)) (rd_fieldAddr rfl foLq_48_1) rfl ?_
  refine Wx.rd (v := v) (rd_loadX hS 1 rfl rfl rfl Tryz.isAgg46) rfl ?_
  refine Wx.rd (v := .int .u8 c) (rd_move rfl) rfl ?_
  refine Wx.lit (t := (tI .u8)) (ys := [c]) (vs := [.int .u8 c]) elLq_46 hS rfl rfl ⟨(V.mkInt (in_u8 (by omega) (by omega))), trivial⟩ (by decide) rfl (fun v_3 w_4 hx_5 hS => ?_)
  refine Wx.append elLq_46 hS 1 rfl rfl rfl (Src.ofR hS 0 rfl) (by simp only [maxLen]; first | omega | (simp; omega) | simp) (by first | omega | (simp; omega) | simp) rfl (fun v_6 w_7 hz_8 hS => ?_)
  refine Wx.rd (v := .pointer (some ⟨gb, 0, none⟩)) (rd_nilCheck rfl rfl) rfl ?_
  refine Wx.rd (v := .pointer (some ⟨gb, 1, none⟩)) (rd_fieldAddr rfl foLq_48_1) rfl ?_
  refine Wx.storeX (cs' := [.pointer (some ⟨gb, 0, none⟩), v_6]) (ds := [v_6]) hS 2 rfl rfl rfl (Go.Wk.cells_one (hS.rowOne 1 rfl)) Tryz.sizeOf46 (Nat.le_of_ble_eq_true rfl) (one_cons (hS.rowOne 1 rfl) one_nil) rfl (fun w_9 hz_10 hS => ?_)
  refine Wx.nil ?_
  refine W.seq ?_
  refine W.reg ?_
  refine Wx.rd (v := (Go.Value.nilIface)) (rd_assign rfl) rfl ?_
  refine Wx.nil ?_
  exact W.ret ⟨(Go.Value.nilIface), ResIs.one, rfl, _, (St.tl hS)⟩

theorem F16 {v p : Value} {ys : List Int} {gb : Nat} {mv bg : Int} {ob : List Ob} {w0 w : World} {O : List (Option Nat)} (i_mv : InK .u8 mv) (i_bg : InK .i64 bg) (p_len : (ys.length : Int) ≤ 1000) (hp : p = .pointer none ∨ p = .pointer (some ⟨gb, 0, none⟩)) (hS : St w0 O w (.row (tI .u8) 5 v ys :: .box gb 48 [p, v] :: ob)) : Calls Tryz.prog 16 #[.int .u8 mv, .int .i64 bg, .pointer (some ⟨gb, 0, none⟩)] w (Bk fun r w' => r = .tuple #[] ∧ ∃ v', St w0 O w' (.row (tI .u8) 5 v' (ys ++ [mv]) :: .box gb 48 [(.pointer (some ⟨gb, 0, none⟩)), v'] :: ob)) := by
  have b_mv := bd_u8 i_mv
  refine enterB Tryz.func16 rfl Tryz.ntmps16 Tryz.results16 rfl ?_
  refine W.reg ?_
  refine Wx.rd (v := .int .u8 mv) (rd_move rfl) rfl ?_
  have hS := hS.front 1 rfl
  have hS := hS.front 1 rfl
  have hS : St _ _ w (.row (tI .u8) 5 v ys :: .box gb 48 [p, v] :: ob) := hS
  refine Wx.callB (run_callF Tryz.call17 rfl) (F17 (ob := (ob)) i_mv (by omega) hp hS) rfl ?_
  rintro r_1 w_2 ⟨rfl, v_3, hS⟩
  have hS : St _ _ w_2 (.row (tI .u8) 5 v_3 (ys ++ [mv]) :: .box gb 48 [.pointer (some ⟨gb, 0, none⟩), v_3] :: ob) := hS
  have hS := hS.front 1 rfl
  have hS := hS.front 1 rfl
  have hS : St _ _ w_2 (.row (tI .u8) 5 v_3 (ys ++ [mv]) :: .box gb 48 [.pointer (some ⟨gb, 0, none⟩), v_3] :: ob) := hS
  refine Wx.nil ?_
  exact ⟨.tuple #[], ResIs.zero, rfl, _, hS⟩

theorem tellM {gb : Nat} : TellIn Tryz.prog 16 [.pointer (some ⟨gb, 0, none⟩)] (fun (ls : List (Int × Int)) ob => ∃ p v, (p = .pointer none ∨ p = .pointer (some ⟨gb, 0, none⟩)) ∧ ob = [.row (tI .u8) 5 v (ls.map (·.1)), .box gb 48 [p, v]]) := by
  rintro ls mv x pre ob w0 w O hl hm hx ⟨p, v, hp, rfl⟩ hS
  have hS2 : St w0 O w ([.row (tI .u8) 5 v (ls.map (·.1)), .box gb 48 [p, v]] ++ (pre ++ [])) := St.pull (pre := pre) (A := [.row (tI .u8) 5 v (ls.map (·.1)), .box gb 48 [p, v]]) (R := []) (by simpa using hS)
  refine (F16 (ob := pre ++ []) hm hx (by rw [List.length_map]; omega) hp hS2).mono ?_
  rintro e w' ⟨r, he, rfl, v', hS3⟩
  refine ⟨_, he, rfl, [.row (tI .u8) 5 v' (ls.map (·.1) ++ [mv]), .box gb 48 [(.pointer (some ⟨gb, 0, none⟩)), v']], ⟨_, v', .inr rfl, by rw [List.map_append]; rfl⟩, ?_⟩
  have h4 := St.pull (pre := [.row (tI .u8) 5 v' (ls.map (·.1) ++ [mv]), .box gb 48 [(.pointer (some ⟨gb, 0, none⟩)), v']]) (A := pre) (R := []) hS3
  simpa using h4


theorem F5 {xv : Value} {xs : List Int} {O : List (Option Nat)} {w : World} (h_xv : V (tSl (tI .i64)) xs xv O w) (p_ok : PmOK xs) (hO : ∀ b, some b ∈ O → b < w.heap.size) : Calls Tryz.prog 5 #[xv] w (Ret w (fun r _ => r = .tuple #[.string (mvS xs), .int .i64 0])) := by
  have p_n : (xs.length : Int) ≤ 7 := p_ok.n.2
  have a_xv := h_xv
  have l_xv := h_xv.len63
  have hS := St.start w O hO
  refine enterR Tryz.func5 rfl Tryz.ntmps5 Tryz.results5 rfl ?_
  refine W.seq ?_
  refine W.reg ?_
  refine Wx.rd (v := .string ({ data := #[] } : ByteArray)) (rd_assign rfl) rfl ?_
  refine Wx.rd (v := .int .i64 0) (rd_assign rfl) rfl ?_
  refine Wx.nil ?_
  refine W.seq ?_
  refine W.seq ?_
  refine W.reg ?_
  refine Wx.rd (v := xv) (rd_move rfl) rfl ?_
  refine Wx.callF (run_callF Tryz.call14 rfl) (F14 (hS.arg a_xv) p_ok) rfl ?_
  rintro r_1 w_2 hx_3 rfl
  have hS := hS.ext hx_3
  refine Wx.rd (v := .int .i64 0) (rd_assign rfl) rfl ?_
  refine Wx.nil ?_
  refine W.seq ?_
  refine W.reg ?_
  refine Wx.rd (v := .int .i64 0) (rd_move rfl) rfl ?_
  refine Wx.rd (v := .bool false) (Rd.to (v := .bool (decide ((0 : Int) ≠ 0))) (rd_neq rfl rfl) rfl) rfl ?_
  refine Wx.nil ?_
  refine W.condF rfl rfl ?_
  refine W.skip ?_
  refine W.seq ?_
  refine W.reg ?_
  refine Wx.alloc (cs := [(.pointer none), (.slice none 0 0)]) hS Tryz.zeroValue48 rfl rfl (fun g_4 w_5 hx_7 hb_6 hS => ?_)
  have hS := hS.addNil (tI .u8) 5
  refine Wx.nil ?_
  refine W.seq ?_
  refine W.reg ?_
  refine Wx.rd (v := xv) (rd_move rfl) rfl ?_
  refine Wx.rd (v := .func (.func 16) #[] #[.pointer (some ⟨g_4, 0, none⟩)]) (rd_makeFunc (vs := []) (us := [.pointer (some ⟨g_4, 0, none⟩)]) rfl rfl) rfl ?_
  have hS := hS.front 1 rfl
  have hS := hS.front 1 rfl
  have hS : St _ _ w_5 [.row (tI .u8) 5 (.slice none 0 0) [], .box g_4 48 [(.pointer none), (.slice none 0 0)]] := hS
  refine Wx.callB (run_callF Tryz.call15 rfl) (F15 (xs := xs) (ls := []) (Tl := (fun (ls : List (Int × Int)) ob => ∃ p v, (p = .pointer none ∨ p = .pointer (some ⟨g_4, 0, none⟩)) ∧ ob = [.row (tI .u8) 5 v (ls.map (·.1)), .box g_4 48 [p, v]])) (ft := 16) (ct := [.pointer (some ⟨g_4, 0, none⟩)]) (ob := [.row (tI .u8) 5 (.slice none 0 0) [], .box g_4 48 [(.pointer none), (.slice none 0 0)]]) (fun _ _ => Go.Proofs.enters_of Tryz.func16 (by kernel_rfl) rfl _ _) tellM ⟨_, _, .inl rfl, rfl⟩ p_n (by decide) hS (hS.arg a_xv)) rfl ?_
  rintro r_8 w_9 ⟨rfl, _, ⟨p_11, v_10, hp, rfl⟩, hS⟩
  have hS : St _ _ w_9 [.row (tI .u8) 5 v_10 (List.map (fun q : Int × Int => q.1) ([] ++ pasV xs)), .box g_4 48 [p_11, v_10]] := hS
  refine Wx.nil ?_
  refine W.seq ?_
  refine W.reg ?_
  rw [List.nil_append, mvB_eq] at hS
  refine Wx.callB (run_callF Tryz.call18 rfl) (F18 hp hS) rfl ?_
  rintro r_12 w_13 ⟨rfl, hBe⟩
  have hS := (St.start0 w).ext (Below.trans hS.bel hBe)
  refine Wx.rd (v := .string (mvS xs)) (rd_assign rfl) rfl ?_
  refine Wx.rd (v := .int .i64 0) (rd_assign rfl) rfl ?_
  refine Wx.nil ?_
  exact W.ret ⟨.tuple #[.string (mvS xs), .int .i64 0], ResIs.two, hS.bel, rfl⟩
end Go.Proofs.YtodcppoglpfodaaGreatDoor

namespace Go.Proofs.YtodcppoglpfodaaGreatDoor
open Go.Wk Go.RowKit Go.Lib
set_option linter.unusedVariables false
set_option linter.unusedSimpArgs false
theorem elLr_23 : ElemI Tryz.prog 23 3 (.int .i64 0) 1 8 := ElemI.of Tryz.underlying23 (by kernel_rfl) (by first | rfl | kernel_rfl) (by decide)

theorem F6 {xv : Value} {xs : List Int} {m : ByteArray} {O : List (Option Nat)} {w : World} (h_xv : V (tSl (tI .i64)) xs xv O w) (s_m : m.size ≤ maxLen) (p_ok : PmOK xs) (p_m : m = mvS xs) (p_r : rnOK xs = true) (hO : ∀ b, some b ∈ O → b < w.heap.size) : Calls Tryz.prog 6 #[xv, .string m] w (Ret w (fun r w' => ∃ rv, r = .tuple #[rv, .int .i64 0] ∧ Fresh (tI .i64) 3 (rnV xs) rv w.heap.size w')) := by
  have p_n : (xs.length : Int) ≤ 7 := p_ok.n.2
  have hmz : ((mvL xs).length : Int) = m.size := by rw [p_m]; exact mvL_len xs
  have hmz2 : (mvL xs).length ≤ 2 * xs.length := by rw [mvL, List.length_map]; exact pasv_len xs
  have a_xv := h_xv
  have l_xv := h_xv.len63
  have hS := St.start w O hO
  refine enterR Tryz.func6 rfl Tryz.ntmps6 Tryz.results6 rfl ?_
  refine W.seq ?_
  refine W.reg ?_
  refine Wx.rd (v := (.slice none 0 0)) (rd_assign rfl) rfl ?_
  refine Wx.rd (v := .int .i64 0) (rd_assign rfl) rfl ?_
  refine Wx.nil ?_
  refine W.seq ?_
  refine W.seq ?_
  refine W.reg ?_
  refine Wx.rd (v := xv) (rd_move rfl) rfl ?_
  refine Wx.callF (run_callF Tryz.call14 rfl) (F14 (hS.arg a_xv) p_ok) rfl ?_
  rintro r_1 w_2 hx_3 rfl
  have hS := hS.ext hx_3
  refine Wx.rd (v := .int .i64 0) (rd_assign rfl) rfl ?_
  refine Wx.nil ?_
  refine W.seq ?_
  refine W.reg ?_
  refine Wx.rd (v := .int .i64 0) (rd_move rfl) rfl ?_
  refine Wx.rd (v := .bool false) (Rd.to (v := .bool (decide ((0 : Int) ≠ 0))) (rd_neq rfl rfl) rfl) rfl ?_
  refine Wx.nil ?_
  refine W.condF rfl rfl ?_
  refine W.skip ?_
  refine W.seq ?_
  refine W.reg ?_
  refine Wx.alloc (cs := [(.slice none 0 0)]) hS Tryz.zeroValue56 rfl rfl (fun g_4 w_5 hx_7 hb_6 hS => ?_)
  refine Wx.nil ?_
  refine W.seq ?_
  refine W.reg ?_
  refine Wx.rd (v := (.slice none 0 0)) (rd_assign rfl) rfl ?_
  refine Wx.nil ?_
  refine W.seq ?_
  refine W.reg ?_
  refine Wx.rd (v := xv) (rd_move rfl) rfl ?_
  refine Wx.rd (v := xv) (rd_assign rfl) rfl ?_
  refine Wx.nil ?_
  refine W.seq ?_
  refine W.seq ?_
  refine W.reg ?_
  refine Wx.rd (v := .string m) (rd_move rfl) rfl ?_
  refine Wx.rd (v := .int .i64 (m.size : Int)) (rd_lenS rfl Tryz.underlying9) rfl ?_
  refine Wx.rd (v := .int .i64 0) (rd_move rfl) rfl ?_
  refine Wx.nil ?_
  refine W.block ?_
  have hS := hS.addNil (tI .i64) 3
  have hS := hS.addNil (tI .i64) 3
  have hv_9 : V (tSl (tI .i64)) xs xv _ _ := (hS.arg a_xv)
  have hS := hS.add (hv_9)
  refine W.loop [4, 5, 8, 9, 10, 11, 12, 21, 22, 23, 24, 25, 26, 27, 28, 29, 30, 31, 32, 33, 34, 35, 36, 37, 38, 39, 40, 41, 42, 43, 44, 45, 46, 47, 48, 49, 50, 51] (fun x : Value × Int × Value × (List Int) × Value × (List Int) × Int => match x with | (lv, i, v2, ys2, u2, os2, c) => [(9, lv), (21, .int .i64 i), (8, u2)]) (fun (x : Value × Int × Value × (List Int) × Value × (List Int) × Int) w' => match x with | (lv, i, v2, ys2, u2, os2, c) => St w O w' [Ob.v (tSl (tI .i64)) (List.drop c.toNat xs) lv, .row (tI .i64) 3 v2 ys2, .row (tI .i64) 3 u2 os2, .box g_4 56 [v2]] ∧ 0 ≤ i ∧ i ≤ m.size ∧ rnK xs i = (ys2, c, os2) ∧ 0 ≤ c ∧ c ≤ xs.length ∧ (ys2.length : Int) + os2.length ≤ i) (fun x : Value × Int × Value × (List Int) × Value × (List Int) × Int => match x with | (lv, i, v2, ys2, u2, os2, c) => (m.size - i).toNat) (xv, 0, (.slice none 0 0), [], (.slice none 0 0), [], 0) ⟨rfl, rfl, rfl, trivial⟩ ⟨hS, (by first | omega | simp), (by first | omega | simp), (rfl), (by first | omega | simp), (by first | omega | simp)⟩ ?_
  rintro ⟨lv, i, v2, ys2, u2, os2, c⟩ u_11 w_10 ⟨hS, h0, h1, h2, h3, h4⟩
  refine W.seq ?_
  refine W.reg ?_
  refine Wx.rd (v := .bool (decide (i < (m.size : Int)))) (rd_lss rfl rfl) rfl ?_
  refine Wx.nil ?_
  refine W.seq ?_
  refine W.condD rfl (fun c1 => ?_) (fun c1 => ?_)
  · -- yes
    have hrg := rnk_ok p_r h0 (by rw [← p_m]; exact c1)
    have htb := tab_mv (xs := xs) h0 (by rw [← p_m]; exact c1)
    rw [← p_m] at htb
    rw [h2, ← htb] at hrg
    simp only [rnG, Bool.or_eq_true, Bool.and_eq_true, decide_eq_true_iff] at hrg
    refine W.skip ?_
    refine W.seq ?_
    refine W.block ?_
    refine W.seq ?_
    refine W.reg ?_
    refine Wx.rd (v := .int .i64 i) (rd_move rfl) rfl ?_
    refine Wx.rd (v := .int .i64 i) (rd_assign rfl) rfl ?_
    refine Wx.nil ?_
    refine W.seq ?_
    refine W.reg ?_
    refine Wx.rd (v := .string m) (rd_move rfl) rfl ?_
    refine Wx.rd (v := .int .i64 i) (rd_move rfl) rfl ?_
    refine Wx.rd (v := .int .u8 (tabAt m i)) (rd_indexS' (by kernel_rfl) rfl Tryz.underlying9 (by omega) (by omega)) rfl ?_
    have bd_12 := tabAt_bd m i
    refine Wx.nil ?_
    refine W.block ?_
    refine W.seq ?_
    refine W.reg ?_
    refine Wx.rd (v := .bool (decide ((tabAt m i) = 105))) (rd_eql rfl rfl) rfl ?_
    refine Wx.rd (v := .bool (decide ((tabAt m i) = 105))) (rd_assign rfl) rfl ?_
    refine Wx.nil ?_
    refine W.condD rfl (fun c2 => ?_) (fun c2 => ?_)
    · -- yes
      have hld : ((List.drop c.toNat xs).length : Int) = xs.length - c := by rw [List.length_drop]; omega
      have hix := ix_drop0 (xs := xs) (c := c) (by omega)
      refine W.seq ?_
      refine W.seq ?_
      refine W.reg ?_
      refine Wx.rd (v := lv) (rd_move rfl) rfl ?_
      refine Wx.rd (v := .int .i64 ((List.drop c.toNat xs).length : Int)) (rd_lenV rfl (hS.v 0 rfl) Tryz.underlying23) rfl ?_
      refine Wx.rd (v := .bool (decide (((List.drop c.toNat xs).length : Int) = 0))) (rd_eql rfl rfl) rfl ?_
      refine Wx.nil ?_
      refine W.condF rfl (by simp; omega) ?_
      refine W.skip ?_
      refine W.seq ?_
      refine W.reg ?_
      refine Wx.rd (v := lv) (rd_move rfl) rfl ?_
      refine Wx.ex (rd_index 0 (hS.v 0 rfl) rfl rfl Tryz.underlying23 Tryz.sizeOf3 (by first | omega | (simp only [List.length_set, List.length_append, List.length_cons, List.length_nil, List.length_replicate]; omega)) (by first | omega | (simp only [List.length_set, List.length_append, List.length_cons, List.length_nil, List.length_replicate]; omega))) rfl (fun p_13 hp_14 => ?_)
      refine Wx.rd (v := .int .i64 (ix 0 (List.drop c.toNat xs) 0)) (rd_loadI hp_14 rfl Tryz.isAgg3 Tryz.sizeOf3) rfl ?_
      have bd_15 := bd_i64 hp_14.inK
      have hS := hS.front 2 rfl
      have hS := hS.front 1 rfl
      have hS := hS.front 3 rfl
      have hS := hS.front 3 rfl
      have hS : St _ _ w_10 [.row (tI .i64) 3 v2 ys2, .box g_4 56 [v2], Ob.v (tSl (tI .i64)) (List.drop c.toNat xs) lv, .row (tI .i64) 3 u2 os2] := hS
      refine Wx.callB (run_callF Tryz.call19 rfl) (F19 (ob := [Ob.v (tSl (tI .i64)) (List.drop c.toNat xs) lv, .row (tI .i64) 3 u2 os2]) (x := (ix 0 (List.drop c.toNat xs) 0)) (in_i64 (by omega) (by omega)) (by omega) hS) rfl ?_
      rintro r_16 w_17 ⟨rfl, v_18, hS⟩
      have hS : St _ _ w_17 [.row (tI .i64) 3 v_18 (ys2 ++ [ix 0 (List.drop c.toNat xs) 0]), .box g_4 56 [v_18], Ob.v (tSl (tI .i64)) (List.drop c.toNat xs) lv, .row (tI .i64) 3 u2 os2] := hS
      have hS := hS.front 1 rfl
      have hS := hS.front 3 rfl
      have hS := hS.front 2 rfl
      have hS := hS.front 3 rfl
      have hS : St _ _ w_17 [Ob.v (tSl (tI .i64)) (List.drop c.toNat xs) lv, .row (tI .i64) 3 v_18 (ys2 ++ [ix 0 (List.drop c.toNat xs) 0]), .row (tI .i64) 3 u2 os2, .box g_4 56 [v_18]] := hS
      refine Wx.nil ?_
      refine W.reg ?_
      refine Wx.rd (v := lv) (rd_move rfl) rfl ?_
      refine Wx.ex (rd_sliceL (hS.v 0 rfl) Tryz.underlying23 Tryz.sizeOf3 rfl rfl (by omega) (by omega)) rfl (fun u_19 hu_20 => ?_)
      rw [show (List.drop c.toNat xs).drop (1 : Int).toNat = (List.drop (c + 1).toNat xs) from (by rw [List.drop_drop]; congr 1; omega)] at hu_20
      have ln_21 := hu_20.len63
      have hS := hS.add hu_20
      refine Wx.rd (v := u_19) (rd_assign rfl) rfl ?_
      refine Wx.nil ?_
      refine W.reg ?_
      refine Wx.rd (v := .int .i64 (i + 1)) (rd_add rfl rfl (in_i64 (by omega) (by omega))) rfl ?_
      refine Wx.rd (v := .int .i64 (i + 1)) (rd_move rfl) rfl ?_
      refine Wx.nil ?_
      have hv_23 : V (tSl (tI .i64)) (List.drop (c + 1).toNat xs) u_19 _ _ := (hS.v 0 rfl)
      refine ⟨(u_19, i + 1, v_18, ys2 ++ [ix 0 (List.drop c.toNat xs) 0], u2, os2, c + 1), (by show (m.size - (i + 1)).toNat < (m.size - i).toNat; omega), ?_, ?_, Out.look rfl Out.self⟩
      · exact ⟨(St.add (St.tl (St.tl (hS))) (V.tlF (V.tlF (hv_23)))), (by first | omega | assumption), (by first | omega | assumption), (by rw [rnk_next h0 (by rw [← p_m]; exact c1), h2, rnS, ← htb, if_pos (by omega), hix]), (by first | omega | assumption), (by simp only [List.length_append, List.length_cons, List.length_nil]; omega)⟩
      · exact ⟨rfl, rfl, rfl, trivial⟩
    · -- no
      refine W.seq ?_
      refine W.reg ?_
      refine Wx.rd (v := .bool (decide ((tabAt m i) = 111))) (rd_eql rfl rfl) rfl ?_
      refine Wx.rd (v := .bool (decide ((tabAt m i) = 111))) (rd_assign rfl) rfl ?_
      refine Wx.nil ?_
      refine W.condT rfl (decide_eq_true (by omega)) ?_
      refine W.seq ?_
      refine W.reg ?_
      have hS := hS.front 2 rfl
      have hS := hS.front 1 rfl
      have hS := hS.front 3 rfl
      have hS := hS.front 3 rfl
      have hS : St _ _ w_10 [.row (tI .i64) 3 v2 ys2, .box g_4 56 [v2], Ob.v (tSl (tI .i64)) (List.drop c.toNat xs) lv, .row (tI .i64) 3 u2 os2] := hS
      refine Wx.callB (run_callF Tryz.call20 rfl) (F20 (ob := [Ob.v (tSl (tI .i64)) (List.drop c.toNat xs) lv, .row (tI .i64) 3 u2 os2])  hS) rfl ?_
      rintro r_24 w_25 ⟨rfl, hS⟩
      have hS : St _ _ w_25 [.row (tI .i64) 3 v2 ys2, .box g_4 56 [v2], Ob.v (tSl (tI .i64)) (List.drop c.toNat xs) lv, .row (tI .i64) 3 u2 os2] := hS
      have hS := hS.front 1 rfl
      have hS := hS.front 3 rfl
      have hS := hS.front 2 rfl
      have hS := hS.front 3 rfl
      have hS : St _ _ w_25 [Ob.v (tSl (tI .i64)) (List.drop c.toNat xs) lv, .row (tI .i64) 3 v2 ys2, .row (tI .i64) 3 u2 os2, .box g_4 56 [v2]] := hS
      have bt_26 := bd_i64 (top_in hS 1 rfl)
      refine Wx.rd (v := .tuple #[.int .i64 (topB ys2), .bool (decide (0 < ys2.length))]) (rd_move rfl) rfl ?_
      refine Wx.rd (v := .int .i64 (topB ys2)) (rd_extract rfl rfl) rfl ?_
      refine Wx.rd (v := .bool (decide (0 < ys2.length))) (rd_extract rfl rfl) rfl ?_
      refine Wx.rd (v := .int .i64 (topB ys2)) (rd_assign rfl) rfl ?_
      refine Wx.rd (v := .bool (decide (0 < ys2.length))) (rd_assign rfl) rfl ?_
      refine Wx.nil ?_
      refine W.seq ?_
      refine W.seq ?_
      refine W.reg ?_
      refine Wx.rd (v := .bool (decide (0 < ys2.length))) (rd_move rfl) rfl ?_
      refine Wx.rd (v := .bool (!(decide (0 < ys2.length)))) (rd_not rfl) rfl ?_
      refine Wx.nil ?_
      refine W.condF rfl (by rw [decide_eq_true (by omega)]; rfl) ?_
      refine W.skip ?_
      refine W.seq ?_
      refine W.reg ?_
      have hS := hS.front 2 rfl
      have hS := hS.front 1 rfl
      have hS := hS.front 3 rfl
      have hS := hS.front 3 rfl
      have hS : St _ _ w_25 [.row (tI .i64) 3 v2 ys2, .box g_4 56 [v2], Ob.v (tSl (tI .i64)) (List.drop c.toNat xs) lv, .row (tI .i64) 3 u2 os2] := hS
      refine Wx.callB (run_callF Tryz.call21 rfl) (F21 (ob := [Ob.v (tSl (tI .i64)) (List.drop c.toNat xs) lv, .row (tI .i64) 3 u2 os2]) (by omega) hS) rfl ?_
      rintro r_27 w_28 ⟨rfl, v_29, hS⟩
      have hS : St _ _ w_28 [.row (tI .i64) 3 v_29 (popB ys2), .box g_4 56 [v_29], Ob.v (tSl (tI .i64)) (List.drop c.toNat xs) lv, .row (tI .i64) 3 u2 os2] := hS
      have hS := hS.front 1 rfl
      have hS := hS.front 3 rfl
      have hS := hS.front 2 rfl
      have hS := hS.front 3 rfl
      have hS : St _ _ w_28 [Ob.v (tSl (tI .i64)) (List.drop c.toNat xs) lv, .row (tI .i64) 3 v_29 (popB ys2), .row (tI .i64) 3 u2 os2, .box g_4 56 [v_29]] := hS
      refine Wx.nil ?_
      refine W.reg ?_
      refine Wx.rd (v := u2) (rd_move rfl) rfl ?_
      refine Wx.rd (v := .int .i64 (topB ys2)) (rd_move rfl) rfl ?_
      refine Wx.lit (t := (tI .i64)) (ys := [topB ys2]) (vs := [.int .i64 (topB ys2)]) elLr_23 hS rfl rfl ⟨(V.mkInt (in_i64 (by omega) (by omega))), trivial⟩ (by decide) rfl (fun v_30 w_31 hx_32 hS => ?_)
      refine Wx.append elLr_23 hS 3 rfl rfl rfl (Src.ofR hS 0 rfl) (by simp only [maxLen]; first | omega | (simp; omega) | simp) (by first | omega | (simp; omega) | simp) rfl (fun v_33 w_34 hz_35 hS => ?_)
      refine Wx.rd (v := v_33) (rd_assign rfl) rfl ?_
      refine Wx.nil ?_
      refine W.reg ?_
      refine Wx.rd (v := .int .i64 (i + 1)) (rd_add rfl rfl (in_i64 (by omega) (by omega))) rfl ?_
      refine Wx.rd (v := .int .i64 (i + 1)) (rd_move rfl) rfl ?_
      refine Wx.nil ?_
      have hv_36 : V (tSl (tI .i64)) (List.drop c.toNat xs) lv _ _ := (hS.v 1 rfl)
      refine ⟨(lv, i + 1, v_29, popB ys2, v_33, os2 ++ [topB ys2], c), (by show (m.size - (i + 1)).toNat < (m.size - i).toNat; omega), ?_, ?_, Out.look rfl Out.self⟩
      · exact ⟨(St.add (St.tl (St.tl (hS))) (V.tlF (V.tlF (hv_36)))), (by first | omega | assumption), (by first | omega | assumption), (by rw [rnk_next h0 (by rw [← p_m]; exact c1), h2, rnS, ← htb, if_neg (by omega)]), (by first | omega | assumption), (by have := popB_len (ys := ys2) (by omega); simp only [List.length_append, List.length_cons, List.length_nil]; omega)⟩
      · exact ⟨rfl, rfl, rfl, trivial⟩
  · -- no
    have hend := rnk_end (i := i) p_r (by rw [← p_m]; omega)
    rw [h2] at hend
    dsimp only at hend
    refine W.exit rfl ?_
    refine W.seq ?_
    refine W.seq ?_
    refine W.reg ?_
    refine Wx.rd (v := u2) (rd_move rfl) rfl ?_
    refine Wx.rd (v := .int .i64 (os2.length : Int)) (rd_lenR hS 2 rfl rfl Tryz.underlying23) rfl ?_
    refine Wx.rd (v := xv) (rd_move rfl) rfl ?_
    refine Wx.rd (v := .int .i64 (xs.length : Int)) (rd_lenV rfl (hS.arg a_xv) Tryz.underlying23) rfl ?_
    refine Wx.rd (v := .bool (decide ((os2.length : Int) < (xs.length : Int)))) (rd_lss rfl rfl) rfl ?_
    refine Wx.nil ?_
    refine W.condF rfl (decide_eq_false (by rw [hend.1]; omega)) ?_
    refine W.skip ?_
    refine W.seq ?_
    refine W.reg ?_
    refine Wx.rd (v := u2) (rd_move rfl) rfl ?_
    refine Wx.rd (v := u2) (rd_assign rfl) rfl ?_
    refine Wx.rd (v := .int .i64 0) (rd_assign rfl) rfl ?_
    refine Wx.nil ?_
    have e0_0 : rnV xs = os2 := by exact hend.1.symm
    exact W.ret ⟨.tuple #[u2, .int .i64 0], ResIs.two, hS.bel, ⟨u2, rfl, (by rw [e0_0]; exact (hS.fr 2 rfl flat_int))⟩⟩
end Go.Proofs.YtodcppoglpfodaaGreatDoor

namespace Go.Proofs.YtodcppoglpfodaaGreatDoor
open Go.Wk Go.RowKit Go.Lib
set_option linter.unusedVariables false
set_option linter.unusedSimpArgs false
theorem elLs_23 : ElemI Tryz.prog 23 3 (.int .i64 0) 1 8 := ElemI.of Tryz.underlying23 (by kernel_rfl) (by first | rfl | kernel_rfl) (by decide)
theorem mixedLs_ : Tryz.prog.follows .mixedOrders = true := by kernel_rfl

theorem F4 {b : Int} {bs : List Int} {m : Int} {O : List (Option Nat)} {w : World} (i_b : InK .u8 b) (n_bs : bs.length = 7) (i_bs : ∀ z ∈ bs, InK .u8 z) (i_m : InK .i64 m) (p_m : 1 ≤ m ∧ m ≤ 6) (hO : ∀ b, some b ∈ O → b < w.heap.size) : Calls Tryz.prog 4 #[.int .u8 b, .agg (List.map (Value.int .u8) bs).toArray, .int .i64 m] w (Ret w (fun r w' => ∃ rv, r = rv ∧ Fresh (tI .i64) 3 (comV b bs m) rv w.heap.size w')) := by
  have b_m := bd_i64 i_m
  have b_b := bd_u8 i_b
  have hnm := Int.emod_nonneg b (show m ≠ 0 by omega)
  have hnl := Int.emod_lt_of_pos b (show (0 : Int) < m by omega)
  have hcn : comN b m = 1 + b % m := rfl
  have hS := St.start w O hO
  refine enterR Tryz.func4 rfl Tryz.ntmps4 Tryz.results4 rfl ?_
  refine W.seq ?_
  refine W.reg ?_
  refine Wx.box (cs := List.map (Value.int .u8) bs) hS rfl rfl rfl (fun g_1 w_2 hx_4 hb_3 hS => ?_)
  refine Wx.rd (v := (.slice none 0 0)) (rd_assign rfl) rfl ?_
  refine Wx.nil ?_
  refine W.seq ?_
  refine W.reg ?_
  refine Wx.rd (v := .int .u8 b) (rd_move rfl) rfl ?_
  refine Wx.rd (v := .int .i64 b) (rd_convIn rfl Tryz.underlying5 Tryz.underlying3 (in_i64 (by omega) (by omega))) rfl ?_
  refine Wx.rd (v := .int .i64 m) (rd_move rfl) rfl ?_
  refine Wx.rd (v := .int .i64 (b % m)) (rd_rem rfl rfl (by omega) (by omega)) rfl ?_
  refine Wx.rd (v := .int .i64 (1 + (b % m))) (rd_add rfl rfl (in_i64 (by omega) (by omega))) rfl ?_
  refine Wx.rd (v := .int .i64 (1 + (b % m))) (rd_assign rfl) rfl ?_
  refine Wx.nil ?_
  refine W.seq ?_
  refine W.reg ?_
  refine Wx.rd (v := (.slice none 0 0)) (rd_assign rfl) rfl ?_
  refine Wx.rd (v := (.slice none 0 0)) (rd_assign rfl) rfl ?_
  refine Wx.nil ?_
  refine W.seq ?_
  refine W.seq ?_
  refine W.reg ?_
  refine Wx.rd (v := .int .i64 (1 + (b % m))) (rd_move rfl) rfl ?_
  refine Wx.rd (v := .int .i64 0) (rd_move rfl) rfl ?_
  refine Wx.nil ?_
  refine W.block ?_
  have hS := hS.addNil (tI .i64) 3
  refine W.loop [8, 10, 19, 20, 21, 22, 23, 24, 25, 26] (fun x : Int × Value × (List Int) => match x with | (k, v2, ys) => [(19, .int .i64 k), (8, v2)]) (fun (x : Int × Value × (List Int)) w' => match x with | (k, v2, ys) => St w O w' [.row (tI .i64) 3 v2 ys, .box g_1 22 (List.map (Value.int .u8) bs)] ∧ 0 ≤ k ∧ k ≤ comN b m ∧ ys = upL k ∧ (ys.length : Int) = k) (fun x : Int × Value × (List Int) => match x with | (k, v2, ys) => (comN b m - k).toNat) (0, (.slice none 0 0), []) ⟨rfl, rfl, trivial⟩ ⟨hS, (by first | omega | simp), (by first | omega | simp), (rfl), (rfl)⟩ ?_
  rintro ⟨k, v2, ys⟩ u_6 w_5 ⟨hS, h0, h1, h2, h3⟩
  refine W.seq ?_
  refine W.reg ?_
  refine Wx.rd (v := .bool (decide (k < (1 + (b % m))))) (rd_lss rfl rfl) rfl ?_
  refine Wx.nil ?_
  refine W.seq ?_
  refine W.condD rfl (fun c0 => ?_) (fun c0 => ?_)
  · -- yes
    refine W.skip ?_
    refine W.seq ?_
    refine W.block ?_
    refine W.seq ?_
    refine W.reg ?_
    refine Wx.rd (v := .int .i64 k) (rd_move rfl) rfl ?_
    refine Wx.rd (v := .int .i64 k) (rd_assign rfl) rfl ?_
    refine Wx.nil ?_
    refine W.reg ?_
    refine Wx.rd (v := v2) (rd_move rfl) rfl ?_
    refine Wx.rd (v := .int .i64 k) (rd_move rfl) rfl ?_
    refine Wx.lit (t := (tI .i64)) (ys := [k]) (vs := [.int .i64 k]) elLs_23 hS rfl rfl ⟨(V.mkInt (in_i64 (by omega) (by omega))), trivial⟩ (by decide) rfl (fun v_7 w_8 hx_9 hS => ?_)
    refine Wx.append elLs_23 hS 1 rfl rfl rfl (Src.ofR hS 0 rfl) (by simp only [maxLen]; first | omega | (simp; omega) | simp) (by first | omega | (simp; omega) | simp) rfl (fun v_10 w_11 hz_12 hS => ?_)
    refine Wx.rd (v := v_10) (rd_assign rfl) rfl ?_
    refine Wx.nil ?_
    refine W.reg ?_
    refine Wx.rd (v := .int .i64 (k + 1)) (rd_add rfl rfl (in_i64 (by omega) (by omega))) rfl ?_
    refine Wx.rd (v := .int .i64 (k + 1)) (rd_move rfl) rfl ?_
    refine Wx.nil ?_
    refine ⟨(k + 1, v_10, ys ++ [k]), (by show (comN b m - (k + 1)).toNat < (comN b m - k).toNat; omega), ?_, ?_, Out.look rfl Out.self⟩
    · exact ⟨hS.tl, (by first | omega | assumption), (by first | omega | assumption), (by rw [h2, upL_suc h0]), (by simp only [List.length_append, List.length_cons, List.length_nil]; omega)⟩
    · exact ⟨rfl, rfl, trivial⟩
  · -- no
    refine W.exit rfl ?_
    refine W.seq ?_
    refine W.seq ?_
    refine W.reg ?_
    refine Wx.rd (v := .int .i64 (1 + (b % m))) (rd_move rfl) rfl ?_
    refine Wx.rd (v := .int .i64 0) (rd_move rfl) rfl ?_
    refine Wx.nil ?_
    refine W.block ?_
    have hku : k = comN b m := by omega
    have hS := hS.addNil (tI .i64) 3
    have hS := hS.freeze 1 rfl
    have hv_15 : V (tSl (tI .i64)) ys v2 _ _ := (hS.v 0 rfl)
    have hS := hS.add (hv_15)
    refine W.loop [8, 9, 11, 12, 28, 29, 30, 31, 32, 33, 34, 35, 36, 37, 38, 39, 40, 41, 42, 43, 44, 45, 46, 47, 48, 49, 50, 51, 52, 53, 54] (fun x : Value × (List Int) × Int × Value × (List Int) => match x with | (lv, ls, i, u2, os) => [(8, lv), (28, .int .i64 i), (9, u2)]) (fun (x : Value × (List Int) × Int × Value × (List Int)) w' => match x with | (lv, ls, i, u2, os) => St w O w' [Ob.v (tSl (tI .i64)) ls lv, Ob.v (tSl (tI .i64)) ys v2, .row (tI .i64) 3 u2 os, .box g_1 22 (List.map (Value.int .u8) bs)] ∧ 0 ≤ i ∧ i ≤ comN b m ∧ comK (comN b m) bs i = (ls, os) ∧ (ls.length : Int) = comN b m - i ∧ (os.length : Int) = i) (fun x : Value × (List Int) × Int × Value × (List Int) => match x with | (lv, ls, i, u2, os) => (comN b m - i).toNat) (v2, ys, 0, (.slice none 0 0), []) ⟨rfl, rfl, rfl, trivial⟩ ⟨hS, (by first | omega | simp), (by first | omega | simp), (by rw [h2, hku]; rfl), (by omega), (rfl)⟩ ?_
    rintro ⟨lv, ls, i, u2, os⟩ u_17 w_16 ⟨hS, i0, i1, i2, i3, i4⟩
    refine W.seq ?_
    refine W.reg ?_
    refine Wx.rd (v := .bool (decide (i < (1 + (b % m))))) (rd_lss rfl rfl) rfl ?_
    refine Wx.nil ?_
    refine W.seq ?_
    refine W.condD rfl (fun c1 => ?_) (fun c1 => ?_)
    · -- yes
      have hcm0 := Int.emod_nonneg (ix 0 bs i) (show (ls.length : Int) ≠ 0 by omega)
      have hcm1 := Int.emod_lt_of_pos (ix 0 bs i) (show (0 : Int) < ls.length by omega)
      have hcl := coms_len (s := (ls, os)) (c := ix 0 bs i) (by show 0 < ls.length; omega)
      simp only [comS] at hcl
      refine W.skip ?_
      refine W.seq ?_
      refine W.block ?_
      refine W.seq ?_
      refine W.reg ?_
      refine Wx.rd (v := .int .i64 i) (rd_move rfl) rfl ?_
      refine Wx.rd (v := .int .i64 i) (rd_assign rfl) rfl ?_
      refine Wx.nil ?_
      refine W.seq ?_
      refine W.reg ?_
      refine Wx.rd (v := .int .i64 i) (rd_move rfl) rfl ?_
      refine Wx.rd (v := .pointer (some ⟨g_1, 0 + i.toNat * 1, none⟩)) (rd_indexArr rfl rfl Tryz.underlying22 Tryz.sizeOf5 (by omega) (by omega)) rfl ?_
      have bz_18 := ix_u8 i_bs i
      refine Wx.rd (v := .int .u8 (ix 0 bs i)) (rd_loadXa (d := 0) (f := (Value.int .u8)) (j := i) hS 3 rfl rfl (by omega) (by omega) (by omega) Tryz.isAgg5) rfl ?_
      refine Wx.rd (v := .int .i64 (ix 0 bs i)) (rd_convIn rfl Tryz.underlying5 Tryz.underlying3 (in_i64 (by omega) (by omega))) rfl ?_
      refine Wx.rd (v := lv) (rd_move rfl) rfl ?_
      refine Wx.rd (v := .int .i64 (ls.length : Int)) (rd_lenV rfl (hS.v 0 rfl) Tryz.underlying23) rfl ?_
      refine Wx.rd (v := .int .i64 ((ix 0 bs i) % (ls.length : Int))) (rd_rem rfl rfl (by omega) (by omega)) rfl ?_
      refine Wx.rd (v := .int .i64 ((ix 0 bs i) % (ls.length : Int))) (rd_assign rfl) rfl ?_
      refine Wx.nil ?_
      refine W.seq ?_
      refine W.reg ?_
      refine Wx.rd (v := u2) (rd_move rfl) rfl ?_
      refine Wx.rd (v := lv) (rd_move rfl) rfl ?_
      refine Wx.rd (v := .int .i64 ((ix 0 bs i) % (ls.length : Int))) (rd_move rfl) rfl ?_
      refine Wx.ex (rd_index 0 (hS.v 0 rfl) rfl rfl Tryz.underlying23 Tryz.sizeOf3 (by first | omega | (simp only [List.length_set, List.length_append, List.length_cons, List.length_nil, List.length_replicate]; omega)) (by first | omega | (simp only [List.length_set, List.length_append, List.length_cons, List.length_nil, List.length_replicate]; omega))) rfl (fun p_19 hp_20 => ?_)
      refine Wx.rd (v := .int .i64 (ix 0 ls ((ix 0 bs i) % (ls.length : Int)))) (rd_loadI hp_20 rfl Tryz.isAgg3 Tryz.sizeOf3) rfl ?_
      have bd_21 := bd_i64 hp_20.inK
      refine Wx.lit (t := (tI .i64)) (ys := [ix 0 ls ((ix 0 bs i) % (ls.length : Int))]) (vs := [.int .i64 (ix 0 ls ((ix 0 bs i) % (ls.length : Int)))]) elLs_23 hS rfl rfl ⟨(V.mkInt (in_i64 (by omega) (by omega))), trivial⟩ (by decide) rfl (fun v_22 w_23 hx_24 hS => ?_)
      refine Wx.append elLs_23 hS 3 rfl rfl rfl (Src.ofR hS 0 rfl) (by simp only [maxLen]; first | omega | (simp; omega) | simp) (by first | omega | (simp; omega) | simp) rfl (fun v_25 w_26 hz_27 hS => ?_)
      refine Wx.rd (v := v_25) (rd_assign rfl) rfl ?_
      refine Wx.nil ?_
      refine W.regH mixedLs_ (fun w_28 hx_29 => ?_)
      have h0 := hS
      have hS := (St.start _ _ h0.fb_lt).ext hx_29
      refine Wh.rd (v := lv) 0 rfl (by kernel_rfl) hS.bel (rd_move rfl) rfl ?_
      refine Wh.rd (v := .int .i64 ((ix 0 bs i) % (ls.length : Int))) 1 rfl (by kernel_rfl) hS.bel (rd_move rfl) rfl ?_
      refine Wh.rd (v := .int .i64 ((ix 0 bs i) % (ls.length : Int))) 2 rfl (by kernel_rfl) hS.bel (rd_move rfl) rfl ?_
      refine Wh.ex 3 rfl (by kernel_rfl) hS.bel (rd_clipK (h0.v 1 rfl) Tryz.underlying23 Tryz.sizeOf3 rfl rfl rfl (by omega) (by omega)) rfl (fun u_30 hu_u_30 => ?_)
      obtain ⟨ad_32, rfl, hv_33⟩ := hu_u_30
      have hS := hS.add (hS.arg hv_33)
      refine Wh.rd (v := lv) 4 rfl (by kernel_rfl) hS.bel (rd_move rfl) rfl ?_
      refine Wh.rd (v := .int .i64 ((ix 0 bs i) % (ls.length : Int))) 5 rfl (by kernel_rfl) hS.bel (rd_move rfl) rfl ?_
      refine Wh.rd (v := .int .i64 (((ix 0 bs i) % (ls.length : Int)) + 1)) 6 rfl (by kernel_rfl) hS.bel (rd_add rfl rfl (in_i64 (by omega) (by omega))) rfl ?_
      refine Wh.ex 7 rfl (by kernel_rfl) hS.bel (rd_sliceL (h0.v 1 rfl) Tryz.underlying23 Tryz.sizeOf3 rfl rfl (by omega) (by omega)) rfl (fun u_35 hu_36 => ?_)
      have ln_37 := hu_36.len63
      refine Wh.br [8] (by kernel_rfl) (by decide) ⟨⟨_, rfl, ?_⟩, trivial⟩
      refine Wx.appendClip elLs_23 hS rfl (hS.v 0 rfl) rfl (Src.ofV (hS.arg hu_36)) (by simp only [maxLen]; first | omega | (simp; omega) | simp) (by first | omega | (simp; omega) | simp) rfl (fun v_38 w_39 hz_40 hS => ?_)
      refine Wx.nil ⟨hS.bel, ?_⟩
      refine Wh.rd (v := v_38) 9 rfl (by kernel_rfl) hS.bel (rd_assign rfl) rfl ?_
      refine Wh.done (by kernel_rfl) ?_
      have hS := h0.merge hS
      refine W.reg ?_
      refine Wx.rd (v := .int .i64 (i + 1)) (rd_add rfl rfl (in_i64 (by omega) (by omega))) rfl ?_
      refine Wx.rd (v := .int .i64 (i + 1)) (rd_move rfl) rfl ?_
      refine Wx.nil ?_
      have hv_42 : V (tSl (tI .i64)) ((ls.take ((ix 0 bs i) % (ls.length : Int)).toNat) ++ (ls.drop (((ix 0 bs i) % (ls.length : Int)) + 1).toNat)) v_38 _ _ := (hS.v 0 rfl)
      refine ⟨(v_38, (ls.take ((ix 0 bs i) % (ls.length : Int)).toNat) ++ (ls.drop (((ix 0 bs i) % (ls.length : Int)) + 1).toNat), i + 1, v_25, os ++ [ix 0 ls ((ix 0 bs i) % (ls.length : Int))]), (by show (comN b m - (i + 1)).toNat < (comN b m - i).toNat; omega), ?_, ?_, Out.look rfl Out.self⟩
      · exact ⟨(St.add (St.tl (St.tl (St.tl (St.tl (hS))))) (V.tlF (V.tlF (V.tlF (V.tlF (hv_42)))))), (by first | omega | assumption), (by first | omega | assumption), (by rw [comk_next i0 (by omega), i2]; rfl), (by omega), (by simp only [List.length_append, List.length_cons, List.length_nil]; omega)⟩
      · exact ⟨rfl, rfl, rfl, trivial⟩
    · -- no
      refine W.exit rfl ?_
      refine W.seq ?_
      refine W.reg ?_
      refine Wx.rd (v := u2) (rd_move rfl) rfl ?_
      refine Wx.rd (v := u2) (rd_assign rfl) rfl ?_
      refine Wx.nil ?_
      have e0_0 : comV b bs m = os := by rw [comV, show comK (comN b m) bs (comN b m) = (ls, os) by rw [← i2]; congr 1; omega]
      exact W.ret ⟨u2, ResIs.one, hS.bel, ⟨u2, rfl, (by rw [e0_0]; exact (hS.fr 2 rfl flat_int))⟩⟩
end Go.Proofs.YtodcppoglpfodaaGreatDoor
