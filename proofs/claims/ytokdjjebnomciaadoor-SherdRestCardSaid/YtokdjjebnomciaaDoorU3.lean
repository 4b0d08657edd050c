/-
  WHAT IS PROVED HERE, TEXT BY TEXT (several texts of one prover, joined to one file; the conditions stand in each statement):
  * WHAT IS PROVED HERE: what functions of layer 5 hand back, each out of its own code; the conditions stand in each statement.
  * WHAT IS PROVED HERE: what functions of layer 5 hand back, each out of its own code; the conditions stand in each statement.
  * WHAT IS PROVED HERE: what functions of layer 5 hand back, each out of its own code; the conditions stand in each statement.
  * WHAT IS PROVED HERE: what functions of layer 5 hand back, each out of its own code; the conditions stand in each statement.
  * WHAT IS PROVED HERE: what functions of layer 5 hand back, each out of its own code; the conditions stand in each statement.
  * WHAT IS PROVED HERE: what functions of layer 5 hand back, each out of its own code; the conditions stand in each statement.
  * WHAT IS PROVED HERE: what functions of layer 5 hand back, each out of its own code; the conditions stand in each statement.
  * WHAT IS PROVED HERE: what functions of layer 5 hand back, each out of its own code; the conditions stand in each statement.
  * WHAT IS PROVED HERE: the tail of a slice of the call's own, where it does not begin at the capacity's end. Conditions stand in the statement; it holds over any program.
  * WHAT IS PROVED HERE: what functions of layer 5 hand back, each out of its own code; the conditions stand in each statement.
-/
import Derived.Test.YtokdjjebnomciaaDoorProg
import Derived.Test.YtokdjjebnomciaaDoorU2

set_option linter.unusedVariables false
set_option linter.unusedSimpArgs false

namespace Go.Proofs.YtokdjjebnomciaaDoor
open Go.Wk Go.RowKit Go.Lib
set_option linter.unusedVariables false
set_option linter.unusedSimpArgs false
theorem mixedHb_ : Tryd.prog.follows .mixedOrders = true := by kernel_rfl

theorem F17 {rim : ByteArray} {w : World} (s_rim : rim.size ≤ maxLen) : Calls Tryd.prog 17 #[.string rim] w (Ret w (fun r _ => r = .int .i64 (rimE rim))) := by
  have hS := St.start0 w
  refine enterR Tryd.func17 rfl Tryd.ntmps17 Tryd.results17 rfl ?_
  refine W.seq ?_
  refine W.reg ?_
  refine Wx.rd (v := .int .i64 0) (rd_assign rfl) rfl ?_
  refine Wx.nil ?_
  refine W.seq ?_
  refine W.seq ?_
  refine W.reg ?_
  refine Wx.rd (v := .string rim) (rd_move rfl) rfl ?_
  refine Wx.rd (v := .int .i64 (rim.size : Int)) (rd_lenS rfl Tryd.underlying9) rfl ?_
  refine Wx.rd (v := .bool (decide (12 < (rim.size : Int)))) (rd_gtr rfl rfl) rfl ?_
  refine Wx.nil ?_
  refine W.condD rfl (fun c0 => ?_) (fun c0 => ?_)
  · -- yes
    refine W.seq ?_
    refine W.reg ?_
    refine Wx.rd (v := .int .i64 3) (rd_assign rfl) rfl ?_
    refine Wx.nil ?_
    have e0_0 : (rimE rim) = (3 : Int) := by rw [rimE, if_pos c0]
    exact W.ret ⟨.int .i64 3, ResIs.one, hS.bel, (by rw [e0_0])⟩
  · -- no
    refine W.skip ?_
    refine W.seq ?_
    refine W.seq ?_
    refine W.reg ?_
    refine Wx.rd (v := .string rim) (rd_move rfl) rfl ?_
    refine Wx.rangeS (s := rim) hS rfl Tryd.underlying9 rfl (fun g_1 w_2 hx_3 hS => ?_)
    refine Wx.nil ?_
    refine W.block ?_
    refine W.loop [2, 4, 10, 11, 12, 13, 14, 15] (fun (p : Nat) => []) (fun (p : Nat) w' => St w [] w' [.raw g_1 (.stringIter rim p)] ∧ p ≤ rim.size ∧ (∀ q : Int, 0 ≤ q → q < p → isLet (tabAt rim q) = true)) (fun (p : Nat) => rim.size - p) 0 trivial ⟨hS, (Nat.zero_le _), (fun q q0 q1 => by omega)⟩ ?_
    rintro p u_5 w_4 ⟨hS, h1, h2⟩
    refine W.seq ?_
    refine W.reg ?_
    refine Wx.nextS hS 0 rfl rfl rfl (fun hn w_6 hz_7 hS => ?_) (fun hn => ?_)
    · -- a rune
      have hS : St _ _ w_6 [.raw g_1 (.stringIter rim (p + (runeW rim (p : Int)).toNat))] := hS
      have hrb := runeAt_bd rim (p : Int)
      refine Wx.rd (v := .bool true) (rd_extract rfl rfl) rfl ?_
      refine Wx.nil ?_
      refine W.seq ?_
      refine W.condT rfl rfl ?_
      refine W.skip ?_
      refine W.block ?_
      refine W.seq ?_
      refine W.reg ?_
      refine Wx.rd (v := .int .i32 (runeAt rim (p : Int))) (rd_extract rfl rfl) rfl ?_
      refine Wx.rd (v := .int .i32 (runeAt rim (p : Int))) (rd_assign rfl) rfl ?_
      refine Wx.nil ?_
      refine W.seq ?_
      refine W.reg ?_
      refine Wx.rd (v := .int .i32 (runeAt rim (p : Int))) (rd_move rfl) rfl ?_
      refine Wx.callF (run_callF Tryd.call59 rfl) (F59 (by first | assumption | (simp only [maxLen]; omega) | (simp only [ByteArray.size_extract, ByteArray.size_append, maxLen] at *; omega) | decide) (in_i32 (by omega) (by omega)) letS_asc (by decide) (by omega)) rfl ?_
      rintro r_9 w_10 hx_11 rfl
      have hS := hS.ext hx_11
      refine Wx.rd (v := .bool (!(hasRune letS (runeAt rim (p : Int))))) (rd_not rfl) rfl ?_
      refine Wx.nil ?_
      refine W.cond rfl (fun c2 => ?_) (fun c2 => ?_)
      · -- yes
        try simp only [Bool.and_eq_true, Bool.or_eq_true, Bool.not_eq_true', Bool.and_eq_false_iff, Bool.or_eq_false_iff, Bool.not_eq_false', decide_eq_true_eq, decide_eq_false_iff_not, not_or, Bool.false_eq_true, Bool.true_eq_false, false_or, or_false, not_false_eq_true] at c2
        have hnl := rune_not (s := rim) (p := (p : Int)) (by omega) c2
        refine W.seq ?_
        refine W.reg ?_
        refine Wx.rd (v := .int .i64 10) (rd_assign rfl) rfl ?_
        refine Wx.nil ?_
        have e1_0 : (rimE rim) = (10 : Int) := by exact rimE_bad (by omega) (by omega) hn hnl
        exact W.ret ⟨.int .i64 10, ResIs.one, hS.bel, (by rw [e1_0])⟩
      · -- no
        try simp only [Bool.and_eq_true, Bool.or_eq_true, Bool.not_eq_true', Bool.and_eq_false_iff, Bool.or_eq_false_iff, Bool.not_eq_false', decide_eq_true_eq, decide_eq_false_iff_not, not_or, Bool.false_eq_true, Bool.true_eq_false, false_or, or_false, not_false_eq_true] at c2
        have hle := rune_let (s := rim) (p := (p : Int)) (by omega) c2
        refine W.skip ?_
        refine ⟨p + (runeW rim (p : Int)).toNat, (by show rim.size - (p + (runeW rim (p : Int)).toNat) < rim.size - p; omega), ?_, ?_, Out.look rfl Out.self⟩
        · exact ⟨hS, (by omega), (fun q q0 q1 => by by_cases hq : q = (p : Int); (subst hq; exact hle.2); exact h2 q q0 (by omega))⟩
        · exact trivial
    · -- the end
      refine Wx.rd (v := .bool false) (rd_extract rfl rfl) rfl ?_
      refine Wx.nil ?_
      refine W.seq ?_
      refine W.condF rfl rfl ?_
      refine W.exit rfl ?_
      refine W.seq ?_
      refine W.reg ?_
      refine Wx.rd (v := .int .i64 0) (rd_assign rfl) rfl ?_
      refine Wx.nil ?_
      have e2_0 : (rimE rim) = (0 : Int) := by exact rimE_good (by omega) (fun q q0 q1 => h2 q q0 (by omega))
      exact W.ret ⟨.int .i64 0, ResIs.one, hS.bel, (by rw [e2_0])⟩

theorem F19 {rim : ByteArray} {lv : Value} {l : List (Int × Int)} {Fr_lv : List (Option Nat)} {w : World} (s_rim : rim.size ≤ maxLen) (h_lv : V (tSl (tP (tI .i64) (tI .i64))) l lv Fr_lv w) (hG : Laid w) : Calls Tryd.prog 19 #[.string rim, lv] w (Ret w (fun r _ => r = .int .i64 (validE rim l))) := by
  have a_lv := h_lv.any
  have l_lv := h_lv.len63
  have hS := St.start0 w
  refine enterR Tryd.func19 rfl Tryd.ntmps19 Tryd.results19 rfl ?_
  refine W.seq ?_
  refine W.reg ?_
  refine Wx.rd (v := .int .i64 0) (rd_assign rfl) rfl ?_
  refine Wx.nil ?_
  refine W.seq ?_
  refine W.seq ?_
  refine W.reg ?_
  refine Wx.rd (v := .string rim) (rd_move rfl) rfl ?_
  refine Wx.callF (run_callF Tryd.call17 rfl) (F17 (by first | assumption | (simp only [maxLen]; omega) | (simp only [ByteArray.size_extract, ByteArray.size_append, maxLen] at *; omega) | decide)) rfl ?_
  rintro r_1 w_2 hx_3 rfl
  have hS := hS.ext hx_3
  refine Wx.rd (v := .int .i64 (rimE rim)) (rd_assign rfl) rfl ?_
  refine Wx.nil ?_
  refine W.seq ?_
  refine W.reg ?_
  refine Wx.rd (v := .int .i64 (rimE rim)) (rd_move rfl) rfl ?_
  refine Wx.rd (v := .bool (decide ((rimE rim) ≠ 0))) (rd_neq rfl rfl) rfl ?_
  refine Wx.nil ?_
  refine W.condD rfl (fun c0 => ?_) (fun c0 => ?_)
  · -- yes
    refine W.seq ?_
    refine W.reg ?_
    refine Wx.rd (v := .int .i64 (rimE rim)) (rd_move rfl) rfl ?_
    refine Wx.rd (v := .int .i64 (rimE rim)) (rd_assign rfl) rfl ?_
    refine Wx.nil ?_
    have e0_0 : (validE rim l) = (rimE rim : Int) := by exact if_neg c0
    exact W.ret ⟨.int .i64 (rimE rim), ResIs.one, hS.bel, (by rw [e0_0])⟩
  · -- no
    have hr0 : rimE rim = 0 := by omega
    obtain ⟨hr1, hr2⟩ := rimE_ok hr0
    refine W.skip ?_
    refine W.seq ?_
    refine W.reg ?_
    refine Wx.alloc (cs := [.int .i64 0, .int .i64 0, .int .i64 0, .int .i64 0, .int .i64 0, .int .i64 0, .int .i64 0, .int .i64 0, .int .i64 0, .int .i64 0, .int .i64 0, .int .i64 0]) hS Tryd.zeroValue76 rfl rfl (fun g_4 w_5 hx_7 hb_6 hS => ?_)
    have hS : St _ _ w_5 [.box g_4 76 (List.map (Value.int .i64) (List.replicate 12 0))] := hS
    refine Wx.nil ?_
    refine W.seq ?_
    refine W.reg ?_
    refine Wx.rd (v := .int .i64 (-1)) (rd_assign rfl) rfl ?_
    refine Wx.nil ?_
    refine W.seq ?_
    refine W.seq ?_
    refine W.reg ?_
    refine Wx.rd (v := lv) (rd_move rfl) rfl ?_
    refine Wx.rd (v := .int .i64 (l.length : Int)) (rd_lenV rfl (hS.arg a_lv) Tryd.underlying22) rfl ?_
    refine Wx.rd (v := .int .i64 0) (rd_move rfl) rfl ?_
    refine Wx.nil ?_
    refine W.block ?_
    refine W.loop [4, 7, 9, 10, 11, 12, 20, 21, 22, 23, 24, 25, 26, 27, 28, 29, 30, 31, 32, 33, 34, 35, 36, 37, 38, 39, 40, 41, 42, 43, 44, 45, 46, 47, 48, 49, 50, 51, 52, 53, 54, 55, 56, 57, 58, 59, 60, 61, 62, 63, 64, 65, 66, 67, 68, 69, 70, 71, 72, 73, 74, 75, 76, 77, 78, 79, 80, 81, 82, 83, 84, 85, 86, 87, 88, 89, 90, 91, 92, 93, 94, 95, 96, 97, 98, 99, 100, 101] (fun x : Int × Int × (List Int) => match x with | (last, k, tb) => [(7, .int .i64 last), (20, .int .i64 k)]) (fun (x : Int × Int × (List Int)) w' => match x with | (last, k, tb) => St w [] w' [.box g_4 76 (List.map (Value.int .i64) tb)] ∧ 0 ≤ k ∧ k ≤ l.length ∧ validT rim (l.take k.toNat) (l.drop k.toNat) = validT rim [] l ∧ ToOK (l.take k.toNat) tb ∧ last = lastI (l.take k.toNat)) (fun x : Int × Int × (List Int) => match x with | (last, k, tb) => (l.length - k).toNat) (-1, 0, List.replicate 12 0) ⟨rfl, rfl, trivial⟩ ⟨hS, (by first | omega | simp), (by first | omega | simp), (by simp), (ToOK.nil), (rfl)⟩ ?_
    rintro ⟨last, k, tb⟩ u_9 w_8 ⟨hS, h0, h1, h2, h3, h4⟩
    have hl12 := h3.len
    refine W.seq ?_
    refine W.reg ?_
    refine Wx.rd (v := .bool (decide (k < (l.length : Int)))) (rd_lss rfl rfl) rfl ?_
    refine Wx.nil ?_
    refine W.seq ?_
    refine W.condD rfl (fun c1 => ?_) (fun c1 => ?_)
    · -- yes
      refine W.skip ?_
      refine W.seq ?_
      refine W.block ?_
      refine W.seq ?_
      refine W.reg ?_
      refine Wx.ex (rd_index (0, 0) (hS.arg a_lv) rfl rfl Tryd.underlying22 Tryd.sizeOf58 (by first | omega | (simp only [List.length_set, List.length_append, List.length_cons, List.length_nil, List.length_replicate]; omega)) (by first | omega | (simp only [List.length_set, List.length_append, List.length_cons, List.length_nil, List.length_replicate]; omega))) rfl (fun p_10 hp_11 => ?_)
      refine Wx.ex (rd_load hp_11 rfl Tryd.isAgg58 Tryd.sizeOf58) rfl (fun v_12 hv_13 => ?_)
      obtain ⟨rfl, bd_14, bd_15⟩ := hv_13.i2
      have bd_14 := bd_i64 bd_14
      have bd_15 := bd_i64 bd_15
      refine Wx.alloc (cs := [.int .i64 0, .int .i64 0]) hS Tryd.zeroValue58 rfl rfl (fun g_16 w_17 hx_19 hb_18 hS => ?_)
      refine Wx.storeX (cs' := [.int .i64 ((ix (0, 0) l k).1), .int .i64 ((ix (0, 0) l k).2)]) (ds := [.int .i64 ((ix (0, 0) l k).1), .int .i64 ((ix (0, 0) l k).2)]) hS 0 rfl rfl rfl rfl Tryd.sizeOf58 (Nat.le_of_ble_eq_true rfl) (one_cons rfl (one_cons rfl one_nil)) rfl (fun w_20 hz_21 hS => ?_)
      refine Wx.nil ?_
      refine W.seq ?_
      refine W.regQ mixedHb_ (by kernel_rfl) ?_
      refine Wx.rd (v := .pointer (some ⟨g_16, 0, none⟩)) (rd_indexArr (n := 0) rfl rfl Tryd.underlying58 Tryd.sizeOf3 (by decide) (by decide)) rfl ?_
      refine Wx.rd (v := .int .i64 ((ix (0, 0) l k).1)) (rd_loadX hS 0 rfl rfl rfl Tryd.isAgg3) rfl ?_
      refine Wx.rd (v := .pointer (some ⟨g_16, 1, none⟩)) (rd_indexArr (n := 1) rfl rfl Tryd.underlying58 Tryd.sizeOf3 (by decide) (by decide)) rfl ?_
      refine Wx.rd (v := .int .i64 ((ix (0, 0) l k).2)) (rd_loadX hS 0 rfl rfl rfl Tryd.isAgg3) rfl ?_
      refine Wx.rd (v := .int .i64 ((ix (0, 0) l k).1)) (rd_assign rfl) rfl ?_
      refine Wx.rd (v := .int .i64 ((ix (0, 0) l k).2)) (rd_assign rfl) rfl ?_
      refine Wx.nilQ (fun w_22 hx_23 => ?_)
      have hS := hS.ext hx_23
      refine W.seq ?_
      refine W.block ?_
      refine W.seq ?_
      refine W.reg ?_
      refine Wx.rd (v := .int .i64 ((ix (0, 0) l k).1)) (rd_move rfl) rfl ?_
      refine Wx.rd (v := .int .i64 ((ix (0, 0) l k).2)) (rd_move rfl) rfl ?_
      refine Wx.rd (v := .int .i64 (min ((ix (0, 0) l k).1) ((ix (0, 0) l k).2))) (rd_min rfl rfl) rfl ?_
      refine Wx.rd (v := .bool (decide ((min ((ix (0, 0) l k).1) ((ix (0, 0) l k).2)) < 0))) (rd_lss rfl rfl) rfl ?_
      refine Wx.rd (v := .bool (decide ((min ((ix (0, 0) l k).1) ((ix (0, 0) l k).2)) < 0))) (rd_move rfl) rfl ?_
      refine Wx.cut (X := Unit) 7 [34, 35, 36, 37, 38, 39, 40] (fun _ => [(40, .bool (decide ((min ((ix (0, 0) l k).1) ((ix (0, 0) l k).2)) < 0) || decide ((rim.size : Int) ≤ (max ((ix (0, 0) l k).1) ((ix (0, 0) l k).2)))))]) (fun _ w' => St w [] w' [.box g_16 58 [.int .i64 ((ix (0, 0) l k).1), .int .i64 ((ix (0, 0) l k).2)], .box g_4 76 (List.map (Value.int .i64) tb)]) ?_ ?_
      · rcases Bool.eq_false_or_eq_true (decide ((min ((ix (0, 0) l k).1) ((ix (0, 0) l k).2)) < 0)) with g_24 | g_24
        · -- True
          have gp_25 := of_decide_eq_true g_24
          refine Wx.gnoB rfl rfl (congrArg Value.bool g_24) rfl rfl ?_
          refine Wx.gnoB rfl rfl (congrArg Value.bool g_24) rfl rfl ?_
          refine Wx.gnoB rfl rfl (congrArg Value.bool g_24) rfl rfl ?_
          refine Wx.gnoB rfl rfl (congrArg Value.bool g_24) rfl rfl ?_
          refine Wx.gnoB rfl rfl (congrArg Value.bool g_24) rfl rfl ?_
          refine Wx.gnoB rfl rfl (congrArg Value.bool g_24) rfl rfl ?_
          refine Wx.rd (v := .bool true) (rd_pickT (congrArg Value.bool g_24) rfl) rfl ?_
          refine Wx.nil ⟨(), hS, ⟨?_, trivial⟩, Out.look rfl Out.refl⟩
          show Value.bool true = Value.bool (decide ((min ((ix (0, 0) l k).1) ((ix (0, 0) l k).2)) < 0) || decide ((rim.size : Int) ≤ (max ((ix (0, 0) l k).1) ((ix (0, 0) l k).2))))
          rw [g_24]; rfl
        · -- False
          have gp_26 := of_decide_eq_false g_24
          refine Wx.gyes rfl rfl (congrArg Value.bool g_24) ?_
          refine Wx.rd (v := .int .i64 ((ix (0, 0) l k).1)) (rd_move rfl) rfl ?_
          refine Wx.gyes rfl rfl (congrArg Value.bool g_24) ?_
          refine Wx.rd (v := .int .i64 ((ix (0, 0) l k).2)) (rd_move rfl) rfl ?_
          refine Wx.gyes rfl rfl (congrArg Value.bool g_24) ?_
          refine Wx.rd (v := .int .i64 (max ((ix (0, 0) l k).1) ((ix (0, 0) l k).2))) (rd_max rfl rfl) rfl ?_
          refine Wx.gyes rfl rfl (congrArg Value.bool g_24) ?_
          refine Wx.rd (v := .string rim) (rd_move rfl) rfl ?_
          refine Wx.gyes rfl rfl (congrArg Value.bool g_24) ?_
          refine Wx.rd (v := .int .i64 (rim.size : Int)) (rd_lenS rfl Tryd.underlying9) rfl ?_
          refine Wx.gyes rfl rfl (congrArg Value.bool g_24) ?_
          refine Wx.rd (v := .bool (decide ((rim.size : Int) ≤ (max ((ix (0, 0) l k).1) ((ix (0, 0) l k).2))))) (rd_geq rfl rfl) rfl ?_
          refine Wx.rd (v := .bool (decide ((rim.size : Int) ≤ (max ((ix (0, 0) l k).1) ((ix (0, 0) l k).2))))) (rd_pickF (congrArg Value.bool g_24) rfl) rfl ?_
          refine Wx.nil ⟨(), hS, ⟨?_, trivial⟩, Out.look rfl Out.refl⟩
          show Value.bool (decide ((rim.size : Int) ≤ (max ((ix (0, 0) l k).1) ((ix (0, 0) l k).2)))) = Value.bool (decide ((min ((ix (0, 0) l k).1) ((ix (0, 0) l k).2)) < 0) || decide ((rim.size : Int) ≤ (max ((ix (0, 0) l k).1) ((ix (0, 0) l k).2))))
          rw [g_24]; rfl
      rintro ⟨⟩ u_28 w_27 hS
      refine Wx.rd (v := .bool (decide ((min ((ix (0, 0) l k).1) ((ix (0, 0) l k).2)) < 0) || decide ((rim.size : Int) ≤ (max ((ix (0, 0) l k).1) ((ix (0, 0) l k).2))))) (rd_assign rfl) rfl ?_
      refine Wx.nil ?_
      refine W.cond rfl (fun c2 => ?_) (fun c2 => ?_)
      · -- yes
        try simp only [Bool.and_eq_true, Bool.or_eq_true, Bool.not_eq_true', Bool.and_eq_false_iff, Bool.or_eq_false_iff, Bool.not_eq_false', decide_eq_true_eq, decide_eq_false_iff_not, not_or, Bool.false_eq_true, Bool.true_eq_false, false_or, or_false, not_false_eq_true] at c2
        refine W.seq ?_
        refine W.reg ?_
        refine Wx.rd (v := .int .i64 2) (rd_assign rfl) rfl ?_
        refine Wx.nil ?_
        have e1_0 : (validE rim l) = (2 : Int) := by exact validT_bad h0 c1 h2 (badX_none (by omega)) (by decide) hr0
        exact W.ret ⟨.int .i64 2, ResIs.one, hS.bel, (by rw [e1_0])⟩
      · -- no
        try simp only [Bool.and_eq_true, Bool.or_eq_true, Bool.not_eq_true', Bool.and_eq_false_iff, Bool.or_eq_false_iff, Bool.not_eq_false', decide_eq_true_eq, decide_eq_false_iff_not, not_or, Bool.false_eq_true, Bool.true_eq_false, false_or, or_false, not_false_eq_true] at c2
        refine W.seq ?_
        refine W.reg ?_
        refine Wx.rd (v := .int .i64 ((ix (0, 0) l k).1)) (rd_move rfl) rfl ?_
        refine Wx.rd (v := .int .i64 ((ix (0, 0) l k).2)) (rd_move rfl) rfl ?_
        refine Wx.rd (v := .bool (decide (((ix (0, 0) l k).2) ≤ ((ix (0, 0) l k).1)))) (rd_geq rfl rfl) rfl ?_
        refine Wx.rd (v := .bool (decide (((ix (0, 0) l k).2) ≤ ((ix (0, 0) l k).1)))) (rd_assign rfl) rfl ?_
        refine Wx.nil ?_
        refine W.condD rfl (fun c3 => ?_) (fun c3 => ?_)
        · -- yes
          refine W.seq ?_
          refine W.reg ?_
          refine Wx.rd (v := .int .i64 7) (rd_assign rfl) rfl ?_
          refine Wx.nil ?_
          have e2_0 : (validE rim l) = (7 : Int) := by exact validT_bad h0 c1 h2 (badX_order ⟨by omega, by omega⟩ c3) (by decide) hr0
          exact W.ret ⟨.int .i64 7, ResIs.one, hS.bel, (by rw [e2_0])⟩
        · -- no
          have hx0 : 0 ≤ (ix (0, 0) l k).1 ∧ (ix (0, 0) l k).1 ≤ 11 ∧ 0 ≤ (ix (0, 0) l k).2 ∧ (ix (0, 0) l k).2 ≤ 11 := ⟨by omega, by omega, by omega, by omega⟩
          have hb1 := h3.bd (ix (0, 0) l k).1 (by omega) (by omega)
          have hb2 := h3.bd (ix (0, 0) l k).2 (by omega) (by omega)
          have hu1 := h3.used (q := (ix (0, 0) l k).1) (by omega) (by omega)
          have hu2 := h3.used (q := (ix (0, 0) l k).2) (by omega) (by omega)
          have hv1 := h3.free (q := (ix (0, 0) l k).1) (by omega) (by omega)
          have hv2 := h3.free (q := (ix (0, 0) l k).2) (by omega) (by omega)
          refine W.seq ?_
          refine W.reg ?_
          refine Wx.rd (v := .int .i64 ((ix (0, 0) l k).1)) (rd_move rfl) rfl ?_
          refine Wx.rd (v := .pointer (some ⟨g_4, 0 + ((ix (0, 0) l k).1).toNat * 1, none⟩)) (rd_indexArr rfl rfl Tryd.underlying76 Tryd.sizeOf3 (by omega) (by omega)) rfl ?_
          refine Wx.rd (v := .int .i64 (ix 0 tb ((ix (0, 0) l k).1))) (rd_loadXa (d := 0) (f := (Value.int .i64)) (j := ((ix (0, 0) l k).1)) hS 1 rfl rfl (by omega) (by omega) (by omega) Tryd.isAgg3) rfl ?_
          refine Wx.rd (v := .bool (decide (0 < (ix 0 tb ((ix (0, 0) l k).1))))) (rd_gtr rfl rfl) rfl ?_
          refine Wx.rd (v := .bool (decide (0 < (ix 0 tb ((ix (0, 0) l k).1))))) (rd_move rfl) rfl ?_
          refine Wx.cut (X := Unit) 5 [51, 52, 53, 54, 55] (fun _ => [(55, .bool (decide (0 < (ix 0 tb ((ix (0, 0) l k).1))) || decide (0 < (ix 0 tb ((ix (0, 0) l k).2)))))]) (fun _ w' => St w [] w' [.box g_16 58 [.int .i64 ((ix (0, 0) l k).1), .int .i64 ((ix (0, 0) l k).2)], .box g_4 76 (List.map (Value.int .i64) tb)]) ?_ ?_
          · rcases Bool.eq_false_or_eq_true (decide (0 < (ix 0 tb ((ix (0, 0) l k).1)))) with g_29 | g_29
            · -- True
              have gp_30 := of_decide_eq_true g_29
              refine Wx.gnoB rfl rfl (congrArg Value.bool g_29) rfl rfl ?_
              refine Wx.gnoB rfl rfl (congrArg Value.bool g_29) rfl rfl ?_
              refine Wx.gnoB rfl rfl (congrArg Value.bool g_29) rfl rfl ?_
              refine Wx.gnoB rfl rfl (congrArg Value.bool g_29) rfl rfl ?_
              refine Wx.rd (v := .bool true) (rd_pickT (congrArg Value.bool g_29) rfl) rfl ?_
              refine Wx.nil ⟨(), hS, ⟨?_, trivial⟩, Out.look rfl Out.refl⟩
              show Value.bool true = Value.bool (decide (0 < (ix 0 tb ((ix (0, 0) l k).1))) || decide (0 < (ix 0 tb ((ix (0, 0) l k).2))))
              rw [g_29]; rfl
            · -- False
              have gp_31 := of_decide_eq_false g_29
              refine Wx.gyes rfl rfl (congrArg Value.bool g_29) ?_
              refine Wx.rd (v := .int .i64 ((ix (0, 0) l k).2)) (rd_move rfl) rfl ?_
              refine Wx.gyes rfl rfl (congrArg Value.bool g_29) ?_
              refine Wx.rd (v := .pointer (some ⟨g_4, 0 + ((ix (0, 0) l k).2).toNat * 1, none⟩)) (rd_indexArr rfl rfl Tryd.underlying76 Tryd.sizeOf3 (by omega) (by omega)) rfl ?_
              refine Wx.gyes rfl rfl (congrArg Value.bool g_29) ?_
              refine Wx.rd (v := .int .i64 (ix 0 tb ((ix (0, 0) l k).2))) (rd_loadXa (d := 0) (f := (Value.int .i64)) (j := ((ix (0, 0) l k).2)) hS 1 rfl rfl (by omega) (by omega) (by omega) Tryd.isAgg3) rfl ?_
              refine Wx.gyes rfl rfl (congrArg Value.bool g_29) ?_
              refine Wx.rd (v := .bool (decide (0 < (ix 0 tb ((ix (0, 0) l k).2))))) (rd_gtr rfl rfl) rfl ?_
              refine Wx.rd (v := .bool (decide (0 < (ix 0 tb ((ix (0, 0) l k).2))))) (rd_pickF (congrArg Value.bool g_29) rfl) rfl ?_
              refine Wx.nil ⟨(), hS, ⟨?_, trivial⟩, Out.look rfl Out.refl⟩
              show Value.bool (decide (0 < (ix 0 tb ((ix (0, 0) l k).2)))) = Value.bool (decide (0 < (ix 0 tb ((ix (0, 0) l k).1))) || decide (0 < (ix 0 tb ((ix (0, 0) l k).2))))
              rw [g_29]; rfl
          rintro ⟨⟩ u_33 w_32 hS
          refine Wx.rd (v := .bool (decide (0 < (ix 0 tb ((ix (0, 0) l k).1))) || decide (0 < (ix 0 tb ((ix (0, 0) l k).2))))) (rd_assign rfl) rfl ?_
          refine Wx.nil ?_
          refine W.cond rfl (fun c4 => ?_) (fun c4 => ?_)
          · -- yes
            try simp only [Bool.and_eq_true, Bool.or_eq_true, Bool.not_eq_true', Bool.and_eq_false_iff, Bool.or_eq_false_iff, Bool.not_eq_false', decide_eq_true_eq, decide_eq_false_iff_not, not_or, Bool.false_eq_true, Bool.true_eq_false, false_or, or_false, not_false_eq_true] at c4
            refine W.seq ?_
            refine W.reg ?_
            refine Wx.rd (v := .int .i64 6) (rd_assign rfl) rfl ?_
            refine Wx.nil ?_
            have e3_0 : (validE rim l) = (6 : Int) := by exact validT_bad h0 c1 h2 (badX_twice ⟨by omega, by omega⟩ (by omega) (c4.imp hu1.1 hu2.1)) (by decide) hr0
            exact W.ret ⟨.int .i64 6, ResIs.one, hS.bel, (by rw [e3_0])⟩
          · -- no
            try simp only [Bool.and_eq_true, Bool.or_eq_true, Bool.not_eq_true', Bool.and_eq_false_iff, Bool.or_eq_false_iff, Bool.not_eq_false', decide_eq_true_eq, decide_eq_false_iff_not, not_or, Bool.false_eq_true, Bool.true_eq_false, false_or, or_false, not_false_eq_true] at c4
            refine W.seq ?_
            refine W.reg ?_
            refine Wx.rd (v := .string rim) (rd_move rfl) rfl ?_
            refine Wx.rd (v := .int .i64 ((ix (0, 0) l k).1)) (rd_move rfl) rfl ?_
            refine Wx.rd (v := .int .i64 ((ix (0, 0) l k).2)) (rd_move rfl) rfl ?_
            refine Wx.callF (run_callF Tryd.call61 rfl) (F61 (by first | assumption | (simp only [maxLen]; omega) | (simp only [ByteArray.size_extract, ByteArray.size_append, maxLen] at *; omega) | decide) (in_i64 (by omega) (by omega)) (in_i64 (by omega) (by omega)) (by omega) (by omega) (by omega) (by omega) (by omega) (hG.ext hS.bel)) rfl ?_
            rintro r_34 w_35 hx_36 rfl
            have hS := hS.ext hx_36
            refine Wx.rd (v := .bool (!(fitR rim ((ix (0, 0) l k).1) ((ix (0, 0) l k).2)))) (rd_not rfl) rfl ?_
            refine Wx.rd (v := .bool (!(fitR rim ((ix (0, 0) l k).1) ((ix (0, 0) l k).2)))) (rd_assign rfl) rfl ?_
            refine Wx.nil ?_
            refine W.cond rfl (fun c5 => ?_) (fun c5 => ?_)
            · -- yes
              try simp only [Bool.and_eq_true, Bool.or_eq_true, Bool.not_eq_true', Bool.and_eq_false_iff, Bool.or_eq_false_iff, Bool.not_eq_false', decide_eq_true_eq, decide_eq_false_iff_not, not_or, Bool.false_eq_true, Bool.true_eq_false, false_or, or_false, not_false_eq_true] at c5
              refine W.seq ?_
              refine W.reg ?_
              refine Wx.rd (v := .int .i64 13) (rd_assign rfl) rfl ?_
              refine Wx.nil ?_
              have e4_0 : (validE rim l) = (13 : Int) := by exact validT_bad h0 c1 h2 (badX_clash ⟨by omega, by omega⟩ (by omega) (hv1.2 c4.1) (hv2.2 c4.2) c5) (by decide) hr0
              exact W.ret ⟨.int .i64 13, ResIs.one, hS.bel, (by rw [e4_0])⟩
            · -- no
              try simp only [Bool.and_eq_true, Bool.or_eq_true, Bool.not_eq_true', Bool.and_eq_false_iff, Bool.or_eq_false_iff, Bool.not_eq_false', decide_eq_true_eq, decide_eq_false_iff_not, not_or, Bool.false_eq_true, Bool.true_eq_false, false_or, or_false, not_false_eq_true] at c5
              refine W.skip ?_
              refine W.seq ?_
              refine W.seq ?_
              refine W.reg ?_
              refine Wx.rd (v := .int .i64 ((ix (0, 0) l k).1)) (rd_move rfl) rfl ?_
              refine Wx.rd (v := .int .i64 (((ix (0, 0) l k).1) + 1)) (rd_add rfl rfl (in_i64 (by omega) (by omega))) rfl ?_
              refine Wx.rd (v := .int .i64 (((ix (0, 0) l k).1) + 1)) (rd_assign rfl) rfl ?_
              refine Wx.nil ?_
              refine W.block ?_
              refine W.loop [4, 12, 64, 65, 66, 67, 68, 69, 70, 71, 72, 73, 74, 75, 76, 77, 78, 79, 80, 81, 82, 83, 84, 85, 86, 87, 88] (fun (q : Int) => [(12, .int .i64 q)]) (fun (q : Int) w' => St w [] w' [.box g_16 58 [.int .i64 ((ix (0, 0) l k).1), .int .i64 ((ix (0, 0) l k).2)], .box g_4 76 (List.map (Value.int .i64) tb)] ∧ (ix (0, 0) l k).1 < q ∧ q ≤ (ix (0, 0) l k).2 ∧ (∀ r, (ix (0, 0) l k).1 < r → r < q → ¬ badQ tb (ix (0, 0) l k).1 (ix (0, 0) l k).2 r)) (fun (q : Int) => ((ix (0, 0) l k).2 - q).toNat) (((ix (0, 0) l k).1) + 1) ⟨rfl, trivial⟩ ⟨hS, (by first | omega | simp), (by first | omega | simp), (fun r r1 r2 => by omega)⟩ ?_
              rintro q u_38 w_37 ⟨hS, g0, g1, g2⟩
              refine W.seq ?_
              refine W.seq ?_
              refine W.reg ?_
              refine Wx.rd (v := .int .i64 q) (rd_move rfl) rfl ?_
              refine Wx.rd (v := .int .i64 ((ix (0, 0) l k).2)) (rd_move rfl) rfl ?_
              refine Wx.rd (v := .bool (decide (q < ((ix (0, 0) l k).2)))) (rd_lss rfl rfl) rfl ?_
              refine Wx.nil ?_
              refine W.condD rfl (fun c6 => ?_) (fun c6 => ?_)
              · -- yes
                have hbq := h3.bd q (by omega) (by omega)
                refine W.skip ?_
                refine W.seq ?_
                refine W.block ?_
                refine W.seq ?_
                refine W.reg ?_
                refine Wx.rd (v := .int .i64 q) (rd_move rfl) rfl ?_
                refine Wx.rd (v := .pointer (some ⟨g_4, 0 + q.toNat * 1, none⟩)) (rd_indexArr rfl rfl Tryd.underlying76 Tryd.sizeOf3 (by omega) (by omega)) rfl ?_
                refine Wx.rd (v := .int .i64 (ix 0 tb q)) (rd_loadXa (d := 0) (f := (Value.int .i64)) (j := q) hS 1 rfl rfl (by omega) (by omega) (by omega) Tryd.isAgg3) rfl ?_
                refine Wx.rd (v := .bool (decide (0 < (ix 0 tb q)))) (rd_gtr rfl rfl) rfl ?_
                refine Wx.rd (v := .bool (decide (0 < (ix 0 tb q)))) (rd_move rfl) rfl ?_
                refine Wx.cut (X := Unit) 15 [74, 75, 76, 77, 78, 79, 80, 81, 82, 83, 84, 85, 86, 87, 88] (fun _ => [(88, .bool (decide (0 < (ix 0 tb q)) && (decide (((ix 0 tb q) - 1) < ((ix (0, 0) l k).1)) || decide (((ix (0, 0) l k).2) < ((ix 0 tb q) - 1)))))]) (fun _ w' => St w [] w' [.box g_16 58 [.int .i64 ((ix (0, 0) l k).1), .int .i64 ((ix (0, 0) l k).2)], .box g_4 76 (List.map (Value.int .i64) tb)]) ?_ ?_
                · rcases Bool.eq_false_or_eq_true (decide (0 < (ix 0 tb q))) with g_39 | g_39
                  · -- True
                    have gp_40 := of_decide_eq_true g_39
                    refine Wx.gyes rfl rfl (congrArg Value.bool g_39) ?_
                    refine Wx.rd (v := .int .i64 q) (rd_move rfl) rfl ?_
                    refine Wx.gyes rfl rfl (congrArg Value.bool g_39) ?_
                    refine Wx.rd (v := .pointer (some ⟨g_4, 0 + q.toNat * 1, none⟩)) (rd_indexArr rfl rfl Tryd.underlying76 Tryd.sizeOf3 (by omega) (by omega)) rfl ?_
                    refine Wx.gyes rfl rfl (congrArg Value.bool g_39) ?_
                    refine Wx.rd (v := .int .i64 (ix 0 tb q)) (rd_loadXa (d := 0) (f := (Value.int .i64)) (j := q) hS 1 rfl rfl (by omega) (by omega) (by omega) Tryd.isAgg3) rfl ?_
                    refine Wx.gyes rfl rfl (congrArg Value.bool g_39) ?_
                    refine Wx.rd (v := .int .i64 ((ix 0 tb q) - 1)) (rd_sub rfl rfl (in_i64 (by omega) (by omega))) rfl ?_
                    refine Wx.gyes rfl rfl (congrArg Value.bool g_39) ?_
                    refine Wx.rd (v := .int .i64 ((ix (0, 0) l k).1)) (rd_move rfl) rfl ?_
                    refine Wx.gyes rfl rfl (congrArg Value.bool g_39) ?_
                    refine Wx.rd (v := .bool (decide (((ix 0 tb q) - 1) < ((ix (0, 0) l k).1)))) (rd_lss rfl rfl) rfl ?_
                    refine Wx.gyes rfl rfl (congrArg Value.bool g_39) ?_
                    refine Wx.rd (v := .bool (decide (((ix 0 tb q) - 1) < ((ix (0, 0) l k).1)))) (rd_move rfl) rfl ?_
                    refine Wx.cut (X := Unit) 7 [81, 82, 83, 84, 85, 86, 87] (fun _ => [(87, .bool (decide (((ix 0 tb q) - 1) < ((ix (0, 0) l k).1)) || decide (((ix (0, 0) l k).2) < ((ix 0 tb q) - 1))))]) (fun _ w' => St w [] w' [.box g_16 58 [.int .i64 ((ix (0, 0) l k).1), .int .i64 ((ix (0, 0) l k).2)], .box g_4 76 (List.map (Value.int .i64) tb)]) ?_ ?_
                    · rcases Bool.eq_false_or_eq_true (decide (((ix 0 tb q) - 1) < ((ix (0, 0) l k).1))) with g_41 | g_41
                      · -- True
                        have gp_42 := of_decide_eq_true g_41
                        refine Wx.gnoB rfl rfl (congrArg Value.bool g_41) rfl rfl ?_
                        refine Wx.gnoB rfl rfl (congrArg Value.bool g_41) rfl rfl ?_
                        refine Wx.gnoB rfl rfl (congrArg Value.bool g_41) rfl rfl ?_
                        refine Wx.gnoB rfl rfl (congrArg Value.bool g_41) rfl rfl ?_
                        refine Wx.gnoB rfl rfl (congrArg Value.bool g_41) rfl rfl ?_
                        refine Wx.gnoB rfl rfl (congrArg Value.bool g_41) rfl rfl ?_
                        refine Wx.gyes rfl rfl (congrArg Value.bool g_39) ?_
                        refine Wx.rd (v := .bool true) (rd_pickT (congrArg Value.bool g_41) rfl) rfl ?_
                        refine Wx.nil ⟨(), hS, ⟨?_, trivial⟩, Out.look rfl Out.refl⟩
                        show Value.bool true = Value.bool (decide (((ix 0 tb q) - 1) < ((ix (0, 0) l k).1)) || decide (((ix (0, 0) l k).2) < ((ix 0 tb q) - 1)))
                        rw [g_41]; rfl
                      · -- False
                        have gp_43 := of_decide_eq_false g_41
                        refine Wx.gyes rfl rfl (congrArg Value.bool g_41) ?_
                        refine Wx.rd (v := .int .i64 q) (rd_move rfl) rfl ?_
                        refine Wx.gyes rfl rfl (congrArg Value.bool g_41) ?_
                        refine Wx.rd (v := .pointer (some ⟨g_4, 0 + q.toNat * 1, none⟩)) (rd_indexArr rfl rfl Tryd.underlying76 Tryd.sizeOf3 (by omega) (by omega)) rfl ?_
                        refine Wx.gyes rfl rfl (congrArg Value.bool g_41) ?_
                        refine Wx.rd (v := .int .i64 (ix 0 tb q)) (rd_loadXa (d := 0) (f := (Value.int .i64)) (j := q) hS 1 rfl rfl (by omega) (by omega) (by omega) Tryd.isAgg3) rfl ?_
                        refine Wx.gyes rfl rfl (congrArg Value.bool g_41) ?_
                        refine Wx.rd (v := .int .i64 ((ix 0 tb q) - 1)) (rd_sub rfl rfl (in_i64 (by omega) (by omega))) rfl ?_
                        refine Wx.gyes rfl rfl (congrArg Value.bool g_41) ?_
                        refine Wx.rd (v := .int .i64 ((ix (0, 0) l k).2)) (rd_move rfl) rfl ?_
                        refine Wx.gyes rfl rfl (congrArg Value.bool g_41) ?_
                        refine Wx.rd (v := .bool (decide (((ix (0, 0) l k).2) < ((ix 0 tb q) - 1)))) (rd_gtr rfl rfl) rfl ?_
                        refine Wx.gyes rfl rfl (congrArg Value.bool g_39) ?_
                        refine Wx.rd (v := .bool (decide (((ix (0, 0) l k).2) < ((ix 0 tb q) - 1)))) (rd_pickF (congrArg Value.bool g_41) rfl) rfl ?_
                        refine Wx.nil ⟨(), hS, ⟨?_, trivial⟩, Out.look rfl Out.refl⟩
                        show Value.bool (decide (((ix (0, 0) l k).2) < ((ix 0 tb q) - 1))) = Value.bool (decide (((ix 0 tb q) - 1) < ((ix (0, 0) l k).1)) || decide (((ix (0, 0) l k).2) < ((ix 0 tb q) - 1)))
                        rw [g_41]; rfl
                    rintro ⟨⟩ u_45 w_44 hS
                    refine Wx.rd (v := .bool (decide (((ix 0 tb q) - 1) < ((ix (0, 0) l k).1)) || decide (((ix (0, 0) l k).2) < ((ix 0 tb q) - 1)))) (rd_pickT (congrArg Value.bool g_39) rfl) rfl ?_
                    refine Wx.nil ⟨(), hS, ⟨?_, trivial⟩, Out.look rfl (Out.hav rfl (Out.look rfl Out.refl))⟩
                    show Value.bool (decide (((ix 0 tb q) - 1) < ((ix (0, 0) l k).1)) || decide (((ix (0, 0) l k).2) < ((ix 0 tb q) - 1))) = Value.bool (decide (0 < (ix 0 tb q)) && (decide (((ix 0 tb q) - 1) < ((ix (0, 0) l k).1)) || decide (((ix (0, 0) l k).2) < ((ix 0 tb q) - 1))))
                    rw [g_39]; rfl
                  · -- False
                    have gp_46 := of_decide_eq_false g_39
                    refine Wx.gnoB rfl rfl (congrArg Value.bool g_39) rfl rfl ?_
                    refine Wx.gnoB rfl rfl (congrArg Value.bool g_39) rfl rfl ?_
                    refine Wx.gnoB rfl rfl (congrArg Value.bool g_39) rfl rfl ?_
                    refine Wx.gnoB rfl rfl (congrArg Value.bool g_39) rfl rfl ?_
                    refine Wx.gnoB rfl rfl (congrArg Value.bool g_39) rfl rfl ?_
                    refine Wx.gnoB rfl rfl (congrArg Value.bool g_39) rfl rfl ?_
                    refine Wx.gnoB rfl rfl (congrArg Value.bool g_39) rfl rfl ?_
                    refine Wx.gno rfl rfl rfl rfl ?_
                    refine Wx.gno rfl rfl rfl rfl ?_
                    refine Wx.gno rfl rfl rfl rfl ?_
                    refine Wx.gno rfl rfl rfl rfl ?_
                    refine Wx.gno rfl rfl rfl rfl ?_
                    refine Wx.gno rfl rfl rfl rfl ?_
                    refine Wx.gnoB rfl rfl (congrArg Value.bool g_39) rfl rfl ?_
                    refine Wx.rd (v := .bool false) (rd_pickF (congrArg Value.bool g_39) rfl) rfl ?_
                    refine Wx.nil ⟨(), hS, ⟨?_, trivial⟩, Out.look rfl Out.refl⟩
                    show Value.bool false = Value.bool (decide (0 < (ix 0 tb q)) && (decide (((ix 0 tb q) - 1) < ((ix (0, 0) l k).1)) || decide (((ix (0, 0) l k).2) < ((ix 0 tb q) - 1))))
                    rw [g_39]; rfl
                rintro ⟨⟩ u_48 w_47 hS
                refine Wx.nil ?_
                refine W.cond rfl (fun c7 => ?_) (fun c7 => ?_)
                · -- yes
                  try simp only [Bool.and_eq_true, Bool.or_eq_true, Bool.not_eq_true', Bool.and_eq_false_iff, Bool.or_eq_false_iff, Bool.not_eq_false', decide_eq_true_eq, decide_eq_false_iff_not, not_or, Bool.false_eq_true, Bool.true_eq_false, false_or, or_false, not_false_eq_true] at c7
                  refine W.seq ?_
                  refine W.reg ?_
                  refine Wx.rd (v := .int .i64 5) (rd_assign rfl) rfl ?_
                  refine Wx.nil ?_
                  have e5_0 : (validE rim l) = (5 : Int) := by exact validT_bad h0 c1 h2 (badX_shape ⟨by omega, by omega⟩ (by omega) (hv1.2 c4.1) (hv2.2 c4.2) c5 (h3.cross (i := (ix (0, 0) l k).1) (j := (ix (0, 0) l k).2) (by omega) (by omega) c6 (by omega) c7)) (by decide) hr0
                  exact W.ret ⟨.int .i64 5, ResIs.one, hS.bel, (by rw [e5_0])⟩
                · -- no
                  try simp only [Bool.and_eq_true, Bool.or_eq_true, Bool.not_eq_true', Bool.and_eq_false_iff, Bool.or_eq_false_iff, Bool.not_eq_false', decide_eq_true_eq, decide_eq_false_iff_not, not_or, Bool.false_eq_true, Bool.true_eq_false, false_or, or_false, not_false_eq_true] at c7
                  refine W.skip ?_
                  refine W.reg ?_
                  refine Wx.rd (v := .int .i64 q) (rd_move rfl) rfl ?_
                  refine Wx.rd (v := .int .i64 (q + 1)) (rd_add rfl rfl (in_i64 (by omega) (by omega))) rfl ?_
                  refine Wx.rd (v := .int .i64 (q + 1)) (rd_assign rfl) rfl ?_
                  refine Wx.nil ?_
                  refine ⟨q + 1, (by show ((ix (0, 0) l k).2 - (q + 1)).toNat < ((ix (0, 0) l k).2 - q).toNat; omega), ?_, ?_, Out.look rfl (Out.hav rfl (Out.look rfl Out.self))⟩
                  · exact ⟨hS, (by first | omega | assumption), (by first | omega | assumption), (fun r r1 r2 => by by_cases hq : r = q; (subst hq; exact fun hb => by have := hb.1; have := hb.2; omega); exact g2 r r1 (by omega))⟩
                  · exact ⟨rfl, trivial⟩
              · -- no
                have hap := h3.apart (i := (ix (0, 0) l k).1) (j := (ix (0, 0) l k).2) (by omega) (by omega) (by omega) (hv1.2 c4.1) (hv2.2 c4.2) (fun r r1 r2 => g2 r r1 (by omega))
                refine W.exit rfl ?_
                refine W.seq ?_
                refine W.seq ?_
                refine W.reg ?_
                refine Wx.rd (v := .int .i64 ((ix (0, 0) l k).1)) (rd_move rfl) rfl ?_
                refine Wx.rd (v := .int .i64 last) (rd_move rfl) rfl ?_
                refine Wx.rd (v := .bool (decide (((ix (0, 0) l k).1) < last))) (rd_lss rfl rfl) rfl ?_
                refine Wx.nil ?_
                refine W.condD rfl (fun c8 => ?_) (fun c8 => ?_)
                · -- yes
                  refine W.seq ?_
                  refine W.reg ?_
                  refine Wx.rd (v := .int .i64 7) (rd_assign rfl) rfl ?_
                  refine Wx.nil ?_
                  have e6_0 : (validE rim l) = (7 : Int) := by exact validT_bad h0 c1 h2 (badX_late ⟨by omega, by omega⟩ (by omega) (hv1.2 c4.1) (hv2.2 c4.2) c5 hap (by omega)) (by decide) hr0
                  exact W.ret ⟨.int .i64 7, ResIs.one, hS.bel, (by rw [e6_0])⟩
                · -- no
                  refine W.skip ?_
                  refine W.reg ?_
                  refine Wx.rd (v := .int .i64 ((ix (0, 0) l k).1)) (rd_move rfl) rfl ?_
                  refine Wx.rd (v := .int .i64 ((ix (0, 0) l k).2)) (rd_move rfl) rfl ?_
                  refine Wx.rd (v := .int .i64 ((ix (0, 0) l k).2)) (rd_move rfl) rfl ?_
                  refine Wx.rd (v := .int .i64 (((ix (0, 0) l k).2) + 1)) (rd_add rfl rfl (in_i64 (by omega) (by omega))) rfl ?_
                  refine Wx.rd (v := .int .i64 ((ix (0, 0) l k).1)) (rd_move rfl) rfl ?_
                  refine Wx.rd (v := .int .i64 (((ix (0, 0) l k).1) + 1)) (rd_add rfl rfl (in_i64 (by omega) (by omega))) rfl ?_
                  refine Wx.rd (v := .int .i64 ((ix (0, 0) l k).1)) (rd_move rfl) rfl ?_
                  refine Wx.rd (v := .pointer (some ⟨g_4, 0 + ((ix (0, 0) l k).1).toNat * 1, none⟩)) (rd_indexArr rfl rfl Tryd.underlying76 Tryd.sizeOf3 (by omega) (by omega)) rfl ?_
                  refine Wx.storeXa (j := ((ix (0, 0) l k).1)) (f := (Value.int .i64)) (u := (((ix (0, 0) l k).2) + 1)) hS 1 rfl rfl (by omega) rfl rfl rfl Tryd.sizeOf3 (by omega) (by omega) (fun w_49 hz_50 hS => ?_)
                  refine Wx.rd (v := .pointer (some ⟨g_4, 0 + ((ix (0, 0) l k).2).toNat * 1, none⟩)) (rd_indexArr rfl rfl Tryd.underlying76 Tryd.sizeOf3 (by omega) (by omega)) rfl ?_
                  refine Wx.storeXa (j := ((ix (0, 0) l k).2)) (f := (Value.int .i64)) (u := (((ix (0, 0) l k).1) + 1)) hS 1 rfl rfl (by omega) rfl rfl rfl Tryd.sizeOf3 (by omega) (by rw [List.length_set]; omega) (fun w_51 hz_52 hS => ?_)
                  refine Wx.rd (v := .int .i64 ((ix (0, 0) l k).1)) (rd_assign rfl) rfl ?_
                  refine Wx.nil ?_
                  refine W.reg ?_
                  refine Wx.rd (v := .int .i64 (k + 1)) (rd_add rfl rfl (in_i64 (by omega) (by omega))) rfl ?_
                  refine Wx.rd (v := .int .i64 (k + 1)) (rd_move rfl) rfl ?_
                  refine Wx.nil ?_
                  refine ⟨((ix (0, 0) l k).1, k + 1, List.set (List.set tb ((ix (0, 0) l k).1).toNat (((ix (0, 0) l k).2) + 1)) ((ix (0, 0) l k).2).toNat (((ix (0, 0) l k).1) + 1)), (by show (l.length - (k + 1)).toNat < (l.length - k).toNat; omega), ?_, ?_, Out.look rfl (Out.hav rfl (Out.look rfl (Out.hav rfl (Out.look rfl (Out.hav rfl (Out.look rfl Out.self))))))⟩
                  · exact ⟨hS.tl, (by first | omega | assumption), (by first | omega | assumption), (validT_good h0 c1 h2 (badX_good ⟨by omega, by omega⟩ (by omega) (hv1.2 c4.1) (hv2.2 c4.2) c5 hap (by omega))), (by rw [take_ix (d := (0, 0)) h0 c1]; exact h3.push (i := (ix (0, 0) l k).1) (j := (ix (0, 0) l k).2) (by omega) (by omega) (by omega) (hv1.2 c4.1) (hv2.2 c4.2)), ((lastI_next h0 c1).symm)⟩
                  · exact ⟨rfl, rfl, trivial⟩
    · -- no
      refine W.exit rfl ?_
      refine W.seq ?_
      refine W.reg ?_
      refine Wx.rd (v := .int .i64 0) (rd_assign rfl) rfl ?_
      refine Wx.nil ?_
      have e7_0 : (validE rim l) = (0 : Int) := by exact validT_end (by omega) h2 hr0
      exact W.ret ⟨.int .i64 0, ResIs.one, hS.bel, (by rw [e7_0])⟩
end Go.Proofs.YtokdjjebnomciaaDoor

namespace Go.Proofs.YtokdjjebnomciaaDoor
open Go.Wk Go.RowKit Go.Lib
set_option linter.unusedVariables false
set_option linter.unusedSimpArgs false
end Go.Proofs.YtokdjjebnomciaaDoor

namespace Go.Proofs.YtokdjjebnomciaaDoor
open Go.Wk Go.RowKit Go.Lib
set_option linter.unusedVariables false
set_option linter.unusedSimpArgs false
theorem elHf_22 : ElemI Tryd.prog 22 58 (.agg #[.int .i64 0, .int .i64 0]) 2 16 := ElemI.of Tryd.underlying22 (by kernel_rfl) (by first | rfl | kernel_rfl) (by decide)
theorem elHf_60 : ElemI Tryd.prog 60 3 (.int .i64 0) 1 8 := ElemI.of Tryd.underlying60 (by kernel_rfl) (by first | rfl | kernel_rfl) (by decide)
theorem F73b {rim : ByteArray} {O : List (Option Nat)} {w : World} (s_rim : rim.size ≤ maxLen) (p_12 : (rim.size : Int) ≤ 12) (p_l : Lets rim) (hO : ∀ b, some b ∈ O → b < w.heap.size) (hG : Laid w) : Calls Tryd.prog 73 #[.string rim] w (Ret w (fun r w' => ∃ sv lv, r = .tuple #[sv, lv] ∧ V (tSl (tP (tI .i64) (tI .i64))) ((takS rim).1) sv O w' ∧ Fresh (tI .i64) 3 ((takS rim).2) lv w.heap.size w')) := by
  have hS := St.start w O hO
  refine enterR Tryd.func73 rfl Tryd.ntmps73 Tryd.results73 rfl ?_
  refine W.seq ?_
  refine W.reg ?_
  refine Wx.rd (v := (.slice none 0 0)) (rd_assign rfl) rfl ?_
  refine Wx.rd (v := (.slice none 0 0)) (rd_assign rfl) rfl ?_
  refine Wx.nil ?_
  refine W.seq ?_
  refine W.seq ?_
  refine W.reg ?_
  refine Wx.rd (v := .string rim) (rd_move rfl) rfl ?_
  refine Wx.rangeS (s := rim) hS rfl Tryd.underlying9 rfl (fun g_1 w_2 hx_3 hS => ?_)
  refine Wx.nil ?_
  refine W.block ?_
  have hS := hS.addNil (tP (tI .i64) (tI .i64)) 58
  have hS := hS.addNil (tI .i64) 3
  refine W.loop [2, 3, 4, 5, 8, 9, 10, 11, 12, 13, 14, 15, 16, 17, 18, 19, 20, 21, 22, 23, 24, 25, 26, 27, 28, 29, 30, 31, 32, 33, 34, 35, 36, 37, 38, 39, 40, 41, 42] (fun x : Value × (List (Int × Int)) × Value × (List Int) × Nat => match x with | (tv, st, lw, lf, p) => [(2, tv), (3, lw)]) (fun (x : Value × (List (Int × Int)) × Value × (List Int) × Nat) w' => match x with | (tv, st, lw, lf, p) => St w O w' [.row (tI .i64) 3 lw lf, .row (tP (tI .i64) (tI .i64)) 58 tv st, .raw g_1 (.stringIter rim p)] ∧ p ≤ rim.size ∧ runS rim (st, lf) (rng p rim.size) = takS rim ∧ (∀ x ∈ lf, 0 ≤ x ∧ x < p) ∧ 2 * (st.length : Int) + lf.length = p) (fun x : Value × (List (Int × Int)) × Value × (List Int) × Nat => match x with | (tv, st, lw, lf, p) => rim.size - p) ((.slice none 0 0), [], (.slice none 0 0), [], 0) ⟨rfl, rfl, trivial⟩ ⟨hS, (Nat.zero_le _), (rfl), (by simp), (rfl)⟩ ?_
  rintro ⟨tv, st, lw, lf, p⟩ u_5 w_4 ⟨hS, h1, h2, h3, h4⟩
  refine W.seq ?_
  refine W.reg ?_
  refine Wx.nextS hS 2 rfl rfl rfl (fun hn w_6 hz_7 hS => ?_) (fun hn => ?_)
  · -- a rune
    have hS : St _ _ w_6 [.row (tI .i64) 3 lw lf, .row (tP (tI .i64) (tI .i64)) 58 tv st, .raw g_1 (.stringIter rim (p + (runeW rim (p : Int)).toNat))] := hS
    have hra := (runeAt_ascii (s := rim) (p := (p : Int)) (by omega) (by have := isLet_bd (p_l p (by omega) (by omega)); omega)).2
    refine Wx.rd (v := .bool true) (rd_extract rfl rfl) rfl ?_
    refine Wx.nil ?_
    refine W.seq ?_
    refine W.condT rfl rfl ?_
    refine W.skip ?_
    refine W.block ?_
    refine W.seq ?_
    refine W.reg ?_
    refine Wx.rd (v := .int .i64 (p : Int)) (rd_extract rfl rfl) rfl ?_
    refine Wx.rd (v := .int .i64 (p : Int)) (rd_assign rfl) rfl ?_
    refine Wx.nil ?_
    refine W.seq ?_
    refine W.reg ?_
    refine Wx.rd (v := lw) (rd_move rfl) rfl ?_
    refine Wx.rd (v := .int .i64 (lf.length : Int)) (rd_lenR hS 0 rfl rfl Tryd.underlying60) rfl ?_
    refine Wx.rd (v := .int .i64 (lf.length : Int)) (rd_assign rfl) rfl ?_
    refine Wx.nil ?_
    refine W.seq ?_
    refine W.seq ?_
    refine W.reg ?_
    refine Wx.rd (v := .int .i64 (lf.length : Int)) (rd_move rfl) rfl ?_
    refine Wx.rd (v := .bool (decide (0 < (lf.length : Int)))) (rd_gtr rfl rfl) rfl ?_
    refine Wx.rd (v := .bool (decide (0 < (lf.length : Int)))) (rd_move rfl) rfl ?_
    refine Wx.cut (X := Unit) 9 [16, 17, 18, 19, 20, 21, 22, 23, 24] (fun _ => [(24, .bool (decide (0 < (lf.length : Int)) && fitR rim (ix 0 lf ((lf.length : Int) - 1)) (p : Int)))]) (fun _ w' => St w O w' [.row (tI .i64) 3 lw lf, .row (tP (tI .i64) (tI .i64)) 58 tv st, .raw g_1 (.stringIter rim (p + (runeW rim (p : Int)).toNat))]) ?_ ?_
    · rcases Bool.eq_false_or_eq_true (decide (0 < (lf.length : Int))) with g_9 | g_9
      · -- True
        have gp_10 := of_decide_eq_true g_9
        refine Wx.gyes rfl rfl (congrArg Value.bool g_9) ?_
        refine Wx.rd (v := .string rim) (rd_move rfl) rfl ?_
        refine Wx.gyes rfl rfl (congrArg Value.bool g_9) ?_
        refine Wx.rd (v := lw) (rd_move rfl) rfl ?_
        refine Wx.gyes rfl rfl (congrArg Value.bool g_9) ?_
        refine Wx.rd (v := .int .i64 (lf.length : Int)) (rd_move rfl) rfl ?_
        refine Wx.gyes rfl rfl (congrArg Value.bool g_9) ?_
        refine Wx.rd (v := .int .i64 ((lf.length : Int) - 1)) (rd_sub rfl rfl (in_i64 (by omega) (by omega))) rfl ?_
        refine Wx.gyes rfl rfl (congrArg Value.bool g_9) ?_
        refine Wx.indexR hS 0 rfl rfl rfl Tryd.underlying60 Tryd.sizeOf3 (by first | omega | (simp only [List.length_set, List.length_append, List.length_cons, List.length_nil, List.length_replicate]; omega)) (by first | omega | (simp only [List.length_set, List.length_append, List.length_cons, List.length_nil, List.length_replicate]; omega)) rfl (fun g_11 hg_12 => ?_)
        refine Wx.gyes rfl rfl (congrArg Value.bool g_9) ?_
        refine Wx.rd (v := .int .i64 (ix 0 lf ((lf.length : Int) - 1))) (rd_loadRI' hS 0 rfl hg_12 rfl (by first | omega | (simp only [List.length_set, List.length_append, List.length_cons, List.length_nil, List.length_replicate]; omega)) (by first | omega | (simp only [List.length_set, List.length_append, List.length_cons, List.length_nil, List.length_replicate]; omega)) Tryd.isAgg3 Tryd.sizeOf3) rfl ?_
        have bd_13 := bd_i64 (hS.rowInK' 0 rfl (by first | omega | (simp only [List.length_set, List.length_append, List.length_cons, List.length_nil, List.length_replicate]; omega)) (by first | omega | (simp only [List.length_set, List.length_append, List.length_cons, List.length_nil, List.length_replicate]; omega)) : InK .i64 (ix 0 lf ((lf.length : Int) - 1)))
        refine Wx.gyes rfl rfl (congrArg Value.bool g_9) ?_
        refine Wx.rd (v := .int .i64 (p : Int)) (rd_move rfl) rfl ?_
        refine Wx.gyes rfl rfl (congrArg Value.bool g_9) ?_
        have hlm := h3 (ix 0 lf ((lf.length : Int) - 1)) (ix_mem (by omega) (by omega))
        refine Wx.callF (run_callF Tryd.call61 rfl) (F61 (by first | assumption | (simp only [maxLen]; omega) | (simp only [ByteArray.size_extract, ByteArray.size_append, maxLen] at *; omega) | decide) (in_i64 (by omega) (by omega)) (in_i64 (by omega) (by omega)) (by omega) (by omega) (by omega) (by omega) (by omega) (hG.ext hS.bel)) rfl ?_
        rintro r_14 w_15 hx_16 rfl
        have hS := hS.ext hx_16
        refine Wx.rd (v := .bool (fitR rim (ix 0 lf ((lf.length : Int) - 1)) (p : Int))) (rd_pickT (congrArg Value.bool g_9) rfl) rfl ?_
        refine Wx.nil ⟨(), hS, ⟨?_, trivial⟩, Out.look rfl Out.refl⟩
        show Value.bool (fitR rim (ix 0 lf ((lf.length : Int) - 1)) (p : Int)) = Value.bool (decide (0 < (lf.length : Int)) && fitR rim (ix 0 lf ((lf.length : Int) - 1)) (p : Int))
        rw [g_9]; rfl
      · -- False
        have gp_17 := of_decide_eq_false g_9
        refine Wx.gnoB rfl rfl (congrArg Value.bool g_9) rfl rfl ?_
        refine Wx.gnoB rfl rfl (congrArg Value.bool g_9) rfl rfl ?_
        refine Wx.gnoB rfl rfl (congrArg Value.bool g_9) rfl rfl ?_
        refine Wx.gnoB rfl rfl (congrArg Value.bool g_9) rfl rfl ?_
        refine Wx.gnoB rfl rfl (congrArg Value.bool g_9) rfl rfl ?_
        refine Wx.gnoB rfl rfl (congrArg Value.bool g_9) rfl rfl ?_
        refine Wx.gnoB rfl rfl (congrArg Value.bool g_9) rfl rfl ?_
        refine Wx.gnoB rfl rfl (congrArg Value.bool g_9) rfl rfl ?_
        refine Wx.rd (v := .bool false) (rd_pickF (congrArg Value.bool g_9) rfl) rfl ?_
        refine Wx.nil ⟨(), hS, ⟨?_, trivial⟩, Out.look rfl Out.refl⟩
        show Value.bool false = Value.bool (decide (0 < (lf.length : Int)) && fitR rim (ix 0 lf ((lf.length : Int) - 1)) (p : Int))
        rw [g_9]; rfl
    rintro ⟨⟩ u_19 w_18 hS
    refine Wx.nil ?_
    refine W.cond rfl (fun c1 => ?_) (fun c1 => ?_)
    · -- yes
      try simp only [Bool.and_eq_true, Bool.or_eq_true, Bool.not_eq_true', Bool.and_eq_false_iff, Bool.or_eq_false_iff, Bool.not_eq_false', decide_eq_true_eq, decide_eq_false_iff_not, not_or, Bool.false_eq_true, Bool.true_eq_false, false_or, or_false, not_false_eq_true] at c1
      refine W.seq ?_
      refine W.reg ?_
      refine Wx.rd (v := tv) (rd_move rfl) rfl ?_
      refine Wx.rd (v := lw) (rd_move rfl) rfl ?_
      refine Wx.rd (v := .int .i64 (lf.length : Int)) (rd_move rfl) rfl ?_
      refine Wx.rd (v := .int .i64 ((lf.length : Int) - 1)) (rd_sub rfl rfl (in_i64 (by omega) (by omega))) rfl ?_
      refine Wx.indexR hS 0 rfl rfl rfl Tryd.underlying60 Tryd.sizeOf3 (by first | omega | (simp only [List.length_set, List.length_append, List.length_cons, List.length_nil, List.length_replicate]; omega)) (by first | omega | (simp only [List.length_set, List.length_append, List.length_cons, List.length_nil, List.length_replicate]; omega)) rfl (fun g_20 hg_21 => ?_)
      refine Wx.rd (v := .int .i64 (ix 0 lf ((lf.length : Int) - 1))) (rd_loadRI' hS 0 rfl hg_21 rfl (by first | omega | (simp only [List.length_set, List.length_append, List.length_cons, List.length_nil, List.length_replicate]; omega)) (by first | omega | (simp only [List.length_set, List.length_append, List.length_cons, List.length_nil, List.length_replicate]; omega)) Tryd.isAgg3 Tryd.sizeOf3) rfl ?_
      have bd_22 := bd_i64 (hS.rowInK' 0 rfl (by first | omega | (simp only [List.length_set, List.length_append, List.length_cons, List.length_nil, List.length_replicate]; omega)) (by first | omega | (simp only [List.length_set, List.length_append, List.length_cons, List.length_nil, List.length_replicate]; omega)) : InK .i64 (ix 0 lf ((lf.length : Int) - 1)))
      refine Wx.rd (v := .int .i64 (p : Int)) (rd_move rfl) rfl ?_
      refine Wx.rd (v := .agg #[.int .i64 (ix 0 lf ((lf.length : Int) - 1)), .int .i64 (p : Int)]) (rd_build (vs := [(0, .int .i64 (ix 0 lf ((lf.length : Int) - 1))), (1, .int .i64 (p : Int))]) rfl (by kernel_rfl)) rfl ?_
      refine Wx.lit (t := (tP (tI .i64) (tI .i64))) (ys := [(ix 0 lf ((lf.length : Int) - 1), (p : Int))]) (vs := [.agg #[.int .i64 (ix 0 lf ((lf.length : Int) - 1)), .int .i64 (p : Int)]]) elHf_22 hS rfl rfl ⟨(V.mk2 (in_i64 (by omega) (by omega)) (in_i64 (by omega) (by omega))), trivial⟩ (by decide) rfl (fun v_23 w_24 hx_25 hS => ?_)
      refine Wx.append elHf_22 hS 2 rfl rfl rfl (Src.ofR hS 0 rfl) (by simp only [maxLen]; simp; omega) (by simp; omega) rfl (fun v_26 w_27 hz_28 hS => ?_)
      refine Wx.rd (v := v_26) (rd_assign rfl) rfl ?_
      refine Wx.nil ?_
      refine W.seq ?_
      refine W.reg ?_
      refine Wx.rd (v := lw) (rd_move rfl) rfl ?_
      refine Wx.rd (v := .int .i64 (lf.length : Int)) (rd_move rfl) rfl ?_
      refine Wx.rd (v := .int .i64 ((lf.length : Int) - 1)) (rd_sub rfl rfl (in_i64 (by omega) (by omega))) rfl ?_
      obtain ⟨g_29, c_30, rfl, hc_31⟩ := hS.rowForm 1 rfl (by omega)
      refine Wx.rd (v := (.slice (some ⟨g_29, 0, none⟩) ((lf.length : Int) - 1).toNat c_30)) (rd_headO Tryd.underlying60 Tryd.sizeOf3 rfl rfl (by omega) (by omega)) rfl ?_
      have hS : St _ _ _ [.row (tP (tI .i64) (tI .i64)) 58 v_23 [(ix 0 lf ((lf.length : Int) - 1), (p : Int))], .row (tI .i64) 3 (.slice (some ⟨g_29, 0, none⟩) ((lf.length : Int) - 1).toNat c_30) (List.take ((lf.length : Int) - 1).toNat lf), .row (tP (tI .i64) (tI .i64)) 58 v_26 (st ++ [(ix 0 lf ((lf.length : Int) - 1), (p : Int))]), .raw g_1 (.stringIter rim (p + (runeW rim (p : Int)).toNat))] := hS.shrink (m := ((lf.length : Int) - 1).toNat) 1 rfl (by omega)
      refine Wx.rd (v := (.slice (some ⟨g_29, 0, none⟩) ((lf.length : Int) - 1).toNat c_30)) (rd_assign rfl) rfl ?_
      refine Wx.nil ?_
      refine W.exit rfl ?_
      refine ⟨(v_26, st ++ [(ix 0 lf ((lf.length : Int) - 1), (p : Int))], (.slice (some ⟨g_29, 0, none⟩) ((lf.length : Int) - 1).toNat c_30), List.take ((lf.length : Int) - 1).toNat lf, p + (runeW rim (p : Int)).toNat), (by show rim.size - (p + (runeW rim (p : Int)).toNat) < rim.size - p; omega), ?_, ?_, Out.look rfl (Out.hav rfl (Out.look rfl Out.self))⟩
      · exact ⟨hS.tl, (by omega), (by rw [← h2, rng_cons (i := (p : Int)) (by omega), runS_cons, show ((p + (runeW rim (p : Int)).toNat : Nat) : Int) = (p : Int) + 1 by omega]; first | rw [stepS_yes c1.1 c1.2] | rw [stepS_no c1]), (fun x hx => by first | (have := h3 x (List.mem_of_mem_take hx); omega) | (rcases List.mem_append.1 hx with hx | hx; (have := h3 x hx; omega); (rw [List.mem_singleton] at hx; omega))), (by simp only [List.length_append, List.length_take, List.length_cons, List.length_nil]; omega)⟩
      · exact ⟨rfl, rfl, trivial⟩
    · -- no
      try simp only [Bool.and_eq_true, Bool.or_eq_true, Bool.not_eq_true', Bool.and_eq_false_iff, Bool.or_eq_false_iff, Bool.not_eq_false', decide_eq_true_eq, decide_eq_false_iff_not, not_or, Bool.false_eq_true, Bool.true_eq_false, false_or, or_false, not_false_eq_true] at c1
      refine W.skip ?_
      refine W.reg ?_
      refine Wx.rd (v := lw) (rd_move rfl) rfl ?_
      refine Wx.rd (v := .int .i64 (p : Int)) (rd_move rfl) rfl ?_
      refine Wx.lit (t := (tI .i64)) (ys := [(p : Int)]) (vs := [.int .i64 (p : Int)]) elHf_60 hS rfl rfl ⟨(V.mkInt (in_i64 (by omega) (by omega))), trivial⟩ (by decide) rfl (fun v_32 w_33 hx_34 hS => ?_)
      refine Wx.append elHf_60 hS 1 rfl rfl rfl (Src.ofR hS 0 rfl) (by simp only [maxLen]; simp; omega) (by simp; omega) rfl (fun v_35 w_36 hz_37 hS => ?_)
      refine Wx.rd (v := v_35) (rd_assign rfl) rfl ?_
      refine Wx.nil ?_
      refine ⟨(tv, st, v_35, lf ++ [(p : Int)], p + (runeW rim (p : Int)).toNat), (by show rim.size - (p + (runeW rim (p : Int)).toNat) < rim.size - p; omega), ?_, ?_, Out.look rfl (Out.hav rfl (Out.look rfl Out.self))⟩
      · exact ⟨hS.tl, (by omega), (by rw [← h2, rng_cons (i := (p : Int)) (by omega), runS_cons, show ((p + (runeW rim (p : Int)).toNat : Nat) : Int) = (p : Int) + 1 by omega]; first | rw [stepS_yes c1.1 c1.2] | rw [stepS_no c1]), (fun x hx => by first | (have := h3 x (List.mem_of_mem_take hx); omega) | (rcases List.mem_append.1 hx with hx | hx; (have := h3 x hx; omega); (rw [List.mem_singleton] at hx; omega))), (by simp only [List.length_append, List.length_take, List.length_cons, List.length_nil]; omega)⟩
      · exact ⟨rfl, rfl, trivial⟩
  · -- the end
    refine Wx.rd (v := .bool false) (rd_extract rfl rfl) rfl ?_
    refine Wx.nil ?_
    refine W.seq ?_
    refine W.condF rfl rfl ?_
    refine W.exit rfl ?_
    refine W.seq ?_
    refine W.reg ?_
    refine Wx.rd (v := tv) (rd_move rfl) rfl ?_
    refine Wx.rd (v := lw) (rd_move rfl) rfl ?_
    refine Wx.rd (v := tv) (rd_assign rfl) rfl ?_
    refine Wx.rd (v := lw) (rd_assign rfl) rfl ?_
    refine Wx.nil ?_
    have e0_0 : (takS rim).1 = st := by rw [← h2, rng_nil (by omega)]; rfl
    have e0_1 : (takS rim).2 = lf := by rw [← h2, rng_nil (by omega)]; rfl
    exact W.ret ⟨.tuple #[tv, lw], ResIs.two, hS.bel, ⟨tv, lw, rfl, (by rw [e0_0]; exact ((hS.lend 1 rfl).mv (.less (fun _ h => List.mem_append.2 (.inr h))))), (by rw [e0_1]; exact (hS.fr 0 rfl flat_int))⟩⟩

theorem F73 {rim : ByteArray} {O : List (Option Nat)} {w : World} (s_rim : rim.size ≤ maxLen) (p_12 : (rim.size : Int) ≤ 12) (p_l : Lets rim) (hO : ∀ b, some b ∈ O → b < w.heap.size) (hG : Laid w) : Calls Tryd.prog 73 #[.string rim] w (Ret w (fun r w' => ∃ sv lv, r = .tuple #[sv, lv] ∧ V (tSl (tP (tI .i64) (tI .i64))) ((takS rim).1) sv O w' ∧ V (tSl (tI .i64)) ((takS rim).2) lv O w')) := by
  have hS := St.start w O hO
  refine enterR Tryd.func73 rfl Tryd.ntmps73 Tryd.results73 rfl ?_
  refine W.seq ?_
  refine W.reg ?_
  refine Wx.rd (v := (.slice none 0 0)) (rd_assign rfl) rfl ?_
  refine Wx.rd (v := (.slice none 0 0)) (rd_assign rfl) rfl ?_
  refine Wx.nil ?_
  refine W.seq ?_
  refine W.seq ?_
  refine W.reg ?_
  refine Wx.rd (v := .string rim) (rd_move rfl) rfl ?_
  refine Wx.rangeS (s := rim) hS rfl Tryd.underlying9 rfl (fun g_1 w_2 hx_3 hS => ?_)
  refine Wx.nil ?_
  refine W.block ?_
  have hS := hS.addNil (tP (tI .i64) (tI .i64)) 58
  have hS := hS.addNil (tI .i64) 3
  refine W.loop [2, 3, 4, 5, 8, 9, 10, 11, 12, 13, 14, 15, 16, 17, 18, 19, 20, 21, 22, 23, 24, 25, 26, 27, 28, 29, 30, 31, 32, 33, 34, 35, 36, 37, 38, 39, 40, 41, 42] (fun x : Value × (List (Int × Int)) × Value × (List Int) × Nat => match x with | (tv, st, lw, lf, p) => [(2, tv), (3, lw)]) (fun (x : Value × (List (Int × Int)) × Value × (List Int) × Nat) w' => match x with | (tv, st, lw, lf, p) => St w O w' [.row (tI .i64) 3 lw lf, .row (tP (tI .i64) (tI .i64)) 58 tv st, .raw g_1 (.stringIter rim p)] ∧ p ≤ rim.size ∧ runS rim (st, lf) (rng p rim.size) = takS rim ∧ (∀ x ∈ lf, 0 ≤ x ∧ x < p) ∧ 2 * (st.length : Int) + lf.length = p) (fun x : Value × (List (Int × Int)) × Value × (List Int) × Nat => match x with | (tv, st, lw, lf, p) => rim.size - p) ((.slice none 0 0), [], (.slice none 0 0), [], 0) ⟨rfl, rfl, trivial⟩ ⟨hS, (Nat.zero_le _), (rfl), (by simp), (rfl)⟩ ?_
  rintro ⟨tv, st, lw, lf, p⟩ u_5 w_4 ⟨hS, h1, h2, h3, h4⟩
  refine W.seq ?_
  refine W.reg ?_
  refine Wx.nextS hS 2 rfl rfl rfl (fun hn w_6 hz_7 hS => ?_) (fun hn => ?_)
  · -- a rune
    have hS : St _ _ w_6 [.row (tI .i64) 3 lw lf, .row (tP (tI .i64) (tI .i64)) 58 tv st, .raw g_1 (.stringIter rim (p + (runeW rim (p : Int)).toNat))] := hS
    have hra := (runeAt_ascii (s := rim) (p := (p : Int)) (by omega) (by have := isLet_bd (p_l p (by omega) (by omega)); omega)).2
    refine Wx.rd (v := .bool true) (rd_extract rfl rfl) rfl ?_
    refine Wx.nil ?_
    refine W.seq ?_
    refine W.condT rfl rfl ?_
    refine W.skip ?_
    refine W.block ?_
    refine W.seq ?_
    refine W.reg ?_
    refine Wx.rd (v := .int .i64 (p : Int)) (rd_extract rfl rfl) rfl ?_
    refine Wx.rd (v := .int .i64 (p : Int)) (rd_assign rfl) rfl ?_
    refine Wx.nil ?_
    refine W.seq ?_
    refine W.reg ?_
    refine Wx.rd (v := lw) (rd_move rfl) rfl ?_
    refine Wx.rd (v := .int .i64 (lf.length : Int)) (rd_lenR hS 0 rfl rfl Tryd.underlying60) rfl ?_
    refine Wx.rd (v := .int .i64 (lf.length : Int)) (rd_assign rfl) rfl ?_
    refine Wx.nil ?_
    refine W.seq ?_
    refine W.seq ?_
    refine W.reg ?_
    refine Wx.rd (v := .int .i64 (lf.length : Int)) (rd_move rfl) rfl ?_
    refine Wx.rd (v := .bool (decide (0 < (lf.length : Int)))) (rd_gtr rfl rfl) rfl ?_
    refine Wx.rd (v := .bool (decide (0 < (lf.length : Int)))) (rd_move rfl) rfl ?_
    refine Wx.cut (X := Unit) 9 [16, 17, 18, 19, 20, 21, 22, 23, 24] (fun _ => [(24, .bool (decide (0 < (lf.length : Int)) && fitR rim (ix 0 lf ((lf.length : Int) - 1)) (p : Int)))]) (fun _ w' => St w O w' [.row (tI .i64) 3 lw lf, .row (tP (tI .i64) (tI .i64)) 58 tv st, .raw g_1 (.stringIter rim (p + (runeW rim (p : Int)).toNat))]) ?_ ?_
    · rcases Bool.eq_false_or_eq_true (decide (0 < (lf.length : Int))) with g_9 | g_9
      · -- True
        have gp_10 := of_decide_eq_true g_9
        refine Wx.gyes rfl rfl (congrArg Value.bool g_9) ?_
        refine Wx.rd (v := .string rim) (rd_move rfl) rfl ?_
        refine Wx.gyes rfl rfl (congrArg Value.bool g_9) ?_
        refine Wx.rd (v := lw) (rd_move rfl) rfl ?_
        refine Wx.gyes rfl rfl (congrArg Value.bool g_9) ?_
        refine Wx.rd (v := .int .i64 (lf.length : Int)) (rd_move rfl) rfl ?_
        refine Wx.gyes rfl rfl (congrArg Value.bool g_9) ?_
        refine Wx.rd (v := .int .i64 ((lf.length : Int) - 1)) (rd_sub rfl rfl (in_i64 (by omega) (by omega))) rfl ?_
        refine Wx.gyes rfl rfl (congrArg Value.bool g_9) ?_
        refine Wx.indexR hS 0 rfl rfl rfl Tryd.underlying60 Tryd.sizeOf3 (by first | omega | (simp only [List.length_set, List.length_append, List.length_cons, List.length_nil, List.length_replicate]; omega)) (by first | omega | (simp only [List.length_set, List.length_append, List.length_cons, List.length_nil, List.length_replicate]; omega)) rfl (fun g_11 hg_12 => ?_)
        refine Wx.gyes rfl rfl (congrArg Value.bool g_9) ?_
        refine Wx.rd (v := .int .i64 (ix 0 lf ((lf.length : Int) - 1))) (rd_loadRI' hS 0 rfl hg_12 rfl (by first | omega | (simp only [List.length_set, List.length_append, List.length_cons, List.length_nil, List.length_replicate]; omega)) (by first | omega | (simp only [List.length_set, List.length_append, List.length_cons, List.length_nil, List.length_replicate]; omega)) Tryd.isAgg3 Tryd.sizeOf3) rfl ?_
        have bd_13 := bd_i64 (hS.rowInK' 0 rfl (by first | omega | (simp only [List.length_set, List.length_append, List.length_cons, List.length_nil, List.length_replicate]; omega)) (by first | omega | (simp only [List.length_set, List.length_append, List.length_cons, List.length_nil, List.length_replicate]; omega)) : InK .i64 (ix 0 lf ((lf.length : Int) - 1)))
        refine Wx.gyes rfl rfl (congrArg Value.bool g_9) ?_
        refine Wx.rd (v := .int .i64 (p : Int)) (rd_move rfl) rfl ?_
        refine Wx.gyes rfl rfl (congrArg Value.bool g_9) ?_
        have hlm := h3 (ix 0 lf ((lf.length : Int) - 1)) (ix_mem (by omega) (by omega))
        refine Wx.callF (run_callF Tryd.call61 rfl) (F61 (by first | assumption | (simp only [maxLen]; omega) | (simp only [ByteArray.size_extract, ByteArray.size_append, maxLen] at *; omega) | decide) (in_i64 (by omega) (by omega)) (in_i64 (by omega) (by omega)) (by omega) (by omega) (by omega) (by omega) (by omega) (hG.ext hS.bel)) rfl ?_
        rintro r_14 w_15 hx_16 rfl
        have hS := hS.ext hx_16
        refine Wx.rd (v := .bool (fitR rim (ix 0 lf ((lf.length : Int) - 1)) (p : Int))) (rd_pickT (congrArg Value.bool g_9) rfl) rfl ?_
        refine Wx.nil ⟨(), hS, ⟨?_, trivial⟩, Out.look rfl Out.refl⟩
        show Value.bool (fitR rim (ix 0 lf ((lf.length : Int) - 1)) (p : Int)) = Value.bool (decide (0 < (lf.length : Int)) && fitR rim (ix 0 lf ((lf.length : Int) - 1)) (p : Int))
        rw [g_9]; rfl
      · -- False
        have gp_17 := of_decide_eq_false g_9
        refine Wx.gnoB rfl rfl (congrArg Value.bool g_9) rfl rfl ?_
        refine Wx.gnoB rfl rfl (congrArg Value.bool g_9) rfl rfl ?_
        refine Wx.gnoB rfl rfl (congrArg Value.bool g_9) rfl rfl ?_
        refine Wx.gnoB rfl rfl (congrArg Value.bool g_9) rfl rfl ?_
        refine Wx.gnoB rfl rfl (congrArg Value.bool g_9) rfl rfl ?_
        refine Wx.gnoB rfl rfl (congrArg Value.bool g_9) rfl rfl ?_
        refine Wx.gnoB rfl rfl (congrArg Value.bool g_9) rfl rfl ?_
        refine Wx.gnoB rfl rfl (congrArg Value.bool g_9) rfl rfl ?_
        refine Wx.rd (v := .bool false) (rd_pickF (congrArg Value.bool g_9) rfl) rfl ?_
        refine Wx.nil ⟨(), hS, ⟨?_, trivial⟩, Out.look rfl Out.refl⟩
        show Value.bool false = Value.bool (decide (0 < (lf.length : Int)) && fitR rim (ix 0 lf ((lf.length : Int) - 1)) (p : Int))
        rw [g_9]; rfl
    rintro ⟨⟩ u_19 w_18 hS
    refine Wx.nil ?_
    refine W.cond rfl (fun c1 => ?_) (fun c1 => ?_)
    · -- yes
      try simp only [Bool.and_eq_true, Bool.or_eq_true, Bool.not_eq_true', Bool.and_eq_false_iff, Bool.or_eq_false_iff, Bool.not_eq_false', decide_eq_true_eq, decide_eq_false_iff_not, not_or, Bool.false_eq_true, Bool.true_eq_false, false_or, or_false, not_false_eq_true] at c1
      refine W.seq ?_
      refine W.reg ?_
      refine Wx.rd (v := tv) (rd_move rfl) rfl ?_
      refine Wx.rd (v := lw) (rd_move rfl) rfl ?_
      refine Wx.rd (v := .int .i64 (lf.length : Int)) (rd_move rfl) rfl ?_
      refine Wx.rd (v := .int .i64 ((lf.length : Int) - 1)) (rd_sub rfl rfl (in_i64 (by omega) (by omega))) rfl ?_
      refine Wx.indexR hS 0 rfl rfl rfl Tryd.underlying60 Tryd.sizeOf3 (by first | omega | (simp only [List.length_set, List.length_append, List.length_cons, List.length_nil, List.length_replicate]; omega)) (by first | omega | (simp only [List.length_set, List.length_append, List.length_cons, List.length_nil, List.length_replicate]; omega)) rfl (fun g_20 hg_21 => ?_)
      refine Wx.rd (v := .int .i64 (ix 0 lf ((lf.length : Int) - 1))) (rd_loadRI' hS 0 rfl hg_21 rfl (by first | omega | (simp only [List.length_set, List.length_append, List.length_cons, List.length_nil, List.length_replicate]; omega)) (by first | omega | (simp only [List.length_set, List.length_append, List.length_cons, List.length_nil, List.length_replicate]; omega)) Tryd.isAgg3 Tryd.sizeOf3) rfl ?_
      have bd_22 := bd_i64 (hS.rowInK' 0 rfl (by first | omega | (simp only [List.length_set, List.length_append, List.length_cons, List.length_nil, List.length_replicate]; omega)) (by first | omega | (simp only [List.length_set, List.length_append, List.length_cons, List.length_nil, List.length_replicate]; omega)) : InK .i64 (ix 0 lf ((lf.length : Int) - 1)))
      refine Wx.rd (v := .int .i64 (p : Int)) (rd_move rfl) rfl ?_
      refine Wx.rd (v := .agg #[.int .i64 (ix 0 lf ((lf.length : Int) - 1)), .int .i64 (p : Int)]) (rd_build (vs := [(0, .int .i64 (ix 0 lf ((lf.length : Int) - 1))), (1, .int .i64 (p : Int))]) rfl (by kernel_rfl)) rfl ?_
      refine Wx.lit (t := (tP (tI .i64) (tI .i64))) (ys := [(ix 0 lf ((lf.length : Int) - 1), (p : Int))]) (vs := [.agg #[.int .i64 (ix 0 lf ((lf.length : Int) - 1)), .int .i64 (p : Int)]]) elHf_22 hS rfl rfl ⟨(V.mk2 (in_i64 (by omega) (by omega)) (in_i64 (by omega) (by omega))), trivial⟩ (by decide) rfl (fun v_23 w_24 hx_25 hS => ?_)
      refine Wx.append elHf_22 hS 2 rfl rfl rfl (Src.ofR hS 0 rfl) (by simp only [maxLen]; simp; omega) (by simp; omega) rfl (fun v_26 w_27 hz_28 hS => ?_)
      refine Wx.rd (v := v_26) (rd_assign rfl) rfl ?_
      refine Wx.nil ?_
      refine W.seq ?_
      refine W.reg ?_
      refine Wx.rd (v := lw) (rd_move rfl) rfl ?_
      refine Wx.rd (v := .int .i64 (lf.length : Int)) (rd_move rfl) rfl ?_
      refine Wx.rd (v := .int .i64 ((lf.length : Int) - 1)) (rd_sub rfl rfl (in_i64 (by omega) (by omega))) rfl ?_
      obtain ⟨g_29, c_30, rfl, hc_31⟩ := hS.rowForm 1 rfl (by omega)
      refine Wx.rd (v := (.slice (some ⟨g_29, 0, none⟩) ((lf.length : Int) - 1).toNat c_30)) (rd_headO Tryd.underlying60 Tryd.sizeOf3 rfl rfl (by omega) (by omega)) rfl ?_
      have hS : St _ _ _ [.row (tP (tI .i64) (tI .i64)) 58 v_23 [(ix 0 lf ((lf.length : Int) - 1), (p : Int))], .row (tI .i64) 3 (.slice (some ⟨g_29, 0, none⟩) ((lf.length : Int) - 1).toNat c_30) (List.take ((lf.length : Int) - 1).toNat lf), .row (tP (tI .i64) (tI .i64)) 58 v_26 (st ++ [(ix 0 lf ((lf.length : Int) - 1), (p : Int))]), .raw g_1 (.stringIter rim (p + (runeW rim (p : Int)).toNat))] := hS.shrink (m := ((lf.length : Int) - 1).toNat) 1 rfl (by omega)
      refine Wx.rd (v := (.slice (some ⟨g_29, 0, none⟩) ((lf.length : Int) - 1).toNat c_30)) (rd_assign rfl) rfl ?_
      refine Wx.nil ?_
      refine W.exit rfl ?_
      refine ⟨(v_26, st ++ [(ix 0 lf ((lf.length : Int) - 1), (p : Int))], (.slice (some ⟨g_29, 0, none⟩) ((lf.length : Int) - 1).toNat c_30), List.take ((lf.length : Int) - 1).toNat lf, p + (runeW rim (p : Int)).toNat), (by show rim.size - (p + (runeW rim (p : Int)).toNat) < rim.size - p; omega), ?_, ?_, Out.look rfl (Out.hav rfl (Out.look rfl Out.self))⟩
      · exact ⟨hS.tl, (by omega), (by rw [← h2, rng_cons (i := (p : Int)) (by omega), runS_cons, show ((p + (runeW rim (p : Int)).toNat : Nat) : Int) = (p : Int) + 1 by omega]; first | rw [stepS_yes c1.1 c1.2] | rw [stepS_no c1]), (fun x hx => by first | (have := h3 x (List.mem_of_mem_take hx); omega) | (rcases List.mem_append.1 hx with hx | hx; (have := h3 x hx; omega); (rw [List.mem_singleton] at hx; omega))), (by simp only [List.length_append, List.length_take, List.length_cons, List.length_nil]; omega)⟩
      · exact ⟨rfl, rfl, trivial⟩
    · -- no
      try simp only [Bool.and_eq_true, Bool.or_eq_true, Bool.not_eq_true', Bool.and_eq_false_iff, Bool.or_eq_false_iff, Bool.not_eq_false', decide_eq_true_eq, decide_eq_false_iff_not, not_or, Bool.false_eq_true, Bool.true_eq_false, false_or, or_false, not_false_eq_true] at c1
      refine W.skip ?_
      refine W.reg ?_
      refine Wx.rd (v := lw) (rd_move rfl) rfl ?_
      refine Wx.rd (v := .int .i64 (p : Int)) (rd_move rfl) rfl ?_
      refine Wx.lit (t := (tI .i64)) (ys := [(p : Int)]) (vs := [.int .i64 (p : Int)]) elHf_60 hS rfl rfl ⟨(V.mkInt (in_i64 (by omega) (by omega))), trivial⟩ (by decide) rfl (fun v_32 w_33 hx_34 hS => ?_)
      refine Wx.append elHf_60 hS 1 rfl rfl rfl (Src.ofR hS 0 rfl) (by simp only [maxLen]; simp; omega) (by simp; omega) rfl (fun v_35 w_36 hz_37 hS => ?_)
      refine Wx.rd (v := v_35) (rd_assign rfl) rfl ?_
      refine Wx.nil ?_
      refine ⟨(tv, st, v_35, lf ++ [(p : Int)], p + (runeW rim (p : Int)).toNat), (by show rim.size - (p + (runeW rim (p : Int)).toNat) < rim.size - p; omega), ?_, ?_, Out.look rfl (Out.hav rfl (Out.look rfl Out.self))⟩
      · exact ⟨hS.tl, (by omega), (by rw [← h2, rng_cons (i := (p : Int)) (by omega), runS_cons, show ((p + (runeW rim (p : Int)).toNat : Nat) : Int) = (p : Int) + 1 by omega]; first | rw [stepS_yes c1.1 c1.2] | rw [stepS_no c1]), (fun x hx => by first | (have := h3 x (List.mem_of_mem_take hx); omega) | (rcases List.mem_append.1 hx with hx | hx; (have := h3 x hx; omega); (rw [List.mem_singleton] at hx; omega))), (by simp only [List.length_append, List.length_take, List.length_cons, List.length_nil]; omega)⟩
      · exact ⟨rfl, rfl, trivial⟩
  · -- the end
    refine Wx.rd (v := .bool false) (rd_extract rfl rfl) rfl ?_
    refine Wx.nil ?_
    refine W.seq ?_
    refine W.condF rfl rfl ?_
    refine W.exit rfl ?_
    refine W.seq ?_
    refine W.reg ?_
    refine Wx.rd (v := tv) (rd_move rfl) rfl ?_
    refine Wx.rd (v := lw) (rd_move rfl) rfl ?_
    refine Wx.rd (v := tv) (rd_assign rfl) rfl ?_
    refine Wx.rd (v := lw) (rd_assign rfl) rfl ?_
    refine Wx.nil ?_
    have e0_0 : (takS rim).1 = st := by rw [← h2, rng_nil (by omega)]; rfl
    have e0_1 : (takS rim).2 = lf := by rw [← h2, rng_nil (by omega)]; rfl
    exact W.ret ⟨.tuple #[tv, lw], ResIs.two, hS.bel, ⟨tv, lw, rfl, (by rw [e0_0]; exact ((hS.lend 1 rfl).mv (.less (fun _ h => List.mem_append.2 (.inr h))))), (by rw [e0_1]; exact ((hS.lend 0 rfl).mv (.less (fun _ h => List.mem_append.2 (.inr h)))))⟩⟩

end Go.Proofs.YtokdjjebnomciaaDoor

namespace Go.Proofs.YtokdjjebnomciaaDoor
open Go.Wk Go.RowKit Go.Lib
set_option linter.unusedVariables false
set_option linter.unusedSimpArgs false
theorem F75 {rim : ByteArray} {w : World} (s_rim : rim.size ≤ maxLen) (p_12 : (rim.size : Int) ≤ 12) (p_l : Lets rim) (hG : Laid w) : Calls Tryd.prog 75 #[.string rim] w (Ret w (fun r _ => r = .string (restV rim))) := by
  have hlb := takS_bd (s := rim)
  have hS := St.start0 w
  refine enterR Tryd.func75 rfl Tryd.ntmps75 Tryd.results75 rfl ?_
  refine W.seq ?_
  refine W.reg ?_
  refine Wx.rd (v := .string ({ data := #[] } : ByteArray)) (rd_assign rfl) rfl ?_
  refine Wx.nil ?_
  refine W.seq ?_
  refine W.reg ?_
  refine Wx.alloc (cs := [(.pointer none), (.slice none 0 0)]) hS Tryd.zeroValue116 rfl rfl (fun g_1 w_2 hx_4 hb_3 hS => ?_)
  refine Wx.nil ?_
  refine W.seq ?_
  refine W.reg ?_
  refine Wx.rd (v := .string rim) (rd_move rfl) rfl ?_
  refine Wx.callF (run_callF Tryd.call73 rfl) (F73b (by first | assumption | (simp only [maxLen]; omega) | (simp only [ByteArray.size_extract, ByteArray.size_append, maxLen] at *; omega) | decide) (by omega) (by omega) hS.fb_lt (hG.ext hS.bel)) rfl ?_
  rintro r_5 w_6 hx_7 ⟨v_8, v_9, rfl, hv_10, hv_11⟩
  have hS := hS.pushFr hx_7 hv_11
  refine Wx.rd (v := .tuple #[v_8, v_9]) (rd_move rfl) rfl ?_
  refine Wx.rd (v := v_8) (rd_extract rfl rfl) rfl ?_
  refine Wx.rd (v := v_9) (rd_extract rfl rfl) rfl ?_
  refine Wx.rd (v := v_8) (rd_assign rfl) rfl ?_
  refine Wx.rd (v := v_9) (rd_assign rfl) rfl ?_
  refine Wx.nil ?_
  refine W.seq ?_
  refine W.seq ?_
  refine W.reg ?_
  refine Wx.rd (v := v_9) (rd_move rfl) rfl ?_
  refine Wx.rd (v := .int .i64 (((takS rim).2).length : Int)) (rd_lenR hS 0 rfl rfl Tryd.underlying60) rfl ?_
  refine Wx.rd (v := .int .i64 0) (rd_move rfl) rfl ?_
  refine Wx.nil ?_
  refine W.block ?_
  have hbd := bld_start hS 1 rfl
  have hS := (hS.front 1 rfl).tl
  refine W.loop [7, 15, 16, 17, 18, 19, 20, 21, 22, 23] (fun (k : Int) => [(15, .int .i64 k)]) (fun (k : Int) w' => St w [] w' [.row (tI .i64) 3 v_9 ((takS rim).2)] ∧ 0 ≤ k ∧ k ≤ (takS rim).2.length ∧ Lib.IsBuilderF 116 5 w.heap.size g_1 (Lib.byteCells (((takS rim).2.take k.toNat).map (byteAt rim))) w') (fun (k : Int) => ((takS rim).2.length - k).toNat) 0 ⟨rfl, trivial⟩ ⟨hS, (by first | omega | simp), (by first | omega | simp), (hbd)⟩ ?_
  rintro k u_15 w_14 ⟨hS, h0, h1, hbd⟩
  refine W.seq ?_
  refine W.reg ?_
  refine Wx.rd (v := .bool (decide (k < (((takS rim).2).length : Int)))) (rd_lss rfl rfl) rfl ?_
  refine Wx.nil ?_
  refine W.seq ?_
  refine W.condD rfl (fun c0 => ?_) (fun c0 => ?_)
  · -- yes
    have hkb := hlb.1 (ix 0 (takS rim).2 k) (ix_mem h0 c0)
    refine W.skip ?_
    refine W.seq ?_
    refine W.block ?_
    refine W.seq ?_
    refine W.reg ?_
    refine Wx.indexR hS 0 rfl rfl rfl Tryd.underlying60 Tryd.sizeOf3 (by first | omega | (simp only [List.length_set, List.length_append, List.length_cons, List.length_nil, List.length_replicate]; omega)) (by first | omega | (simp only [List.length_set, List.length_append, List.length_cons, List.length_nil, List.length_replicate]; omega)) rfl (fun g_16 hg_17 => ?_)
    refine Wx.rd (v := .int .i64 (ix 0 ((takS rim).2) k)) (rd_loadRI' hS 0 rfl hg_17 rfl (by first | omega | (simp only [List.length_set, List.length_append, List.length_cons, List.length_nil, List.length_replicate]; omega)) (by first | omega | (simp only [List.length_set, List.length_append, List.length_cons, List.length_nil, List.length_replicate]; omega)) Tryd.isAgg3 Tryd.sizeOf3) rfl ?_
    have bd_18 := bd_i64 (hS.rowInK' 0 rfl (by first | omega | (simp only [List.length_set, List.length_append, List.length_cons, List.length_nil, List.length_replicate]; omega)) (by first | omega | (simp only [List.length_set, List.length_append, List.length_cons, List.length_nil, List.length_replicate]; omega)) : InK .i64 (ix 0 ((takS rim).2) k))
    refine Wx.rd (v := .int .i64 (ix 0 ((takS rim).2) k)) (rd_assign rfl) rfl ?_
    refine Wx.nil ?_
    refine W.reg ?_
    refine Wx.rd (v := .string rim) (rd_move rfl) rfl ?_
    refine Wx.rd (v := .int .i64 (ix 0 ((takS rim).2) k)) (rd_move rfl) rfl ?_
    refine Wx.rd (v := .int .u8 (tabAt rim (ix 0 ((takS rim).2) k))) (rd_indexS' (by kernel_rfl) rfl Tryd.underlying9 (by omega) (by omega)) rfl ?_
    have bd_19 := tabAt_bd rim (ix 0 ((takS rim).2) k)
    refine Wx.callB (run_callF Tryd.call94 rfl) (F94 hbd rfl (by rw [List.length_map, List.length_take]; omega) hS.bel.size) rfl ?_
    rintro r_20 w_21 ⟨rfl, hbd2, hBe, hBk⟩
    have hS := bld_keep hS hbd hBe hBk
    have hbd := hbd2
    refine Wx.nil ?_
    refine W.reg ?_
    refine Wx.rd (v := .int .i64 (k + 1)) (rd_add rfl rfl (in_i64 (by omega) (by omega))) rfl ?_
    refine Wx.rd (v := .int .i64 (k + 1)) (rd_move rfl) rfl ?_
    refine Wx.nil ?_
    refine ⟨k + 1, (by show ((takS rim).2.length - (k + 1)).toNat < ((takS rim).2.length - k).toNat; omega), ?_, ?_, Out.look rfl Out.self⟩
    · exact ⟨hS, (by first | omega | assumption), (by first | omega | assumption), (by rw [take_ix (d := 0) h0 c0, List.map_append]; exact hbd)⟩
    · exact ⟨rfl, trivial⟩
  · -- no
    refine W.exit rfl ?_
    refine W.seq ?_
    refine W.reg ?_
    refine Wx.callB (run_callF Tryd.call95 rfl) (F95 hbd hS.bel.size) rfl ?_
    rintro r_22 w_23 ⟨rfl, hBe⟩
    have hS := (St.start0 w).ext (Below.trans hS.bel hBe)
    refine Wx.rd (v := .string (mkB (((takS rim).2.take k.toNat).map (byteAt rim)))) (rd_assign rfl) rfl ?_
    refine Wx.nil ?_
    have e0_0 : (restV rim) = (mkB (((takS rim).2.take k.toNat).map (byteAt rim))) := by rw [restV, List.take_of_length_le (by omega)]
    exact W.ret ⟨.string (mkB (((takS rim).2.take k.toNat).map (byteAt rim))), ResIs.one, hS.bel, (by rw [e0_0])⟩

end Go.Proofs.YtokdjjebnomciaaDoor

namespace Go.Proofs.YtokdjjebnomciaaDoor
open Go.Wk Go.RowKit Go.Lib
set_option linter.unusedVariables false
set_option linter.unusedSimpArgs false


theorem F30 {rim : ByteArray} {O : List (Option Nat)} {w : World} (s_rim : rim.size ≤ maxLen) (hO : ∀ b, some b ∈ O → b < w.heap.size) (hG : Laid w) : Calls Tryd.prog 30 #[.string rim] w (Ret w (fun r w' => ∃ rv, r = .tuple #[rv, .int .i64 (rimE rim)] ∧ V (tSl (tP (tI .i64) (tI .i64))) (stepsV rim) rv O w')) := by
  have hS := St.start w O hO
  refine enterR Tryd.func30 rfl Tryd.ntmps30 Tryd.results30 rfl ?_
  refine W.seq ?_
  refine W.reg ?_
  refine Wx.rd (v := (.slice none 0 0)) (rd_assign rfl) rfl ?_
  refine Wx.rd (v := .int .i64 0) (rd_assign rfl) rfl ?_
  refine Wx.nil ?_
  refine W.seq ?_
  refine W.seq ?_
  refine W.reg ?_
  refine Wx.rd (v := .string rim) (rd_move rfl) rfl ?_
  refine Wx.callF (run_callF Tryd.call17 rfl) (F17 (by first | assumption | (simp only [maxLen]; omega) | (simp only [ByteArray.size_extract, ByteArray.size_append, maxLen] at *; omega) | decide)) rfl ?_
  rintro r_1 w_2 hx_3 rfl
  have hS := hS.ext hx_3
  refine Wx.rd (v := .int .i64 (rimE rim)) (rd_assign rfl) rfl ?_
  refine Wx.nil ?_
  refine W.seq ?_
  refine W.reg ?_
  refine Wx.rd (v := .int .i64 (rimE rim)) (rd_move rfl) rfl ?_
  refine Wx.rd (v := .bool (decide ((rimE rim) ≠ 0))) (rd_neq rfl rfl) rfl ?_
  refine Wx.nil ?_
  refine W.condD rfl (fun c0 => ?_) (fun c0 => ?_)
  · -- yes
    refine W.seq ?_
    refine W.reg ?_
    refine Wx.rd (v := .int .i64 (rimE rim)) (rd_move rfl) rfl ?_
    refine Wx.rd (v := (.slice none 0 0)) (rd_assign rfl) rfl ?_
    refine Wx.rd (v := .int .i64 (rimE rim)) (rd_assign rfl) rfl ?_
    refine Wx.nil ?_
    have e0_0 : stepsV rim = [] := by rw [stepsV, if_neg c0]
    exact W.ret ⟨.tuple #[(.slice none 0 0), .int .i64 (rimE rim)], ResIs.two, hS.bel, ⟨(.slice none 0 0), rfl, (by rw [e0_0]; exact (V.nil (t := (tP (tI .i64) (tI .i64)))))⟩⟩
  · -- no
    have hr0 : rimE rim = 0 := by omega
    obtain ⟨hr1, hr2⟩ := rimE_ok hr0
    refine W.skip ?_
    refine W.seq ?_
    refine W.reg ?_
    refine Wx.rd (v := .string rim) (rd_move rfl) rfl ?_
    refine Wx.callF (run_callF Tryd.call73 rfl) (F73 (by first | assumption | (simp only [maxLen]; omega) | (simp only [ByteArray.size_extract, ByteArray.size_append, maxLen] at *; omega) | decide) (by omega) hr2 hS.fb_lt (hG.ext hS.bel)) rfl ?_
    rintro r_4 w_5 hx_6 ⟨v_7, v_8, rfl, hv_9, hv_10⟩
    have ln_12 := hv_9.len63
    have ln_14 := hv_10.len63
    have hS := hS.ext hx_6
    have hS := hS.add hv_9
    have hS := hS.add (hv_10.mv (.less (by simp [fb, Ob.blk])))
    refine Wx.rd (v := .tuple #[v_7, v_8]) (rd_move rfl) rfl ?_
    refine Wx.rd (v := v_7) (rd_extract rfl rfl) rfl ?_
    refine Wx.rd (v := v_8) (rd_extract rfl rfl) rfl ?_
    refine Wx.rd (v := v_7) (rd_assign rfl) rfl ?_
    refine Wx.rd (v := v_8) (rd_assign rfl) rfl ?_
    refine Wx.nil ?_
    refine W.seq ?_
    refine W.reg ?_
    refine Wx.rd (v := v_7) (rd_move rfl) rfl ?_
    refine Wx.rd (v := v_7) (rd_assign rfl) rfl ?_
    refine Wx.rd (v := .int .i64 0) (rd_assign rfl) rfl ?_
    refine Wx.nil ?_
    have e1_0 : stepsV rim = (takS rim).1 := by rw [stepsV, if_pos hr0]
    have e1_1 : (rimE rim) = (0 : Int) := by exact hr0
    exact W.ret ⟨.tuple #[v_7, .int .i64 0], ResIs.two, hS.bel, ⟨v_7, (by rw [e1_1]), (by rw [e1_0]; exact (V.mv (hS.v 1 rfl) (.less (fun _ h => List.mem_append.2 (.inr h)))))⟩⟩

theorem F32 {rim : ByteArray} {w : World} (s_rim : rim.size ≤ maxLen) (hG : Laid w) : Calls Tryd.prog 32 #[.string rim] w (Ret w (fun r _ => r = .tuple #[.string (restE rim), .int .i64 (rimE rim)])) := by
  have hS := St.start0 w
  refine enterR Tryd.func32 rfl Tryd.ntmps32 Tryd.results32 rfl ?_
  refine W.seq ?_
  refine W.reg ?_
  refine Wx.rd (v := .string ({ data := #[] } : ByteArray)) (rd_assign rfl) rfl ?_
  refine Wx.rd (v := .int .i64 0) (rd_assign rfl) rfl ?_
  refine Wx.nil ?_
  refine W.seq ?_
  refine W.seq ?_
  refine W.reg ?_
  refine Wx.rd (v := .string rim) (rd_move rfl) rfl ?_
  refine Wx.callF (run_callF Tryd.call17 rfl) (F17 (by first | assumption | (simp only [maxLen]; omega) | (simp only [ByteArray.size_extract, ByteArray.size_append, maxLen] at *; omega) | decide)) rfl ?_
  rintro r_1 w_2 hx_3 rfl
  have hS := hS.ext hx_3
  refine Wx.rd (v := .int .i64 (rimE rim)) (rd_assign rfl) rfl ?_
  refine Wx.nil ?_
  refine W.seq ?_
  refine W.reg ?_
  refine Wx.rd (v := .int .i64 (rimE rim)) (rd_move rfl) rfl ?_
  refine Wx.rd (v := .bool (decide ((rimE rim) ≠ 0))) (rd_neq rfl rfl) rfl ?_
  refine Wx.nil ?_
  refine W.condD rfl (fun c0 => ?_) (fun c0 => ?_)
  · -- yes
    refine W.seq ?_
    refine W.reg ?_
    refine Wx.rd (v := .int .i64 (rimE rim)) (rd_move rfl) rfl ?_
    refine Wx.rd (v := .string ({ data := #[] } : ByteArray)) (rd_assign rfl) rfl ?_
    refine Wx.rd (v := .int .i64 (rimE rim)) (rd_assign rfl) rfl ?_
    refine Wx.nil ?_
    have e0_0 : (restE rim) = ({ data := #[] } : ByteArray) := by rw [restE, if_neg c0]; rfl
    exact W.ret ⟨.tuple #[.string ({ data := #[] } : ByteArray), .int .i64 (rimE rim)], ResIs.two, hS.bel, (by rw [e0_0])⟩
  · -- no
    have hr0 : rimE rim = 0 := by omega
    obtain ⟨hr1, hr2⟩ := rimE_ok hr0
    refine W.skip ?_
    refine W.seq ?_
    refine W.reg ?_
    refine Wx.rd (v := .string rim) (rd_move rfl) rfl ?_
    refine Wx.callF (run_callF Tryd.call75 rfl) (F75 (by first | assumption | (simp only [maxLen]; omega) | (simp only [ByteArray.size_extract, ByteArray.size_append, maxLen] at *; omega) | decide) (by omega) hr2 (hG.ext hS.bel)) rfl ?_
    rintro r_4 w_5 hx_6 rfl
    have hS := hS.ext hx_6
    refine Wx.rd (v := .string (restV rim)) (rd_assign rfl) rfl ?_
    refine Wx.rd (v := .int .i64 0) (rd_assign rfl) rfl ?_
    refine Wx.nil ?_
    have e1_0 : (restE rim) = (restV rim) := by rw [restE, if_pos hr0]
    have e1_1 : (rimE rim) = (0 : Int) := by exact hr0
    exact W.ret ⟨.tuple #[.string (restV rim), .int .i64 0], ResIs.two, hS.bel, (by rw [e1_0, e1_1])⟩

theorem F34 {rim : ByteArray} {w : World} (s_rim : rim.size ≤ maxLen) (hG : Laid w) : Calls Tryd.prog 34 #[.string rim] w (Ret w (fun r _ => r = .tuple #[.bool (fullP rim), .int .i64 (rimE rim)])) := by
  have hS := St.start0 w
  refine enterR Tryd.func34 rfl Tryd.ntmps34 Tryd.results34 rfl ?_
  refine W.seq ?_
  refine W.reg ?_
  refine Wx.rd (v := .bool false) (rd_assign rfl) rfl ?_
  refine Wx.rd (v := .int .i64 0) (rd_assign rfl) rfl ?_
  refine Wx.nil ?_
  refine W.seq ?_
  refine W.reg ?_
  refine Wx.rd (v := .string rim) (rd_move rfl) rfl ?_
  refine Wx.callF (run_callF Tryd.call32 rfl) (F32 (by first | assumption | (simp only [maxLen]; omega) | (simp only [ByteArray.size_extract, ByteArray.size_append, maxLen] at *; omega) | decide) (hG.ext hS.bel)) rfl ?_
  rintro r_1 w_2 hx_3 rfl
  have hS := hS.ext hx_3
  refine Wx.rd (v := .tuple #[.string (restE rim), .int .i64 (rimE rim)]) (rd_move rfl) rfl ?_
  refine Wx.rd (v := .string (restE rim)) (rd_extract rfl rfl) rfl ?_
  refine Wx.rd (v := .int .i64 (rimE rim)) (rd_extract rfl rfl) rfl ?_
  refine Wx.rd (v := .string (restE rim)) (rd_assign rfl) rfl ?_
  refine Wx.rd (v := .int .i64 (rimE rim)) (rd_assign rfl) rfl ?_
  refine Wx.nil ?_
  refine W.seq ?_
  refine W.reg ?_
  refine Wx.rd (v := .int .i64 (rimE rim)) (rd_move rfl) rfl ?_
  refine Wx.rd (v := .bool (decide ((rimE rim) = 0))) (rd_eql rfl rfl) rfl ?_
  refine Wx.rd (v := .bool (decide ((rimE rim) = 0))) (rd_move rfl) rfl ?_
  refine Wx.cut (X := Unit) 3 [14, 15, 16] (fun _ => [(16, .bool (decide ((rimE rim) = 0) && (restE rim) == ({ data := #[] } : ByteArray)))]) (fun _ w' => St w [] w' []) ?_ ?_
  · rcases Bool.eq_false_or_eq_true (decide ((rimE rim) = 0)) with g_4 | g_4
    · -- True
      have gp_5 := of_decide_eq_true g_4
      refine Wx.gyes rfl rfl (congrArg Value.bool g_4) ?_
      refine Wx.rd (v := .string (restE rim)) (rd_move rfl) rfl ?_
      refine Wx.gyes rfl rfl (congrArg Value.bool g_4) ?_
      refine Wx.rd (v := .bool ((restE rim) == ({ data := #[] } : ByteArray))) (rd_eqlS rfl rfl) rfl ?_
      refine Wx.rd (v := .bool ((restE rim) == ({ data := #[] } : ByteArray))) (rd_pickT (congrArg Value.bool g_4) rfl) rfl ?_
      refine Wx.nil ⟨(), hS, ⟨?_, trivial⟩, Out.look rfl Out.refl⟩
      show Value.bool ((restE rim) == ({ data := #[] } : ByteArray)) = Value.bool (decide ((rimE rim) = 0) && (restE rim) == ({ data := #[] } : ByteArray))
      rw [g_4]; rfl
    · -- False
      have gp_6 := of_decide_eq_false g_4
      refine Wx.gnoB rfl rfl (congrArg Value.bool g_4) rfl rfl ?_
      refine Wx.gnoB rfl rfl (congrArg Value.bool g_4) rfl rfl ?_
      refine Wx.rd (v := .bool false) (rd_pickF (congrArg Value.bool g_4) rfl) rfl ?_
      refine Wx.nil ⟨(), hS, ⟨?_, trivial⟩, Out.look rfl Out.refl⟩
      show Value.bool false = Value.bool (decide ((rimE rim) = 0) && (restE rim) == ({ data := #[] } : ByteArray))
      rw [g_4]; rfl
  rintro ⟨⟩ u_8 w_7 hS
  refine Wx.rd (v := .int .i64 (rimE rim)) (rd_move rfl) rfl ?_
  refine Wx.rd (v := .bool (decide ((rimE rim) = 0) && (restE rim) == ({ data := #[] } : ByteArray))) (rd_assign rfl) rfl ?_
  refine Wx.rd (v := .int .i64 (rimE rim)) (rd_assign rfl) rfl ?_
  refine Wx.nil ?_
  have e0_0 : (fullP rim) = (decide ((rimE rim) = 0) && (restE rim) == ({ data := #[] } : ByteArray)) := by rw [fullP, restE]; by_cases h : rimE rim = 0; (rw [if_pos h]; rfl); (rw [decide_eq_false h]; rfl)
  exact W.ret ⟨.tuple #[.bool (decide ((rimE rim) = 0) && (restE rim) == ({ data := #[] } : ByteArray)), .int .i64 (rimE rim)], ResIs.two, hS.bel, (by rw [e0_0])⟩

theorem F36 {rim : ByteArray} {w : World} (s_rim : rim.size ≤ maxLen) (hG : Laid w) : Calls Tryd.prog 36 #[.string rim] w (Ret w (fun r _ => r = .tuple #[.string (coreV rim), .int .i64 (rimE rim)])) := by
  have hS := St.start0 w
  refine enterR Tryd.func36 rfl Tryd.ntmps36 Tryd.results36 rfl ?_
  refine W.seq ?_
  refine W.reg ?_
  refine Wx.rd (v := .string ({ data := #[] } : ByteArray)) (rd_assign rfl) rfl ?_
  refine Wx.rd (v := .int .i64 0) (rd_assign rfl) rfl ?_
  refine Wx.nil ?_
  refine W.seq ?_
  refine W.reg ?_
  refine Wx.rd (v := .string rim) (rd_move rfl) rfl ?_
  refine Wx.callF (run_callF Tryd.call32 rfl) (F32 (by first | assumption | (simp only [maxLen]; omega) | (simp only [ByteArray.size_extract, ByteArray.size_append, maxLen] at *; omega) | decide) (hG.ext hS.bel)) rfl ?_
  rintro r_1 w_2 hx_3 rfl
  have hS := hS.ext hx_3
  refine Wx.rd (v := .tuple #[.string (restE rim), .int .i64 (rimE rim)]) (rd_move rfl) rfl ?_
  refine Wx.rd (v := .string (restE rim)) (rd_extract rfl rfl) rfl ?_
  refine Wx.rd (v := .int .i64 (rimE rim)) (rd_extract rfl rfl) rfl ?_
  refine Wx.rd (v := .string (restE rim)) (rd_assign rfl) rfl ?_
  refine Wx.rd (v := .int .i64 (rimE rim)) (rd_assign rfl) rfl ?_
  refine Wx.nil ?_
  refine W.seq ?_
  refine W.seq ?_
  refine W.reg ?_
  refine Wx.rd (v := .int .i64 (rimE rim)) (rd_move rfl) rfl ?_
  refine Wx.rd (v := .bool (decide ((rimE rim) ≠ 0))) (rd_neq rfl rfl) rfl ?_
  refine Wx.nil ?_
  refine W.condD rfl (fun c0 => ?_) (fun c0 => ?_)
  · -- yes
    refine W.seq ?_
    refine W.reg ?_
    refine Wx.rd (v := .int .i64 (rimE rim)) (rd_move rfl) rfl ?_
    refine Wx.rd (v := .string ({ data := #[] } : ByteArray)) (rd_assign rfl) rfl ?_
    refine Wx.rd (v := .int .i64 (rimE rim)) (rd_assign rfl) rfl ?_
    refine Wx.nil ?_
    have e0_0 : (coreV rim) = ({ data := #[] } : ByteArray) := by rw [coreV, if_neg c0]; rfl
    exact W.ret ⟨.tuple #[.string ({ data := #[] } : ByteArray), .int .i64 (rimE rim)], ResIs.two, hS.bel, (by rw [e0_0])⟩
  · -- no
    have hr0 : rimE rim = 0 := by omega
    obtain ⟨hr1, hr2⟩ := rimE_ok hr0
    have hrs := rest_size (s := rim)
    have hre : restE rim = restV rim := if_pos hr0
    refine W.skip ?_
    refine W.seq ?_
    refine W.block ?_
    refine W.loop [4, 14, 15, 16, 17, 18, 19, 20, 21, 22, 23, 24, 25, 26, 27, 28] (fun (cur : ByteArray) => [(4, .string cur)]) (fun (cur : ByteArray) w' => St w [] w' [] ∧ coreF cur = coreF (restV rim) ∧ Lets cur ∧ (cur.size : Int) ≤ 12) (fun (cur : ByteArray) => cur.size) (restE rim) ⟨rfl, trivial⟩ ⟨hS, (by rw [hre]), (by rw [hre]; exact hr2.rest), (by rw [hre]; omega)⟩ ?_
    rintro cur u_5 w_4 ⟨hS, h1, h2, h3⟩
    refine W.seq ?_
    refine W.seq ?_
    refine W.reg ?_
    refine Wx.rd (v := .string cur) (rd_move rfl) rfl ?_
    refine Wx.rd (v := .int .i64 (cur.size : Int)) (rd_lenS rfl Tryd.underlying9) rfl ?_
    refine Wx.rd (v := .bool (decide (1 < (cur.size : Int)))) (rd_gtr rfl rfl) rfl ?_
    refine Wx.rd (v := .bool (decide (1 < (cur.size : Int)))) (rd_move rfl) rfl ?_
    refine Wx.cut (X := Unit) 6 [18, 19, 20, 21, 22, 23] (fun _ => [(23, .bool (decide (1 < (cur.size : Int)) && fitR cur 0 ((cur.size : Int) - 1)))]) (fun _ w' => St w [] w' []) ?_ ?_
    · rcases Bool.eq_false_or_eq_true (decide (1 < (cur.size : Int))) with g_6 | g_6
      · -- True
        have gp_7 := of_decide_eq_true g_6
        refine Wx.gyes rfl rfl (congrArg Value.bool g_6) ?_
        refine Wx.rd (v := .string cur) (rd_move rfl) rfl ?_
        refine Wx.gyes rfl rfl (congrArg Value.bool g_6) ?_
        refine Wx.rd (v := .string cur) (rd_move rfl) rfl ?_
        refine Wx.gyes rfl rfl (congrArg Value.bool g_6) ?_
        refine Wx.rd (v := .int .i64 (cur.size : Int)) (rd_lenS rfl Tryd.underlying9) rfl ?_
        refine Wx.gyes rfl rfl (congrArg Value.bool g_6) ?_
        refine Wx.rd (v := .int .i64 ((cur.size : Int) - 1)) (rd_sub rfl rfl (in_i64 (by omega) (by omega))) rfl ?_
        refine Wx.gyes rfl rfl (congrArg Value.bool g_6) ?_
        refine Wx.callF (run_callF Tryd.call61 rfl) (F61 (by first | assumption | (simp only [maxLen]; omega) | (simp only [ByteArray.size_extract, ByteArray.size_append, maxLen] at *; omega) | decide) (in_i64 (by omega) (by omega)) (in_i64 (by omega) (by omega)) (by omega) (by omega) (by omega) (by omega) (by omega) (hG.ext hS.bel)) rfl ?_
        rintro r_8 w_9 hx_10 rfl
        have hS := hS.ext hx_10
        refine Wx.rd (v := .bool (fitR cur 0 ((cur.size : Int) - 1))) (rd_pickT (congrArg Value.bool g_6) rfl) rfl ?_
        refine Wx.nil ⟨(), hS, ⟨?_, trivial⟩, Out.look rfl Out.refl⟩
        show Value.bool (fitR cur 0 ((cur.size : Int) - 1)) = Value.bool (decide (1 < (cur.size : Int)) && fitR cur 0 ((cur.size : Int) - 1))
        rw [g_6]; rfl
      · -- False
        have gp_11 := of_decide_eq_false g_6
        refine Wx.gnoB rfl rfl (congrArg Value.bool g_6) rfl rfl ?_
        refine Wx.gnoB rfl rfl (congrArg Value.bool g_6) rfl rfl ?_
        refine Wx.gnoB rfl rfl (congrArg Value.bool g_6) rfl rfl ?_
        refine Wx.gnoB rfl rfl (congrArg Value.bool g_6) rfl rfl ?_
        refine Wx.gnoB rfl rfl (congrArg Value.bool g_6) rfl rfl ?_
        refine Wx.rd (v := .bool false) (rd_pickF (congrArg Value.bool g_6) rfl) rfl ?_
        refine Wx.nil ⟨(), hS, ⟨?_, trivial⟩, Out.look rfl Out.refl⟩
        show Value.bool false = Value.bool (decide (1 < (cur.size : Int)) && fitR cur 0 ((cur.size : Int) - 1))
        rw [g_6]; rfl
    rintro ⟨⟩ u_13 w_12 hS
    refine Wx.nil ?_
    refine W.cond rfl (fun c1 => ?_) (fun c1 => ?_)
    · -- yes
      try simp only [Bool.and_eq_true, Bool.or_eq_true, Bool.not_eq_true', Bool.and_eq_false_iff, Bool.or_eq_false_iff, Bool.not_eq_false', decide_eq_true_eq, decide_eq_false_iff_not, not_or, Bool.false_eq_true, Bool.true_eq_false, false_or, or_false, not_false_eq_true] at c1
      refine W.skip ?_
      refine W.block ?_
      refine W.reg ?_
      refine Wx.rd (v := .string cur) (rd_move rfl) rfl ?_
      refine Wx.rd (v := .string cur) (rd_move rfl) rfl ?_
      refine Wx.rd (v := .int .i64 (cur.size : Int)) (rd_lenS rfl Tryd.underlying9) rfl ?_
      refine Wx.rd (v := .int .i64 ((cur.size : Int) - 1)) (rd_sub rfl rfl (in_i64 (by omega) (by omega))) rfl ?_
      refine Wx.rd (v := .string ((cur).extract (1 : Int).toNat ((cur.size : Int) - 1).toNat)) (rd_sliceS_LH Tryd.underlying9 rfl rfl rfl (by omega) (by omega) (by omega)) rfl ?_
      refine Wx.rd (v := .string ((cur).extract (1 : Int).toNat ((cur.size : Int) - 1).toNat)) (rd_assign rfl) rfl ?_
      refine Wx.nil ?_
      refine ⟨(cur).extract (1 : Int).toNat ((cur.size : Int) - 1).toNat, (by exact inner_lt c1.1), ?_, ?_, Out.look rfl (Out.hav rfl (Out.look rfl Out.self))⟩
      · exact ⟨hS, ((coreF_yes c1).trans h1), (h2.extract _ _), (inner_le h3)⟩
      · exact ⟨rfl, trivial⟩
    · -- no
      try simp only [Bool.and_eq_true, Bool.or_eq_true, Bool.not_eq_true', Bool.and_eq_false_iff, Bool.or_eq_false_iff, Bool.not_eq_false', decide_eq_true_eq, decide_eq_false_iff_not, not_or, Bool.false_eq_true, Bool.true_eq_false, false_or, or_false, not_false_eq_true] at c1
      refine W.exit rfl ?_
      refine W.seq ?_
      refine W.reg ?_
      refine Wx.rd (v := .string cur) (rd_move rfl) rfl ?_
      refine Wx.rd (v := .string cur) (rd_assign rfl) rfl ?_
      refine Wx.rd (v := .int .i64 0) (rd_assign rfl) rfl ?_
      refine Wx.nil ?_
      have e1_0 : (coreV rim) = cur := by rw [coreV, if_pos hr0, ← h1, coreF_no c1]
      have e1_1 : (rimE rim) = (0 : Int) := by exact hr0
      exact W.ret ⟨.tuple #[.string cur, .int .i64 0], ResIs.two, hS.bel, (by rw [e1_0, e1_1])⟩

end Go.Proofs.YtokdjjebnomciaaDoor

namespace Go.Proofs.YtokdjjebnomciaaDoor
open Go.Wk Go.RowKit Go.Lib
set_option linter.unusedVariables false
set_option linter.unusedSimpArgs false
theorem mixedHi_ : Tryd.prog.follows .mixedOrders = true := by kernel_rfl

theorem F38 {rim : ByteArray} {d : Int} {w : World} (s_rim : rim.size ≤ maxLen) (i_d : InK .i64 d) (hG : Laid w) : Calls Tryd.prog 38 #[.string rim, .int .i64 d] w (Ret w (fun r _ => r = .tuple #[.string (turnS rim d), .int .i64 (turnE rim d)])) := by
  have b_d := bd_i64 i_d
  have hS := St.start0 w
  refine enterR Tryd.func38 rfl Tryd.ntmps38 Tryd.results38 rfl ?_
  refine W.seq ?_
  refine W.reg ?_
  refine Wx.rd (v := .string ({ data := #[] } : ByteArray)) (rd_assign rfl) rfl ?_
  refine Wx.rd (v := .int .i64 0) (rd_assign rfl) rfl ?_
  refine Wx.nil ?_
  refine W.seq ?_
  refine W.reg ?_
  refine Wx.rd (v := .string rim) (rd_move rfl) rfl ?_
  refine Wx.callF (run_callF Tryd.call17 rfl) (F17 (by first | assumption | (simp only [maxLen]; omega) | (simp only [ByteArray.size_extract, ByteArray.size_append, maxLen] at *; omega) | decide)) rfl ?_
  rintro r_1 w_2 hx_3 rfl
  have hS := hS.ext hx_3
  refine Wx.rd (v := .int .i64 (rimE rim)) (rd_assign rfl) rfl ?_
  refine Wx.nil ?_
  refine W.seq ?_
  refine W.block ?_
  refine W.seq ?_
  refine W.reg ?_
  refine Wx.rd (v := .int .i64 (rimE rim)) (rd_move rfl) rfl ?_
  refine Wx.rd (v := .bool (decide ((rimE rim) ≠ 0))) (rd_neq rfl rfl) rfl ?_
  refine Wx.rd (v := .bool (decide ((rimE rim) ≠ 0))) (rd_assign rfl) rfl ?_
  refine Wx.nil ?_
  refine W.condD rfl (fun c0 => ?_) (fun c0 => ?_)
  · -- yes
    refine W.seq ?_
    refine W.reg ?_
    refine Wx.rd (v := .int .i64 (rimE rim)) (rd_move rfl) rfl ?_
    refine Wx.rd (v := .string ({ data := #[] } : ByteArray)) (rd_assign rfl) rfl ?_
    refine Wx.rd (v := .int .i64 (rimE rim)) (rd_assign rfl) rfl ?_
    refine Wx.nil ?_
    have e0_0 : (turnS rim d) = ({ data := #[] } : ByteArray) := by exact (turn_err c0).1
    have e0_1 : (turnE rim d) = (rimE rim : Int) := by exact (turn_err c0).2
    exact W.ret ⟨.tuple #[.string ({ data := #[] } : ByteArray), .int .i64 (rimE rim)], ResIs.two, hS.bel, (by rw [e0_0, e0_1])⟩
  · -- no
    have hr0 : rimE rim = 0 := by omega
    obtain ⟨hr1, hr2⟩ := rimE_ok hr0
    refine W.seq ?_
    refine W.reg ?_
    refine Wx.rd (v := .int .i64 d) (rd_move rfl) rfl ?_
    refine Wx.rd (v := .bool (decide (d < 0))) (rd_lss rfl rfl) rfl ?_
    refine Wx.rd (v := .bool (decide (d < 0))) (rd_move rfl) rfl ?_
    refine Wx.cut (X := Unit) 9 [17, 18, 19, 20, 21, 22, 23, 24, 25] (fun _ => [(25, .bool (decide (d < 0) || (decide (0 < d) && decide ((rim.size : Int) ≤ d))))]) (fun _ w' => St w [] w' []) ?_ ?_
    · rcases Bool.eq_false_or_eq_true (decide (d < 0)) with g_4 | g_4
      · -- True
        have gp_5 := of_decide_eq_true g_4
        refine Wx.gnoB rfl rfl (congrArg Value.bool g_4) rfl rfl ?_
        refine Wx.gnoB rfl rfl (congrArg Value.bool g_4) rfl rfl ?_
        refine Wx.gnoB rfl rfl (congrArg Value.bool g_4) rfl rfl ?_
        refine Wx.gno rfl rfl rfl rfl ?_
        refine Wx.gno rfl rfl rfl rfl ?_
        refine Wx.gno rfl rfl rfl rfl ?_
        refine Wx.gno rfl rfl rfl rfl ?_
        refine Wx.gnoB rfl rfl (congrArg Value.bool g_4) rfl rfl ?_
        refine Wx.rd (v := .bool true) (rd_pickT (congrArg Value.bool g_4) rfl) rfl ?_
        refine Wx.nil ⟨(), hS, ⟨?_, trivial⟩, Out.look rfl Out.refl⟩
        show Value.bool true = Value.bool (decide (d < 0) || (decide (0 < d) && decide ((rim.size : Int) ≤ d)))
        rw [g_4]; rfl
      · -- False
        have gp_6 := of_decide_eq_false g_4
        refine Wx.gyes rfl rfl (congrArg Value.bool g_4) ?_
        refine Wx.rd (v := .int .i64 d) (rd_move rfl) rfl ?_
        refine Wx.gyes rfl rfl (congrArg Value.bool g_4) ?_
        refine Wx.rd (v := .bool (decide (0 < d))) (rd_gtr rfl rfl) rfl ?_
        refine Wx.gyes rfl rfl (congrArg Value.bool g_4) ?_
        refine Wx.rd (v := .bool (decide (0 < d))) (rd_move rfl) rfl ?_
        refine Wx.cut (X := Unit) 5 [20, 21, 22, 23, 24] (fun _ => [(24, .bool (decide (0 < d) && decide ((rim.size : Int) ≤ d)))]) (fun _ w' => St w [] w' []) ?_ ?_
        · rcases Bool.eq_false_or_eq_true (decide (0 < d)) with g_7 | g_7
          · -- True
            have gp_8 := of_decide_eq_true g_7
            refine Wx.gyes rfl rfl (congrArg Value.bool g_7) ?_
            refine Wx.rd (v := .int .i64 d) (rd_move rfl) rfl ?_
            refine Wx.gyes rfl rfl (congrArg Value.bool g_7) ?_
            refine Wx.rd (v := .string rim) (rd_move rfl) rfl ?_
            refine Wx.gyes rfl rfl (congrArg Value.bool g_7) ?_
            refine Wx.rd (v := .int .i64 (rim.size : Int)) (rd_lenS rfl Tryd.underlying9) rfl ?_
            refine Wx.gyes rfl rfl (congrArg Value.bool g_7) ?_
            refine Wx.rd (v := .bool (decide ((rim.size : Int) ≤ d))) (rd_geq rfl rfl) rfl ?_
            refine Wx.gyes rfl rfl (congrArg Value.bool g_4) ?_
            refine Wx.rd (v := .bool (decide ((rim.size : Int) ≤ d))) (rd_pickT (congrArg Value.bool g_7) rfl) rfl ?_
            refine Wx.nil ⟨(), hS, ⟨?_, trivial⟩, Out.look rfl Out.refl⟩
            show Value.bool (decide ((rim.size : Int) ≤ d)) = Value.bool (decide (0 < d) && decide ((rim.size : Int) ≤ d))
            rw [g_7]; rfl
          · -- False
            have gp_9 := of_decide_eq_false g_7
            refine Wx.gnoB rfl rfl (congrArg Value.bool g_7) rfl rfl ?_
            refine Wx.gnoB rfl rfl (congrArg Value.bool g_7) rfl rfl ?_
            refine Wx.gnoB rfl rfl (congrArg Value.bool g_7) rfl rfl ?_
            refine Wx.gnoB rfl rfl (congrArg Value.bool g_7) rfl rfl ?_
            refine Wx.gyes rfl rfl (congrArg Value.bool g_4) ?_
            refine Wx.rd (v := .bool false) (rd_pickF (congrArg Value.bool g_7) rfl) rfl ?_
            refine Wx.nil ⟨(), hS, ⟨?_, trivial⟩, Out.look rfl Out.refl⟩
            show Value.bool false = Value.bool (decide (0 < d) && decide ((rim.size : Int) ≤ d))
            rw [g_7]; rfl
        rintro ⟨⟩ u_11 w_10 hS
        refine Wx.rd (v := .bool (decide (0 < d) && decide ((rim.size : Int) ≤ d))) (rd_pickF (congrArg Value.bool g_4) rfl) rfl ?_
        refine Wx.nil ⟨(), hS, ⟨?_, trivial⟩, Out.look rfl (Out.hav rfl (Out.look rfl Out.refl))⟩
        show Value.bool (decide (0 < d) && decide ((rim.size : Int) ≤ d)) = Value.bool (decide (d < 0) || (decide (0 < d) && decide ((rim.size : Int) ≤ d)))
        rw [g_4]; rfl
    rintro ⟨⟩ u_13 w_12 hS
    refine Wx.rd (v := .bool (decide (d < 0) || (decide (0 < d) && decide ((rim.size : Int) ≤ d)))) (rd_assign rfl) rfl ?_
    refine Wx.nil ?_
    refine W.cond rfl (fun c1 => ?_) (fun c1 => ?_)
    · -- yes
      try simp only [Bool.and_eq_true, Bool.or_eq_true, Bool.not_eq_true', Bool.and_eq_false_iff, Bool.or_eq_false_iff, Bool.not_eq_false', decide_eq_true_eq, decide_eq_false_iff_not, not_or, Bool.false_eq_true, Bool.true_eq_false, false_or, or_false, not_false_eq_true] at c1
      refine W.seq ?_
      refine W.reg ?_
      refine Wx.rd (v := .string ({ data := #[] } : ByteArray)) (rd_assign rfl) rfl ?_
      refine Wx.rd (v := .int .i64 1) (rd_assign rfl) rfl ?_
      refine Wx.nil ?_
      have e1_0 : (turnS rim d) = ({ data := #[] } : ByteArray) := by exact (turn_bad hr0 c1).1
      have e1_1 : (turnE rim d) = (1 : Int) := by exact (turn_bad hr0 c1).2
      exact W.ret ⟨.tuple #[.string ({ data := #[] } : ByteArray), .int .i64 1], ResIs.two, hS.bel, (by rw [e1_0, e1_1])⟩
    · -- no
      try simp only [Bool.and_eq_true, Bool.or_eq_true, Bool.not_eq_true', Bool.and_eq_false_iff, Bool.or_eq_false_iff, Bool.not_eq_false', decide_eq_true_eq, decide_eq_false_iff_not, not_or, Bool.false_eq_true, Bool.true_eq_false, false_or, or_false, not_false_eq_true] at c1
      refine W.skip ?_
      refine W.seq ?_
      refine W.regQ mixedHi_ (by kernel_rfl) ?_
      refine Wx.rd (v := .string rim) (rd_move rfl) rfl ?_
      refine Wx.rd (v := .int .i64 d) (rd_move rfl) rfl ?_
      refine Wx.rd (v := .string ((rim).extract d.toNat rim.size)) (rd_sliceS_L Tryd.underlying9 rfl rfl (by omega) (by omega)) rfl ?_
      refine Wx.rd (v := .string rim) (rd_move rfl) rfl ?_
      refine Wx.rd (v := .int .i64 d) (rd_move rfl) rfl ?_
      refine Wx.rd (v := .string ((rim).extract 0 d.toNat)) (rd_sliceS_H Tryd.underlying9 rfl rfl (by omega) (by omega)) rfl ?_
      refine Wx.rd (v := .string (((rim).extract d.toNat rim.size) ++ ((rim).extract 0 d.toNat))) (rd_addS rfl rfl (by rw [ByteArray.size_extract, ByteArray.size_extract]; omega)) rfl ?_
      refine Wx.rd (v := .string (((rim).extract d.toNat rim.size) ++ ((rim).extract 0 d.toNat))) (rd_assign rfl) rfl ?_
      refine Wx.rd (v := .int .i64 0) (rd_assign rfl) rfl ?_
      refine Wx.nilQ (fun w_14 hx_15 => ?_)
      have hS := hS.ext hx_15
      have e2_0 : (turnS rim d) = (((rim).extract d.toNat rim.size) ++ ((rim).extract 0 d.toNat)) := by exact (turn_ok hr0 (by omega)).1
      have e2_1 : (turnE rim d) = (0 : Int) := by exact (turn_ok hr0 (by omega)).2
      exact W.ret ⟨.tuple #[.string (((rim).extract d.toNat rim.size) ++ ((rim).extract 0 d.toNat)), .int .i64 0], ResIs.two, hS.bel, (by rw [e2_0, e2_1])⟩

theorem F80 {v : Value} {ys : List Int}  {ob : List Ob} {w0 w : World} {O : List (Option Nat)}  (hS : St w0 O w (.row (tI .i32) 21 v ys :: ob)) : Calls Tryd.prog 80 #[v] w (Bk fun r w' => r = .tuple #[] ∧ St w0 O w' (.row (tI .i32) 21 v (ys.reverse) :: ob)) := by
  have hyl : (ys.length : Int) ≤ 9223372036854775807 := by have := hS.rowLen 0 rfl; simp only [maxLen] at this; omega
  refine enterB Tryd.func80 rfl Tryd.ntmps80 Tryd.results80 rfl ?_
  refine W.seq ?_
  refine W.reg ?_
  refine Wx.rd (v := v) (rd_move rfl) rfl ?_
  refine Wx.rd (v := .int .i64 (ys.length : Int)) (rd_lenR hS 0 rfl rfl Tryd.underlying98) rfl ?_
  refine Wx.rd (v := .int .i64 ((ys.length : Int) - 1)) (rd_sub rfl rfl (in_i64 (by omega) (by omega))) rfl ?_
  refine Wx.rd (v := .int .i64 0) (rd_assign rfl) rfl ?_
  refine Wx.rd (v := .int .i64 ((ys.length : Int) - 1)) (rd_assign rfl) rfl ?_
  refine Wx.nil ?_
  refine W.block ?_
  refine W.loop [2, 3, 7, 8, 9, 10, 11, 12, 13, 14, 15, 16, 17, 18, 19, 20, 21, 22, 23, 24, 25, 26, 27] (fun x : Int × Int × (List Int) => match x with | (i, j, z) => [(2, .int .i64 i), (3, .int .i64 j)]) (fun (x : Int × Int × (List Int)) w' => match x with | (i, j, z) => St w0 O w' (.row (tI .i32) 21 v z :: ob) ∧ 0 ≤ i ∧ j = (ys.length : Int) - 1 - i ∧ z = revS ys i ∧ z.length = ys.length) (fun x : Int × Int × (List Int) => match x with | (i, j, z) => (j - i).toNat) (0, (ys.length : Int) - 1, ys) ⟨rfl, rfl, trivial⟩ ⟨hS, (by first | omega | simp), (by first | omega | simp), ((revS_start ys).symm), (rfl)⟩ ?_
  rintro ⟨i, j, z⟩ u_2 w_1 ⟨hS, h0, h1, h2, h3⟩
  refine W.seq ?_
  refine W.seq ?_
  refine W.reg ?_
  refine Wx.rd (v := .int .i64 i) (rd_move rfl) rfl ?_
  refine Wx.rd (v := .int .i64 j) (rd_move rfl) rfl ?_
  refine Wx.rd (v := .bool (decide (i < j))) (rd_lss rfl rfl) rfl ?_
  refine Wx.nil ?_
  refine W.condD rfl (fun c0 => ?_) (fun c0 => ?_)
  · -- yes
    refine W.skip ?_
    refine W.seq ?_
    refine W.block ?_
    refine W.regP mixedHi_ (fun w_3 hx_4 => ?_)
    have hS := hS.ext hx_4
    obtain ⟨g_5, c_6, rfl, hc_7⟩ := hS.rowForm 0 rfl (by omega)
    refine Wp.rd (v := (.slice (some ⟨g_5, 0, none⟩) z.length c_6)) 0 rfl (by kernel_rfl) (fun _ => (rd_move rfl)) rfl ?_
    refine Wp.rd (v := .int .i64 i) 1 rfl (by kernel_rfl) (fun _ => (rd_move rfl)) rfl ?_
    refine Wp.rd (v := (.slice (some ⟨g_5, 0, none⟩) z.length c_6)) 2 rfl (by kernel_rfl) (fun _ => (rd_move rfl)) rfl ?_
    refine Wp.rd (v := .int .i64 j) 3 rfl (by kernel_rfl) (fun _ => (rd_move rfl)) rfl ?_
    refine Wp.rd (v := (.slice (some ⟨g_5, 0, none⟩) z.length c_6)) 4 rfl (by kernel_rfl) (fun _ => (rd_move rfl)) rfl ?_
    refine Wp.rd (v := .int .i64 j) 5 rfl (by kernel_rfl) (fun _ => (rd_move rfl)) rfl ?_
    refine Wp.rd (v := .pointer (some ⟨g_5, j.toNat * 1, none⟩)) 6 rfl (by kernel_rfl) (fun _ => (rd_indexO Tryd.underlying98 Tryd.sizeOf21 rfl rfl (by first | omega | (simp only [List.length_set, List.length_append, List.length_cons, List.length_nil, List.length_replicate]; omega)) (by first | omega | (simp only [List.length_set, List.length_append, List.length_cons, List.length_nil, List.length_replicate]; omega)))) rfl ?_
    refine Wp.rd (v := (.slice (some ⟨g_5, 0, none⟩) z.length c_6)) 8 rfl (by kernel_rfl) (fun _ => (rd_move rfl)) rfl ?_
    refine Wp.rd (v := .int .i64 i) 9 rfl (by kernel_rfl) (fun _ => (rd_move rfl)) rfl ?_
    refine Wp.rd (v := .pointer (some ⟨g_5, i.toNat * 1, none⟩)) 10 rfl (by kernel_rfl) (fun _ => (rd_indexO Tryd.underlying98 Tryd.sizeOf21 rfl rfl (by first | omega | (simp only [List.length_set, List.length_append, List.length_cons, List.length_nil, List.length_replicate]; omega)) (by first | omega | (simp only [List.length_set, List.length_append, List.length_cons, List.length_nil, List.length_replicate]; omega)))) rfl ?_
    refine Wp.br [7, 11] (by kernel_rfl) (by decide) ⟨⟨_, rfl, ?_⟩, ⟨_, rfl, ?_⟩, trivial⟩
    · -- operation 7
      refine Wx.rd (v := .int .i32 (ix 0 z j)) (rd_loadRI' hS 0 rfl rfl rfl (by first | omega | (simp only [List.length_set, List.length_append, List.length_cons, List.length_nil, List.length_replicate]; omega)) (by first | omega | (simp only [List.length_set, List.length_append, List.length_cons, List.length_nil, List.length_replicate]; omega)) Tryd.isAgg21 Tryd.sizeOf21) rfl ?_
      have bd_8 := bd_i32 (hS.rowInK' 0 rfl (by first | omega | (simp only [List.length_set, List.length_append, List.length_cons, List.length_nil, List.length_replicate]; omega)) (by first | omega | (simp only [List.length_set, List.length_append, List.length_cons, List.length_nil, List.length_replicate]; omega)) : InK .i32 (ix 0 z j))
      refine Wx.nil ?_
      refine Wp.br [11] (by kernel_rfl) (by decide) ⟨⟨_, rfl, ?_⟩, trivial⟩
      refine Wx.rd (v := .int .i32 (ix 0 z i)) (rd_loadRI' hS 0 rfl rfl rfl (by first | omega | (simp only [List.length_set, List.length_append, List.length_cons, List.length_nil, List.length_replicate]; omega)) (by first | omega | (simp only [List.length_set, List.length_append, List.length_cons, List.length_nil, List.length_replicate]; omega)) Tryd.isAgg21 Tryd.sizeOf21) rfl ?_
      have bd_9 := bd_i32 (hS.rowInK' 0 rfl (by first | omega | (simp only [List.length_set, List.length_append, List.length_cons, List.length_nil, List.length_replicate]; omega)) (by first | omega | (simp only [List.length_set, List.length_append, List.length_cons, List.length_nil, List.length_replicate]; omega)) : InK .i32 (ix 0 z i))
      refine Wx.nil ?_
      refine Wp.rd (v := .pointer (some ⟨g_5, i.toNat * 1, none⟩)) 12 rfl (by kernel_rfl) (fun _ => (rd_indexO Tryd.underlying98 Tryd.sizeOf21 rfl rfl (by first | omega | (simp only [List.length_set, List.length_append, List.length_cons, List.length_nil, List.length_replicate]; omega)) (by first | omega | (simp only [List.length_set, List.length_append, List.length_cons, List.length_nil, List.length_replicate]; omega)))) rfl ?_
      refine Wp.br [13] (by kernel_rfl) (by decide) ⟨⟨_, rfl, ?_⟩, trivial⟩
      refine Wx.storeR (j := i.toNat) (z := ix 0 z j) hS 0 rfl rfl rfl (by first | omega | (simp only [List.length_set, List.length_append, List.length_cons, List.length_nil, List.length_replicate]; omega)) rfl (V.mkInt (in_i32 (by omega) (by omega))) Tryd.sizeOf21 (fun w_10 hz_11 hS => ?_)
      refine Wx.nil ?_
      refine Wp.rd (v := .pointer (some ⟨g_5, j.toNat * 1, none⟩)) 14 rfl (by kernel_rfl) (fun _ => (rd_indexO Tryd.underlying98 Tryd.sizeOf21 rfl rfl (by first | omega | (simp only [List.length_set, List.length_append, List.length_cons, List.length_nil, List.length_replicate]; omega)) (by first | omega | (simp only [List.length_set, List.length_append, List.length_cons, List.length_nil, List.length_replicate]; omega)))) rfl ?_
      refine Wp.br [15] (by kernel_rfl) (by decide) ⟨⟨_, rfl, ?_⟩, trivial⟩
      refine Wx.storeR (j := j.toNat) (z := ix 0 z i) hS 0 rfl rfl rfl (by first | omega | (simp only [List.length_set, List.length_append, List.length_cons, List.length_nil, List.length_replicate]; omega)) rfl (V.mkInt (in_i32 (by omega) (by omega))) Tryd.sizeOf21 (fun w_12 hz_13 hS => ?_)
      refine Wx.nil ?_
      refine Wp.done (by kernel_rfl) ?_
      refine W.reg ?_
      refine Wx.rd (v := .int .i64 i) (rd_move rfl) rfl ?_
      refine Wx.rd (v := .int .i64 (i + 1)) (rd_add rfl rfl (in_i64 (by omega) (by omega))) rfl ?_
      refine Wx.rd (v := .int .i64 j) (rd_move rfl) rfl ?_
      refine Wx.rd (v := .int .i64 (j - 1)) (rd_sub rfl rfl (in_i64 (by omega) (by omega))) rfl ?_
      refine Wx.rd (v := .int .i64 (i + 1)) (rd_assign rfl) rfl ?_
      refine Wx.rd (v := .int .i64 (j - 1)) (rd_assign rfl) rfl ?_
      refine Wx.nil ?_
      refine ⟨(i + 1, j - 1, List.set (List.set z i.toNat (ix 0 z j)) j.toNat (ix 0 z i)), (by show ((j - 1) - (i + 1)).toNat < (j - i).toNat; omega), ?_, ?_, Out.look rfl Out.self⟩
      · exact ⟨hS, (by first | omega | assumption), (by first | omega | assumption), (by rw [h2]; exact revS_step h0 c0 h1), (by simp; omega)⟩
      · exact ⟨rfl, rfl, trivial⟩
    · -- operation 11
      refine Wx.rd (v := .int .i32 (ix 0 z i)) (rd_loadRI' hS 0 rfl rfl rfl (by first | omega | (simp only [List.length_set, List.length_append, List.length_cons, List.length_nil, List.length_replicate]; omega)) (by first | omega | (simp only [List.length_set, List.length_append, List.length_cons, List.length_nil, List.length_replicate]; omega)) Tryd.isAgg21 Tryd.sizeOf21) rfl ?_
      have bd_14 := bd_i32 (hS.rowInK' 0 rfl (by first | omega | (simp only [List.length_set, List.length_append, List.length_cons, List.length_nil, List.length_replicate]; omega)) (by first | omega | (simp only [List.length_set, List.length_append, List.length_cons, List.length_nil, List.length_replicate]; omega)) : InK .i32 (ix 0 z i))
      refine Wx.nil ?_
      refine Wp.br [7] (by kernel_rfl) (by decide) ⟨⟨_, rfl, ?_⟩, trivial⟩
      refine Wx.rd (v := .int .i32 (ix 0 z j)) (rd_loadRI' hS 0 rfl rfl rfl (by first | omega | (simp only [List.length_set, List.length_append, List.length_cons, List.length_nil, List.length_replicate]; omega)) (by first | omega | (simp only [List.length_set, List.length_append, List.length_cons, List.length_nil, List.length_replicate]; omega)) Tryd.isAgg21 Tryd.sizeOf21) rfl ?_
      have bd_15 := bd_i32 (hS.rowInK' 0 rfl (by first | omega | (simp only [List.length_set, List.length_append, List.length_cons, List.length_nil, List.length_replicate]; omega)) (by first | omega | (simp only [List.length_set, List.length_append, List.length_cons, List.length_nil, List.length_replicate]; omega)) : InK .i32 (ix 0 z j))
      refine Wx.nil ?_
      refine Wp.rd (v := .pointer (some ⟨g_5, i.toNat * 1, none⟩)) 12 rfl (by kernel_rfl) (fun _ => (rd_indexO Tryd.underlying98 Tryd.sizeOf21 rfl rfl (by first | omega | (simp only [List.length_set, List.length_append, List.length_cons, List.length_nil, List.length_replicate]; omega)) (by first | omega | (simp only [List.length_set, List.length_append, List.length_cons, List.length_nil, List.length_replicate]; omega)))) rfl ?_
      refine Wp.br [13] (by kernel_rfl) (by decide) ⟨⟨_, rfl, ?_⟩, trivial⟩
      refine Wx.storeR (j := i.toNat) (z := ix 0 z j) hS 0 rfl rfl rfl (by first | omega | (simp only [List.length_set, List.length_append, List.length_cons, List.length_nil, List.length_replicate]; omega)) rfl (V.mkInt (in_i32 (by omega) (by omega))) Tryd.sizeOf21 (fun w_16 hz_17 hS => ?_)
      refine Wx.nil ?_
      refine Wp.rd (v := .pointer (some ⟨g_5, j.toNat * 1, none⟩)) 14 rfl (by kernel_rfl) (fun _ => (rd_indexO Tryd.underlying98 Tryd.sizeOf21 rfl rfl (by first | omega | (simp only [List.length_set, List.length_append, List.length_cons, List.length_nil, List.length_replicate]; omega)) (by first | omega | (simp only [List.length_set, List.length_append, List.length_cons, List.length_nil, List.length_replicate]; omega)))) rfl ?_
      refine Wp.br [15] (by kernel_rfl) (by decide) ⟨⟨_, rfl, ?_⟩, trivial⟩
      refine Wx.storeR (j := j.toNat) (z := ix 0 z i) hS 0 rfl rfl rfl (by first | omega | (simp only [List.length_set, List.length_append, List.length_cons, List.length_nil, List.length_replicate]; omega)) rfl (V.mkInt (in_i32 (by omega) (by omega))) Tryd.sizeOf21 (fun w_18 hz_19 hS => ?_)
      refine Wx.nil ?_
      refine Wp.done (by kernel_rfl) ?_
      refine W.reg ?_
      refine Wx.rd (v := .int .i64 i) (rd_move rfl) rfl ?_
      refine Wx.rd (v := .int .i64 (i + 1)) (rd_add rfl rfl (in_i64 (by omega) (by omega))) rfl ?_
      refine Wx.rd (v := .int .i64 j) (rd_move rfl) rfl ?_
      refine Wx.rd (v := .int .i64 (j - 1)) (rd_sub rfl rfl (in_i64 (by omega) (by omega))) rfl ?_
      refine Wx.rd (v := .int .i64 (i + 1)) (rd_assign rfl) rfl ?_
      refine Wx.rd (v := .int .i64 (j - 1)) (rd_assign rfl) rfl ?_
      refine Wx.nil ?_
      refine ⟨(i + 1, j - 1, List.set (List.set z i.toNat (ix 0 z j)) j.toNat (ix 0 z i)), (by show ((j - 1) - (i + 1)).toNat < (j - i).toNat; omega), ?_, ?_, Out.look rfl Out.self⟩
      · exact ⟨hS, (by first | omega | assumption), (by first | omega | assumption), (by rw [h2]; exact revS_step h0 c0 h1), (by simp; omega)⟩
      · exact ⟨rfl, rfl, trivial⟩
  · -- no
    refine W.exit rfl ?_
    exact ⟨.tuple #[], ResIs.zero, rfl, hS.spell (ys' := ys.reverse) 0 rfl (by rw [h2]; exact revS_end (by omega))⟩

theorem F40 {rim : ByteArray} {w : World} (s_rim : rim.size ≤ maxLen) (hG : Laid w) : Calls Tryd.prog 40 #[.string rim] w (Ret w (fun r _ => r = .tuple #[.string (oppV rim), .int .i64 (rimE rim)])) := by
  have hS := St.start0 w
  refine enterR Tryd.func40 rfl Tryd.ntmps40 Tryd.results40 rfl ?_
  refine W.seq ?_
  refine W.reg ?_
  refine Wx.rd (v := .string ({ data := #[] } : ByteArray)) (rd_assign rfl) rfl ?_
  refine Wx.rd (v := .int .i64 0) (rd_assign rfl) rfl ?_
  refine Wx.nil ?_
  refine W.seq ?_
  refine W.seq ?_
  refine W.reg ?_
  refine Wx.rd (v := .string rim) (rd_move rfl) rfl ?_
  refine Wx.callF (run_callF Tryd.call17 rfl) (F17 (by first | assumption | (simp only [maxLen]; omega) | (simp only [ByteArray.size_extract, ByteArray.size_append, maxLen] at *; omega) | decide)) rfl ?_
  rintro r_1 w_2 hx_3 rfl
  have hS := hS.ext hx_3
  refine Wx.rd (v := .int .i64 (rimE rim)) (rd_assign rfl) rfl ?_
  refine Wx.nil ?_
  refine W.seq ?_
  refine W.reg ?_
  refine Wx.rd (v := .int .i64 (rimE rim)) (rd_move rfl) rfl ?_
  refine Wx.rd (v := .bool (decide ((rimE rim) ≠ 0))) (rd_neq rfl rfl) rfl ?_
  refine Wx.nil ?_
  refine W.condD rfl (fun c0 => ?_) (fun c0 => ?_)
  · -- yes
    refine W.seq ?_
    refine W.reg ?_
    refine Wx.rd (v := .int .i64 (rimE rim)) (rd_move rfl) rfl ?_
    refine Wx.rd (v := .string ({ data := #[] } : ByteArray)) (rd_assign rfl) rfl ?_
    refine Wx.rd (v := .int .i64 (rimE rim)) (rd_assign rfl) rfl ?_
    refine Wx.nil ?_
    have e0_0 : (oppV rim) = ({ data := #[] } : ByteArray) := by rw [oppV, if_neg c0]; rfl
    exact W.ret ⟨.tuple #[.string ({ data := #[] } : ByteArray), .int .i64 (rimE rim)], ResIs.two, hS.bel, (by rw [e0_0])⟩
  · -- no
    have hr0 : rimE rim = 0 := by omega
    obtain ⟨hr1, hr2⟩ := rimE_ok hr0
    have hol := opp_lets hr2
    have hsz : rim.size = rim.data.toList.length := (by simp)
    refine W.skip ?_
    refine W.seq ?_
    refine W.reg ?_
    refine Wx.rd (v := .string rim) (rd_move rfl) rfl ?_
    refine Wx.callF (run_callF Tryd.call78 rfl) (F78 (by first | assumption | (simp only [maxLen]; omega) | (simp only [ByteArray.size_extract, ByteArray.size_append, maxLen] at *; omega) | decide) (by omega) (hG.ext hS.bel)) rfl ?_
    rintro r_4 w_5 hx_6 rfl
    have hS := hS.ext hx_6
    rw [map_let (lets_mem hr2)]
    refine Wx.runes (ys := runesI (rim.data.toList.map swB)) hS rfl Tryd.underlying9 Tryd.underlying98 Tryd.underlying21 (runes_let (lets_of hol)) (fun y hy => by obtain ⟨b, hb, rfl⟩ := List.mem_map.1 hy; have := let_lt (hol b hb); exact in_i32 (by omega) (by omega)) (by rw [runesI, List.length_map, List.length_map]; omega) rfl (fun v_7 w_8 hx_9 hS => ?_)
    refine Wx.rd (v := v_7) (rd_assign rfl) rfl ?_
    refine Wx.nil ?_
    refine W.seq ?_
    refine W.reg ?_
    refine Wx.rd (v := v_7) (rd_move rfl) rfl ?_
    refine Wx.callB (run_callF Tryd.call80 rfl) (F80 (ob := [])  (hS.front 0 rfl)) rfl ?_
    rintro r_10 w_11 ⟨rfl, hS⟩
    have hS : St _ _ w_11 [.row (tI .i32) 21 v_7 (List.reverse (runesI (rim.data.toList.map swB)))] := St.putBack (obs := [.row (tI .i32) 21 v_7 (runesI (rim.data.toList.map swB))]) 0 hS (by simp)
    refine Wx.nil ?_
    refine W.seq ?_
    refine W.reg ?_
    refine Wx.rd (v := v_7) (rd_move rfl) rfl ?_
    refine Wx.rd (v := .string (runesBytes (List.reverse (runesI (rim.data.toList.map swB))))) (rd_runesStr hS 0 rfl rfl Tryd.underlying98 Tryd.underlying21 Tryd.underlying9) rfl ?_
    refine Wx.rd (v := .string (runesBytes (List.reverse (runesI (rim.data.toList.map swB))))) (rd_assign rfl) rfl ?_
    refine Wx.rd (v := .int .i64 0) (rd_assign rfl) rfl ?_
    refine Wx.nil ?_
    have e1_0 : (oppV rim) = (runesBytes (List.reverse (runesI (rim.data.toList.map swB)))) := by rw [oppV, if_pos hr0, opp_runes, runesBytes_let (fun b hb => hol b (List.mem_reverse.1 hb))]; rfl
    have e1_1 : (rimE rim) = (0 : Int) := by exact hr0
    exact W.ret ⟨.tuple #[.string (runesBytes (List.reverse (runesI (rim.data.toList.map swB)))), .int .i64 0], ResIs.two, hS.bel, (by rw [e1_0, e1_1])⟩

theorem F42 {a : ByteArray} {b : ByteArray} {w : World} (s_a : a.size ≤ maxLen) (s_b : b.size ≤ maxLen) (hG : Laid w) : Calls Tryd.prog 42 #[.string a, .string b] w (Ret w (fun r _ => r = .tuple #[.bool (alikeP a b), .int .i64 (alikeE a b)])) := by
  have hca := coreV_size a
  have hcb := coreV_size b
  have hS := St.start0 w
  refine enterR Tryd.func42 rfl Tryd.ntmps42 Tryd.results42 rfl ?_
  refine W.seq ?_
  refine W.reg ?_
  refine Wx.rd (v := .bool false) (rd_assign rfl) rfl ?_
  refine Wx.rd (v := .int .i64 0) (rd_assign rfl) rfl ?_
  refine Wx.nil ?_
  refine W.seq ?_
  refine W.reg ?_
  refine Wx.rd (v := .string a) (rd_move rfl) rfl ?_
  refine Wx.callF (run_callF Tryd.call36 rfl) (F36 (by first | assumption | (simp only [maxLen]; omega) | (simp only [ByteArray.size_extract, ByteArray.size_append, maxLen] at *; omega) | decide) (hG.ext hS.bel)) rfl ?_
  rintro r_1 w_2 hx_3 rfl
  have hS := hS.ext hx_3
  refine Wx.rd (v := .tuple #[.string (coreV a), .int .i64 (rimE a)]) (rd_move rfl) rfl ?_
  refine Wx.rd (v := .string (coreV a)) (rd_extract rfl rfl) rfl ?_
  refine Wx.rd (v := .int .i64 (rimE a)) (rd_extract rfl rfl) rfl ?_
  refine Wx.rd (v := .string (coreV a)) (rd_assign rfl) rfl ?_
  refine Wx.rd (v := .int .i64 (rimE a)) (rd_assign rfl) rfl ?_
  refine Wx.nil ?_
  refine W.seq ?_
  refine W.seq ?_
  refine W.reg ?_
  refine Wx.rd (v := .int .i64 (rimE a)) (rd_move rfl) rfl ?_
  refine Wx.rd (v := .bool (decide ((rimE a) ≠ 0))) (rd_neq rfl rfl) rfl ?_
  refine Wx.nil ?_
  refine W.condD rfl (fun c0 => ?_) (fun c0 => ?_)
  · -- yes
    refine W.seq ?_
    refine W.reg ?_
    refine Wx.rd (v := .int .i64 (rimE a)) (rd_move rfl) rfl ?_
    refine Wx.rd (v := .bool false) (rd_assign rfl) rfl ?_
    refine Wx.rd (v := .int .i64 (rimE a)) (rd_assign rfl) rfl ?_
    refine Wx.nil ?_
    have e0_0 : (alikeP a b) = false := by have e : alikeE a b = rimE a := if_neg c0; rw [alikeP, e, if_neg c0]
    have e0_1 : (alikeE a b) = (rimE a : Int) := by exact if_neg c0
    exact W.ret ⟨.tuple #[.bool false, .int .i64 (rimE a)], ResIs.two, hS.bel, (by rw [e0_0, e0_1])⟩
  · -- no
    refine W.skip ?_
    refine W.seq ?_
    refine W.reg ?_
    refine Wx.rd (v := .string b) (rd_move rfl) rfl ?_
    refine Wx.callF (run_callF Tryd.call36 rfl) (F36 (by first | assumption | (simp only [maxLen]; omega) | (simp only [ByteArray.size_extract, ByteArray.size_append, maxLen] at *; omega) | decide) (hG.ext hS.bel)) rfl ?_
    rintro r_4 w_5 hx_6 rfl
    have hS := hS.ext hx_6
    refine Wx.rd (v := .tuple #[.string (coreV b), .int .i64 (rimE b)]) (rd_move rfl) rfl ?_
    refine Wx.rd (v := .string (coreV b)) (rd_extract rfl rfl) rfl ?_
    refine Wx.rd (v := .int .i64 (rimE b)) (rd_extract rfl rfl) rfl ?_
    refine Wx.rd (v := .string (coreV b)) (rd_assign rfl) rfl ?_
    refine Wx.rd (v := .int .i64 (rimE b)) (rd_assign rfl) rfl ?_
    refine Wx.nil ?_
    refine W.seq ?_
    refine W.seq ?_
    refine W.reg ?_
    refine Wx.rd (v := .int .i64 (rimE b)) (rd_move rfl) rfl ?_
    refine Wx.rd (v := .bool (decide ((rimE b) ≠ 0))) (rd_neq rfl rfl) rfl ?_
    refine Wx.nil ?_
    refine W.condD rfl (fun c1 => ?_) (fun c1 => ?_)
    · -- yes
      refine W.seq ?_
      refine W.reg ?_
      refine Wx.rd (v := .int .i64 (rimE b)) (rd_move rfl) rfl ?_
      refine Wx.rd (v := .bool false) (rd_assign rfl) rfl ?_
      refine Wx.rd (v := .int .i64 (rimE b)) (rd_assign rfl) rfl ?_
      refine Wx.nil ?_
      have e1_0 : (alikeP a b) = false := by have e : alikeE a b = rimE b := if_pos (by omega); rw [alikeP, e, if_neg c1]
      have e1_1 : (alikeE a b) = (rimE b : Int) := by exact if_pos (by omega)
      exact W.ret ⟨.tuple #[.bool false, .int .i64 (rimE b)], ResIs.two, hS.bel, (by rw [e1_0, e1_1])⟩
    · -- no
      refine W.skip ?_
      refine W.seq ?_
      refine W.reg ?_
      refine Wx.rd (v := .string (coreV a)) (rd_move rfl) rfl ?_
      refine Wx.rd (v := .int .i64 ((coreV a).size : Int)) (rd_lenS rfl Tryd.underlying9) rfl ?_
      refine Wx.rd (v := .string (coreV b)) (rd_move rfl) rfl ?_
      refine Wx.rd (v := .int .i64 ((coreV b).size : Int)) (rd_lenS rfl Tryd.underlying9) rfl ?_
      refine Wx.rd (v := .bool (decide (((coreV a).size : Int) = ((coreV b).size : Int)))) (rd_eql rfl rfl) rfl ?_
      refine Wx.rd (v := .bool (decide (((coreV a).size : Int) = ((coreV b).size : Int)))) (rd_move rfl) rfl ?_
      refine Wx.cut (X := Unit) 6 [31, 32, 33, 34, 35, 36] (fun _ => [(36, .bool (decide (((coreV a).size : Int) = ((coreV b).size : Int)) && contains ((coreV a) ++ (coreV a)).data.toList (coreV b).data.toList))]) (fun _ w' => St w [] w' []) ?_ ?_
      · rcases Bool.eq_false_or_eq_true (decide (((coreV a).size : Int) = ((coreV b).size : Int))) with g_7 | g_7
        · -- True
          have gp_8 := of_decide_eq_true g_7
          refine Wx.gyes rfl rfl (congrArg Value.bool g_7) ?_
          refine Wx.rd (v := .string (coreV a)) (rd_move rfl) rfl ?_
          refine Wx.gyes rfl rfl (congrArg Value.bool g_7) ?_
          refine Wx.rd (v := .string (coreV a)) (rd_move rfl) rfl ?_
          refine Wx.gyes rfl rfl (congrArg Value.bool g_7) ?_
          refine Wx.rd (v := .string ((coreV a) ++ (coreV a))) (rd_addS rfl rfl (by omega)) rfl ?_
          refine Wx.gyes rfl rfl (congrArg Value.bool g_7) ?_
          refine Wx.rd (v := .string (coreV b)) (rd_move rfl) rfl ?_
          refine Wx.gyes rfl rfl (congrArg Value.bool g_7) ?_
          refine Wx.callF (run_callF Tryd.call47 rfl) (F47 (by first | assumption | (simp only [maxLen]; omega) | (simp only [ByteArray.size_extract, ByteArray.size_append, maxLen] at *; omega) | decide) (by first | assumption | (simp only [maxLen]; omega) | (simp only [ByteArray.size_extract, ByteArray.size_append, maxLen] at *; omega) | decide) (by rw [ByteArray.size_append]; omega) (hG.ext hS.bel)) rfl ?_
          rintro r_9 w_10 hx_11 rfl
          have hS := hS.ext hx_11
          refine Wx.rd (v := .bool (contains ((coreV a) ++ (coreV a)).data.toList (coreV b).data.toList)) (rd_pickT (congrArg Value.bool g_7) rfl) rfl ?_
          refine Wx.nil ⟨(), hS, ⟨?_, trivial⟩, Out.look rfl Out.refl⟩
          show Value.bool (contains ((coreV a) ++ (coreV a)).data.toList (coreV b).data.toList) = Value.bool (decide (((coreV a).size : Int) = ((coreV b).size : Int)) && contains ((coreV a) ++ (coreV a)).data.toList (coreV b).data.toList)
          rw [g_7]; rfl
        · -- False
          have gp_12 := of_decide_eq_false g_7
          refine Wx.gnoB rfl rfl (congrArg Value.bool g_7) rfl rfl ?_
          refine Wx.gnoB rfl rfl (congrArg Value.bool g_7) rfl rfl ?_
          refine Wx.gnoB rfl rfl (congrArg Value.bool g_7) rfl rfl ?_
          refine Wx.gnoB rfl rfl (congrArg Value.bool g_7) rfl rfl ?_
          refine Wx.gnoB rfl rfl (congrArg Value.bool g_7) rfl rfl ?_
          refine Wx.rd (v := .bool false) (rd_pickF (congrArg Value.bool g_7) rfl) rfl ?_
          refine Wx.nil ⟨(), hS, ⟨?_, trivial⟩, Out.look rfl Out.refl⟩
          show Value.bool false = Value.bool (decide (((coreV a).size : Int) = ((coreV b).size : Int)) && contains ((coreV a) ++ (coreV a)).data.toList (coreV b).data.toList)
          rw [g_7]; rfl
      rintro ⟨⟩ u_14 w_13 hS
      refine Wx.rd (v := .bool (decide (((coreV a).size : Int) = ((coreV b).size : Int)) && contains ((coreV a) ++ (coreV a)).data.toList (coreV b).data.toList)) (rd_assign rfl) rfl ?_
      refine Wx.rd (v := .int .i64 0) (rd_assign rfl) rfl ?_
      refine Wx.nil ?_
      have e2_0 : (alikeP a b) = (decide (((coreV a).size : Int) = ((coreV b).size : Int)) && contains ((coreV a) ++ (coreV a)).data.toList (coreV b).data.toList) := by have e : alikeE a b = 0 := (if_pos (by omega)).trans (by omega); rw [alikeP, if_pos e]
      have e2_1 : (alikeE a b) = (0 : Int) := by exact (if_pos (by omega)).trans (by omega)
      exact W.ret ⟨.tuple #[.bool (decide (((coreV a).size : Int) = ((coreV b).size : Int)) && contains ((coreV a) ++ (coreV a)).data.toList (coreV b).data.toList), .int .i64 0], ResIs.two, hS.bel, (by rw [e2_0, e2_1])⟩

end Go.Proofs.YtokdjjebnomciaaDoor

namespace Go.Proofs.YtokdjjebnomciaaDoor
open Go.Wk Go.RowKit Go.Lib
set_option linter.unusedVariables false
set_option linter.unusedSimpArgs false
theorem mixedHc_ : Tryd.prog.follows .mixedOrders = true := by kernel_rfl
theorem foHc_94_1 : fldOff Tryd.prog 94 1 = some 1 := by kernel_rfl
theorem foHc_82_0 : fldOff Tryd.prog 82 0 = some 0 := by kernel_rfl
theorem foHc_82_1 : fldOff Tryd.prog 82 1 = some 1 := by kernel_rfl
theorem foHc_94_0 : fldOff Tryd.prog 94 0 = some 0 := by kernel_rfl

theorem F91 {g : Nat} {s : ByteArray} {T : Tab} {i : Int} {j : Int} {n : Int} {w : World} (x_g : w.heap[g]? = some (.cells (tabC s T).toArray 94 (0, 0))) (i_i : InK .i64 i) (i_j : InK .i64 j) (i_n : InK .i64 n) (p_T : TabB T) (p_i : 0 ≤ i) (p_i2 : i < 12) (p_j : 0 ≤ j) (p_j2 : j < 12) (p_n : 0 ≤ n) (p_n2 : n ≤ 12) : Calls Tryd.prog 91 #[.pointer (some ⟨g, 0, none⟩), .int .i64 i, .int .i64 j, .int .i64 n] w (Ret w (fun r _ => r = .agg #[.int .i64 ((T (i + 1) j).1 + (T (j + 1) n).1 + 1), .int .i64 ((T (i + 1) j).2 * (T (j + 1) n).2)])) := by
  have b_n := bd_i64 i_n
  have b_j := bd_i64 i_j
  have b_i := bd_i64 i_i
  have hm := p_T.mul i j n
  have hS := St.start0 w
  refine enterR Tryd.func91 rfl Tryd.ntmps91 Tryd.results91 rfl ?_
  refine W.seq ?_
  refine W.reg ?_
  refine Wx.alloc (cs := [.int .i64 0, .int .i64 0]) hS Tryd.zeroValue82 rfl rfl (fun g_1 w_2 hx_4 hb_3 hS => ?_)
  refine Wx.nil ?_
  refine W.seq ?_
  refine W.regH mixedHc_ (fun w_5 hx_6 => ?_)
  have h0 := hS
  have hS := (St.start _ _ h0.fb_lt).ext hx_6
  refine Wh.rd (v := .pointer (some ⟨g, 0, none⟩)) 0 rfl (by kernel_rfl) hS.bel (rd_move rfl) rfl ?_
  refine Wh.rd (v := .int .i64 i) 1 rfl (by kernel_rfl) hS.bel (rd_move rfl) rfl ?_
  refine Wh.rd (v := .int .i64 (i + 1)) 2 rfl (by kernel_rfl) hS.bel (rd_add rfl rfl (in_i64 (by omega) (by omega))) rfl ?_
  refine Wh.rd (v := .int .i64 j) 3 rfl (by kernel_rfl) hS.bel (rd_move rfl) rfl ?_
  refine Wh.rd (v := .pointer (some ⟨g, 0, none⟩)) 4 rfl (by kernel_rfl) hS.bel (rd_nilCheck rfl rfl) rfl ?_
  refine Wh.rd (v := .pointer (some ⟨g, 1, none⟩)) 5 rfl (by kernel_rfl) hS.bel (rd_fieldAddr (o := 0) rfl foHc_94_1) rfl ?_
  refine Wh.rd (v := .pointer (some ⟨g, 1 + (i + 1).toNat * 26, none⟩)) 6 rfl (by kernel_rfl) hS.bel (rd_indexArr (o := 1) rfl rfl Tryd.underlying92 Tryd.sizeOf91 (by omega) (by omega)) rfl ?_
  refine Wh.rd (v := .pointer (some ⟨g, 1 + (i + 1).toNat * 26 + j.toNat * 2, none⟩)) 7 rfl (by kernel_rfl) hS.bel (rd_indexArr (o := 1 + (i + 1).toNat * 26) rfl rfl Tryd.underlying91 Tryd.sizeOf82 (by omega) (by omega)) rfl ?_
  refine Wh.rd (v := .agg #[.int .i64 ((T (i + 1) j).1), .int .i64 ((T (i + 1) j).2)]) 8 rfl (by kernel_rfl) hS.bel (rd_tabP (fun _ q => extAt x_g (Ext.trans h0.bel q)) rfl (by omega) (by omega) (by omega) (by omega) Tryd.isAgg82 Tryd.sizeOf82) rfl ?_
  have bt_7 := p_T (i + 1) j
  refine Wh.rd (v := .pointer (some ⟨g, 0, none⟩)) 9 rfl (by kernel_rfl) hS.bel (rd_move rfl) rfl ?_
  refine Wh.rd (v := .int .i64 j) 10 rfl (by kernel_rfl) hS.bel (rd_move rfl) rfl ?_
  refine Wh.rd (v := .int .i64 (j + 1)) 11 rfl (by kernel_rfl) hS.bel (rd_add rfl rfl (in_i64 (by omega) (by omega))) rfl ?_
  refine Wh.rd (v := .int .i64 n) 12 rfl (by kernel_rfl) hS.bel (rd_move rfl) rfl ?_
  refine Wh.rd (v := .pointer (some ⟨g, 0, none⟩)) 13 rfl (by kernel_rfl) hS.bel (rd_nilCheck rfl rfl) rfl ?_
  refine Wh.rd (v := .pointer (some ⟨g, 1, none⟩)) 14 rfl (by kernel_rfl) hS.bel (rd_fieldAddr (o := 0) rfl foHc_94_1) rfl ?_
  refine Wh.rd (v := .pointer (some ⟨g, 1 + (j + 1).toNat * 26, none⟩)) 15 rfl (by kernel_rfl) hS.bel (rd_indexArr (o := 1) rfl rfl Tryd.underlying92 Tryd.sizeOf91 (by omega) (by omega)) rfl ?_
  refine Wh.rd (v := .pointer (some ⟨g, 1 + (j + 1).toNat * 26 + n.toNat * 2, none⟩)) 16 rfl (by kernel_rfl) hS.bel (rd_indexArr (o := 1 + (j + 1).toNat * 26) rfl rfl Tryd.underlying91 Tryd.sizeOf82 (by omega) (by omega)) rfl ?_
  refine Wh.rd (v := .agg #[.int .i64 ((T (j + 1) n).1), .int .i64 ((T (j + 1) n).2)]) 17 rfl (by kernel_rfl) hS.bel (rd_tabP (fun _ q => extAt x_g (Ext.trans h0.bel q)) rfl (by omega) (by omega) (by omega) (by omega) Tryd.isAgg82 Tryd.sizeOf82) rfl ?_
  have bt_8 := p_T (j + 1) n
  refine Wh.br [18, 19] (by kernel_rfl) (by decide) ⟨⟨_, rfl, ?_⟩, ⟨_, rfl, ?_⟩, trivial⟩
  · -- operation 18
    refine Wx.alloc (cs := [.int .i64 0, .int .i64 0]) hS Tryd.zeroValue82 rfl rfl (fun g_9 w_10 hx_12 hb_11 hS => ?_)
    refine Wx.nil ⟨hS.bel, ?_⟩
    refine Wh.br [19] (by kernel_rfl) (by decide) ⟨⟨_, rfl, ?_⟩, trivial⟩
    refine Wx.alloc (cs := [.int .i64 0, .int .i64 0]) hS Tryd.zeroValue82 rfl rfl (fun g_13 w_14 hx_16 hb_15 hS => ?_)
    refine Wx.nil ⟨hS.bel, ?_⟩
    refine Wh.br [20] (by kernel_rfl) (by decide) ⟨⟨_, rfl, ?_⟩, trivial⟩
    refine Wx.storeX (cs' := [.int .i64 ((T (i + 1) j).1), .int .i64 ((T (i + 1) j).2)]) (ds := [.int .i64 ((T (i + 1) j).1), .int .i64 ((T (i + 1) j).2)]) hS 1 rfl rfl rfl rfl Tryd.sizeOf82 (Nat.le_of_ble_eq_true rfl) (one_cons rfl (one_cons rfl one_nil)) rfl (fun w_17 hz_18 hS => ?_)
    refine Wx.nil ⟨hS.bel, ?_⟩
    refine Wh.br [21] (by kernel_rfl) (by decide) ⟨⟨_, rfl, ?_⟩, trivial⟩
    refine Wx.storeX (cs' := [.int .i64 ((T (j + 1) n).1), .int .i64 ((T (j + 1) n).2)]) (ds := [.int .i64 ((T (j + 1) n).1), .int .i64 ((T (j + 1) n).2)]) hS 0 rfl rfl rfl rfl Tryd.sizeOf82 (Nat.le_of_ble_eq_true rfl) (one_cons rfl (one_cons rfl one_nil)) rfl (fun w_19 hz_20 hS => ?_)
    refine Wx.nil ⟨hS.bel, ?_⟩
    refine Wh.done (by kernel_rfl) ?_
    have hS := h0.merge hS
    refine W.seq ?_
    refine W.reg ?_
    refine Wx.rd (v := .pointer (some ⟨g_9, 0, none⟩)) (rd_fieldAddr rfl foHc_82_0) rfl ?_
    refine Wx.rd (v := .int .i64 ((T (i + 1) j).1)) (rd_loadX hS 1 rfl rfl rfl Tryd.isAgg3) rfl ?_
    refine Wx.rd (v := .pointer (some ⟨g_13, 0, none⟩)) (rd_fieldAddr rfl foHc_82_0) rfl ?_
    refine Wx.rd (v := .int .i64 ((T (j + 1) n).1)) (rd_loadX hS 0 rfl rfl rfl Tryd.isAgg3) rfl ?_
    refine Wx.rd (v := .int .i64 (((T (i + 1) j).1) + ((T (j + 1) n).1))) (rd_add rfl rfl (in_i64 (by omega) (by omega))) rfl ?_
    refine Wx.rd (v := .int .i64 ((((T (i + 1) j).1) + ((T (j + 1) n).1)) + 1)) (rd_add rfl rfl (in_i64 (by omega) (by omega))) rfl ?_
    refine Wx.rd (v := .pointer (some ⟨g_9, 1, none⟩)) (rd_fieldAddr rfl foHc_82_1) rfl ?_
    refine Wx.rd (v := .int .i64 ((T (i + 1) j).2)) (rd_loadX hS 1 rfl rfl rfl Tryd.isAgg3) rfl ?_
    refine Wx.rd (v := .pointer (some ⟨g_13, 1, none⟩)) (rd_fieldAddr rfl foHc_82_1) rfl ?_
    refine Wx.rd (v := .int .i64 ((T (j + 1) n).2)) (rd_loadX hS 0 rfl rfl rfl Tryd.isAgg3) rfl ?_
    refine Wx.rd (v := .int .i64 (((T (i + 1) j).2) * ((T (j + 1) n).2))) (rd_mul rfl rfl (in_i64 (by omega) (by omega))) rfl ?_
    refine Wx.rd (v := .agg #[.int .i64 ((((T (i + 1) j).1) + ((T (j + 1) n).1)) + 1), .int .i64 (((T (i + 1) j).2) * ((T (j + 1) n).2))]) (rd_build (vs := [(0, .int .i64 ((((T (i + 1) j).1) + ((T (j + 1) n).1)) + 1)), (1, .int .i64 (((T (i + 1) j).2) * ((T (j + 1) n).2)))]) rfl (by kernel_rfl)) rfl ?_
    refine Wx.storeX (cs' := [.int .i64 ((((T (i + 1) j).1) + ((T (j + 1) n).1)) + 1), .int .i64 (((T (i + 1) j).2) * ((T (j + 1) n).2))]) (ds := [.int .i64 ((((T (i + 1) j).1) + ((T (j + 1) n).1)) + 1), .int .i64 (((T (i + 1) j).2) * ((T (j + 1) n).2))]) hS 2 rfl rfl rfl rfl Tryd.sizeOf82 (Nat.le_of_ble_eq_true rfl) (one_cons rfl (one_cons rfl one_nil)) rfl (fun w_21 hz_22 hS => ?_)
    refine Wx.nil ?_
    have e0_0 : ((T (i + 1) j).1 + (T (j + 1) n).1 + 1) = ((((T (i + 1) j).1) + ((T (j + 1) n).1)) + 1 : Int) := by first | rfl | omega
    have e0_1 : ((T (i + 1) j).2 * (T (j + 1) n).2) = (((T (i + 1) j).2) * ((T (j + 1) n).2) : Int) := by first | rfl | omega
    exact W.ret ⟨.agg #[.int .i64 ((((T (i + 1) j).1) + ((T (j + 1) n).1)) + 1), .int .i64 (((T (i + 1) j).2) * ((T (j + 1) n).2))], (ResIs.cell1 hS 2 rfl rfl Tryd.isAgg82 Tryd.sizeOf82), hS.bel, (by rw [e0_0, e0_1])⟩
  · -- operation 19
    refine Wx.alloc (cs := [.int .i64 0, .int .i64 0]) hS Tryd.zeroValue82 rfl rfl (fun g_23 w_24 hx_26 hb_25 hS => ?_)
    refine Wx.nil ⟨hS.bel, ?_⟩
    refine Wh.br [18] (by kernel_rfl) (by decide) ⟨⟨_, rfl, ?_⟩, trivial⟩
    refine Wx.alloc (cs := [.int .i64 0, .int .i64 0]) hS Tryd.zeroValue82 rfl rfl (fun g_27 w_28 hx_30 hb_29 hS => ?_)
    refine Wx.nil ⟨hS.bel, ?_⟩
    refine Wh.br [20] (by kernel_rfl) (by decide) ⟨⟨_, rfl, ?_⟩, trivial⟩
    refine Wx.storeX (cs' := [.int .i64 ((T (i + 1) j).1), .int .i64 ((T (i + 1) j).2)]) (ds := [.int .i64 ((T (i + 1) j).1), .int .i64 ((T (i + 1) j).2)]) hS 0 rfl rfl rfl rfl Tryd.sizeOf82 (Nat.le_of_ble_eq_true rfl) (one_cons rfl (one_cons rfl one_nil)) rfl (fun w_31 hz_32 hS => ?_)
    refine Wx.nil ⟨hS.bel, ?_⟩
    refine Wh.br [21] (by kernel_rfl) (by decide) ⟨⟨_, rfl, ?_⟩, trivial⟩
    refine Wx.storeX (cs' := [.int .i64 ((T (j + 1) n).1), .int .i64 ((T (j + 1) n).2)]) (ds := [.int .i64 ((T (j + 1) n).1), .int .i64 ((T (j + 1) n).2)]) hS 1 rfl rfl rfl rfl Tryd.sizeOf82 (Nat.le_of_ble_eq_true rfl) (one_cons rfl (one_cons rfl one_nil)) rfl (fun w_33 hz_34 hS => ?_)
    refine Wx.nil ⟨hS.bel, ?_⟩
    refine Wh.done (by kernel_rfl) ?_
    have hS := h0.merge hS
    refine W.seq ?_
    refine W.reg ?_
    refine Wx.rd (v := .pointer (some ⟨g_27, 0, none⟩)) (rd_fieldAddr rfl foHc_82_0) rfl ?_
    refine Wx.rd (v := .int .i64 ((T (i + 1) j).1)) (rd_loadX hS 0 rfl rfl rfl Tryd.isAgg3) rfl ?_
    refine Wx.rd (v := .pointer (some ⟨g_23, 0, none⟩)) (rd_fieldAddr rfl foHc_82_0) rfl ?_
    refine Wx.rd (v := .int .i64 ((T (j + 1) n).1)) (rd_loadX hS 1 rfl rfl rfl Tryd.isAgg3) rfl ?_
    refine Wx.rd (v := .int .i64 (((T (i + 1) j).1) + ((T (j + 1) n).1))) (rd_add rfl rfl (in_i64 (by omega) (by omega))) rfl ?_
    refine Wx.rd (v := .int .i64 ((((T (i + 1) j).1) + ((T (j + 1) n).1)) + 1)) (rd_add rfl rfl (in_i64 (by omega) (by omega))) rfl ?_
    refine Wx.rd (v := .pointer (some ⟨g_27, 1, none⟩)) (rd_fieldAddr rfl foHc_82_1) rfl ?_
    refine Wx.rd (v := .int .i64 ((T (i + 1) j).2)) (rd_loadX hS 0 rfl rfl rfl Tryd.isAgg3) rfl ?_
    refine Wx.rd (v := .pointer (some ⟨g_23, 1, none⟩)) (rd_fieldAddr rfl foHc_82_1) rfl ?_
    refine Wx.rd (v := .int .i64 ((T (j + 1) n).2)) (rd_loadX hS 1 rfl rfl rfl Tryd.isAgg3) rfl ?_
    refine Wx.rd (v := .int .i64 (((T (i + 1) j).2) * ((T (j + 1) n).2))) (rd_mul rfl rfl (in_i64 (by omega) (by omega))) rfl ?_
    refine Wx.rd (v := .agg #[.int .i64 ((((T (i + 1) j).1) + ((T (j + 1) n).1)) + 1), .int .i64 (((T (i + 1) j).2) * ((T (j + 1) n).2))]) (rd_build (vs := [(0, .int .i64 ((((T (i + 1) j).1) + ((T (j + 1) n).1)) + 1)), (1, .int .i64 (((T (i + 1) j).2) * ((T (j + 1) n).2)))]) rfl (by kernel_rfl)) rfl ?_
    refine Wx.storeX (cs' := [.int .i64 ((((T (i + 1) j).1) + ((T (j + 1) n).1)) + 1), .int .i64 (((T (i + 1) j).2) * ((T (j + 1) n).2))]) (ds := [.int .i64 ((((T (i + 1) j).1) + ((T (j + 1) n).1)) + 1), .int .i64 (((T (i + 1) j).2) * ((T (j + 1) n).2))]) hS 2 rfl rfl rfl rfl Tryd.sizeOf82 (Nat.le_of_ble_eq_true rfl) (one_cons rfl (one_cons rfl one_nil)) rfl (fun w_35 hz_36 hS => ?_)
    refine Wx.nil ?_
    have e0_0 : ((T (i + 1) j).1 + (T (j + 1) n).1 + 1) = ((((T (i + 1) j).1) + ((T (j + 1) n).1)) + 1 : Int) := by first | rfl | omega
    have e0_1 : ((T (i + 1) j).2 * (T (j + 1) n).2) = (((T (i + 1) j).2) * ((T (j + 1) n).2) : Int) := by first | rfl | omega
    exact W.ret ⟨.agg #[.int .i64 ((((T (i + 1) j).1) + ((T (j + 1) n).1)) + 1), .int .i64 (((T (i + 1) j).2) * ((T (j + 1) n).2))], (ResIs.cell1 hS 2 rfl rfl Tryd.isAgg82 Tryd.sizeOf82), hS.bel, (by rw [e0_0, e0_1])⟩

theorem F67 {g : Nat} {s : ByteArray} {T : Tab} {w : World} (x_g : w.heap[g]? = some (.cells (tabC s T).toArray 94 (0, 0))) (p_T : TabB T) (p_s : (s.size : Int) ≤ 12) : Calls Tryd.prog 67 #[.pointer (some ⟨g, 0, none⟩)] w (Ret w (fun r _ => r = .agg #[.int .i64 ((T 0 s.size).1), .int .i64 ((T 0 s.size).2)])) := by
  have hS := St.start0 w
  refine enterR Tryd.func67 rfl Tryd.ntmps67 Tryd.results67 rfl ?_
  refine W.seq ?_
  refine W.reg ?_
  refine Wx.alloc (cs := [.int .i64 0, .int .i64 0]) hS Tryd.zeroValue82 rfl rfl (fun g_1 w_2 hx_4 hb_3 hS => ?_)
  refine Wx.nil ?_
  refine W.seq ?_
  refine W.regT 11 mixedHc_ (by kernel_rfl) ?_
  refine Wx.rd (v := .pointer (some ⟨g, 0, none⟩)) (rd_move rfl) rfl ?_
  refine Wx.rd (v := .pointer (some ⟨g, 0, none⟩)) (rd_move rfl) rfl ?_
  refine Wx.rd (v := .pointer (some ⟨g, 0, none⟩)) (rd_nilCheck rfl rfl) rfl ?_
  refine Wx.rd (v := .pointer (some ⟨g, 0, none⟩)) (rd_fieldAddr (o := 0) rfl foHc_94_0) rfl ?_
  refine Wx.rd (v := .string s) (rd_tabS (fun _ q => extAt x_g (Ext.trans hS.bel q)) rfl Tryd.isAgg9) rfl ?_
  refine Wx.rd (v := .int .i64 (s.size : Int)) (rd_lenS rfl Tryd.underlying9) rfl ?_
  refine Wx.rd (v := .pointer (some ⟨g, 0, none⟩)) (rd_nilCheck rfl rfl) rfl ?_
  refine Wx.rd (v := .pointer (some ⟨g, 1, none⟩)) (rd_fieldAddr (o := 0) rfl foHc_94_1) rfl ?_
  refine Wx.rd (v := .pointer (some ⟨g, 1 + (0 : Int).toNat * 26, none⟩)) (rd_indexArr (o := 1) rfl rfl Tryd.underlying92 Tryd.sizeOf91 (by omega) (by omega)) rfl ?_
  refine Wx.rd (v := .pointer (some ⟨g, 1 + (0 : Int).toNat * 26 + (s.size : Int).toNat * 2, none⟩)) (rd_indexArr (o := 1 + (0 : Int).toNat * 26) rfl rfl Tryd.underlying91 Tryd.sizeOf82 (by omega) (by omega)) rfl ?_
  refine Wx.rd (v := .agg #[.int .i64 ((T (0 : Int) (s.size : Int)).1), .int .i64 ((T (0 : Int) (s.size : Int)).2)]) (rd_tabP (fun _ q => extAt x_g (Ext.trans hS.bel q)) rfl (by omega) (by omega) (by omega) (by omega) Tryd.isAgg82 Tryd.sizeOf82) rfl ?_
  have bt_5 := p_T (0 : Int) (s.size : Int)
  refine Wx.nilQ (fun w_6 hx_7 => ?_)
  have hS := hS.ext hx_7
  refine Wx.storeX (cs' := [.int .i64 ((T (0 : Int) (s.size : Int)).1), .int .i64 ((T (0 : Int) (s.size : Int)).2)]) (ds := [.int .i64 ((T (0 : Int) (s.size : Int)).1), .int .i64 ((T (0 : Int) (s.size : Int)).2)]) hS 0 rfl rfl rfl rfl Tryd.sizeOf82 (Nat.le_of_ble_eq_true rfl) (one_cons rfl (one_cons rfl one_nil)) rfl (fun w_8 hz_9 hS => ?_)
  refine Wx.nil ?_
  have e0_0 : ((T 0 s.size).1) = ((T (0 : Int) (s.size : Int)).1 : Int) := by first | rfl | omega
  have e0_1 : ((T 0 s.size).2) = ((T (0 : Int) (s.size : Int)).2 : Int) := by first | rfl | omega
  exact W.ret ⟨.agg #[.int .i64 ((T (0 : Int) (s.size : Int)).1), .int .i64 ((T (0 : Int) (s.size : Int)).2)], (ResIs.cell1 hS 0 rfl rfl Tryd.isAgg82 Tryd.sizeOf82), hS.bel, (by rw [e0_0, e0_1])⟩

theorem F66 {rim : ByteArray} {w : World} (s_rim : rim.size ≤ maxLen) (p_12 : (rim.size : Int) ≤ 12) (p_l : Lets rim) (hG : Laid w) : Calls Tryd.prog 66 #[.string rim] w (Ret w (fun r w' => ∃ g T, r = .pointer (some ⟨g, 0, none⟩) ∧ w.heap.size ≤ g ∧ w'.heap[g]? = some (.cells (tabC rim T).toArray 94 (0, 0)) ∧ TabOK rim T)) := by
  have hS := St.start0 w
  refine enterR Tryd.func66 rfl Tryd.ntmps66 Tryd.results66 rfl ?_
  refine W.seq ?_
  refine W.reg ?_
  refine Wx.rd (v := (Go.Value.pointer none)) (rd_assign rfl) rfl ?_
  refine Wx.nil ?_
  refine W.seq ?_
  refine W.reg ?_
  refine Wx.rd (v := .string rim) (rd_move rfl) rfl ?_
  refine Wx.rd (v := .agg (tabC rim (fun _ _ => (0, 0))).toArray) (rd_build (vs := [(0, .string rim)]) rfl (by kernel_rfl)) rfl ?_
  refine Wx.box (cs := tabC rim (fun _ _ => (0, 0))) hS rfl rfl rfl (fun g_1 w_2 hx_4 hb_3 hS => ?_)
  refine Wx.rd (v := .pointer (some ⟨g_1, 0, none⟩)) (rd_assign rfl) rfl ?_
  refine Wx.nil ?_
  refine W.seq ?_
  refine W.seq ?_
  refine W.reg ?_
  refine Wx.rd (v := .string rim) (rd_move rfl) rfl ?_
  refine Wx.rd (v := .int .i64 (rim.size : Int)) (rd_lenS rfl Tryd.underlying9) rfl ?_
  refine Wx.rd (v := .int .i64 ((rim.size : Int) + 1)) (rd_add rfl rfl (in_i64 (by omega) (by omega))) rfl ?_
  refine Wx.rd (v := .int .i64 0) (rd_move rfl) rfl ?_
  refine Wx.nil ?_
  refine W.block ?_
  refine W.loop [4, 5, 6, 7, 8, 15, 16, 17, 18, 19, 20, 21, 22, 23, 24, 25, 26, 27, 28, 29, 30, 31, 32, 33, 34, 35, 36, 37, 38, 39, 40, 41, 42, 43, 44, 45, 46, 47, 48, 49, 50, 51, 52, 53, 54, 55, 56, 57, 58, 59, 60, 61, 62, 63, 64, 65, 66, 67, 68, 69, 70, 71, 72, 73, 74, 75, 76, 77, 78, 79, 80, 81, 82, 83, 84, 85] (fun x : Int × Tab => match x with | (n, T) => [(15, .int .i64 n)]) (fun (x : Int × Tab) w' => match x with | (n, T) => St w [] w' [.box g_1 94 (tabC rim T)] ∧ 0 ≤ n ∧ n ≤ rim.size + 1 ∧ TabB T ∧ (∀ a b, 0 ≤ a → a ≤ b → b < n → T a b = partP (fitR rim) a b)) (fun x : Int × Tab => match x with | (n, T) => (rim.size + 1 - n).toNat) (0, (fun _ _ => (0, 0))) ⟨rfl, trivial⟩ ⟨hS, (by first | omega | simp), (by first | omega | simp), (TabB.zero), (fun a b a0 ab b0 => by omega)⟩ ?_
  rintro ⟨n, T⟩ u_6 w_5 ⟨hS, h0, h1, hB, hT⟩
  refine W.seq ?_
  refine W.reg ?_
  refine Wx.rd (v := .bool (decide (n < ((rim.size : Int) + 1)))) (rd_lss rfl rfl) rfl ?_
  refine Wx.nil ?_
  refine W.seq ?_
  refine W.condD rfl (fun c0 => ?_) (fun c0 => ?_)
  · -- yes
    refine W.skip ?_
    refine W.seq ?_
    refine W.block ?_
    refine W.seq ?_
    refine W.reg ?_
    refine Wx.rd (v := .int .i64 n) (rd_move rfl) rfl ?_
    refine Wx.rd (v := .int .i64 n) (rd_assign rfl) rfl ?_
    refine Wx.nil ?_
    refine W.seq ?_
    refine W.reg ?_
    refine Wx.rd (v := .pointer (some ⟨g_1, 0, none⟩)) (rd_move rfl) rfl ?_
    refine Wx.rd (v := .int .i64 n) (rd_move rfl) rfl ?_
    refine Wx.rd (v := .int .i64 n) (rd_move rfl) rfl ?_
    refine Wx.rd (v := .agg #[.int .i64 0, .int .i64 1]) (rd_build (vs := [(0, .int .i64 0), (1, .int .i64 1)]) rfl (by kernel_rfl)) rfl ?_
    refine Wx.rd (v := .pointer (some ⟨g_1, 0, none⟩)) (rd_nilCheck rfl rfl) rfl ?_
    refine Wx.rd (v := .pointer (some ⟨g_1, 1, none⟩)) (rd_fieldAddr (o := 0) rfl foHc_94_1) rfl ?_
    refine Wx.rd (v := .pointer (some ⟨g_1, 1 + n.toNat * 26, none⟩)) (rd_indexArr (o := 1) rfl rfl Tryd.underlying92 Tryd.sizeOf91 (by omega) (by omega)) rfl ?_
    refine Wx.rd (v := .pointer (some ⟨g_1, 1 + n.toNat * 26 + n.toNat * 2, none⟩)) (rd_indexArr (o := 1 + n.toNat * 26) rfl rfl Tryd.underlying91 Tryd.sizeOf82 (by omega) (by omega)) rfl ?_
    refine Wx.storeX (cs' := tabC rim (updT T n n (0, 1))) (ds := [.int .i64 0, .int .i64 1]) hS 0 rfl rfl rfl rfl Tryd.sizeOf82 (by rw [tabC_len]; show _ + 2 ≤ 339; omega) (one_cons rfl (one_cons rfl one_nil)) (tabC_set rim T (by omega) (by omega) (by omega) (by omega) 0 1) (fun w_7 hz_8 hS => ?_)
    refine Wx.nil ?_
    refine W.seq ?_
    refine W.reg ?_
    refine Wx.rd (v := .int .i64 n) (rd_move rfl) rfl ?_
    refine Wx.rd (v := .int .i64 (n - 1)) (rd_sub rfl rfl (in_i64 (by omega) (by omega))) rfl ?_
    refine Wx.rd (v := .int .i64 (n - 1)) (rd_assign rfl) rfl ?_
    refine Wx.nil ?_
    refine W.block ?_
    refine W.loop [5, 6, 7, 8, 28, 29, 30, 31, 32, 33, 34, 35, 36, 37, 38, 39, 40, 41, 42, 43, 44, 45, 46, 47, 48, 49, 50, 51, 52, 53, 54, 55, 56, 57, 58, 59, 60, 61, 62, 63, 64, 65, 66, 67, 68, 69, 70, 71, 72, 73, 74, 75, 76, 77, 78, 79, 80, 81, 82, 83, 84] (fun x : Int × Tab => match x with | (i, T2) => [(5, .int .i64 i)]) (fun (x : Int × Tab) w' => match x with | (i, T2) => St w [] w' [.box g_1 94 (tabC rim T2)] ∧ -1 ≤ i ∧ i < n ∧ TabB T2 ∧ (∀ a b, 0 ≤ a → a ≤ b → b < n → T2 a b = partP (fitR rim) a b) ∧ (∀ a, i < a → a ≤ n → T2 a n = partP (fitR rim) a n)) (fun x : Int × Tab => match x with | (i, T2) => (i + 1).toNat) (n - 1, updT T n n (0, 1)) ⟨rfl, trivial⟩ ⟨hS, (by first | omega | simp), (by first | omega | simp), (hB.upd (by decide)), (fun a b a0 ab hb => by rw [updT_ne (by omega)]; exact hT a b a0 ab hb), (fun a h1 h2 => by rw [show a = n by omega, updT_at, partP_nil (by omega)])⟩ ?_
    rintro ⟨i, T2⟩ u_10 w_9 ⟨hS, g0, g1, hB, hT2, hN⟩
    refine W.seq ?_
    refine W.seq ?_
    refine W.reg ?_
    refine Wx.rd (v := .int .i64 i) (rd_move rfl) rfl ?_
    refine Wx.rd (v := .bool (decide (0 ≤ i))) (rd_geq rfl rfl) rfl ?_
    refine Wx.nil ?_
    refine W.condD rfl (fun c1 => ?_) (fun c1 => ?_)
    · -- yes
      refine W.skip ?_
      refine W.seq ?_
      refine W.block ?_
      refine W.seq ?_
      refine W.reg ?_
      refine Wx.rd (v := .pointer (some ⟨g_1, 0, none⟩)) (rd_move rfl) rfl ?_
      refine Wx.rd (v := .int .i64 i) (rd_move rfl) rfl ?_
      refine Wx.rd (v := .int .i64 (i + 1)) (rd_add rfl rfl (in_i64 (by omega) (by omega))) rfl ?_
      refine Wx.rd (v := .int .i64 n) (rd_move rfl) rfl ?_
      refine Wx.rd (v := .pointer (some ⟨g_1, 0, none⟩)) (rd_nilCheck rfl rfl) rfl ?_
      refine Wx.rd (v := .pointer (some ⟨g_1, 1, none⟩)) (rd_fieldAddr (o := 0) rfl foHc_94_1) rfl ?_
      refine Wx.rd (v := .pointer (some ⟨g_1, 1 + (i + 1).toNat * 26, none⟩)) (rd_indexArr (o := 1) rfl rfl Tryd.underlying92 Tryd.sizeOf91 (by omega) (by omega)) rfl ?_
      refine Wx.rd (v := .pointer (some ⟨g_1, 1 + (i + 1).toNat * 26 + n.toNat * 2, none⟩)) (rd_indexArr (o := 1 + (i + 1).toNat * 26) rfl rfl Tryd.underlying91 Tryd.sizeOf82 (by omega) (by omega)) rfl ?_
      refine Wx.rd (v := .agg #[.int .i64 ((T2 (i + 1) n).1), .int .i64 ((T2 (i + 1) n).2)]) (rd_tabP (fun _ q => boxAt hS 0 rfl q) rfl (by omega) (by omega) (by omega) (by omega) Tryd.isAgg82 Tryd.sizeOf82) rfl ?_
      have bt_11 := hB (i + 1) n
      refine Wx.alloc (cs := [.int .i64 0, .int .i64 0]) hS Tryd.zeroValue82 rfl rfl (fun g_12 w_13 hx_15 hb_14 hS => ?_)
      refine Wx.storeX (cs' := [.int .i64 ((T2 (i + 1) n).1), .int .i64 ((T2 (i + 1) n).2)]) (ds := [.int .i64 ((T2 (i + 1) n).1), .int .i64 ((T2 (i + 1) n).2)]) hS 0 rfl rfl rfl rfl Tryd.sizeOf82 (Nat.le_of_ble_eq_true rfl) (one_cons rfl (one_cons rfl one_nil)) rfl (fun w_16 hz_17 hS => ?_)
      refine Wx.nil ?_
      refine W.seq ?_
      refine W.seq ?_
      refine W.reg ?_
      refine Wx.rd (v := .int .i64 i) (rd_move rfl) rfl ?_
      refine Wx.rd (v := .int .i64 (i + 1)) (rd_add rfl rfl (in_i64 (by omega) (by omega))) rfl ?_
      refine Wx.rd (v := .int .i64 (i + 1)) (rd_assign rfl) rfl ?_
      refine Wx.nil ?_
      refine W.block ?_
      refine W.loop [7, 8, 43, 44, 45, 46, 47, 48, 49, 50, 51, 52, 53, 54, 55, 56, 57, 58, 59, 60, 61, 62, 63, 64, 65, 66, 67, 68, 69, 70, 71, 72, 73, 74, 75, 76] (fun x : Int × Int × Int => match x with | (j, bm, bc) => [(7, .int .i64 j)]) (fun (x : Int × Int × Int) w' => match x with | (j, bm, bc) => St w [] w' [.box g_12 82 [.int .i64 bm, .int .i64 bc], .box g_1 94 (tabC rim T2)] ∧ i + 1 ≤ j ∧ j ≤ n ∧ bm = (foldP (fitR rim) i n j).1 ∧ bc = (foldP (fitR rim) i n j).2) (fun x : Int × Int × Int => match x with | (j, bm, bc) => (n - j).toNat) (i + 1, (T2 (i + 1) n).1, (T2 (i + 1) n).2) ⟨rfl, trivial⟩ ⟨hS, (by first | omega | simp), (by first | omega | simp), (by rw [foldP_start, hN (i + 1) (by omega) (by omega)]), (by rw [foldP_start, hN (i + 1) (by omega) (by omega)])⟩ ?_
      rintro ⟨j, bm, bc⟩ u_19 w_18 ⟨hS, k0, k1, k2, k3⟩
      have hfb := foldP_bd (F := fitR rim) (i := i) (n := n) (j := j) (by omega) (by omega) k0 k1
      refine W.seq ?_
      refine W.seq ?_
      refine W.reg ?_
      refine Wx.rd (v := .int .i64 j) (rd_move rfl) rfl ?_
      refine Wx.rd (v := .int .i64 n) (rd_move rfl) rfl ?_
      refine Wx.rd (v := .bool (decide (j < n))) (rd_lss rfl rfl) rfl ?_
      refine Wx.nil ?_
      refine W.condD rfl (fun c2 => ?_) (fun c2 => ?_)
      · -- yes
        refine W.skip ?_
        refine W.seq ?_
        refine W.block ?_
        refine W.seq ?_
        refine W.seq ?_
        refine W.reg ?_
        refine Wx.rd (v := .string rim) (rd_move rfl) rfl ?_
        refine Wx.rd (v := .int .i64 i) (rd_move rfl) rfl ?_
        refine Wx.rd (v := .int .i64 j) (rd_move rfl) rfl ?_
        refine Wx.callF (run_callF Tryd.call61 rfl) (F61 (by first | assumption | (simp only [maxLen]; omega) | (simp only [ByteArray.size_extract, ByteArray.size_append, maxLen] at *; omega) | decide) (in_i64 (by omega) (by omega)) (in_i64 (by omega) (by omega)) (by omega) (by omega) (by omega) (by omega) (by omega) (hG.ext hS.bel)) rfl ?_
        rintro r_20 w_21 hx_22 rfl
        have hS := hS.ext hx_22
        refine Wx.rd (v := .bool (!(fitR rim i j))) (rd_not rfl) rfl ?_
        refine Wx.nil ?_
        refine W.cond rfl (fun c3 => ?_) (fun c3 => ?_)
        · -- yes
          try simp only [Bool.and_eq_true, Bool.or_eq_true, Bool.not_eq_true', Bool.and_eq_false_iff, Bool.or_eq_false_iff, Bool.not_eq_false', decide_eq_true_eq, decide_eq_false_iff_not, not_or, Bool.false_eq_true, Bool.true_eq_false, false_or, or_false, not_false_eq_true] at c3
          refine W.exit rfl ?_
          refine W.reg ?_
          refine Wx.rd (v := .int .i64 j) (rd_move rfl) rfl ?_
          refine Wx.rd (v := .int .i64 (j + 1)) (rd_add rfl rfl (in_i64 (by omega) (by omega))) rfl ?_
          refine Wx.rd (v := .int .i64 (j + 1)) (rd_assign rfl) rfl ?_
          refine Wx.nil ?_
          refine ⟨(j + 1, bm, bc), (by show (n - (j + 1)).toNat < (n - j).toNat; omega), ?_, ?_, Out.look rfl Out.self⟩
          · exact ⟨hS, (by first | omega | assumption), (by first | omega | assumption), ((step_no k0 k2 k3 c3).1), ((step_no k0 k2 k3 c3).2)⟩
          · exact ⟨rfl, trivial⟩
        · -- no
          try simp only [Bool.and_eq_true, Bool.or_eq_true, Bool.not_eq_true', Bool.and_eq_false_iff, Bool.or_eq_false_iff, Bool.not_eq_false', decide_eq_true_eq, decide_eq_false_iff_not, not_or, Bool.false_eq_true, Bool.true_eq_false, false_or, or_false, not_false_eq_true] at c3
          refine W.skip ?_
          refine W.seq ?_
          refine W.reg ?_
          refine Wx.rd (v := .pointer (some ⟨g_1, 0, none⟩)) (rd_move rfl) rfl ?_
          refine Wx.rd (v := .int .i64 i) (rd_move rfl) rfl ?_
          refine Wx.rd (v := .int .i64 j) (rd_move rfl) rfl ?_
          refine Wx.rd (v := .int .i64 n) (rd_move rfl) rfl ?_
          have hmb := hB.mul i j n
          have hjp : joinP (partP (fitR rim) (i + 1) j) (partP (fitR rim) (j + 1) n) = ((T2 (i + 1) j).1 + (T2 (j + 1) n).1 + 1, (T2 (i + 1) j).2 * (T2 (j + 1) n).2) := by rw [← hT2 (i + 1) j (by omega) k0 c2, ← hN (j + 1) (by omega) (by omega)]; rfl
          have hb1 := hB (i + 1) j
          have hb2 := hB (j + 1) n
          refine Wx.callF (run_callF Tryd.call91 rfl) (F91 (boxAt hS 1 rfl (Ext.refl _)) (in_i64 (by omega) (by omega)) (in_i64 (by omega) (by omega)) (in_i64 (by omega) (by omega)) hB (by omega) (by omega) (by omega) (by omega) (by omega) (by omega)) rfl ?_
          rintro r_23 w_24 hx_25 rfl
          have hS := hS.ext hx_25
          refine Wx.alloc (cs := [.int .i64 0, .int .i64 0]) hS Tryd.zeroValue82 rfl rfl (fun g_26 w_27 hx_29 hb_28 hS => ?_)
          refine Wx.storeX (cs' := [.int .i64 ((T2 (i + 1) j).1 + (T2 (j + 1) n).1 + 1), .int .i64 ((T2 (i + 1) j).2 * (T2 (j + 1) n).2)]) (ds := [.int .i64 ((T2 (i + 1) j).1 + (T2 (j + 1) n).1 + 1), .int .i64 ((T2 (i + 1) j).2 * (T2 (j + 1) n).2)]) hS 0 rfl rfl rfl rfl Tryd.sizeOf82 (Nat.le_of_ble_eq_true rfl) (one_cons rfl (one_cons rfl one_nil)) rfl (fun w_30 hz_31 hS => ?_)
          refine Wx.nil ?_
          refine W.block ?_
          refine W.seq ?_
          refine W.reg ?_
          refine Wx.rd (v := .pointer (some ⟨g_26, 0, none⟩)) (rd_fieldAddr rfl foHc_82_0) rfl ?_
          refine Wx.rd (v := .int .i64 ((T2 (i + 1) j).1 + (T2 (j + 1) n).1 + 1)) (rd_loadX hS 0 rfl rfl rfl Tryd.isAgg3) rfl ?_
          refine Wx.rd (v := .pointer (some ⟨g_12, 0, none⟩)) (rd_fieldAddr rfl foHc_82_0) rfl ?_
          refine Wx.rd (v := .int .i64 bm) (rd_loadX hS 1 rfl rfl rfl Tryd.isAgg3) rfl ?_
          refine Wx.rd (v := .bool (decide (bm < ((T2 (i + 1) j).1 + (T2 (j + 1) n).1 + 1)))) (rd_gtr rfl rfl) rfl ?_
          refine Wx.rd (v := .bool (decide (bm < ((T2 (i + 1) j).1 + (T2 (j + 1) n).1 + 1)))) (rd_assign rfl) rfl ?_
          refine Wx.nil ?_
          refine W.condD rfl (fun c4 => ?_) (fun c4 => ?_)
          · -- yes
            refine W.reg ?_
            refine Wx.rd (v := .agg #[.int .i64 ((T2 (i + 1) j).1 + (T2 (j + 1) n).1 + 1), .int .i64 ((T2 (i + 1) j).2 * (T2 (j + 1) n).2)]) (rd_loadXs (ds := [.int .i64 ((T2 (i + 1) j).1 + (T2 (j + 1) n).1 + 1), .int .i64 ((T2 (i + 1) j).2 * (T2 (j + 1) n).2)]) hS 0 rfl rfl rfl rfl Tryd.isAgg82 Tryd.sizeOf82) rfl ?_
            refine Wx.storeX (cs' := [.int .i64 ((T2 (i + 1) j).1 + (T2 (j + 1) n).1 + 1), .int .i64 ((T2 (i + 1) j).2 * (T2 (j + 1) n).2)]) (ds := [.int .i64 ((T2 (i + 1) j).1 + (T2 (j + 1) n).1 + 1), .int .i64 ((T2 (i + 1) j).2 * (T2 (j + 1) n).2)]) hS 1 rfl rfl rfl rfl Tryd.sizeOf82 (Nat.le_of_ble_eq_true rfl) (one_cons rfl (one_cons rfl one_nil)) rfl (fun w_32 hz_33 hS => ?_)
            refine Wx.nil ?_
            refine W.reg ?_
            refine Wx.rd (v := .int .i64 j) (rd_move rfl) rfl ?_
            refine Wx.rd (v := .int .i64 (j + 1)) (rd_add rfl rfl (in_i64 (by omega) (by omega))) rfl ?_
            refine Wx.rd (v := .int .i64 (j + 1)) (rd_assign rfl) rfl ?_
            refine Wx.nil ?_
            refine ⟨(j + 1, (T2 (i + 1) j).1 + (T2 (j + 1) n).1 + 1, (T2 (i + 1) j).2 * (T2 (j + 1) n).2), (by show (n - (j + 1)).toNat < (n - j).toNat; omega), ?_, ?_, Out.look rfl Out.self⟩
            · exact ⟨hS.tl, (by first | omega | assumption), (by first | omega | assumption), ((step_gt k0 k2 c3 hjp c4).1), ((step_gt k0 k2 c3 hjp c4).2)⟩
            · exact ⟨rfl, trivial⟩
          · -- no
            refine W.seq ?_
            refine W.reg ?_
            refine Wx.rd (v := .pointer (some ⟨g_26, 0, none⟩)) (rd_fieldAddr rfl foHc_82_0) rfl ?_
            refine Wx.rd (v := .int .i64 ((T2 (i + 1) j).1 + (T2 (j + 1) n).1 + 1)) (rd_loadX hS 0 rfl rfl rfl Tryd.isAgg3) rfl ?_
            refine Wx.rd (v := .pointer (some ⟨g_12, 0, none⟩)) (rd_fieldAddr rfl foHc_82_0) rfl ?_
            refine Wx.rd (v := .int .i64 bm) (rd_loadX hS 1 rfl rfl rfl Tryd.isAgg3) rfl ?_
            refine Wx.rd (v := .bool (decide (((T2 (i + 1) j).1 + (T2 (j + 1) n).1 + 1) = bm))) (rd_eql rfl rfl) rfl ?_
            refine Wx.rd (v := .bool (decide (((T2 (i + 1) j).1 + (T2 (j + 1) n).1 + 1) = bm))) (rd_assign rfl) rfl ?_
            refine Wx.nil ?_
            refine W.condD rfl (fun c5 => ?_) (fun c5 => ?_)
            · -- yes
              refine W.reg ?_
              refine Wx.rd (v := .pointer (some ⟨g_12, 1, none⟩)) (rd_fieldAddr rfl foHc_82_1) rfl ?_
              refine Wx.rd (v := .int .i64 bc) (rd_loadX hS 1 rfl rfl rfl Tryd.isAgg3) rfl ?_
              refine Wx.rd (v := .pointer (some ⟨g_26, 1, none⟩)) (rd_fieldAddr rfl foHc_82_1) rfl ?_
              refine Wx.rd (v := .int .i64 ((T2 (i + 1) j).2 * (T2 (j + 1) n).2)) (rd_loadX hS 0 rfl rfl rfl Tryd.isAgg3) rfl ?_
              refine Wx.rd (v := .int .i64 (bc + ((T2 (i + 1) j).2 * (T2 (j + 1) n).2))) (rd_add rfl rfl (in_i64 (by omega) (by omega))) rfl ?_
              refine Wx.rd (v := .pointer (some ⟨g_12, 1, none⟩)) (rd_fieldAddr rfl foHc_82_1) rfl ?_
              refine Wx.storeX (cs' := [.int .i64 bm, .int .i64 (bc + ((T2 (i + 1) j).2 * (T2 (j + 1) n).2))]) (ds := [.int .i64 (bc + ((T2 (i + 1) j).2 * (T2 (j + 1) n).2))]) hS 1 rfl rfl rfl rfl Tryd.sizeOf3 (Nat.le_of_ble_eq_true rfl) (one_cons rfl one_nil) rfl (fun w_34 hz_35 hS => ?_)
              refine Wx.nil ?_
              refine W.reg ?_
              refine Wx.rd (v := .int .i64 j) (rd_move rfl) rfl ?_
              refine Wx.rd (v := .int .i64 (j + 1)) (rd_add rfl rfl (in_i64 (by omega) (by omega))) rfl ?_
              refine Wx.rd (v := .int .i64 (j + 1)) (rd_assign rfl) rfl ?_
              refine Wx.nil ?_
              refine ⟨(j + 1, bm, bc + ((T2 (i + 1) j).2 * (T2 (j + 1) n).2)), (by show (n - (j + 1)).toNat < (n - j).toNat; omega), ?_, ?_, Out.look rfl Out.self⟩
              · exact ⟨hS.tl, (by first | omega | assumption), (by first | omega | assumption), ((step_eq k0 k2 k3 c3 hjp c4 c5).1), ((step_eq k0 k2 k3 c3 hjp c4 c5).2)⟩
              · exact ⟨rfl, trivial⟩
            · -- no
              refine W.skip ?_
              refine W.reg ?_
              refine Wx.rd (v := .int .i64 j) (rd_move rfl) rfl ?_
              refine Wx.rd (v := .int .i64 (j + 1)) (rd_add rfl rfl (in_i64 (by omega) (by omega))) rfl ?_
              refine Wx.rd (v := .int .i64 (j + 1)) (rd_assign rfl) rfl ?_
              refine Wx.nil ?_
              refine ⟨(j + 1, bm, bc), (by show (n - (j + 1)).toNat < (n - j).toNat; omega), ?_, ?_, Out.look rfl Out.self⟩
              · exact ⟨hS.tl, (by first | omega | assumption), (by first | omega | assumption), ((step_lt k0 k2 k3 c3 hjp c4 c5).1), ((step_lt k0 k2 k3 c3 hjp c4 c5).2)⟩
              · exact ⟨rfl, trivial⟩
      · -- no
        refine W.exit rfl ?_
        refine W.regT 8 mixedHc_ (by kernel_rfl) ?_
        refine Wx.rd (v := .pointer (some ⟨g_1, 0, none⟩)) (rd_move rfl) rfl ?_
        refine Wx.rd (v := .int .i64 i) (rd_move rfl) rfl ?_
        refine Wx.rd (v := .int .i64 n) (rd_move rfl) rfl ?_
        refine Wx.rd (v := .agg #[.int .i64 bm, .int .i64 bc]) (rd_loadXs (ds := [.int .i64 bm, .int .i64 bc]) hS 0 rfl rfl rfl rfl Tryd.isAgg82 Tryd.sizeOf82) rfl ?_
        refine Wx.rd (v := .pointer (some ⟨g_1, 0, none⟩)) (rd_nilCheck rfl rfl) rfl ?_
        refine Wx.rd (v := .pointer (some ⟨g_1, 1, none⟩)) (rd_fieldAddr (o := 0) rfl foHc_94_1) rfl ?_
        refine Wx.rd (v := .pointer (some ⟨g_1, 1 + i.toNat * 26, none⟩)) (rd_indexArr (o := 1) rfl rfl Tryd.underlying92 Tryd.sizeOf91 (by omega) (by omega)) rfl ?_
        refine Wx.rd (v := .pointer (some ⟨g_1, 1 + i.toNat * 26 + n.toNat * 2, none⟩)) (rd_indexArr (o := 1 + i.toNat * 26) rfl rfl Tryd.underlying91 Tryd.sizeOf82 (by omega) (by omega)) rfl ?_
        refine Wx.nilQ (fun w_36 hx_37 => ?_)
        have hS := hS.ext hx_37
        refine Wx.storeX (cs' := tabC rim (updT T2 i n (bm, bc))) (ds := [.int .i64 bm, .int .i64 bc]) hS 1 rfl rfl rfl rfl Tryd.sizeOf82 (by rw [tabC_len]; show _ + 2 ≤ 339; omega) (one_cons rfl (one_cons rfl one_nil)) (tabC_set rim T2 (by omega) (by omega) (by omega) (by omega) bm bc) (fun w_38 hz_39 hS => ?_)
        refine Wx.nil ?_
        refine W.reg ?_
        refine Wx.rd (v := .int .i64 i) (rd_move rfl) rfl ?_
        refine Wx.rd (v := .int .i64 (i - 1)) (rd_sub rfl rfl (in_i64 (by omega) (by omega))) rfl ?_
        refine Wx.rd (v := .int .i64 (i - 1)) (rd_assign rfl) rfl ?_
        refine Wx.nil ?_
        refine ⟨(i - 1, updT T2 i n (bm, bc)), (by show ((i - 1) + 1).toNat < (i + 1).toNat; omega), ?_, ?_, Out.look rfl (Out.hav rfl (Out.look rfl Out.self))⟩
        · exact ⟨hS.tl, (by first | omega | assumption), (by first | omega | assumption), (hB.upd (by rw [k2, k3]; exact hfb)), (fun a b a0 ab hb => by rw [updT_ne (by omega)]; exact hT2 a b a0 ab hb), (fun a h1 h2 => by by_cases h : a = i; (subst h; rw [updT_at, k2, k3, show j = n by omega, foldP_end (by omega)]); rw [updT_ne (by omega)]; exact hN a (by omega) h2)⟩
        · exact ⟨rfl, trivial⟩
    · -- no
      refine W.exit rfl ?_
      refine W.reg ?_
      refine Wx.rd (v := .int .i64 (n + 1)) (rd_add rfl rfl (in_i64 (by omega) (by omega))) rfl ?_
      refine Wx.rd (v := .int .i64 (n + 1)) (rd_move rfl) rfl ?_
      refine Wx.nil ?_
      refine ⟨(n + 1, T2), (by show (rim.size + 1 - (n + 1)).toNat < (rim.size + 1 - n).toNat; omega), ?_, ?_, Out.look rfl (Out.hav rfl (Out.look rfl Out.self))⟩
      · exact ⟨hS, (by first | omega | assumption), (by first | omega | assumption), (hB), (fun a b a0 ab hb => by by_cases h : b = n; (subst h; exact hN a (by omega) ab); exact hT2 a b a0 ab (by omega))⟩
      · exact ⟨rfl, trivial⟩
  · -- no
    refine W.exit rfl ?_
    refine W.seq ?_
    refine W.reg ?_
    refine Wx.rd (v := .pointer (some ⟨g_1, 0, none⟩)) (rd_move rfl) rfl ?_
    refine Wx.rd (v := .pointer (some ⟨g_1, 0, none⟩)) (rd_assign rfl) rfl ?_
    refine Wx.nil ?_
    exact W.ret ⟨.pointer (some ⟨g_1, 0, none⟩), ResIs.one, hS.bel, ⟨g_1, T, rfl, (hS.get 0 rfl).1, (hS.get 0 rfl).2, by exact ⟨hB, fun a b a0 ab bn => hT a b a0 ab (by omega)⟩⟩⟩
end Go.Proofs.YtokdjjebnomciaaDoor

namespace Go.Proofs.YtokdjjebnomciaaDoor
open Go.Wk Go.RowKit Go.Lib
set_option linter.unusedVariables false
set_option linter.unusedSimpArgs false
theorem mixedHd_ : Tryd.prog.follows .mixedOrders = true := by kernel_rfl
theorem foHd_94_0 : fldOff Tryd.prog 94 0 = some 0 := by kernel_rfl
theorem ftHd_82_0 : fldTy Tryd.prog 82 0 = some (3, 0) := by kernel_rfl
theorem foHd_94_1 : fldOff Tryd.prog 94 1 = some 1 := by kernel_rfl
theorem foHd_82_0 : fldOff Tryd.prog 82 0 = some 0 := by kernel_rfl
theorem elHd_22 : ElemI Tryd.prog 22 58 (.agg #[.int .i64 0, .int .i64 0]) 2 16 := ElemI.of Tryd.underlying22 (by kernel_rfl) (by first | rfl | kernel_rfl) (by decide)
theorem ftHd_82_1 : fldTy Tryd.prog 82 1 = some (3, 1) := by kernel_rfl

theorem F69  : ∀ (fuel : Nat) {i n : Int} {v : Value} {ys : List (Int × Int)} {g : Nat} {s : ByteArray} {T : Tab} {ob : List Ob} {w0 w : World} {O : List (Option Nat)} (i_i : InK .i64 i) (i_n : InK .i64 n) (p_i : 0 ≤ i) (p_n : i ≤ n) (p_s : n ≤ s.size) (p_y : (ys.length : Int) + n - i ≤ 100) (p_ok : TabOK s T) (p_l : Lets s) (p_12 : (s.size : Int) ≤ 12) (hG : Laid w0) (hS : St w0 O w (.row (tP (tI .i64) (tI .i64)) 58 v ys :: .box g 94 (tabC s T) :: ob)) (hf : (n - i).toNat < fuel), Calls Tryd.prog 69 #[.pointer (some ⟨g, 0, none⟩), v, .int .i64 i, .int .i64 n] w (Bk fun r w' => ∃ v', r = v' ∧ St w0 O w' (.row (tP (tI .i64) (tI .i64)) 58 v' (ys ++ firstP (fitR s) i n) :: .box g 94 (tabC s T) :: ob)) := by
  intro fuel
  induction fuel with
  | zero => intros; omega
  | succ fuel IH =>
  intro i n v ys g s T ob w0 w O i_i i_n p_i p_n p_s p_y p_ok p_l p_12 hG hS hf
  have b_i := bd_i64 i_i
  have b_n := bd_i64 i_n
  have hB := p_ok.1
  refine enterB Tryd.func69 rfl Tryd.ntmps69 Tryd.results69 rfl ?_
  refine W.seq ?_
  refine W.reg ?_
  refine Wx.rd (v := (.slice none 0 0)) (rd_assign rfl) rfl ?_
  refine Wx.nil ?_
  refine W.seq ?_
  refine W.seq ?_
  refine W.reg ?_
  refine Wx.rd (v := .int .i64 i) (rd_move rfl) rfl ?_
  refine Wx.rd (v := .int .i64 n) (rd_move rfl) rfl ?_
  refine Wx.rd (v := .bool (decide (n ≤ i))) (rd_geq rfl rfl) rfl ?_
  refine Wx.nil ?_
  refine W.condD rfl (fun c0 => ?_) (fun c0 => ?_)
  · -- yes
    refine W.seq ?_
    refine W.reg ?_
    refine Wx.rd (v := v) (rd_move rfl) rfl ?_
    refine Wx.rd (v := v) (rd_assign rfl) rfl ?_
    refine Wx.nil ?_
    exact W.ret ⟨v, ResIs.one, _, rfl, hS.spell (ys' := ys ++ firstP (fitR s) i n) 0 rfl (by rw [firstP_nil (by omega), List.append_nil])⟩
  · -- no
    refine W.skip ?_
    refine W.seq ?_
    refine W.seq ?_
    refine W.reg ?_
    refine Wx.rd (v := .int .i64 i) (rd_move rfl) rfl ?_
    refine Wx.rd (v := .int .i64 (i + 1)) (rd_add rfl rfl (in_i64 (by omega) (by omega))) rfl ?_
    refine Wx.rd (v := .int .i64 (i + 1)) (rd_assign rfl) rfl ?_
    refine Wx.nil ?_
    refine W.block ?_
    refine W.loop [1, 8, 9, 16, 17, 18, 19, 20, 21, 22, 23, 24, 25, 26, 27, 28, 29, 30, 31, 32, 33, 34, 35, 36, 37, 38, 39, 40, 41, 42, 43, 44, 45, 46, 47, 48, 49, 50, 51, 52, 53, 54, 55, 56, 57, 58, 59, 60, 61, 62] (fun (j : Int) => [(9, .int .i64 j), (1, v)]) (fun (j : Int) w' => St w0 O w' (.row (tP (tI .i64) (tI .i64)) 58 v ys :: .box g 94 (tabC s T) :: ob) ∧ i + 1 ≤ j ∧ j ≤ n ∧ (∀ q, i < q → q < j → isF (fitR s) i n q = false)) (fun (j : Int) => (n - j).toNat) (i + 1) ⟨rfl, rfl, trivial⟩ ⟨hS, (by first | omega | simp), (by first | omega | simp), (fun q q0 q1 => by omega)⟩ ?_
    rintro j u_2 w_1 ⟨hS, h1, h1b, h2⟩
    refine W.seq ?_
    refine W.seq ?_
    refine W.reg ?_
    refine Wx.rd (v := .int .i64 j) (rd_move rfl) rfl ?_
    refine Wx.rd (v := .int .i64 n) (rd_move rfl) rfl ?_
    refine Wx.rd (v := .bool (decide (j < n))) (rd_lss rfl rfl) rfl ?_
    refine Wx.nil ?_
    refine W.condD rfl (fun c1 => ?_) (fun c1 => ?_)
    · -- yes
      refine W.skip ?_
      refine W.seq ?_
      refine W.block ?_
      refine W.seq ?_
      refine W.regQ mixedHd_ (by kernel_rfl) ?_
      refine Wx.rd (v := .pointer (some ⟨g, 0, none⟩)) (rd_move rfl) rfl ?_
      refine Wx.rd (v := .pointer (some ⟨g, 0, none⟩)) (rd_nilCheck rfl rfl) rfl ?_
      refine Wx.rd (v := .pointer (some ⟨g, 0, none⟩)) (rd_fieldAddr (o := 0) rfl foHd_94_0) rfl ?_
      refine Wx.rd (v := .string s) (rd_tabS (fun _ q => boxAt hS 1 rfl q) rfl Tryd.isAgg9) rfl ?_
      refine Wx.rd (v := .int .i64 i) (rd_move rfl) rfl ?_
      refine Wx.rd (v := .int .i64 j) (rd_move rfl) rfl ?_
      refine Wx.callV (v := .bool (fitR s i j)) (run_callF Tryd.call61 rfl) (fun w_3 hw_4 => (F61 (by first | assumption | (simp only [maxLen]; omega) | (simp only [ByteArray.size_extract, ByteArray.size_append, maxLen] at *; omega) | decide) (in_i64 (by omega) (by omega)) (in_i64 (by omega) (by omega)) (by omega) (by omega) (by omega) (by omega) (by omega) (hG.ext (Ext.trans hS.bel hw_4)))) rfl ?_
      refine Wx.rd (v := .bool (fitR s i j)) (rd_move rfl) rfl ?_
      refine Wx.cutQ (X := Unit) 17 [29, 30, 31, 32, 33, 34, 35, 36, 37, 38, 39, 40, 41, 42, 43, 44, 45] (fun _ => [(45, .bool (fitR s i j && decide (((T (i + 1) j).1 + (T (j + 1) n).1 + 1) = ((T i n).1))))]) (fun _ => True) ?_ ?_
      · rcases Bool.eq_false_or_eq_true (fitR s i j) with g_5 | g_5
        · -- True
          have gp_6 := g_5
          try simp only [Bool.and_eq_true, Bool.or_eq_true, Bool.not_eq_true', Bool.and_eq_false_iff, Bool.or_eq_false_iff, Bool.not_eq_false', decide_eq_true_eq, decide_eq_false_iff_not, not_or, Bool.false_eq_true, Bool.true_eq_false, false_or, or_false, not_false_eq_true] at gp_6
          refine Wx.gyes rfl rfl (congrArg Value.bool g_5) ?_
          refine Wx.rd (v := .pointer (some ⟨g, 0, none⟩)) (rd_move rfl) rfl ?_
          refine Wx.gyes rfl rfl (congrArg Value.bool g_5) ?_
          refine Wx.rd (v := .int .i64 i) (rd_move rfl) rfl ?_
          refine Wx.gyes rfl rfl (congrArg Value.bool g_5) ?_
          refine Wx.rd (v := .int .i64 j) (rd_move rfl) rfl ?_
          refine Wx.gyes rfl rfl (congrArg Value.bool g_5) ?_
          refine Wx.rd (v := .int .i64 n) (rd_move rfl) rfl ?_
          refine Wx.gyes rfl rfl (congrArg Value.bool g_5) ?_
          refine Wx.callV (v := .agg #[.int .i64 ((T (i + 1) j).1 + (T (j + 1) n).1 + 1), .int .i64 ((T (i + 1) j).2 * (T (j + 1) n).2)]) (run_callF Tryd.call91 rfl) (fun w_7 hw_8 => (F91 (boxAt hS 1 rfl hw_8) (in_i64 (by omega) (by omega)) (in_i64 (by omega) (by omega)) (in_i64 (by omega) (by omega)) hB (by omega) (by omega) (by omega) (by omega) (by omega) (by omega))) rfl ?_
          refine Wx.gyes rfl rfl (congrArg Value.bool g_5) ?_
          refine Wx.rd (v := .int .i64 ((T (i + 1) j).1 + (T (j + 1) n).1 + 1)) (rd_fieldV rfl ftHd_82_0 Tryd.isAgg3 rfl) rfl ?_
          refine Wx.gyes rfl rfl (congrArg Value.bool g_5) ?_
          refine Wx.rd (v := .pointer (some ⟨g, 0, none⟩)) (rd_move rfl) rfl ?_
          refine Wx.gyes rfl rfl (congrArg Value.bool g_5) ?_
          refine Wx.rd (v := .int .i64 i) (rd_move rfl) rfl ?_
          refine Wx.gyes rfl rfl (congrArg Value.bool g_5) ?_
          refine Wx.rd (v := .int .i64 n) (rd_move rfl) rfl ?_
          refine Wx.gyes rfl rfl (congrArg Value.bool g_5) ?_
          refine Wx.rd (v := .pointer (some ⟨g, 0, none⟩)) (rd_nilCheck rfl rfl) rfl ?_
          refine Wx.gyes rfl rfl (congrArg Value.bool g_5) ?_
          refine Wx.rd (v := .pointer (some ⟨g, 1, none⟩)) (rd_fieldAddr (o := 0) rfl foHd_94_1) rfl ?_
          refine Wx.gyes rfl rfl (congrArg Value.bool g_5) ?_
          refine Wx.rd (v := .pointer (some ⟨g, 1 + i.toNat * 26, none⟩)) (rd_indexArr (o := 1) rfl rfl Tryd.underlying92 Tryd.sizeOf91 (by omega) (by omega)) rfl ?_
          refine Wx.gyes rfl rfl (congrArg Value.bool g_5) ?_
          refine Wx.rd (v := .pointer (some ⟨g, 1 + i.toNat * 26 + n.toNat * 2, none⟩)) (rd_indexArr (o := 1 + i.toNat * 26) rfl rfl Tryd.underlying91 Tryd.sizeOf82 (by omega) (by omega)) rfl ?_
          refine Wx.gyes rfl rfl (congrArg Value.bool g_5) ?_
          refine Wx.rd (v := .pointer (some ⟨g, 1 + i.toNat * 26 + n.toNat * 2, none⟩)) (rd_fieldAddr (o := 1 + i.toNat * 26 + n.toNat * 2) rfl foHd_82_0) rfl ?_
          refine Wx.gyes rfl rfl (congrArg Value.bool g_5) ?_
          refine Wx.rd (v := .int .i64 ((T i n).1)) (rd_tab1 (fun _ q => boxAt hS 1 rfl q) rfl (by omega) (by omega) (by omega) (by omega) Tryd.isAgg3) rfl ?_
          have bt_9 := hB i n
          refine Wx.gyes rfl rfl (congrArg Value.bool g_5) ?_
          refine Wx.rd (v := .bool (decide (((T (i + 1) j).1 + (T (j + 1) n).1 + 1) = ((T i n).1)))) (rd_eql rfl rfl) rfl ?_
          refine Wx.rd (v := .bool (decide (((T (i + 1) j).1 + (T (j + 1) n).1 + 1) = ((T i n).1)))) (rd_pickT (congrArg Value.bool g_5) rfl) rfl ?_
          refine Wx.nilQ (fun _ _ => ⟨(), trivial, ⟨?_, trivial⟩, Out.look rfl Out.refl⟩)
          show Value.bool (decide (((T (i + 1) j).1 + (T (j + 1) n).1 + 1) = ((T i n).1))) = Value.bool (fitR s i j && decide (((T (i + 1) j).1 + (T (j + 1) n).1 + 1) = ((T i n).1)))
          rw [g_5]; rfl
        · -- False
          have gp_10 := g_5
          try simp only [Bool.and_eq_true, Bool.or_eq_true, Bool.not_eq_true', Bool.and_eq_false_iff, Bool.or_eq_false_iff, Bool.not_eq_false', decide_eq_true_eq, decide_eq_false_iff_not, not_or, Bool.false_eq_true, Bool.true_eq_false, false_or, or_false, not_false_eq_true] at gp_10
          refine Wx.gnoB rfl rfl (congrArg Value.bool g_5) rfl rfl ?_
          refine Wx.gnoB rfl rfl (congrArg Value.bool g_5) rfl rfl ?_
          refine Wx.gnoB rfl rfl (congrArg Value.bool g_5) rfl rfl ?_
          refine Wx.gnoB rfl rfl (congrArg Value.bool g_5) rfl rfl ?_
          refine Wx.gnoB rfl rfl (congrArg Value.bool g_5) rfl rfl ?_
          refine Wx.gnoB rfl rfl (congrArg Value.bool g_5) rfl rfl ?_
          refine Wx.gnoB rfl rfl (congrArg Value.bool g_5) rfl rfl ?_
          refine Wx.gnoB rfl rfl (congrArg Value.bool g_5) rfl rfl ?_
          refine Wx.gnoB rfl rfl (congrArg Value.bool g_5) rfl rfl ?_
          refine Wx.gnoB rfl rfl (congrArg Value.bool g_5) rfl rfl ?_
          refine Wx.gnoB rfl rfl (congrArg Value.bool g_5) rfl rfl ?_
          refine Wx.gnoB rfl rfl (congrArg Value.bool g_5) rfl rfl ?_
          refine Wx.gnoB rfl rfl (congrArg Value.bool g_5) rfl rfl ?_
          refine Wx.gnoB rfl rfl (congrArg Value.bool g_5) rfl rfl ?_
          refine Wx.gnoB rfl rfl (congrArg Value.bool g_5) rfl rfl ?_
          refine Wx.gnoB rfl rfl (congrArg Value.bool g_5) rfl rfl ?_
          refine Wx.rd (v := .bool false) (rd_pickF (congrArg Value.bool g_5) rfl) rfl ?_
          refine Wx.nilQ (fun _ _ => ⟨(), trivial, ⟨?_, trivial⟩, Out.look rfl Out.refl⟩)
          show Value.bool false = Value.bool (fitR s i j && decide (((T (i + 1) j).1 + (T (j + 1) n).1 + 1) = ((T i n).1)))
          rw [g_5]; rfl
      rintro ⟨⟩ u_12 -
      refine Wx.nilQ (fun w_13 hx_14 => ?_)
      have hS := hS.ext hx_14
      refine W.cond rfl (fun c2 => ?_) (fun c2 => ?_)
      · -- yes
        try simp only [Bool.and_eq_true, Bool.or_eq_true, Bool.not_eq_true', Bool.and_eq_false_iff, Bool.or_eq_false_iff, Bool.not_eq_false', decide_eq_true_eq, decide_eq_false_iff_not, not_or, Bool.false_eq_true, Bool.true_eq_false, false_or, or_false, not_false_eq_true] at c2
        refine W.seq ?_
        refine W.reg ?_
        refine Wx.rd (v := .pointer (some ⟨g, 0, none⟩)) (rd_move rfl) rfl ?_
        refine Wx.rd (v := v) (rd_move rfl) rfl ?_
        refine Wx.rd (v := .int .i64 i) (rd_move rfl) rfl ?_
        refine Wx.rd (v := .int .i64 j) (rd_move rfl) rfl ?_
        refine Wx.rd (v := .agg #[.int .i64 i, .int .i64 j]) (rd_build (vs := [(0, .int .i64 i), (1, .int .i64 j)]) rfl (by kernel_rfl)) rfl ?_
        refine Wx.lit (t := (tP (tI .i64) (tI .i64))) (ys := [(i, j)]) (vs := [.agg #[.int .i64 i, .int .i64 j]]) elHd_22 hS rfl rfl ⟨(V.mk2 (in_i64 (by omega) (by omega)) (in_i64 (by omega) (by omega))), trivial⟩ (by decide) rfl (fun v_15 w_16 hx_17 hS => ?_)
        refine Wx.append elHd_22 hS 1 rfl rfl rfl (Src.ofR hS 0 rfl) (by simp only [maxLen]; simp; omega) (by simp; omega) rfl (fun v_18 w_19 hz_20 hS => ?_)
        refine Wx.rd (v := .int .i64 i) (rd_move rfl) rfl ?_
        refine Wx.rd (v := .int .i64 (i + 1)) (rd_add rfl rfl (in_i64 (by omega) (by omega))) rfl ?_
        refine Wx.rd (v := .int .i64 j) (rd_move rfl) rfl ?_
        refine Wx.callB (run_callF Tryd.call69 rfl) (IH (ob := (.row (tP (tI .i64) (tI .i64)) 58 v_15 [(i, j)] :: ob)) (in_i64 (by omega) (by omega)) (in_i64 (by omega) (by omega)) (by omega) (by omega) (by omega) (by rw [List.length_append]; show ((ys.length + 1 : Nat) : Int) + _ - _ ≤ 100; omega) p_ok p_l (by omega) hG ((hS.front 2 rfl).front 2 rfl) (by omega)) rfl ?_
        rintro r_21 w_22 ⟨_, rfl, hS⟩
        have hS : St _ _ w_22 (.row (tP (tI .i64) (tI .i64)) 58 r_21 ((ys ++ [(i, j)]) ++ firstP (fitR s) (i + 1) j) :: .box g 94 (tabC s T) :: .row (tP (tI .i64) (tI .i64)) 58 v_15 [(i, j)] :: ob) := hS
        have hS := hS.front 2 rfl
        refine Wx.rd (v := r_21) (rd_assign rfl) rfl ?_
        refine Wx.nil ?_
        refine W.seq ?_
        refine W.reg ?_
        refine Wx.rd (v := .pointer (some ⟨g, 0, none⟩)) (rd_move rfl) rfl ?_
        refine Wx.rd (v := r_21) (rd_move rfl) rfl ?_
        refine Wx.rd (v := .int .i64 j) (rd_move rfl) rfl ?_
        refine Wx.rd (v := .int .i64 (j + 1)) (rd_add rfl rfl (in_i64 (by omega) (by omega))) rfl ?_
        refine Wx.rd (v := .int .i64 n) (rd_move rfl) rfl ?_
        refine Wx.callB (run_callF Tryd.call69 rfl) (IH (ob := (.row (tP (tI .i64) (tI .i64)) 58 v_15 [(i, j)] :: ob)) (in_i64 (by omega) (by omega)) (in_i64 (by omega) (by omega)) (by omega) (by omega) (by omega) (by have := firstP_len (F := fitR s) (i := i + 1) (n := j) (by omega); rw [List.length_append, List.length_append]; show ((ys.length + 1 + _ : Nat) : Int) + _ - _ ≤ 100; omega) p_ok p_l (by omega) hG ((hS.front 2 rfl).front 2 rfl) (by omega)) rfl ?_
        rintro r_23 w_24 ⟨_, rfl, hS⟩
        have hS : St _ _ w_24 (.row (tP (tI .i64) (tI .i64)) 58 r_23 (((ys ++ [(i, j)]) ++ firstP (fitR s) (i + 1) j) ++ firstP (fitR s) (j + 1) n) :: .box g 94 (tabC s T) :: .row (tP (tI .i64) (tI .i64)) 58 v_15 [(i, j)] :: ob) := hS
        have hS := hS.front 2 rfl
        refine Wx.rd (v := r_23) (rd_assign rfl) rfl ?_
        refine Wx.nil ?_
        exact W.ret ⟨r_23, ResIs.one, _, rfl, (St.tl hS).spell (ys' := ys ++ firstP (fitR s) i n) 0 rfl (by rw [firstP_found (by omega) c1 h2 ((isF_iff p_ok p_i (by omega) c1 p_s).2 c2)]; simp)⟩
      · -- no
        try simp only [Bool.and_eq_true, Bool.or_eq_true, Bool.not_eq_true', Bool.and_eq_false_iff, Bool.or_eq_false_iff, Bool.not_eq_false', decide_eq_true_eq, decide_eq_false_iff_not, not_or, Bool.false_eq_true, Bool.true_eq_false, false_or, or_false, not_false_eq_true] at c2
        refine W.skip ?_
        refine W.reg ?_
        refine Wx.rd (v := .int .i64 j) (rd_move rfl) rfl ?_
        refine Wx.rd (v := .int .i64 (j + 1)) (rd_add rfl rfl (in_i64 (by omega) (by omega))) rfl ?_
        refine Wx.rd (v := .int .i64 (j + 1)) (rd_assign rfl) rfl ?_
        refine Wx.nil ?_
        refine ⟨j + 1, (by show (n - (j + 1)).toNat < (n - j).toNat; omega), ?_, ?_, Out.look rfl (Out.hav rfl (Out.look rfl Out.self))⟩
        · exact ⟨hS, (by first | omega | assumption), (by first | omega | assumption), (fun q q1 q2 => by by_cases hq : q = j; (subst hq; exact isF_no p_ok p_i q1 c1 p_s c2); exact h2 q q1 (by omega))⟩
        · exact ⟨rfl, rfl, trivial⟩
    · -- no
      refine W.exit rfl ?_
      refine W.seq ?_
      refine W.reg ?_
      refine Wx.rd (v := .pointer (some ⟨g, 0, none⟩)) (rd_move rfl) rfl ?_
      refine Wx.rd (v := v) (rd_move rfl) rfl ?_
      refine Wx.rd (v := .int .i64 i) (rd_move rfl) rfl ?_
      refine Wx.rd (v := .int .i64 (i + 1)) (rd_add rfl rfl (in_i64 (by omega) (by omega))) rfl ?_
      refine Wx.rd (v := .int .i64 n) (rd_move rfl) rfl ?_
      refine Wx.callB (run_callF Tryd.call69 rfl) (IH (ob := (ob)) (in_i64 (by omega) (by omega)) (in_i64 (by omega) (by omega)) (by omega) (by omega) (by omega) (by omega) p_ok p_l (by omega) hG ((hS.front 1 rfl).front 1 rfl) (by omega)) rfl ?_
      rintro r_25 w_26 ⟨_, rfl, hS⟩
      have hS : St _ _ w_26 (.row (tP (tI .i64) (tI .i64)) 58 r_25 (ys ++ firstP (fitR s) (i + 1) n) :: .box g 94 (tabC s T) :: ob) := hS
      refine Wx.rd (v := r_25) (rd_assign rfl) rfl ?_
      refine Wx.nil ?_
      exact W.ret ⟨r_25, ResIs.one, _, rfl, hS.spell (ys' := ys ++ firstP (fitR s) i n) 0 rfl (by rw [firstP_none (by omega) (fun q q1 q2 => h2 q q1 (by omega))])⟩

theorem F21 {rim : ByteArray} {w : World} (s_rim : rim.size ≤ maxLen) (hG : Laid w) : Calls Tryd.prog 21 #[.string rim] w (Ret w (fun r _ => r = .tuple #[.int .i64 (mostV rim), .int .i64 (rimE rim)])) := by
  have hS := St.start0 w
  refine enterR Tryd.func21 rfl Tryd.ntmps21 Tryd.results21 rfl ?_
  refine W.seq ?_
  refine W.reg ?_
  refine Wx.rd (v := .int .i64 0) (rd_assign rfl) rfl ?_
  refine Wx.rd (v := .int .i64 0) (rd_assign rfl) rfl ?_
  refine Wx.nil ?_
  refine W.seq ?_
  refine W.seq ?_
  refine W.reg ?_
  refine Wx.rd (v := .string rim) (rd_move rfl) rfl ?_
  refine Wx.callF (run_callF Tryd.call17 rfl) (F17 (by first | assumption | (simp only [maxLen]; omega) | (simp only [ByteArray.size_extract, ByteArray.size_append, maxLen] at *; omega) | decide)) rfl ?_
  rintro r_1 w_2 hx_3 rfl
  have hS := hS.ext hx_3
  refine Wx.rd (v := .int .i64 (rimE rim)) (rd_assign rfl) rfl ?_
  refine Wx.nil ?_
  refine W.seq ?_
  refine W.reg ?_
  refine Wx.rd (v := .int .i64 (rimE rim)) (rd_move rfl) rfl ?_
  refine Wx.rd (v := .bool (decide ((rimE rim) ≠ 0))) (rd_neq rfl rfl) rfl ?_
  refine Wx.nil ?_
  refine W.condD rfl (fun c0 => ?_) (fun c0 => ?_)
  · -- yes
    refine W.seq ?_
    refine W.reg ?_
    refine Wx.rd (v := .int .i64 (rimE rim)) (rd_move rfl) rfl ?_
    refine Wx.rd (v := .int .i64 0) (rd_assign rfl) rfl ?_
    refine Wx.rd (v := .int .i64 (rimE rim)) (rd_assign rfl) rfl ?_
    refine Wx.nil ?_
    have e0_0 : (mostV rim) = (0 : Int) := by rw [mostV, if_neg c0]
    exact W.ret ⟨.tuple #[.int .i64 0, .int .i64 (rimE rim)], ResIs.two, hS.bel, (by rw [e0_0])⟩
  · -- no
    have hr0 : rimE rim = 0 := by omega
    obtain ⟨hr1, hr2⟩ := rimE_ok hr0
    refine W.skip ?_
    refine W.seq ?_
    refine W.reg ?_
    refine Wx.rd (v := .string rim) (rd_move rfl) rfl ?_
    refine Wx.callF (run_callF Tryd.call66 rfl) (F66 (by first | assumption | (simp only [maxLen]; omega) | (simp only [ByteArray.size_extract, ByteArray.size_append, maxLen] at *; omega) | decide) (by omega) hr2 (hG.ext hS.bel)) rfl ?_
    rintro r_4 w_5 hx_6 ⟨g_tb, T_tb, rfl, hg_7, hh_8, hT_tb⟩
    have hS := hS.pushBox hx_6 hg_7 hh_8
    have hB_tb := hT_tb.1
    refine Wx.callF (run_callF Tryd.call67 rfl) (F67 (boxAt hS 0 rfl (Ext.refl _)) hB_tb (by omega)) rfl ?_
    rintro r_9 w_10 hx_11 rfl
    have hS := hS.ext hx_11
    refine Wx.rd (v := .int .i64 ((T_tb 0 rim.size).1)) (rd_fieldV rfl ftHd_82_0 Tryd.isAgg3 rfl) rfl ?_
    refine Wx.rd (v := .int .i64 ((T_tb 0 rim.size).1)) (rd_assign rfl) rfl ?_
    refine Wx.rd (v := .int .i64 0) (rd_assign rfl) rfl ?_
    refine Wx.nil ?_
    have e1_0 : (mostV rim) = ((T_tb 0 rim.size).1 : Int) := by rw [mostV, if_pos hr0, hT_tb.all]
    have e1_1 : (rimE rim) = (0 : Int) := by exact hr0
    exact W.ret ⟨.tuple #[.int .i64 ((T_tb 0 rim.size).1), .int .i64 0], ResIs.two, hS.bel, (by rw [e1_0, e1_1])⟩

theorem F23 {rim : ByteArray} {w : World} (s_rim : rim.size ≤ maxLen) (hG : Laid w) : Calls Tryd.prog 23 #[.string rim] w (Ret w (fun r _ => r = .tuple #[.int .i64 (countV rim), .int .i64 (rimE rim)])) := by
  have hS := St.start0 w
  refine enterR Tryd.func23 rfl Tryd.ntmps23 Tryd.results23 rfl ?_
  refine W.seq ?_
  refine W.reg ?_
  refine Wx.rd (v := .int .i64 0) (rd_assign rfl) rfl ?_
  refine Wx.rd (v := .int .i64 0) (rd_assign rfl) rfl ?_
  refine Wx.nil ?_
  refine W.seq ?_
  refine W.seq ?_
  refine W.reg ?_
  refine Wx.rd (v := .string rim) (rd_move rfl) rfl ?_
  refine Wx.callF (run_callF Tryd.call17 rfl) (F17 (by first | assumption | (simp only [maxLen]; omega) | (simp only [ByteArray.size_extract, ByteArray.size_append, maxLen] at *; omega) | decide)) rfl ?_
  rintro r_1 w_2 hx_3 rfl
  have hS := hS.ext hx_3
  refine Wx.rd (v := .int .i64 (rimE rim)) (rd_assign rfl) rfl ?_
  refine Wx.nil ?_
  refine W.seq ?_
  refine W.reg ?_
  refine Wx.rd (v := .int .i64 (rimE rim)) (rd_move rfl) rfl ?_
  refine Wx.rd (v := .bool (decide ((rimE rim) ≠ 0))) (rd_neq rfl rfl) rfl ?_
  refine Wx.nil ?_
  refine W.condD rfl (fun c0 => ?_) (fun c0 => ?_)
  · -- yes
    refine W.seq ?_
    refine W.reg ?_
    refine Wx.rd (v := .int .i64 (rimE rim)) (rd_move rfl) rfl ?_
    refine Wx.rd (v := .int .i64 0) (rd_assign rfl) rfl ?_
    refine Wx.rd (v := .int .i64 (rimE rim)) (rd_assign rfl) rfl ?_
    refine Wx.nil ?_
    have e0_0 : (countV rim) = (0 : Int) := by rw [countV, if_neg c0]
    exact W.ret ⟨.tuple #[.int .i64 0, .int .i64 (rimE rim)], ResIs.two, hS.bel, (by rw [e0_0])⟩
  · -- no
    have hr0 : rimE rim = 0 := by omega
    obtain ⟨hr1, hr2⟩ := rimE_ok hr0
    refine W.skip ?_
    refine W.seq ?_
    refine W.reg ?_
    refine Wx.rd (v := .string rim) (rd_move rfl) rfl ?_
    refine Wx.callF (run_callF Tryd.call66 rfl) (F66 (by first | assumption | (simp only [maxLen]; omega) | (simp only [ByteArray.size_extract, ByteArray.size_append, maxLen] at *; omega) | decide) (by omega) hr2 (hG.ext hS.bel)) rfl ?_
    rintro r_4 w_5 hx_6 ⟨g_tb, T_tb, rfl, hg_7, hh_8, hT_tb⟩
    have hS := hS.pushBox hx_6 hg_7 hh_8
    have hB_tb := hT_tb.1
    refine Wx.callF (run_callF Tryd.call67 rfl) (F67 (boxAt hS 0 rfl (Ext.refl _)) hB_tb (by omega)) rfl ?_
    rintro r_9 w_10 hx_11 rfl
    have hS := hS.ext hx_11
    refine Wx.rd (v := .int .i64 ((T_tb 0 rim.size).2)) (rd_fieldV rfl ftHd_82_1 Tryd.isAgg3 rfl) rfl ?_
    refine Wx.rd (v := .int .i64 ((T_tb 0 rim.size).2)) (rd_assign rfl) rfl ?_
    refine Wx.rd (v := .int .i64 0) (rd_assign rfl) rfl ?_
    refine Wx.nil ?_
    have e1_0 : (countV rim) = ((T_tb 0 rim.size).2 : Int) := by rw [countV, if_pos hr0, hT_tb.all]
    have e1_1 : (rimE rim) = (0 : Int) := by exact hr0
    exact W.ret ⟨.tuple #[.int .i64 ((T_tb 0 rim.size).2), .int .i64 0], ResIs.two, hS.bel, (by rw [e1_0, e1_1])⟩

theorem F25 {rim : ByteArray} {w : World} (s_rim : rim.size ≤ maxLen) (hG : Laid w) : Calls Tryd.prog 25 #[.string rim] w (Ret w (fun r w' => ∃ rv, r = .tuple #[rv, .int .i64 (rimE rim)] ∧ Fresh (tP (tI .i64) (tI .i64)) 58 (firstV rim) rv w.heap.size w')) := by
  have hS := St.start0 w
  refine enterR Tryd.func25 rfl Tryd.ntmps25 Tryd.results25 rfl ?_
  refine W.seq ?_
  refine W.reg ?_
  refine Wx.rd (v := (.slice none 0 0)) (rd_assign rfl) rfl ?_
  refine Wx.rd (v := .int .i64 0) (rd_assign rfl) rfl ?_
  refine Wx.nil ?_
  refine W.seq ?_
  refine W.seq ?_
  refine W.reg ?_
  refine Wx.rd (v := .string rim) (rd_move rfl) rfl ?_
  refine Wx.callF (run_callF Tryd.call17 rfl) (F17 (by first | assumption | (simp only [maxLen]; omega) | (simp only [ByteArray.size_extract, ByteArray.size_append, maxLen] at *; omega) | decide)) rfl ?_
  rintro r_1 w_2 hx_3 rfl
  have hS := hS.ext hx_3
  refine Wx.rd (v := .int .i64 (rimE rim)) (rd_assign rfl) rfl ?_
  refine Wx.nil ?_
  refine W.seq ?_
  refine W.reg ?_
  refine Wx.rd (v := .int .i64 (rimE rim)) (rd_move rfl) rfl ?_
  refine Wx.rd (v := .bool (decide ((rimE rim) ≠ 0))) (rd_neq rfl rfl) rfl ?_
  refine Wx.nil ?_
  refine W.condD rfl (fun c0 => ?_) (fun c0 => ?_)
  · -- yes
    refine W.seq ?_
    refine W.reg ?_
    refine Wx.rd (v := .int .i64 (rimE rim)) (rd_move rfl) rfl ?_
    refine Wx.rd (v := (.slice none 0 0)) (rd_assign rfl) rfl ?_
    refine Wx.rd (v := .int .i64 (rimE rim)) (rd_assign rfl) rfl ?_
    refine Wx.nil ?_
    have e0_0 : firstV rim = [] := by rw [firstV, if_neg c0]
    exact W.ret ⟨.tuple #[(.slice none 0 0), .int .i64 (rimE rim)], ResIs.two, hS.bel, ⟨(.slice none 0 0), rfl, (by rw [e0_0]; exact ((hS.addNil (tP (tI .i64) (tI .i64)) 58).fr 0 rfl flat_i2))⟩⟩
  · -- no
    have hr0 : rimE rim = 0 := by omega
    obtain ⟨hr1, hr2⟩ := rimE_ok hr0
    refine W.skip ?_
    refine W.seq ?_
    refine W.reg ?_
    refine Wx.rd (v := .string rim) (rd_move rfl) rfl ?_
    refine Wx.callF (run_callF Tryd.call66 rfl) (F66 (by first | assumption | (simp only [maxLen]; omega) | (simp only [ByteArray.size_extract, ByteArray.size_append, maxLen] at *; omega) | decide) (by omega) hr2 (hG.ext hS.bel)) rfl ?_
    rintro r_4 w_5 hx_6 ⟨g_tb, T_tb, rfl, hg_7, hh_8, hT_tb⟩
    have hS := hS.pushBox hx_6 hg_7 hh_8
    have hB_tb := hT_tb.1
    refine Wx.rd (v := .string rim) (rd_move rfl) rfl ?_
    refine Wx.rd (v := .int .i64 (rim.size : Int)) (rd_lenS rfl Tryd.underlying9) rfl ?_
    have hS := hS.addNil (tP (tI .i64) (tI .i64)) 58
    refine Wx.callB (run_callF Tryd.call69 rfl) (F69 _ (ob := []) (in_i64 (by omega) (by omega)) (in_i64 (by omega) (by omega)) (by omega) (by omega) (by omega) (by show (0 : Int) + _ - 0 ≤ 100; omega) hT_tb hr2 (by omega) hG ((hS.front 1 rfl).front 1 rfl) (Nat.lt_succ_self _)) rfl ?_
    rintro r_9 w_10 ⟨_, rfl, hS⟩
    have hS : St _ _ w_10 [.row (tP (tI .i64) (tI .i64)) 58 r_9 ([] ++ firstP (fitR rim) (0 : Int) (rim.size : Int)), .box g_tb 94 (tabC rim T_tb)] := hS
    refine Wx.rd (v := r_9) (rd_assign rfl) rfl ?_
    refine Wx.rd (v := .int .i64 0) (rd_assign rfl) rfl ?_
    refine Wx.nil ?_
    have e1_0 : firstV rim = [] ++ firstP (fitR rim) (0 : Int) (rim.size : Int) := by rw [firstV, if_pos hr0]; rfl
    have e1_1 : (rimE rim) = (0 : Int) := by exact hr0
    exact W.ret ⟨.tuple #[r_9, .int .i64 0], ResIs.two, hS.bel, ⟨r_9, (by rw [e1_1]), (by rw [e1_0]; exact (hS.fr 0 rfl flat_i2))⟩⟩
end Go.Proofs.YtokdjjebnomciaaDoor

namespace Go.Wk
open Go.RowKit Go.Lib
set_option linter.unusedVariables false
section
variable {P : Program} {σ : Fr} {w : World} {z lo : Operand} {ty T : TypeId}
theorem rd_tailP {g len c sz : Nat} {e : TypeId} {m : Int} {kk : IntKind} (hu : P.underlying T = some (.slice e)) (hsz : ∀ w', (sizeOf e).run P w' = .ok sz w') (hx : ev σ z = .slice (some ⟨g, 0, none⟩) len c) (hl : ev σ lo = .int kk m) (h0 : 0 ≤ m) (h1 : m < len) (h2 : len ≤ c) :
    Rd P σ (.slice T z (some lo) none none) ty w (.slice (some ⟨g, m.toNat * sz, none⟩) (len - m.toNat) (c - m.toNat)) := by
  have := rd_tailO (P := P) (ty := ty) (w := w) hu hsz hx hl h0 (Int.le_of_lt h1) h2
  rwa [if_neg (by omega)] at this
end
end Go.Wk

namespace Go.Proofs.YtokdjjebnomciaaDoor
open Go.Wk Go.RowKit Go.Lib
set_option linter.unusedVariables false
set_option linter.unusedSimpArgs false
theorem mixedHj_ : Tryd.prog.follows .mixedOrders = true := by kernel_rfl
theorem foHj_94_1 : fldOff Tryd.prog 94 1 = some 1 := by kernel_rfl
theorem foHj_82_1 : fldOff Tryd.prog 82 1 = some 1 := by kernel_rfl
theorem ftHj_82_1 : fldTy Tryd.prog 82 1 = some (3, 1) := by kernel_rfl
theorem elHj_22 : ElemI Tryd.prog 22 58 (.agg #[.int .i64 0, .int .i64 0]) 2 16 := ElemI.of Tryd.underlying22 (by kernel_rfl) (by first | rfl | kernel_rfl) (by decide)

theorem F71 {a : Int} {b : Int} {gt : Nat} {g : Nat} {rim : ByteArray} {T : Tab} {gr : Nat} {w : World} (i_a : InK .i64 a) (i_b : InK .i64 b) (x_g : w.heap[g]? = some (.cells (tabC rim T).toArray 94 (0, 0))) (x_gt : w.heap[gt]? = some (.cells #[.pointer (some ⟨g, 0, none⟩)] 83 (0, 0))) (s_rim : rim.size ≤ maxLen) (x_gr : w.heap[gr]? = some (.cells #[.string rim] 9 (0, 0))) (p_12 : (rim.size : Int) ≤ 12) (p_l : Lets rim) (p_ok : TabOK rim T) (p_a : 0 ≤ a) (p_b : a < b) (p_s : b < rim.size) (hG : Laid w) : Calls Tryd.prog 71 #[.agg #[.int .i64 a, .int .i64 b], .pointer (some ⟨gt, 0, none⟩), .pointer (some ⟨gr, 0, none⟩)] w (Ret w (fun r _ => r = .bool (!frcN rim (a, b)))) := by
  have b_b := bd_i64 i_b
  have b_a := bd_i64 i_a
  have hB := p_ok.1
  have p_T := p_ok.1
  have hcs := cut_size (s := rim) p_a p_b p_s
  have hcb := allV_bd (s := cutS rim a b) (by omega)
  have hml := mul_bd (hB (a + 1) b).2.2.1 (hB (a + 1) b).2.2.2 hcb.2.2.1 hcb.2.2.2
  have hcs2 : (((rim.extract 0 a.toNat) ++ (rim.extract (b + 1).toNat rim.size)).size : Int) = rim.size - (b - a + 1) := hcs
  have hS := St.start0 w
  refine enterR Tryd.func71 rfl Tryd.ntmps71 Tryd.results71 rfl ?_
  refine W.seq ?_
  refine W.reg ?_
  refine Wx.box (cs := [.int .i64 a, .int .i64 b]) hS rfl rfl rfl (fun g_1 w_2 hx_4 hb_3 hS => ?_)
  refine Wx.rd (v := .bool false) (rd_assign rfl) rfl ?_
  refine Wx.nil ?_
  refine W.seq ?_
  refine W.regH mixedHj_ (fun w_5 hx_6 => ?_)
  have h0 := hS
  have hS := (St.start _ _ h0.fb_lt).ext hx_6
  refine Wh.rd (v := .pointer (some ⟨g, 0, none⟩)) 0 rfl (by kernel_rfl) hS.bel (rd_loadO x_gt h0.bel rfl rfl Tryd.isAgg83) rfl ?_
  refine Wh.rd (v := .pointer (some ⟨g_1, 0, none⟩)) 1 rfl (by kernel_rfl) hS.bel (rd_indexArr (n := 0) rfl rfl Tryd.underlying58 Tryd.sizeOf3 (by decide) (by decide)) rfl ?_
  refine Wh.rd (v := .int .i64 a) 2 rfl (by kernel_rfl) hS.bel (rd_loadX h0 0 rfl rfl rfl Tryd.isAgg3) rfl ?_
  refine Wh.rd (v := .int .i64 (a + 1)) 3 rfl (by kernel_rfl) hS.bel (rd_add rfl rfl (in_i64 (by omega) (by omega))) rfl ?_
  refine Wh.rd (v := .pointer (some ⟨g_1, 1, none⟩)) 4 rfl (by kernel_rfl) hS.bel (rd_indexArr (n := 1) rfl rfl Tryd.underlying58 Tryd.sizeOf3 (by decide) (by decide)) rfl ?_
  refine Wh.rd (v := .int .i64 b) 5 rfl (by kernel_rfl) hS.bel (rd_loadX h0 0 rfl rfl rfl Tryd.isAgg3) rfl ?_
  refine Wh.rd (v := .pointer (some ⟨g, 0, none⟩)) 6 rfl (by kernel_rfl) hS.bel (rd_nilCheck rfl rfl) rfl ?_
  refine Wh.rd (v := .pointer (some ⟨g, 1, none⟩)) 7 rfl (by kernel_rfl) hS.bel (rd_fieldAddr (o := 0) rfl foHj_94_1) rfl ?_
  refine Wh.rd (v := .pointer (some ⟨g, 1 + (a + 1).toNat * 26, none⟩)) 8 rfl (by kernel_rfl) hS.bel (rd_indexArr (o := 1) rfl rfl Tryd.underlying92 Tryd.sizeOf91 (by omega) (by omega)) rfl ?_
  refine Wh.rd (v := .pointer (some ⟨g, 1 + (a + 1).toNat * 26 + b.toNat * 2, none⟩)) 9 rfl (by kernel_rfl) hS.bel (rd_indexArr (o := 1 + (a + 1).toNat * 26) rfl rfl Tryd.underlying91 Tryd.sizeOf82 (by omega) (by omega)) rfl ?_
  refine Wh.rd (v := .agg #[.int .i64 ((T (a + 1) b).1), .int .i64 ((T (a + 1) b).2)]) 10 rfl (by kernel_rfl) hS.bel (rd_tabP (fun _ q => extAt x_g (Ext.trans h0.bel q)) rfl (by omega) (by omega) (by omega) (by omega) Tryd.isAgg82 Tryd.sizeOf82) rfl ?_
  have bt_7 := p_T (a + 1) b
  refine Wh.br [11] (by kernel_rfl) (by decide) ⟨⟨_, rfl, ?_⟩, trivial⟩
  refine Wx.alloc (cs := [.int .i64 0, .int .i64 0]) hS Tryd.zeroValue82 rfl rfl (fun g_8 w_9 hx_11 hb_10 hS => ?_)
  refine Wx.nil ⟨hS.bel, ?_⟩
  refine Wh.br [12] (by kernel_rfl) (by decide) ⟨⟨_, rfl, ?_⟩, trivial⟩
  refine Wx.storeX (cs' := [.int .i64 ((T (a + 1) b).1), .int .i64 ((T (a + 1) b).2)]) (ds := [.int .i64 ((T (a + 1) b).1), .int .i64 ((T (a + 1) b).2)]) hS 0 rfl rfl rfl rfl Tryd.sizeOf82 (Nat.le_of_ble_eq_true rfl) (one_cons rfl (one_cons rfl one_nil)) rfl (fun w_12 hz_13 hS => ?_)
  refine Wx.nil ⟨hS.bel, ?_⟩
  refine Wh.done (by kernel_rfl) ?_
  have hS := h0.merge hS
  refine W.seq ?_
  refine W.regH mixedHj_ (fun w_14 hx_15 => ?_)
  have h0 := hS
  have hS := (St.start _ _ h0.fb_lt).ext hx_15
  refine Wh.rd (v := .string rim) 0 rfl (by kernel_rfl) hS.bel (rd_loadO x_gr h0.bel rfl rfl Tryd.isAgg9) rfl ?_
  refine Wh.rd (v := .pointer (some ⟨g_1, 0, none⟩)) 1 rfl (by kernel_rfl) hS.bel (rd_indexArr (n := 0) rfl rfl Tryd.underlying58 Tryd.sizeOf3 (by decide) (by decide)) rfl ?_
  refine Wh.rd (v := .int .i64 a) 2 rfl (by kernel_rfl) hS.bel (rd_loadX h0 1 rfl rfl rfl Tryd.isAgg3) rfl ?_
  refine Wh.rd (v := .string ((rim).extract 0 a.toNat)) 3 rfl (by kernel_rfl) hS.bel (rd_sliceS_H Tryd.underlying9 rfl rfl (by omega) (by omega)) rfl ?_
  refine Wh.rd (v := .string rim) 4 rfl (by kernel_rfl) hS.bel (rd_loadO x_gr h0.bel rfl rfl Tryd.isAgg9) rfl ?_
  refine Wh.rd (v := .pointer (some ⟨g_1, 1, none⟩)) 5 rfl (by kernel_rfl) hS.bel (rd_indexArr (n := 1) rfl rfl Tryd.underlying58 Tryd.sizeOf3 (by decide) (by decide)) rfl ?_
  refine Wh.rd (v := .int .i64 b) 6 rfl (by kernel_rfl) hS.bel (rd_loadX h0 1 rfl rfl rfl Tryd.isAgg3) rfl ?_
  refine Wh.rd (v := .int .i64 (b + 1)) 7 rfl (by kernel_rfl) hS.bel (rd_add rfl rfl (in_i64 (by omega) (by omega))) rfl ?_
  refine Wh.rd (v := .string ((rim).extract (b + 1).toNat rim.size)) 8 rfl (by kernel_rfl) hS.bel (rd_sliceS_L Tryd.underlying9 rfl rfl (by omega) (by omega)) rfl ?_
  refine Wh.rd (v := .string (((rim).extract 0 a.toNat) ++ ((rim).extract (b + 1).toNat rim.size))) 9 rfl (by kernel_rfl) hS.bel (rd_addS rfl rfl (by rw [ByteArray.size_extract, ByteArray.size_extract]; omega)) rfl ?_
  refine Wh.br [10, 12] (by kernel_rfl) (by decide) ⟨⟨_, rfl, ?_⟩, ⟨_, rfl, ?_⟩, trivial⟩
  · -- operation 10
    refine Wx.callF (run_callF Tryd.call66 rfl) (F66 (by first | assumption | (simp only [maxLen]; omega) | (simp only [ByteArray.size_extract, ByteArray.size_append, maxLen] at *; omega) | decide) (by omega) (p_l.cut a b) (hG.ext (Ext.trans h0.bel hS.bel))) rfl ?_
    rintro r_16 w_17 hx_18 ⟨g_tc, T_tc, rfl, hg_19, hh_20, hT_tc⟩
    have hS := hS.pushBox hx_18 hg_19 hh_20
    have hB_tc := hT_tc.1
    have hca := hT_tc.all
    refine Wx.nil ⟨hS.bel, ?_⟩
    refine Wh.br [11, 12] (by kernel_rfl) (by decide) ⟨⟨_, rfl, ?_⟩, ⟨_, rfl, ?_⟩, trivial⟩
    · -- operation 11
      refine Wx.callF (run_callF Tryd.call67 rfl) (F67 (boxAt hS 0 rfl (Ext.refl _)) hB_tc (by omega)) rfl ?_
      rintro r_21 w_22 hx_23 rfl
      have hS := hS.ext hx_23
      refine Wx.nil ⟨hS.bel, ?_⟩
      refine Wh.br [12] (by kernel_rfl) (by decide) ⟨⟨_, rfl, ?_⟩, trivial⟩
      refine Wx.alloc (cs := [.int .i64 0, .int .i64 0]) hS Tryd.zeroValue82 rfl rfl (fun g_24 w_25 hx_27 hb_26 hS => ?_)
      refine Wx.nil ⟨hS.bel, ?_⟩
      refine Wh.br [13] (by kernel_rfl) (by decide) ⟨⟨_, rfl, ?_⟩, trivial⟩
      refine Wx.storeX (cs' := [.int .i64 ((T_tc 0 (((rim).extract 0 a.toNat) ++ ((rim).extract (b + 1).toNat rim.size)).size).1), .int .i64 ((T_tc 0 (((rim).extract 0 a.toNat) ++ ((rim).extract (b + 1).toNat rim.size)).size).2)]) (ds := [.int .i64 ((T_tc 0 (((rim).extract 0 a.toNat) ++ ((rim).extract (b + 1).toNat rim.size)).size).1), .int .i64 ((T_tc 0 (((rim).extract 0 a.toNat) ++ ((rim).extract (b + 1).toNat rim.size)).size).2)]) hS 0 rfl rfl rfl rfl Tryd.sizeOf82 (Nat.le_of_ble_eq_true rfl) (one_cons rfl (one_cons rfl one_nil)) rfl (fun w_28 hz_29 hS => ?_)
      refine Wx.nil ⟨hS.bel, ?_⟩
      refine Wh.done (by kernel_rfl) ?_
      have hS := h0.merge hS
      refine W.seq ?_
      refine W.regQ mixedHj_ (by kernel_rfl) ?_
      refine Wx.rd (v := .pointer (some ⟨g_8, 1, none⟩)) (rd_fieldAddr rfl foHj_82_1) rfl ?_
      refine Wx.rd (v := .int .i64 ((T (a + 1) b).2)) (rd_loadX hS 2 rfl rfl rfl Tryd.isAgg3) rfl ?_
      refine Wx.rd (v := .pointer (some ⟨g_24, 1, none⟩)) (rd_fieldAddr rfl foHj_82_1) rfl ?_
      refine Wx.rd (v := .int .i64 ((T_tc 0 (((rim).extract 0 a.toNat) ++ ((rim).extract (b + 1).toNat rim.size)).size).2)) (rd_loadX hS 0 rfl rfl rfl Tryd.isAgg3) rfl ?_
      refine Wx.rd (v := .int .i64 (((T (a + 1) b).2) * ((T_tc 0 (((rim).extract 0 a.toNat) ++ ((rim).extract (b + 1).toNat rim.size)).size).2))) (rd_mul rfl rfl (by rw [hca]; exact in_i64 (by show -9223372036854775808 ≤ (T (a + 1) b).2 * (allV (cutS rim a b)).2; omega) (by show (T (a + 1) b).2 * (allV (cutS rim a b)).2 ≤ _; omega))) rfl ?_
      refine Wx.rd (v := .pointer (some ⟨g, 0, none⟩)) (rd_loadO x_gt hS.bel rfl rfl Tryd.isAgg83) rfl ?_
      refine Wx.callV (v := .agg #[.int .i64 ((T 0 rim.size).1), .int .i64 ((T 0 rim.size).2)]) (run_callF Tryd.call67 rfl) (fun w_30 hw_31 => (F67 (extAt x_g (Ext.trans hS.bel hw_31)) hB (by omega))) rfl ?_
      refine Wx.rd (v := .int .i64 ((T 0 rim.size).2)) (rd_fieldV rfl ftHj_82_1 Tryd.isAgg3 rfl) rfl ?_
      refine Wx.rd (v := .bool (decide ((((T (a + 1) b).2) * ((T_tc 0 (((rim).extract 0 a.toNat) ++ ((rim).extract (b + 1).toNat rim.size)).size).2)) ≠ ((T 0 rim.size).2)))) (rd_neq rfl rfl) rfl ?_
      refine Wx.rd (v := .bool (decide ((((T (a + 1) b).2) * ((T_tc 0 (((rim).extract 0 a.toNat) ++ ((rim).extract (b + 1).toNat rim.size)).size).2)) ≠ ((T 0 rim.size).2)))) (rd_assign rfl) rfl ?_
      refine Wx.nilQ (fun w_32 hx_33 => ?_)
      have hS := hS.ext hx_33
      have e0_0 : (!frcN rim (a, b)) = (decide ((((T (a + 1) b).2) * ((T_tc 0 (((rim).extract 0 a.toNat) ++ ((rim).extract (b + 1).toNat rim.size)).size).2)) ≠ ((T 0 rim.size).2))) := by rw [frcN, p_ok.all, hca, p_ok.2 (a + 1) b (by omega) (by omega) (by omega)]; exact decide_not.symm
      exact W.ret ⟨.bool (decide ((((T (a + 1) b).2) * ((T_tc 0 (((rim).extract 0 a.toNat) ++ ((rim).extract (b + 1).toNat rim.size)).size).2)) ≠ ((T 0 rim.size).2))), ResIs.one, hS.bel, (by rw [e0_0])⟩
    · -- operation 12
      refine Wx.alloc (cs := [.int .i64 0, .int .i64 0]) hS Tryd.zeroValue82 rfl rfl (fun g_34 w_35 hx_37 hb_36 hS => ?_)
      refine Wx.nil ⟨hS.bel, ?_⟩
      refine Wh.br [11] (by kernel_rfl) (by decide) ⟨⟨_, rfl, ?_⟩, trivial⟩
      refine Wx.callF (run_callF Tryd.call67 rfl) (F67 (boxAt hS 1 rfl (Ext.refl _)) hB_tc (by omega)) rfl ?_
      rintro r_38 w_39 hx_40 rfl
      have hS := hS.ext hx_40
      refine Wx.nil ⟨hS.bel, ?_⟩
      refine Wh.br [13] (by kernel_rfl) (by decide) ⟨⟨_, rfl, ?_⟩, trivial⟩
      refine Wx.storeX (cs' := [.int .i64 ((T_tc 0 (((rim).extract 0 a.toNat) ++ ((rim).extract (b + 1).toNat rim.size)).size).1), .int .i64 ((T_tc 0 (((rim).extract 0 a.toNat) ++ ((rim).extract (b + 1).toNat rim.size)).size).2)]) (ds := [.int .i64 ((T_tc 0 (((rim).extract 0 a.toNat) ++ ((rim).extract (b + 1).toNat rim.size)).size).1), .int .i64 ((T_tc 0 (((rim).extract 0 a.toNat) ++ ((rim).extract (b + 1).toNat rim.size)).size).2)]) hS 0 rfl rfl rfl rfl Tryd.sizeOf82 (Nat.le_of_ble_eq_true rfl) (one_cons rfl (one_cons rfl one_nil)) rfl (fun w_41 hz_42 hS => ?_)
      refine Wx.nil ⟨hS.bel, ?_⟩
      refine Wh.done (by kernel_rfl) ?_
      have hS := h0.merge hS
      refine W.seq ?_
      refine W.regQ mixedHj_ (by kernel_rfl) ?_
      refine Wx.rd (v := .pointer (some ⟨g_8, 1, none⟩)) (rd_fieldAddr rfl foHj_82_1) rfl ?_
      refine Wx.rd (v := .int .i64 ((T (a + 1) b).2)) (rd_loadX hS 2 rfl rfl rfl Tryd.isAgg3) rfl ?_
      refine Wx.rd (v := .pointer (some ⟨g_34, 1, none⟩)) (rd_fieldAddr rfl foHj_82_1) rfl ?_
      refine Wx.rd (v := .int .i64 ((T_tc 0 (((rim).extract 0 a.toNat) ++ ((rim).extract (b + 1).toNat rim.size)).size).2)) (rd_loadX hS 0 rfl rfl rfl Tryd.isAgg3) rfl ?_
      refine Wx.rd (v := .int .i64 (((T (a + 1) b).2) * ((T_tc 0 (((rim).extract 0 a.toNat) ++ ((rim).extract (b + 1).toNat rim.size)).size).2))) (rd_mul rfl rfl (by rw [hca]; exact in_i64 (by show -9223372036854775808 ≤ (T (a + 1) b).2 * (allV (cutS rim a b)).2; omega) (by show (T (a + 1) b).2 * (allV (cutS rim a b)).2 ≤ _; omega))) rfl ?_
      refine Wx.rd (v := .pointer (some ⟨g, 0, none⟩)) (rd_loadO x_gt hS.bel rfl rfl Tryd.isAgg83) rfl ?_
      refine Wx.callV (v := .agg #[.int .i64 ((T 0 rim.size).1), .int .i64 ((T 0 rim.size).2)]) (run_callF Tryd.call67 rfl) (fun w_43 hw_44 => (F67 (extAt x_g (Ext.trans hS.bel hw_44)) hB (by omega))) rfl ?_
      refine Wx.rd (v := .int .i64 ((T 0 rim.size).2)) (rd_fieldV rfl ftHj_82_1 Tryd.isAgg3 rfl) rfl ?_
      refine Wx.rd (v := .bool (decide ((((T (a + 1) b).2) * ((T_tc 0 (((rim).extract 0 a.toNat) ++ ((rim).extract (b + 1).toNat rim.size)).size).2)) ≠ ((T 0 rim.size).2)))) (rd_neq rfl rfl) rfl ?_
      refine Wx.rd (v := .bool (decide ((((T (a + 1) b).2) * ((T_tc 0 (((rim).extract 0 a.toNat) ++ ((rim).extract (b + 1).toNat rim.size)).size).2)) ≠ ((T 0 rim.size).2)))) (rd_assign rfl) rfl ?_
      refine Wx.nilQ (fun w_45 hx_46 => ?_)
      have hS := hS.ext hx_46
      have e0_0 : (!frcN rim (a, b)) = (decide ((((T (a + 1) b).2) * ((T_tc 0 (((rim).extract 0 a.toNat) ++ ((rim).extract (b + 1).toNat rim.size)).size).2)) ≠ ((T 0 rim.size).2))) := by rw [frcN, p_ok.all, hca, p_ok.2 (a + 1) b (by omega) (by omega) (by omega)]; exact decide_not.symm
      exact W.ret ⟨.bool (decide ((((T (a + 1) b).2) * ((T_tc 0 (((rim).extract 0 a.toNat) ++ ((rim).extract (b + 1).toNat rim.size)).size).2)) ≠ ((T 0 rim.size).2))), ResIs.one, hS.bel, (by rw [e0_0])⟩
  · -- operation 12
    refine Wx.alloc (cs := [.int .i64 0, .int .i64 0]) hS Tryd.zeroValue82 rfl rfl (fun g_47 w_48 hx_50 hb_49 hS => ?_)
    refine Wx.nil ⟨hS.bel, ?_⟩
    refine Wh.br [10] (by kernel_rfl) (by decide) ⟨⟨_, rfl, ?_⟩, trivial⟩
    refine Wx.callF (run_callF Tryd.call66 rfl) (F66 (by first | assumption | (simp only [maxLen]; omega) | (simp only [ByteArray.size_extract, ByteArray.size_append, maxLen] at *; omega) | decide) (by omega) (p_l.cut a b) (hG.ext (Ext.trans h0.bel hS.bel))) rfl ?_
    rintro r_51 w_52 hx_53 ⟨g_tc, T_tc, rfl, hg_54, hh_55, hT_tc⟩
    have hS := hS.pushBox hx_53 hg_54 hh_55
    have hB_tc := hT_tc.1
    have hca := hT_tc.all
    refine Wx.nil ⟨hS.bel, ?_⟩
    refine Wh.br [11] (by kernel_rfl) (by decide) ⟨⟨_, rfl, ?_⟩, trivial⟩
    refine Wx.callF (run_callF Tryd.call67 rfl) (F67 (boxAt hS 0 rfl (Ext.refl _)) hB_tc (by omega)) rfl ?_
    rintro r_56 w_57 hx_58 rfl
    have hS := hS.ext hx_58
    refine Wx.nil ⟨hS.bel, ?_⟩
    refine Wh.br [13] (by kernel_rfl) (by decide) ⟨⟨_, rfl, ?_⟩, trivial⟩
    refine Wx.storeX (cs' := [.int .i64 ((T_tc 0 (((rim).extract 0 a.toNat) ++ ((rim).extract (b + 1).toNat rim.size)).size).1), .int .i64 ((T_tc 0 (((rim).extract 0 a.toNat) ++ ((rim).extract (b + 1).toNat rim.size)).size).2)]) (ds := [.int .i64 ((T_tc 0 (((rim).extract 0 a.toNat) ++ ((rim).extract (b + 1).toNat rim.size)).size).1), .int .i64 ((T_tc 0 (((rim).extract 0 a.toNat) ++ ((rim).extract (b + 1).toNat rim.size)).size).2)]) hS 1 rfl rfl rfl rfl Tryd.sizeOf82 (Nat.le_of_ble_eq_true rfl) (one_cons rfl (one_cons rfl one_nil)) rfl (fun w_59 hz_60 hS => ?_)
    refine Wx.nil ⟨hS.bel, ?_⟩
    refine Wh.done (by kernel_rfl) ?_
    have hS := h0.merge hS
    refine W.seq ?_
    refine W.regQ mixedHj_ (by kernel_rfl) ?_
    refine Wx.rd (v := .pointer (some ⟨g_8, 1, none⟩)) (rd_fieldAddr rfl foHj_82_1) rfl ?_
    refine Wx.rd (v := .int .i64 ((T (a + 1) b).2)) (rd_loadX hS 2 rfl rfl rfl Tryd.isAgg3) rfl ?_
    refine Wx.rd (v := .pointer (some ⟨g_47, 1, none⟩)) (rd_fieldAddr rfl foHj_82_1) rfl ?_
    refine Wx.rd (v := .int .i64 ((T_tc 0 (((rim).extract 0 a.toNat) ++ ((rim).extract (b + 1).toNat rim.size)).size).2)) (rd_loadX hS 1 rfl rfl rfl Tryd.isAgg3) rfl ?_
    refine Wx.rd (v := .int .i64 (((T (a + 1) b).2) * ((T_tc 0 (((rim).extract 0 a.toNat) ++ ((rim).extract (b + 1).toNat rim.size)).size).2))) (rd_mul rfl rfl (by rw [hca]; exact in_i64 (by show -9223372036854775808 ≤ (T (a + 1) b).2 * (allV (cutS rim a b)).2; omega) (by show (T (a + 1) b).2 * (allV (cutS rim a b)).2 ≤ _; omega))) rfl ?_
    refine Wx.rd (v := .pointer (some ⟨g, 0, none⟩)) (rd_loadO x_gt hS.bel rfl rfl Tryd.isAgg83) rfl ?_
    refine Wx.callV (v := .agg #[.int .i64 ((T 0 rim.size).1), .int .i64 ((T 0 rim.size).2)]) (run_callF Tryd.call67 rfl) (fun w_61 hw_62 => (F67 (extAt x_g (Ext.trans hS.bel hw_62)) hB (by omega))) rfl ?_
    refine Wx.rd (v := .int .i64 ((T 0 rim.size).2)) (rd_fieldV rfl ftHj_82_1 Tryd.isAgg3 rfl) rfl ?_
    refine Wx.rd (v := .bool (decide ((((T (a + 1) b).2) * ((T_tc 0 (((rim).extract 0 a.toNat) ++ ((rim).extract (b + 1).toNat rim.size)).size).2)) ≠ ((T 0 rim.size).2)))) (rd_neq rfl rfl) rfl ?_
    refine Wx.rd (v := .bool (decide ((((T (a + 1) b).2) * ((T_tc 0 (((rim).extract 0 a.toNat) ++ ((rim).extract (b + 1).toNat rim.size)).size).2)) ≠ ((T 0 rim.size).2)))) (rd_assign rfl) rfl ?_
    refine Wx.nilQ (fun w_63 hx_64 => ?_)
    have hS := hS.ext hx_64
    have e0_0 : (!frcN rim (a, b)) = (decide ((((T (a + 1) b).2) * ((T_tc 0 (((rim).extract 0 a.toNat) ++ ((rim).extract (b + 1).toNat rim.size)).size).2)) ≠ ((T 0 rim.size).2))) := by rw [frcN, p_ok.all, hca, p_ok.2 (a + 1) b (by omega) (by omega) (by omega)]; exact decide_not.symm
    exact W.ret ⟨.bool (decide ((((T (a + 1) b).2) * ((T_tc 0 (((rim).extract 0 a.toNat) ++ ((rim).extract (b + 1).toNat rim.size)).size).2)) ≠ ((T 0 rim.size).2))), ResIs.one, hS.bel, (by rw [e0_0])⟩

theorem F93 {lv : Value} {l : List (Int × Int)} {Fr_lv : List (Option Nat)} {gt : Nat} {g : Nat} {rim : ByteArray} {T : Tab} {gr : Nat} {w : World} (h_lv : V (tSl (tP (tI .i64) (tI .i64))) l lv Fr_lv w) (x_g : w.heap[g]? = some (.cells (tabC rim T).toArray 94 (0, 0))) (x_gt : w.heap[gt]? = some (.cells #[.pointer (some ⟨g, 0, none⟩)] 83 (0, 0))) (s_rim : rim.size ≤ maxLen) (x_gr : w.heap[gr]? = some (.cells #[.string rim] 9 (0, 0))) (p_12 : (rim.size : Int) ≤ 12) (p_l : Lets rim) (p_ok : TabOK rim T) (p_in : ∀ x ∈ l, 0 ≤ x.1 ∧ x.1 < x.2 ∧ x.2 < rim.size) (hG : Laid w) : Calls Tryd.prog 93 #[lv, .func (.func 71) #[] #[.pointer (some ⟨gt, 0, none⟩), .pointer (some ⟨gr, 0, none⟩)]] w (Ret w (fun r _ => r = .int .i64 (idxF (frcN rim) l 0))) := by
  have a_lv := h_lv.any
  have l_lv := h_lv.len63
  have hS := St.start0 w
  refine enterR Tryd.func93 rfl Tryd.ntmps93 Tryd.results93 rfl ?_
  refine W.seq ?_
  refine W.reg ?_
  refine Wx.rd (v := .int .i64 0) (rd_assign rfl) rfl ?_
  refine Wx.nil ?_
  refine W.seq ?_
  refine W.seq ?_
  refine W.reg ?_
  refine Wx.rd (v := lv) (rd_move rfl) rfl ?_
  refine Wx.rd (v := .int .i64 (l.length : Int)) (rd_lenV rfl (hS.arg a_lv) Tryd.underlying22) rfl ?_
  refine Wx.rd (v := .int .i64 0) (rd_move rfl) rfl ?_
  refine Wx.nil ?_
  refine W.block ?_
  refine W.loop [4, 5, 8, 9, 10, 11, 12, 13, 14, 15, 16, 17, 18] (fun (k : Int) => [(8, .int .i64 k)]) (fun (k : Int) w' => St w [] w' [] ∧ 0 ≤ k ∧ k ≤ l.length ∧ idxF (frcN rim) (l.drop k.toNat) k = idxF (frcN rim) l 0) (fun (k : Int) => (l.length - k).toNat) 0 ⟨rfl, trivial⟩ ⟨hS, (by first | omega | simp), (by first | omega | simp), (rfl)⟩ ?_
  rintro k u_2 w_1 ⟨hS, h0, h1, h2⟩
  refine W.seq ?_
  refine W.reg ?_
  refine Wx.rd (v := .bool (decide (k < (l.length : Int)))) (rd_lss rfl rfl) rfl ?_
  refine Wx.nil ?_
  refine W.seq ?_
  refine W.condD rfl (fun c0 => ?_) (fun c0 => ?_)
  · -- yes
    have hin := p_in _ (ix_mem (d := (0, 0)) h0 c0)
    refine W.skip ?_
    refine W.seq ?_
    refine W.block ?_
    refine W.seq ?_
    refine W.reg ?_
    refine Wx.rd (v := .int .i64 k) (rd_move rfl) rfl ?_
    refine Wx.rd (v := .int .i64 k) (rd_assign rfl) rfl ?_
    refine Wx.nil ?_
    refine W.seq ?_
    refine W.reg ?_
    refine Wx.rd (v := .func (.func 71) #[] #[.pointer (some ⟨gt, 0, none⟩), .pointer (some ⟨gr, 0, none⟩)]) (rd_move rfl) rfl ?_
    refine Wx.rd (v := lv) (rd_move rfl) rfl ?_
    refine Wx.rd (v := .int .i64 k) (rd_move rfl) rfl ?_
    refine Wx.ex (rd_index (0, 0) (hS.arg a_lv) rfl rfl Tryd.underlying22 Tryd.sizeOf58 (by first | omega | (simp only [List.length_set, List.length_append, List.length_cons, List.length_nil, List.length_replicate]; omega)) (by first | omega | (simp only [List.length_set, List.length_append, List.length_cons, List.length_nil, List.length_replicate]; omega))) rfl (fun p_3 hp_4 => ?_)
    refine Wx.ex (rd_load hp_4 rfl Tryd.isAgg58 Tryd.sizeOf58) rfl (fun v_5 hv_6 => ?_)
    obtain ⟨rfl, bd_7, bd_8⟩ := hv_6.i2
    have bd_7 := bd_i64 bd_7
    have bd_8 := bd_i64 bd_8
    refine Wx.callF (run_callC (fs := []) (cs := [.pointer (some ⟨gt, 0, none⟩), .pointer (some ⟨gr, 0, none⟩)]) (vs := [.agg #[.int .i64 ((ix (0, 0) l k).1), .int .i64 ((ix (0, 0) l k).2)], .pointer (some ⟨gt, 0, none⟩), .pointer (some ⟨gr, 0, none⟩)]) Tryd.call71 rfl rfl) (F71 (in_i64 (by omega) (by omega)) (in_i64 (by omega) (by omega)) (extAt x_g hS.bel) (extAt x_gt hS.bel) (by first | assumption | (simp only [maxLen]; omega) | (simp only [ByteArray.size_extract, ByteArray.size_append, maxLen] at *; omega) | decide) (extAt x_gr hS.bel) (by omega) (by omega) (by omega) (by omega) (by omega) (by omega) (hG.ext hS.bel)) rfl ?_
    rintro r_9 w_10 hx_11 rfl
    have hS := hS.ext hx_11
    refine Wx.nil ?_
    refine W.cond rfl (fun c1 => ?_) (fun c1 => ?_)
    · -- yes
      try simp only [Bool.and_eq_true, Bool.or_eq_true, Bool.not_eq_true', Bool.and_eq_false_iff, Bool.or_eq_false_iff, Bool.not_eq_false', decide_eq_true_eq, decide_eq_false_iff_not, not_or, Bool.false_eq_true, Bool.true_eq_false, false_or, or_false, not_false_eq_true] at c1
      refine W.seq ?_
      refine W.reg ?_
      refine Wx.rd (v := .int .i64 k) (rd_move rfl) rfl ?_
      refine Wx.rd (v := .int .i64 k) (rd_assign rfl) rfl ?_
      refine Wx.nil ?_
      have e0_0 : (idxF (frcN rim) l 0) = (k : Int) := by exact idxF_no h0 c0 h2 c1
      exact W.ret ⟨.int .i64 k, ResIs.one, hS.bel, (by rw [e0_0])⟩
    · -- no
      try simp only [Bool.and_eq_true, Bool.or_eq_true, Bool.not_eq_true', Bool.and_eq_false_iff, Bool.or_eq_false_iff, Bool.not_eq_false', decide_eq_true_eq, decide_eq_false_iff_not, not_or, Bool.false_eq_true, Bool.true_eq_false, false_or, or_false, not_false_eq_true] at c1
      refine W.skip ?_
      refine W.reg ?_
      refine Wx.rd (v := .int .i64 (k + 1)) (rd_add rfl rfl (in_i64 (by omega) (by omega))) rfl ?_
      refine Wx.rd (v := .int .i64 (k + 1)) (rd_move rfl) rfl ?_
      refine Wx.nil ?_
      refine ⟨k + 1, (by show (l.length - (k + 1)).toNat < (l.length - k).toNat; omega), ?_, ?_, Out.look rfl Out.self⟩
      · exact ⟨hS, (by first | omega | assumption), (by first | omega | assumption), (idxF_yes h0 c0 h2 c1)⟩
      · exact ⟨rfl, trivial⟩
  · -- no
    refine W.exit rfl ?_
    refine W.seq ?_
    refine W.reg ?_
    refine Wx.rd (v := .int .i64 (-1)) (rd_assign rfl) rfl ?_
    refine Wx.nil ?_
    have e1_0 : (idxF (frcN rim) l 0) = (-1 : Int) := by exact idxF_end (by omega) h2
    exact W.ret ⟨.int .i64 (-1), ResIs.one, hS.bel, (by rw [e1_0])⟩

theorem F70 {v : Value} {ys : List (Int × Int)} {gt gr g : Nat} {rim : ByteArray} {T : Tab} {ob : List Ob} {w0 w : World} {O : List (Option Nat)} (s_rim : rim.size ≤ maxLen) (p_12 : (rim.size : Int) ≤ 12) (p_l : Lets rim) (p_ok : TabOK rim T) (p_in : ∀ x ∈ ys, 0 ≤ x.1 ∧ x.1 < x.2 ∧ x.2 < rim.size) (p_len : (ys.length : Int) ≤ 100) (hG : Laid w0) (hS : St w0 O w (.row (tP (tI .i64) (tI .i64)) 58 v (ys) :: .box gt 83 [.pointer (some ⟨g, 0, none⟩)] :: .box gr 9 [.string rim] :: .box g 94 (tabC rim T) :: ob)) : Calls Tryd.prog 70 #[v, .func (.func 71) #[] #[.pointer (some ⟨gt, 0, none⟩), .pointer (some ⟨gr, 0, none⟩)]] w (Bk fun r w' => ∃ v', r = v' ∧ St w0 O w' (.row (tP (tI .i64) (tI .i64)) 58 v' (ys.filter (frcN rim)) :: .box gt 83 [.pointer (some ⟨g, 0, none⟩)] :: .box gr 9 [.string rim] :: .box g 94 (tabC rim T) :: ob)) := by
  have hB := p_ok.1
  refine enterB Tryd.func70 rfl Tryd.ntmps70 Tryd.results70 rfl ?_
  refine W.seq ?_
  refine W.reg ?_
  refine Wx.rd (v := (.slice none 0 0)) (rd_assign rfl) rfl ?_
  refine Wx.nil ?_
  refine W.seq ?_
  refine W.reg ?_
  refine Wx.rd (v := v) (rd_move rfl) rfl ?_
  refine Wx.rd (v := .func (.func 71) #[] #[.pointer (some ⟨gt, 0, none⟩), .pointer (some ⟨gr, 0, none⟩)]) (rd_move rfl) rfl ?_
  refine Wx.callF (run_callF Tryd.call93 rfl) (F93 (hS.lend 0 rfl) (boxAt hS 3 rfl (Ext.refl _)) (boxAt hS 1 rfl (Ext.refl _)) (by first | assumption | (simp only [maxLen]; omega) | (simp only [ByteArray.size_extract, ByteArray.size_append, maxLen] at *; omega) | decide) (boxAt hS 2 rfl (Ext.refl _)) (by omega) p_l p_ok p_in (hG.ext hS.bel)) rfl ?_
  rintro r_1 w_2 hx_3 rfl
  have hS := hS.ext hx_3
  refine Wx.rd (v := .int .i64 (idxF (frcN rim) ys 0)) (rd_assign rfl) rfl ?_
  refine Wx.nil ?_
  refine W.seq ?_
  refine W.seq ?_
  refine W.reg ?_
  refine Wx.rd (v := .int .i64 (idxF (frcN rim) ys 0)) (rd_move rfl) rfl ?_
  refine Wx.rd (v := .bool (decide ((idxF (frcN rim) ys 0) = (-1)))) (rd_eql rfl rfl) rfl ?_
  refine Wx.nil ?_
  refine W.condD rfl (fun c0 => ?_) (fun c0 => ?_)
  · -- yes
    refine W.seq ?_
    refine W.reg ?_
    refine Wx.rd (v := v) (rd_move rfl) rfl ?_
    refine Wx.rd (v := v) (rd_assign rfl) rfl ?_
    refine Wx.nil ?_
    exact W.ret ⟨v, ResIs.one, _, rfl, hS.spell (ys' := ys.filter (frcN rim)) 0 rfl (del_none c0).symm⟩
  · -- no
    obtain ⟨hi0, hi1, hi2⟩ := del_start c0
    refine W.skip ?_
    refine W.seq ?_
    refine W.seq ?_
    refine W.reg ?_
    obtain ⟨g_4, c_5, rfl, hc_6⟩ := hS.rowForm 0 rfl (by omega)
    refine Wx.rd (v := .int .i64 (idxF (frcN rim) ys 0)) (rd_move rfl) rfl ?_
    refine Wx.rd (v := .int .i64 ((idxF (frcN rim) ys 0) + 1)) (rd_add rfl rfl (in_i64 (by omega) (by omega))) rfl ?_
    refine Wx.rd (v := .int .i64 ((idxF (frcN rim) ys 0) + 1)) (rd_assign rfl) rfl ?_
    refine Wx.nil ?_
    refine W.block ?_
    refine W.loop [5, 6, 7, 16, 17, 18, 19, 20, 21, 22, 23, 24, 25, 26, 27, 28, 29, 30, 31, 32, 33, 34, 35] (fun x : Int × Int × (List (Int × Int)) => match x with | (i, j, z) => [(5, .int .i64 i), (6, .int .i64 j)]) (fun (x : Int × Int × (List (Int × Int))) w' => match x with | (i, j, z) => St w0 O w' (.row (tP (tI .i64) (tI .i64)) 58 (.slice (some ⟨g_4, 0, none⟩) ys.length c_5) z :: .box gt 83 [.pointer (some ⟨g, 0, none⟩)] :: .box gr 9 [.string rim] :: .box g 94 (tabC rim T) :: ob) ∧ 0 ≤ i ∧ i < j ∧ j ≤ ys.length ∧ z.length = ys.length ∧ z.take i.toNat = (ys.take j.toNat).filter (frcN rim) ∧ z.drop j.toNat = ys.drop j.toNat) (fun x : Int × Int × (List (Int × Int)) => match x with | (i, j, z) => (ys.length - j).toNat) (idxF (frcN rim) ys 0, (idxF (frcN rim) ys 0) + 1, ys) ⟨rfl, rfl, trivial⟩ ⟨hS, (by first | omega | simp), (by first | omega | simp), (by first | omega | simp), (rfl), (hi2), (rfl)⟩ ?_
    rintro ⟨i, j, z⟩ u_8 w_7 ⟨hS, h0, h1, h1b, hl, hT, hD⟩
    refine W.seq ?_
    refine W.seq ?_
    refine W.reg ?_
    refine Wx.rd (v := .int .i64 j) (rd_move rfl) rfl ?_
    refine Wx.rd (v := (.slice (some ⟨g_4, 0, none⟩) ys.length c_5)) (rd_move rfl) rfl ?_
    refine Wx.rd (v := .int .i64 (z.length : Int)) (rd_lenR hS 0 rfl rfl Tryd.underlying22) rfl ?_
    refine Wx.rd (v := .bool (decide (j < (z.length : Int)))) (rd_lss rfl rfl) rfl ?_
    refine Wx.nil ?_
    refine W.condD rfl (fun c1 => ?_) (fun c1 => ?_)
    · -- yes
      have hix := del_ix (by omega) (by omega) hl hD
      have hin := p_in _ (ix_mem (d := (0, 0)) (xs := ys) (j := j) (by omega) (by omega))
      rw [← hix] at hin
      refine W.skip ?_
      refine W.seq ?_
      refine W.block ?_
      refine W.seq ?_
      refine W.reg ?_
      refine Wx.rd (v := (.slice (some ⟨g_4, 0, none⟩) ys.length c_5)) (rd_move rfl) rfl ?_
      refine Wx.rd (v := .int .i64 j) (rd_move rfl) rfl ?_
      refine Wx.rd (v := .pointer (some ⟨g_4, j.toNat * 2, none⟩)) (rd_indexO Tryd.underlying22 Tryd.sizeOf58 rfl rfl (by first | omega | (simp only [List.length_set, List.length_append, List.length_cons, List.length_nil, List.length_replicate]; omega)) (by first | omega | (simp only [List.length_set, List.length_append, List.length_cons, List.length_nil, List.length_replicate]; omega))) rfl ?_
      refine Wx.ex (rd_loadR' (0, 0) hS 0 rfl rfl rfl (by first | omega | (simp only [List.length_set, List.length_append, List.length_cons, List.length_nil, List.length_replicate]; omega)) (by first | omega | (simp only [List.length_set, List.length_append, List.length_cons, List.length_nil, List.length_replicate]; omega)) Tryd.isAgg58 Tryd.sizeOf58) rfl (fun v_9 hv_10 => ?_)
      obtain ⟨rfl, bd_11, bd_12⟩ := hv_10.i2
      have bd_11 := bd_i64 bd_11
      have bd_12 := bd_i64 bd_12
      refine Wx.alloc (cs := [.int .i64 0, .int .i64 0]) hS Tryd.zeroValue58 rfl rfl (fun g_13 w_14 hx_16 hb_15 hS => ?_)
      refine Wx.storeX (cs' := [.int .i64 ((ix (0, 0) z j).1), .int .i64 ((ix (0, 0) z j).2)]) (ds := [.int .i64 ((ix (0, 0) z j).1), .int .i64 ((ix (0, 0) z j).2)]) hS 0 rfl rfl rfl rfl Tryd.sizeOf58 (Nat.le_of_ble_eq_true rfl) (one_cons rfl (one_cons rfl one_nil)) rfl (fun w_17 hz_18 hS => ?_)
      refine Wx.nil ?_
      refine W.seq ?_
      refine W.reg ?_
      refine Wx.rd (v := .func (.func 71) #[] #[.pointer (some ⟨gt, 0, none⟩), .pointer (some ⟨gr, 0, none⟩)]) (rd_move rfl) rfl ?_
      refine Wx.rd (v := .agg #[.int .i64 ((ix (0, 0) z j).1), .int .i64 ((ix (0, 0) z j).2)]) (rd_loadXs (ds := [.int .i64 ((ix (0, 0) z j).1), .int .i64 ((ix (0, 0) z j).2)]) hS 0 rfl rfl rfl rfl Tryd.isAgg58 Tryd.sizeOf58) rfl ?_
      refine Wx.callF (run_callC (fs := []) (cs := [.pointer (some ⟨gt, 0, none⟩), .pointer (some ⟨gr, 0, none⟩)]) (vs := [.agg #[.int .i64 ((ix (0, 0) z j).1), .int .i64 ((ix (0, 0) z j).2)], .pointer (some ⟨gt, 0, none⟩), .pointer (some ⟨gr, 0, none⟩)]) Tryd.call71 rfl rfl) (F71 (in_i64 (by omega) (by omega)) (in_i64 (by omega) (by omega)) (boxAt hS 4 rfl (Ext.refl _)) (boxAt hS 2 rfl (Ext.refl _)) (by first | assumption | (simp only [maxLen]; omega) | (simp only [ByteArray.size_extract, ByteArray.size_append, maxLen] at *; omega) | decide) (boxAt hS 3 rfl (Ext.refl _)) (by omega) p_l p_ok (by omega) (by omega) (by omega) (hG.ext hS.bel)) rfl ?_
      rintro r_19 w_20 hx_21 rfl
      have hS := hS.ext hx_21
      refine Wx.rd (v := .bool (!(!frcN rim (((ix (0, 0) z j).1), ((ix (0, 0) z j).2))))) (rd_not rfl) rfl ?_
      refine Wx.nil ?_
      refine W.cond rfl (fun c2 => ?_) (fun c2 => ?_)
      · -- yes
        try simp only [Bool.and_eq_true, Bool.or_eq_true, Bool.not_eq_true', Bool.and_eq_false_iff, Bool.or_eq_false_iff, Bool.not_eq_false', decide_eq_true_eq, decide_eq_false_iff_not, not_or, Bool.false_eq_true, Bool.true_eq_false, false_or, or_false, not_false_eq_true] at c2
        refine W.seq ?_
        refine W.reg ?_
        refine Wx.rd (v := (.slice (some ⟨g_4, 0, none⟩) ys.length c_5)) (rd_move rfl) rfl ?_
        refine Wx.rd (v := .int .i64 i) (rd_move rfl) rfl ?_
        refine Wx.rd (v := .agg #[.int .i64 ((ix (0, 0) z j).1), .int .i64 ((ix (0, 0) z j).2)]) (rd_loadXs (ds := [.int .i64 ((ix (0, 0) z j).1), .int .i64 ((ix (0, 0) z j).2)]) hS 0 rfl rfl rfl rfl Tryd.isAgg58 Tryd.sizeOf58) rfl ?_
        refine Wx.rd (v := .pointer (some ⟨g_4, i.toNat * 2, none⟩)) (rd_indexO Tryd.underlying22 Tryd.sizeOf58 rfl rfl (by first | omega | (simp only [List.length_set, List.length_append, List.length_cons, List.length_nil, List.length_replicate]; omega)) (by first | omega | (simp only [List.length_set, List.length_append, List.length_cons, List.length_nil, List.length_replicate]; omega))) rfl ?_
        refine Wx.storeR (j := i.toNat) (z := ((ix (0, 0) z j).1, (ix (0, 0) z j).2)) hS 1 rfl rfl rfl (by first | omega | (simp only [List.length_set, List.length_append, List.length_cons, List.length_nil, List.length_replicate]; omega)) rfl (V.mk2 (in_i64 (by omega) (by omega)) (in_i64 (by omega) (by omega))) Tryd.sizeOf58 (fun w_22 hz_23 hS => ?_)
        refine Wx.nil ?_
        refine W.reg ?_
        refine Wx.rd (v := .int .i64 i) (rd_move rfl) rfl ?_
        refine Wx.rd (v := .int .i64 (i + 1)) (rd_add rfl rfl (in_i64 (by omega) (by omega))) rfl ?_
        refine Wx.rd (v := .int .i64 (i + 1)) (rd_assign rfl) rfl ?_
        refine Wx.nil ?_
        refine W.reg ?_
        refine Wx.rd (v := .int .i64 j) (rd_move rfl) rfl ?_
        refine Wx.rd (v := .int .i64 (j + 1)) (rd_add rfl rfl (in_i64 (by omega) (by omega))) rfl ?_
        refine Wx.rd (v := .int .i64 (j + 1)) (rd_assign rfl) rfl ?_
        refine Wx.nil ?_
        refine ⟨(i + 1, j + 1, List.set z i.toNat ((ix (0, 0) z j).1, (ix (0, 0) z j).2)), (by show (ys.length - (j + 1)).toNat < (ys.length - j).toNat; omega), ?_, ?_, Out.look rfl Out.self⟩
        · exact ⟨hS.tl, (by first | omega | assumption), (by first | omega | assumption), (by first | omega | assumption), (by rw [List.length_set]; exact hl), ((del_yes h0 h1 (by omega) hl hT hD c2).1), ((del_yes h0 h1 (by omega) hl hT hD c2).2)⟩
        · exact ⟨rfl, rfl, trivial⟩
      · -- no
        try simp only [Bool.and_eq_true, Bool.or_eq_true, Bool.not_eq_true', Bool.and_eq_false_iff, Bool.or_eq_false_iff, Bool.not_eq_false', decide_eq_true_eq, decide_eq_false_iff_not, not_or, Bool.false_eq_true, Bool.true_eq_false, false_or, or_false, not_false_eq_true] at c2
        refine W.skip ?_
        refine W.reg ?_
        refine Wx.rd (v := .int .i64 j) (rd_move rfl) rfl ?_
        refine Wx.rd (v := .int .i64 (j + 1)) (rd_add rfl rfl (in_i64 (by omega) (by omega))) rfl ?_
        refine Wx.rd (v := .int .i64 (j + 1)) (rd_assign rfl) rfl ?_
        refine Wx.nil ?_
        refine ⟨(i, j + 1, z), (by show (ys.length - (j + 1)).toNat < (ys.length - j).toNat; omega), ?_, ?_, Out.look rfl Out.self⟩
        · exact ⟨hS.tl, (by first | omega | assumption), (by first | omega | assumption), (by first | omega | assumption), (by first | omega | assumption), ((del_no (by omega) (by omega) hl hT hD (by rw [c2]; decide)).1), ((del_no (by omega) (by omega) hl hT hD (by rw [c2]; decide)).2)⟩
        · exact ⟨rfl, rfl, trivial⟩
    · -- no
      refine W.exit rfl ?_
      refine W.seq ?_
      refine W.reg ?_
      refine Wx.rd (v := (.slice (some ⟨g_4, 0, none⟩) ys.length c_5)) (rd_move rfl) rfl ?_
      refine Wx.rd (v := .int .i64 i) (rd_move rfl) rfl ?_
      refine Wx.rd (v := .slice (some ⟨g_4, i.toNat * 2, none⟩) (ys.length - i.toNat) (c_5 - i.toNat)) (rd_tailP Tryd.underlying22 Tryd.sizeOf58 rfl rfl (by omega) (by omega) (by omega)) rfl ?_
      have hS : St _ _ _ (.row (tP (tI .i64) (tI .i64)) 58 (.slice (some ⟨g_4, 0, none⟩) i.toNat c_5) (List.take i.toNat z) :: .box gt 83 [.pointer (some ⟨g, 0, none⟩)] :: .box gr 9 [.string rim] :: .box g 94 (tabC rim T) :: ob) := hS.shrink (m := i.toNat) 0 rfl (by omega)
      refine Wx.clearR (o := i.toNat) elHj_22 hS 0 rfl rfl (Nat.le_refl _) (by omega) (by omega) (by simp [Value.cells, Value.oneCell']) (fun w_24 hz_25 hS => ?_)
      refine Wx.nil ?_
      refine W.seq ?_
      refine W.reg ?_
      refine Wx.rd (v := (.slice (some ⟨g_4, 0, none⟩) ys.length c_5)) (rd_move rfl) rfl ?_
      refine Wx.rd (v := .int .i64 i) (rd_move rfl) rfl ?_
      refine Wx.rd (v := (.slice (some ⟨g_4, 0, none⟩) i.toNat c_5)) (rd_headO Tryd.underlying22 Tryd.sizeOf58 rfl rfl (by omega) (by omega)) rfl ?_
      refine Wx.rd (v := (.slice (some ⟨g_4, 0, none⟩) i.toNat c_5)) (rd_assign rfl) rfl ?_
      refine Wx.nil ?_
      exact W.ret ⟨(.slice (some ⟨g_4, 0, none⟩) i.toNat c_5), ResIs.one, _, rfl, hS.spell (ys' := ys.filter (frcN rim)) 0 rfl (by rw [hT, List.take_of_length_le (by omega)])⟩

theorem F27 {rim : ByteArray} {w : World} (s_rim : rim.size ≤ maxLen) (hG : Laid w) : Calls Tryd.prog 27 #[.string rim] w (Ret w (fun r w' => ∃ rv, r = .tuple #[rv, .int .i64 (rimE rim)] ∧ Fresh (tP (tI .i64) (tI .i64)) 58 (forcedP rim) rv w.heap.size w')) := by
  have hS := St.start0 w
  refine enterR Tryd.func27 rfl Tryd.ntmps27 Tryd.results27 rfl ?_
  refine W.seq ?_
  refine W.reg ?_
  refine Wx.box (cs := [.string rim]) hS rfl rfl rfl (fun g_1 w_2 hx_4 hb_3 hS => ?_)
  refine Wx.rd (v := (.slice none 0 0)) (rd_assign rfl) rfl ?_
  refine Wx.rd (v := .int .i64 0) (rd_assign rfl) rfl ?_
  refine Wx.nil ?_
  refine W.seq ?_
  refine W.reg ?_
  refine Wx.rd (v := .string rim) (rd_loadX hS 0 rfl rfl rfl Tryd.isAgg9) rfl ?_
  refine Wx.callF (run_callF Tryd.call25 rfl) (F25 (by first | assumption | (simp only [maxLen]; omega) | (simp only [ByteArray.size_extract, ByteArray.size_append, maxLen] at *; omega) | decide) (hG.ext hS.bel)) rfl ?_
  rintro r_5 w_6 hx_7 ⟨v_8, rfl, hv_9⟩
  have hS := hS.pushFr hx_7 hv_9
  refine Wx.rd (v := .tuple #[v_8, .int .i64 (rimE rim)]) (rd_move rfl) rfl ?_
  refine Wx.rd (v := v_8) (rd_extract rfl rfl) rfl ?_
  refine Wx.rd (v := .int .i64 (rimE rim)) (rd_extract rfl rfl) rfl ?_
  refine Wx.rd (v := v_8) (rd_assign rfl) rfl ?_
  refine Wx.rd (v := .int .i64 (rimE rim)) (rd_assign rfl) rfl ?_
  refine Wx.nil ?_
  refine W.seq ?_
  refine W.seq ?_
  refine W.reg ?_
  refine Wx.rd (v := .int .i64 (rimE rim)) (rd_move rfl) rfl ?_
  refine Wx.rd (v := .bool (decide ((rimE rim) ≠ 0))) (rd_neq rfl rfl) rfl ?_
  refine Wx.nil ?_
  refine W.condD rfl (fun c0 => ?_) (fun c0 => ?_)
  · -- yes
    refine W.seq ?_
    refine W.reg ?_
    refine Wx.rd (v := .int .i64 (rimE rim)) (rd_move rfl) rfl ?_
    refine Wx.rd (v := (.slice none 0 0)) (rd_assign rfl) rfl ?_
    refine Wx.rd (v := .int .i64 (rimE rim)) (rd_assign rfl) rfl ?_
    refine Wx.nil ?_
    have e0_0 : forcedP rim = [] := by exact if_neg c0
    exact W.ret ⟨.tuple #[(.slice none 0 0), .int .i64 (rimE rim)], ResIs.two, hS.bel, ⟨(.slice none 0 0), rfl, (by rw [e0_0]; exact ((hS.addNil (tP (tI .i64) (tI .i64)) 58).fr 0 rfl flat_i2))⟩⟩
  · -- no
    have hr0 : rimE rim = 0 := by omega
    obtain ⟨hr1, hr2⟩ := rimE_ok hr0
    have hfe : firstV rim = firstP (fitR rim) 0 rim.size := if_pos hr0
    have hfl := firstP_len (F := fitR rim) (i := 0) (n := rim.size) (by omega)
    have hfi := first_in rim
    refine W.skip ?_
    refine W.seq ?_
    refine W.reg ?_
    refine Wx.rd (v := .string rim) (rd_loadX hS 1 rfl rfl rfl Tryd.isAgg9) rfl ?_
    refine Wx.callF (run_callF Tryd.call66 rfl) (F66 (by first | assumption | (simp only [maxLen]; omega) | (simp only [ByteArray.size_extract, ByteArray.size_append, maxLen] at *; omega) | decide) (by omega) hr2 (hG.ext hS.bel)) rfl ?_
    rintro r_11 w_12 hx_13 ⟨g_tb, T_tb, rfl, hg_14, hh_15, hT_tb⟩
    have hS := hS.pushBox hx_13 hg_14 hh_15
    have hB_tb := hT_tb.1
    refine Wx.alloc (cs := [(.pointer none)]) hS Tryd.zeroValue83 rfl rfl (fun g_16 w_17 hx_19 hb_18 hS => ?_)
    refine Wx.storeX (cs' := [.pointer (some ⟨g_tb, 0, none⟩)]) (ds := [.pointer (some ⟨g_tb, 0, none⟩)]) hS 0 rfl rfl rfl rfl Tryd.sizeOf83 (Nat.le_of_ble_eq_true rfl) (one_cons rfl one_nil) rfl (fun w_20 hz_21 hS => ?_)
    refine Wx.nil ?_
    refine W.seq ?_
    refine W.reg ?_
    refine Wx.rd (v := v_8) (rd_move rfl) rfl ?_
    refine Wx.rd (v := .func (.func 71) #[] #[.pointer (some ⟨g_16, 0, none⟩), .pointer (some ⟨g_1, 0, none⟩)]) (rd_makeFunc (vs := []) (us := [.pointer (some ⟨g_16, 0, none⟩), .pointer (some ⟨g_1, 0, none⟩)]) rfl rfl) rfl ?_
    refine Wx.callB (run_callF Tryd.call70 rfl) (F70 (ob := []) s_rim hr1 hr2 hT_tb (by rw [hfe]; exact hfi) (by rw [hfe]; omega) hG ((((hS.front 1 rfl).front 3 rfl).front 2 rfl).front 3 rfl)) rfl ?_
    rintro r_22 w_23 ⟨_, rfl, hS⟩
    have hS : St _ _ w_23 [.row (tP (tI .i64) (tI .i64)) 58 r_22 (List.filter (frcN rim) (firstV rim)), .box g_16 83 [.pointer (some ⟨g_tb, 0, none⟩)], .box g_1 9 [.string rim], .box g_tb 94 (tabC rim T_tb)] := hS
    refine Wx.rd (v := r_22) (rd_assign rfl) rfl ?_
    refine Wx.rd (v := .int .i64 0) (rd_assign rfl) rfl ?_
    refine Wx.nil ?_
    have e1_0 : forcedP rim = List.filter (frcN rim) (firstV rim) := by rw [forcedP, if_pos hr0, hfe]
    have e1_1 : (rimE rim) = (0 : Int) := by exact hr0
    exact W.ret ⟨.tuple #[r_22, .int .i64 0], ResIs.two, hS.bel, ⟨r_22, (by rw [e1_1]), (by rw [e1_0]; exact (hS.fr 0 rfl flat_i2))⟩⟩
end Go.Proofs.YtokdjjebnomciaaDoor
