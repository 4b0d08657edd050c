/-
  WHAT IS PROVED HERE, TEXT BY TEXT (several texts of one prover, joined to one file; the conditions stand in each statement):
  * WHAT IS PROVED HERE: what functions hand back, each out of its own code; the conditions stand in each statement.
  * WHAT IS PROVED HERE: what functions hand back, each out of its own code; the conditions stand in each statement.
  * WHAT IS PROVED HERE: what functions hand back, each out of its own code; the conditions stand in each statement.
  * WHAT IS PROVED HERE: what functions hand back, each out of its own code; the conditions stand in each statement.
  * WHAT IS PROVED HERE: what functions hand back, each out of its own code; the conditions stand in each statement.
  * WHAT IS PROVED HERE: what functions hand back, each out of its own code; the conditions stand in each statement.
  * WHAT IS PROVED HERE: what functions hand back, each out of its own code; the conditions stand in each statement.
-/
import Derived.Test.YtlibemgaepkceaaGreatDoorProg
import Derived.Test.YtlibemgaepkceaaGreatDoorU4
import Derived.Test.YtlibemgaepkceaaGreatDoorU8

set_option linter.unusedVariables false
set_option linter.unusedSimpArgs false

namespace Go.Proofs.YtlibemgaepkceaaGreatDoor
open Go.Wk Go.RowKit Go.Lib
set_option linter.unusedVariables false
set_option linter.unusedSimpArgs false
theorem foMd_52_2 : fldOff Tryz.prog 52 2 = some 2 := by kernel_rfl
theorem mixedMd_ : Tryz.prog.follows .mixedOrders = true := by kernel_rfl
theorem foMd_52_0 : fldOff Tryz.prog 52 0 = some 0 := by kernel_rfl
theorem foMd_73_0 : fldOff Tryz.prog 73 0 = some 0 := by kernel_rfl
theorem foMd_52_1 : fldOff Tryz.prog 52 1 = some 1 := by kernel_rfl

set_option maxHeartbeats 1000000 in
theorem F57 {sv rv wv ov : Value} {Ss : List HS} {R Ws : List (List Int)} {Ow : List Int} {gf : Nat} {n : Nat} {A : AA} {h : Int} {ob : List Ob} {w0 w : World} {O : List (Option Nat)} (hW : WOK n Ws Ow) (p_n : 1 ≤ n ∧ n ≤ 6) (hA : absL Ss = A) (hI : SInv n Ws Ow Ss) (p_h : 0 ≤ h ∧ h < n) (hS : St w0 O w (.row tHS 71 sv Ss :: .row (tSl (tI .i64)) 25 rv R :: .box gf 52 [wv, ov, sv, rv] :: Ob.v (tSl (tSl (tI .i64))) Ws wv :: Ob.v (tSl (tI .i64)) Ow ov :: ob)) : Calls Tryz.prog 57 #[.pointer (some ⟨gf, 0, none⟩), .int .i64 h] w (Bk fun r w' => r = .int .i64 (wishV Ws Ow A h) ∧ ∃ S', absL S' = A ∧ SInv n Ws Ow S' ∧ St w0 O w' (.row tHS 71 sv S' :: .row (tSl (tI .i64)) 25 rv R :: .box gf 52 [wv, ov, sv, rv] :: Ob.v (tSl (tSl (tI .i64))) Ws wv :: Ob.v (tSl (tI .i64)) Ow ov :: ob)) := by
  have hwl := hW.wl h p_h.1 p_h.2
  have hWl := hW.l
  have hOl := hW.o
  have hsl := hI.1
  refine enterB Tryz.func57 rfl Tryz.ntmps57 Tryz.results57 rfl ?_
  refine W.seq ?_
  refine W.reg ?_
  obtain ⟨g_1, c_2, rfl, hc_3⟩ := hS.rowForm 0 rfl (by omega)
  refine Wx.rd (v := .int .i64 0) (rd_assign rfl) rfl ?_
  refine Wx.nil ?_
  refine W.block ?_
  refine W.loop [4, 5, 6, 7, 8, 9, 10, 11, 12, 13, 14, 15, 16, 17, 18, 19, 20, 21, 22, 23, 24, 25, 26, 27, 28, 29, 30, 31, 32, 33, 34, 35, 36, 37, 38, 39, 40, 41, 42, 43, 44, 45, 46, 47, 48, 49, 50, 51, 52, 53, 54, 55, 56, 57, 58, 59, 60, 61, 62, 63] (fun (S2 : List HS) => []) (fun (S2 : List HS) w' => St w0 O w' (.row tHS 71 (.slice (some ⟨g_1, 0, none⟩) Ss.length c_2) S2 :: .row (tSl (tI .i64)) 25 rv R :: .box gf 52 [wv, ov, (.slice (some ⟨g_1, 0, none⟩) Ss.length c_2), rv] :: Ob.v (tSl (tSl (tI .i64))) Ws wv :: Ob.v (tSl (tI .i64)) Ow ov :: ob) ∧ absL S2 = A ∧ SInv n Ws Ow S2) (fun (S2 : List HS) => ((n : Int) - hsP (ix hs0 S2 h)).toNat) Ss trivial ⟨hS, (hA), (hI)⟩ ?_
  rintro S2 u_5 w_4 ⟨hS, h1, hI2⟩
  have hsl2 := hI2.1
  refine W.block ?_
  refine W.seq ?_
  refine W.reg ?_
  refine Wx.rd (v := .pointer (some ⟨gf, 0, none⟩)) (rd_move rfl) rfl ?_
  refine Wx.rd (v := .pointer (some ⟨gf, 0, none⟩)) (rd_nilCheck rfl rfl) rfl ?_
  refine Wx.rd (v := .pointer (some ⟨gf, 2, none⟩)) (rd_fieldAddr rfl foMd_52_2) rfl ?_
  refine Wx.rd (v := (.slice (some ⟨g_1, 0, none⟩) Ss.length c_2)) (rd_loadX hS 2 rfl rfl rfl Tryz.isAgg50) rfl ?_
  refine Wx.rd (v := .int .i64 h) (rd_move rfl) rfl ?_
  refine Wx.rd (v := .pointer (some ⟨g_1, h.toNat * 1, none⟩)) (rd_indexO Tryz.underlying50 Tryz.sizeOf71 rfl rfl (by first | omega | (simp only [List.length_set, List.length_append, List.length_cons, List.length_nil, List.length_replicate]; omega)) (by first | omega | (simp only [List.length_set, List.length_append, List.length_cons, List.length_nil, List.length_replicate]; omega))) rfl ?_
  refine Wx.ex (rd_loadR' hs0 hS 0 rfl rfl rfl (by first | omega | (simp only [List.length_set, List.length_append, List.length_cons, List.length_nil, List.length_replicate]; omega)) (by first | omega | (simp only [List.length_set, List.length_append, List.length_cons, List.length_nil, List.length_replicate]; omega)) Tryz.isAgg71 Tryz.sizeOf71) rfl (fun v_6 hv_7 => ?_)
  obtain ⟨rfl, hk_8⟩ := V.enc hv_7
  have bd_9 := bd_i64 (hsP_in hk_8)
  have bd_10 := bd_i64 (gT_in hk_8)
  have bd_11 := bd_i64 (gR_in hk_8)
  refine Wx.rd (v := .tuple #[.agg #[.int .i64 (hsP (ix hs0 S2 h))], .bool (isWB (ix hs0 S2 h))]) (rd_assertA rfl (assertW _)) rfl ?_
  refine Wx.rd (v := .tuple #[.agg #[.int .i64 (hsP (ix hs0 S2 h))], .bool (isWB (ix hs0 S2 h))]) (rd_move rfl) rfl ?_
  refine Wx.rd (v := .agg #[.int .i64 (hsP (ix hs0 S2 h))]) (rd_extract rfl rfl) rfl ?_
  refine Wx.rd (v := .bool (isWB (ix hs0 S2 h))) (rd_extract rfl rfl) rfl ?_
  refine Wx.alloc (cs := [.int .i64 0]) hS Tryz.zeroValue73 rfl rfl (fun g_12 w_13 hx_15 hb_14 hS => ?_)
  refine Wx.storeX (cs' := [.int .i64 (hsP (ix hs0 S2 h))]) (ds := [.int .i64 (hsP (ix hs0 S2 h))]) hS 0 rfl rfl rfl rfl Tryz.sizeOf73 (Nat.le_of_ble_eq_true rfl) (one_cons rfl one_nil) rfl (fun w_16 hz_17 hS => ?_)
  refine Wx.rd (v := .bool (isWB (ix hs0 S2 h))) (rd_assign rfl) rfl ?_
  refine Wx.nil ?_
  refine W.seq ?_
  refine W.seq ?_
  refine W.reg ?_
  refine Wx.rd (v := .bool (isWB (ix hs0 S2 h))) (rd_move rfl) rfl ?_
  refine Wx.rd (v := .bool (!(isWB (ix hs0 S2 h)))) (rd_not rfl) rfl ?_
  refine Wx.nil ?_
  refine W.cond rfl (fun c0 => ?_) (fun c0 => ?_)
  · -- yes
    try simp only [Bool.and_eq_true, Bool.or_eq_true, Bool.not_eq_true', Bool.and_eq_false_iff, Bool.or_eq_false_iff, Bool.not_eq_false', decide_eq_true_eq, decide_eq_false_iff_not, not_or, Bool.false_eq_true, Bool.true_eq_false, false_or, or_false, not_false_eq_true] at c0
    refine W.seq ?_
    refine W.reg ?_
    refine Wx.rd (v := .int .i64 (-1)) (rd_assign rfl) rfl ?_
    refine Wx.nil ?_
    exact W.ret ⟨.int .i64 (-1), ResIs.one, (by rw [← h1, wish_none c0]), _, h1, hI2, (St.tl hS)⟩
  · -- no
    try simp only [Bool.and_eq_true, Bool.or_eq_true, Bool.not_eq_true', Bool.and_eq_false_iff, Bool.or_eq_false_iff, Bool.not_eq_false', decide_eq_true_eq, decide_eq_false_iff_not, not_or, Bool.false_eq_true, Bool.true_eq_false, false_or, or_false, not_false_eq_true] at c0
    have c0 : isWB (ix hs0 S2 h) = true := by simpa using c0
    have hlt := wish_lt hW hI2 p_h.1 p_h.2 c0
    have hat := wish_at hW hI2 p_h.1 p_h.2 c0
    refine W.skip ?_
    refine W.seq ?_
    refine W.regQ mixedMd_ (by kernel_rfl) ?_
    refine Wx.rd (v := .pointer (some ⟨gf, 0, none⟩)) (rd_move rfl) rfl ?_
    refine Wx.rd (v := .pointer (some ⟨gf, 0, none⟩)) (rd_nilCheck rfl rfl) rfl ?_
    refine Wx.rd (v := .pointer (some ⟨gf, 0, none⟩)) (rd_fieldAddr rfl foMd_52_0) rfl ?_
    refine Wx.rd (v := wv) (rd_loadX hS 3 rfl rfl rfl Tryz.isAgg24) rfl ?_
    refine Wx.rd (v := .int .i64 h) (rd_move rfl) rfl ?_
    refine Wx.ex (rd_index [] (hS.v 4 rfl) rfl rfl Tryz.underlying24 Tryz.sizeOf25 (by first | omega | (simp only [List.length_set, List.length_append, List.length_cons, List.length_nil, List.length_replicate]; omega)) (by first | omega | (simp only [List.length_set, List.length_append, List.length_cons, List.length_nil, List.length_replicate]; omega))) rfl (fun p_18 hp_19 => ?_)
    refine Wx.ex (rd_load hp_19 rfl Tryz.isAgg25 Tryz.sizeOf25) rfl (fun v_20 hv_21 => ?_)
    have ln_22 := hv_21.len63
    have hS := hS.add hv_21
    refine Wx.rd (v := .pointer (some ⟨g_12, 0, none⟩)) (rd_fieldAddr rfl foMd_73_0) rfl ?_
    refine Wx.rd (v := .int .i64 (hsP (ix hs0 S2 h))) (rd_loadX hS 1 rfl rfl rfl Tryz.isAgg3) rfl ?_
    refine Wx.ex (rd_index 0 (hS.v 0 rfl) rfl rfl Tryz.underlying25 Tryz.sizeOf3 (by first | omega | (simp only [List.length_set, List.length_append, List.length_cons, List.length_nil, List.length_replicate]; omega)) (by first | omega | (simp only [List.length_set, List.length_append, List.length_cons, List.length_nil, List.length_replicate]; omega))) rfl (fun p_24 hp_25 => ?_)
    refine Wx.rd (v := .int .i64 (ix 0 (ix [] Ws h) (hsP (ix hs0 S2 h)))) (rd_loadI hp_25 rfl Tryz.isAgg3 Tryz.sizeOf3) rfl ?_
    have bd_26 := bd_i64 hp_25.inK
    refine Wx.rd (v := .int .i64 (ix 0 (ix [] Ws h) (hsP (ix hs0 S2 h)))) (rd_assign rfl) rfl ?_
    refine Wx.nilQ (fun w_27 hx_28 => ?_)
    have hS := hS.ext hx_28
    refine W.seq ?_
    refine W.seq ?_
    refine W.regH mixedMd_ (fun w_29 hx_30 => ?_)
    have h0 := hS
    have hS := (St.start _ _ h0.fb_lt).ext hx_30
    refine Wh.rd (v := .pointer (some ⟨gf, 0, none⟩)) 0 rfl (by kernel_rfl) hS.bel (rd_move rfl) rfl ?_
    refine Wh.rd (v := .pointer (some ⟨gf, 0, none⟩)) 1 rfl (by kernel_rfl) hS.bel (rd_nilCheck rfl rfl) rfl ?_
    refine Wh.rd (v := .pointer (some ⟨gf, 2, none⟩)) 2 rfl (by kernel_rfl) hS.bel (rd_fieldAddr rfl foMd_52_2) rfl ?_
    refine Wh.rd (v := (.slice (some ⟨g_1, 0, none⟩) Ss.length c_2)) 3 rfl (by kernel_rfl) hS.bel (rd_loadX h0 4 rfl rfl rfl Tryz.isAgg50) rfl ?_
    refine Wh.rd (v := .pointer (some ⟨gf, 0, none⟩)) 4 rfl (by kernel_rfl) hS.bel (rd_move rfl) rfl ?_
    refine Wh.rd (v := .pointer (some ⟨gf, 0, none⟩)) 5 rfl (by kernel_rfl) hS.bel (rd_nilCheck rfl rfl) rfl ?_
    refine Wh.rd (v := .pointer (some ⟨gf, 1, none⟩)) 6 rfl (by kernel_rfl) hS.bel (rd_fieldAddr rfl foMd_52_1) rfl ?_
    refine Wh.rd (v := ov) 7 rfl (by kernel_rfl) hS.bel (rd_loadX h0 4 rfl rfl rfl Tryz.isAgg25) rfl ?_
    refine Wh.rd (v := .int .i64 (ix 0 (ix [] Ws h) (hsP (ix hs0 S2 h)))) 8 rfl (by kernel_rfl) hS.bel (rd_move rfl) rfl ?_
    refine Wh.ex 9 rfl (by kernel_rfl) hS.bel (rd_index 0 (h0.v 6 rfl) rfl rfl Tryz.underlying25 Tryz.sizeOf3 (by first | omega | (simp only [List.length_set, List.length_append, List.length_cons, List.length_nil, List.length_replicate]; omega)) (by first | omega | (simp only [List.length_set, List.length_append, List.length_cons, List.length_nil, List.length_replicate]; omega))) rfl (fun p_31 hp_32 => ?_)
    refine Wh.rd (v := .int .i64 (ix 0 Ow (ix 0 (ix [] Ws h) (hsP (ix hs0 S2 h))))) 10 rfl (by kernel_rfl) hS.bel (rd_loadI hp_32 rfl Tryz.isAgg3 Tryz.sizeOf3) rfl ?_
    have bd_33 := bd_i64 hp_32.inK
    refine Wh.rd (v := .pointer (some ⟨g_1, (ix 0 Ow (ix 0 (ix [] Ws h) (hsP (ix hs0 S2 h)))).toNat * 1, none⟩)) 11 rfl (by kernel_rfl) hS.bel (rd_indexO Tryz.underlying50 Tryz.sizeOf71 rfl rfl (by first | omega | (simp only [List.length_set, List.length_append, List.length_cons, List.length_nil, List.length_replicate]; omega)) (by first | omega | (simp only [List.length_set, List.length_append, List.length_cons, List.length_nil, List.length_replicate]; omega))) rfl ?_
    refine Wh.ex 12 rfl (by kernel_rfl) hS.bel (rd_loadR' hs0 h0 2 rfl rfl rfl (by first | omega | (simp only [List.length_set, List.length_append, List.length_cons, List.length_nil, List.length_replicate]; omega)) (by first | omega | (simp only [List.length_set, List.length_append, List.length_cons, List.length_nil, List.length_replicate]; omega)) Tryz.isAgg71 Tryz.sizeOf71) rfl (fun v_34 hv_35 => ?_)
    obtain ⟨rfl, hk_36⟩ := V.enc hv_35
    have bd_37 := bd_i64 (hsP_in hk_36)
    have bd_38 := bd_i64 (gT_in hk_36)
    have bd_39 := bd_i64 (gR_in hk_36)
    refine Wh.rd (v := .tuple #[.agg #[.int .i64 (hsP (ix hs0 S2 (ix 0 Ow (ix 0 (ix [] Ws h) (hsP (ix hs0 S2 h))))))], .bool (isWB (ix hs0 S2 (ix 0 Ow (ix 0 (ix [] Ws h) (hsP (ix hs0 S2 h))))))]) 13 rfl (by kernel_rfl) hS.bel (rd_assertA rfl (assertW _)) rfl ?_
    refine Wh.rd (v := .tuple #[.agg #[.int .i64 (hsP (ix hs0 S2 (ix 0 Ow (ix 0 (ix [] Ws h) (hsP (ix hs0 S2 h))))))], .bool (isWB (ix hs0 S2 (ix 0 Ow (ix 0 (ix [] Ws h) (hsP (ix hs0 S2 h))))))]) 14 rfl (by kernel_rfl) hS.bel (rd_move rfl) rfl ?_
    refine Wh.rd (v := .agg #[.int .i64 (hsP (ix hs0 S2 (ix 0 Ow (ix 0 (ix [] Ws h) (hsP (ix hs0 S2 h))))))]) 15 rfl (by kernel_rfl) hS.bel (rd_extract rfl rfl) rfl ?_
    refine Wh.rd (v := .bool (isWB (ix hs0 S2 (ix 0 Ow (ix 0 (ix [] Ws h) (hsP (ix hs0 S2 h))))))) 16 rfl (by kernel_rfl) hS.bel (rd_extract rfl rfl) rfl ?_
    refine Wh.br [17] (by kernel_rfl) (by decide) ⟨⟨_, rfl, ?_⟩, trivial⟩
    refine Wx.alloc (cs := [.int .i64 0]) hS Tryz.zeroValue73 rfl rfl (fun g_40 w_41 hx_43 hb_42 hS => ?_)
    refine Wx.nil ⟨hS.bel, ?_⟩
    refine Wh.br [18] (by kernel_rfl) (by decide) ⟨⟨_, rfl, ?_⟩, trivial⟩
    refine Wx.storeX (cs' := [.int .i64 (hsP (ix hs0 S2 (ix 0 Ow (ix 0 (ix [] Ws h) (hsP (ix hs0 S2 h))))))]) (ds := [.int .i64 (hsP (ix hs0 S2 (ix 0 Ow (ix 0 (ix [] Ws h) (hsP (ix hs0 S2 h))))))]) hS 0 rfl rfl rfl rfl Tryz.sizeOf73 (Nat.le_of_ble_eq_true rfl) (one_cons rfl one_nil) rfl (fun w_44 hz_45 hS => ?_)
    refine Wx.nil ⟨hS.bel, ?_⟩
    refine Wh.rd (v := .bool (isWB (ix hs0 S2 (ix 0 Ow (ix 0 (ix [] Ws h) (hsP (ix hs0 S2 h))))))) 19 rfl (by kernel_rfl) hS.bel (rd_assign rfl) rfl ?_
    refine Wh.done (by kernel_rfl) ?_
    have hS := h0.merge hS
    refine W.seq ?_
    refine W.reg ?_
    refine Wx.rd (v := .bool (isWB (ix hs0 S2 (ix 0 Ow (ix 0 (ix [] Ws h) (hsP (ix hs0 S2 h))))))) (rd_move rfl) rfl ?_
    refine Wx.nil ?_
    refine W.cond rfl (fun c1 => ?_) (fun c1 => ?_)
    · -- yes
      try simp only [Bool.and_eq_true, Bool.or_eq_true, Bool.not_eq_true', Bool.and_eq_false_iff, Bool.or_eq_false_iff, Bool.not_eq_false', decide_eq_true_eq, decide_eq_false_iff_not, not_or, Bool.false_eq_true, Bool.true_eq_false, false_or, or_false, not_false_eq_true] at c1
      refine W.seq ?_
      refine W.reg ?_
      refine Wx.rd (v := .int .i64 (ix 0 (ix [] Ws h) (hsP (ix hs0 S2 h)))) (rd_move rfl) rfl ?_
      refine Wx.rd (v := .int .i64 (ix 0 (ix [] Ws h) (hsP (ix hs0 S2 h)))) (rd_assign rfl) rfl ?_
      refine Wx.nil ?_
      exact W.ret ⟨.int .i64 (ix 0 (ix [] Ws h) (hsP (ix hs0 S2 h))), ResIs.one, (by rw [← h1, wish_hit hW hI2 p_h.1 p_h.2 c0 c1]), _, h1, hI2, (St.tl (St.tl (St.tl hS)))⟩
    · -- no
      try simp only [Bool.and_eq_true, Bool.or_eq_true, Bool.not_eq_true', Bool.and_eq_false_iff, Bool.or_eq_false_iff, Bool.not_eq_false', decide_eq_true_eq, decide_eq_false_iff_not, not_or, Bool.false_eq_true, Bool.true_eq_false, false_or, or_false, not_false_eq_true] at c1
      refine W.skip ?_
      refine W.regT 11 mixedMd_ (by kernel_rfl) ?_
      refine Wx.rd (v := .pointer (some ⟨gf, 0, none⟩)) (rd_move rfl) rfl ?_
      refine Wx.rd (v := .pointer (some ⟨gf, 0, none⟩)) (rd_nilCheck rfl rfl) rfl ?_
      refine Wx.rd (v := .pointer (some ⟨gf, 2, none⟩)) (rd_fieldAddr rfl foMd_52_2) rfl ?_
      refine Wx.rd (v := (.slice (some ⟨g_1, 0, none⟩) Ss.length c_2)) (rd_loadX hS 5 rfl rfl rfl Tryz.isAgg50) rfl ?_
      refine Wx.rd (v := .int .i64 h) (rd_move rfl) rfl ?_
      refine Wx.rd (v := .pointer (some ⟨g_12, 0, none⟩)) (rd_fieldAddr rfl foMd_73_0) rfl ?_
      refine Wx.rd (v := .int .i64 (hsP (ix hs0 S2 h))) (rd_loadX hS 2 rfl rfl rfl Tryz.isAgg3) rfl ?_
      refine Wx.rd (v := .int .i64 ((hsP (ix hs0 S2 h)) + 1)) (rd_add rfl rfl (in_i64 (by omega) (by omega))) rfl ?_
      refine Wx.rd (v := .agg #[.int .i64 ((hsP (ix hs0 S2 h)) + 1)]) (rd_build (vs := [(0, .int .i64 ((hsP (ix hs0 S2 h)) + 1))]) rfl (by kernel_rfl)) rfl ?_
      refine Wx.rd (v := .iface 73 (.agg #[.int .i64 ((hsP (ix hs0 S2 h)) + 1)])) (rd_mkI rfl (by kernel_rfl)) rfl ?_
      refine Wx.rd (v := .pointer (some ⟨g_1, h.toNat * 1, none⟩)) (rd_indexO Tryz.underlying50 Tryz.sizeOf71 rfl rfl (by first | omega | (simp only [List.length_set, List.length_append, List.length_cons, List.length_nil, List.length_replicate]; omega)) (by first | omega | (simp only [List.length_set, List.length_append, List.length_cons, List.length_nil, List.length_replicate]; omega))) rfl ?_
      refine Wx.nilQ (fun w_46 hx_47 => ?_)
      have hS := hS.ext hx_47
      refine Wx.storeR (j := h.toNat) (z := (HS.w ((hsP (ix hs0 S2 h)) + 1))) hS 3 rfl rfl rfl (by first | omega | (simp only [List.length_set, List.length_append, List.length_cons, List.length_nil, List.length_replicate]; omega)) rfl (V.mkEnc (x := HS.w ((hsP (ix hs0 S2 h)) + 1)) rfl (show InK .i64 _ from (in_i64 (by omega) (by omega)))) Tryz.sizeOf71 (fun w_48 hz_49 hS => ?_)
      refine Wx.nil ?_
      refine ⟨List.set S2 h.toNat (HS.w ((hsP (ix hs0 S2 h)) + 1)), (by show ((n : Int) - hsP (ix hs0 (S2.set h.toNat (HS.w (hsP (ix hs0 S2 h) + 1))) h)).toNat < _; rw [ix_setR p_h.1 (by omega) p_h.1, if_pos rfl]; show ((n : Int) - (hsP (ix hs0 S2 h) + 1)).toNat < _; omega), ?_, ?_, Out.look rfl Out.self⟩
      · exact ⟨St.tl (St.tl (hS.tl)), (by rw [(wish_step hW hI2 p_h.1 p_h.2 c0 c1).1, h1]), ((wish_step hW hI2 p_h.1 p_h.2 c0 c1).2)⟩
      · exact trivial
end Go.Proofs.YtlibemgaepkceaaGreatDoor

namespace Go.Proofs.YtlibemgaepkceaaGreatDoor
open Go.Wk Go.RowKit Go.Lib
set_option linter.unusedVariables false
set_option linter.unusedSimpArgs false
theorem foMe_52_2 : fldOff Tryz.prog 52 2 = some 2 := by kernel_rfl
theorem elMe_50 : ElemI Tryz.prog 50 71 (.nilIface) 1 16 := ElemI.of Tryz.underlying50 (by kernel_rfl) (by first | rfl | kernel_rfl) (by decide)

set_option maxHeartbeats 1000000 in
theorem F33 {wv hv : Value} {Ws : List (List Int)} {H : List Int} {n : Nat} {ob : List Ob} {w0 w : World} {O : List (Option Nat)} (hH : WHOK n Ws H) (hS : St w0 O w ob) (hv1 : V (tSl (tSl tInt)) Ws wv (fb ob O) w) (hv2 : V (tSl tInt) H hv (fb ob O) w) : Calls Tryz.prog 33 #[wv, hv] w (Bk fun r w' => ∃ gf sv rv ov, r = .pointer (some ⟨gf, 0, none⟩) ∧ St w0 O w' (.row tHS 71 sv (List.replicate n (HS.w 0)) :: .row (tSl (tI .i64)) 25 rv ([] : List (List Int)) :: .box gf 52 [wv, ov, sv, rv] :: Ob.v (tSl (tSl (tI .i64))) Ws wv :: Ob.v (tSl (tI .i64)) (invV H) ov :: ob)) := by
  have hWl := hH.l
  have hHl := hH.h.len
  have hn6 := hH.n1
  have hS := hS.add (hv2)
  have ln_2 := (hS.v 0 rfl).len63
  have hS := hS.add (V.upF (hv1))
  have ln_4 := (hS.v 0 rfl).len63
  refine enterB Tryz.func33 rfl Tryz.ntmps33 Tryz.results33 rfl ?_
  refine W.seq ?_
  refine W.reg ?_
  refine Wx.rd (v := (Go.Value.pointer none)) (rd_assign rfl) rfl ?_
  refine Wx.nil ?_
  refine W.seq ?_
  refine W.reg ?_
  refine Wx.rd (v := wv) (rd_move rfl) rfl ?_
  refine Wx.rd (v := hv) (rd_move rfl) rfl ?_
  refine Wx.callF (run_callF Tryz.call55 rfl) (F55 (hS.v 1 rfl) (by rw [hHl]; exact hH.h) (by omega) hS.fb_lt) rfl ?_
  rintro r_5 w_6 hx_7 ⟨_, rfl, hv_8⟩
  have hS := hS.pushFr hx_7 hv_8
  have hS := hS.freeze 0 rfl
  refine Wx.rd (v := .agg #[wv, r_5, (.slice none 0 0), (.slice none 0 0)]) (rd_buildC (vs := [(0, wv), (1, r_5)]) (us := [(0, .agg #[wv]), (1, .agg #[r_5])]) rfl (parts_cons (Go.Wk.cells_one (V.oneC (hS.v 1 rfl))) (parts_cons (Go.Wk.cells_one (V.oneC (hS.v 0 rfl))) parts_nil)) (by kernel_rfl)) rfl ?_
  refine Wx.box (cs := [wv, r_5, (.slice none 0 0), (.slice none 0 0)]) hS rfl rfl rfl (fun g_11 w_12 hx_14 hb_13 hS => ?_)
  refine Wx.rd (v := .pointer (some ⟨g_11, 0, none⟩)) (rd_assign rfl) rfl ?_
  refine Wx.nil ?_
  refine W.seq ?_
  refine W.seq ?_
  refine W.reg ?_
  refine Wx.rd (v := wv) (rd_move rfl) rfl ?_
  refine Wx.rd (v := .int .i64 (Ws.length : Int)) (rd_lenV rfl (hS.v 2 rfl) Tryz.underlying24) rfl ?_
  refine Wx.rd (v := .int .i64 0) (rd_move rfl) rfl ?_
  refine Wx.nil ?_
  refine W.block ?_
  have hS := hS.addNil tHS 71
  have hS := hS.addNil (tSl (tI .i64)) 25
  refine W.loop [13, 14, 15, 16, 17, 18, 19, 20, 21, 22, 23, 24, 25, 26] (fun x : Int × Value × (List HS) => match x with | (k, sv2, S2) => [(13, .int .i64 k)]) (fun (x : Int × Value × (List HS)) w' => match x with | (k, sv2, S2) => St w0 O w' (.row (tSl (tI .i64)) 25 (.slice none 0 0) [] :: .row tHS 71 sv2 S2 :: .box g_11 52 [wv, r_5, sv2, (.slice none 0 0)] :: Ob.v (tSl (tI .i64)) (invV H) r_5 :: Ob.v (tSl (tSl (tI .i64))) Ws wv :: Ob.v (tSl (tI .i64)) H hv :: ob) ∧ 0 ≤ k ∧ k ≤ Ws.length ∧ S2 = List.replicate k.toNat (HS.w 0)) (fun x : Int × Value × (List HS) => match x with | (k, sv2, S2) => (Ws.length - k).toNat) (0, (.slice none 0 0), []) ⟨rfl, trivial⟩ ⟨hS, (by first | omega | simp), (by first | omega | simp), (rfl)⟩ ?_
  rintro ⟨k, sv2, S2⟩ u_16 w_15 ⟨hS, h0, h1, h2⟩
  have hsl : (S2.length : Int) = k := by rw [h2, List.length_replicate]; omega
  refine W.seq ?_
  refine W.reg ?_
  refine Wx.rd (v := .bool (decide (k < (Ws.length : Int)))) (rd_lss rfl rfl) rfl ?_
  refine Wx.nil ?_
  refine W.seq ?_
  refine W.condD rfl (fun c0 => ?_) (fun c0 => ?_)
  · -- yes
    refine W.skip ?_
    refine W.seq ?_
    refine W.block ?_
    refine W.reg ?_
    refine Wx.rd (v := .pointer (some ⟨g_11, 0, none⟩)) (rd_move rfl) rfl ?_
    refine Wx.rd (v := .pointer (some ⟨g_11, 0, none⟩)) (rd_move rfl) rfl ?_
    refine Wx.rd (v := .pointer (some ⟨g_11, 0, none⟩)) (rd_nilCheck rfl rfl) rfl ?_
    refine Wx.rd (v := .pointer (some ⟨g_11, 2, none⟩)) (rd_fieldAddr rfl foMe_52_2) rfl ?_
    refine Wx.rd (v := sv2) (rd_loadX hS 2 rfl rfl rfl Tryz.isAgg50) rfl ?_
    refine Wx.rd (v := .agg #[.int .i64 0]) (rd_build (vs := []) rfl (by kernel_rfl)) rfl ?_
    refine Wx.rd (v := .iface 73 (.agg #[.int .i64 0])) (rd_mkI rfl (by kernel_rfl)) rfl ?_
    refine Wx.lit (t := tHS) (ys := [(HS.w 0)]) (vs := [.iface 73 (.agg #[.int .i64 0])]) elMe_50 hS rfl rfl ⟨(V.mkEnc (x := HS.w 0) rfl (show InK .i64 _ from (in_i64 (by omega) (by omega)))), trivial⟩ (by decide) rfl (fun v_17 w_18 hx_19 hS => ?_)
    refine Wx.append elMe_50 hS 2 rfl rfl rfl (Src.ofR hS 0 rfl) (by simp only [maxLen]; first | omega | (simp; omega) | simp) (by first | omega | (simp; omega) | simp) rfl (fun v_20 w_21 hz_22 hS => ?_)
    refine Wx.rd (v := .pointer (some ⟨g_11, 0, none⟩)) (rd_nilCheck rfl rfl) rfl ?_
    refine Wx.rd (v := .pointer (some ⟨g_11, 2, none⟩)) (rd_fieldAddr rfl foMe_52_2) rfl ?_
    refine Wx.storeX (cs' := [wv, r_5, v_20, (.slice none 0 0)]) (ds := [v_20]) hS 3 rfl rfl rfl (Go.Wk.cells_one (hS.rowOne 2 rfl)) Tryz.sizeOf50 (Nat.le_of_ble_eq_true rfl) (one_cons (hS.rowOne 2 rfl) one_nil) rfl (fun w_23 hz_24 hS => ?_)
    refine Wx.nil ?_
    refine W.reg ?_
    refine Wx.rd (v := .int .i64 (k + 1)) (rd_add rfl rfl (in_i64 (by omega) (by omega))) rfl ?_
    refine Wx.rd (v := .int .i64 (k + 1)) (rd_move rfl) rfl ?_
    refine Wx.nil ?_
    refine ⟨(k + 1, v_20, S2 ++ [(HS.w 0)]), (by show (Ws.length - (k + 1)).toNat < (Ws.length - k).toNat; omega), ?_, ?_, Out.look rfl Out.self⟩
    · exact ⟨hS.tl, (by first | omega | assumption), (by first | omega | assumption), (by rw [h2, show (k + 1).toNat = k.toNat + 1 by omega, List.replicate_succ'])⟩
    · exact ⟨rfl, trivial⟩
  · -- no
    have hsay : S2 = (List.replicate n (HS.w 0)) := by rw [h2, show k.toNat = n by omega]
    rw [hsay] at hS
    refine W.exit rfl ?_
    refine W.seq ?_
    refine W.reg ?_
    refine Wx.rd (v := .pointer (some ⟨g_11, 0, none⟩)) (rd_move rfl) rfl ?_
    refine Wx.rd (v := .pointer (some ⟨g_11, 0, none⟩)) (rd_assign rfl) rfl ?_
    refine Wx.nil ?_
    have hS := hS.drop 5
    have hS := hS.front 3 rfl
    have hS := hS.front 4 rfl
    have hS := hS.front 4 rfl
    have hS := hS.front 3 rfl
    have hS := hS.front 4 rfl
    have hS : St _ _ w_15 (.row tHS 71 sv2 (List.replicate n (HS.w 0)) :: .row (tSl (tI .i64)) 25 (.slice none 0 0) [] :: .box g_11 52 [wv, r_5, sv2, (.slice none 0 0)] :: Ob.v (tSl (tSl (tI .i64))) Ws wv :: Ob.v (tSl (tI .i64)) (invV H) r_5 :: ob) := hS
    exact W.ret ⟨.pointer (some ⟨g_11, 0, none⟩), ResIs.one, _, _, _, _, rfl, hS⟩
end Go.Proofs.YtlibemgaepkceaaGreatDoor

namespace Go.Proofs.YtlibemgaepkceaaGreatDoor
open Go.Wk Go.RowKit Go.Lib
set_option linter.unusedVariables false
set_option linter.unusedSimpArgs false
theorem foMf_52_2 : fldOff Tryz.prog 52 2 = some 2 := by kernel_rfl
theorem elMf_25 : ElemI Tryz.prog 25 3 (.int .i64 0) 1 8 := ElemI.of Tryz.underlying25 (by kernel_rfl) (by first | rfl | kernel_rfl) (by decide)
theorem foMf_52_1 : fldOff Tryz.prog 52 1 = some 1 := by kernel_rfl
theorem mixedMf_ : Tryz.prog.follows .mixedOrders = true := by kernel_rfl
theorem foMf_52_3 : fldOff Tryz.prog 52 3 = some 3 := by kernel_rfl
theorem elMf_24 : ElemI Tryz.prog 24 25 ((.slice none 0 0)) 1 24 := ElemI.of Tryz.underlying24 (by kernel_rfl) (by first | rfl | kernel_rfl) (by decide)

set_option maxHeartbeats 4000000 in
theorem F56 {sv rv wv ov : Value} {Ss : List HS} {R Ws : List (List Int)} {Ow : List Int} {gf : Nat} {n : Nat} {A : AA} {nm : Int} {ob : List Ob} {w0 w : World} {O : List (Option Nat)} (hW : WOK n Ws Ow) (p_n : 1 ≤ n ∧ n ≤ 6) (hA : absL Ss = A) (hI : SInv n Ws Ow Ss) (hR : (R.length : Int) ≤ 6) (hS : St w0 O w (.row tHS 71 sv Ss :: .row (tSl (tI .i64)) 25 rv R :: .box gf 52 [wv, ov, sv, rv] :: Ob.v (tSl (tSl (tI .i64))) Ws wv :: Ob.v (tSl (tI .i64)) Ow ov :: ob)) : Calls Tryz.prog 56 #[.pointer (some ⟨gf, 0, none⟩), .int .i64 nm] w (Bk fun r w' => r = .bool (!decide (rndV (toV Ws Ow A n) n = [])) ∧ ∃ S' rv', absL S' = A ∧ SInv n Ws Ow S' ∧ St w0 O w' (.row tHS 71 sv S' :: .row (tSl (tI .i64)) 25 rv' (R ++ rndV (toV Ws Ow A n) n) :: .box gf 52 [wv, ov, sv, rv'] :: Ob.v (tSl (tSl (tI .i64))) Ws wv :: Ob.v (tSl (tI .i64)) Ow ov :: ob)) := by
  have hWl := hW.l
  have hOl := hW.o
  have hsl := hI.1
  obtain ⟨hto, hclo⟩ := toV_ok hW (A := A)
  have htl := hto.l
  refine enterB Tryz.func56 rfl Tryz.ntmps56 Tryz.results56 rfl ?_
  refine W.seq ?_
  refine W.reg ?_
  refine Wx.rd (v := .bool false) (rd_assign rfl) rfl ?_
  refine Wx.nil ?_
  refine W.seq ?_
  refine W.reg ?_
  refine Wx.rd (v := .pointer (some ⟨gf, 0, none⟩)) (rd_move rfl) rfl ?_
  refine Wx.rd (v := .pointer (some ⟨gf, 0, none⟩)) (rd_nilCheck rfl rfl) rfl ?_
  refine Wx.rd (v := .pointer (some ⟨gf, 2, none⟩)) (rd_fieldAddr rfl foMf_52_2) rfl ?_
  refine Wx.rd (v := sv) (rd_loadX hS 2 rfl rfl rfl Tryz.isAgg50) rfl ?_
  refine Wx.rd (v := .int .i64 (Ss.length : Int)) (rd_lenR hS 0 rfl rfl Tryz.underlying50) rfl ?_
  refine Wx.rd (v := .int .i64 (n : Int)) (Rd.to (v := .int .i64 (Ss.length : Int)) (rd_assign rfl) (congrArg (Value.int .i64) (show ((n : Int) : Int) = ((Ss.length : Int) : Int) from (by rw [hI.1])).symm)) rfl ?_
  refine Wx.nil ?_
  refine W.seq ?_
  refine W.reg ?_
  refine Wx.rd (v := .int .i64 (n : Int)) (rd_move rfl) rfl ?_
  refine Wx.make (t := (tI .i64)) (zy := (0 : Int)) (m := n) elMf_25 rfl rfl (fun _ _ => ⟨rfl, by decide, by decide⟩) hS (congrArg (Value.int .i64) rfl) (congrArg (Value.int .i64) rfl) (by omega) (by simp only [maxLen]; omega) rfl (fun v_1 w_2 hx_3 hS => ?_)
  refine Wx.rd (v := v_1) (rd_assign rfl) rfl ?_
  refine Wx.nil ?_
  refine W.seq ?_
  refine W.seq ?_
  refine W.reg ?_
  refine Wx.rd (v := .int .i64 (n : Int)) (rd_move rfl) rfl ?_
  refine Wx.rd (v := .int .i64 0) (rd_move rfl) rfl ?_
  refine Wx.nil ?_
  refine W.block ?_
  refine W.loop [7, 8, 24, 25, 26, 27, 28, 29, 30, 31, 32, 33, 34, 35, 36, 37, 38, 39, 40, 41, 42, 43, 44, 45] (fun x : Int × (List HS) × (List Int) => match x with | (k, S2, ts) => [(24, .int .i64 k)]) (fun (x : Int × (List HS) × (List Int)) w' => match x with | (k, S2, ts) => St w0 O w' (.row (tI .i64) 3 v_1 ts :: .row tHS 71 sv S2 :: .row (tSl (tI .i64)) 25 rv R :: .box gf 52 [wv, ov, sv, rv] :: Ob.v (tSl (tSl (tI .i64))) Ws wv :: Ob.v (tSl (tI .i64)) Ow ov :: ob) ∧ 0 ≤ k ∧ k ≤ n ∧ absL S2 = A ∧ SInv n Ws Ow S2 ∧ ToI n Ws Ow A ts k) (fun x : Int × (List HS) × (List Int) => match x with | (k, S2, ts) => ((n : Int) - k).toNat) (0, Ss, List.replicate n (0 : Int)) ⟨rfl, trivial⟩ ⟨hS, (by first | omega | simp), (by first | omega | simp), (hA), (hI), (toI_start)⟩ ?_
  rintro ⟨k, S2, ts⟩ u_7 w_6 ⟨hS, k0, k1, hA2, hI2, t2⟩
  have hsl2 := hI2.1
  have htsl := t2.1
  refine W.seq ?_
  refine W.reg ?_
  refine Wx.rd (v := .bool (decide (k < (n : Int)))) (rd_lss rfl rfl) rfl ?_
  refine Wx.nil ?_
  refine W.seq ?_
  refine W.condD rfl (fun c0 => ?_) (fun c0 => ?_)
  · -- yes
    refine W.skip ?_
    refine W.seq ?_
    refine W.block ?_
    refine W.seq ?_
    refine W.reg ?_
    refine Wx.rd (v := .int .i64 k) (rd_move rfl) rfl ?_
    refine Wx.rd (v := .int .i64 k) (rd_assign rfl) rfl ?_
    refine Wx.nil ?_
    refine W.seq ?_
    refine W.reg ?_
    refine Wx.rd (v := v_1) (rd_move rfl) rfl ?_
    refine Wx.rd (v := .int .i64 k) (rd_move rfl) rfl ?_
    refine Wx.indexR hS 0 rfl rfl rfl Tryz.underlying25 Tryz.sizeOf3 (by first | omega | (simp only [List.length_set, List.length_append, List.length_cons, List.length_nil, List.length_replicate]; omega)) (by first | omega | (simp only [List.length_set, List.length_append, List.length_cons, List.length_nil, List.length_replicate]; omega)) rfl (fun g_8 hg_9 => ?_)
    refine Wx.storeR (j := k.toNat) (z := -1) hS 0 rfl hg_9 rfl (by first | omega | (simp only [List.length_set, List.length_append, List.length_cons, List.length_nil, List.length_replicate]; omega)) rfl (V.mkInt (in_i64 (by omega) (by omega))) Tryz.sizeOf3 (fun w_10 hz_11 hS => ?_)
    refine Wx.nil ?_
    refine W.seq ?_
    refine W.reg ?_
    refine Wx.rd (v := .pointer (some ⟨gf, 0, none⟩)) (rd_move rfl) rfl ?_
    refine Wx.rd (v := .int .i64 k) (rd_move rfl) rfl ?_
    have hS := hS.front 5 rfl
    have hS := hS.front 5 rfl
    have hS := hS.front 5 rfl
    have hS := hS.front 5 rfl
    have hS := hS.front 5 rfl
    have hS : St _ _ w_10 (.row tHS 71 sv S2 :: .row (tSl (tI .i64)) 25 rv R :: .box gf 52 [wv, ov, sv, rv] :: Ob.v (tSl (tSl (tI .i64))) Ws wv :: Ob.v (tSl (tI .i64)) Ow ov :: .row (tI .i64) 3 v_1 (List.set ts k.toNat (-1)) :: ob) := hS
    refine Wx.callB (run_callF Tryz.call57 rfl) (F57 (ob := (.row (tI .i64) 3 v_1 (List.set ts k.toNat (-1)) :: ob)) (n := n) (A := A) (h := k) hW p_n hA2 hI2 (show 0 ≤ k ∧ k < (n : Int) from ⟨k0, by omega⟩) hS) rfl ?_
    rintro r_15 w_16 ⟨rfl, S_12, hA_13, hI_14, hS⟩
    have hS : St _ _ w_16 (.row tHS 71 sv S_12 :: .row (tSl (tI .i64)) 25 rv R :: .box gf 52 [wv, ov, sv, rv] :: Ob.v (tSl (tSl (tI .i64))) Ws wv :: Ob.v (tSl (tI .i64)) Ow ov :: .row (tI .i64) 3 v_1 (List.set ts k.toNat (-1)) :: ob) := hS
    have hS := hS.front 4 rfl
    have hS := hS.front 4 rfl
    have hS := hS.front 4 rfl
    have hS := hS.front 4 rfl
    have hS := hS.front 4 rfl
    have hS := hS.front 5 rfl
    have hS : St _ _ w_16 (.row (tI .i64) 3 v_1 (List.set ts k.toNat (-1)) :: .row tHS 71 sv S_12 :: .row (tSl (tI .i64)) 25 rv R :: .box gf 52 [wv, ov, sv, rv] :: Ob.v (tSl (tSl (tI .i64))) Ws wv :: Ob.v (tSl (tI .i64)) Ow ov :: ob) := hS
    have hbw := wish_bd (A := A) hW (x := k) (show 0 ≤ k ∧ k < (n : Int) from ⟨k0, by omega⟩).1 (show 0 ≤ k ∧ k < (n : Int) from ⟨k0, by omega⟩).2
    refine Wx.rd (v := .int .i64 (wishV Ws Ow A k)) (rd_assign rfl) rfl ?_
    refine Wx.nil ?_
    refine W.seq ?_
    refine W.reg ?_
    refine Wx.rd (v := .int .i64 (wishV Ws Ow A k)) (rd_move rfl) rfl ?_
    refine Wx.rd (v := .bool (decide (0 ≤ (wishV Ws Ow A k)))) (rd_geq rfl rfl) rfl ?_
    refine Wx.nil ?_
    refine W.condD rfl (fun c1 => ?_) (fun c1 => ?_)
    · -- yes
      refine W.reg ?_
      refine Wx.rd (v := v_1) (rd_move rfl) rfl ?_
      refine Wx.rd (v := .int .i64 k) (rd_move rfl) rfl ?_
      refine Wx.rd (v := .pointer (some ⟨gf, 0, none⟩)) (rd_move rfl) rfl ?_
      refine Wx.rd (v := .pointer (some ⟨gf, 0, none⟩)) (rd_nilCheck rfl rfl) rfl ?_
      refine Wx.rd (v := .pointer (some ⟨gf, 1, none⟩)) (rd_fieldAddr rfl foMf_52_1) rfl ?_
      refine Wx.rd (v := ov) (rd_loadX hS 3 rfl rfl rfl Tryz.isAgg25) rfl ?_
      refine Wx.rd (v := .int .i64 (wishV Ws Ow A k)) (rd_move rfl) rfl ?_
      refine Wx.ex (rd_index 0 (hS.v 5 rfl) rfl rfl Tryz.underlying25 Tryz.sizeOf3 (by first | omega | (simp only [List.length_set, List.length_append, List.length_cons, List.length_nil, List.length_replicate]; omega)) (by first | omega | (simp only [List.length_set, List.length_append, List.length_cons, List.length_nil, List.length_replicate]; omega))) rfl (fun p_17 hp_18 => ?_)
      refine Wx.rd (v := .int .i64 (ix 0 Ow (wishV Ws Ow A k))) (rd_loadI hp_18 rfl Tryz.isAgg3 Tryz.sizeOf3) rfl ?_
      have bd_19 := bd_i64 hp_18.inK
      refine Wx.indexR hS 0 rfl rfl rfl Tryz.underlying25 Tryz.sizeOf3 (by first | omega | (simp only [List.length_set, List.length_append, List.length_cons, List.length_nil, List.length_replicate]; omega)) (by first | omega | (simp only [List.length_set, List.length_append, List.length_cons, List.length_nil, List.length_replicate]; omega)) rfl (fun g_20 hg_21 => ?_)
      refine Wx.storeR (j := k.toNat) (z := ix 0 Ow (wishV Ws Ow A k)) hS 0 rfl hg_21 rfl (by first | omega | (simp only [List.length_set, List.length_append, List.length_cons, List.length_nil, List.length_replicate]; omega)) rfl (V.mkInt (in_i64 (by omega) (by omega))) Tryz.sizeOf3 (fun w_22 hz_23 hS => ?_)
      refine Wx.nil ?_
      refine W.reg ?_
      refine Wx.rd (v := .int .i64 (k + 1)) (rd_add rfl rfl (in_i64 (by omega) (by omega))) rfl ?_
      refine Wx.rd (v := .int .i64 (k + 1)) (rd_move rfl) rfl ?_
      refine Wx.nil ?_
      refine ⟨(k + 1, S_12, List.set (List.set ts k.toNat (-1)) k.toNat (ix 0 Ow (wishV Ws Ow A k))), (by show ((n : Int) - (k + 1)).toNat < ((n : Int) - k).toNat; omega), ?_, ?_, Out.look rfl Out.self⟩
      · exact ⟨hS, (by first | omega | assumption), (by first | omega | assumption), (by assumption), (by assumption), (toI_yes t2 k0 (by omega) c1)⟩
      · exact ⟨rfl, trivial⟩
    · -- no
      refine W.skip ?_
      refine W.reg ?_
      refine Wx.rd (v := .int .i64 (k + 1)) (rd_add rfl rfl (in_i64 (by omega) (by omega))) rfl ?_
      refine Wx.rd (v := .int .i64 (k + 1)) (rd_move rfl) rfl ?_
      refine Wx.nil ?_
      refine ⟨(k + 1, S_12, List.set ts k.toNat (-1)), (by show ((n : Int) - (k + 1)).toNat < ((n : Int) - k).toNat; omega), ?_, ?_, Out.look rfl Out.self⟩
      · exact ⟨hS, (by first | omega | assumption), (by first | omega | assumption), (by assumption), (by assumption), (toI_no t2 k0 (by omega) c1)⟩
      · exact ⟨rfl, trivial⟩
  · -- no
    have hsay : ts = (toV Ws Ow A n) := toI_all t2 (by omega)
    rw [hsay] at hS
    refine W.exit rfl ?_
    refine W.seq ?_
    refine W.reg ?_
    refine Wx.rd (v := .int .i64 (n : Int)) (rd_move rfl) rfl ?_
    refine Wx.make (t := (tI .i64)) (zy := (0 : Int)) (m := n) elMf_25 rfl rfl (fun _ _ => ⟨rfl, by decide, by decide⟩) hS (congrArg (Value.int .i64) rfl) (congrArg (Value.int .i64) rfl) (by omega) (by simp only [maxLen]; omega) rfl (fun v_24 w_25 hx_26 hS => ?_)
    refine Wx.rd (v := v_24) (rd_assign rfl) rfl ?_
    refine Wx.nil ?_
    refine W.seq ?_
    refine W.reg ?_
    refine Wx.rd (v := .bool false) (rd_assign rfl) rfl ?_
    refine Wx.nil ?_
    refine W.seq ?_
    refine W.seq ?_
    refine W.reg ?_
    refine Wx.rd (v := .int .i64 (n : Int)) (rd_move rfl) rfl ?_
    refine Wx.rd (v := .int .i64 0) (rd_move rfl) rfl ?_
    refine Wx.nil ?_
    refine W.block ?_
    refine W.loop [10, 11, 12, 13, 14, 15, 49, 50, 51, 52, 53, 54, 55, 56, 57, 58, 59, 60, 61, 62, 63, 64, 65, 66, 67, 68, 69, 70, 71, 72, 73, 74, 75, 76, 77, 78, 79, 80, 81, 82, 83, 84, 85, 86, 87, 88, 89, 90, 91, 92, 93, 94, 95, 96, 97, 98, 99, 100, 101, 102, 103, 104, 105, 106, 107, 108, 109, 110, 111, 112, 113, 114, 115, 116, 117, 118, 119, 120, 121, 122, 123, 124, 125, 126] (fun x : Bool × Int × (List Int) × Value × (List (List Int)) × (List (List Int)) => match x with | (fd, h, ms, rv2, R2, Q) => [(10, .bool fd), (49, .int .i64 h)]) (fun (x : Bool × Int × (List Int) × Value × (List (List Int)) × (List (List Int))) w' => match x with | (fd, h, ms, rv2, R2, Q) => St w0 O w' (.row (tI .i64) 3 v_24 ms :: .row (tI .i64) 3 v_1 (toV Ws Ow A n) :: .row tHS 71 sv S2 :: .row (tSl (tI .i64)) 25 rv2 R2 :: .box gf 52 [wv, ov, sv, rv2] :: Ob.v (tSl (tSl (tI .i64))) Ws wv :: Ob.v (tSl (tI .i64)) Ow ov :: ob) ∧ 0 ≤ h ∧ h ≤ n ∧ scanK (toV Ws Ow A n) n h = (ms, Q) ∧ R2 = R ++ Q ∧ fd = !decide (Q = []) ∧ (Q.length : Int) ≤ h) (fun x : Bool × Int × (List Int) × Value × (List (List Int)) × (List (List Int)) => match x with | (fd, h, ms, rv2, R2, Q) => ((n : Int) - h).toNat) (false, 0, List.replicate n (0 : Int), rv, R, ([] : List (List Int))) ⟨rfl, rfl, trivial⟩ ⟨hS, (by first | omega | simp), (by first | omega | simp), (rfl), ((List.append_nil R).symm), (rfl), (by simp)⟩ ?_
    rintro ⟨fd, h, ms, rv2, R2, Q⟩ u_30 w_29 ⟨hS, q0, q1, q2, q3, q5, q6⟩
    have hsc := scan_ok hto hclo h.toNat (by omega)
    rw [Int.toNat_of_nonneg q0, q2] at hsc
    have hml : ms.length = n := hsc.len
    have hRl : (R2.length : Int) ≤ 12 := by rw [q3, List.length_append]; omega
    refine W.seq ?_
    refine W.reg ?_
    refine Wx.rd (v := .bool (decide (h < (n : Int)))) (rd_lss rfl rfl) rfl ?_
    refine Wx.nil ?_
    refine W.seq ?_
    refine W.condD rfl (fun c2 => ?_) (fun c2 => ?_)
    · -- yes
      refine W.skip ?_
      refine W.seq ?_
      refine W.block ?_
      refine W.seq ?_
      refine W.reg ?_
      refine Wx.rd (v := .int .i64 h) (rd_move rfl) rfl ?_
      refine Wx.rd (v := .int .i64 h) (rd_assign rfl) rfl ?_
      refine Wx.nil ?_
      refine W.seq ?_
      refine W.reg ?_
      refine Wx.rd (v := .int .i64 h) (rd_move rfl) rfl ?_
      refine Wx.rd (v := .int .i64 h) (rd_assign rfl) rfl ?_
      refine Wx.nil ?_
      refine W.seq ?_
      refine W.block ?_
      refine W.loop [12, 53, 54, 55, 56, 57, 58, 59, 60, 61, 62, 63, 64, 65, 66, 67, 68, 69, 70, 71, 72, 73] (fun x : Int × (List Int) => match x with | (at_, m2) => [(12, .int .i64 at_)]) (fun (x : Int × (List Int)) w' => match x with | (at_, m2) => St w0 O w' (.row (tI .i64) 3 v_24 m2 :: .row (tI .i64) 3 v_1 (toV Ws Ow A n) :: .row tHS 71 sv S2 :: .row (tSl (tI .i64)) 25 rv2 R2 :: .box gf 52 [wv, ov, sv, rv2] :: Ob.v (tSl (tSl (tI .i64))) Ws wv :: Ob.v (tSl (tI .i64)) Ow ov :: ob) ∧ 0 ≤ at_ ∧ at_ < n ∧ m2.length = n ∧ (pthV (toV Ws Ow A n) (h + 1) m2 at_).2 = (pthV (toV Ws Ow A n) (h + 1) ms h).2) (fun x : Int × (List Int) => match x with | (at_, m2) => m2.count 0) (h, ms) ⟨rfl, trivial⟩ ⟨hS, (q0), (by first | omega | simp), (hml), (rfl)⟩ ?_
      rintro ⟨at_, m2⟩ u_32 w_31 ⟨hS, a0, a00, a1, a2⟩
      have ha1 := hto.r at_ a0 a00
      have ham := pthV_next (to := (toV Ws Ow A n)) (k := h + 1) (met := m2) (a := at_)
      refine W.seq ?_
      refine W.seq ?_
      refine W.reg ?_
      refine Wx.rd (v := v_1) (rd_move rfl) rfl ?_
      refine Wx.rd (v := .int .i64 at_) (rd_move rfl) rfl ?_
      refine Wx.indexR hS 1 rfl rfl rfl Tryz.underlying25 Tryz.sizeOf3 (by first | omega | (simp only [List.length_set, List.length_append, List.length_cons, List.length_nil, List.length_replicate]; omega)) (by first | omega | (simp only [List.length_set, List.length_append, List.length_cons, List.length_nil, List.length_replicate]; omega)) rfl (fun g_33 hg_34 => ?_)
      refine Wx.rd (v := .int .i64 (ix 0 (toV Ws Ow A n) at_)) (rd_loadRI' hS 1 rfl hg_34 rfl (by first | omega | (simp only [List.length_set, List.length_append, List.length_cons, List.length_nil, List.length_replicate]; omega)) (by first | omega | (simp only [List.length_set, List.length_append, List.length_cons, List.length_nil, List.length_replicate]; omega)) Tryz.isAgg3 Tryz.sizeOf3) rfl ?_
      have bd_35 := bd_i64 (hS.rowInK' 1 rfl (by first | omega | (simp only [List.length_set, List.length_append, List.length_cons, List.length_nil, List.length_replicate]; omega)) (by first | omega | (simp only [List.length_set, List.length_append, List.length_cons, List.length_nil, List.length_replicate]; omega)) : InK .i64 (ix 0 (toV Ws Ow A n) at_))
      refine Wx.rd (v := .bool (decide (0 ≤ (ix 0 (toV Ws Ow A n) at_)))) (rd_geq rfl rfl) rfl ?_
      refine Wx.rd (v := .bool (decide (0 ≤ (ix 0 (toV Ws Ow A n) at_)))) (rd_move rfl) rfl ?_
      refine Wx.cut (X := Unit) 6 [59, 60, 61, 62, 63, 64] (fun _ => [(64, .bool (decide (0 ≤ (ix 0 (toV Ws Ow A n) at_)) && decide ((ix 0 m2 at_) = 0)))]) (fun _ w' => St w0 O w' (.row (tI .i64) 3 v_24 m2 :: .row (tI .i64) 3 v_1 (toV Ws Ow A n) :: .row tHS 71 sv S2 :: .row (tSl (tI .i64)) 25 rv2 R2 :: .box gf 52 [wv, ov, sv, rv2] :: Ob.v (tSl (tSl (tI .i64))) Ws wv :: Ob.v (tSl (tI .i64)) Ow ov :: ob)) ?_ ?_
      · rcases Bool.eq_false_or_eq_true (decide (0 ≤ (ix 0 (toV Ws Ow A n) at_))) with g_36 | g_36
        · -- True
          have gp_37 := of_decide_eq_true g_36
          refine Wx.gyes rfl rfl (congrArg Value.bool g_36) ?_
          refine Wx.rd (v := v_24) (rd_move rfl) rfl ?_
          refine Wx.gyes rfl rfl (congrArg Value.bool g_36) ?_
          refine Wx.rd (v := .int .i64 at_) (rd_move rfl) rfl ?_
          refine Wx.gyes rfl rfl (congrArg Value.bool g_36) ?_
          refine Wx.indexR hS 0 rfl rfl rfl Tryz.underlying25 Tryz.sizeOf3 (by first | omega | (simp only [List.length_set, List.length_append, List.length_cons, List.length_nil, List.length_replicate]; omega)) (by first | omega | (simp only [List.length_set, List.length_append, List.length_cons, List.length_nil, List.length_replicate]; omega)) rfl (fun g_38 hg_39 => ?_)
          refine Wx.gyes rfl rfl (congrArg Value.bool g_36) ?_
          refine Wx.rd (v := .int .i64 (ix 0 m2 at_)) (rd_loadRI' hS 0 rfl hg_39 rfl (by first | omega | (simp only [List.length_set, List.length_append, List.length_cons, List.length_nil, List.length_replicate]; omega)) (by first | omega | (simp only [List.length_set, List.length_append, List.length_cons, List.length_nil, List.length_replicate]; omega)) Tryz.isAgg3 Tryz.sizeOf3) rfl ?_
          have bd_40 := bd_i64 (hS.rowInK' 0 rfl (by first | omega | (simp only [List.length_set, List.length_append, List.length_cons, List.length_nil, List.length_replicate]; omega)) (by first | omega | (simp only [List.length_set, List.length_append, List.length_cons, List.length_nil, List.length_replicate]; omega)) : InK .i64 (ix 0 m2 at_))
          refine Wx.gyes rfl rfl (congrArg Value.bool g_36) ?_
          refine Wx.rd (v := .bool (decide ((ix 0 m2 at_) = 0))) (rd_eql rfl rfl) rfl ?_
          refine Wx.rd (v := .bool (decide ((ix 0 m2 at_) = 0))) (rd_pickT (congrArg Value.bool g_36) rfl) rfl ?_
          refine Wx.nil ⟨(), hS, ⟨?_, trivial⟩, Out.look rfl Out.refl⟩
          show Value.bool (decide ((ix 0 m2 at_) = 0)) = Value.bool (decide (0 ≤ (ix 0 (toV Ws Ow A n) at_)) && decide ((ix 0 m2 at_) = 0))
          first | rw [g_36, Bool.true_and] | (rw [g_36]; rfl)
        · -- False
          have gp_41 := of_decide_eq_false g_36
          refine Wx.gnoB rfl rfl (congrArg Value.bool g_36) rfl rfl ?_
          refine Wx.gnoB rfl rfl (congrArg Value.bool g_36) rfl rfl ?_
          refine Wx.gnoB rfl rfl (congrArg Value.bool g_36) rfl rfl ?_
          refine Wx.gnoB rfl rfl (congrArg Value.bool g_36) rfl rfl ?_
          refine Wx.gnoB rfl rfl (congrArg Value.bool g_36) rfl rfl ?_
          refine Wx.rd (v := .bool false) (rd_pickF (congrArg Value.bool g_36) rfl) rfl ?_
          refine Wx.nil ⟨(), hS, ⟨?_, trivial⟩, Out.look rfl Out.refl⟩
          show Value.bool false = Value.bool (decide (0 ≤ (ix 0 (toV Ws Ow A n) at_)) && decide ((ix 0 m2 at_) = 0))
          first | rw [g_36, Bool.false_and] | (rw [g_36]; rfl)
      rintro ⟨⟩ u_43 w_42 hS
      refine Wx.nil ?_
      refine W.cond rfl (fun c3 => ?_) (fun c3 => ?_)
      · -- yes
        try simp only [Bool.and_eq_true, Bool.or_eq_true, Bool.not_eq_true', Bool.and_eq_false_iff, Bool.or_eq_false_iff, Bool.not_eq_false', decide_eq_true_eq, decide_eq_false_iff_not, not_or, Bool.false_eq_true, Bool.true_eq_false, false_or, or_false, not_false_eq_true] at c3
        refine W.skip ?_
        refine W.block ?_
        refine W.seq ?_
        refine W.reg ?_
        refine Wx.rd (v := v_24) (rd_move rfl) rfl ?_
        refine Wx.rd (v := .int .i64 at_) (rd_move rfl) rfl ?_
        refine Wx.rd (v := .int .i64 h) (rd_move rfl) rfl ?_
        refine Wx.rd (v := .int .i64 (h + 1)) (rd_add rfl rfl (in_i64 (by omega) (by omega))) rfl ?_
        refine Wx.indexR hS 0 rfl rfl rfl Tryz.underlying25 Tryz.sizeOf3 (by first | omega | (simp only [List.length_set, List.length_append, List.length_cons, List.length_nil, List.length_replicate]; omega)) (by first | omega | (simp only [List.length_set, List.length_append, List.length_cons, List.length_nil, List.length_replicate]; omega)) rfl (fun g_44 hg_45 => ?_)
        refine Wx.storeR (j := at_.toNat) (z := h + 1) hS 0 rfl hg_45 rfl (by first | omega | (simp only [List.length_set, List.length_append, List.length_cons, List.length_nil, List.length_replicate]; omega)) rfl (V.mkInt (in_i64 (by omega) (by omega))) Tryz.sizeOf3 (fun w_46 hz_47 hS => ?_)
        refine Wx.nil ?_
        refine W.reg ?_
        refine Wx.rd (v := v_1) (rd_move rfl) rfl ?_
        refine Wx.rd (v := .int .i64 at_) (rd_move rfl) rfl ?_
        refine Wx.indexR hS 1 rfl rfl rfl Tryz.underlying25 Tryz.sizeOf3 (by first | omega | (simp only [List.length_set, List.length_append, List.length_cons, List.length_nil, List.length_replicate]; omega)) (by first | omega | (simp only [List.length_set, List.length_append, List.length_cons, List.length_nil, List.length_replicate]; omega)) rfl (fun g_48 hg_49 => ?_)
        refine Wx.rd (v := .int .i64 (ix 0 (toV Ws Ow A n) at_)) (rd_loadRI' hS 1 rfl hg_49 rfl (by first | omega | (simp only [List.length_set, List.length_append, List.length_cons, List.length_nil, List.length_replicate]; omega)) (by first | omega | (simp only [List.length_set, List.length_append, List.length_cons, List.length_nil, List.length_replicate]; omega)) Tryz.isAgg3 Tryz.sizeOf3) rfl ?_
        have bd_50 := bd_i64 (hS.rowInK' 1 rfl (by first | omega | (simp only [List.length_set, List.length_append, List.length_cons, List.length_nil, List.length_replicate]; omega)) (by first | omega | (simp only [List.length_set, List.length_append, List.length_cons, List.length_nil, List.length_replicate]; omega)) : InK .i64 (ix 0 (toV Ws Ow A n) at_))
        refine Wx.rd (v := .int .i64 (ix 0 (toV Ws Ow A n) at_)) (rd_assign rfl) rfl ?_
        refine Wx.nil ?_
        refine ⟨(ix 0 (toV Ws Ow A n) at_, List.set m2 at_.toNat (h + 1)), (by show (m2.set at_.toNat (h + 1)).count 0 < m2.count 0; have := count_set0 (k := h + 1) a0 (by omega) c3.2 (by omega); omega), ?_, ?_, Out.look rfl (Out.hav rfl (Out.look rfl Out.self))⟩
        · exact ⟨hS, (c3.1), (ha1.2), (by rw [List.length_set]; exact a1), (by rw [← a2, ham (by omega) a0 (by omega) c3.1 c3.2])⟩
        · exact ⟨rfl, trivial⟩
      · -- no
        try simp only [Bool.and_eq_true, Bool.or_eq_true, Bool.not_eq_true', Bool.and_eq_false_iff, Bool.or_eq_false_iff, Bool.not_eq_false', decide_eq_true_eq, decide_eq_false_iff_not, not_or, Bool.false_eq_true, Bool.true_eq_false, false_or, or_false, not_false_eq_true] at c3
        have hpe : (pthV (toV Ws Ow A n) (h + 1) ms h).2 = (m2, at_) := by rw [← a2, pthV_end (by omega)]
        have hat := hto.r at_ a0 a00
        refine W.exit rfl ?_
        refine W.seq ?_
        refine W.seq ?_
        refine W.reg ?_
        refine Wx.rd (v := v_1) (rd_move rfl) rfl ?_
        refine Wx.rd (v := .int .i64 at_) (rd_move rfl) rfl ?_
        refine Wx.indexR hS 1 rfl rfl rfl Tryz.underlying25 Tryz.sizeOf3 (by first | omega | (simp only [List.length_set, List.length_append, List.length_cons, List.length_nil, List.length_replicate]; omega)) (by first | omega | (simp only [List.length_set, List.length_append, List.length_cons, List.length_nil, List.length_replicate]; omega)) rfl (fun g_51 hg_52 => ?_)
        refine Wx.rd (v := .int .i64 (ix 0 (toV Ws Ow A n) at_)) (rd_loadRI' hS 1 rfl hg_52 rfl (by first | omega | (simp only [List.length_set, List.length_append, List.length_cons, List.length_nil, List.length_replicate]; omega)) (by first | omega | (simp only [List.length_set, List.length_append, List.length_cons, List.length_nil, List.length_replicate]; omega)) Tryz.isAgg3 Tryz.sizeOf3) rfl ?_
        have bd_53 := bd_i64 (hS.rowInK' 1 rfl (by first | omega | (simp only [List.length_set, List.length_append, List.length_cons, List.length_nil, List.length_replicate]; omega)) (by first | omega | (simp only [List.length_set, List.length_append, List.length_cons, List.length_nil, List.length_replicate]; omega)) : InK .i64 (ix 0 (toV Ws Ow A n) at_))
        refine Wx.rd (v := .bool (decide ((ix 0 (toV Ws Ow A n) at_) < 0))) (rd_lss rfl rfl) rfl ?_
        refine Wx.rd (v := .bool (decide ((ix 0 (toV Ws Ow A n) at_) < 0))) (rd_move rfl) rfl ?_
        refine Wx.cut (X := Unit) 8 [80, 81, 82, 83, 84, 85, 86, 87] (fun _ => [(87, .bool (decide ((ix 0 (toV Ws Ow A n) at_) < 0) || decide ((ix 0 m2 at_) ≠ (h + 1))))]) (fun _ w' => St w0 O w' (.row (tI .i64) 3 v_24 m2 :: .row (tI .i64) 3 v_1 (toV Ws Ow A n) :: .row tHS 71 sv S2 :: .row (tSl (tI .i64)) 25 rv2 R2 :: .box gf 52 [wv, ov, sv, rv2] :: Ob.v (tSl (tSl (tI .i64))) Ws wv :: Ob.v (tSl (tI .i64)) Ow ov :: ob)) ?_ ?_
        · rcases Bool.eq_false_or_eq_true (decide ((ix 0 (toV Ws Ow A n) at_) < 0)) with g_54 | g_54
          · -- True
            have gp_55 := of_decide_eq_true g_54
            refine Wx.gnoB rfl rfl (congrArg Value.bool g_54) rfl rfl ?_
            refine Wx.gnoB rfl rfl (congrArg Value.bool g_54) rfl rfl ?_
            refine Wx.gnoB rfl rfl (congrArg Value.bool g_54) rfl rfl ?_
            refine Wx.gnoB rfl rfl (congrArg Value.bool g_54) rfl rfl ?_
            refine Wx.gnoB rfl rfl (congrArg Value.bool g_54) rfl rfl ?_
            refine Wx.gnoB rfl rfl (congrArg Value.bool g_54) rfl rfl ?_
            refine Wx.gnoB rfl rfl (congrArg Value.bool g_54) rfl rfl ?_
            refine Wx.rd (v := .bool true) (rd_pickT (congrArg Value.bool g_54) rfl) rfl ?_
            refine Wx.nil ⟨(), hS, ⟨?_, trivial⟩, Out.look rfl Out.refl⟩
            show Value.bool true = Value.bool (decide ((ix 0 (toV Ws Ow A n) at_) < 0) || decide ((ix 0 m2 at_) ≠ (h + 1)))
            first | rw [g_54, Bool.true_or] | (rw [g_54]; rfl)
          · -- False
            have gp_56 := of_decide_eq_false g_54
            refine Wx.gyes rfl rfl (congrArg Value.bool g_54) ?_
            refine Wx.rd (v := v_24) (rd_move rfl) rfl ?_
            refine Wx.gyes rfl rfl (congrArg Value.bool g_54) ?_
            refine Wx.rd (v := .int .i64 at_) (rd_move rfl) rfl ?_
            refine Wx.gyes rfl rfl (congrArg Value.bool g_54) ?_
            refine Wx.indexR hS 0 rfl rfl rfl Tryz.underlying25 Tryz.sizeOf3 (by first | omega | (simp only [List.length_set, List.length_append, List.length_cons, List.length_nil, List.length_replicate]; omega)) (by first | omega | (simp only [List.length_set, List.length_append, List.length_cons, List.length_nil, List.length_replicate]; omega)) rfl (fun g_57 hg_58 => ?_)
            refine Wx.gyes rfl rfl (congrArg Value.bool g_54) ?_
            refine Wx.rd (v := .int .i64 (ix 0 m2 at_)) (rd_loadRI' hS 0 rfl hg_58 rfl (by first | omega | (simp only [List.length_set, List.length_append, List.length_cons, List.length_nil, List.length_replicate]; omega)) (by first | omega | (simp only [List.length_set, List.length_append, List.length_cons, List.length_nil, List.length_replicate]; omega)) Tryz.isAgg3 Tryz.sizeOf3) rfl ?_
            have bd_59 := bd_i64 (hS.rowInK' 0 rfl (by first | omega | (simp only [List.length_set, List.length_append, List.length_cons, List.length_nil, List.length_replicate]; omega)) (by first | omega | (simp only [List.length_set, List.length_append, List.length_cons, List.length_nil, List.length_replicate]; omega)) : InK .i64 (ix 0 m2 at_))
            refine Wx.gyes rfl rfl (congrArg Value.bool g_54) ?_
            refine Wx.rd (v := .int .i64 h) (rd_move rfl) rfl ?_
            refine Wx.gyes rfl rfl (congrArg Value.bool g_54) ?_
            refine Wx.rd (v := .int .i64 (h + 1)) (rd_add rfl rfl (in_i64 (by omega) (by omega))) rfl ?_
            refine Wx.gyes rfl rfl (congrArg Value.bool g_54) ?_
            refine Wx.rd (v := .bool (decide ((ix 0 m2 at_) ≠ (h + 1)))) (rd_neq rfl rfl) rfl ?_
            refine Wx.rd (v := .bool (decide ((ix 0 m2 at_) ≠ (h + 1)))) (rd_pickF (congrArg Value.bool g_54) rfl) rfl ?_
            refine Wx.nil ⟨(), hS, ⟨?_, trivial⟩, Out.look rfl Out.refl⟩
            show Value.bool (decide ((ix 0 m2 at_) ≠ (h + 1))) = Value.bool (decide ((ix 0 (toV Ws Ow A n) at_) < 0) || decide ((ix 0 m2 at_) ≠ (h + 1)))
            first | rw [g_54, Bool.false_or] | (rw [g_54]; rfl)
        rintro ⟨⟩ u_61 w_60 hS
        refine Wx.nil ?_
        refine W.cond rfl (fun c4 => ?_) (fun c4 => ?_)
        · -- yes
          try simp only [Bool.and_eq_true, Bool.or_eq_true, Bool.not_eq_true', Bool.and_eq_false_iff, Bool.or_eq_false_iff, Bool.not_eq_false', decide_eq_true_eq, decide_eq_false_iff_not, not_or, Bool.false_eq_true, Bool.true_eq_false, false_or, or_false, not_false_eq_true] at c4
          have hsk := scan_skip (Q := Q) hpe c4
          refine W.exit rfl ?_
          refine W.reg ?_
          refine Wx.rd (v := .int .i64 (h + 1)) (rd_add rfl rfl (in_i64 (by omega) (by omega))) rfl ?_
          refine Wx.rd (v := .int .i64 (h + 1)) (rd_move rfl) rfl ?_
          refine Wx.nil ?_
          refine ⟨(fd, h + 1, m2, rv2, R2, Q), (by show ((n : Int) - (h + 1)).toNat < ((n : Int) - h).toNat; omega), ?_, ?_, Out.look rfl (Out.hav rfl (Out.look rfl (Out.hav rfl (Out.look rfl (Out.hav rfl (Out.look rfl Out.self))))))⟩
          · exact ⟨hS, (by first | omega | assumption), (by first | omega | assumption), (by rw [scan_next q0 (by omega), q2, hsk]), (by first | omega | assumption), (by first | omega | assumption), (by first | omega | assumption)⟩
          · exact ⟨rfl, rfl, trivial⟩
        · -- no
          try simp only [Bool.and_eq_true, Bool.or_eq_true, Bool.not_eq_true', Bool.and_eq_false_iff, Bool.or_eq_false_iff, Bool.not_eq_false', decide_eq_true_eq, decide_eq_false_iff_not, not_or, Bool.false_eq_true, Bool.true_eq_false, false_or, or_false, not_false_eq_true] at c4
          have c4n : ¬ (ix 0 (toV Ws Ow A n) at_ < 0 ∨ ix 0 m2 at_ ≠ h + 1) := by omega
          have hsr := scan_ring (Q := Q) hpe c4n
          have hcy := scan_cyc hto hsc q0 (by omega) hpe c4n
          have hcl := hcy.len
          have hcp := List.length_pos_iff.2 hcy.ne
          obtain ⟨hrt, hrf⟩ := rot_at hcy.ne
          refine W.skip ?_
          refine W.seq ?_
          refine W.reg ?_
          refine Wx.rd (v := .bool true) (rd_assign rfl) rfl ?_
          refine Wx.nil ?_
          refine W.seq ?_
          refine W.reg ?_
          refine Wx.rd (v := (.slice none 0 0)) (rd_assign rfl) rfl ?_
          refine Wx.nil ?_
          refine W.seq ?_
          refine W.seq ?_
          refine W.reg ?_
          refine Wx.rd (v := .int .i64 at_) (rd_move rfl) rfl ?_
          refine Wx.rd (v := .int .i64 at_) (rd_assign rfl) rfl ?_
          refine Wx.nil ?_
          refine W.block ?_
          have hS := hS.addNil (tI .i64) 3
          refine W.loop [13, 14, 89, 90, 91, 92, 93, 94, 95, 96, 97, 98, 99, 100, 101, 102, 103, 104] (fun x : Int × Value × (List Int) × (List Int) => match x with | (x, gv, g, rest) => [(14, .int .i64 x), (13, gv)]) (fun (x : Int × Value × (List Int) × (List Int)) w' => match x with | (x, gv, g, rest) => St w0 O w' (.row (tI .i64) 3 gv g :: .row (tI .i64) 3 v_24 m2 :: .row (tI .i64) 3 v_1 (toV Ws Ow A n) :: .row tHS 71 sv S2 :: .row (tSl (tI .i64)) 25 rv2 R2 :: .box gf 52 [wv, ov, sv, rv2] :: Ob.v (tSl (tSl (tI .i64))) Ws wv :: Ob.v (tSl (tI .i64)) Ow ov :: ob) ∧ RgI (toV Ws Ow A n) at_ (cyclV (pthV (toV Ws Ow A n) (h + 1) ms h)) g rest x ∧ g.length + rest.length ≤ 6) (fun x : Int × Value × (List Int) × (List Int) => match x with | (x, gv, g, rest) => rest.length) (at_, (.slice none 0 0), [], (cyclV (pthV (toV Ws Ow A n) (h + 1) ms h))) ⟨rfl, rfl, trivial⟩ ⟨hS, (rg_start hcy), (by have := hcy.len; simp; omega)⟩ ?_
          rintro ⟨x, gv, g, rest⟩ u_63 w_62 ⟨hS, r1, r2⟩
          refine W.seq ?_
          refine W.seq ?_
          refine W.reg ?_
          refine Wx.rd (v := gv) (rd_move rfl) rfl ?_
          refine Wx.rd (v := .int .i64 (g.length : Int)) (rd_lenR hS 0 rfl rfl Tryz.underlying25) rfl ?_
          refine Wx.rd (v := .bool (decide ((g.length : Int) = 0))) (rd_eql rfl rfl) rfl ?_
          refine Wx.rd (v := .bool (decide ((g.length : Int) = 0))) (rd_move rfl) rfl ?_
          refine Wx.cut (X := Unit) 4 [93, 94, 95, 96] (fun _ => [(96, .bool (decide ((g.length : Int) = 0) || decide (x ≠ at_)))]) (fun _ w' => St w0 O w' (.row (tI .i64) 3 gv g :: .row (tI .i64) 3 v_24 m2 :: .row (tI .i64) 3 v_1 (toV Ws Ow A n) :: .row tHS 71 sv S2 :: .row (tSl (tI .i64)) 25 rv2 R2 :: .box gf 52 [wv, ov, sv, rv2] :: Ob.v (tSl (tSl (tI .i64))) Ws wv :: Ob.v (tSl (tI .i64)) Ow ov :: ob)) ?_ ?_
          · rcases Bool.eq_false_or_eq_true (decide ((g.length : Int) = 0)) with g_64 | g_64
            · -- True
              have gp_65 := of_decide_eq_true g_64
              refine Wx.gnoB rfl rfl (congrArg Value.bool g_64) rfl rfl ?_
              refine Wx.gnoB rfl rfl (congrArg Value.bool g_64) rfl rfl ?_
              refine Wx.gnoB rfl rfl (congrArg Value.bool g_64) rfl rfl ?_
              refine Wx.rd (v := .bool true) (rd_pickT (congrArg Value.bool g_64) rfl) rfl ?_
              refine Wx.nil ⟨(), hS, ⟨?_, trivial⟩, Out.look rfl Out.refl⟩
              show Value.bool true = Value.bool (decide ((g.length : Int) = 0) || decide (x ≠ at_))
              first | rw [g_64, Bool.true_or] | (rw [g_64]; rfl)
            · -- False
              have gp_66 := of_decide_eq_false g_64
              refine Wx.gyes rfl rfl (congrArg Value.bool g_64) ?_
              refine Wx.rd (v := .int .i64 x) (rd_move rfl) rfl ?_
              refine Wx.gyes rfl rfl (congrArg Value.bool g_64) ?_
              refine Wx.rd (v := .int .i64 at_) (rd_move rfl) rfl ?_
              refine Wx.gyes rfl rfl (congrArg Value.bool g_64) ?_
              refine Wx.rd (v := .bool (decide (x ≠ at_))) (rd_neq rfl rfl) rfl ?_
              refine Wx.rd (v := .bool (decide (x ≠ at_))) (rd_pickF (congrArg Value.bool g_64) rfl) rfl ?_
              refine Wx.nil ⟨(), hS, ⟨?_, trivial⟩, Out.look rfl Out.refl⟩
              show Value.bool (decide (x ≠ at_)) = Value.bool (decide ((g.length : Int) = 0) || decide (x ≠ at_))
              first | rw [g_64, Bool.false_or] | (rw [g_64]; rfl)
          rintro ⟨⟩ u_68 w_67 hS
          refine Wx.nil ?_
          refine W.cond rfl (fun c5 => ?_) (fun c5 => ?_)
          · -- yes
            try simp only [Bool.and_eq_true, Bool.or_eq_true, Bool.not_eq_true', Bool.and_eq_false_iff, Bool.or_eq_false_iff, Bool.not_eq_false', decide_eq_true_eq, decide_eq_false_iff_not, not_or, Bool.false_eq_true, Bool.true_eq_false, false_or, or_false, not_false_eq_true] at c5
            obtain ⟨rr, rfl, hrg⟩ := rg_more hcy r1 (c5.imp rg_nil id)
            have hxb := (hcy.mem x (by rw [r1.1]; simp)).1
            have hxt := hto.r x hxb.1 hxb.2
            simp only [List.length_cons] at r2
            refine W.skip ?_
            refine W.seq ?_
            refine W.block ?_
            refine W.reg ?_
            refine Wx.rd (v := gv) (rd_move rfl) rfl ?_
            refine Wx.rd (v := .int .i64 x) (rd_move rfl) rfl ?_
            refine Wx.lit (t := (tI .i64)) (ys := [x]) (vs := [.int .i64 x]) elMf_25 hS rfl rfl ⟨(V.mkInt (in_i64 (by omega) (by omega))), trivial⟩ (by decide) rfl (fun v_69 w_70 hx_71 hS => ?_)
            refine Wx.append elMf_25 hS 1 rfl rfl rfl (Src.ofR hS 0 rfl) (by simp only [maxLen]; first | omega | (simp; omega) | simp) (by first | omega | (simp; omega) | simp) rfl (fun v_72 w_73 hz_74 hS => ?_)
            refine Wx.rd (v := v_72) (rd_assign rfl) rfl ?_
            refine Wx.nil ?_
            refine W.reg ?_
            refine Wx.rd (v := v_1) (rd_move rfl) rfl ?_
            refine Wx.rd (v := .int .i64 x) (rd_move rfl) rfl ?_
            refine Wx.indexR hS 3 rfl rfl rfl Tryz.underlying25 Tryz.sizeOf3 (by first | omega | (simp only [List.length_set, List.length_append, List.length_cons, List.length_nil, List.length_replicate]; omega)) (by first | omega | (simp only [List.length_set, List.length_append, List.length_cons, List.length_nil, List.length_replicate]; omega)) rfl (fun g_75 hg_76 => ?_)
            refine Wx.rd (v := .int .i64 (ix 0 (toV Ws Ow A n) x)) (rd_loadRI' hS 3 rfl hg_76 rfl (by first | omega | (simp only [List.length_set, List.length_append, List.length_cons, List.length_nil, List.length_replicate]; omega)) (by first | omega | (simp only [List.length_set, List.length_append, List.length_cons, List.length_nil, List.length_replicate]; omega)) Tryz.isAgg3 Tryz.sizeOf3) rfl ?_
            have bd_77 := bd_i64 (hS.rowInK' 3 rfl (by first | omega | (simp only [List.length_set, List.length_append, List.length_cons, List.length_nil, List.length_replicate]; omega)) (by first | omega | (simp only [List.length_set, List.length_append, List.length_cons, List.length_nil, List.length_replicate]; omega)) : InK .i64 (ix 0 (toV Ws Ow A n) x))
            refine Wx.rd (v := .int .i64 (ix 0 (toV Ws Ow A n) x)) (rd_assign rfl) rfl ?_
            refine Wx.nil ?_
            refine ⟨(ix 0 (toV Ws Ow A n) x, v_72, g ++ [x], rr), (by show rr.length < (x :: rr).length; simp), ?_, ?_, Out.look rfl (Out.hav rfl (Out.look rfl Out.self))⟩
            · exact ⟨hS.tl, (hrg), (by simp at r2 ⊢; omega)⟩
            · exact ⟨rfl, rfl, trivial⟩
          · -- no
            try simp only [Bool.and_eq_true, Bool.or_eq_true, Bool.not_eq_true', Bool.and_eq_false_iff, Bool.or_eq_false_iff, Bool.not_eq_false', decide_eq_true_eq, decide_eq_false_iff_not, not_or, Bool.false_eq_true, Bool.true_eq_false, false_or, or_false, not_false_eq_true] at c5
            have hgc := rgi_end hcy r1 (rg_pos (by omega)) (by omega)
            have hsay : g = (cyclV (pthV (toV Ws Ow A n) (h + 1) ms h)) := hgc
            rw [hsay] at hS
            have hS := hS.freeze 0 rfl
            refine W.exit rfl ?_
            refine W.seq ?_
            refine W.reg ?_
            refine Wx.rd (v := gv) (rd_move rfl) rfl ?_
            refine Wx.rd (v := gv) (rd_move rfl) rfl ?_
            refine Wx.callF (run_callF Tryz.call71 rfl) (F71 (hS.v 0 rfl) (by omega)) rfl ?_
            rintro r_79 w_80 hx_81 rfl
            have hS := hS.ext hx_81
            have hmn := (hcy.mem _ (minR_ok hcy.ne).1).1
            refine Wx.callF (run_callF Tryz.call7 rfl) (F7 (hS.v 0 rfl) (in_i64 (by omega) (by omega))) rfl ?_
            rintro r_82 w_83 hx_84 rfl
            have hS := hS.ext hx_84
            have ib_85 := idxP_bd (fun y => decide (y = (minR (cyclV (pthV (toV Ws Ow A n) (h + 1) ms h))))) (cyclV (pthV (toV Ws Ow A n) (h + 1) ms h)) 0 (Int.le_refl 0)
            refine Wx.rd (v := .int .i64 (idxP (fun y => decide (y = (minR (cyclV (pthV (toV Ws Ow A n) (h + 1) ms h))))) 0 (cyclV (pthV (toV Ws Ow A n) (h + 1) ms h)))) (rd_assign rfl) rfl ?_
            refine Wx.nil ?_
            refine W.regP mixedMf_ (fun w_86 hx_87 => ?_)
            have hS := hS.ext hx_87
            refine Wp.rd (v := .pointer (some ⟨gf, 0, none⟩)) 0 rfl (by kernel_rfl) (fun _ => (rd_move rfl)) rfl ?_
            refine Wp.rd (v := .pointer (some ⟨gf, 0, none⟩)) 1 rfl (by kernel_rfl) (fun _ => (rd_move rfl)) rfl ?_
            refine Wp.rd (v := .pointer (some ⟨gf, 0, none⟩)) 2 rfl (by kernel_rfl) (fun _ => (rd_nilCheck rfl rfl)) rfl ?_
            refine Wp.rd (v := .pointer (some ⟨gf, 3, none⟩)) 3 rfl (by kernel_rfl) (fun _ => (rd_fieldAddr rfl foMf_52_3)) rfl ?_
            refine Wp.rd (v := gv) 5 rfl (by kernel_rfl) (fun _ => (rd_move rfl)) rfl ?_
            refine Wp.rd (v := .int .i64 (idxP (fun y => decide (y = (minR (cyclV (pthV (toV Ws Ow A n) (h + 1) ms h))))) 0 (cyclV (pthV (toV Ws Ow A n) (h + 1) ms h)))) 6 rfl (by kernel_rfl) (fun _ => (rd_move rfl)) rfl ?_
            refine Wp.rd (v := gv) 8 rfl (by kernel_rfl) (fun _ => (rd_move rfl)) rfl ?_
            refine Wp.rd (v := .int .i64 (idxP (fun y => decide (y = (minR (cyclV (pthV (toV Ws Ow A n) (h + 1) ms h))))) 0 (cyclV (pthV (toV Ws Ow A n) (h + 1) ms h)))) 9 rfl (by kernel_rfl) (fun _ => (rd_move rfl)) rfl ?_
            refine Wp.br [4, 7, 10] (by kernel_rfl) (by decide) ⟨⟨_, rfl, ?_⟩, ⟨_, rfl, ?_⟩, ⟨_, rfl, ?_⟩, trivial⟩
            · -- operation 4
              refine Wx.rd (v := rv2) (rd_loadX hS 5 rfl rfl rfl Tryz.isAgg24) rfl ?_
              refine Wx.nil ?_
              refine Wp.br [7, 10] (by kernel_rfl) (by decide) ⟨⟨_, rfl, ?_⟩, ⟨_, rfl, ?_⟩, trivial⟩
              · -- operation 7
                refine Wx.ex (rd_sliceL (hS.v 0 rfl) Tryz.underlying25 Tryz.sizeOf3 rfl rfl (by omega) (by omega)) rfl (fun u_88 hu_89 => ?_)
                have ln_90 := hu_89.len63
                have hS := hS.add hu_89
                refine Wx.nil ?_
                refine Wp.br [10] (by kernel_rfl) (by decide) ⟨⟨_, rfl, ?_⟩, trivial⟩
                refine Wx.ex (rd_sliceH (hS.v 1 rfl) Tryz.underlying25 Tryz.sizeOf3 rfl rfl (by omega) (by omega)) rfl (fun u_92 hu_93 => ?_)
                have ln_94 := hu_93.len63
                have hS := hS.add hu_93
                refine Wx.nil ?_
                refine Wp.br [11] (by kernel_rfl) (by decide) ⟨⟨_, rfl, ?_⟩, trivial⟩
                refine Wx.lit (t := (tSl (tI .i64))) (ys := [(cyclV (pthV (toV Ws Ow A n) (h + 1) ms h)).drop (idxP (fun y => decide (y = (minR (cyclV (pthV (toV Ws Ow A n) (h + 1) ms h))))) 0 (cyclV (pthV (toV Ws Ow A n) (h + 1) ms h))).toNat, (cyclV (pthV (toV Ws Ow A n) (h + 1) ms h)).take (idxP (fun y => decide (y = (minR (cyclV (pthV (toV Ws Ow A n) (h + 1) ms h))))) 0 (cyclV (pthV (toV Ws Ow A n) (h + 1) ms h))).toNat]) (vs := [u_88, u_92]) elMf_24 hS rfl rfl ⟨(hS.v 1 rfl), ⟨(hS.v 0 rfl), trivial⟩⟩ (by decide) rfl (fun v_96 w_97 hx_98 hS => ?_)
                refine Wx.nil ?_
                refine Wp.br [12] (by kernel_rfl) (by decide) ⟨⟨_, rfl, ?_⟩, trivial⟩
                have hS := hS.freeze 0 rfl
                refine Wx.callF (run_callF Tryz.call72 rfl) (F72 (hS.v 0 rfl) (by rw [hrf]; have := (rotR_ring hcy).2.length_eq; omega) hS.fb_lt) rfl ?_
                rintro r_100 w_101 hx_102 ⟨_, rfl, hv_103⟩
                have hS := hS.pushFr hx_102 hv_103
                refine Wx.nil ?_
                refine Wp.br [13] (by kernel_rfl) (by decide) ⟨⟨_, rfl, ?_⟩, trivial⟩
                have hS := hS.freeze 0 rfl
                refine Wx.lit (t := (tSl (tI .i64))) (ys := [[(cyclV (pthV (toV Ws Ow A n) (h + 1) ms h)).drop (idxP (fun y => decide (y = (minR (cyclV (pthV (toV Ws Ow A n) (h + 1) ms h))))) 0 (cyclV (pthV (toV Ws Ow A n) (h + 1) ms h))).toNat, (cyclV (pthV (toV Ws Ow A n) (h + 1) ms h)).take (idxP (fun y => decide (y = (minR (cyclV (pthV (toV Ws Ow A n) (h + 1) ms h))))) 0 (cyclV (pthV (toV Ws Ow A n) (h + 1) ms h))).toNat].flatten]) (vs := [r_100]) elMf_24 hS rfl rfl ⟨(hS.v 0 rfl), trivial⟩ (by decide) rfl (fun v_106 w_107 hx_108 hS => ?_)
                refine Wx.nil ?_
                refine Wp.br [14] (by kernel_rfl) (by decide) ⟨⟨_, rfl, ?_⟩, trivial⟩
                refine Wx.append elMf_24 hS 9 rfl rfl rfl (Src.ofR hS 0 rfl) (by simp only [maxLen]; simp; omega) (by simp; omega) rfl (fun v_109 w_110 hz_111 hS => ?_)
                refine Wx.nil ?_
                refine Wp.rd (v := .pointer (some ⟨gf, 0, none⟩)) 15 rfl (by kernel_rfl) (fun _ => (rd_nilCheck rfl rfl)) rfl ?_
                refine Wp.rd (v := .pointer (some ⟨gf, 3, none⟩)) 16 rfl (by kernel_rfl) (fun _ => (rd_fieldAddr rfl foMf_52_3)) rfl ?_
                refine Wp.br [17] (by kernel_rfl) (by decide) ⟨⟨_, rfl, ?_⟩, trivial⟩
                refine Wx.storeX (cs' := [wv, ov, sv, v_109]) (ds := [v_109]) hS 10 rfl rfl rfl (Go.Wk.cells_one (hS.rowOne 9 rfl)) Tryz.sizeOf24 (Nat.le_of_ble_eq_true rfl) (one_cons (hS.rowOne 9 rfl) one_nil) rfl (fun w_112 hz_113 hS => ?_)
                refine Wx.nil ?_
                refine Wp.done (by kernel_rfl) ?_
                refine W.reg ?_
                refine Wx.rd (v := .int .i64 (h + 1)) (rd_add rfl rfl (in_i64 (by omega) (by omega))) rfl ?_
                refine Wx.rd (v := .int .i64 (h + 1)) (rd_move rfl) rfl ?_
                refine Wx.nil ?_
                refine ⟨(true, h + 1, m2, v_109, R2 ++ [[(cyclV (pthV (toV Ws Ow A n) (h + 1) ms h)).drop (idxP (fun y => decide (y = (minR (cyclV (pthV (toV Ws Ow A n) (h + 1) ms h))))) 0 (cyclV (pthV (toV Ws Ow A n) (h + 1) ms h))).toNat, (cyclV (pthV (toV Ws Ow A n) (h + 1) ms h)).take (idxP (fun y => decide (y = (minR (cyclV (pthV (toV Ws Ow A n) (h + 1) ms h))))) 0 (cyclV (pthV (toV Ws Ow A n) (h + 1) ms h))).toNat].flatten], Q ++ [rotV (cyclV (pthV (toV Ws Ow A n) (h + 1) ms h))]), (by show ((n : Int) - (h + 1)).toNat < ((n : Int) - h).toNat; omega), ?_, ?_, Out.look rfl (Out.hav rfl (Out.look rfl (Out.hav rfl (Out.look rfl (Out.hav rfl (Out.look rfl (Out.hav rfl (Out.look rfl (Out.hav rfl (Out.look rfl Out.self))))))))))⟩
                · exact ⟨St.tl (St.tl (St.tl (St.tl (St.tl (hS.tl))))), (by first | omega | assumption), (by first | omega | assumption), (by rw [scan_next q0 (by omega), q2, hsr]), (by rw [q3, List.append_assoc, hrf]), (by simp), (by simp; omega)⟩
                · exact ⟨rfl, rfl, trivial⟩
              · -- operation 10
                refine Wx.ex (rd_sliceH (hS.v 0 rfl) Tryz.underlying25 Tryz.sizeOf3 rfl rfl (by omega) (by omega)) rfl (fun u_114 hu_115 => ?_)
                have ln_116 := hu_115.len63
                have hS := hS.add hu_115
                refine Wx.nil ?_
                refine Wp.br [7] (by kernel_rfl) (by decide) ⟨⟨_, rfl, ?_⟩, trivial⟩
                refine Wx.ex (rd_sliceL (hS.v 1 rfl) Tryz.underlying25 Tryz.sizeOf3 rfl rfl (by omega) (by omega)) rfl (fun u_118 hu_119 => ?_)
                have ln_120 := hu_119.len63
                have hS := hS.add hu_119
                refine Wx.nil ?_
                refine Wp.br [11] (by kernel_rfl) (by decide) ⟨⟨_, rfl, ?_⟩, trivial⟩
                refine Wx.lit (t := (tSl (tI .i64))) (ys := [(cyclV (pthV (toV Ws Ow A n) (h + 1) ms h)).drop (idxP (fun y => decide (y = (minR (cyclV (pthV (toV Ws Ow A n) (h + 1) ms h))))) 0 (cyclV (pthV (toV Ws Ow A n) (h + 1) ms h))).toNat, (cyclV (pthV (toV Ws Ow A n) (h + 1) ms h)).take (idxP (fun y => decide (y = (minR (cyclV (pthV (toV Ws Ow A n) (h + 1) ms h))))) 0 (cyclV (pthV (toV Ws Ow A n) (h + 1) ms h))).toNat]) (vs := [u_118, u_114]) elMf_24 hS rfl rfl ⟨(hS.v 0 rfl), ⟨(hS.v 1 rfl), trivial⟩⟩ (by decide) rfl (fun v_122 w_123 hx_124 hS => ?_)
                refine Wx.nil ?_
                refine Wp.br [12] (by kernel_rfl) (by decide) ⟨⟨_, rfl, ?_⟩, trivial⟩
                have hS := hS.freeze 0 rfl
                refine Wx.callF (run_callF Tryz.call72 rfl) (F72 (hS.v 0 rfl) (by rw [hrf]; have := (rotR_ring hcy).2.length_eq; omega) hS.fb_lt) rfl ?_
                rintro r_126 w_127 hx_128 ⟨_, rfl, hv_129⟩
                have hS := hS.pushFr hx_128 hv_129
                refine Wx.nil ?_
                refine Wp.br [13] (by kernel_rfl) (by decide) ⟨⟨_, rfl, ?_⟩, trivial⟩
                have hS := hS.freeze 0 rfl
                refine Wx.lit (t := (tSl (tI .i64))) (ys := [[(cyclV (pthV (toV Ws Ow A n) (h + 1) ms h)).drop (idxP (fun y => decide (y = (minR (cyclV (pthV (toV Ws Ow A n) (h + 1) ms h))))) 0 (cyclV (pthV (toV Ws Ow A n) (h + 1) ms h))).toNat, (cyclV (pthV (toV Ws Ow A n) (h + 1) ms h)).take (idxP (fun y => decide (y = (minR (cyclV (pthV (toV Ws Ow A n) (h + 1) ms h))))) 0 (cyclV (pthV (toV Ws Ow A n) (h + 1) ms h))).toNat].flatten]) (vs := [r_126]) elMf_24 hS rfl rfl ⟨(hS.v 0 rfl), trivial⟩ (by decide) rfl (fun v_132 w_133 hx_134 hS => ?_)
                refine Wx.nil ?_
                refine Wp.br [14] (by kernel_rfl) (by decide) ⟨⟨_, rfl, ?_⟩, trivial⟩
                refine Wx.append elMf_24 hS 9 rfl rfl rfl (Src.ofR hS 0 rfl) (by simp only [maxLen]; simp; omega) (by simp; omega) rfl (fun v_135 w_136 hz_137 hS => ?_)
                refine Wx.nil ?_
                refine Wp.rd (v := .pointer (some ⟨gf, 0, none⟩)) 15 rfl (by kernel_rfl) (fun _ => (rd_nilCheck rfl rfl)) rfl ?_
                refine Wp.rd (v := .pointer (some ⟨gf, 3, none⟩)) 16 rfl (by kernel_rfl) (fun _ => (rd_fieldAddr rfl foMf_52_3)) rfl ?_
                refine Wp.br [17] (by kernel_rfl) (by decide) ⟨⟨_, rfl, ?_⟩, trivial⟩
                refine Wx.storeX (cs' := [wv, ov, sv, v_135]) (ds := [v_135]) hS 10 rfl rfl rfl (Go.Wk.cells_one (hS.rowOne 9 rfl)) Tryz.sizeOf24 (Nat.le_of_ble_eq_true rfl) (one_cons (hS.rowOne 9 rfl) one_nil) rfl (fun w_138 hz_139 hS => ?_)
                refine Wx.nil ?_
                refine Wp.done (by kernel_rfl) ?_
                refine W.reg ?_
                refine Wx.rd (v := .int .i64 (h + 1)) (rd_add rfl rfl (in_i64 (by omega) (by omega))) rfl ?_
                refine Wx.rd (v := .int .i64 (h + 1)) (rd_move rfl) rfl ?_
                refine Wx.nil ?_
                refine ⟨(true, h + 1, m2, v_135, R2 ++ [[(cyclV (pthV (toV Ws Ow A n) (h + 1) ms h)).drop (idxP (fun y => decide (y = (minR (cyclV (pthV (toV Ws Ow A n) (h + 1) ms h))))) 0 (cyclV (pthV (toV Ws Ow A n) (h + 1) ms h))).toNat, (cyclV (pthV (toV Ws Ow A n) (h + 1) ms h)).take (idxP (fun y => decide (y = (minR (cyclV (pthV (toV Ws Ow A n) (h + 1) ms h))))) 0 (cyclV (pthV (toV Ws Ow A n) (h + 1) ms h))).toNat].flatten], Q ++ [rotV (cyclV (pthV (toV Ws Ow A n) (h + 1) ms h))]), (by show ((n : Int) - (h + 1)).toNat < ((n : Int) - h).toNat; omega), ?_, ?_, Out.look rfl (Out.hav rfl (Out.look rfl (Out.hav rfl (Out.look rfl (Out.hav rfl (Out.look rfl (Out.hav rfl (Out.look rfl (Out.hav rfl (Out.look rfl Out.self))))))))))⟩
                · exact ⟨St.tl (St.tl (St.tl (St.tl (St.tl (hS.tl))))), (by first | omega | assumption), (by first | omega | assumption), (by rw [scan_next q0 (by omega), q2, hsr]), (by rw [q3, List.append_assoc, hrf]), (by simp), (by simp; omega)⟩
                · exact ⟨rfl, rfl, trivial⟩
            · -- operation 7
              refine Wx.ex (rd_sliceL (hS.v 0 rfl) Tryz.underlying25 Tryz.sizeOf3 rfl rfl (by omega) (by omega)) rfl (fun u_140 hu_141 => ?_)
              have ln_142 := hu_141.len63
              have hS := hS.add hu_141
              refine Wx.nil ?_
              refine Wp.br [4, 10] (by kernel_rfl) (by decide) ⟨⟨_, rfl, ?_⟩, ⟨_, rfl, ?_⟩, trivial⟩
              · -- operation 4
                refine Wx.rd (v := rv2) (rd_loadX hS 6 rfl rfl rfl Tryz.isAgg24) rfl ?_
                refine Wx.nil ?_
                refine Wp.br [10] (by kernel_rfl) (by decide) ⟨⟨_, rfl, ?_⟩, trivial⟩
                refine Wx.ex (rd_sliceH (hS.v 1 rfl) Tryz.underlying25 Tryz.sizeOf3 rfl rfl (by omega) (by omega)) rfl (fun u_144 hu_145 => ?_)
                have ln_146 := hu_145.len63
                have hS := hS.add hu_145
                refine Wx.nil ?_
                refine Wp.br [11] (by kernel_rfl) (by decide) ⟨⟨_, rfl, ?_⟩, trivial⟩
                refine Wx.lit (t := (tSl (tI .i64))) (ys := [(cyclV (pthV (toV Ws Ow A n) (h + 1) ms h)).drop (idxP (fun y => decide (y = (minR (cyclV (pthV (toV Ws Ow A n) (h + 1) ms h))))) 0 (cyclV (pthV (toV Ws Ow A n) (h + 1) ms h))).toNat, (cyclV (pthV (toV Ws Ow A n) (h + 1) ms h)).take (idxP (fun y => decide (y = (minR (cyclV (pthV (toV Ws Ow A n) (h + 1) ms h))))) 0 (cyclV (pthV (toV Ws Ow A n) (h + 1) ms h))).toNat]) (vs := [u_140, u_144]) elMf_24 hS rfl rfl ⟨(hS.v 1 rfl), ⟨(hS.v 0 rfl), trivial⟩⟩ (by decide) rfl (fun v_148 w_149 hx_150 hS => ?_)
                refine Wx.nil ?_
                refine Wp.br [12] (by kernel_rfl) (by decide) ⟨⟨_, rfl, ?_⟩, trivial⟩
                have hS := hS.freeze 0 rfl
                refine Wx.callF (run_callF Tryz.call72 rfl) (F72 (hS.v 0 rfl) (by rw [hrf]; have := (rotR_ring hcy).2.length_eq; omega) hS.fb_lt) rfl ?_
                rintro r_152 w_153 hx_154 ⟨_, rfl, hv_155⟩
                have hS := hS.pushFr hx_154 hv_155
                refine Wx.nil ?_
                refine Wp.br [13] (by kernel_rfl) (by decide) ⟨⟨_, rfl, ?_⟩, trivial⟩
                have hS := hS.freeze 0 rfl
                refine Wx.lit (t := (tSl (tI .i64))) (ys := [[(cyclV (pthV (toV Ws Ow A n) (h + 1) ms h)).drop (idxP (fun y => decide (y = (minR (cyclV (pthV (toV Ws Ow A n) (h + 1) ms h))))) 0 (cyclV (pthV (toV Ws Ow A n) (h + 1) ms h))).toNat, (cyclV (pthV (toV Ws Ow A n) (h + 1) ms h)).take (idxP (fun y => decide (y = (minR (cyclV (pthV (toV Ws Ow A n) (h + 1) ms h))))) 0 (cyclV (pthV (toV Ws Ow A n) (h + 1) ms h))).toNat].flatten]) (vs := [r_152]) elMf_24 hS rfl rfl ⟨(hS.v 0 rfl), trivial⟩ (by decide) rfl (fun v_158 w_159 hx_160 hS => ?_)
                refine Wx.nil ?_
                refine Wp.br [14] (by kernel_rfl) (by decide) ⟨⟨_, rfl, ?_⟩, trivial⟩
                refine Wx.append elMf_24 hS 9 rfl rfl rfl (Src.ofR hS 0 rfl) (by simp only [maxLen]; simp; omega) (by simp; omega) rfl (fun v_161 w_162 hz_163 hS => ?_)
                refine Wx.nil ?_
                refine Wp.rd (v := .pointer (some ⟨gf, 0, none⟩)) 15 rfl (by kernel_rfl) (fun _ => (rd_nilCheck rfl rfl)) rfl ?_
                refine Wp.rd (v := .pointer (some ⟨gf, 3, none⟩)) 16 rfl (by kernel_rfl) (fun _ => (rd_fieldAddr rfl foMf_52_3)) rfl ?_
                refine Wp.br [17] (by kernel_rfl) (by decide) ⟨⟨_, rfl, ?_⟩, trivial⟩
                refine Wx.storeX (cs' := [wv, ov, sv, v_161]) (ds := [v_161]) hS 10 rfl rfl rfl (Go.Wk.cells_one (hS.rowOne 9 rfl)) Tryz.sizeOf24 (Nat.le_of_ble_eq_true rfl) (one_cons (hS.rowOne 9 rfl) one_nil) rfl (fun w_164 hz_165 hS => ?_)
                refine Wx.nil ?_
                refine Wp.done (by kernel_rfl) ?_
                refine W.reg ?_
                refine Wx.rd (v := .int .i64 (h + 1)) (rd_add rfl rfl (in_i64 (by omega) (by omega))) rfl ?_
                refine Wx.rd (v := .int .i64 (h + 1)) (rd_move rfl) rfl ?_
                refine Wx.nil ?_
                refine ⟨(true, h + 1, m2, v_161, R2 ++ [[(cyclV (pthV (toV Ws Ow A n) (h + 1) ms h)).drop (idxP (fun y => decide (y = (minR (cyclV (pthV (toV Ws Ow A n) (h + 1) ms h))))) 0 (cyclV (pthV (toV Ws Ow A n) (h + 1) ms h))).toNat, (cyclV (pthV (toV Ws Ow A n) (h + 1) ms h)).take (idxP (fun y => decide (y = (minR (cyclV (pthV (toV Ws Ow A n) (h + 1) ms h))))) 0 (cyclV (pthV (toV Ws Ow A n) (h + 1) ms h))).toNat].flatten], Q ++ [rotV (cyclV (pthV (toV Ws Ow A n) (h + 1) ms h))]), (by show ((n : Int) - (h + 1)).toNat < ((n : Int) - h).toNat; omega), ?_, ?_, Out.look rfl (Out.hav rfl (Out.look rfl (Out.hav rfl (Out.look rfl (Out.hav rfl (Out.look rfl (Out.hav rfl (Out.look rfl (Out.hav rfl (Out.look rfl Out.self))))))))))⟩
                · exact ⟨St.tl (St.tl (St.tl (St.tl (St.tl (hS.tl))))), (by first | omega | assumption), (by first | omega | assumption), (by rw [scan_next q0 (by omega), q2, hsr]), (by rw [q3, List.append_assoc, hrf]), (by simp), (by simp; omega)⟩
                · exact ⟨rfl, rfl, trivial⟩
              · -- operation 10
                refine Wx.ex (rd_sliceH (hS.v 1 rfl) Tryz.underlying25 Tryz.sizeOf3 rfl rfl (by omega) (by omega)) rfl (fun u_166 hu_167 => ?_)
                have ln_168 := hu_167.len63
                have hS := hS.add hu_167
                refine Wx.nil ?_
                refine Wp.br [4, 11] (by kernel_rfl) (by decide) ⟨⟨_, rfl, ?_⟩, ⟨_, rfl, ?_⟩, trivial⟩
                · -- operation 4
                  refine Wx.rd (v := rv2) (rd_loadX hS 7 rfl rfl rfl Tryz.isAgg24) rfl ?_
                  refine Wx.nil ?_
                  refine Wp.br [11] (by kernel_rfl) (by decide) ⟨⟨_, rfl, ?_⟩, trivial⟩
                  refine Wx.lit (t := (tSl (tI .i64))) (ys := [(cyclV (pthV (toV Ws Ow A n) (h + 1) ms h)).drop (idxP (fun y => decide (y = (minR (cyclV (pthV (toV Ws Ow A n) (h + 1) ms h))))) 0 (cyclV (pthV (toV Ws Ow A n) (h + 1) ms h))).toNat, (cyclV (pthV (toV Ws Ow A n) (h + 1) ms h)).take (idxP (fun y => decide (y = (minR (cyclV (pthV (toV Ws Ow A n) (h + 1) ms h))))) 0 (cyclV (pthV (toV Ws Ow A n) (h + 1) ms h))).toNat]) (vs := [u_140, u_166]) elMf_24 hS rfl rfl ⟨(hS.v 1 rfl), ⟨(hS.v 0 rfl), trivial⟩⟩ (by decide) rfl (fun v_170 w_171 hx_172 hS => ?_)
                  refine Wx.nil ?_
                  refine Wp.br [12] (by kernel_rfl) (by decide) ⟨⟨_, rfl, ?_⟩, trivial⟩
                  have hS := hS.freeze 0 rfl
                  refine Wx.callF (run_callF Tryz.call72 rfl) (F72 (hS.v 0 rfl) (by rw [hrf]; have := (rotR_ring hcy).2.length_eq; omega) hS.fb_lt) rfl ?_
                  rintro r_174 w_175 hx_176 ⟨_, rfl, hv_177⟩
                  have hS := hS.pushFr hx_176 hv_177
                  refine Wx.nil ?_
                  refine Wp.br [13] (by kernel_rfl) (by decide) ⟨⟨_, rfl, ?_⟩, trivial⟩
                  have hS := hS.freeze 0 rfl
                  refine Wx.lit (t := (tSl (tI .i64))) (ys := [[(cyclV (pthV (toV Ws Ow A n) (h + 1) ms h)).drop (idxP (fun y => decide (y = (minR (cyclV (pthV (toV Ws Ow A n) (h + 1) ms h))))) 0 (cyclV (pthV (toV Ws Ow A n) (h + 1) ms h))).toNat, (cyclV (pthV (toV Ws Ow A n) (h + 1) ms h)).take (idxP (fun y => decide (y = (minR (cyclV (pthV (toV Ws Ow A n) (h + 1) ms h))))) 0 (cyclV (pthV (toV Ws Ow A n) (h + 1) ms h))).toNat].flatten]) (vs := [r_174]) elMf_24 hS rfl rfl ⟨(hS.v 0 rfl), trivial⟩ (by decide) rfl (fun v_180 w_181 hx_182 hS => ?_)
                  refine Wx.nil ?_
                  refine Wp.br [14] (by kernel_rfl) (by decide) ⟨⟨_, rfl, ?_⟩, trivial⟩
                  refine Wx.append elMf_24 hS 9 rfl rfl rfl (Src.ofR hS 0 rfl) (by simp only [maxLen]; simp; omega) (by simp; omega) rfl (fun v_183 w_184 hz_185 hS => ?_)
                  refine Wx.nil ?_
                  refine Wp.rd (v := .pointer (some ⟨gf, 0, none⟩)) 15 rfl (by kernel_rfl) (fun _ => (rd_nilCheck rfl rfl)) rfl ?_
                  refine Wp.rd (v := .pointer (some ⟨gf, 3, none⟩)) 16 rfl (by kernel_rfl) (fun _ => (rd_fieldAddr rfl foMf_52_3)) rfl ?_
                  refine Wp.br [17] (by kernel_rfl) (by decide) ⟨⟨_, rfl, ?_⟩, trivial⟩
                  refine Wx.storeX (cs' := [wv, ov, sv, v_183]) (ds := [v_183]) hS 10 rfl rfl rfl (Go.Wk.cells_one (hS.rowOne 9 rfl)) Tryz.sizeOf24 (Nat.le_of_ble_eq_true rfl) (one_cons (hS.rowOne 9 rfl) one_nil) rfl (fun w_186 hz_187 hS => ?_)
                  refine Wx.nil ?_
                  refine Wp.done (by kernel_rfl) ?_
                  refine W.reg ?_
                  refine Wx.rd (v := .int .i64 (h + 1)) (rd_add rfl rfl (in_i64 (by omega) (by omega))) rfl ?_
                  refine Wx.rd (v := .int .i64 (h + 1)) (rd_move rfl) rfl ?_
                  refine Wx.nil ?_
                  refine ⟨(true, h + 1, m2, v_183, R2 ++ [[(cyclV (pthV (toV Ws Ow A n) (h + 1) ms h)).drop (idxP (fun y => decide (y = (minR (cyclV (pthV (toV Ws Ow A n) (h + 1) ms h))))) 0 (cyclV (pthV (toV Ws Ow A n) (h + 1) ms h))).toNat, (cyclV (pthV (toV Ws Ow A n) (h + 1) ms h)).take (idxP (fun y => decide (y = (minR (cyclV (pthV (toV Ws Ow A n) (h + 1) ms h))))) 0 (cyclV (pthV (toV Ws Ow A n) (h + 1) ms h))).toNat].flatten], Q ++ [rotV (cyclV (pthV (toV Ws Ow A n) (h + 1) ms h))]), (by show ((n : Int) - (h + 1)).toNat < ((n : Int) - h).toNat; omega), ?_, ?_, Out.look rfl (Out.hav rfl (Out.look rfl (Out.hav rfl (Out.look rfl (Out.hav rfl (Out.look rfl (Out.hav rfl (Out.look rfl (Out.hav rfl (Out.look rfl Out.self))))))))))⟩
                  · exact ⟨St.tl (St.tl (St.tl (St.tl (St.tl (hS.tl))))), (by first | omega | assumption), (by first | omega | assumption), (by rw [scan_next q0 (by omega), q2, hsr]), (by rw [q3, List.append_assoc, hrf]), (by simp), (by simp; omega)⟩
                  · exact ⟨rfl, rfl, trivial⟩
                · -- operation 11
                  refine Wx.lit (t := (tSl (tI .i64))) (ys := [(cyclV (pthV (toV Ws Ow A n) (h + 1) ms h)).drop (idxP (fun y => decide (y = (minR (cyclV (pthV (toV Ws Ow A n) (h + 1) ms h))))) 0 (cyclV (pthV (toV Ws Ow A n) (h + 1) ms h))).toNat, (cyclV (pthV (toV Ws Ow A n) (h + 1) ms h)).take (idxP (fun y => decide (y = (minR (cyclV (pthV (toV Ws Ow A n) (h + 1) ms h))))) 0 (cyclV (pthV (toV Ws Ow A n) (h + 1) ms h))).toNat]) (vs := [u_140, u_166]) elMf_24 hS rfl rfl ⟨(hS.v 1 rfl), ⟨(hS.v 0 rfl), trivial⟩⟩ (by decide) rfl (fun v_188 w_189 hx_190 hS => ?_)
                  refine Wx.nil ?_
                  refine Wp.br [4, 12] (by kernel_rfl) (by decide) ⟨⟨_, rfl, ?_⟩, ⟨_, rfl, ?_⟩, trivial⟩
                  · -- operation 4
                    refine Wx.rd (v := rv2) (rd_loadX hS 8 rfl rfl rfl Tryz.isAgg24) rfl ?_
                    refine Wx.nil ?_
                    refine Wp.br [12] (by kernel_rfl) (by decide) ⟨⟨_, rfl, ?_⟩, trivial⟩
                    have hS := hS.freeze 0 rfl
                    refine Wx.callF (run_callF Tryz.call72 rfl) (F72 (hS.v 0 rfl) (by rw [hrf]; have := (rotR_ring hcy).2.length_eq; omega) hS.fb_lt) rfl ?_
                    rintro r_192 w_193 hx_194 ⟨_, rfl, hv_195⟩
                    have hS := hS.pushFr hx_194 hv_195
                    refine Wx.nil ?_
                    refine Wp.br [13] (by kernel_rfl) (by decide) ⟨⟨_, rfl, ?_⟩, trivial⟩
                    have hS := hS.freeze 0 rfl
                    refine Wx.lit (t := (tSl (tI .i64))) (ys := [[(cyclV (pthV (toV Ws Ow A n) (h + 1) ms h)).drop (idxP (fun y => decide (y = (minR (cyclV (pthV (toV Ws Ow A n) (h + 1) ms h))))) 0 (cyclV (pthV (toV Ws Ow A n) (h + 1) ms h))).toNat, (cyclV (pthV (toV Ws Ow A n) (h + 1) ms h)).take (idxP (fun y => decide (y = (minR (cyclV (pthV (toV Ws Ow A n) (h + 1) ms h))))) 0 (cyclV (pthV (toV Ws Ow A n) (h + 1) ms h))).toNat].flatten]) (vs := [r_192]) elMf_24 hS rfl rfl ⟨(hS.v 0 rfl), trivial⟩ (by decide) rfl (fun v_198 w_199 hx_200 hS => ?_)
                    refine Wx.nil ?_
                    refine Wp.br [14] (by kernel_rfl) (by decide) ⟨⟨_, rfl, ?_⟩, trivial⟩
                    refine Wx.append elMf_24 hS 9 rfl rfl rfl (Src.ofR hS 0 rfl) (by simp only [maxLen]; simp; omega) (by simp; omega) rfl (fun v_201 w_202 hz_203 hS => ?_)
                    refine Wx.nil ?_
                    refine Wp.rd (v := .pointer (some ⟨gf, 0, none⟩)) 15 rfl (by kernel_rfl) (fun _ => (rd_nilCheck rfl rfl)) rfl ?_
                    refine Wp.rd (v := .pointer (some ⟨gf, 3, none⟩)) 16 rfl (by kernel_rfl) (fun _ => (rd_fieldAddr rfl foMf_52_3)) rfl ?_
                    refine Wp.br [17] (by kernel_rfl) (by decide) ⟨⟨_, rfl, ?_⟩, trivial⟩
                    refine Wx.storeX (cs' := [wv, ov, sv, v_201]) (ds := [v_201]) hS 10 rfl rfl rfl (Go.Wk.cells_one (hS.rowOne 9 rfl)) Tryz.sizeOf24 (Nat.le_of_ble_eq_true rfl) (one_cons (hS.rowOne 9 rfl) one_nil) rfl (fun w_204 hz_205 hS => ?_)
                    refine Wx.nil ?_
                    refine Wp.done (by kernel_rfl) ?_
                    refine W.reg ?_
                    refine Wx.rd (v := .int .i64 (h + 1)) (rd_add rfl rfl (in_i64 (by omega) (by omega))) rfl ?_
                    refine Wx.rd (v := .int .i64 (h + 1)) (rd_move rfl) rfl ?_
                    refine Wx.nil ?_
                    refine ⟨(true, h + 1, m2, v_201, R2 ++ [[(cyclV (pthV (toV Ws Ow A n) (h + 1) ms h)).drop (idxP (fun y => decide (y = (minR (cyclV (pthV (toV Ws Ow A n) (h + 1) ms h))))) 0 (cyclV (pthV (toV Ws Ow A n) (h + 1) ms h))).toNat, (cyclV (pthV (toV Ws Ow A n) (h + 1) ms h)).take (idxP (fun y => decide (y = (minR (cyclV (pthV (toV Ws Ow A n) (h + 1) ms h))))) 0 (cyclV (pthV (toV Ws Ow A n) (h + 1) ms h))).toNat].flatten], Q ++ [rotV (cyclV (pthV (toV Ws Ow A n) (h + 1) ms h))]), (by show ((n : Int) - (h + 1)).toNat < ((n : Int) - h).toNat; omega), ?_, ?_, Out.look rfl (Out.hav rfl (Out.look rfl (Out.hav rfl (Out.look rfl (Out.hav rfl (Out.look rfl (Out.hav rfl (Out.look rfl (Out.hav rfl (Out.look rfl Out.self))))))))))⟩
                    · exact ⟨St.tl (St.tl (St.tl (St.tl (St.tl (hS.tl))))), (by first | omega | assumption), (by first | omega | assumption), (by rw [scan_next q0 (by omega), q2, hsr]), (by rw [q3, List.append_assoc, hrf]), (by simp), (by simp; omega)⟩
                    · exact ⟨rfl, rfl, trivial⟩
                  · -- operation 12
                    have hS := hS.freeze 0 rfl
                    refine Wx.callF (run_callF Tryz.call72 rfl) (F72 (hS.v 0 rfl) (by rw [hrf]; have := (rotR_ring hcy).2.length_eq; omega) hS.fb_lt) rfl ?_
                    rintro r_207 w_208 hx_209 ⟨_, rfl, hv_210⟩
                    have hS := hS.pushFr hx_209 hv_210
                    refine Wx.nil ?_
                    refine Wp.br [4, 13] (by kernel_rfl) (by decide) ⟨⟨_, rfl, ?_⟩, ⟨_, rfl, ?_⟩, trivial⟩
                    · -- operation 4
                      refine Wx.rd (v := rv2) (rd_loadX hS 9 rfl rfl rfl Tryz.isAgg24) rfl ?_
                      refine Wx.nil ?_
                      refine Wp.br [13] (by kernel_rfl) (by decide) ⟨⟨_, rfl, ?_⟩, trivial⟩
                      have hS := hS.freeze 0 rfl
                      refine Wx.lit (t := (tSl (tI .i64))) (ys := [[(cyclV (pthV (toV Ws Ow A n) (h + 1) ms h)).drop (idxP (fun y => decide (y = (minR (cyclV (pthV (toV Ws Ow A n) (h + 1) ms h))))) 0 (cyclV (pthV (toV Ws Ow A n) (h + 1) ms h))).toNat, (cyclV (pthV (toV Ws Ow A n) (h + 1) ms h)).take (idxP (fun y => decide (y = (minR (cyclV (pthV (toV Ws Ow A n) (h + 1) ms h))))) 0 (cyclV (pthV (toV Ws Ow A n) (h + 1) ms h))).toNat].flatten]) (vs := [r_207]) elMf_24 hS rfl rfl ⟨(hS.v 0 rfl), trivial⟩ (by decide) rfl (fun v_213 w_214 hx_215 hS => ?_)
                      refine Wx.nil ?_
                      refine Wp.br [14] (by kernel_rfl) (by decide) ⟨⟨_, rfl, ?_⟩, trivial⟩
                      refine Wx.append elMf_24 hS 9 rfl rfl rfl (Src.ofR hS 0 rfl) (by simp only [maxLen]; simp; omega) (by simp; omega) rfl (fun v_216 w_217 hz_218 hS => ?_)
                      refine Wx.nil ?_
                      refine Wp.rd (v := .pointer (some ⟨gf, 0, none⟩)) 15 rfl (by kernel_rfl) (fun _ => (rd_nilCheck rfl rfl)) rfl ?_
                      refine Wp.rd (v := .pointer (some ⟨gf, 3, none⟩)) 16 rfl (by kernel_rfl) (fun _ => (rd_fieldAddr rfl foMf_52_3)) rfl ?_
                      refine Wp.br [17] (by kernel_rfl) (by decide) ⟨⟨_, rfl, ?_⟩, trivial⟩
                      refine Wx.storeX (cs' := [wv, ov, sv, v_216]) (ds := [v_216]) hS 10 rfl rfl rfl (Go.Wk.cells_one (hS.rowOne 9 rfl)) Tryz.sizeOf24 (Nat.le_of_ble_eq_true rfl) (one_cons (hS.rowOne 9 rfl) one_nil) rfl (fun w_219 hz_220 hS => ?_)
                      refine Wx.nil ?_
                      refine Wp.done (by kernel_rfl) ?_
                      refine W.reg ?_
                      refine Wx.rd (v := .int .i64 (h + 1)) (rd_add rfl rfl (in_i64 (by omega) (by omega))) rfl ?_
                      refine Wx.rd (v := .int .i64 (h + 1)) (rd_move rfl) rfl ?_
                      refine Wx.nil ?_
                      refine ⟨(true, h + 1, m2, v_216, R2 ++ [[(cyclV (pthV (toV Ws Ow A n) (h + 1) ms h)).drop (idxP (fun y => decide (y = (minR (cyclV (pthV (toV Ws Ow A n) (h + 1) ms h))))) 0 (cyclV (pthV (toV Ws Ow A n) (h + 1) ms h))).toNat, (cyclV (pthV (toV Ws Ow A n) (h + 1) ms h)).take (idxP (fun y => decide (y = (minR (cyclV (pthV (toV Ws Ow A n) (h + 1) ms h))))) 0 (cyclV (pthV (toV Ws Ow A n) (h + 1) ms h))).toNat].flatten], Q ++ [rotV (cyclV (pthV (toV Ws Ow A n) (h + 1) ms h))]), (by show ((n : Int) - (h + 1)).toNat < ((n : Int) - h).toNat; omega), ?_, ?_, Out.look rfl (Out.hav rfl (Out.look rfl (Out.hav rfl (Out.look rfl (Out.hav rfl (Out.look rfl (Out.hav rfl (Out.look rfl (Out.hav rfl (Out.look rfl Out.self))))))))))⟩
                      · exact ⟨St.tl (St.tl (St.tl (St.tl (St.tl (hS.tl))))), (by first | omega | assumption), (by first | omega | assumption), (by rw [scan_next q0 (by omega), q2, hsr]), (by rw [q3, List.append_assoc, hrf]), (by simp), (by simp; omega)⟩
                      · exact ⟨rfl, rfl, trivial⟩
                    · -- operation 13
                      have hS := hS.freeze 0 rfl
                      refine Wx.lit (t := (tSl (tI .i64))) (ys := [[(cyclV (pthV (toV Ws Ow A n) (h + 1) ms h)).drop (idxP (fun y => decide (y = (minR (cyclV (pthV (toV Ws Ow A n) (h + 1) ms h))))) 0 (cyclV (pthV (toV Ws Ow A n) (h + 1) ms h))).toNat, (cyclV (pthV (toV Ws Ow A n) (h + 1) ms h)).take (idxP (fun y => decide (y = (minR (cyclV (pthV (toV Ws Ow A n) (h + 1) ms h))))) 0 (cyclV (pthV (toV Ws Ow A n) (h + 1) ms h))).toNat].flatten]) (vs := [r_207]) elMf_24 hS rfl rfl ⟨(hS.v 0 rfl), trivial⟩ (by decide) rfl (fun v_222 w_223 hx_224 hS => ?_)
                      refine Wx.nil ?_
                      refine Wp.br [4] (by kernel_rfl) (by decide) ⟨⟨_, rfl, ?_⟩, trivial⟩
                      refine Wx.rd (v := rv2) (rd_loadX hS 10 rfl rfl rfl Tryz.isAgg24) rfl ?_
                      refine Wx.nil ?_
                      refine Wp.br [14] (by kernel_rfl) (by decide) ⟨⟨_, rfl, ?_⟩, trivial⟩
                      refine Wx.append elMf_24 hS 9 rfl rfl rfl (Src.ofR hS 0 rfl) (by simp only [maxLen]; simp; omega) (by simp; omega) rfl (fun v_225 w_226 hz_227 hS => ?_)
                      refine Wx.nil ?_
                      refine Wp.rd (v := .pointer (some ⟨gf, 0, none⟩)) 15 rfl (by kernel_rfl) (fun _ => (rd_nilCheck rfl rfl)) rfl ?_
                      refine Wp.rd (v := .pointer (some ⟨gf, 3, none⟩)) 16 rfl (by kernel_rfl) (fun _ => (rd_fieldAddr rfl foMf_52_3)) rfl ?_
                      refine Wp.br [17] (by kernel_rfl) (by decide) ⟨⟨_, rfl, ?_⟩, trivial⟩
                      refine Wx.storeX (cs' := [wv, ov, sv, v_225]) (ds := [v_225]) hS 10 rfl rfl rfl (Go.Wk.cells_one (hS.rowOne 9 rfl)) Tryz.sizeOf24 (Nat.le_of_ble_eq_true rfl) (one_cons (hS.rowOne 9 rfl) one_nil) rfl (fun w_228 hz_229 hS => ?_)
                      refine Wx.nil ?_
                      refine Wp.done (by kernel_rfl) ?_
                      refine W.reg ?_
                      refine Wx.rd (v := .int .i64 (h + 1)) (rd_add rfl rfl (in_i64 (by omega) (by omega))) rfl ?_
                      refine Wx.rd (v := .int .i64 (h + 1)) (rd_move rfl) rfl ?_
                      refine Wx.nil ?_
                      refine ⟨(true, h + 1, m2, v_225, R2 ++ [[(cyclV (pthV (toV Ws Ow A n) (h + 1) ms h)).drop (idxP (fun y => decide (y = (minR (cyclV (pthV (toV Ws Ow A n) (h + 1) ms h))))) 0 (cyclV (pthV (toV Ws Ow A n) (h + 1) ms h))).toNat, (cyclV (pthV (toV Ws Ow A n) (h + 1) ms h)).take (idxP (fun y => decide (y = (minR (cyclV (pthV (toV Ws Ow A n) (h + 1) ms h))))) 0 (cyclV (pthV (toV Ws Ow A n) (h + 1) ms h))).toNat].flatten], Q ++ [rotV (cyclV (pthV (toV Ws Ow A n) (h + 1) ms h))]), (by show ((n : Int) - (h + 1)).toNat < ((n : Int) - h).toNat; omega), ?_, ?_, Out.look rfl (Out.hav rfl (Out.look rfl (Out.hav rfl (Out.look rfl (Out.hav rfl (Out.look rfl (Out.hav rfl (Out.look rfl (Out.hav rfl (Out.look rfl Out.self))))))))))⟩
                      · exact ⟨St.tl (St.tl (St.tl (St.tl (St.tl (hS.tl))))), (by first | omega | assumption), (by first | omega | assumption), (by rw [scan_next q0 (by omega), q2, hsr]), (by rw [q3, List.append_assoc, hrf]), (by simp), (by simp; omega)⟩
                      · exact ⟨rfl, rfl, trivial⟩
            · -- operation 10
              refine Wx.ex (rd_sliceH (hS.v 0 rfl) Tryz.underlying25 Tryz.sizeOf3 rfl rfl (by omega) (by omega)) rfl (fun u_230 hu_231 => ?_)
              have ln_232 := hu_231.len63
              have hS := hS.add hu_231
              refine Wx.nil ?_
              refine Wp.br [4, 7] (by kernel_rfl) (by decide) ⟨⟨_, rfl, ?_⟩, ⟨_, rfl, ?_⟩, trivial⟩
              · -- operation 4
                refine Wx.rd (v := rv2) (rd_loadX hS 6 rfl rfl rfl Tryz.isAgg24) rfl ?_
                refine Wx.nil ?_
                refine Wp.br [7] (by kernel_rfl) (by decide) ⟨⟨_, rfl, ?_⟩, trivial⟩
                refine Wx.ex (rd_sliceL (hS.v 1 rfl) Tryz.underlying25 Tryz.sizeOf3 rfl rfl (by omega) (by omega)) rfl (fun u_234 hu_235 => ?_)
                have ln_236 := hu_235.len63
                have hS := hS.add hu_235
                refine Wx.nil ?_
                refine Wp.br [11] (by kernel_rfl) (by decide) ⟨⟨_, rfl, ?_⟩, trivial⟩
                refine Wx.lit (t := (tSl (tI .i64))) (ys := [(cyclV (pthV (toV Ws Ow A n) (h + 1) ms h)).drop (idxP (fun y => decide (y = (minR (cyclV (pthV (toV Ws Ow A n) (h + 1) ms h))))) 0 (cyclV (pthV (toV Ws Ow A n) (h + 1) ms h))).toNat, (cyclV (pthV (toV Ws Ow A n) (h + 1) ms h)).take (idxP (fun y => decide (y = (minR (cyclV (pthV (toV Ws Ow A n) (h + 1) ms h))))) 0 (cyclV (pthV (toV Ws Ow A n) (h + 1) ms h))).toNat]) (vs := [u_234, u_230]) elMf_24 hS rfl rfl ⟨(hS.v 0 rfl), ⟨(hS.v 1 rfl), trivial⟩⟩ (by decide) rfl (fun v_238 w_239 hx_240 hS => ?_)
                refine Wx.nil ?_
                refine Wp.br [12] (by kernel_rfl) (by decide) ⟨⟨_, rfl, ?_⟩, trivial⟩
                have hS := hS.freeze 0 rfl
                refine Wx.callF (run_callF Tryz.call72 rfl) (F72 (hS.v 0 rfl) (by rw [hrf]; have := (rotR_ring hcy).2.length_eq; omega) hS.fb_lt) rfl ?_
                rintro r_242 w_243 hx_244 ⟨_, rfl, hv_245⟩
                have hS := hS.pushFr hx_244 hv_245
                refine Wx.nil ?_
                refine Wp.br [13] (by kernel_rfl) (by decide) ⟨⟨_, rfl, ?_⟩, trivial⟩
                have hS := hS.freeze 0 rfl
                refine Wx.lit (t := (tSl (tI .i64))) (ys := [[(cyclV (pthV (toV Ws Ow A n) (h + 1) ms h)).drop (idxP (fun y => decide (y = (minR (cyclV (pthV (toV Ws Ow A n) (h + 1) ms h))))) 0 (cyclV (pthV (toV Ws Ow A n) (h + 1) ms h))).toNat, (cyclV (pthV (toV Ws Ow A n) (h + 1) ms h)).take (idxP (fun y => decide (y = (minR (cyclV (pthV (toV Ws Ow A n) (h + 1) ms h))))) 0 (cyclV (pthV (toV Ws Ow A n) (h + 1) ms h))).toNat].flatten]) (vs := [r_242]) elMf_24 hS rfl rfl ⟨(hS.v 0 rfl), trivial⟩ (by decide) rfl (fun v_248 w_249 hx_250 hS => ?_)
                refine Wx.nil ?_
                refine Wp.br [14] (by kernel_rfl) (by decide) ⟨⟨_, rfl, ?_⟩, trivial⟩
                refine Wx.append elMf_24 hS 9 rfl rfl rfl (Src.ofR hS 0 rfl) (by simp only [maxLen]; simp; omega) (by simp; omega) rfl (fun v_251 w_252 hz_253 hS => ?_)
                refine Wx.nil ?_
                refine Wp.rd (v := .pointer (some ⟨gf, 0, none⟩)) 15 rfl (by kernel_rfl) (fun _ => (rd_nilCheck rfl rfl)) rfl ?_
                refine Wp.rd (v := .pointer (some ⟨gf, 3, none⟩)) 16 rfl (by kernel_rfl) (fun _ => (rd_fieldAddr rfl foMf_52_3)) rfl ?_
                refine Wp.br [17] (by kernel_rfl) (by decide) ⟨⟨_, rfl, ?_⟩, trivial⟩
                refine Wx.storeX (cs' := [wv, ov, sv, v_251]) (ds := [v_251]) hS 10 rfl rfl rfl (Go.Wk.cells_one (hS.rowOne 9 rfl)) Tryz.sizeOf24 (Nat.le_of_ble_eq_true rfl) (one_cons (hS.rowOne 9 rfl) one_nil) rfl (fun w_254 hz_255 hS => ?_)
                refine Wx.nil ?_
                refine Wp.done (by kernel_rfl) ?_
                refine W.reg ?_
                refine Wx.rd (v := .int .i64 (h + 1)) (rd_add rfl rfl (in_i64 (by omega) (by omega))) rfl ?_
                refine Wx.rd (v := .int .i64 (h + 1)) (rd_move rfl) rfl ?_
                refine Wx.nil ?_
                refine ⟨(true, h + 1, m2, v_251, R2 ++ [[(cyclV (pthV (toV Ws Ow A n) (h + 1) ms h)).drop (idxP (fun y => decide (y = (minR (cyclV (pthV (toV Ws Ow A n) (h + 1) ms h))))) 0 (cyclV (pthV (toV Ws Ow A n) (h + 1) ms h))).toNat, (cyclV (pthV (toV Ws Ow A n) (h + 1) ms h)).take (idxP (fun y => decide (y = (minR (cyclV (pthV (toV Ws Ow A n) (h + 1) ms h))))) 0 (cyclV (pthV (toV Ws Ow A n) (h + 1) ms h))).toNat].flatten], Q ++ [rotV (cyclV (pthV (toV Ws Ow A n) (h + 1) ms h))]), (by show ((n : Int) - (h + 1)).toNat < ((n : Int) - h).toNat; omega), ?_, ?_, Out.look rfl (Out.hav rfl (Out.look rfl (Out.hav rfl (Out.look rfl (Out.hav rfl (Out.look rfl (Out.hav rfl (Out.look rfl (Out.hav rfl (Out.look rfl Out.self))))))))))⟩
                · exact ⟨St.tl (St.tl (St.tl (St.tl (St.tl (hS.tl))))), (by first | omega | assumption), (by first | omega | assumption), (by rw [scan_next q0 (by omega), q2, hsr]), (by rw [q3, List.append_assoc, hrf]), (by simp), (by simp; omega)⟩
                · exact ⟨rfl, rfl, trivial⟩
              · -- operation 7
                refine Wx.ex (rd_sliceL (hS.v 1 rfl) Tryz.underlying25 Tryz.sizeOf3 rfl rfl (by omega) (by omega)) rfl (fun u_256 hu_257 => ?_)
                have ln_258 := hu_257.len63
                have hS := hS.add hu_257
                refine Wx.nil ?_
                refine Wp.br [4, 11] (by kernel_rfl) (by decide) ⟨⟨_, rfl, ?_⟩, ⟨_, rfl, ?_⟩, trivial⟩
                · -- operation 4
                  refine Wx.rd (v := rv2) (rd_loadX hS 7 rfl rfl rfl Tryz.isAgg24) rfl ?_
                  refine Wx.nil ?_
                  refine Wp.br [11] (by kernel_rfl) (by decide) ⟨⟨_, rfl, ?_⟩, trivial⟩
                  refine Wx.lit (t := (tSl (tI .i64))) (ys := [(cyclV (pthV (toV Ws Ow A n) (h + 1) ms h)).drop (idxP (fun y => decide (y = (minR (cyclV (pthV (toV Ws Ow A n) (h + 1) ms h))))) 0 (cyclV (pthV (toV Ws Ow A n) (h + 1) ms h))).toNat, (cyclV (pthV (toV Ws Ow A n) (h + 1) ms h)).take (idxP (fun y => decide (y = (minR (cyclV (pthV (toV Ws Ow A n) (h + 1) ms h))))) 0 (cyclV (pthV (toV Ws Ow A n) (h + 1) ms h))).toNat]) (vs := [u_256, u_230]) elMf_24 hS rfl rfl ⟨(hS.v 0 rfl), ⟨(hS.v 1 rfl), trivial⟩⟩ (by decide) rfl (fun v_260 w_261 hx_262 hS => ?_)
                  refine Wx.nil ?_
                  refine Wp.br [12] (by kernel_rfl) (by decide) ⟨⟨_, rfl, ?_⟩, trivial⟩
                  have hS := hS.freeze 0 rfl
                  refine Wx.callF (run_callF Tryz.call72 rfl) (F72 (hS.v 0 rfl) (by rw [hrf]; have := (rotR_ring hcy).2.length_eq; omega) hS.fb_lt) rfl ?_
                  rintro r_264 w_265 hx_266 ⟨_, rfl, hv_267⟩
                  have hS := hS.pushFr hx_266 hv_267
                  refine Wx.nil ?_
                  refine Wp.br [13] (by kernel_rfl) (by decide) ⟨⟨_, rfl, ?_⟩, trivial⟩
                  have hS := hS.freeze 0 rfl
                  refine Wx.lit (t := (tSl (tI .i64))) (ys := [[(cyclV (pthV (toV Ws Ow A n) (h + 1) ms h)).drop (idxP (fun y => decide (y = (minR (cyclV (pthV (toV Ws Ow A n) (h + 1) ms h))))) 0 (cyclV (pthV (toV Ws Ow A n) (h + 1) ms h))).toNat, (cyclV (pthV (toV Ws Ow A n) (h + 1) ms h)).take (idxP (fun y => decide (y = (minR (cyclV (pthV (toV Ws Ow A n) (h + 1) ms h))))) 0 (cyclV (pthV (toV Ws Ow A n) (h + 1) ms h))).toNat].flatten]) (vs := [r_264]) elMf_24 hS rfl rfl ⟨(hS.v 0 rfl), trivial⟩ (by decide) rfl (fun v_270 w_271 hx_272 hS => ?_)
                  refine Wx.nil ?_
                  refine Wp.br [14] (by kernel_rfl) (by decide) ⟨⟨_, rfl, ?_⟩, trivial⟩
                  refine Wx.append elMf_24 hS 9 rfl rfl rfl (Src.ofR hS 0 rfl) (by simp only [maxLen]; simp; omega) (by simp; omega) rfl (fun v_273 w_274 hz_275 hS => ?_)
                  refine Wx.nil ?_
                  refine Wp.rd (v := .pointer (some ⟨gf, 0, none⟩)) 15 rfl (by kernel_rfl) (fun _ => (rd_nilCheck rfl rfl)) rfl ?_
                  refine Wp.rd (v := .pointer (some ⟨gf, 3, none⟩)) 16 rfl (by kernel_rfl) (fun _ => (rd_fieldAddr rfl foMf_52_3)) rfl ?_
                  refine Wp.br [17] (by kernel_rfl) (by decide) ⟨⟨_, rfl, ?_⟩, trivial⟩
                  refine Wx.storeX (cs' := [wv, ov, sv, v_273]) (ds := [v_273]) hS 10 rfl rfl rfl (Go.Wk.cells_one (hS.rowOne 9 rfl)) Tryz.sizeOf24 (Nat.le_of_ble_eq_true rfl) (one_cons (hS.rowOne 9 rfl) one_nil) rfl (fun w_276 hz_277 hS => ?_)
                  refine Wx.nil ?_
                  refine Wp.done (by kernel_rfl) ?_
                  refine W.reg ?_
                  refine Wx.rd (v := .int .i64 (h + 1)) (rd_add rfl rfl (in_i64 (by omega) (by omega))) rfl ?_
                  refine Wx.rd (v := .int .i64 (h + 1)) (rd_move rfl) rfl ?_
                  refine Wx.nil ?_
                  refine ⟨(true, h + 1, m2, v_273, R2 ++ [[(cyclV (pthV (toV Ws Ow A n) (h + 1) ms h)).drop (idxP (fun y => decide (y = (minR (cyclV (pthV (toV Ws Ow A n) (h + 1) ms h))))) 0 (cyclV (pthV (toV Ws Ow A n) (h + 1) ms h))).toNat, (cyclV (pthV (toV Ws Ow A n) (h + 1) ms h)).take (idxP (fun y => decide (y = (minR (cyclV (pthV (toV Ws Ow A n) (h + 1) ms h))))) 0 (cyclV (pthV (toV Ws Ow A n) (h + 1) ms h))).toNat].flatten], Q ++ [rotV (cyclV (pthV (toV Ws Ow A n) (h + 1) ms h))]), (by show ((n : Int) - (h + 1)).toNat < ((n : Int) - h).toNat; omega), ?_, ?_, Out.look rfl (Out.hav rfl (Out.look rfl (Out.hav rfl (Out.look rfl (Out.hav rfl (Out.look rfl (Out.hav rfl (Out.look rfl (Out.hav rfl (Out.look rfl Out.self))))))))))⟩
                  · exact ⟨St.tl (St.tl (St.tl (St.tl (St.tl (hS.tl))))), (by first | omega | assumption), (by first | omega | assumption), (by rw [scan_next q0 (by omega), q2, hsr]), (by rw [q3, List.append_assoc, hrf]), (by simp), (by simp; omega)⟩
                  · exact ⟨rfl, rfl, trivial⟩
                · -- operation 11
                  refine Wx.lit (t := (tSl (tI .i64))) (ys := [(cyclV (pthV (toV Ws Ow A n) (h + 1) ms h)).drop (idxP (fun y => decide (y = (minR (cyclV (pthV (toV Ws Ow A n) (h + 1) ms h))))) 0 (cyclV (pthV (toV Ws Ow A n) (h + 1) ms h))).toNat, (cyclV (pthV (toV Ws Ow A n) (h + 1) ms h)).take (idxP (fun y => decide (y = (minR (cyclV (pthV (toV Ws Ow A n) (h + 1) ms h))))) 0 (cyclV (pthV (toV Ws Ow A n) (h + 1) ms h))).toNat]) (vs := [u_256, u_230]) elMf_24 hS rfl rfl ⟨(hS.v 0 rfl), ⟨(hS.v 1 rfl), trivial⟩⟩ (by decide) rfl (fun v_278 w_279 hx_280 hS => ?_)
                  refine Wx.nil ?_
                  refine Wp.br [4, 12] (by kernel_rfl) (by decide) ⟨⟨_, rfl, ?_⟩, ⟨_, rfl, ?_⟩, trivial⟩
                  · -- operation 4
                    refine Wx.rd (v := rv2) (rd_loadX hS 8 rfl rfl rfl Tryz.isAgg24) rfl ?_
                    refine Wx.nil ?_
                    refine Wp.br [12] (by kernel_rfl) (by decide) ⟨⟨_, rfl, ?_⟩, trivial⟩
                    have hS := hS.freeze 0 rfl
                    refine Wx.callF (run_callF Tryz.call72 rfl) (F72 (hS.v 0 rfl) (by rw [hrf]; have := (rotR_ring hcy).2.length_eq; omega) hS.fb_lt) rfl ?_
                    rintro r_282 w_283 hx_284 ⟨_, rfl, hv_285⟩
                    have hS := hS.pushFr hx_284 hv_285
                    refine Wx.nil ?_
                    refine Wp.br [13] (by kernel_rfl) (by decide) ⟨⟨_, rfl, ?_⟩, trivial⟩
                    have hS := hS.freeze 0 rfl
                    refine Wx.lit (t := (tSl (tI .i64))) (ys := [[(cyclV (pthV (toV Ws Ow A n) (h + 1) ms h)).drop (idxP (fun y => decide (y = (minR (cyclV (pthV (toV Ws Ow A n) (h + 1) ms h))))) 0 (cyclV (pthV (toV Ws Ow A n) (h + 1) ms h))).toNat, (cyclV (pthV (toV Ws Ow A n) (h + 1) ms h)).take (idxP (fun y => decide (y = (minR (cyclV (pthV (toV Ws Ow A n) (h + 1) ms h))))) 0 (cyclV (pthV (toV Ws Ow A n) (h + 1) ms h))).toNat].flatten]) (vs := [r_282]) elMf_24 hS rfl rfl ⟨(hS.v 0 rfl), trivial⟩ (by decide) rfl (fun v_288 w_289 hx_290 hS => ?_)
                    refine Wx.nil ?_
                    refine Wp.br [14] (by kernel_rfl) (by decide) ⟨⟨_, rfl, ?_⟩, trivial⟩
                    refine Wx.append elMf_24 hS 9 rfl rfl rfl (Src.ofR hS 0 rfl) (by simp only [maxLen]; simp; omega) (by simp; omega) rfl (fun v_291 w_292 hz_293 hS => ?_)
                    refine Wx.nil ?_
                    refine Wp.rd (v := .pointer (some ⟨gf, 0, none⟩)) 15 rfl (by kernel_rfl) (fun _ => (rd_nilCheck rfl rfl)) rfl ?_
                    refine Wp.rd (v := .pointer (some ⟨gf, 3, none⟩)) 16 rfl (by kernel_rfl) (fun _ => (rd_fieldAddr rfl foMf_52_3)) rfl ?_
                    refine Wp.br [17] (by kernel_rfl) (by decide) ⟨⟨_, rfl, ?_⟩, trivial⟩
                    refine Wx.storeX (cs' := [wv, ov, sv, v_291]) (ds := [v_291]) hS 10 rfl rfl rfl (Go.Wk.cells_one (hS.rowOne 9 rfl)) Tryz.sizeOf24 (Nat.le_of_ble_eq_true rfl) (one_cons (hS.rowOne 9 rfl) one_nil) rfl (fun w_294 hz_295 hS => ?_)
                    refine Wx.nil ?_
                    refine Wp.done (by kernel_rfl) ?_
                    refine W.reg ?_
                    refine Wx.rd (v := .int .i64 (h + 1)) (rd_add rfl rfl (in_i64 (by omega) (by omega))) rfl ?_
                    refine Wx.rd (v := .int .i64 (h + 1)) (rd_move rfl) rfl ?_
                    refine Wx.nil ?_
                    refine ⟨(true, h + 1, m2, v_291, R2 ++ [[(cyclV (pthV (toV Ws Ow A n) (h + 1) ms h)).drop (idxP (fun y => decide (y = (minR (cyclV (pthV (toV Ws Ow A n) (h + 1) ms h))))) 0 (cyclV (pthV (toV Ws Ow A n) (h + 1) ms h))).toNat, (cyclV (pthV (toV Ws Ow A n) (h + 1) ms h)).take (idxP (fun y => decide (y = (minR (cyclV (pthV (toV Ws Ow A n) (h + 1) ms h))))) 0 (cyclV (pthV (toV Ws Ow A n) (h + 1) ms h))).toNat].flatten], Q ++ [rotV (cyclV (pthV (toV Ws Ow A n) (h + 1) ms h))]), (by show ((n : Int) - (h + 1)).toNat < ((n : Int) - h).toNat; omega), ?_, ?_, Out.look rfl (Out.hav rfl (Out.look rfl (Out.hav rfl (Out.look rfl (Out.hav rfl (Out.look rfl (Out.hav rfl (Out.look rfl (Out.hav rfl (Out.look rfl Out.self))))))))))⟩
                    · exact ⟨St.tl (St.tl (St.tl (St.tl (St.tl (hS.tl))))), (by first | omega | assumption), (by first | omega | assumption), (by rw [scan_next q0 (by omega), q2, hsr]), (by rw [q3, List.append_assoc, hrf]), (by simp), (by simp; omega)⟩
                    · exact ⟨rfl, rfl, trivial⟩
                  · -- operation 12
                    have hS := hS.freeze 0 rfl
                    refine Wx.callF (run_callF Tryz.call72 rfl) (F72 (hS.v 0 rfl) (by rw [hrf]; have := (rotR_ring hcy).2.length_eq; omega) hS.fb_lt) rfl ?_
                    rintro r_297 w_298 hx_299 ⟨_, rfl, hv_300⟩
                    have hS := hS.pushFr hx_299 hv_300
                    refine Wx.nil ?_
                    refine Wp.br [4, 13] (by kernel_rfl) (by decide) ⟨⟨_, rfl, ?_⟩, ⟨_, rfl, ?_⟩, trivial⟩
                    · -- operation 4
                      refine Wx.rd (v := rv2) (rd_loadX hS 9 rfl rfl rfl Tryz.isAgg24) rfl ?_
                      refine Wx.nil ?_
                      refine Wp.br [13] (by kernel_rfl) (by decide) ⟨⟨_, rfl, ?_⟩, trivial⟩
                      have hS := hS.freeze 0 rfl
                      refine Wx.lit (t := (tSl (tI .i64))) (ys := [[(cyclV (pthV (toV Ws Ow A n) (h + 1) ms h)).drop (idxP (fun y => decide (y = (minR (cyclV (pthV (toV Ws Ow A n) (h + 1) ms h))))) 0 (cyclV (pthV (toV Ws Ow A n) (h + 1) ms h))).toNat, (cyclV (pthV (toV Ws Ow A n) (h + 1) ms h)).take (idxP (fun y => decide (y = (minR (cyclV (pthV (toV Ws Ow A n) (h + 1) ms h))))) 0 (cyclV (pthV (toV Ws Ow A n) (h + 1) ms h))).toNat].flatten]) (vs := [r_297]) elMf_24 hS rfl rfl ⟨(hS.v 0 rfl), trivial⟩ (by decide) rfl (fun v_303 w_304 hx_305 hS => ?_)
                      refine Wx.nil ?_
                      refine Wp.br [14] (by kernel_rfl) (by decide) ⟨⟨_, rfl, ?_⟩, trivial⟩
                      refine Wx.append elMf_24 hS 9 rfl rfl rfl (Src.ofR hS 0 rfl) (by simp only [maxLen]; simp; omega) (by simp; omega) rfl (fun v_306 w_307 hz_308 hS => ?_)
                      refine Wx.nil ?_
                      refine Wp.rd (v := .pointer (some ⟨gf, 0, none⟩)) 15 rfl (by kernel_rfl) (fun _ => (rd_nilCheck rfl rfl)) rfl ?_
                      refine Wp.rd (v := .pointer (some ⟨gf, 3, none⟩)) 16 rfl (by kernel_rfl) (fun _ => (rd_fieldAddr rfl foMf_52_3)) rfl ?_
                      refine Wp.br [17] (by kernel_rfl) (by decide) ⟨⟨_, rfl, ?_⟩, trivial⟩
                      refine Wx.storeX (cs' := [wv, ov, sv, v_306]) (ds := [v_306]) hS 10 rfl rfl rfl (Go.Wk.cells_one (hS.rowOne 9 rfl)) Tryz.sizeOf24 (Nat.le_of_ble_eq_true rfl) (one_cons (hS.rowOne 9 rfl) one_nil) rfl (fun w_309 hz_310 hS => ?_)
                      refine Wx.nil ?_
                      refine Wp.done (by kernel_rfl) ?_
                      refine W.reg ?_
                      refine Wx.rd (v := .int .i64 (h + 1)) (rd_add rfl rfl (in_i64 (by omega) (by omega))) rfl ?_
                      refine Wx.rd (v := .int .i64 (h + 1)) (rd_move rfl) rfl ?_
                      refine Wx.nil ?_
                      refine ⟨(true, h + 1, m2, v_306, R2 ++ [[(cyclV (pthV (toV Ws Ow A n) (h + 1) ms h)).drop (idxP (fun y => decide (y = (minR (cyclV (pthV (toV Ws Ow A n) (h + 1) ms h))))) 0 (cyclV (pthV (toV Ws Ow A n) (h + 1) ms h))).toNat, (cyclV (pthV (toV Ws Ow A n) (h + 1) ms h)).take (idxP (fun y => decide (y = (minR (cyclV (pthV (toV Ws Ow A n) (h + 1) ms h))))) 0 (cyclV (pthV (toV Ws Ow A n) (h + 1) ms h))).toNat].flatten], Q ++ [rotV (cyclV (pthV (toV Ws Ow A n) (h + 1) ms h))]), (by show ((n : Int) - (h + 1)).toNat < ((n : Int) - h).toNat; omega), ?_, ?_, Out.look rfl (Out.hav rfl (Out.look rfl (Out.hav rfl (Out.look rfl (Out.hav rfl (Out.look rfl (Out.hav rfl (Out.look rfl (Out.hav rfl (Out.look rfl Out.self))))))))))⟩
                      · exact ⟨St.tl (St.tl (St.tl (St.tl (St.tl (hS.tl))))), (by first | omega | assumption), (by first | omega | assumption), (by rw [scan_next q0 (by omega), q2, hsr]), (by rw [q3, List.append_assoc, hrf]), (by simp), (by simp; omega)⟩
                      · exact ⟨rfl, rfl, trivial⟩
                    · -- operation 13
                      have hS := hS.freeze 0 rfl
                      refine Wx.lit (t := (tSl (tI .i64))) (ys := [[(cyclV (pthV (toV Ws Ow A n) (h + 1) ms h)).drop (idxP (fun y => decide (y = (minR (cyclV (pthV (toV Ws Ow A n) (h + 1) ms h))))) 0 (cyclV (pthV (toV Ws Ow A n) (h + 1) ms h))).toNat, (cyclV (pthV (toV Ws Ow A n) (h + 1) ms h)).take (idxP (fun y => decide (y = (minR (cyclV (pthV (toV Ws Ow A n) (h + 1) ms h))))) 0 (cyclV (pthV (toV Ws Ow A n) (h + 1) ms h))).toNat].flatten]) (vs := [r_297]) elMf_24 hS rfl rfl ⟨(hS.v 0 rfl), trivial⟩ (by decide) rfl (fun v_312 w_313 hx_314 hS => ?_)
                      refine Wx.nil ?_
                      refine Wp.br [4] (by kernel_rfl) (by decide) ⟨⟨_, rfl, ?_⟩, trivial⟩
                      refine Wx.rd (v := rv2) (rd_loadX hS 10 rfl rfl rfl Tryz.isAgg24) rfl ?_
                      refine Wx.nil ?_
                      refine Wp.br [14] (by kernel_rfl) (by decide) ⟨⟨_, rfl, ?_⟩, trivial⟩
                      refine Wx.append elMf_24 hS 9 rfl rfl rfl (Src.ofR hS 0 rfl) (by simp only [maxLen]; simp; omega) (by simp; omega) rfl (fun v_315 w_316 hz_317 hS => ?_)
                      refine Wx.nil ?_
                      refine Wp.rd (v := .pointer (some ⟨gf, 0, none⟩)) 15 rfl (by kernel_rfl) (fun _ => (rd_nilCheck rfl rfl)) rfl ?_
                      refine Wp.rd (v := .pointer (some ⟨gf, 3, none⟩)) 16 rfl (by kernel_rfl) (fun _ => (rd_fieldAddr rfl foMf_52_3)) rfl ?_
                      refine Wp.br [17] (by kernel_rfl) (by decide) ⟨⟨_, rfl, ?_⟩, trivial⟩
                      refine Wx.storeX (cs' := [wv, ov, sv, v_315]) (ds := [v_315]) hS 10 rfl rfl rfl (Go.Wk.cells_one (hS.rowOne 9 rfl)) Tryz.sizeOf24 (Nat.le_of_ble_eq_true rfl) (one_cons (hS.rowOne 9 rfl) one_nil) rfl (fun w_318 hz_319 hS => ?_)
                      refine Wx.nil ?_
                      refine Wp.done (by kernel_rfl) ?_
                      refine W.reg ?_
                      refine Wx.rd (v := .int .i64 (h + 1)) (rd_add rfl rfl (in_i64 (by omega) (by omega))) rfl ?_
                      refine Wx.rd (v := .int .i64 (h + 1)) (rd_move rfl) rfl ?_
                      refine Wx.nil ?_
                      refine ⟨(true, h + 1, m2, v_315, R2 ++ [[(cyclV (pthV (toV Ws Ow A n) (h + 1) ms h)).drop (idxP (fun y => decide (y = (minR (cyclV (pthV (toV Ws Ow A n) (h + 1) ms h))))) 0 (cyclV (pthV (toV Ws Ow A n) (h + 1) ms h))).toNat, (cyclV (pthV (toV Ws Ow A n) (h + 1) ms h)).take (idxP (fun y => decide (y = (minR (cyclV (pthV (toV Ws Ow A n) (h + 1) ms h))))) 0 (cyclV (pthV (toV Ws Ow A n) (h + 1) ms h))).toNat].flatten], Q ++ [rotV (cyclV (pthV (toV Ws Ow A n) (h + 1) ms h))]), (by show ((n : Int) - (h + 1)).toNat < ((n : Int) - h).toNat; omega), ?_, ?_, Out.look rfl (Out.hav rfl (Out.look rfl (Out.hav rfl (Out.look rfl (Out.hav rfl (Out.look rfl (Out.hav rfl (Out.look rfl (Out.hav rfl (Out.look rfl Out.self))))))))))⟩
                      · exact ⟨St.tl (St.tl (St.tl (St.tl (St.tl (hS.tl))))), (by first | omega | assumption), (by first | omega | assumption), (by rw [scan_next q0 (by omega), q2, hsr]), (by rw [q3, List.append_assoc, hrf]), (by simp), (by simp; omega)⟩
                      · exact ⟨rfl, rfl, trivial⟩
    · -- no
      have hQ : Q = rndV (toV Ws Ow A n) n := by rw [← scan_all (i := h) (by omega), q2]
      have hsay : R2 = (R ++ rndV (toV Ws Ow A n) n) := by rw [q3, hQ]
      rw [hsay] at hS
      refine W.exit rfl ?_
      refine W.seq ?_
      refine W.reg ?_
      refine Wx.rd (v := .bool fd) (rd_move rfl) rfl ?_
      refine Wx.rd (v := .bool fd) (rd_assign rfl) rfl ?_
      refine Wx.nil ?_
      exact W.ret ⟨.bool fd, ResIs.one, (by rw [q5, hQ]), _, _, hA2, hI2, (St.tl (St.tl hS))⟩
end Go.Proofs.YtlibemgaepkceaaGreatDoor

namespace Go.Proofs.YtlibemgaepkceaaGreatDoor
open Go.Wk Go.RowKit Go.Lib
set_option linter.unusedVariables false
set_option linter.unusedSimpArgs false
theorem foMh_52_3 : fldOff Tryz.prog 52 3 = some 3 := by kernel_rfl
theorem foMh_52_2 : fldOff Tryz.prog 52 2 = some 2 := by kernel_rfl
theorem elMh_25 : ElemI Tryz.prog 25 3 (.int .i64 0) 1 8 := ElemI.of Tryz.underlying25 (by kernel_rfl) (by first | rfl | kernel_rfl) (by decide)
theorem mixedMh_ : Tryz.prog.follows .mixedOrders = true := by kernel_rfl

set_option maxHeartbeats 4000000 in
theorem F34 {sv rv wv ov : Value} {Ws : List (List Int)} {Ow : List Int} {gf : Nat} {n : Nat} {ob : List Ob} {w0 w : World} {O : List (Option Nat)} (hW : WOK n Ws Ow) (p_n : 1 ≤ n ∧ n ≤ 6) (hS : St w0 O w (.row tHS 71 sv (List.replicate n (HS.w 0)) :: .row (tSl (tI .i64)) 25 rv ([] : List (List Int)) :: .box gf 52 [wv, ov, sv, rv] :: Ob.v (tSl (tSl (tI .i64))) Ws wv :: Ob.v (tSl (tI .i64)) Ow ov :: ob)) : Calls Tryz.prog 34 #[.pointer (some ⟨gf, 0, none⟩)] w (Bk fun r w' => r = .tuple #[] ∧ ∃ S' R' Rq A' rv', Runs Ws Ow n (none0 n) [] A' Rq ∧ R'.Perm Rq ∧ absL S' = A' ∧ S'.length = n ∧ St w0 O w' (.row tHS 71 sv S' :: .row (tSl (tI .i64)) 25 rv' R' :: .box gf 52 [wv, ov, sv, rv'] :: Ob.v (tSl (tSl (tI .i64))) Ws wv :: Ob.v (tSl (tI .i64)) Ow ov :: ob)) := by
  have hWl := hW.l
  have hOl := hW.o
  refine enterB Tryz.func34 rfl Tryz.ntmps34 Tryz.results34 rfl ?_
  refine W.seq ?_
  refine W.reg ?_
  refine Wx.rd (v := .int .i64 1) (rd_assign rfl) rfl ?_
  refine Wx.rd (v := .int .i64 0) (rd_assign rfl) rfl ?_
  refine Wx.nil ?_
  refine W.block ?_
  refine W.loop [2, 3, 4, 5, 7, 9, 11, 13, 14, 15, 16, 17, 18, 19, 20, 21, 22, 23, 24, 25, 26, 27, 28, 29, 30, 31, 32, 33, 34, 35, 36, 37, 38, 39, 40, 41, 42, 43, 44, 45, 46, 47, 48, 49, 50, 51, 52, 53, 54, 55, 56, 57, 58, 59, 60, 61, 62, 63, 64, 65, 66, 67, 68, 69, 70, 71, 72, 73, 74, 75, 76, 77, 78, 79, 80, 81, 82, 83, 84, 85] (fun x : Int × Int × (List HS) × Value × (List (List Int)) × (List (List Int)) => match x with | (nb, dn, S2, rv2, R2, Q) => [(2, .int .i64 nb), (3, .int .i64 dn)]) (fun (x : Int × Int × (List HS) × Value × (List (List Int)) × (List (List Int))) w' => match x with | (nb, dn, S2, rv2, R2, Q) => St w0 O w' (.row tHS 71 sv S2 :: .row (tSl (tI .i64)) 25 rv2 R2 :: .box gf 52 [wv, ov, sv, rv2] :: Ob.v (tSl (tSl (tI .i64))) Ws wv :: Ob.v (tSl (tI .i64)) Ow ov :: ob) ∧ 1 ≤ nb ∧ nb + (cntA (absL S2) : Int) ≤ 100 ∧ SInv n Ws Ow S2 ∧ (∀ A1 R1, Runs Ws Ow n (absL S2) Q A1 R1 → Runs Ws Ow n (none0 n) [] A1 R1) ∧ R2.Perm Q ∧ RunI Ow n (absL S2) Q ∧ dn = R2.length) (fun x : Int × Int × (List HS) × Value × (List (List Int)) × (List (List Int)) => match x with | (nb, dn, S2, rv2, R2, Q) => cntA (absL S2)) (1, 0, (List.replicate n (HS.w 0)), rv, ([] : List (List Int)), ([] : List (List Int))) ⟨rfl, rfl, trivial⟩ ⟨hS, (by first | omega | simp), (by have := List.countP_le_length (p := Option.isNone) (l := absL (List.replicate n (HS.w 0))); rw [absL_len, List.length_replicate] at this; rw [cntA]; omega), (sinv_start), (fun _ _ h => by rw [absL_rep] at h; exact h), (List.Perm.refl _), (by rw [absL_rep]; exact run_start), (rfl)⟩ ?_
  rintro ⟨nb, dn, S2, rv2, R2, Q⟩ u_2 w_1 ⟨hS, g0, g1, g2, g3, g4, g5, g6⟩
  have hI2l : (absL S2).length = n := by rw [absL_len]; exact g2.1
  have hR6 := runI_len g5
  have hRQ := g4.length_eq
  refine W.seq ?_
  refine W.block ?_
  refine W.seq ?_
  refine W.seq ?_
  refine W.reg ?_
  refine Wx.rd (v := .pointer (some ⟨gf, 0, none⟩)) (rd_move rfl) rfl ?_
  refine Wx.rd (v := .int .i64 nb) (rd_move rfl) rfl ?_
  have hS := hS.front 4 rfl
  have hS := hS.front 4 rfl
  have hS := hS.front 4 rfl
  have hS := hS.front 4 rfl
  have hS := hS.front 4 rfl
  have hS : St _ _ w_1 (.row tHS 71 sv S2 :: .row (tSl (tI .i64)) 25 rv2 R2 :: .box gf 52 [wv, ov, sv, rv2] :: Ob.v (tSl (tSl (tI .i64))) Ws wv :: Ob.v (tSl (tI .i64)) Ow ov :: ob) := hS
  refine Wx.callB (run_callF Tryz.call56 rfl) (F56 (ob := (ob)) (n := n) (A := absL S2) hW p_n rfl g2 (by omega) hS) rfl ?_
  rintro r_4 w_5 ⟨rfl, S3, rv_3, hA3, hI3, hS⟩
  have hS : St _ _ w_5 (.row tHS 71 sv S3 :: .row (tSl (tI .i64)) 25 rv_3 (R2 ++ (rndV (toV Ws Ow (absL S2) n) n)) :: .box gf 52 [wv, ov, sv, rv_3] :: Ob.v (tSl (tSl (tI .i64))) Ws wv :: Ob.v (tSl (tI .i64)) Ow ov :: ob) := hS
  have hS := hS.front 4 rfl
  have hS := hS.front 4 rfl
  have hS := hS.front 4 rfl
  have hS := hS.front 4 rfl
  have hS := hS.front 4 rfl
  have hS : St _ _ w_5 (.row tHS 71 sv S3 :: .row (tSl (tI .i64)) 25 rv_3 (R2 ++ (rndV (toV Ws Ow (absL S2) n) n)) :: .box gf 52 [wv, ov, sv, rv_3] :: Ob.v (tSl (tSl (tI .i64))) Ws wv :: Ob.v (tSl (tI .i64)) Ow ov :: ob) := hS
  refine Wx.rd (v := .bool (!(!decide ((rndV (toV Ws Ow (absL S2) n) n) = [])))) (rd_not rfl) rfl ?_
  refine Wx.nil ?_
  refine W.cond rfl (fun c0 => ?_) (fun c0 => ?_)
  · -- yes
    try simp only [Bool.and_eq_true, Bool.or_eq_true, Bool.not_eq_true', Bool.and_eq_false_iff, Bool.or_eq_false_iff, Bool.not_eq_false', decide_eq_true_eq, decide_eq_false_iff_not, not_or, Bool.false_eq_true, Bool.true_eq_false, false_or, or_false, not_false_eq_true] at c0
    exact W.ret ⟨.tuple #[], ResIs.zero, rfl, _, _, Q, absL S2, _, g3 _ _ (.done c0), (by rw [c0, List.append_nil]; exact g4), hA3, hI3.1, hS⟩
  · -- no
    try simp only [Bool.and_eq_true, Bool.or_eq_true, Bool.not_eq_true', Bool.and_eq_false_iff, Bool.or_eq_false_iff, Bool.not_eq_false', decide_eq_true_eq, decide_eq_false_iff_not, not_or, Bool.false_eq_true, Bool.true_eq_false, false_or, or_false, not_false_eq_true] at c0
    have c0n : (rndV (toV Ws Ow (absL S2) n) n) ≠ [] := by simpa using c0
    have hrk := rnd_ok (toV_ok hW (A := absL S2)).1 (toV_ok hW (A := absL S2)).2
    have hqp := List.length_pos_iff.2 c0n
    have hln : (R2 ++ (rndV (toV Ws Ow (absL S2) n) n)).length = R2.length + (rndV (toV Ws Ow (absL S2) n) n).length := List.length_append
    have hnx := run_next hW g5
    have hq6 := runI_len hnx
    rw [List.length_append] at hq6
    have hcn := next_cnt hW hI2l c0n
    refine W.skip ?_
    refine W.seq ?_
    refine W.reg ?_
    obtain ⟨g_6, c_7, rfl, hc_8⟩ := hS.rowForm 1 rfl (by omega)
    refine Wx.rd (v := .pointer (some ⟨gf, 0, none⟩)) (rd_move rfl) rfl ?_
    refine Wx.rd (v := .pointer (some ⟨gf, 0, none⟩)) (rd_nilCheck rfl rfl) rfl ?_
    refine Wx.rd (v := .pointer (some ⟨gf, 3, none⟩)) (rd_fieldAddr rfl foMh_52_3) rfl ?_
    refine Wx.rd (v := (.slice (some ⟨g_6, 0, none⟩) (R2 ++ (rndV (toV Ws Ow (absL S2) n) n)).length c_7)) (rd_loadX hS 2 rfl rfl rfl Tryz.isAgg24) rfl ?_
    refine Wx.rd (v := .int .i64 dn) (rd_move rfl) rfl ?_
    refine Wx.rd (v := .slice (some ⟨g_6, dn.toNat * 1, none⟩) ((R2 ++ (rndV (toV Ws Ow (absL S2) n) n)).length - dn.toNat) (c_7 - dn.toNat)) (rd_tailP Tryz.underlying24 Tryz.sizeOf25 rfl rfl (by omega) (by omega) (by omega)) rfl ?_
    refine Wx.rd (v := .slice (some ⟨g_6, dn.toNat * 1, none⟩) ((R2 ++ (rndV (toV Ws Ow (absL S2) n) n)).length - dn.toNat) (c_7 - dn.toNat)) (rd_assign rfl) rfl ?_
    refine Wx.nil ?_
    refine W.seq ?_
    refine W.reg ?_
    refine Wx.rd (v := .slice (some ⟨g_6, dn.toNat * 1, none⟩) ((R2 ++ (rndV (toV Ws Ow (absL S2) n) n)).length - dn.toNat) (c_7 - dn.toNat)) (rd_move rfl) rfl ?_
    refine Wx.callB (run_callF Tryz.call9 rfl) (sortTail (u := .slice (some ⟨g_6, dn.toNat * 1, none⟩) ((R2 ++ (rndV (toV Ws Ow (absL S2) n) n)).length - dn.toNat) (c_7 - dn.toNat)) hS 1 rfl dn.toNat (by omega) (by omega) (fun g' c' hv => by simp only [Value.slice.injEq, Option.some.injEq, Addr.mk.injEq, true_and, and_true] at hv; obtain ⟨rfl, rfl⟩ := hv; rw [Nat.mul_one])) rfl ?_
    rintro r_9 w_10 ⟨rfl, zs, hzp, hzs, hS⟩
    have hS : St _ _ w_10 (.row tHS 71 sv S3 :: .row (tSl (tI .i64)) 25 (.slice (some ⟨g_6, 0, none⟩) (R2 ++ (rndV (toV Ws Ow (absL S2) n) n)).length c_7) (List.take dn.toNat (R2 ++ (rndV (toV Ws Ow (absL S2) n) n)) ++ zs) :: .box gf 52 [wv, ov, sv, (.slice (some ⟨g_6, 0, none⟩) (R2 ++ (rndV (toV Ws Ow (absL S2) n) n)).length c_7)] :: Ob.v (tSl (tSl (tI .i64))) Ws wv :: Ob.v (tSl (tI .i64)) Ow ov :: ob) := hS
    have hsay : List.take dn.toNat (R2 ++ (rndV (toV Ws Ow (absL S2) n) n)) ++ zs = R2 ++ zs := by rw [List.take_left' (by omega)]
    rw [hsay] at hS
    have hS : St _ _ w_10 (.row tHS 71 sv S3 :: .row (tSl (tI .i64)) 25 (.slice (some ⟨g_6, 0, none⟩) (R2 ++ (rndV (toV Ws Ow (absL S2) n) n)).length c_7) (R2 ++ zs) :: .box gf 52 [wv, ov, sv, (.slice (some ⟨g_6, 0, none⟩) (R2 ++ (rndV (toV Ws Ow (absL S2) n) n)).length c_7)] :: Ob.v (tSl (tSl (tI .i64))) Ws wv :: Ob.v (tSl (tI .i64)) Ow ov :: ob) := hS
    have hzp : zs.Perm (rndV (toV Ws Ow (absL S2) n) n) := by rw [List.drop_left' (by omega)] at hzp; exact hzp
    have hzl := hzp.length_eq
    have hzr : ∀ l ∈ zs, ∀ x ∈ l, 0 ≤ x ∧ x < (n : Int) := fun l hl x hx => ((hrk.1 l (hzp.mem_iff.1 hl)).2 x hx).1
    refine Wx.nil ?_
    refine W.seq ?_
    refine W.reg ?_
    refine Wx.rd (v := .pointer (some ⟨gf, 0, none⟩)) (rd_move rfl) rfl ?_
    refine Wx.rd (v := .pointer (some ⟨gf, 0, none⟩)) (rd_nilCheck rfl rfl) rfl ?_
    refine Wx.rd (v := .pointer (some ⟨gf, 2, none⟩)) (rd_fieldAddr rfl foMh_52_2) rfl ?_
    refine Wx.rd (v := sv) (rd_loadX hS 2 rfl rfl rfl Tryz.isAgg50) rfl ?_
    refine Wx.rd (v := .int .i64 (S3.length : Int)) (rd_lenR hS 0 rfl rfl Tryz.underlying50) rfl ?_
    refine Wx.make (t := (tI .i64)) (zy := (0 : Int)) (m := n) elMh_25 rfl rfl (fun _ _ => ⟨rfl, by decide, by decide⟩) hS (congrArg (Value.int .i64) (by rw [hI3.1])) (congrArg (Value.int .i64) (by rw [hI3.1])) (by omega) (by simp only [maxLen]; omega) rfl (fun v_11 w_12 hx_13 hS => ?_)
    refine Wx.rd (v := v_11) (rd_assign rfl) rfl ?_
    refine Wx.nil ?_
    refine W.seq ?_
    refine W.seq ?_
    refine W.reg ?_
    refine Wx.rd (v := .slice (some ⟨g_6, dn.toNat * 1, none⟩) ((R2 ++ (rndV (toV Ws Ow (absL S2) n) n)).length - dn.toNat) (c_7 - dn.toNat)) (rd_move rfl) rfl ?_
    refine Wx.rd (v := .int .i64 (((R2 ++ (rndV (toV Ws Ow (absL S2) n) n)).length - dn.toNat : Nat) : Int)) (rd_len rfl Tryz.underlying24) rfl ?_
    refine Wx.rd (v := .int .i64 0) (rd_move rfl) rfl ?_
    refine Wx.nil ?_
    refine W.block ?_
    refine W.loop [7, 9, 36, 37, 38, 39, 40, 41, 42, 43, 44, 45, 46, 47, 48, 49, 50, 51, 52, 53] (fun x : Int × (List HS) × (List Int) => match x with | (i, S4, gs) => [(36, .int .i64 i)]) (fun (x : Int × (List HS) × (List Int)) w' => match x with | (i, S4, gs) => St w0 O w' (.row (tI .i64) 3 v_11 gs :: .row tHS 71 sv S4 :: .row (tSl (tI .i64)) 25 (.slice (some ⟨g_6, 0, none⟩) (R2 ++ (rndV (toV Ws Ow (absL S2) n) n)).length c_7) (R2 ++ zs) :: .box gf 52 [wv, ov, sv, (.slice (some ⟨g_6, 0, none⟩) (R2 ++ (rndV (toV Ws Ow (absL S2) n) n)).length c_7)] :: Ob.v (tSl (tSl (tI .i64))) Ws wv :: Ob.v (tSl (tI .i64)) Ow ov :: ob) ∧ 0 ≤ i ∧ i ≤ zs.length ∧ absL S4 = absL S2 ∧ SInv n Ws Ow S4 ∧ GtI n Ws Ow (absL S2) gs (zs.take i.toNat).flatten) (fun x : Int × (List HS) × (List Int) => match x with | (i, S4, gs) => (zs.length - i).toNat) (0, S3, List.replicate n (0 : Int)) ⟨rfl, trivial⟩ ⟨hS, (by first | omega | simp), (by first | omega | simp), (hA3), (hI3), (gtI_start)⟩ ?_
    rintro ⟨i, S4, gs⟩ u_17 w_16 ⟨hS, i0, i1, x1, x2, x3⟩
    refine W.seq ?_
    refine W.reg ?_
    refine Wx.rd (v := .bool (decide (i < (((R2 ++ (rndV (toV Ws Ow (absL S2) n) n)).length - dn.toNat : Nat) : Int)))) (rd_lss rfl rfl) rfl ?_
    refine Wx.nil ?_
    refine W.seq ?_
    refine W.condD rfl (fun c1 => ?_) (fun c1 => ?_)
    · -- yes
      refine W.skip ?_
      refine W.seq ?_
      refine W.block ?_
      refine W.seq ?_
      refine W.reg ?_
      refine Wx.rd (v := .pointer (some ⟨g_6, (dn + i).toNat * 1, none⟩)) (rd_indexT (lo := dn) (m := i) Tryz.underlying24 Tryz.sizeOf25 rfl rfl (by omega) (by omega) (by omega)) rfl ?_
      refine Wx.ex (rd_loadR' [] hS 2 rfl rfl rfl (by first | omega | (simp only [List.length_set, List.length_append, List.length_cons, List.length_nil, List.length_replicate]; omega)) (by first | omega | (simp only [List.length_set, List.length_append, List.length_cons, List.length_nil, List.length_replicate]; omega)) Tryz.isAgg25 Tryz.sizeOf25) rfl (fun v_18 hv_19 => ?_)
      have ln_20 := hv_19.len63
      have hS := hS.add hv_19
      have hsay : ix [] (R2 ++ zs) (dn + i) = ix [] zs i := tail_ix (by omega) (by omega)
      rw [hsay] at hS
      have hsl_ := congrArg List.length hsay
      refine Wx.rd (v := v_18) (rd_assign rfl) rfl ?_
      refine Wx.nil ?_
      refine W.seq ?_
      refine W.reg ?_
      refine Wx.rd (v := v_18) (rd_move rfl) rfl ?_
      refine Wx.rd (v := .int .i64 ((ix [] zs i).length : Int)) (rd_lenV rfl (hS.v 0 rfl) Tryz.underlying25) rfl ?_
      refine Wx.rd (v := .int .i64 0) (rd_move rfl) rfl ?_
      refine Wx.nil ?_
      refine W.block ?_
      refine W.loop [9, 42, 43, 44, 45, 46, 47, 48, 49, 50, 51, 52] (fun x : Int × (List HS) × (List Int) => match x with | (j, S5, gt) => [(42, .int .i64 j)]) (fun (x : Int × (List HS) × (List Int)) w' => match x with | (j, S5, gt) => St w0 O w' (Ob.v (tSl (tI .i64)) (ix [] zs i) v_18 :: .row (tI .i64) 3 v_11 gt :: .row tHS 71 sv S5 :: .row (tSl (tI .i64)) 25 (.slice (some ⟨g_6, 0, none⟩) (R2 ++ (rndV (toV Ws Ow (absL S2) n) n)).length c_7) (R2 ++ zs) :: .box gf 52 [wv, ov, sv, (.slice (some ⟨g_6, 0, none⟩) (R2 ++ (rndV (toV Ws Ow (absL S2) n) n)).length c_7)] :: Ob.v (tSl (tSl (tI .i64))) Ws wv :: Ob.v (tSl (tI .i64)) Ow ov :: ob) ∧ 0 ≤ j ∧ j ≤ (ix [] zs i).length ∧ absL S5 = absL S2 ∧ SInv n Ws Ow S5 ∧ GtI n Ws Ow (absL S2) gt ((zs.take i.toNat).flatten ++ (ix [] zs i).take j.toNat)) (fun x : Int × (List HS) × (List Int) => match x with | (j, S5, gt) => ((ix [] zs i).length - j).toNat) (0, S4, gs) ⟨rfl, trivial⟩ ⟨hS, (by first | omega | simp), (by first | omega | simp), (x1), (x2), (by rw [← flat_zero]; exact x3)⟩ ?_
      rintro ⟨j, S5, gt⟩ u_23 w_22 ⟨hS, j0, j1, y1, y2, y3⟩
      refine W.seq ?_
      refine W.reg ?_
      refine Wx.rd (v := .bool (decide (j < ((ix [] zs i).length : Int)))) (rd_lss rfl rfl) rfl ?_
      refine Wx.nil ?_
      refine W.seq ?_
      refine W.condD rfl (fun c2 => ?_) (fun c2 => ?_)
      · -- yes
        have hh := hzr (ix [] zs i) (ix_memR (by omega) (by omega)) (ix 0 (ix [] zs i) j) (ix_memR (by omega) (by omega))
        have hgl := y3.1
        refine W.skip ?_
        refine W.seq ?_
        refine W.block ?_
        refine W.seq ?_
        refine W.reg ?_
        refine Wx.ex (rd_index 0 (hS.v 0 rfl) rfl rfl Tryz.underlying25 Tryz.sizeOf3 (by first | omega | (simp only [List.length_set, List.length_append, List.length_cons, List.length_nil, List.length_replicate]; omega)) (by first | omega | (simp only [List.length_set, List.length_append, List.length_cons, List.length_nil, List.length_replicate]; omega))) rfl (fun p_24 hp_25 => ?_)
        refine Wx.rd (v := .int .i64 (ix 0 (ix [] zs i) j)) (rd_loadI hp_25 rfl Tryz.isAgg3 Tryz.sizeOf3) rfl ?_
        have bd_26 := bd_i64 hp_25.inK
        refine Wx.rd (v := .int .i64 (ix 0 (ix [] zs i) j)) (rd_assign rfl) rfl ?_
        refine Wx.nil ?_
        refine W.reg ?_
        refine Wx.rd (v := v_11) (rd_move rfl) rfl ?_
        refine Wx.rd (v := .int .i64 (ix 0 (ix [] zs i) j)) (rd_move rfl) rfl ?_
        refine Wx.rd (v := .pointer (some ⟨gf, 0, none⟩)) (rd_move rfl) rfl ?_
        refine Wx.rd (v := .int .i64 (ix 0 (ix [] zs i) j)) (rd_move rfl) rfl ?_
        have hS := hS.front 1 rfl
        have hS := hS.front 1 rfl
        have hS := hS.front 6 rfl
        have hS := hS.front 6 rfl
        have hS := hS.front 6 rfl
        have hS := hS.front 6 rfl
        have hS := hS.front 6 rfl
        have hS : St _ _ w_22 (.row tHS 71 sv S5 :: .row (tSl (tI .i64)) 25 (.slice (some ⟨g_6, 0, none⟩) (R2 ++ (rndV (toV Ws Ow (absL S2) n) n)).length c_7) (R2 ++ zs) :: .box gf 52 [wv, ov, sv, (.slice (some ⟨g_6, 0, none⟩) (R2 ++ (rndV (toV Ws Ow (absL S2) n) n)).length c_7)] :: Ob.v (tSl (tSl (tI .i64))) Ws wv :: Ob.v (tSl (tI .i64)) Ow ov :: Ob.v (tSl (tI .i64)) (ix [] zs i) v_18 :: .row (tI .i64) 3 v_11 gt :: ob) := hS
        refine Wx.callB (run_callF Tryz.call57 rfl) (F57 (ob := (Ob.v (tSl (tI .i64)) (ix [] zs i) v_18 :: .row (tI .i64) 3 v_11 gt :: ob)) (n := n) (A := absL S2) (h := (ix 0 (ix [] zs i) j)) hW p_n y1 y2 hh hS) rfl ?_
        rintro r_30 w_31 ⟨rfl, S_27, hA_28, hI_29, hS⟩
        have hS : St _ _ w_31 (.row tHS 71 sv S_27 :: .row (tSl (tI .i64)) 25 (.slice (some ⟨g_6, 0, none⟩) (R2 ++ (rndV (toV Ws Ow (absL S2) n) n)).length c_7) (R2 ++ zs) :: .box gf 52 [wv, ov, sv, (.slice (some ⟨g_6, 0, none⟩) (R2 ++ (rndV (toV Ws Ow (absL S2) n) n)).length c_7)] :: Ob.v (tSl (tSl (tI .i64))) Ws wv :: Ob.v (tSl (tI .i64)) Ow ov :: Ob.v (tSl (tI .i64)) (ix [] zs i) v_18 :: .row (tI .i64) 3 v_11 gt :: ob) := hS
        have hS := hS.front 4 rfl
        have hS := hS.front 4 rfl
        have hS := hS.front 4 rfl
        have hS := hS.front 4 rfl
        have hS := hS.front 4 rfl
        have hS := hS.front 6 rfl
        have hS := hS.front 6 rfl
        have hS : St _ _ w_31 (Ob.v (tSl (tI .i64)) (ix [] zs i) v_18 :: .row (tI .i64) 3 v_11 gt :: .row tHS 71 sv S_27 :: .row (tSl (tI .i64)) 25 (.slice (some ⟨g_6, 0, none⟩) (R2 ++ (rndV (toV Ws Ow (absL S2) n) n)).length c_7) (R2 ++ zs) :: .box gf 52 [wv, ov, sv, (.slice (some ⟨g_6, 0, none⟩) (R2 ++ (rndV (toV Ws Ow (absL S2) n) n)).length c_7)] :: Ob.v (tSl (tSl (tI .i64))) Ws wv :: Ob.v (tSl (tI .i64)) Ow ov :: ob) := hS
        have hbw := wish_bd (A := absL S2) hW (x := (ix 0 (ix [] zs i) j)) hh.1 hh.2
        refine Wx.indexR hS 1 rfl rfl rfl Tryz.underlying25 Tryz.sizeOf3 (by first | omega | (simp only [List.length_set, List.length_append, List.length_cons, List.length_nil, List.length_replicate]; omega)) (by first | omega | (simp only [List.length_set, List.length_append, List.length_cons, List.length_nil, List.length_replicate]; omega)) rfl (fun g_32 hg_33 => ?_)
        refine Wx.storeR (j := (ix 0 (ix [] zs i) j).toNat) (z := wishV Ws Ow (absL S2) (ix 0 (ix [] zs i) j)) hS 1 rfl hg_33 rfl (by first | omega | (simp only [List.length_set, List.length_append, List.length_cons, List.length_nil, List.length_replicate]; omega)) rfl (V.mkInt (in_i64 (by omega) (by omega))) Tryz.sizeOf3 (fun w_34 hz_35 hS => ?_)
        refine Wx.nil ?_
        refine W.reg ?_
        refine Wx.rd (v := .int .i64 (j + 1)) (rd_add rfl rfl (in_i64 (by omega) (by omega))) rfl ?_
        refine Wx.rd (v := .int .i64 (j + 1)) (rd_move rfl) rfl ?_
        refine Wx.nil ?_
        refine ⟨(j + 1, S_27, List.set gt (ix 0 (ix [] zs i) j).toNat (wishV Ws Ow (absL S2) (ix 0 (ix [] zs i) j))), (by show ((ix [] zs i).length - (j + 1)).toNat < ((ix [] zs i).length - j).toNat; omega), ?_, ?_, Out.look rfl Out.self⟩
        · exact ⟨hS, (by first | omega | assumption), (by first | omega | assumption), (by assumption), (by assumption), (by rw [flat_in j0 (by omega)]; exact gtI_next y3 hh.1 hh.2)⟩
        · exact ⟨rfl, trivial⟩
      · -- no
        refine W.exit rfl ?_
        refine W.reg ?_
        refine Wx.rd (v := .int .i64 (i + 1)) (rd_add rfl rfl (in_i64 (by omega) (by omega))) rfl ?_
        refine Wx.rd (v := .int .i64 (i + 1)) (rd_move rfl) rfl ?_
        refine Wx.nil ?_
        refine ⟨(i + 1, S5, gt), (by show (zs.length - (i + 1)).toNat < (zs.length - i).toNat; omega), ?_, ?_, Out.look rfl (Out.hav rfl (Out.look rfl Out.self))⟩
        · exact ⟨hS.tl, (by first | omega | assumption), (by first | omega | assumption), (y1), (y2), (by rw [← flat_out (j := j) i0 (by omega) (by omega)]; exact y3)⟩
        · exact ⟨rfl, trivial⟩
    · -- no
      have x3 : GtI n Ws Ow (absL S2) gs zs.flatten := by rw [take_end (by omega)] at x3; exact x3
      refine W.exit rfl ?_
      refine W.seq ?_
      refine W.seq ?_
      refine W.reg ?_
      refine Wx.rd (v := .slice (some ⟨g_6, dn.toNat * 1, none⟩) ((R2 ++ (rndV (toV Ws Ow (absL S2) n) n)).length - dn.toNat) (c_7 - dn.toNat)) (rd_move rfl) rfl ?_
      refine Wx.rd (v := .int .i64 (((R2 ++ (rndV (toV Ws Ow (absL S2) n) n)).length - dn.toNat : Nat) : Int)) (rd_len rfl Tryz.underlying24) rfl ?_
      refine Wx.rd (v := .int .i64 0) (rd_move rfl) rfl ?_
      refine Wx.nil ?_
      refine W.block ?_
      refine W.loop [11, 13, 56, 57, 58, 59, 60, 61, 62, 63, 64, 65, 66, 67, 68, 69, 70, 71, 72, 73, 74, 75, 76, 77, 78, 79, 80] (fun x : Int × (List HS) => match x with | (u, S6) => [(56, .int .i64 u)]) (fun (x : Int × (List HS)) w' => match x with | (u, S6) => St w0 O w' (.row (tI .i64) 3 v_11 gs :: .row tHS 71 sv S6 :: .row (tSl (tI .i64)) 25 (.slice (some ⟨g_6, 0, none⟩) (R2 ++ (rndV (toV Ws Ow (absL S2) n) n)).length c_7) (R2 ++ zs) :: .box gf 52 [wv, ov, sv, (.slice (some ⟨g_6, 0, none⟩) (R2 ++ (rndV (toV Ws Ow (absL S2) n) n)).length c_7)] :: Ob.v (tSl (tSl (tI .i64))) Ws wv :: Ob.v (tSl (tI .i64)) Ow ov :: ob) ∧ 0 ≤ u ∧ u ≤ zs.length ∧ StI n nb gs S4 S6 (zs.take u.toNat).flatten) (fun x : Int × (List HS) => match x with | (u, S6) => (zs.length - u).toNat) (0, S4) ⟨rfl, trivial⟩ ⟨hS, (by first | omega | simp), (by first | omega | simp), (stI_start x2.1)⟩ ?_
      rintro ⟨u, S6⟩ u_37 w_36 ⟨hS, u00, u01, u1⟩
      refine W.seq ?_
      refine W.reg ?_
      refine Wx.rd (v := .bool (decide (u < (((R2 ++ (rndV (toV Ws Ow (absL S2) n) n)).length - dn.toNat : Nat) : Int)))) (rd_lss rfl rfl) rfl ?_
      refine Wx.nil ?_
      refine W.seq ?_
      refine W.condD rfl (fun c3 => ?_) (fun c3 => ?_)
      · -- yes
        refine W.skip ?_
        refine W.seq ?_
        refine W.block ?_
        refine W.seq ?_
        refine W.reg ?_
        refine Wx.rd (v := .pointer (some ⟨g_6, (dn + u).toNat * 1, none⟩)) (rd_indexT (lo := dn) (m := u) Tryz.underlying24 Tryz.sizeOf25 rfl rfl (by omega) (by omega) (by omega)) rfl ?_
        refine Wx.ex (rd_loadR' [] hS 2 rfl rfl rfl (by first | omega | (simp only [List.length_set, List.length_append, List.length_cons, List.length_nil, List.length_replicate]; omega)) (by first | omega | (simp only [List.length_set, List.length_append, List.length_cons, List.length_nil, List.length_replicate]; omega)) Tryz.isAgg25 Tryz.sizeOf25) rfl (fun v_38 hv_39 => ?_)
        have ln_40 := hv_39.len63
        have hS := hS.add hv_39
        have hsay : ix [] (R2 ++ zs) (dn + u) = ix [] zs u := tail_ix (by omega) (by omega)
        rw [hsay] at hS
        have hsl_ := congrArg List.length hsay
        refine Wx.rd (v := v_38) (rd_assign rfl) rfl ?_
        refine Wx.nil ?_
        refine W.seq ?_
        refine W.reg ?_
        refine Wx.rd (v := v_38) (rd_move rfl) rfl ?_
        refine Wx.rd (v := .int .i64 ((ix [] zs u).length : Int)) (rd_lenV rfl (hS.v 0 rfl) Tryz.underlying25) rfl ?_
        refine Wx.rd (v := .int .i64 0) (rd_move rfl) rfl ?_
        refine Wx.nil ?_
        refine W.block ?_
        refine W.loop [13, 62, 63, 64, 65, 66, 67, 68, 69, 70, 71, 72, 73, 74, 75, 76, 77, 78, 79] (fun x : Int × (List HS) => match x with | (q, S7) => [(62, .int .i64 q)]) (fun (x : Int × (List HS)) w' => match x with | (q, S7) => St w0 O w' (Ob.v (tSl (tI .i64)) (ix [] zs u) v_38 :: .row (tI .i64) 3 v_11 gs :: .row tHS 71 sv S7 :: .row (tSl (tI .i64)) 25 (.slice (some ⟨g_6, 0, none⟩) (R2 ++ (rndV (toV Ws Ow (absL S2) n) n)).length c_7) (R2 ++ zs) :: .box gf 52 [wv, ov, sv, (.slice (some ⟨g_6, 0, none⟩) (R2 ++ (rndV (toV Ws Ow (absL S2) n) n)).length c_7)] :: Ob.v (tSl (tSl (tI .i64))) Ws wv :: Ob.v (tSl (tI .i64)) Ow ov :: ob) ∧ 0 ≤ q ∧ q ≤ (ix [] zs u).length ∧ StI n nb gs S4 S7 ((zs.take u.toNat).flatten ++ (ix [] zs u).take q.toNat)) (fun x : Int × (List HS) => match x with | (q, S7) => ((ix [] zs u).length - q).toNat) (0, S6) ⟨rfl, trivial⟩ ⟨hS, (by first | omega | simp), (by first | omega | simp), (by rw [← flat_zero]; exact u1)⟩ ?_
        rintro ⟨q, S7⟩ u_43 w_42 ⟨hS, q0, q1, v1⟩
        refine W.seq ?_
        refine W.reg ?_
        refine Wx.rd (v := .bool (decide (q < ((ix [] zs u).length : Int)))) (rd_lss rfl rfl) rfl ?_
        refine Wx.nil ?_
        refine W.seq ?_
        refine W.condD rfl (fun c4 => ?_) (fun c4 => ?_)
        · -- yes
          have hh := hzr (ix [] zs u) (ix_memR (by omega) (by omega)) (ix 0 (ix [] zs u) q) (ix_memR (by omega) (by omega))
          have hgl := x3.1
          have hsl7 := v1.1
          refine W.skip ?_
          refine W.seq ?_
          refine W.block ?_
          refine W.seq ?_
          refine W.reg ?_
          refine Wx.ex (rd_index 0 (hS.v 0 rfl) rfl rfl Tryz.underlying25 Tryz.sizeOf3 (by first | omega | (simp only [List.length_set, List.length_append, List.length_cons, List.length_nil, List.length_replicate]; omega)) (by first | omega | (simp only [List.length_set, List.length_append, List.length_cons, List.length_nil, List.length_replicate]; omega))) rfl (fun p_44 hp_45 => ?_)
          refine Wx.rd (v := .int .i64 (ix 0 (ix [] zs u) q)) (rd_loadI hp_45 rfl Tryz.isAgg3 Tryz.sizeOf3) rfl ?_
          have bd_46 := bd_i64 hp_45.inK
          refine Wx.rd (v := .int .i64 (ix 0 (ix [] zs u) q)) (rd_assign rfl) rfl ?_
          refine Wx.nil ?_
          refine W.regT 13 mixedMh_ (by kernel_rfl) ?_
          refine Wx.rd (v := .pointer (some ⟨gf, 0, none⟩)) (rd_move rfl) rfl ?_
          refine Wx.rd (v := .pointer (some ⟨gf, 0, none⟩)) (rd_nilCheck rfl rfl) rfl ?_
          refine Wx.rd (v := .pointer (some ⟨gf, 2, none⟩)) (rd_fieldAddr rfl foMh_52_2) rfl ?_
          refine Wx.rd (v := sv) (rd_loadX hS 4 rfl rfl rfl Tryz.isAgg50) rfl ?_
          refine Wx.rd (v := .int .i64 (ix 0 (ix [] zs u) q)) (rd_move rfl) rfl ?_
          refine Wx.rd (v := .int .i64 nb) (rd_move rfl) rfl ?_
          refine Wx.rd (v := v_11) (rd_move rfl) rfl ?_
          refine Wx.rd (v := .int .i64 (ix 0 (ix [] zs u) q)) (rd_move rfl) rfl ?_
          refine Wx.indexR hS 1 rfl rfl rfl Tryz.underlying25 Tryz.sizeOf3 (by first | omega | (simp only [List.length_set, List.length_append, List.length_cons, List.length_nil, List.length_replicate]; omega)) (by first | omega | (simp only [List.length_set, List.length_append, List.length_cons, List.length_nil, List.length_replicate]; omega)) rfl (fun g_47 hg_48 => ?_)
          refine Wx.rd (v := .int .i64 (ix 0 gs (ix 0 (ix [] zs u) q))) (rd_loadRI' hS 1 rfl hg_48 rfl (by first | omega | (simp only [List.length_set, List.length_append, List.length_cons, List.length_nil, List.length_replicate]; omega)) (by first | omega | (simp only [List.length_set, List.length_append, List.length_cons, List.length_nil, List.length_replicate]; omega)) Tryz.isAgg3 Tryz.sizeOf3) rfl ?_
          have bd_49 := bd_i64 (hS.rowInK' 1 rfl (by first | omega | (simp only [List.length_set, List.length_append, List.length_cons, List.length_nil, List.length_replicate]; omega)) (by first | omega | (simp only [List.length_set, List.length_append, List.length_cons, List.length_nil, List.length_replicate]; omega)) : InK .i64 (ix 0 gs (ix 0 (ix [] zs u) q)))
          refine Wx.rd (v := .agg #[.int .i64 nb, .int .i64 (ix 0 gs (ix 0 (ix [] zs u) q))]) (rd_build (vs := [(0, .int .i64 nb), (1, .int .i64 (ix 0 gs (ix 0 (ix [] zs u) q)))]) rfl (by kernel_rfl)) rfl ?_
          refine Wx.rd (v := .iface 48 (.agg #[.int .i64 nb, .int .i64 (ix 0 gs (ix 0 (ix [] zs u) q))])) (rd_mkI rfl (by kernel_rfl)) rfl ?_
          refine Wx.indexR hS 2 rfl rfl rfl Tryz.underlying50 Tryz.sizeOf71 (by first | omega | (simp only [List.length_set, List.length_append, List.length_cons, List.length_nil, List.length_replicate]; omega)) (by first | omega | (simp only [List.length_set, List.length_append, List.length_cons, List.length_nil, List.length_replicate]; omega)) rfl (fun g_50 hg_51 => ?_)
          refine Wx.nilQ (fun w_52 hx_53 => ?_)
          have hS := hS.ext hx_53
          refine Wx.storeR (j := (ix 0 (ix [] zs u) q).toNat) (z := (HS.g nb (ix 0 gs (ix 0 (ix [] zs u) q)))) hS 2 rfl hg_51 rfl (by first | omega | (simp only [List.length_set, List.length_append, List.length_cons, List.length_nil, List.length_replicate]; omega)) rfl (V.mkEnc (x := HS.g nb (ix 0 gs (ix 0 (ix [] zs u) q))) rfl (show InK .i64 _ ∧ InK .i64 _ from ⟨(in_i64 (by omega) (by omega)), (in_i64 (by omega) (by omega))⟩)) Tryz.sizeOf71 (fun w_54 hz_55 hS => ?_)
          refine Wx.nil ?_
          refine W.reg ?_
          refine Wx.rd (v := .int .i64 (q + 1)) (rd_add rfl rfl (in_i64 (by omega) (by omega))) rfl ?_
          refine Wx.rd (v := .int .i64 (q + 1)) (rd_move rfl) rfl ?_
          refine Wx.nil ?_
          refine ⟨(q + 1, List.set S7 (ix 0 (ix [] zs u) q).toNat (HS.g nb (ix 0 gs (ix 0 (ix [] zs u) q)))), (by show ((ix [] zs u).length - (q + 1)).toNat < ((ix [] zs u).length - q).toNat; omega), ?_, ?_, Out.look rfl Out.self⟩
          · exact ⟨hS, (by first | omega | assumption), (by first | omega | assumption), (by rw [flat_in q0 (by omega)]; exact stI_next v1 hh.1 hh.2)⟩
          · exact ⟨rfl, trivial⟩
        · -- no
          refine W.exit rfl ?_
          refine W.reg ?_
          refine Wx.rd (v := .int .i64 (u + 1)) (rd_add rfl rfl (in_i64 (by omega) (by omega))) rfl ?_
          refine Wx.rd (v := .int .i64 (u + 1)) (rd_move rfl) rfl ?_
          refine Wx.nil ?_
          refine ⟨(u + 1, S7), (by show (zs.length - (u + 1)).toNat < (zs.length - u).toNat; omega), ?_, ?_, Out.look rfl (Out.hav rfl (Out.look rfl Out.self))⟩
          · exact ⟨hS.tl, (by first | omega | assumption), (by first | omega | assumption), (by rw [← flat_out (j := q) u00 (by omega) (by omega)]; exact v1)⟩
          · exact ⟨rfl, trivial⟩
      · -- no
        have u1 : StI n nb gs S4 S6 zs.flatten := by rw [take_end (by omega)] at u1; exact u1
        obtain ⟨hfa, hfi⟩ := fin_step hW x1 x2 x3 u1 hzp
        rw [← hfa] at hcn hnx
        refine W.exit rfl ?_
        refine W.reg ?_
        refine Wx.rd (v := .pointer (some ⟨gf, 0, none⟩)) (rd_move rfl) rfl ?_
        refine Wx.rd (v := .pointer (some ⟨gf, 0, none⟩)) (rd_nilCheck rfl rfl) rfl ?_
        refine Wx.rd (v := .pointer (some ⟨gf, 3, none⟩)) (rd_fieldAddr rfl foMh_52_3) rfl ?_
        refine Wx.rd (v := (.slice (some ⟨g_6, 0, none⟩) (R2 ++ (rndV (toV Ws Ow (absL S2) n) n)).length c_7)) (rd_loadX hS 3 rfl rfl rfl Tryz.isAgg24) rfl ?_
        refine Wx.rd (v := .int .i64 ((R2 ++ zs).length : Int)) (rd_lenR hS 2 rfl rfl Tryz.underlying24) rfl ?_
        refine Wx.rd (v := .int .i64 ((R2 ++ zs).length : Int)) (rd_assign rfl) rfl ?_
        refine Wx.nil ?_
        refine W.reg ?_
        refine Wx.rd (v := .int .i64 nb) (rd_move rfl) rfl ?_
        refine Wx.rd (v := .int .i64 (nb + 1)) (rd_add rfl rfl (in_i64 (by omega) (by omega))) rfl ?_
        refine Wx.rd (v := .int .i64 (nb + 1)) (rd_assign rfl) rfl ?_
        refine Wx.nil ?_
        refine ⟨(nb + 1, ((R2 ++ zs).length : Int), S6, (.slice (some ⟨g_6, 0, none⟩) (R2 ++ (rndV (toV Ws Ow (absL S2) n) n)).length c_7), R2 ++ zs, Q ++ (rndV (toV Ws Ow (absL S2) n) n)), (hcn), ?_, ?_, Out.look rfl (Out.hav rfl (Out.look rfl (Out.hav rfl (Out.look rfl Out.self))))⟩
        · exact ⟨hS.tl, (by first | omega | assumption), (by omega), (hfi), (fun A1 R1 h => g3 A1 R1 (.step c0n (by rw [← hfa]; exact h))), (g4.append hzp), (hnx), (rfl)⟩
        · exact ⟨rfl, rfl, trivial⟩
end Go.Proofs.YtlibemgaepkceaaGreatDoor

namespace Go.Proofs.YtlibemgaepkceaaGreatDoor
open Go.Wk Go.RowKit Go.Lib
set_option linter.unusedVariables false
set_option linter.unusedSimpArgs false
theorem foMi_48_1 : fldOff Tryz.prog 48 1 = some 1 := by kernel_rfl
theorem foMi_52_2 : fldOff Tryz.prog 52 2 = some 2 := by kernel_rfl
theorem elMi_25 : ElemI Tryz.prog 25 3 (.int .i64 0) 1 8 := ElemI.of Tryz.underlying25 (by kernel_rfl) (by first | rfl | kernel_rfl) (by decide)

theorem F18 {r : Int} {s : Int} {w : World} (i_r : InK .i64 r) (i_s : InK .i64 s) : Calls Tryz.prog 18 #[.agg #[.int .i64 r, .int .i64 s]] w (Ret w (fun r _ => r = .int .i64 s)) := by
  have b_s := bd_i64 i_s
  have b_r := bd_i64 i_r
  have hS := St.start0 w
  refine enterR Tryz.func18 rfl Tryz.ntmps18 Tryz.results18 rfl ?_
  refine W.seq ?_
  refine W.reg ?_
  refine Wx.box (cs := [.int .i64 r, .int .i64 s]) hS rfl rfl rfl (fun g_1 w_2 hx_4 hb_3 hS => ?_)
  refine Wx.rd (v := .int .i64 0) (rd_assign rfl) rfl ?_
  refine Wx.nil ?_
  refine W.seq ?_
  refine W.reg ?_
  refine Wx.rd (v := .pointer (some ⟨g_1, 1, none⟩)) (rd_fieldAddr rfl foMi_48_1) rfl ?_
  refine Wx.rd (v := .int .i64 s) (rd_loadX hS 0 rfl rfl rfl Tryz.isAgg3) rfl ?_
  refine Wx.rd (v := .int .i64 s) (rd_assign rfl) rfl ?_
  refine Wx.nil ?_
  exact W.ret ⟨.int .i64 s, ResIs.one, hS.bel, rfl⟩

set_option maxHeartbeats 1000000 in
theorem F17 {sv rv wv ov : Value} {Ss : List HS} {R Ws : List (List Int)} {Ow : List Int} {gf n : Nat} {ob : List Ob} {w0 w : World} {O : List (Option Nat)} (p_n : 1 ≤ n ∧ n ≤ 6) (hl : Ss.length = n) (hg : ∀ x : Int, 0 ≤ x → x < n → isGB (ix hs0 Ss x) = true) (hS : St w0 O w (.row tHS 71 sv Ss :: .row (tSl (tI .i64)) 25 rv R :: .box gf 52 [wv, ov, sv, rv] :: Ob.v (tSl (tSl (tI .i64))) Ws wv :: Ob.v (tSl (tI .i64)) Ow ov :: ob)) : Calls Tryz.prog 17 #[.pointer (some ⟨gf, 0, none⟩), .func (.func 18) #[] #[]] w (Bk fun r w' => ∃ v, r = v ∧ St w0 O w' (.row (tI .i64) 3 v (Ss.map gT) :: .row tHS 71 sv Ss :: .row (tSl (tI .i64)) 25 rv R :: .box gf 52 [wv, ov, sv, rv] :: Ob.v (tSl (tSl (tI .i64))) Ws wv :: Ob.v (tSl (tI .i64)) Ow ov :: ob)) := by
  refine enterB Tryz.func17 rfl Tryz.ntmps17 Tryz.results17 rfl ?_
  refine W.seq ?_
  refine W.reg ?_
  refine Wx.rd (v := (.slice none 0 0)) (rd_assign rfl) rfl ?_
  refine Wx.nil ?_
  refine W.seq ?_
  refine W.reg ?_
  refine Wx.rd (v := (.slice none 0 0)) (rd_assign rfl) rfl ?_
  refine Wx.nil ?_
  refine W.seq ?_
  refine W.seq ?_
  refine W.reg ?_
  refine Wx.rd (v := .pointer (some ⟨gf, 0, none⟩)) (rd_move rfl) rfl ?_
  refine Wx.rd (v := .pointer (some ⟨gf, 0, none⟩)) (rd_nilCheck rfl rfl) rfl ?_
  refine Wx.rd (v := .pointer (some ⟨gf, 2, none⟩)) (rd_fieldAddr rfl foMi_52_2) rfl ?_
  refine Wx.rd (v := sv) (rd_loadX hS 2 rfl rfl rfl Tryz.isAgg50) rfl ?_
  refine Wx.rd (v := .int .i64 (Ss.length : Int)) (rd_lenR hS 0 rfl rfl Tryz.underlying50) rfl ?_
  refine Wx.rd (v := .int .i64 0) (rd_move rfl) rfl ?_
  refine Wx.nil ?_
  refine W.block ?_
  have hS := hS.addNil (tI .i64) 3
  refine W.loop [5, 7, 8, 9, 15, 16, 17, 18, 19, 20, 21, 22, 23, 24, 25, 26, 27, 28, 29, 30, 31, 32, 33, 34, 35] (fun x : Int × Value × (List Int) => match x with | (k, outv, out) => [(15, .int .i64 k), (5, outv)]) (fun (x : Int × Value × (List Int)) w' => match x with | (k, outv, out) => St w0 O w' (.row (tI .i64) 3 outv out :: .row tHS 71 sv Ss :: .row (tSl (tI .i64)) 25 rv R :: .box gf 52 [wv, ov, sv, rv] :: Ob.v (tSl (tSl (tI .i64))) Ws wv :: Ob.v (tSl (tI .i64)) Ow ov :: ob) ∧ 0 ≤ k ∧ k ≤ Ss.length ∧ out = (Ss.map gT).take k.toNat ∧ (out.length : Int) = k) (fun x : Int × Value × (List Int) => match x with | (k, outv, out) => (Ss.length - k).toNat) (0, (.slice none 0 0), []) ⟨rfl, rfl, trivial⟩ ⟨hS, (by first | omega | simp), (by first | omega | simp), (rfl), (rfl)⟩ ?_
  rintro ⟨k, outv, out⟩ u_2 w_1 ⟨hS, k0, k1, k2, k3⟩
  refine W.seq ?_
  refine W.reg ?_
  refine Wx.rd (v := .bool (decide (k < (Ss.length : Int)))) (rd_lss rfl rfl) rfl ?_
  refine Wx.nil ?_
  refine W.seq ?_
  refine W.condD rfl (fun c0 => ?_) (fun c0 => ?_)
  · -- yes
    have hgk := hg k k0 (by omega)
    refine W.skip ?_
    refine W.seq ?_
    refine W.block ?_
    refine W.seq ?_
    refine W.reg ?_
    refine Wx.indexR hS 1 rfl rfl rfl Tryz.underlying50 Tryz.sizeOf71 (by first | omega | (simp only [List.length_set, List.length_append, List.length_cons, List.length_nil, List.length_replicate]; omega)) (by first | omega | (simp only [List.length_set, List.length_append, List.length_cons, List.length_nil, List.length_replicate]; omega)) rfl (fun g_3 hg_4 => ?_)
    refine Wx.ex (rd_loadR' hs0 hS 1 rfl hg_4 rfl (by first | omega | (simp only [List.length_set, List.length_append, List.length_cons, List.length_nil, List.length_replicate]; omega)) (by first | omega | (simp only [List.length_set, List.length_append, List.length_cons, List.length_nil, List.length_replicate]; omega)) Tryz.isAgg71 Tryz.sizeOf71) rfl (fun v_5 hv_6 => ?_)
    obtain ⟨rfl, hk_7⟩ := V.enc hv_6
    have bd_8 := bd_i64 (hsP_in hk_7)
    have bd_9 := bd_i64 (gT_in hk_7)
    have bd_10 := bd_i64 (gR_in hk_7)
    refine Wx.rd (v := hsV (ix hs0 Ss k)) (rd_assign rfl) rfl ?_
    refine Wx.nil ?_
    refine W.seq ?_
    refine W.reg ?_
    refine Wx.rd (v := hsV (ix hs0 Ss k)) (rd_move rfl) rfl ?_
    refine Wx.nil ?_
    refine W.block ?_
    refine W.seq ?_
    refine W.reg ?_
    refine Wx.rd (v := .tuple #[.agg #[.int .i64 (gR (ix hs0 Ss k)), .int .i64 (gT (ix hs0 Ss k))], .bool (isGB (ix hs0 Ss k))]) (rd_assertA rfl (assertG _)) rfl ?_
    refine Wx.rd (v := .bool (isGB (ix hs0 Ss k))) (rd_extract rfl rfl) rfl ?_
    refine Wx.rd (v := .agg #[.int .i64 (gR (ix hs0 Ss k)), .int .i64 (gT (ix hs0 Ss k))]) (rd_extract rfl rfl) rfl ?_
    refine Wx.nil ?_
    refine W.condT rfl hgk ?_
    refine W.seq ?_
    refine W.reg ?_
    refine Wx.alloc (cs := [.int .i64 0, .int .i64 0]) hS Tryz.zeroValue48 rfl rfl (fun g_11 w_12 hx_14 hb_13 hS => ?_)
    refine Wx.storeX (cs' := [.int .i64 (gR (ix hs0 Ss k)), .int .i64 (gT (ix hs0 Ss k))]) (ds := [.int .i64 (gR (ix hs0 Ss k)), .int .i64 (gT (ix hs0 Ss k))]) hS 0 rfl rfl rfl rfl Tryz.sizeOf48 (Nat.le_of_ble_eq_true rfl) (one_cons rfl (one_cons rfl one_nil)) rfl (fun w_15 hz_16 hS => ?_)
    refine Wx.nil ?_
    refine W.reg ?_
    refine Wx.rd (v := outv) (rd_move rfl) rfl ?_
    refine Wx.rd (v := .func (.func 18) #[] #[]) (rd_move rfl) rfl ?_
    refine Wx.rd (v := .agg #[.int .i64 (gR (ix hs0 Ss k)), .int .i64 (gT (ix hs0 Ss k))]) (rd_loadXs (ds := [.int .i64 (gR (ix hs0 Ss k)), .int .i64 (gT (ix hs0 Ss k))]) hS 0 rfl rfl rfl rfl Tryz.isAgg48 Tryz.sizeOf48) rfl ?_
    refine Wx.callF (run_callC (fs := []) (cs := []) (vs := [.agg #[.int .i64 (gR (ix hs0 Ss k)), .int .i64 (gT (ix hs0 Ss k))]]) Tryz.call18 rfl rfl) (F18 (in_i64 (by omega) (by omega)) (in_i64 (by omega) (by omega))) rfl ?_
    rintro r_17 w_18 hx_19 rfl
    have hS := hS.ext hx_19
    refine Wx.lit (t := (tI .i64)) (ys := [(gT (ix hs0 Ss k))]) (vs := [.int .i64 (gT (ix hs0 Ss k))]) elMi_25 hS rfl rfl ⟨(V.mkInt (in_i64 (by omega) (by omega))), trivial⟩ (by decide) rfl (fun v_20 w_21 hx_22 hS => ?_)
    refine Wx.append elMi_25 hS 2 rfl rfl rfl (Src.ofR hS 0 rfl) (by simp only [maxLen]; first | omega | (simp; omega) | simp) (by first | omega | (simp; omega) | simp) rfl (fun v_23 w_24 hz_25 hS => ?_)
    refine Wx.rd (v := v_23) (rd_assign rfl) rfl ?_
    refine Wx.nil ?_
    refine W.reg ?_
    refine Wx.rd (v := .int .i64 (k + 1)) (rd_add rfl rfl (in_i64 (by omega) (by omega))) rfl ?_
    refine Wx.rd (v := .int .i64 (k + 1)) (rd_move rfl) rfl ?_
    refine Wx.nil ?_
    refine ⟨(k + 1, v_23, out ++ [(gT (ix hs0 Ss k))]), (by show (Ss.length - (k + 1)).toNat < (Ss.length - k).toNat; omega), ?_, ?_, Out.look rfl Out.self⟩
    · exact ⟨St.tl (hS.tl), (by first | omega | assumption), (by first | omega | assumption), (by rw [take_map_hs k0 (by omega), k2]), (by simp only [List.length_append, List.length_cons, List.length_nil]; omega)⟩
    · exact ⟨rfl, rfl, trivial⟩
  · -- no
    have hsay : out = (Ss.map gT) := by rw [k2, List.take_of_length_le (by rw [List.length_map]; omega)]
    rw [hsay] at hS
    refine W.exit rfl ?_
    refine W.seq ?_
    refine W.reg ?_
    refine Wx.rd (v := outv) (rd_move rfl) rfl ?_
    refine Wx.rd (v := outv) (rd_assign rfl) rfl ?_
    refine Wx.nil ?_
    have hS := hS.front 5 rfl
    have hS := hS.front 5 rfl
    have hS := hS.front 5 rfl
    have hS := hS.front 5 rfl
    have hS := hS.front 5 rfl
    have hS := hS.front 5 rfl
    have hS : St _ _ w_1 (.row (tI .i64) 3 outv (Ss.map gT) :: .row tHS 71 sv Ss :: .row (tSl (tI .i64)) 25 rv R :: .box gf 52 [wv, ov, sv, rv] :: Ob.v (tSl (tSl (tI .i64))) Ws wv :: Ob.v (tSl (tI .i64)) Ow ov :: ob) := hS
    exact W.ret ⟨outv, ResIs.one, _, rfl, hS⟩
end Go.Proofs.YtlibemgaepkceaaGreatDoor

namespace Go.Proofs.YtlibemgaepkceaaGreatDoor
open Go.Wk Go.RowKit Go.Lib
set_option linter.unusedVariables false
set_option linter.unusedSimpArgs false
theorem elMj_24 : ElemI Tryz.prog 24 25 ((.slice none 0 0)) 1 24 := ElemI.of Tryz.underlying24 (by kernel_rfl) (by first | rfl | kernel_rfl) (by decide)

set_option maxHeartbeats 1000000 in
theorem F16 {wv hv : Value} {Ws : List (List Int)} {H : List Int} {n : Nat} {ob : List Ob} {w0 w : World} {O : List (Option Nat)} (hH : WHOK n Ws H) (hS : St w0 O w ob) (hv1 : V (tSl (tSl tInt)) Ws wv (fb ob O) w) (hv2 : V (tSl tInt) H hv (fb ob O) w) : Calls Tryz.prog 16 #[wv, hv] w (Bk fun r w' => ∃ gf sv rv ov S' R' Rq A', r = .tuple #[.pointer (some ⟨gf, 0, none⟩), .int .i64 0] ∧ Runs Ws (invV H) n (none0 n) [] A' Rq ∧ R'.Perm Rq ∧ absL S' = A' ∧ S'.length = n ∧ St w0 O w' (.row tHS 71 sv S' :: .row (tSl (tI .i64)) 25 rv R' :: .box gf 52 [wv, ov, sv, rv] :: Ob.v (tSl (tSl (tI .i64))) Ws wv :: Ob.v (tSl (tI .i64)) (invV H) ov :: ob)) := by
  have hWl := hH.l
  have hn6 := hH.n1
  have hS := hS.add (hv2)
  have ln_2 := (hS.v 0 rfl).len63
  have hS := hS.add (V.upF (hv1))
  have ln_4 := (hS.v 0 rfl).len63
  refine enterB Tryz.func16 rfl Tryz.ntmps16 Tryz.results16 rfl ?_
  refine W.seq ?_
  refine W.reg ?_
  refine Wx.rd (v := (Go.Value.pointer none)) (rd_assign rfl) rfl ?_
  refine Wx.rd (v := .int .i64 0) (rd_assign rfl) rfl ?_
  refine Wx.nil ?_
  refine W.seq ?_
  refine W.seq ?_
  refine W.reg ?_
  refine Wx.rd (v := wv) (rd_move rfl) rfl ?_
  refine Wx.rd (v := hv) (rd_move rfl) rfl ?_
  refine Wx.lit (t := (tSl (tI .i64))) (ys := [H]) (vs := [hv]) elMj_24 hS rfl rfl ⟨(hS.v 1 rfl), trivial⟩ (by decide) rfl (fun v_5 w_6 hx_7 hS => ?_)
  have hS := hS.freeze 0 rfl
  refine Wx.callF (run_callF Tryz.call32 rfl) (F32 (hS.v 1 rfl) (hS.v 0 rfl) (by omega) (by simp) (whok_all hH) hS.fb_lt) rfl ?_
  rintro r_9 w_10 hx_11 rfl
  have hS := hS.ext hx_11
  refine Wx.rd (v := .int .i64 0) (rd_assign rfl) rfl ?_
  refine Wx.nil ?_
  refine W.seq ?_
  refine W.reg ?_
  refine Wx.rd (v := .int .i64 0) (rd_move rfl) rfl ?_
  refine Wx.rd (v := .bool false) (Rd.to (v := .bool (decide ((0 : Int) ≠ 0))) (rd_neq rfl rfl) rfl) rfl ?_
  refine Wx.nil ?_
  refine W.condF rfl rfl ?_
  refine W.skip ?_
  refine W.seq ?_
  refine W.reg ?_
  refine Wx.rd (v := wv) (rd_move rfl) rfl ?_
  refine Wx.rd (v := hv) (rd_move rfl) rfl ?_
  refine Wx.callB (run_callF Tryz.call33 rfl) (F33 (ob := (Ob.v (tSl (tSl (tI .i64))) [H] v_5 :: Ob.v (tSl (tSl (tI .i64))) Ws wv :: Ob.v (tSl (tI .i64)) H hv :: ob)) hH hS (hS.v 1 rfl) (hS.v 2 rfl)) rfl ?_
  rintro r_12 w_13 ⟨gf, sv, rv, ov, rfl, hS⟩
  have hS : St _ _ w_13 (.row tHS 71 sv (List.replicate n (HS.w 0)) :: .row (tSl (tI .i64)) 25 rv ([] : List (List Int)) :: .box gf 52 [wv, ov, sv, rv] :: Ob.v (tSl (tSl (tI .i64))) Ws wv :: Ob.v (tSl (tI .i64)) (invV H) ov :: Ob.v (tSl (tSl (tI .i64))) [H] v_5 :: Ob.v (tSl (tSl (tI .i64))) Ws wv :: Ob.v (tSl (tI .i64)) H hv :: ob) := hS
  refine Wx.rd (v := .pointer (some ⟨gf, 0, none⟩)) (rd_assign rfl) rfl ?_
  refine Wx.nil ?_
  refine W.seq ?_
  refine W.reg ?_
  refine Wx.rd (v := .pointer (some ⟨gf, 0, none⟩)) (rd_move rfl) rfl ?_
  have hS := hS.front 7 rfl
  have hS := hS.front 7 rfl
  have hS := hS.front 7 rfl
  have hS := hS.front 7 rfl
  have hS := hS.front 7 rfl
  have hS := hS.front 7 rfl
  have hS := hS.front 7 rfl
  have hS := hS.front 7 rfl
  have hS : St _ _ w_13 (.row tHS 71 sv (List.replicate n (HS.w 0)) :: .row (tSl (tI .i64)) 25 rv ([] : List (List Int)) :: .box gf 52 [wv, ov, sv, rv] :: Ob.v (tSl (tSl (tI .i64))) Ws wv :: Ob.v (tSl (tI .i64)) (invV H) ov :: Ob.v (tSl (tSl (tI .i64))) [H] v_5 :: Ob.v (tSl (tSl (tI .i64))) Ws wv :: Ob.v (tSl (tI .i64)) H hv :: ob) := hS
  refine Wx.callB (run_callF Tryz.call34 rfl) (F34 (ob := (Ob.v (tSl (tSl (tI .i64))) [H] v_5 :: Ob.v (tSl (tSl (tI .i64))) Ws wv :: Ob.v (tSl (tI .i64)) H hv :: ob)) hH.ok hH.n1 hS) rfl ?_
  rintro r_14 w_15 ⟨rfl, S1, R1, Rq1, A1, rv1, hRu, hPe, hAb, hLn, hS⟩
  have hS : St _ _ w_15 (.row tHS 71 sv S1 :: .row (tSl (tI .i64)) 25 rv1 R1 :: .box gf 52 [wv, ov, sv, rv1] :: Ob.v (tSl (tSl (tI .i64))) Ws wv :: Ob.v (tSl (tI .i64)) (invV H) ov :: Ob.v (tSl (tSl (tI .i64))) [H] v_5 :: Ob.v (tSl (tSl (tI .i64))) Ws wv :: Ob.v (tSl (tI .i64)) H hv :: ob) := hS
  have hS := hS.front 7 rfl
  have hS := hS.front 7 rfl
  have hS := hS.front 7 rfl
  have hS := hS.front 7 rfl
  have hS := hS.front 7 rfl
  have hS := hS.front 7 rfl
  have hS := hS.front 7 rfl
  have hS := hS.front 7 rfl
  have hS : St _ _ w_15 (.row tHS 71 sv S1 :: .row (tSl (tI .i64)) 25 rv1 R1 :: .box gf 52 [wv, ov, sv, rv1] :: Ob.v (tSl (tSl (tI .i64))) Ws wv :: Ob.v (tSl (tI .i64)) (invV H) ov :: Ob.v (tSl (tSl (tI .i64))) [H] v_5 :: Ob.v (tSl (tSl (tI .i64))) Ws wv :: Ob.v (tSl (tI .i64)) H hv :: ob) := hS
  refine Wx.nil ?_
  refine W.seq ?_
  refine W.reg ?_
  refine Wx.rd (v := .pointer (some ⟨gf, 0, none⟩)) (rd_move rfl) rfl ?_
  refine Wx.rd (v := .pointer (some ⟨gf, 0, none⟩)) (rd_assign rfl) rfl ?_
  refine Wx.rd (v := .int .i64 0) (rd_assign rfl) rfl ?_
  refine Wx.nil ?_
  have hS := hS.drop 7
  have hS := hS.drop 6
  have hS := hS.drop 5
  have hS := hS.front 4 rfl
  have hS := hS.front 4 rfl
  have hS := hS.front 4 rfl
  have hS := hS.front 4 rfl
  have hS := hS.front 4 rfl
  have hS : St _ _ w_15 (.row tHS 71 sv S1 :: .row (tSl (tI .i64)) 25 rv1 R1 :: .box gf 52 [wv, ov, sv, rv1] :: Ob.v (tSl (tSl (tI .i64))) Ws wv :: Ob.v (tSl (tI .i64)) (invV H) ov :: ob) := hS
  exact W.ret ⟨.tuple #[.pointer (some ⟨gf, 0, none⟩), .int .i64 0], ResIs.two, _, _, _, _, _, _, _, _, rfl, hRu, hPe, hAb, hLn, hS⟩
end Go.Proofs.YtlibemgaepkceaaGreatDoor

namespace Go.Proofs.YtlibemgaepkceaaGreatDoor
open Go.Wk Go.RowKit Go.Lib
set_option linter.unusedVariables false
set_option linter.unusedSimpArgs false
theorem foMk_52_3 : fldOff Tryz.prog 52 3 = some 3 := by kernel_rfl

theorem F5 {wv : Value} {Ws : List (List Int)} {hv : Value} {H : List Int} {O : List (Option Nat)} {w : World} (h_wv : V (tSl (tSl (tI .i64))) Ws wv O w) (h_hv : V (tSl (tI .i64)) H hv O w) (p_w : WHOK Ws.length Ws H) (hO : ∀ b, some b ∈ O → b < w.heap.size) : Calls Tryz.prog 5 #[wv, hv] w (Ret w (fun r w' => ∃ gs : List Int, (∃ A R, Runs Ws (invV H) Ws.length (none0 Ws.length) [] A R ∧ gs = A.map fun x => x.getD 0) ∧ ∃ rv, r = .tuple #[rv, .int .i64 0] ∧ Fresh (tI .i64) 3 gs rv w.heap.size w')) := by
  have a_wv := h_wv
  have l_wv := h_wv.len63
  have a_hv := h_hv
  have l_hv := h_hv.len63
  have hS := St.start w O hO
  refine enterR Tryz.func5 rfl Tryz.ntmps5 Tryz.results5 rfl ?_
  refine W.seq ?_
  refine W.reg ?_
  refine Wx.rd (v := (.slice none 0 0)) (rd_assign rfl) rfl ?_
  refine Wx.rd (v := .int .i64 0) (rd_assign rfl) rfl ?_
  refine Wx.nil ?_
  refine W.seq ?_
  refine W.reg ?_
  refine Wx.rd (v := wv) (rd_move rfl) rfl ?_
  refine Wx.rd (v := hv) (rd_move rfl) rfl ?_
  refine Wx.callB (run_callF Tryz.call16 rfl) (F16 (ob := []) p_w hS (hS.arg a_wv) (hS.arg a_hv)) rfl ?_
  rintro r_1 w_2 ⟨gf, sv, rv, ov, S1, R1, Rq1, A1, rfl, hRu, hPe, hAb, hLn, hS⟩
  have hS : St _ _ w_2 [.row tHS 71 sv S1, .row (tSl (tI .i64)) 25 rv R1, .box gf 52 [wv, ov, sv, rv], Ob.v (tSl (tSl (tI .i64))) Ws wv, Ob.v (tSl (tI .i64)) (invV H) ov] := hS
  refine Wx.rd (v := .tuple #[.pointer (some ⟨gf, 0, none⟩), .int .i64 0]) (rd_move rfl) rfl ?_
  refine Wx.rd (v := .pointer (some ⟨gf, 0, none⟩)) (rd_extract rfl rfl) rfl ?_
  refine Wx.rd (v := .int .i64 0) (rd_extract rfl rfl) rfl ?_
  refine Wx.rd (v := .pointer (some ⟨gf, 0, none⟩)) (rd_assign rfl) rfl ?_
  refine Wx.rd (v := .int .i64 0) (rd_assign rfl) rfl ?_
  refine Wx.nil ?_
  refine W.seq ?_
  refine W.seq ?_
  refine W.reg ?_
  refine Wx.rd (v := .int .i64 0) (rd_move rfl) rfl ?_
  refine Wx.rd (v := .bool false) (Rd.to (v := .bool (decide ((0 : Int) ≠ 0))) (rd_neq rfl rfl) rfl) rfl ?_
  refine Wx.nil ?_
  refine W.condF rfl rfl ?_
  refine W.skip ?_
  refine W.seq ?_
  refine W.reg ?_
  refine Wx.rd (v := .pointer (some ⟨gf, 0, none⟩)) (rd_move rfl) rfl ?_
  have hrk := runs_ok p_w.ok hRu run_start
  have hall : ∀ x : Int, 0 ≤ x → x < Ws.length → isGB (ix hs0 S1 x) = true := fun x x0 x1 => by rw [isG_isW, ← gone_isW, hAb]; exact hrk.2 x x0 x1
  have hS := hS.front 4 rfl
  have hS := hS.front 4 rfl
  have hS := hS.front 4 rfl
  have hS := hS.front 4 rfl
  have hS := hS.front 4 rfl
  have hS : St _ _ w_2 [.row tHS 71 sv S1, .row (tSl (tI .i64)) 25 rv R1, .box gf 52 [wv, ov, sv, rv], Ob.v (tSl (tSl (tI .i64))) Ws wv, Ob.v (tSl (tI .i64)) (invV H) ov] := hS
  refine Wx.callB (run_callF Tryz.call17 rfl) (F17 (n := Ws.length) (ob := []) p_w.n1 hLn hall hS) rfl ?_
  rintro r_3 w_4 ⟨v_5, rfl, hS⟩
  have hS : St _ _ w_4 [.row (tI .i64) 3 r_3 (S1.map gT), .row tHS 71 sv S1, .row (tSl (tI .i64)) 25 rv R1, .box gf 52 [wv, ov, sv, rv], Ob.v (tSl (tSl (tI .i64))) Ws wv, Ob.v (tSl (tI .i64)) (invV H) ov] := hS
  refine Wx.rd (v := r_3) (rd_assign rfl) rfl ?_
  refine Wx.rd (v := .int .i64 0) (rd_assign rfl) rfl ?_
  refine Wx.nil ?_
  exact W.ret ⟨.tuple #[r_3, .int .i64 0], ResIs.two, hS.bel, ⟨(S1.map gT), (by exact ⟨A1, Rq1, hRu, told_eq hAb⟩), ⟨r_3, rfl, (hS.fr 0 rfl flat_int)⟩⟩⟩

theorem F6 {wv : Value} {Ws : List (List Int)} {hv : Value} {H : List Int} {O : List (Option Nat)} {w : World} (h_wv : V (tSl (tSl (tI .i64))) Ws wv O w) (h_hv : V (tSl (tI .i64)) H hv O w) (p_w : WHOK Ws.length Ws H) (hO : ∀ b, some b ∈ O → b < w.heap.size) : Calls Tryz.prog 6 #[wv, hv] w (Ret w (fun r w' => ∃ rs : List (List Int), (∃ A R, Runs Ws (invV H) Ws.length (none0 Ws.length) [] A R ∧ rs.Perm R) ∧ ∃ rv, r = .tuple #[rv, .int .i64 0] ∧ FreshO (tSl (tI .i64)) 25 rs rv O w.heap.size w')) := by
  have a_wv := h_wv
  have l_wv := h_wv.len63
  have a_hv := h_hv
  have l_hv := h_hv.len63
  have hS := St.start w O hO
  refine enterR Tryz.func6 rfl Tryz.ntmps6 Tryz.results6 rfl ?_
  refine W.seq ?_
  refine W.reg ?_
  refine Wx.rd (v := (.slice none 0 0)) (rd_assign rfl) rfl ?_
  refine Wx.rd (v := .int .i64 0) (rd_assign rfl) rfl ?_
  refine Wx.nil ?_
  refine W.seq ?_
  refine W.reg ?_
  refine Wx.rd (v := wv) (rd_move rfl) rfl ?_
  refine Wx.rd (v := hv) (rd_move rfl) rfl ?_
  refine Wx.callB (run_callF Tryz.call16 rfl) (F16 (ob := []) p_w hS (hS.arg a_wv) (hS.arg a_hv)) rfl ?_
  rintro r_1 w_2 ⟨gf, sv, rv, ov, S1, R1, Rq1, A1, rfl, hRu, hPe, hAb, hLn, hS⟩
  have hS : St _ _ w_2 [.row tHS 71 sv S1, .row (tSl (tI .i64)) 25 rv R1, .box gf 52 [wv, ov, sv, rv], Ob.v (tSl (tSl (tI .i64))) Ws wv, Ob.v (tSl (tI .i64)) (invV H) ov] := hS
  refine Wx.rd (v := .tuple #[.pointer (some ⟨gf, 0, none⟩), .int .i64 0]) (rd_move rfl) rfl ?_
  refine Wx.rd (v := .pointer (some ⟨gf, 0, none⟩)) (rd_extract rfl rfl) rfl ?_
  refine Wx.rd (v := .int .i64 0) (rd_extract rfl rfl) rfl ?_
  refine Wx.rd (v := .pointer (some ⟨gf, 0, none⟩)) (rd_assign rfl) rfl ?_
  refine Wx.rd (v := .int .i64 0) (rd_assign rfl) rfl ?_
  refine Wx.nil ?_
  refine W.seq ?_
  refine W.seq ?_
  refine W.reg ?_
  refine Wx.rd (v := .int .i64 0) (rd_move rfl) rfl ?_
  refine Wx.rd (v := .bool false) (Rd.to (v := .bool (decide ((0 : Int) ≠ 0))) (rd_neq rfl rfl) rfl) rfl ?_
  refine Wx.nil ?_
  refine W.condF rfl rfl ?_
  refine W.skip ?_
  refine W.seq ?_
  refine W.reg ?_
  refine Wx.rd (v := .pointer (some ⟨gf, 0, none⟩)) (rd_move rfl) rfl ?_
  refine Wx.rd (v := .pointer (some ⟨gf, 0, none⟩)) (rd_nilCheck rfl rfl) rfl ?_
  refine Wx.rd (v := .pointer (some ⟨gf, 3, none⟩)) (rd_fieldAddr rfl foMk_52_3) rfl ?_
  refine Wx.rd (v := rv) (rd_loadX hS 2 rfl rfl rfl Tryz.isAgg24) rfl ?_
  refine Wx.rd (v := rv) (rd_assign rfl) rfl ?_
  refine Wx.rd (v := .int .i64 0) (rd_assign rfl) rfl ?_
  refine Wx.nil ?_
  exact W.ret ⟨.tuple #[rv, .int .i64 0], ResIs.two, hS.bel, ⟨R1, (by exact ⟨A1, Rq1, hRu, hPe⟩), ⟨rv, rfl, (hS.frO 1 rfl)⟩⟩⟩
end Go.Proofs.YtlibemgaepkceaaGreatDoor
