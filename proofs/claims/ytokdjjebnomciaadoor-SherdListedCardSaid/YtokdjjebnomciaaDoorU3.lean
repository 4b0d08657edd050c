/-
  WHAT IS PROVED HERE, TEXT BY TEXT (several texts of one prover, joined to one file; the conditions stand in each statement):
  * WHAT IS PROVED HERE: what functions of layer 5 hand back, each out of its own code; the conditions stand in each statement.
  * WHAT IS PROVED HERE: what functions of layer 5 hand back, each out of its own code; the conditions stand in each statement.
  * WHAT IS PROVED HERE: the function that SherdListed hands to plans, as one that is called with each plan. From the proved contract.
  * WHAT IS PROVED HERE: plain laws of all plans: they are those of the one order; what is kept of them is the greatest number, how many, the first, and how often each join is met. No program in sight. Conditions stand in each statement.
  * WHAT IS PROVED HERE: what functions of layer 5 hand back, each out of its own code; the conditions stand in each statement.
  * WHAT IS PROVED HERE: what functions of layer 5 hand back, each out of its own code; the conditions stand in each statement.
  * WHAT IS PROVED HERE: what functions of layer 5 hand back, each out of its own code; the conditions stand in each statement.
  * WHAT IS PROVED HERE: what functions of layer 5 hand back, each out of its own code; the conditions stand in each statement.
  * WHAT IS PROVED HERE: what functions of layer 5 hand back, each out of its own code; the conditions stand in each statement.
  * WHAT IS PROVED HERE: what functions of layer 5 hand back, each out of its own code; the conditions stand in each statement.
-/
import Derived.Test.YtokdjjebnomciaaDoorProg
import Derived.Test.YtokdjjebnomciaaDoorU2

set_option linter.unusedVariables false
set_option linter.unusedSimpArgs false

namespace Go.Proofs.YtokdjjebnomciaaDoor
open Go.Wk Go.RowKit Go.Lib
set_option linter.unusedVariables false
set_option linter.unusedSimpArgs false
theorem mixedHD_ : Tryd.prog.follows .mixedOrders = true := by kernel_rfl

theorem F52 {a : Int} {b : Int} {c : Int} {d : Int} {w : World} (i_a : InK .i64 a) (i_b : InK .i64 b) (i_c : InK .i64 c) (i_d : InK .i64 d) : Calls Tryd.prog 52 #[.agg #[.int .i64 a, .int .i64 b], .agg #[.int .i64 c, .int .i64 d]] w (Ret w (fun r _ => r = .int .i64 (cmpJ (a, b) (c, d)))) := by
  have b_d := bd_i64 i_d
  have b_c := bd_i64 i_c
  have b_b := bd_i64 i_b
  have b_a := bd_i64 i_a
  have hS := St.start0 w
  refine enterR Tryd.func52 rfl Tryd.ntmps52 Tryd.results52 rfl ?_
  refine W.seq ?_
  refine W.reg ?_
  refine Wx.box (cs := [.int .i64 a, .int .i64 b]) hS rfl rfl rfl (fun g_1 w_2 hx_4 hb_3 hS => ?_)
  refine Wx.box (cs := [.int .i64 c, .int .i64 d]) hS rfl rfl rfl (fun g_5 w_6 hx_8 hb_7 hS => ?_)
  refine Wx.rd (v := .int .i64 0) (rd_assign rfl) rfl ?_
  refine Wx.nil ?_
  refine W.seq ?_
  refine W.regQ mixedHD_ (by kernel_rfl) ?_
  refine Wx.rd (v := (.slice (some ⟨g_1, 0, none⟩) 2 2)) (rd_sliceArrA (m := 2) Tryd.underlying58 Tryd.sizeOf3 rfl) rfl ?_
  have hS := hS.sliceBox (o := 0) (k := .i64) (m := 2) (xs := [a, b]) (cap := 2) 1 rfl rfl (fun x hx => by simp only [List.mem_cons, List.not_mem_nil, or_false] at hx; rcases hx with rfl | rfl <;> first | assumption | exact (in_i64 (by omega) (by omega))) rfl (Nat.le_refl _) (by decide)
  refine Wx.rd (v := (.slice (some ⟨g_5, 0, none⟩) 2 2)) (rd_sliceArrA (m := 2) Tryd.underlying58 Tryd.sizeOf3 rfl) rfl ?_
  have hS := hS.sliceBox (o := 0) (k := .i64) (m := 2) (xs := [c, d]) (cap := 2) 1 rfl rfl (fun x hx => by simp only [List.mem_cons, List.not_mem_nil, or_false] at hx; rcases hx with rfl | rfl <;> first | assumption | exact (in_i64 (by omega) (by omega))) rfl (Nat.le_refl _) (by decide)
  refine Wx.callV (v := .int .i64 (cmpL [a, b] [c, d])) (run_callF Tryd.call53 rfl) (fun w_11 hw_12 => (F53 ((hS.v 1 rfl).ext hw_12) ((hS.v 0 rfl).ext hw_12))) rfl ?_
  refine Wx.rd (v := .int .i64 (cmpL [a, b] [c, d])) (rd_assign rfl) rfl ?_
  refine Wx.nilQ (fun w_13 hx_14 => ?_)
  have hS := hS.ext hx_14
  have e0_0 : (cmpJ (a, b) (c, d)) = (cmpL [a, b] [c, d] : Int) := by exact (cmpL_two a b c d).symm
  exact W.ret ⟨.int .i64 (cmpL [a, b] [c, d]), ResIs.one, hS.bel, (by rw [e0_0])⟩

theorem F51 {av : Value} {p : List (Int × Int)} {bv : Value} {q : List (Int × Int)} {O : List (Option Nat)} {w : World} (h_av : V (tSl (tP (tI .i64) (tI .i64))) p av O w) (h_bv : V (tSl (tP (tI .i64) (tI .i64))) q bv O w) (hO : ∀ b, some b ∈ O → b < w.heap.size) : Calls Tryd.prog 51 #[av, bv, .func (.func 52) #[] #[]] w (Ret w (fun r _ => r = .int .i64 (cmpP p q))) := by
  have a_av := h_av
  have l_av := h_av.len63
  have a_bv := h_bv
  have l_bv := h_bv.len63
  have hS := St.start w O hO
  refine enterR Tryd.func51 rfl Tryd.ntmps51 Tryd.results51 rfl ?_
  refine W.seq ?_
  refine W.reg ?_
  refine Wx.rd (v := .int .i64 0) (rd_assign rfl) rfl ?_
  refine Wx.nil ?_
  refine W.seq ?_
  refine W.seq ?_
  refine W.reg ?_
  refine Wx.rd (v := av) (rd_move rfl) rfl ?_
  refine Wx.rd (v := .int .i64 (p.length : Int)) (rd_lenV rfl (hS.arg a_av) Tryd.underlying22) rfl ?_
  refine Wx.rd (v := .int .i64 0) (rd_move rfl) rfl ?_
  refine Wx.nil ?_
  refine W.block ?_
  refine W.loop [6, 7, 8, 9, 10, 13, 14, 15, 16, 17, 18, 19, 20, 21, 22, 23, 24, 25, 26, 27, 28, 29, 30, 31, 32, 33] (fun (k : Int) => [(13, .int .i64 k)]) (fun (k : Int) w' => St w O w' [] ∧ 0 ≤ k ∧ k ≤ p.length ∧ k ≤ q.length ∧ cmpP (p.drop k.toNat) (q.drop k.toNat) = cmpP p q) (fun (k : Int) => (p.length - k).toNat) 0 ⟨rfl, trivial⟩ ⟨hS, (by first | omega | simp), (by first | omega | simp), (by first | omega | simp), (rfl)⟩ ?_
  rintro k u_2 w_1 ⟨hS, h0, h1, h1b, h2⟩
  refine W.seq ?_
  refine W.reg ?_
  refine Wx.rd (v := .bool (decide (k < (p.length : Int)))) (rd_lss rfl rfl) rfl ?_
  refine Wx.nil ?_
  refine W.seq ?_
  refine W.condD rfl (fun c0 => ?_) (fun c0 => ?_)
  · -- yes
    refine W.skip ?_
    refine W.seq ?_
    refine W.block ?_
    refine W.seq ?_
    refine W.reg ?_
    refine Wx.rd (v := .int .i64 k) (rd_move rfl) rfl ?_
    refine Wx.ex (rd_index (0, 0) (hS.arg a_av) rfl rfl Tryd.underlying22 Tryd.sizeOf58 (by first | omega | (simp only [List.length_set, List.length_append, List.length_cons, List.length_nil, List.length_replicate]; omega)) (by first | omega | (simp only [List.length_set, List.length_append, List.length_cons, List.length_nil, List.length_replicate]; omega))) rfl (fun p_3 hp_4 => ?_)
    refine Wx.ex (rd_load hp_4 rfl Tryd.isAgg58 Tryd.sizeOf58) rfl (fun v_5 hv_6 => ?_)
    obtain ⟨rfl, bd_7, bd_8⟩ := hv_6.i2
    have bd_7 := bd_i64 bd_7
    have bd_8 := bd_i64 bd_8
    refine Wx.alloc (cs := [.int .i64 0, .int .i64 0]) hS Tryd.zeroValue58 rfl rfl (fun g_9 w_10 hx_12 hb_11 hS => ?_)
    refine Wx.rd (v := .int .i64 k) (rd_assign rfl) rfl ?_
    refine Wx.storeX (cs' := [.int .i64 ((ix (0, 0) p k).1), .int .i64 ((ix (0, 0) p k).2)]) (ds := [.int .i64 ((ix (0, 0) p k).1), .int .i64 ((ix (0, 0) p k).2)]) hS 0 rfl rfl rfl rfl Tryd.sizeOf58 (Nat.le_of_ble_eq_true rfl) (one_cons rfl (one_cons rfl one_nil)) rfl (fun w_13 hz_14 hS => ?_)
    refine Wx.nil ?_
    refine W.seq ?_
    refine W.seq ?_
    refine W.reg ?_
    refine Wx.rd (v := .int .i64 k) (rd_move rfl) rfl ?_
    refine Wx.rd (v := bv) (rd_move rfl) rfl ?_
    refine Wx.rd (v := .int .i64 (q.length : Int)) (rd_lenV rfl (hS.arg a_bv) Tryd.underlying22) rfl ?_
    refine Wx.rd (v := .bool (decide ((q.length : Int) ≤ k))) (rd_geq rfl rfl) rfl ?_
    refine Wx.nil ?_
    refine W.condD rfl (fun c1 => ?_) (fun c1 => ?_)
    · -- yes
      refine W.seq ?_
      refine W.reg ?_
      refine Wx.rd (v := .int .i64 1) (rd_assign rfl) rfl ?_
      refine Wx.nil ?_
      have e0_0 : (cmpP p q) = (1 : Int) := by rw [← h2, drop_ix (d := (0, 0)) h0 c0, drop_end (xs := q) (by omega)]; rfl
      exact W.ret ⟨.int .i64 1, ResIs.one, hS.bel, (by rw [e0_0])⟩
    · -- no
      refine W.skip ?_
      refine W.seq ?_
      refine W.reg ?_
      refine Wx.rd (v := bv) (rd_move rfl) rfl ?_
      refine Wx.rd (v := .int .i64 k) (rd_move rfl) rfl ?_
      refine Wx.ex (rd_index (0, 0) (hS.arg a_bv) rfl rfl Tryd.underlying22 Tryd.sizeOf58 (by first | omega | (simp only [List.length_set, List.length_append, List.length_cons, List.length_nil, List.length_replicate]; omega)) (by first | omega | (simp only [List.length_set, List.length_append, List.length_cons, List.length_nil, List.length_replicate]; omega))) rfl (fun p_15 hp_16 => ?_)
      refine Wx.ex (rd_load hp_16 rfl Tryd.isAgg58 Tryd.sizeOf58) rfl (fun v_17 hv_18 => ?_)
      obtain ⟨rfl, bd_19, bd_20⟩ := hv_18.i2
      have bd_19 := bd_i64 bd_19
      have bd_20 := bd_i64 bd_20
      refine Wx.alloc (cs := [.int .i64 0, .int .i64 0]) hS Tryd.zeroValue58 rfl rfl (fun g_21 w_22 hx_24 hb_23 hS => ?_)
      refine Wx.storeX (cs' := [.int .i64 ((ix (0, 0) q k).1), .int .i64 ((ix (0, 0) q k).2)]) (ds := [.int .i64 ((ix (0, 0) q k).1), .int .i64 ((ix (0, 0) q k).2)]) hS 0 rfl rfl rfl rfl Tryd.sizeOf58 (Nat.le_of_ble_eq_true rfl) (one_cons rfl (one_cons rfl one_nil)) rfl (fun w_25 hz_26 hS => ?_)
      refine Wx.nil ?_
      refine W.seq ?_
      refine W.reg ?_
      refine Wx.rd (v := .func (.func 52) #[] #[]) (rd_move rfl) rfl ?_
      refine Wx.rd (v := .agg #[.int .i64 ((ix (0, 0) p k).1), .int .i64 ((ix (0, 0) p k).2)]) (rd_loadXs (ds := [.int .i64 ((ix (0, 0) p k).1), .int .i64 ((ix (0, 0) p k).2)]) hS 1 rfl rfl rfl rfl Tryd.isAgg58 Tryd.sizeOf58) rfl ?_
      refine Wx.rd (v := .agg #[.int .i64 ((ix (0, 0) q k).1), .int .i64 ((ix (0, 0) q k).2)]) (rd_loadXs (ds := [.int .i64 ((ix (0, 0) q k).1), .int .i64 ((ix (0, 0) q k).2)]) hS 0 rfl rfl rfl rfl Tryd.isAgg58 Tryd.sizeOf58) rfl ?_
      refine Wx.callF (run_callC (fs := []) (cs := []) (vs := [.agg #[.int .i64 ((ix (0, 0) p k).1), .int .i64 ((ix (0, 0) p k).2)], .agg #[.int .i64 ((ix (0, 0) q k).1), .int .i64 ((ix (0, 0) q k).2)]]) Tryd.call52 rfl rfl) (F52 (in_i64 (by omega) (by omega)) (in_i64 (by omega) (by omega)) (in_i64 (by omega) (by omega)) (in_i64 (by omega) (by omega))) rfl ?_
      rintro r_27 w_28 hx_29 rfl
      have hS := hS.ext hx_29
      have cb_30 := cmpJ_bd (((ix (0, 0) p k).1), ((ix (0, 0) p k).2)) (((ix (0, 0) q k).1), ((ix (0, 0) q k).2))
      refine Wx.rd (v := .int .i64 (cmpJ (((ix (0, 0) p k).1), ((ix (0, 0) p k).2)) (((ix (0, 0) q k).1), ((ix (0, 0) q k).2)))) (rd_assign rfl) rfl ?_
      refine Wx.nil ?_
      refine W.seq ?_
      refine W.reg ?_
      refine Wx.rd (v := .int .i64 (cmpJ (((ix (0, 0) p k).1), ((ix (0, 0) p k).2)) (((ix (0, 0) q k).1), ((ix (0, 0) q k).2)))) (rd_move rfl) rfl ?_
      refine Wx.rd (v := .bool (decide ((cmpJ (((ix (0, 0) p k).1), ((ix (0, 0) p k).2)) (((ix (0, 0) q k).1), ((ix (0, 0) q k).2))) ≠ 0))) (rd_neq rfl rfl) rfl ?_
      refine Wx.nil ?_
      refine W.condD rfl (fun c2 => ?_) (fun c2 => ?_)
      · -- yes
        refine W.seq ?_
        refine W.reg ?_
        refine Wx.rd (v := .int .i64 (cmpJ (((ix (0, 0) p k).1), ((ix (0, 0) p k).2)) (((ix (0, 0) q k).1), ((ix (0, 0) q k).2)))) (rd_move rfl) rfl ?_
        refine Wx.rd (v := .int .i64 (cmpJ (((ix (0, 0) p k).1), ((ix (0, 0) p k).2)) (((ix (0, 0) q k).1), ((ix (0, 0) q k).2)))) (rd_assign rfl) rfl ?_
        refine Wx.nil ?_
        have e1_0 : (cmpP p q) = (cmpJ (((ix (0, 0) p k).1), ((ix (0, 0) p k).2)) (((ix (0, 0) q k).1), ((ix (0, 0) q k).2)) : Int) := by rw [← h2, drop_ix (d := (0, 0)) h0 c0, drop_ix (d := (0, 0)) (xs := q) h0 (by omega), cmpP, if_pos c2]
        exact W.ret ⟨.int .i64 (cmpJ (((ix (0, 0) p k).1), ((ix (0, 0) p k).2)) (((ix (0, 0) q k).1), ((ix (0, 0) q k).2))), ResIs.one, hS.bel, (by rw [e1_0])⟩
      · -- no
        refine W.skip ?_
        refine W.reg ?_
        refine Wx.rd (v := .int .i64 (k + 1)) (rd_add rfl rfl (in_i64 (by omega) (by omega))) rfl ?_
        refine Wx.rd (v := .int .i64 (k + 1)) (rd_move rfl) rfl ?_
        refine Wx.nil ?_
        refine ⟨k + 1, (by show (p.length - (k + 1)).toNat < (p.length - k).toNat; omega), ?_, ?_, Out.look rfl Out.self⟩
        · exact ⟨St.tl (hS.tl), (by first | omega | assumption), (by first | omega | assumption), (by first | omega | assumption), (by rw [← h2, drop_ix (d := (0, 0)) h0 c0, drop_ix (d := (0, 0)) (xs := q) h0 (by omega), cmpP, if_neg c2])⟩
        · exact ⟨rfl, trivial⟩
  · -- no
    refine W.exit rfl ?_
    refine W.seq ?_
    refine W.seq ?_
    refine W.reg ?_
    refine Wx.rd (v := av) (rd_move rfl) rfl ?_
    refine Wx.rd (v := .int .i64 (p.length : Int)) (rd_lenV rfl (hS.arg a_av) Tryd.underlying22) rfl ?_
    refine Wx.rd (v := bv) (rd_move rfl) rfl ?_
    refine Wx.rd (v := .int .i64 (q.length : Int)) (rd_lenV rfl (hS.arg a_bv) Tryd.underlying22) rfl ?_
    refine Wx.rd (v := .bool (decide ((p.length : Int) < (q.length : Int)))) (rd_lss rfl rfl) rfl ?_
    refine Wx.nil ?_
    refine W.condD rfl (fun c3 => ?_) (fun c3 => ?_)
    · -- yes
      refine W.seq ?_
      refine W.reg ?_
      refine Wx.rd (v := .int .i64 (-1)) (rd_assign rfl) rfl ?_
      refine Wx.nil ?_
      have e2_0 : (cmpP p q) = (-1 : Int) := by rw [← h2, drop_end (by omega), drop_ix (d := (0, 0)) (xs := q) h0 (by omega)]; rfl
      exact W.ret ⟨.int .i64 (-1), ResIs.one, hS.bel, (by rw [e2_0])⟩
    · -- no
      refine W.skip ?_
      refine W.seq ?_
      refine W.reg ?_
      refine Wx.rd (v := .int .i64 0) (rd_assign rfl) rfl ?_
      refine Wx.nil ?_
      have e3_0 : (cmpP p q) = (0 : Int) := by rw [← h2, drop_end (by omega), drop_end (xs := q) (by omega)]; rfl
      exact W.ret ⟨.int .i64 0, ResIs.one, hS.bel, (by rw [e3_0])⟩
end Go.Proofs.YtokdjjebnomciaaDoor

namespace Go.Proofs.YtokdjjebnomciaaDoor
open Go.Wk Go.RowKit Go.Lib
set_option linter.unusedVariables false
set_option linter.unusedSimpArgs false
theorem mixedHE_ : Tryd.prog.follows .mixedOrders = true := by kernel_rfl

theorem F50 {M C : Int} {fs l : List Join} {m : List (Join × Int)} {lv fv : Value} {h gm gc go gf : Nat} {ob : List Ob} {w0 w : World} {O : List (Option Nat)} (p_l : (l.length : Int) ≤ 100) (hS : St w0 O w (Ob.v (tSl (tP (tI .i64) (tI .i64))) (fs) fv :: .box gm 3 [.int .i64 (M)] :: .box gc 3 [.int .i64 (C)] :: .box go 55 [.map (some h)] :: .raw h (.map (mE (pairV .i64) (Value.int .i64) (m) 0).toArray (m).length) :: .box gf 22 [fv] :: ob)) (hv : V (tSl (tP (tI .i64) (tI .i64))) l lv (fb (Ob.v (tSl (tP (tI .i64) (tI .i64))) (fs) fv :: .box gm 3 [.int .i64 (M)] :: .box gc 3 [.int .i64 (C)] :: .box go 55 [.map (some h)] :: .raw h (.map (mE (pairV .i64) (Value.int .i64) (m) 0).toArray (m).length) :: .box gf 22 [fv] :: ob) O) w) : Calls Tryd.prog 50 #[lv, .pointer (some ⟨gm, 0, none⟩), .pointer (some ⟨gc, 0, none⟩), .pointer (some ⟨go, 0, none⟩), .pointer (some ⟨gf, 0, none⟩)] w (Bk fun r w' => r = .tuple #[] ∧ ∃ h' fv', St w0 O w' (Ob.v (tSl (tP (tI .i64) (tI .i64))) ((stepA (M, C, fs, m) l).2.2.1) fv' :: .box gm 3 [.int .i64 ((stepA (M, C, fs, m) l).1)] :: .box gc 3 [.int .i64 ((stepA (M, C, fs, m) l).2.1)] :: .box go 55 [.map (some h')] :: .raw h' (.map (mE (pairV .i64) (Value.int .i64) ((stepA (M, C, fs, m) l).2.2.2) 0).toArray ((stepA (M, C, fs, m) l).2.2.2).length) :: .box gf 22 [fv'] :: ob)) := by
  have hS := hS.add (hv)
  have ln_2 := (hS.v 0 rfl).len63
  refine enterB Tryd.func50 rfl Tryd.ntmps50 Tryd.results50 rfl ?_
  refine W.seq ?_
  refine W.seq ?_
  refine W.reg ?_
  refine Wx.rd (v := lv) (rd_move rfl) rfl ?_
  refine Wx.rd (v := .int .i64 (l.length : Int)) (rd_lenV rfl (hS.v 0 rfl) Tryd.underlying22) rfl ?_
  refine Wx.rd (v := .int .i64 M) (rd_loadX hS 2 rfl rfl rfl Tryd.isAgg3) rfl ?_
  refine Wx.rd (v := .bool (decide ((l.length : Int) < M))) (rd_lss rfl rfl) rfl ?_
  refine Wx.nil ?_
  refine W.condD rfl (fun c0 => ?_) (fun c0 => ?_)
  · -- yes
    exact W.ret ⟨.tuple #[], ResIs.zero, rfl, _, _, by rw [stepA_lt c0]; exact (St.tl hS)⟩
  · -- no
    refine W.skip ?_
    refine W.seq ?_
    refine W.seq ?_
    refine W.reg ?_
    refine Wx.rd (v := lv) (rd_move rfl) rfl ?_
    refine Wx.rd (v := .int .i64 (l.length : Int)) (rd_lenV rfl (hS.v 0 rfl) Tryd.underlying22) rfl ?_
    refine Wx.rd (v := .int .i64 M) (rd_loadX hS 2 rfl rfl rfl Tryd.isAgg3) rfl ?_
    refine Wx.rd (v := .bool (decide (M < (l.length : Int)))) (rd_gtr rfl rfl) rfl ?_
    refine Wx.nil ?_
    refine W.condD rfl (fun c1 => ?_) (fun c1 => ?_)
    · -- yes
      refine W.reg ?_
      refine Wx.rd (v := lv) (rd_move rfl) rfl ?_
      refine Wx.rd (v := .int .i64 (l.length : Int)) (rd_lenV rfl (hS.v 0 rfl) Tryd.underlying22) rfl ?_
      refine Wx.makeMap hS rfl (fun g_4 w_3 hx_5 hS => ?_)
      have hS : St _ _ w_3 (.raw g_4 (.map (mE (pairV .i64) (Value.int .i64) ([] : List ((Int × Int) × Int)) 0).toArray ([] : List ((Int × Int) × Int)).length) :: Ob.v (tSl (tP (tI .i64) (tI .i64))) l lv :: Ob.v (tSl (tP (tI .i64) (tI .i64))) fs fv :: .box gm 3 [.int .i64 M] :: .box gc 3 [.int .i64 C] :: .box go 55 [.map (some h)] :: .raw h (.map (mE (pairV .i64) (Value.int .i64) m 0).toArray m.length) :: .box gf 22 [fv] :: ob) := hS
      refine Wx.storeX (cs' := [.int .i64 (l.length : Int)]) (ds := [.int .i64 (l.length : Int)]) hS 3 rfl rfl rfl rfl Tryd.sizeOf3 (Nat.le_of_ble_eq_true rfl) (one_cons rfl one_nil) rfl (fun w_6 hz_7 hS => ?_)
      refine Wx.storeX (cs' := [.int .i64 0]) (ds := [.int .i64 0]) hS 4 rfl rfl rfl rfl Tryd.sizeOf3 (Nat.le_of_ble_eq_true rfl) (one_cons rfl one_nil) rfl (fun w_8 hz_9 hS => ?_)
      refine Wx.storeX (cs' := [.map (some g_4)]) (ds := [.map (some g_4)]) hS 5 rfl rfl rfl rfl Tryd.sizeOf55 (Nat.le_of_ble_eq_true rfl) (one_cons rfl one_nil) rfl (fun w_10 hz_11 hS => ?_)
      have hS := (hS.front 6 rfl).tl
      have hS : St _ _ w_10 (Ob.v (tSl (tP (tI .i64) (tI .i64))) l lv :: Ob.v (tSl (tP (tI .i64) (tI .i64))) fs fv :: .box gm 3 [.int .i64 (l.length : Int)] :: .box gc 3 [.int .i64 0] :: .box go 55 [.map (some g_4)] :: .raw g_4 (.map (mE (pairV .i64) (Value.int .i64) ([] : List ((Int × Int) × Int)) 0).toArray ([] : List ((Int × Int) × Int)).length) :: .box gf 22 [fv] :: ob) := (((((((hS.front 6 rfl).front 1 rfl).front 6 rfl).front 6 rfl).front 6 rfl).front 6 rfl).front 6 rfl)
      refine Wx.nil ?_
      refine W.seq ?_
      refine W.seq ?_
      refine W.reg ?_
      refine Wx.rd (v := .int .i64 0) (rd_loadX hS 3 rfl rfl rfl Tryd.isAgg3) rfl ?_
      refine Wx.rd (v := .bool (decide ((0 : Int) = 0))) (rd_eql rfl rfl) rfl ?_
      refine Wx.rd (v := .bool (decide ((0 : Int) = 0))) (rd_move rfl) rfl ?_
      refine Wx.cut (X := Unit) 5 [22, 23, 24, 25, 26] (fun _ => [(26, .bool (decide ((0 : Int) = 0) || decide ((cmpP l fs) < 0)))]) (fun _ w' => St w0 O w' (Ob.v (tSl (tP (tI .i64) (tI .i64))) l lv :: Ob.v (tSl (tP (tI .i64) (tI .i64))) fs fv :: .box gm 3 [.int .i64 (l.length : Int)] :: .box gc 3 [.int .i64 0] :: .box go 55 [.map (some g_4)] :: .raw g_4 (.map (mE (pairV .i64) (Value.int .i64) ([] : List ((Int × Int) × Int)) 0).toArray ([] : List ((Int × Int) × Int)).length) :: .box gf 22 [fv] :: ob)) ?_ ?_
      · rcases Bool.eq_false_or_eq_true (decide ((0 : Int) = 0)) with g_12 | g_12
        · -- True
          have gp_13 := of_decide_eq_true g_12
          refine Wx.gnoB rfl rfl (congrArg Value.bool g_12) rfl rfl ?_
          refine Wx.gnoB rfl rfl (congrArg Value.bool g_12) rfl rfl ?_
          refine Wx.gnoB rfl rfl (congrArg Value.bool g_12) rfl rfl ?_
          refine Wx.gnoB rfl rfl (congrArg Value.bool g_12) rfl rfl ?_
          refine Wx.rd (v := .bool true) (rd_pickT (congrArg Value.bool g_12) rfl) rfl ?_
          refine Wx.nil ⟨(), hS, ⟨?_, trivial⟩, Out.look rfl Out.refl⟩
          show Value.bool true = Value.bool (decide ((0 : Int) = 0) || decide ((cmpP l fs) < 0))
          first | rw [g_12, Bool.true_or] | (rw [g_12]; rfl)
        · -- False
          have gp_14 := of_decide_eq_false g_12
          refine Wx.gyes rfl rfl (congrArg Value.bool g_12) ?_
          refine Wx.rd (v := lv) (rd_move rfl) rfl ?_
          refine Wx.gyes rfl rfl (congrArg Value.bool g_12) ?_
          refine Wx.rd (v := fv) (rd_loadX hS 6 rfl rfl rfl Tryd.isAgg22) rfl ?_
          refine Wx.gyes rfl rfl (congrArg Value.bool g_12) ?_
          refine Wx.callF (run_callF Tryd.call51 rfl) (F51 (hS.v 0 rfl) (hS.v 1 rfl) hS.fb_lt) rfl ?_
          rintro r_15 w_16 hx_17 rfl
          have hS := hS.ext hx_17
          have cb_18 := cmpP_bd l fs
          refine Wx.gyes rfl rfl (congrArg Value.bool g_12) ?_
          refine Wx.rd (v := .bool (decide ((cmpP l fs) < 0))) (rd_lss rfl rfl) rfl ?_
          refine Wx.rd (v := .bool (decide ((cmpP l fs) < 0))) (rd_pickF (congrArg Value.bool g_12) rfl) rfl ?_
          refine Wx.nil ⟨(), hS, ⟨?_, trivial⟩, Out.look rfl Out.refl⟩
          show Value.bool (decide ((cmpP l fs) < 0)) = Value.bool (decide ((0 : Int) = 0) || decide ((cmpP l fs) < 0))
          first | rw [g_12, Bool.false_or] | (rw [g_12]; rfl)
      rintro ⟨⟩ u_20 w_19 hS
      refine Wx.nil ?_
      refine W.cond rfl (fun c2 => ?_) (fun c2 => ?_)
      · -- yes
        try simp only [Bool.and_eq_true, Bool.or_eq_true, Bool.not_eq_true', Bool.and_eq_false_iff, Bool.or_eq_false_iff, Bool.not_eq_false', decide_eq_true_eq, decide_eq_false_iff_not, not_or, Bool.false_eq_true, Bool.true_eq_false, false_or, or_false, not_false_eq_true] at c2
        refine W.reg ?_
        refine Wx.rd (v := lv) (rd_move rfl) rfl ?_
        refine Wx.callF (run_callF Tryd.call54 rfl) (F54 (hS.v 0 rfl) (by omega) hS.fb_lt) rfl ?_
        rintro r_21 w_22 hx_23 ⟨_, rfl, hv_24⟩
        have hS := hS.pushFr hx_23 hv_24
        refine Wx.storeX (cs' := [r_21]) (ds := [r_21]) hS 7 rfl rfl rfl (Go.Wk.cells_one (hS.rowOne 0 rfl)) Tryd.sizeOf22 (Nat.le_of_ble_eq_true rfl) (one_cons (hS.rowOne 0 rfl) one_nil) rfl (fun w_26 hz_27 hS => ?_)
        have hS := hS.freeze 0 rfl
        have hS := (hS.front 2 rfl).tl
        have hS : St _ _ w_26 (Ob.v (tSl (tP (tI .i64) (tI .i64))) l lv :: Ob.v (tSl (tP (tI .i64) (tI .i64))) l r_21 :: .box gm 3 [.int .i64 (l.length : Int)] :: .box gc 3 [.int .i64 0] :: .box go 55 [.map (some g_4)] :: .raw g_4 (.map (mE (pairV .i64) (Value.int .i64) ([] : List ((Int × Int) × Int)) 0).toArray ([] : List ((Int × Int) × Int)).length) :: .box gf 22 [r_21] :: ob) := (((((((hS.front 6 rfl).front 6 rfl).front 6 rfl).front 6 rfl).front 6 rfl).front 5 rfl).front 6 rfl)
        refine Wx.nil ?_
        refine W.seq ?_
        refine W.reg ?_
        refine Wx.rd (v := .int .i64 0) (rd_loadX hS 3 rfl rfl rfl Tryd.isAgg3) rfl ?_
        refine Wx.rd (v := .int .i64 (IntKind.i64.wrap (0 + 1))) (rd_addw rfl rfl) rfl ?_
        refine Wx.storeX (cs' := [.int .i64 (IntKind.i64.wrap (0 + 1))]) (ds := [.int .i64 (IntKind.i64.wrap (0 + 1))]) hS 3 rfl rfl rfl rfl Tryd.sizeOf3 (Nat.le_of_ble_eq_true rfl) (one_cons rfl one_nil) rfl (fun w_29 hz_30 hS => ?_)
        refine Wx.nil ?_
        refine W.seq ?_
        refine W.reg ?_
        refine Wx.rd (v := lv) (rd_move rfl) rfl ?_
        refine Wx.rd (v := .int .i64 (l.length : Int)) (rd_lenV rfl (hS.v 0 rfl) Tryd.underlying22) rfl ?_
        refine Wx.rd (v := .int .i64 0) (rd_move rfl) rfl ?_
        refine Wx.nil ?_
        refine W.block ?_
        obtain ⟨m1, hm1⟩ : ∃ m1 : List (Join × Int), m1 = ([] : List ((Int × Int) × Int)) := ⟨_, rfl⟩
        have hS : St w0 O w_29 (Ob.v (tSl (tP (tI .i64) (tI .i64))) l lv :: Ob.v (tSl (tP (tI .i64) (tI .i64))) l r_21 :: .box gm 3 [.int .i64 (l.length : Int)] :: .box gc 3 [.int .i64 (IntKind.i64.wrap (0 + 1))] :: .box go 55 [.map (some g_4)] :: .raw g_4 (.map (mE (pairV .i64) (Value.int .i64) m1 0).toArray m1.length) :: .box gf 22 [r_21] :: ob) := by rw [hm1]; exact hS
        refine W.loop [7, 33, 34, 35, 36, 37, 38, 39, 40, 41, 42, 43] (fun x : Int × (List ((Int × Int) × Int)) => match x with | (q, m2) => [(33, .int .i64 q)]) (fun (x : Int × (List ((Int × Int) × Int))) w' => match x with | (q, m2) => St w0 O w' (Ob.v (tSl (tP (tI .i64) (tI .i64))) l lv :: Ob.v (tSl (tP (tI .i64) (tI .i64))) l r_21 :: .box gm 3 [.int .i64 (l.length : Int)] :: .box gc 3 [.int .i64 (IntKind.i64.wrap (0 + 1))] :: .box go 55 [.map (some g_4)] :: .raw g_4 (.map (mE (pairV .i64) (Value.int .i64) m2 0).toArray m2.length) :: .box gf 22 [r_21] :: ob) ∧ 0 ≤ q ∧ q ≤ l.length ∧ oftU m2 (l.drop q.toNat) = oftU m1 l) (fun x : Int × (List ((Int × Int) × Int)) => match x with | (q, m2) => (l.length - q).toNat) (0, m1) ⟨rfl, trivial⟩ ⟨hS, (by first | omega | simp), (by first | omega | simp), (rfl)⟩ ?_
        rintro ⟨q, m2⟩ u_32 w_31 ⟨hS, h0, h1, h2⟩
        refine W.seq ?_
        refine W.reg ?_
        refine Wx.rd (v := .bool (decide (q < (l.length : Int)))) (rd_lss rfl rfl) rfl ?_
        refine Wx.nil ?_
        refine W.seq ?_
        refine W.condD rfl (fun c3 => ?_) (fun c3 => ?_)
        · -- yes
          refine W.skip ?_
          refine W.seq ?_
          refine W.block ?_
          refine W.seq ?_
          refine W.reg ?_
          refine Wx.ex (rd_index (0, 0) (hS.v 0 rfl) rfl rfl Tryd.underlying22 Tryd.sizeOf58 (by first | omega | (simp only [List.length_set, List.length_append, List.length_cons, List.length_nil, List.length_replicate]; omega)) (by first | omega | (simp only [List.length_set, List.length_append, List.length_cons, List.length_nil, List.length_replicate]; omega))) rfl (fun p_33 hp_34 => ?_)
          refine Wx.ex (rd_load hp_34 rfl Tryd.isAgg58 Tryd.sizeOf58) rfl (fun v_35 hv_36 => ?_)
          obtain ⟨rfl, bd_37, bd_38⟩ := hv_36.i2
          have bd_37 := bd_i64 bd_37
          have bd_38 := bd_i64 bd_38
          refine Wx.alloc (cs := [.int .i64 0, .int .i64 0]) hS Tryd.zeroValue58 rfl rfl (fun g_39 w_40 hx_42 hb_41 hS => ?_)
          refine Wx.storeX (cs' := [.int .i64 ((ix (0, 0) l q).1), .int .i64 ((ix (0, 0) l q).2)]) (ds := [.int .i64 ((ix (0, 0) l q).1), .int .i64 ((ix (0, 0) l q).2)]) hS 0 rfl rfl rfl rfl Tryd.sizeOf58 (Nat.le_of_ble_eq_true rfl) (one_cons rfl (one_cons rfl one_nil)) rfl (fun w_43 hz_44 hS => ?_)
          refine Wx.nil ?_
          refine W.regP mixedHE_ (fun w_45 hx_46 => ?_)
          have hS := hS.ext hx_46
          refine Wp.br [0, 1] (by kernel_rfl) (by decide) ⟨⟨_, rfl, ?_⟩, ⟨_, rfl, ?_⟩, trivial⟩
          · -- operation 0
            refine Wx.rd (v := .map (some g_4)) (rd_loadX hS 5 rfl rfl rfl Tryd.isAgg55) rfl ?_
            refine Wx.nil ?_
            refine Wp.br [1] (by kernel_rfl) (by decide) ⟨⟨_, rfl, ?_⟩, trivial⟩
            refine Wx.rd (v := .agg #[.int .i64 ((ix (0, 0) l q).1), .int .i64 ((ix (0, 0) l q).2)]) (rd_loadXs (ds := [.int .i64 ((ix (0, 0) l q).1), .int .i64 ((ix (0, 0) l q).2)]) hS 0 rfl rfl rfl rfl Tryd.isAgg58 Tryd.sizeOf58) rfl ?_
            refine Wx.nil ?_
            refine Wp.br [2, 4] (by kernel_rfl) (by decide) ⟨⟨_, rfl, ?_⟩, ⟨_, rfl, ?_⟩, trivial⟩
            · -- operation 2
              refine Wx.rd (v := .int .i64 (mget 0 m2 ((ix (0, 0) l q).1, (ix (0, 0) l q).2))) (rd_lookup (m := m2) (zv := 0) (k := ((ix (0, 0) l q).1, (ix (0, 0) l q).2)) (f := (pairV .i64)) (g := (Value.int .i64)) hS 6 rfl rfl rfl Tryd.underlying55 (KeyD.pair Tryd.underlying58 Tryd.underlying3 Tryd.sizeOf3) (fun _ => Tryd.zeroValue3 _)) rfl ?_
              refine Wx.nil ?_
              refine Wp.rd (v := .int .i64 (IntKind.i64.wrap ((mget 0 m2 ((ix (0, 0) l q).1, (ix (0, 0) l q).2)) + 1))) 3 rfl (by kernel_rfl) (fun _ => (rd_addw rfl rfl)) rfl ?_
              refine Wp.br [4] (by kernel_rfl) (by decide) ⟨⟨_, rfl, ?_⟩, trivial⟩
              refine Wx.mapEntry (m := m2) (zv := 0) (k := ((ix (0, 0) l q).1, (ix (0, 0) l q).2)) (f := (pairV .i64)) (g := (Value.int .i64)) hS 6 rfl rfl rfl Tryd.underlying55 (KeyD.pair Tryd.underlying58 Tryd.underlying3 Tryd.sizeOf3) (fun _ => Tryd.zeroValue3 _) rfl (fun j_49 w_48 hz_52 hj_50 hl_51 hS => ?_)
              refine Wx.nil ?_
              refine Wp.rd (v := .int .i64 ((j_49 : Nat) : Int)) 5 rfl (by kernel_rfl) (fun _ => (rd_extract rfl rfl)) rfl ?_
              refine Wp.br [6] (by kernel_rfl) (by decide) ⟨⟨_, rfl, ?_⟩, trivial⟩
              refine Wx.entryStore (m := (mput m2 ((ix (0, 0) l q).1, (ix (0, 0) l q).2) (mget 0 m2 ((ix (0, 0) l q).1, (ix (0, 0) l q).2)))) (k := ((ix (0, 0) l q).1, (ix (0, 0) l q).2)) (v := (IntKind.i64.wrap ((mget 0 m2 ((ix (0, 0) l q).1, (ix (0, 0) l q).2)) + 1))) (f := (pairV .i64)) (g := (Value.int .i64)) hS 6 rfl rfl rfl rfl hj_50 hl_51 (fun w_53 hz_54 hS => ?_)
              refine Wx.nil ?_
              refine Wp.done (by kernel_rfl) ?_
              refine W.reg ?_
              refine Wx.rd (v := .int .i64 (q + 1)) (rd_add rfl rfl (in_i64 (by omega) (by omega))) rfl ?_
              refine Wx.rd (v := .int .i64 (q + 1)) (rd_move rfl) rfl ?_
              refine Wx.nil ?_
              refine ⟨(q + 1, mput (mput m2 ((ix (0, 0) l q).1, (ix (0, 0) l q).2) (mget 0 m2 ((ix (0, 0) l q).1, (ix (0, 0) l q).2))) ((ix (0, 0) l q).1, (ix (0, 0) l q).2) (IntKind.i64.wrap ((mget 0 m2 ((ix (0, 0) l q).1, (ix (0, 0) l q).2)) + 1))), (by show (l.length - (q + 1)).toNat < (l.length - q).toNat; omega), ?_, ?_, Out.look rfl Out.self⟩
              · exact ⟨hS.tl, (by first | omega | assumption), (by first | omega | assumption), (by first | exact oftU_next2 h0 (by assumption) h2 | exact oftU_next3 h0 (by assumption) h2 | exact oftU_next h0 (by assumption) h2)⟩
              · exact ⟨rfl, trivial⟩
            · -- operation 4
              refine Wx.mapEntry (m := m2) (zv := 0) (k := ((ix (0, 0) l q).1, (ix (0, 0) l q).2)) (f := (pairV .i64)) (g := (Value.int .i64)) hS 6 rfl rfl rfl Tryd.underlying55 (KeyD.pair Tryd.underlying58 Tryd.underlying3 Tryd.sizeOf3) (fun _ => Tryd.zeroValue3 _) rfl (fun j_56 w_55 hz_59 hj_57 hl_58 hS => ?_)
              refine Wx.nil ?_
              refine Wp.rd (v := .int .i64 ((j_56 : Nat) : Int)) 5 rfl (by kernel_rfl) (fun _ => (rd_extract rfl rfl)) rfl ?_
              refine Wp.br [2] (by kernel_rfl) (by decide) ⟨⟨_, rfl, ?_⟩, trivial⟩
              refine Wx.rd (v := .int .i64 (mget 0 (mput m2 ((ix (0, 0) l q).1, (ix (0, 0) l q).2) (mget 0 m2 ((ix (0, 0) l q).1, (ix (0, 0) l q).2))) ((ix (0, 0) l q).1, (ix (0, 0) l q).2))) (rd_lookup (m := (mput m2 ((ix (0, 0) l q).1, (ix (0, 0) l q).2) (mget 0 m2 ((ix (0, 0) l q).1, (ix (0, 0) l q).2)))) (zv := 0) (k := ((ix (0, 0) l q).1, (ix (0, 0) l q).2)) (f := (pairV .i64)) (g := (Value.int .i64)) hS 6 rfl rfl rfl Tryd.underlying55 (KeyD.pair Tryd.underlying58 Tryd.underlying3 Tryd.sizeOf3) (fun _ => Tryd.zeroValue3 _)) rfl ?_
              refine Wx.nil ?_
              refine Wp.rd (v := .int .i64 (IntKind.i64.wrap ((mget 0 (mput m2 ((ix (0, 0) l q).1, (ix (0, 0) l q).2) (mget 0 m2 ((ix (0, 0) l q).1, (ix (0, 0) l q).2))) ((ix (0, 0) l q).1, (ix (0, 0) l q).2)) + 1))) 3 rfl (by kernel_rfl) (fun _ => (rd_addw rfl rfl)) rfl ?_
              refine Wp.br [6] (by kernel_rfl) (by decide) ⟨⟨_, rfl, ?_⟩, trivial⟩
              refine Wx.entryStore (m := (mput m2 ((ix (0, 0) l q).1, (ix (0, 0) l q).2) (mget 0 m2 ((ix (0, 0) l q).1, (ix (0, 0) l q).2)))) (k := ((ix (0, 0) l q).1, (ix (0, 0) l q).2)) (v := (IntKind.i64.wrap ((mget 0 (mput m2 ((ix (0, 0) l q).1, (ix (0, 0) l q).2) (mget 0 m2 ((ix (0, 0) l q).1, (ix (0, 0) l q).2))) ((ix (0, 0) l q).1, (ix (0, 0) l q).2)) + 1))) (f := (pairV .i64)) (g := (Value.int .i64)) hS 6 rfl rfl rfl rfl hj_57 hl_58 (fun w_61 hz_62 hS => ?_)
              refine Wx.nil ?_
              refine Wp.done (by kernel_rfl) ?_
              refine W.reg ?_
              refine Wx.rd (v := .int .i64 (q + 1)) (rd_add rfl rfl (in_i64 (by omega) (by omega))) rfl ?_
              refine Wx.rd (v := .int .i64 (q + 1)) (rd_move rfl) rfl ?_
              refine Wx.nil ?_
              refine ⟨(q + 1, mput (mput m2 ((ix (0, 0) l q).1, (ix (0, 0) l q).2) (mget 0 m2 ((ix (0, 0) l q).1, (ix (0, 0) l q).2))) ((ix (0, 0) l q).1, (ix (0, 0) l q).2) (IntKind.i64.wrap ((mget 0 (mput m2 ((ix (0, 0) l q).1, (ix (0, 0) l q).2) (mget 0 m2 ((ix (0, 0) l q).1, (ix (0, 0) l q).2))) ((ix (0, 0) l q).1, (ix (0, 0) l q).2)) + 1))), (by show (l.length - (q + 1)).toNat < (l.length - q).toNat; omega), ?_, ?_, Out.look rfl Out.self⟩
              · exact ⟨hS.tl, (by first | omega | assumption), (by first | omega | assumption), (by first | exact oftU_next2 h0 (by assumption) h2 | exact oftU_next3 h0 (by assumption) h2 | exact oftU_next h0 (by assumption) h2)⟩
              · exact ⟨rfl, trivial⟩
          · -- operation 1
            refine Wx.rd (v := .agg #[.int .i64 ((ix (0, 0) l q).1), .int .i64 ((ix (0, 0) l q).2)]) (rd_loadXs (ds := [.int .i64 ((ix (0, 0) l q).1), .int .i64 ((ix (0, 0) l q).2)]) hS 0 rfl rfl rfl rfl Tryd.isAgg58 Tryd.sizeOf58) rfl ?_
            refine Wx.nil ?_
            refine Wp.br [0] (by kernel_rfl) (by decide) ⟨⟨_, rfl, ?_⟩, trivial⟩
            refine Wx.rd (v := .map (some g_4)) (rd_loadX hS 5 rfl rfl rfl Tryd.isAgg55) rfl ?_
            refine Wx.nil ?_
            refine Wp.br [2, 4] (by kernel_rfl) (by decide) ⟨⟨_, rfl, ?_⟩, ⟨_, rfl, ?_⟩, trivial⟩
            · -- operation 2
              refine Wx.rd (v := .int .i64 (mget 0 m2 ((ix (0, 0) l q).1, (ix (0, 0) l q).2))) (rd_lookup (m := m2) (zv := 0) (k := ((ix (0, 0) l q).1, (ix (0, 0) l q).2)) (f := (pairV .i64)) (g := (Value.int .i64)) hS 6 rfl rfl rfl Tryd.underlying55 (KeyD.pair Tryd.underlying58 Tryd.underlying3 Tryd.sizeOf3) (fun _ => Tryd.zeroValue3 _)) rfl ?_
              refine Wx.nil ?_
              refine Wp.rd (v := .int .i64 (IntKind.i64.wrap ((mget 0 m2 ((ix (0, 0) l q).1, (ix (0, 0) l q).2)) + 1))) 3 rfl (by kernel_rfl) (fun _ => (rd_addw rfl rfl)) rfl ?_
              refine Wp.br [4] (by kernel_rfl) (by decide) ⟨⟨_, rfl, ?_⟩, trivial⟩
              refine Wx.mapEntry (m := m2) (zv := 0) (k := ((ix (0, 0) l q).1, (ix (0, 0) l q).2)) (f := (pairV .i64)) (g := (Value.int .i64)) hS 6 rfl rfl rfl Tryd.underlying55 (KeyD.pair Tryd.underlying58 Tryd.underlying3 Tryd.sizeOf3) (fun _ => Tryd.zeroValue3 _) rfl (fun j_65 w_64 hz_68 hj_66 hl_67 hS => ?_)
              refine Wx.nil ?_
              refine Wp.rd (v := .int .i64 ((j_65 : Nat) : Int)) 5 rfl (by kernel_rfl) (fun _ => (rd_extract rfl rfl)) rfl ?_
              refine Wp.br [6] (by kernel_rfl) (by decide) ⟨⟨_, rfl, ?_⟩, trivial⟩
              refine Wx.entryStore (m := (mput m2 ((ix (0, 0) l q).1, (ix (0, 0) l q).2) (mget 0 m2 ((ix (0, 0) l q).1, (ix (0, 0) l q).2)))) (k := ((ix (0, 0) l q).1, (ix (0, 0) l q).2)) (v := (IntKind.i64.wrap ((mget 0 m2 ((ix (0, 0) l q).1, (ix (0, 0) l q).2)) + 1))) (f := (pairV .i64)) (g := (Value.int .i64)) hS 6 rfl rfl rfl rfl hj_66 hl_67 (fun w_69 hz_70 hS => ?_)
              refine Wx.nil ?_
              refine Wp.done (by kernel_rfl) ?_
              refine W.reg ?_
              refine Wx.rd (v := .int .i64 (q + 1)) (rd_add rfl rfl (in_i64 (by omega) (by omega))) rfl ?_
              refine Wx.rd (v := .int .i64 (q + 1)) (rd_move rfl) rfl ?_
              refine Wx.nil ?_
              refine ⟨(q + 1, mput (mput m2 ((ix (0, 0) l q).1, (ix (0, 0) l q).2) (mget 0 m2 ((ix (0, 0) l q).1, (ix (0, 0) l q).2))) ((ix (0, 0) l q).1, (ix (0, 0) l q).2) (IntKind.i64.wrap ((mget 0 m2 ((ix (0, 0) l q).1, (ix (0, 0) l q).2)) + 1))), (by show (l.length - (q + 1)).toNat < (l.length - q).toNat; omega), ?_, ?_, Out.look rfl Out.self⟩
              · exact ⟨hS.tl, (by first | omega | assumption), (by first | omega | assumption), (by first | exact oftU_next2 h0 (by assumption) h2 | exact oftU_next3 h0 (by assumption) h2 | exact oftU_next h0 (by assumption) h2)⟩
              · exact ⟨rfl, trivial⟩
            · -- operation 4
              refine Wx.mapEntry (m := m2) (zv := 0) (k := ((ix (0, 0) l q).1, (ix (0, 0) l q).2)) (f := (pairV .i64)) (g := (Value.int .i64)) hS 6 rfl rfl rfl Tryd.underlying55 (KeyD.pair Tryd.underlying58 Tryd.underlying3 Tryd.sizeOf3) (fun _ => Tryd.zeroValue3 _) rfl (fun j_72 w_71 hz_75 hj_73 hl_74 hS => ?_)
              refine Wx.nil ?_
              refine Wp.rd (v := .int .i64 ((j_72 : Nat) : Int)) 5 rfl (by kernel_rfl) (fun _ => (rd_extract rfl rfl)) rfl ?_
              refine Wp.br [2] (by kernel_rfl) (by decide) ⟨⟨_, rfl, ?_⟩, trivial⟩
              refine Wx.rd (v := .int .i64 (mget 0 (mput m2 ((ix (0, 0) l q).1, (ix (0, 0) l q).2) (mget 0 m2 ((ix (0, 0) l q).1, (ix (0, 0) l q).2))) ((ix (0, 0) l q).1, (ix (0, 0) l q).2))) (rd_lookup (m := (mput m2 ((ix (0, 0) l q).1, (ix (0, 0) l q).2) (mget 0 m2 ((ix (0, 0) l q).1, (ix (0, 0) l q).2)))) (zv := 0) (k := ((ix (0, 0) l q).1, (ix (0, 0) l q).2)) (f := (pairV .i64)) (g := (Value.int .i64)) hS 6 rfl rfl rfl Tryd.underlying55 (KeyD.pair Tryd.underlying58 Tryd.underlying3 Tryd.sizeOf3) (fun _ => Tryd.zeroValue3 _)) rfl ?_
              refine Wx.nil ?_
              refine Wp.rd (v := .int .i64 (IntKind.i64.wrap ((mget 0 (mput m2 ((ix (0, 0) l q).1, (ix (0, 0) l q).2) (mget 0 m2 ((ix (0, 0) l q).1, (ix (0, 0) l q).2))) ((ix (0, 0) l q).1, (ix (0, 0) l q).2)) + 1))) 3 rfl (by kernel_rfl) (fun _ => (rd_addw rfl rfl)) rfl ?_
              refine Wp.br [6] (by kernel_rfl) (by decide) ⟨⟨_, rfl, ?_⟩, trivial⟩
              refine Wx.entryStore (m := (mput m2 ((ix (0, 0) l q).1, (ix (0, 0) l q).2) (mget 0 m2 ((ix (0, 0) l q).1, (ix (0, 0) l q).2)))) (k := ((ix (0, 0) l q).1, (ix (0, 0) l q).2)) (v := (IntKind.i64.wrap ((mget 0 (mput m2 ((ix (0, 0) l q).1, (ix (0, 0) l q).2) (mget 0 m2 ((ix (0, 0) l q).1, (ix (0, 0) l q).2))) ((ix (0, 0) l q).1, (ix (0, 0) l q).2)) + 1))) (f := (pairV .i64)) (g := (Value.int .i64)) hS 6 rfl rfl rfl rfl hj_73 hl_74 (fun w_77 hz_78 hS => ?_)
              refine Wx.nil ?_
              refine Wp.done (by kernel_rfl) ?_
              refine W.reg ?_
              refine Wx.rd (v := .int .i64 (q + 1)) (rd_add rfl rfl (in_i64 (by omega) (by omega))) rfl ?_
              refine Wx.rd (v := .int .i64 (q + 1)) (rd_move rfl) rfl ?_
              refine Wx.nil ?_
              refine ⟨(q + 1, mput (mput m2 ((ix (0, 0) l q).1, (ix (0, 0) l q).2) (mget 0 m2 ((ix (0, 0) l q).1, (ix (0, 0) l q).2))) ((ix (0, 0) l q).1, (ix (0, 0) l q).2) (IntKind.i64.wrap ((mget 0 (mput m2 ((ix (0, 0) l q).1, (ix (0, 0) l q).2) (mget 0 m2 ((ix (0, 0) l q).1, (ix (0, 0) l q).2))) ((ix (0, 0) l q).1, (ix (0, 0) l q).2)) + 1))), (by show (l.length - (q + 1)).toNat < (l.length - q).toNat; omega), ?_, ?_, Out.look rfl Out.self⟩
              · exact ⟨hS.tl, (by first | omega | assumption), (by first | omega | assumption), (by first | exact oftU_next2 h0 (by assumption) h2 | exact oftU_next3 h0 (by assumption) h2 | exact oftU_next h0 (by assumption) h2)⟩
              · exact ⟨rfl, trivial⟩
        · -- no
          refine W.exit rfl ?_
          exact ⟨.tuple #[], ResIs.zero, rfl, _, _, by have e := oftU_end (by omega) h2; rw [hm1] at e; rw [stepA_gt c0 c1, ← e]; exact (St.tl hS)⟩
      · -- no
        try simp only [Bool.and_eq_true, Bool.or_eq_true, Bool.not_eq_true', Bool.and_eq_false_iff, Bool.or_eq_false_iff, Bool.not_eq_false', decide_eq_true_eq, decide_eq_false_iff_not, not_or, Bool.false_eq_true, Bool.true_eq_false, false_or, or_false, not_false_eq_true] at c2
        refine W.skip ?_
        refine W.seq ?_
        refine W.reg ?_
        refine Wx.rd (v := .int .i64 0) (rd_loadX hS 3 rfl rfl rfl Tryd.isAgg3) rfl ?_
        refine Wx.rd (v := .int .i64 (IntKind.i64.wrap (0 + 1))) (rd_addw rfl rfl) rfl ?_
        refine Wx.storeX (cs' := [.int .i64 (IntKind.i64.wrap (0 + 1))]) (ds := [.int .i64 (IntKind.i64.wrap (0 + 1))]) hS 3 rfl rfl rfl rfl Tryd.sizeOf3 (Nat.le_of_ble_eq_true rfl) (one_cons rfl one_nil) rfl (fun w_79 hz_80 hS => ?_)
        refine Wx.nil ?_
        refine W.seq ?_
        refine W.reg ?_
        refine Wx.rd (v := lv) (rd_move rfl) rfl ?_
        refine Wx.rd (v := .int .i64 (l.length : Int)) (rd_lenV rfl (hS.v 0 rfl) Tryd.underlying22) rfl ?_
        refine Wx.rd (v := .int .i64 0) (rd_move rfl) rfl ?_
        refine Wx.nil ?_
        refine W.block ?_
        obtain ⟨m1, hm1⟩ : ∃ m1 : List (Join × Int), m1 = ([] : List ((Int × Int) × Int)) := ⟨_, rfl⟩
        have hS : St w0 O w_79 (Ob.v (tSl (tP (tI .i64) (tI .i64))) l lv :: Ob.v (tSl (tP (tI .i64) (tI .i64))) fs fv :: .box gm 3 [.int .i64 (l.length : Int)] :: .box gc 3 [.int .i64 (IntKind.i64.wrap (0 + 1))] :: .box go 55 [.map (some g_4)] :: .raw g_4 (.map (mE (pairV .i64) (Value.int .i64) m1 0).toArray m1.length) :: .box gf 22 [fv] :: ob) := by rw [hm1]; exact hS
        refine W.loop [7, 33, 34, 35, 36, 37, 38, 39, 40, 41, 42, 43] (fun x : Int × (List ((Int × Int) × Int)) => match x with | (q, m2) => [(33, .int .i64 q)]) (fun (x : Int × (List ((Int × Int) × Int))) w' => match x with | (q, m2) => St w0 O w' (Ob.v (tSl (tP (tI .i64) (tI .i64))) l lv :: Ob.v (tSl (tP (tI .i64) (tI .i64))) fs fv :: .box gm 3 [.int .i64 (l.length : Int)] :: .box gc 3 [.int .i64 (IntKind.i64.wrap (0 + 1))] :: .box go 55 [.map (some g_4)] :: .raw g_4 (.map (mE (pairV .i64) (Value.int .i64) m2 0).toArray m2.length) :: .box gf 22 [fv] :: ob) ∧ 0 ≤ q ∧ q ≤ l.length ∧ oftU m2 (l.drop q.toNat) = oftU m1 l) (fun x : Int × (List ((Int × Int) × Int)) => match x with | (q, m2) => (l.length - q).toNat) (0, m1) ⟨rfl, trivial⟩ ⟨hS, (by first | omega | simp), (by first | omega | simp), (rfl)⟩ ?_
        rintro ⟨q, m2⟩ u_82 w_81 ⟨hS, h0, h1, h2⟩
        refine W.seq ?_
        refine W.reg ?_
        refine Wx.rd (v := .bool (decide (q < (l.length : Int)))) (rd_lss rfl rfl) rfl ?_
        refine Wx.nil ?_
        refine W.seq ?_
        refine W.condD rfl (fun c4 => ?_) (fun c4 => ?_)
        · -- yes
          refine W.skip ?_
          refine W.seq ?_
          refine W.block ?_
          refine W.seq ?_
          refine W.reg ?_
          refine Wx.ex (rd_index (0, 0) (hS.v 0 rfl) rfl rfl Tryd.underlying22 Tryd.sizeOf58 (by first | omega | (simp only [List.length_set, List.length_append, List.length_cons, List.length_nil, List.length_replicate]; omega)) (by first | omega | (simp only [List.length_set, List.length_append, List.length_cons, List.length_nil, List.length_replicate]; omega))) rfl (fun p_83 hp_84 => ?_)
          refine Wx.ex (rd_load hp_84 rfl Tryd.isAgg58 Tryd.sizeOf58) rfl (fun v_85 hv_86 => ?_)
          obtain ⟨rfl, bd_87, bd_88⟩ := hv_86.i2
          have bd_87 := bd_i64 bd_87
          have bd_88 := bd_i64 bd_88
          refine Wx.alloc (cs := [.int .i64 0, .int .i64 0]) hS Tryd.zeroValue58 rfl rfl (fun g_89 w_90 hx_92 hb_91 hS => ?_)
          refine Wx.storeX (cs' := [.int .i64 ((ix (0, 0) l q).1), .int .i64 ((ix (0, 0) l q).2)]) (ds := [.int .i64 ((ix (0, 0) l q).1), .int .i64 ((ix (0, 0) l q).2)]) hS 0 rfl rfl rfl rfl Tryd.sizeOf58 (Nat.le_of_ble_eq_true rfl) (one_cons rfl (one_cons rfl one_nil)) rfl (fun w_93 hz_94 hS => ?_)
          refine Wx.nil ?_
          refine W.regP mixedHE_ (fun w_95 hx_96 => ?_)
          have hS := hS.ext hx_96
          refine Wp.br [0, 1] (by kernel_rfl) (by decide) ⟨⟨_, rfl, ?_⟩, ⟨_, rfl, ?_⟩, trivial⟩
          · -- operation 0
            refine Wx.rd (v := .map (some g_4)) (rd_loadX hS 5 rfl rfl rfl Tryd.isAgg55) rfl ?_
            refine Wx.nil ?_
            refine Wp.br [1] (by kernel_rfl) (by decide) ⟨⟨_, rfl, ?_⟩, trivial⟩
            refine Wx.rd (v := .agg #[.int .i64 ((ix (0, 0) l q).1), .int .i64 ((ix (0, 0) l q).2)]) (rd_loadXs (ds := [.int .i64 ((ix (0, 0) l q).1), .int .i64 ((ix (0, 0) l q).2)]) hS 0 rfl rfl rfl rfl Tryd.isAgg58 Tryd.sizeOf58) rfl ?_
            refine Wx.nil ?_
            refine Wp.br [2, 4] (by kernel_rfl) (by decide) ⟨⟨_, rfl, ?_⟩, ⟨_, rfl, ?_⟩, trivial⟩
            · -- operation 2
              refine Wx.rd (v := .int .i64 (mget 0 m2 ((ix (0, 0) l q).1, (ix (0, 0) l q).2))) (rd_lookup (m := m2) (zv := 0) (k := ((ix (0, 0) l q).1, (ix (0, 0) l q).2)) (f := (pairV .i64)) (g := (Value.int .i64)) hS 6 rfl rfl rfl Tryd.underlying55 (KeyD.pair Tryd.underlying58 Tryd.underlying3 Tryd.sizeOf3) (fun _ => Tryd.zeroValue3 _)) rfl ?_
              refine Wx.nil ?_
              refine Wp.rd (v := .int .i64 (IntKind.i64.wrap ((mget 0 m2 ((ix (0, 0) l q).1, (ix (0, 0) l q).2)) + 1))) 3 rfl (by kernel_rfl) (fun _ => (rd_addw rfl rfl)) rfl ?_
              refine Wp.br [4] (by kernel_rfl) (by decide) ⟨⟨_, rfl, ?_⟩, trivial⟩
              refine Wx.mapEntry (m := m2) (zv := 0) (k := ((ix (0, 0) l q).1, (ix (0, 0) l q).2)) (f := (pairV .i64)) (g := (Value.int .i64)) hS 6 rfl rfl rfl Tryd.underlying55 (KeyD.pair Tryd.underlying58 Tryd.underlying3 Tryd.sizeOf3) (fun _ => Tryd.zeroValue3 _) rfl (fun j_99 w_98 hz_102 hj_100 hl_101 hS => ?_)
              refine Wx.nil ?_
              refine Wp.rd (v := .int .i64 ((j_99 : Nat) : Int)) 5 rfl (by kernel_rfl) (fun _ => (rd_extract rfl rfl)) rfl ?_
              refine Wp.br [6] (by kernel_rfl) (by decide) ⟨⟨_, rfl, ?_⟩, trivial⟩
              refine Wx.entryStore (m := (mput m2 ((ix (0, 0) l q).1, (ix (0, 0) l q).2) (mget 0 m2 ((ix (0, 0) l q).1, (ix (0, 0) l q).2)))) (k := ((ix (0, 0) l q).1, (ix (0, 0) l q).2)) (v := (IntKind.i64.wrap ((mget 0 m2 ((ix (0, 0) l q).1, (ix (0, 0) l q).2)) + 1))) (f := (pairV .i64)) (g := (Value.int .i64)) hS 6 rfl rfl rfl rfl hj_100 hl_101 (fun w_103 hz_104 hS => ?_)
              refine Wx.nil ?_
              refine Wp.done (by kernel_rfl) ?_
              refine W.reg ?_
              refine Wx.rd (v := .int .i64 (q + 1)) (rd_add rfl rfl (in_i64 (by omega) (by omega))) rfl ?_
              refine Wx.rd (v := .int .i64 (q + 1)) (rd_move rfl) rfl ?_
              refine Wx.nil ?_
              refine ⟨(q + 1, mput (mput m2 ((ix (0, 0) l q).1, (ix (0, 0) l q).2) (mget 0 m2 ((ix (0, 0) l q).1, (ix (0, 0) l q).2))) ((ix (0, 0) l q).1, (ix (0, 0) l q).2) (IntKind.i64.wrap ((mget 0 m2 ((ix (0, 0) l q).1, (ix (0, 0) l q).2)) + 1))), (by show (l.length - (q + 1)).toNat < (l.length - q).toNat; omega), ?_, ?_, Out.look rfl Out.self⟩
              · exact ⟨hS.tl, (by first | omega | assumption), (by first | omega | assumption), (by first | exact oftU_next2 h0 (by assumption) h2 | exact oftU_next3 h0 (by assumption) h2 | exact oftU_next h0 (by assumption) h2)⟩
              · exact ⟨rfl, trivial⟩
            · -- operation 4
              refine Wx.mapEntry (m := m2) (zv := 0) (k := ((ix (0, 0) l q).1, (ix (0, 0) l q).2)) (f := (pairV .i64)) (g := (Value.int .i64)) hS 6 rfl rfl rfl Tryd.underlying55 (KeyD.pair Tryd.underlying58 Tryd.underlying3 Tryd.sizeOf3) (fun _ => Tryd.zeroValue3 _) rfl (fun j_106 w_105 hz_109 hj_107 hl_108 hS => ?_)
              refine Wx.nil ?_
              refine Wp.rd (v := .int .i64 ((j_106 : Nat) : Int)) 5 rfl (by kernel_rfl) (fun _ => (rd_extract rfl rfl)) rfl ?_
              refine Wp.br [2] (by kernel_rfl) (by decide) ⟨⟨_, rfl, ?_⟩, trivial⟩
              refine Wx.rd (v := .int .i64 (mget 0 (mput m2 ((ix (0, 0) l q).1, (ix (0, 0) l q).2) (mget 0 m2 ((ix (0, 0) l q).1, (ix (0, 0) l q).2))) ((ix (0, 0) l q).1, (ix (0, 0) l q).2))) (rd_lookup (m := (mput m2 ((ix (0, 0) l q).1, (ix (0, 0) l q).2) (mget 0 m2 ((ix (0, 0) l q).1, (ix (0, 0) l q).2)))) (zv := 0) (k := ((ix (0, 0) l q).1, (ix (0, 0) l q).2)) (f := (pairV .i64)) (g := (Value.int .i64)) hS 6 rfl rfl rfl Tryd.underlying55 (KeyD.pair Tryd.underlying58 Tryd.underlying3 Tryd.sizeOf3) (fun _ => Tryd.zeroValue3 _)) rfl ?_
              refine Wx.nil ?_
              refine Wp.rd (v := .int .i64 (IntKind.i64.wrap ((mget 0 (mput m2 ((ix (0, 0) l q).1, (ix (0, 0) l q).2) (mget 0 m2 ((ix (0, 0) l q).1, (ix (0, 0) l q).2))) ((ix (0, 0) l q).1, (ix (0, 0) l q).2)) + 1))) 3 rfl (by kernel_rfl) (fun _ => (rd_addw rfl rfl)) rfl ?_
              refine Wp.br [6] (by kernel_rfl) (by decide) ⟨⟨_, rfl, ?_⟩, trivial⟩
              refine Wx.entryStore (m := (mput m2 ((ix (0, 0) l q).1, (ix (0, 0) l q).2) (mget 0 m2 ((ix (0, 0) l q).1, (ix (0, 0) l q).2)))) (k := ((ix (0, 0) l q).1, (ix (0, 0) l q).2)) (v := (IntKind.i64.wrap ((mget 0 (mput m2 ((ix (0, 0) l q).1, (ix (0, 0) l q).2) (mget 0 m2 ((ix (0, 0) l q).1, (ix (0, 0) l q).2))) ((ix (0, 0) l q).1, (ix (0, 0) l q).2)) + 1))) (f := (pairV .i64)) (g := (Value.int .i64)) hS 6 rfl rfl rfl rfl hj_107 hl_108 (fun w_111 hz_112 hS => ?_)
              refine Wx.nil ?_
              refine Wp.done (by kernel_rfl) ?_
              refine W.reg ?_
              refine Wx.rd (v := .int .i64 (q + 1)) (rd_add rfl rfl (in_i64 (by omega) (by omega))) rfl ?_
              refine Wx.rd (v := .int .i64 (q + 1)) (rd_move rfl) rfl ?_
              refine Wx.nil ?_
              refine ⟨(q + 1, mput (mput m2 ((ix (0, 0) l q).1, (ix (0, 0) l q).2) (mget 0 m2 ((ix (0, 0) l q).1, (ix (0, 0) l q).2))) ((ix (0, 0) l q).1, (ix (0, 0) l q).2) (IntKind.i64.wrap ((mget 0 (mput m2 ((ix (0, 0) l q).1, (ix (0, 0) l q).2) (mget 0 m2 ((ix (0, 0) l q).1, (ix (0, 0) l q).2))) ((ix (0, 0) l q).1, (ix (0, 0) l q).2)) + 1))), (by show (l.length - (q + 1)).toNat < (l.length - q).toNat; omega), ?_, ?_, Out.look rfl Out.self⟩
              · exact ⟨hS.tl, (by first | omega | assumption), (by first | omega | assumption), (by first | exact oftU_next2 h0 (by assumption) h2 | exact oftU_next3 h0 (by assumption) h2 | exact oftU_next h0 (by assumption) h2)⟩
              · exact ⟨rfl, trivial⟩
          · -- operation 1
            refine Wx.rd (v := .agg #[.int .i64 ((ix (0, 0) l q).1), .int .i64 ((ix (0, 0) l q).2)]) (rd_loadXs (ds := [.int .i64 ((ix (0, 0) l q).1), .int .i64 ((ix (0, 0) l q).2)]) hS 0 rfl rfl rfl rfl Tryd.isAgg58 Tryd.sizeOf58) rfl ?_
            refine Wx.nil ?_
            refine Wp.br [0] (by kernel_rfl) (by decide) ⟨⟨_, rfl, ?_⟩, trivial⟩
            refine Wx.rd (v := .map (some g_4)) (rd_loadX hS 5 rfl rfl rfl Tryd.isAgg55) rfl ?_
            refine Wx.nil ?_
            refine Wp.br [2, 4] (by kernel_rfl) (by decide) ⟨⟨_, rfl, ?_⟩, ⟨_, rfl, ?_⟩, trivial⟩
            · -- operation 2
              refine Wx.rd (v := .int .i64 (mget 0 m2 ((ix (0, 0) l q).1, (ix (0, 0) l q).2))) (rd_lookup (m := m2) (zv := 0) (k := ((ix (0, 0) l q).1, (ix (0, 0) l q).2)) (f := (pairV .i64)) (g := (Value.int .i64)) hS 6 rfl rfl rfl Tryd.underlying55 (KeyD.pair Tryd.underlying58 Tryd.underlying3 Tryd.sizeOf3) (fun _ => Tryd.zeroValue3 _)) rfl ?_
              refine Wx.nil ?_
              refine Wp.rd (v := .int .i64 (IntKind.i64.wrap ((mget 0 m2 ((ix (0, 0) l q).1, (ix (0, 0) l q).2)) + 1))) 3 rfl (by kernel_rfl) (fun _ => (rd_addw rfl rfl)) rfl ?_
              refine Wp.br [4] (by kernel_rfl) (by decide) ⟨⟨_, rfl, ?_⟩, trivial⟩
              refine Wx.mapEntry (m := m2) (zv := 0) (k := ((ix (0, 0) l q).1, (ix (0, 0) l q).2)) (f := (pairV .i64)) (g := (Value.int .i64)) hS 6 rfl rfl rfl Tryd.underlying55 (KeyD.pair Tryd.underlying58 Tryd.underlying3 Tryd.sizeOf3) (fun _ => Tryd.zeroValue3 _) rfl (fun j_115 w_114 hz_118 hj_116 hl_117 hS => ?_)
              refine Wx.nil ?_
              refine Wp.rd (v := .int .i64 ((j_115 : Nat) : Int)) 5 rfl (by kernel_rfl) (fun _ => (rd_extract rfl rfl)) rfl ?_
              refine Wp.br [6] (by kernel_rfl) (by decide) ⟨⟨_, rfl, ?_⟩, trivial⟩
              refine Wx.entryStore (m := (mput m2 ((ix (0, 0) l q).1, (ix (0, 0) l q).2) (mget 0 m2 ((ix (0, 0) l q).1, (ix (0, 0) l q).2)))) (k := ((ix (0, 0) l q).1, (ix (0, 0) l q).2)) (v := (IntKind.i64.wrap ((mget 0 m2 ((ix (0, 0) l q).1, (ix (0, 0) l q).2)) + 1))) (f := (pairV .i64)) (g := (Value.int .i64)) hS 6 rfl rfl rfl rfl hj_116 hl_117 (fun w_119 hz_120 hS => ?_)
              refine Wx.nil ?_
              refine Wp.done (by kernel_rfl) ?_
              refine W.reg ?_
              refine Wx.rd (v := .int .i64 (q + 1)) (rd_add rfl rfl (in_i64 (by omega) (by omega))) rfl ?_
              refine Wx.rd (v := .int .i64 (q + 1)) (rd_move rfl) rfl ?_
              refine Wx.nil ?_
              refine ⟨(q + 1, mput (mput m2 ((ix (0, 0) l q).1, (ix (0, 0) l q).2) (mget 0 m2 ((ix (0, 0) l q).1, (ix (0, 0) l q).2))) ((ix (0, 0) l q).1, (ix (0, 0) l q).2) (IntKind.i64.wrap ((mget 0 m2 ((ix (0, 0) l q).1, (ix (0, 0) l q).2)) + 1))), (by show (l.length - (q + 1)).toNat < (l.length - q).toNat; omega), ?_, ?_, Out.look rfl Out.self⟩
              · exact ⟨hS.tl, (by first | omega | assumption), (by first | omega | assumption), (by first | exact oftU_next2 h0 (by assumption) h2 | exact oftU_next3 h0 (by assumption) h2 | exact oftU_next h0 (by assumption) h2)⟩
              · exact ⟨rfl, trivial⟩
            · -- operation 4
              refine Wx.mapEntry (m := m2) (zv := 0) (k := ((ix (0, 0) l q).1, (ix (0, 0) l q).2)) (f := (pairV .i64)) (g := (Value.int .i64)) hS 6 rfl rfl rfl Tryd.underlying55 (KeyD.pair Tryd.underlying58 Tryd.underlying3 Tryd.sizeOf3) (fun _ => Tryd.zeroValue3 _) rfl (fun j_122 w_121 hz_125 hj_123 hl_124 hS => ?_)
              refine Wx.nil ?_
              refine Wp.rd (v := .int .i64 ((j_122 : Nat) : Int)) 5 rfl (by kernel_rfl) (fun _ => (rd_extract rfl rfl)) rfl ?_
              refine Wp.br [2] (by kernel_rfl) (by decide) ⟨⟨_, rfl, ?_⟩, trivial⟩
              refine Wx.rd (v := .int .i64 (mget 0 (mput m2 ((ix (0, 0) l q).1, (ix (0, 0) l q).2) (mget 0 m2 ((ix (0, 0) l q).1, (ix (0, 0) l q).2))) ((ix (0, 0) l q).1, (ix (0, 0) l q).2))) (rd_lookup (m := (mput m2 ((ix (0, 0) l q).1, (ix (0, 0) l q).2) (mget 0 m2 ((ix (0, 0) l q).1, (ix (0, 0) l q).2)))) (zv := 0) (k := ((ix (0, 0) l q).1, (ix (0, 0) l q).2)) (f := (pairV .i64)) (g := (Value.int .i64)) hS 6 rfl rfl rfl Tryd.underlying55 (KeyD.pair Tryd.underlying58 Tryd.underlying3 Tryd.sizeOf3) (fun _ => Tryd.zeroValue3 _)) rfl ?_
              refine Wx.nil ?_
              refine Wp.rd (v := .int .i64 (IntKind.i64.wrap ((mget 0 (mput m2 ((ix (0, 0) l q).1, (ix (0, 0) l q).2) (mget 0 m2 ((ix (0, 0) l q).1, (ix (0, 0) l q).2))) ((ix (0, 0) l q).1, (ix (0, 0) l q).2)) + 1))) 3 rfl (by kernel_rfl) (fun _ => (rd_addw rfl rfl)) rfl ?_
              refine Wp.br [6] (by kernel_rfl) (by decide) ⟨⟨_, rfl, ?_⟩, trivial⟩
              refine Wx.entryStore (m := (mput m2 ((ix (0, 0) l q).1, (ix (0, 0) l q).2) (mget 0 m2 ((ix (0, 0) l q).1, (ix (0, 0) l q).2)))) (k := ((ix (0, 0) l q).1, (ix (0, 0) l q).2)) (v := (IntKind.i64.wrap ((mget 0 (mput m2 ((ix (0, 0) l q).1, (ix (0, 0) l q).2) (mget 0 m2 ((ix (0, 0) l q).1, (ix (0, 0) l q).2))) ((ix (0, 0) l q).1, (ix (0, 0) l q).2)) + 1))) (f := (pairV .i64)) (g := (Value.int .i64)) hS 6 rfl rfl rfl rfl hj_123 hl_124 (fun w_127 hz_128 hS => ?_)
              refine Wx.nil ?_
              refine Wp.done (by kernel_rfl) ?_
              refine W.reg ?_
              refine Wx.rd (v := .int .i64 (q + 1)) (rd_add rfl rfl (in_i64 (by omega) (by omega))) rfl ?_
              refine Wx.rd (v := .int .i64 (q + 1)) (rd_move rfl) rfl ?_
              refine Wx.nil ?_
              refine ⟨(q + 1, mput (mput m2 ((ix (0, 0) l q).1, (ix (0, 0) l q).2) (mget 0 m2 ((ix (0, 0) l q).1, (ix (0, 0) l q).2))) ((ix (0, 0) l q).1, (ix (0, 0) l q).2) (IntKind.i64.wrap ((mget 0 (mput m2 ((ix (0, 0) l q).1, (ix (0, 0) l q).2) (mget 0 m2 ((ix (0, 0) l q).1, (ix (0, 0) l q).2))) ((ix (0, 0) l q).1, (ix (0, 0) l q).2)) + 1))), (by show (l.length - (q + 1)).toNat < (l.length - q).toNat; omega), ?_, ?_, Out.look rfl Out.self⟩
              · exact ⟨hS.tl, (by first | omega | assumption), (by first | omega | assumption), (by first | exact oftU_next2 h0 (by assumption) h2 | exact oftU_next3 h0 (by assumption) h2 | exact oftU_next h0 (by assumption) h2)⟩
              · exact ⟨rfl, trivial⟩
        · -- no
          refine W.exit rfl ?_
          exact ⟨.tuple #[], ResIs.zero, (by exfalso; simp at c2)⟩
    · -- no
      refine W.skip ?_
      refine W.seq ?_
      refine W.seq ?_
      refine W.reg ?_
      refine Wx.rd (v := .int .i64 C) (rd_loadX hS 3 rfl rfl rfl Tryd.isAgg3) rfl ?_
      refine Wx.rd (v := .bool (decide (C = 0))) (rd_eql rfl rfl) rfl ?_
      refine Wx.rd (v := .bool (decide (C = 0))) (rd_move rfl) rfl ?_
      refine Wx.cut (X := Unit) 5 [22, 23, 24, 25, 26] (fun _ => [(26, .bool (decide (C = 0) || decide ((cmpP l fs) < 0)))]) (fun _ w' => St w0 O w' (Ob.v (tSl (tP (tI .i64) (tI .i64))) l lv :: Ob.v (tSl (tP (tI .i64) (tI .i64))) fs fv :: .box gm 3 [.int .i64 M] :: .box gc 3 [.int .i64 C] :: .box go 55 [.map (some h)] :: .raw h (.map (mE (pairV .i64) (Value.int .i64) m 0).toArray m.length) :: .box gf 22 [fv] :: ob)) ?_ ?_
      · rcases Bool.eq_false_or_eq_true (decide (C = 0)) with g_129 | g_129
        · -- True
          have gp_130 := of_decide_eq_true g_129
          refine Wx.gnoB rfl rfl (congrArg Value.bool g_129) rfl rfl ?_
          refine Wx.gnoB rfl rfl (congrArg Value.bool g_129) rfl rfl ?_
          refine Wx.gnoB rfl rfl (congrArg Value.bool g_129) rfl rfl ?_
          refine Wx.gnoB rfl rfl (congrArg Value.bool g_129) rfl rfl ?_
          refine Wx.rd (v := .bool true) (rd_pickT (congrArg Value.bool g_129) rfl) rfl ?_
          refine Wx.nil ⟨(), hS, ⟨?_, trivial⟩, Out.look rfl Out.refl⟩
          show Value.bool true = Value.bool (decide (C = 0) || decide ((cmpP l fs) < 0))
          first | rw [g_129, Bool.true_or] | (rw [g_129]; rfl)
        · -- False
          have gp_131 := of_decide_eq_false g_129
          refine Wx.gyes rfl rfl (congrArg Value.bool g_129) ?_
          refine Wx.rd (v := lv) (rd_move rfl) rfl ?_
          refine Wx.gyes rfl rfl (congrArg Value.bool g_129) ?_
          refine Wx.rd (v := fv) (rd_loadX hS 6 rfl rfl rfl Tryd.isAgg22) rfl ?_
          refine Wx.gyes rfl rfl (congrArg Value.bool g_129) ?_
          refine Wx.callF (run_callF Tryd.call51 rfl) (F51 (hS.v 0 rfl) (hS.v 1 rfl) hS.fb_lt) rfl ?_
          rintro r_132 w_133 hx_134 rfl
          have hS := hS.ext hx_134
          have cb_135 := cmpP_bd l fs
          refine Wx.gyes rfl rfl (congrArg Value.bool g_129) ?_
          refine Wx.rd (v := .bool (decide ((cmpP l fs) < 0))) (rd_lss rfl rfl) rfl ?_
          refine Wx.rd (v := .bool (decide ((cmpP l fs) < 0))) (rd_pickF (congrArg Value.bool g_129) rfl) rfl ?_
          refine Wx.nil ⟨(), hS, ⟨?_, trivial⟩, Out.look rfl Out.refl⟩
          show Value.bool (decide ((cmpP l fs) < 0)) = Value.bool (decide (C = 0) || decide ((cmpP l fs) < 0))
          first | rw [g_129, Bool.false_or] | (rw [g_129]; rfl)
      rintro ⟨⟩ u_137 w_136 hS
      refine Wx.nil ?_
      refine W.cond rfl (fun c5 => ?_) (fun c5 => ?_)
      · -- yes
        try simp only [Bool.and_eq_true, Bool.or_eq_true, Bool.not_eq_true', Bool.and_eq_false_iff, Bool.or_eq_false_iff, Bool.not_eq_false', decide_eq_true_eq, decide_eq_false_iff_not, not_or, Bool.false_eq_true, Bool.true_eq_false, false_or, or_false, not_false_eq_true] at c5
        refine W.reg ?_
        refine Wx.rd (v := lv) (rd_move rfl) rfl ?_
        refine Wx.callF (run_callF Tryd.call54 rfl) (F54 (hS.v 0 rfl) (by omega) hS.fb_lt) rfl ?_
        rintro r_138 w_139 hx_140 ⟨_, rfl, hv_141⟩
        have hS := hS.pushFr hx_140 hv_141
        refine Wx.storeX (cs' := [r_138]) (ds := [r_138]) hS 7 rfl rfl rfl (Go.Wk.cells_one (hS.rowOne 0 rfl)) Tryd.sizeOf22 (Nat.le_of_ble_eq_true rfl) (one_cons (hS.rowOne 0 rfl) one_nil) rfl (fun w_143 hz_144 hS => ?_)
        have hS := hS.freeze 0 rfl
        have hS := (hS.front 2 rfl).tl
        have hS : St _ _ w_143 (Ob.v (tSl (tP (tI .i64) (tI .i64))) l lv :: Ob.v (tSl (tP (tI .i64) (tI .i64))) l r_138 :: .box gm 3 [.int .i64 M] :: .box gc 3 [.int .i64 C] :: .box go 55 [.map (some h)] :: .raw h (.map (mE (pairV .i64) (Value.int .i64) m 0).toArray m.length) :: .box gf 22 [r_138] :: ob) := (((((((hS.front 6 rfl).front 6 rfl).front 6 rfl).front 6 rfl).front 6 rfl).front 5 rfl).front 6 rfl)
        refine Wx.nil ?_
        refine W.seq ?_
        refine W.reg ?_
        refine Wx.rd (v := .int .i64 C) (rd_loadX hS 3 rfl rfl rfl Tryd.isAgg3) rfl ?_
        refine Wx.rd (v := .int .i64 (IntKind.i64.wrap (C + 1))) (rd_addw rfl rfl) rfl ?_
        refine Wx.storeX (cs' := [.int .i64 (IntKind.i64.wrap (C + 1))]) (ds := [.int .i64 (IntKind.i64.wrap (C + 1))]) hS 3 rfl rfl rfl rfl Tryd.sizeOf3 (Nat.le_of_ble_eq_true rfl) (one_cons rfl one_nil) rfl (fun w_146 hz_147 hS => ?_)
        refine Wx.nil ?_
        refine W.seq ?_
        refine W.reg ?_
        refine Wx.rd (v := lv) (rd_move rfl) rfl ?_
        refine Wx.rd (v := .int .i64 (l.length : Int)) (rd_lenV rfl (hS.v 0 rfl) Tryd.underlying22) rfl ?_
        refine Wx.rd (v := .int .i64 0) (rd_move rfl) rfl ?_
        refine Wx.nil ?_
        refine W.block ?_
        obtain ⟨m1, hm1⟩ : ∃ m1 : List (Join × Int), m1 = m := ⟨_, rfl⟩
        have hS : St w0 O w_146 (Ob.v (tSl (tP (tI .i64) (tI .i64))) l lv :: Ob.v (tSl (tP (tI .i64) (tI .i64))) l r_138 :: .box gm 3 [.int .i64 M] :: .box gc 3 [.int .i64 (IntKind.i64.wrap (C + 1))] :: .box go 55 [.map (some h)] :: .raw h (.map (mE (pairV .i64) (Value.int .i64) m1 0).toArray m1.length) :: .box gf 22 [r_138] :: ob) := by rw [hm1]; exact hS
        refine W.loop [7, 33, 34, 35, 36, 37, 38, 39, 40, 41, 42, 43] (fun x : Int × (List (Join × Int)) => match x with | (q, m2) => [(33, .int .i64 q)]) (fun (x : Int × (List (Join × Int))) w' => match x with | (q, m2) => St w0 O w' (Ob.v (tSl (tP (tI .i64) (tI .i64))) l lv :: Ob.v (tSl (tP (tI .i64) (tI .i64))) l r_138 :: .box gm 3 [.int .i64 M] :: .box gc 3 [.int .i64 (IntKind.i64.wrap (C + 1))] :: .box go 55 [.map (some h)] :: .raw h (.map (mE (pairV .i64) (Value.int .i64) m2 0).toArray m2.length) :: .box gf 22 [r_138] :: ob) ∧ 0 ≤ q ∧ q ≤ l.length ∧ oftU m2 (l.drop q.toNat) = oftU m1 l) (fun x : Int × (List (Join × Int)) => match x with | (q, m2) => (l.length - q).toNat) (0, m1) ⟨rfl, trivial⟩ ⟨hS, (by first | omega | simp), (by first | omega | simp), (rfl)⟩ ?_
        rintro ⟨q, m2⟩ u_149 w_148 ⟨hS, h0, h1, h2⟩
        refine W.seq ?_
        refine W.reg ?_
        refine Wx.rd (v := .bool (decide (q < (l.length : Int)))) (rd_lss rfl rfl) rfl ?_
        refine Wx.nil ?_
        refine W.seq ?_
        refine W.condD rfl (fun c6 => ?_) (fun c6 => ?_)
        · -- yes
          refine W.skip ?_
          refine W.seq ?_
          refine W.block ?_
          refine W.seq ?_
          refine W.reg ?_
          refine Wx.ex (rd_index (0, 0) (hS.v 0 rfl) rfl rfl Tryd.underlying22 Tryd.sizeOf58 (by first | omega | (simp only [List.length_set, List.length_append, List.length_cons, List.length_nil, List.length_replicate]; omega)) (by first | omega | (simp only [List.length_set, List.length_append, List.length_cons, List.length_nil, List.length_replicate]; omega))) rfl (fun p_150 hp_151 => ?_)
          refine Wx.ex (rd_load hp_151 rfl Tryd.isAgg58 Tryd.sizeOf58) rfl (fun v_152 hv_153 => ?_)
          obtain ⟨rfl, bd_154, bd_155⟩ := hv_153.i2
          have bd_154 := bd_i64 bd_154
          have bd_155 := bd_i64 bd_155
          refine Wx.alloc (cs := [.int .i64 0, .int .i64 0]) hS Tryd.zeroValue58 rfl rfl (fun g_156 w_157 hx_159 hb_158 hS => ?_)
          refine Wx.storeX (cs' := [.int .i64 ((ix (0, 0) l q).1), .int .i64 ((ix (0, 0) l q).2)]) (ds := [.int .i64 ((ix (0, 0) l q).1), .int .i64 ((ix (0, 0) l q).2)]) hS 0 rfl rfl rfl rfl Tryd.sizeOf58 (Nat.le_of_ble_eq_true rfl) (one_cons rfl (one_cons rfl one_nil)) rfl (fun w_160 hz_161 hS => ?_)
          refine Wx.nil ?_
          refine W.regP mixedHE_ (fun w_162 hx_163 => ?_)
          have hS := hS.ext hx_163
          refine Wp.br [0, 1] (by kernel_rfl) (by decide) ⟨⟨_, rfl, ?_⟩, ⟨_, rfl, ?_⟩, trivial⟩
          · -- operation 0
            refine Wx.rd (v := .map (some h)) (rd_loadX hS 5 rfl rfl rfl Tryd.isAgg55) rfl ?_
            refine Wx.nil ?_
            refine Wp.br [1] (by kernel_rfl) (by decide) ⟨⟨_, rfl, ?_⟩, trivial⟩
            refine Wx.rd (v := .agg #[.int .i64 ((ix (0, 0) l q).1), .int .i64 ((ix (0, 0) l q).2)]) (rd_loadXs (ds := [.int .i64 ((ix (0, 0) l q).1), .int .i64 ((ix (0, 0) l q).2)]) hS 0 rfl rfl rfl rfl Tryd.isAgg58 Tryd.sizeOf58) rfl ?_
            refine Wx.nil ?_
            refine Wp.br [2, 4] (by kernel_rfl) (by decide) ⟨⟨_, rfl, ?_⟩, ⟨_, rfl, ?_⟩, trivial⟩
            · -- operation 2
              refine Wx.rd (v := .int .i64 (mget 0 m2 ((ix (0, 0) l q).1, (ix (0, 0) l q).2))) (rd_lookup (m := m2) (zv := 0) (k := ((ix (0, 0) l q).1, (ix (0, 0) l q).2)) (f := (pairV .i64)) (g := (Value.int .i64)) hS 6 rfl rfl rfl Tryd.underlying55 (KeyD.pair Tryd.underlying58 Tryd.underlying3 Tryd.sizeOf3) (fun _ => Tryd.zeroValue3 _)) rfl ?_
              refine Wx.nil ?_
              refine Wp.rd (v := .int .i64 (IntKind.i64.wrap ((mget 0 m2 ((ix (0, 0) l q).1, (ix (0, 0) l q).2)) + 1))) 3 rfl (by kernel_rfl) (fun _ => (rd_addw rfl rfl)) rfl ?_
              refine Wp.br [4] (by kernel_rfl) (by decide) ⟨⟨_, rfl, ?_⟩, trivial⟩
              refine Wx.mapEntry (m := m2) (zv := 0) (k := ((ix (0, 0) l q).1, (ix (0, 0) l q).2)) (f := (pairV .i64)) (g := (Value.int .i64)) hS 6 rfl rfl rfl Tryd.underlying55 (KeyD.pair Tryd.underlying58 Tryd.underlying3 Tryd.sizeOf3) (fun _ => Tryd.zeroValue3 _) rfl (fun j_166 w_165 hz_169 hj_167 hl_168 hS => ?_)
              refine Wx.nil ?_
              refine Wp.rd (v := .int .i64 ((j_166 : Nat) : Int)) 5 rfl (by kernel_rfl) (fun _ => (rd_extract rfl rfl)) rfl ?_
              refine Wp.br [6] (by kernel_rfl) (by decide) ⟨⟨_, rfl, ?_⟩, trivial⟩
              refine Wx.entryStore (m := (mput m2 ((ix (0, 0) l q).1, (ix (0, 0) l q).2) (mget 0 m2 ((ix (0, 0) l q).1, (ix (0, 0) l q).2)))) (k := ((ix (0, 0) l q).1, (ix (0, 0) l q).2)) (v := (IntKind.i64.wrap ((mget 0 m2 ((ix (0, 0) l q).1, (ix (0, 0) l q).2)) + 1))) (f := (pairV .i64)) (g := (Value.int .i64)) hS 6 rfl rfl rfl rfl hj_167 hl_168 (fun w_170 hz_171 hS => ?_)
              refine Wx.nil ?_
              refine Wp.done (by kernel_rfl) ?_
              refine W.reg ?_
              refine Wx.rd (v := .int .i64 (q + 1)) (rd_add rfl rfl (in_i64 (by omega) (by omega))) rfl ?_
              refine Wx.rd (v := .int .i64 (q + 1)) (rd_move rfl) rfl ?_
              refine Wx.nil ?_
              refine ⟨(q + 1, mput (mput m2 ((ix (0, 0) l q).1, (ix (0, 0) l q).2) (mget 0 m2 ((ix (0, 0) l q).1, (ix (0, 0) l q).2))) ((ix (0, 0) l q).1, (ix (0, 0) l q).2) (IntKind.i64.wrap ((mget 0 m2 ((ix (0, 0) l q).1, (ix (0, 0) l q).2)) + 1))), (by show (l.length - (q + 1)).toNat < (l.length - q).toNat; omega), ?_, ?_, Out.look rfl Out.self⟩
              · exact ⟨hS.tl, (by first | omega | assumption), (by first | omega | assumption), (by first | exact oftU_next2 h0 (by assumption) h2 | exact oftU_next3 h0 (by assumption) h2 | exact oftU_next h0 (by assumption) h2)⟩
              · exact ⟨rfl, trivial⟩
            · -- operation 4
              refine Wx.mapEntry (m := m2) (zv := 0) (k := ((ix (0, 0) l q).1, (ix (0, 0) l q).2)) (f := (pairV .i64)) (g := (Value.int .i64)) hS 6 rfl rfl rfl Tryd.underlying55 (KeyD.pair Tryd.underlying58 Tryd.underlying3 Tryd.sizeOf3) (fun _ => Tryd.zeroValue3 _) rfl (fun j_173 w_172 hz_176 hj_174 hl_175 hS => ?_)
              refine Wx.nil ?_
              refine Wp.rd (v := .int .i64 ((j_173 : Nat) : Int)) 5 rfl (by kernel_rfl) (fun _ => (rd_extract rfl rfl)) rfl ?_
              refine Wp.br [2] (by kernel_rfl) (by decide) ⟨⟨_, rfl, ?_⟩, trivial⟩
              refine Wx.rd (v := .int .i64 (mget 0 (mput m2 ((ix (0, 0) l q).1, (ix (0, 0) l q).2) (mget 0 m2 ((ix (0, 0) l q).1, (ix (0, 0) l q).2))) ((ix (0, 0) l q).1, (ix (0, 0) l q).2))) (rd_lookup (m := (mput m2 ((ix (0, 0) l q).1, (ix (0, 0) l q).2) (mget 0 m2 ((ix (0, 0) l q).1, (ix (0, 0) l q).2)))) (zv := 0) (k := ((ix (0, 0) l q).1, (ix (0, 0) l q).2)) (f := (pairV .i64)) (g := (Value.int .i64)) hS 6 rfl rfl rfl Tryd.underlying55 (KeyD.pair Tryd.underlying58 Tryd.underlying3 Tryd.sizeOf3) (fun _ => Tryd.zeroValue3 _)) rfl ?_
              refine Wx.nil ?_
              refine Wp.rd (v := .int .i64 (IntKind.i64.wrap ((mget 0 (mput m2 ((ix (0, 0) l q).1, (ix (0, 0) l q).2) (mget 0 m2 ((ix (0, 0) l q).1, (ix (0, 0) l q).2))) ((ix (0, 0) l q).1, (ix (0, 0) l q).2)) + 1))) 3 rfl (by kernel_rfl) (fun _ => (rd_addw rfl rfl)) rfl ?_
              refine Wp.br [6] (by kernel_rfl) (by decide) ⟨⟨_, rfl, ?_⟩, trivial⟩
              refine Wx.entryStore (m := (mput m2 ((ix (0, 0) l q).1, (ix (0, 0) l q).2) (mget 0 m2 ((ix (0, 0) l q).1, (ix (0, 0) l q).2)))) (k := ((ix (0, 0) l q).1, (ix (0, 0) l q).2)) (v := (IntKind.i64.wrap ((mget 0 (mput m2 ((ix (0, 0) l q).1, (ix (0, 0) l q).2) (mget 0 m2 ((ix (0, 0) l q).1, (ix (0, 0) l q).2))) ((ix (0, 0) l q).1, (ix (0, 0) l q).2)) + 1))) (f := (pairV .i64)) (g := (Value.int .i64)) hS 6 rfl rfl rfl rfl hj_174 hl_175 (fun w_178 hz_179 hS => ?_)
              refine Wx.nil ?_
              refine Wp.done (by kernel_rfl) ?_
              refine W.reg ?_
              refine Wx.rd (v := .int .i64 (q + 1)) (rd_add rfl rfl (in_i64 (by omega) (by omega))) rfl ?_
              refine Wx.rd (v := .int .i64 (q + 1)) (rd_move rfl) rfl ?_
              refine Wx.nil ?_
              refine ⟨(q + 1, mput (mput m2 ((ix (0, 0) l q).1, (ix (0, 0) l q).2) (mget 0 m2 ((ix (0, 0) l q).1, (ix (0, 0) l q).2))) ((ix (0, 0) l q).1, (ix (0, 0) l q).2) (IntKind.i64.wrap ((mget 0 (mput m2 ((ix (0, 0) l q).1, (ix (0, 0) l q).2) (mget 0 m2 ((ix (0, 0) l q).1, (ix (0, 0) l q).2))) ((ix (0, 0) l q).1, (ix (0, 0) l q).2)) + 1))), (by show (l.length - (q + 1)).toNat < (l.length - q).toNat; omega), ?_, ?_, Out.look rfl Out.self⟩
              · exact ⟨hS.tl, (by first | omega | assumption), (by first | omega | assumption), (by first | exact oftU_next2 h0 (by assumption) h2 | exact oftU_next3 h0 (by assumption) h2 | exact oftU_next h0 (by assumption) h2)⟩
              · exact ⟨rfl, trivial⟩
          · -- operation 1
            refine Wx.rd (v := .agg #[.int .i64 ((ix (0, 0) l q).1), .int .i64 ((ix (0, 0) l q).2)]) (rd_loadXs (ds := [.int .i64 ((ix (0, 0) l q).1), .int .i64 ((ix (0, 0) l q).2)]) hS 0 rfl rfl rfl rfl Tryd.isAgg58 Tryd.sizeOf58) rfl ?_
            refine Wx.nil ?_
            refine Wp.br [0] (by kernel_rfl) (by decide) ⟨⟨_, rfl, ?_⟩, trivial⟩
            refine Wx.rd (v := .map (some h)) (rd_loadX hS 5 rfl rfl rfl Tryd.isAgg55) rfl ?_
            refine Wx.nil ?_
            refine Wp.br [2, 4] (by kernel_rfl) (by decide) ⟨⟨_, rfl, ?_⟩, ⟨_, rfl, ?_⟩, trivial⟩
            · -- operation 2
              refine Wx.rd (v := .int .i64 (mget 0 m2 ((ix (0, 0) l q).1, (ix (0, 0) l q).2))) (rd_lookup (m := m2) (zv := 0) (k := ((ix (0, 0) l q).1, (ix (0, 0) l q).2)) (f := (pairV .i64)) (g := (Value.int .i64)) hS 6 rfl rfl rfl Tryd.underlying55 (KeyD.pair Tryd.underlying58 Tryd.underlying3 Tryd.sizeOf3) (fun _ => Tryd.zeroValue3 _)) rfl ?_
              refine Wx.nil ?_
              refine Wp.rd (v := .int .i64 (IntKind.i64.wrap ((mget 0 m2 ((ix (0, 0) l q).1, (ix (0, 0) l q).2)) + 1))) 3 rfl (by kernel_rfl) (fun _ => (rd_addw rfl rfl)) rfl ?_
              refine Wp.br [4] (by kernel_rfl) (by decide) ⟨⟨_, rfl, ?_⟩, trivial⟩
              refine Wx.mapEntry (m := m2) (zv := 0) (k := ((ix (0, 0) l q).1, (ix (0, 0) l q).2)) (f := (pairV .i64)) (g := (Value.int .i64)) hS 6 rfl rfl rfl Tryd.underlying55 (KeyD.pair Tryd.underlying58 Tryd.underlying3 Tryd.sizeOf3) (fun _ => Tryd.zeroValue3 _) rfl (fun j_182 w_181 hz_185 hj_183 hl_184 hS => ?_)
              refine Wx.nil ?_
              refine Wp.rd (v := .int .i64 ((j_182 : Nat) : Int)) 5 rfl (by kernel_rfl) (fun _ => (rd_extract rfl rfl)) rfl ?_
              refine Wp.br [6] (by kernel_rfl) (by decide) ⟨⟨_, rfl, ?_⟩, trivial⟩
              refine Wx.entryStore (m := (mput m2 ((ix (0, 0) l q).1, (ix (0, 0) l q).2) (mget 0 m2 ((ix (0, 0) l q).1, (ix (0, 0) l q).2)))) (k := ((ix (0, 0) l q).1, (ix (0, 0) l q).2)) (v := (IntKind.i64.wrap ((mget 0 m2 ((ix (0, 0) l q).1, (ix (0, 0) l q).2)) + 1))) (f := (pairV .i64)) (g := (Value.int .i64)) hS 6 rfl rfl rfl rfl hj_183 hl_184 (fun w_186 hz_187 hS => ?_)
              refine Wx.nil ?_
              refine Wp.done (by kernel_rfl) ?_
              refine W.reg ?_
              refine Wx.rd (v := .int .i64 (q + 1)) (rd_add rfl rfl (in_i64 (by omega) (by omega))) rfl ?_
              refine Wx.rd (v := .int .i64 (q + 1)) (rd_move rfl) rfl ?_
              refine Wx.nil ?_
              refine ⟨(q + 1, mput (mput m2 ((ix (0, 0) l q).1, (ix (0, 0) l q).2) (mget 0 m2 ((ix (0, 0) l q).1, (ix (0, 0) l q).2))) ((ix (0, 0) l q).1, (ix (0, 0) l q).2) (IntKind.i64.wrap ((mget 0 m2 ((ix (0, 0) l q).1, (ix (0, 0) l q).2)) + 1))), (by show (l.length - (q + 1)).toNat < (l.length - q).toNat; omega), ?_, ?_, Out.look rfl Out.self⟩
              · exact ⟨hS.tl, (by first | omega | assumption), (by first | omega | assumption), (by first | exact oftU_next2 h0 (by assumption) h2 | exact oftU_next3 h0 (by assumption) h2 | exact oftU_next h0 (by assumption) h2)⟩
              · exact ⟨rfl, trivial⟩
            · -- operation 4
              refine Wx.mapEntry (m := m2) (zv := 0) (k := ((ix (0, 0) l q).1, (ix (0, 0) l q).2)) (f := (pairV .i64)) (g := (Value.int .i64)) hS 6 rfl rfl rfl Tryd.underlying55 (KeyD.pair Tryd.underlying58 Tryd.underlying3 Tryd.sizeOf3) (fun _ => Tryd.zeroValue3 _) rfl (fun j_189 w_188 hz_192 hj_190 hl_191 hS => ?_)
              refine Wx.nil ?_
              refine Wp.rd (v := .int .i64 ((j_189 : Nat) : Int)) 5 rfl (by kernel_rfl) (fun _ => (rd_extract rfl rfl)) rfl ?_
              refine Wp.br [2] (by kernel_rfl) (by decide) ⟨⟨_, rfl, ?_⟩, trivial⟩
              refine Wx.rd (v := .int .i64 (mget 0 (mput m2 ((ix (0, 0) l q).1, (ix (0, 0) l q).2) (mget 0 m2 ((ix (0, 0) l q).1, (ix (0, 0) l q).2))) ((ix (0, 0) l q).1, (ix (0, 0) l q).2))) (rd_lookup (m := (mput m2 ((ix (0, 0) l q).1, (ix (0, 0) l q).2) (mget 0 m2 ((ix (0, 0) l q).1, (ix (0, 0) l q).2)))) (zv := 0) (k := ((ix (0, 0) l q).1, (ix (0, 0) l q).2)) (f := (pairV .i64)) (g := (Value.int .i64)) hS 6 rfl rfl rfl Tryd.underlying55 (KeyD.pair Tryd.underlying58 Tryd.underlying3 Tryd.sizeOf3) (fun _ => Tryd.zeroValue3 _)) rfl ?_
              refine Wx.nil ?_
              refine Wp.rd (v := .int .i64 (IntKind.i64.wrap ((mget 0 (mput m2 ((ix (0, 0) l q).1, (ix (0, 0) l q).2) (mget 0 m2 ((ix (0, 0) l q).1, (ix (0, 0) l q).2))) ((ix (0, 0) l q).1, (ix (0, 0) l q).2)) + 1))) 3 rfl (by kernel_rfl) (fun _ => (rd_addw rfl rfl)) rfl ?_
              refine Wp.br [6] (by kernel_rfl) (by decide) ⟨⟨_, rfl, ?_⟩, trivial⟩
              refine Wx.entryStore (m := (mput m2 ((ix (0, 0) l q).1, (ix (0, 0) l q).2) (mget 0 m2 ((ix (0, 0) l q).1, (ix (0, 0) l q).2)))) (k := ((ix (0, 0) l q).1, (ix (0, 0) l q).2)) (v := (IntKind.i64.wrap ((mget 0 (mput m2 ((ix (0, 0) l q).1, (ix (0, 0) l q).2) (mget 0 m2 ((ix (0, 0) l q).1, (ix (0, 0) l q).2))) ((ix (0, 0) l q).1, (ix (0, 0) l q).2)) + 1))) (f := (pairV .i64)) (g := (Value.int .i64)) hS 6 rfl rfl rfl rfl hj_190 hl_191 (fun w_194 hz_195 hS => ?_)
              refine Wx.nil ?_
              refine Wp.done (by kernel_rfl) ?_
              refine W.reg ?_
              refine Wx.rd (v := .int .i64 (q + 1)) (rd_add rfl rfl (in_i64 (by omega) (by omega))) rfl ?_
              refine Wx.rd (v := .int .i64 (q + 1)) (rd_move rfl) rfl ?_
              refine Wx.nil ?_
              refine ⟨(q + 1, mput (mput m2 ((ix (0, 0) l q).1, (ix (0, 0) l q).2) (mget 0 m2 ((ix (0, 0) l q).1, (ix (0, 0) l q).2))) ((ix (0, 0) l q).1, (ix (0, 0) l q).2) (IntKind.i64.wrap ((mget 0 (mput m2 ((ix (0, 0) l q).1, (ix (0, 0) l q).2) (mget 0 m2 ((ix (0, 0) l q).1, (ix (0, 0) l q).2))) ((ix (0, 0) l q).1, (ix (0, 0) l q).2)) + 1))), (by show (l.length - (q + 1)).toNat < (l.length - q).toNat; omega), ?_, ?_, Out.look rfl Out.self⟩
              · exact ⟨hS.tl, (by first | omega | assumption), (by first | omega | assumption), (by first | exact oftU_next2 h0 (by assumption) h2 | exact oftU_next3 h0 (by assumption) h2 | exact oftU_next h0 (by assumption) h2)⟩
              · exact ⟨rfl, trivial⟩
        · -- no
          refine W.exit rfl ?_
          exact ⟨.tuple #[], ResIs.zero, rfl, _, _, by have e := oftU_end (by omega) h2; rw [hm1] at e; rw [stepA_yes c0 c1 (by omega), ← e]; exact (St.tl hS)⟩
      · -- no
        try simp only [Bool.and_eq_true, Bool.or_eq_true, Bool.not_eq_true', Bool.and_eq_false_iff, Bool.or_eq_false_iff, Bool.not_eq_false', decide_eq_true_eq, decide_eq_false_iff_not, not_or, Bool.false_eq_true, Bool.true_eq_false, false_or, or_false, not_false_eq_true] at c5
        refine W.skip ?_
        refine W.seq ?_
        refine W.reg ?_
        refine Wx.rd (v := .int .i64 C) (rd_loadX hS 3 rfl rfl rfl Tryd.isAgg3) rfl ?_
        refine Wx.rd (v := .int .i64 (IntKind.i64.wrap (C + 1))) (rd_addw rfl rfl) rfl ?_
        refine Wx.storeX (cs' := [.int .i64 (IntKind.i64.wrap (C + 1))]) (ds := [.int .i64 (IntKind.i64.wrap (C + 1))]) hS 3 rfl rfl rfl rfl Tryd.sizeOf3 (Nat.le_of_ble_eq_true rfl) (one_cons rfl one_nil) rfl (fun w_196 hz_197 hS => ?_)
        refine Wx.nil ?_
        refine W.seq ?_
        refine W.reg ?_
        refine Wx.rd (v := lv) (rd_move rfl) rfl ?_
        refine Wx.rd (v := .int .i64 (l.length : Int)) (rd_lenV rfl (hS.v 0 rfl) Tryd.underlying22) rfl ?_
        refine Wx.rd (v := .int .i64 0) (rd_move rfl) rfl ?_
        refine Wx.nil ?_
        refine W.block ?_
        obtain ⟨m1, hm1⟩ : ∃ m1 : List (Join × Int), m1 = m := ⟨_, rfl⟩
        have hS : St w0 O w_196 (Ob.v (tSl (tP (tI .i64) (tI .i64))) l lv :: Ob.v (tSl (tP (tI .i64) (tI .i64))) fs fv :: .box gm 3 [.int .i64 M] :: .box gc 3 [.int .i64 (IntKind.i64.wrap (C + 1))] :: .box go 55 [.map (some h)] :: .raw h (.map (mE (pairV .i64) (Value.int .i64) m1 0).toArray m1.length) :: .box gf 22 [fv] :: ob) := by rw [hm1]; exact hS
        refine W.loop [7, 33, 34, 35, 36, 37, 38, 39, 40, 41, 42, 43] (fun x : Int × (List (Join × Int)) => match x with | (q, m2) => [(33, .int .i64 q)]) (fun (x : Int × (List (Join × Int))) w' => match x with | (q, m2) => St w0 O w' (Ob.v (tSl (tP (tI .i64) (tI .i64))) l lv :: Ob.v (tSl (tP (tI .i64) (tI .i64))) fs fv :: .box gm 3 [.int .i64 M] :: .box gc 3 [.int .i64 (IntKind.i64.wrap (C + 1))] :: .box go 55 [.map (some h)] :: .raw h (.map (mE (pairV .i64) (Value.int .i64) m2 0).toArray m2.length) :: .box gf 22 [fv] :: ob) ∧ 0 ≤ q ∧ q ≤ l.length ∧ oftU m2 (l.drop q.toNat) = oftU m1 l) (fun x : Int × (List (Join × Int)) => match x with | (q, m2) => (l.length - q).toNat) (0, m1) ⟨rfl, trivial⟩ ⟨hS, (by first | omega | simp), (by first | omega | simp), (rfl)⟩ ?_
        rintro ⟨q, m2⟩ u_199 w_198 ⟨hS, h0, h1, h2⟩
        refine W.seq ?_
        refine W.reg ?_
        refine Wx.rd (v := .bool (decide (q < (l.length : Int)))) (rd_lss rfl rfl) rfl ?_
        refine Wx.nil ?_
        refine W.seq ?_
        refine W.condD rfl (fun c7 => ?_) (fun c7 => ?_)
        · -- yes
          refine W.skip ?_
          refine W.seq ?_
          refine W.block ?_
          refine W.seq ?_
          refine W.reg ?_
          refine Wx.ex (rd_index (0, 0) (hS.v 0 rfl) rfl rfl Tryd.underlying22 Tryd.sizeOf58 (by first | omega | (simp only [List.length_set, List.length_append, List.length_cons, List.length_nil, List.length_replicate]; omega)) (by first | omega | (simp only [List.length_set, List.length_append, List.length_cons, List.length_nil, List.length_replicate]; omega))) rfl (fun p_200 hp_201 => ?_)
          refine Wx.ex (rd_load hp_201 rfl Tryd.isAgg58 Tryd.sizeOf58) rfl (fun v_202 hv_203 => ?_)
          obtain ⟨rfl, bd_204, bd_205⟩ := hv_203.i2
          have bd_204 := bd_i64 bd_204
          have bd_205 := bd_i64 bd_205
          refine Wx.alloc (cs := [.int .i64 0, .int .i64 0]) hS Tryd.zeroValue58 rfl rfl (fun g_206 w_207 hx_209 hb_208 hS => ?_)
          refine Wx.storeX (cs' := [.int .i64 ((ix (0, 0) l q).1), .int .i64 ((ix (0, 0) l q).2)]) (ds := [.int .i64 ((ix (0, 0) l q).1), .int .i64 ((ix (0, 0) l q).2)]) hS 0 rfl rfl rfl rfl Tryd.sizeOf58 (Nat.le_of_ble_eq_true rfl) (one_cons rfl (one_cons rfl one_nil)) rfl (fun w_210 hz_211 hS => ?_)
          refine Wx.nil ?_
          refine W.regP mixedHE_ (fun w_212 hx_213 => ?_)
          have hS := hS.ext hx_213
          refine Wp.br [0, 1] (by kernel_rfl) (by decide) ⟨⟨_, rfl, ?_⟩, ⟨_, rfl, ?_⟩, trivial⟩
          · -- operation 0
            refine Wx.rd (v := .map (some h)) (rd_loadX hS 5 rfl rfl rfl Tryd.isAgg55) rfl ?_
            refine Wx.nil ?_
            refine Wp.br [1] (by kernel_rfl) (by decide) ⟨⟨_, rfl, ?_⟩, trivial⟩
            refine Wx.rd (v := .agg #[.int .i64 ((ix (0, 0) l q).1), .int .i64 ((ix (0, 0) l q).2)]) (rd_loadXs (ds := [.int .i64 ((ix (0, 0) l q).1), .int .i64 ((ix (0, 0) l q).2)]) hS 0 rfl rfl rfl rfl Tryd.isAgg58 Tryd.sizeOf58) rfl ?_
            refine Wx.nil ?_
            refine Wp.br [2, 4] (by kernel_rfl) (by decide) ⟨⟨_, rfl, ?_⟩, ⟨_, rfl, ?_⟩, trivial⟩
            · -- operation 2
              refine Wx.rd (v := .int .i64 (mget 0 m2 ((ix (0, 0) l q).1, (ix (0, 0) l q).2))) (rd_lookup (m := m2) (zv := 0) (k := ((ix (0, 0) l q).1, (ix (0, 0) l q).2)) (f := (pairV .i64)) (g := (Value.int .i64)) hS 6 rfl rfl rfl Tryd.underlying55 (KeyD.pair Tryd.underlying58 Tryd.underlying3 Tryd.sizeOf3) (fun _ => Tryd.zeroValue3 _)) rfl ?_
              refine Wx.nil ?_
              refine Wp.rd (v := .int .i64 (IntKind.i64.wrap ((mget 0 m2 ((ix (0, 0) l q).1, (ix (0, 0) l q).2)) + 1))) 3 rfl (by kernel_rfl) (fun _ => (rd_addw rfl rfl)) rfl ?_
              refine Wp.br [4] (by kernel_rfl) (by decide) ⟨⟨_, rfl, ?_⟩, trivial⟩
              refine Wx.mapEntry (m := m2) (zv := 0) (k := ((ix (0, 0) l q).1, (ix (0, 0) l q).2)) (f := (pairV .i64)) (g := (Value.int .i64)) hS 6 rfl rfl rfl Tryd.underlying55 (KeyD.pair Tryd.underlying58 Tryd.underlying3 Tryd.sizeOf3) (fun _ => Tryd.zeroValue3 _) rfl (fun j_216 w_215 hz_219 hj_217 hl_218 hS => ?_)
              refine Wx.nil ?_
              refine Wp.rd (v := .int .i64 ((j_216 : Nat) : Int)) 5 rfl (by kernel_rfl) (fun _ => (rd_extract rfl rfl)) rfl ?_
              refine Wp.br [6] (by kernel_rfl) (by decide) ⟨⟨_, rfl, ?_⟩, trivial⟩
              refine Wx.entryStore (m := (mput m2 ((ix (0, 0) l q).1, (ix (0, 0) l q).2) (mget 0 m2 ((ix (0, 0) l q).1, (ix (0, 0) l q).2)))) (k := ((ix (0, 0) l q).1, (ix (0, 0) l q).2)) (v := (IntKind.i64.wrap ((mget 0 m2 ((ix (0, 0) l q).1, (ix (0, 0) l q).2)) + 1))) (f := (pairV .i64)) (g := (Value.int .i64)) hS 6 rfl rfl rfl rfl hj_217 hl_218 (fun w_220 hz_221 hS => ?_)
              refine Wx.nil ?_
              refine Wp.done (by kernel_rfl) ?_
              refine W.reg ?_
              refine Wx.rd (v := .int .i64 (q + 1)) (rd_add rfl rfl (in_i64 (by omega) (by omega))) rfl ?_
              refine Wx.rd (v := .int .i64 (q + 1)) (rd_move rfl) rfl ?_
              refine Wx.nil ?_
              refine ⟨(q + 1, mput (mput m2 ((ix (0, 0) l q).1, (ix (0, 0) l q).2) (mget 0 m2 ((ix (0, 0) l q).1, (ix (0, 0) l q).2))) ((ix (0, 0) l q).1, (ix (0, 0) l q).2) (IntKind.i64.wrap ((mget 0 m2 ((ix (0, 0) l q).1, (ix (0, 0) l q).2)) + 1))), (by show (l.length - (q + 1)).toNat < (l.length - q).toNat; omega), ?_, ?_, Out.look rfl Out.self⟩
              · exact ⟨hS.tl, (by first | omega | assumption), (by first | omega | assumption), (by first | exact oftU_next2 h0 (by assumption) h2 | exact oftU_next3 h0 (by assumption) h2 | exact oftU_next h0 (by assumption) h2)⟩
              · exact ⟨rfl, trivial⟩
            · -- operation 4
              refine Wx.mapEntry (m := m2) (zv := 0) (k := ((ix (0, 0) l q).1, (ix (0, 0) l q).2)) (f := (pairV .i64)) (g := (Value.int .i64)) hS 6 rfl rfl rfl Tryd.underlying55 (KeyD.pair Tryd.underlying58 Tryd.underlying3 Tryd.sizeOf3) (fun _ => Tryd.zeroValue3 _) rfl (fun j_223 w_222 hz_226 hj_224 hl_225 hS => ?_)
              refine Wx.nil ?_
              refine Wp.rd (v := .int .i64 ((j_223 : Nat) : Int)) 5 rfl (by kernel_rfl) (fun _ => (rd_extract rfl rfl)) rfl ?_
              refine Wp.br [2] (by kernel_rfl) (by decide) ⟨⟨_, rfl, ?_⟩, trivial⟩
              refine Wx.rd (v := .int .i64 (mget 0 (mput m2 ((ix (0, 0) l q).1, (ix (0, 0) l q).2) (mget 0 m2 ((ix (0, 0) l q).1, (ix (0, 0) l q).2))) ((ix (0, 0) l q).1, (ix (0, 0) l q).2))) (rd_lookup (m := (mput m2 ((ix (0, 0) l q).1, (ix (0, 0) l q).2) (mget 0 m2 ((ix (0, 0) l q).1, (ix (0, 0) l q).2)))) (zv := 0) (k := ((ix (0, 0) l q).1, (ix (0, 0) l q).2)) (f := (pairV .i64)) (g := (Value.int .i64)) hS 6 rfl rfl rfl Tryd.underlying55 (KeyD.pair Tryd.underlying58 Tryd.underlying3 Tryd.sizeOf3) (fun _ => Tryd.zeroValue3 _)) rfl ?_
              refine Wx.nil ?_
              refine Wp.rd (v := .int .i64 (IntKind.i64.wrap ((mget 0 (mput m2 ((ix (0, 0) l q).1, (ix (0, 0) l q).2) (mget 0 m2 ((ix (0, 0) l q).1, (ix (0, 0) l q).2))) ((ix (0, 0) l q).1, (ix (0, 0) l q).2)) + 1))) 3 rfl (by kernel_rfl) (fun _ => (rd_addw rfl rfl)) rfl ?_
              refine Wp.br [6] (by kernel_rfl) (by decide) ⟨⟨_, rfl, ?_⟩, trivial⟩
              refine Wx.entryStore (m := (mput m2 ((ix (0, 0) l q).1, (ix (0, 0) l q).2) (mget 0 m2 ((ix (0, 0) l q).1, (ix (0, 0) l q).2)))) (k := ((ix (0, 0) l q).1, (ix (0, 0) l q).2)) (v := (IntKind.i64.wrap ((mget 0 (mput m2 ((ix (0, 0) l q).1, (ix (0, 0) l q).2) (mget 0 m2 ((ix (0, 0) l q).1, (ix (0, 0) l q).2))) ((ix (0, 0) l q).1, (ix (0, 0) l q).2)) + 1))) (f := (pairV .i64)) (g := (Value.int .i64)) hS 6 rfl rfl rfl rfl hj_224 hl_225 (fun w_228 hz_229 hS => ?_)
              refine Wx.nil ?_
              refine Wp.done (by kernel_rfl) ?_
              refine W.reg ?_
              refine Wx.rd (v := .int .i64 (q + 1)) (rd_add rfl rfl (in_i64 (by omega) (by omega))) rfl ?_
              refine Wx.rd (v := .int .i64 (q + 1)) (rd_move rfl) rfl ?_
              refine Wx.nil ?_
              refine ⟨(q + 1, mput (mput m2 ((ix (0, 0) l q).1, (ix (0, 0) l q).2) (mget 0 m2 ((ix (0, 0) l q).1, (ix (0, 0) l q).2))) ((ix (0, 0) l q).1, (ix (0, 0) l q).2) (IntKind.i64.wrap ((mget 0 (mput m2 ((ix (0, 0) l q).1, (ix (0, 0) l q).2) (mget 0 m2 ((ix (0, 0) l q).1, (ix (0, 0) l q).2))) ((ix (0, 0) l q).1, (ix (0, 0) l q).2)) + 1))), (by show (l.length - (q + 1)).toNat < (l.length - q).toNat; omega), ?_, ?_, Out.look rfl Out.self⟩
              · exact ⟨hS.tl, (by first | omega | assumption), (by first | omega | assumption), (by first | exact oftU_next2 h0 (by assumption) h2 | exact oftU_next3 h0 (by assumption) h2 | exact oftU_next h0 (by assumption) h2)⟩
              · exact ⟨rfl, trivial⟩
          · -- operation 1
            refine Wx.rd (v := .agg #[.int .i64 ((ix (0, 0) l q).1), .int .i64 ((ix (0, 0) l q).2)]) (rd_loadXs (ds := [.int .i64 ((ix (0, 0) l q).1), .int .i64 ((ix (0, 0) l q).2)]) hS 0 rfl rfl rfl rfl Tryd.isAgg58 Tryd.sizeOf58) rfl ?_
            refine Wx.nil ?_
            refine Wp.br [0] (by kernel_rfl) (by decide) ⟨⟨_, rfl, ?_⟩, trivial⟩
            refine Wx.rd (v := .map (some h)) (rd_loadX hS 5 rfl rfl rfl Tryd.isAgg55) rfl ?_
            refine Wx.nil ?_
            refine Wp.br [2, 4] (by kernel_rfl) (by decide) ⟨⟨_, rfl, ?_⟩, ⟨_, rfl, ?_⟩, trivial⟩
            · -- operation 2
              refine Wx.rd (v := .int .i64 (mget 0 m2 ((ix (0, 0) l q).1, (ix (0, 0) l q).2))) (rd_lookup (m := m2) (zv := 0) (k := ((ix (0, 0) l q).1, (ix (0, 0) l q).2)) (f := (pairV .i64)) (g := (Value.int .i64)) hS 6 rfl rfl rfl Tryd.underlying55 (KeyD.pair Tryd.underlying58 Tryd.underlying3 Tryd.sizeOf3) (fun _ => Tryd.zeroValue3 _)) rfl ?_
              refine Wx.nil ?_
              refine Wp.rd (v := .int .i64 (IntKind.i64.wrap ((mget 0 m2 ((ix (0, 0) l q).1, (ix (0, 0) l q).2)) + 1))) 3 rfl (by kernel_rfl) (fun _ => (rd_addw rfl rfl)) rfl ?_
              refine Wp.br [4] (by kernel_rfl) (by decide) ⟨⟨_, rfl, ?_⟩, trivial⟩
              refine Wx.mapEntry (m := m2) (zv := 0) (k := ((ix (0, 0) l q).1, (ix (0, 0) l q).2)) (f := (pairV .i64)) (g := (Value.int .i64)) hS 6 rfl rfl rfl Tryd.underlying55 (KeyD.pair Tryd.underlying58 Tryd.underlying3 Tryd.sizeOf3) (fun _ => Tryd.zeroValue3 _) rfl (fun j_232 w_231 hz_235 hj_233 hl_234 hS => ?_)
              refine Wx.nil ?_
              refine Wp.rd (v := .int .i64 ((j_232 : Nat) : Int)) 5 rfl (by kernel_rfl) (fun _ => (rd_extract rfl rfl)) rfl ?_
              refine Wp.br [6] (by kernel_rfl) (by decide) ⟨⟨_, rfl, ?_⟩, trivial⟩
              refine Wx.entryStore (m := (mput m2 ((ix (0, 0) l q).1, (ix (0, 0) l q).2) (mget 0 m2 ((ix (0, 0) l q).1, (ix (0, 0) l q).2)))) (k := ((ix (0, 0) l q).1, (ix (0, 0) l q).2)) (v := (IntKind.i64.wrap ((mget 0 m2 ((ix (0, 0) l q).1, (ix (0, 0) l q).2)) + 1))) (f := (pairV .i64)) (g := (Value.int .i64)) hS 6 rfl rfl rfl rfl hj_233 hl_234 (fun w_236 hz_237 hS => ?_)
              refine Wx.nil ?_
              refine Wp.done (by kernel_rfl) ?_
              refine W.reg ?_
              refine Wx.rd (v := .int .i64 (q + 1)) (rd_add rfl rfl (in_i64 (by omega) (by omega))) rfl ?_
              refine Wx.rd (v := .int .i64 (q + 1)) (rd_move rfl) rfl ?_
              refine Wx.nil ?_
              refine ⟨(q + 1, mput (mput m2 ((ix (0, 0) l q).1, (ix (0, 0) l q).2) (mget 0 m2 ((ix (0, 0) l q).1, (ix (0, 0) l q).2))) ((ix (0, 0) l q).1, (ix (0, 0) l q).2) (IntKind.i64.wrap ((mget 0 m2 ((ix (0, 0) l q).1, (ix (0, 0) l q).2)) + 1))), (by show (l.length - (q + 1)).toNat < (l.length - q).toNat; omega), ?_, ?_, Out.look rfl Out.self⟩
              · exact ⟨hS.tl, (by first | omega | assumption), (by first | omega | assumption), (by first | exact oftU_next2 h0 (by assumption) h2 | exact oftU_next3 h0 (by assumption) h2 | exact oftU_next h0 (by assumption) h2)⟩
              · exact ⟨rfl, trivial⟩
            · -- operation 4
              refine Wx.mapEntry (m := m2) (zv := 0) (k := ((ix (0, 0) l q).1, (ix (0, 0) l q).2)) (f := (pairV .i64)) (g := (Value.int .i64)) hS 6 rfl rfl rfl Tryd.underlying55 (KeyD.pair Tryd.underlying58 Tryd.underlying3 Tryd.sizeOf3) (fun _ => Tryd.zeroValue3 _) rfl (fun j_239 w_238 hz_242 hj_240 hl_241 hS => ?_)
              refine Wx.nil ?_
              refine Wp.rd (v := .int .i64 ((j_239 : Nat) : Int)) 5 rfl (by kernel_rfl) (fun _ => (rd_extract rfl rfl)) rfl ?_
              refine Wp.br [2] (by kernel_rfl) (by decide) ⟨⟨_, rfl, ?_⟩, trivial⟩
              refine Wx.rd (v := .int .i64 (mget 0 (mput m2 ((ix (0, 0) l q).1, (ix (0, 0) l q).2) (mget 0 m2 ((ix (0, 0) l q).1, (ix (0, 0) l q).2))) ((ix (0, 0) l q).1, (ix (0, 0) l q).2))) (rd_lookup (m := (mput m2 ((ix (0, 0) l q).1, (ix (0, 0) l q).2) (mget 0 m2 ((ix (0, 0) l q).1, (ix (0, 0) l q).2)))) (zv := 0) (k := ((ix (0, 0) l q).1, (ix (0, 0) l q).2)) (f := (pairV .i64)) (g := (Value.int .i64)) hS 6 rfl rfl rfl Tryd.underlying55 (KeyD.pair Tryd.underlying58 Tryd.underlying3 Tryd.sizeOf3) (fun _ => Tryd.zeroValue3 _)) rfl ?_
              refine Wx.nil ?_
              refine Wp.rd (v := .int .i64 (IntKind.i64.wrap ((mget 0 (mput m2 ((ix (0, 0) l q).1, (ix (0, 0) l q).2) (mget 0 m2 ((ix (0, 0) l q).1, (ix (0, 0) l q).2))) ((ix (0, 0) l q).1, (ix (0, 0) l q).2)) + 1))) 3 rfl (by kernel_rfl) (fun _ => (rd_addw rfl rfl)) rfl ?_
              refine Wp.br [6] (by kernel_rfl) (by decide) ⟨⟨_, rfl, ?_⟩, trivial⟩
              refine Wx.entryStore (m := (mput m2 ((ix (0, 0) l q).1, (ix (0, 0) l q).2) (mget 0 m2 ((ix (0, 0) l q).1, (ix (0, 0) l q).2)))) (k := ((ix (0, 0) l q).1, (ix (0, 0) l q).2)) (v := (IntKind.i64.wrap ((mget 0 (mput m2 ((ix (0, 0) l q).1, (ix (0, 0) l q).2) (mget 0 m2 ((ix (0, 0) l q).1, (ix (0, 0) l q).2))) ((ix (0, 0) l q).1, (ix (0, 0) l q).2)) + 1))) (f := (pairV .i64)) (g := (Value.int .i64)) hS 6 rfl rfl rfl rfl hj_240 hl_241 (fun w_244 hz_245 hS => ?_)
              refine Wx.nil ?_
              refine Wp.done (by kernel_rfl) ?_
              refine W.reg ?_
              refine Wx.rd (v := .int .i64 (q + 1)) (rd_add rfl rfl (in_i64 (by omega) (by omega))) rfl ?_
              refine Wx.rd (v := .int .i64 (q + 1)) (rd_move rfl) rfl ?_
              refine Wx.nil ?_
              refine ⟨(q + 1, mput (mput m2 ((ix (0, 0) l q).1, (ix (0, 0) l q).2) (mget 0 m2 ((ix (0, 0) l q).1, (ix (0, 0) l q).2))) ((ix (0, 0) l q).1, (ix (0, 0) l q).2) (IntKind.i64.wrap ((mget 0 (mput m2 ((ix (0, 0) l q).1, (ix (0, 0) l q).2) (mget 0 m2 ((ix (0, 0) l q).1, (ix (0, 0) l q).2))) ((ix (0, 0) l q).1, (ix (0, 0) l q).2)) + 1))), (by show (l.length - (q + 1)).toNat < (l.length - q).toNat; omega), ?_, ?_, Out.look rfl Out.self⟩
              · exact ⟨hS.tl, (by first | omega | assumption), (by first | omega | assumption), (by first | exact oftU_next2 h0 (by assumption) h2 | exact oftU_next3 h0 (by assumption) h2 | exact oftU_next h0 (by assumption) h2)⟩
              · exact ⟨rfl, trivial⟩
        · -- no
          refine W.exit rfl ?_
          exact ⟨.tuple #[], ResIs.zero, rfl, _, _, by have e := oftU_end (by omega) h2; rw [hm1] at e; rw [stepA_no c0 c1 (by omega), ← e]; exact (St.tl hS)⟩
end Go.Proofs.YtokdjjebnomciaaDoor

namespace Go.Proofs.YtokdjjebnomciaaDoor
open Go.Wk Go.RowKit Go
set_option linter.unusedVariables false
theorem each50 {gm gc go gf : Nat} {R : List Ob} {a0 : Acc} : EachP Tryd.prog 50 [] [.pointer (some ⟨gm, 0, none⟩), .pointer (some ⟨gc, 0, none⟩), .pointer (some ⟨go, 0, none⟩), .pointer (some ⟨gf, 0, none⟩)]
    (fun ls ob => ∃ h fv, ob = Ob.v (tSl (tP (tI .i64) (tI .i64))) ((ls.foldl stepA a0).2.2.1) fv :: .box gm 3 [.int .i64 ((ls.foldl stepA a0).1)] :: .box gc 3 [.int .i64 ((ls.foldl stepA a0).2.1)] :: .box go 55 [.map (some h)] :: .raw h (.map (mE (pairV .i64) (Value.int .i64) ((ls.foldl stepA a0).2.2.2) 0).toArray ((ls.foldl stepA a0).2.2.2).length) :: .box gf 22 [fv] :: R) := by
  rintro ls l lv pre ob w0 w O hl ⟨h, fv, rfl⟩ hS hv
  have hP := St.pull (pre := pre) (A := [Ob.v (tSl (tP (tI .i64) (tI .i64))) ((ls.foldl stepA a0).2.2.1) fv, .box gm 3 [.int .i64 ((ls.foldl stepA a0).1)], .box gc 3 [.int .i64 ((ls.foldl stepA a0).2.1)], .box go 55 [.map (some h)], .raw h (.map (mE (pairV .i64) (Value.int .i64) ((ls.foldl stepA a0).2.2.2) 0).toArray ((ls.foldl stepA a0).2.2.2).length), .box gf 22 [fv]]) (R := R) hS
  have hV := V.pull (pre := pre) (A := [Ob.v (tSl (tP (tI .i64) (tI .i64))) ((ls.foldl stepA a0).2.2.1) fv, .box gm 3 [.int .i64 ((ls.foldl stepA a0).1)], .box gc 3 [.int .i64 ((ls.foldl stepA a0).2.1)], .box go 55 [.map (some h)], .raw h (.map (mE (pairV .i64) (Value.int .i64) ((ls.foldl stepA a0).2.2.2) 0).toArray ((ls.foldl stepA a0).2.2.2).length), .box gf 22 [fv]]) (R := R) hv
  refine (F50 (ob := pre ++ R) hl hP hV).mono ?_
  rintro e w' ⟨r, he, hr, h', fv', hS2⟩
  have e2 : (ls ++ [l]).foldl stepA a0 = stepA ((ls.foldl stepA a0).1, (ls.foldl stepA a0).2.1, (ls.foldl stepA a0).2.2.1, (ls.foldl stepA a0).2.2.2) l := by rw [List.foldl_append]; rfl
  refine ⟨r, he, hr, _, ⟨h', fv', rfl⟩, ?_⟩
  rw [e2]
  exact St.pull (pre := [Ob.v (tSl (tP (tI .i64) (tI .i64))) ((stepA ((ls.foldl stepA a0).1, (ls.foldl stepA a0).2.1, (ls.foldl stepA a0).2.2.1, (ls.foldl stepA a0).2.2.2) l).2.2.1) fv', .box gm 3 [.int .i64 ((stepA ((ls.foldl stepA a0).1, (ls.foldl stepA a0).2.1, (ls.foldl stepA a0).2.2.1, (ls.foldl stepA a0).2.2.2) l).1)], .box gc 3 [.int .i64 ((stepA ((ls.foldl stepA a0).1, (ls.foldl stepA a0).2.1, (ls.foldl stepA a0).2.2.1, (ls.foldl stepA a0).2.2.2) l).2.1)], .box go 55 [.map (some h')], .raw h' (.map (mE (pairV .i64) (Value.int .i64) ((stepA ((ls.foldl stepA a0).1, (ls.foldl stepA a0).2.1, (ls.foldl stepA a0).2.2.1, (ls.foldl stepA a0).2.2.2) l).2.2.2) 0).toArray ((stepA ((ls.foldl stepA a0).1, (ls.foldl stepA a0).2.1, (ls.foldl stepA a0).2.2.1, (ls.foldl stepA a0).2.2.2) l).2.2.2).length), .box gf 22 [fv']]) (A := pre) (R := R) hS2
end Go.Proofs.YtokdjjebnomciaaDoor

namespace Go.Proofs.YtokdjjebnomciaaDoor
open Go.Wk Go
set_option linter.unusedVariables false
theorem flat_perm {α β : Type} {f g : α → List β} : ∀ (l : List α), (∀ a ∈ l, (f a).Perm (g a)) → (l.flatMap f).Perm (l.flatMap g)
  | [], _ => .refl _
  | a :: l, h => by
    rw [List.flatMap_cons, List.flatMap_cons]
    exact (h a (by simp)).append (flat_perm l fun b hb => h b (List.mem_cons_of_mem _ hb))
theorem put_perm {s : ByteArray} : ∀ (m : Nat) (l : List Join) (i : Int), ((s.size : Int) - i).toNat = m → 0 ≤ i → i ≤ s.size → Plan (fitR s) 0 s.size l → (∀ x ∈ l, x.1 < i) → (putV s l i).Perm (PR (fitR s) s.size 0 l i)
  | m, l, i, hm, h0, h1, hP, hl => by
    have htail : tailR 0 l = [l] := if_pos (by omega)
    have hPR : ∀ k, k ≤ (s.size : Int) → PR (fitR s) s.size 0 l k = outR (fitR s) s.size 0 l k ++ [l] := fun k hk => by rw [PR_eq (by omega), htail]
    by_cases hi : (s.size : Int) ≤ i
    · rw [putV_end hi, hPR i h1, outR_end hi]; exact .refl _
    · cases m with
      | zero => omega
      | succ m =>
        have hi : i < (s.size : Int) := by omega
        rw [putV_next hi, hPR i h1, outR_next hi, List.append_assoc, ← hPR (i + 1) (by omega)]
        refine List.perm_append_comm.trans (List.Perm.append ?_ (put_perm m l (i + 1) (by omega) (by omega) (by omega) hP (fun x hx => by have := hl x hx; omega)))
        have hu : endsB l i = usedB l i := by
          refine bool_iff ?_
          rw [endsB, List.any_eq_true, used_mem]
          constructor
          · rintro ⟨x, hx, h⟩; exact ⟨x, hx, .inr (of_decide_eq_true h)⟩
          · rintro ⟨x, hx, h⟩
            have := hl x hx
            exact ⟨x, hx, decide_eq_true (by omega)⟩
        rw [hu]
        cases hb : usedB l i with
        | true => exact .refl _
        | false =>
          rw [if_neg (by decide), if_neg (by decide), putQ, inR]
          refine flat_perm _ fun j hj => ?_
          rw [rng_mem] at hj
          have hg : soundB s (l ++ [(i, j)]) = goesB (fitR s) l i j := by
            refine bool_iff ?_
            rw [sound_plan]
            constructor
            · intro hp
              obtain ⟨h2, h3, h4⟩ := plan_app hp
              obtain ⟨_, _, _, hf⟩ := h3.1 (i, j) (by simp)
              exact ((goes_apart (by omega) hl).2 ⟨hf, fun x hx => h4 x hx (i, j) (by simp)⟩).2
            · intro hq
              obtain ⟨hf, ha⟩ := (goes_apart (by omega) hl).1 ⟨hb, hq⟩
              exact plan_snoc hP h0 (by omega) (by omega) hf ha
          rw [hg]
          by_cases hq : goesB (fitR s) l i j = true
          · rw [if_pos hq, if_pos hq]
            obtain ⟨hf, ha⟩ := (goes_apart (by omega) hl).1 ⟨hb, hq⟩
            refine put_perm m _ (i + 1) (by omega) (by omega) (by omega) (plan_snoc hP h0 (by omega) (by omega) hf ha) fun x hx => ?_
            rcases List.mem_append.1 hx with hx | hx
            · have := hl x hx; omega
            · rw [List.mem_singleton] at hx; subst hx; show i < i + 1; omega
          · rw [if_neg hq, if_neg hq]
theorem put_plans (s : ByteArray) : (putV s [] 0).Perm (plansP (fitR s) 0 s.size) := by
  have h := put_perm (s := s) _ [] 0 rfl (Int.le_refl 0) (by omega) plan_nil (fun x hx => by cases hx)
  rw [PR_all (by omega)] at h
  rwa [List.filter_eq_self.2 (fun p hp => decide_eq_true (by omega))] at h

/-! ### the order -/
theorem cmpP_lt : ∀ {p q : List Join}, p.length = q.length → (cmpP p q < 0 ↔ ltP p q)
  | [], [], _ => by simp [cmpP, ltP]
  | [], _ :: _, h => by simp at h
  | _ :: _, [], h => by simp at h
  | a :: p, b :: q, h => by
    have ih := cmpP_lt (p := p) (q := q) (by simpa using h)
    have hlt : cmpJ a b < 0 ↔ ltJ a b := by rw [← ltB_iff, ltB, decide_eq_true_eq]
    have h0 : cmpJ a b = 0 ↔ a = b := by
      constructor
      · intro e
        rw [cmpJ, cmpI, cmpI] at e
        refine Prod.ext ?_ ?_ <;> (revert e; (repeat' split) <;> omega)
      · rintro rfl; rw [cmpJ, cmpI, cmpI, if_neg (Int.lt_irrefl _), if_neg (Int.lt_irrefl _), if_neg (Int.lt_irrefl _), if_neg (Int.lt_irrefl _)]; rfl
    rw [cmpP]
    show _ ↔ ltJ a b ∨ (a = b ∧ ltP p q)
    by_cases hc : cmpJ a b = 0
    · rw [if_neg (not_not_intro hc), ih]
      have := h0.1 hc
      subst this
      exact ⟨fun k => .inr ⟨rfl, k⟩, fun k => k.elim (fun k => absurd rfl k.ne) (·.2)⟩
    · rw [if_pos hc, hlt]
      exact ⟨.inl, fun k => k.elim id fun k => absurd (h0.2 k.1) hc⟩
theorem ltJ.trans {x y z : Join} (h : ltJ x y) (k : ltJ y z) : ltJ x z := by
  rcases h with h | h <;> rcases k with k | k <;> (simp only [ltJ]; omega)
theorem ltP.trans : ∀ {p q r : List Join}, ltP p q → ltP q r → ltP p r
  | [], _, _, h, _ => h.elim
  | _ :: _, [], _, _, k => k.elim
  | _ :: _, _ :: _, [], _, _ => trivial
  | x :: p, y :: q, z :: r, h, k => by
    rcases h with h | ⟨rfl, h⟩
    · rcases k with k | ⟨rfl, k⟩
      · exact .inl (h.trans k)
      · exact .inl h
    · rcases k with k | ⟨rfl, k⟩
      · exact .inl k
      · exact .inr ⟨rfl, ltP.trans h k⟩

/-! ### what is kept -/
theorem mget_oftU : ∀ (l : List Join) (m : List (Join × Int)) (x : Join), l.Nodup → mget 0 (oftU m l) x = if x ∈ l then IntKind.i64.wrap (mget 0 m x + 1) else mget 0 m x
  | [], m, x, _ => by rw [if_neg (by simp)]; rfl
  | y :: l, m, x, h => by
    obtain ⟨h1, h2⟩ := List.nodup_cons.1 h
    have ih := mget_oftU l (mput m y (IntKind.i64.wrap (mget 0 m y + 1))) x h2
    rw [mget_mput] at ih
    refine Eq.trans ih ?_
    by_cases hx : x = y
    · subst hx
      rw [if_neg h1, if_pos rfl, if_pos (by simp)]
    · rw [if_neg hx]
      by_cases hm : x ∈ l
      · rw [if_pos hm, if_pos (by simp [hm])]
      · rw [if_neg hm, if_neg (by simp [hx, hm])]
def grP (M : Int) (D : List (List Join)) : List (List Join) := D.filter fun p => decide ((p.length : Int) = M)
structure AccI (a : Acc) (D : List (List Join)) : Prop where
  m0 : 0 ≤ a.1
  em : D = [] → a.1 = 0
  le : ∀ p ∈ D, (p.length : Int) ≤ a.1
  cnt : a.2.1 = ((grP a.1 D).length : Int)
  fst : grP a.1 D ≠ [] → a.2.2.1 ∈ grP a.1 D ∧ ∀ p ∈ grP a.1 D, ¬ ltP p a.2.2.1
  ne : D ≠ [] → grP a.1 D ≠ []
  oft : ∀ x, mget 0 a.2.2.2 x = ((grP a.1 D).countP fun p => decide (x ∈ p) : Nat)
theorem gr_app (M : Int) (D : List (List Join)) (l : List Join) : grP M (D ++ [l]) = grP M D ++ if (l.length : Int) = M then [l] else [] := by
  rw [grP, List.filter_append, grP]
  by_cases h : (l.length : Int) = M
  · rw [if_pos h, List.filter_cons, if_pos (decide_eq_true h)]; rfl
  · rw [if_neg h, List.filter_cons, if_neg (by simpa using h)]; rfl
theorem wrap_one {z : Int} (h0 : 0 ≤ z) (h1 : z ≤ 1000000000) : IntKind.i64.wrap (z + 1) = z + 1 := wrap_in (in_i64 (by omega) (by omega))
theorem acc_step {a : Acc} {D : List (List Join)} {l : List Join} (h : AccI a D) (hD : (D.length : Int) ≤ 1000000000) (hl : l.Nodup) : AccI (stepA a l) (D ++ [l]) := by
  obtain ⟨M, C, f, m⟩ := a
  obtain ⟨m0, em, le, cnt, fst, ne, oft⟩ := h
  have em : D = [] → M = 0 := em
  have em2 : ∀ z : Int, D ++ [l] = [] → z = 0 := fun z e => by simp at e
  have m0 : 0 ≤ M := m0
  have le : ∀ p ∈ D, (p.length : Int) ≤ M := le
  have cnt : C = ((grP M D).length : Int) := cnt
  have fst : grP M D ≠ [] → f ∈ grP M D ∧ ∀ p ∈ grP M D, ¬ ltP p f := fst
  have ne : D ≠ [] → grP M D ≠ [] := ne
  have oft : ∀ x, mget 0 m x = ((grP M D).countP fun p => decide (x ∈ p) : Nat) := oft
  have hgl : (grP M D).length ≤ D.length := List.length_filter_le _ _
  by_cases h1 : (l.length : Int) < M
  · rw [stepA_lt h1]
    have hg : grP M (D ++ [l]) = grP M D := by rw [gr_app, if_neg (by omega), List.append_nil]
    refine ⟨m0, em2 _, fun p hp => ?_, by rw [hg]; exact cnt, by rw [hg]; exact fst, fun _ => ?_, by rw [hg]; exact oft⟩
    · rcases List.mem_append.1 hp with hp | hp
      · exact le p hp
      · rw [List.mem_singleton] at hp; subst hp; exact Int.le_of_lt h1
    · rw [hg]
      refine ne fun e => ?_
      have := em e
      omega
  · by_cases h2 : M < (l.length : Int)
    · rw [stepA_gt h1 h2]
      have h0 : grP (l.length : Int) D = [] := List.filter_eq_nil_iff.2 fun p hp => by have := le p hp; simp; omega
      have hg : grP (l.length : Int) (D ++ [l]) = [l] := by rw [gr_app, h0, if_pos rfl]; rfl
      refine ⟨by show 0 ≤ (l.length : Int); omega, em2 _, fun p hp => ?_, ?_, fun _ => ?_, fun _ => ?_, fun x => ?_⟩
      · show (p.length : Int) ≤ l.length
        rcases List.mem_append.1 hp with hp | hp
        · have := le p hp; omega
        · rw [List.mem_singleton] at hp; subst hp; exact Int.le_refl _
      · show IntKind.i64.wrap (0 + 1) = ((grP (l.length : Int) (D ++ [l])).length : Int)
        rw [hg, wrap_one (by decide) (by decide)]; rfl
      · show l ∈ grP (l.length : Int) (D ++ [l]) ∧ ∀ p ∈ grP (l.length : Int) (D ++ [l]), ¬ ltP p l
        rw [hg]
        exact ⟨by simp, fun p hp => by rw [List.mem_singleton] at hp; subst hp; exact fun k => k.ne rfl⟩
      · show grP (l.length : Int) (D ++ [l]) ≠ []
        rw [hg]; simp
      · show mget 0 (oftU [] l) x = ((grP (l.length : Int) (D ++ [l])).countP fun p => decide (x ∈ p) : Nat)
        rw [hg, mget_oftU l [] x hl, List.countP_singleton]
        have : mget (0 : Int) ([] : List (Join × Int)) x = 0 := rfl
        rw [this, wrap_one (by decide) (by decide)]
        by_cases hx : x ∈ l
        · rw [if_pos hx, if_pos (decide_eq_true hx)]; rfl
        · rw [if_neg hx, if_neg (by simpa using hx)]; rfl
    · have hM : (l.length : Int) = M := by omega
      have hg : grP M (D ++ [l]) = grP M D ++ [l] := by rw [gr_app, if_pos hM]
      have hle : ∀ p ∈ D ++ [l], (p.length : Int) ≤ M := fun p hp => by
        rcases List.mem_append.1 hp with hp | hp
        · exact le p hp
        · rw [List.mem_singleton] at hp; subst hp; omega
      have hcnt : IntKind.i64.wrap (C + 1) = ((grP M (D ++ [l])).length : Int) := by
        rw [wrap_one (by omega) (by omega), hg, List.length_append, List.length_singleton, cnt]; omega
      have hoft : ∀ x, mget 0 (oftU m l) x = ((grP M (D ++ [l])).countP fun p => decide (x ∈ p) : Nat) := fun x => by
        have hb : (grP M D).countP (fun p => decide (x ∈ p)) ≤ (grP M D).length := List.countP_le_length
        have ho := oft x
        rw [hg, mget_oftU l m x hl, List.countP_append, List.countP_singleton]
        by_cases hx : x ∈ l
        · rw [if_pos hx, if_pos (decide_eq_true hx), wrap_one (by omega) (by omega)]; omega
        · rw [if_neg hx, if_neg (by simpa using hx)]; omega
      have hlm : l ∈ grP M (D ++ [l]) := by rw [hg]; simp
      have hlen : ∀ p ∈ grP M D, (p.length : Int) = M := fun p hp => of_decide_eq_true (List.mem_filter.1 hp).2
      by_cases hc : C = 0 ∨ cmpP l f < 0
      · rw [stepA_yes h1 h2 hc]
        refine ⟨m0, em2 _, hle, hcnt, fun _ => ⟨hlm, fun p hp => ?_⟩, fun _ => by show grP M (D ++ [l]) ≠ []; rw [hg]; simp, hoft⟩
        show ¬ ltP p l
        have hp : p ∈ grP M (D ++ [l]) := hp
        rw [hg] at hp
        rcases List.mem_append.1 hp with hp | hp
        · have hne : grP M D ≠ [] := List.ne_nil_of_mem hp
          obtain ⟨f1, f2⟩ := fst hne
          intro k
          have hC : C ≠ 0 := by
            rw [cnt]
            have := List.length_pos_of_mem hp
            omega
          have hcl := hc.resolve_left hC
          have hfl := hlen f f1
          rw [cmpP_lt (by omega)] at hcl
          exact f2 p hp (k.trans hcl)
        · rw [List.mem_singleton] at hp; subst hp; exact fun k => k.ne rfl
      · rw [stepA_no h1 h2 hc]
        have hne : grP M D ≠ [] := fun e => hc (.inl (by rw [cnt, e]; rfl))
        obtain ⟨f1, f2⟩ := fst hne
        refine ⟨m0, em2 _, hle, hcnt, fun _ => ⟨by show f ∈ grP M (D ++ [l]); rw [hg]; exact List.mem_append_left _ f1, fun p hp => ?_⟩, fun _ => by show grP M (D ++ [l]) ≠ []; rw [hg]; simp, hoft⟩
        show ¬ ltP p f
        have hp : p ∈ grP M (D ++ [l]) := hp
        rw [hg] at hp
        rcases List.mem_append.1 hp with hp | hp
        · exact f2 p hp
        · rw [List.mem_singleton] at hp; subst hp
          intro k
          have hfl := hlen f f1
          exact hc (.inr ((cmpP_lt (by omega)).2 k))
theorem acc_fold (L : List (List Join)) : ∀ (a : Acc) (D : List (List Join)), AccI a D → (D.length : Int) + L.length ≤ 1000000000 → (∀ p ∈ L, p.Nodup) → AccI (L.foldl stepA a) (D ++ L) := by
  induction L with
  | nil => intro a D h _ _; rw [List.append_nil]; exact h
  | cons l L ih =>
    intro a D h hb hn
    rw [List.length_cons] at hb
    have e : D ++ l :: L = (D ++ [l]) ++ L := by rw [List.append_assoc]; rfl
    have h1 : AccI (stepA a l) (D ++ [l]) := acc_step h (by omega) (hn l (by simp))
    have h2 : ((D ++ [l]).length : Int) + L.length ≤ 1000000000 := by rw [List.length_append, List.length_singleton]; omega
    have h3 := ih (stepA a l) (D ++ [l]) h1 h2 (fun p hp => hn p (List.mem_cons_of_mem _ hp))
    rw [e, List.foldl_cons]
    exact h3
theorem acc_nil : AccI (0, 0, [], []) [] := ⟨Int.le_refl 0, fun _ => rfl, fun p hp => (by cases hp), rfl, fun h => absurd rfl h, fun h => absurd rfl h, fun x => rfl⟩
/-- How often a join is met in the greatest plans. -/
def metN (s : ByteArray) (x : Join) : Nat := (greatV s).countP fun p => decide (x ∈ p)
theorem listed_acc {s : ByteArray} (hs : (s.size : Int) ≤ 12) : ∃ m : List (Join × Int), (putV s [] 0).foldl stepA (0, 0, [], []) = ((allV s).1, (allV s).2, firstP (fitR s) 0 s.size, m) ∧ ∀ x, mget 0 m x = metN s x := by
  have hp := put_plans s
  have hlen : ((putV s [] 0).length : Int) ≤ 479001600 := by
    have := PR_bd (F := fitR s) (n := s.size) (least := 0) (begun := []) (frm := 0) (Int.le_refl 0) hs
    rw [PR_all (by omega), List.filter_eq_self.2 (fun p hp => decide_eq_true (by omega)), ← hp.length_eq] at this
    exact this
  have hplan : ∀ p ∈ putV s [] 0, Plan (fitR s) 0 s.size p := fun p h => mem_plans.1 (hp.mem_iff.1 h)
  have hA := acc_fold (putV s [] 0) _ [] acc_nil (by simp; omega) (fun p h => pair_nodup (hplan p h).2)
  rw [List.nil_append] at hA
  generalize (putV s [] 0).foldl stepA (0, 0, [], []) = a at hA ⊢
  obtain ⟨M, C, f, m⟩ := a
  obtain ⟨m0, em, le, cnt, fst, ne, oft⟩ := hA
  have le : ∀ p ∈ putV s [] 0, (p.length : Int) ≤ M := le
  have cnt : C = ((grP M (putV s [] 0)).length : Int) := cnt
  have fst : grP M (putV s [] 0) ≠ [] → f ∈ grP M (putV s [] 0) ∧ ∀ p ∈ grP M (putV s [] 0), ¬ ltP p f := fst
  have ne : putV s [] 0 ≠ [] → grP M (putV s [] 0) ≠ [] := ne
  have oft : ∀ x, mget 0 m x = ((grP M (putV s [] 0)).countP fun p => decide (x ∈ p) : Nat) := oft
  obtain ⟨⟨p, hp1, hp2⟩, hb, hc⟩ := all_best s
  have hpm := hp.mem_iff.2 hp1
  have hne := ne (List.ne_nil_of_mem hpm)
  obtain ⟨f1, f2⟩ := fst hne
  obtain ⟨f3, f4⟩ := List.mem_filter.1 f1
  have f4 : (f.length : Int) = M := of_decide_eq_true f4
  have hM : M = (allV s).1 := by
    have h1 := le p hpm
    have h2 := hb f (hp.mem_iff.1 f3)
    omega
  subst hM
  have hG : (grP (allV s).1 (putV s [] 0)).Perm (greatV s) := by rw [great_is]; exact hp.filter _
  have hff : f = firstP (fitR s) 0 s.size := by
    have hg := hG.mem_iff.1 f1
    have hfirst := hG.mem_iff.2 (great_mem s)
    have hh := great_head s
    have hsort : (greatV s).Pairwise ltP := (plans_sorted (fitR s) 0 s.size).filter _
    cases hq : greatV s with
    | nil => rw [hq] at hh; cases hh
    | cons x r =>
      rw [hq] at hh hg hsort
      obtain rfl := Option.some.inj hh
      rcases List.mem_cons.1 hg with e | e
      · exact e
      · exact absurd ((List.pairwise_cons.1 hsort).1 f e) (f2 _ hfirst)
  have hC : C = (allV s).2 := by rw [cnt, hG.length_eq, great_len]
  exact ⟨m, by rw [hff, hC], fun x => by rw [oft x, hG.countP_eq, metN]⟩

/-! ### the joins of all greatest plans -/
theorem met_all {s : ByteArray} {x : Join} : (metN s x : Int) = (allV s).2 ↔ ∀ p ∈ greatV s, x ∈ p := by
  rw [← great_len, metN]
  constructor
  · intro h p hp
    have h2 : (greatV s).countP (fun p => decide (x ∈ p)) = (greatV s).length := by omega
    exact of_decide_eq_true (List.countP_eq_length.1 h2 p hp)
  · intro h
    rw [List.countP_eq_length.2 fun p hp => decide_eq_true (h p hp)]
def oftB (s : ByteArray) (m : List (Join × Int)) (x : Join) : Bool := decide (mget 0 m x = (allV s).2)
theorem listed_forced {s : ByteArray} {m : List (Join × Int)} (h : ∀ x, mget 0 m x = metN s x) : (firstP (fitR s) 0 s.size).filter (oftB s m) = forcedR s := by
  rw [forcedR]
  refine List.filter_congr fun x hx => bool_iff ?_
  rw [oftB, decide_eq_true_eq, h x, met_all, List.all_eq_true]
  exact ⟨fun k p hp => hasB_iff.2 (k p hp), fun k p hp => hasB_iff.1 (k p hp)⟩
theorem first_plan (s : ByteArray) : Plan (fitR s) 0 s.size (firstP (fitR s) 0 s.size) := by
  have := great_mem s
  rw [great_is] at this
  exact mem_plans.1 (List.mem_filter.1 this).1
theorem great_size {s : ByteArray} {p : List Join} (h : p ∈ greatV s) : (p.length : Int) = (allV s).1 ∧ p.Nodup := by
  rw [great_is] at h
  obtain ⟨h1, h2⟩ := List.mem_filter.1 h
  exact ⟨of_decide_eq_true h2, pair_nodup (mem_plans.1 h1).2⟩
theorem first_valid {s : ByteArray} (h : rimE s = 0) : validE s (firstP (fitR s) 0 s.size) = 0 := (if_pos h).trans ((valid_plan _ [] plan_nil).2 (first_plan s))
theorem listed_last (s : ByteArray) : decide (((forcedR s).length : Int) = (allV s).1) = (decide ((allV s).2 = 1) || decide ((allV s).1 = 0)) := by
  have hF := great_size (great_mem s)
  have hle : (forcedR s).length ≤ (firstP (fitR s) 0 s.size).length := List.length_filter_le _ _
  refine bool_iff ?_
  rw [decide_eq_true_eq, Bool.or_eq_true, decide_eq_true_eq, decide_eq_true_eq]
  constructor
  · intro h
    left
    have hall := List.length_filter_eq_length_iff.1 (show ((firstP (fitR s) 0 s.size).filter fun x => (greatV s).all fun p => hasB p x).length = _ from by
      have : ((forcedR s).length : Int) = (firstP (fitR s) 0 s.size).length := by omega
      exact Int.ofNat.inj this)
    have heq : ∀ p ∈ greatV s, p = firstP (fitR s) 0 s.size := by
      intro p hp
      have hg := great_size hp
      have hsub : ∀ x ∈ firstP (fitR s) 0 s.size, x ∈ p := fun x hx => hasB_iff.1 (List.all_eq_true.1 (hall x hx) p hp)
      have hback : ∀ y ∈ p, y ∈ firstP (fitR s) 0 s.size := by
        intro y hy
        refine Classical.byContradiction fun hn => ?_
        have := List.Nodup.length_le_of_subset (List.nodup_cons.2 ⟨hn, hF.2⟩) (l₂ := p) (fun z hz => by
          rcases List.mem_cons.1 hz with rfl | hz
          · exact hy
          · exact hsub z hz)
        rw [List.length_cons] at this
        have h1 := hg.1
        have h2 := hF.1
        omega
      have hperm : p.Perm (firstP (fitR s) 0 s.size) := (List.perm_ext_iff_of_nodup hg.2 hF.2).2 fun a => ⟨hback a, hsub a⟩
      rw [great_is] at hp
      exact pair_perm (mem_plans.1 (List.mem_filter.1 hp).1).2 (first_plan s).2 hperm
    rw [← great_len]
    have hsort : (greatV s).Pairwise ltP := (plans_sorted (fitR s) 0 s.size).filter _
    have hm := great_mem s
    cases hq : greatV s with
    | nil => rw [hq] at hm; cases hm
    | cons x r =>
      cases r with
      | nil => rfl
      | cons y r =>
        rw [hq] at hsort heq
        have h1 := heq x (by simp)
        have h2 := heq y (by simp)
        have h3 := (List.pairwise_cons.1 hsort).1 y (by simp)
        exact absurd (h1.trans h2.symm) h3.ne
  · rintro (h | h)
    · have hm := great_mem s
      rw [← great_len] at h
      have : forcedR s = firstP (fitR s) 0 s.size := by
        rw [forcedR]
        refine List.filter_eq_self.2 fun x hx => ?_
        cases hq : greatV s with
        | nil => rw [hq] at hm; cases hm
        | cons y r =>
          rw [hq] at h hm
          have hr : r = [] := List.eq_nil_of_length_eq_zero (by rw [List.length_cons] at h; omega)
          subst hr
          rw [List.mem_singleton] at hm
          rw [List.all_cons, ← hm, hasB_iff.2 hx]; rfl
      rw [this]; exact hF.1
    · omega
end Go.Proofs.YtokdjjebnomciaaDoor

namespace Go.Proofs.YtokdjjebnomciaaDoor
open Go.Wk Go.RowKit Go.Lib
set_option linter.unusedVariables false
set_option linter.unusedSimpArgs false
theorem mixedHb_ : Tryd.prog.follows .mixedOrders = true := by kernel_rfl

theorem F17 {rim : ByteArray} {w : World} (s_rim : rim.size ≤ maxLen) : Calls Tryd.prog 17 #[.string rim] w (Ret w (fun r _ => r = .int .i64 (rimE rim))) := by
  have hS := St.start0 w
  refine enterR Tryd.func17 rfl Tryd.ntmps17 Tryd.results17 rfl ?_
  refine W.seq ?_
  refine W.reg ?_
  refine Wx.rd (v := .int .i64 0) (rd_assign rfl) rfl ?_
  refine Wx.nil ?_
  refine W.seq ?_
  refine W.seq ?_
  refine W.reg ?_
  refine Wx.rd (v := .string rim) (rd_move rfl) rfl ?_
  refine Wx.rd (v := .int .i64 (rim.size : Int)) (rd_lenS rfl Tryd.underlying9) rfl ?_
  refine Wx.rd (v := .bool (decide (12 < (rim.size : Int)))) (rd_gtr rfl rfl) rfl ?_
  refine Wx.nil ?_
  refine W.condD rfl (fun c0 => ?_) (fun c0 => ?_)
  · -- yes
    refine W.seq ?_
    refine W.reg ?_
    refine Wx.rd (v := .int .i64 3) (rd_assign rfl) rfl ?_
    refine Wx.nil ?_
    have e0_0 : (rimE rim) = (3 : Int) := by rw [rimE, if_pos c0]
    exact W.ret ⟨.int .i64 3, ResIs.one, hS.bel, (by rw [e0_0])⟩
  · -- no
    refine W.skip ?_
    refine W.seq ?_
    refine W.seq ?_
    refine W.reg ?_
    refine Wx.rd (v := .string rim) (rd_move rfl) rfl ?_
    refine Wx.rangeS (s := rim) hS rfl Tryd.underlying9 rfl (fun g_1 w_2 hx_3 hS => ?_)
    refine Wx.nil ?_
    refine W.block ?_
    refine W.loop [2, 4, 10, 11, 12, 13, 14, 15] (fun (p : Nat) => []) (fun (p : Nat) w' => St w [] w' [.raw g_1 (.stringIter rim p)] ∧ p ≤ rim.size ∧ (∀ q : Int, 0 ≤ q → q < p → isLet (tabAt rim q) = true)) (fun (p : Nat) => rim.size - p) 0 trivial ⟨hS, (Nat.zero_le _), (fun q q0 q1 => by omega)⟩ ?_
    rintro p u_5 w_4 ⟨hS, h1, h2⟩
    refine W.seq ?_
    refine W.reg ?_
    refine Wx.nextS hS 0 rfl rfl rfl (fun hn w_6 hz_7 hS => ?_) (fun hn => ?_)
    · -- a rune
      have hS : St _ _ w_6 [.raw g_1 (.stringIter rim (p + (runeW rim (p : Int)).toNat))] := hS
      have hrb := runeAt_bd rim (p : Int)
      refine Wx.rd (v := .bool true) (rd_extract rfl rfl) rfl ?_
      refine Wx.nil ?_
      refine W.seq ?_
      refine W.condT rfl rfl ?_
      refine W.skip ?_
      refine W.block ?_
      refine W.seq ?_
      refine W.reg ?_
      refine Wx.rd (v := .int .i32 (runeAt rim (p : Int))) (rd_extract rfl rfl) rfl ?_
      refine Wx.rd (v := .int .i32 (runeAt rim (p : Int))) (rd_assign rfl) rfl ?_
      refine Wx.nil ?_
      refine W.seq ?_
      refine W.reg ?_
      refine Wx.rd (v := .int .i32 (runeAt rim (p : Int))) (rd_move rfl) rfl ?_
      refine Wx.callF (run_callF Tryd.call59 rfl) (F59 (by first | assumption | (simp only [maxLen]; omega) | (simp only [ByteArray.size_extract, ByteArray.size_append, maxLen] at *; omega) | decide) (in_i32 (by omega) (by omega)) letS_asc (by decide) (by omega)) rfl ?_
      rintro r_9 w_10 hx_11 rfl
      have hS := hS.ext hx_11
      refine Wx.rd (v := .bool (!(hasRune letS (runeAt rim (p : Int))))) (rd_not rfl) rfl ?_
      refine Wx.nil ?_
      refine W.cond rfl (fun c2 => ?_) (fun c2 => ?_)
      · -- yes
        try simp only [Bool.and_eq_true, Bool.or_eq_true, Bool.not_eq_true', Bool.and_eq_false_iff, Bool.or_eq_false_iff, Bool.not_eq_false', decide_eq_true_eq, decide_eq_false_iff_not, not_or, Bool.false_eq_true, Bool.true_eq_false, false_or, or_false, not_false_eq_true] at c2
        have hnl := rune_not (s := rim) (p := (p : Int)) (by omega) c2
        refine W.seq ?_
        refine W.reg ?_
        refine Wx.rd (v := .int .i64 10) (rd_assign rfl) rfl ?_
        refine Wx.nil ?_
        have e1_0 : (rimE rim) = (10 : Int) := by exact rimE_bad (by omega) (by omega) hn hnl
        exact W.ret ⟨.int .i64 10, ResIs.one, hS.bel, (by rw [e1_0])⟩
      · -- no
        try simp only [Bool.and_eq_true, Bool.or_eq_true, Bool.not_eq_true', Bool.and_eq_false_iff, Bool.or_eq_false_iff, Bool.not_eq_false', decide_eq_true_eq, decide_eq_false_iff_not, not_or, Bool.false_eq_true, Bool.true_eq_false, false_or, or_false, not_false_eq_true] at c2
        have hle := rune_let (s := rim) (p := (p : Int)) (by omega) c2
        refine W.skip ?_
        refine ⟨p + (runeW rim (p : Int)).toNat, (by show rim.size - (p + (runeW rim (p : Int)).toNat) < rim.size - p; omega), ?_, ?_, Out.look rfl Out.self⟩
        · exact ⟨hS, (by omega), (fun q q0 q1 => by by_cases hq : q = (p : Int); (subst hq; exact hle.2); exact h2 q q0 (by omega))⟩
        · exact trivial
    · -- the end
      refine Wx.rd (v := .bool false) (rd_extract rfl rfl) rfl ?_
      refine Wx.nil ?_
      refine W.seq ?_
      refine W.condF rfl rfl ?_
      refine W.exit rfl ?_
      refine W.seq ?_
      refine W.reg ?_
      refine Wx.rd (v := .int .i64 0) (rd_assign rfl) rfl ?_
      refine Wx.nil ?_
      have e2_0 : (rimE rim) = (0 : Int) := by exact rimE_good (by omega) (fun q q0 q1 => h2 q q0 (by omega))
      exact W.ret ⟨.int .i64 0, ResIs.one, hS.bel, (by rw [e2_0])⟩

theorem F19 {rim : ByteArray} {lv : Value} {l : List (Int × Int)} {Fr_lv : List (Option Nat)} {w : World} (s_rim : rim.size ≤ maxLen) (h_lv : V (tSl (tP (tI .i64) (tI .i64))) l lv Fr_lv w) (hG : Laid w) : Calls Tryd.prog 19 #[.string rim, lv] w (Ret w (fun r _ => r = .int .i64 (validE rim l))) := by
  have a_lv := h_lv.any
  have l_lv := h_lv.len63
  have hS := St.start0 w
  refine enterR Tryd.func19 rfl Tryd.ntmps19 Tryd.results19 rfl ?_
  refine W.seq ?_
  refine W.reg ?_
  refine Wx.rd (v := .int .i64 0) (rd_assign rfl) rfl ?_
  refine Wx.nil ?_
  refine W.seq ?_
  refine W.seq ?_
  refine W.reg ?_
  refine Wx.rd (v := .string rim) (rd_move rfl) rfl ?_
  refine Wx.callF (run_callF Tryd.call17 rfl) (F17 (by first | assumption | (simp only [maxLen]; omega) | (simp only [ByteArray.size_extract, ByteArray.size_append, maxLen] at *; omega) | decide)) rfl ?_
  rintro r_1 w_2 hx_3 rfl
  have hS := hS.ext hx_3
  refine Wx.rd (v := .int .i64 (rimE rim)) (rd_assign rfl) rfl ?_
  refine Wx.nil ?_
  refine W.seq ?_
  refine W.reg ?_
  refine Wx.rd (v := .int .i64 (rimE rim)) (rd_move rfl) rfl ?_
  refine Wx.rd (v := .bool (decide ((rimE rim) ≠ 0))) (rd_neq rfl rfl) rfl ?_
  refine Wx.nil ?_
  refine W.condD rfl (fun c0 => ?_) (fun c0 => ?_)
  · -- yes
    refine W.seq ?_
    refine W.reg ?_
    refine Wx.rd (v := .int .i64 (rimE rim)) (rd_move rfl) rfl ?_
    refine Wx.rd (v := .int .i64 (rimE rim)) (rd_assign rfl) rfl ?_
    refine Wx.nil ?_
    have e0_0 : (validE rim l) = (rimE rim : Int) := by exact if_neg c0
    exact W.ret ⟨.int .i64 (rimE rim), ResIs.one, hS.bel, (by rw [e0_0])⟩
  · -- no
    have hr0 : rimE rim = 0 := by omega
    obtain ⟨hr1, hr2⟩ := rimE_ok hr0
    refine W.skip ?_
    refine W.seq ?_
    refine W.reg ?_
    refine Wx.alloc (cs := [.int .i64 0, .int .i64 0, .int .i64 0, .int .i64 0, .int .i64 0, .int .i64 0, .int .i64 0, .int .i64 0, .int .i64 0, .int .i64 0, .int .i64 0, .int .i64 0]) hS Tryd.zeroValue76 rfl rfl (fun g_4 w_5 hx_7 hb_6 hS => ?_)
    have hS : St _ _ w_5 [.box g_4 76 (List.map (Value.int .i64) (List.replicate 12 0))] := hS
    refine Wx.nil ?_
    refine W.seq ?_
    refine W.reg ?_
    refine Wx.rd (v := .int .i64 (-1)) (rd_assign rfl) rfl ?_
    refine Wx.nil ?_
    refine W.seq ?_
    refine W.seq ?_
    refine W.reg ?_
    refine Wx.rd (v := lv) (rd_move rfl) rfl ?_
    refine Wx.rd (v := .int .i64 (l.length : Int)) (rd_lenV rfl (hS.arg a_lv) Tryd.underlying22) rfl ?_
    refine Wx.rd (v := .int .i64 0) (rd_move rfl) rfl ?_
    refine Wx.nil ?_
    refine W.block ?_
    refine W.loop [4, 7, 9, 10, 11, 12, 20, 21, 22, 23, 24, 25, 26, 27, 28, 29, 30, 31, 32, 33, 34, 35, 36, 37, 38, 39, 40, 41, 42, 43, 44, 45, 46, 47, 48, 49, 50, 51, 52, 53, 54, 55, 56, 57, 58, 59, 60, 61, 62, 63, 64, 65, 66, 67, 68, 69, 70, 71, 72, 73, 74, 75, 76, 77, 78, 79, 80, 81, 82, 83, 84, 85, 86, 87, 88, 89, 90, 91, 92, 93, 94, 95, 96, 97, 98, 99, 100, 101] (fun x : Int × Int × (List Int) => match x with | (last, k, tb) => [(7, .int .i64 last), (20, .int .i64 k)]) (fun (x : Int × Int × (List Int)) w' => match x with | (last, k, tb) => St w [] w' [.box g_4 76 (List.map (Value.int .i64) tb)] ∧ 0 ≤ k ∧ k ≤ l.length ∧ validT rim (l.take k.toNat) (l.drop k.toNat) = validT rim [] l ∧ ToOK (l.take k.toNat) tb ∧ last = lastI (l.take k.toNat)) (fun x : Int × Int × (List Int) => match x with | (last, k, tb) => (l.length - k).toNat) (-1, 0, List.replicate 12 0) ⟨rfl, rfl, trivial⟩ ⟨hS, (by first | omega | simp), (by first | omega | simp), (by simp), (ToOK.nil), (rfl)⟩ ?_
    rintro ⟨last, k, tb⟩ u_9 w_8 ⟨hS, h0, h1, h2, h3, h4⟩
    have hl12 := h3.len
    refine W.seq ?_
    refine W.reg ?_
    refine Wx.rd (v := .bool (decide (k < (l.length : Int)))) (rd_lss rfl rfl) rfl ?_
    refine Wx.nil ?_
    refine W.seq ?_
    refine W.condD rfl (fun c1 => ?_) (fun c1 => ?_)
    · -- yes
      refine W.skip ?_
      refine W.seq ?_
      refine W.block ?_
      refine W.seq ?_
      refine W.reg ?_
      refine Wx.ex (rd_index (0, 0) (hS.arg a_lv) rfl rfl Tryd.underlying22 Tryd.sizeOf58 (by first | omega | (simp only [List.length_set, List.length_append, List.length_cons, List.length_nil, List.length_replicate]; omega)) (by first | omega | (simp only [List.length_set, List.length_append, List.length_cons, List.length_nil, List.length_replicate]; omega))) rfl (fun p_10 hp_11 => ?_)
      refine Wx.ex (rd_load hp_11 rfl Tryd.isAgg58 Tryd.sizeOf58) rfl (fun v_12 hv_13 => ?_)
      obtain ⟨rfl, bd_14, bd_15⟩ := hv_13.i2
      have bd_14 := bd_i64 bd_14
      have bd_15 := bd_i64 bd_15
      refine Wx.alloc (cs := [.int .i64 0, .int .i64 0]) hS Tryd.zeroValue58 rfl rfl (fun g_16 w_17 hx_19 hb_18 hS => ?_)
      refine Wx.storeX (cs' := [.int .i64 ((ix (0, 0) l k).1), .int .i64 ((ix (0, 0) l k).2)]) (ds := [.int .i64 ((ix (0, 0) l k).1), .int .i64 ((ix (0, 0) l k).2)]) hS 0 rfl rfl rfl rfl Tryd.sizeOf58 (Nat.le_of_ble_eq_true rfl) (one_cons rfl (one_cons rfl one_nil)) rfl (fun w_20 hz_21 hS => ?_)
      refine Wx.nil ?_
      refine W.seq ?_
      refine W.regQ mixedHb_ (by kernel_rfl) ?_
      refine Wx.rd (v := .pointer (some ⟨g_16, 0, none⟩)) (rd_indexArr (n := 0) rfl rfl Tryd.underlying58 Tryd.sizeOf3 (by decide) (by decide)) rfl ?_
      refine Wx.rd (v := .int .i64 ((ix (0, 0) l k).1)) (rd_loadX hS 0 rfl rfl rfl Tryd.isAgg3) rfl ?_
      refine Wx.rd (v := .pointer (some ⟨g_16, 1, none⟩)) (rd_indexArr (n := 1) rfl rfl Tryd.underlying58 Tryd.sizeOf3 (by decide) (by decide)) rfl ?_
      refine Wx.rd (v := .int .i64 ((ix (0, 0) l k).2)) (rd_loadX hS 0 rfl rfl rfl Tryd.isAgg3) rfl ?_
      refine Wx.rd (v := .int .i64 ((ix (0, 0) l k).1)) (rd_assign rfl) rfl ?_
      refine Wx.rd (v := .int .i64 ((ix (0, 0) l k).2)) (rd_assign rfl) rfl ?_
      refine Wx.nilQ (fun w_22 hx_23 => ?_)
      have hS := hS.ext hx_23
      refine W.seq ?_
      refine W.block ?_
      refine W.seq ?_
      refine W.reg ?_
      refine Wx.rd (v := .int .i64 ((ix (0, 0) l k).1)) (rd_move rfl) rfl ?_
      refine Wx.rd (v := .int .i64 ((ix (0, 0) l k).2)) (rd_move rfl) rfl ?_
      refine Wx.rd (v := .int .i64 (min ((ix (0, 0) l k).1) ((ix (0, 0) l k).2))) (rd_min rfl rfl) rfl ?_
      refine Wx.rd (v := .bool (decide ((min ((ix (0, 0) l k).1) ((ix (0, 0) l k).2)) < 0))) (rd_lss rfl rfl) rfl ?_
      refine Wx.rd (v := .bool (decide ((min ((ix (0, 0) l k).1) ((ix (0, 0) l k).2)) < 0))) (rd_move rfl) rfl ?_
      refine Wx.cut (X := Unit) 7 [34, 35, 36, 37, 38, 39, 40] (fun _ => [(40, .bool (decide ((min ((ix (0, 0) l k).1) ((ix (0, 0) l k).2)) < 0) || decide ((rim.size : Int) ≤ (max ((ix (0, 0) l k).1) ((ix (0, 0) l k).2)))))]) (fun _ w' => St w [] w' [.box g_16 58 [.int .i64 ((ix (0, 0) l k).1), .int .i64 ((ix (0, 0) l k).2)], .box g_4 76 (List.map (Value.int .i64) tb)]) ?_ ?_
      · rcases Bool.eq_false_or_eq_true (decide ((min ((ix (0, 0) l k).1) ((ix (0, 0) l k).2)) < 0)) with g_24 | g_24
        · -- True
          have gp_25 := of_decide_eq_true g_24
          refine Wx.gnoB rfl rfl (congrArg Value.bool g_24) rfl rfl ?_
          refine Wx.gnoB rfl rfl (congrArg Value.bool g_24) rfl rfl ?_
          refine Wx.gnoB rfl rfl (congrArg Value.bool g_24) rfl rfl ?_
          refine Wx.gnoB rfl rfl (congrArg Value.bool g_24) rfl rfl ?_
          refine Wx.gnoB rfl rfl (congrArg Value.bool g_24) rfl rfl ?_
          refine Wx.gnoB rfl rfl (congrArg Value.bool g_24) rfl rfl ?_
          refine Wx.rd (v := .bool true) (rd_pickT (congrArg Value.bool g_24) rfl) rfl ?_
          refine Wx.nil ⟨(), hS, ⟨?_, trivial⟩, Out.look rfl Out.refl⟩
          show Value.bool true = Value.bool (decide ((min ((ix (0, 0) l k).1) ((ix (0, 0) l k).2)) < 0) || decide ((rim.size : Int) ≤ (max ((ix (0, 0) l k).1) ((ix (0, 0) l k).2))))
          rw [g_24]; rfl
        · -- False
          have gp_26 := of_decide_eq_false g_24
          refine Wx.gyes rfl rfl (congrArg Value.bool g_24) ?_
          refine Wx.rd (v := .int .i64 ((ix (0, 0) l k).1)) (rd_move rfl) rfl ?_
          refine Wx.gyes rfl rfl (congrArg Value.bool g_24) ?_
          refine Wx.rd (v := .int .i64 ((ix (0, 0) l k).2)) (rd_move rfl) rfl ?_
          refine Wx.gyes rfl rfl (congrArg Value.bool g_24) ?_
          refine Wx.rd (v := .int .i64 (max ((ix (0, 0) l k).1) ((ix (0, 0) l k).2))) (rd_max rfl rfl) rfl ?_
          refine Wx.gyes rfl rfl (congrArg Value.bool g_24) ?_
          refine Wx.rd (v := .string rim) (rd_move rfl) rfl ?_
          refine Wx.gyes rfl rfl (congrArg Value.bool g_24) ?_
          refine Wx.rd (v := .int .i64 (rim.size : Int)) (rd_lenS rfl Tryd.underlying9) rfl ?_
          refine Wx.gyes rfl rfl (congrArg Value.bool g_24) ?_
          refine Wx.rd (v := .bool (decide ((rim.size : Int) ≤ (max ((ix (0, 0) l k).1) ((ix (0, 0) l k).2))))) (rd_geq rfl rfl) rfl ?_
          refine Wx.rd (v := .bool (decide ((rim.size : Int) ≤ (max ((ix (0, 0) l k).1) ((ix (0, 0) l k).2))))) (rd_pickF (congrArg Value.bool g_24) rfl) rfl ?_
          refine Wx.nil ⟨(), hS, ⟨?_, trivial⟩, Out.look rfl Out.refl⟩
          show Value.bool (decide ((rim.size : Int) ≤ (max ((ix (0, 0) l k).1) ((ix (0, 0) l k).2)))) = Value.bool (decide ((min ((ix (0, 0) l k).1) ((ix (0, 0) l k).2)) < 0) || decide ((rim.size : Int) ≤ (max ((ix (0, 0) l k).1) ((ix (0, 0) l k).2))))
          rw [g_24]; rfl
      rintro ⟨⟩ u_28 w_27 hS
      refine Wx.rd (v := .bool (decide ((min ((ix (0, 0) l k).1) ((ix (0, 0) l k).2)) < 0) || decide ((rim.size : Int) ≤ (max ((ix (0, 0) l k).1) ((ix (0, 0) l k).2))))) (rd_assign rfl) rfl ?_
      refine Wx.nil ?_
      refine W.cond rfl (fun c2 => ?_) (fun c2 => ?_)
      · -- yes
        try simp only [Bool.and_eq_true, Bool.or_eq_true, Bool.not_eq_true', Bool.and_eq_false_iff, Bool.or_eq_false_iff, Bool.not_eq_false', decide_eq_true_eq, decide_eq_false_iff_not, not_or, Bool.false_eq_true, Bool.true_eq_false, false_or, or_false, not_false_eq_true] at c2
        refine W.seq ?_
        refine W.reg ?_
        refine Wx.rd (v := .int .i64 2) (rd_assign rfl) rfl ?_
        refine Wx.nil ?_
        have e1_0 : (validE rim l) = (2 : Int) := by exact validT_bad h0 c1 h2 (badX_none (by omega)) (by decide) hr0
        exact W.ret ⟨.int .i64 2, ResIs.one, hS.bel, (by rw [e1_0])⟩
      · -- no
        try simp only [Bool.and_eq_true, Bool.or_eq_true, Bool.not_eq_true', Bool.and_eq_false_iff, Bool.or_eq_false_iff, Bool.not_eq_false', decide_eq_true_eq, decide_eq_false_iff_not, not_or, Bool.false_eq_true, Bool.true_eq_false, false_or, or_false, not_false_eq_true] at c2
        refine W.seq ?_
        refine W.reg ?_
        refine Wx.rd (v := .int .i64 ((ix (0, 0) l k).1)) (rd_move rfl) rfl ?_
        refine Wx.rd (v := .int .i64 ((ix (0, 0) l k).2)) (rd_move rfl) rfl ?_
        refine Wx.rd (v := .bool (decide (((ix (0, 0) l k).2) ≤ ((ix (0, 0) l k).1)))) (rd_geq rfl rfl) rfl ?_
        refine Wx.rd (v := .bool (decide (((ix (0, 0) l k).2) ≤ ((ix (0, 0) l k).1)))) (rd_assign rfl) rfl ?_
        refine Wx.nil ?_
        refine W.condD rfl (fun c3 => ?_) (fun c3 => ?_)
        · -- yes
          refine W.seq ?_
          refine W.reg ?_
          refine Wx.rd (v := .int .i64 7) (rd_assign rfl) rfl ?_
          refine Wx.nil ?_
          have e2_0 : (validE rim l) = (7 : Int) := by exact validT_bad h0 c1 h2 (badX_order ⟨by omega, by omega⟩ c3) (by decide) hr0
          exact W.ret ⟨.int .i64 7, ResIs.one, hS.bel, (by rw [e2_0])⟩
        · -- no
          have hx0 : 0 ≤ (ix (0, 0) l k).1 ∧ (ix (0, 0) l k).1 ≤ 11 ∧ 0 ≤ (ix (0, 0) l k).2 ∧ (ix (0, 0) l k).2 ≤ 11 := ⟨by omega, by omega, by omega, by omega⟩
          have hb1 := h3.bd (ix (0, 0) l k).1 (by omega) (by omega)
          have hb2 := h3.bd (ix (0, 0) l k).2 (by omega) (by omega)
          have hu1 := h3.used (q := (ix (0, 0) l k).1) (by omega) (by omega)
          have hu2 := h3.used (q := (ix (0, 0) l k).2) (by omega) (by omega)
          have hv1 := h3.free (q := (ix (0, 0) l k).1) (by omega) (by omega)
          have hv2 := h3.free (q := (ix (0, 0) l k).2) (by omega) (by omega)
          refine W.seq ?_
          refine W.reg ?_
          refine Wx.rd (v := .int .i64 ((ix (0, 0) l k).1)) (rd_move rfl) rfl ?_
          refine Wx.rd (v := .pointer (some ⟨g_4, 0 + ((ix (0, 0) l k).1).toNat * 1, none⟩)) (rd_indexArr rfl rfl Tryd.underlying76 Tryd.sizeOf3 (by omega) (by omega)) rfl ?_
          refine Wx.rd (v := .int .i64 (ix 0 tb ((ix (0, 0) l k).1))) (rd_loadXa (d := 0) (f := (Value.int .i64)) (j := ((ix (0, 0) l k).1)) hS 1 rfl rfl (by omega) (by omega) (by omega) Tryd.isAgg3) rfl ?_
          refine Wx.rd (v := .bool (decide (0 < (ix 0 tb ((ix (0, 0) l k).1))))) (rd_gtr rfl rfl) rfl ?_
          refine Wx.rd (v := .bool (decide (0 < (ix 0 tb ((ix (0, 0) l k).1))))) (rd_move rfl) rfl ?_
          refine Wx.cut (X := Unit) 5 [51, 52, 53, 54, 55] (fun _ => [(55, .bool (decide (0 < (ix 0 tb ((ix (0, 0) l k).1))) || decide (0 < (ix 0 tb ((ix (0, 0) l k).2)))))]) (fun _ w' => St w [] w' [.box g_16 58 [.int .i64 ((ix (0, 0) l k).1), .int .i64 ((ix (0, 0) l k).2)], .box g_4 76 (List.map (Value.int .i64) tb)]) ?_ ?_
          · rcases Bool.eq_false_or_eq_true (decide (0 < (ix 0 tb ((ix (0, 0) l k).1)))) with g_29 | g_29
            · -- True
              have gp_30 := of_decide_eq_true g_29
              refine Wx.gnoB rfl rfl (congrArg Value.bool g_29) rfl rfl ?_
              refine Wx.gnoB rfl rfl (congrArg Value.bool g_29) rfl rfl ?_
              refine Wx.gnoB rfl rfl (congrArg Value.bool g_29) rfl rfl ?_
              refine Wx.gnoB rfl rfl (congrArg Value.bool g_29) rfl rfl ?_
              refine Wx.rd (v := .bool true) (rd_pickT (congrArg Value.bool g_29) rfl) rfl ?_
              refine Wx.nil ⟨(), hS, ⟨?_, trivial⟩, Out.look rfl Out.refl⟩
              show Value.bool true = Value.bool (decide (0 < (ix 0 tb ((ix (0, 0) l k).1))) || decide (0 < (ix 0 tb ((ix (0, 0) l k).2))))
              rw [g_29]; rfl
            · -- False
              have gp_31 := of_decide_eq_false g_29
              refine Wx.gyes rfl rfl (congrArg Value.bool g_29) ?_
              refine Wx.rd (v := .int .i64 ((ix (0, 0) l k).2)) (rd_move rfl) rfl ?_
              refine Wx.gyes rfl rfl (congrArg Value.bool g_29) ?_
              refine Wx.rd (v := .pointer (some ⟨g_4, 0 + ((ix (0, 0) l k).2).toNat * 1, none⟩)) (rd_indexArr rfl rfl Tryd.underlying76 Tryd.sizeOf3 (by omega) (by omega)) rfl ?_
              refine Wx.gyes rfl rfl (congrArg Value.bool g_29) ?_
              refine Wx.rd (v := .int .i64 (ix 0 tb ((ix (0, 0) l k).2))) (rd_loadXa (d := 0) (f := (Value.int .i64)) (j := ((ix (0, 0) l k).2)) hS 1 rfl rfl (by omega) (by omega) (by omega) Tryd.isAgg3) rfl ?_
              refine Wx.gyes rfl rfl (congrArg Value.bool g_29) ?_
              refine Wx.rd (v := .bool (decide (0 < (ix 0 tb ((ix (0, 0) l k).2))))) (rd_gtr rfl rfl) rfl ?_
              refine Wx.rd (v := .bool (decide (0 < (ix 0 tb ((ix (0, 0) l k).2))))) (rd_pickF (congrArg Value.bool g_29) rfl) rfl ?_
              refine Wx.nil ⟨(), hS, ⟨?_, trivial⟩, Out.look rfl Out.refl⟩
              show Value.bool (decide (0 < (ix 0 tb ((ix (0, 0) l k).2)))) = Value.bool (decide (0 < (ix 0 tb ((ix (0, 0) l k).1))) || decide (0 < (ix 0 tb ((ix (0, 0) l k).2))))
              rw [g_29]; rfl
          rintro ⟨⟩ u_33 w_32 hS
          refine Wx.rd (v := .bool (decide (0 < (ix 0 tb ((ix (0, 0) l k).1))) || decide (0 < (ix 0 tb ((ix (0, 0) l k).2))))) (rd_assign rfl) rfl ?_
          refine Wx.nil ?_
          refine W.cond rfl (fun c4 => ?_) (fun c4 => ?_)
          · -- yes
            try simp only [Bool.and_eq_true, Bool.or_eq_true, Bool.not_eq_true', Bool.and_eq_false_iff, Bool.or_eq_false_iff, Bool.not_eq_false', decide_eq_true_eq, decide_eq_false_iff_not, not_or, Bool.false_eq_true, Bool.true_eq_false, false_or, or_false, not_false_eq_true] at c4
            refine W.seq ?_
            refine W.reg ?_
            refine Wx.rd (v := .int .i64 6) (rd_assign rfl) rfl ?_
            refine Wx.nil ?_
            have e3_0 : (validE rim l) = (6 : Int) := by exact validT_bad h0 c1 h2 (badX_twice ⟨by omega, by omega⟩ (by omega) (c4.imp hu1.1 hu2.1)) (by decide) hr0
            exact W.ret ⟨.int .i64 6, ResIs.one, hS.bel, (by rw [e3_0])⟩
          · -- no
            try simp only [Bool.and_eq_true, Bool.or_eq_true, Bool.not_eq_true', Bool.and_eq_false_iff, Bool.or_eq_false_iff, Bool.not_eq_false', decide_eq_true_eq, decide_eq_false_iff_not, not_or, Bool.false_eq_true, Bool.true_eq_false, false_or, or_false, not_false_eq_true] at c4
            refine W.seq ?_
            refine W.reg ?_
            refine Wx.rd (v := .string rim) (rd_move rfl) rfl ?_
            refine Wx.rd (v := .int .i64 ((ix (0, 0) l k).1)) (rd_move rfl) rfl ?_
            refine Wx.rd (v := .int .i64 ((ix (0, 0) l k).2)) (rd_move rfl) rfl ?_
            refine Wx.callF (run_callF Tryd.call61 rfl) (F61 (by first | assumption | (simp only [maxLen]; omega) | (simp only [ByteArray.size_extract, ByteArray.size_append, maxLen] at *; omega) | decide) (in_i64 (by omega) (by omega)) (in_i64 (by omega) (by omega)) (by omega) (by omega) (by omega) (by omega) (by omega) (hG.ext hS.bel)) rfl ?_
            rintro r_34 w_35 hx_36 rfl
            have hS := hS.ext hx_36
            refine Wx.rd (v := .bool (!(fitR rim ((ix (0, 0) l k).1) ((ix (0, 0) l k).2)))) (rd_not rfl) rfl ?_
            refine Wx.rd (v := .bool (!(fitR rim ((ix (0, 0) l k).1) ((ix (0, 0) l k).2)))) (rd_assign rfl) rfl ?_
            refine Wx.nil ?_
            refine W.cond rfl (fun c5 => ?_) (fun c5 => ?_)
            · -- yes
              try simp only [Bool.and_eq_true, Bool.or_eq_true, Bool.not_eq_true', Bool.and_eq_false_iff, Bool.or_eq_false_iff, Bool.not_eq_false', decide_eq_true_eq, decide_eq_false_iff_not, not_or, Bool.false_eq_true, Bool.true_eq_false, false_or, or_false, not_false_eq_true] at c5
              refine W.seq ?_
              refine W.reg ?_
              refine Wx.rd (v := .int .i64 13) (rd_assign rfl) rfl ?_
              refine Wx.nil ?_
              have e4_0 : (validE rim l) = (13 : Int) := by exact validT_bad h0 c1 h2 (badX_clash ⟨by omega, by omega⟩ (by omega) (hv1.2 c4.1) (hv2.2 c4.2) c5) (by decide) hr0
              exact W.ret ⟨.int .i64 13, ResIs.one, hS.bel, (by rw [e4_0])⟩
            · -- no
              try simp only [Bool.and_eq_true, Bool.or_eq_true, Bool.not_eq_true', Bool.and_eq_false_iff, Bool.or_eq_false_iff, Bool.not_eq_false', decide_eq_true_eq, decide_eq_false_iff_not, not_or, Bool.false_eq_true, Bool.true_eq_false, false_or, or_false, not_false_eq_true] at c5
              refine W.skip ?_
              refine W.seq ?_
              refine W.seq ?_
              refine W.reg ?_
              refine Wx.rd (v := .int .i64 ((ix (0, 0) l k).1)) (rd_move rfl) rfl ?_
              refine Wx.rd (v := .int .i64 (((ix (0, 0) l k).1) + 1)) (rd_add rfl rfl (in_i64 (by omega) (by omega))) rfl ?_
              refine Wx.rd (v := .int .i64 (((ix (0, 0) l k).1) + 1)) (rd_assign rfl) rfl ?_
              refine Wx.nil ?_
              refine W.block ?_
              refine W.loop [4, 12, 64, 65, 66, 67, 68, 69, 70, 71, 72, 73, 74, 75, 76, 77, 78, 79, 80, 81, 82, 83, 84, 85, 86, 87, 88] (fun (q : Int) => [(12, .int .i64 q)]) (fun (q : Int) w' => St w [] w' [.box g_16 58 [.int .i64 ((ix (0, 0) l k).1), .int .i64 ((ix (0, 0) l k).2)], .box g_4 76 (List.map (Value.int .i64) tb)] ∧ (ix (0, 0) l k).1 < q ∧ q ≤ (ix (0, 0) l k).2 ∧ (∀ r, (ix (0, 0) l k).1 < r → r < q → ¬ badQ tb (ix (0, 0) l k).1 (ix (0, 0) l k).2 r)) (fun (q : Int) => ((ix (0, 0) l k).2 - q).toNat) (((ix (0, 0) l k).1) + 1) ⟨rfl, trivial⟩ ⟨hS, (by first | omega | simp), (by first | omega | simp), (fun r r1 r2 => by omega)⟩ ?_
              rintro q u_38 w_37 ⟨hS, g0, g1, g2⟩
              refine W.seq ?_
              refine W.seq ?_
              refine W.reg ?_
              refine Wx.rd (v := .int .i64 q) (rd_move rfl) rfl ?_
              refine Wx.rd (v := .int .i64 ((ix (0, 0) l k).2)) (rd_move rfl) rfl ?_
              refine Wx.rd (v := .bool (decide (q < ((ix (0, 0) l k).2)))) (rd_lss rfl rfl) rfl ?_
              refine Wx.nil ?_
              refine W.condD rfl (fun c6 => ?_) (fun c6 => ?_)
              · -- yes
                have hbq := h3.bd q (by omega) (by omega)
                refine W.skip ?_
                refine W.seq ?_
                refine W.block ?_
                refine W.seq ?_
                refine W.reg ?_
                refine Wx.rd (v := .int .i64 q) (rd_move rfl) rfl ?_
                refine Wx.rd (v := .pointer (some ⟨g_4, 0 + q.toNat * 1, none⟩)) (rd_indexArr rfl rfl Tryd.underlying76 Tryd.sizeOf3 (by omega) (by omega)) rfl ?_
                refine Wx.rd (v := .int .i64 (ix 0 tb q)) (rd_loadXa (d := 0) (f := (Value.int .i64)) (j := q) hS 1 rfl rfl (by omega) (by omega) (by omega) Tryd.isAgg3) rfl ?_
                refine Wx.rd (v := .bool (decide (0 < (ix 0 tb q)))) (rd_gtr rfl rfl) rfl ?_
                refine Wx.rd (v := .bool (decide (0 < (ix 0 tb q)))) (rd_move rfl) rfl ?_
                refine Wx.cut (X := Unit) 15 [74, 75, 76, 77, 78, 79, 80, 81, 82, 83, 84, 85, 86, 87, 88] (fun _ => [(88, .bool (decide (0 < (ix 0 tb q)) && (decide (((ix 0 tb q) - 1) < ((ix (0, 0) l k).1)) || decide (((ix (0, 0) l k).2) < ((ix 0 tb q) - 1)))))]) (fun _ w' => St w [] w' [.box g_16 58 [.int .i64 ((ix (0, 0) l k).1), .int .i64 ((ix (0, 0) l k).2)], .box g_4 76 (List.map (Value.int .i64) tb)]) ?_ ?_
                · rcases Bool.eq_false_or_eq_true (decide (0 < (ix 0 tb q))) with g_39 | g_39
                  · -- True
                    have gp_40 := of_decide_eq_true g_39
                    refine Wx.gyes rfl rfl (congrArg Value.bool g_39) ?_
                    refine Wx.rd (v := .int .i64 q) (rd_move rfl) rfl ?_
                    refine Wx.gyes rfl rfl (congrArg Value.bool g_39) ?_
                    refine Wx.rd (v := .pointer (some ⟨g_4, 0 + q.toNat * 1, none⟩)) (rd_indexArr rfl rfl Tryd.underlying76 Tryd.sizeOf3 (by omega) (by omega)) rfl ?_
                    refine Wx.gyes rfl rfl (congrArg Value.bool g_39) ?_
                    refine Wx.rd (v := .int .i64 (ix 0 tb q)) (rd_loadXa (d := 0) (f := (Value.int .i64)) (j := q) hS 1 rfl rfl (by omega) (by omega) (by omega) Tryd.isAgg3) rfl ?_
                    refine Wx.gyes rfl rfl (congrArg Value.bool g_39) ?_
                    refine Wx.rd (v := .int .i64 ((ix 0 tb q) - 1)) (rd_sub rfl rfl (in_i64 (by omega) (by omega))) rfl ?_
                    refine Wx.gyes rfl rfl (congrArg Value.bool g_39) ?_
                    refine Wx.rd (v := .int .i64 ((ix (0, 0) l k).1)) (rd_move rfl) rfl ?_
                    refine Wx.gyes rfl rfl (congrArg Value.bool g_39) ?_
                    refine Wx.rd (v := .bool (decide (((ix 0 tb q) - 1) < ((ix (0, 0) l k).1)))) (rd_lss rfl rfl) rfl ?_
                    refine Wx.gyes rfl rfl (congrArg Value.bool g_39) ?_
                    refine Wx.rd (v := .bool (decide (((ix 0 tb q) - 1) < ((ix (0, 0) l k).1)))) (rd_move rfl) rfl ?_
                    refine Wx.cut (X := Unit) 7 [81, 82, 83, 84, 85, 86, 87] (fun _ => [(87, .bool (decide (((ix 0 tb q) - 1) < ((ix (0, 0) l k).1)) || decide (((ix (0, 0) l k).2) < ((ix 0 tb q) - 1))))]) (fun _ w' => St w [] w' [.box g_16 58 [.int .i64 ((ix (0, 0) l k).1), .int .i64 ((ix (0, 0) l k).2)], .box g_4 76 (List.map (Value.int .i64) tb)]) ?_ ?_
                    · rcases Bool.eq_false_or_eq_true (decide (((ix 0 tb q) - 1) < ((ix (0, 0) l k).1))) with g_41 | g_41
                      · -- True
                        have gp_42 := of_decide_eq_true g_41
                        refine Wx.gnoB rfl rfl (congrArg Value.bool g_41) rfl rfl ?_
                        refine Wx.gnoB rfl rfl (congrArg Value.bool g_41) rfl rfl ?_
                        refine Wx.gnoB rfl rfl (congrArg Value.bool g_41) rfl rfl ?_
                        refine Wx.gnoB rfl rfl (congrArg Value.bool g_41) rfl rfl ?_
                        refine Wx.gnoB rfl rfl (congrArg Value.bool g_41) rfl rfl ?_
                        refine Wx.gnoB rfl rfl (congrArg Value.bool g_41) rfl rfl ?_
                        refine Wx.gyes rfl rfl (congrArg Value.bool g_39) ?_
                        refine Wx.rd (v := .bool true) (rd_pickT (congrArg Value.bool g_41) rfl) rfl ?_
                        refine Wx.nil ⟨(), hS, ⟨?_, trivial⟩, Out.look rfl Out.refl⟩
                        show Value.bool true = Value.bool (decide (((ix 0 tb q) - 1) < ((ix (0, 0) l k).1)) || decide (((ix (0, 0) l k).2) < ((ix 0 tb q) - 1)))
                        rw [g_41]; rfl
                      · -- False
                        have gp_43 := of_decide_eq_false g_41
                        refine Wx.gyes rfl rfl (congrArg Value.bool g_41) ?_
                        refine Wx.rd (v := .int .i64 q) (rd_move rfl) rfl ?_
                        refine Wx.gyes rfl rfl (congrArg Value.bool g_41) ?_
                        refine Wx.rd (v := .pointer (some ⟨g_4, 0 + q.toNat * 1, none⟩)) (rd_indexArr rfl rfl Tryd.underlying76 Tryd.sizeOf3 (by omega) (by omega)) rfl ?_
                        refine Wx.gyes rfl rfl (congrArg Value.bool g_41) ?_
                        refine Wx.rd (v := .int .i64 (ix 0 tb q)) (rd_loadXa (d := 0) (f := (Value.int .i64)) (j := q) hS 1 rfl rfl (by omega) (by omega) (by omega) Tryd.isAgg3) rfl ?_
                        refine Wx.gyes rfl rfl (congrArg Value.bool g_41) ?_
                        refine Wx.rd (v := .int .i64 ((ix 0 tb q) - 1)) (rd_sub rfl rfl (in_i64 (by omega) (by omega))) rfl ?_
                        refine Wx.gyes rfl rfl (congrArg Value.bool g_41) ?_
                        refine Wx.rd (v := .int .i64 ((ix (0, 0) l k).2)) (rd_move rfl) rfl ?_
                        refine Wx.gyes rfl rfl (congrArg Value.bool g_41) ?_
                        refine Wx.rd (v := .bool (decide (((ix (0, 0) l k).2) < ((ix 0 tb q) - 1)))) (rd_gtr rfl rfl) rfl ?_
                        refine Wx.gyes rfl rfl (congrArg Value.bool g_39) ?_
                        refine Wx.rd (v := .bool (decide (((ix (0, 0) l k).2) < ((ix 0 tb q) - 1)))) (rd_pickF (congrArg Value.bool g_41) rfl) rfl ?_
                        refine Wx.nil ⟨(), hS, ⟨?_, trivial⟩, Out.look rfl Out.refl⟩
                        show Value.bool (decide (((ix (0, 0) l k).2) < ((ix 0 tb q) - 1))) = Value.bool (decide (((ix 0 tb q) - 1) < ((ix (0, 0) l k).1)) || decide (((ix (0, 0) l k).2) < ((ix 0 tb q) - 1)))
                        rw [g_41]; rfl
                    rintro ⟨⟩ u_45 w_44 hS
                    refine Wx.rd (v := .bool (decide (((ix 0 tb q) - 1) < ((ix (0, 0) l k).1)) || decide (((ix (0, 0) l k).2) < ((ix 0 tb q) - 1)))) (rd_pickT (congrArg Value.bool g_39) rfl) rfl ?_
                    refine Wx.nil ⟨(), hS, ⟨?_, trivial⟩, Out.look rfl (Out.hav rfl (Out.look rfl Out.refl))⟩
                    show Value.bool (decide (((ix 0 tb q) - 1) < ((ix (0, 0) l k).1)) || decide (((ix (0, 0) l k).2) < ((ix 0 tb q) - 1))) = Value.bool (decide (0 < (ix 0 tb q)) && (decide (((ix 0 tb q) - 1) < ((ix (0, 0) l k).1)) || decide (((ix (0, 0) l k).2) < ((ix 0 tb q) - 1))))
                    rw [g_39]; rfl
                  · -- False
                    have gp_46 := of_decide_eq_false g_39
                    refine Wx.gnoB rfl rfl (congrArg Value.bool g_39) rfl rfl ?_
                    refine Wx.gnoB rfl rfl (congrArg Value.bool g_39) rfl rfl ?_
                    refine Wx.gnoB rfl rfl (congrArg Value.bool g_39) rfl rfl ?_
                    refine Wx.gnoB rfl rfl (congrArg Value.bool g_39) rfl rfl ?_
                    refine Wx.gnoB rfl rfl (congrArg Value.bool g_39) rfl rfl ?_
                    refine Wx.gnoB rfl rfl (congrArg Value.bool g_39) rfl rfl ?_
                    refine Wx.gnoB rfl rfl (congrArg Value.bool g_39) rfl rfl ?_
                    refine Wx.gno rfl rfl rfl rfl ?_
                    refine Wx.gno rfl rfl rfl rfl ?_
                    refine Wx.gno rfl rfl rfl rfl ?_
                    refine Wx.gno rfl rfl rfl rfl ?_
                    refine Wx.gno rfl rfl rfl rfl ?_
                    refine Wx.gno rfl rfl rfl rfl ?_
                    refine Wx.gnoB rfl rfl (congrArg Value.bool g_39) rfl rfl ?_
                    refine Wx.rd (v := .bool false) (rd_pickF (congrArg Value.bool g_39) rfl) rfl ?_
                    refine Wx.nil ⟨(), hS, ⟨?_, trivial⟩, Out.look rfl Out.refl⟩
                    show Value.bool false = Value.bool (decide (0 < (ix 0 tb q)) && (decide (((ix 0 tb q) - 1) < ((ix (0, 0) l k).1)) || decide (((ix (0, 0) l k).2) < ((ix 0 tb q) - 1))))
                    rw [g_39]; rfl
                rintro ⟨⟩ u_48 w_47 hS
                refine Wx.nil ?_
                refine W.cond rfl (fun c7 => ?_) (fun c7 => ?_)
                · -- yes
                  try simp only [Bool.and_eq_true, Bool.or_eq_true, Bool.not_eq_true', Bool.and_eq_false_iff, Bool.or_eq_false_iff, Bool.not_eq_false', decide_eq_true_eq, decide_eq_false_iff_not, not_or, Bool.false_eq_true, Bool.true_eq_false, false_or, or_false, not_false_eq_true] at c7
                  refine W.seq ?_
                  refine W.reg ?_
                  refine Wx.rd (v := .int .i64 5) (rd_assign rfl) rfl ?_
                  refine Wx.nil ?_
                  have e5_0 : (validE rim l) = (5 : Int) := by exact validT_bad h0 c1 h2 (badX_shape ⟨by omega, by omega⟩ (by omega) (hv1.2 c4.1) (hv2.2 c4.2) c5 (h3.cross (i := (ix (0, 0) l k).1) (j := (ix (0, 0) l k).2) (by omega) (by omega) c6 (by omega) c7)) (by decide) hr0
                  exact W.ret ⟨.int .i64 5, ResIs.one, hS.bel, (by rw [e5_0])⟩
                · -- no
                  try simp only [Bool.and_eq_true, Bool.or_eq_true, Bool.not_eq_true', Bool.and_eq_false_iff, Bool.or_eq_false_iff, Bool.not_eq_false', decide_eq_true_eq, decide_eq_false_iff_not, not_or, Bool.false_eq_true, Bool.true_eq_false, false_or, or_false, not_false_eq_true] at c7
                  refine W.skip ?_
                  refine W.reg ?_
                  refine Wx.rd (v := .int .i64 q) (rd_move rfl) rfl ?_
                  refine Wx.rd (v := .int .i64 (q + 1)) (rd_add rfl rfl (in_i64 (by omega) (by omega))) rfl ?_
                  refine Wx.rd (v := .int .i64 (q + 1)) (rd_assign rfl) rfl ?_
                  refine Wx.nil ?_
                  refine ⟨q + 1, (by show ((ix (0, 0) l k).2 - (q + 1)).toNat < ((ix (0, 0) l k).2 - q).toNat; omega), ?_, ?_, Out.look rfl (Out.hav rfl (Out.look rfl Out.self))⟩
                  · exact ⟨hS, (by first | omega | assumption), (by first | omega | assumption), (fun r r1 r2 => by by_cases hq : r = q; (subst hq; exact fun hb => by have := hb.1; have := hb.2; omega); exact g2 r r1 (by omega))⟩
                  · exact ⟨rfl, trivial⟩
              · -- no
                have hap := h3.apart (i := (ix (0, 0) l k).1) (j := (ix (0, 0) l k).2) (by omega) (by omega) (by omega) (hv1.2 c4.1) (hv2.2 c4.2) (fun r r1 r2 => g2 r r1 (by omega))
                refine W.exit rfl ?_
                refine W.seq ?_
                refine W.seq ?_
                refine W.reg ?_
                refine Wx.rd (v := .int .i64 ((ix (0, 0) l k).1)) (rd_move rfl) rfl ?_
                refine Wx.rd (v := .int .i64 last) (rd_move rfl) rfl ?_
                refine Wx.rd (v := .bool (decide (((ix (0, 0) l k).1) < last))) (rd_lss rfl rfl) rfl ?_
                refine Wx.nil ?_
                refine W.condD rfl (fun c8 => ?_) (fun c8 => ?_)
                · -- yes
                  refine W.seq ?_
                  refine W.reg ?_
                  refine Wx.rd (v := .int .i64 7) (rd_assign rfl) rfl ?_
                  refine Wx.nil ?_
                  have e6_0 : (validE rim l) = (7 : Int) := by exact validT_bad h0 c1 h2 (badX_late ⟨by omega, by omega⟩ (by omega) (hv1.2 c4.1) (hv2.2 c4.2) c5 hap (by omega)) (by decide) hr0
                  exact W.ret ⟨.int .i64 7, ResIs.one, hS.bel, (by rw [e6_0])⟩
                · -- no
                  refine W.skip ?_
                  refine W.reg ?_
                  refine Wx.rd (v := .int .i64 ((ix (0, 0) l k).1)) (rd_move rfl) rfl ?_
                  refine Wx.rd (v := .int .i64 ((ix (0, 0) l k).2)) (rd_move rfl) rfl ?_
                  refine Wx.rd (v := .int .i64 ((ix (0, 0) l k).2)) (rd_move rfl) rfl ?_
                  refine Wx.rd (v := .int .i64 (((ix (0, 0) l k).2) + 1)) (rd_add rfl rfl (in_i64 (by omega) (by omega))) rfl ?_
                  refine Wx.rd (v := .int .i64 ((ix (0, 0) l k).1)) (rd_move rfl) rfl ?_
                  refine Wx.rd (v := .int .i64 (((ix (0, 0) l k).1) + 1)) (rd_add rfl rfl (in_i64 (by omega) (by omega))) rfl ?_
                  refine Wx.rd (v := .int .i64 ((ix (0, 0) l k).1)) (rd_move rfl) rfl ?_
                  refine Wx.rd (v := .pointer (some ⟨g_4, 0 + ((ix (0, 0) l k).1).toNat * 1, none⟩)) (rd_indexArr rfl rfl Tryd.underlying76 Tryd.sizeOf3 (by omega) (by omega)) rfl ?_
                  refine Wx.storeXa (j := ((ix (0, 0) l k).1)) (f := (Value.int .i64)) (u := (((ix (0, 0) l k).2) + 1)) hS 1 rfl rfl (by omega) rfl rfl rfl Tryd.sizeOf3 (by omega) (by omega) (fun w_49 hz_50 hS => ?_)
                  refine Wx.rd (v := .pointer (some ⟨g_4, 0 + ((ix (0, 0) l k).2).toNat * 1, none⟩)) (rd_indexArr rfl rfl Tryd.underlying76 Tryd.sizeOf3 (by omega) (by omega)) rfl ?_
                  refine Wx.storeXa (j := ((ix (0, 0) l k).2)) (f := (Value.int .i64)) (u := (((ix (0, 0) l k).1) + 1)) hS 1 rfl rfl (by omega) rfl rfl rfl Tryd.sizeOf3 (by omega) (by rw [List.length_set]; omega) (fun w_51 hz_52 hS => ?_)
                  refine Wx.rd (v := .int .i64 ((ix (0, 0) l k).1)) (rd_assign rfl) rfl ?_
                  refine Wx.nil ?_
                  refine W.reg ?_
                  refine Wx.rd (v := .int .i64 (k + 1)) (rd_add rfl rfl (in_i64 (by omega) (by omega))) rfl ?_
                  refine Wx.rd (v := .int .i64 (k + 1)) (rd_move rfl) rfl ?_
                  refine Wx.nil ?_
                  refine ⟨((ix (0, 0) l k).1, k + 1, List.set (List.set tb ((ix (0, 0) l k).1).toNat (((ix (0, 0) l k).2) + 1)) ((ix (0, 0) l k).2).toNat (((ix (0, 0) l k).1) + 1)), (by show (l.length - (k + 1)).toNat < (l.length - k).toNat; omega), ?_, ?_, Out.look rfl (Out.hav rfl (Out.look rfl (Out.hav rfl (Out.look rfl (Out.hav rfl (Out.look rfl Out.self))))))⟩
                  · exact ⟨hS.tl, (by first | omega | assumption), (by first | omega | assumption), (validT_good h0 c1 h2 (badX_good ⟨by omega, by omega⟩ (by omega) (hv1.2 c4.1) (hv2.2 c4.2) c5 hap (by omega))), (by rw [take_ix (d := (0, 0)) h0 c1]; exact h3.push (i := (ix (0, 0) l k).1) (j := (ix (0, 0) l k).2) (by omega) (by omega) (by omega) (hv1.2 c4.1) (hv2.2 c4.2)), ((lastI_next h0 c1).symm)⟩
                  · exact ⟨rfl, rfl, trivial⟩
    · -- no
      refine W.exit rfl ?_
      refine W.seq ?_
      refine W.reg ?_
      refine Wx.rd (v := .int .i64 0) (rd_assign rfl) rfl ?_
      refine Wx.nil ?_
      have e7_0 : (validE rim l) = (0 : Int) := by exact validT_end (by omega) h2 hr0
      exact W.ret ⟨.int .i64 0, ResIs.one, hS.bel, (by rw [e7_0])⟩
end Go.Proofs.YtokdjjebnomciaaDoor

namespace Go.Proofs.YtokdjjebnomciaaDoor
open Go.Wk Go.RowKit Go.Lib
set_option linter.unusedVariables false
set_option linter.unusedSimpArgs false
end Go.Proofs.YtokdjjebnomciaaDoor

namespace Go.Proofs.YtokdjjebnomciaaDoor
open Go.Wk Go.RowKit Go.Lib
set_option linter.unusedVariables false
set_option linter.unusedSimpArgs false
theorem elHf_22 : ElemI Tryd.prog 22 58 (.agg #[.int .i64 0, .int .i64 0]) 2 16 := ElemI.of Tryd.underlying22 (by kernel_rfl) (by first | rfl | kernel_rfl) (by decide)
theorem elHf_60 : ElemI Tryd.prog 60 3 (.int .i64 0) 1 8 := ElemI.of Tryd.underlying60 (by kernel_rfl) (by first | rfl | kernel_rfl) (by decide)
theorem F73b {rim : ByteArray} {O : List (Option Nat)} {w : World} (s_rim : rim.size ≤ maxLen) (p_12 : (rim.size : Int) ≤ 12) (p_l : Lets rim) (hO : ∀ b, some b ∈ O → b < w.heap.size) (hG : Laid w) : Calls Tryd.prog 73 #[.string rim] w (Ret w (fun r w' => ∃ sv lv, r = .tuple #[sv, lv] ∧ V (tSl (tP (tI .i64) (tI .i64))) ((takS rim).1) sv O w' ∧ Fresh (tI .i64) 3 ((takS rim).2) lv w.heap.size w')) := by
  have hS := St.start w O hO
  refine enterR Tryd.func73 rfl Tryd.ntmps73 Tryd.results73 rfl ?_
  refine W.seq ?_
  refine W.reg ?_
  refine Wx.rd (v := (.slice none 0 0)) (rd_assign rfl) rfl ?_
  refine Wx.rd (v := (.slice none 0 0)) (rd_assign rfl) rfl ?_
  refine Wx.nil ?_
  refine W.seq ?_
  refine W.seq ?_
  refine W.reg ?_
  refine Wx.rd (v := .string rim) (rd_move rfl) rfl ?_
  refine Wx.rangeS (s := rim) hS rfl Tryd.underlying9 rfl (fun g_1 w_2 hx_3 hS => ?_)
  refine Wx.nil ?_
  refine W.block ?_
  have hS := hS.addNil (tP (tI .i64) (tI .i64)) 58
  have hS := hS.addNil (tI .i64) 3
  refine W.loop [2, 3, 4, 5, 8, 9, 10, 11, 12, 13, 14, 15, 16, 17, 18, 19, 20, 21, 22, 23, 24, 25, 26, 27, 28, 29, 30, 31, 32, 33, 34, 35, 36, 37, 38, 39, 40, 41, 42] (fun x : Value × (List (Int × Int)) × Value × (List Int) × Nat => match x with | (tv, st, lw, lf, p) => [(2, tv), (3, lw)]) (fun (x : Value × (List (Int × Int)) × Value × (List Int) × Nat) w' => match x with | (tv, st, lw, lf, p) => St w O w' [.row (tI .i64) 3 lw lf, .row (tP (tI .i64) (tI .i64)) 58 tv st, .raw g_1 (.stringIter rim p)] ∧ p ≤ rim.size ∧ runS rim (st, lf) (rng p rim.size) = takS rim ∧ (∀ x ∈ lf, 0 ≤ x ∧ x < p) ∧ 2 * (st.length : Int) + lf.length = p) (fun x : Value × (List (Int × Int)) × Value × (List Int) × Nat => match x with | (tv, st, lw, lf, p) => rim.size - p) ((.slice none 0 0), [], (.slice none 0 0), [], 0) ⟨rfl, rfl, trivial⟩ ⟨hS, (Nat.zero_le _), (rfl), (by simp), (rfl)⟩ ?_
  rintro ⟨tv, st, lw, lf, p⟩ u_5 w_4 ⟨hS, h1, h2, h3, h4⟩
  refine W.seq ?_
  refine W.reg ?_
  refine Wx.nextS hS 2 rfl rfl rfl (fun hn w_6 hz_7 hS => ?_) (fun hn => ?_)
  · -- a rune
    have hS : St _ _ w_6 [.row (tI .i64) 3 lw lf, .row (tP (tI .i64) (tI .i64)) 58 tv st, .raw g_1 (.stringIter rim (p + (runeW rim (p : Int)).toNat))] := hS
    have hra := (runeAt_ascii (s := rim) (p := (p : Int)) (by omega) (by have := isLet_bd (p_l p (by omega) (by omega)); omega)).2
    refine Wx.rd (v := .bool true) (rd_extract rfl rfl) rfl ?_
    refine Wx.nil ?_
    refine W.seq ?_
    refine W.condT rfl rfl ?_
    refine W.skip ?_
    refine W.block ?_
    refine W.seq ?_
    refine W.reg ?_
    refine Wx.rd (v := .int .i64 (p : Int)) (rd_extract rfl rfl) rfl ?_
    refine Wx.rd (v := .int .i64 (p : Int)) (rd_assign rfl) rfl ?_
    refine Wx.nil ?_
    refine W.seq ?_
    refine W.reg ?_
    refine Wx.rd (v := lw) (rd_move rfl) rfl ?_
    refine Wx.rd (v := .int .i64 (lf.length : Int)) (rd_lenR hS 0 rfl rfl Tryd.underlying60) rfl ?_
    refine Wx.rd (v := .int .i64 (lf.length : Int)) (rd_assign rfl) rfl ?_
    refine Wx.nil ?_
    refine W.seq ?_
    refine W.seq ?_
    refine W.reg ?_
    refine Wx.rd (v := .int .i64 (lf.length : Int)) (rd_move rfl) rfl ?_
    refine Wx.rd (v := .bool (decide (0 < (lf.length : Int)))) (rd_gtr rfl rfl) rfl ?_
    refine Wx.rd (v := .bool (decide (0 < (lf.length : Int)))) (rd_move rfl) rfl ?_
    refine Wx.cut (X := Unit) 9 [16, 17, 18, 19, 20, 21, 22, 23, 24] (fun _ => [(24, .bool (decide (0 < (lf.length : Int)) && fitR rim (ix 0 lf ((lf.length : Int) - 1)) (p : Int)))]) (fun _ w' => St w O w' [.row (tI .i64) 3 lw lf, .row (tP (tI .i64) (tI .i64)) 58 tv st, .raw g_1 (.stringIter rim (p + (runeW rim (p : Int)).toNat))]) ?_ ?_
    · rcases Bool.eq_false_or_eq_true (decide (0 < (lf.length : Int))) with g_9 | g_9
      · -- True
        have gp_10 := of_decide_eq_true g_9
        refine Wx.gyes rfl rfl (congrArg Value.bool g_9) ?_
        refine Wx.rd (v := .string rim) (rd_move rfl) rfl ?_
        refine Wx.gyes rfl rfl (congrArg Value.bool g_9) ?_
        refine Wx.rd (v := lw) (rd_move rfl) rfl ?_
        refine Wx.gyes rfl rfl (congrArg Value.bool g_9) ?_
        refine Wx.rd (v := .int .i64 (lf.length : Int)) (rd_move rfl) rfl ?_
        refine Wx.gyes rfl rfl (congrArg Value.bool g_9) ?_
        refine Wx.rd (v := .int .i64 ((lf.length : Int) - 1)) (rd_sub rfl rfl (in_i64 (by omega) (by omega))) rfl ?_
        refine Wx.gyes rfl rfl (congrArg Value.bool g_9) ?_
        refine Wx.indexR hS 0 rfl rfl rfl Tryd.underlying60 Tryd.sizeOf3 (by first | omega | (simp only [List.length_set, List.length_append, List.length_cons, List.length_nil, List.length_replicate]; omega)) (by first | omega | (simp only [List.length_set, List.length_append, List.length_cons, List.length_nil, List.length_replicate]; omega)) rfl (fun g_11 hg_12 => ?_)
        refine Wx.gyes rfl rfl (congrArg Value.bool g_9) ?_
        refine Wx.rd (v := .int .i64 (ix 0 lf ((lf.length : Int) - 1))) (rd_loadRI' hS 0 rfl hg_12 rfl (by first | omega | (simp only [List.length_set, List.length_append, List.length_cons, List.length_nil, List.length_replicate]; omega)) (by first | omega | (simp only [List.length_set, List.length_append, List.length_cons, List.length_nil, List.length_replicate]; omega)) Tryd.isAgg3 Tryd.sizeOf3) rfl ?_
        have bd_13 := bd_i64 (hS.rowInK' 0 rfl (by first | omega | (simp only [List.length_set, List.length_append, List.length_cons, List.length_nil, List.length_replicate]; omega)) (by first | omega | (simp only [List.length_set, List.length_append, List.length_cons, List.length_nil, List.length_replicate]; omega)) : InK .i64 (ix 0 lf ((lf.length : Int) - 1)))
        refine Wx.gyes rfl rfl (congrArg Value.bool g_9) ?_
        refine Wx.rd (v := .int .i64 (p : Int)) (rd_move rfl) rfl ?_
        refine Wx.gyes rfl rfl (congrArg Value.bool g_9) ?_
        have hlm := h3 (ix 0 lf ((lf.length : Int) - 1)) (ix_mem (by omega) (by omega))
        refine Wx.callF (run_callF Tryd.call61 rfl) (F61 (by first | assumption | (simp only [maxLen]; omega) | (simp only [ByteArray.size_extract, ByteArray.size_append, maxLen] at *; omega) | decide) (in_i64 (by omega) (by omega)) (in_i64 (by omega) (by omega)) (by omega) (by omega) (by omega) (by omega) (by omega) (hG.ext hS.bel)) rfl ?_
        rintro r_14 w_15 hx_16 rfl
        have hS := hS.ext hx_16
        refine Wx.rd (v := .bool (fitR rim (ix 0 lf ((lf.length : Int) - 1)) (p : Int))) (rd_pickT (congrArg Value.bool g_9) rfl) rfl ?_
        refine Wx.nil ⟨(), hS, ⟨?_, trivial⟩, Out.look rfl Out.refl⟩
        show Value.bool (fitR rim (ix 0 lf ((lf.length : Int) - 1)) (p : Int)) = Value.bool (decide (0 < (lf.length : Int)) && fitR rim (ix 0 lf ((lf.length : Int) - 1)) (p : Int))
        rw [g_9]; rfl
      · -- False
        have gp_17 := of_decide_eq_false g_9
        refine Wx.gnoB rfl rfl (congrArg Value.bool g_9) rfl rfl ?_
        refine Wx.gnoB rfl rfl (congrArg Value.bool g_9) rfl rfl ?_
        refine Wx.gnoB rfl rfl (congrArg Value.bool g_9) rfl rfl ?_
        refine Wx.gnoB rfl rfl (congrArg Value.bool g_9) rfl rfl ?_
        refine Wx.gnoB rfl rfl (congrArg Value.bool g_9) rfl rfl ?_
        refine Wx.gnoB rfl rfl (congrArg Value.bool g_9) rfl rfl ?_
        refine Wx.gnoB rfl rfl (congrArg Value.bool g_9) rfl rfl ?_
        refine Wx.gnoB rfl rfl (congrArg Value.bool g_9) rfl rfl ?_
        refine Wx.rd (v := .bool false) (rd_pickF (congrArg Value.bool g_9) rfl) rfl ?_
        refine Wx.nil ⟨(), hS, ⟨?_, trivial⟩, Out.look rfl Out.refl⟩
        show Value.bool false = Value.bool (decide (0 < (lf.length : Int)) && fitR rim (ix 0 lf ((lf.length : Int) - 1)) (p : Int))
        rw [g_9]; rfl
    rintro ⟨⟩ u_19 w_18 hS
    refine Wx.nil ?_
    refine W.cond rfl (fun c1 => ?_) (fun c1 => ?_)
    · -- yes
      try simp only [Bool.and_eq_true, Bool.or_eq_true, Bool.not_eq_true', Bool.and_eq_false_iff, Bool.or_eq_false_iff, Bool.not_eq_false', decide_eq_true_eq, decide_eq_false_iff_not, not_or, Bool.false_eq_true, Bool.true_eq_false, false_or, or_false, not_false_eq_true] at c1
      refine W.seq ?_
      refine W.reg ?_
      refine Wx.rd (v := tv) (rd_move rfl) rfl ?_
      refine Wx.rd (v := lw) (rd_move rfl) rfl ?_
      refine Wx.rd (v := .int .i64 (lf.length : Int)) (rd_move rfl) rfl ?_
      refine Wx.rd (v := .int .i64 ((lf.length : Int) - 1)) (rd_sub rfl rfl (in_i64 (by omega) (by omega))) rfl ?_
      refine Wx.indexR hS 0 rfl rfl rfl Tryd.underlying60 Tryd.sizeOf3 (by first | omega | (simp only [List.length_set, List.length_append, List.length_cons, List.length_nil, List.length_replicate]; omega)) (by first | omega | (simp only [List.length_set, List.length_append, List.length_cons, List.length_nil, List.length_replicate]; omega)) rfl (fun g_20 hg_21 => ?_)
      refine Wx.rd (v := .int .i64 (ix 0 lf ((lf.length : Int) - 1))) (rd_loadRI' hS 0 rfl hg_21 rfl (by first | omega | (simp only [List.length_set, List.length_append, List.length_cons, List.length_nil, List.length_replicate]; omega)) (by first | omega | (simp only [List.length_set, List.length_append, List.length_cons, List.length_nil, List.length_replicate]; omega)) Tryd.isAgg3 Tryd.sizeOf3) rfl ?_
      have bd_22 := bd_i64 (hS.rowInK' 0 rfl (by first | omega | (simp only [List.length_set, List.length_append, List.length_cons, List.length_nil, List.length_replicate]; omega)) (by first | omega | (simp only [List.length_set, List.length_append, List.length_cons, List.length_nil, List.length_replicate]; omega)) : InK .i64 (ix 0 lf ((lf.length : Int) - 1)))
      refine Wx.rd (v := .int .i64 (p : Int)) (rd_move rfl) rfl ?_
      refine Wx.rd (v := .agg #[.int .i64 (ix 0 lf ((lf.length : Int) - 1)), .int .i64 (p : Int)]) (rd_build (vs := [(0, .int .i64 (ix 0 lf ((lf.length : Int) - 1))), (1, .int .i64 (p : Int))]) rfl (by kernel_rfl)) rfl ?_
      refine Wx.lit (t := (tP (tI .i64) (tI .i64))) (ys := [(ix 0 lf ((lf.length : Int) - 1), (p : Int))]) (vs := [.agg #[.int .i64 (ix 0 lf ((lf.length : Int) - 1)), .int .i64 (p : Int)]]) elHf_22 hS rfl rfl ⟨(V.mk2 (in_i64 (by omega) (by omega)) (in_i64 (by omega) (by omega))), trivial⟩ (by decide) rfl (fun v_23 w_24 hx_25 hS => ?_)
      refine Wx.append elHf_22 hS 2 rfl rfl rfl (Src.ofR hS 0 rfl) (by simp only [maxLen]; simp; omega) (by simp; omega) rfl (fun v_26 w_27 hz_28 hS => ?_)
      refine Wx.rd (v := v_26) (rd_assign rfl) rfl ?_
      refine Wx.nil ?_
      refine W.seq ?_
      refine W.reg ?_
      refine Wx.rd (v := lw) (rd_move rfl) rfl ?_
      refine Wx.rd (v := .int .i64 (lf.length : Int)) (rd_move rfl) rfl ?_
      refine Wx.rd (v := .int .i64 ((lf.length : Int) - 1)) (rd_sub rfl rfl (in_i64 (by omega) (by omega))) rfl ?_
      obtain ⟨g_29, c_30, rfl, hc_31⟩ := hS.rowForm 1 rfl (by omega)
      refine Wx.rd (v := (.slice (some ⟨g_29, 0, none⟩) ((lf.length : Int) - 1).toNat c_30)) (rd_headO Tryd.underlying60 Tryd.sizeOf3 rfl rfl (by omega) (by omega)) rfl ?_
      have hS : St _ _ _ [.row (tP (tI .i64) (tI .i64)) 58 v_23 [(ix 0 lf ((lf.length : Int) - 1), (p : Int))], .row (tI .i64) 3 (.slice (some ⟨g_29, 0, none⟩) ((lf.length : Int) - 1).toNat c_30) (List.take ((lf.length : Int) - 1).toNat lf), .row (tP (tI .i64) (tI .i64)) 58 v_26 (st ++ [(ix 0 lf ((lf.length : Int) - 1), (p : Int))]), .raw g_1 (.stringIter rim (p + (runeW rim (p : Int)).toNat))] := hS.shrink (m := ((lf.length : Int) - 1).toNat) 1 rfl (by omega)
      refine Wx.rd (v := (.slice (some ⟨g_29, 0, none⟩) ((lf.length : Int) - 1).toNat c_30)) (rd_assign rfl) rfl ?_
      refine Wx.nil ?_
      refine W.exit rfl ?_
      refine ⟨(v_26, st ++ [(ix 0 lf ((lf.length : Int) - 1), (p : Int))], (.slice (some ⟨g_29, 0, none⟩) ((lf.length : Int) - 1).toNat c_30), List.take ((lf.length : Int) - 1).toNat lf, p + (runeW rim (p : Int)).toNat), (by show rim.size - (p + (runeW rim (p : Int)).toNat) < rim.size - p; omega), ?_, ?_, Out.look rfl (Out.hav rfl (Out.look rfl Out.self))⟩
      · exact ⟨hS.tl, (by omega), (by rw [← h2, rng_cons (i := (p : Int)) (by omega), runS_cons, show ((p + (runeW rim (p : Int)).toNat : Nat) : Int) = (p : Int) + 1 by omega]; first | rw [stepS_yes c1.1 c1.2] | rw [stepS_no c1]), (fun x hx => by first | (have := h3 x (List.mem_of_mem_take hx); omega) | (rcases List.mem_append.1 hx with hx | hx; (have := h3 x hx; omega); (rw [List.mem_singleton] at hx; omega))), (by simp only [List.length_append, List.length_take, List.length_cons, List.length_nil]; omega)⟩
      · exact ⟨rfl, rfl, trivial⟩
    · -- no
      try simp only [Bool.and_eq_true, Bool.or_eq_true, Bool.not_eq_true', Bool.and_eq_false_iff, Bool.or_eq_false_iff, Bool.not_eq_false', decide_eq_true_eq, decide_eq_false_iff_not, not_or, Bool.false_eq_true, Bool.true_eq_false, false_or, or_false, not_false_eq_true] at c1
      refine W.skip ?_
      refine W.reg ?_
      refine Wx.rd (v := lw) (rd_move rfl) rfl ?_
      refine Wx.rd (v := .int .i64 (p : Int)) (rd_move rfl) rfl ?_
      refine Wx.lit (t := (tI .i64)) (ys := [(p : Int)]) (vs := [.int .i64 (p : Int)]) elHf_60 hS rfl rfl ⟨(V.mkInt (in_i64 (by omega) (by omega))), trivial⟩ (by decide) rfl (fun v_32 w_33 hx_34 hS => ?_)
      refine Wx.append elHf_60 hS 1 rfl rfl rfl (Src.ofR hS 0 rfl) (by simp only [maxLen]; simp; omega) (by simp; omega) rfl (fun v_35 w_36 hz_37 hS => ?_)
      refine Wx.rd (v := v_35) (rd_assign rfl) rfl ?_
      refine Wx.nil ?_
      refine ⟨(tv, st, v_35, lf ++ [(p : Int)], p + (runeW rim (p : Int)).toNat), (by show rim.size - (p + (runeW rim (p : Int)).toNat) < rim.size - p; omega), ?_, ?_, Out.look rfl (Out.hav rfl (Out.look rfl Out.self))⟩
      · exact ⟨hS.tl, (by omega), (by rw [← h2, rng_cons (i := (p : Int)) (by omega), runS_cons, show ((p + (runeW rim (p : Int)).toNat : Nat) : Int) = (p : Int) + 1 by omega]; first | rw [stepS_yes c1.1 c1.2] | rw [stepS_no c1]), (fun x hx => by first | (have := h3 x (List.mem_of_mem_take hx); omega) | (rcases List.mem_append.1 hx with hx | hx; (have := h3 x hx; omega); (rw [List.mem_singleton] at hx; omega))), (by simp only [List.length_append, List.length_take, List.length_cons, List.length_nil]; omega)⟩
      · exact ⟨rfl, rfl, trivial⟩
  · -- the end
    refine Wx.rd (v := .bool false) (rd_extract rfl rfl) rfl ?_
    refine Wx.nil ?_
    refine W.seq ?_
    refine W.condF rfl rfl ?_
    refine W.exit rfl ?_
    refine W.seq ?_
    refine W.reg ?_
    refine Wx.rd (v := tv) (rd_move rfl) rfl ?_
    refine Wx.rd (v := lw) (rd_move rfl) rfl ?_
    refine Wx.rd (v := tv) (rd_assign rfl) rfl ?_
    refine Wx.rd (v := lw) (rd_assign rfl) rfl ?_
    refine Wx.nil ?_
    have e0_0 : (takS rim).1 = st := by rw [← h2, rng_nil (by omega)]; rfl
    have e0_1 : (takS rim).2 = lf := by rw [← h2, rng_nil (by omega)]; rfl
    exact W.ret ⟨.tuple #[tv, lw], ResIs.two, hS.bel, ⟨tv, lw, rfl, (by rw [e0_0]; exact ((hS.lend 1 rfl).mv (.less (fun _ h => List.mem_append.2 (.inr h))))), (by rw [e0_1]; exact (hS.fr 0 rfl flat_int))⟩⟩

theorem F73 {rim : ByteArray} {O : List (Option Nat)} {w : World} (s_rim : rim.size ≤ maxLen) (p_12 : (rim.size : Int) ≤ 12) (p_l : Lets rim) (hO : ∀ b, some b ∈ O → b < w.heap.size) (hG : Laid w) : Calls Tryd.prog 73 #[.string rim] w (Ret w (fun r w' => ∃ sv lv, r = .tuple #[sv, lv] ∧ V (tSl (tP (tI .i64) (tI .i64))) ((takS rim).1) sv O w' ∧ V (tSl (tI .i64)) ((takS rim).2) lv O w')) := by
  have hS := St.start w O hO
  refine enterR Tryd.func73 rfl Tryd.ntmps73 Tryd.results73 rfl ?_
  refine W.seq ?_
  refine W.reg ?_
  refine Wx.rd (v := (.slice none 0 0)) (rd_assign rfl) rfl ?_
  refine Wx.rd (v := (.slice none 0 0)) (rd_assign rfl) rfl ?_
  refine Wx.nil ?_
  refine W.seq ?_
  refine W.seq ?_
  refine W.reg ?_
  refine Wx.rd (v := .string rim) (rd_move rfl) rfl ?_
  refine Wx.rangeS (s := rim) hS rfl Tryd.underlying9 rfl (fun g_1 w_2 hx_3 hS => ?_)
  refine Wx.nil ?_
  refine W.block ?_
  have hS := hS.addNil (tP (tI .i64) (tI .i64)) 58
  have hS := hS.addNil (tI .i64) 3
  refine W.loop [2, 3, 4, 5, 8, 9, 10, 11, 12, 13, 14, 15, 16, 17, 18, 19, 20, 21, 22, 23, 24, 25, 26, 27, 28, 29, 30, 31, 32, 33, 34, 35, 36, 37, 38, 39, 40, 41, 42] (fun x : Value × (List (Int × Int)) × Value × (List Int) × Nat => match x with | (tv, st, lw, lf, p) => [(2, tv), (3, lw)]) (fun (x : Value × (List (Int × Int)) × Value × (List Int) × Nat) w' => match x with | (tv, st, lw, lf, p) => St w O w' [.row (tI .i64) 3 lw lf, .row (tP (tI .i64) (tI .i64)) 58 tv st, .raw g_1 (.stringIter rim p)] ∧ p ≤ rim.size ∧ runS rim (st, lf) (rng p rim.size) = takS rim ∧ (∀ x ∈ lf, 0 ≤ x ∧ x < p) ∧ 2 * (st.length : Int) + lf.length = p) (fun x : Value × (List (Int × Int)) × Value × (List Int) × Nat => match x with | (tv, st, lw, lf, p) => rim.size - p) ((.slice none 0 0), [], (.slice none 0 0), [], 0) ⟨rfl, rfl, trivial⟩ ⟨hS, (Nat.zero_le _), (rfl), (by simp), (rfl)⟩ ?_
  rintro ⟨tv, st, lw, lf, p⟩ u_5 w_4 ⟨hS, h1, h2, h3, h4⟩
  refine W.seq ?_
  refine W.reg ?_
  refine Wx.nextS hS 2 rfl rfl rfl (fun hn w_6 hz_7 hS => ?_) (fun hn => ?_)
  · -- a rune
    have hS : St _ _ w_6 [.row (tI .i64) 3 lw lf, .row (tP (tI .i64) (tI .i64)) 58 tv st, .raw g_1 (.stringIter rim (p + (runeW rim (p : Int)).toNat))] := hS
    have hra := (runeAt_ascii (s := rim) (p := (p : Int)) (by omega) (by have := isLet_bd (p_l p (by omega) (by omega)); omega)).2
    refine Wx.rd (v := .bool true) (rd_extract rfl rfl) rfl ?_
    refine Wx.nil ?_
    refine W.seq ?_
    refine W.condT rfl rfl ?_
    refine W.skip ?_
    refine W.block ?_
    refine W.seq ?_
    refine W.reg ?_
    refine Wx.rd (v := .int .i64 (p : Int)) (rd_extract rfl rfl) rfl ?_
    refine Wx.rd (v := .int .i64 (p : Int)) (rd_assign rfl) rfl ?_
    refine Wx.nil ?_
    refine W.seq ?_
    refine W.reg ?_
    refine Wx.rd (v := lw) (rd_move rfl) rfl ?_
    refine Wx.rd (v := .int .i64 (lf.length : Int)) (rd_lenR hS 0 rfl rfl Tryd.underlying60) rfl ?_
    refine Wx.rd (v := .int .i64 (lf.length : Int)) (rd_assign rfl) rfl ?_
    refine Wx.nil ?_
    refine W.seq ?_
    refine W.seq ?_
    refine W.reg ?_
    refine Wx.rd (v := .int .i64 (lf.length : Int)) (rd_move rfl) rfl ?_
    refine Wx.rd (v := .bool (decide (0 < (lf.length : Int)))) (rd_gtr rfl rfl) rfl ?_
    refine Wx.rd (v := .bool (decide (0 < (lf.length : Int)))) (rd_move rfl) rfl ?_
    refine Wx.cut (X := Unit) 9 [16, 17, 18, 19, 20, 21, 22, 23, 24] (fun _ => [(24, .bool (decide (0 < (lf.length : Int)) && fitR rim (ix 0 lf ((lf.length : Int) - 1)) (p : Int)))]) (fun _ w' => St w O w' [.row (tI .i64) 3 lw lf, .row (tP (tI .i64) (tI .i64)) 58 tv st, .raw g_1 (.stringIter rim (p + (runeW rim (p : Int)).toNat))]) ?_ ?_
    · rcases Bool.eq_false_or_eq_true (decide (0 < (lf.length : Int))) with g_9 | g_9
      · -- True
        have gp_10 := of_decide_eq_true g_9
        refine Wx.gyes rfl rfl (congrArg Value.bool g_9) ?_
        refine Wx.rd (v := .string rim) (rd_move rfl) rfl ?_
        refine Wx.gyes rfl rfl (congrArg Value.bool g_9) ?_
        refine Wx.rd (v := lw) (rd_move rfl) rfl ?_
        refine Wx.gyes rfl rfl (congrArg Value.bool g_9) ?_
        refine Wx.rd (v := .int .i64 (lf.length : Int)) (rd_move rfl) rfl ?_
        refine Wx.gyes rfl rfl (congrArg Value.bool g_9) ?_
        refine Wx.rd (v := .int .i64 ((lf.length : Int) - 1)) (rd_sub rfl rfl (in_i64 (by omega) (by omega))) rfl ?_
        refine Wx.gyes rfl rfl (congrArg Value.bool g_9) ?_
        refine Wx.indexR hS 0 rfl rfl rfl Tryd.underlying60 Tryd.sizeOf3 (by first | omega | (simp only [List.length_set, List.length_append, List.length_cons, List.length_nil, List.length_replicate]; omega)) (by first | omega | (simp only [List.length_set, List.length_append, List.length_cons, List.length_nil, List.length_replicate]; omega)) rfl (fun g_11 hg_12 => ?_)
        refine Wx.gyes rfl rfl (congrArg Value.bool g_9) ?_
        refine Wx.rd (v := .int .i64 (ix 0 lf ((lf.length : Int) - 1))) (rd_loadRI' hS 0 rfl hg_12 rfl (by first | omega | (simp only [List.length_set, List.length_append, List.length_cons, List.length_nil, List.length_replicate]; omega)) (by first | omega | (simp only [List.length_set, List.length_append, List.length_cons, List.length_nil, List.length_replicate]; omega)) Tryd.isAgg3 Tryd.sizeOf3) rfl ?_
        have bd_13 := bd_i64 (hS.rowInK' 0 rfl (by first | omega | (simp only [List.length_set, List.length_append, List.length_cons, List.length_nil, List.length_replicate]; omega)) (by first | omega | (simp only [List.length_set, List.length_append, List.length_cons, List.length_nil, List.length_replicate]; omega)) : InK .i64 (ix 0 lf ((lf.length : Int) - 1)))
        refine Wx.gyes rfl rfl (congrArg Value.bool g_9) ?_
        refine Wx.rd (v := .int .i64 (p : Int)) (rd_move rfl) rfl ?_
        refine Wx.gyes rfl rfl (congrArg Value.bool g_9) ?_
        have hlm := h3 (ix 0 lf ((lf.length : Int) - 1)) (ix_mem (by omega) (by omega))
        refine Wx.callF (run_callF Tryd.call61 rfl) (F61 (by first | assumption | (simp only [maxLen]; omega) | (simp only [ByteArray.size_extract, ByteArray.size_append, maxLen] at *; omega) | decide) (in_i64 (by omega) (by omega)) (in_i64 (by omega) (by omega)) (by omega) (by omega) (by omega) (by omega) (by omega) (hG.ext hS.bel)) rfl ?_
        rintro r_14 w_15 hx_16 rfl
        have hS := hS.ext hx_16
        refine Wx.rd (v := .bool (fitR rim (ix 0 lf ((lf.length : Int) - 1)) (p : Int))) (rd_pickT (congrArg Value.bool g_9) rfl) rfl ?_
        refine Wx.nil ⟨(), hS, ⟨?_, trivial⟩, Out.look rfl Out.refl⟩
        show Value.bool (fitR rim (ix 0 lf ((lf.length : Int) - 1)) (p : Int)) = Value.bool (decide (0 < (lf.length : Int)) && fitR rim (ix 0 lf ((lf.length : Int) - 1)) (p : Int))
        rw [g_9]; rfl
      · -- False
        have gp_17 := of_decide_eq_false g_9
        refine Wx.gnoB rfl rfl (congrArg Value.bool g_9) rfl rfl ?_
        refine Wx.gnoB rfl rfl (congrArg Value.bool g_9) rfl rfl ?_
        refine Wx.gnoB rfl rfl (congrArg Value.bool g_9) rfl rfl ?_
        refine Wx.gnoB rfl rfl (congrArg Value.bool g_9) rfl rfl ?_
        refine Wx.gnoB rfl rfl (congrArg Value.bool g_9) rfl rfl ?_
        refine Wx.gnoB rfl rfl (congrArg Value.bool g_9) rfl rfl ?_
        refine Wx.gnoB rfl rfl (congrArg Value.bool g_9) rfl rfl ?_
        refine Wx.gnoB rfl rfl (congrArg Value.bool g_9) rfl rfl ?_
        refine Wx.rd (v := .bool false) (rd_pickF (congrArg Value.bool g_9) rfl) rfl ?_
        refine Wx.nil ⟨(), hS, ⟨?_, trivial⟩, Out.look rfl Out.refl⟩
        show Value.bool false = Value.bool (decide (0 < (lf.length : Int)) && fitR rim (ix 0 lf ((lf.length : Int) - 1)) (p : Int))
        rw [g_9]; rfl
    rintro ⟨⟩ u_19 w_18 hS
    refine Wx.nil ?_
    refine W.cond rfl (fun c1 => ?_) (fun c1 => ?_)
    · -- yes
      try simp only [Bool.and_eq_true, Bool.or_eq_true, Bool.not_eq_true', Bool.and_eq_false_iff, Bool.or_eq_false_iff, Bool.not_eq_false', decide_eq_true_eq, decide_eq_false_iff_not, not_or, Bool.false_eq_true, Bool.true_eq_false, false_or, or_false, not_false_eq_true] at c1
      refine W.seq ?_
      refine W.reg ?_
      refine Wx.rd (v := tv) (rd_move rfl) rfl ?_
      refine Wx.rd (v := lw) (rd_move rfl) rfl ?_
      refine Wx.rd (v := .int .i64 (lf.length : Int)) (rd_move rfl) rfl ?_
      refine Wx.rd (v := .int .i64 ((lf.length : Int) - 1)) (rd_sub rfl rfl (in_i64 (by omega) (by omega))) rfl ?_
      refine Wx.indexR hS 0 rfl rfl rfl Tryd.underlying60 Tryd.sizeOf3 (by first | omega | (simp only [List.length_set, List.length_append, List.length_cons, List.length_nil, List.length_replicate]; omega)) (by first | omega | (simp only [List.length_set, List.length_append, List.length_cons, List.length_nil, List.length_replicate]; omega)) rfl (fun g_20 hg_21 => ?_)
      refine Wx.rd (v := .int .i64 (ix 0 lf ((lf.length : Int) - 1))) (rd_loadRI' hS 0 rfl hg_21 rfl (by first | omega | (simp only [List.length_set, List.length_append, List.length_cons, List.length_nil, List.length_replicate]; omega)) (by first | omega | (simp only [List.length_set, List.length_append, List.length_cons, List.length_nil, List.length_replicate]; omega)) Tryd.isAgg3 Tryd.sizeOf3) rfl ?_
      have bd_22 := bd_i64 (hS.rowInK' 0 rfl (by first | omega | (simp only [List.length_set, List.length_append, List.length_cons, List.length_nil, List.length_replicate]; omega)) (by first | omega | (simp only [List.length_set, List.length_append, List.length_cons, List.length_nil, List.length_replicate]; omega)) : InK .i64 (ix 0 lf ((lf.length : Int) - 1)))
      refine Wx.rd (v := .int .i64 (p : Int)) (rd_move rfl) rfl ?_
      refine Wx.rd (v := .agg #[.int .i64 (ix 0 lf ((lf.length : Int) - 1)), .int .i64 (p : Int)]) (rd_build (vs := [(0, .int .i64 (ix 0 lf ((lf.length : Int) - 1))), (1, .int .i64 (p : Int))]) rfl (by kernel_rfl)) rfl ?_
      refine Wx.lit (t := (tP (tI .i64) (tI .i64))) (ys := [(ix 0 lf ((lf.length : Int) - 1), (p : Int))]) (vs := [.agg #[.int .i64 (ix 0 lf ((lf.length : Int) - 1)), .int .i64 (p : Int)]]) elHf_22 hS rfl rfl ⟨(V.mk2 (in_i64 (by omega) (by omega)) (in_i64 (by omega) (by omega))), trivial⟩ (by decide) rfl (fun v_23 w_24 hx_25 hS => ?_)
      refine Wx.append elHf_22 hS 2 rfl rfl rfl (Src.ofR hS 0 rfl) (by simp only [maxLen]; simp; omega) (by simp; omega) rfl (fun v_26 w_27 hz_28 hS => ?_)
      refine Wx.rd (v := v_26) (rd_assign rfl) rfl ?_
      refine Wx.nil ?_
      refine W.seq ?_
      refine W.reg ?_
      refine Wx.rd (v := lw) (rd_move rfl) rfl ?_
      refine Wx.rd (v := .int .i64 (lf.length : Int)) (rd_move rfl) rfl ?_
      refine Wx.rd (v := .int .i64 ((lf.length : Int) - 1)) (rd_sub rfl rfl (in_i64 (by omega) (by omega))) rfl ?_
      obtain ⟨g_29, c_30, rfl, hc_31⟩ := hS.rowForm 1 rfl (by omega)
      refine Wx.rd (v := (.slice (some ⟨g_29, 0, none⟩) ((lf.length : Int) - 1).toNat c_30)) (rd_headO Tryd.underlying60 Tryd.sizeOf3 rfl rfl (by omega) (by omega)) rfl ?_
      have hS : St _ _ _ [.row (tP (tI .i64) (tI .i64)) 58 v_23 [(ix 0 lf ((lf.length : Int) - 1), (p : Int))], .row (tI .i64) 3 (.slice (some ⟨g_29, 0, none⟩) ((lf.length : Int) - 1).toNat c_30) (List.take ((lf.length : Int) - 1).toNat lf), .row (tP (tI .i64) (tI .i64)) 58 v_26 (st ++ [(ix 0 lf ((lf.length : Int) - 1), (p : Int))]), .raw g_1 (.stringIter rim (p + (runeW rim (p : Int)).toNat))] := hS.shrink (m := ((lf.length : Int) - 1).toNat) 1 rfl (by omega)
      refine Wx.rd (v := (.slice (some ⟨g_29, 0, none⟩) ((lf.length : Int) - 1).toNat c_30)) (rd_assign rfl) rfl ?_
      refine Wx.nil ?_
      refine W.exit rfl ?_
      refine ⟨(v_26, st ++ [(ix 0 lf ((lf.length : Int) - 1), (p : Int))], (.slice (some ⟨g_29, 0, none⟩) ((lf.length : Int) - 1).toNat c_30), List.take ((lf.length : Int) - 1).toNat lf, p + (runeW rim (p : Int)).toNat), (by show rim.size - (p + (runeW rim (p : Int)).toNat) < rim.size - p; omega), ?_, ?_, Out.look rfl (Out.hav rfl (Out.look rfl Out.self))⟩
      · exact ⟨hS.tl, (by omega), (by rw [← h2, rng_cons (i := (p : Int)) (by omega), runS_cons, show ((p + (runeW rim (p : Int)).toNat : Nat) : Int) = (p : Int) + 1 by omega]; first | rw [stepS_yes c1.1 c1.2] | rw [stepS_no c1]), (fun x hx => by first | (have := h3 x (List.mem_of_mem_take hx); omega) | (rcases List.mem_append.1 hx with hx | hx; (have := h3 x hx; omega); (rw [List.mem_singleton] at hx; omega))), (by simp only [List.length_append, List.length_take, List.length_cons, List.length_nil]; omega)⟩
      · exact ⟨rfl, rfl, trivial⟩
    · -- no
      try simp only [Bool.and_eq_true, Bool.or_eq_true, Bool.not_eq_true', Bool.and_eq_false_iff, Bool.or_eq_false_iff, Bool.not_eq_false', decide_eq_true_eq, decide_eq_false_iff_not, not_or, Bool.false_eq_true, Bool.true_eq_false, false_or, or_false, not_false_eq_true] at c1
      refine W.skip ?_
      refine W.reg ?_
      refine Wx.rd (v := lw) (rd_move rfl) rfl ?_
      refine Wx.rd (v := .int .i64 (p : Int)) (rd_move rfl) rfl ?_
      refine Wx.lit (t := (tI .i64)) (ys := [(p : Int)]) (vs := [.int .i64 (p : Int)]) elHf_60 hS rfl rfl ⟨(V.mkInt (in_i64 (by omega) (by omega))), trivial⟩ (by decide) rfl (fun v_32 w_33 hx_34 hS => ?_)
      refine Wx.append elHf_60 hS 1 rfl rfl rfl (Src.ofR hS 0 rfl) (by simp only [maxLen]; simp; omega) (by simp; omega) rfl (fun v_35 w_36 hz_37 hS => ?_)
      refine Wx.rd (v := v_35) (rd_assign rfl) rfl ?_
      refine Wx.nil ?_
      refine ⟨(tv, st, v_35, lf ++ [(p : Int)], p + (runeW rim (p : Int)).toNat), (by show rim.size - (p + (runeW rim (p : Int)).toNat) < rim.size - p; omega), ?_, ?_, Out.look rfl (Out.hav rfl (Out.look rfl Out.self))⟩
      · exact ⟨hS.tl, (by omega), (by rw [← h2, rng_cons (i := (p : Int)) (by omega), runS_cons, show ((p + (runeW rim (p : Int)).toNat : Nat) : Int) = (p : Int) + 1 by omega]; first | rw [stepS_yes c1.1 c1.2] | rw [stepS_no c1]), (fun x hx => by first | (have := h3 x (List.mem_of_mem_take hx); omega) | (rcases List.mem_append.1 hx with hx | hx; (have := h3 x hx; omega); (rw [List.mem_singleton] at hx; omega))), (by simp only [List.length_append, List.length_take, List.length_cons, List.length_nil]; omega)⟩
      · exact ⟨rfl, rfl, trivial⟩
  · -- the end
    refine Wx.rd (v := .bool false) (rd_extract rfl rfl) rfl ?_
    refine Wx.nil ?_
    refine W.seq ?_
    refine W.condF rfl rfl ?_
    refine W.exit rfl ?_
    refine W.seq ?_
    refine W.reg ?_
    refine Wx.rd (v := tv) (rd_move rfl) rfl ?_
    refine Wx.rd (v := lw) (rd_move rfl) rfl ?_
    refine Wx.rd (v := tv) (rd_assign rfl) rfl ?_
    refine Wx.rd (v := lw) (rd_assign rfl) rfl ?_
    refine Wx.nil ?_
    have e0_0 : (takS rim).1 = st := by rw [← h2, rng_nil (by omega)]; rfl
    have e0_1 : (takS rim).2 = lf := by rw [← h2, rng_nil (by omega)]; rfl
    exact W.ret ⟨.tuple #[tv, lw], ResIs.two, hS.bel, ⟨tv, lw, rfl, (by rw [e0_0]; exact ((hS.lend 1 rfl).mv (.less (fun _ h => List.mem_append.2 (.inr h))))), (by rw [e0_1]; exact ((hS.lend 0 rfl).mv (.less (fun _ h => List.mem_append.2 (.inr h)))))⟩⟩

end Go.Proofs.YtokdjjebnomciaaDoor

namespace Go.Proofs.YtokdjjebnomciaaDoor
open Go.Wk Go.RowKit Go.Lib
set_option linter.unusedVariables false
set_option linter.unusedSimpArgs false
theorem F75 {rim : ByteArray} {w : World} (s_rim : rim.size ≤ maxLen) (p_12 : (rim.size : Int) ≤ 12) (p_l : Lets rim) (hG : Laid w) : Calls Tryd.prog 75 #[.string rim] w (Ret w (fun r _ => r = .string (restV rim))) := by
  have hlb := takS_bd (s := rim)
  have hS := St.start0 w
  refine enterR Tryd.func75 rfl Tryd.ntmps75 Tryd.results75 rfl ?_
  refine W.seq ?_
  refine W.reg ?_
  refine Wx.rd (v := .string ({ data := #[] } : ByteArray)) (rd_assign rfl) rfl ?_
  refine Wx.nil ?_
  refine W.seq ?_
  refine W.reg ?_
  refine Wx.alloc (cs := [(.pointer none), (.slice none 0 0)]) hS Tryd.zeroValue116 rfl rfl (fun g_1 w_2 hx_4 hb_3 hS => ?_)
  refine Wx.nil ?_
  refine W.seq ?_
  refine W.reg ?_
  refine Wx.rd (v := .string rim) (rd_move rfl) rfl ?_
  refine Wx.callF (run_callF Tryd.call73 rfl) (F73b (by first | assumption | (simp only [maxLen]; omega) | (simp only [ByteArray.size_extract, ByteArray.size_append, maxLen] at *; omega) | decide) (by omega) (by omega) hS.fb_lt (hG.ext hS.bel)) rfl ?_
  rintro r_5 w_6 hx_7 ⟨v_8, v_9, rfl, hv_10, hv_11⟩
  have hS := hS.pushFr hx_7 hv_11
  refine Wx.rd (v := .tuple #[v_8, v_9]) (rd_move rfl) rfl ?_
  refine Wx.rd (v := v_8) (rd_extract rfl rfl) rfl ?_
  refine Wx.rd (v := v_9) (rd_extract rfl rfl) rfl ?_
  refine Wx.rd (v := v_8) (rd_assign rfl) rfl ?_
  refine Wx.rd (v := v_9) (rd_assign rfl) rfl ?_
  refine Wx.nil ?_
  refine W.seq ?_
  refine W.seq ?_
  refine W.reg ?_
  refine Wx.rd (v := v_9) (rd_move rfl) rfl ?_
  refine Wx.rd (v := .int .i64 (((takS rim).2).length : Int)) (rd_lenR hS 0 rfl rfl Tryd.underlying60) rfl ?_
  refine Wx.rd (v := .int .i64 0) (rd_move rfl) rfl ?_
  refine Wx.nil ?_
  refine W.block ?_
  have hbd := bld_start hS 1 rfl
  have hS := (hS.front 1 rfl).tl
  refine W.loop [7, 15, 16, 17, 18, 19, 20, 21, 22, 23] (fun (k : Int) => [(15, .int .i64 k)]) (fun (k : Int) w' => St w [] w' [.row (tI .i64) 3 v_9 ((takS rim).2)] ∧ 0 ≤ k ∧ k ≤ (takS rim).2.length ∧ Lib.IsBuilderF 116 5 w.heap.size g_1 (Lib.byteCells (((takS rim).2.take k.toNat).map (byteAt rim))) w') (fun (k : Int) => ((takS rim).2.length - k).toNat) 0 ⟨rfl, trivial⟩ ⟨hS, (by first | omega | simp), (by first | omega | simp), (hbd)⟩ ?_
  rintro k u_15 w_14 ⟨hS, h0, h1, hbd⟩
  refine W.seq ?_
  refine W.reg ?_
  refine Wx.rd (v := .bool (decide (k < (((takS rim).2).length : Int)))) (rd_lss rfl rfl) rfl ?_
  refine Wx.nil ?_
  refine W.seq ?_
  refine W.condD rfl (fun c0 => ?_) (fun c0 => ?_)
  · -- yes
    have hkb := hlb.1 (ix 0 (takS rim).2 k) (ix_mem h0 c0)
    refine W.skip ?_
    refine W.seq ?_
    refine W.block ?_
    refine W.seq ?_
    refine W.reg ?_
    refine Wx.indexR hS 0 rfl rfl rfl Tryd.underlying60 Tryd.sizeOf3 (by first | omega | (simp only [List.length_set, List.length_append, List.length_cons, List.length_nil, List.length_replicate]; omega)) (by first | omega | (simp only [List.length_set, List.length_append, List.length_cons, List.length_nil, List.length_replicate]; omega)) rfl (fun g_16 hg_17 => ?_)
    refine Wx.rd (v := .int .i64 (ix 0 ((takS rim).2) k)) (rd_loadRI' hS 0 rfl hg_17 rfl (by first | omega | (simp only [List.length_set, List.length_append, List.length_cons, List.length_nil, List.length_replicate]; omega)) (by first | omega | (simp only [List.length_set, List.length_append, List.length_cons, List.length_nil, List.length_replicate]; omega)) Tryd.isAgg3 Tryd.sizeOf3) rfl ?_
    have bd_18 := bd_i64 (hS.rowInK' 0 rfl (by first | omega | (simp only [List.length_set, List.length_append, List.length_cons, List.length_nil, List.length_replicate]; omega)) (by first | omega | (simp only [List.length_set, List.length_append, List.length_cons, List.length_nil, List.length_replicate]; omega)) : InK .i64 (ix 0 ((takS rim).2) k))
    refine Wx.rd (v := .int .i64 (ix 0 ((takS rim).2) k)) (rd_assign rfl) rfl ?_
    refine Wx.nil ?_
    refine W.reg ?_
    refine Wx.rd (v := .string rim) (rd_move rfl) rfl ?_
    refine Wx.rd (v := .int .i64 (ix 0 ((takS rim).2) k)) (rd_move rfl) rfl ?_
    refine Wx.rd (v := .int .u8 (tabAt rim (ix 0 ((takS rim).2) k))) (rd_indexS' (by kernel_rfl) rfl Tryd.underlying9 (by omega) (by omega)) rfl ?_
    have bd_19 := tabAt_bd rim (ix 0 ((takS rim).2) k)
    refine Wx.callB (run_callF Tryd.call94 rfl) (F94 hbd rfl (by rw [List.length_map, List.length_take]; omega) hS.bel.size) rfl ?_
    rintro r_20 w_21 ⟨rfl, hbd2, hBe, hBk⟩
    have hS := bld_keep hS hbd hBe hBk
    have hbd := hbd2
    refine Wx.nil ?_
    refine W.reg ?_
    refine Wx.rd (v := .int .i64 (k + 1)) (rd_add rfl rfl (in_i64 (by omega) (by omega))) rfl ?_
    refine Wx.rd (v := .int .i64 (k + 1)) (rd_move rfl) rfl ?_
    refine Wx.nil ?_
    refine ⟨k + 1, (by show ((takS rim).2.length - (k + 1)).toNat < ((takS rim).2.length - k).toNat; omega), ?_, ?_, Out.look rfl Out.self⟩
    · exact ⟨hS, (by first | omega | assumption), (by first | omega | assumption), (by rw [take_ix (d := 0) h0 c0, List.map_append]; exact hbd)⟩
    · exact ⟨rfl, trivial⟩
  · -- no
    refine W.exit rfl ?_
    refine W.seq ?_
    refine W.reg ?_
    refine Wx.callB (run_callF Tryd.call95 rfl) (F95 hbd hS.bel.size) rfl ?_
    rintro r_22 w_23 ⟨rfl, hBe⟩
    have hS := (St.start0 w).ext (Below.trans hS.bel hBe)
    refine Wx.rd (v := .string (mkB (((takS rim).2.take k.toNat).map (byteAt rim)))) (rd_assign rfl) rfl ?_
    refine Wx.nil ?_
    have e0_0 : (restV rim) = (mkB (((takS rim).2.take k.toNat).map (byteAt rim))) := by rw [restV, List.take_of_length_le (by omega)]
    exact W.ret ⟨.string (mkB (((takS rim).2.take k.toNat).map (byteAt rim))), ResIs.one, hS.bel, (by rw [e0_0])⟩

end Go.Proofs.YtokdjjebnomciaaDoor

namespace Go.Proofs.YtokdjjebnomciaaDoor
open Go.Wk Go.RowKit Go.Lib
set_option linter.unusedVariables false
set_option linter.unusedSimpArgs false


theorem F30 {rim : ByteArray} {O : List (Option Nat)} {w : World} (s_rim : rim.size ≤ maxLen) (hO : ∀ b, some b ∈ O → b < w.heap.size) (hG : Laid w) : Calls Tryd.prog 30 #[.string rim] w (Ret w (fun r w' => ∃ rv, r = .tuple #[rv, .int .i64 (rimE rim)] ∧ V (tSl (tP (tI .i64) (tI .i64))) (stepsV rim) rv O w')) := by
  have hS := St.start w O hO
  refine enterR Tryd.func30 rfl Tryd.ntmps30 Tryd.results30 rfl ?_
  refine W.seq ?_
  refine W.reg ?_
  refine Wx.rd (v := (.slice none 0 0)) (rd_assign rfl) rfl ?_
  refine Wx.rd (v := .int .i64 0) (rd_assign rfl) rfl ?_
  refine Wx.nil ?_
  refine W.seq ?_
  refine W.seq ?_
  refine W.reg ?_
  refine Wx.rd (v := .string rim) (rd_move rfl) rfl ?_
  refine Wx.callF (run_callF Tryd.call17 rfl) (F17 (by first | assumption | (simp only [maxLen]; omega) | (simp only [ByteArray.size_extract, ByteArray.size_append, maxLen] at *; omega) | decide)) rfl ?_
  rintro r_1 w_2 hx_3 rfl
  have hS := hS.ext hx_3
  refine Wx.rd (v := .int .i64 (rimE rim)) (rd_assign rfl) rfl ?_
  refine Wx.nil ?_
  refine W.seq ?_
  refine W.reg ?_
  refine Wx.rd (v := .int .i64 (rimE rim)) (rd_move rfl) rfl ?_
  refine Wx.rd (v := .bool (decide ((rimE rim) ≠ 0))) (rd_neq rfl rfl) rfl ?_
  refine Wx.nil ?_
  refine W.condD rfl (fun c0 => ?_) (fun c0 => ?_)
  · -- yes
    refine W.seq ?_
    refine W.reg ?_
    refine Wx.rd (v := .int .i64 (rimE rim)) (rd_move rfl) rfl ?_
    refine Wx.rd (v := (.slice none 0 0)) (rd_assign rfl) rfl ?_
    refine Wx.rd (v := .int .i64 (rimE rim)) (rd_assign rfl) rfl ?_
    refine Wx.nil ?_
    have e0_0 : stepsV rim = [] := by rw [stepsV, if_neg c0]
    exact W.ret ⟨.tuple #[(.slice none 0 0), .int .i64 (rimE rim)], ResIs.two, hS.bel, ⟨(.slice none 0 0), rfl, (by rw [e0_0]; exact (V.nil (t := (tP (tI .i64) (tI .i64)))))⟩⟩
  · -- no
    have hr0 : rimE rim = 0 := by omega
    obtain ⟨hr1, hr2⟩ := rimE_ok hr0
    refine W.skip ?_
    refine W.seq ?_
    refine W.reg ?_
    refine Wx.rd (v := .string rim) (rd_move rfl) rfl ?_
    refine Wx.callF (run_callF Tryd.call73 rfl) (F73 (by first | assumption | (simp only [maxLen]; omega) | (simp only [ByteArray.size_extract, ByteArray.size_append, maxLen] at *; omega) | decide) (by omega) hr2 hS.fb_lt (hG.ext hS.bel)) rfl ?_
    rintro r_4 w_5 hx_6 ⟨v_7, v_8, rfl, hv_9, hv_10⟩
    have ln_12 := hv_9.len63
    have ln_14 := hv_10.len63
    have hS := hS.ext hx_6
    have hS := hS.add hv_9
    have hS := hS.add (hv_10.mv (.less (by simp [fb, Ob.blk])))
    refine Wx.rd (v := .tuple #[v_7, v_8]) (rd_move rfl) rfl ?_
    refine Wx.rd (v := v_7) (rd_extract rfl rfl) rfl ?_
    refine Wx.rd (v := v_8) (rd_extract rfl rfl) rfl ?_
    refine Wx.rd (v := v_7) (rd_assign rfl) rfl ?_
    refine Wx.rd (v := v_8) (rd_assign rfl) rfl ?_
    refine Wx.nil ?_
    refine W.seq ?_
    refine W.reg ?_
    refine Wx.rd (v := v_7) (rd_move rfl) rfl ?_
    refine Wx.rd (v := v_7) (rd_assign rfl) rfl ?_
    refine Wx.rd (v := .int .i64 0) (rd_assign rfl) rfl ?_
    refine Wx.nil ?_
    have e1_0 : stepsV rim = (takS rim).1 := by rw [stepsV, if_pos hr0]
    have e1_1 : (rimE rim) = (0 : Int) := by exact hr0
    exact W.ret ⟨.tuple #[v_7, .int .i64 0], ResIs.two, hS.bel, ⟨v_7, (by rw [e1_1]), (by rw [e1_0]; exact (V.mv (hS.v 1 rfl) (.less (fun _ h => List.mem_append.2 (.inr h)))))⟩⟩

theorem F32 {rim : ByteArray} {w : World} (s_rim : rim.size ≤ maxLen) (hG : Laid w) : Calls Tryd.prog 32 #[.string rim] w (Ret w (fun r _ => r = .tuple #[.string (restE rim), .int .i64 (rimE rim)])) := by
  have hS := St.start0 w
  refine enterR Tryd.func32 rfl Tryd.ntmps32 Tryd.results32 rfl ?_
  refine W.seq ?_
  refine W.reg ?_
  refine Wx.rd (v := .string ({ data := #[] } : ByteArray)) (rd_assign rfl) rfl ?_
  refine Wx.rd (v := .int .i64 0) (rd_assign rfl) rfl ?_
  refine Wx.nil ?_
  refine W.seq ?_
  refine W.seq ?_
  refine W.reg ?_
  refine Wx.rd (v := .string rim) (rd_move rfl) rfl ?_
  refine Wx.callF (run_callF Tryd.call17 rfl) (F17 (by first | assumption | (simp only [maxLen]; omega) | (simp only [ByteArray.size_extract, ByteArray.size_append, maxLen] at *; omega) | decide)) rfl ?_
  rintro r_1 w_2 hx_3 rfl
  have hS := hS.ext hx_3
  refine Wx.rd (v := .int .i64 (rimE rim)) (rd_assign rfl) rfl ?_
  refine Wx.nil ?_
  refine W.seq ?_
  refine W.reg ?_
  refine Wx.rd (v := .int .i64 (rimE rim)) (rd_move rfl) rfl ?_
  refine Wx.rd (v := .bool (decide ((rimE rim) ≠ 0))) (rd_neq rfl rfl) rfl ?_
  refine Wx.nil ?_
  refine W.condD rfl (fun c0 => ?_) (fun c0 => ?_)
  · -- yes
    refine W.seq ?_
    refine W.reg ?_
    refine Wx.rd (v := .int .i64 (rimE rim)) (rd_move rfl) rfl ?_
    refine Wx.rd (v := .string ({ data := #[] } : ByteArray)) (rd_assign rfl) rfl ?_
    refine Wx.rd (v := .int .i64 (rimE rim)) (rd_assign rfl) rfl ?_
    refine Wx.nil ?_
    have e0_0 : (restE rim) = ({ data := #[] } : ByteArray) := by rw [restE, if_neg c0]; rfl
    exact W.ret ⟨.tuple #[.string ({ data := #[] } : ByteArray), .int .i64 (rimE rim)], ResIs.two, hS.bel, (by rw [e0_0])⟩
  · -- no
    have hr0 : rimE rim = 0 := by omega
    obtain ⟨hr1, hr2⟩ := rimE_ok hr0
    refine W.skip ?_
    refine W.seq ?_
    refine W.reg ?_
    refine Wx.rd (v := .string rim) (rd_move rfl) rfl ?_
    refine Wx.callF (run_callF Tryd.call75 rfl) (F75 (by first | assumption | (simp only [maxLen]; omega) | (simp only [ByteArray.size_extract, ByteArray.size_append, maxLen] at *; omega) | decide) (by omega) hr2 (hG.ext hS.bel)) rfl ?_
    rintro r_4 w_5 hx_6 rfl
    have hS := hS.ext hx_6
    refine Wx.rd (v := .string (restV rim)) (rd_assign rfl) rfl ?_
    refine Wx.rd (v := .int .i64 0) (rd_assign rfl) rfl ?_
    refine Wx.nil ?_
    have e1_0 : (restE rim) = (restV rim) := by rw [restE, if_pos hr0]
    have e1_1 : (rimE rim) = (0 : Int) := by exact hr0
    exact W.ret ⟨.tuple #[.string (restV rim), .int .i64 0], ResIs.two, hS.bel, (by rw [e1_0, e1_1])⟩

theorem F34 {rim : ByteArray} {w : World} (s_rim : rim.size ≤ maxLen) (hG : Laid w) : Calls Tryd.prog 34 #[.string rim] w (Ret w (fun r _ => r = .tuple #[.bool (fullP rim), .int .i64 (rimE rim)])) := by
  have hS := St.start0 w
  refine enterR Tryd.func34 rfl Tryd.ntmps34 Tryd.results34 rfl ?_
  refine W.seq ?_
  refine W.reg ?_
  refine Wx.rd (v := .bool false) (rd_assign rfl) rfl ?_
  refine Wx.rd (v := .int .i64 0) (rd_assign rfl) rfl ?_
  refine Wx.nil ?_
  refine W.seq ?_
  refine W.reg ?_
  refine Wx.rd (v := .string rim) (rd_move rfl) rfl ?_
  refine Wx.callF (run_callF Tryd.call32 rfl) (F32 (by first | assumption | (simp only [maxLen]; omega) | (simp only [ByteArray.size_extract, ByteArray.size_append, maxLen] at *; omega) | decide) (hG.ext hS.bel)) rfl ?_
  rintro r_1 w_2 hx_3 rfl
  have hS := hS.ext hx_3
  refine Wx.rd (v := .tuple #[.string (restE rim), .int .i64 (rimE rim)]) (rd_move rfl) rfl ?_
  refine Wx.rd (v := .string (restE rim)) (rd_extract rfl rfl) rfl ?_
  refine Wx.rd (v := .int .i64 (rimE rim)) (rd_extract rfl rfl) rfl ?_
  refine Wx.rd (v := .string (restE rim)) (rd_assign rfl) rfl ?_
  refine Wx.rd (v := .int .i64 (rimE rim)) (rd_assign rfl) rfl ?_
  refine Wx.nil ?_
  refine W.seq ?_
  refine W.reg ?_
  refine Wx.rd (v := .int .i64 (rimE rim)) (rd_move rfl) rfl ?_
  refine Wx.rd (v := .bool (decide ((rimE rim) = 0))) (rd_eql rfl rfl) rfl ?_
  refine Wx.rd (v := .bool (decide ((rimE rim) = 0))) (rd_move rfl) rfl ?_
  refine Wx.cut (X := Unit) 3 [14, 15, 16] (fun _ => [(16, .bool (decide ((rimE rim) = 0) && (restE rim) == ({ data := #[] } : ByteArray)))]) (fun _ w' => St w [] w' []) ?_ ?_
  · rcases Bool.eq_false_or_eq_true (decide ((rimE rim) = 0)) with g_4 | g_4
    · -- True
      have gp_5 := of_decide_eq_true g_4
      refine Wx.gyes rfl rfl (congrArg Value.bool g_4) ?_
      refine Wx.rd (v := .string (restE rim)) (rd_move rfl) rfl ?_
      refine Wx.gyes rfl rfl (congrArg Value.bool g_4) ?_
      refine Wx.rd (v := .bool ((restE rim) == ({ data := #[] } : ByteArray))) (rd_eqlS rfl rfl) rfl ?_
      refine Wx.rd (v := .bool ((restE rim) == ({ data := #[] } : ByteArray))) (rd_pickT (congrArg Value.bool g_4) rfl) rfl ?_
      refine Wx.nil ⟨(), hS, ⟨?_, trivial⟩, Out.look rfl Out.refl⟩
      show Value.bool ((restE rim) == ({ data := #[] } : ByteArray)) = Value.bool (decide ((rimE rim) = 0) && (restE rim) == ({ data := #[] } : ByteArray))
      rw [g_4]; rfl
    · -- False
      have gp_6 := of_decide_eq_false g_4
      refine Wx.gnoB rfl rfl (congrArg Value.bool g_4) rfl rfl ?_
      refine Wx.gnoB rfl rfl (congrArg Value.bool g_4) rfl rfl ?_
      refine Wx.rd (v := .bool false) (rd_pickF (congrArg Value.bool g_4) rfl) rfl ?_
      refine Wx.nil ⟨(), hS, ⟨?_, trivial⟩, Out.look rfl Out.refl⟩
      show Value.bool false = Value.bool (decide ((rimE rim) = 0) && (restE rim) == ({ data := #[] } : ByteArray))
      rw [g_4]; rfl
  rintro ⟨⟩ u_8 w_7 hS
  refine Wx.rd (v := .int .i64 (rimE rim)) (rd_move rfl) rfl ?_
  refine Wx.rd (v := .bool (decide ((rimE rim) = 0) && (restE rim) == ({ data := #[] } : ByteArray))) (rd_assign rfl) rfl ?_
  refine Wx.rd (v := .int .i64 (rimE rim)) (rd_assign rfl) rfl ?_
  refine Wx.nil ?_
  have e0_0 : (fullP rim) = (decide ((rimE rim) = 0) && (restE rim) == ({ data := #[] } : ByteArray)) := by rw [fullP, restE]; by_cases h : rimE rim = 0; (rw [if_pos h]; rfl); (rw [decide_eq_false h]; rfl)
  exact W.ret ⟨.tuple #[.bool (decide ((rimE rim) = 0) && (restE rim) == ({ data := #[] } : ByteArray)), .int .i64 (rimE rim)], ResIs.two, hS.bel, (by rw [e0_0])⟩

theorem F36 {rim : ByteArray} {w : World} (s_rim : rim.size ≤ maxLen) (hG : Laid w) : Calls Tryd.prog 36 #[.string rim] w (Ret w (fun r _ => r = .tuple #[.string (coreV rim), .int .i64 (rimE rim)])) := by
  have hS := St.start0 w
  refine enterR Tryd.func36 rfl Tryd.ntmps36 Tryd.results36 rfl ?_
  refine W.seq ?_
  refine W.reg ?_
  refine Wx.rd (v := .string ({ data := #[] } : ByteArray)) (rd_assign rfl) rfl ?_
  refine Wx.rd (v := .int .i64 0) (rd_assign rfl) rfl ?_
  refine Wx.nil ?_
  refine W.seq ?_
  refine W.reg ?_
  refine Wx.rd (v := .string rim) (rd_move rfl) rfl ?_
  refine Wx.callF (run_callF Tryd.call32 rfl) (F32 (by first | assumption | (simp only [maxLen]; omega) | (simp only [ByteArray.size_extract, ByteArray.size_append, maxLen] at *; omega) | decide) (hG.ext hS.bel)) rfl ?_
  rintro r_1 w_2 hx_3 rfl
  have hS := hS.ext hx_3
  refine Wx.rd (v := .tuple #[.string (restE rim), .int .i64 (rimE rim)]) (rd_move rfl) rfl ?_
  refine Wx.rd (v := .string (restE rim)) (rd_extract rfl rfl) rfl ?_
  refine Wx.rd (v := .int .i64 (rimE rim)) (rd_extract rfl rfl) rfl ?_
  refine Wx.rd (v := .string (restE rim)) (rd_assign rfl) rfl ?_
  refine Wx.rd (v := .int .i64 (rimE rim)) (rd_assign rfl) rfl ?_
  refine Wx.nil ?_
  refine W.seq ?_
  refine W.seq ?_
  refine W.reg ?_
  refine Wx.rd (v := .int .i64 (rimE rim)) (rd_move rfl) rfl ?_
  refine Wx.rd (v := .bool (decide ((rimE rim) ≠ 0))) (rd_neq rfl rfl) rfl ?_
  refine Wx.nil ?_
  refine W.condD rfl (fun c0 => ?_) (fun c0 => ?_)
  · -- yes
    refine W.seq ?_
    refine W.reg ?_
    refine Wx.rd (v := .int .i64 (rimE rim)) (rd_move rfl) rfl ?_
    refine Wx.rd (v := .string ({ data := #[] } : ByteArray)) (rd_assign rfl) rfl ?_
    refine Wx.rd (v := .int .i64 (rimE rim)) (rd_assign rfl) rfl ?_
    refine Wx.nil ?_
    have e0_0 : (coreV rim) = ({ data := #[] } : ByteArray) := by rw [coreV, if_neg c0]; rfl
    exact W.ret ⟨.tuple #[.string ({ data := #[] } : ByteArray), .int .i64 (rimE rim)], ResIs.two, hS.bel, (by rw [e0_0])⟩
  · -- no
    have hr0 : rimE rim = 0 := by omega
    obtain ⟨hr1, hr2⟩ := rimE_ok hr0
    have hrs := rest_size (s := rim)
    have hre : restE rim = restV rim := if_pos hr0
    refine W.skip ?_
    refine W.seq ?_
    refine W.block ?_
    refine W.loop [4, 14, 15, 16, 17, 18, 19, 20, 21, 22, 23, 24, 25, 26, 27, 28] (fun (cur : ByteArray) => [(4, .string cur)]) (fun (cur : ByteArray) w' => St w [] w' [] ∧ coreF cur = coreF (restV rim) ∧ Lets cur ∧ (cur.size : Int) ≤ 12) (fun (cur : ByteArray) => cur.size) (restE rim) ⟨rfl, trivial⟩ ⟨hS, (by rw [hre]), (by rw [hre]; exact hr2.rest), (by rw [hre]; omega)⟩ ?_
    rintro cur u_5 w_4 ⟨hS, h1, h2, h3⟩
    refine W.seq ?_
    refine W.seq ?_
    refine W.reg ?_
    refine Wx.rd (v := .string cur) (rd_move rfl) rfl ?_
    refine Wx.rd (v := .int .i64 (cur.size : Int)) (rd_lenS rfl Tryd.underlying9) rfl ?_
    refine Wx.rd (v := .bool (decide (1 < (cur.size : Int)))) (rd_gtr rfl rfl) rfl ?_
    refine Wx.rd (v := .bool (decide (1 < (cur.size : Int)))) (rd_move rfl) rfl ?_
    refine Wx.cut (X := Unit) 6 [18, 19, 20, 21, 22, 23] (fun _ => [(23, .bool (decide (1 < (cur.size : Int)) && fitR cur 0 ((cur.size : Int) - 1)))]) (fun _ w' => St w [] w' []) ?_ ?_
    · rcases Bool.eq_false_or_eq_true (decide (1 < (cur.size : Int))) with g_6 | g_6
      · -- True
        have gp_7 := of_decide_eq_true g_6
        refine Wx.gyes rfl rfl (congrArg Value.bool g_6) ?_
        refine Wx.rd (v := .string cur) (rd_move rfl) rfl ?_
        refine Wx.gyes rfl rfl (congrArg Value.bool g_6) ?_
        refine Wx.rd (v := .string cur) (rd_move rfl) rfl ?_
        refine Wx.gyes rfl rfl (congrArg Value.bool g_6) ?_
        refine Wx.rd (v := .int .i64 (cur.size : Int)) (rd_lenS rfl Tryd.underlying9) rfl ?_
        refine Wx.gyes rfl rfl (congrArg Value.bool g_6) ?_
        refine Wx.rd (v := .int .i64 ((cur.size : Int) - 1)) (rd_sub rfl rfl (in_i64 (by omega) (by omega))) rfl ?_
        refine Wx.gyes rfl rfl (congrArg Value.bool g_6) ?_
        refine Wx.callF (run_callF Tryd.call61 rfl) (F61 (by first | assumption | (simp only [maxLen]; omega) | (simp only [ByteArray.size_extract, ByteArray.size_append, maxLen] at *; omega) | decide) (in_i64 (by omega) (by omega)) (in_i64 (by omega) (by omega)) (by omega) (by omega) (by omega) (by omega) (by omega) (hG.ext hS.bel)) rfl ?_
        rintro r_8 w_9 hx_10 rfl
        have hS := hS.ext hx_10
        refine Wx.rd (v := .bool (fitR cur 0 ((cur.size : Int) - 1))) (rd_pickT (congrArg Value.bool g_6) rfl) rfl ?_
        refine Wx.nil ⟨(), hS, ⟨?_, trivial⟩, Out.look rfl Out.refl⟩
        show Value.bool (fitR cur 0 ((cur.size : Int) - 1)) = Value.bool (decide (1 < (cur.size : Int)) && fitR cur 0 ((cur.size : Int) - 1))
        rw [g_6]; rfl
      · -- False
        have gp_11 := of_decide_eq_false g_6
        refine Wx.gnoB rfl rfl (congrArg Value.bool g_6) rfl rfl ?_
        refine Wx.gnoB rfl rfl (congrArg Value.bool g_6) rfl rfl ?_
        refine Wx.gnoB rfl rfl (congrArg Value.bool g_6) rfl rfl ?_
        refine Wx.gnoB rfl rfl (congrArg Value.bool g_6) rfl rfl ?_
        refine Wx.gnoB rfl rfl (congrArg Value.bool g_6) rfl rfl ?_
        refine Wx.rd (v := .bool false) (rd_pickF (congrArg Value.bool g_6) rfl) rfl ?_
        refine Wx.nil ⟨(), hS, ⟨?_, trivial⟩, Out.look rfl Out.refl⟩
        show Value.bool false = Value.bool (decide (1 < (cur.size : Int)) && fitR cur 0 ((cur.size : Int) - 1))
        rw [g_6]; rfl
    rintro ⟨⟩ u_13 w_12 hS
    refine Wx.nil ?_
    refine W.cond rfl (fun c1 => ?_) (fun c1 => ?_)
    · -- yes
      try simp only [Bool.and_eq_true, Bool.or_eq_true, Bool.not_eq_true', Bool.and_eq_false_iff, Bool.or_eq_false_iff, Bool.not_eq_false', decide_eq_true_eq, decide_eq_false_iff_not, not_or, Bool.false_eq_true, Bool.true_eq_false, false_or, or_false, not_false_eq_true] at c1
      refine W.skip ?_
      refine W.block ?_
      refine W.reg ?_
      refine Wx.rd (v := .string cur) (rd_move rfl) rfl ?_
      refine Wx.rd (v := .string cur) (rd_move rfl) rfl ?_
      refine Wx.rd (v := .int .i64 (cur.size : Int)) (rd_lenS rfl Tryd.underlying9) rfl ?_
      refine Wx.rd (v := .int .i64 ((cur.size : Int) - 1)) (rd_sub rfl rfl (in_i64 (by omega) (by omega))) rfl ?_
      refine Wx.rd (v := .string ((cur).extract (1 : Int).toNat ((cur.size : Int) - 1).toNat)) (rd_sliceS_LH Tryd.underlying9 rfl rfl rfl (by omega) (by omega) (by omega)) rfl ?_
      refine Wx.rd (v := .string ((cur).extract (1 : Int).toNat ((cur.size : Int) - 1).toNat)) (rd_assign rfl) rfl ?_
      refine Wx.nil ?_
      refine ⟨(cur).extract (1 : Int).toNat ((cur.size : Int) - 1).toNat, (by exact inner_lt c1.1), ?_, ?_, Out.look rfl (Out.hav rfl (Out.look rfl Out.self))⟩
      · exact ⟨hS, ((coreF_yes c1).trans h1), (h2.extract _ _), (inner_le h3)⟩
      · exact ⟨rfl, trivial⟩
    · -- no
      try simp only [Bool.and_eq_true, Bool.or_eq_true, Bool.not_eq_true', Bool.and_eq_false_iff, Bool.or_eq_false_iff, Bool.not_eq_false', decide_eq_true_eq, decide_eq_false_iff_not, not_or, Bool.false_eq_true, Bool.true_eq_false, false_or, or_false, not_false_eq_true] at c1
      refine W.exit rfl ?_
      refine W.seq ?_
      refine W.reg ?_
      refine Wx.rd (v := .string cur) (rd_move rfl) rfl ?_
      refine Wx.rd (v := .string cur) (rd_assign rfl) rfl ?_
      refine Wx.rd (v := .int .i64 0) (rd_assign rfl) rfl ?_
      refine Wx.nil ?_
      have e1_0 : (coreV rim) = cur := by rw [coreV, if_pos hr0, ← h1, coreF_no c1]
      have e1_1 : (rimE rim) = (0 : Int) := by exact hr0
      exact W.ret ⟨.tuple #[.string cur, .int .i64 0], ResIs.two, hS.bel, (by rw [e1_0, e1_1])⟩

end Go.Proofs.YtokdjjebnomciaaDoor

namespace Go.Proofs.YtokdjjebnomciaaDoor
open Go.Wk Go.RowKit Go.Lib
set_option linter.unusedVariables false
set_option linter.unusedSimpArgs false
theorem mixedHi_ : Tryd.prog.follows .mixedOrders = true := by kernel_rfl

theorem F38 {rim : ByteArray} {d : Int} {w : World} (s_rim : rim.size ≤ maxLen) (i_d : InK .i64 d) (hG : Laid w) : Calls Tryd.prog 38 #[.string rim, .int .i64 d] w (Ret w (fun r _ => r = .tuple #[.string (turnS rim d), .int .i64 (turnE rim d)])) := by
  have b_d := bd_i64 i_d
  have hS := St.start0 w
  refine enterR Tryd.func38 rfl Tryd.ntmps38 Tryd.results38 rfl ?_
  refine W.seq ?_
  refine W.reg ?_
  refine Wx.rd (v := .string ({ data := #[] } : ByteArray)) (rd_assign rfl) rfl ?_
  refine Wx.rd (v := .int .i64 0) (rd_assign rfl) rfl ?_
  refine Wx.nil ?_
  refine W.seq ?_
  refine W.reg ?_
  refine Wx.rd (v := .string rim) (rd_move rfl) rfl ?_
  refine Wx.callF (run_callF Tryd.call17 rfl) (F17 (by first | assumption | (simp only [maxLen]; omega) | (simp only [ByteArray.size_extract, ByteArray.size_append, maxLen] at *; omega) | decide)) rfl ?_
  rintro r_1 w_2 hx_3 rfl
  have hS := hS.ext hx_3
  refine Wx.rd (v := .int .i64 (rimE rim)) (rd_assign rfl) rfl ?_
  refine Wx.nil ?_
  refine W.seq ?_
  refine W.block ?_
  refine W.seq ?_
  refine W.reg ?_
  refine Wx.rd (v := .int .i64 (rimE rim)) (rd_move rfl) rfl ?_
  refine Wx.rd (v := .bool (decide ((rimE rim) ≠ 0))) (rd_neq rfl rfl) rfl ?_
  refine Wx.rd (v := .bool (decide ((rimE rim) ≠ 0))) (rd_assign rfl) rfl ?_
  refine Wx.nil ?_
  refine W.condD rfl (fun c0 => ?_) (fun c0 => ?_)
  · -- yes
    refine W.seq ?_
    refine W.reg ?_
    refine Wx.rd (v := .int .i64 (rimE rim)) (rd_move rfl) rfl ?_
    refine Wx.rd (v := .string ({ data := #[] } : ByteArray)) (rd_assign rfl) rfl ?_
    refine Wx.rd (v := .int .i64 (rimE rim)) (rd_assign rfl) rfl ?_
    refine Wx.nil ?_
    have e0_0 : (turnS rim d) = ({ data := #[] } : ByteArray) := by exact (turn_err c0).1
    have e0_1 : (turnE rim d) = (rimE rim : Int) := by exact (turn_err c0).2
    exact W.ret ⟨.tuple #[.string ({ data := #[] } : ByteArray), .int .i64 (rimE rim)], ResIs.two, hS.bel, (by rw [e0_0, e0_1])⟩
  · -- no
    have hr0 : rimE rim = 0 := by omega
    obtain ⟨hr1, hr2⟩ := rimE_ok hr0
    refine W.seq ?_
    refine W.reg ?_
    refine Wx.rd (v := .int .i64 d) (rd_move rfl) rfl ?_
    refine Wx.rd (v := .bool (decide (d < 0))) (rd_lss rfl rfl) rfl ?_
    refine Wx.rd (v := .bool (decide (d < 0))) (rd_move rfl) rfl ?_
    refine Wx.cut (X := Unit) 9 [17, 18, 19, 20, 21, 22, 23, 24, 25] (fun _ => [(25, .bool (decide (d < 0) || (decide (0 < d) && decide ((rim.size : Int) ≤ d))))]) (fun _ w' => St w [] w' []) ?_ ?_
    · rcases Bool.eq_false_or_eq_true (decide (d < 0)) with g_4 | g_4
      · -- True
        have gp_5 := of_decide_eq_true g_4
        refine Wx.gnoB rfl rfl (congrArg Value.bool g_4) rfl rfl ?_
        refine Wx.gnoB rfl rfl (congrArg Value.bool g_4) rfl rfl ?_
        refine Wx.gnoB rfl rfl (congrArg Value.bool g_4) rfl rfl ?_
        refine Wx.gno rfl rfl rfl rfl ?_
        refine Wx.gno rfl rfl rfl rfl ?_
        refine Wx.gno rfl rfl rfl rfl ?_
        refine Wx.gno rfl rfl rfl rfl ?_
        refine Wx.gnoB rfl rfl (congrArg Value.bool g_4) rfl rfl ?_
        refine Wx.rd (v := .bool true) (rd_pickT (congrArg Value.bool g_4) rfl) rfl ?_
        refine Wx.nil ⟨(), hS, ⟨?_, trivial⟩, Out.look rfl Out.refl⟩
        show Value.bool true = Value.bool (decide (d < 0) || (decide (0 < d) && decide ((rim.size : Int) ≤ d)))
        rw [g_4]; rfl
      · -- False
        have gp_6 := of_decide_eq_false g_4
        refine Wx.gyes rfl rfl (congrArg Value.bool g_4) ?_
        refine Wx.rd (v := .int .i64 d) (rd_move rfl) rfl ?_
        refine Wx.gyes rfl rfl (congrArg Value.bool g_4) ?_
        refine Wx.rd (v := .bool (decide (0 < d))) (rd_gtr rfl rfl) rfl ?_
        refine Wx.gyes rfl rfl (congrArg Value.bool g_4) ?_
        refine Wx.rd (v := .bool (decide (0 < d))) (rd_move rfl) rfl ?_
        refine Wx.cut (X := Unit) 5 [20, 21, 22, 23, 24] (fun _ => [(24, .bool (decide (0 < d) && decide ((rim.size : Int) ≤ d)))]) (fun _ w' => St w [] w' []) ?_ ?_
        · rcases Bool.eq_false_or_eq_true (decide (0 < d)) with g_7 | g_7
          · -- True
            have gp_8 := of_decide_eq_true g_7
            refine Wx.gyes rfl rfl (congrArg Value.bool g_7) ?_
            refine Wx.rd (v := .int .i64 d) (rd_move rfl) rfl ?_
            refine Wx.gyes rfl rfl (congrArg Value.bool g_7) ?_
            refine Wx.rd (v := .string rim) (rd_move rfl) rfl ?_
            refine Wx.gyes rfl rfl (congrArg Value.bool g_7) ?_
            refine Wx.rd (v := .int .i64 (rim.size : Int)) (rd_lenS rfl Tryd.underlying9) rfl ?_
            refine Wx.gyes rfl rfl (congrArg Value.bool g_7) ?_
            refine Wx.rd (v := .bool (decide ((rim.size : Int) ≤ d))) (rd_geq rfl rfl) rfl ?_
            refine Wx.gyes rfl rfl (congrArg Value.bool g_4) ?_
            refine Wx.rd (v := .bool (decide ((rim.size : Int) ≤ d))) (rd_pickT (congrArg Value.bool g_7) rfl) rfl ?_
            refine Wx.nil ⟨(), hS, ⟨?_, trivial⟩, Out.look rfl Out.refl⟩
            show Value.bool (decide ((rim.size : Int) ≤ d)) = Value.bool (decide (0 < d) && decide ((rim.size : Int) ≤ d))
            rw [g_7]; rfl
          · -- False
            have gp_9 := of_decide_eq_false g_7
            refine Wx.gnoB rfl rfl (congrArg Value.bool g_7) rfl rfl ?_
            refine Wx.gnoB rfl rfl (congrArg Value.bool g_7) rfl rfl ?_
            refine Wx.gnoB rfl rfl (congrArg Value.bool g_7) rfl rfl ?_
            refine Wx.gnoB rfl rfl (congrArg Value.bool g_7) rfl rfl ?_
            refine Wx.gyes rfl rfl (congrArg Value.bool g_4) ?_
            refine Wx.rd (v := .bool false) (rd_pickF (congrArg Value.bool g_7) rfl) rfl ?_
            refine Wx.nil ⟨(), hS, ⟨?_, trivial⟩, Out.look rfl Out.refl⟩
            show Value.bool false = Value.bool (decide (0 < d) && decide ((rim.size : Int) ≤ d))
            rw [g_7]; rfl
        rintro ⟨⟩ u_11 w_10 hS
        refine Wx.rd (v := .bool (decide (0 < d) && decide ((rim.size : Int) ≤ d))) (rd_pickF (congrArg Value.bool g_4) rfl) rfl ?_
        refine Wx.nil ⟨(), hS, ⟨?_, trivial⟩, Out.look rfl (Out.hav rfl (Out.look rfl Out.refl))⟩
        show Value.bool (decide (0 < d) && decide ((rim.size : Int) ≤ d)) = Value.bool (decide (d < 0) || (decide (0 < d) && decide ((rim.size : Int) ≤ d)))
        rw [g_4]; rfl
    rintro ⟨⟩ u_13 w_12 hS
    refine Wx.rd (v := .bool (decide (d < 0) || (decide (0 < d) && decide ((rim.size : Int) ≤ d)))) (rd_assign rfl) rfl ?_
    refine Wx.nil ?_
    refine W.cond rfl (fun c1 => ?_) (fun c1 => ?_)
    · -- yes
      try simp only [Bool.and_eq_true, Bool.or_eq_true, Bool.not_eq_true', Bool.and_eq_false_iff, Bool.or_eq_false_iff, Bool.not_eq_false', decide_eq_true_eq, decide_eq_false_iff_not, not_or, Bool.false_eq_true, Bool.true_eq_false, false_or, or_false, not_false_eq_true] at c1
      refine W.seq ?_
      refine W.reg ?_
      refine Wx.rd (v := .string ({ data := #[] } : ByteArray)) (rd_assign rfl) rfl ?_
      refine Wx.rd (v := .int .i64 1) (rd_assign rfl) rfl ?_
      refine Wx.nil ?_
      have e1_0 : (turnS rim d) = ({ data := #[] } : ByteArray) := by exact (turn_bad hr0 c1).1
      have e1_1 : (turnE rim d) = (1 : Int) := by exact (turn_bad hr0 c1).2
      exact W.ret ⟨.tuple #[.string ({ data := #[] } : ByteArray), .int .i64 1], ResIs.two, hS.bel, (by rw [e1_0, e1_1])⟩
    · -- no
      try simp only [Bool.and_eq_true, Bool.or_eq_true, Bool.not_eq_true', Bool.and_eq_false_iff, Bool.or_eq_false_iff, Bool.not_eq_false', decide_eq_true_eq, decide_eq_false_iff_not, not_or, Bool.false_eq_true, Bool.true_eq_false, false_or, or_false, not_false_eq_true] at c1
      refine W.skip ?_
      refine W.seq ?_
      refine W.regQ mixedHi_ (by kernel_rfl) ?_
      refine Wx.rd (v := .string rim) (rd_move rfl) rfl ?_
      refine Wx.rd (v := .int .i64 d) (rd_move rfl) rfl ?_
      refine Wx.rd (v := .string ((rim).extract d.toNat rim.size)) (rd_sliceS_L Tryd.underlying9 rfl rfl (by omega) (by omega)) rfl ?_
      refine Wx.rd (v := .string rim) (rd_move rfl) rfl ?_
      refine Wx.rd (v := .int .i64 d) (rd_move rfl) rfl ?_
      refine Wx.rd (v := .string ((rim).extract 0 d.toNat)) (rd_sliceS_H Tryd.underlying9 rfl rfl (by omega) (by omega)) rfl ?_
      refine Wx.rd (v := .string (((rim).extract d.toNat rim.size) ++ ((rim).extract 0 d.toNat))) (rd_addS rfl rfl (by rw [ByteArray.size_extract, ByteArray.size_extract]; omega)) rfl ?_
      refine Wx.rd (v := .string (((rim).extract d.toNat rim.size) ++ ((rim).extract 0 d.toNat))) (rd_assign rfl) rfl ?_
      refine Wx.rd (v := .int .i64 0) (rd_assign rfl) rfl ?_
      refine Wx.nilQ (fun w_14 hx_15 => ?_)
      have hS := hS.ext hx_15
      have e2_0 : (turnS rim d) = (((rim).extract d.toNat rim.size) ++ ((rim).extract 0 d.toNat)) := by exact (turn_ok hr0 (by omega)).1
      have e2_1 : (turnE rim d) = (0 : Int) := by exact (turn_ok hr0 (by omega)).2
      exact W.ret ⟨.tuple #[.string (((rim).extract d.toNat rim.size) ++ ((rim).extract 0 d.toNat)), .int .i64 0], ResIs.two, hS.bel, (by rw [e2_0, e2_1])⟩

theorem F80 {v : Value} {ys : List Int}  {ob : List Ob} {w0 w : World} {O : List (Option Nat)}  (hS : St w0 O w (.row (tI .i32) 21 v ys :: ob)) : Calls Tryd.prog 80 #[v] w (Bk fun r w' => r = .tuple #[] ∧ St w0 O w' (.row (tI .i32) 21 v (ys.reverse) :: ob)) := by
  have hyl : (ys.length : Int) ≤ 9223372036854775807 := by have := hS.rowLen 0 rfl; simp only [maxLen] at this; omega
  refine enterB Tryd.func80 rfl Tryd.ntmps80 Tryd.results80 rfl ?_
  refine W.seq ?_
  refine W.reg ?_
  refine Wx.rd (v := v) (rd_move rfl) rfl ?_
  refine Wx.rd (v := .int .i64 (ys.length : Int)) (rd_lenR hS 0 rfl rfl Tryd.underlying98) rfl ?_
  refine Wx.rd (v := .int .i64 ((ys.length : Int) - 1)) (rd_sub rfl rfl (in_i64 (by omega) (by omega))) rfl ?_
  refine Wx.rd (v := .int .i64 0) (rd_assign rfl) rfl ?_
  refine Wx.rd (v := .int .i64 ((ys.length : Int) - 1)) (rd_assign rfl) rfl ?_
  refine Wx.nil ?_
  refine W.block ?_
  refine W.loop [2, 3, 7, 8, 9, 10, 11, 12, 13, 14, 15, 16, 17, 18, 19, 20, 21, 22, 23, 24, 25, 26, 27] (fun x : Int × Int × (List Int) => match x with | (i, j, z) => [(2, .int .i64 i), (3, .int .i64 j)]) (fun (x : Int × Int × (List Int)) w' => match x with | (i, j, z) => St w0 O w' (.row (tI .i32) 21 v z :: ob) ∧ 0 ≤ i ∧ j = (ys.length : Int) - 1 - i ∧ z = revS ys i ∧ z.length = ys.length) (fun x : Int × Int × (List Int) => match x with | (i, j, z) => (j - i).toNat) (0, (ys.length : Int) - 1, ys) ⟨rfl, rfl, trivial⟩ ⟨hS, (by first | omega | simp), (by first | omega | simp), ((revS_start ys).symm), (rfl)⟩ ?_
  rintro ⟨i, j, z⟩ u_2 w_1 ⟨hS, h0, h1, h2, h3⟩
  refine W.seq ?_
  refine W.seq ?_
  refine W.reg ?_
  refine Wx.rd (v := .int .i64 i) (rd_move rfl) rfl ?_
  refine Wx.rd (v := .int .i64 j) (rd_move rfl) rfl ?_
  refine Wx.rd (v := .bool (decide (i < j))) (rd_lss rfl rfl) rfl ?_
  refine Wx.nil ?_
  refine W.condD rfl (fun c0 => ?_) (fun c0 => ?_)
  · -- yes
    refine W.skip ?_
    refine W.seq ?_
    refine W.block ?_
    refine W.regP mixedHi_ (fun w_3 hx_4 => ?_)
    have hS := hS.ext hx_4
    obtain ⟨g_5, c_6, rfl, hc_7⟩ := hS.rowForm 0 rfl (by omega)
    refine Wp.rd (v := (.slice (some ⟨g_5, 0, none⟩) z.length c_6)) 0 rfl (by kernel_rfl) (fun _ => (rd_move rfl)) rfl ?_
    refine Wp.rd (v := .int .i64 i) 1 rfl (by kernel_rfl) (fun _ => (rd_move rfl)) rfl ?_
    refine Wp.rd (v := (.slice (some ⟨g_5, 0, none⟩) z.length c_6)) 2 rfl (by kernel_rfl) (fun _ => (rd_move rfl)) rfl ?_
    refine Wp.rd (v := .int .i64 j) 3 rfl (by kernel_rfl) (fun _ => (rd_move rfl)) rfl ?_
    refine Wp.rd (v := (.slice (some ⟨g_5, 0, none⟩) z.length c_6)) 4 rfl (by kernel_rfl) (fun _ => (rd_move rfl)) rfl ?_
    refine Wp.rd (v := .int .i64 j) 5 rfl (by kernel_rfl) (fun _ => (rd_move rfl)) rfl ?_
    refine Wp.rd (v := .pointer (some ⟨g_5, j.toNat * 1, none⟩)) 6 rfl (by kernel_rfl) (fun _ => (rd_indexO Tryd.underlying98 Tryd.sizeOf21 rfl rfl (by first | omega | (simp only [List.length_set, List.length_append, List.length_cons, List.length_nil, List.length_replicate]; omega)) (by first | omega | (simp only [List.length_set, List.length_append, List.length_cons, List.length_nil, List.length_replicate]; omega)))) rfl ?_
    refine Wp.rd (v := (.slice (some ⟨g_5, 0, none⟩) z.length c_6)) 8 rfl (by kernel_rfl) (fun _ => (rd_move rfl)) rfl ?_
    refine Wp.rd (v := .int .i64 i) 9 rfl (by kernel_rfl) (fun _ => (rd_move rfl)) rfl ?_
    refine Wp.rd (v := .pointer (some ⟨g_5, i.toNat * 1, none⟩)) 10 rfl (by kernel_rfl) (fun _ => (rd_indexO Tryd.underlying98 Tryd.sizeOf21 rfl rfl (by first | omega | (simp only [List.length_set, List.length_append, List.length_cons, List.length_nil, List.length_replicate]; omega)) (by first | omega | (simp only [List.length_set, List.length_append, List.length_cons, List.length_nil, List.length_replicate]; omega)))) rfl ?_
    refine Wp.br [7, 11] (by kernel_rfl) (by decide) ⟨⟨_, rfl, ?_⟩, ⟨_, rfl, ?_⟩, trivial⟩
    · -- operation 7
      refine Wx.rd (v := .int .i32 (ix 0 z j)) (rd_loadRI' hS 0 rfl rfl rfl (by first | omega | (simp only [List.length_set, List.length_append, List.length_cons, List.length_nil, List.length_replicate]; omega)) (by first | omega | (simp only [List.length_set, List.length_append, List.length_cons, List.length_nil, List.length_replicate]; omega)) Tryd.isAgg21 Tryd.sizeOf21) rfl ?_
      have bd_8 := bd_i32 (hS.rowInK' 0 rfl (by first | omega | (simp only [List.length_set, List.length_append, List.length_cons, List.length_nil, List.length_replicate]; omega)) (by first | omega | (simp only [List.length_set, List.length_append, List.length_cons, List.length_nil, List.length_replicate]; omega)) : InK .i32 (ix 0 z j))
      refine Wx.nil ?_
      refine Wp.br [11] (by kernel_rfl) (by decide) ⟨⟨_, rfl, ?_⟩, trivial⟩
      refine Wx.rd (v := .int .i32 (ix 0 z i)) (rd_loadRI' hS 0 rfl rfl rfl (by first | omega | (simp only [List.length_set, List.length_append, List.length_cons, List.length_nil, List.length_replicate]; omega)) (by first | omega | (simp only [List.length_set, List.length_append, List.length_cons, List.length_nil, List.length_replicate]; omega)) Tryd.isAgg21 Tryd.sizeOf21) rfl ?_
      have bd_9 := bd_i32 (hS.rowInK' 0 rfl (by first | omega | (simp only [List.length_set, List.length_append, List.length_cons, List.length_nil, List.length_replicate]; omega)) (by first | omega | (simp only [List.length_set, List.length_append, List.length_cons, List.length_nil, List.length_replicate]; omega)) : InK .i32 (ix 0 z i))
      refine Wx.nil ?_
      refine Wp.rd (v := .pointer (some ⟨g_5, i.toNat * 1, none⟩)) 12 rfl (by kernel_rfl) (fun _ => (rd_indexO Tryd.underlying98 Tryd.sizeOf21 rfl rfl (by first | omega | (simp only [List.length_set, List.length_append, List.length_cons, List.length_nil, List.length_replicate]; omega)) (by first | omega | (simp only [List.length_set, List.length_append, List.length_cons, List.length_nil, List.length_replicate]; omega)))) rfl ?_
      refine Wp.br [13] (by kernel_rfl) (by decide) ⟨⟨_, rfl, ?_⟩, trivial⟩
      refine Wx.storeR (j := i.toNat) (z := ix 0 z j) hS 0 rfl rfl rfl (by first | omega | (simp only [List.length_set, List.length_append, List.length_cons, List.length_nil, List.length_replicate]; omega)) rfl (V.mkInt (in_i32 (by omega) (by omega))) Tryd.sizeOf21 (fun w_10 hz_11 hS => ?_)
      refine Wx.nil ?_
      refine Wp.rd (v := .pointer (some ⟨g_5, j.toNat * 1, none⟩)) 14 rfl (by kernel_rfl) (fun _ => (rd_indexO Tryd.underlying98 Tryd.sizeOf21 rfl rfl (by first | omega | (simp only [List.length_set, List.length_append, List.length_cons, List.length_nil, List.length_replicate]; omega)) (by first | omega | (simp only [List.length_set, List.length_append, List.length_cons, List.length_nil, List.length_replicate]; omega)))) rfl ?_
      refine Wp.br [15] (by kernel_rfl) (by decide) ⟨⟨_, rfl, ?_⟩, trivial⟩
      refine Wx.storeR (j := j.toNat) (z := ix 0 z i) hS 0 rfl rfl rfl (by first | omega | (simp only [List.length_set, List.length_append, List.length_cons, List.length_nil, List.length_replicate]; omega)) rfl (V.mkInt (in_i32 (by omega) (by omega))) Tryd.sizeOf21 (fun w_12 hz_13 hS => ?_)
      refine Wx.nil ?_
      refine Wp.done (by kernel_rfl) ?_
      refine W.reg ?_
      refine Wx.rd (v := .int .i64 i) (rd_move rfl) rfl ?_
      refine Wx.rd (v := .int .i64 (i + 1)) (rd_add rfl rfl (in_i64 (by omega) (by omega))) rfl ?_
      refine Wx.rd (v := .int .i64 j) (rd_move rfl) rfl ?_
      refine Wx.rd (v := .int .i64 (j - 1)) (rd_sub rfl rfl (in_i64 (by omega) (by omega))) rfl ?_
      refine Wx.rd (v := .int .i64 (i + 1)) (rd_assign rfl) rfl ?_
      refine Wx.rd (v := .int .i64 (j - 1)) (rd_assign rfl) rfl ?_
      refine Wx.nil ?_
      refine ⟨(i + 1, j - 1, List.set (List.set z i.toNat (ix 0 z j)) j.toNat (ix 0 z i)), (by show ((j - 1) - (i + 1)).toNat < (j - i).toNat; omega), ?_, ?_, Out.look rfl Out.self⟩
      · exact ⟨hS, (by first | omega | assumption), (by first | omega | assumption), (by rw [h2]; exact revS_step h0 c0 h1), (by simp; omega)⟩
      · exact ⟨rfl, rfl, trivial⟩
    · -- operation 11
      refine Wx.rd (v := .int .i32 (ix 0 z i)) (rd_loadRI' hS 0 rfl rfl rfl (by first | omega | (simp only [List.length_set, List.length_append, List.length_cons, List.length_nil, List.length_replicate]; omega)) (by first | omega | (simp only [List.length_set, List.length_append, List.length_cons, List.length_nil, List.length_replicate]; omega)) Tryd.isAgg21 Tryd.sizeOf21) rfl ?_
      have bd_14 := bd_i32 (hS.rowInK' 0 rfl (by first | omega | (simp only [List.length_set, List.length_append, List.length_cons, List.length_nil, List.length_replicate]; omega)) (by first | omega | (simp only [List.length_set, List.length_append, List.length_cons, List.length_nil, List.length_replicate]; omega)) : InK .i32 (ix 0 z i))
      refine Wx.nil ?_
      refine Wp.br [7] (by kernel_rfl) (by decide) ⟨⟨_, rfl, ?_⟩, trivial⟩
      refine Wx.rd (v := .int .i32 (ix 0 z j)) (rd_loadRI' hS 0 rfl rfl rfl (by first | omega | (simp only [List.length_set, List.length_append, List.length_cons, List.length_nil, List.length_replicate]; omega)) (by first | omega | (simp only [List.length_set, List.length_append, List.length_cons, List.length_nil, List.length_replicate]; omega)) Tryd.isAgg21 Tryd.sizeOf21) rfl ?_
      have bd_15 := bd_i32 (hS.rowInK' 0 rfl (by first | omega | (simp only [List.length_set, List.length_append, List.length_cons, List.length_nil, List.length_replicate]; omega)) (by first | omega | (simp only [List.length_set, List.length_append, List.length_cons, List.length_nil, List.length_replicate]; omega)) : InK .i32 (ix 0 z j))
      refine Wx.nil ?_
      refine Wp.rd (v := .pointer (some ⟨g_5, i.toNat * 1, none⟩)) 12 rfl (by kernel_rfl) (fun _ => (rd_indexO Tryd.underlying98 Tryd.sizeOf21 rfl rfl (by first | omega | (simp only [List.length_set, List.length_append, List.length_cons, List.length_nil, List.length_replicate]; omega)) (by first | omega | (simp only [List.length_set, List.length_append, List.length_cons, List.length_nil, List.length_replicate]; omega)))) rfl ?_
      refine Wp.br [13] (by kernel_rfl) (by decide) ⟨⟨_, rfl, ?_⟩, trivial⟩
      refine Wx.storeR (j := i.toNat) (z := ix 0 z j) hS 0 rfl rfl rfl (by first | omega | (simp only [List.length_set, List.length_append, List.length_cons, List.length_nil, List.length_replicate]; omega)) rfl (V.mkInt (in_i32 (by omega) (by omega))) Tryd.sizeOf21 (fun w_16 hz_17 hS => ?_)
      refine Wx.nil ?_
      refine Wp.rd (v := .pointer (some ⟨g_5, j.toNat * 1, none⟩)) 14 rfl (by kernel_rfl) (fun _ => (rd_indexO Tryd.underlying98 Tryd.sizeOf21 rfl rfl (by first | omega | (simp only [List.length_set, List.length_append, List.length_cons, List.length_nil, List.length_replicate]; omega)) (by first | omega | (simp only [List.length_set, List.length_append, List.length_cons, List.length_nil, List.length_replicate]; omega)))) rfl ?_
      refine Wp.br [15] (by kernel_rfl) (by decide) ⟨⟨_, rfl, ?_⟩, trivial⟩
      refine Wx.storeR (j := j.toNat) (z := ix 0 z i) hS 0 rfl rfl rfl (by first | omega | (simp only [List.length_set, List.length_append, List.length_cons, List.length_nil, List.length_replicate]; omega)) rfl (V.mkInt (in_i32 (by omega) (by omega))) Tryd.sizeOf21 (fun w_18 hz_19 hS => ?_)
      refine Wx.nil ?_
      refine Wp.done (by kernel_rfl) ?_
      refine W.reg ?_
      refine Wx.rd (v := .int .i64 i) (rd_move rfl) rfl ?_
      refine Wx.rd (v := .int .i64 (i + 1)) (rd_add rfl rfl (in_i64 (by omega) (by omega))) rfl ?_
      refine Wx.rd (v := .int .i64 j) (rd_move rfl) rfl ?_
      refine Wx.rd (v := .int .i64 (j - 1)) (rd_sub rfl rfl (in_i64 (by omega) (by omega))) rfl ?_
      refine Wx.rd (v := .int .i64 (i + 1)) (rd_assign rfl) rfl ?_
      refine Wx.rd (v := .int .i64 (j - 1)) (rd_assign rfl) rfl ?_
      refine Wx.nil ?_
      refine ⟨(i + 1, j - 1, List.set (List.set z i.toNat (ix 0 z j)) j.toNat (ix 0 z i)), (by show ((j - 1) - (i + 1)).toNat < (j - i).toNat; omega), ?_, ?_, Out.look rfl Out.self⟩
      · exact ⟨hS, (by first | omega | assumption), (by first | omega | assumption), (by rw [h2]; exact revS_step h0 c0 h1), (by simp; omega)⟩
      · exact ⟨rfl, rfl, trivial⟩
  · -- no
    refine W.exit rfl ?_
    exact ⟨.tuple #[], ResIs.zero, rfl, hS.spell (ys' := ys.reverse) 0 rfl (by rw [h2]; exact revS_end (by omega))⟩

theorem F40 {rim : ByteArray} {w : World} (s_rim : rim.size ≤ maxLen) (hG : Laid w) : Calls Tryd.prog 40 #[.string rim] w (Ret w (fun r _ => r = .tuple #[.string (oppV rim), .int .i64 (rimE rim)])) := by
  have hS := St.start0 w
  refine enterR Tryd.func40 rfl Tryd.ntmps40 Tryd.results40 rfl ?_
  refine W.seq ?_
  refine W.reg ?_
  refine Wx.rd (v := .string ({ data := #[] } : ByteArray)) (rd_assign rfl) rfl ?_
  refine Wx.rd (v := .int .i64 0) (rd_assign rfl) rfl ?_
  refine Wx.nil ?_
  refine W.seq ?_
  refine W.seq ?_
  refine W.reg ?_
  refine Wx.rd (v := .string rim) (rd_move rfl) rfl ?_
  refine Wx.callF (run_callF Tryd.call17 rfl) (F17 (by first | assumption | (simp only [maxLen]; omega) | (simp only [ByteArray.size_extract, ByteArray.size_append, maxLen] at *; omega) | decide)) rfl ?_
  rintro r_1 w_2 hx_3 rfl
  have hS := hS.ext hx_3
  refine Wx.rd (v := .int .i64 (rimE rim)) (rd_assign rfl) rfl ?_
  refine Wx.nil ?_
  refine W.seq ?_
  refine W.reg ?_
  refine Wx.rd (v := .int .i64 (rimE rim)) (rd_move rfl) rfl ?_
  refine Wx.rd (v := .bool (decide ((rimE rim) ≠ 0))) (rd_neq rfl rfl) rfl ?_
  refine Wx.nil ?_
  refine W.condD rfl (fun c0 => ?_) (fun c0 => ?_)
  · -- yes
    refine W.seq ?_
    refine W.reg ?_
    refine Wx.rd (v := .int .i64 (rimE rim)) (rd_move rfl) rfl ?_
    refine Wx.rd (v := .string ({ data := #[] } : ByteArray)) (rd_assign rfl) rfl ?_
    refine Wx.rd (v := .int .i64 (rimE rim)) (rd_assign rfl) rfl ?_
    refine Wx.nil ?_
    have e0_0 : (oppV rim) = ({ data := #[] } : ByteArray) := by rw [oppV, if_neg c0]; rfl
    exact W.ret ⟨.tuple #[.string ({ data := #[] } : ByteArray), .int .i64 (rimE rim)], ResIs.two, hS.bel, (by rw [e0_0])⟩
  · -- no
    have hr0 : rimE rim = 0 := by omega
    obtain ⟨hr1, hr2⟩ := rimE_ok hr0
    have hol := opp_lets hr2
    have hsz : rim.size = rim.data.toList.length := (by simp)
    refine W.skip ?_
    refine W.seq ?_
    refine W.reg ?_
    refine Wx.rd (v := .string rim) (rd_move rfl) rfl ?_
    refine Wx.callF (run_callF Tryd.call78 rfl) (F78 (by first | assumption | (simp only [maxLen]; omega) | (simp only [ByteArray.size_extract, ByteArray.size_append, maxLen] at *; omega) | decide) (by omega) (hG.ext hS.bel)) rfl ?_
    rintro r_4 w_5 hx_6 rfl
    have hS := hS.ext hx_6
    rw [map_let (lets_mem hr2)]
    refine Wx.runes (ys := runesI (rim.data.toList.map swB)) hS rfl Tryd.underlying9 Tryd.underlying98 Tryd.underlying21 (runes_let (lets_of hol)) (fun y hy => by obtain ⟨b, hb, rfl⟩ := List.mem_map.1 hy; have := let_lt (hol b hb); exact in_i32 (by omega) (by omega)) (by rw [runesI, List.length_map, List.length_map]; omega) rfl (fun v_7 w_8 hx_9 hS => ?_)
    refine Wx.rd (v := v_7) (rd_assign rfl) rfl ?_
    refine Wx.nil ?_
    refine W.seq ?_
    refine W.reg ?_
    refine Wx.rd (v := v_7) (rd_move rfl) rfl ?_
    refine Wx.callB (run_callF Tryd.call80 rfl) (F80 (ob := [])  (hS.front 0 rfl)) rfl ?_
    rintro r_10 w_11 ⟨rfl, hS⟩
    have hS : St _ _ w_11 [.row (tI .i32) 21 v_7 (List.reverse (runesI (rim.data.toList.map swB)))] := St.putBack (obs := [.row (tI .i32) 21 v_7 (runesI (rim.data.toList.map swB))]) 0 hS (by simp)
    refine Wx.nil ?_
    refine W.seq ?_
    refine W.reg ?_
    refine Wx.rd (v := v_7) (rd_move rfl) rfl ?_
    refine Wx.rd (v := .string (runesBytes (List.reverse (runesI (rim.data.toList.map swB))))) (rd_runesStr hS 0 rfl rfl Tryd.underlying98 Tryd.underlying21 Tryd.underlying9) rfl ?_
    refine Wx.rd (v := .string (runesBytes (List.reverse (runesI (rim.data.toList.map swB))))) (rd_assign rfl) rfl ?_
    refine Wx.rd (v := .int .i64 0) (rd_assign rfl) rfl ?_
    refine Wx.nil ?_
    have e1_0 : (oppV rim) = (runesBytes (List.reverse (runesI (rim.data.toList.map swB)))) := by rw [oppV, if_pos hr0, opp_runes, runesBytes_let (fun b hb => hol b (List.mem_reverse.1 hb))]; rfl
    have e1_1 : (rimE rim) = (0 : Int) := by exact hr0
    exact W.ret ⟨.tuple #[.string (runesBytes (List.reverse (runesI (rim.data.toList.map swB)))), .int .i64 0], ResIs.two, hS.bel, (by rw [e1_0, e1_1])⟩

theorem F42 {a : ByteArray} {b : ByteArray} {w : World} (s_a : a.size ≤ maxLen) (s_b : b.size ≤ maxLen) (hG : Laid w) : Calls Tryd.prog 42 #[.string a, .string b] w (Ret w (fun r _ => r = .tuple #[.bool (alikeP a b), .int .i64 (alikeE a b)])) := by
  have hca := coreV_size a
  have hcb := coreV_size b
  have hS := St.start0 w
  refine enterR Tryd.func42 rfl Tryd.ntmps42 Tryd.results42 rfl ?_
  refine W.seq ?_
  refine W.reg ?_
  refine Wx.rd (v := .bool false) (rd_assign rfl) rfl ?_
  refine Wx.rd (v := .int .i64 0) (rd_assign rfl) rfl ?_
  refine Wx.nil ?_
  refine W.seq ?_
  refine W.reg ?_
  refine Wx.rd (v := .string a) (rd_move rfl) rfl ?_
  refine Wx.callF (run_callF Tryd.call36 rfl) (F36 (by first | assumption | (simp only [maxLen]; omega) | (simp only [ByteArray.size_extract, ByteArray.size_append, maxLen] at *; omega) | decide) (hG.ext hS.bel)) rfl ?_
  rintro r_1 w_2 hx_3 rfl
  have hS := hS.ext hx_3
  refine Wx.rd (v := .tuple #[.string (coreV a), .int .i64 (rimE a)]) (rd_move rfl) rfl ?_
  refine Wx.rd (v := .string (coreV a)) (rd_extract rfl rfl) rfl ?_
  refine Wx.rd (v := .int .i64 (rimE a)) (rd_extract rfl rfl) rfl ?_
  refine Wx.rd (v := .string (coreV a)) (rd_assign rfl) rfl ?_
  refine Wx.rd (v := .int .i64 (rimE a)) (rd_assign rfl) rfl ?_
  refine Wx.nil ?_
  refine W.seq ?_
  refine W.seq ?_
  refine W.reg ?_
  refine Wx.rd (v := .int .i64 (rimE a)) (rd_move rfl) rfl ?_
  refine Wx.rd (v := .bool (decide ((rimE a) ≠ 0))) (rd_neq rfl rfl) rfl ?_
  refine Wx.nil ?_
  refine W.condD rfl (fun c0 => ?_) (fun c0 => ?_)
  · -- yes
    refine W.seq ?_
    refine W.reg ?_
    refine Wx.rd (v := .int .i64 (rimE a)) (rd_move rfl) rfl ?_
    refine Wx.rd (v := .bool false) (rd_assign rfl) rfl ?_
    refine Wx.rd (v := .int .i64 (rimE a)) (rd_assign rfl) rfl ?_
    refine Wx.nil ?_
    have e0_0 : (alikeP a b) = false := by have e : alikeE a b = rimE a := if_neg c0; rw [alikeP, e, if_neg c0]
    have e0_1 : (alikeE a b) = (rimE a : Int) := by exact if_neg c0
    exact W.ret ⟨.tuple #[.bool false, .int .i64 (rimE a)], ResIs.two, hS.bel, (by rw [e0_0, e0_1])⟩
  · -- no
    refine W.skip ?_
    refine W.seq ?_
    refine W.reg ?_
    refine Wx.rd (v := .string b) (rd_move rfl) rfl ?_
    refine Wx.callF (run_callF Tryd.call36 rfl) (F36 (by first | assumption | (simp only [maxLen]; omega) | (simp only [ByteArray.size_extract, ByteArray.size_append, maxLen] at *; omega) | decide) (hG.ext hS.bel)) rfl ?_
    rintro r_4 w_5 hx_6 rfl
    have hS := hS.ext hx_6
    refine Wx.rd (v := .tuple #[.string (coreV b), .int .i64 (rimE b)]) (rd_move rfl) rfl ?_
    refine Wx.rd (v := .string (coreV b)) (rd_extract rfl rfl) rfl ?_
    refine Wx.rd (v := .int .i64 (rimE b)) (rd_extract rfl rfl) rfl ?_
    refine Wx.rd (v := .string (coreV b)) (rd_assign rfl) rfl ?_
    refine Wx.rd (v := .int .i64 (rimE b)) (rd_assign rfl) rfl ?_
    refine Wx.nil ?_
    refine W.seq ?_
    refine W.seq ?_
    refine W.reg ?_
    refine Wx.rd (v := .int .i64 (rimE b)) (rd_move rfl) rfl ?_
    refine Wx.rd (v := .bool (decide ((rimE b) ≠ 0))) (rd_neq rfl rfl) rfl ?_
    refine Wx.nil ?_
    refine W.condD rfl (fun c1 => ?_) (fun c1 => ?_)
    · -- yes
      refine W.seq ?_
      refine W.reg ?_
      refine Wx.rd (v := .int .i64 (rimE b)) (rd_move rfl) rfl ?_
      refine Wx.rd (v := .bool false) (rd_assign rfl) rfl ?_
      refine Wx.rd (v := .int .i64 (rimE b)) (rd_assign rfl) rfl ?_
      refine Wx.nil ?_
      have e1_0 : (alikeP a b) = false := by have e : alikeE a b = rimE b := if_pos (by omega); rw [alikeP, e, if_neg c1]
      have e1_1 : (alikeE a b) = (rimE b : Int) := by exact if_pos (by omega)
      exact W.ret ⟨.tuple #[.bool false, .int .i64 (rimE b)], ResIs.two, hS.bel, (by rw [e1_0, e1_1])⟩
    · -- no
      refine W.skip ?_
      refine W.seq ?_
      refine W.reg ?_
      refine Wx.rd (v := .string (coreV a)) (rd_move rfl) rfl ?_
      refine Wx.rd (v := .int .i64 ((coreV a).size : Int)) (rd_lenS rfl Tryd.underlying9) rfl ?_
      refine Wx.rd (v := .string (coreV b)) (rd_move rfl) rfl ?_
      refine Wx.rd (v := .int .i64 ((coreV b).size : Int)) (rd_lenS rfl Tryd.underlying9) rfl ?_
      refine Wx.rd (v := .bool (decide (((coreV a).size : Int) = ((coreV b).size : Int)))) (rd_eql rfl rfl) rfl ?_
      refine Wx.rd (v := .bool (decide (((coreV a).size : Int) = ((coreV b).size : Int)))) (rd_move rfl) rfl ?_
      refine Wx.cut (X := Unit) 6 [31, 32, 33, 34, 35, 36] (fun _ => [(36, .bool (decide (((coreV a).size : Int) = ((coreV b).size : Int)) && contains ((coreV a) ++ (coreV a)).data.toList (coreV b).data.toList))]) (fun _ w' => St w [] w' []) ?_ ?_
      · rcases Bool.eq_false_or_eq_true (decide (((coreV a).size : Int) = ((coreV b).size : Int))) with g_7 | g_7
        · -- True
          have gp_8 := of_decide_eq_true g_7
          refine Wx.gyes rfl rfl (congrArg Value.bool g_7) ?_
          refine Wx.rd (v := .string (coreV a)) (rd_move rfl) rfl ?_
          refine Wx.gyes rfl rfl (congrArg Value.bool g_7) ?_
          refine Wx.rd (v := .string (coreV a)) (rd_move rfl) rfl ?_
          refine Wx.gyes rfl rfl (congrArg Value.bool g_7) ?_
          refine Wx.rd (v := .string ((coreV a) ++ (coreV a))) (rd_addS rfl rfl (by omega)) rfl ?_
          refine Wx.gyes rfl rfl (congrArg Value.bool g_7) ?_
          refine Wx.rd (v := .string (coreV b)) (rd_move rfl) rfl ?_
          refine Wx.gyes rfl rfl (congrArg Value.bool g_7) ?_
          refine Wx.callF (run_callF Tryd.call47 rfl) (F47 (by first | assumption | (simp only [maxLen]; omega) | (simp only [ByteArray.size_extract, ByteArray.size_append, maxLen] at *; omega) | decide) (by first | assumption | (simp only [maxLen]; omega) | (simp only [ByteArray.size_extract, ByteArray.size_append, maxLen] at *; omega) | decide) (by rw [ByteArray.size_append]; omega) (hG.ext hS.bel)) rfl ?_
          rintro r_9 w_10 hx_11 rfl
          have hS := hS.ext hx_11
          refine Wx.rd (v := .bool (contains ((coreV a) ++ (coreV a)).data.toList (coreV b).data.toList)) (rd_pickT (congrArg Value.bool g_7) rfl) rfl ?_
          refine Wx.nil ⟨(), hS, ⟨?_, trivial⟩, Out.look rfl Out.refl⟩
          show Value.bool (contains ((coreV a) ++ (coreV a)).data.toList (coreV b).data.toList) = Value.bool (decide (((coreV a).size : Int) = ((coreV b).size : Int)) && contains ((coreV a) ++ (coreV a)).data.toList (coreV b).data.toList)
          rw [g_7]; rfl
        · -- False
          have gp_12 := of_decide_eq_false g_7
          refine Wx.gnoB rfl rfl (congrArg Value.bool g_7) rfl rfl ?_
          refine Wx.gnoB rfl rfl (congrArg Value.bool g_7) rfl rfl ?_
          refine Wx.gnoB rfl rfl (congrArg Value.bool g_7) rfl rfl ?_
          refine Wx.gnoB rfl rfl (congrArg Value.bool g_7) rfl rfl ?_
          refine Wx.gnoB rfl rfl (congrArg Value.bool g_7) rfl rfl ?_
          refine Wx.rd (v := .bool false) (rd_pickF (congrArg Value.bool g_7) rfl) rfl ?_
          refine Wx.nil ⟨(), hS, ⟨?_, trivial⟩, Out.look rfl Out.refl⟩
          show Value.bool false = Value.bool (decide (((coreV a).size : Int) = ((coreV b).size : Int)) && contains ((coreV a) ++ (coreV a)).data.toList (coreV b).data.toList)
          rw [g_7]; rfl
      rintro ⟨⟩ u_14 w_13 hS
      refine Wx.rd (v := .bool (decide (((coreV a).size : Int) = ((coreV b).size : Int)) && contains ((coreV a) ++ (coreV a)).data.toList (coreV b).data.toList)) (rd_assign rfl) rfl ?_
      refine Wx.rd (v := .int .i64 0) (rd_assign rfl) rfl ?_
      refine Wx.nil ?_
      have e2_0 : (alikeP a b) = (decide (((coreV a).size : Int) = ((coreV b).size : Int)) && contains ((coreV a) ++ (coreV a)).data.toList (coreV b).data.toList) := by have e : alikeE a b = 0 := (if_pos (by omega)).trans (by omega); rw [alikeP, if_pos e]
      have e2_1 : (alikeE a b) = (0 : Int) := by exact (if_pos (by omega)).trans (by omega)
      exact W.ret ⟨.tuple #[.bool (decide (((coreV a).size : Int) = ((coreV b).size : Int)) && contains ((coreV a) ++ (coreV a)).data.toList (coreV b).data.toList), .int .i64 0], ResIs.two, hS.bel, (by rw [e2_0, e2_1])⟩

end Go.Proofs.YtokdjjebnomciaaDoor
