/-
  WHAT IS PROVED HERE, TEXT BY TEXT (several texts of one prover, joined to one file; the conditions stand in each statement):
  * WHAT IS PROVED HERE: what functions of layer 10 hand back, each out of its own code; the conditions stand in each statement.
  * WHAT IS PROVED HERE: what functions of layer 10 hand back, each out of its own code; the conditions stand in each statement.
  * WHAT IS PROVED HERE: what functions of layer 10 hand back, each out of its own code; the conditions stand in each statement.
  * WHAT IS PROVED HERE: what functions of layer 10 hand back, each out of its own code; the conditions stand in each statement.
  * WHAT IS PROVED HERE: arrays of arrays of numbers as they are read at the start. Conditions: the types' closed facts, as hypotheses.
  * WHAT IS PROVED HERE: structs of five parts, integers of one kind all, as they are read at the start. Conditions: the types' closed facts, as hypotheses.
  * WHAT IS PROVED HERE: the given statement of TasteNamed: for every input it returns true, and each argument reads as it did. Conditions: none.
-/
import Derived.Test.YtjbcpggikaeleaaProg
import Derived.Test.YtjbcpggikaeleaaU2
import Derived.Test.YtjbcpggikaeleaaU5
import Derived.Test.YtjbcpggikaeleaaRows
import Derived.WalkKit
import Derived.ProofKit
import Derived.OpenShut
import Derived.Carry
import Derived.Lib.SmallJoins

set_option linter.unusedVariables false
set_option linter.unusedSimpArgs false

namespace Go.Proofs.Ytjbcpggikaeleaa
open Go.Wk Go.RowKit Go.Lib
set_option linter.unusedVariables false
set_option linter.unusedSimpArgs false
theorem mixedLt_ : Try.prog.follows .mixedOrders = true := by kernel_rfl

theorem F58 {v : Value} {ys : List Int}  {ob : List Ob} {w0 w : World} {O : List (Option Nat)}  (hS : St w0 O w (.row (tI .i64) 3 v ys :: ob)) : Calls Try.prog 58 #[v] w (Bk fun r w' => r = .tuple #[] ∧ St w0 O w' (.row (tI .i64) 3 v (ys.reverse) :: ob)) := by
  have hyl : (ys.length : Int) ≤ 9223372036854775807 := by have := hS.rowLen 0 rfl; simp only [maxLen] at this; omega
  refine enterB Try.func58 rfl Try.ntmps58 Try.results58 rfl ?_
  refine W.seq ?_
  refine W.reg ?_
  refine Wx.rd (v := v) (rd_move rfl) rfl ?_
  refine Wx.rd (v := .int .i64 (ys.length : Int)) (rd_lenR hS 0 rfl rfl Try.underlying39) rfl ?_
  refine Wx.rd (v := .int .i64 ((ys.length : Int) - 1)) (rd_sub rfl rfl (in_i64 (by omega) (by omega))) rfl ?_
  refine Wx.rd (v := .int .i64 0) (rd_assign rfl) rfl ?_
  refine Wx.rd (v := .int .i64 ((ys.length : Int) - 1)) (rd_assign rfl) rfl ?_
  refine Wx.nil ?_
  refine W.block ?_
  refine W.loop [2, 3, 7, 8, 9, 10, 11, 12, 13, 14, 15, 16, 17, 18, 19, 20, 21, 22, 23, 24, 25, 26, 27] (fun x : Int × Int × (List Int) => match x with | (i, j, z) => [(2, .int .i64 i), (3, .int .i64 j)]) (fun (x : Int × Int × (List Int)) w' => match x with | (i, j, z) => St w0 O w' (.row (tI .i64) 3 v z :: ob) ∧ 0 ≤ i ∧ j = (ys.length : Int) - 1 - i ∧ z = revG 0 ys i ∧ z.length = ys.length) (fun x : Int × Int × (List Int) => match x with | (i, j, z) => (j - i).toNat) (0, (ys.length : Int) - 1, ys) ⟨rfl, rfl, trivial⟩ ⟨hS, (by first | omega | simp), (by first | omega | simp), ((revG_start ys).symm), (rfl)⟩ ?_
  rintro ⟨i, j, z⟩ u_2 w_1 ⟨hS, h0, h1, h2, h3⟩
  refine W.seq ?_
  refine W.seq ?_
  refine W.reg ?_
  refine Wx.rd (v := .int .i64 i) (rd_move rfl) rfl ?_
  refine Wx.rd (v := .int .i64 j) (rd_move rfl) rfl ?_
  refine Wx.rd (v := .bool (decide (i < j))) (rd_lss rfl rfl) rfl ?_
  refine Wx.nil ?_
  refine W.condD rfl (fun c0 => ?_) (fun c0 => ?_)
  · -- yes
    refine W.skip ?_
    refine W.seq ?_
    refine W.block ?_
    refine W.regP mixedLt_ (fun w_3 hx_4 => ?_)
    have hS := hS.ext hx_4
    obtain ⟨g_5, c_6, rfl, hc_7⟩ := hS.rowForm 0 rfl (by omega)
    refine Wp.rd (v := (.slice (some ⟨g_5, 0, none⟩) z.length c_6)) 0 rfl (by kernel_rfl) (fun _ => (rd_move rfl)) rfl ?_
    refine Wp.rd (v := .int .i64 i) 1 rfl (by kernel_rfl) (fun _ => (rd_move rfl)) rfl ?_
    refine Wp.rd (v := (.slice (some ⟨g_5, 0, none⟩) z.length c_6)) 2 rfl (by kernel_rfl) (fun _ => (rd_move rfl)) rfl ?_
    refine Wp.rd (v := .int .i64 j) 3 rfl (by kernel_rfl) (fun _ => (rd_move rfl)) rfl ?_
    refine Wp.rd (v := (.slice (some ⟨g_5, 0, none⟩) z.length c_6)) 4 rfl (by kernel_rfl) (fun _ => (rd_move rfl)) rfl ?_
    refine Wp.rd (v := .int .i64 j) 5 rfl (by kernel_rfl) (fun _ => (rd_move rfl)) rfl ?_
    refine Wp.rd (v := .pointer (some ⟨g_5, j.toNat * 1, none⟩)) 6 rfl (by kernel_rfl) (fun _ => (rd_indexO Try.underlying39 Try.sizeOf3 rfl rfl (by first | omega | (simp only [List.length_set, List.length_append, List.length_cons, List.length_nil, List.length_replicate]; omega)) (by first | omega | (simp only [List.length_set, List.length_append, List.length_cons, List.length_nil, List.length_replicate]; omega)))) rfl ?_
    refine Wp.rd (v := (.slice (some ⟨g_5, 0, none⟩) z.length c_6)) 8 rfl (by kernel_rfl) (fun _ => (rd_move rfl)) rfl ?_
    refine Wp.rd (v := .int .i64 i) 9 rfl (by kernel_rfl) (fun _ => (rd_move rfl)) rfl ?_
    refine Wp.rd (v := .pointer (some ⟨g_5, i.toNat * 1, none⟩)) 10 rfl (by kernel_rfl) (fun _ => (rd_indexO Try.underlying39 Try.sizeOf3 rfl rfl (by first | omega | (simp only [List.length_set, List.length_append, List.length_cons, List.length_nil, List.length_replicate]; omega)) (by first | omega | (simp only [List.length_set, List.length_append, List.length_cons, List.length_nil, List.length_replicate]; omega)))) rfl ?_
    refine Wp.br [7, 11] (by kernel_rfl) (by decide) ⟨⟨_, rfl, ?_⟩, ⟨_, rfl, ?_⟩, trivial⟩
    · -- operation 7
      refine Wx.rd (v := .int .i64 (ix 0 z j)) (rd_loadRI' hS 0 rfl rfl rfl (by first | omega | (simp only [List.length_set, List.length_append, List.length_cons, List.length_nil, List.length_replicate]; omega)) (by first | omega | (simp only [List.length_set, List.length_append, List.length_cons, List.length_nil, List.length_replicate]; omega)) Try.isAgg3 Try.sizeOf3) rfl ?_
      have bd_8 := bd_i64 (hS.rowInK' 0 rfl (by first | omega | (simp only [List.length_set, List.length_append, List.length_cons, List.length_nil, List.length_replicate]; omega)) (by first | omega | (simp only [List.length_set, List.length_append, List.length_cons, List.length_nil, List.length_replicate]; omega)) : InK .i64 (ix 0 z j))
      refine Wx.nil ?_
      refine Wp.br [11] (by kernel_rfl) (by decide) ⟨⟨_, rfl, ?_⟩, trivial⟩
      refine Wx.rd (v := .int .i64 (ix 0 z i)) (rd_loadRI' hS 0 rfl rfl rfl (by first | omega | (simp only [List.length_set, List.length_append, List.length_cons, List.length_nil, List.length_replicate]; omega)) (by first | omega | (simp only [List.length_set, List.length_append, List.length_cons, List.length_nil, List.length_replicate]; omega)) Try.isAgg3 Try.sizeOf3) rfl ?_
      have bd_9 := bd_i64 (hS.rowInK' 0 rfl (by first | omega | (simp only [List.length_set, List.length_append, List.length_cons, List.length_nil, List.length_replicate]; omega)) (by first | omega | (simp only [List.length_set, List.length_append, List.length_cons, List.length_nil, List.length_replicate]; omega)) : InK .i64 (ix 0 z i))
      refine Wx.nil ?_
      refine Wp.rd (v := .pointer (some ⟨g_5, i.toNat * 1, none⟩)) 12 rfl (by kernel_rfl) (fun _ => (rd_indexO Try.underlying39 Try.sizeOf3 rfl rfl (by first | omega | (simp only [List.length_set, List.length_append, List.length_cons, List.length_nil, List.length_replicate]; omega)) (by first | omega | (simp only [List.length_set, List.length_append, List.length_cons, List.length_nil, List.length_replicate]; omega)))) rfl ?_
      refine Wp.br [13] (by kernel_rfl) (by decide) ⟨⟨_, rfl, ?_⟩, trivial⟩
      refine Wx.storeR (j := i.toNat) (z := ix 0 z j) hS 0 rfl rfl rfl (by first | omega | (simp only [List.length_set, List.length_append, List.length_cons, List.length_nil, List.length_replicate]; omega)) rfl (V.mkInt (in_i64 (by omega) (by omega))) Try.sizeOf3 (fun w_10 hz_11 hS => ?_)
      refine Wx.nil ?_
      refine Wp.rd (v := .pointer (some ⟨g_5, j.toNat * 1, none⟩)) 14 rfl (by kernel_rfl) (fun _ => (rd_indexO Try.underlying39 Try.sizeOf3 rfl rfl (by first | omega | (simp only [List.length_set, List.length_append, List.length_cons, List.length_nil, List.length_replicate]; omega)) (by first | omega | (simp only [List.length_set, List.length_append, List.length_cons, List.length_nil, List.length_replicate]; omega)))) rfl ?_
      refine Wp.br [15] (by kernel_rfl) (by decide) ⟨⟨_, rfl, ?_⟩, trivial⟩
      refine Wx.storeR (j := j.toNat) (z := ix 0 z i) hS 0 rfl rfl rfl (by first | omega | (simp only [List.length_set, List.length_append, List.length_cons, List.length_nil, List.length_replicate]; omega)) rfl (V.mkInt (in_i64 (by omega) (by omega))) Try.sizeOf3 (fun w_12 hz_13 hS => ?_)
      refine Wx.nil ?_
      refine Wp.done (by kernel_rfl) ?_
      refine W.reg ?_
      refine Wx.rd (v := .int .i64 i) (rd_move rfl) rfl ?_
      refine Wx.rd (v := .int .i64 (i + 1)) (rd_add rfl rfl (in_i64 (by omega) (by omega))) rfl ?_
      refine Wx.rd (v := .int .i64 j) (rd_move rfl) rfl ?_
      refine Wx.rd (v := .int .i64 (j - 1)) (rd_sub rfl rfl (in_i64 (by omega) (by omega))) rfl ?_
      refine Wx.rd (v := .int .i64 (i + 1)) (rd_assign rfl) rfl ?_
      refine Wx.rd (v := .int .i64 (j - 1)) (rd_assign rfl) rfl ?_
      refine Wx.nil ?_
      refine ⟨(i + 1, j - 1, List.set (List.set z i.toNat (ix 0 z j)) j.toNat (ix 0 z i)), (by show ((j - 1) - (i + 1)).toNat < (j - i).toNat; omega), ?_, ?_, Out.look rfl Out.self⟩
      · exact ⟨hS, (by first | omega | assumption), (by first | omega | assumption), (by rw [h2]; exact revG_step h0 c0 h1), (by simp; omega)⟩
      · exact ⟨rfl, rfl, trivial⟩
    · -- operation 11
      refine Wx.rd (v := .int .i64 (ix 0 z i)) (rd_loadRI' hS 0 rfl rfl rfl (by first | omega | (simp only [List.length_set, List.length_append, List.length_cons, List.length_nil, List.length_replicate]; omega)) (by first | omega | (simp only [List.length_set, List.length_append, List.length_cons, List.length_nil, List.length_replicate]; omega)) Try.isAgg3 Try.sizeOf3) rfl ?_
      have bd_14 := bd_i64 (hS.rowInK' 0 rfl (by first | omega | (simp only [List.length_set, List.length_append, List.length_cons, List.length_nil, List.length_replicate]; omega)) (by first | omega | (simp only [List.length_set, List.length_append, List.length_cons, List.length_nil, List.length_replicate]; omega)) : InK .i64 (ix 0 z i))
      refine Wx.nil ?_
      refine Wp.br [7] (by kernel_rfl) (by decide) ⟨⟨_, rfl, ?_⟩, trivial⟩
      refine Wx.rd (v := .int .i64 (ix 0 z j)) (rd_loadRI' hS 0 rfl rfl rfl (by first | omega | (simp only [List.length_set, List.length_append, List.length_cons, List.length_nil, List.length_replicate]; omega)) (by first | omega | (simp only [List.length_set, List.length_append, List.length_cons, List.length_nil, List.length_replicate]; omega)) Try.isAgg3 Try.sizeOf3) rfl ?_
      have bd_15 := bd_i64 (hS.rowInK' 0 rfl (by first | omega | (simp only [List.length_set, List.length_append, List.length_cons, List.length_nil, List.length_replicate]; omega)) (by first | omega | (simp only [List.length_set, List.length_append, List.length_cons, List.length_nil, List.length_replicate]; omega)) : InK .i64 (ix 0 z j))
      refine Wx.nil ?_
      refine Wp.rd (v := .pointer (some ⟨g_5, i.toNat * 1, none⟩)) 12 rfl (by kernel_rfl) (fun _ => (rd_indexO Try.underlying39 Try.sizeOf3 rfl rfl (by first | omega | (simp only [List.length_set, List.length_append, List.length_cons, List.length_nil, List.length_replicate]; omega)) (by first | omega | (simp only [List.length_set, List.length_append, List.length_cons, List.length_nil, List.length_replicate]; omega)))) rfl ?_
      refine Wp.br [13] (by kernel_rfl) (by decide) ⟨⟨_, rfl, ?_⟩, trivial⟩
      refine Wx.storeR (j := i.toNat) (z := ix 0 z j) hS 0 rfl rfl rfl (by first | omega | (simp only [List.length_set, List.length_append, List.length_cons, List.length_nil, List.length_replicate]; omega)) rfl (V.mkInt (in_i64 (by omega) (by omega))) Try.sizeOf3 (fun w_16 hz_17 hS => ?_)
      refine Wx.nil ?_
      refine Wp.rd (v := .pointer (some ⟨g_5, j.toNat * 1, none⟩)) 14 rfl (by kernel_rfl) (fun _ => (rd_indexO Try.underlying39 Try.sizeOf3 rfl rfl (by first | omega | (simp only [List.length_set, List.length_append, List.length_cons, List.length_nil, List.length_replicate]; omega)) (by first | omega | (simp only [List.length_set, List.length_append, List.length_cons, List.length_nil, List.length_replicate]; omega)))) rfl ?_
      refine Wp.br [15] (by kernel_rfl) (by decide) ⟨⟨_, rfl, ?_⟩, trivial⟩
      refine Wx.storeR (j := j.toNat) (z := ix 0 z i) hS 0 rfl rfl rfl (by first | omega | (simp only [List.length_set, List.length_append, List.length_cons, List.length_nil, List.length_replicate]; omega)) rfl (V.mkInt (in_i64 (by omega) (by omega))) Try.sizeOf3 (fun w_18 hz_19 hS => ?_)
      refine Wx.nil ?_
      refine Wp.done (by kernel_rfl) ?_
      refine W.reg ?_
      refine Wx.rd (v := .int .i64 i) (rd_move rfl) rfl ?_
      refine Wx.rd (v := .int .i64 (i + 1)) (rd_add rfl rfl (in_i64 (by omega) (by omega))) rfl ?_
      refine Wx.rd (v := .int .i64 j) (rd_move rfl) rfl ?_
      refine Wx.rd (v := .int .i64 (j - 1)) (rd_sub rfl rfl (in_i64 (by omega) (by omega))) rfl ?_
      refine Wx.rd (v := .int .i64 (i + 1)) (rd_assign rfl) rfl ?_
      refine Wx.rd (v := .int .i64 (j - 1)) (rd_assign rfl) rfl ?_
      refine Wx.nil ?_
      refine ⟨(i + 1, j - 1, List.set (List.set z i.toNat (ix 0 z j)) j.toNat (ix 0 z i)), (by show ((j - 1) - (i + 1)).toNat < (j - i).toNat; omega), ?_, ?_, Out.look rfl Out.self⟩
      · exact ⟨hS, (by first | omega | assumption), (by first | omega | assumption), (by rw [h2]; exact revG_step h0 c0 h1), (by simp; omega)⟩
      · exact ⟨rfl, rfl, trivial⟩
  · -- no
    refine W.exit rfl ?_
    exact ⟨.tuple #[], ResIs.zero, rfl, hS.spell (ys' := ys.reverse) 0 rfl (by rw [h2]; exact revG_end (by omega))⟩
end Go.Proofs.Ytjbcpggikaeleaa

namespace Go.Proofs.Ytjbcpggikaeleaa
open Go.Wk Go.RowKit Go.Lib
set_option linter.unusedVariables false
set_option linter.unusedSimpArgs false
theorem mixedLu_ : Try.prog.follows .mixedOrders = true := by kernel_rfl

theorem F59 {v : Value} {ys : List ((List Int) × (List Int))}  {ob : List Ob} {w0 w : World} {O : List (Option Nat)}  (hS : St w0 O w (.row (tP (tSl (tI .i64)) (tSl (tI .i64))) 62 v ys :: ob)) : Calls Try.prog 59 #[v] w (Bk fun r w' => r = .tuple #[] ∧ St w0 O w' (.row (tP (tSl (tI .i64)) (tSl (tI .i64))) 62 v (ys.reverse) :: ob)) := by
  have hyl : (ys.length : Int) ≤ 9223372036854775807 := by have := hS.rowLen 0 rfl; simp only [maxLen] at this; omega
  refine enterB Try.func59 rfl Try.ntmps59 Try.results59 rfl ?_
  refine W.seq ?_
  refine W.reg ?_
  refine Wx.rd (v := v) (rd_move rfl) rfl ?_
  refine Wx.rd (v := .int .i64 (ys.length : Int)) (rd_lenR hS 0 rfl rfl Try.underlying22) rfl ?_
  refine Wx.rd (v := .int .i64 ((ys.length : Int) - 1)) (rd_sub rfl rfl (in_i64 (by omega) (by omega))) rfl ?_
  refine Wx.rd (v := .int .i64 0) (rd_assign rfl) rfl ?_
  refine Wx.rd (v := .int .i64 ((ys.length : Int) - 1)) (rd_assign rfl) rfl ?_
  refine Wx.nil ?_
  refine W.block ?_
  refine W.loop [2, 3, 7, 8, 9, 10, 11, 12, 13, 14, 15, 16, 17, 18, 19, 20, 21, 22, 23, 24, 25, 26, 27] (fun x : Int × Int × (List ((List Int) × (List Int))) => match x with | (i, j, z) => [(2, .int .i64 i), (3, .int .i64 j)]) (fun (x : Int × Int × (List ((List Int) × (List Int)))) w' => match x with | (i, j, z) => St w0 O w' (.row (tP (tSl (tI .i64)) (tSl (tI .i64))) 62 v z :: ob) ∧ 0 ≤ i ∧ j = (ys.length : Int) - 1 - i ∧ z = revG ([], []) ys i ∧ z.length = ys.length) (fun x : Int × Int × (List ((List Int) × (List Int))) => match x with | (i, j, z) => (j - i).toNat) (0, (ys.length : Int) - 1, ys) ⟨rfl, rfl, trivial⟩ ⟨hS, (by first | omega | simp), (by first | omega | simp), ((revG_start ys).symm), (rfl)⟩ ?_
  rintro ⟨i, j, z⟩ u_2 w_1 ⟨hS, h0, h1, h2, h3⟩
  refine W.seq ?_
  refine W.seq ?_
  refine W.reg ?_
  refine Wx.rd (v := .int .i64 i) (rd_move rfl) rfl ?_
  refine Wx.rd (v := .int .i64 j) (rd_move rfl) rfl ?_
  refine Wx.rd (v := .bool (decide (i < j))) (rd_lss rfl rfl) rfl ?_
  refine Wx.nil ?_
  refine W.condD rfl (fun c0 => ?_) (fun c0 => ?_)
  · -- yes
    refine W.skip ?_
    refine W.seq ?_
    refine W.block ?_
    refine W.regP mixedLu_ (fun w_3 hx_4 => ?_)
    have hS := hS.ext hx_4
    obtain ⟨g_5, c_6, rfl, hc_7⟩ := hS.rowForm 0 rfl (by omega)
    refine Wp.rd (v := (.slice (some ⟨g_5, 0, none⟩) z.length c_6)) 0 rfl (by kernel_rfl) (fun _ => (rd_move rfl)) rfl ?_
    refine Wp.rd (v := .int .i64 i) 1 rfl (by kernel_rfl) (fun _ => (rd_move rfl)) rfl ?_
    refine Wp.rd (v := (.slice (some ⟨g_5, 0, none⟩) z.length c_6)) 2 rfl (by kernel_rfl) (fun _ => (rd_move rfl)) rfl ?_
    refine Wp.rd (v := .int .i64 j) 3 rfl (by kernel_rfl) (fun _ => (rd_move rfl)) rfl ?_
    refine Wp.rd (v := (.slice (some ⟨g_5, 0, none⟩) z.length c_6)) 4 rfl (by kernel_rfl) (fun _ => (rd_move rfl)) rfl ?_
    refine Wp.rd (v := .int .i64 j) 5 rfl (by kernel_rfl) (fun _ => (rd_move rfl)) rfl ?_
    refine Wp.rd (v := .pointer (some ⟨g_5, j.toNat * 2, none⟩)) 6 rfl (by kernel_rfl) (fun _ => (rd_indexO Try.underlying22 Try.sizeOf62 rfl rfl (by first | omega | (simp only [List.length_set, List.length_append, List.length_cons, List.length_nil, List.length_replicate]; omega)) (by first | omega | (simp only [List.length_set, List.length_append, List.length_cons, List.length_nil, List.length_replicate]; omega)))) rfl ?_
    refine Wp.rd (v := (.slice (some ⟨g_5, 0, none⟩) z.length c_6)) 8 rfl (by kernel_rfl) (fun _ => (rd_move rfl)) rfl ?_
    refine Wp.rd (v := .int .i64 i) 9 rfl (by kernel_rfl) (fun _ => (rd_move rfl)) rfl ?_
    refine Wp.rd (v := .pointer (some ⟨g_5, i.toNat * 2, none⟩)) 10 rfl (by kernel_rfl) (fun _ => (rd_indexO Try.underlying22 Try.sizeOf62 rfl rfl (by first | omega | (simp only [List.length_set, List.length_append, List.length_cons, List.length_nil, List.length_replicate]; omega)) (by first | omega | (simp only [List.length_set, List.length_append, List.length_cons, List.length_nil, List.length_replicate]; omega)))) rfl ?_
    refine Wp.br [7, 11] (by kernel_rfl) (by decide) ⟨⟨_, rfl, ?_⟩, ⟨_, rfl, ?_⟩, trivial⟩
    · -- operation 7
      refine Wx.ex (rd_loadR' ([], []) hS 0 rfl rfl rfl (by first | omega | (simp only [List.length_set, List.length_append, List.length_cons, List.length_nil, List.length_replicate]; omega)) (by first | omega | (simp only [List.length_set, List.length_append, List.length_cons, List.length_nil, List.length_replicate]; omega)) Try.isAgg62 Try.sizeOf62) rfl (fun v_8 hv_9 => ?_)
      obtain ⟨v_10, v_11, rfl, hv_12, hv_13⟩ := hv_9.s2
      have hS := hS.add (hv_12)
      have ln_15 := (hS.v 0 rfl).len63
      have hS := hS.add (V.upF (hv_13))
      have ln_17 := (hS.v 0 rfl).len63
      refine Wx.nil ?_
      refine Wp.br [11] (by kernel_rfl) (by decide) ⟨⟨_, rfl, ?_⟩, trivial⟩
      refine Wx.ex (rd_loadR' ([], []) hS 2 rfl rfl rfl (by first | omega | (simp only [List.length_set, List.length_append, List.length_cons, List.length_nil, List.length_replicate]; omega)) (by first | omega | (simp only [List.length_set, List.length_append, List.length_cons, List.length_nil, List.length_replicate]; omega)) Try.isAgg62 Try.sizeOf62) rfl (fun v_18 hv_19 => ?_)
      obtain ⟨v_20, v_21, rfl, hv_22, hv_23⟩ := hv_19.s2
      have hS := hS.add (hv_22)
      have ln_25 := (hS.v 0 rfl).len63
      have hS := hS.add (V.upF (hv_23))
      have ln_27 := (hS.v 0 rfl).len63
      refine Wx.nil ?_
      refine Wp.rd (v := .pointer (some ⟨g_5, i.toNat * 2, none⟩)) 12 rfl (by kernel_rfl) (fun _ => (rd_indexO Try.underlying22 Try.sizeOf62 rfl rfl (by first | omega | (simp only [List.length_set, List.length_append, List.length_cons, List.length_nil, List.length_replicate]; omega)) (by first | omega | (simp only [List.length_set, List.length_append, List.length_cons, List.length_nil, List.length_replicate]; omega)))) rfl ?_
      refine Wp.br [13] (by kernel_rfl) (by decide) ⟨⟨_, rfl, ?_⟩, trivial⟩
      refine Wx.storeR (j := i.toNat) (z := (ix ([], []) z j)) hS 4 rfl rfl rfl (by first | omega | (simp only [List.length_set, List.length_append, List.length_cons, List.length_nil, List.length_replicate]; omega)) rfl (V.mkS2 (z := (ix ([], []) z j)) (hS.v 3 rfl) (hS.v 2 rfl)) Try.sizeOf62 (fun w_28 hz_29 hS => ?_)
      refine Wx.nil ?_
      refine Wp.rd (v := .pointer (some ⟨g_5, j.toNat * 2, none⟩)) 14 rfl (by kernel_rfl) (fun _ => (rd_indexO Try.underlying22 Try.sizeOf62 rfl rfl (by first | omega | (simp only [List.length_set, List.length_append, List.length_cons, List.length_nil, List.length_replicate]; omega)) (by first | omega | (simp only [List.length_set, List.length_append, List.length_cons, List.length_nil, List.length_replicate]; omega)))) rfl ?_
      refine Wp.br [15] (by kernel_rfl) (by decide) ⟨⟨_, rfl, ?_⟩, trivial⟩
      refine Wx.storeR (j := j.toNat) (z := (ix ([], []) z i)) hS 4 rfl rfl rfl (by first | omega | (simp only [List.length_set, List.length_append, List.length_cons, List.length_nil, List.length_replicate]; omega)) rfl (V.mkS2 (z := (ix ([], []) z i)) (hS.v 1 rfl) (hS.v 0 rfl)) Try.sizeOf62 (fun w_30 hz_31 hS => ?_)
      refine Wx.nil ?_
      refine Wp.done (by kernel_rfl) ?_
      refine W.reg ?_
      refine Wx.rd (v := .int .i64 i) (rd_move rfl) rfl ?_
      refine Wx.rd (v := .int .i64 (i + 1)) (rd_add rfl rfl (in_i64 (by omega) (by omega))) rfl ?_
      refine Wx.rd (v := .int .i64 j) (rd_move rfl) rfl ?_
      refine Wx.rd (v := .int .i64 (j - 1)) (rd_sub rfl rfl (in_i64 (by omega) (by omega))) rfl ?_
      refine Wx.rd (v := .int .i64 (i + 1)) (rd_assign rfl) rfl ?_
      refine Wx.rd (v := .int .i64 (j - 1)) (rd_assign rfl) rfl ?_
      refine Wx.nil ?_
      refine ⟨(i + 1, j - 1, List.set (List.set z i.toNat (ix ([], []) z j)) j.toNat (ix ([], []) z i)), (by show ((j - 1) - (i + 1)).toNat < (j - i).toNat; omega), ?_, ?_, Out.look rfl Out.self⟩
      · exact ⟨St.tl (St.tl (St.tl (hS.tl))), (by first | omega | assumption), (by first | omega | assumption), (by rw [h2]; exact revG_step h0 c0 h1), (by simp; omega)⟩
      · exact ⟨rfl, rfl, trivial⟩
    · -- operation 11
      refine Wx.ex (rd_loadR' ([], []) hS 0 rfl rfl rfl (by first | omega | (simp only [List.length_set, List.length_append, List.length_cons, List.length_nil, List.length_replicate]; omega)) (by first | omega | (simp only [List.length_set, List.length_append, List.length_cons, List.length_nil, List.length_replicate]; omega)) Try.isAgg62 Try.sizeOf62) rfl (fun v_32 hv_33 => ?_)
      obtain ⟨v_34, v_35, rfl, hv_36, hv_37⟩ := hv_33.s2
      have hS := hS.add (hv_36)
      have ln_39 := (hS.v 0 rfl).len63
      have hS := hS.add (V.upF (hv_37))
      have ln_41 := (hS.v 0 rfl).len63
      refine Wx.nil ?_
      refine Wp.br [7] (by kernel_rfl) (by decide) ⟨⟨_, rfl, ?_⟩, trivial⟩
      refine Wx.ex (rd_loadR' ([], []) hS 2 rfl rfl rfl (by first | omega | (simp only [List.length_set, List.length_append, List.length_cons, List.length_nil, List.length_replicate]; omega)) (by first | omega | (simp only [List.length_set, List.length_append, List.length_cons, List.length_nil, List.length_replicate]; omega)) Try.isAgg62 Try.sizeOf62) rfl (fun v_42 hv_43 => ?_)
      obtain ⟨v_44, v_45, rfl, hv_46, hv_47⟩ := hv_43.s2
      have hS := hS.add (hv_46)
      have ln_49 := (hS.v 0 rfl).len63
      have hS := hS.add (V.upF (hv_47))
      have ln_51 := (hS.v 0 rfl).len63
      refine Wx.nil ?_
      refine Wp.rd (v := .pointer (some ⟨g_5, i.toNat * 2, none⟩)) 12 rfl (by kernel_rfl) (fun _ => (rd_indexO Try.underlying22 Try.sizeOf62 rfl rfl (by first | omega | (simp only [List.length_set, List.length_append, List.length_cons, List.length_nil, List.length_replicate]; omega)) (by first | omega | (simp only [List.length_set, List.length_append, List.length_cons, List.length_nil, List.length_replicate]; omega)))) rfl ?_
      refine Wp.br [13] (by kernel_rfl) (by decide) ⟨⟨_, rfl, ?_⟩, trivial⟩
      refine Wx.storeR (j := i.toNat) (z := (ix ([], []) z j)) hS 4 rfl rfl rfl (by first | omega | (simp only [List.length_set, List.length_append, List.length_cons, List.length_nil, List.length_replicate]; omega)) rfl (V.mkS2 (z := (ix ([], []) z j)) (hS.v 1 rfl) (hS.v 0 rfl)) Try.sizeOf62 (fun w_52 hz_53 hS => ?_)
      refine Wx.nil ?_
      refine Wp.rd (v := .pointer (some ⟨g_5, j.toNat * 2, none⟩)) 14 rfl (by kernel_rfl) (fun _ => (rd_indexO Try.underlying22 Try.sizeOf62 rfl rfl (by first | omega | (simp only [List.length_set, List.length_append, List.length_cons, List.length_nil, List.length_replicate]; omega)) (by first | omega | (simp only [List.length_set, List.length_append, List.length_cons, List.length_nil, List.length_replicate]; omega)))) rfl ?_
      refine Wp.br [15] (by kernel_rfl) (by decide) ⟨⟨_, rfl, ?_⟩, trivial⟩
      refine Wx.storeR (j := j.toNat) (z := (ix ([], []) z i)) hS 4 rfl rfl rfl (by first | omega | (simp only [List.length_set, List.length_append, List.length_cons, List.length_nil, List.length_replicate]; omega)) rfl (V.mkS2 (z := (ix ([], []) z i)) (hS.v 3 rfl) (hS.v 2 rfl)) Try.sizeOf62 (fun w_54 hz_55 hS => ?_)
      refine Wx.nil ?_
      refine Wp.done (by kernel_rfl) ?_
      refine W.reg ?_
      refine Wx.rd (v := .int .i64 i) (rd_move rfl) rfl ?_
      refine Wx.rd (v := .int .i64 (i + 1)) (rd_add rfl rfl (in_i64 (by omega) (by omega))) rfl ?_
      refine Wx.rd (v := .int .i64 j) (rd_move rfl) rfl ?_
      refine Wx.rd (v := .int .i64 (j - 1)) (rd_sub rfl rfl (in_i64 (by omega) (by omega))) rfl ?_
      refine Wx.rd (v := .int .i64 (i + 1)) (rd_assign rfl) rfl ?_
      refine Wx.rd (v := .int .i64 (j - 1)) (rd_assign rfl) rfl ?_
      refine Wx.nil ?_
      refine ⟨(i + 1, j - 1, List.set (List.set z i.toNat (ix ([], []) z j)) j.toNat (ix ([], []) z i)), (by show ((j - 1) - (i + 1)).toNat < (j - i).toNat; omega), ?_, ?_, Out.look rfl Out.self⟩
      · exact ⟨St.tl (St.tl (St.tl (hS.tl))), (by first | omega | assumption), (by first | omega | assumption), (by rw [h2]; exact revG_step h0 c0 h1), (by simp; omega)⟩
      · exact ⟨rfl, rfl, trivial⟩
  · -- no
    refine W.exit rfl ?_
    exact ⟨.tuple #[], ResIs.zero, rfl, hS.spell (ys' := ys.reverse) 0 rfl (by rw [h2]; exact revG_end (by omega))⟩
end Go.Proofs.Ytjbcpggikaeleaa

namespace Go.Proofs.Ytjbcpggikaeleaa
open Go.Wk Go.RowKit Go.Lib
set_option linter.unusedVariables false
set_option linter.unusedSimpArgs false
theorem foLl_66_0 : fldOff Try.prog 66 0 = some 0 := by kernel_rfl
theorem foLl_66_1 : fldOff Try.prog 66 1 = some 1 := by kernel_rfl
theorem foLl_66_3 : fldOff Try.prog 66 3 = some 3 := by kernel_rfl
theorem elLl_39 : ElemI Try.prog 39 3 (.int .i64 0) 1 8 := ElemI.of Try.underlying39 (by kernel_rfl) (by first | rfl | kernel_rfl) (by decide)
theorem foLl_66_4 : fldOff Try.prog 66 4 = some 21 := by kernel_rfl
theorem foLl_66_2 : fldOff Try.prog 66 2 = some 2 := by kernel_rfl
theorem elLl_22 : ElemI Try.prog 22 62 (.agg #[(.slice none 0 0), (.slice none 0 0)]) 2 48 := ElemI.of Try.underlying22 (by kernel_rfl) (by first | rfl | kernel_rfl) (by decide)
set_option maxHeartbeats 2000000 in
set_option maxRecDepth 10000 in
theorem F46 {zs : List Int} {most : Int} {O : List (Option Nat)} {w : World} (n_zs : zs.length = 39) (i_zs : ∀ z ∈ zs, InK .u8 z) (i_most : InK .i64 most) (p_m : 0 ≤ most) (p_6 : most ≤ 6) (hO : ∀ b, some b ∈ O → b < w.heap.size) : Calls Try.prog 46 #[.agg (List.map (Value.int .u8) zs).toArray, .int .i64 most] w (Ret w (fun r w' => ∃ l : List Sale, (shopP zs most l) ∧ ∃ rv, r = .tuple #[.int .i64 (shG zs), rv] ∧ FreshO (tP (tSl (tI .i64)) (tSl (tI .i64))) 62 l rv O w.heap.size w')) := by
  have b_most := bd_i64 i_most
  have hz0 := ix_u8 i_zs 0
  have hz1 := ix_u8 i_zs 1
  have hz2 := ix_u8 i_zs 2
  have hN0 := Int.emod_nonneg (ix 0 zs 1) (show most + 1 ≠ 0 by omega)
  have hN1 := Int.emod_lt_of_pos (ix 0 zs 1) (show 0 < most + 1 by omega)
  have hS := St.start w O hO
  refine enterR Try.func46 rfl Try.ntmps46 Try.results46 rfl ?_
  refine W.seq ?_
  refine W.reg ?_
  refine Wx.box (cs := List.map (Value.int .u8) zs) hS rfl rfl rfl (fun g_1 w_2 hx_4 hb_3 hS => ?_)
  refine Wx.rd (v := .int .i64 0) (rd_assign rfl) rfl ?_
  refine Wx.rd (v := (.slice none 0 0)) (rd_assign rfl) rfl ?_
  refine Wx.nil ?_
  refine W.seq ?_
  refine W.reg ?_
  refine Wx.rd (v := .pointer (some ⟨g_1, 0 + 0, none⟩)) (rd_fieldAddr (o := 0) rfl foLl_66_0) rfl ?_
  have bz_5 := ix_u8 i_zs 0
  refine Wx.rd (v := .int .u8 (ix 0 zs 0)) (rd_loadXa (d := 0) (f := (Value.int .u8)) (j := 0) hS 0 rfl rfl (by omega) (by omega) (by omega) Try.isAgg5) rfl ?_
  refine Wx.rd (v := .int .i64 (ix 0 zs 0)) (rd_convIn rfl Try.underlying5 Try.underlying3 (in_i64 (by omega) (by omega))) rfl ?_
  refine Wx.rd (v := .int .i64 ((ix 0 zs 0) % 3)) (rd_rem rfl rfl (by omega) (by omega)) rfl ?_
  refine Wx.rd (v := .int .i64 (1 + ((ix 0 zs 0) % 3))) (rd_add rfl rfl (in_i64 (by omega) (by omega))) rfl ?_
  refine Wx.rd (v := .int .i64 (1 + ((ix 0 zs 0) % 3))) (rd_assign rfl) rfl ?_
  refine Wx.nil ?_
  refine W.seq ?_
  refine W.reg ?_
  refine Wx.rd (v := (.slice none 0 0)) (rd_assign rfl) rfl ?_
  refine Wx.nil ?_
  refine W.seq ?_
  refine W.seq ?_
  refine W.reg ?_
  refine Wx.rd (v := .pointer (some ⟨g_1, 0 + 1, none⟩)) (rd_fieldAddr (o := 0) rfl foLl_66_1) rfl ?_
  have bz_6 := ix_u8 i_zs 1
  refine Wx.rd (v := .int .u8 (ix 0 zs 1)) (rd_loadXa (d := 0) (f := (Value.int .u8)) (j := 1) hS 0 rfl rfl (by omega) (by omega) (by omega) Try.isAgg5) rfl ?_
  refine Wx.rd (v := .int .i64 (ix 0 zs 1)) (rd_convIn rfl Try.underlying5 Try.underlying3 (in_i64 (by omega) (by omega))) rfl ?_
  refine Wx.rd (v := .int .i64 most) (rd_move rfl) rfl ?_
  refine Wx.rd (v := .int .i64 (most + 1)) (rd_add rfl rfl (in_i64 (by omega) (by omega))) rfl ?_
  refine Wx.rd (v := .int .i64 ((ix 0 zs 1) % (most + 1))) (rd_rem rfl rfl (by omega) (by omega)) rfl ?_
  refine Wx.rd (v := .int .i64 0) (rd_move rfl) rfl ?_
  refine Wx.nil ?_
  refine W.block ?_
  have hS := hS.addNil (tP (tSl (tI .i64)) (tSl (tI .i64))) 62
  refine W.loop [7, 8, 9, 10, 11, 12, 13, 14, 15, 16, 17, 18, 19, 20, 21, 33, 34, 35, 36, 37, 38, 39, 40, 41, 42, 43, 44, 45, 46, 47, 48, 49, 50, 51, 52, 53, 54, 55, 56, 57, 58, 59, 60, 61, 62, 63, 64, 65, 66, 67, 68, 69, 70, 71, 72, 73, 74, 75, 76, 77, 78, 79, 80, 81, 82, 83, 84, 85, 86, 87, 88, 89, 90, 91, 92, 93, 94, 95, 96, 97, 98, 99, 100, 101, 102, 103, 104, 105, 106, 107, 108, 109, 110, 111, 112, 113, 114, 115, 116, 117, 118, 119, 120, 121, 122, 123, 124, 125, 126, 127, 128, 129, 130, 131, 132, 133, 134, 135, 136, 137, 138, 139] (fun x : Int × Value × (List ((List Int) × (List Int))) => match x with | (i, ov, out) => [(33, .int .i64 i), (7, ov)]) (fun (x : Int × Value × (List ((List Int) × (List Int)))) w' => match x with | (i, ov, out) => St w O w' [.row (tP (tSl (tI .i64)) (tSl (tI .i64))) 62 ov out, .box g_1 66 (List.map (Value.int .u8) zs)] ∧ 0 ≤ i ∧ i ≤ (ix 0 zs 1 % (most + 1)) ∧ (out.length : Int) = i ∧ (∀ s ∈ out, shS (shG zs) s)) (fun x : Int × Value × (List ((List Int) × (List Int))) => match x with | (i, ov, out) => ((ix 0 zs 1 % (most + 1)) - i).toNat) (0, (.slice none 0 0), []) ⟨rfl, rfl, trivial⟩ ⟨hS, (by first | omega | simp), (by first | omega | simp), (rfl), (fun s hs => nomatch hs)⟩ ?_
  rintro ⟨i, ov, out⟩ u_8 w_7 ⟨hS, h0, h1, h2, h3⟩
  refine W.seq ?_
  refine W.reg ?_
  refine Wx.rd (v := .bool (decide (i < ((ix 0 zs 1) % (most + 1))))) (rd_lss rfl rfl) rfl ?_
  refine Wx.nil ?_
  refine W.seq ?_
  refine W.condD rfl (fun c0 => ?_) (fun c0 => ?_)
  · -- yes
    refine W.skip ?_
    refine W.seq ?_
    refine W.block ?_
    refine W.seq ?_
    refine W.reg ?_
    refine Wx.rd (v := .int .i64 i) (rd_move rfl) rfl ?_
    refine Wx.rd (v := .int .i64 i) (rd_assign rfl) rfl ?_
    refine Wx.nil ?_
    refine W.seq ?_
    refine W.reg ?_
    refine Wx.rd (v := (.slice none 0 0)) (rd_assign rfl) rfl ?_
    refine Wx.rd (v := (.slice none 0 0)) (rd_assign rfl) rfl ?_
    refine Wx.nil ?_
    refine W.seq ?_
    refine W.seq ?_
    refine W.reg ?_
    refine Wx.rd (v := .int .i64 (1 + ((ix 0 zs 0) % 3))) (rd_move rfl) rfl ?_
    refine Wx.rd (v := .int .i64 0) (rd_move rfl) rfl ?_
    refine Wx.nil ?_
    refine W.block ?_
    have hS := hS.addNil (tI .i64) 3
    have hS := hS.addNil (tI .i64) 3
    refine W.loop [9, 10, 11, 37, 38, 39, 40, 41, 42, 43, 44, 45, 46, 47, 48, 49, 50, 51, 52, 53, 54, 55, 56, 57, 58, 59, 60, 61, 62, 63] (fun x : Int × Value × (List Int) × Value × (List Int) => match x with | (k, pv, p, tv, t) => [(37, .int .i64 k), (9, pv), (10, tv)]) (fun (x : Int × Value × (List Int) × Value × (List Int)) w' => match x with | (k, pv, p, tv, t) => St w O w' [.row (tI .i64) 3 tv t, .row (tI .i64) 3 pv p, .row (tP (tSl (tI .i64)) (tSl (tI .i64))) 62 ov out, .box g_1 66 (List.map (Value.int .u8) zs)] ∧ 0 ≤ k ∧ k ≤ (1 + ix 0 zs 0 % 3) ∧ (p.length : Int) = k ∧ (t.length : Int) = k ∧ (∀ x ∈ p, 1 ≤ x ∧ x ≤ 4) ∧ (∀ x ∈ t, 0 ≤ x ∧ x ≤ 4)) (fun x : Int × Value × (List Int) × Value × (List Int) => match x with | (k, pv, p, tv, t) => ((1 + ix 0 zs 0 % 3) - k).toNat) (0, (.slice none 0 0), [], (.slice none 0 0), []) ⟨rfl, rfl, rfl, trivial⟩ ⟨hS, (by first | omega | simp), (by first | omega | simp), (rfl), (rfl), (fun s hs => nomatch hs), (fun s hs => nomatch hs)⟩ ?_
    rintro ⟨k, pv, p, tv, t⟩ u_10 w_9 ⟨hS, k0, k1, k2, k3, k4, k5⟩
    refine W.seq ?_
    refine W.reg ?_
    refine Wx.rd (v := .bool (decide (k < (1 + ((ix 0 zs 0) % 3))))) (rd_lss rfl rfl) rfl ?_
    refine Wx.nil ?_
    refine W.seq ?_
    refine W.condD rfl (fun c1 => ?_) (fun c1 => ?_)
    · -- yes
      refine W.skip ?_
      refine W.seq ?_
      refine W.block ?_
      refine W.seq ?_
      refine W.reg ?_
      refine Wx.rd (v := .int .i64 k) (rd_move rfl) rfl ?_
      refine Wx.rd (v := .int .i64 k) (rd_assign rfl) rfl ?_
      refine Wx.nil ?_
      refine W.seq ?_
      refine W.reg ?_
      refine Wx.rd (v := pv) (rd_move rfl) rfl ?_
      refine Wx.rd (v := .int .i64 i) (rd_move rfl) rfl ?_
      refine Wx.rd (v := .int .i64 k) (rd_move rfl) rfl ?_
      refine Wx.rd (v := .pointer (some ⟨g_1, 0 + 3, none⟩)) (rd_fieldAddr (o := 0) rfl foLl_66_3) rfl ?_
      refine Wx.rd (v := .pointer (some ⟨g_1, 0 + 3 + i.toNat * 3, none⟩)) (rd_indexArr rfl rfl Try.underlying64 Try.sizeOf63 (by omega) (by omega)) rfl ?_
      refine Wx.rd (v := .pointer (some ⟨g_1, 0 + 3 + i.toNat * 3 + k.toNat * 1, none⟩)) (rd_indexArr rfl rfl Try.underlying63 Try.sizeOf5 (by omega) (by omega)) rfl ?_
      have bz_11 := ix_u8 i_zs (3 + i * 3 + k)
      refine Wx.rd (v := .int .u8 (ix 0 zs (3 + i * 3 + k))) (rd_loadXa (d := 0) (f := (Value.int .u8)) (j := 3 + i * 3 + k) hS 3 rfl rfl (by omega) (by omega) (by omega) Try.isAgg5) rfl ?_
      refine Wx.rd (v := .int .i64 (ix 0 zs (3 + i * 3 + k))) (rd_convIn rfl Try.underlying5 Try.underlying3 (in_i64 (by omega) (by omega))) rfl ?_
      refine Wx.rd (v := .int .i64 ((ix 0 zs (3 + i * 3 + k)) % 4)) (rd_rem rfl rfl (by omega) (by omega)) rfl ?_
      refine Wx.rd (v := .int .i64 (1 + ((ix 0 zs (3 + i * 3 + k)) % 4))) (rd_add rfl rfl (in_i64 (by omega) (by omega))) rfl ?_
      refine Wx.lit (t := (tI .i64)) (ys := [1 + ((ix 0 zs (3 + i * 3 + k)) % 4)]) (vs := [.int .i64 (1 + ((ix 0 zs (3 + i * 3 + k)) % 4))]) elLl_39 hS rfl rfl ⟨(V.mkInt (in_i64 (by omega) (by omega))), trivial⟩ (by decide) rfl (fun v_12 w_13 hx_14 hS => ?_)
      refine Wx.append elLl_39 hS 2 rfl rfl rfl (Src.ofR hS 0 rfl) (by simp only [maxLen]; simp; omega) (by simp; omega) rfl (fun v_15 w_16 hz_17 hS => ?_)
      refine Wx.rd (v := v_15) (rd_assign rfl) rfl ?_
      refine Wx.nil ?_
      refine W.reg ?_
      refine Wx.rd (v := tv) (rd_move rfl) rfl ?_
      refine Wx.rd (v := .int .i64 i) (rd_move rfl) rfl ?_
      refine Wx.rd (v := .int .i64 k) (rd_move rfl) rfl ?_
      refine Wx.rd (v := .pointer (some ⟨g_1, 0 + 21, none⟩)) (rd_fieldAddr (o := 0) rfl foLl_66_4) rfl ?_
      refine Wx.rd (v := .pointer (some ⟨g_1, 0 + 21 + i.toNat * 3, none⟩)) (rd_indexArr rfl rfl Try.underlying64 Try.sizeOf63 (by omega) (by omega)) rfl ?_
      refine Wx.rd (v := .pointer (some ⟨g_1, 0 + 21 + i.toNat * 3 + k.toNat * 1, none⟩)) (rd_indexArr rfl rfl Try.underlying63 Try.sizeOf5 (by omega) (by omega)) rfl ?_
      have bz_18 := ix_u8 i_zs (21 + i * 3 + k)
      refine Wx.rd (v := .int .u8 (ix 0 zs (21 + i * 3 + k))) (rd_loadXa (d := 0) (f := (Value.int .u8)) (j := 21 + i * 3 + k) hS 4 rfl rfl (by omega) (by omega) (by omega) Try.isAgg5) rfl ?_
      refine Wx.rd (v := .int .i64 (ix 0 zs (21 + i * 3 + k))) (rd_convIn rfl Try.underlying5 Try.underlying3 (in_i64 (by omega) (by omega))) rfl ?_
      refine Wx.rd (v := .int .i64 ((ix 0 zs (21 + i * 3 + k)) % 5)) (rd_rem rfl rfl (by omega) (by omega)) rfl ?_
      refine Wx.lit (t := (tI .i64)) (ys := [(ix 0 zs (21 + i * 3 + k)) % 5]) (vs := [.int .i64 ((ix 0 zs (21 + i * 3 + k)) % 5)]) elLl_39 hS rfl rfl ⟨(V.mkInt (in_i64 (by omega) (by omega))), trivial⟩ (by decide) rfl (fun v_19 w_20 hx_21 hS => ?_)
      refine Wx.append elLl_39 hS 2 rfl rfl rfl (Src.ofR hS 0 rfl) (by simp only [maxLen]; simp; omega) (by simp; omega) rfl (fun v_22 w_23 hz_24 hS => ?_)
      refine Wx.rd (v := v_22) (rd_assign rfl) rfl ?_
      refine Wx.nil ?_
      refine W.reg ?_
      refine Wx.rd (v := .int .i64 (k + 1)) (rd_add rfl rfl (in_i64 (by omega) (by omega))) rfl ?_
      refine Wx.rd (v := .int .i64 (k + 1)) (rd_move rfl) rfl ?_
      refine Wx.nil ?_
      refine ⟨(k + 1, v_15, p ++ [1 + ((ix 0 zs (3 + i * 3 + k)) % 4)], v_22, t ++ [(ix 0 zs (21 + i * 3 + k)) % 5]), (by show ((1 + ix 0 zs 0 % 3) - (k + 1)).toNat < ((1 + ix 0 zs 0 % 3) - k).toNat; omega), ?_, ?_, Out.look rfl Out.self⟩
      · exact ⟨St.tl (hS.tl), (by first | omega | assumption), (by first | omega | assumption), (by simp only [List.length_append, List.length_cons, List.length_nil]; omega), (by simp only [List.length_append, List.length_cons, List.length_nil]; omega), (snoc_all k4 (by omega)), (snoc_all k5 (by omega))⟩
      · exact ⟨rfl, rfl, rfl, trivial⟩
    · -- no
      refine W.exit rfl ?_
      refine W.seq ?_
      refine W.seq ?_
      refine W.reg ?_
      refine Wx.rd (v := .pointer (some ⟨g_1, 0 + 2, none⟩)) (rd_fieldAddr (o := 0) rfl foLl_66_2) rfl ?_
      have bz_25 := ix_u8 i_zs 2
      refine Wx.rd (v := .int .u8 (ix 0 zs 2)) (rd_loadXa (d := 0) (f := (Value.int .u8)) (j := 2) hS 3 rfl rfl (by omega) (by omega) (by omega) Try.isAgg5) rfl ?_
      refine Wx.rd (v := .int .u8 ((ix 0 zs 2) % 2)) (rd_rem rfl rfl (by omega) (by omega)) rfl ?_
      refine Wx.rd (v := .bool (decide (((ix 0 zs 2) % 2) = 1))) (rd_eql rfl rfl) rfl ?_
      refine Wx.nil ?_
      have hS := hS.freeze 0 rfl
      refine W.cutK [10, 12, 13, 14, 15, 16, 17, 18, 19, 20, 21, 68, 69, 70, 71, 72, 73, 74, 75, 76, 77, 78, 79, 80, 81, 82, 83, 84, 85, 86, 87, 88, 89, 90, 91, 92, 93, 94, 95, 96, 97, 98, 99, 100, 101, 102, 103, 104, 105, 106, 107, 108, 109, 110, 111, 112, 113, 114, 115, 116, 117, 118, 119, 120, 121, 122, 123, 124, 125, 126, 127, 128, 129, 130, 131, 132] (fun x : Value × (List Int) => match x with | (jv, tj) => [(10, jv)]) (fun (x : Value × (List Int)) w' => match x with | (jv, tj) => St w O w' [Ob.v (tSl (tI .i64)) tj jv, Ob.v (tSl (tI .i64)) t tv, .row (tI .i64) 3 pv p, .row (tP (tSl (tI .i64)) (tSl (tI .i64))) 62 ov out, .box g_1 66 (List.map (Value.int .u8) zs)] ∧ (tj.length : Int) = (1 + ix 0 zs 0 % 3) ∧ (∀ x ∈ tj, 0 ≤ x ∧ x ≤ 4)) ?_ ?_
      · -- up to the cut
        refine W.condD rfl (fun c2 => ?_) (fun c2 => ?_)
        · -- yes
          refine W.seq ?_
          refine W.reg ?_
          refine Wx.rd (v := .int .i64 i) (rd_move rfl) rfl ?_
          refine Wx.rd (v := .pointer (some ⟨g_1, 0 + 21, none⟩)) (rd_fieldAddr (o := 0) rfl foLl_66_4) rfl ?_
          refine Wx.rd (v := .pointer (some ⟨g_1, 0 + 21 + i.toNat * 3, none⟩)) (rd_indexArr rfl rfl Try.underlying64 Try.sizeOf63 (by omega) (by omega)) rfl ?_
          refine Wx.rd (v := .pointer (some ⟨g_1, 0 + 21 + i.toNat * 3 + (0 : Int).toNat * 1, none⟩)) (rd_indexArr rfl rfl Try.underlying63 Try.sizeOf5 (by omega) (by omega)) rfl ?_
          have bz_28 := ix_u8 i_zs (21 + i * 3 + 0)
          refine Wx.rd (v := .int .u8 (ix 0 zs (21 + i * 3 + 0))) (rd_loadXa (d := 0) (f := (Value.int .u8)) (j := 21 + i * 3 + 0) hS 3 rfl rfl (by omega) (by omega) (by omega) Try.isAgg5) rfl ?_
          refine Wx.rd (v := .int .i64 (ix 0 zs (21 + i * 3 + 0))) (rd_convIn rfl Try.underlying5 Try.underlying3 (in_i64 (by omega) (by omega))) rfl ?_
          refine Wx.rd (v := .int .i64 ((ix 0 zs (21 + i * 3 + 0)) % 9)) (rd_rem rfl rfl (by omega) (by omega)) rfl ?_
          refine Wx.rd (v := .int .i64 (4 + ((ix 0 zs (21 + i * 3 + 0)) % 9))) (rd_add rfl rfl (in_i64 (by omega) (by omega))) rfl ?_
          refine Wx.rd (v := .int .i64 (4 + ((ix 0 zs (21 + i * 3 + 0)) % 9))) (rd_assign rfl) rfl ?_
          refine Wx.nil ?_
          refine W.seq ?_
          refine W.reg ?_
          refine Wx.rd (v := .int .i64 (-1)) (rd_assign rfl) rfl ?_
          refine Wx.nil ?_
          refine W.seq ?_
          refine W.reg ?_
          refine Wx.rd (v := .int .i64 0) (rd_move rfl) rfl ?_
          refine Wx.nil ?_
          refine W.block ?_
          have hv_30 : V (tSl (tI .i64)) t tv _ _ := (hS.v 0 rfl)
          have hS := hS.add (hv_30)
          refine W.loop [10, 13, 14, 15, 16, 17, 18, 19, 20, 21, 76, 77, 78, 79, 80, 81, 82, 83, 84, 85, 86, 87, 88, 89, 90, 91, 92, 93, 94, 95, 96, 97, 98, 99, 100, 101, 102, 103, 104, 105, 106, 107, 108, 109, 110, 111, 112, 113, 114, 115, 116, 117, 118, 119, 120, 121, 122, 123, 124, 125, 126, 127, 128, 129, 130, 131, 132] (fun x : Value × (List Int) × Int × Int => match x with | (t4v, t4, b4, xa) => [(10, t4v), (13, .int .i64 b4), (76, .int .i64 xa)]) (fun (x : Value × (List Int) × Int × Int) w' => match x with | (t4v, t4, b4, xa) => St w O w' [Ob.v (tSl (tI .i64)) t4 t4v, Ob.v (tSl (tI .i64)) t tv, .row (tI .i64) 3 pv p, .row (tP (tSl (tI .i64)) (tSl (tI .i64))) 62 ov out, .box g_1 66 (List.map (Value.int .u8) zs)] ∧ 0 ≤ xa ∧ xa ≤ 5 ∧ (t4.length : Int) = (1 + ix 0 zs 0 % 3) ∧ (∀ x ∈ t4, 0 ≤ x ∧ x ≤ 4) ∧ -1 ≤ b4 ∧ b4 ≤ 343) (fun x : Value × (List Int) × Int × Int => match x with | (t4v, t4, b4, xa) => (5 - xa).toNat) (tv, t, -1, 0) ⟨rfl, rfl, rfl, trivial⟩ ⟨hS, (by first | omega | simp), (by first | omega | simp), (by omega), (k5), (by first | omega | simp), (by first | omega | simp)⟩ ?_
          rintro ⟨t4v, t4, b4, xa⟩ u_32 w_31 ⟨hS, x0, x1, xl, xb, x4, x5⟩
          refine W.seq ?_
          refine W.reg ?_
          refine Wx.rd (v := .bool (decide (xa < 5))) (rd_lss rfl rfl) rfl ?_
          refine Wx.nil ?_
          refine W.seq ?_
          refine W.condD rfl (fun c3 => ?_) (fun c3 => ?_)
          · -- yes
            refine W.skip ?_
            refine W.seq ?_
            refine W.block ?_
            refine W.seq ?_
            refine W.reg ?_
            refine Wx.rd (v := .int .i64 xa) (rd_move rfl) rfl ?_
            refine Wx.rd (v := .int .i64 xa) (rd_assign rfl) rfl ?_
            refine Wx.nil ?_
            refine W.seq ?_
            refine W.reg ?_
            refine Wx.rd (v := .int .i64 0) (rd_move rfl) rfl ?_
            refine Wx.nil ?_
            refine W.block ?_
            have hv_34 : V (tSl (tI .i64)) t4 t4v _ _ := (hS.v 0 rfl)
            have hS := hS.add (hv_34)
            refine W.loop [10, 13, 15, 16, 17, 18, 19, 20, 21, 79, 80, 81, 82, 83, 84, 85, 86, 87, 88, 89, 90, 91, 92, 93, 94, 95, 96, 97, 98, 99, 100, 101, 102, 103, 104, 105, 106, 107, 108, 109, 110, 111, 112, 113, 114, 115, 116, 117, 118, 119, 120, 121, 122, 123, 124, 125, 126, 127, 128, 129, 130, 131] (fun x : Value × (List Int) × Int × Int => match x with | (t6v, t6, b6, ya) => [(10, t6v), (13, .int .i64 b6), (79, .int .i64 ya)]) (fun (x : Value × (List Int) × Int × Int) w' => match x with | (t6v, t6, b6, ya) => St w O w' [Ob.v (tSl (tI .i64)) t6 t6v, Ob.v (tSl (tI .i64)) t4 t4v, Ob.v (tSl (tI .i64)) t tv, .row (tI .i64) 3 pv p, .row (tP (tSl (tI .i64)) (tSl (tI .i64))) 62 ov out, .box g_1 66 (List.map (Value.int .u8) zs)] ∧ 0 ≤ ya ∧ ya ≤ 5 ∧ (t6.length : Int) = (1 + ix 0 zs 0 % 3) ∧ (∀ x ∈ t6, 0 ≤ x ∧ x ≤ 4) ∧ -1 ≤ b6 ∧ b6 ≤ 343) (fun x : Value × (List Int) × Int × Int => match x with | (t6v, t6, b6, ya) => (5 - ya).toNat) (t4v, t4, b4, 0) ⟨rfl, rfl, rfl, trivial⟩ ⟨hS, (by first | omega | simp), (by first | omega | simp), (xl), (xb), (by first | omega | simp), (by first | omega | simp)⟩ ?_
            rintro ⟨t6v, t6, b6, ya⟩ u_36 w_35 ⟨hS, y0, y1, yl, yb, y4, y5⟩
            refine W.seq ?_
            refine W.reg ?_
            refine Wx.rd (v := .bool (decide (ya < 5))) (rd_lss rfl rfl) rfl ?_
            refine Wx.nil ?_
            refine W.seq ?_
            refine W.condD rfl (fun c4 => ?_) (fun c4 => ?_)
            · -- yes
              refine W.skip ?_
              refine W.seq ?_
              refine W.block ?_
              refine W.seq ?_
              refine W.reg ?_
              refine Wx.rd (v := .int .i64 ya) (rd_move rfl) rfl ?_
              refine Wx.rd (v := .int .i64 ya) (rd_assign rfl) rfl ?_
              refine Wx.nil ?_
              refine W.seq ?_
              refine W.reg ?_
              refine Wx.rd (v := .int .i64 0) (rd_move rfl) rfl ?_
              refine Wx.nil ?_
              refine W.block ?_
              have hv_38 : V (tSl (tI .i64)) t6 t6v _ _ := (hS.v 0 rfl)
              have hS := hS.add (hv_38)
              refine W.loop [10, 13, 16, 17, 18, 19, 20, 21, 82, 83, 84, 85, 86, 87, 88, 89, 90, 91, 92, 93, 94, 95, 96, 97, 98, 99, 100, 101, 102, 103, 104, 105, 106, 107, 108, 109, 110, 111, 112, 113, 114, 115, 116, 117, 118, 119, 120, 121, 122, 123, 124, 125, 126, 127, 128, 129, 130] (fun x : Value × (List Int) × Int × Int => match x with | (t8v, t8, b8, za) => [(10, t8v), (13, .int .i64 b8), (82, .int .i64 za)]) (fun (x : Value × (List Int) × Int × Int) w' => match x with | (t8v, t8, b8, za) => St w O w' [Ob.v (tSl (tI .i64)) t8 t8v, Ob.v (tSl (tI .i64)) t6 t6v, Ob.v (tSl (tI .i64)) t4 t4v, Ob.v (tSl (tI .i64)) t tv, .row (tI .i64) 3 pv p, .row (tP (tSl (tI .i64)) (tSl (tI .i64))) 62 ov out, .box g_1 66 (List.map (Value.int .u8) zs)] ∧ 0 ≤ za ∧ za ≤ 5 ∧ (t8.length : Int) = (1 + ix 0 zs 0 % 3) ∧ (∀ x ∈ t8, 0 ≤ x ∧ x ≤ 4) ∧ -1 ≤ b8 ∧ b8 ≤ 343) (fun x : Value × (List Int) × Int × Int => match x with | (t8v, t8, b8, za) => (5 - za).toNat) (t6v, t6, b6, 0) ⟨rfl, rfl, rfl, trivial⟩ ⟨hS, (by first | omega | simp), (by first | omega | simp), (yl), (yb), (by first | omega | simp), (by first | omega | simp)⟩ ?_
              rintro ⟨t8v, t8, b8, za⟩ u_40 w_39 ⟨hS, z0, z1, zl, zb, z4, z5⟩
              refine W.seq ?_
              refine W.reg ?_
              refine Wx.rd (v := .bool (decide (za < 5))) (rd_lss rfl rfl) rfl ?_
              refine Wx.nil ?_
              refine W.seq ?_
              refine W.condD rfl (fun c5 => ?_) (fun c5 => ?_)
              · -- yes
                refine W.skip ?_
                refine W.seq ?_
                refine W.block ?_
                refine W.seq ?_
                refine W.reg ?_
                refine Wx.rd (v := .int .i64 za) (rd_move rfl) rfl ?_
                refine Wx.rd (v := .int .i64 za) (rd_assign rfl) rfl ?_
                refine Wx.nil ?_
                refine W.seq ?_
                refine W.reg ?_
                refine Wx.rd (v := .int .i64 xa) (rd_move rfl) rfl ?_
                refine Wx.rd (v := .int .i64 ya) (rd_move rfl) rfl ?_
                refine Wx.rd (v := .int .i64 za) (rd_move rfl) rfl ?_
                refine Wx.lit (t := (tI .i64)) (ys := [xa, ya, za]) (vs := [.int .i64 xa, .int .i64 ya, .int .i64 za]) elLl_39 hS rfl rfl ⟨(V.mkInt (in_i64 (by omega) (by omega))), ⟨(V.mkInt (in_i64 (by omega) (by omega))), ⟨(V.mkInt (in_i64 (by omega) (by omega))), trivial⟩⟩⟩ (by decide) rfl (fun v_41 w_42 hx_43 hS => ?_)
                refine Wx.rd (v := .int .i64 (1 + ((ix 0 zs 0) % 3))) (rd_move rfl) rfl ?_
                have hS := hS.freeze 0 rfl
                have h3l : (([xa, ya, za] : List Int).length : Int) = 3 := rfl
                refine Wx.ex (rd_sliceH (hS.v 0 rfl) Try.underlying39 Try.sizeOf3 rfl rfl (by omega) (by omega)) rfl (fun u_45 hu_46 => ?_)
                have ln_47 := hu_46.len63
                have hS := hS.add hu_46
                refine Wx.rd (v := u_45) (rd_assign rfl) rfl ?_
                refine Wx.nil ?_
                refine W.seq ?_
                refine W.reg ?_
                refine Wx.rd (v := .int .i64 0) (rd_assign rfl) rfl ?_
                refine Wx.rd (v := .int .i64 1) (rd_assign rfl) rfl ?_
                refine Wx.nil ?_
                refine W.seq ?_
                refine W.seq ?_
                refine W.reg ?_
                refine Wx.rd (v := u_45) (rd_move rfl) rfl ?_
                refine Wx.rd (v := .int .i64 (([xa, ya, za].take (1 + ((ix 0 zs 0) % 3)).toNat).length : Int)) (rd_lenV rfl (hS.v 0 rfl) Try.underlying39) rfl ?_
                refine Wx.rd (v := .int .i64 0) (rd_move rfl) rfl ?_
                refine Wx.nil ?_
                refine W.block ?_
                have hT := len3 (x := xa) (y := ya) (z := za) (g := (1 + ix 0 zs 0 % 3)) ⟨by omega, by omega⟩
                have hTb := take3 (x := xa) (y := ya) (z := za) (g := (1 + ix 0 zs 0 % 3)) ⟨by omega, by omega⟩ ⟨by omega, by omega⟩ ⟨by omega, by omega⟩
                refine W.loop [18, 19, 20, 21, 93, 94, 95, 96, 97, 98, 99, 100, 101, 102, 103, 104, 105, 106, 107, 108, 109, 110, 111, 112, 113, 114, 115, 116, 117, 118] (fun x : Int × Int × Int => match x with | (cost, worth, j) => [(18, .int .i64 cost), (19, .int .i64 worth), (93, .int .i64 j)]) (fun (x : Int × Int × Int) w' => match x with | (cost, worth, j) => St w O w' [Ob.v (tSl (tI .i64)) ([xa, ya, za].take (1 + ((ix 0 zs 0) % 3)).toNat) u_45, Ob.v (tSl (tI .i64)) [xa, ya, za] v_41, Ob.v (tSl (tI .i64)) t8 t8v, Ob.v (tSl (tI .i64)) t6 t6v, Ob.v (tSl (tI .i64)) t4 t4v, Ob.v (tSl (tI .i64)) t tv, .row (tI .i64) 3 pv p, .row (tP (tSl (tI .i64)) (tSl (tI .i64))) 62 ov out, .box g_1 66 (List.map (Value.int .u8) zs)] ∧ 0 ≤ j ∧ j ≤ (1 + ix 0 zs 0 % 3) ∧ 0 ≤ cost ∧ cost ≤ 16 * j ∧ 1 ≤ worth ∧ ((j = 0 → worth ≤ 1) ∧ (j = 1 → worth ≤ 7) ∧ (j = 2 → worth ≤ 49) ∧ (j = 3 → worth ≤ 343))) (fun x : Int × Int × Int => match x with | (cost, worth, j) => ((1 + ix 0 zs 0 % 3) - j).toNat) (0, 1, 0) ⟨rfl, rfl, rfl, trivial⟩ ⟨hS, (by first | omega | simp), (by first | omega | simp), (by first | omega | simp), (by first | omega | simp), (by first | omega | simp), (by omega)⟩ ?_
                rintro ⟨cost, worth, j⟩ u_50 w_49 ⟨hS, j0, j1, j2, j3, j4, j5⟩
                refine W.seq ?_
                refine W.reg ?_
                refine Wx.rd (v := .bool (decide (j < (([xa, ya, za].take (1 + ((ix 0 zs 0) % 3)).toNat).length : Int)))) (rd_lss rfl rfl) rfl ?_
                refine Wx.nil ?_
                refine W.seq ?_
                refine W.condD rfl (fun c6 => ?_) (fun c6 => ?_)
                · -- yes
                  refine W.skip ?_
                  refine W.seq ?_
                  refine W.block ?_
                  refine W.seq ?_
                  refine W.reg ?_
                  refine Wx.rd (v := .int .i64 j) (rd_move rfl) rfl ?_
                  refine Wx.ex (rd_index 0 (hS.v 0 rfl) rfl rfl Try.underlying39 Try.sizeOf3 (by first | omega | (simp only [List.length_set, List.length_append, List.length_cons, List.length_nil, List.length_replicate]; omega)) (by first | omega | (simp only [List.length_set, List.length_append, List.length_cons, List.length_nil, List.length_replicate]; omega))) rfl (fun p_51 hp_52 => ?_)
                  refine Wx.rd (v := .int .i64 (ix 0 ([xa, ya, za].take (1 + ((ix 0 zs 0) % 3)).toNat) j)) (rd_loadI hp_52 rfl Try.isAgg3 Try.sizeOf3) rfl ?_
                  have bd_53 := bd_i64 hp_52.inK
                  refine Wx.rd (v := .int .i64 j) (rd_assign rfl) rfl ?_
                  refine Wx.rd (v := .int .i64 (ix 0 ([xa, ya, za].take (1 + ((ix 0 zs 0) % 3)).toNat) j)) (rd_assign rfl) rfl ?_
                  refine Wx.nil ?_
                  refine W.seq ?_
                  refine W.reg ?_
                  refine Wx.rd (v := .int .i64 cost) (rd_move rfl) rfl ?_
                  refine Wx.rd (v := pv) (rd_move rfl) rfl ?_
                  refine Wx.rd (v := .int .i64 j) (rd_move rfl) rfl ?_
                  refine Wx.indexR hS 6 rfl rfl rfl Try.underlying39 Try.sizeOf3 (by first | omega | (simp only [List.length_set, List.length_append, List.length_cons, List.length_nil, List.length_replicate]; omega)) (by first | omega | (simp only [List.length_set, List.length_append, List.length_cons, List.length_nil, List.length_replicate]; omega)) rfl (fun g_54 hg_55 => ?_)
                  refine Wx.rd (v := .int .i64 (ix 0 p j)) (rd_loadRI' hS 6 rfl hg_55 rfl (by first | omega | (simp only [List.length_set, List.length_append, List.length_cons, List.length_nil, List.length_replicate]; omega)) (by first | omega | (simp only [List.length_set, List.length_append, List.length_cons, List.length_nil, List.length_replicate]; omega)) Try.isAgg3 Try.sizeOf3) rfl ?_
                  have bd_56 := bd_i64 (hS.rowInK' 6 rfl (by first | omega | (simp only [List.length_set, List.length_append, List.length_cons, List.length_nil, List.length_replicate]; omega)) (by first | omega | (simp only [List.length_set, List.length_append, List.length_cons, List.length_nil, List.length_replicate]; omega)) : InK .i64 (ix 0 p j))
                  refine Wx.rd (v := .int .i64 (ix 0 ([xa, ya, za].take (1 + ((ix 0 zs 0) % 3)).toNat) j)) (rd_move rfl) rfl ?_
                  have hqx := ix_in hTb j0 (by omega)
                  have hmm := mul16 (ix_in k4 j0 (by omega)) hqx
                  refine Wx.rd (v := .int .i64 ((ix 0 p j) * (ix 0 ([xa, ya, za].take (1 + ((ix 0 zs 0) % 3)).toNat) j))) (rd_mul rfl rfl (in_i64 (by omega) (by omega))) rfl ?_
                  refine Wx.rd (v := .int .i64 (cost + ((ix 0 p j) * (ix 0 ([xa, ya, za].take (1 + ((ix 0 zs 0) % 3)).toNat) j)))) (rd_add rfl rfl (in_i64 (by omega) (by omega))) rfl ?_
                  refine Wx.rd (v := .int .i64 (cost + ((ix 0 p j) * (ix 0 ([xa, ya, za].take (1 + ((ix 0 zs 0) % 3)).toNat) j)))) (rd_assign rfl) rfl ?_
                  refine Wx.nil ?_
                  refine W.reg ?_
                  refine Wx.rd (v := .int .i64 worth) (rd_move rfl) rfl ?_
                  refine Wx.rd (v := .int .i64 (ix 0 ([xa, ya, za].take (1 + ((ix 0 zs 0) % 3)).toNat) j)) (rd_move rfl) rfl ?_
                  refine Wx.rd (v := .int .i64 ((ix 0 ([xa, ya, za].take (1 + ((ix 0 zs 0) % 3)).toNat) j) + 1)) (rd_add rfl rfl (in_i64 (by omega) (by omega))) rfl ?_
                  refine Wx.rd (v := .pointer (some ⟨g_1, 0 + 2, none⟩)) (rd_fieldAddr (o := 0) rfl foLl_66_2) rfl ?_
                  have bz_57 := ix_u8 i_zs 2
                  refine Wx.rd (v := .int .u8 (ix 0 zs 2)) (rd_loadXa (d := 0) (f := (Value.int .u8)) (j := 2) hS 8 rfl rfl (by omega) (by omega) (by omega) Try.isAgg5) rfl ?_
                  refine Wx.rd (v := .int .u8 ((ix 0 zs 2) / 2)) (rd_quo rfl rfl (by omega) (by omega) (in_u8 (by omega) (by omega))) rfl ?_
                  refine Wx.rd (v := .int .i64 ((ix 0 zs 2) / 2)) (rd_convIn rfl Try.underlying5 Try.underlying3 (in_i64 (by omega) (by omega))) rfl ?_
                  refine Wx.rd (v := .int .i64 j) (rd_move rfl) rfl ?_
                  refine Wx.rd (v := .int .i64 (j + 1)) (rd_add rfl rfl (in_i64 (by omega) (by omega))) rfl ?_
                  have hr0 := Int.emod_nonneg (ix 0 zs 2 / 2) (show j + 1 ≠ 0 by omega)
                  have hr1 := Int.emod_lt_of_pos (ix 0 zs 2 / 2) (show 0 < j + 1 by omega)
                  refine Wx.rd (v := .int .i64 (((ix 0 zs 2) / 2) % (j + 1))) (rd_rem rfl rfl (by omega) (by omega)) rfl ?_
                  refine Wx.rd (v := .int .i64 (((ix 0 ([xa, ya, za].take (1 + ((ix 0 zs 0) % 3)).toNat) j) + 1) + (((ix 0 zs 2) / 2) % (j + 1)))) (rd_add rfl rfl (in_i64 (by omega) (by omega))) rfl ?_
                  have hw7 := mul7 j4 (f := ix 0 (List.take (1 + ix 0 zs 0 % 3).toNat ([xa, ya, za] : List Int)) j + 1 + (ix 0 zs 2 / 2) % (j + 1)) ⟨by omega, by omega⟩
                  refine Wx.rd (v := .int .i64 (worth * (((ix 0 ([xa, ya, za].take (1 + ((ix 0 zs 0) % 3)).toNat) j) + 1) + (((ix 0 zs 2) / 2) % (j + 1))))) (rd_mul rfl rfl (in_i64 (by omega) (by omega))) rfl ?_
                  refine Wx.rd (v := .int .i64 (worth * (((ix 0 ([xa, ya, za].take (1 + ((ix 0 zs 0) % 3)).toNat) j) + 1) + (((ix 0 zs 2) / 2) % (j + 1))))) (rd_assign rfl) rfl ?_
                  refine Wx.nil ?_
                  refine W.reg ?_
                  refine Wx.rd (v := .int .i64 (j + 1)) (rd_add rfl rfl (in_i64 (by omega) (by omega))) rfl ?_
                  refine Wx.rd (v := .int .i64 (j + 1)) (rd_move rfl) rfl ?_
                  refine Wx.nil ?_
                  refine ⟨(cost + ((ix 0 p j) * (ix 0 ([xa, ya, za].take (1 + ((ix 0 zs 0) % 3)).toNat) j)), worth * (((ix 0 ([xa, ya, za].take (1 + ((ix 0 zs 0) % 3)).toNat) j) + 1) + (((ix 0 zs 2) / 2) % (j + 1))), j + 1), (by show ((1 + ix 0 zs 0 % 3) - (j + 1)).toNat < ((1 + ix 0 zs 0 % 3) - j).toNat; omega), ?_, ?_, Out.look rfl Out.self⟩
                  · exact ⟨hS, (by first | omega | assumption), (by first | omega | assumption), (by first | omega | assumption), (by first | omega | assumption), (by first | omega | assumption), (by omega)⟩
                  · exact ⟨rfl, rfl, rfl, trivial⟩
                · -- no
                  refine W.exit rfl ?_
                  refine W.seq ?_
                  refine W.reg ?_
                  refine Wx.rd (v := .int .i64 cost) (rd_move rfl) rfl ?_
                  refine Wx.rd (v := .int .i64 (4 + ((ix 0 zs (21 + i * 3 + 0)) % 9))) (rd_move rfl) rfl ?_
                  refine Wx.rd (v := .bool (decide (cost ≤ (4 + ((ix 0 zs (21 + i * 3 + 0)) % 9))))) (rd_leq rfl rfl) rfl ?_
                  refine Wx.rd (v := .bool (decide (cost ≤ (4 + ((ix 0 zs (21 + i * 3 + 0)) % 9))))) (rd_move rfl) rfl ?_
                  refine Wx.cut (X := Unit) 4 [123, 124, 125, 126] (fun _ => [(126, .bool (decide (cost ≤ (4 + ((ix 0 zs (21 + i * 3 + 0)) % 9))) && decide (b8 < worth)))]) (fun _ w' => St w O w' [Ob.v (tSl (tI .i64)) ([xa, ya, za].take (1 + ((ix 0 zs 0) % 3)).toNat) u_45, Ob.v (tSl (tI .i64)) [xa, ya, za] v_41, Ob.v (tSl (tI .i64)) t8 t8v, Ob.v (tSl (tI .i64)) t6 t6v, Ob.v (tSl (tI .i64)) t4 t4v, Ob.v (tSl (tI .i64)) t tv, .row (tI .i64) 3 pv p, .row (tP (tSl (tI .i64)) (tSl (tI .i64))) 62 ov out, .box g_1 66 (List.map (Value.int .u8) zs)]) ?_ ?_
                  · rcases Bool.eq_false_or_eq_true (decide (cost ≤ (4 + ((ix 0 zs (21 + i * 3 + 0)) % 9)))) with g_58 | g_58
                    · -- True
                      have gp_59 := of_decide_eq_true g_58
                      refine Wx.gyes rfl rfl (congrArg Value.bool g_58) ?_
                      refine Wx.rd (v := .int .i64 worth) (rd_move rfl) rfl ?_
                      refine Wx.gyes rfl rfl (congrArg Value.bool g_58) ?_
                      refine Wx.rd (v := .int .i64 b8) (rd_move rfl) rfl ?_
                      refine Wx.gyes rfl rfl (congrArg Value.bool g_58) ?_
                      refine Wx.rd (v := .bool (decide (b8 < worth))) (rd_gtr rfl rfl) rfl ?_
                      refine Wx.rd (v := .bool (decide (b8 < worth))) (rd_pickT (congrArg Value.bool g_58) rfl) rfl ?_
                      refine Wx.nil ⟨(), hS, ⟨?_, trivial⟩, Out.look rfl Out.refl⟩
                      show Value.bool (decide (b8 < worth)) = Value.bool (decide (cost ≤ (4 + ((ix 0 zs (21 + i * 3 + 0)) % 9))) && decide (b8 < worth))
                      first | rw [g_58, Bool.true_and] | (rw [g_58]; rfl)
                    · -- False
                      have gp_60 := of_decide_eq_false g_58
                      refine Wx.gnoB rfl rfl (congrArg Value.bool g_58) rfl rfl ?_
                      refine Wx.gnoB rfl rfl (congrArg Value.bool g_58) rfl rfl ?_
                      refine Wx.gnoB rfl rfl (congrArg Value.bool g_58) rfl rfl ?_
                      refine Wx.rd (v := .bool false) (rd_pickF (congrArg Value.bool g_58) rfl) rfl ?_
                      refine Wx.nil ⟨(), hS, ⟨?_, trivial⟩, Out.look rfl Out.refl⟩
                      show Value.bool false = Value.bool (decide (cost ≤ (4 + ((ix 0 zs (21 + i * 3 + 0)) % 9))) && decide (b8 < worth))
                      first | rw [g_58, Bool.false_and] | (rw [g_58]; rfl)
                  rintro ⟨⟩ u_62 w_61 hS
                  refine Wx.nil ?_
                  refine W.cond rfl (fun c7 => ?_) (fun c7 => ?_)
                  · -- yes
                    try simp only [Bool.and_eq_true, Bool.or_eq_true, Bool.not_eq_true', Bool.and_eq_false_iff, Bool.or_eq_false_iff, Bool.not_eq_false', decide_eq_true_eq, decide_eq_false_iff_not, not_or, Bool.false_eq_true, Bool.true_eq_false, false_or, or_false, not_false_eq_true] at c7
                    refine W.reg ?_
                    refine Wx.rd (v := u_45) (rd_move rfl) rfl ?_
                    refine Wx.callF (run_callF Try.call57 rfl) (F57 (hS.v 0 rfl) (by omega)) rfl ?_
                    rintro r_63 w_64 hx_65 ⟨_, rfl, hv_66⟩
                    have hS := hS.pushFr hx_65 hv_66
                    refine Wx.rd (v := .int .i64 worth) (rd_move rfl) rfl ?_
                    refine Wx.rd (v := r_63) (rd_assign rfl) rfl ?_
                    refine Wx.rd (v := .int .i64 worth) (rd_assign rfl) rfl ?_
                    refine Wx.nil ?_
                    refine W.reg ?_
                    refine Wx.rd (v := .int .i64 (za + 1)) (rd_add rfl rfl (in_i64 (by omega) (by omega))) rfl ?_
                    refine Wx.rd (v := .int .i64 (za + 1)) (rd_move rfl) rfl ?_
                    refine Wx.nil ?_
                    have hS := hS.freeze 0 rfl
                    have hv_69 : V (tSl (tI .i64)) ([xa, ya, za].take (1 + ((ix 0 zs 0) % 3)).toNat) r_63 _ _ := (hS.v 0 rfl)
                    refine ⟨(r_63, ([xa, ya, za].take (1 + ((ix 0 zs 0) % 3)).toNat), worth, za + 1), (by show (5 - (za + 1)).toNat < (5 - za).toNat; omega), ?_, ?_, Out.look rfl (Out.hav rfl (Out.look rfl (Out.hav rfl (Out.look rfl Out.self))))⟩
                    · exact ⟨(St.add (St.tl (St.tl (St.tl (St.tl (hS))))) (V.tlF (V.tlF (V.tlF (V.tlF (hv_69)))))), (by first | omega | assumption), (by first | omega | assumption), (by rw [len3 ⟨by omega, by omega⟩]), (take3 ⟨by omega, by omega⟩ ⟨by omega, by omega⟩ ⟨by omega, by omega⟩), (by first | omega | assumption), (by first | omega | assumption)⟩
                    · exact ⟨rfl, rfl, rfl, trivial⟩
                  · -- no
                    try simp only [Bool.and_eq_true, Bool.or_eq_true, Bool.not_eq_true', Bool.and_eq_false_iff, Bool.or_eq_false_iff, Bool.not_eq_false', decide_eq_true_eq, decide_eq_false_iff_not, not_or, Bool.false_eq_true, Bool.true_eq_false, false_or, or_false, not_false_eq_true] at c7
                    refine W.skip ?_
                    refine W.reg ?_
                    refine Wx.rd (v := .int .i64 (za + 1)) (rd_add rfl rfl (in_i64 (by omega) (by omega))) rfl ?_
                    refine Wx.rd (v := .int .i64 (za + 1)) (rd_move rfl) rfl ?_
                    refine Wx.nil ?_
                    have hv_70 : V (tSl (tI .i64)) t8 t8v _ _ := (hS.v 2 rfl)
                    refine ⟨(t8v, t8, b8, za + 1), (by show (5 - (za + 1)).toNat < (5 - za).toNat; omega), ?_, ?_, Out.look rfl (Out.hav rfl (Out.look rfl (Out.hav rfl (Out.look rfl Out.self))))⟩
                    · exact ⟨(St.add (St.tl (St.tl (St.tl (hS)))) (V.tlF (V.tlF (V.tlF (hv_70))))), (by first | omega | assumption), (by first | omega | assumption), (zl), (zb), (by first | omega | assumption), (by first | omega | assumption)⟩
                    · exact ⟨rfl, rfl, rfl, trivial⟩
              · -- no
                refine W.exit rfl ?_
                refine W.reg ?_
                refine Wx.rd (v := .int .i64 (ya + 1)) (rd_add rfl rfl (in_i64 (by omega) (by omega))) rfl ?_
                refine Wx.rd (v := .int .i64 (ya + 1)) (rd_move rfl) rfl ?_
                refine Wx.nil ?_
                have hv_71 : V (tSl (tI .i64)) t8 t8v _ _ := (hS.v 0 rfl)
                refine ⟨(t8v, t8, b8, ya + 1), (by show (5 - (ya + 1)).toNat < (5 - ya).toNat; omega), ?_, ?_, Out.look rfl (Out.hav rfl (Out.look rfl Out.self))⟩
                · exact ⟨(St.add (St.tl (St.tl (hS))) (V.tlF (V.tlF (hv_71)))), (by first | omega | assumption), (by first | omega | assumption), (zl), (zb), (by first | omega | assumption), (by first | omega | assumption)⟩
                · exact ⟨rfl, rfl, rfl, trivial⟩
            · -- no
              refine W.exit rfl ?_
              refine W.reg ?_
              refine Wx.rd (v := .int .i64 (xa + 1)) (rd_add rfl rfl (in_i64 (by omega) (by omega))) rfl ?_
              refine Wx.rd (v := .int .i64 (xa + 1)) (rd_move rfl) rfl ?_
              refine Wx.nil ?_
              have hv_72 : V (tSl (tI .i64)) t6 t6v _ _ := (hS.v 0 rfl)
              refine ⟨(t6v, t6, b6, xa + 1), (by show (5 - (xa + 1)).toNat < (5 - xa).toNat; omega), ?_, ?_, Out.look rfl (Out.hav rfl (Out.look rfl Out.self))⟩
              · exact ⟨(St.add (St.tl (St.tl (hS))) (V.tlF (V.tlF (hv_72)))), (by first | omega | assumption), (by first | omega | assumption), (yl), (yb), (by first | omega | assumption), (by first | omega | assumption)⟩
              · exact ⟨rfl, rfl, rfl, trivial⟩
          · -- no
            refine W.exit rfl ?_
            have hv_73 : V (tSl (tI .i64)) t4 t4v _ _ := (hS.v 0 rfl)
            refine ⟨(t4v, t4), ?_, ?_, Out.look rfl (Out.hav rfl (Out.look rfl Out.refl))⟩
            · exact ⟨(St.add (St.tl (hS)) (V.tlF (hv_73))), (xl), (xb)⟩
            · exact ⟨rfl, trivial⟩
        · -- no
          refine W.skip ?_
          have hv_74 : V (tSl (tI .i64)) t tv _ _ := (hS.v 0 rfl)
          refine ⟨(tv, t), ?_, ?_, Out.look rfl Out.refl⟩
          · exact ⟨(St.add (hS) (hv_74)), (by omega), (k5)⟩
          · exact ⟨rfl, trivial⟩
      rintro ⟨jv, tj⟩ u_76 w_75 ⟨hS, jl, jb⟩
      refine W.reg ?_
      refine Wx.rd (v := ov) (rd_move rfl) rfl ?_
      refine Wx.rd (v := pv) (rd_move rfl) rfl ?_
      refine Wx.rd (v := jv) (rd_move rfl) rfl ?_
      have hS := hS.freeze 2 rfl
      refine Wx.rd (v := .agg #[pv, jv]) (rd_buildC (vs := [(0, pv), (1, jv)]) (us := [(0, .agg #[pv]), (1, .agg #[jv])]) rfl (parts_cons (Go.Wk.cells_one (V.oneC (hS.v 0 rfl))) (parts_cons (Go.Wk.cells_one (V.oneC (hS.v 1 rfl))) parts_nil)) (by kernel_rfl)) rfl ?_
      refine Wx.lit (t := (tP (tSl (tI .i64)) (tSl (tI .i64)))) (ys := [(p, tj)]) (vs := [.agg #[pv, jv]]) elLl_22 hS rfl rfl ⟨(V.mkS2 (z := (p, tj)) (hS.v 0 rfl) (hS.v 1 rfl)), trivial⟩ (by decide) rfl (fun v_78 w_79 hx_80 hS => ?_)
      refine Wx.append elLl_22 hS 4 rfl rfl rfl (Src.ofR hS 0 rfl) (by simp only [maxLen]; simp; omega) (by simp; omega) rfl (fun v_81 w_82 hz_83 hS => ?_)
      refine Wx.rd (v := v_81) (rd_assign rfl) rfl ?_
      refine Wx.nil ?_
      refine W.reg ?_
      refine Wx.rd (v := .int .i64 (i + 1)) (rd_add rfl rfl (in_i64 (by omega) (by omega))) rfl ?_
      refine Wx.rd (v := .int .i64 (i + 1)) (rd_move rfl) rfl ?_
      refine Wx.nil ?_
      refine ⟨(i + 1, v_81, out ++ [(p, tj)]), (by show ((ix 0 zs 1 % (most + 1)) - (i + 1)).toNat < ((ix 0 zs 1 % (most + 1)) - i).toNat; omega), ?_, ?_, Out.look rfl (Out.hav rfl (Out.look rfl (Out.hav rfl (Out.look rfl Out.self))))⟩
      · exact ⟨St.tl (St.tl (St.tl (hS.tl))), (by first | omega | assumption), (by first | omega | assumption), (by simp only [List.length_append, List.length_cons, List.length_nil]; omega), (snoc_all h3 (shop_one (by rw [shG]; omega) (by rw [shG]; omega) k4 jb))⟩
      · exact ⟨rfl, rfl, trivial⟩
  · -- no
    refine W.exit rfl ?_
    refine W.seq ?_
    refine W.reg ?_
    refine Wx.rd (v := .int .i64 (1 + ((ix 0 zs 0) % 3))) (rd_move rfl) rfl ?_
    refine Wx.rd (v := ov) (rd_move rfl) rfl ?_
    refine Wx.rd (v := .int .i64 (1 + ((ix 0 zs 0) % 3))) (rd_assign rfl) rfl ?_
    refine Wx.rd (v := ov) (rd_assign rfl) rfl ?_
    refine Wx.nil ?_
    have e0_0 : (shG zs) = (1 + ((ix 0 zs 0) % 3) : Int) := by rfl
    exact W.ret ⟨.tuple #[.int .i64 (1 + ((ix 0 zs 0) % 3)), ov], ResIs.two, hS.bel, ⟨out, (by exact ⟨by omega, h3⟩), ⟨ov, (by rw [e0_0]), (hS.frO 0 rfl)⟩⟩⟩

end Go.Proofs.Ytjbcpggikaeleaa

namespace Go.Proofs.Ytjbcpggikaeleaa
open Go.Wk Go.RowKit Go.Lib
set_option linter.unusedVariables false
set_option linter.unusedSimpArgs false
theorem mixedLv_ : Try.prog.follows .mixedOrders = true := by kernel_rfl
theorem foLv_62_0 : fldOff Try.prog 62 0 = some 0 := by kernel_rfl
theorem foLv_62_1 : fldOff Try.prog 62 1 = some 1 := by kernel_rfl
theorem elLv_22 : ElemI Try.prog 22 62 (.agg #[(.slice none 0 0), (.slice none 0 0)]) 2 48 := ElemI.of Try.underlying22 (by kernel_rfl) (by first | rfl | kernel_rfl) (by decide)

set_option maxHeartbeats 4000000 in
set_option maxRecDepth 10000 in
theorem F13 {zs : List Int} {tu : Int} {wh : Int} {O : List (Option Nat)} {w : World} (n_zs : zs.length = 39) (i_zs : ∀ z ∈ zs, InK .u8 z) (i_tu : InK .u8 tu) (i_wh : InK .u8 wh) (hO : ∀ b, some b ∈ O → b < w.heap.size) : Calls Try.prog 13 #[.agg (List.map (Value.int .u8) zs).toArray, .int .u8 tu, .int .u8 wh] w (Ret w (fun r _ => r = .bool true)) := by
  have b_wh := bd_u8 i_wh
  have b_tu := bd_u8 i_tu
  have hS := St.start w O hO
  refine enterR Try.func13 rfl Try.ntmps13 Try.results13 rfl ?_
  refine W.seq ?_
  refine W.reg ?_
  refine Wx.box (cs := List.map (Value.int .u8) zs) hS rfl rfl rfl (fun g_1 w_2 hx_4 hb_3 hS => ?_)
  refine Wx.rd (v := .bool false) (rd_assign rfl) rfl ?_
  refine Wx.nil ?_
  refine W.seq ?_
  refine W.reg ?_
  refine Wx.rd (v := .agg (List.map (Value.int .u8) zs).toArray) (rd_loadXs (ds := List.map (Value.int .u8) zs) hS 0 rfl rfl (by rw [List.drop_zero, List.take_of_length_le (by simp; omega)]) (by simp; omega) Try.isAgg66 Try.sizeOf66) rfl ?_
  refine Wx.callF (run_callF Try.call46 rfl) (F46 n_zs i_zs (in_i64 (by omega) (by omega)) (by omega) (by omega) hS.fb_lt) rfl ?_
  rintro r_5 w_6 hx_7 ⟨l, x_hc, v_8, rfl, hv_9⟩
  have hS := hS.pushFrO hx_7 hv_9
  obtain ⟨hc, ok_hc, h6_hc⟩ := shop_ok (by decide) (by decide) x_hc
  have hgz := shG_bd zs
  refine Wx.rd (v := .tuple #[.int .i64 (shG zs), v_8]) (rd_move rfl) rfl ?_
  refine Wx.rd (v := .int .i64 (shG zs)) (rd_extract rfl rfl) rfl ?_
  refine Wx.rd (v := v_8) (rd_extract rfl rfl) rfl ?_
  refine Wx.rd (v := .int .i64 (shG zs)) (rd_assign rfl) rfl ?_
  have hS := hS.freeze 0 rfl
  refine Wx.rd (v := v_8) (rd_assign rfl) rfl ?_
  refine Wx.nil ?_
  refine W.seq ?_
  refine W.reg ?_
  refine Wx.rd (v := (.slice none 0 0)) (rd_assign rfl) rfl ?_
  refine Wx.rd (v := (.slice none 0 0)) (rd_assign rfl) rfl ?_
  refine Wx.rd (v := (.slice none 0 0)) (rd_assign rfl) rfl ?_
  refine Wx.nil ?_
  refine W.seq ?_
  refine W.seq ?_
  refine W.reg ?_
  refine Wx.rd (v := v_8) (rd_move rfl) rfl ?_
  refine Wx.rd (v := .int .i64 (l.length : Int)) (rd_lenV rfl (hS.v 0 rfl) Try.underlying22) rfl ?_
  refine Wx.rd (v := .int .i64 0) (rd_move rfl) rfl ?_
  refine Wx.nil ?_
  refine W.block ?_
  have hS := hS.addNil (tP (tSl (tI .i64)) (tSl (tI .i64))) 62
  have hS := hS.addNil (tP (tSl (tI .i64)) (tSl (tI .i64))) 62
  have hS := hS.addNil (tP (tSl (tI .i64)) (tSl (tI .i64))) 62
  refine W.loop [9, 10, 11, 12, 13, 14, 15, 16, 39, 40, 41, 42, 43, 44, 45, 46, 47, 48, 49, 50, 51, 52, 53, 54, 55, 56, 57, 58, 59, 60, 61, 62, 63, 64, 65, 66, 67, 68, 69, 70, 71, 72, 73, 74, 75, 76, 77, 78, 79, 80, 81, 82, 83, 84, 85, 86, 87, 88, 89, 90, 91, 92, 93, 94, 95, 96, 97, 98, 99, 100, 101, 102, 103] (fun x : Int × Value × (List ((List Int) × (List Int))) × Value × (List ((List Int) × (List Int))) × Value × (List ((List Int) × (List Int))) => match x with | (i, gv, gs, ov, os, dv, ds) => [(39, .int .i64 i), (9, gv), (10, ov), (11, dv)]) (fun (x : Int × Value × (List ((List Int) × (List Int))) × Value × (List ((List Int) × (List Int))) × Value × (List ((List Int) × (List Int)))) w' => match x with | (i, gv, gs, ov, os, dv, ds) => St w O w' [.row (tP (tSl (tI .i64)) (tSl (tI .i64))) 62 dv ds, .row (tP (tSl (tI .i64)) (tSl (tI .i64))) 62 ov os, .row (tP (tSl (tI .i64)) (tSl (tI .i64))) 62 gv gs, Ob.v (tSl (tP (tSl (tI .i64)) (tSl (tI .i64)))) l v_8, .box g_1 66 (List.map (Value.int .u8) zs)] ∧ 0 ≤ i ∧ i ≤ l.length ∧ gs = (l.map revS2).take i.toNat ∧ os = othL l tu i ∧ ds = dearL l (wh % (l.length : Int)) i ∧ (gs.length : Int) ≤ i ∧ (os.length : Int) ≤ i ∧ (ds.length : Int) ≤ i) (fun x : Int × Value × (List ((List Int) × (List Int))) × Value × (List ((List Int) × (List Int))) × Value × (List ((List Int) × (List Int))) => match x with | (i, gv, gs, ov, os, dv, ds) => (l.length - i).toNat) (0, (.slice none 0 0), [], (.slice none 0 0), [], (.slice none 0 0), []) ⟨rfl, rfl, rfl, rfl, trivial⟩ ⟨hS, (by first | omega | simp), (by first | omega | simp), (rfl), (rfl), (rfl), (by decide), (by decide), (by decide)⟩ ?_
  rintro ⟨i, gv, gs, ov, os, dv, ds⟩ u_13 w_12 ⟨hS, n0, h1, h2, h3, h4, h5, h6, h7⟩
  refine W.seq ?_
  refine W.reg ?_
  refine Wx.rd (v := .bool (decide (i < (l.length : Int)))) (rd_lss rfl rfl) rfl ?_
  refine Wx.nil ?_
  refine W.seq ?_
  refine W.condD rfl (fun c0 => ?_) (fun c0 => ?_)
  · -- yes
    have hx := chk_ix hc n0 c0
    have hx1 := hx.1.1
    have hx2 := hx.1.2
    have hr0 := Int.emod_nonneg (i + tu) (show (l.length : Int) ≠ 0 by omega)
    have hr1 := Int.emod_lt_of_pos (i + tu) (show 0 < (l.length : Int) by omega)
    have hq0 := Int.emod_nonneg wh (show (l.length : Int) ≠ 0 by omega)
    refine W.skip ?_
    refine W.seq ?_
    refine W.block ?_
    refine W.seq ?_
    refine W.reg ?_
    refine Wx.rd (v := .int .i64 i) (rd_move rfl) rfl ?_
    refine Wx.ex (rd_index ([], []) (hS.v 3 rfl) rfl rfl Try.underlying22 Try.sizeOf62 (by first | omega | (simp only [List.length_set, List.length_append, List.length_cons, List.length_nil, List.length_replicate]; omega)) (by first | omega | (simp only [List.length_set, List.length_append, List.length_cons, List.length_nil, List.length_replicate]; omega))) rfl (fun p_14 hp_15 => ?_)
    refine Wx.ex (rd_load hp_15 rfl Try.isAgg62 Try.sizeOf62) rfl (fun v_16 hv_17 => ?_)
    obtain ⟨v_18, v_19, rfl, hv_20, hv_21⟩ := hv_17.s2
    have hS := hS.add (hv_20)
    have ln_23 := (hS.v 0 rfl).len63
    have hS := hS.add (V.upF (hv_21))
    have ln_25 := (hS.v 0 rfl).len63
    refine Wx.alloc (cs := [(.slice none 0 0), (.slice none 0 0)]) hS Try.zeroValue62 rfl rfl (fun g_26 w_27 hx_29 hb_28 hS => ?_)
    refine Wx.rd (v := .int .i64 i) (rd_assign rfl) rfl ?_
    refine Wx.storeX (cs' := [v_18, v_19]) (ds := [v_18, v_19]) hS 0 rfl rfl rfl rfl Try.sizeOf62 (Nat.le_of_ble_eq_true rfl) (one_cons (V.oneC (hS.v 2 rfl)) (one_cons (V.oneC (hS.v 1 rfl)) one_nil)) rfl (fun w_30 hz_31 hS => ?_)
    refine Wx.nil ?_
    refine W.seq ?_
    refine W.regH mixedLv_ (fun w_32 hx_33 => ?_)
    have h0 := hS
    have hS := (St.start _ _ h0.fb_lt).ext hx_33
    refine Wh.rd (v := .pointer (some ⟨g_26, 0, none⟩)) 0 rfl (by kernel_rfl) hS.bel (rd_fieldAddr rfl foLv_62_0) rfl ?_
    refine Wh.rd (v := v_18) 1 rfl (by kernel_rfl) hS.bel (rd_loadX h0 0 rfl rfl rfl Try.isAgg39) rfl ?_
    refine Wh.rd (v := .pointer (some ⟨g_26, 1, none⟩)) 3 rfl (by kernel_rfl) hS.bel (rd_fieldAddr rfl foLv_62_1) rfl ?_
    refine Wh.rd (v := v_19) 4 rfl (by kernel_rfl) hS.bel (rd_loadX h0 0 rfl rfl rfl Try.isAgg39) rfl ?_
    refine Wh.br [2] (by kernel_rfl) (by decide) ⟨⟨_, rfl, ?_⟩, trivial⟩
    refine Wx.callF (run_callF Try.call57 rfl) (F57 (hS.arg (h0.v 2 rfl)) (by omega)) rfl ?_
    rintro r_34 w_35 hx_36 ⟨_, rfl, hv_37⟩
    have hS := hS.pushFr hx_36 hv_37
    refine Wx.nil ⟨hS.bel, ?_⟩
    refine Wh.br [5] (by kernel_rfl) (by decide) ⟨⟨_, rfl, ?_⟩, trivial⟩
    refine Wx.callF (run_callF Try.call57 rfl) (F57 (hS.arg (h0.v 1 rfl)) (by omega)) rfl ?_
    rintro r_39 w_40 hx_41 ⟨_, rfl, hv_42⟩
    have hS := hS.pushFr hx_41 hv_42
    refine Wx.nil ⟨hS.bel, ?_⟩
    refine Wh.rd (v := r_34) 6 rfl (by kernel_rfl) hS.bel (rd_assign rfl) rfl ?_
    refine Wh.rd (v := r_39) 7 rfl (by kernel_rfl) hS.bel (rd_assign rfl) rfl ?_
    refine Wh.done (by kernel_rfl) ?_
    have hS := h0.merge hS
    refine W.seq ?_
    refine W.reg ?_
    refine Wx.rd (v := r_34) (rd_move rfl) rfl ?_
    refine Wx.callB (run_callF Try.call58 rfl) (F58 (ob := [.row (tI .i64) 3 r_39 ((ix ([], []) l i).2), .box g_26 62 [v_18, v_19], Ob.v (tSl (tI .i64)) ((ix ([], []) l i).2) v_19, Ob.v (tSl (tI .i64)) ((ix ([], []) l i).1) v_18, .row (tP (tSl (tI .i64)) (tSl (tI .i64))) 62 dv ds, .row (tP (tSl (tI .i64)) (tSl (tI .i64))) 62 ov os, .row (tP (tSl (tI .i64)) (tSl (tI .i64))) 62 gv gs, Ob.v (tSl (tP (tSl (tI .i64)) (tSl (tI .i64)))) l v_8, .box g_1 66 (List.map (Value.int .u8) zs)])  (hS.front 1 rfl)) rfl ?_
    rintro r_44 w_45 ⟨rfl, hS⟩
    have hS : St _ _ w_45 [.row (tI .i64) 3 r_39 ((ix ([], []) l i).2), .row (tI .i64) 3 r_34 (List.reverse ((ix ([], []) l i).1)), .box g_26 62 [v_18, v_19], Ob.v (tSl (tI .i64)) ((ix ([], []) l i).2) v_19, Ob.v (tSl (tI .i64)) ((ix ([], []) l i).1) v_18, .row (tP (tSl (tI .i64)) (tSl (tI .i64))) 62 dv ds, .row (tP (tSl (tI .i64)) (tSl (tI .i64))) 62 ov os, .row (tP (tSl (tI .i64)) (tSl (tI .i64))) 62 gv gs, Ob.v (tSl (tP (tSl (tI .i64)) (tSl (tI .i64)))) l v_8, .box g_1 66 (List.map (Value.int .u8) zs)] := St.putBack (obs := [.row (tI .i64) 3 r_39 ((ix ([], []) l i).2), .row (tI .i64) 3 r_34 ((ix ([], []) l i).1), .box g_26 62 [v_18, v_19], Ob.v (tSl (tI .i64)) ((ix ([], []) l i).2) v_19, Ob.v (tSl (tI .i64)) ((ix ([], []) l i).1) v_18, .row (tP (tSl (tI .i64)) (tSl (tI .i64))) 62 dv ds, .row (tP (tSl (tI .i64)) (tSl (tI .i64))) 62 ov os, .row (tP (tSl (tI .i64)) (tSl (tI .i64))) 62 gv gs, Ob.v (tSl (tP (tSl (tI .i64)) (tSl (tI .i64)))) l v_8, .box g_1 66 (List.map (Value.int .u8) zs)]) 1 hS (by simp)
    refine Wx.nil ?_
    refine W.seq ?_
    refine W.reg ?_
    refine Wx.rd (v := r_39) (rd_move rfl) rfl ?_
    refine Wx.callB (run_callF Try.call58 rfl) (F58 (ob := [.row (tI .i64) 3 r_34 (List.reverse ((ix ([], []) l i).1)), .box g_26 62 [v_18, v_19], Ob.v (tSl (tI .i64)) ((ix ([], []) l i).2) v_19, Ob.v (tSl (tI .i64)) ((ix ([], []) l i).1) v_18, .row (tP (tSl (tI .i64)) (tSl (tI .i64))) 62 dv ds, .row (tP (tSl (tI .i64)) (tSl (tI .i64))) 62 ov os, .row (tP (tSl (tI .i64)) (tSl (tI .i64))) 62 gv gs, Ob.v (tSl (tP (tSl (tI .i64)) (tSl (tI .i64)))) l v_8, .box g_1 66 (List.map (Value.int .u8) zs)])  (hS.front 0 rfl)) rfl ?_
    rintro r_46 w_47 ⟨rfl, hS⟩
    have hS : St _ _ w_47 [.row (tI .i64) 3 r_39 (List.reverse ((ix ([], []) l i).2)), .row (tI .i64) 3 r_34 (List.reverse ((ix ([], []) l i).1)), .box g_26 62 [v_18, v_19], Ob.v (tSl (tI .i64)) ((ix ([], []) l i).2) v_19, Ob.v (tSl (tI .i64)) ((ix ([], []) l i).1) v_18, .row (tP (tSl (tI .i64)) (tSl (tI .i64))) 62 dv ds, .row (tP (tSl (tI .i64)) (tSl (tI .i64))) 62 ov os, .row (tP (tSl (tI .i64)) (tSl (tI .i64))) 62 gv gs, Ob.v (tSl (tP (tSl (tI .i64)) (tSl (tI .i64)))) l v_8, .box g_1 66 (List.map (Value.int .u8) zs)] := St.putBack (obs := [.row (tI .i64) 3 r_39 ((ix ([], []) l i).2), .row (tI .i64) 3 r_34 (List.reverse ((ix ([], []) l i).1)), .box g_26 62 [v_18, v_19], Ob.v (tSl (tI .i64)) ((ix ([], []) l i).2) v_19, Ob.v (tSl (tI .i64)) ((ix ([], []) l i).1) v_18, .row (tP (tSl (tI .i64)) (tSl (tI .i64))) 62 dv ds, .row (tP (tSl (tI .i64)) (tSl (tI .i64))) 62 ov os, .row (tP (tSl (tI .i64)) (tSl (tI .i64))) 62 gv gs, Ob.v (tSl (tP (tSl (tI .i64)) (tSl (tI .i64)))) l v_8, .box g_1 66 (List.map (Value.int .u8) zs)]) 0 hS (by simp)
    refine Wx.nil ?_
    refine W.seq ?_
    refine W.reg ?_
    refine Wx.rd (v := gv) (rd_move rfl) rfl ?_
    refine Wx.rd (v := r_34) (rd_move rfl) rfl ?_
    refine Wx.rd (v := r_39) (rd_move rfl) rfl ?_
    have hS := hS.freeze 1 rfl
    have hS := hS.freeze 1 rfl
    refine Wx.rd (v := .agg #[r_34, r_39]) (rd_buildC (vs := [(0, r_34), (1, r_39)]) (us := [(0, .agg #[r_34]), (1, .agg #[r_39])]) rfl (parts_cons (Go.Wk.cells_one (V.oneC (hS.v 1 rfl))) (parts_cons (Go.Wk.cells_one (V.oneC (hS.v 0 rfl))) parts_nil)) (by kernel_rfl)) rfl ?_
    refine Wx.lit (t := (tP (tSl (tI .i64)) (tSl (tI .i64)))) (ys := [(List.reverse ((ix ([], []) l i).1), List.reverse ((ix ([], []) l i).2))]) (vs := [.agg #[r_34, r_39]]) elLv_22 hS rfl rfl ⟨(V.mkS2 (z := (List.reverse ((ix ([], []) l i).1), List.reverse ((ix ([], []) l i).2))) (hS.v 1 rfl) (hS.v 0 rfl)), trivial⟩ (by decide) rfl (fun v_50 w_51 hx_52 hS => ?_)
    refine Wx.append elLv_22 hS 8 rfl rfl rfl (Src.ofR hS 0 rfl) (by simp only [maxLen]; simp; omega) (by simp; omega) rfl (fun v_53 w_54 hz_55 hS => ?_)
    refine Wx.rd (v := v_53) (rd_assign rfl) rfl ?_
    refine Wx.nil ?_
    refine W.seq ?_
    refine W.reg ?_
    refine Wx.rd (v := ov) (rd_move rfl) rfl ?_
    refine Wx.rd (v := v_8) (rd_move rfl) rfl ?_
    refine Wx.rd (v := .int .i64 i) (rd_move rfl) rfl ?_
    refine Wx.rd (v := .int .u8 tu) (rd_move rfl) rfl ?_
    refine Wx.rd (v := .int .i64 tu) (rd_convIn rfl Try.underlying5 Try.underlying3 (in_i64 (by omega) (by omega))) rfl ?_
    refine Wx.rd (v := .int .i64 (i + tu)) (rd_add rfl rfl (in_i64 (by omega) (by omega))) rfl ?_
    refine Wx.rd (v := v_8) (rd_move rfl) rfl ?_
    refine Wx.rd (v := .int .i64 (l.length : Int)) (rd_lenV rfl (hS.v 9 rfl) Try.underlying22) rfl ?_
    refine Wx.rd (v := .int .i64 ((i + tu) % (l.length : Int))) (rd_rem rfl rfl (by omega) (by omega)) rfl ?_
    refine Wx.ex (rd_index ([], []) (hS.v 9 rfl) rfl rfl Try.underlying22 Try.sizeOf62 (by first | omega | (simp only [List.length_set, List.length_append, List.length_cons, List.length_nil, List.length_replicate]; omega)) (by first | omega | (simp only [List.length_set, List.length_append, List.length_cons, List.length_nil, List.length_replicate]; omega))) rfl (fun p_56 hp_57 => ?_)
    refine Wx.ex (rd_load hp_57 rfl Try.isAgg62 Try.sizeOf62) rfl (fun v_58 hv_59 => ?_)
    obtain ⟨v_60, v_61, rfl, hv_62, hv_63⟩ := hv_59.s2
    have hS := hS.add (hv_62)
    have ln_65 := (hS.v 0 rfl).len63
    have hS := hS.add (V.upF (hv_63))
    have ln_67 := (hS.v 0 rfl).len63
    refine Wx.lit (t := (tP (tSl (tI .i64)) (tSl (tI .i64)))) (ys := [(ix ([], []) l ((i + tu) % (l.length : Int)))]) (vs := [.agg #[v_60, v_61]]) elLv_22 hS rfl rfl ⟨(V.mkS2 (z := (ix ([], []) l ((i + tu) % (l.length : Int)))) (hS.v 1 rfl) (hS.v 0 rfl)), trivial⟩ (by decide) rfl (fun v_68 w_69 hx_70 hS => ?_)
    refine Wx.append elLv_22 hS 10 rfl rfl rfl (Src.ofR hS 0 rfl) (by simp only [maxLen]; simp; omega) (by simp; omega) rfl (fun v_71 w_72 hz_73 hS => ?_)
    refine Wx.rd (v := v_71) (rd_assign rfl) rfl ?_
    refine Wx.nil ?_
    refine W.seq ?_
    refine W.reg ?_
    refine Wx.rd (v := .pointer (some ⟨g_26, 0, none⟩)) (rd_fieldAddr rfl foLv_62_0) rfl ?_
    refine Wx.rd (v := v_18) (rd_loadX hS 6 rfl rfl rfl Try.isAgg39) rfl ?_
    refine Wx.callF (run_callF Try.call57 rfl) (F57 (hS.v 8 rfl) (by omega)) rfl ?_
    rintro r_74 w_75 hx_76 ⟨_, rfl, hv_77⟩
    have hS := hS.pushFr hx_76 hv_77
    refine Wx.rd (v := r_74) (rd_assign rfl) rfl ?_
    refine Wx.nil ?_
    refine W.seq ?_
    refine W.seq ?_
    refine W.reg ?_
    refine Wx.rd (v := .int .i64 i) (rd_move rfl) rfl ?_
    refine Wx.rd (v := .int .u8 wh) (rd_move rfl) rfl ?_
    refine Wx.rd (v := .int .i64 wh) (rd_convIn rfl Try.underlying5 Try.underlying3 (in_i64 (by omega) (by omega))) rfl ?_
    refine Wx.rd (v := v_8) (rd_move rfl) rfl ?_
    refine Wx.rd (v := .int .i64 (l.length : Int)) (rd_lenV rfl (hS.v 13 rfl) Try.underlying22) rfl ?_
    refine Wx.rd (v := .int .i64 (wh % (l.length : Int))) (rd_rem rfl rfl (by omega) (by omega)) rfl ?_
    refine Wx.rd (v := .bool (decide (i = (wh % (l.length : Int))))) (rd_eql rfl rfl) rfl ?_
    refine Wx.nil ?_
    refine W.condD rfl (fun c1 => ?_) (fun c1 => ?_)
    · -- yes
      refine W.seq ?_
      refine W.reg ?_
      refine Wx.rd (v := r_74) (rd_move rfl) rfl ?_
      refine Wx.rd (v := .int .i64 (((ix ([], []) l i).1).length : Int)) (rd_lenR hS 0 rfl rfl Try.underlying39) rfl ?_
      refine Wx.rd (v := .int .i64 0) (rd_move rfl) rfl ?_
      refine Wx.nil ?_
      refine W.block ?_
      refine W.loop [16, 85, 86, 87, 88, 89, 90, 91, 92, 93, 94] (fun x : Int × (List Int) => match x with | (k, d) => [(85, .int .i64 k)]) (fun (x : Int × (List Int)) w' => match x with | (k, d) => St w O w' [.row (tI .i64) 3 r_74 d, .row (tP (tSl (tI .i64)) (tSl (tI .i64))) 62 v_68 [(ix ([], []) l ((i + tu) % (l.length : Int)))], Ob.v (tSl (tI .i64)) ((ix ([], []) l ((i + tu) % (l.length : Int))).2) v_61, Ob.v (tSl (tI .i64)) ((ix ([], []) l ((i + tu) % (l.length : Int))).1) v_60, .row (tP (tSl (tI .i64)) (tSl (tI .i64))) 62 v_50 [(List.reverse ((ix ([], []) l i).1), List.reverse ((ix ([], []) l i).2))], Ob.v (tSl (tI .i64)) (List.reverse ((ix ([], []) l i).2)) r_39, Ob.v (tSl (tI .i64)) (List.reverse ((ix ([], []) l i).1)) r_34, .box g_26 62 [v_18, v_19], Ob.v (tSl (tI .i64)) ((ix ([], []) l i).2) v_19, Ob.v (tSl (tI .i64)) ((ix ([], []) l i).1) v_18, .row (tP (tSl (tI .i64)) (tSl (tI .i64))) 62 dv ds, .row (tP (tSl (tI .i64)) (tSl (tI .i64))) 62 v_71 (os ++ [(ix ([], []) l ((i + tu) % (l.length : Int)))]), .row (tP (tSl (tI .i64)) (tSl (tI .i64))) 62 v_53 (gs ++ [(List.reverse ((ix ([], []) l i).1), List.reverse ((ix ([], []) l i).2))]), Ob.v (tSl (tP (tSl (tI .i64)) (tSl (tI .i64)))) l v_8, .box g_1 66 (List.map (Value.int .u8) zs)] ∧ 0 ≤ k ∧ k ≤ (ix ([], []) l i).1.length ∧ d = ((ix ([], []) l i).1.take k.toNat).map (· * 2) ++ (ix ([], []) l i).1.drop k.toNat ∧ d.length = (ix ([], []) l i).1.length) (fun x : Int × (List Int) => match x with | (k, d) => ((ix ([], []) l i).1.length - k).toNat) (0, ((ix ([], []) l i).1)) ⟨rfl, trivial⟩ ⟨hS, (by first | omega | simp), (by first | omega | simp), (rfl), (rfl)⟩ ?_
      rintro ⟨k, d⟩ u_80 w_79 ⟨hS, k0, k1, k2, k3⟩
      refine W.seq ?_
      refine W.reg ?_
      refine Wx.rd (v := .bool (decide (k < (((ix ([], []) l i).1).length : Int)))) (rd_lss rfl rfl) rfl ?_
      refine Wx.nil ?_
      refine W.seq ?_
      refine W.condD rfl (fun c2 => ?_) (fun c2 => ?_)
      · -- yes
        have hdk := two_at k0 c2 k2
        have hdb := ix_in hx.2.1 k0 c2
        refine W.skip ?_
        refine W.seq ?_
        refine W.block ?_
        refine W.seq ?_
        refine W.reg ?_
        refine Wx.rd (v := .int .i64 k) (rd_move rfl) rfl ?_
        refine Wx.rd (v := .int .i64 k) (rd_assign rfl) rfl ?_
        refine Wx.nil ?_
        refine W.reg ?_
        refine Wx.rd (v := r_74) (rd_move rfl) rfl ?_
        refine Wx.rd (v := .int .i64 k) (rd_move rfl) rfl ?_
        refine Wx.indexR hS 0 rfl rfl rfl Try.underlying39 Try.sizeOf3 (by first | omega | (simp only [List.length_set, List.length_append, List.length_cons, List.length_nil, List.length_replicate]; omega)) (by first | omega | (simp only [List.length_set, List.length_append, List.length_cons, List.length_nil, List.length_replicate]; omega)) rfl (fun g_81 hg_82 => ?_)
        refine Wx.rd (v := .int .i64 (ix 0 d k)) (rd_loadRI' hS 0 rfl hg_82 rfl (by first | omega | (simp only [List.length_set, List.length_append, List.length_cons, List.length_nil, List.length_replicate]; omega)) (by first | omega | (simp only [List.length_set, List.length_append, List.length_cons, List.length_nil, List.length_replicate]; omega)) Try.isAgg3 Try.sizeOf3) rfl ?_
        have bd_83 := bd_i64 (hS.rowInK' 0 rfl (by first | omega | (simp only [List.length_set, List.length_append, List.length_cons, List.length_nil, List.length_replicate]; omega)) (by first | omega | (simp only [List.length_set, List.length_append, List.length_cons, List.length_nil, List.length_replicate]; omega)) : InK .i64 (ix 0 d k))
        refine Wx.rd (v := .int .i64 ((ix 0 d k) * 2)) (rd_mul rfl rfl (in_i64 (by omega) (by omega))) rfl ?_
        refine Wx.indexR hS 0 rfl rfl rfl Try.underlying39 Try.sizeOf3 (by first | omega | (simp only [List.length_set, List.length_append, List.length_cons, List.length_nil, List.length_replicate]; omega)) (by first | omega | (simp only [List.length_set, List.length_append, List.length_cons, List.length_nil, List.length_replicate]; omega)) rfl (fun g_84 hg_85 => ?_)
        refine Wx.storeR (j := k.toNat) (z := (ix 0 d k) * 2) hS 0 rfl hg_85 rfl (by first | omega | (simp only [List.length_set, List.length_append, List.length_cons, List.length_nil, List.length_replicate]; omega)) rfl (V.mkInt (in_i64 (by omega) (by omega))) Try.sizeOf3 (fun w_86 hz_87 hS => ?_)
        refine Wx.nil ?_
        refine W.reg ?_
        refine Wx.rd (v := .int .i64 (k + 1)) (rd_add rfl rfl (in_i64 (by omega) (by omega))) rfl ?_
        refine Wx.rd (v := .int .i64 (k + 1)) (rd_move rfl) rfl ?_
        refine Wx.nil ?_
        refine ⟨(k + 1, List.set d k.toNat ((ix 0 d k) * 2)), (by show ((ix ([], []) l i).1.length - (k + 1)).toNat < ((ix ([], []) l i).1.length - k).toNat; omega), ?_, ?_, Out.look rfl Out.self⟩
        · exact ⟨hS, (by first | omega | assumption), (by first | omega | assumption), (two_next k0 c2 k2), (by rw [List.length_set]; exact k3)⟩
        · exact ⟨rfl, trivial⟩
      · -- no
        refine W.exit rfl ?_
        refine W.reg ?_
        refine Wx.rd (v := dv) (rd_move rfl) rfl ?_
        refine Wx.rd (v := r_74) (rd_move rfl) rfl ?_
        refine Wx.rd (v := .pointer (some ⟨g_26, 1, none⟩)) (rd_fieldAddr rfl foLv_62_1) rfl ?_
        refine Wx.rd (v := v_19) (rd_loadX hS 7 rfl rfl rfl Try.isAgg39) rfl ?_
        refine Wx.callF (run_callF Try.call57 rfl) (F57 (hS.v 8 rfl) (by omega)) rfl ?_
        rintro r_88 w_89 hx_90 ⟨_, rfl, hv_91⟩
        have hS := hS.pushFr hx_90 hv_91
        have hS := hS.freeze 1 rfl
        have hS := hS.freeze 1 rfl
        refine Wx.rd (v := .agg #[r_74, r_88]) (rd_buildC (vs := [(0, r_74), (1, r_88)]) (us := [(0, .agg #[r_74]), (1, .agg #[r_88])]) rfl (parts_cons (Go.Wk.cells_one (V.oneC (hS.v 1 rfl))) (parts_cons (Go.Wk.cells_one (V.oneC (hS.v 0 rfl))) parts_nil)) (by kernel_rfl)) rfl ?_
        refine Wx.lit (t := (tP (tSl (tI .i64)) (tSl (tI .i64)))) (ys := [(d, ((ix ([], []) l i).2))]) (vs := [.agg #[r_74, r_88]]) elLv_22 hS rfl rfl ⟨(V.mkS2 (z := (d, ((ix ([], []) l i).2))) (hS.v 1 rfl) (hS.v 0 rfl)), trivial⟩ (by decide) rfl (fun v_95 w_96 hx_97 hS => ?_)
        refine Wx.append elLv_22 hS 12 rfl rfl rfl (Src.ofR hS 0 rfl) (by simp only [maxLen]; simp; omega) (by simp; omega) rfl (fun v_98 w_99 hz_100 hS => ?_)
        refine Wx.rd (v := v_98) (rd_assign rfl) rfl ?_
        refine Wx.nil ?_
        refine W.reg ?_
        refine Wx.rd (v := .int .i64 (i + 1)) (rd_add rfl rfl (in_i64 (by omega) (by omega))) rfl ?_
        refine Wx.rd (v := .int .i64 (i + 1)) (rd_move rfl) rfl ?_
        refine Wx.nil ?_
        refine ⟨(i + 1, v_53, gs ++ [(List.reverse ((ix ([], []) l i).1), List.reverse ((ix ([], []) l i).2))], v_71, os ++ [(ix ([], []) l ((i + tu) % (l.length : Int)))], v_98, ds ++ [(d, ((ix ([], []) l i).2))]), (by show (l.length - (i + 1)).toNat < (l.length - i).toNat; omega), ?_, ?_, Out.look rfl (Out.hav rfl (Out.look rfl Out.self))⟩
        · exact ⟨St.tl (St.tl (St.tl (St.tl (St.tl (St.tl (St.tl (St.tl (St.tl (St.tl (St.tl (hS.tl))))))))))), (by first | omega | assumption), (by first | omega | assumption), (goods_next n0 c0 h2), (by rw [othL_next n0, h3]), (dear_yes n0 h4 c1 (by rw [k2, take_end (by omega), drop_end (by omega), List.append_nil])), (by simp only [List.length_append, List.length_cons, List.length_nil]; omega), (by simp only [List.length_append, List.length_cons, List.length_nil]; omega), (by simp only [List.length_append, List.length_cons, List.length_nil]; omega)⟩
        · exact ⟨rfl, rfl, rfl, rfl, trivial⟩
    · -- no
      refine W.skip ?_
      refine W.reg ?_
      refine Wx.rd (v := dv) (rd_move rfl) rfl ?_
      refine Wx.rd (v := r_74) (rd_move rfl) rfl ?_
      refine Wx.rd (v := .pointer (some ⟨g_26, 1, none⟩)) (rd_fieldAddr rfl foLv_62_1) rfl ?_
      refine Wx.rd (v := v_19) (rd_loadX hS 7 rfl rfl rfl Try.isAgg39) rfl ?_
      refine Wx.callF (run_callF Try.call57 rfl) (F57 (hS.v 8 rfl) (by omega)) rfl ?_
      rintro r_101 w_102 hx_103 ⟨_, rfl, hv_104⟩
      have hS := hS.pushFr hx_103 hv_104
      have hS := hS.freeze 1 rfl
      have hS := hS.freeze 1 rfl
      refine Wx.rd (v := .agg #[r_74, r_101]) (rd_buildC (vs := [(0, r_74), (1, r_101)]) (us := [(0, .agg #[r_74]), (1, .agg #[r_101])]) rfl (parts_cons (Go.Wk.cells_one (V.oneC (hS.v 1 rfl))) (parts_cons (Go.Wk.cells_one (V.oneC (hS.v 0 rfl))) parts_nil)) (by kernel_rfl)) rfl ?_
      refine Wx.lit (t := (tP (tSl (tI .i64)) (tSl (tI .i64)))) (ys := [(((ix ([], []) l i).1), ((ix ([], []) l i).2))]) (vs := [.agg #[r_74, r_101]]) elLv_22 hS rfl rfl ⟨(V.mkS2 (z := (((ix ([], []) l i).1), ((ix ([], []) l i).2))) (hS.v 1 rfl) (hS.v 0 rfl)), trivial⟩ (by decide) rfl (fun v_108 w_109 hx_110 hS => ?_)
      refine Wx.append elLv_22 hS 12 rfl rfl rfl (Src.ofR hS 0 rfl) (by simp only [maxLen]; simp; omega) (by simp; omega) rfl (fun v_111 w_112 hz_113 hS => ?_)
      refine Wx.rd (v := v_111) (rd_assign rfl) rfl ?_
      refine Wx.nil ?_
      refine W.reg ?_
      refine Wx.rd (v := .int .i64 (i + 1)) (rd_add rfl rfl (in_i64 (by omega) (by omega))) rfl ?_
      refine Wx.rd (v := .int .i64 (i + 1)) (rd_move rfl) rfl ?_
      refine Wx.nil ?_
      refine ⟨(i + 1, v_53, gs ++ [(List.reverse ((ix ([], []) l i).1), List.reverse ((ix ([], []) l i).2))], v_71, os ++ [(ix ([], []) l ((i + tu) % (l.length : Int)))], v_111, ds ++ [(((ix ([], []) l i).1), ((ix ([], []) l i).2))]), (by show (l.length - (i + 1)).toNat < (l.length - i).toNat; omega), ?_, ?_, Out.look rfl Out.self⟩
      · exact ⟨St.tl (St.tl (St.tl (St.tl (St.tl (St.tl (St.tl (St.tl (St.tl (St.tl (St.tl (hS.tl))))))))))), (by first | omega | assumption), (by first | omega | assumption), (goods_next n0 c0 h2), (by rw [othL_next n0, h3]), (dear_no n0 h4 c1), (by simp only [List.length_append, List.length_cons, List.length_nil]; omega), (by simp only [List.length_append, List.length_cons, List.length_nil]; omega), (by simp only [List.length_append, List.length_cons, List.length_nil]; omega)⟩
      · exact ⟨rfl, rfl, rfl, rfl, trivial⟩
  · -- no
    have hgs : gs = l.map revS2 := by rw [h2, List.take_of_length_le (by rw [List.length_map]; omega)]
    have hos : os = othL l tu l.length := by rw [h3, show i = l.length by omega]
    have hds : ds = dearL l (wh % (l.length : Int)) l.length := by rw [h4, show i = l.length by omega]
    have hgo := goods_ok hc
    have hdo := dear_ok (w := (wh % (l.length : Int))) hc x_hc.2
    have hoo := oth_ok (t := tu) hc
    have hgp := same_pairs hc hgo.1 (by simp) hgo.2
    have hdp := same_pairs hc hdo.1 (by have := dearL_len (l := l) (w := (wh % (l.length : Int))) (k := l.length) (by omega); omega) hdo.2
    have hgr := same_ring hc hgo.1 (by simp) hgo.2
    rw [← hgs] at hgo hgp hgr
    rw [← hds] at hdo hdp
    rw [← hos] at hoo
    refine W.exit rfl ?_
    refine W.seq ?_
    refine W.reg ?_
    refine Wx.rd (v := ov) (rd_move rfl) rfl ?_
    refine Wx.callB (run_callF Try.call59 rfl) (F59 (ob := [.row (tP (tSl (tI .i64)) (tSl (tI .i64))) 62 dv ds, .row (tP (tSl (tI .i64)) (tSl (tI .i64))) 62 gv gs, Ob.v (tSl (tP (tSl (tI .i64)) (tSl (tI .i64)))) l v_8, .box g_1 66 (List.map (Value.int .u8) zs)])  (hS.front 1 rfl)) rfl ?_
    rintro r_114 w_115 ⟨rfl, hS⟩
    have hS : St _ _ w_115 [.row (tP (tSl (tI .i64)) (tSl (tI .i64))) 62 dv ds, .row (tP (tSl (tI .i64)) (tSl (tI .i64))) 62 ov (List.reverse os), .row (tP (tSl (tI .i64)) (tSl (tI .i64))) 62 gv gs, Ob.v (tSl (tP (tSl (tI .i64)) (tSl (tI .i64)))) l v_8, .box g_1 66 (List.map (Value.int .u8) zs)] := St.putBack (obs := [.row (tP (tSl (tI .i64)) (tSl (tI .i64))) 62 dv ds, .row (tP (tSl (tI .i64)) (tSl (tI .i64))) 62 ov os, .row (tP (tSl (tI .i64)) (tSl (tI .i64))) 62 gv gs, Ob.v (tSl (tP (tSl (tI .i64)) (tSl (tI .i64)))) l v_8, .box g_1 66 (List.map (Value.int .u8) zs)]) 1 hS (by simp)
    refine Wx.nil ?_
    refine W.seq ?_
    refine W.reg ?_
    refine Wx.rd (v := .int .i64 (shG zs)) (rd_move rfl) rfl ?_
    refine Wx.rd (v := v_8) (rd_move rfl) rfl ?_
    refine Wx.callF (run_callF Try.call20 rfl) (F20 (in_i64 (by omega) (by omega)) (hS.v 3 rfl) hS.fb_lt) rfl ?_
    rintro r_116 w_117 hx_118 ⟨v_119, rfl, hv_120⟩
    have hS := hS.pushFr hx_118 hv_120
    refine Wx.rd (v := .tuple #[v_119, .int .i64 (checkE (shG zs) l)]) (rd_move rfl) rfl ?_
    refine Wx.rd (v := v_119) (rd_extract rfl rfl) rfl ?_
    refine Wx.rd (v := .int .i64 (checkE (shG zs) l)) (rd_extract rfl rfl) rfl ?_
    refine Wx.rd (v := v_119) (rd_assign rfl) rfl ?_
    refine Wx.rd (v := .int .i64 0) (Rd.to (v := .int .i64 (checkE (shG zs) l)) (rd_assign rfl) (congrArg (Value.int .i64) (show (0 : Int) = (checkE (shG zs) l : Int) from hc.symm).symm)) rfl ?_
    refine Wx.nil ?_
    refine W.seq ?_
    refine W.reg ?_
    refine Wx.rd (v := .int .i64 (shG zs)) (rd_move rfl) rfl ?_
    refine Wx.rd (v := gv) (rd_move rfl) rfl ?_
    have hS := hS.freeze 3 rfl
    refine Wx.callF (run_callF Try.call20 rfl) (F20 (in_i64 (by omega) (by omega)) (hS.v 0 rfl) hS.fb_lt) rfl ?_
    rintro r_123 w_124 hx_125 ⟨v_126, rfl, hv_127⟩
    have hS := hS.pushFr hx_125 hv_127
    refine Wx.rd (v := .tuple #[v_126, .int .i64 (checkE (shG zs) gs)]) (rd_move rfl) rfl ?_
    refine Wx.rd (v := v_126) (rd_extract rfl rfl) rfl ?_
    refine Wx.rd (v := .int .i64 (checkE (shG zs) gs)) (rd_extract rfl rfl) rfl ?_
    refine Wx.rd (v := v_126) (rd_assign rfl) rfl ?_
    refine Wx.rd (v := .int .i64 0) (Rd.to (v := .int .i64 (checkE (shG zs) gs)) (rd_assign rfl) (congrArg (Value.int .i64) (show (0 : Int) = (checkE (shG zs) gs : Int) from hgo.1.symm).symm)) rfl ?_
    refine Wx.nil ?_
    refine W.seq ?_
    refine W.reg ?_
    refine Wx.rd (v := .int .i64 (shG zs)) (rd_move rfl) rfl ?_
    refine Wx.rd (v := dv) (rd_move rfl) rfl ?_
    have hS := hS.freeze 3 rfl
    refine Wx.callF (run_callF Try.call20 rfl) (F20 (in_i64 (by omega) (by omega)) (hS.v 0 rfl) hS.fb_lt) rfl ?_
    rintro r_130 w_131 hx_132 ⟨v_133, rfl, hv_134⟩
    have hS := hS.pushFr hx_132 hv_134
    refine Wx.rd (v := .tuple #[v_133, .int .i64 (checkE (shG zs) ds)]) (rd_move rfl) rfl ?_
    refine Wx.rd (v := v_133) (rd_extract rfl rfl) rfl ?_
    refine Wx.rd (v := .int .i64 (checkE (shG zs) ds)) (rd_extract rfl rfl) rfl ?_
    refine Wx.rd (v := v_133) (rd_assign rfl) rfl ?_
    refine Wx.rd (v := .int .i64 0) (Rd.to (v := .int .i64 (checkE (shG zs) ds)) (rd_assign rfl) (congrArg (Value.int .i64) (show (0 : Int) = (checkE (shG zs) ds : Int) from hdo.1.symm).symm)) rfl ?_
    refine Wx.nil ?_
    refine W.seq ?_
    refine W.seq ?_
    refine W.reg ?_
    refine Wx.rd (v := .int .i64 0) (rd_move rfl) rfl ?_
    refine Wx.rd (v := .bool false) (Rd.to (v := .bool (decide ((0 : Int) ≠ 0))) (rd_neq rfl rfl) rfl) rfl ?_
    refine Wx.rd (v := .bool false) (rd_move rfl) rfl ?_
    refine Wx.gyes rfl rfl rfl ?_
    refine Wx.rd (v := .int .i64 0) (rd_move rfl) rfl ?_
    refine Wx.gyes rfl rfl rfl ?_
    refine Wx.rd (v := .bool false) (Rd.to (v := .bool (decide ((0 : Int) ≠ 0))) (rd_neq rfl rfl) rfl) rfl ?_
    refine Wx.rd (v := .bool false) (rd_pickF rfl rfl) rfl ?_
    refine Wx.rd (v := .bool false) (rd_move rfl) rfl ?_
    refine Wx.gyes rfl rfl rfl ?_
    refine Wx.rd (v := .int .i64 0) (rd_move rfl) rfl ?_
    refine Wx.gyes rfl rfl rfl ?_
    refine Wx.rd (v := .bool false) (Rd.to (v := .bool (decide ((0 : Int) ≠ 0))) (rd_neq rfl rfl) rfl) rfl ?_
    refine Wx.rd (v := .bool false) (rd_pickF rfl rfl) rfl ?_
    refine Wx.rd (v := .bool false) (rd_move rfl) rfl ?_
    refine Wx.gyes rfl rfl rfl ?_
    refine Wx.rd (v := v_119) (rd_move rfl) rfl ?_
    refine Wx.gyes rfl rfl rfl ?_
    refine Wx.rd (v := v_126) (rd_move rfl) rfl ?_
    refine Wx.gyes rfl rfl rfl ?_
    refine Wx.callF (run_callF Try.call24 rfl) (F24 (hS.lend 4 rfl) (hS.lend 2 rfl)) rfl ?_
    rintro r_136 w_137 hx_138 rfl
    have hS := hS.ext hx_138
    rw [show (decide ((pairsE (gS l) (shG zs) l) = (pairsE (gS gs) (shG zs) gs)) : Bool) = true from (decide_eq_true hgp.1.symm)]
    refine Wx.gyes rfl rfl rfl ?_
    refine Wx.rd (v := .bool false) (rd_not (c := true) rfl) rfl ?_
    refine Wx.rd (v := .bool false) (rd_pickF rfl rfl) rfl ?_
    refine Wx.rd (v := .bool false) (rd_move rfl) rfl ?_
    refine Wx.gyes rfl rfl rfl ?_
    refine Wx.rd (v := v_119) (rd_move rfl) rfl ?_
    refine Wx.gyes rfl rfl rfl ?_
    refine Wx.rd (v := v_133) (rd_move rfl) rfl ?_
    refine Wx.gyes rfl rfl rfl ?_
    refine Wx.callF (run_callF Try.call24 rfl) (F24 (hS.lend 4 rfl) (hS.lend 0 rfl)) rfl ?_
    rintro r_139 w_140 hx_141 rfl
    have hS := hS.ext hx_141
    rw [show (decide ((pairsE (gS l) (shG zs) l) = (pairsE (gS ds) (shG zs) ds)) : Bool) = true from (decide_eq_true hdp.1.symm)]
    refine Wx.gyes rfl rfl rfl ?_
    refine Wx.rd (v := .bool false) (rd_not (c := true) rfl) rfl ?_
    refine Wx.rd (v := .bool false) (rd_pickF rfl rfl) rfl ?_
    refine Wx.nil ?_
    refine W.condF rfl rfl ?_
    refine W.skip ?_
    refine W.seq ?_
    refine W.reg ?_
    refine Wx.rd (v := .int .i64 (shG zs)) (rd_move rfl) rfl ?_
    refine Wx.rd (v := v_8) (rd_move rfl) rfl ?_
    refine Wx.callF (run_callF Try.call22 rfl) (F22 (in_i64 (by omega) (by omega)) (hS.v 6 rfl) hS.fb_lt) rfl ?_
    rintro r_142 w_143 hx_144 ⟨v_145, rfl, hv_146⟩
    have hS := hS.pushFr hx_144 hv_146
    refine Wx.rd (v := .tuple #[v_145, .int .i64 (checkE (shG zs) l)]) (rd_move rfl) rfl ?_
    refine Wx.rd (v := v_145) (rd_extract rfl rfl) rfl ?_
    refine Wx.rd (v := .int .i64 (checkE (shG zs) l)) (rd_extract rfl rfl) rfl ?_
    refine Wx.rd (v := v_145) (rd_assign rfl) rfl ?_
    refine Wx.rd (v := .int .i64 0) (Rd.to (v := .int .i64 (checkE (shG zs) l)) (rd_assign rfl) (congrArg (Value.int .i64) (show (0 : Int) = (checkE (shG zs) l : Int) from hc.symm).symm)) rfl ?_
    refine Wx.nil ?_
    refine W.seq ?_
    refine W.reg ?_
    refine Wx.rd (v := .int .i64 (shG zs)) (rd_move rfl) rfl ?_
    refine Wx.rd (v := gv) (rd_move rfl) rfl ?_
    refine Wx.callF (run_callF Try.call22 rfl) (F22 (in_i64 (by omega) (by omega)) (hS.v 4 rfl) hS.fb_lt) rfl ?_
    rintro r_148 w_149 hx_150 ⟨v_151, rfl, hv_152⟩
    have hS := hS.pushFr hx_150 hv_152
    refine Wx.rd (v := .tuple #[v_151, .int .i64 (checkE (shG zs) gs)]) (rd_move rfl) rfl ?_
    refine Wx.rd (v := v_151) (rd_extract rfl rfl) rfl ?_
    refine Wx.rd (v := .int .i64 (checkE (shG zs) gs)) (rd_extract rfl rfl) rfl ?_
    refine Wx.rd (v := v_151) (rd_assign rfl) rfl ?_
    refine Wx.rd (v := .int .i64 0) (Rd.to (v := .int .i64 (checkE (shG zs) gs)) (rd_assign rfl) (congrArg (Value.int .i64) (show (0 : Int) = (checkE (shG zs) gs : Int) from hgo.1.symm).symm)) rfl ?_
    refine Wx.nil ?_
    refine W.seq ?_
    refine W.reg ?_
    refine Wx.rd (v := .int .i64 (shG zs)) (rd_move rfl) rfl ?_
    refine Wx.rd (v := dv) (rd_move rfl) rfl ?_
    refine Wx.callF (run_callF Try.call22 rfl) (F22 (in_i64 (by omega) (by omega)) (hS.v 3 rfl) hS.fb_lt) rfl ?_
    rintro r_154 w_155 hx_156 ⟨v_157, rfl, hv_158⟩
    have hS := hS.pushFr hx_156 hv_158
    refine Wx.rd (v := .tuple #[v_157, .int .i64 (checkE (shG zs) ds)]) (rd_move rfl) rfl ?_
    refine Wx.rd (v := v_157) (rd_extract rfl rfl) rfl ?_
    refine Wx.rd (v := .int .i64 (checkE (shG zs) ds)) (rd_extract rfl rfl) rfl ?_
    refine Wx.rd (v := v_157) (rd_assign rfl) rfl ?_
    refine Wx.rd (v := .int .i64 0) (Rd.to (v := .int .i64 (checkE (shG zs) ds)) (rd_assign rfl) (congrArg (Value.int .i64) (show (0 : Int) = (checkE (shG zs) ds : Int) from hdo.1.symm).symm)) rfl ?_
    refine Wx.nil ?_
    refine W.seq ?_
    refine W.seq ?_
    refine W.reg ?_
    refine Wx.rd (v := .int .i64 0) (rd_move rfl) rfl ?_
    refine Wx.rd (v := .bool false) (Rd.to (v := .bool (decide ((0 : Int) ≠ 0))) (rd_neq rfl rfl) rfl) rfl ?_
    refine Wx.rd (v := .bool false) (rd_move rfl) rfl ?_
    refine Wx.gyes rfl rfl rfl ?_
    refine Wx.rd (v := .int .i64 0) (rd_move rfl) rfl ?_
    refine Wx.gyes rfl rfl rfl ?_
    refine Wx.rd (v := .bool false) (Rd.to (v := .bool (decide ((0 : Int) ≠ 0))) (rd_neq rfl rfl) rfl) rfl ?_
    refine Wx.rd (v := .bool false) (rd_pickF rfl rfl) rfl ?_
    refine Wx.rd (v := .bool false) (rd_move rfl) rfl ?_
    refine Wx.gyes rfl rfl rfl ?_
    refine Wx.rd (v := .int .i64 0) (rd_move rfl) rfl ?_
    refine Wx.gyes rfl rfl rfl ?_
    refine Wx.rd (v := .bool false) (Rd.to (v := .bool (decide ((0 : Int) ≠ 0))) (rd_neq rfl rfl) rfl) rfl ?_
    refine Wx.rd (v := .bool false) (rd_pickF rfl rfl) rfl ?_
    refine Wx.rd (v := .bool false) (rd_move rfl) rfl ?_
    refine Wx.gyes rfl rfl rfl ?_
    refine Wx.rd (v := v_145) (rd_move rfl) rfl ?_
    refine Wx.gyes rfl rfl rfl ?_
    refine Wx.rd (v := v_151) (rd_move rfl) rfl ?_
    refine Wx.gyes rfl rfl rfl ?_
    refine Wx.callF (run_callF Try.call24 rfl) (F24 (hS.lend 2 rfl) (hS.lend 1 rfl)) rfl ?_
    rintro r_160 w_161 hx_162 rfl
    have hS := hS.ext hx_162
    rw [show (decide ((pairsE (bS l) (shG zs) l) = (pairsE (bS gs) (shG zs) gs)) : Bool) = true from (decide_eq_true hgp.2.symm)]
    refine Wx.gyes rfl rfl rfl ?_
    refine Wx.rd (v := .bool false) (rd_not (c := true) rfl) rfl ?_
    refine Wx.rd (v := .bool false) (rd_pickF rfl rfl) rfl ?_
    refine Wx.rd (v := .bool false) (rd_move rfl) rfl ?_
    refine Wx.gyes rfl rfl rfl ?_
    refine Wx.rd (v := v_145) (rd_move rfl) rfl ?_
    refine Wx.gyes rfl rfl rfl ?_
    refine Wx.rd (v := v_157) (rd_move rfl) rfl ?_
    refine Wx.gyes rfl rfl rfl ?_
    refine Wx.callF (run_callF Try.call24 rfl) (F24 (hS.lend 2 rfl) (hS.lend 0 rfl)) rfl ?_
    rintro r_163 w_164 hx_165 rfl
    have hS := hS.ext hx_165
    rw [show (decide ((pairsE (bS l) (shG zs) l) = (pairsE (bS ds) (shG zs) ds)) : Bool) = true from (decide_eq_true hdp.2.symm)]
    refine Wx.gyes rfl rfl rfl ?_
    refine Wx.rd (v := .bool false) (rd_not (c := true) rfl) rfl ?_
    refine Wx.rd (v := .bool false) (rd_pickF rfl rfl) rfl ?_
    refine Wx.nil ?_
    refine W.condF rfl rfl ?_
    refine W.skip ?_
    refine W.seq ?_
    refine W.reg ?_
    refine Wx.rd (v := .int .i64 (shG zs)) (rd_move rfl) rfl ?_
    refine Wx.rd (v := v_8) (rd_move rfl) rfl ?_
    refine Wx.callF (run_callF Try.call31 rfl) (F31 (in_i64 (by omega) (by omega)) (hS.v 9 rfl) hS.fb_lt) rfl ?_
    rintro r_166 w_167 hx_168 ⟨v_169, rfl, hv_170⟩
    have ln_172 := hv_170.len63
    have hS := hS.ext hx_168
    have hS := hS.add hv_170
    refine Wx.rd (v := .tuple #[v_169, .int .i64 (ringX (shG zs) l)]) (rd_move rfl) rfl ?_
    refine Wx.rd (v := v_169) (rd_extract rfl rfl) rfl ?_
    refine Wx.rd (v := .int .i64 (ringX (shG zs) l)) (rd_extract rfl rfl) rfl ?_
    refine Wx.rd (v := v_169) (rd_assign rfl) rfl ?_
    refine Wx.rd (v := .int .i64 (ringX (shG zs) l)) (rd_assign rfl) rfl ?_
    refine Wx.nil ?_
    refine W.seq ?_
    refine W.reg ?_
    refine Wx.rd (v := .int .i64 (shG zs)) (rd_move rfl) rfl ?_
    refine Wx.rd (v := gv) (rd_move rfl) rfl ?_
    refine Wx.callF (run_callF Try.call31 rfl) (F31 (in_i64 (by omega) (by omega)) (hS.v 7 rfl) hS.fb_lt) rfl ?_
    rintro r_173 w_174 hx_175 ⟨v_176, rfl, hv_177⟩
    have ln_179 := hv_177.len63
    have hS := hS.ext hx_175
    have hS := hS.add hv_177
    refine Wx.rd (v := .tuple #[v_176, .int .i64 (ringX (shG zs) gs)]) (rd_move rfl) rfl ?_
    refine Wx.rd (v := v_176) (rd_extract rfl rfl) rfl ?_
    refine Wx.rd (v := .int .i64 (ringX (shG zs) gs)) (rd_extract rfl rfl) rfl ?_
    refine Wx.rd (v := v_176) (rd_assign rfl) rfl ?_
    refine Wx.rd (v := .int .i64 (ringX (shG zs) l)) (Rd.to (v := .int .i64 (ringX (shG zs) gs)) (rd_assign rfl) (congrArg (Value.int .i64) (show (ringX (shG zs) l : Int) = (ringX (shG zs) gs : Int) from hgr.2.symm).symm)) rfl ?_
    refine Wx.nil ?_
    refine W.seq ?_
    refine W.reg ?_
    refine Wx.rd (v := .int .i64 (shG zs)) (rd_move rfl) rfl ?_
    refine Wx.rd (v := v_8) (rd_move rfl) rfl ?_
    refine Wx.callF (run_callF Try.call39 rfl) (F39 (in_i64 (by omega) (by omega)) (hS.v 11 rfl) hS.fb_lt) rfl ?_
    rintro r_180 w_181 hx_182 ⟨v_183, rfl, hv_184⟩
    have ln_186 := hv_184.len63
    have hS := hS.ext hx_182
    have hS := hS.add hv_184
    refine Wx.rd (v := .tuple #[v_183, .int .i64 (checkE (shG zs) l)]) (rd_move rfl) rfl ?_
    refine Wx.rd (v := v_183) (rd_extract rfl rfl) rfl ?_
    refine Wx.rd (v := .int .i64 (checkE (shG zs) l)) (rd_extract rfl rfl) rfl ?_
    refine Wx.rd (v := v_183) (rd_assign rfl) rfl ?_
    refine Wx.rd (v := .int .i64 0) (Rd.to (v := .int .i64 (checkE (shG zs) l)) (rd_assign rfl) (congrArg (Value.int .i64) (show (0 : Int) = (checkE (shG zs) l : Int) from hc.symm).symm)) rfl ?_
    refine Wx.nil ?_
    refine W.seq ?_
    refine W.reg ?_
    refine Wx.rd (v := .int .i64 (shG zs)) (rd_move rfl) rfl ?_
    refine Wx.rd (v := ov) (rd_move rfl) rfl ?_
    have hS := hS.freeze 11 rfl
    refine Wx.callF (run_callF Try.call39 rfl) (F39 (in_i64 (by omega) (by omega)) (hS.v 0 rfl) hS.fb_lt) rfl ?_
    rintro r_188 w_189 hx_190 ⟨v_191, rfl, hv_192⟩
    have ln_194 := hv_192.len63
    have hS := hS.ext hx_190
    have hS := hS.add hv_192
    refine Wx.rd (v := .tuple #[v_191, .int .i64 (checkE (shG zs) (List.reverse os))]) (rd_move rfl) rfl ?_
    refine Wx.rd (v := v_191) (rd_extract rfl rfl) rfl ?_
    refine Wx.rd (v := .int .i64 (checkE (shG zs) (List.reverse os))) (rd_extract rfl rfl) rfl ?_
    refine Wx.rd (v := v_191) (rd_assign rfl) rfl ?_
    refine Wx.rd (v := .int .i64 0) (Rd.to (v := .int .i64 (checkE (shG zs) (List.reverse os))) (rd_assign rfl) (congrArg (Value.int .i64) (show (0 : Int) = (checkE (shG zs) (List.reverse os) : Int) from hoo.1.symm).symm)) rfl ?_
    refine Wx.nil ?_
    refine W.seq ?_
    refine W.reg ?_
    refine Wx.rd (v := .int .i64 (shG zs)) (rd_move rfl) rfl ?_
    refine Wx.rd (v := v_8) (rd_move rfl) rfl ?_
    refine Wx.callF (run_callF Try.call29 rfl) (F29 (in_i64 (by omega) (by omega)) (hS.v 13 rfl) hS.fb_lt) rfl ?_
    rintro r_195 w_196 hx_197 rfl
    have hS := hS.ext hx_197
    refine Wx.rd (v := .tuple #[.bool (tasteE (shG zs) l), .int .i64 (checkE (shG zs) l)]) (rd_move rfl) rfl ?_
    refine Wx.rd (v := .bool (tasteE (shG zs) l)) (rd_extract rfl rfl) rfl ?_
    refine Wx.rd (v := .int .i64 (checkE (shG zs) l)) (rd_extract rfl rfl) rfl ?_
    refine Wx.rd (v := .bool (noR l)) (Rd.to (v := .bool (tasteE (shG zs) l)) (rd_assign rfl) (congrArg (Value.bool) (show (noR l : Bool) = (tasteE (shG zs) l : Bool) from (taste_noR hc).symm).symm)) rfl ?_
    refine Wx.rd (v := .int .i64 0) (Rd.to (v := .int .i64 (checkE (shG zs) l)) (rd_assign rfl) (congrArg (Value.int .i64) (show (0 : Int) = (checkE (shG zs) l : Int) from hc.symm).symm)) rfl ?_
    refine Wx.nil ?_
    refine W.seq ?_
    refine W.reg ?_
    refine Wx.rd (v := .int .i64 (shG zs)) (rd_move rfl) rfl ?_
    refine Wx.rd (v := ov) (rd_move rfl) rfl ?_
    refine Wx.callF (run_callF Try.call29 rfl) (F29 (in_i64 (by omega) (by omega)) (hS.v 1 rfl) hS.fb_lt) rfl ?_
    rintro r_198 w_199 hx_200 rfl
    have hS := hS.ext hx_200
    refine Wx.rd (v := .tuple #[.bool (tasteE (shG zs) (List.reverse os)), .int .i64 (checkE (shG zs) (List.reverse os))]) (rd_move rfl) rfl ?_
    refine Wx.rd (v := .bool (tasteE (shG zs) (List.reverse os))) (rd_extract rfl rfl) rfl ?_
    refine Wx.rd (v := .int .i64 (checkE (shG zs) (List.reverse os))) (rd_extract rfl rfl) rfl ?_
    refine Wx.rd (v := .bool (noR l)) (Rd.to (v := .bool (tasteE (shG zs) (List.reverse os))) (rd_assign rfl) (congrArg (Value.bool) (show (noR l : Bool) = (tasteE (shG zs) (List.reverse os) : Bool) from (by rw [taste_noR hoo.1, hoo.2.1])).symm)) rfl ?_
    refine Wx.rd (v := .int .i64 0) (Rd.to (v := .int .i64 (checkE (shG zs) (List.reverse os))) (rd_assign rfl) (congrArg (Value.int .i64) (show (0 : Int) = (checkE (shG zs) (List.reverse os) : Int) from hoo.1.symm).symm)) rfl ?_
    refine Wx.nil ?_
    refine W.seq ?_
    refine W.reg ?_
    refine Wx.rd (v := .int .i64 (ringX (shG zs) l)) (rd_move rfl) rfl ?_
    refine Wx.rd (v := .int .i64 (ringX (shG zs) l)) (rd_move rfl) rfl ?_
    refine Wx.rd (v := .bool true) (Rd.to (v := .bool (decide ((ringX (shG zs) l) = (ringX (shG zs) l)))) (rd_eql rfl rfl) (congrArg (Value.bool) (show (true : Bool) = (decide ((ringX (shG zs) l) = (ringX (shG zs) l)) : Bool) from (decide_eq_true rfl).symm).symm)) rfl ?_
    refine Wx.rd (v := .bool true) (rd_move rfl) rfl ?_
    refine Wx.gyes rfl rfl rfl ?_
    refine Wx.rd (v := v_169) (rd_move rfl) rfl ?_
    refine Wx.gyes rfl rfl rfl ?_
    refine Wx.rd (v := v_176) (rd_move rfl) rfl ?_
    refine Wx.gyes rfl rfl rfl ?_
    refine Wx.callF (run_callF Try.call33 rfl) (F33 (hS.v 4 rfl) (hS.v 3 rfl)) rfl ?_
    rintro r_201 w_202 hx_203 rfl
    have hS := hS.ext hx_203
    rw [show (decide ((ringE (shG zs) l) = (ringE (shG zs) gs)) : Bool) = true from (decide_eq_true hgr.1.symm)]
    refine Wx.rd (v := .bool true) (rd_pickT rfl rfl) rfl ?_
    refine Wx.rd (v := .bool true) (rd_move rfl) rfl ?_
    refine Wx.gyes rfl rfl rfl ?_
    refine Wx.rd (v := .int .i64 0) (rd_move rfl) rfl ?_
    refine Wx.gyes rfl rfl rfl ?_
    refine Wx.rd (v := .bool true) (Rd.to (v := .bool (decide ((0 : Int) = 0))) (rd_eql rfl rfl) rfl) rfl ?_
    refine Wx.rd (v := .bool true) (rd_pickT rfl rfl) rfl ?_
    refine Wx.rd (v := .bool true) (rd_move rfl) rfl ?_
    refine Wx.gyes rfl rfl rfl ?_
    refine Wx.rd (v := .int .i64 0) (rd_move rfl) rfl ?_
    refine Wx.gyes rfl rfl rfl ?_
    refine Wx.rd (v := .bool true) (Rd.to (v := .bool (decide ((0 : Int) = 0))) (rd_eql rfl rfl) rfl) rfl ?_
    refine Wx.rd (v := .bool true) (rd_pickT rfl rfl) rfl ?_
    refine Wx.rd (v := .bool true) (rd_move rfl) rfl ?_
    refine Wx.gyes rfl rfl rfl ?_
    refine Wx.rd (v := v_183) (rd_move rfl) rfl ?_
    refine Wx.gyes rfl rfl rfl ?_
    refine Wx.rd (v := .int .i64 ((wrongE (shG zs) l).length : Int)) (rd_lenV rfl (hS.v 2 rfl) Try.underlying39) rfl ?_
    refine Wx.gyes rfl rfl rfl ?_
    refine Wx.rd (v := v_191) (rd_move rfl) rfl ?_
    refine Wx.gyes rfl rfl rfl ?_
    refine Wx.rd (v := .int .i64 ((wrongE (shG zs) (List.reverse os)).length : Int)) (rd_lenV rfl (hS.v 0 rfl) Try.underlying39) rfl ?_
    refine Wx.gyes rfl rfl rfl ?_
    refine Wx.rd (v := .bool true) (Rd.to (v := .bool (decide (((wrongE (shG zs) l).length : Int) = ((wrongE (shG zs) (List.reverse os)).length : Int)))) (rd_eql rfl rfl) (congrArg (Value.bool) (show (true : Bool) = (decide (((wrongE (shG zs) l).length : Int) = ((wrongE (shG zs) (List.reverse os)).length : Int)) : Bool) from (decide_eq_true (by rw [wrongE_ok hc, wrongE_ok hoo.1, hoo.2.2])).symm).symm)) rfl ?_
    refine Wx.rd (v := .bool true) (rd_pickT rfl rfl) rfl ?_
    refine Wx.rd (v := .bool true) (rd_move rfl) rfl ?_
    refine Wx.gyes rfl rfl rfl ?_
    refine Wx.rd (v := .int .i64 0) (rd_move rfl) rfl ?_
    refine Wx.gyes rfl rfl rfl ?_
    refine Wx.rd (v := .bool true) (Rd.to (v := .bool (decide ((0 : Int) = 0))) (rd_eql rfl rfl) rfl) rfl ?_
    refine Wx.rd (v := .bool true) (rd_pickT rfl rfl) rfl ?_
    refine Wx.rd (v := .bool true) (rd_move rfl) rfl ?_
    refine Wx.gyes rfl rfl rfl ?_
    refine Wx.rd (v := .int .i64 0) (rd_move rfl) rfl ?_
    refine Wx.gyes rfl rfl rfl ?_
    refine Wx.rd (v := .bool true) (Rd.to (v := .bool (decide ((0 : Int) = 0))) (rd_eql rfl rfl) rfl) rfl ?_
    refine Wx.rd (v := .bool true) (rd_pickT rfl rfl) rfl ?_
    refine Wx.rd (v := .bool true) (rd_move rfl) rfl ?_
    refine Wx.gyes rfl rfl rfl ?_
    refine Wx.rd (v := .bool (noR l)) (rd_move rfl) rfl ?_
    refine Wx.gyes rfl rfl rfl ?_
    refine Wx.rd (v := .bool (noR l)) (rd_move rfl) rfl ?_
    refine Wx.gyes rfl rfl rfl ?_
    refine Wx.rd (v := .bool true) (Rd.to (v := .bool ((noR l) == (noR l))) (rd_eqlB rfl rfl Try.underlying4) (congrArg (Value.bool) (show (true : Bool) = ((noR l) == (noR l) : Bool) from (beq_self_eq_true _).symm).symm)) rfl ?_
    refine Wx.rd (v := .bool true) (rd_pickT rfl rfl) rfl ?_
    refine Wx.rd (v := .bool true) (rd_move rfl) rfl ?_
    refine Wx.gyes rfl rfl rfl ?_
    refine Wx.callF (run_callF Try.call16 rfl) (F16 hS.fb_lt) rfl ?_
    rintro r_204 w_205 hx_206 rfl
    have hS := hS.ext hx_206
    refine Wx.rd (v := .bool true) (rd_pickT rfl rfl) rfl ?_
    refine Wx.rd (v := .bool true) (rd_assign rfl) rfl ?_
    refine Wx.nil ?_
    exact W.ret ⟨.bool true, ResIs.one, hS.bel, rfl⟩
end Go.Proofs.Ytjbcpggikaeleaa

namespace Go.Wk
open Go.RowKit Go.ChangeShapes
section
variable {H : Type} {enc : TypeId × Value → H} {P : Program} {W : World}
theorem RdI.arrayN {k : IntKind} {n m : Nat} {e t : TypeId} (hu : P.underlying t = some (.array n e)) (he : RdI enc P W k m e) (hc : P.cellsOf e = m) (hn : P.cellsOf t = n * m) : RdI enc P W k (n * m) t := by
  intro fuel cs x h
  obtain ⟨xs, f', _, _, hl, hx, hel⟩ := DataW.trod_array hu h
  rw [hc] at hel
  rw [hn] at hl
  have h1 : ∀ j, j ≤ n → ∃ zs : List Int, zs.length = j * m ∧ cs.take (j * m) = zs.map (Value.int k) ∧ ∀ z ∈ zs, InK k z := by
    intro j
    induction j with
    | zero => exact fun _ => ⟨[], by simp, by simp, fun z hz => by cases hz⟩
    | succ j ih =>
      intro hj
      obtain ⟨zs, l1, l2, l3⟩ := ih (by omega)
      have := hel j (by omega)
      cases hxi : xs[j]? with
      | none => rw [List.getElem?_eq_none_iff] at hxi; omega
      | some y =>
        rw [hxi] at this
        obtain ⟨zt, m1, m2, m3⟩ := he _ _ _ this
        refine ⟨zs ++ zt, by rw [List.length_append, l1, m1, Nat.succ_mul], ?_, fun z hz => (List.mem_append.1 hz).elim (l3 z) (m3 z)⟩
        rw [Nat.succ_mul, List.take_add, l2, List.map_append, ← m2]
  obtain ⟨zs, l1, l2, l3⟩ := h1 n (Nat.le_refl n)
  exact ⟨zs, l1, by rw [← l2, List.take_of_length_le (by omega)], l3⟩
end
end Go.Wk

namespace Go.Wk
open Go.RowKit Go.ChangeShapes
section
variable {H : Type} {enc : TypeId × Value → H} {P : Program} {W : World}
theorem drop_split (l : List Value) (a b : Nat) : l.drop a = (l.drop a).take b ++ l.drop (a + b) := by
  have := (List.take_append_drop b (l.drop a)).symm
  rw [List.drop_drop] at this
  exact this
theorem RdI.struct5 {k : IntKind} {t : TypeId} {f0 f1 f2 f3 f4 : Field} {m0 m1 m2 m3 m4 : Nat} (hu : P.underlying t = some (.struct #[f0, f1, f2, f3, f4])) (h0 : RdI enc P W k m0 f0.type) (h1 : RdI enc P W k m1 f1.type) (h2 : RdI enc P W k m2 f2.type) (h3 : RdI enc P W k m3 f3.type) (h4 : RdI enc P W k m4 f4.type)
    (c0 : P.cellsOf f0.type = m0) (c1 : P.cellsOf f1.type = m1) (c2 : P.cellsOf f2.type = m2) (c3 : P.cellsOf f3.type = m3) (c4 : P.cellsOf f4.type = m4) (o0 : f0.offset = 0) (o1 : f1.offset = m0) (o2 : f2.offset = m0 + m1) (o3 : f3.offset = m0 + m1 + m2) (o4 : f4.offset = m0 + m1 + m2 + m3)
    (hC : P.cellsOf t = m0 + m1 + m2 + m3 + m4) : RdI enc P W k (m0 + m1 + m2 + m3 + m4) t := by
  intro fuel cs x h
  obtain ⟨xs, n, _, rfl, hl, hlen, hf⟩ := DataW.trod_struct hu h
  match xs, hlen with
  | [y0, y1, y2, y3, y4], _ =>
    have r0 := hf 0 f0 rfl
    have r1 := hf 1 f1 rfl
    have r2 := hf 2 f2 rfl
    have r3 := hf 3 f3 rfl
    have r4 := hf 4 f4 rfl
    rw [c0, o0] at r0
    rw [c1, o1] at r1
    rw [c2, o2] at r2
    rw [c3, o3] at r3
    rw [c4, o4] at r4
    rw [hC] at hl
    obtain ⟨z0, l0, e0, i0⟩ := h0 _ _ _ (by simpa using r0)
    obtain ⟨z1, l1, e1, i1⟩ := h1 _ _ _ (by simpa using r1)
    obtain ⟨z2, l2, e2, i2⟩ := h2 _ _ _ (by simpa using r2)
    obtain ⟨z3, l3, e3, i3⟩ := h3 _ _ _ (by simpa using r3)
    obtain ⟨z4, l4, e4, i4⟩ := h4 _ _ _ (by simpa using r4)
    refine ⟨z0 ++ (z1 ++ (z2 ++ (z3 ++ z4))), by simp only [List.length_append, l0, l1, l2, l3, l4]; omega, ?_, fun z hz => ?_⟩
    · have e5 : (cs.drop (m0 + m1 + m2 + m3)).take m4 = cs.drop (m0 + m1 + m2 + m3) := List.take_of_length_le (by rw [List.length_drop]; omega)
      rw [List.map_append, List.map_append, List.map_append, List.map_append, ← e0, ← e1, ← e2, ← e3, ← e4, e5, ← drop_split, ← drop_split, ← drop_split, List.take_append_drop]
    · rw [List.mem_append, List.mem_append, List.mem_append, List.mem_append] at hz
      rcases hz with hz | hz | hz | hz | hz
      · exact i0 z hz
      · exact i1 z hz
      · exact i2 z hz
      · exact i3 z hz
      · exact i4 z hz
end
end Go.Wk

namespace Go.Proofs.Ytjbcpggikaeleaa.tasteNamed
open Go.ChangeShapes Go.WideShapes Go.ChangeAt Go.RowKit Go.Joins Go.Wk
set_option linter.unusedVariables false

theorem own : ownKnob Try.prog.godebug = none := by kernel_rfl
theorem laidOut : laidOutB Try.prog = true := by kernel_rfl
theorem cells5 : Try.prog.cellsOf 5 = 1 := by kernel_rfl
theorem cells63 : Try.prog.cellsOf 63 = 3 := by kernel_rfl
theorem cells64 : Try.prog.cellsOf 64 = 18 := by kernel_rfl
theorem cells66 : Try.prog.cellsOf 66 = 39 := by kernel_rfl

set_option maxRecDepth 100000 in
theorem lifted (os : Os) (started : os.Started) (H : Type) (enc : TypeId × Value → H) :
    ReturnsInHanded {} Try.checked os 13 .any (Rows.tasteNamedSpec.pre6 enc Try.prog Try.f13 Rows.tasteNamedRow.domain false) (Rows.tasteNamedSpec.post enc Try.prog Try.f13 false true false false) := by
  refine returnsInHanded_of_change (C := Try.checked) own started (by kernel_rfl) Try.func13
    (ChangeSpec.witness6 (enc := enc) (C := Try.checked) false ⟨#[], #[.agg #[.int .u8 0, .int .u8 0, .int .u8 0, .int .u8 0, .int .u8 0, .int .u8 0, .int .u8 0, .int .u8 0, .int .u8 0, .int .u8 0, .int .u8 0, .int .u8 0, .int .u8 0, .int .u8 0, .int .u8 0, .int .u8 0, .int .u8 0, .int .u8 0, .int .u8 0, .int .u8 0, .int .u8 0, .int .u8 0, .int .u8 0, .int .u8 0, .int .u8 0, .int .u8 0, .int .u8 0, .int .u8 0, .int .u8 0, .int .u8 0, .int .u8 0, .int .u8 0, .int .u8 0, .int .u8 0, .int .u8 0, .int .u8 0, .int .u8 0, .int .u8 0, .int .u8 0], .int .u8 0, .int .u8 0], []⟩ 8 (by kernel_rfl) (by kernel_rfl) (by kernel_rfl) (by kernel_rfl)) ?_
  intro W base args ds gs before hval0 hW hcnd _
  have hval : ∀ (j : Nat) t v, Try.f13.params[j]? = some t → args[j]? = some v → Value.okWide Try.prog W .any base t v := hval0
  have hW' := hW
  obtain ⟨p, q, hA0, hV, rfl, hfz, hnd⟩ := hW
  have hA : DataW.TrodAll enc Try.prog W 0 (fun _ => true) true Try.f13.params.toList args.toList ds p := hA0
  rw [Try.params13] at hA hval
  obtain ⟨v0, vs0, d0, ds0, p0, q0, hargs, rfl, rfl, h0, r0⟩ := trodAll_cons hA
  obtain ⟨v1, vs1, d1, ds1, p1, q1, rfl, rfl, rfl, h1, r1⟩ := trodAll_cons r0
  obtain ⟨v2, vs2, d2, ds2, p2, q2, rfl, rfl, rfl, h2, r2⟩ := trodAll_cons r1
  obtain ⟨rfl, rfl, rfl⟩ := trodAll_nil r2
  obtain rfl : args = #[v0, v1, v2] := by cases args; simp_all
  obtain ⟨rfl, rfl⟩ := trodVars_none hV
  have k0 := h0
  have lt0 : ∀ x ∈ p0, x.block < W.heap.size := by obtain ⟨m, hm⟩ := k0; exact DataW.trod_lt m _ _ _ hm
  obtain ⟨cs0, rfl, hsz0⟩ := okWide_struct Try.underlying66 (hval 0 66 v0 rfl rfl)
  obtain ⟨zs0, hz0, rfl, hin0⟩ := RdI.v (RdI.struct5 Try.underlying66 (RdI.int Try.underlying5) (RdI.int Try.underlying5) (RdI.int Try.underlying5) (RdI.arrayN (n := 6) Try.underlying64 (RdI.array Try.underlying63 Try.underlying5 cells5 cells63) cells63 cells64) (RdI.arrayN (n := 6) Try.underlying64 (RdI.array Try.underlying63 Try.underlying5 cells5 cells63) cells63 cells64) cells5 cells5 cells5 cells64 cells64 rfl rfl rfl rfl rfl cells66) h0
  obtain ⟨a1, rfl, rfl, rfl, u1⟩ := open_int Try.underlying5 (hval 1 5 v1 rfl rfl) h1
  obtain ⟨a2, rfl, rfl, rfl, u2⟩ := open_int Try.underlying5 (hval 2 5 v2 rfl rfl) h2
  clear hA0 hval0
  refine (F13 hz0 hin0 (inK_of_wf u1) (inK_of_wf u2) (fun b (h : some b ∈ ([] : List (Option Nat))) => nomatch h)).mono fun e W' hE => ?_
  obtain ⟨r, he, bel, hr⟩ := hE
  subst he
  subst hr
  exact ⟨_, rfl, _, _, _, [], _, [], hW', trodAll_mk1 (shut_bool Try.underlying4 _), (trodAll_cons_mk (Below.trod laidOut (by kernel_rfl) (of_decide_eq_true (by kernel_rfl)) k0 bel lt0) (trodAll_cons_mk (shut_int Try.underlying5 u1) (trodAll_cons_mk (shut_int Try.underlying5 u2) trodAll_mk0))), rfl, bel.frame _, fun h => by cases h⟩

theorem over : Rows.tasteNamedRow.holds Try.pinned (OpenSpec.ofChange Rows.tasteNamedSpec) :=
  OpenClaim.holds_of_wide 13 Try.f13 rfl rfl rfl rfl rfl rfl rfl ⟨rfl, rfl, rfl, rfl, rfl⟩ rfl rfl rfl rfl rfl (by kernel_rfl) Try.func13 (by kernel_rfl)
    (of_decide_eq_true (by kernel_rfl)) (by unfold Func.isWrapper; first | (rw [if_pos (by decide +kernel)]; kernel_rfl) | (rw [if_neg (by decide +kernel)]; exact ⟨rfl, rfl⟩))
    (fun os started H enc _ => lifted os started H enc)

end Go.Proofs.Ytjbcpggikaeleaa.tasteNamed
namespace Go.Proofs.Ytjbcpggikaeleaa
/-- The statement. -/
theorem tasteNamed_proved : Rows.TasteNamedSaid := tasteNamed.over
#print axioms tasteNamed_proved
end Go.Proofs.Ytjbcpggikaeleaa
