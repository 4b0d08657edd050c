/-
  WHAT IS PROVED HERE, TEXT BY TEXT (several texts of one prover, joined to one file; the conditions stand in each statement):
  * WHAT IS PROVED HERE: what functions of layer 5 hand back, each out of its own code; the conditions stand in each statement.
  * WHAT IS PROVED HERE: what functions of layer 5 hand back, each out of its own code; the conditions stand in each statement.
  * WHAT IS PROVED HERE: what functions of layer 5 hand back, each out of its own code; the conditions stand in each statement.
  * WHAT IS PROVED HERE: where the row's listed variables read as the program's text lays them, the library's tables read as the shelf's contracts want it. Conditions stand in each statement.
  * WHAT IS PROVED HERE: arrays of arrays of numbers as they are read at the start. Conditions: the types' closed facts, as hypotheses.
  * WHAT IS PROVED HERE: the given statement of SherdListed: for every input it returns true, and each argument reads as it did. Conditions: none.
-/
import Derived.Test.YtokdjjebnomciaaDoorProg
import Derived.Test.YtokdjjebnomciaaDoorU2
import Derived.Test.YtokdjjebnomciaaDoorU4
import Derived.Test.YtokdjjebnomciaaDoorU3
import Derived.Test.YtokdjjebnomciaaDoorRows
import Derived.Lib.LaidCaseMet
import Derived.Lib.LaidRTab
import Derived.PinnedBridge
import Derived.ProofKit
import Derived.Lay
import Derived.LaidMore
import Derived.Deep.DeepHandedRow
import Derived.WalkKit
import Derived.OpenShut
import Derived.Carry
import Derived.Lib.SmallJoins
import Derived.Test.YtokdjjebnomciaaDoorCards
import Derived.Test.YtokdjjebnomciaaDoorTie
import Derived.SevenTiedAt
import Derived.Stop.Joined

set_option linter.unusedVariables false
set_option linter.unusedSimpArgs false

namespace Go.Proofs.YtokdjjebnomciaaDoor
open Go.Wk Go.RowKit Go.Lib
set_option linter.unusedVariables false
set_option linter.unusedSimpArgs false
theorem mixedHy_ : Tryd.prog.follows .mixedOrders = true := by kernel_rfl

set_option maxHeartbeats 1000000 in
theorem F89 {a : Int} {b : Int} {c : Int} {d : Int} {w : World} (i_a : InK .i64 a) (i_b : InK .i64 b) (i_c : InK .i64 c) (i_d : InK .i64 d) : Calls Tryd.prog 89 #[.agg #[.int .i64 a, .int .i64 b], .agg #[.int .i64 c, .int .i64 d]] w (Ret w (fun r _ => r = .bool (crossB (c, d) (a, b)))) := by
  have b_d := bd_i64 i_d
  have b_c := bd_i64 i_c
  have b_b := bd_i64 i_b
  have b_a := bd_i64 i_a
  have hS := St.start0 w
  refine enterR Tryd.func89 rfl Tryd.ntmps89 Tryd.results89 rfl ?_
  refine W.seq ?_
  refine W.reg ?_
  refine Wx.box (cs := [.int .i64 a, .int .i64 b]) hS rfl rfl rfl (fun g_1 w_2 hx_4 hb_3 hS => ?_)
  refine Wx.box (cs := [.int .i64 c, .int .i64 d]) hS rfl rfl rfl (fun g_5 w_6 hx_8 hb_7 hS => ?_)
  refine Wx.rd (v := .bool false) (rd_assign rfl) rfl ?_
  refine Wx.nil ?_
  refine W.seq ?_
  refine W.reg ?_
  refine Wx.rd (v := .pointer (some ⟨g_1, 0, none⟩)) (rd_indexArr (n := 0) rfl rfl Tryd.underlying58 Tryd.sizeOf3 (by decide) (by decide)) rfl ?_
  refine Wx.rd (v := .int .i64 a) (rd_loadX hS 1 rfl rfl rfl Tryd.isAgg3) rfl ?_
  refine Wx.rd (v := .pointer (some ⟨g_5, 0, none⟩)) (rd_indexArr (n := 0) rfl rfl Tryd.underlying58 Tryd.sizeOf3 (by decide) (by decide)) rfl ?_
  refine Wx.rd (v := .int .i64 c) (rd_loadX hS 0 rfl rfl rfl Tryd.isAgg3) rfl ?_
  refine Wx.rd (v := .bool (decide (a < c))) (rd_lss rfl rfl) rfl ?_
  refine Wx.rd (v := .bool (decide (a < c))) (rd_move rfl) rfl ?_
  refine Wx.cut (X := Unit) 6 [11, 12, 13, 14, 15, 16] (fun _ => [(16, .bool (decide (a < c) && decide (c < b)))]) (fun _ w' => St w [] w' [.box g_5 58 [.int .i64 c, .int .i64 d], .box g_1 58 [.int .i64 a, .int .i64 b]]) ?_ ?_
  · rcases Bool.eq_false_or_eq_true (decide (a < c)) with g_9 | g_9
    · -- True
      have gp_10 := of_decide_eq_true g_9
      refine Wx.gyes rfl rfl (congrArg Value.bool g_9) ?_
      refine Wx.rd (v := .pointer (some ⟨g_5, 0, none⟩)) (rd_indexArr (n := 0) rfl rfl Tryd.underlying58 Tryd.sizeOf3 (by decide) (by decide)) rfl ?_
      refine Wx.gyes rfl rfl (congrArg Value.bool g_9) ?_
      refine Wx.rd (v := .int .i64 c) (rd_loadX hS 0 rfl rfl rfl Tryd.isAgg3) rfl ?_
      refine Wx.gyes rfl rfl (congrArg Value.bool g_9) ?_
      refine Wx.rd (v := .pointer (some ⟨g_1, 1, none⟩)) (rd_indexArr (n := 1) rfl rfl Tryd.underlying58 Tryd.sizeOf3 (by decide) (by decide)) rfl ?_
      refine Wx.gyes rfl rfl (congrArg Value.bool g_9) ?_
      refine Wx.rd (v := .int .i64 b) (rd_loadX hS 1 rfl rfl rfl Tryd.isAgg3) rfl ?_
      refine Wx.gyes rfl rfl (congrArg Value.bool g_9) ?_
      refine Wx.rd (v := .bool (decide (c < b))) (rd_lss rfl rfl) rfl ?_
      refine Wx.rd (v := .bool (decide (c < b))) (rd_pickT (congrArg Value.bool g_9) rfl) rfl ?_
      refine Wx.nil ⟨(), hS, ⟨?_, trivial⟩, Out.look rfl Out.refl⟩
      show Value.bool (decide (c < b)) = Value.bool (decide (a < c) && decide (c < b))
      first | rw [g_9, Bool.true_and] | (rw [g_9]; rfl)
    · -- False
      have gp_11 := of_decide_eq_false g_9
      refine Wx.gnoB rfl rfl (congrArg Value.bool g_9) rfl rfl ?_
      refine Wx.gnoB rfl rfl (congrArg Value.bool g_9) rfl rfl ?_
      refine Wx.gnoB rfl rfl (congrArg Value.bool g_9) rfl rfl ?_
      refine Wx.gnoB rfl rfl (congrArg Value.bool g_9) rfl rfl ?_
      refine Wx.gnoB rfl rfl (congrArg Value.bool g_9) rfl rfl ?_
      refine Wx.rd (v := .bool false) (rd_pickF (congrArg Value.bool g_9) rfl) rfl ?_
      refine Wx.nil ⟨(), hS, ⟨?_, trivial⟩, Out.look rfl Out.refl⟩
      show Value.bool false = Value.bool (decide (a < c) && decide (c < b))
      first | rw [g_9, Bool.false_and] | (rw [g_9]; rfl)
  rintro ⟨⟩ u_13 w_12 hS
  refine Wx.rd (v := .bool (decide (a < c) && decide (c < b))) (rd_move rfl) rfl ?_
  refine Wx.cut (X := Unit) 6 [18, 19, 20, 21, 22, 23] (fun _ => [(23, .bool ((decide (a < c) && decide (c < b)) && decide (b < d)))]) (fun _ w' => St w [] w' [.box g_5 58 [.int .i64 c, .int .i64 d], .box g_1 58 [.int .i64 a, .int .i64 b]]) ?_ ?_
  · rcases Bool.eq_false_or_eq_true (decide (a < c) && decide (c < b)) with g_14 | g_14
    · -- True
      have gp_15 := g_14
      try simp only [Bool.and_eq_true, Bool.or_eq_true, Bool.not_eq_true', Bool.and_eq_false_iff, Bool.or_eq_false_iff, Bool.not_eq_false', decide_eq_true_eq, decide_eq_false_iff_not, not_or, Bool.false_eq_true, Bool.true_eq_false, false_or, or_false, not_false_eq_true] at gp_15
      refine Wx.gyes rfl rfl (congrArg Value.bool g_14) ?_
      refine Wx.rd (v := .pointer (some ⟨g_1, 1, none⟩)) (rd_indexArr (n := 1) rfl rfl Tryd.underlying58 Tryd.sizeOf3 (by decide) (by decide)) rfl ?_
      refine Wx.gyes rfl rfl (congrArg Value.bool g_14) ?_
      refine Wx.rd (v := .int .i64 b) (rd_loadX hS 1 rfl rfl rfl Tryd.isAgg3) rfl ?_
      refine Wx.gyes rfl rfl (congrArg Value.bool g_14) ?_
      refine Wx.rd (v := .pointer (some ⟨g_5, 1, none⟩)) (rd_indexArr (n := 1) rfl rfl Tryd.underlying58 Tryd.sizeOf3 (by decide) (by decide)) rfl ?_
      refine Wx.gyes rfl rfl (congrArg Value.bool g_14) ?_
      refine Wx.rd (v := .int .i64 d) (rd_loadX hS 0 rfl rfl rfl Tryd.isAgg3) rfl ?_
      refine Wx.gyes rfl rfl (congrArg Value.bool g_14) ?_
      refine Wx.rd (v := .bool (decide (b < d))) (rd_lss rfl rfl) rfl ?_
      refine Wx.rd (v := .bool (decide (b < d))) (rd_pickT (congrArg Value.bool g_14) rfl) rfl ?_
      refine Wx.nil ⟨(), hS, ⟨?_, trivial⟩, Out.look rfl Out.refl⟩
      show Value.bool (decide (b < d)) = Value.bool ((decide (a < c) && decide (c < b)) && decide (b < d))
      first | rw [g_14, Bool.true_and] | (rw [g_14]; rfl)
    · -- False
      have gp_16 := g_14
      try simp only [Bool.and_eq_true, Bool.or_eq_true, Bool.not_eq_true', Bool.and_eq_false_iff, Bool.or_eq_false_iff, Bool.not_eq_false', decide_eq_true_eq, decide_eq_false_iff_not, not_or, Bool.false_eq_true, Bool.true_eq_false, false_or, or_false, not_false_eq_true] at gp_16
      refine Wx.gnoB rfl rfl (congrArg Value.bool g_14) rfl rfl ?_
      refine Wx.gnoB rfl rfl (congrArg Value.bool g_14) rfl rfl ?_
      refine Wx.gnoB rfl rfl (congrArg Value.bool g_14) rfl rfl ?_
      refine Wx.gnoB rfl rfl (congrArg Value.bool g_14) rfl rfl ?_
      refine Wx.gnoB rfl rfl (congrArg Value.bool g_14) rfl rfl ?_
      refine Wx.rd (v := .bool false) (rd_pickF (congrArg Value.bool g_14) rfl) rfl ?_
      refine Wx.nil ⟨(), hS, ⟨?_, trivial⟩, Out.look rfl Out.refl⟩
      show Value.bool false = Value.bool ((decide (a < c) && decide (c < b)) && decide (b < d))
      first | rw [g_14, Bool.false_and] | (rw [g_14]; rfl)
  rintro ⟨⟩ u_18 w_17 hS
  refine Wx.rd (v := .bool ((decide (a < c) && decide (c < b)) && decide (b < d))) (rd_move rfl) rfl ?_
  refine Wx.cut (X := Unit) 20 [25, 26, 27, 28, 29, 30, 31, 32, 33, 34, 35, 36, 37, 38, 39, 40, 41, 42, 43, 44] (fun _ => [(44, .bool (((decide (a < c) && decide (c < b)) && decide (b < d)) || ((decide (c < a) && decide (a < d)) && decide (d < b))))]) (fun _ w' => St w [] w' [.box g_5 58 [.int .i64 c, .int .i64 d], .box g_1 58 [.int .i64 a, .int .i64 b]]) ?_ ?_
  · rcases Bool.eq_false_or_eq_true ((decide (a < c) && decide (c < b)) && decide (b < d)) with g_19 | g_19
    · -- True
      have gp_20 := g_19
      try simp only [Bool.and_eq_true, Bool.or_eq_true, Bool.not_eq_true', Bool.and_eq_false_iff, Bool.or_eq_false_iff, Bool.not_eq_false', decide_eq_true_eq, decide_eq_false_iff_not, not_or, Bool.false_eq_true, Bool.true_eq_false, false_or, or_false, not_false_eq_true] at gp_20
      refine Wx.gnoB rfl rfl (congrArg Value.bool g_19) rfl rfl ?_
      refine Wx.gnoB rfl rfl (congrArg Value.bool g_19) rfl rfl ?_
      refine Wx.gnoB rfl rfl (congrArg Value.bool g_19) rfl rfl ?_
      refine Wx.gnoB rfl rfl (congrArg Value.bool g_19) rfl rfl ?_
      refine Wx.gnoB rfl rfl (congrArg Value.bool g_19) rfl rfl ?_
      refine Wx.gnoB rfl rfl (congrArg Value.bool g_19) rfl rfl ?_
      refine Wx.gno rfl rfl rfl rfl ?_
      refine Wx.gno rfl rfl rfl rfl ?_
      refine Wx.gno rfl rfl rfl rfl ?_
      refine Wx.gno rfl rfl rfl rfl ?_
      refine Wx.gno rfl rfl rfl rfl ?_
      refine Wx.gnoB rfl rfl (congrArg Value.bool g_19) rfl rfl ?_
      refine Wx.gnoB rfl rfl (congrArg Value.bool g_19) rfl rfl ?_
      refine Wx.gno rfl rfl rfl rfl ?_
      refine Wx.gno rfl rfl rfl rfl ?_
      refine Wx.gno rfl rfl rfl rfl ?_
      refine Wx.gno rfl rfl rfl rfl ?_
      refine Wx.gno rfl rfl rfl rfl ?_
      refine Wx.gnoB rfl rfl (congrArg Value.bool g_19) rfl rfl ?_
      refine Wx.rd (v := .bool true) (rd_pickT (congrArg Value.bool g_19) rfl) rfl ?_
      refine Wx.nil ⟨(), hS, ⟨?_, trivial⟩, Out.look rfl Out.refl⟩
      show Value.bool true = Value.bool (((decide (a < c) && decide (c < b)) && decide (b < d)) || ((decide (c < a) && decide (a < d)) && decide (d < b)))
      first | rw [g_19, Bool.true_or] | (rw [g_19]; rfl)
    · -- False
      have gp_21 := g_19
      try simp only [Bool.and_eq_true, Bool.or_eq_true, Bool.not_eq_true', Bool.and_eq_false_iff, Bool.or_eq_false_iff, Bool.not_eq_false', decide_eq_true_eq, decide_eq_false_iff_not, not_or, Bool.false_eq_true, Bool.true_eq_false, false_or, or_false, not_false_eq_true] at gp_21
      refine Wx.gyes rfl rfl (congrArg Value.bool g_19) ?_
      refine Wx.rd (v := .pointer (some ⟨g_5, 0, none⟩)) (rd_indexArr (n := 0) rfl rfl Tryd.underlying58 Tryd.sizeOf3 (by decide) (by decide)) rfl ?_
      refine Wx.gyes rfl rfl (congrArg Value.bool g_19) ?_
      refine Wx.rd (v := .int .i64 c) (rd_loadX hS 0 rfl rfl rfl Tryd.isAgg3) rfl ?_
      refine Wx.gyes rfl rfl (congrArg Value.bool g_19) ?_
      refine Wx.rd (v := .pointer (some ⟨g_1, 0, none⟩)) (rd_indexArr (n := 0) rfl rfl Tryd.underlying58 Tryd.sizeOf3 (by decide) (by decide)) rfl ?_
      refine Wx.gyes rfl rfl (congrArg Value.bool g_19) ?_
      refine Wx.rd (v := .int .i64 a) (rd_loadX hS 1 rfl rfl rfl Tryd.isAgg3) rfl ?_
      refine Wx.gyes rfl rfl (congrArg Value.bool g_19) ?_
      refine Wx.rd (v := .bool (decide (c < a))) (rd_lss rfl rfl) rfl ?_
      refine Wx.gyes rfl rfl (congrArg Value.bool g_19) ?_
      refine Wx.rd (v := .bool (decide (c < a))) (rd_move rfl) rfl ?_
      refine Wx.cut (X := Unit) 6 [31, 32, 33, 34, 35, 36] (fun _ => [(36, .bool (decide (c < a) && decide (a < d)))]) (fun _ w' => St w [] w' [.box g_5 58 [.int .i64 c, .int .i64 d], .box g_1 58 [.int .i64 a, .int .i64 b]]) ?_ ?_
      · rcases Bool.eq_false_or_eq_true (decide (c < a)) with g_22 | g_22
        · -- True
          have gp_23 := of_decide_eq_true g_22
          refine Wx.gyes rfl rfl (congrArg Value.bool g_22) ?_
          refine Wx.rd (v := .pointer (some ⟨g_1, 0, none⟩)) (rd_indexArr (n := 0) rfl rfl Tryd.underlying58 Tryd.sizeOf3 (by decide) (by decide)) rfl ?_
          refine Wx.gyes rfl rfl (congrArg Value.bool g_22) ?_
          refine Wx.rd (v := .int .i64 a) (rd_loadX hS 1 rfl rfl rfl Tryd.isAgg3) rfl ?_
          refine Wx.gyes rfl rfl (congrArg Value.bool g_22) ?_
          refine Wx.rd (v := .pointer (some ⟨g_5, 1, none⟩)) (rd_indexArr (n := 1) rfl rfl Tryd.underlying58 Tryd.sizeOf3 (by decide) (by decide)) rfl ?_
          refine Wx.gyes rfl rfl (congrArg Value.bool g_22) ?_
          refine Wx.rd (v := .int .i64 d) (rd_loadX hS 0 rfl rfl rfl Tryd.isAgg3) rfl ?_
          refine Wx.gyes rfl rfl (congrArg Value.bool g_22) ?_
          refine Wx.rd (v := .bool (decide (a < d))) (rd_lss rfl rfl) rfl ?_
          refine Wx.gyes rfl rfl (congrArg Value.bool g_19) ?_
          refine Wx.rd (v := .bool (decide (a < d))) (rd_pickT (congrArg Value.bool g_22) rfl) rfl ?_
          refine Wx.nil ⟨(), hS, ⟨?_, trivial⟩, Out.look rfl Out.refl⟩
          show Value.bool (decide (a < d)) = Value.bool (decide (c < a) && decide (a < d))
          first | rw [g_22, Bool.true_and] | (rw [g_22]; rfl)
        · -- False
          have gp_24 := of_decide_eq_false g_22
          refine Wx.gnoB rfl rfl (congrArg Value.bool g_22) rfl rfl ?_
          refine Wx.gnoB rfl rfl (congrArg Value.bool g_22) rfl rfl ?_
          refine Wx.gnoB rfl rfl (congrArg Value.bool g_22) rfl rfl ?_
          refine Wx.gnoB rfl rfl (congrArg Value.bool g_22) rfl rfl ?_
          refine Wx.gnoB rfl rfl (congrArg Value.bool g_22) rfl rfl ?_
          refine Wx.gyes rfl rfl (congrArg Value.bool g_19) ?_
          refine Wx.rd (v := .bool false) (rd_pickF (congrArg Value.bool g_22) rfl) rfl ?_
          refine Wx.nil ⟨(), hS, ⟨?_, trivial⟩, Out.look rfl Out.refl⟩
          show Value.bool false = Value.bool (decide (c < a) && decide (a < d))
          first | rw [g_22, Bool.false_and] | (rw [g_22]; rfl)
      rintro ⟨⟩ u_26 w_25 hS
      refine Wx.gyes rfl rfl (congrArg Value.bool g_19) ?_
      refine Wx.rd (v := .bool (decide (c < a) && decide (a < d))) (rd_move rfl) rfl ?_
      refine Wx.cut (X := Unit) 6 [38, 39, 40, 41, 42, 43] (fun _ => [(43, .bool ((decide (c < a) && decide (a < d)) && decide (d < b)))]) (fun _ w' => St w [] w' [.box g_5 58 [.int .i64 c, .int .i64 d], .box g_1 58 [.int .i64 a, .int .i64 b]]) ?_ ?_
      · rcases Bool.eq_false_or_eq_true (decide (c < a) && decide (a < d)) with g_27 | g_27
        · -- True
          have gp_28 := g_27
          try simp only [Bool.and_eq_true, Bool.or_eq_true, Bool.not_eq_true', Bool.and_eq_false_iff, Bool.or_eq_false_iff, Bool.not_eq_false', decide_eq_true_eq, decide_eq_false_iff_not, not_or, Bool.false_eq_true, Bool.true_eq_false, false_or, or_false, not_false_eq_true] at gp_28
          refine Wx.gyes rfl rfl (congrArg Value.bool g_27) ?_
          refine Wx.rd (v := .pointer (some ⟨g_5, 1, none⟩)) (rd_indexArr (n := 1) rfl rfl Tryd.underlying58 Tryd.sizeOf3 (by decide) (by decide)) rfl ?_
          refine Wx.gyes rfl rfl (congrArg Value.bool g_27) ?_
          refine Wx.rd (v := .int .i64 d) (rd_loadX hS 0 rfl rfl rfl Tryd.isAgg3) rfl ?_
          refine Wx.gyes rfl rfl (congrArg Value.bool g_27) ?_
          refine Wx.rd (v := .pointer (some ⟨g_1, 1, none⟩)) (rd_indexArr (n := 1) rfl rfl Tryd.underlying58 Tryd.sizeOf3 (by decide) (by decide)) rfl ?_
          refine Wx.gyes rfl rfl (congrArg Value.bool g_27) ?_
          refine Wx.rd (v := .int .i64 b) (rd_loadX hS 1 rfl rfl rfl Tryd.isAgg3) rfl ?_
          refine Wx.gyes rfl rfl (congrArg Value.bool g_27) ?_
          refine Wx.rd (v := .bool (decide (d < b))) (rd_lss rfl rfl) rfl ?_
          refine Wx.gyes rfl rfl (congrArg Value.bool g_19) ?_
          refine Wx.rd (v := .bool (decide (d < b))) (rd_pickT (congrArg Value.bool g_27) rfl) rfl ?_
          refine Wx.nil ⟨(), hS, ⟨?_, trivial⟩, Out.look rfl Out.refl⟩
          show Value.bool (decide (d < b)) = Value.bool ((decide (c < a) && decide (a < d)) && decide (d < b))
          first | rw [g_27, Bool.true_and] | (rw [g_27]; rfl)
        · -- False
          have gp_29 := g_27
          try simp only [Bool.and_eq_true, Bool.or_eq_true, Bool.not_eq_true', Bool.and_eq_false_iff, Bool.or_eq_false_iff, Bool.not_eq_false', decide_eq_true_eq, decide_eq_false_iff_not, not_or, Bool.false_eq_true, Bool.true_eq_false, false_or, or_false, not_false_eq_true] at gp_29
          refine Wx.gnoB rfl rfl (congrArg Value.bool g_27) rfl rfl ?_
          refine Wx.gnoB rfl rfl (congrArg Value.bool g_27) rfl rfl ?_
          refine Wx.gnoB rfl rfl (congrArg Value.bool g_27) rfl rfl ?_
          refine Wx.gnoB rfl rfl (congrArg Value.bool g_27) rfl rfl ?_
          refine Wx.gnoB rfl rfl (congrArg Value.bool g_27) rfl rfl ?_
          refine Wx.gyes rfl rfl (congrArg Value.bool g_19) ?_
          refine Wx.rd (v := .bool false) (rd_pickF (congrArg Value.bool g_27) rfl) rfl ?_
          refine Wx.nil ⟨(), hS, ⟨?_, trivial⟩, Out.look rfl Out.refl⟩
          show Value.bool false = Value.bool ((decide (c < a) && decide (a < d)) && decide (d < b))
          first | rw [g_27, Bool.false_and] | (rw [g_27]; rfl)
      rintro ⟨⟩ u_31 w_30 hS
      refine Wx.rd (v := .bool ((decide (c < a) && decide (a < d)) && decide (d < b))) (rd_pickF (congrArg Value.bool g_19) rfl) rfl ?_
      refine Wx.nil ⟨(), hS, ⟨?_, trivial⟩, Out.look rfl (Out.hav rfl (Out.look rfl (Out.hav rfl (Out.look rfl Out.refl))))⟩
      show Value.bool ((decide (c < a) && decide (a < d)) && decide (d < b)) = Value.bool (((decide (a < c) && decide (c < b)) && decide (b < d)) || ((decide (c < a) && decide (a < d)) && decide (d < b)))
      first | rw [g_19, Bool.false_or] | (rw [g_19]; rfl)
  rintro ⟨⟩ u_33 w_32 hS
  refine Wx.rd (v := .bool (((decide (a < c) && decide (c < b)) && decide (b < d)) || ((decide (c < a) && decide (a < d)) && decide (d < b)))) (rd_assign rfl) rfl ?_
  refine Wx.nil ?_
  have e0_0 : (crossB (c, d) (a, b)) = (((decide (a < c) && decide (c < b)) && decide (b < d)) || ((decide (c < a) && decide (a < d)) && decide (d < b))) := by rfl
  exact W.ret ⟨.bool (((decide (a < c) && decide (c < b)) && decide (b < d)) || ((decide (c < a) && decide (a < d)) && decide (d < b))), ResIs.one, hS.bel, (by rw [e0_0])⟩

set_option maxHeartbeats 2000000 in
theorem F57 {rim : ByteArray} {lv : Value} {l : List (Int × Int)} {Fr_lv : List (Option Nat)} {w : World} (s_rim : rim.size ≤ maxLen) (h_lv : V (tSl (tP (tI .i64) (tI .i64))) l lv Fr_lv w) (p_s : (rim.size : Int) ≤ 100) (p_n : (l.length : Int) ≤ 1000) : Calls Tryd.prog 57 #[.string rim, lv] w (Ret w (fun r _ => r = .bool (soundB rim l))) := by
  have a_lv := h_lv.any
  have l_lv := h_lv.len63
  have hS := St.start0 w
  refine enterR Tryd.func57 rfl Tryd.ntmps57 Tryd.results57 rfl ?_
  refine W.seq ?_
  refine W.reg ?_
  refine Wx.rd (v := .bool false) (rd_assign rfl) rfl ?_
  refine Wx.nil ?_
  refine W.seq ?_
  refine W.reg ?_
  refine Wx.makeMap hS rfl (fun g_2 w_1 hx_3 hS => ?_)
  have hS : St _ _ w_1 [.raw g_2 (.map (mE (Value.int .i64) Value.bool ([] : List (Int × Bool)) 0).toArray ([] : List (Int × Bool)).length)] := hS
  refine Wx.rd (v := .map (some g_2)) (rd_assign rfl) rfl ?_
  refine Wx.nil ?_
  refine W.seq ?_
  refine W.seq ?_
  refine W.reg ?_
  refine Wx.rd (v := lv) (rd_move rfl) rfl ?_
  refine Wx.rd (v := .int .i64 (l.length : Int)) (rd_lenV rfl (hS.arg a_lv) Tryd.underlying22) rfl ?_
  refine Wx.rd (v := .int .i64 0) (rd_move rfl) rfl ?_
  refine Wx.nil ?_
  refine W.block ?_
  refine W.loop [4, 6, 7, 9, 13, 14, 15, 16, 17, 18, 19, 20, 21, 22, 23, 24, 25, 26, 27, 28, 29, 30, 31, 32, 33, 34, 35, 36, 37, 38, 39, 40, 41, 42, 43, 44, 45, 46, 47, 48, 49, 50, 51, 52, 53, 54, 55, 56, 57, 58, 59, 60, 61, 62, 63, 64, 65, 66, 67, 68, 69, 70, 71, 72, 73, 74, 75, 76, 77, 78, 79, 80, 81, 82, 83, 84, 85, 86, 87, 88, 89, 90, 91, 92] (fun x : Int × (List (Int × Bool)) => match x with | (k, m) => [(13, .int .i64 k)]) (fun (x : Int × (List (Int × Bool))) w' => match x with | (k, m) => St w [] w' [.raw g_2 (.map (mE (Value.int .i64) Value.bool m 0).toArray m.length)] ∧ 0 ≤ k ∧ k ≤ l.length ∧ validT rim (l.take k.toNat) (l.drop k.toNat) = validT rim [] l ∧ (∀ q : Int, mget false m q = usedB (l.take k.toNat) q)) (fun x : Int × (List (Int × Bool)) => match x with | (k, m) => (l.length - k).toNat) (0, ([] : List (Int × Bool))) ⟨rfl, trivial⟩ ⟨hS, (by first | omega | simp), (by first | omega | simp), (by simp), (fun q => rfl)⟩ ?_
  rintro ⟨k, m⟩ u_5 w_4 ⟨hS, h0, h1, h2, h3⟩
  refine W.seq ?_
  refine W.reg ?_
  refine Wx.rd (v := .bool (decide (k < (l.length : Int)))) (rd_lss rfl rfl) rfl ?_
  refine Wx.nil ?_
  refine W.seq ?_
  refine W.condD rfl (fun c0 => ?_) (fun c0 => ?_)
  · -- yes
    refine W.skip ?_
    refine W.seq ?_
    refine W.block ?_
    refine W.seq ?_
    refine W.reg ?_
    refine Wx.rd (v := .int .i64 k) (rd_move rfl) rfl ?_
    refine Wx.ex (rd_index (0, 0) (hS.arg a_lv) rfl rfl Tryd.underlying22 Tryd.sizeOf58 (by first | omega | (simp only [List.length_set, List.length_append, List.length_cons, List.length_nil, List.length_replicate]; omega)) (by first | omega | (simp only [List.length_set, List.length_append, List.length_cons, List.length_nil, List.length_replicate]; omega))) rfl (fun p_6 hp_7 => ?_)
    refine Wx.ex (rd_load hp_7 rfl Tryd.isAgg58 Tryd.sizeOf58) rfl (fun v_8 hv_9 => ?_)
    obtain ⟨rfl, bd_10, bd_11⟩ := hv_9.i2
    have bd_10 := bd_i64 bd_10
    have bd_11 := bd_i64 bd_11
    refine Wx.alloc (cs := [.int .i64 0, .int .i64 0]) hS Tryd.zeroValue58 rfl rfl (fun g_12 w_13 hx_15 hb_14 hS => ?_)
    refine Wx.rd (v := .int .i64 k) (rd_assign rfl) rfl ?_
    refine Wx.storeX (cs' := [.int .i64 ((ix (0, 0) l k).1), .int .i64 ((ix (0, 0) l k).2)]) (ds := [.int .i64 ((ix (0, 0) l k).1), .int .i64 ((ix (0, 0) l k).2)]) hS 0 rfl rfl rfl rfl Tryd.sizeOf58 (Nat.le_of_ble_eq_true rfl) (one_cons rfl (one_cons rfl one_nil)) rfl (fun w_16 hz_17 hS => ?_)
    refine Wx.nil ?_
    refine W.seq ?_
    refine W.seq ?_
    refine W.regQ mixedHy_ (by kernel_rfl) ?_
    refine Wx.rd (v := .pointer (some ⟨g_12, 0, none⟩)) (rd_indexArr (n := 0) rfl rfl Tryd.underlying58 Tryd.sizeOf3 (by decide) (by decide)) rfl ?_
    refine Wx.rd (v := .int .i64 ((ix (0, 0) l k).1)) (rd_loadX hS 0 rfl rfl rfl Tryd.isAgg3) rfl ?_
    refine Wx.rd (v := .bool (decide (((ix (0, 0) l k).1) < 0))) (rd_lss rfl rfl) rfl ?_
    refine Wx.rd (v := .bool (decide (((ix (0, 0) l k).1) < 0))) (rd_move rfl) rfl ?_
    refine Wx.cutQ (X := Unit) 6 [22, 23, 24, 25, 26, 27] (fun _ => [(27, .bool (decide (((ix (0, 0) l k).1) < 0) || decide (((ix (0, 0) l k).2) ≤ ((ix (0, 0) l k).1))))]) (fun _ => True) ?_ ?_
    · rcases Bool.eq_false_or_eq_true (decide (((ix (0, 0) l k).1) < 0)) with g_18 | g_18
      · -- True
        have gp_19 := of_decide_eq_true g_18
        refine Wx.gnoB rfl rfl (congrArg Value.bool g_18) rfl rfl ?_
        refine Wx.gnoB rfl rfl (congrArg Value.bool g_18) rfl rfl ?_
        refine Wx.gnoB rfl rfl (congrArg Value.bool g_18) rfl rfl ?_
        refine Wx.gnoB rfl rfl (congrArg Value.bool g_18) rfl rfl ?_
        refine Wx.gnoB rfl rfl (congrArg Value.bool g_18) rfl rfl ?_
        refine Wx.rd (v := .bool true) (rd_pickT (congrArg Value.bool g_18) rfl) rfl ?_
        refine Wx.nilQ (fun _ _ => ⟨(), trivial, ⟨?_, trivial⟩, Out.look rfl Out.refl⟩)
        show Value.bool true = Value.bool (decide (((ix (0, 0) l k).1) < 0) || decide (((ix (0, 0) l k).2) ≤ ((ix (0, 0) l k).1)))
        first | rw [g_18, Bool.true_or] | (rw [g_18]; rfl)
      · -- False
        have gp_20 := of_decide_eq_false g_18
        refine Wx.gyes rfl rfl (congrArg Value.bool g_18) ?_
        refine Wx.rd (v := .pointer (some ⟨g_12, 0, none⟩)) (rd_indexArr (n := 0) rfl rfl Tryd.underlying58 Tryd.sizeOf3 (by decide) (by decide)) rfl ?_
        refine Wx.gyes rfl rfl (congrArg Value.bool g_18) ?_
        refine Wx.rd (v := .int .i64 ((ix (0, 0) l k).1)) (rd_loadX hS 0 rfl rfl rfl Tryd.isAgg3) rfl ?_
        refine Wx.gyes rfl rfl (congrArg Value.bool g_18) ?_
        refine Wx.rd (v := .pointer (some ⟨g_12, 1, none⟩)) (rd_indexArr (n := 1) rfl rfl Tryd.underlying58 Tryd.sizeOf3 (by decide) (by decide)) rfl ?_
        refine Wx.gyes rfl rfl (congrArg Value.bool g_18) ?_
        refine Wx.rd (v := .int .i64 ((ix (0, 0) l k).2)) (rd_loadX hS 0 rfl rfl rfl Tryd.isAgg3) rfl ?_
        refine Wx.gyes rfl rfl (congrArg Value.bool g_18) ?_
        refine Wx.rd (v := .bool (decide (((ix (0, 0) l k).2) ≤ ((ix (0, 0) l k).1)))) (rd_geq rfl rfl) rfl ?_
        refine Wx.rd (v := .bool (decide (((ix (0, 0) l k).2) ≤ ((ix (0, 0) l k).1)))) (rd_pickF (congrArg Value.bool g_18) rfl) rfl ?_
        refine Wx.nilQ (fun _ _ => ⟨(), trivial, ⟨?_, trivial⟩, Out.look rfl Out.refl⟩)
        show Value.bool (decide (((ix (0, 0) l k).2) ≤ ((ix (0, 0) l k).1))) = Value.bool (decide (((ix (0, 0) l k).1) < 0) || decide (((ix (0, 0) l k).2) ≤ ((ix (0, 0) l k).1)))
        first | rw [g_18, Bool.false_or] | (rw [g_18]; rfl)
    rintro ⟨⟩ u_22 -
    refine Wx.rd (v := .bool (decide (((ix (0, 0) l k).1) < 0) || decide (((ix (0, 0) l k).2) ≤ ((ix (0, 0) l k).1)))) (rd_move rfl) rfl ?_
    refine Wx.cutQ (X := Unit) 6 [29, 30, 31, 32, 33, 34] (fun _ => [(34, .bool ((decide (((ix (0, 0) l k).1) < 0) || decide (((ix (0, 0) l k).2) ≤ ((ix (0, 0) l k).1))) || decide ((rim.size : Int) ≤ ((ix (0, 0) l k).2))))]) (fun _ => True) ?_ ?_
    · rcases Bool.eq_false_or_eq_true (decide (((ix (0, 0) l k).1) < 0) || decide (((ix (0, 0) l k).2) ≤ ((ix (0, 0) l k).1))) with g_23 | g_23
      · -- True
        have gp_24 := g_23
        try simp only [Bool.and_eq_true, Bool.or_eq_true, Bool.not_eq_true', Bool.and_eq_false_iff, Bool.or_eq_false_iff, Bool.not_eq_false', decide_eq_true_eq, decide_eq_false_iff_not, not_or, Bool.false_eq_true, Bool.true_eq_false, false_or, or_false, not_false_eq_true] at gp_24
        refine Wx.gnoB rfl rfl (congrArg Value.bool g_23) rfl rfl ?_
        refine Wx.gnoB rfl rfl (congrArg Value.bool g_23) rfl rfl ?_
        refine Wx.gnoB rfl rfl (congrArg Value.bool g_23) rfl rfl ?_
        refine Wx.gnoB rfl rfl (congrArg Value.bool g_23) rfl rfl ?_
        refine Wx.gnoB rfl rfl (congrArg Value.bool g_23) rfl rfl ?_
        refine Wx.rd (v := .bool true) (rd_pickT (congrArg Value.bool g_23) rfl) rfl ?_
        refine Wx.nilQ (fun _ _ => ⟨(), trivial, ⟨?_, trivial⟩, Out.look rfl Out.refl⟩)
        show Value.bool true = Value.bool ((decide (((ix (0, 0) l k).1) < 0) || decide (((ix (0, 0) l k).2) ≤ ((ix (0, 0) l k).1))) || decide ((rim.size : Int) ≤ ((ix (0, 0) l k).2)))
        first | rw [g_23, Bool.true_or] | (rw [g_23]; rfl)
      · -- False
        have gp_25 := g_23
        try simp only [Bool.and_eq_true, Bool.or_eq_true, Bool.not_eq_true', Bool.and_eq_false_iff, Bool.or_eq_false_iff, Bool.not_eq_false', decide_eq_true_eq, decide_eq_false_iff_not, not_or, Bool.false_eq_true, Bool.true_eq_false, false_or, or_false, not_false_eq_true] at gp_25
        refine Wx.gyes rfl rfl (congrArg Value.bool g_23) ?_
        refine Wx.rd (v := .pointer (some ⟨g_12, 1, none⟩)) (rd_indexArr (n := 1) rfl rfl Tryd.underlying58 Tryd.sizeOf3 (by decide) (by decide)) rfl ?_
        refine Wx.gyes rfl rfl (congrArg Value.bool g_23) ?_
        refine Wx.rd (v := .int .i64 ((ix (0, 0) l k).2)) (rd_loadX hS 0 rfl rfl rfl Tryd.isAgg3) rfl ?_
        refine Wx.gyes rfl rfl (congrArg Value.bool g_23) ?_
        refine Wx.rd (v := .string rim) (rd_move rfl) rfl ?_
        refine Wx.gyes rfl rfl (congrArg Value.bool g_23) ?_
        refine Wx.rd (v := .int .i64 (rim.size : Int)) (rd_lenS rfl Tryd.underlying9) rfl ?_
        refine Wx.gyes rfl rfl (congrArg Value.bool g_23) ?_
        refine Wx.rd (v := .bool (decide ((rim.size : Int) ≤ ((ix (0, 0) l k).2)))) (rd_geq rfl rfl) rfl ?_
        refine Wx.rd (v := .bool (decide ((rim.size : Int) ≤ ((ix (0, 0) l k).2)))) (rd_pickF (congrArg Value.bool g_23) rfl) rfl ?_
        refine Wx.nilQ (fun _ _ => ⟨(), trivial, ⟨?_, trivial⟩, Out.look rfl Out.refl⟩)
        show Value.bool (decide ((rim.size : Int) ≤ ((ix (0, 0) l k).2))) = Value.bool ((decide (((ix (0, 0) l k).1) < 0) || decide (((ix (0, 0) l k).2) ≤ ((ix (0, 0) l k).1))) || decide ((rim.size : Int) ≤ ((ix (0, 0) l k).2)))
        first | rw [g_23, Bool.false_or] | (rw [g_23]; rfl)
    rintro ⟨⟩ u_27 -
    refine Wx.rd (v := .bool ((decide (((ix (0, 0) l k).1) < 0) || decide (((ix (0, 0) l k).2) ≤ ((ix (0, 0) l k).1))) || decide ((rim.size : Int) ≤ ((ix (0, 0) l k).2)))) (rd_move rfl) rfl ?_
    refine Wx.cutQ (X := Unit) 5 [36, 37, 38, 39, 40] (fun _ => [(40, .bool (((decide (((ix (0, 0) l k).1) < 0) || decide (((ix (0, 0) l k).2) ≤ ((ix (0, 0) l k).1))) || decide ((rim.size : Int) ≤ ((ix (0, 0) l k).2))) || mget false m ((ix (0, 0) l k).1)))]) (fun _ => True) ?_ ?_
    · rcases Bool.eq_false_or_eq_true ((decide (((ix (0, 0) l k).1) < 0) || decide (((ix (0, 0) l k).2) ≤ ((ix (0, 0) l k).1))) || decide ((rim.size : Int) ≤ ((ix (0, 0) l k).2))) with g_28 | g_28
      · -- True
        have gp_29 := g_28
        try simp only [Bool.and_eq_true, Bool.or_eq_true, Bool.not_eq_true', Bool.and_eq_false_iff, Bool.or_eq_false_iff, Bool.not_eq_false', decide_eq_true_eq, decide_eq_false_iff_not, not_or, Bool.false_eq_true, Bool.true_eq_false, false_or, or_false, not_false_eq_true] at gp_29
        refine Wx.gnoB rfl rfl (congrArg Value.bool g_28) rfl rfl ?_
        refine Wx.gnoB rfl rfl (congrArg Value.bool g_28) rfl rfl ?_
        refine Wx.gnoB rfl rfl (congrArg Value.bool g_28) rfl rfl ?_
        refine Wx.gnoB rfl rfl (congrArg Value.bool g_28) rfl rfl ?_
        refine Wx.rd (v := .bool true) (rd_pickT (congrArg Value.bool g_28) rfl) rfl ?_
        refine Wx.nilQ (fun _ _ => ⟨(), trivial, ⟨?_, trivial⟩, Out.look rfl Out.refl⟩)
        show Value.bool true = Value.bool (((decide (((ix (0, 0) l k).1) < 0) || decide (((ix (0, 0) l k).2) ≤ ((ix (0, 0) l k).1))) || decide ((rim.size : Int) ≤ ((ix (0, 0) l k).2))) || mget false m ((ix (0, 0) l k).1))
        first | rw [g_28, Bool.true_or] | (rw [g_28]; rfl)
      · -- False
        have gp_30 := g_28
        try simp only [Bool.and_eq_true, Bool.or_eq_true, Bool.not_eq_true', Bool.and_eq_false_iff, Bool.or_eq_false_iff, Bool.not_eq_false', decide_eq_true_eq, decide_eq_false_iff_not, not_or, Bool.false_eq_true, Bool.true_eq_false, false_or, or_false, not_false_eq_true] at gp_30
        refine Wx.gyes rfl rfl (congrArg Value.bool g_28) ?_
        refine Wx.rd (v := .map (some g_2)) (rd_move rfl) rfl ?_
        refine Wx.gyes rfl rfl (congrArg Value.bool g_28) ?_
        refine Wx.rd (v := .pointer (some ⟨g_12, 0, none⟩)) (rd_indexArr (n := 0) rfl rfl Tryd.underlying58 Tryd.sizeOf3 (by decide) (by decide)) rfl ?_
        refine Wx.gyes rfl rfl (congrArg Value.bool g_28) ?_
        refine Wx.rd (v := .int .i64 ((ix (0, 0) l k).1)) (rd_loadX hS 0 rfl rfl rfl Tryd.isAgg3) rfl ?_
        refine Wx.gyes rfl rfl (congrArg Value.bool g_28) ?_
        refine Wx.rd (v := .bool (mget false m ((ix (0, 0) l k).1))) (rd_lookup (m := m) (zv := false) (k := ((ix (0, 0) l k).1)) (f := (Value.int .i64)) (g := Value.bool) hS 1 rfl rfl rfl Tryd.underlying72 (KeyD.int Tryd.underlying3) (fun _ => Tryd.zeroValue4 _)) rfl ?_
        refine Wx.rd (v := .bool (mget false m ((ix (0, 0) l k).1))) (rd_pickF (congrArg Value.bool g_28) rfl) rfl ?_
        refine Wx.nilQ (fun _ _ => ⟨(), trivial, ⟨?_, trivial⟩, Out.look rfl Out.refl⟩)
        show Value.bool (mget false m ((ix (0, 0) l k).1)) = Value.bool (((decide (((ix (0, 0) l k).1) < 0) || decide (((ix (0, 0) l k).2) ≤ ((ix (0, 0) l k).1))) || decide ((rim.size : Int) ≤ ((ix (0, 0) l k).2))) || mget false m ((ix (0, 0) l k).1))
        first | rw [g_28, Bool.false_or] | (rw [g_28]; rfl)
    rintro ⟨⟩ u_33 -
    refine Wx.rd (v := .bool (((decide (((ix (0, 0) l k).1) < 0) || decide (((ix (0, 0) l k).2) ≤ ((ix (0, 0) l k).1))) || decide ((rim.size : Int) ≤ ((ix (0, 0) l k).2))) || mget false m ((ix (0, 0) l k).1))) (rd_move rfl) rfl ?_
    refine Wx.cutQ (X := Unit) 5 [42, 43, 44, 45, 46] (fun _ => [(46, .bool ((((decide (((ix (0, 0) l k).1) < 0) || decide (((ix (0, 0) l k).2) ≤ ((ix (0, 0) l k).1))) || decide ((rim.size : Int) ≤ ((ix (0, 0) l k).2))) || mget false m ((ix (0, 0) l k).1)) || mget false m ((ix (0, 0) l k).2)))]) (fun _ => True) ?_ ?_
    · rcases Bool.eq_false_or_eq_true (((decide (((ix (0, 0) l k).1) < 0) || decide (((ix (0, 0) l k).2) ≤ ((ix (0, 0) l k).1))) || decide ((rim.size : Int) ≤ ((ix (0, 0) l k).2))) || mget false m ((ix (0, 0) l k).1)) with g_34 | g_34
      · -- True
        have gp_35 := g_34
        try simp only [Bool.and_eq_true, Bool.or_eq_true, Bool.not_eq_true', Bool.and_eq_false_iff, Bool.or_eq_false_iff, Bool.not_eq_false', decide_eq_true_eq, decide_eq_false_iff_not, not_or, Bool.false_eq_true, Bool.true_eq_false, false_or, or_false, not_false_eq_true] at gp_35
        refine Wx.gnoB rfl rfl (congrArg Value.bool g_34) rfl rfl ?_
        refine Wx.gnoB rfl rfl (congrArg Value.bool g_34) rfl rfl ?_
        refine Wx.gnoB rfl rfl (congrArg Value.bool g_34) rfl rfl ?_
        refine Wx.gnoB rfl rfl (congrArg Value.bool g_34) rfl rfl ?_
        refine Wx.rd (v := .bool true) (rd_pickT (congrArg Value.bool g_34) rfl) rfl ?_
        refine Wx.nilQ (fun _ _ => ⟨(), trivial, ⟨?_, trivial⟩, Out.look rfl Out.refl⟩)
        show Value.bool true = Value.bool ((((decide (((ix (0, 0) l k).1) < 0) || decide (((ix (0, 0) l k).2) ≤ ((ix (0, 0) l k).1))) || decide ((rim.size : Int) ≤ ((ix (0, 0) l k).2))) || mget false m ((ix (0, 0) l k).1)) || mget false m ((ix (0, 0) l k).2))
        first | rw [g_34, Bool.true_or] | (rw [g_34]; rfl)
      · -- False
        have gp_36 := g_34
        try simp only [Bool.and_eq_true, Bool.or_eq_true, Bool.not_eq_true', Bool.and_eq_false_iff, Bool.or_eq_false_iff, Bool.not_eq_false', decide_eq_true_eq, decide_eq_false_iff_not, not_or, Bool.false_eq_true, Bool.true_eq_false, false_or, or_false, not_false_eq_true] at gp_36
        refine Wx.gyes rfl rfl (congrArg Value.bool g_34) ?_
        refine Wx.rd (v := .map (some g_2)) (rd_move rfl) rfl ?_
        refine Wx.gyes rfl rfl (congrArg Value.bool g_34) ?_
        refine Wx.rd (v := .pointer (some ⟨g_12, 1, none⟩)) (rd_indexArr (n := 1) rfl rfl Tryd.underlying58 Tryd.sizeOf3 (by decide) (by decide)) rfl ?_
        refine Wx.gyes rfl rfl (congrArg Value.bool g_34) ?_
        refine Wx.rd (v := .int .i64 ((ix (0, 0) l k).2)) (rd_loadX hS 0 rfl rfl rfl Tryd.isAgg3) rfl ?_
        refine Wx.gyes rfl rfl (congrArg Value.bool g_34) ?_
        refine Wx.rd (v := .bool (mget false m ((ix (0, 0) l k).2))) (rd_lookup (m := m) (zv := false) (k := ((ix (0, 0) l k).2)) (f := (Value.int .i64)) (g := Value.bool) hS 1 rfl rfl rfl Tryd.underlying72 (KeyD.int Tryd.underlying3) (fun _ => Tryd.zeroValue4 _)) rfl ?_
        refine Wx.rd (v := .bool (mget false m ((ix (0, 0) l k).2))) (rd_pickF (congrArg Value.bool g_34) rfl) rfl ?_
        refine Wx.nilQ (fun _ _ => ⟨(), trivial, ⟨?_, trivial⟩, Out.look rfl Out.refl⟩)
        show Value.bool (mget false m ((ix (0, 0) l k).2)) = Value.bool ((((decide (((ix (0, 0) l k).1) < 0) || decide (((ix (0, 0) l k).2) ≤ ((ix (0, 0) l k).1))) || decide ((rim.size : Int) ≤ ((ix (0, 0) l k).2))) || mget false m ((ix (0, 0) l k).1)) || mget false m ((ix (0, 0) l k).2))
        first | rw [g_34, Bool.false_or] | (rw [g_34]; rfl)
    rintro ⟨⟩ u_39 -
    refine Wx.rd (v := .bool ((((decide (((ix (0, 0) l k).1) < 0) || decide (((ix (0, 0) l k).2) ≤ ((ix (0, 0) l k).1))) || decide ((rim.size : Int) ≤ ((ix (0, 0) l k).2))) || mget false m ((ix (0, 0) l k).1)) || mget false m ((ix (0, 0) l k).2))) (rd_move rfl) rfl ?_
    refine Wx.cutQ (X := Unit) 11 [48, 49, 50, 51, 52, 53, 54, 55, 56, 57, 58] (fun _ => [(58, .bool (((((decide (((ix (0, 0) l k).1) < 0) || decide (((ix (0, 0) l k).2) ≤ ((ix (0, 0) l k).1))) || decide ((rim.size : Int) ≤ ((ix (0, 0) l k).2))) || mget false m ((ix (0, 0) l k).1)) || mget false m ((ix (0, 0) l k).2)) || !(fitC (tabAt rim ((ix (0, 0) l k).1)) (tabAt rim ((ix (0, 0) l k).2)))))]) (fun _ => True) ?_ ?_
    · rcases Bool.eq_false_or_eq_true ((((decide (((ix (0, 0) l k).1) < 0) || decide (((ix (0, 0) l k).2) ≤ ((ix (0, 0) l k).1))) || decide ((rim.size : Int) ≤ ((ix (0, 0) l k).2))) || mget false m ((ix (0, 0) l k).1)) || mget false m ((ix (0, 0) l k).2)) with g_40 | g_40
      · -- True
        have gp_41 := g_40
        try simp only [Bool.and_eq_true, Bool.or_eq_true, Bool.not_eq_true', Bool.and_eq_false_iff, Bool.or_eq_false_iff, Bool.not_eq_false', decide_eq_true_eq, decide_eq_false_iff_not, not_or, Bool.false_eq_true, Bool.true_eq_false, false_or, or_false, not_false_eq_true] at gp_41
        refine Wx.gnoB rfl rfl (congrArg Value.bool g_40) rfl rfl ?_
        refine Wx.gnoB rfl rfl (congrArg Value.bool g_40) rfl rfl ?_
        refine Wx.gnoB rfl rfl (congrArg Value.bool g_40) rfl rfl ?_
        refine Wx.gnoB rfl rfl (congrArg Value.bool g_40) rfl rfl ?_
        refine Wx.gnoB rfl rfl (congrArg Value.bool g_40) rfl rfl ?_
        refine Wx.gnoB rfl rfl (congrArg Value.bool g_40) rfl rfl ?_
        refine Wx.gnoB rfl rfl (congrArg Value.bool g_40) rfl rfl ?_
        refine Wx.gnoB rfl rfl (congrArg Value.bool g_40) rfl rfl ?_
        refine Wx.gnoB rfl rfl (congrArg Value.bool g_40) rfl rfl ?_
        refine Wx.gnoB rfl rfl (congrArg Value.bool g_40) rfl rfl ?_
        refine Wx.rd (v := .bool true) (rd_pickT (congrArg Value.bool g_40) rfl) rfl ?_
        refine Wx.nilQ (fun _ _ => ⟨(), trivial, ⟨?_, trivial⟩, Out.look rfl Out.refl⟩)
        show Value.bool true = Value.bool (((((decide (((ix (0, 0) l k).1) < 0) || decide (((ix (0, 0) l k).2) ≤ ((ix (0, 0) l k).1))) || decide ((rim.size : Int) ≤ ((ix (0, 0) l k).2))) || mget false m ((ix (0, 0) l k).1)) || mget false m ((ix (0, 0) l k).2)) || !(fitC (tabAt rim ((ix (0, 0) l k).1)) (tabAt rim ((ix (0, 0) l k).2))))
        first | rw [g_40, Bool.true_or] | (rw [g_40]; rfl)
      · -- False
        have gp_42 := g_40
        try simp only [Bool.and_eq_true, Bool.or_eq_true, Bool.not_eq_true', Bool.and_eq_false_iff, Bool.or_eq_false_iff, Bool.not_eq_false', decide_eq_true_eq, decide_eq_false_iff_not, not_or, Bool.false_eq_true, Bool.true_eq_false, false_or, or_false, not_false_eq_true] at gp_42
        refine Wx.gyes rfl rfl (congrArg Value.bool g_40) ?_
        refine Wx.rd (v := .string rim) (rd_move rfl) rfl ?_
        refine Wx.gyes rfl rfl (congrArg Value.bool g_40) ?_
        refine Wx.rd (v := .pointer (some ⟨g_12, 0, none⟩)) (rd_indexArr (n := 0) rfl rfl Tryd.underlying58 Tryd.sizeOf3 (by decide) (by decide)) rfl ?_
        refine Wx.gyes rfl rfl (congrArg Value.bool g_40) ?_
        refine Wx.rd (v := .int .i64 ((ix (0, 0) l k).1)) (rd_loadX hS 0 rfl rfl rfl Tryd.isAgg3) rfl ?_
        refine Wx.gyes rfl rfl (congrArg Value.bool g_40) ?_
        refine Wx.rd (v := .int .u8 (tabAt rim ((ix (0, 0) l k).1))) (rd_indexS' (by kernel_rfl) rfl Tryd.underlying9 (by omega) (by omega)) rfl ?_
        have bd_43 := tabAt_bd rim ((ix (0, 0) l k).1)
        refine Wx.gyes rfl rfl (congrArg Value.bool g_40) ?_
        refine Wx.rd (v := .string rim) (rd_move rfl) rfl ?_
        refine Wx.gyes rfl rfl (congrArg Value.bool g_40) ?_
        refine Wx.rd (v := .pointer (some ⟨g_12, 1, none⟩)) (rd_indexArr (n := 1) rfl rfl Tryd.underlying58 Tryd.sizeOf3 (by decide) (by decide)) rfl ?_
        refine Wx.gyes rfl rfl (congrArg Value.bool g_40) ?_
        refine Wx.rd (v := .int .i64 ((ix (0, 0) l k).2)) (rd_loadX hS 0 rfl rfl rfl Tryd.isAgg3) rfl ?_
        refine Wx.gyes rfl rfl (congrArg Value.bool g_40) ?_
        refine Wx.rd (v := .int .u8 (tabAt rim ((ix (0, 0) l k).2))) (rd_indexS' (by kernel_rfl) rfl Tryd.underlying9 (by omega) (by omega)) rfl ?_
        have bd_44 := tabAt_bd rim ((ix (0, 0) l k).2)
        refine Wx.gyes rfl rfl (congrArg Value.bool g_40) ?_
        refine Wx.callV (v := .bool (fitC (tabAt rim ((ix (0, 0) l k).1)) (tabAt rim ((ix (0, 0) l k).2)))) (run_callF Tryd.call58 rfl) (fun w_45 hw_46 => (F58 (in_u8 (by omega) (by omega)) (in_u8 (by omega) (by omega)))) rfl ?_
        refine Wx.gyes rfl rfl (congrArg Value.bool g_40) ?_
        refine Wx.rd (v := .bool (!(fitC (tabAt rim ((ix (0, 0) l k).1)) (tabAt rim ((ix (0, 0) l k).2))))) (rd_not rfl) rfl ?_
        refine Wx.rd (v := .bool (!(fitC (tabAt rim ((ix (0, 0) l k).1)) (tabAt rim ((ix (0, 0) l k).2))))) (rd_pickF (congrArg Value.bool g_40) rfl) rfl ?_
        refine Wx.nilQ (fun _ _ => ⟨(), trivial, ⟨?_, trivial⟩, Out.look rfl Out.refl⟩)
        show Value.bool (!(fitC (tabAt rim ((ix (0, 0) l k).1)) (tabAt rim ((ix (0, 0) l k).2)))) = Value.bool (((((decide (((ix (0, 0) l k).1) < 0) || decide (((ix (0, 0) l k).2) ≤ ((ix (0, 0) l k).1))) || decide ((rim.size : Int) ≤ ((ix (0, 0) l k).2))) || mget false m ((ix (0, 0) l k).1)) || mget false m ((ix (0, 0) l k).2)) || !(fitC (tabAt rim ((ix (0, 0) l k).1)) (tabAt rim ((ix (0, 0) l k).2))))
        first | rw [g_40, Bool.false_or] | (rw [g_40]; rfl)
    rintro ⟨⟩ u_48 -
    refine Wx.rd (v := .bool (((((decide (((ix (0, 0) l k).1) < 0) || decide (((ix (0, 0) l k).2) ≤ ((ix (0, 0) l k).1))) || decide ((rim.size : Int) ≤ ((ix (0, 0) l k).2))) || mget false m ((ix (0, 0) l k).1)) || mget false m ((ix (0, 0) l k).2)) || !(fitC (tabAt rim ((ix (0, 0) l k).1)) (tabAt rim ((ix (0, 0) l k).2))))) (rd_move rfl) rfl ?_
    refine Wx.cutQ (X := Unit) 14 [60, 61, 62, 63, 64, 65, 66, 67, 68, 69, 70, 71, 72, 73] (fun _ => [(73, .bool ((((((decide (((ix (0, 0) l k).1) < 0) || decide (((ix (0, 0) l k).2) ≤ ((ix (0, 0) l k).1))) || decide ((rim.size : Int) ≤ ((ix (0, 0) l k).2))) || mget false m ((ix (0, 0) l k).1)) || mget false m ((ix (0, 0) l k).2)) || !(fitC (tabAt rim ((ix (0, 0) l k).1)) (tabAt rim ((ix (0, 0) l k).2)))) || (decide (0 < k) && decide (((ix (0, 0) l k).1) < ((ix (0, 0) l (k - 1)).1)))))]) (fun _ => True) ?_ ?_
    · rcases Bool.eq_false_or_eq_true (((((decide (((ix (0, 0) l k).1) < 0) || decide (((ix (0, 0) l k).2) ≤ ((ix (0, 0) l k).1))) || decide ((rim.size : Int) ≤ ((ix (0, 0) l k).2))) || mget false m ((ix (0, 0) l k).1)) || mget false m ((ix (0, 0) l k).2)) || !(fitC (tabAt rim ((ix (0, 0) l k).1)) (tabAt rim ((ix (0, 0) l k).2)))) with g_49 | g_49
      · -- True
        have gp_50 := g_49
        try simp only [Bool.and_eq_true, Bool.or_eq_true, Bool.not_eq_true', Bool.and_eq_false_iff, Bool.or_eq_false_iff, Bool.not_eq_false', decide_eq_true_eq, decide_eq_false_iff_not, not_or, Bool.false_eq_true, Bool.true_eq_false, false_or, or_false, not_false_eq_true] at gp_50
        refine Wx.gnoB rfl rfl (congrArg Value.bool g_49) rfl rfl ?_
        refine Wx.gnoB rfl rfl (congrArg Value.bool g_49) rfl rfl ?_
        refine Wx.gnoB rfl rfl (congrArg Value.bool g_49) rfl rfl ?_
        refine Wx.gno rfl rfl rfl rfl ?_
        refine Wx.gno rfl rfl rfl rfl ?_
        refine Wx.gno rfl rfl rfl rfl ?_
        refine Wx.gno rfl rfl rfl rfl ?_
        refine Wx.gno rfl rfl rfl rfl ?_
        refine Wx.gno rfl rfl rfl rfl ?_
        refine Wx.gno rfl rfl rfl rfl ?_
        refine Wx.gno rfl rfl rfl rfl ?_
        refine Wx.gno rfl rfl rfl rfl ?_
        refine Wx.gnoB rfl rfl (congrArg Value.bool g_49) rfl rfl ?_
        refine Wx.rd (v := .bool true) (rd_pickT (congrArg Value.bool g_49) rfl) rfl ?_
        refine Wx.nilQ (fun _ _ => ⟨(), trivial, ⟨?_, trivial⟩, Out.look rfl Out.refl⟩)
        show Value.bool true = Value.bool ((((((decide (((ix (0, 0) l k).1) < 0) || decide (((ix (0, 0) l k).2) ≤ ((ix (0, 0) l k).1))) || decide ((rim.size : Int) ≤ ((ix (0, 0) l k).2))) || mget false m ((ix (0, 0) l k).1)) || mget false m ((ix (0, 0) l k).2)) || !(fitC (tabAt rim ((ix (0, 0) l k).1)) (tabAt rim ((ix (0, 0) l k).2)))) || (decide (0 < k) && decide (((ix (0, 0) l k).1) < ((ix (0, 0) l (k - 1)).1))))
        first | rw [g_49, Bool.true_or] | (rw [g_49]; rfl)
      · -- False
        have gp_51 := g_49
        try simp only [Bool.and_eq_true, Bool.or_eq_true, Bool.not_eq_true', Bool.and_eq_false_iff, Bool.or_eq_false_iff, Bool.not_eq_false', decide_eq_true_eq, decide_eq_false_iff_not, not_or, Bool.false_eq_true, Bool.true_eq_false, false_or, or_false, not_false_eq_true] at gp_51
        refine Wx.gyes rfl rfl (congrArg Value.bool g_49) ?_
        refine Wx.rd (v := .int .i64 k) (rd_move rfl) rfl ?_
        refine Wx.gyes rfl rfl (congrArg Value.bool g_49) ?_
        refine Wx.rd (v := .bool (decide (0 < k))) (rd_gtr rfl rfl) rfl ?_
        refine Wx.gyes rfl rfl (congrArg Value.bool g_49) ?_
        refine Wx.rd (v := .bool (decide (0 < k))) (rd_move rfl) rfl ?_
        refine Wx.cutQ (X := Unit) 10 [63, 64, 65, 66, 67, 68, 69, 70, 71, 72] (fun _ => [(72, .bool (decide (0 < k) && decide (((ix (0, 0) l k).1) < ((ix (0, 0) l (k - 1)).1))))]) (fun _ => True) ?_ ?_
        · rcases Bool.eq_false_or_eq_true (decide (0 < k)) with g_52 | g_52
          · -- True
            have gp_53 := of_decide_eq_true g_52
            refine Wx.gyes rfl rfl (congrArg Value.bool g_52) ?_
            refine Wx.rd (v := .pointer (some ⟨g_12, 0, none⟩)) (rd_indexArr (n := 0) rfl rfl Tryd.underlying58 Tryd.sizeOf3 (by decide) (by decide)) rfl ?_
            refine Wx.gyes rfl rfl (congrArg Value.bool g_52) ?_
            refine Wx.rd (v := .int .i64 ((ix (0, 0) l k).1)) (rd_loadX hS 0 rfl rfl rfl Tryd.isAgg3) rfl ?_
            refine Wx.gyes rfl rfl (congrArg Value.bool g_52) ?_
            refine Wx.rd (v := lv) (rd_move rfl) rfl ?_
            refine Wx.gyes rfl rfl (congrArg Value.bool g_52) ?_
            refine Wx.rd (v := .int .i64 k) (rd_move rfl) rfl ?_
            refine Wx.gyes rfl rfl (congrArg Value.bool g_52) ?_
            refine Wx.rd (v := .int .i64 (k - 1)) (rd_sub rfl rfl (in_i64 (by omega) (by omega))) rfl ?_
            refine Wx.gyes rfl rfl (congrArg Value.bool g_52) ?_
            refine Wx.ex (rd_index (0, 0) (hS.arg a_lv) rfl rfl Tryd.underlying22 Tryd.sizeOf58 (by first | omega | (simp only [List.length_set, List.length_append, List.length_cons, List.length_nil, List.length_replicate]; omega)) (by first | omega | (simp only [List.length_set, List.length_append, List.length_cons, List.length_nil, List.length_replicate]; omega))) rfl (fun p_54 hp_55 => ?_)
            refine Wx.gyes rfl rfl (congrArg Value.bool g_52) ?_
            refine Wx.ex (rd_indexE1 hp_55 rfl rfl Tryd.underlying58 (by decide) Tryd.sizeOf3) rfl (fun p_56 hp_57 => ?_)
            refine Wx.gyes rfl rfl (congrArg Value.bool g_52) ?_
            refine Wx.rd (v := .int .i64 ((ix (0, 0) l (k - 1)).1)) (rd_loadI hp_57 rfl Tryd.isAgg3 Tryd.sizeOf3) rfl ?_
            have bd_58 := bd_i64 hp_57.inK
            refine Wx.gyes rfl rfl (congrArg Value.bool g_52) ?_
            refine Wx.rd (v := .bool (decide (((ix (0, 0) l k).1) < ((ix (0, 0) l (k - 1)).1)))) (rd_lss rfl rfl) rfl ?_
            refine Wx.gyes rfl rfl (congrArg Value.bool g_49) ?_
            refine Wx.rd (v := .bool (decide (((ix (0, 0) l k).1) < ((ix (0, 0) l (k - 1)).1)))) (rd_pickT (congrArg Value.bool g_52) rfl) rfl ?_
            refine Wx.nilQ (fun _ _ => ⟨(), trivial, ⟨?_, trivial⟩, Out.look rfl Out.refl⟩)
            show Value.bool (decide (((ix (0, 0) l k).1) < ((ix (0, 0) l (k - 1)).1))) = Value.bool (decide (0 < k) && decide (((ix (0, 0) l k).1) < ((ix (0, 0) l (k - 1)).1)))
            first | rw [g_52, Bool.true_and] | (rw [g_52]; rfl)
          · -- False
            have gp_59 := of_decide_eq_false g_52
            refine Wx.gnoB rfl rfl (congrArg Value.bool g_52) rfl rfl ?_
            refine Wx.gnoB rfl rfl (congrArg Value.bool g_52) rfl rfl ?_
            refine Wx.gnoB rfl rfl (congrArg Value.bool g_52) rfl rfl ?_
            refine Wx.gnoB rfl rfl (congrArg Value.bool g_52) rfl rfl ?_
            refine Wx.gnoB rfl rfl (congrArg Value.bool g_52) rfl rfl ?_
            refine Wx.gnoB rfl rfl (congrArg Value.bool g_52) rfl rfl ?_
            refine Wx.gnoB rfl rfl (congrArg Value.bool g_52) rfl rfl ?_
            refine Wx.gnoB rfl rfl (congrArg Value.bool g_52) rfl rfl ?_
            refine Wx.gnoB rfl rfl (congrArg Value.bool g_52) rfl rfl ?_
            refine Wx.gyes rfl rfl (congrArg Value.bool g_49) ?_
            refine Wx.rd (v := .bool false) (rd_pickF (congrArg Value.bool g_52) rfl) rfl ?_
            refine Wx.nilQ (fun _ _ => ⟨(), trivial, ⟨?_, trivial⟩, Out.look rfl Out.refl⟩)
            show Value.bool false = Value.bool (decide (0 < k) && decide (((ix (0, 0) l k).1) < ((ix (0, 0) l (k - 1)).1)))
            first | rw [g_52, Bool.false_and] | (rw [g_52]; rfl)
        rintro ⟨⟩ u_61 -
        refine Wx.rd (v := .bool (decide (0 < k) && decide (((ix (0, 0) l k).1) < ((ix (0, 0) l (k - 1)).1)))) (rd_pickF (congrArg Value.bool g_49) rfl) rfl ?_
        refine Wx.nilQ (fun _ _ => ⟨(), trivial, ⟨?_, trivial⟩, Out.look rfl (Out.hav rfl (Out.look rfl Out.refl))⟩)
        show Value.bool (decide (0 < k) && decide (((ix (0, 0) l k).1) < ((ix (0, 0) l (k - 1)).1))) = Value.bool ((((((decide (((ix (0, 0) l k).1) < 0) || decide (((ix (0, 0) l k).2) ≤ ((ix (0, 0) l k).1))) || decide ((rim.size : Int) ≤ ((ix (0, 0) l k).2))) || mget false m ((ix (0, 0) l k).1)) || mget false m ((ix (0, 0) l k).2)) || !(fitC (tabAt rim ((ix (0, 0) l k).1)) (tabAt rim ((ix (0, 0) l k).2)))) || (decide (0 < k) && decide (((ix (0, 0) l k).1) < ((ix (0, 0) l (k - 1)).1))))
        first | rw [g_49, Bool.false_or] | (rw [g_49]; rfl)
    rintro ⟨⟩ u_63 -
    refine Wx.nilQ (fun w_64 hx_65 => ?_)
    have hS := hS.ext hx_65
    refine W.cond rfl (fun c1 => ?_) (fun c1 => ?_)
    · -- yes
      try simp only [Bool.and_eq_true, Bool.or_eq_true, Bool.not_eq_true', Bool.and_eq_false_iff, Bool.or_eq_false_iff, Bool.not_eq_false', decide_eq_true_eq, decide_eq_false_iff_not, not_or, Bool.false_eq_true, Bool.true_eq_false, false_or, or_false, not_false_eq_true] at c1
      refine W.seq ?_
      refine W.reg ?_
      refine Wx.rd (v := .bool false) (rd_assign rfl) rfl ?_
      refine Wx.nil ?_
      have hbad : badX rim (List.take k.toNat l) (ix (0, 0) l k) ≠ 0 := fun hz => by obtain ⟨⟨z1, z2, z3⟩, z4, z5, z6, z7, z8⟩ := badX_zero.1 hz; rw [h3, h3] at c1; rcases c1 with (((((c | c) | c) | c) | c) | c) | c; omega; omega; omega; (rw [c] at z4; cases z4); (rw [c] at z5; cases z5); (have z9 := z6.symm.trans c; cases z9); (rw [lastI_take c.1 (by omega)] at z8; exact z8 c.2)
      have e0_0 : (soundB rim l) = false := by exact sound_bad h0 c0 h2 hbad
      exact W.ret ⟨.bool false, ResIs.one, hS.bel, (by rw [e0_0])⟩
    · -- no
      try simp only [Bool.and_eq_true, Bool.or_eq_true, Bool.not_eq_true', Bool.and_eq_false_iff, Bool.or_eq_false_iff, Bool.not_eq_false', decide_eq_true_eq, decide_eq_false_iff_not, not_or, Bool.false_eq_true, Bool.true_eq_false, false_or, or_false, not_false_eq_true] at c1
      obtain ⟨⟨⟨⟨⟨⟨d1, d2⟩, d3⟩, d4⟩, d5⟩, d6⟩, d7⟩ := c1
      rw [h3] at d4 d5
      have hlast : ¬ (ix (0, 0) l k).1 < lastI (List.take k.toNat l) := lastI_no h0 (by omega) (by omega) d7
      refine W.skip ?_
      refine W.seq ?_
      refine W.seq ?_
      refine W.reg ?_
      refine Wx.rd (v := lv) (rd_move rfl) rfl ?_
      refine Wx.rd (v := .int .i64 k) (rd_move rfl) rfl ?_
      refine Wx.ex (rd_sliceH (hS.arg a_lv) Tryd.underlying22 Tryd.sizeOf58 rfl rfl (by omega) (by omega)) rfl (fun u_66 hu_67 => ?_)
      have ln_68 := hu_67.len63
      have hS := hS.add hu_67
      refine Wx.rd (v := .int .i64 ((l.take k.toNat).length : Int)) (rd_lenV rfl (hS.v 0 rfl) Tryd.underlying22) rfl ?_
      refine Wx.rd (v := .int .i64 0) (rd_move rfl) rfl ?_
      refine Wx.nil ?_
      refine W.block ?_
      refine W.loop [4, 9, 78, 79, 80, 81, 82, 83, 84, 85] (fun (j : Int) => [(78, .int .i64 j)]) (fun (j : Int) w' => St w [] w' [Ob.v (tSl (tP (tI .i64) (tI .i64))) (l.take k.toNat) u_66, .box g_12 58 [.int .i64 ((ix (0, 0) l k).1), .int .i64 ((ix (0, 0) l k).2)], .raw g_2 (.map (mE (Value.int .i64) Value.bool m 0).toArray m.length)] ∧ 0 ≤ j ∧ j ≤ (List.take k.toNat l).length ∧ crossesB ((List.take k.toNat l).drop j.toNat) (ix (0, 0) l k) = crossesB (List.take k.toNat l) (ix (0, 0) l k)) (fun (j : Int) => ((List.take k.toNat l).length - j).toNat) 0 ⟨rfl, trivial⟩ ⟨hS, (by first | omega | simp), (by first | omega | simp), (rfl)⟩ ?_
      rintro j u_71 w_70 ⟨hS, g0, g1, g2⟩
      refine W.seq ?_
      refine W.reg ?_
      refine Wx.rd (v := .bool (decide (j < ((l.take k.toNat).length : Int)))) (rd_lss rfl rfl) rfl ?_
      refine Wx.nil ?_
      refine W.seq ?_
      refine W.condD rfl (fun c2 => ?_) (fun c2 => ?_)
      · -- yes
        refine W.skip ?_
        refine W.seq ?_
        refine W.block ?_
        refine W.seq ?_
        refine W.reg ?_
        refine Wx.ex (rd_index (0, 0) (hS.v 0 rfl) rfl rfl Tryd.underlying22 Tryd.sizeOf58 (by first | omega | (simp only [List.length_set, List.length_append, List.length_cons, List.length_nil, List.length_replicate]; omega)) (by first | omega | (simp only [List.length_set, List.length_append, List.length_cons, List.length_nil, List.length_replicate]; omega))) rfl (fun p_72 hp_73 => ?_)
        refine Wx.ex (rd_load hp_73 rfl Tryd.isAgg58 Tryd.sizeOf58) rfl (fun v_74 hv_75 => ?_)
        obtain ⟨rfl, bd_76, bd_77⟩ := hv_75.i2
        have bd_76 := bd_i64 bd_76
        have bd_77 := bd_i64 bd_77
        refine Wx.alloc (cs := [.int .i64 0, .int .i64 0]) hS Tryd.zeroValue58 rfl rfl (fun g_78 w_79 hx_81 hb_80 hS => ?_)
        refine Wx.storeX (cs' := [.int .i64 ((ix (0, 0) (l.take k.toNat) j).1), .int .i64 ((ix (0, 0) (l.take k.toNat) j).2)]) (ds := [.int .i64 ((ix (0, 0) (l.take k.toNat) j).1), .int .i64 ((ix (0, 0) (l.take k.toNat) j).2)]) hS 0 rfl rfl rfl rfl Tryd.sizeOf58 (Nat.le_of_ble_eq_true rfl) (one_cons rfl (one_cons rfl one_nil)) rfl (fun w_82 hz_83 hS => ?_)
        refine Wx.nil ?_
        refine W.seq ?_
        refine W.reg ?_
        refine Wx.rd (v := .agg #[.int .i64 ((ix (0, 0) l k).1), .int .i64 ((ix (0, 0) l k).2)]) (rd_loadXs (ds := [.int .i64 ((ix (0, 0) l k).1), .int .i64 ((ix (0, 0) l k).2)]) hS 2 rfl rfl rfl rfl Tryd.isAgg58 Tryd.sizeOf58) rfl ?_
        refine Wx.rd (v := .agg #[.int .i64 ((ix (0, 0) (l.take k.toNat) j).1), .int .i64 ((ix (0, 0) (l.take k.toNat) j).2)]) (rd_loadXs (ds := [.int .i64 ((ix (0, 0) (l.take k.toNat) j).1), .int .i64 ((ix (0, 0) (l.take k.toNat) j).2)]) hS 0 rfl rfl rfl rfl Tryd.isAgg58 Tryd.sizeOf58) rfl ?_
        refine Wx.callF (run_callF Tryd.call89 rfl) (F89 (in_i64 (by omega) (by omega)) (in_i64 (by omega) (by omega)) (in_i64 (by omega) (by omega)) (in_i64 (by omega) (by omega))) rfl ?_
        rintro r_84 w_85 hx_86 rfl
        have hS := hS.ext hx_86
        refine Wx.nil ?_
        refine W.cond rfl (fun c3 => ?_) (fun c3 => ?_)
        · -- yes
          try simp only [Bool.and_eq_true, Bool.or_eq_true, Bool.not_eq_true', Bool.and_eq_false_iff, Bool.or_eq_false_iff, Bool.not_eq_false', decide_eq_true_eq, decide_eq_false_iff_not, not_or, Bool.false_eq_true, Bool.true_eq_false, false_or, or_false, not_false_eq_true] at c3
          refine W.seq ?_
          refine W.reg ?_
          refine Wx.rd (v := .bool false) (rd_assign rfl) rfl ?_
          refine Wx.nil ?_
          have e1_0 : (soundB rim l) = false := by exact sound_bad h0 c0 h2 (fun hz => by have z7 := (badX_zero.1 hz).2.2.2.2.1; rw [crossesB_yes g0 c2 g2 c3] at z7; cases z7)
          exact W.ret ⟨.bool false, ResIs.one, hS.bel, (by rw [e1_0])⟩
        · -- no
          try simp only [Bool.and_eq_true, Bool.or_eq_true, Bool.not_eq_true', Bool.and_eq_false_iff, Bool.or_eq_false_iff, Bool.not_eq_false', decide_eq_true_eq, decide_eq_false_iff_not, not_or, Bool.false_eq_true, Bool.true_eq_false, false_or, or_false, not_false_eq_true] at c3
          refine W.skip ?_
          refine W.reg ?_
          refine Wx.rd (v := .int .i64 (j + 1)) (rd_add rfl rfl (in_i64 (by omega) (by omega))) rfl ?_
          refine Wx.rd (v := .int .i64 (j + 1)) (rd_move rfl) rfl ?_
          refine Wx.nil ?_
          refine ⟨j + 1, (by show ((List.take k.toNat l).length - (j + 1)).toNat < ((List.take k.toNat l).length - j).toNat; omega), ?_, ?_, Out.look rfl Out.self⟩
          · exact ⟨hS.tl, (by first | omega | assumption), (by first | omega | assumption), (crossesB_no g0 c2 g2 c3)⟩
          · exact ⟨rfl, trivial⟩
      · -- no
        refine W.exit rfl ?_
        refine W.regP mixedHy_ (fun w_87 hx_88 => ?_)
        have hS := hS.ext hx_88
        refine Wp.rd (v := .map (some g_2)) 0 rfl (by kernel_rfl) (fun _ => (rd_move rfl)) rfl ?_
        refine Wp.rd (v := .map (some g_2)) 3 rfl (by kernel_rfl) (fun _ => (rd_move rfl)) rfl ?_
        refine Wp.br [1, 4] (by kernel_rfl) (by decide) ⟨⟨_, rfl, ?_⟩, ⟨_, rfl, ?_⟩, trivial⟩
        · -- operation 1
          refine Wx.rd (v := .pointer (some ⟨g_12, 0, none⟩)) (rd_indexArr (n := 0) rfl rfl Tryd.underlying58 Tryd.sizeOf3 (by decide) (by decide)) rfl ?_
          refine Wx.nil ?_
          refine Wp.br [2, 4] (by kernel_rfl) (by decide) ⟨⟨_, rfl, ?_⟩, ⟨_, rfl, ?_⟩, trivial⟩
          · -- operation 2
            refine Wx.rd (v := .int .i64 ((ix (0, 0) l k).1)) (rd_loadX hS 1 rfl rfl rfl Tryd.isAgg3) rfl ?_
            refine Wx.nil ?_
            refine Wp.br [4, 6] (by kernel_rfl) (by decide) ⟨⟨_, rfl, ?_⟩, ⟨_, rfl, ?_⟩, trivial⟩
            · -- operation 4
              refine Wx.rd (v := .pointer (some ⟨g_12, 1, none⟩)) (rd_indexArr (n := 1) rfl rfl Tryd.underlying58 Tryd.sizeOf3 (by decide) (by decide)) rfl ?_
              refine Wx.nil ?_
              refine Wp.br [5, 6] (by kernel_rfl) (by decide) ⟨⟨_, rfl, ?_⟩, ⟨_, rfl, ?_⟩, trivial⟩
              · -- operation 5
                refine Wx.rd (v := .int .i64 ((ix (0, 0) l k).2)) (rd_loadX hS 1 rfl rfl rfl Tryd.isAgg3) rfl ?_
                refine Wx.nil ?_
                refine Wp.br [6] (by kernel_rfl) (by decide) ⟨⟨_, rfl, ?_⟩, trivial⟩
                refine Wx.mapUpdate (m := m) (k := ((ix (0, 0) l k).1)) (v := true) (f := (Value.int .i64)) (g := Value.bool) hS 2 rfl rfl rfl rfl Tryd.underlying72 (KeyD.int Tryd.underlying3) (fun w_89 hz_90 hS => ?_)
                refine Wx.nil ?_
                refine Wp.br [7] (by kernel_rfl) (by decide) ⟨⟨_, rfl, ?_⟩, trivial⟩
                refine Wx.mapUpdate (m := (mput m ((ix (0, 0) l k).1) true)) (k := ((ix (0, 0) l k).2)) (v := true) (f := (Value.int .i64)) (g := Value.bool) hS 2 rfl rfl rfl rfl Tryd.underlying72 (KeyD.int Tryd.underlying3) (fun w_91 hz_92 hS => ?_)
                refine Wx.nil ?_
                refine Wp.done (by kernel_rfl) ?_
                refine W.reg ?_
                refine Wx.rd (v := .int .i64 (k + 1)) (rd_add rfl rfl (in_i64 (by omega) (by omega))) rfl ?_
                refine Wx.rd (v := .int .i64 (k + 1)) (rd_move rfl) rfl ?_
                refine Wx.nil ?_
                have hcr : crossesB (List.take k.toNat l) (ix (0, 0) l k) = false := crossesB_end (by omega) g2
                refine ⟨(k + 1, mput (mput m ((ix (0, 0) l k).1) true) ((ix (0, 0) l k).2) true), (by show (l.length - (k + 1)).toNat < (l.length - k).toNat; omega), ?_, ?_, Out.look rfl (Out.hav rfl (Out.look rfl (Out.hav rfl (Out.look rfl (Out.hav rfl (Out.look rfl (Out.hav rfl (Out.look rfl (Out.hav rfl (Out.look rfl (Out.hav rfl (Out.look rfl (Out.hav rfl (Out.look rfl Out.self))))))))))))))⟩
                · exact ⟨St.tl (hS.tl), (by first | omega | assumption), (by first | omega | assumption), (validT_next h0 c0 h2 (badX_zero.2 ⟨⟨by omega, by omega, by omega⟩, d4, d5, d6, hcr, hlast⟩)), (fun q => by rw [take_ix (d := (0, 0)) h0 c0]; exact met_step h3 q)⟩
                · exact ⟨rfl, trivial⟩
              · -- operation 6
                refine Wx.mapUpdate (m := m) (k := ((ix (0, 0) l k).1)) (v := true) (f := (Value.int .i64)) (g := Value.bool) hS 2 rfl rfl rfl rfl Tryd.underlying72 (KeyD.int Tryd.underlying3) (fun w_93 hz_94 hS => ?_)
                refine Wx.nil ?_
                refine Wp.br [5] (by kernel_rfl) (by decide) ⟨⟨_, rfl, ?_⟩, trivial⟩
                refine Wx.rd (v := .int .i64 ((ix (0, 0) l k).2)) (rd_loadX hS 1 rfl rfl rfl Tryd.isAgg3) rfl ?_
                refine Wx.nil ?_
                refine Wp.br [7] (by kernel_rfl) (by decide) ⟨⟨_, rfl, ?_⟩, trivial⟩
                refine Wx.mapUpdate (m := (mput m ((ix (0, 0) l k).1) true)) (k := ((ix (0, 0) l k).2)) (v := true) (f := (Value.int .i64)) (g := Value.bool) hS 2 rfl rfl rfl rfl Tryd.underlying72 (KeyD.int Tryd.underlying3) (fun w_95 hz_96 hS => ?_)
                refine Wx.nil ?_
                refine Wp.done (by kernel_rfl) ?_
                refine W.reg ?_
                refine Wx.rd (v := .int .i64 (k + 1)) (rd_add rfl rfl (in_i64 (by omega) (by omega))) rfl ?_
                refine Wx.rd (v := .int .i64 (k + 1)) (rd_move rfl) rfl ?_
                refine Wx.nil ?_
                have hcr : crossesB (List.take k.toNat l) (ix (0, 0) l k) = false := crossesB_end (by omega) g2
                refine ⟨(k + 1, mput (mput m ((ix (0, 0) l k).1) true) ((ix (0, 0) l k).2) true), (by show (l.length - (k + 1)).toNat < (l.length - k).toNat; omega), ?_, ?_, Out.look rfl (Out.hav rfl (Out.look rfl (Out.hav rfl (Out.look rfl (Out.hav rfl (Out.look rfl (Out.hav rfl (Out.look rfl (Out.hav rfl (Out.look rfl (Out.hav rfl (Out.look rfl (Out.hav rfl (Out.look rfl Out.self))))))))))))))⟩
                · exact ⟨St.tl (hS.tl), (by first | omega | assumption), (by first | omega | assumption), (validT_next h0 c0 h2 (badX_zero.2 ⟨⟨by omega, by omega, by omega⟩, d4, d5, d6, hcr, hlast⟩)), (fun q => by rw [take_ix (d := (0, 0)) h0 c0]; exact met_step h3 q)⟩
                · exact ⟨rfl, trivial⟩
            · -- operation 6
              refine Wx.mapUpdate (m := m) (k := ((ix (0, 0) l k).1)) (v := true) (f := (Value.int .i64)) (g := Value.bool) hS 2 rfl rfl rfl rfl Tryd.underlying72 (KeyD.int Tryd.underlying3) (fun w_97 hz_98 hS => ?_)
              refine Wx.nil ?_
              refine Wp.br [4] (by kernel_rfl) (by decide) ⟨⟨_, rfl, ?_⟩, trivial⟩
              refine Wx.rd (v := .pointer (some ⟨g_12, 1, none⟩)) (rd_indexArr (n := 1) rfl rfl Tryd.underlying58 Tryd.sizeOf3 (by decide) (by decide)) rfl ?_
              refine Wx.nil ?_
              refine Wp.br [5] (by kernel_rfl) (by decide) ⟨⟨_, rfl, ?_⟩, trivial⟩
              refine Wx.rd (v := .int .i64 ((ix (0, 0) l k).2)) (rd_loadX hS 1 rfl rfl rfl Tryd.isAgg3) rfl ?_
              refine Wx.nil ?_
              refine Wp.br [7] (by kernel_rfl) (by decide) ⟨⟨_, rfl, ?_⟩, trivial⟩
              refine Wx.mapUpdate (m := (mput m ((ix (0, 0) l k).1) true)) (k := ((ix (0, 0) l k).2)) (v := true) (f := (Value.int .i64)) (g := Value.bool) hS 2 rfl rfl rfl rfl Tryd.underlying72 (KeyD.int Tryd.underlying3) (fun w_99 hz_100 hS => ?_)
              refine Wx.nil ?_
              refine Wp.done (by kernel_rfl) ?_
              refine W.reg ?_
              refine Wx.rd (v := .int .i64 (k + 1)) (rd_add rfl rfl (in_i64 (by omega) (by omega))) rfl ?_
              refine Wx.rd (v := .int .i64 (k + 1)) (rd_move rfl) rfl ?_
              refine Wx.nil ?_
              have hcr : crossesB (List.take k.toNat l) (ix (0, 0) l k) = false := crossesB_end (by omega) g2
              refine ⟨(k + 1, mput (mput m ((ix (0, 0) l k).1) true) ((ix (0, 0) l k).2) true), (by show (l.length - (k + 1)).toNat < (l.length - k).toNat; omega), ?_, ?_, Out.look rfl (Out.hav rfl (Out.look rfl (Out.hav rfl (Out.look rfl (Out.hav rfl (Out.look rfl (Out.hav rfl (Out.look rfl (Out.hav rfl (Out.look rfl (Out.hav rfl (Out.look rfl (Out.hav rfl (Out.look rfl Out.self))))))))))))))⟩
              · exact ⟨St.tl (hS.tl), (by first | omega | assumption), (by first | omega | assumption), (validT_next h0 c0 h2 (badX_zero.2 ⟨⟨by omega, by omega, by omega⟩, d4, d5, d6, hcr, hlast⟩)), (fun q => by rw [take_ix (d := (0, 0)) h0 c0]; exact met_step h3 q)⟩
              · exact ⟨rfl, trivial⟩
          · -- operation 4
            refine Wx.rd (v := .pointer (some ⟨g_12, 1, none⟩)) (rd_indexArr (n := 1) rfl rfl Tryd.underlying58 Tryd.sizeOf3 (by decide) (by decide)) rfl ?_
            refine Wx.nil ?_
            refine Wp.br [2, 5] (by kernel_rfl) (by decide) ⟨⟨_, rfl, ?_⟩, ⟨_, rfl, ?_⟩, trivial⟩
            · -- operation 2
              refine Wx.rd (v := .int .i64 ((ix (0, 0) l k).1)) (rd_loadX hS 1 rfl rfl rfl Tryd.isAgg3) rfl ?_
              refine Wx.nil ?_
              refine Wp.br [5, 6] (by kernel_rfl) (by decide) ⟨⟨_, rfl, ?_⟩, ⟨_, rfl, ?_⟩, trivial⟩
              · -- operation 5
                refine Wx.rd (v := .int .i64 ((ix (0, 0) l k).2)) (rd_loadX hS 1 rfl rfl rfl Tryd.isAgg3) rfl ?_
                refine Wx.nil ?_
                refine Wp.br [6] (by kernel_rfl) (by decide) ⟨⟨_, rfl, ?_⟩, trivial⟩
                refine Wx.mapUpdate (m := m) (k := ((ix (0, 0) l k).1)) (v := true) (f := (Value.int .i64)) (g := Value.bool) hS 2 rfl rfl rfl rfl Tryd.underlying72 (KeyD.int Tryd.underlying3) (fun w_101 hz_102 hS => ?_)
                refine Wx.nil ?_
                refine Wp.br [7] (by kernel_rfl) (by decide) ⟨⟨_, rfl, ?_⟩, trivial⟩
                refine Wx.mapUpdate (m := (mput m ((ix (0, 0) l k).1) true)) (k := ((ix (0, 0) l k).2)) (v := true) (f := (Value.int .i64)) (g := Value.bool) hS 2 rfl rfl rfl rfl Tryd.underlying72 (KeyD.int Tryd.underlying3) (fun w_103 hz_104 hS => ?_)
                refine Wx.nil ?_
                refine Wp.done (by kernel_rfl) ?_
                refine W.reg ?_
                refine Wx.rd (v := .int .i64 (k + 1)) (rd_add rfl rfl (in_i64 (by omega) (by omega))) rfl ?_
                refine Wx.rd (v := .int .i64 (k + 1)) (rd_move rfl) rfl ?_
                refine Wx.nil ?_
                have hcr : crossesB (List.take k.toNat l) (ix (0, 0) l k) = false := crossesB_end (by omega) g2
                refine ⟨(k + 1, mput (mput m ((ix (0, 0) l k).1) true) ((ix (0, 0) l k).2) true), (by show (l.length - (k + 1)).toNat < (l.length - k).toNat; omega), ?_, ?_, Out.look rfl (Out.hav rfl (Out.look rfl (Out.hav rfl (Out.look rfl (Out.hav rfl (Out.look rfl (Out.hav rfl (Out.look rfl (Out.hav rfl (Out.look rfl (Out.hav rfl (Out.look rfl (Out.hav rfl (Out.look rfl Out.self))))))))))))))⟩
                · exact ⟨St.tl (hS.tl), (by first | omega | assumption), (by first | omega | assumption), (validT_next h0 c0 h2 (badX_zero.2 ⟨⟨by omega, by omega, by omega⟩, d4, d5, d6, hcr, hlast⟩)), (fun q => by rw [take_ix (d := (0, 0)) h0 c0]; exact met_step h3 q)⟩
                · exact ⟨rfl, trivial⟩
              · -- operation 6
                refine Wx.mapUpdate (m := m) (k := ((ix (0, 0) l k).1)) (v := true) (f := (Value.int .i64)) (g := Value.bool) hS 2 rfl rfl rfl rfl Tryd.underlying72 (KeyD.int Tryd.underlying3) (fun w_105 hz_106 hS => ?_)
                refine Wx.nil ?_
                refine Wp.br [5] (by kernel_rfl) (by decide) ⟨⟨_, rfl, ?_⟩, trivial⟩
                refine Wx.rd (v := .int .i64 ((ix (0, 0) l k).2)) (rd_loadX hS 1 rfl rfl rfl Tryd.isAgg3) rfl ?_
                refine Wx.nil ?_
                refine Wp.br [7] (by kernel_rfl) (by decide) ⟨⟨_, rfl, ?_⟩, trivial⟩
                refine Wx.mapUpdate (m := (mput m ((ix (0, 0) l k).1) true)) (k := ((ix (0, 0) l k).2)) (v := true) (f := (Value.int .i64)) (g := Value.bool) hS 2 rfl rfl rfl rfl Tryd.underlying72 (KeyD.int Tryd.underlying3) (fun w_107 hz_108 hS => ?_)
                refine Wx.nil ?_
                refine Wp.done (by kernel_rfl) ?_
                refine W.reg ?_
                refine Wx.rd (v := .int .i64 (k + 1)) (rd_add rfl rfl (in_i64 (by omega) (by omega))) rfl ?_
                refine Wx.rd (v := .int .i64 (k + 1)) (rd_move rfl) rfl ?_
                refine Wx.nil ?_
                have hcr : crossesB (List.take k.toNat l) (ix (0, 0) l k) = false := crossesB_end (by omega) g2
                refine ⟨(k + 1, mput (mput m ((ix (0, 0) l k).1) true) ((ix (0, 0) l k).2) true), (by show (l.length - (k + 1)).toNat < (l.length - k).toNat; omega), ?_, ?_, Out.look rfl (Out.hav rfl (Out.look rfl (Out.hav rfl (Out.look rfl (Out.hav rfl (Out.look rfl (Out.hav rfl (Out.look rfl (Out.hav rfl (Out.look rfl (Out.hav rfl (Out.look rfl (Out.hav rfl (Out.look rfl Out.self))))))))))))))⟩
                · exact ⟨St.tl (hS.tl), (by first | omega | assumption), (by first | omega | assumption), (validT_next h0 c0 h2 (badX_zero.2 ⟨⟨by omega, by omega, by omega⟩, d4, d5, d6, hcr, hlast⟩)), (fun q => by rw [take_ix (d := (0, 0)) h0 c0]; exact met_step h3 q)⟩
                · exact ⟨rfl, trivial⟩
            · -- operation 5
              refine Wx.rd (v := .int .i64 ((ix (0, 0) l k).2)) (rd_loadX hS 1 rfl rfl rfl Tryd.isAgg3) rfl ?_
              refine Wx.nil ?_
              refine Wp.br [2] (by kernel_rfl) (by decide) ⟨⟨_, rfl, ?_⟩, trivial⟩
              refine Wx.rd (v := .int .i64 ((ix (0, 0) l k).1)) (rd_loadX hS 1 rfl rfl rfl Tryd.isAgg3) rfl ?_
              refine Wx.nil ?_
              refine Wp.br [6] (by kernel_rfl) (by decide) ⟨⟨_, rfl, ?_⟩, trivial⟩
              refine Wx.mapUpdate (m := m) (k := ((ix (0, 0) l k).1)) (v := true) (f := (Value.int .i64)) (g := Value.bool) hS 2 rfl rfl rfl rfl Tryd.underlying72 (KeyD.int Tryd.underlying3) (fun w_109 hz_110 hS => ?_)
              refine Wx.nil ?_
              refine Wp.br [7] (by kernel_rfl) (by decide) ⟨⟨_, rfl, ?_⟩, trivial⟩
              refine Wx.mapUpdate (m := (mput m ((ix (0, 0) l k).1) true)) (k := ((ix (0, 0) l k).2)) (v := true) (f := (Value.int .i64)) (g := Value.bool) hS 2 rfl rfl rfl rfl Tryd.underlying72 (KeyD.int Tryd.underlying3) (fun w_111 hz_112 hS => ?_)
              refine Wx.nil ?_
              refine Wp.done (by kernel_rfl) ?_
              refine W.reg ?_
              refine Wx.rd (v := .int .i64 (k + 1)) (rd_add rfl rfl (in_i64 (by omega) (by omega))) rfl ?_
              refine Wx.rd (v := .int .i64 (k + 1)) (rd_move rfl) rfl ?_
              refine Wx.nil ?_
              have hcr : crossesB (List.take k.toNat l) (ix (0, 0) l k) = false := crossesB_end (by omega) g2
              refine ⟨(k + 1, mput (mput m ((ix (0, 0) l k).1) true) ((ix (0, 0) l k).2) true), (by show (l.length - (k + 1)).toNat < (l.length - k).toNat; omega), ?_, ?_, Out.look rfl (Out.hav rfl (Out.look rfl (Out.hav rfl (Out.look rfl (Out.hav rfl (Out.look rfl (Out.hav rfl (Out.look rfl (Out.hav rfl (Out.look rfl (Out.hav rfl (Out.look rfl (Out.hav rfl (Out.look rfl Out.self))))))))))))))⟩
              · exact ⟨St.tl (hS.tl), (by first | omega | assumption), (by first | omega | assumption), (validT_next h0 c0 h2 (badX_zero.2 ⟨⟨by omega, by omega, by omega⟩, d4, d5, d6, hcr, hlast⟩)), (fun q => by rw [take_ix (d := (0, 0)) h0 c0]; exact met_step h3 q)⟩
              · exact ⟨rfl, trivial⟩
        · -- operation 4
          refine Wx.rd (v := .pointer (some ⟨g_12, 1, none⟩)) (rd_indexArr (n := 1) rfl rfl Tryd.underlying58 Tryd.sizeOf3 (by decide) (by decide)) rfl ?_
          refine Wx.nil ?_
          refine Wp.br [1, 5] (by kernel_rfl) (by decide) ⟨⟨_, rfl, ?_⟩, ⟨_, rfl, ?_⟩, trivial⟩
          · -- operation 1
            refine Wx.rd (v := .pointer (some ⟨g_12, 0, none⟩)) (rd_indexArr (n := 0) rfl rfl Tryd.underlying58 Tryd.sizeOf3 (by decide) (by decide)) rfl ?_
            refine Wx.nil ?_
            refine Wp.br [2, 5] (by kernel_rfl) (by decide) ⟨⟨_, rfl, ?_⟩, ⟨_, rfl, ?_⟩, trivial⟩
            · -- operation 2
              refine Wx.rd (v := .int .i64 ((ix (0, 0) l k).1)) (rd_loadX hS 1 rfl rfl rfl Tryd.isAgg3) rfl ?_
              refine Wx.nil ?_
              refine Wp.br [5, 6] (by kernel_rfl) (by decide) ⟨⟨_, rfl, ?_⟩, ⟨_, rfl, ?_⟩, trivial⟩
              · -- operation 5
                refine Wx.rd (v := .int .i64 ((ix (0, 0) l k).2)) (rd_loadX hS 1 rfl rfl rfl Tryd.isAgg3) rfl ?_
                refine Wx.nil ?_
                refine Wp.br [6] (by kernel_rfl) (by decide) ⟨⟨_, rfl, ?_⟩, trivial⟩
                refine Wx.mapUpdate (m := m) (k := ((ix (0, 0) l k).1)) (v := true) (f := (Value.int .i64)) (g := Value.bool) hS 2 rfl rfl rfl rfl Tryd.underlying72 (KeyD.int Tryd.underlying3) (fun w_113 hz_114 hS => ?_)
                refine Wx.nil ?_
                refine Wp.br [7] (by kernel_rfl) (by decide) ⟨⟨_, rfl, ?_⟩, trivial⟩
                refine Wx.mapUpdate (m := (mput m ((ix (0, 0) l k).1) true)) (k := ((ix (0, 0) l k).2)) (v := true) (f := (Value.int .i64)) (g := Value.bool) hS 2 rfl rfl rfl rfl Tryd.underlying72 (KeyD.int Tryd.underlying3) (fun w_115 hz_116 hS => ?_)
                refine Wx.nil ?_
                refine Wp.done (by kernel_rfl) ?_
                refine W.reg ?_
                refine Wx.rd (v := .int .i64 (k + 1)) (rd_add rfl rfl (in_i64 (by omega) (by omega))) rfl ?_
                refine Wx.rd (v := .int .i64 (k + 1)) (rd_move rfl) rfl ?_
                refine Wx.nil ?_
                have hcr : crossesB (List.take k.toNat l) (ix (0, 0) l k) = false := crossesB_end (by omega) g2
                refine ⟨(k + 1, mput (mput m ((ix (0, 0) l k).1) true) ((ix (0, 0) l k).2) true), (by show (l.length - (k + 1)).toNat < (l.length - k).toNat; omega), ?_, ?_, Out.look rfl (Out.hav rfl (Out.look rfl (Out.hav rfl (Out.look rfl (Out.hav rfl (Out.look rfl (Out.hav rfl (Out.look rfl (Out.hav rfl (Out.look rfl (Out.hav rfl (Out.look rfl (Out.hav rfl (Out.look rfl Out.self))))))))))))))⟩
                · exact ⟨St.tl (hS.tl), (by first | omega | assumption), (by first | omega | assumption), (validT_next h0 c0 h2 (badX_zero.2 ⟨⟨by omega, by omega, by omega⟩, d4, d5, d6, hcr, hlast⟩)), (fun q => by rw [take_ix (d := (0, 0)) h0 c0]; exact met_step h3 q)⟩
                · exact ⟨rfl, trivial⟩
              · -- operation 6
                refine Wx.mapUpdate (m := m) (k := ((ix (0, 0) l k).1)) (v := true) (f := (Value.int .i64)) (g := Value.bool) hS 2 rfl rfl rfl rfl Tryd.underlying72 (KeyD.int Tryd.underlying3) (fun w_117 hz_118 hS => ?_)
                refine Wx.nil ?_
                refine Wp.br [5] (by kernel_rfl) (by decide) ⟨⟨_, rfl, ?_⟩, trivial⟩
                refine Wx.rd (v := .int .i64 ((ix (0, 0) l k).2)) (rd_loadX hS 1 rfl rfl rfl Tryd.isAgg3) rfl ?_
                refine Wx.nil ?_
                refine Wp.br [7] (by kernel_rfl) (by decide) ⟨⟨_, rfl, ?_⟩, trivial⟩
                refine Wx.mapUpdate (m := (mput m ((ix (0, 0) l k).1) true)) (k := ((ix (0, 0) l k).2)) (v := true) (f := (Value.int .i64)) (g := Value.bool) hS 2 rfl rfl rfl rfl Tryd.underlying72 (KeyD.int Tryd.underlying3) (fun w_119 hz_120 hS => ?_)
                refine Wx.nil ?_
                refine Wp.done (by kernel_rfl) ?_
                refine W.reg ?_
                refine Wx.rd (v := .int .i64 (k + 1)) (rd_add rfl rfl (in_i64 (by omega) (by omega))) rfl ?_
                refine Wx.rd (v := .int .i64 (k + 1)) (rd_move rfl) rfl ?_
                refine Wx.nil ?_
                have hcr : crossesB (List.take k.toNat l) (ix (0, 0) l k) = false := crossesB_end (by omega) g2
                refine ⟨(k + 1, mput (mput m ((ix (0, 0) l k).1) true) ((ix (0, 0) l k).2) true), (by show (l.length - (k + 1)).toNat < (l.length - k).toNat; omega), ?_, ?_, Out.look rfl (Out.hav rfl (Out.look rfl (Out.hav rfl (Out.look rfl (Out.hav rfl (Out.look rfl (Out.hav rfl (Out.look rfl (Out.hav rfl (Out.look rfl (Out.hav rfl (Out.look rfl (Out.hav rfl (Out.look rfl Out.self))))))))))))))⟩
                · exact ⟨St.tl (hS.tl), (by first | omega | assumption), (by first | omega | assumption), (validT_next h0 c0 h2 (badX_zero.2 ⟨⟨by omega, by omega, by omega⟩, d4, d5, d6, hcr, hlast⟩)), (fun q => by rw [take_ix (d := (0, 0)) h0 c0]; exact met_step h3 q)⟩
                · exact ⟨rfl, trivial⟩
            · -- operation 5
              refine Wx.rd (v := .int .i64 ((ix (0, 0) l k).2)) (rd_loadX hS 1 rfl rfl rfl Tryd.isAgg3) rfl ?_
              refine Wx.nil ?_
              refine Wp.br [2] (by kernel_rfl) (by decide) ⟨⟨_, rfl, ?_⟩, trivial⟩
              refine Wx.rd (v := .int .i64 ((ix (0, 0) l k).1)) (rd_loadX hS 1 rfl rfl rfl Tryd.isAgg3) rfl ?_
              refine Wx.nil ?_
              refine Wp.br [6] (by kernel_rfl) (by decide) ⟨⟨_, rfl, ?_⟩, trivial⟩
              refine Wx.mapUpdate (m := m) (k := ((ix (0, 0) l k).1)) (v := true) (f := (Value.int .i64)) (g := Value.bool) hS 2 rfl rfl rfl rfl Tryd.underlying72 (KeyD.int Tryd.underlying3) (fun w_121 hz_122 hS => ?_)
              refine Wx.nil ?_
              refine Wp.br [7] (by kernel_rfl) (by decide) ⟨⟨_, rfl, ?_⟩, trivial⟩
              refine Wx.mapUpdate (m := (mput m ((ix (0, 0) l k).1) true)) (k := ((ix (0, 0) l k).2)) (v := true) (f := (Value.int .i64)) (g := Value.bool) hS 2 rfl rfl rfl rfl Tryd.underlying72 (KeyD.int Tryd.underlying3) (fun w_123 hz_124 hS => ?_)
              refine Wx.nil ?_
              refine Wp.done (by kernel_rfl) ?_
              refine W.reg ?_
              refine Wx.rd (v := .int .i64 (k + 1)) (rd_add rfl rfl (in_i64 (by omega) (by omega))) rfl ?_
              refine Wx.rd (v := .int .i64 (k + 1)) (rd_move rfl) rfl ?_
              refine Wx.nil ?_
              have hcr : crossesB (List.take k.toNat l) (ix (0, 0) l k) = false := crossesB_end (by omega) g2
              refine ⟨(k + 1, mput (mput m ((ix (0, 0) l k).1) true) ((ix (0, 0) l k).2) true), (by show (l.length - (k + 1)).toNat < (l.length - k).toNat; omega), ?_, ?_, Out.look rfl (Out.hav rfl (Out.look rfl (Out.hav rfl (Out.look rfl (Out.hav rfl (Out.look rfl (Out.hav rfl (Out.look rfl (Out.hav rfl (Out.look rfl (Out.hav rfl (Out.look rfl (Out.hav rfl (Out.look rfl Out.self))))))))))))))⟩
              · exact ⟨St.tl (hS.tl), (by first | omega | assumption), (by first | omega | assumption), (validT_next h0 c0 h2 (badX_zero.2 ⟨⟨by omega, by omega, by omega⟩, d4, d5, d6, hcr, hlast⟩)), (fun q => by rw [take_ix (d := (0, 0)) h0 c0]; exact met_step h3 q)⟩
              · exact ⟨rfl, trivial⟩
          · -- operation 5
            refine Wx.rd (v := .int .i64 ((ix (0, 0) l k).2)) (rd_loadX hS 1 rfl rfl rfl Tryd.isAgg3) rfl ?_
            refine Wx.nil ?_
            refine Wp.br [1] (by kernel_rfl) (by decide) ⟨⟨_, rfl, ?_⟩, trivial⟩
            refine Wx.rd (v := .pointer (some ⟨g_12, 0, none⟩)) (rd_indexArr (n := 0) rfl rfl Tryd.underlying58 Tryd.sizeOf3 (by decide) (by decide)) rfl ?_
            refine Wx.nil ?_
            refine Wp.br [2] (by kernel_rfl) (by decide) ⟨⟨_, rfl, ?_⟩, trivial⟩
            refine Wx.rd (v := .int .i64 ((ix (0, 0) l k).1)) (rd_loadX hS 1 rfl rfl rfl Tryd.isAgg3) rfl ?_
            refine Wx.nil ?_
            refine Wp.br [6] (by kernel_rfl) (by decide) ⟨⟨_, rfl, ?_⟩, trivial⟩
            refine Wx.mapUpdate (m := m) (k := ((ix (0, 0) l k).1)) (v := true) (f := (Value.int .i64)) (g := Value.bool) hS 2 rfl rfl rfl rfl Tryd.underlying72 (KeyD.int Tryd.underlying3) (fun w_125 hz_126 hS => ?_)
            refine Wx.nil ?_
            refine Wp.br [7] (by kernel_rfl) (by decide) ⟨⟨_, rfl, ?_⟩, trivial⟩
            refine Wx.mapUpdate (m := (mput m ((ix (0, 0) l k).1) true)) (k := ((ix (0, 0) l k).2)) (v := true) (f := (Value.int .i64)) (g := Value.bool) hS 2 rfl rfl rfl rfl Tryd.underlying72 (KeyD.int Tryd.underlying3) (fun w_127 hz_128 hS => ?_)
            refine Wx.nil ?_
            refine Wp.done (by kernel_rfl) ?_
            refine W.reg ?_
            refine Wx.rd (v := .int .i64 (k + 1)) (rd_add rfl rfl (in_i64 (by omega) (by omega))) rfl ?_
            refine Wx.rd (v := .int .i64 (k + 1)) (rd_move rfl) rfl ?_
            refine Wx.nil ?_
            have hcr : crossesB (List.take k.toNat l) (ix (0, 0) l k) = false := crossesB_end (by omega) g2
            refine ⟨(k + 1, mput (mput m ((ix (0, 0) l k).1) true) ((ix (0, 0) l k).2) true), (by show (l.length - (k + 1)).toNat < (l.length - k).toNat; omega), ?_, ?_, Out.look rfl (Out.hav rfl (Out.look rfl (Out.hav rfl (Out.look rfl (Out.hav rfl (Out.look rfl (Out.hav rfl (Out.look rfl (Out.hav rfl (Out.look rfl (Out.hav rfl (Out.look rfl (Out.hav rfl (Out.look rfl Out.self))))))))))))))⟩
            · exact ⟨St.tl (hS.tl), (by first | omega | assumption), (by first | omega | assumption), (validT_next h0 c0 h2 (badX_zero.2 ⟨⟨by omega, by omega, by omega⟩, d4, d5, d6, hcr, hlast⟩)), (fun q => by rw [take_ix (d := (0, 0)) h0 c0]; exact met_step h3 q)⟩
            · exact ⟨rfl, trivial⟩
  · -- no
    refine W.exit rfl ?_
    refine W.seq ?_
    refine W.reg ?_
    refine Wx.rd (v := .bool true) (rd_assign rfl) rfl ?_
    refine Wx.nil ?_
    have e2_0 : (soundB rim l) = true := by exact sound_end (by omega) h2
    exact W.ret ⟨.bool true, ResIs.one, hS.bel, (by rw [e2_0])⟩
end Go.Proofs.YtokdjjebnomciaaDoor

namespace Go.Proofs.YtokdjjebnomciaaDoor
open Go.Wk Go.RowKit Go.Lib
set_option linter.unusedVariables false
set_option linter.unusedSimpArgs false
theorem elHF_22 : ElemI Tryd.prog 22 58 (.agg #[.int .i64 0, .int .i64 0]) 2 16 := ElemI.of Tryd.underlying22 (by kernel_rfl) (by first | rfl | kernel_rfl) (by decide)

theorem F83  : ∀ (fuel : Nat) {rim : ByteArray} {l : List Join} {i : Int} {lv : Value} {fe : FuncId} {fs cs : List Value} {Tl : List (List Join) → List Ob → Prop} {ls : List (List Join)} {gr ge gp : Nat} {ob : List Ob} {w0 w : World} {O : List (Option Nat)} (hcall : ∀ args w, (callFunc fe args).run Tryd.prog w = .ok (.enter fe args) w) (hE : EachP Tryd.prog fe fs cs Tl) (s_rim : rim.size ≤ maxLen) (i_i : InK .i64 i) (p_12 : (rim.size : Int) ≤ 12) (p_i : i ≤ rim.size) (p_l : (l.length : Int) + rim.size - i ≤ 100) (hT : Tl ls ob) (hS : St w0 O w (.box gr 9 [.string rim] :: .box ge 63 [.func (.func fe) fs.toArray cs.toArray] :: .box gp 106 [.func (.func 83) #[] #[.pointer (some ⟨gr, 0, none⟩), .pointer (some ⟨ge, 0, none⟩), .pointer (some ⟨gp, 0, none⟩)]] :: ob)) (hv : V (tSl (tP (tI .i64) (tI .i64))) l lv (fb (.box gr 9 [.string rim] :: .box ge 63 [.func (.func fe) fs.toArray cs.toArray] :: .box gp 106 [.func (.func 83) #[] #[.pointer (some ⟨gr, 0, none⟩), .pointer (some ⟨ge, 0, none⟩), .pointer (some ⟨gp, 0, none⟩)]] :: ob) O) w) (hfuel : ((rim.size : Int) - i).toNat < fuel), Calls Tryd.prog 83 #[lv, .int .i64 i, .pointer (some ⟨gr, 0, none⟩), .pointer (some ⟨ge, 0, none⟩), .pointer (some ⟨gp, 0, none⟩)] w (Bk fun r w' => r = .tuple #[] ∧ ∃ ob', Tl (ls ++ putV rim l i) ob' ∧ St w0 O w' (.box gr 9 [.string rim] :: .box ge 63 [.func (.func fe) fs.toArray cs.toArray] :: .box gp 106 [.func (.func 83) #[] #[.pointer (some ⟨gr, 0, none⟩), .pointer (some ⟨ge, 0, none⟩), .pointer (some ⟨gp, 0, none⟩)]] :: ob')) := by
  intro fuel
  induction fuel with
  | zero => intros; omega
  | succ fuel IH =>
  intro rim l i lv fe fs cs Tl ls gr ge gp ob w0 w O hcall hE s_rim i_i p_12 p_i p_l hT hS hv hfuel
  have b_i := bd_i64 i_i
  have hS := hS.add (hv)
  have ln_2 := (hS.v 0 rfl).len63
  refine enterB Tryd.func83 rfl Tryd.ntmps83 Tryd.results83 rfl ?_
  refine W.seq ?_
  refine W.seq ?_
  refine W.reg ?_
  refine Wx.rd (v := .int .i64 i) (rd_move rfl) rfl ?_
  refine Wx.rd (v := .string rim) (rd_loadX hS 1 rfl rfl rfl Tryd.isAgg9) rfl ?_
  refine Wx.rd (v := .int .i64 (rim.size : Int)) (rd_lenS rfl Tryd.underlying9) rfl ?_
  refine Wx.rd (v := .bool (decide (i = (rim.size : Int)))) (rd_eql rfl rfl) rfl ?_
  refine Wx.nil ?_
  refine W.condD rfl (fun c0 => ?_) (fun c0 => ?_)
  · -- yes
    refine W.seq ?_
    refine W.reg ?_
    refine Wx.rd (v := (.func (.func fe) fs.toArray cs.toArray)) (rd_loadX hS 2 rfl rfl rfl Tryd.isAgg63) rfl ?_
    refine Wx.rd (v := lv) (rd_move rfl) rfl ?_
    refine Wx.callB (run_callC (fs := fs) (cs := cs) (vs := fs ++ [lv] ++ cs) hcall rfl rfl) (hE ls l lv [Ob.v (tSl (tP (tI .i64) (tI .i64))) l lv, .box gr 9 [.string rim], .box ge 63 [(.func (.func fe) fs.toArray cs.toArray)], .box gp 106 [.func (.func 83) #[] #[(.pointer (some ⟨gr, 0, none⟩)), (.pointer (some ⟨ge, 0, none⟩)), (.pointer (some ⟨gp, 0, none⟩))]]] ob w0 _ O (by omega) hT hS (hS.v 0 rfl)) rfl ?_
    rintro r_3 w_4 ⟨rfl, ob_6, hT_5, hS⟩
    have hS : St w0 O w_4 (Ob.v (tSl (tP (tI .i64) (tI .i64))) l lv :: .box gr 9 [.string rim] :: .box ge 63 [(.func (.func fe) fs.toArray cs.toArray)] :: .box gp 106 [.func (.func 83) #[] #[(.pointer (some ⟨gr, 0, none⟩)), (.pointer (some ⟨ge, 0, none⟩)), (.pointer (some ⟨gp, 0, none⟩))]] :: ob_6) := hS
    have hT := hT_5
    refine Wx.nil ?_
    exact W.ret ⟨.tuple #[], ResIs.zero, rfl, ob_6, by rw [putV_end (by omega)]; exact hT, (St.tl hS)⟩
  · -- no
    refine W.skip ?_
    refine W.seq ?_
    refine W.reg ?_
    refine Wx.rd (v := .func (.func 83) #[] #[(.pointer (some ⟨gr, 0, none⟩)), (.pointer (some ⟨ge, 0, none⟩)), (.pointer (some ⟨gp, 0, none⟩))]) (rd_loadX hS 3 rfl rfl rfl Tryd.isAgg106) rfl ?_
    refine Wx.rd (v := lv) (rd_move rfl) rfl ?_
    refine Wx.rd (v := .int .i64 i) (rd_move rfl) rfl ?_
    refine Wx.rd (v := .int .i64 (i + 1)) (rd_add rfl rfl (in_i64 (by omega) (by omega))) rfl ?_
    have hL := V.pull (pre := [Ob.v (tSl (tP (tI .i64) (tI .i64))) l lv]) (A := [.box gr 9 [.string rim], .box ge 63 [(.func (.func fe) fs.toArray cs.toArray)], .box gp 106 [.func (.func 83) #[] #[(.pointer (some ⟨gr, 0, none⟩)), (.pointer (some ⟨ge, 0, none⟩)), (.pointer (some ⟨gp, 0, none⟩))]]]) (R := ob) (hS.v 0 rfl)
    have hP := St.pull (pre := [Ob.v (tSl (tP (tI .i64) (tI .i64))) l lv]) (A := [.box gr 9 [.string rim], .box ge 63 [(.func (.func fe) fs.toArray cs.toArray)], .box gp 106 [.func (.func 83) #[] #[(.pointer (some ⟨gr, 0, none⟩)), (.pointer (some ⟨ge, 0, none⟩)), (.pointer (some ⟨gp, 0, none⟩))]]]) (R := ob) hS
    refine Wx.callB (run_callC (fs := []) (cs := [(.pointer (some ⟨gr, 0, none⟩)), (.pointer (some ⟨ge, 0, none⟩)), (.pointer (some ⟨gp, 0, none⟩))]) (vs := [lv, .int .i64 (i + 1), (.pointer (some ⟨gr, 0, none⟩)), (.pointer (some ⟨ge, 0, none⟩)), (.pointer (some ⟨gp, 0, none⟩))]) Tryd.call83 rfl rfl) (IH (l := l) (i := i + 1) (lv := lv) (ls := ls) (Tl := fun ls ob => ∃ ob', ob = [Ob.v (tSl (tP (tI .i64) (tI .i64))) l lv] ++ ob' ∧ Tl ls ob') (ob := [Ob.v (tSl (tP (tI .i64) (tI .i64))) l lv] ++ ob) hcall (eachP_pre hE [Ob.v (tSl (tP (tI .i64) (tI .i64))) l lv]) s_rim (in_i64 (by omega) (by omega)) p_12 (by omega) (by first | omega | (simp; omega)) ⟨_, rfl, hT⟩ hP hL (by omega)) rfl ?_
    rintro r_7 w_8 ⟨rfl, _, ⟨ob_10, rfl, hT_9⟩, hS⟩
    have hS : St w0 O w_8 (Ob.v (tSl (tP (tI .i64) (tI .i64))) l lv :: .box gr 9 [.string rim] :: .box ge 63 [(.func (.func fe) fs.toArray cs.toArray)] :: .box gp 106 [.func (.func 83) #[] #[(.pointer (some ⟨gr, 0, none⟩)), (.pointer (some ⟨ge, 0, none⟩)), (.pointer (some ⟨gp, 0, none⟩))]] :: ob_10) := St.pull (pre := [.box gr 9 [.string rim], .box ge 63 [(.func (.func fe) fs.toArray cs.toArray)], .box gp 106 [.func (.func 83) #[] #[(.pointer (some ⟨gr, 0, none⟩)), (.pointer (some ⟨ge, 0, none⟩)), (.pointer (some ⟨gp, 0, none⟩))]]]) (A := [Ob.v (tSl (tP (tI .i64) (tI .i64))) l lv]) (R := ob_10) hS
    have hT := hT_9
    refine Wx.nil ?_
    refine W.seq ?_
    refine W.seq ?_
    refine W.reg ?_
    refine Wx.rd (v := lv) (rd_move rfl) rfl ?_
    refine Wx.rd (v := .int .i64 (l.length : Int)) (rd_lenV rfl (hS.v 0 rfl) Tryd.underlying22) rfl ?_
    refine Wx.rd (v := .int .i64 0) (rd_move rfl) rfl ?_
    refine Wx.nil ?_
    refine W.block ?_
    refine W.loop [8, 25, 26, 27, 28, 29, 30, 31, 32, 33] (fun (k : Int) => [(25, .int .i64 k)]) (fun (k : Int) w' => St w0 O w' (Ob.v (tSl (tP (tI .i64) (tI .i64))) l lv :: .box gr 9 [.string rim] :: .box ge 63 [(.func (.func fe) fs.toArray cs.toArray)] :: .box gp 106 [.func (.func 83) #[] #[(.pointer (some ⟨gr, 0, none⟩)), (.pointer (some ⟨ge, 0, none⟩)), (.pointer (some ⟨gp, 0, none⟩))]] :: ob_10) ∧ 0 ≤ k ∧ k ≤ l.length ∧ endsB (l.drop k.toNat) i = endsB l i) (fun (k : Int) => (l.length - k).toNat) 0 ⟨rfl, trivial⟩ ⟨hS, (by first | omega | simp), (by first | omega | simp), (rfl)⟩ ?_
    rintro k u_12 w_11 ⟨hS, h0, h1, h2⟩
    refine W.seq ?_
    refine W.reg ?_
    refine Wx.rd (v := .bool (decide (k < (l.length : Int)))) (rd_lss rfl rfl) rfl ?_
    refine Wx.nil ?_
    refine W.seq ?_
    refine W.condD rfl (fun c1 => ?_) (fun c1 => ?_)
    · -- yes
      refine W.skip ?_
      refine W.seq ?_
      refine W.block ?_
      refine W.seq ?_
      refine W.reg ?_
      refine Wx.ex (rd_index (0, 0) (hS.v 0 rfl) rfl rfl Tryd.underlying22 Tryd.sizeOf58 (by first | omega | (simp only [List.length_set, List.length_append, List.length_cons, List.length_nil, List.length_replicate]; omega)) (by first | omega | (simp only [List.length_set, List.length_append, List.length_cons, List.length_nil, List.length_replicate]; omega))) rfl (fun p_13 hp_14 => ?_)
      refine Wx.ex (rd_load hp_14 rfl Tryd.isAgg58 Tryd.sizeOf58) rfl (fun v_15 hv_16 => ?_)
      obtain ⟨rfl, bd_17, bd_18⟩ := hv_16.i2
      have bd_17 := bd_i64 bd_17
      have bd_18 := bd_i64 bd_18
      refine Wx.alloc (cs := [.int .i64 0, .int .i64 0]) hS Tryd.zeroValue58 rfl rfl (fun g_19 w_20 hx_22 hb_21 hS => ?_)
      refine Wx.storeX (cs' := [.int .i64 ((ix (0, 0) l k).1), .int .i64 ((ix (0, 0) l k).2)]) (ds := [.int .i64 ((ix (0, 0) l k).1), .int .i64 ((ix (0, 0) l k).2)]) hS 0 rfl rfl rfl rfl Tryd.sizeOf58 (Nat.le_of_ble_eq_true rfl) (one_cons rfl (one_cons rfl one_nil)) rfl (fun w_23 hz_24 hS => ?_)
      refine Wx.nil ?_
      refine W.seq ?_
      refine W.reg ?_
      refine Wx.rd (v := .pointer (some ⟨g_19, 1, none⟩)) (rd_indexArr (n := 1) rfl rfl Tryd.underlying58 Tryd.sizeOf3 (by decide) (by decide)) rfl ?_
      refine Wx.rd (v := .int .i64 ((ix (0, 0) l k).2)) (rd_loadX hS 0 rfl rfl rfl Tryd.isAgg3) rfl ?_
      refine Wx.rd (v := .int .i64 i) (rd_move rfl) rfl ?_
      refine Wx.rd (v := .bool (decide (((ix (0, 0) l k).2) = i))) (rd_eql rfl rfl) rfl ?_
      refine Wx.nil ?_
      refine W.condD rfl (fun c2 => ?_) (fun c2 => ?_)
      · -- yes
        exact W.ret ⟨.tuple #[], ResIs.zero, rfl, ob_10, by rw [putV_next (by omega), if_pos (ends_yes h0 c1 h2 c2), List.append_nil]; exact hT, (St.tl (St.tl hS))⟩
      · -- no
        refine W.skip ?_
        refine W.reg ?_
        refine Wx.rd (v := .int .i64 (k + 1)) (rd_add rfl rfl (in_i64 (by omega) (by omega))) rfl ?_
        refine Wx.rd (v := .int .i64 (k + 1)) (rd_move rfl) rfl ?_
        refine Wx.nil ?_
        refine ⟨k + 1, (by show (l.length - (k + 1)).toNat < (l.length - k).toNat; omega), ?_, ?_, Out.look rfl Out.self⟩
        · exact ⟨hS.tl, (by first | omega | assumption), (by first | omega | assumption), (ends_no h0 c1 h2 c2)⟩
        · exact ⟨rfl, trivial⟩
    · -- no
      refine W.exit rfl ?_
      refine W.seq ?_
      refine W.reg ?_
      refine Wx.rd (v := .int .i64 i) (rd_move rfl) rfl ?_
      refine Wx.rd (v := .int .i64 (i + 1)) (rd_add rfl rfl (in_i64 (by omega) (by omega))) rfl ?_
      refine Wx.rd (v := .int .i64 (i + 1)) (rd_assign rfl) rfl ?_
      refine Wx.nil ?_
      refine W.block ?_
      refine W.loop [9, 10, 36, 37, 38, 39, 40, 41, 42, 43, 44, 45, 46, 47, 48, 49, 50, 51, 52, 53, 54, 55, 56, 57, 58, 59, 60] (fun x : Int × (List Ob) × (List (List Join)) => match x with | (j, ot, ms) => [(9, .int .i64 j)]) (fun (x : Int × (List Ob) × (List (List Join))) w' => match x with | (j, ot, ms) => St w0 O w' (Ob.v (tSl (tP (tI .i64) (tI .i64))) l lv :: .box gr 9 [.string rim] :: .box ge 63 [(.func (.func fe) fs.toArray cs.toArray)] :: .box gp 106 [.func (.func 83) #[] #[(.pointer (some ⟨gr, 0, none⟩)), (.pointer (some ⟨ge, 0, none⟩)), (.pointer (some ⟨gp, 0, none⟩))]] :: ot) ∧ i + 1 ≤ j ∧ j ≤ (rim.size : Int) ∧ ms ++ putQ rim l i j = (ls ++ putV rim l (i + 1)) ++ putQ rim l i (i + 1) ∧ Tl ms ot) (fun x : Int × (List Ob) × (List (List Join)) => match x with | (j, ot, ms) => ((rim.size : Int) - j).toNat) (i + 1, ob_10, ls ++ putV rim l (i + 1)) ⟨rfl, trivial⟩ ⟨hS, (by first | omega | simp), (by first | omega | simp), (rfl), (hT)⟩ ?_
      rintro ⟨j, ot, ms⟩ u_26 w_25 ⟨hS, g0, g1, g2, g3⟩
      refine W.seq ?_
      refine W.seq ?_
      refine W.reg ?_
      refine Wx.rd (v := .int .i64 j) (rd_move rfl) rfl ?_
      refine Wx.rd (v := .string rim) (rd_loadX hS 1 rfl rfl rfl Tryd.isAgg9) rfl ?_
      refine Wx.rd (v := .int .i64 (rim.size : Int)) (rd_lenS rfl Tryd.underlying9) rfl ?_
      refine Wx.rd (v := .bool (decide (j < (rim.size : Int)))) (rd_lss rfl rfl) rfl ?_
      refine Wx.nil ?_
      refine W.condD rfl (fun c3 => ?_) (fun c3 => ?_)
      · -- yes
        refine W.skip ?_
        refine W.seq ?_
        refine W.block ?_
        refine W.seq ?_
        refine W.reg ?_
        refine Wx.rd (v := lv) (rd_move rfl) rfl ?_
        refine Wx.rd (v := lv) (rd_move rfl) rfl ?_
        refine Wx.rd (v := .int .i64 (l.length : Int)) (rd_lenV rfl (hS.v 0 rfl) Tryd.underlying22) rfl ?_
        refine Wx.rd (v := lv) (rd_move rfl) rfl ?_
        refine Wx.rd (v := .int .i64 (l.length : Int)) (rd_lenV rfl (hS.v 0 rfl) Tryd.underlying22) rfl ?_
        refine Wx.ex (rd_clip (hS.v 0 rfl) Tryd.underlying22 Tryd.sizeOf58 rfl rfl rfl rfl rfl) rfl (fun u_27 hu_u_27 => ?_)
        obtain ⟨ad_29, rfl, hv_30⟩ := hu_u_27
        have hS := hS.add hv_30
        refine Wx.rd (v := .int .i64 i) (rd_move rfl) rfl ?_
        refine Wx.rd (v := .int .i64 j) (rd_move rfl) rfl ?_
        refine Wx.rd (v := .agg #[.int .i64 i, .int .i64 j]) (rd_build (vs := [(0, .int .i64 i), (1, .int .i64 j)]) rfl (by kernel_rfl)) rfl ?_
        refine Wx.lit (t := (tP (tI .i64) (tI .i64))) (ys := [(i, j)]) (vs := [.agg #[.int .i64 i, .int .i64 j]]) elHF_22 hS rfl rfl ⟨(V.mk2 (in_i64 (by omega) (by omega)) (in_i64 (by omega) (by omega))), trivial⟩ (by decide) rfl (fun v_32 w_33 hx_34 hS => ?_)
        refine Wx.appendNew elHF_22 hS rfl (hS.v 1 rfl) rfl (Src.ofR hS 0 rfl) (by simp) (by simp only [maxLen]; simp; omega) (by simp; omega) rfl (fun v_35 w_36 hz_37 hS => ?_)
        refine Wx.rd (v := v_35) (rd_assign rfl) rfl ?_
        refine Wx.nil ?_
        refine W.seq ?_
        refine W.reg ?_
        refine Wx.rd (v := .string rim) (rd_loadX hS 4 rfl rfl rfl Tryd.isAgg9) rfl ?_
        refine Wx.rd (v := v_35) (rd_move rfl) rfl ?_
        refine Wx.callF (run_callF Tryd.call57 rfl) (F57 (by first | assumption | (simp only [maxLen]; omega) | (simp only [ByteArray.size_extract, ByteArray.size_append, maxLen] at *; omega) | decide) (hS.lend 0 rfl) (by omega) (by simp; omega)) rfl ?_
        rintro r_38 w_39 hx_40 rfl
        have hS := hS.ext hx_40
        refine Wx.nil ?_
        refine W.cond rfl (fun c4 => ?_) (fun c4 => ?_)
        · -- yes
          try simp only [Bool.and_eq_true, Bool.or_eq_true, Bool.not_eq_true', Bool.and_eq_false_iff, Bool.or_eq_false_iff, Bool.not_eq_false', decide_eq_true_eq, decide_eq_false_iff_not, not_or, Bool.false_eq_true, Bool.true_eq_false, false_or, or_false, not_false_eq_true] at c4
          refine W.reg ?_
          refine Wx.rd (v := .func (.func 83) #[] #[(.pointer (some ⟨gr, 0, none⟩)), (.pointer (some ⟨ge, 0, none⟩)), (.pointer (some ⟨gp, 0, none⟩))]) (rd_loadX hS 6 rfl rfl rfl Tryd.isAgg106) rfl ?_
          refine Wx.rd (v := v_35) (rd_move rfl) rfl ?_
          refine Wx.rd (v := .int .i64 i) (rd_move rfl) rfl ?_
          refine Wx.rd (v := .int .i64 (i + 1)) (rd_add rfl rfl (in_i64 (by omega) (by omega))) rfl ?_
          have hS := hS.freeze 0 rfl
          have hL := V.pull (pre := [Ob.v (tSl (tP (tI .i64) (tI .i64))) (l ++ [(i, j)]) v_35, .row (tP (tI .i64) (tI .i64)) 58 v_32 [(i, j)], Ob.v (tSl (tP (tI .i64) (tI .i64))) l (.slice ad_29 l.length l.length), Ob.v (tSl (tP (tI .i64) (tI .i64))) l lv]) (A := [.box gr 9 [.string rim], .box ge 63 [(.func (.func fe) fs.toArray cs.toArray)], .box gp 106 [.func (.func 83) #[] #[(.pointer (some ⟨gr, 0, none⟩)), (.pointer (some ⟨ge, 0, none⟩)), (.pointer (some ⟨gp, 0, none⟩))]]]) (R := ot) (hS.v 0 rfl)
          have hP := St.pull (pre := [Ob.v (tSl (tP (tI .i64) (tI .i64))) (l ++ [(i, j)]) v_35, .row (tP (tI .i64) (tI .i64)) 58 v_32 [(i, j)], Ob.v (tSl (tP (tI .i64) (tI .i64))) l (.slice ad_29 l.length l.length), Ob.v (tSl (tP (tI .i64) (tI .i64))) l lv]) (A := [.box gr 9 [.string rim], .box ge 63 [(.func (.func fe) fs.toArray cs.toArray)], .box gp 106 [.func (.func 83) #[] #[(.pointer (some ⟨gr, 0, none⟩)), (.pointer (some ⟨ge, 0, none⟩)), (.pointer (some ⟨gp, 0, none⟩))]]]) (R := ot) hS
          refine Wx.callB (run_callC (fs := []) (cs := [(.pointer (some ⟨gr, 0, none⟩)), (.pointer (some ⟨ge, 0, none⟩)), (.pointer (some ⟨gp, 0, none⟩))]) (vs := [v_35, .int .i64 (i + 1), (.pointer (some ⟨gr, 0, none⟩)), (.pointer (some ⟨ge, 0, none⟩)), (.pointer (some ⟨gp, 0, none⟩))]) Tryd.call83 rfl rfl) (IH (l := (l ++ [(i, j)])) (i := i + 1) (lv := v_35) (ls := ms) (Tl := fun ls ob => ∃ ob', ob = [Ob.v (tSl (tP (tI .i64) (tI .i64))) (l ++ [(i, j)]) v_35, .row (tP (tI .i64) (tI .i64)) 58 v_32 [(i, j)], Ob.v (tSl (tP (tI .i64) (tI .i64))) l (.slice ad_29 l.length l.length), Ob.v (tSl (tP (tI .i64) (tI .i64))) l lv] ++ ob' ∧ Tl ls ob') (ob := [Ob.v (tSl (tP (tI .i64) (tI .i64))) (l ++ [(i, j)]) v_35, .row (tP (tI .i64) (tI .i64)) 58 v_32 [(i, j)], Ob.v (tSl (tP (tI .i64) (tI .i64))) l (.slice ad_29 l.length l.length), Ob.v (tSl (tP (tI .i64) (tI .i64))) l lv] ++ ot) hcall (eachP_pre hE [Ob.v (tSl (tP (tI .i64) (tI .i64))) (l ++ [(i, j)]) v_35, .row (tP (tI .i64) (tI .i64)) 58 v_32 [(i, j)], Ob.v (tSl (tP (tI .i64) (tI .i64))) l (.slice ad_29 l.length l.length), Ob.v (tSl (tP (tI .i64) (tI .i64))) l lv]) s_rim (in_i64 (by omega) (by omega)) p_12 (by omega) (by first | omega | (simp; omega)) ⟨_, rfl, g3⟩ hP hL (by omega)) rfl ?_
          rintro r_42 w_43 ⟨rfl, _, ⟨ob_45, rfl, hT_44⟩, hS⟩
          have hS : St w0 O w_43 (Ob.v (tSl (tP (tI .i64) (tI .i64))) (l ++ [(i, j)]) v_35 :: .row (tP (tI .i64) (tI .i64)) 58 v_32 [(i, j)] :: Ob.v (tSl (tP (tI .i64) (tI .i64))) l (.slice ad_29 l.length l.length) :: Ob.v (tSl (tP (tI .i64) (tI .i64))) l lv :: .box gr 9 [.string rim] :: .box ge 63 [(.func (.func fe) fs.toArray cs.toArray)] :: .box gp 106 [.func (.func 83) #[] #[(.pointer (some ⟨gr, 0, none⟩)), (.pointer (some ⟨ge, 0, none⟩)), (.pointer (some ⟨gp, 0, none⟩))]] :: ob_45) := St.pull (pre := [.box gr 9 [.string rim], .box ge 63 [(.func (.func fe) fs.toArray cs.toArray)], .box gp 106 [.func (.func 83) #[] #[(.pointer (some ⟨gr, 0, none⟩)), (.pointer (some ⟨ge, 0, none⟩)), (.pointer (some ⟨gp, 0, none⟩))]]]) (A := [Ob.v (tSl (tP (tI .i64) (tI .i64))) (l ++ [(i, j)]) v_35, .row (tP (tI .i64) (tI .i64)) 58 v_32 [(i, j)], Ob.v (tSl (tP (tI .i64) (tI .i64))) l (.slice ad_29 l.length l.length), Ob.v (tSl (tP (tI .i64) (tI .i64))) l lv]) (R := ob_45) hS
          have hT := hT_44
          refine Wx.nil ?_
          refine W.reg ?_
          refine Wx.rd (v := .int .i64 j) (rd_move rfl) rfl ?_
          refine Wx.rd (v := .int .i64 (j + 1)) (rd_add rfl rfl (in_i64 (by omega) (by omega))) rfl ?_
          refine Wx.rd (v := .int .i64 (j + 1)) (rd_assign rfl) rfl ?_
          refine Wx.nil ?_
          refine ⟨(j + 1, ob_45, ms ++ putV rim (l ++ [(i, j)]) (i + 1)), (by show ((rim.size : Int) - (j + 1)).toNat < ((rim.size : Int) - j).toNat; omega), ?_, ?_, Out.look rfl Out.self⟩
          · exact ⟨St.tl (St.tl (hS.tl)), (by first | omega | assumption), (by first | omega | assumption), (by rw [← g2, putQ_next c3]; first | (rw [if_pos c4, List.append_assoc]) | rw [if_neg (by rw [c4]; decide), List.nil_append]), (by first | exact hT | exact g3)⟩
          · exact ⟨rfl, trivial⟩
        · -- no
          try simp only [Bool.and_eq_true, Bool.or_eq_true, Bool.not_eq_true', Bool.and_eq_false_iff, Bool.or_eq_false_iff, Bool.not_eq_false', decide_eq_true_eq, decide_eq_false_iff_not, not_or, Bool.false_eq_true, Bool.true_eq_false, false_or, or_false, not_false_eq_true] at c4
          refine W.skip ?_
          refine W.reg ?_
          refine Wx.rd (v := .int .i64 j) (rd_move rfl) rfl ?_
          refine Wx.rd (v := .int .i64 (j + 1)) (rd_add rfl rfl (in_i64 (by omega) (by omega))) rfl ?_
          refine Wx.rd (v := .int .i64 (j + 1)) (rd_assign rfl) rfl ?_
          refine Wx.nil ?_
          refine ⟨(j + 1, ot, ms), (by show ((rim.size : Int) - (j + 1)).toNat < ((rim.size : Int) - j).toNat; omega), ?_, ?_, Out.look rfl Out.self⟩
          · exact ⟨St.tl (St.tl (hS.tl)), (by first | omega | assumption), (by first | omega | assumption), (by rw [← g2, putQ_next c3]; first | (rw [if_pos c4, List.append_assoc]) | rw [if_neg (by rw [c4]; decide), List.nil_append]), (by first | exact hT | exact g3)⟩
          · exact ⟨rfl, trivial⟩
      · -- no
        refine W.exit rfl ?_
        exact ⟨.tuple #[], ResIs.zero, rfl, ot, by rw [putV_next (by omega), if_neg (by rw [ends_end (by omega) h2]; decide), ← List.append_assoc, ← g2, putQ_end (by omega), List.append_nil]; exact g3, (St.tl hS)⟩

theorem F49 {rim : ByteArray} {fe : FuncId} {fs cs : List Value} {Tl : List (List Join) → List Ob → Prop} {ls : List (List Join)} {ob : List Ob} {w0 w : World} {O : List (Option Nat)} (hcall : ∀ args w, (callFunc fe args).run Tryd.prog w = .ok (.enter fe args) w) (hE : EachP Tryd.prog fe fs cs Tl) (s_rim : rim.size ≤ maxLen) (p_12 : (rim.size : Int) ≤ 12) (hT : Tl ls ob) (hS : St w0 O w ob) : Calls Tryd.prog 49 #[.string rim, .func (.func fe) fs.toArray cs.toArray] w (Bk fun r w' => r = .tuple #[] ∧ ∃ ob', Tl (ls ++ putV rim [] 0) ob' ∧ St w0 O w' ob') := by
  refine enterB Tryd.func49 rfl Tryd.ntmps49 Tryd.results49 rfl ?_
  refine W.seq ?_
  refine W.reg ?_
  refine Wx.box (cs := [.string rim]) hS rfl rfl rfl (fun g_1 w_2 hx_4 hb_3 hS => ?_)
  refine Wx.box (cs := [(.func (.func fe) fs.toArray cs.toArray)]) hS rfl rfl rfl (fun g_5 w_6 hx_8 hb_7 hS => ?_)
  refine Wx.nil ?_
  refine W.seq ?_
  refine W.reg ?_
  refine Wx.alloc (cs := [.nilFunc]) hS Tryd.zeroValue106 rfl rfl (fun g_9 w_10 hx_12 hb_11 hS => ?_)
  refine Wx.nil ?_
  refine W.seq ?_
  refine W.reg ?_
  refine Wx.rd (v := .func (.func 83) #[] #[.pointer (some ⟨g_1, 0, none⟩), .pointer (some ⟨g_5, 0, none⟩), .pointer (some ⟨g_9, 0, none⟩)]) (rd_makeFunc (vs := []) (us := [.pointer (some ⟨g_1, 0, none⟩), .pointer (some ⟨g_5, 0, none⟩), .pointer (some ⟨g_9, 0, none⟩)]) rfl rfl) rfl ?_
  refine Wx.storeX (cs' := [.func (.func 83) #[] #[.pointer (some ⟨g_1, 0, none⟩), .pointer (some ⟨g_5, 0, none⟩), .pointer (some ⟨g_9, 0, none⟩)]]) (ds := [.func (.func 83) #[] #[.pointer (some ⟨g_1, 0, none⟩), .pointer (some ⟨g_5, 0, none⟩), .pointer (some ⟨g_9, 0, none⟩)]]) hS 0 rfl rfl rfl rfl Tryd.sizeOf106 (Nat.le_of_ble_eq_true rfl) (one_cons rfl one_nil) rfl (fun w_13 hz_14 hS => ?_)
  refine Wx.nil ?_
  refine W.reg ?_
  refine Wx.rd (v := .func (.func 83) #[] #[.pointer (some ⟨g_1, 0, none⟩), .pointer (some ⟨g_5, 0, none⟩), .pointer (some ⟨g_9, 0, none⟩)]) (rd_loadX hS 0 rfl rfl rfl Tryd.isAgg106) rfl ?_
  have hP := (hS.front 1 rfl).front 2 rfl
  refine Wx.callB (run_callC (fs := []) (cs := [.pointer (some ⟨g_1, 0, none⟩), .pointer (some ⟨g_5, 0, none⟩), .pointer (some ⟨g_9, 0, none⟩)]) (vs := [(.slice none 0 0), .int .i64 0, .pointer (some ⟨g_1, 0, none⟩), .pointer (some ⟨g_5, 0, none⟩), .pointer (some ⟨g_9, 0, none⟩)]) Tryd.call83 rfl rfl) (F83 _ (l := []) (ls := ls) (Tl := Tl) hcall hE s_rim (in_i64 (by decide) (by decide)) p_12 (by omega) (by simp; omega) hT hP (V.nil (t := (tP (tI .i64) (tI .i64)))) (Nat.lt_succ_self _)) rfl ?_
  rintro r_15 w_16 ⟨rfl, ob_18, hT_17, hS⟩
  have hT := hT_17
  refine Wx.nil ?_
  exact ⟨.tuple #[], ResIs.zero, rfl, ob_18, hT, (St.tl (St.tl (St.tl hS)))⟩
end Go.Proofs.YtokdjjebnomciaaDoor

namespace Go.Proofs.YtokdjjebnomciaaDoor
open Go.Wk Go.RowKit Go.Lib
set_option linter.unusedVariables false
set_option linter.unusedSimpArgs false
theorem mixedHG_ : Tryd.prog.follows .mixedOrders = true := by kernel_rfl
theorem elHG_22 : ElemI Tryd.prog 22 58 (.agg #[.int .i64 0, .int .i64 0]) 2 16 := ElemI.of Tryd.underlying22 (by kernel_rfl) (by first | rfl | kernel_rfl) (by decide)

set_option maxHeartbeats 4000000 in
theorem F12 {e : Int} {kd : Int} {x0 : Int} {x1 : Int} {x2 : Int} {x3 : Int} {x4 : Int} {x5 : Int} {x6 : Int} {x7 : Int} {x8 : Int} {x9 : Int} {x10 : Int} {x11 : Int} {O : List (Option Nat)} {w : World} (i_e : InK .u8 e) (i_kd : InK .u8 kd) (i_x0 : InK .u8 x0) (i_x1 : InK .u8 x1) (i_x2 : InK .u8 x2) (i_x3 : InK .u8 x3) (i_x4 : InK .u8 x4) (i_x5 : InK .u8 x5) (i_x6 : InK .u8 x6) (i_x7 : InK .u8 x7) (i_x8 : InK .u8 x8) (i_x9 : InK .u8 x9) (i_x10 : InK .u8 x10) (i_x11 : InK .u8 x11) (hO : ∀ b, some b ∈ O → b < w.heap.size) (hG : Laid w) : Calls Tryd.prog 12 #[.agg #[.int .u8 e, .int .u8 kd, .int .u8 x0, .int .u8 x1, .int .u8 x2, .int .u8 x3, .int .u8 x4, .int .u8 x5, .int .u8 x6, .int .u8 x7, .int .u8 x8, .int .u8 x9, .int .u8 x10, .int .u8 x11]] w (Ret w (fun r _ => r = .bool true)) := by
  have b_x11 := bd_u8 i_x11
  have b_x10 := bd_u8 i_x10
  have b_x9 := bd_u8 i_x9
  have b_x8 := bd_u8 i_x8
  have b_x7 := bd_u8 i_x7
  have b_x6 := bd_u8 i_x6
  have b_x5 := bd_u8 i_x5
  have b_x4 := bd_u8 i_x4
  have b_x3 := bd_u8 i_x3
  have b_x2 := bd_u8 i_x2
  have b_x1 := bd_u8 i_x1
  have b_x0 := bd_u8 i_x0
  have b_kd := bd_u8 i_kd
  have b_e := bd_u8 i_e
  have hS := St.start w O hO
  refine enterR Tryd.func12 rfl Tryd.ntmps12 Tryd.results12 rfl ?_
  refine W.seq ?_
  refine W.reg ?_
  refine Wx.box (cs := [.int .u8 e, .int .u8 kd, .int .u8 x0, .int .u8 x1, .int .u8 x2, .int .u8 x3, .int .u8 x4, .int .u8 x5, .int .u8 x6, .int .u8 x7, .int .u8 x8, .int .u8 x9, .int .u8 x10, .int .u8 x11]) hS rfl rfl rfl (fun g_1 w_2 hx_4 hb_3 hS => ?_)
  refine Wx.rd (v := .bool false) (rd_assign rfl) rfl ?_
  refine Wx.nil ?_
  refine W.seq ?_
  refine W.reg ?_
  refine Wx.rd (v := .agg #[.int .u8 e, .int .u8 kd, .int .u8 x0, .int .u8 x1, .int .u8 x2, .int .u8 x3, .int .u8 x4, .int .u8 x5, .int .u8 x6, .int .u8 x7, .int .u8 x8, .int .u8 x9, .int .u8 x10, .int .u8 x11]) (rd_loadXs (ds := [.int .u8 e, .int .u8 kd, .int .u8 x0, .int .u8 x1, .int .u8 x2, .int .u8 x3, .int .u8 x4, .int .u8 x5, .int .u8 x6, .int .u8 x7, .int .u8 x8, .int .u8 x9, .int .u8 x10, .int .u8 x11]) hS 0 rfl rfl rfl rfl Tryd.isAgg43 Tryd.sizeOf43) rfl ?_
  refine Wx.callF (run_callF Tryd.call44 rfl) (F44 i_e i_kd i_x0 i_x1 i_x2 i_x3 i_x4 i_x5 i_x6 i_x7 i_x8 i_x9 i_x10 i_x11 (in_i64 (by omega) (by omega)) (by omega) (by omega)) rfl ?_
  rintro r_5 w_6 hx_7 rfl
  have hS := hS.ext hx_7
  generalize h_M : madeS e kd [x0, x1, x2, x3, x4, x5, x6, x7, x8, x9, x10, x11] 9 = M
  have hLM : Lets M := by rw [← h_M]; exact made_lets (by omega)
  have hzM : (M.size : Int) ≤ 9 := by rw [← h_M]; exact made_size (by omega)
  have hrM : rimE M = 0 := rimE_good (by omega) hLM
  refine Wx.rd (v := .string M) (rd_assign rfl) rfl ?_
  refine Wx.nil ?_
  refine W.seq ?_
  refine W.reg ?_
  clear b_e b_kd b_x0 b_x1 b_x2 b_x3 b_x4 b_x5 b_x6 b_x7 b_x8 b_x9 b_x10 b_x11
  refine Wx.alloc (cs := [.int .i64 0]) hS Tryd.zeroValue3 rfl rfl (fun g_8 w_9 hx_11 hb_10 hS => ?_)
  refine Wx.alloc (cs := [.int .i64 0]) hS Tryd.zeroValue3 rfl rfl (fun g_12 w_13 hx_15 hb_14 hS => ?_)
  refine Wx.storeX (cs' := [.int .i64 0]) (ds := [.int .i64 0]) hS 1 rfl rfl rfl rfl Tryd.sizeOf3 (Nat.le_of_ble_eq_true rfl) (one_cons rfl one_nil) rfl (fun w_16 hz_17 hS => ?_)
  refine Wx.storeX (cs' := [.int .i64 0]) (ds := [.int .i64 0]) hS 0 rfl rfl rfl rfl Tryd.sizeOf3 (Nat.le_of_ble_eq_true rfl) (one_cons rfl one_nil) rfl (fun w_18 hz_19 hS => ?_)
  refine Wx.nil ?_
  refine W.seq ?_
  refine W.reg ?_
  refine Wx.alloc (cs := [(.slice none 0 0)]) hS Tryd.zeroValue22 rfl rfl (fun g_20 w_21 hx_23 hb_22 hS => ?_)
  refine Wx.nil ?_
  refine W.seq ?_
  refine W.reg ?_
  refine Wx.makeMap hS rfl (fun g_25 w_24 hx_26 hS => ?_)
  have hS : St _ _ w_24 [.raw g_25 (.map (mE (pairV .i64) (Value.int .i64) ([] : List ((Int × Int) × Int)) 0).toArray ([] : List ((Int × Int) × Int)).length), .box g_20 22 [(.slice none 0 0)], .box g_12 3 [.int .i64 0], .box g_8 3 [.int .i64 0], .box g_1 43 [.int .u8 e, .int .u8 kd, .int .u8 x0, .int .u8 x1, .int .u8 x2, .int .u8 x3, .int .u8 x4, .int .u8 x5, .int .u8 x6, .int .u8 x7, .int .u8 x8, .int .u8 x9, .int .u8 x10, .int .u8 x11]] := hS
  refine Wx.alloc (cs := [(.map none)]) hS Tryd.zeroValue55 rfl rfl (fun g_27 w_28 hx_30 hb_29 hS => ?_)
  refine Wx.storeX (cs' := [.map (some g_25)]) (ds := [.map (some g_25)]) hS 0 rfl rfl rfl rfl Tryd.sizeOf55 (Nat.le_of_ble_eq_true rfl) (one_cons rfl one_nil) rfl (fun w_31 hz_32 hS => ?_)
  refine Wx.nil ?_
  refine W.seq ?_
  refine W.reg ?_
  refine Wx.rd (v := .string M) (rd_move rfl) rfl ?_
  refine Wx.rd (v := .func (.func 50) #[] #[.pointer (some ⟨g_8, 0, none⟩), .pointer (some ⟨g_12, 0, none⟩), .pointer (some ⟨g_27, 0, none⟩), .pointer (some ⟨g_20, 0, none⟩)]) (rd_makeFunc (vs := []) (us := [.pointer (some ⟨g_8, 0, none⟩), .pointer (some ⟨g_12, 0, none⟩), .pointer (some ⟨g_27, 0, none⟩), .pointer (some ⟨g_20, 0, none⟩)]) rfl rfl) rfl ?_
  have hS := hS.add (V.nil (t := (tP (tI .i64) (tI .i64))))
  refine Wx.callB (run_callF Tryd.call49 rfl) (F49 (fe := 50) (fs := []) (cs := [.pointer (some ⟨g_8, 0, none⟩), .pointer (some ⟨g_12, 0, none⟩), .pointer (some ⟨g_27, 0, none⟩), .pointer (some ⟨g_20, 0, none⟩)]) (ls := []) (Tl := fun ls ob => ∃ h fv, ob = Ob.v (tSl (tP (tI .i64) (tI .i64))) ((ls.foldl stepA (0, 0, [], []) : Acc)).2.2.1 fv :: .box g_8 3 [.int .i64 ((ls.foldl stepA (0, 0, [], []) : Acc)).1] :: .box g_12 3 [.int .i64 ((ls.foldl stepA (0, 0, [], []) : Acc)).2.1] :: .box g_27 55 [.map (some h)] :: .raw h (.map (mE (pairV .i64) (Value.int .i64) (((ls.foldl stepA (0, 0, [], []) : Acc)).2.2.2) 0).toArray (((ls.foldl stepA (0, 0, [], []) : Acc)).2.2.2).length) :: .box g_20 22 [fv] :: [.box g_1 43 [.int .u8 e, .int .u8 kd, .int .u8 x0, .int .u8 x1, .int .u8 x2, .int .u8 x3, .int .u8 x4, .int .u8 x5, .int .u8 x6, .int .u8 x7, .int .u8 x8, .int .u8 x9, .int .u8 x10, .int .u8 x11]]) Tryd.call50 each50 (by simp only [maxLen]; omega) (by omega) ⟨_, _, rfl⟩ ((((((hS.front 3 rfl).front 3 rfl).front 3 rfl).front 4 rfl).front 5 rfl).front 5 rfl)) rfl ?_
  rintro r_33 w_34 ⟨rfl, _, ⟨h_m, v_f, rfl⟩, hS⟩
  obtain ⟨mm, hA, hmm⟩ := listed_acc (s := M) (by omega)
  rw [List.nil_append, hA] at hS
  have hS : St _ _ w_34 [Ob.v (tSl (tP (tI .i64) (tI .i64))) (firstP (fitR M) 0 M.size) v_f, .box g_8 3 [.int .i64 ((allV M).1)], .box g_12 3 [.int .i64 ((allV M).2)], .box g_27 55 [.map (some h_m)], .raw h_m (.map (mE (pairV .i64) (Value.int .i64) mm 0).toArray mm.length), .box g_20 22 [v_f], .box g_1 43 [.int .u8 e, .int .u8 kd, .int .u8 x0, .int .u8 x1, .int .u8 x2, .int .u8 x3, .int .u8 x4, .int .u8 x5, .int .u8 x6, .int .u8 x7, .int .u8 x8, .int .u8 x9, .int .u8 x10, .int .u8 x11]] := hS
  have hln_f := (hS.v 0 rfl).len63
  have hfo := listed_forced hmm
  have hvf := first_valid hrM
  have hfl := (great_size (great_mem M)).1
  have hmh := most_half M
  have hla := listed_last M
  refine Wx.nil ?_
  refine W.seq ?_
  refine W.reg ?_
  refine Wx.rd (v := (.slice none 0 0)) (rd_assign rfl) rfl ?_
  refine Wx.nil ?_
  refine W.seq ?_
  refine W.seq ?_
  refine W.reg ?_
  refine Wx.rd (v := v_f) (rd_loadX hS 5 rfl rfl rfl Tryd.isAgg22) rfl ?_
  refine Wx.rd (v := .int .i64 ((firstP (fitR M) 0 M.size).length : Int)) (rd_lenV rfl (hS.v 0 rfl) Tryd.underlying22) rfl ?_
  refine Wx.rd (v := .int .i64 0) (rd_move rfl) rfl ?_
  refine Wx.nil ?_
  refine W.block ?_
  have hS := hS.addNil (tP (tI .i64) (tI .i64)) 58
  refine W.loop [8, 10, 27, 28, 29, 30, 31, 32, 33, 34, 35, 36, 37, 38, 39, 40] (fun x : Int × Value × (List (Int × Int)) => match x with | (q, ov, out) => [(27, .int .i64 q), (8, ov)]) (fun (x : Int × Value × (List (Int × Int))) w' => match x with | (q, ov, out) => St w O w' [.row (tP (tI .i64) (tI .i64)) 58 ov out, Ob.v (tSl (tP (tI .i64) (tI .i64))) (firstP (fitR M) 0 M.size) v_f, .box g_8 3 [.int .i64 ((allV M).1)], .box g_12 3 [.int .i64 ((allV M).2)], .box g_27 55 [.map (some h_m)], .raw h_m (.map (mE (pairV .i64) (Value.int .i64) mm 0).toArray mm.length), .box g_20 22 [v_f], .box g_1 43 [.int .u8 e, .int .u8 kd, .int .u8 x0, .int .u8 x1, .int .u8 x2, .int .u8 x3, .int .u8 x4, .int .u8 x5, .int .u8 x6, .int .u8 x7, .int .u8 x8, .int .u8 x9, .int .u8 x10, .int .u8 x11]] ∧ 0 ≤ q ∧ q ≤ ((firstP (fitR M) 0 M.size).length : Int) ∧ out ++ ((firstP (fitR M) 0 M.size).drop q.toNat).filter (oftB M mm) = forcedR M ∧ (out.length : Int) ≤ q) (fun x : Int × Value × (List (Int × Int)) => match x with | (q, ov, out) => ((firstP (fitR M) 0 M.size).length - q).toNat) (0, (.slice none 0 0), []) ⟨rfl, rfl, trivial⟩ ⟨hS, (by first | omega | simp), (by first | omega | simp), (hfo), (Int.le_refl 0)⟩ ?_
  rintro ⟨q, ov, out⟩ u_36 w_35 ⟨hS, h0, h1, h2, h3⟩
  refine W.seq ?_
  refine W.reg ?_
  refine Wx.rd (v := .bool (decide (q < ((firstP (fitR M) 0 M.size).length : Int)))) (rd_lss rfl rfl) rfl ?_
  refine Wx.nil ?_
  refine W.seq ?_
  refine W.condD rfl (fun c0 => ?_) (fun c0 => ?_)
  · -- yes
    refine W.skip ?_
    refine W.seq ?_
    refine W.block ?_
    refine W.seq ?_
    refine W.reg ?_
    refine Wx.ex (rd_index (0, 0) (hS.v 1 rfl) rfl rfl Tryd.underlying22 Tryd.sizeOf58 (by first | omega | (simp only [List.length_set, List.length_append, List.length_cons, List.length_nil, List.length_replicate]; omega)) (by first | omega | (simp only [List.length_set, List.length_append, List.length_cons, List.length_nil, List.length_replicate]; omega))) rfl (fun p_37 hp_38 => ?_)
    refine Wx.ex (rd_load hp_38 rfl Tryd.isAgg58 Tryd.sizeOf58) rfl (fun v_39 hv_40 => ?_)
    obtain ⟨rfl, bd_41, bd_42⟩ := hv_40.i2
    have bd_41 := bd_i64 bd_41
    have bd_42 := bd_i64 bd_42
    refine Wx.alloc (cs := [.int .i64 0, .int .i64 0]) hS Tryd.zeroValue58 rfl rfl (fun g_43 w_44 hx_46 hb_45 hS => ?_)
    refine Wx.storeX (cs' := [.int .i64 ((ix (0, 0) (firstP (fitR M) 0 M.size) q).1), .int .i64 ((ix (0, 0) (firstP (fitR M) 0 M.size) q).2)]) (ds := [.int .i64 ((ix (0, 0) (firstP (fitR M) 0 M.size) q).1), .int .i64 ((ix (0, 0) (firstP (fitR M) 0 M.size) q).2)]) hS 0 rfl rfl rfl rfl Tryd.sizeOf58 (Nat.le_of_ble_eq_true rfl) (one_cons rfl (one_cons rfl one_nil)) rfl (fun w_47 hz_48 hS => ?_)
    refine Wx.nil ?_
    refine W.seq ?_
    refine W.regQ mixedHG_ (by kernel_rfl) ?_
    refine Wx.rd (v := .map (some h_m)) (rd_loadX hS 5 rfl rfl rfl Tryd.isAgg55) rfl ?_
    refine Wx.rd (v := .agg #[.int .i64 ((ix (0, 0) (firstP (fitR M) 0 M.size) q).1), .int .i64 ((ix (0, 0) (firstP (fitR M) 0 M.size) q).2)]) (rd_loadXs (ds := [.int .i64 ((ix (0, 0) (firstP (fitR M) 0 M.size) q).1), .int .i64 ((ix (0, 0) (firstP (fitR M) 0 M.size) q).2)]) hS 0 rfl rfl rfl rfl Tryd.isAgg58 Tryd.sizeOf58) rfl ?_
    refine Wx.rd (v := .int .i64 (mget 0 mm ((ix (0, 0) (firstP (fitR M) 0 M.size) q).1, (ix (0, 0) (firstP (fitR M) 0 M.size) q).2))) (rd_lookup (m := mm) (zv := 0) (k := ((ix (0, 0) (firstP (fitR M) 0 M.size) q).1, (ix (0, 0) (firstP (fitR M) 0 M.size) q).2)) (f := (pairV .i64)) (g := (Value.int .i64)) hS 6 rfl rfl rfl Tryd.underlying55 (KeyD.pair Tryd.underlying58 Tryd.underlying3 Tryd.sizeOf3) (fun _ => Tryd.zeroValue3 _)) rfl ?_
    refine Wx.rd (v := .int .i64 ((allV M).2)) (rd_loadX hS 4 rfl rfl rfl Tryd.isAgg3) rfl ?_
    refine Wx.rd (v := .bool (decide ((mget 0 mm ((ix (0, 0) (firstP (fitR M) 0 M.size) q).1, (ix (0, 0) (firstP (fitR M) 0 M.size) q).2)) = ((allV M).2)))) (rd_eql rfl rfl) rfl ?_
    refine Wx.nilQ (fun w_50 hx_51 => ?_)
    have hS := hS.ext hx_51
    refine W.condD rfl (fun c1 => ?_) (fun c1 => ?_)
    · -- yes
      refine W.reg ?_
      refine Wx.rd (v := ov) (rd_move rfl) rfl ?_
      refine Wx.rd (v := .agg #[.int .i64 ((ix (0, 0) (firstP (fitR M) 0 M.size) q).1), .int .i64 ((ix (0, 0) (firstP (fitR M) 0 M.size) q).2)]) (rd_loadXs (ds := [.int .i64 ((ix (0, 0) (firstP (fitR M) 0 M.size) q).1), .int .i64 ((ix (0, 0) (firstP (fitR M) 0 M.size) q).2)]) hS 0 rfl rfl rfl rfl Tryd.isAgg58 Tryd.sizeOf58) rfl ?_
      refine Wx.lit (t := (tP (tI .i64) (tI .i64))) (ys := [((ix (0, 0) (firstP (fitR M) 0 M.size) q).1, (ix (0, 0) (firstP (fitR M) 0 M.size) q).2)]) (vs := [.agg #[.int .i64 ((ix (0, 0) (firstP (fitR M) 0 M.size) q).1), .int .i64 ((ix (0, 0) (firstP (fitR M) 0 M.size) q).2)]]) elHG_22 hS rfl rfl ⟨(V.mk2 (in_i64 (by omega) (by omega)) (in_i64 (by omega) (by omega))), trivial⟩ (by decide) rfl (fun v_52 w_53 hx_54 hS => ?_)
      refine Wx.append elHG_22 hS 2 rfl rfl rfl (Src.ofR hS 0 rfl) (by simp only [maxLen]; simp; omega) (by simp; omega) rfl (fun v_55 w_56 hz_57 hS => ?_)
      refine Wx.rd (v := v_55) (rd_assign rfl) rfl ?_
      refine Wx.nil ?_
      refine W.reg ?_
      refine Wx.rd (v := .int .i64 (q + 1)) (rd_add rfl rfl (in_i64 (by omega) (by omega))) rfl ?_
      refine Wx.rd (v := .int .i64 (q + 1)) (rd_move rfl) rfl ?_
      refine Wx.nil ?_
      refine ⟨(q + 1, v_55, out ++ [((ix (0, 0) (firstP (fitR M) 0 M.size) q).1, (ix (0, 0) (firstP (fitR M) 0 M.size) q).2)]), (by show ((firstP (fitR M) 0 M.size).length - (q + 1)).toNat < ((firstP (fitR M) 0 M.size).length - q).toNat; omega), ?_, ?_, Out.look rfl Out.self⟩
      · exact ⟨St.tl (hS.tl), (by first | omega | assumption), (by first | omega | assumption), (filt_yes h0 c0 h2 (decide_eq_true c1)), (by simp only [List.length_append, List.length_cons, List.length_nil]; omega)⟩
      · exact ⟨rfl, rfl, trivial⟩
    · -- no
      refine W.skip ?_
      refine W.reg ?_
      refine Wx.rd (v := .int .i64 (q + 1)) (rd_add rfl rfl (in_i64 (by omega) (by omega))) rfl ?_
      refine Wx.rd (v := .int .i64 (q + 1)) (rd_move rfl) rfl ?_
      refine Wx.nil ?_
      refine ⟨(q + 1, ov, out), (by show ((firstP (fitR M) 0 M.size).length - (q + 1)).toNat < ((firstP (fitR M) 0 M.size).length - q).toNat; omega), ?_, ?_, Out.look rfl Out.self⟩
      · exact ⟨hS.tl, (by first | omega | assumption), (by first | omega | assumption), (filt_no h0 c0 h2 (fun hh => c1 (of_decide_eq_true hh))), (by omega)⟩
      · exact ⟨rfl, rfl, trivial⟩
  · -- no
    have hout : forcedR M = out := filt_end (f := oftB M mm) (by omega) h2
    rw [hout] at hla
    refine W.exit rfl ?_
    refine W.seq ?_
    refine W.reg ?_
    refine Wx.rd (v := .string M) (rd_move rfl) rfl ?_
    refine Wx.callF (run_callF Tryd.call21 rfl) (F21 (by first | assumption | (simp only [maxLen]; omega) | (simp only [ByteArray.size_extract, ByteArray.size_append, maxLen] at *; omega) | decide) (hG.ext hS.bel)) rfl ?_
    rintro r_58 w_59 hx_60 rfl
    have hS := hS.ext hx_60
    refine Wx.rd (v := .tuple #[.int .i64 (mostV M), .int .i64 (rimE M)]) (rd_move rfl) rfl ?_
    refine Wx.rd (v := .int .i64 (mostV M)) (rd_extract rfl rfl) rfl ?_
    refine Wx.rd (v := .int .i64 (rimE M)) (rd_extract rfl rfl) rfl ?_
    refine Wx.rd (v := .int .i64 (mostV M)) (rd_assign rfl) rfl ?_
    refine Wx.rd (v := .int .i64 0) (Rd.to (v := .int .i64 (rimE M)) (rd_assign rfl) (congrArg (Value.int .i64) (show (0 : Int) = (rimE M : Int) from hrM.symm).symm)) rfl ?_
    refine Wx.nil ?_
    refine W.seq ?_
    refine W.reg ?_
    refine Wx.rd (v := .string M) (rd_move rfl) rfl ?_
    refine Wx.callF (run_callF Tryd.call23 rfl) (F23 (by first | assumption | (simp only [maxLen]; omega) | (simp only [ByteArray.size_extract, ByteArray.size_append, maxLen] at *; omega) | decide) (hG.ext hS.bel)) rfl ?_
    rintro r_61 w_62 hx_63 rfl
    have hS := hS.ext hx_63
    refine Wx.rd (v := .tuple #[.int .i64 (countV M), .int .i64 (rimE M)]) (rd_move rfl) rfl ?_
    refine Wx.rd (v := .int .i64 (countV M)) (rd_extract rfl rfl) rfl ?_
    refine Wx.rd (v := .int .i64 (rimE M)) (rd_extract rfl rfl) rfl ?_
    refine Wx.rd (v := .int .i64 (countV M)) (rd_assign rfl) rfl ?_
    refine Wx.rd (v := .int .i64 0) (Rd.to (v := .int .i64 (rimE M)) (rd_assign rfl) (congrArg (Value.int .i64) (show (0 : Int) = (rimE M : Int) from hrM.symm).symm)) rfl ?_
    refine Wx.nil ?_
    refine W.seq ?_
    refine W.reg ?_
    refine Wx.rd (v := .string M) (rd_move rfl) rfl ?_
    refine Wx.callF (run_callF Tryd.call25 rfl) (F25 (by first | assumption | (simp only [maxLen]; omega) | (simp only [ByteArray.size_extract, ByteArray.size_append, maxLen] at *; omega) | decide) (hG.ext hS.bel)) rfl ?_
    rintro r_64 w_65 hx_66 ⟨v_67, rfl, hv_68⟩
    have hS := hS.pushFr hx_66 hv_68
    refine Wx.rd (v := .tuple #[v_67, .int .i64 (rimE M)]) (rd_move rfl) rfl ?_
    refine Wx.rd (v := v_67) (rd_extract rfl rfl) rfl ?_
    refine Wx.rd (v := .int .i64 (rimE M)) (rd_extract rfl rfl) rfl ?_
    refine Wx.rd (v := v_67) (rd_assign rfl) rfl ?_
    refine Wx.rd (v := .int .i64 0) (Rd.to (v := .int .i64 (rimE M)) (rd_assign rfl) (congrArg (Value.int .i64) (show (0 : Int) = (rimE M : Int) from hrM.symm).symm)) rfl ?_
    refine Wx.nil ?_
    refine W.seq ?_
    refine W.reg ?_
    refine Wx.rd (v := .string M) (rd_move rfl) rfl ?_
    refine Wx.callF (run_callF Tryd.call27 rfl) (F27 (by first | assumption | (simp only [maxLen]; omega) | (simp only [ByteArray.size_extract, ByteArray.size_append, maxLen] at *; omega) | decide) (hG.ext hS.bel)) rfl ?_
    rintro r_70 w_71 hx_72 ⟨v_73, rfl, hv_74⟩
    have hS := hS.pushFr hx_72 hv_74
    refine Wx.rd (v := .tuple #[v_73, .int .i64 (rimE M)]) (rd_move rfl) rfl ?_
    refine Wx.rd (v := v_73) (rd_extract rfl rfl) rfl ?_
    refine Wx.rd (v := .int .i64 (rimE M)) (rd_extract rfl rfl) rfl ?_
    refine Wx.rd (v := v_73) (rd_assign rfl) rfl ?_
    refine Wx.rd (v := .int .i64 0) (Rd.to (v := .int .i64 (rimE M)) (rd_assign rfl) (congrArg (Value.int .i64) (show (0 : Int) = (rimE M : Int) from hrM.symm).symm)) rfl ?_
    refine Wx.nil ?_
    refine W.seq ?_
    refine W.reg ?_
    refine Wx.rd (v := .int .i64 0) (rd_move rfl) rfl ?_
    refine Wx.rd (v := .bool true) (Rd.to (v := .bool (decide ((0 : Int) = 0))) (rd_eql rfl rfl) (congrArg (Value.bool) (show (true : Bool) = (decide ((0 : Int) = 0) : Bool) from (by decide)).symm)) rfl ?_
    refine Wx.rd (v := .bool true) (rd_move rfl) rfl ?_
    refine Wx.gyes rfl rfl rfl ?_
    refine Wx.rd (v := .int .i64 0) (rd_move rfl) rfl ?_
    refine Wx.gyes rfl rfl rfl ?_
    refine Wx.rd (v := .bool true) (Rd.to (v := .bool (decide ((0 : Int) = 0))) (rd_eql rfl rfl) (congrArg (Value.bool) (show (true : Bool) = (decide ((0 : Int) = 0) : Bool) from (by decide)).symm)) rfl ?_
    refine Wx.rd (v := .bool true) (rd_pickT rfl rfl) rfl ?_
    refine Wx.rd (v := .bool true) (rd_move rfl) rfl ?_
    refine Wx.gyes rfl rfl rfl ?_
    refine Wx.rd (v := .int .i64 0) (rd_move rfl) rfl ?_
    refine Wx.gyes rfl rfl rfl ?_
    refine Wx.rd (v := .bool true) (Rd.to (v := .bool (decide ((0 : Int) = 0))) (rd_eql rfl rfl) (congrArg (Value.bool) (show (true : Bool) = (decide ((0 : Int) = 0) : Bool) from (by decide)).symm)) rfl ?_
    refine Wx.rd (v := .bool true) (rd_pickT rfl rfl) rfl ?_
    refine Wx.rd (v := .bool true) (rd_move rfl) rfl ?_
    refine Wx.gyes rfl rfl rfl ?_
    refine Wx.rd (v := .int .i64 0) (rd_move rfl) rfl ?_
    refine Wx.gyes rfl rfl rfl ?_
    refine Wx.rd (v := .bool true) (Rd.to (v := .bool (decide ((0 : Int) = 0))) (rd_eql rfl rfl) (congrArg (Value.bool) (show (true : Bool) = (decide ((0 : Int) = 0) : Bool) from (by decide)).symm)) rfl ?_
    refine Wx.rd (v := .bool true) (rd_pickT rfl rfl) rfl ?_
    refine Wx.rd (v := .bool true) (rd_move rfl) rfl ?_
    refine Wx.gyes rfl rfl rfl ?_
    refine Wx.rd (v := .int .i64 (mostV M)) (rd_move rfl) rfl ?_
    refine Wx.gyes rfl rfl rfl ?_
    refine Wx.rd (v := .int .i64 ((allV M).1)) (rd_loadX hS 4 rfl rfl rfl Tryd.isAgg3) rfl ?_
    refine Wx.gyes rfl rfl rfl ?_
    refine Wx.rd (v := .bool true) (Rd.to (v := .bool (decide ((mostV M) = ((allV M).1)))) (rd_eql rfl rfl) (congrArg (Value.bool) (show (true : Bool) = (decide ((mostV M) = ((allV M).1)) : Bool) from (decide_eq_true (most_v hrM)).symm).symm)) rfl ?_
    refine Wx.rd (v := .bool true) (rd_pickT rfl rfl) rfl ?_
    refine Wx.rd (v := .bool true) (rd_move rfl) rfl ?_
    refine Wx.gyes rfl rfl rfl ?_
    refine Wx.rd (v := .int .i64 (countV M)) (rd_move rfl) rfl ?_
    refine Wx.gyes rfl rfl rfl ?_
    refine Wx.rd (v := .int .i64 ((allV M).2)) (rd_loadX hS 5 rfl rfl rfl Tryd.isAgg3) rfl ?_
    refine Wx.gyes rfl rfl rfl ?_
    refine Wx.rd (v := .bool true) (Rd.to (v := .bool (decide ((countV M) = ((allV M).2)))) (rd_eql rfl rfl) (congrArg (Value.bool) (show (true : Bool) = (decide ((countV M) = ((allV M).2)) : Bool) from (decide_eq_true (count_v hrM)).symm).symm)) rfl ?_
    refine Wx.rd (v := .bool true) (rd_pickT rfl rfl) rfl ?_
    refine Wx.rd (v := .bool true) (rd_move rfl) rfl ?_
    refine Wx.gyes rfl rfl rfl ?_
    refine Wx.rd (v := v_67) (rd_move rfl) rfl ?_
    refine Wx.gyes rfl rfl rfl ?_
    refine Wx.rd (v := v_f) (rd_loadX hS 8 rfl rfl rfl Tryd.isAgg22) rfl ?_
    refine Wx.gyes rfl rfl rfl ?_
    refine Wx.callF (run_callF Tryd.call29 rfl) (F29 (hS.lend 1 rfl) (hS.v 3 rfl)) rfl ?_
    rintro r_76 w_77 hx_78 rfl
    have hS := hS.ext hx_78
    rw [show (decide ((firstV M) = (firstP (fitR M) 0 M.size)) : Bool) = true from (decide_eq_true (if_pos hrM))]
    refine Wx.rd (v := .bool true) (rd_pickT rfl rfl) rfl ?_
    refine Wx.rd (v := .bool true) (rd_move rfl) rfl ?_
    refine Wx.gyes rfl rfl rfl ?_
    refine Wx.rd (v := v_73) (rd_move rfl) rfl ?_
    refine Wx.gyes rfl rfl rfl ?_
    refine Wx.rd (v := ov) (rd_move rfl) rfl ?_
    refine Wx.gyes rfl rfl rfl ?_
    refine Wx.callF (run_callF Tryd.call29 rfl) (F29 (hS.lend 0 rfl) (hS.lend 2 rfl)) rfl ?_
    rintro r_79 w_80 hx_81 rfl
    have hS := hS.ext hx_81
    rw [show (decide ((forcedP M) = out) : Bool) = true from (decide_eq_true (by rw [forced_eq, forcedV, if_pos hrM]; exact hout))]
    refine Wx.rd (v := .bool true) (rd_pickT rfl rfl) rfl ?_
    refine Wx.rd (v := .bool true) (rd_move rfl) rfl ?_
    refine Wx.gyes rfl rfl rfl ?_
    refine Wx.rd (v := .string M) (rd_move rfl) rfl ?_
    refine Wx.gyes rfl rfl rfl ?_
    refine Wx.rd (v := v_f) (rd_loadX hS 8 rfl rfl rfl Tryd.isAgg22) rfl ?_
    refine Wx.gyes rfl rfl rfl ?_
    refine Wx.callF (run_callF Tryd.call19 rfl) (F19 (by first | assumption | (simp only [maxLen]; omega) | (simp only [ByteArray.size_extract, ByteArray.size_append, maxLen] at *; omega) | decide) (hS.v 3 rfl) (hG.ext hS.bel)) rfl ?_
    rintro r_82 w_83 hx_84 rfl
    have hS := hS.ext hx_84
    refine Wx.gyes rfl rfl rfl ?_
    refine Wx.rd (v := .bool true) (Rd.to (v := .bool (decide ((validE M (firstP (fitR M) 0 M.size)) = 0))) (rd_eql rfl rfl) (congrArg (Value.bool) (show (true : Bool) = (decide ((validE M (firstP (fitR M) 0 M.size)) = 0) : Bool) from (decide_eq_true (hvf)).symm).symm)) rfl ?_
    refine Wx.rd (v := .bool true) (rd_pickT rfl rfl) rfl ?_
    refine Wx.rd (v := .bool true) (rd_move rfl) rfl ?_
    refine Wx.gyes rfl rfl rfl ?_
    refine Wx.rd (v := ov) (rd_move rfl) rfl ?_
    refine Wx.gyes rfl rfl rfl ?_
    refine Wx.rd (v := .int .i64 (out.length : Int)) (rd_lenR hS 2 rfl rfl Tryd.underlying22) rfl ?_
    refine Wx.gyes rfl rfl rfl ?_
    refine Wx.rd (v := .int .i64 ((allV M).1)) (rd_loadX hS 4 rfl rfl rfl Tryd.isAgg3) rfl ?_
    refine Wx.gyes rfl rfl rfl ?_
    refine Wx.rd (v := .bool (decide ((out.length : Int) = ((allV M).1)))) (rd_eql rfl rfl) rfl ?_
    refine Wx.gyes rfl rfl rfl ?_
    refine Wx.rd (v := .int .i64 ((allV M).2)) (rd_loadX hS 5 rfl rfl rfl Tryd.isAgg3) rfl ?_
    refine Wx.gyes rfl rfl rfl ?_
    refine Wx.rd (v := .bool (decide (((allV M).2) = 1))) (rd_eql rfl rfl) rfl ?_
    refine Wx.gyes rfl rfl rfl ?_
    refine Wx.rd (v := .bool (decide (((allV M).2) = 1))) (rd_move rfl) rfl ?_
    refine Wx.cut (X := Unit) 3 [109, 110, 111] (fun _ => [(111, .bool (decide (((allV M).2) = 1) || decide (((allV M).1) = 0)))]) (fun _ w' => St w O w' [.row (tP (tI .i64) (tI .i64)) 58 v_73 (forcedP M), .row (tP (tI .i64) (tI .i64)) 58 v_67 (firstV M), .row (tP (tI .i64) (tI .i64)) 58 ov out, Ob.v (tSl (tP (tI .i64) (tI .i64))) (firstP (fitR M) 0 M.size) v_f, .box g_8 3 [.int .i64 ((allV M).1)], .box g_12 3 [.int .i64 ((allV M).2)], .box g_27 55 [.map (some h_m)], .raw h_m (.map (mE (pairV .i64) (Value.int .i64) mm 0).toArray mm.length), .box g_20 22 [v_f], .box g_1 43 [.int .u8 e, .int .u8 kd, .int .u8 x0, .int .u8 x1, .int .u8 x2, .int .u8 x3, .int .u8 x4, .int .u8 x5, .int .u8 x6, .int .u8 x7, .int .u8 x8, .int .u8 x9, .int .u8 x10, .int .u8 x11]]) ?_ ?_
    · rcases Bool.eq_false_or_eq_true (decide (((allV M).2) = 1)) with g_85 | g_85
      · -- True
        have gp_86 := of_decide_eq_true g_85
        refine Wx.gnoB rfl rfl (congrArg Value.bool g_85) rfl rfl ?_
        refine Wx.gnoB rfl rfl (congrArg Value.bool g_85) rfl rfl ?_
        refine Wx.gyes rfl rfl rfl ?_
        refine Wx.rd (v := .bool true) (rd_pickT (congrArg Value.bool g_85) rfl) rfl ?_
        refine Wx.nil ⟨(), hS, ⟨?_, trivial⟩, Out.look rfl Out.refl⟩
        show Value.bool true = Value.bool (decide (((allV M).2) = 1) || decide (((allV M).1) = 0))
        first | rw [g_85, Bool.true_or] | (rw [g_85]; rfl)
      · -- False
        have gp_87 := of_decide_eq_false g_85
        refine Wx.gyes rfl rfl (congrArg Value.bool g_85) ?_
        refine Wx.rd (v := .int .i64 ((allV M).1)) (rd_loadX hS 4 rfl rfl rfl Tryd.isAgg3) rfl ?_
        refine Wx.gyes rfl rfl (congrArg Value.bool g_85) ?_
        refine Wx.rd (v := .bool (decide (((allV M).1) = 0))) (rd_eql rfl rfl) rfl ?_
        refine Wx.gyes rfl rfl rfl ?_
        refine Wx.rd (v := .bool (decide (((allV M).1) = 0))) (rd_pickF (congrArg Value.bool g_85) rfl) rfl ?_
        refine Wx.nil ⟨(), hS, ⟨?_, trivial⟩, Out.look rfl Out.refl⟩
        show Value.bool (decide (((allV M).1) = 0)) = Value.bool (decide (((allV M).2) = 1) || decide (((allV M).1) = 0))
        first | rw [g_85, Bool.false_or] | (rw [g_85]; rfl)
    rintro ⟨⟩ u_89 w_88 hS
    refine Wx.gyes rfl rfl rfl ?_
    refine Wx.rd (v := .bool true) (Rd.to (v := .bool ((decide ((out.length : Int) = ((allV M).1))) == (decide (((allV M).2) = 1) || decide (((allV M).1) = 0)))) (rd_eqlB rfl rfl Tryd.underlying4) (congrArg (Value.bool) (show (true : Bool) = ((decide ((out.length : Int) = ((allV M).1))) == (decide (((allV M).2) = 1) || decide (((allV M).1) = 0)) : Bool) from (by rw [hla]; exact (beq_self_eq_true _).symm)).symm)) rfl ?_
    refine Wx.rd (v := .bool true) (rd_pickT rfl rfl) rfl ?_
    refine Wx.rd (v := .bool true) (rd_move rfl) rfl ?_
    refine Wx.gyes rfl rfl rfl ?_
    refine Wx.callF (run_callF Tryd.call16 rfl) (F16 hS.fb_lt (hG.ext hS.bel)) rfl ?_
    rintro r_90 w_91 hx_92 rfl
    have hS := hS.ext hx_92
    refine Wx.rd (v := .bool true) (rd_pickT rfl rfl) rfl ?_
    refine Wx.rd (v := .bool true) (rd_assign rfl) rfl ?_
    refine Wx.nil ?_
    exact W.ret ⟨.bool true, ResIs.one, hS.bel, rfl⟩
end Go.Proofs.YtokdjjebnomciaaDoor

namespace Go.Proofs.YtokdjjebnomciaaDoor
open Go.Wk Go.RowKit Go.Lib Go Go.Proofs
set_option maxRecDepth 100000

/-- What the rows list. -/
def theLaid : List (String × DataW Unit) := [("unicode/utf8.acceptRanges", Rows.laid_unicode_utf8_acceptRanges), ("unicode.properties", Rows.laid_unicode_properties), ("unicode.CaseRanges", Rows.laid_unicode_CaseRanges), ("unicode.Upper", Rows.laid_unicode_Upper), ("unicode/utf8.first", Rows.laid_unicode_utf8_first)]
theorem gProps : ∃ g, Tryd.prog.globalNamed "unicode.properties" = some g ∧ ∃ t, (Tryd.prog.globals[g]?).map (·.type) = some t ∧ Tryd.prog.underlying t = some (.array 256 5) ∧ Tryd.prog.cellsOf t = 256 :=
  ⟨0, by kernel_rfl, 139, by kernel_rfl, by kernel_rfl, by kernel_rfl⟩
theorem acc_eq : (Rows.laid_unicode_utf8_acceptRanges : DataW Unit) = acceptData := by kernel_rfl
theorem props_eq : (Rows.laid_unicode_properties : DataW Unit) = tabData .u8 propertiesTab := by kernel_rfl
theorem laid_of {W : World} (h : laidMetH Tryd.prog theLaid W) (hsh : W.ShapedOpen Tryd.prog) : Laid W := by
  have hL : laidMet Tryd.prog theLaid W := by rwa [MakeChecks.laidMetH_plain _ _ _ (by kernel_rfl)] at h
  have r1 := Lib.laidMet.reads hL (.head _)
  have r2 := Lib.laidMet.reads hL (.tail _ (.head _))
  have r3 := Lib.laidMet.reads hL (.tail _ (.tail _ (.head _)))
  have r4 := Lib.laidMet.reads hL (.tail _ (.tail _ (.tail _ (.head _))))
  have r5 := Lib.laidMet.reads hL (.tail _ (.tail _ (.tail _ (.tail _ (.head _)))))
  rw [acc_eq] at r1
  rw [props_eq] at r2
  rw [show Rows.laid_unicode_CaseRanges = caseData from Pinned.caseRanges_eq] at r3
  rw [show Rows.laid_unicode_Upper = rtabData upperT from Pinned.upper_eq] at r4
  rw [show Rows.laid_unicode_utf8_first = firstData from Pinned.utf8First_eq] at r5
  refine ⟨?_, ?_, ?_, ?_, ?_⟩
  · obtain ⟨g, hg, t, hty, ht, hct⟩ := gProps
    obtain ⟨g', t', cs, fuel, p, hg', ht', hvar, hd⟩ := r2
    obtain rfl := Option.some.inj (hg.symm.trans hg')
    obtain rfl := Option.some.inj (hty.symm.trans ht')
    unfold TabIs
    rw [hvar, ← cells_of_tab ht Tryd.underlying5 (by kernel_rfl) hct hd]
  · exact rvar_of_reads Tryd.lays261 ⟨by kernel_rfl, by kernel_rfl, by kernel_rfl, by kernel_rfl, by kernel_rfl, by kernel_rfl, by kernel_rfl, by kernel_rfl⟩ (by kernel_rfl) (by kernel_rfl) r4
  · exact caseVar_of_reads { Tryd.lays158 with } (by kernel_rfl) ⟨by kernel_rfl, by kernel_rfl, by kernel_rfl, by kernel_rfl, by kernel_rfl, by kernel_rfl⟩ r3
  · exact utf8Tabs_of_reads Tryd.lays260 ⟨by kernel_rfl, by kernel_rfl, by kernel_rfl, by kernel_rfl, by kernel_rfl, by kernel_rfl, by kernel_rfl⟩ r5 r1
  · exact Tryd.laysM144.s1_3 W hsh
/-- The world of the witnesses: the listed variables hold what the text lays. -/
theorem w_shaped (os : Os) (args : Array Value) : ((World.laidAll Tryd.prog os theLaid).forCall (fun _ _ => 0) ⟨#[], args, []⟩).Shaped Tryd.prog := World.shaped_of_ZipB (by kernel_rfl) (by kernel_rfl)
theorem w_laid (os : Os) (args : Array Value) : laidMetH Tryd.prog theLaid ((World.laidAll Tryd.prog os theLaid).forCall (fun _ _ => 0) ⟨#[], args, []⟩).memory := by rw [MakeChecks.laidMetH_plain _ _ _ (by kernel_rfl)]; exact laidMet_laidAll _ (by kernel_rfl) (by kernel_rfl)
end Go.Proofs.YtokdjjebnomciaaDoor

namespace Go.Wk
open Go.RowKit Go.ChangeShapes
section
variable {H : Type} {enc : TypeId × Value → H} {P : Program} {W : World}
end
end Go.Wk

namespace Go.Proofs.YtokdjjebnomciaaDoor.sherdListed
open Go.ChangeShapes Go.WideShapes Go.ChangeAt Go.RowKit Go.Joins Go.Wk
set_option linter.unusedVariables false

theorem own : ownKnob Tryd.prog.godebug = none := by kernel_rfl
theorem laidOut : laidOutB Tryd.prog = true := by kernel_rfl
theorem cells5 : Tryd.prog.cellsOf 5 = 1 := by kernel_rfl
theorem cells41 : Tryd.prog.cellsOf 41 = 12 := by kernel_rfl
theorem cells43 : Tryd.prog.cellsOf 43 = 14 := by kernel_rfl
theorem len14 : ∀ zs : List Int, zs.length = 14 → ∃ b0 b1 b2 b3 b4 b5 b6 b7 b8 b9 b10 b11 b12 b13, zs = [b0, b1, b2, b3, b4, b5, b6, b7, b8, b9, b10, b11, b12, b13]
  | [b0, b1, b2, b3, b4, b5, b6, b7, b8, b9, b10, b11, b12, b13], _ => ⟨_, _, _, _, _, _, _, _, _, _, _, _, _, _, rfl⟩

set_option maxRecDepth 100000 in
theorem lifted (os : Os) (started : os.Started) (H : Type) (enc : TypeId × Value → H) :
    ReturnsInHanded {} Tryd.checked os 12 .any (OpenSpec.preRow enc Tryd.prog Tryd.f12 (OpenSpec.ofChange Rows.sherdListedSpec) Rows.sherdListedRow.domain false Rows.sherdListedRow.laid) (Rows.sherdListedSpec.post enc Tryd.prog Tryd.f12 false true false false) := by
  refine returnsInHanded_of_row (C := Tryd.checked) (s := OpenSpec.ofChange Rows.sherdListedSpec) (F := fun _ _ _ => 0) own started (by kernel_rfl) Tryd.func12 ?_ ?_
  · exact ChangeSpec.witness_shaped (enc := enc) (C := Tryd.checked) (os := os) (X := fun w _ => laidMetH Tryd.prog Rows.sherdListedRow.laid w) false (World.laidAll Tryd.prog os Rows.sherdListedRow.laid) #[.agg #[.int .u8 0, .int .u8 0, .int .u8 0, .int .u8 0, .int .u8 0, .int .u8 0, .int .u8 0, .int .u8 0, .int .u8 0, .int .u8 0, .int .u8 0, .int .u8 0, .int .u8 0, .int .u8 0]] 8 (World.laidAll_os _ _ _) (w_shaped os _) (by kernel_rfl) (by kernel_rfl) (by kernel_rfl) (w_laid os _)
  intro W base args ds gs before hval0 hW hcnd _ _ hL hsh _
  have hval : ∀ (j : Nat) t v, Tryd.f12.params[j]? = some t → args[j]? = some v → Value.okWide Tryd.prog W .any base t v := hval0
  have hW' := hW
  obtain ⟨p, q, hA0, hV, rfl, hfz, hnd⟩ := hW
  have hA : DataW.TrodAll enc Tryd.prog W 0 (fun _ => true) true Tryd.f12.params.toList args.toList ds p := hA0
  rw [Tryd.params12] at hA hval
  obtain ⟨v0, vs0, d0, ds0, p0, q0, hargs, rfl, rfl, h0, r0⟩ := trodAll_cons hA
  obtain ⟨rfl, rfl, rfl⟩ := trodAll_nil r0
  obtain rfl : args = #[v0] := by cases args; simp_all
  obtain ⟨rfl, rfl⟩ := trodVars_none hV
  have k0 := h0
  have lt0 : ∀ x ∈ p0, x.block < W.heap.size := by obtain ⟨m, hm⟩ := k0; exact DataW.trod_lt m _ _ _ hm
  obtain ⟨cs0, rfl, hsz0⟩ := okWide_struct Tryd.underlying43 (hval 0 43 v0 rfl rfl)
  obtain ⟨zs0, hz0, rfl, hin0⟩ := RdI.v (RdI.struct3 Tryd.underlying43 (RdI.int Tryd.underlying5) (RdI.int Tryd.underlying5) (RdI.array Tryd.underlying41 Tryd.underlying5 cells5 cells41) cells5 cells5 cells41 rfl rfl rfl cells43) h0
  obtain ⟨a0_0, a0_1, a0_2, a0_3, a0_4, a0_5, a0_6, a0_7, a0_8, a0_9, a0_10, a0_11, a0_12, a0_13, rfl⟩ := len14 zs0 hz0
  clear hA0 hval0
  refine (F12 (hin0 _ (by simp)) (hin0 _ (by simp)) (hin0 _ (by simp)) (hin0 _ (by simp)) (hin0 _ (by simp)) (hin0 _ (by simp)) (hin0 _ (by simp)) (hin0 _ (by simp)) (hin0 _ (by simp)) (hin0 _ (by simp)) (hin0 _ (by simp)) (hin0 _ (by simp)) (hin0 _ (by simp)) (hin0 _ (by simp)) (fun b (h : some b ∈ ([] : List (Option Nat))) => nomatch h) (laid_of hL hsh)).mono fun e W' hE => ?_
  obtain ⟨r, he, bel, hr⟩ := hE
  subst he
  subst hr
  exact ⟨_, rfl, _, _, _, [], _, [], hW', trodAll_mk1 (shut_bool Tryd.underlying4 _), (trodAll_cons_mk (Below.trod laidOut (by kernel_rfl) (of_decide_eq_true (by kernel_rfl)) k0 bel lt0) trodAll_mk0), rfl, bel.frame _, fun h => by cases h⟩

theorem over : Rows.sherdListedRow.holds Tryd.pinned (OpenSpec.ofChange Rows.sherdListedSpec) :=
  OpenClaim.holds_of_wide 12 Tryd.f12 rfl rfl rfl rfl rfl rfl rfl ⟨rfl, rfl, rfl, rfl, rfl⟩ rfl rfl rfl rfl rfl (by kernel_rfl) Tryd.func12 (by kernel_rfl)
    (of_decide_eq_true (by kernel_rfl)) (by unfold Func.isWrapper; first | (rw [if_pos (by decide +kernel)]; kernel_rfl) | (rw [if_neg (by decide +kernel)]; exact ⟨rfl, rfl⟩))
    (fun os started H enc _ => by rw [OpenClaim.pre_eq_preRow]; exact lifted os started H enc)

theorem card : Rows.SherdListedCardSaid :=
  Claim7.holds_tied_plain_at .later [] [.data, .data, .pinned, .pinned, .pinned] true (true, "b19d624c57feb4ddc557949d072a9df9920d9c9c6e671a3722e11c1f7f3b75a8") false over (fun _ h => by cases h) (by kernel_rfl) (fun _ h => by cases h) sherdListed_row_tie rfl ⟨rfl, rfl⟩ (by kernel_rfl) rfl
    (fun f fn hf hfn => by
      obtain rfl : f = 12 := Option.some.inj ((show Tryd.prog.funcNamed "bellarmine/bellarminelaw05.SherdListed" = some 12 by kernel_rfl).symm.trans hf) |>.symm
      obtain rfl : fn = Tryd.f12 := (Option.some.inj (Tryd.func12.symm.trans hfn)).symm
      exact ⟨by kernel_rfl, fun j t ht => by
        rw [Tryd.params12] at ht
        have hm : t ∈ [43] := by simpa using Array.mem_of_getElem? ht
        have hall : ([43].all fun u => !Tryd.prog.wantsStandIn u) = true := by kernel_rfl
        exact (show Tryd.prog.wantsStandIn t = false by simpa using List.all_eq_true.1 hall t hm)⟩)
    (by kernel_rfl)

end Go.Proofs.YtokdjjebnomciaaDoor.sherdListed
namespace Go.Proofs.YtokdjjebnomciaaDoor
/-- The statement. -/
theorem sherdListed_proved : Rows.SherdListedCardSaid := sherdListed.card
#print axioms sherdListed_proved
end Go.Proofs.YtokdjjebnomciaaDoor
