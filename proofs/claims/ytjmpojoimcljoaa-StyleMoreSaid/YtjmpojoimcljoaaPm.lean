/-
  WHAT IS PROVED HERE: the given statement of StyleMore: for every input it returns true, and each argument reads as it did. Conditions: none.
-/
import Derived.Test.YtjmpojoimcljoaaRows
import Derived.Test.YtjmpojoimcljoaaGl
import Derived.Test.YtjmpojoimcljoaaPlain11
import Derived.Test.YtjmpojoimcljoaaWk6
import Derived.WalkKit
import Derived.ProofKit
import Derived.OpenShut
import Derived.Carry
import Derived.Lib.SmallJoins
namespace Go.Proofs.Ytjmpojoimcljoaa.styleMore
open Go.ChangeShapes Go.WideShapes Go.ChangeAt Go.RowKit Go.Joins Go.Wk
set_option linter.unusedVariables false

theorem own : ownKnob Try.prog.godebug = none := by kernel_rfl
theorem laidOut : laidOutB Try.prog = true := by kernel_rfl
theorem cells5 : Try.prog.cellsOf 5 = 1 := by kernel_rfl
theorem cells62 : Try.prog.cellsOf 62 = 10 := by kernel_rfl
theorem cells64 : Try.prog.cellsOf 64 = 12 := by kernel_rfl
theorem len12 : ∀ zs : List Int, zs.length = 12 → ∃ b0 b1 b2 b3 b4 b5 b6 b7 b8 b9 b10 b11, zs = [b0, b1, b2, b3, b4, b5, b6, b7, b8, b9, b10, b11]
  | [b0, b1, b2, b3, b4, b5, b6, b7, b8, b9, b10, b11], _ => ⟨_, _, _, _, _, _, _, _, _, _, _, _, rfl⟩

set_option maxRecDepth 100000 in
theorem lifted (os : Os) (started : os.Started) (H : Type) (enc : TypeId × Value → H) :
    ReturnsInHanded {} Try.checked os 11 .any (Rows.styleMoreSpec.pre6 enc Try.prog Try.f11 Rows.styleMoreRow.domain false) (Rows.styleMoreSpec.post enc Try.prog Try.f11 false true false false) := by
  refine returnsInHanded_of_change (C := Try.checked) own started (by kernel_rfl) Try.func11
    (ChangeSpec.witness6 (enc := enc) (C := Try.checked) false ⟨#[], #[.agg #[.int .u8 0, .int .u8 0, .int .u8 0, .int .u8 0, .int .u8 0, .int .u8 0, .int .u8 0, .int .u8 0, .int .u8 0, .int .u8 0, .int .u8 0, .int .u8 0], .int .u8 0], []⟩ 8 (by kernel_rfl) (by kernel_rfl) (by kernel_rfl) (by kernel_rfl)) ?_
  intro W base args ds gs before hval0 hW hcnd _
  have hval : ∀ (j : Nat) t v, Try.f11.params[j]? = some t → args[j]? = some v → Value.okWide Try.prog W .any base t v := hval0
  have hW' := hW
  obtain ⟨p, q, hA0, hV, rfl, hfz, hnd⟩ := hW
  have hA : DataW.TrodAll enc Try.prog W 0 (fun _ => true) true Try.f11.params.toList args.toList ds p := hA0
  rw [Try.params11] at hA hval
  obtain ⟨v0, vs0, d0, ds0, p0, q0, hargs, rfl, rfl, h0, r0⟩ := trodAll_cons hA
  obtain ⟨v1, vs1, d1, ds1, p1, q1, rfl, rfl, rfl, h1, r1⟩ := trodAll_cons r0
  obtain ⟨rfl, rfl, rfl⟩ := trodAll_nil r1
  obtain rfl : args = #[v0, v1] := by cases args; simp_all
  obtain ⟨rfl, rfl⟩ := trodVars_none hV
  have k0 := h0
  have lt0 : ∀ x ∈ p0, x.block < W.heap.size := by obtain ⟨m, hm⟩ := k0; exact DataW.trod_lt m _ _ _ hm
  obtain ⟨cs0, rfl, hsz0⟩ := okWide_struct Try.underlying64 (hval 0 64 v0 rfl rfl)
  obtain ⟨zs0, hz0, rfl, hin0⟩ := RdI.v (RdI.struct3 Try.underlying64 (RdI.int Try.underlying5) (RdI.int Try.underlying5) (RdI.array Try.underlying62 Try.underlying5 cells5 cells62) cells5 cells5 cells62 rfl rfl rfl cells64) h0
  obtain ⟨a0_0, a0_1, a0_2, a0_3, a0_4, a0_5, a0_6, a0_7, a0_8, a0_9, a0_10, a0_11, rfl⟩ := len12 zs0 hz0
  obtain ⟨a1, rfl, rfl, rfl, u1⟩ := open_int Try.underlying5 (hval 1 5 v1 rfl rfl) h1
  clear hA0 hval0
  refine (F11 (hin0 _ (by simp)) (hin0 _ (by simp)) (hin0 _ (by simp)) (hin0 _ (by simp)) (hin0 _ (by simp)) (hin0 _ (by simp)) (hin0 _ (by simp)) (hin0 _ (by simp)) (hin0 _ (by simp)) (hin0 _ (by simp)) (hin0 _ (by simp)) (hin0 _ (by simp)) (inK_of_wf u1) (more_made _ _ _ _)).mono fun e W' hE => ?_
  obtain ⟨r, he, bel, hr⟩ := hE
  subst he
  subst hr
  exact ⟨_, rfl, _, _, _, [], _, [], hW', trodAll_mk1 (shut_bool Try.underlying4 _), (trodAll_cons_mk (Below.trod laidOut (by kernel_rfl) (of_decide_eq_true (by kernel_rfl)) k0 bel lt0) (trodAll_cons_mk (shut_int Try.underlying5 u1) trodAll_mk0)), rfl, bel.frame _, fun h => by cases h⟩

theorem over : Rows.styleMoreRow.holds Try.pinned (OpenSpec.ofChange Rows.styleMoreSpec) :=
  OpenClaim.holds_of_wide 11 Try.f11 rfl rfl rfl rfl rfl rfl rfl ⟨rfl, rfl, rfl, rfl, rfl⟩ rfl rfl rfl rfl rfl (by kernel_rfl) Try.func11 (by kernel_rfl)
    (of_decide_eq_true (by kernel_rfl)) (by unfold Func.isWrapper; first | (rw [if_pos (by decide +kernel)]; kernel_rfl) | (rw [if_neg (by decide +kernel)]; exact ⟨rfl, rfl⟩))
    (fun os started H enc _ => lifted os started H enc)

end Go.Proofs.Ytjmpojoimcljoaa.styleMore
namespace Go.Proofs.Ytjmpojoimcljoaa
/-- The statement. -/
theorem styleMore_proved : Rows.StyleMoreSaid := styleMore.over
#print axioms styleMore_proved
end Go.Proofs.Ytjmpojoimcljoaa
