/-
  WHAT IS PROVED HERE: the given statement of StyleNamed: for every input it returns true, and each argument reads as it did. Conditions: none.
-/
import Derived.Test.YtjmpojoimcljoaaRows
import Derived.Test.YtjmpojoimcljoaaGn
import Derived.Test.YtjmpojoimcljoaaPlain12
import Derived.Test.YtjmpojoimcljoaaWk6
import Derived.WalkKit
import Derived.ProofKit
import Derived.OpenShut
import Derived.Carry
import Derived.Lib.SmallJoins
namespace Go.Proofs.Ytjmpojoimcljoaa.styleNamed
open Go.ChangeShapes Go.WideShapes Go.ChangeAt Go.RowKit Go.Joins Go.Wk
set_option linter.unusedVariables false

theorem own : ownKnob Try.prog.godebug = none := by kernel_rfl
theorem laidOut : laidOutB Try.prog = true := by kernel_rfl
theorem cells5 : Try.prog.cellsOf 5 = 1 := by kernel_rfl
theorem cells62 : Try.prog.cellsOf 62 = 10 := by kernel_rfl
theorem cells64 : Try.prog.cellsOf 64 = 12 := by kernel_rfl
theorem cells78 : Try.prog.cellsOf 78 = 7 := by kernel_rfl
theorem len12 : ∀ zs : List Int, zs.length = 12 → ∃ b0 b1 b2 b3 b4 b5 b6 b7 b8 b9 b10 b11, zs = [b0, b1, b2, b3, b4, b5, b6, b7, b8, b9, b10, b11]
  | [b0, b1, b2, b3, b4, b5, b6, b7, b8, b9, b10, b11], _ => ⟨_, _, _, _, _, _, _, _, _, _, _, _, rfl⟩
theorem len7 : ∀ zs : List Int, zs.length = 7 → ∃ b0 b1 b2 b3 b4 b5 b6, zs = [b0, b1, b2, b3, b4, b5, b6]
  | [b0, b1, b2, b3, b4, b5, b6], _ => ⟨_, _, _, _, _, _, _, rfl⟩
theorem okWide_array {P : Program} {w : World} {r : Reach} {base : Nat} {t : TypeId} {v : Value} {n : Nat} {e : TypeId} (ht : P.underlying t = some (.array n e)) (h : Value.okWide P w r base t v) : ∃ cs, v = .agg cs ∧ cs.size = P.cellsOf t := by
  simp only [Value.okWide, ht] at h
  obtain ⟨cs, h1, h2, _⟩ := h
  exact ⟨cs, h1, h2⟩

set_option maxRecDepth 100000 in
theorem lifted (os : Os) (started : os.Started) (H : Type) (enc : TypeId × Value → H) :
    ReturnsInHanded {} Try.checked os 13 .any (Rows.styleNamedSpec.pre6 enc Try.prog Try.f13 Rows.styleNamedRow.domain false) (Rows.styleNamedSpec.post enc Try.prog Try.f13 false true false false) := by
  refine returnsInHanded_of_change (C := Try.checked) own started (by kernel_rfl) Try.func13
    (ChangeSpec.witness6 (enc := enc) (C := Try.checked) false ⟨#[], #[.agg #[.int .u8 0, .int .u8 0, .int .u8 0, .int .u8 0, .int .u8 0, .int .u8 0, .int .u8 0, .int .u8 0, .int .u8 0, .int .u8 0, .int .u8 0, .int .u8 0], .agg #[.int .u8 0, .int .u8 0, .int .u8 0, .int .u8 0, .int .u8 0, .int .u8 0, .int .u8 0]], []⟩ 8 (by kernel_rfl) (by kernel_rfl) (by kernel_rfl) (by kernel_rfl)) ?_
  intro W base args ds gs before hval0 hW hcnd _
  have hval : ∀ (j : Nat) t v, Try.f13.params[j]? = some t → args[j]? = some v → Value.okWide Try.prog W .any base t v := hval0
  have hW' := hW
  obtain ⟨p, q, hA0, hV, rfl, hfz, hnd⟩ := hW
  have hA : DataW.TrodAll enc Try.prog W 0 (fun _ => true) true Try.f13.params.toList args.toList ds p := hA0
  rw [Try.params13] at hA hval
  obtain ⟨v0, vs0, d0, ds0, p0, q0, hargs, rfl, rfl, h0, r0⟩ := trodAll_cons hA
  obtain ⟨v1, vs1, d1, ds1, p1, q1, rfl, rfl, rfl, h1, r1⟩ := trodAll_cons r0
  obtain ⟨rfl, rfl, rfl⟩ := trodAll_nil r1
  obtain rfl : args = #[v0, v1] := by cases args; simp_all
  obtain ⟨rfl, rfl⟩ := trodVars_none hV
  have k0 := h0
  have lt0 : ∀ x ∈ p0, x.block < W.heap.size := by obtain ⟨m, hm⟩ := k0; exact DataW.trod_lt m _ _ _ hm
  obtain ⟨cs0, rfl, hsz0⟩ := okWide_struct Try.underlying64 (hval 0 64 v0 rfl rfl)
  obtain ⟨zs0, hz0, rfl, hin0⟩ := RdI.v (RdI.struct3 Try.underlying64 (RdI.int Try.underlying5) (RdI.int Try.underlying5) (RdI.array Try.underlying62 Try.underlying5 cells5 cells62) cells5 cells5 cells62 rfl rfl rfl cells64) h0
  obtain ⟨a0_0, a0_1, a0_2, a0_3, a0_4, a0_5, a0_6, a0_7, a0_8, a0_9, a0_10, a0_11, rfl⟩ := len12 zs0 hz0
  have k1 := h1
  have lt1 : ∀ x ∈ p1, x.block < W.heap.size := by obtain ⟨m, hm⟩ := k1; exact DataW.trod_lt m _ _ _ hm
  obtain ⟨cs1, rfl, hsz1⟩ := okWide_array Try.underlying78 (hval 1 78 v1 rfl rfl)
  obtain ⟨zs1, hz1, rfl, hin1⟩ := RdI.v (RdI.array Try.underlying78 Try.underlying5 cells5 cells78) h1
  obtain ⟨a1_0, a1_1, a1_2, a1_3, a1_4, a1_5, a1_6, rfl⟩ := len7 zs1 hz1
  clear hA0 hval0
  refine (F13 (hin0 _ (by simp)) (hin0 _ (by simp)) (hin0 _ (by simp)) (hin0 _ (by simp)) (hin0 _ (by simp)) (hin0 _ (by simp)) (hin0 _ (by simp)) (hin0 _ (by simp)) (hin0 _ (by simp)) (hin0 _ (by simp)) (hin0 _ (by simp)) (hin0 _ (by simp)) (hin1 _ (by simp)) (hin1 _ (by simp)) (hin1 _ (by simp)) (hin1 _ (by simp)) (hin1 _ (by simp)) (hin1 _ (by simp)) (hin1 _ (by simp)) (named_made _ _ _ _ (Nat.le_refl _))).mono fun e W' hE => ?_
  obtain ⟨r, he, bel, hr⟩ := hE
  subst he
  subst hr
  exact ⟨_, rfl, _, _, _, [], _, [], hW', trodAll_mk1 (shut_bool Try.underlying4 _), (trodAll_cons_mk (Below.trod laidOut (by kernel_rfl) (of_decide_eq_true (by kernel_rfl)) k0 bel lt0) (trodAll_cons_mk (Below.trod laidOut (by kernel_rfl) (of_decide_eq_true (by kernel_rfl)) k1 bel lt1) trodAll_mk0)), rfl, bel.frame _, fun h => by cases h⟩

theorem over : Rows.styleNamedRow.holds Try.pinned (OpenSpec.ofChange Rows.styleNamedSpec) :=
  OpenClaim.holds_of_wide 13 Try.f13 rfl rfl rfl rfl rfl rfl rfl ⟨rfl, rfl, rfl, rfl, rfl⟩ rfl rfl rfl rfl rfl (by kernel_rfl) Try.func13 (by kernel_rfl)
    (of_decide_eq_true (by kernel_rfl)) (by unfold Func.isWrapper; first | (rw [if_pos (by decide +kernel)]; kernel_rfl) | (rw [if_neg (by decide +kernel)]; exact ⟨rfl, rfl⟩))
    (fun os started H enc _ => lifted os started H enc)

end Go.Proofs.Ytjmpojoimcljoaa.styleNamed
namespace Go.Proofs.Ytjmpojoimcljoaa
/-- The statement. -/
theorem styleNamed_proved : Rows.StyleNamedSaid := styleNamed.over
#print axioms styleNamed_proved
end Go.Proofs.Ytjmpojoimcljoaa
