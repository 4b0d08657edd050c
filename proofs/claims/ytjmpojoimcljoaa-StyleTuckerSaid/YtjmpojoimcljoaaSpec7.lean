/-
  WHAT IS SAID HERE: plain laws of lists that the walks of StyleTucker and of the statements behind it ask for. Conditions stand in each statement.
-/
import Derived.Test.YtjmpojoimcljoaaSpec6
namespace Go.Proofs.Ytjmpojoimcljoaa
open Go.Wk

theorem up_start0 {n : Nat} {L : Int} (h : L = n) : List.replicate n (0 : Int) = up 0 (Int.toNat 0) ++ List.replicate (L - 0).toNat 0 := by
  rw [show (L - 0).toNat = n by omega]; rfl
theorem ix_mem {xs : List Int} {j : Int} (h0 : 0 ≤ j) (h : j < xs.length) : ix 0 xs j ∈ xs := List.mem_of_getElem? (ix_get h h0)
theorem relab_done {a b y : Int} {l : List Int} (h : (l.length : Int) ≤ y) : (relab a b l).take y.toNat ++ l.drop y.toNat = relab a b l := by
  rw [List.take_of_length_le (by rw [relab_len]; omega), List.drop_of_length_le (by omega), List.append_nil]
theorem up_bd {L x : Int} (h : x ∈ up L L.toNat) : 0 ≤ x ∧ x < L := by
  have := (up_mem _).1 h; omega
/-- The three layers that are found are layers. -/
theorem wy_bd {L : Int} {fs : List (List Int)} {P : Int → Prop} {rest : List (Int × Int × Int)} (h : ∀ t ∈ rest, P t.1 ∧ P t.2.1 ∧ P t.2.2) : ∀ z ∈ wy L fs [] rest, P z := by
  intro z hz
  rw [wy, if_pos rfl] at hz
  cases hf : rest.find? (pickT L fs) with
  | none => rw [hf] at hz; simp at hz
  | some t =>
    rw [hf] at hz
    have ht := h t (List.mem_of_find?_eq_some hf)
    simp only [List.mem_cons, List.not_mem_nil, or_false] at hz
    rcases hz with rfl | rfl | rfl
    · exact ht.1
    · exact ht.2.1
    · exact ht.2.2
theorem whyT_bd {L : Int} {fs : List (List Int)} (h : [(whyT L fs).1, (whyT L fs).2.1, (whyT L fs).2.2] = whyW L fs) :
    (0 ≤ (whyT L fs).1 ∧ (whyT L fs).1 < L) ∧ (0 ≤ (whyT L fs).2.1 ∧ (whyT L fs).2.1 < L) ∧ (0 ≤ (whyT L fs).2.2 ∧ (whyT L fs).2.2 < L) := by
  have hb := wy_bd (L := L) (fs := fs) (P := fun z => 0 ≤ z ∧ z < L) (rest := prA L L.toNat) (fun t ht => by
    simp only [prA, prB, prC, List.mem_flatMap, List.mem_map] at ht
    obtain ⟨a, ha, b, hb, c, hc, rfl⟩ := ht
    exact ⟨up_bd ha, up_bd hb, up_bd hc⟩)
  rw [← whyW, ← h] at hb
  exact ⟨hb _ (by simp), hb _ (by simp), hb _ (by simp)⟩
end Go.Proofs.Ytjmpojoimcljoaa
