/-
  WHAT IS PROVED HERE: an argument that reads as data is, in the world at the start, a value that stands for a plain list, number, or pair (V of Wk2). Conditions: the types' closed facts, as hypotheses.
-/
import Derived.Test.YtjmpojoimcljoaaWk5
import Derived.Deep.Slices
import Derived.Lib.SmallJoins
import Derived.OpenShut
import Derived.Carry
import Derived.ProofKit
namespace Go.Wk
open Go.RowKit Go.ChangeShapes

section
variable {H : Type} {enc : TypeId × Value → H} {P : Program} {W : World}

theorem inK_of_wf {k : IntKind} {n : Int} (h : (Lit.int k n).wf = true) : InK k n := by
  cases k <;> simp [Lit.wf, IntKind.min, IntKind.max, IntKind.bits, IntKind.signed] at h <;> simp only [InK, lo, hi] <;> omega

theorem cell_lt {a : Addr} {v : Value} (h : W.cell? a = some v) : a.block < W.heap.size := by
  by_cases hb : a.block < W.heap.size
  · exact hb
  · have : W.heap[a.block]? = none := by simp; omega
    simp [World.cell?, this] at h

theorem add_add (a : Addr) (i j : Nat) : (a.add i).add j = a.add (i + j) := by
  obtain ⟨b, o, s⟩ := a
  by_cases hi : i = 0
  · subst hi; simp [Addr.add]
  · by_cases hj : j = 0
    · subst hj; simp [Addr.add]
    · simp [Addr.add, hi, hj, Nat.add_assoc]
/-- What reads as data of type e stands for a y. -/
structure Rds {α : Type} (enc : TypeId × Value → H) (P : Program) (W : World) (t : Ty α) (e : TypeId) : Prop where
  n : P.cellsOf e = t.n
  pos : 0 < t.n
  get : ∀ fuel cs x, DataW.trod enc P W 0 (fun _ => true) true fuel e cs = some x → ∃ y, t.rep [] W y cs

theorem Rds.int {k : IntKind} {e : TypeId} (hu : P.underlying e = some (.int k)) (hc : P.cellsOf e = 1) : Rds enc P W (tI k) e :=
  ⟨hc, Nat.one_pos, fun _ _ _ h => let ⟨n, h1, _, h3⟩ := DataW.trod_int hu h; ⟨n, h1, inK_of_wf h3⟩⟩

theorem list_of {α : Type} {p : Nat → α → Prop} : ∀ n : Nat, (∀ i, i < n → ∃ y, p i y) → ∃ ys : List α, ys.length = n ∧ ∀ i y, ys[i]? = some y → p i y
  | 0, _ => ⟨[], rfl, by simp⟩
  | n + 1, h => by
    obtain ⟨ys, h1, h2⟩ := list_of n (fun i hi => h i (by omega))
    obtain ⟨y, hy⟩ := h n (by omega)
    refine ⟨ys ++ [y], by simp [h1], fun i z hz => ?_⟩
    by_cases hi : i < ys.length
    · rw [List.getElem?_append_left hi] at hz; exact h2 i z hz
    · rw [List.getElem?_append_right (by omega)] at hz
      have : i - ys.length = 0 := by
        rcases Nat.eq_zero_or_pos (i - ys.length) with h | h
        · exact h
        · rw [List.getElem?_eq_none (by simp; omega)] at hz; cases hz
      rw [this] at hz
      simp at hz
      subst hz
      have : i = n := by omega
      rw [this]; exact hy

theorem Rds.sl {α : Type} {t : Ty α} {e s : TypeId} (h : Rds enc P W t e) (hu : P.underlying s = some (.slice e)) (hc : P.cellsOf s = 1) : Rds enc P W (tSl t) s := by
  refine ⟨hc, Nat.one_pos, fun fuel cs x hx => ?_⟩
  rcases Go.Deep.open_slice hu hx with ⟨rfl, _⟩ | ⟨a, len, cap, m, n, D, Pl, rfl, _, hl, hm, hmm, _, hel⟩
  · exact ⟨[], none, 0, rfl, Nat.le_refl _, Nat.zero_le _, fun h => (h rfl).elim⟩
  · obtain ⟨ys, hy1, hy2⟩ := list_of (p := fun i y => ∃ cs', W.cells? 0 (a.add (i * P.cellsOf e)) (P.cellsOf e) = some cs' ∧ t.rep [] W y cs') len (fun i hi => by
      obtain ⟨cs', h1, h2⟩ := hel i (by simp at hmm; omega)
      obtain ⟨y, hy⟩ := h.get _ _ _ h2
      exact ⟨y, cs', h1, hy⟩)
    refine ⟨ys, some a, cap, by rw [hy1], by omega, hm, fun hn => ?_⟩
    have hp : 0 < ys.length := by cases ys with | nil => exact (hn rfl).elim | cons => simp
    have hcell : ∀ i y, ys[i]? = some y → ∃ es, t.rep [] W y es ∧ ∀ j u, es[j]? = some u → W.cell? (a.add (i * t.n + j)) = some u := by
      intro i y hi
      obtain ⟨cs', h1, h2⟩ := hy2 i y hi
      obtain ⟨_, hlen, hc'⟩ := World.cells?_some h1
      refine ⟨cs', h2, fun j u hu' => ?_⟩
      have hj : j < P.cellsOf e := by
        obtain ⟨hlt, _⟩ := List.getElem?_eq_some_iff.1 hu'
        omega
      have := hc' j hj
      rw [hu', h.n, add_add] at this
      exact this
    obtain ⟨y0, hy0⟩ : ∃ y, ys[0]? = some y := ⟨ys[0], List.getElem?_eq_getElem hp⟩
    obtain ⟨es, he, hce⟩ := hcell 0 y0 hy0
    have hel' := t.len he
    obtain ⟨u0, hu0⟩ : ∃ u, es[0]? = some u := ⟨es[0]'(by have := h.pos; omega), List.getElem?_eq_getElem _⟩
    have hc0 := hce 0 u0 hu0
    obtain ⟨b, o, spot⟩ := a
    have hspot : spot = none := by simpa [Addr.add] using World.cell?_spot hc0
    subst hspot
    refine ⟨b, o, rfl, by simp, by simpa [Addr.add] using cell_lt hc0, fun i x hx => ?_⟩
    obtain ⟨es', he', hce'⟩ := hcell i x hx
    exact ⟨es', he', fun j u hu' => by rw [Nat.add_assoc, ← Go.WideShapes.add_plain]; exact hce' j u hu'⟩

/-- A slice's value: an argument, or one field of a struct. -/
theorem Rds.v {α : Type} {t : Ty α} {e : TypeId} {v : Value} {d : DataW H} {p : List MemPlace} (h : Rds enc P W (tSl t) e) (hx : DataW.Trod enc P W 0 (fun _ => true) true e v d p) (hone : v.oneCell' = true) : ∃ y, V (tSl t) y v [] W := by
  obtain ⟨fuel, hf⟩ := hx
  obtain ⟨y, hy⟩ := h.get _ _ _ hf
  rw [cells_one hone] at hy
  obtain ⟨a, cap, h1, h2⟩ := hy
  exact ⟨y, [v], by simp at h1; rw [h1]; rfl, a, cap, h1, h2⟩
theorem Rds.v1 {α : Type} {t : Ty α} {e : TypeId} {v : Value} {fuel : Nat} {x : DataW H × List MemPlace} (h : Rds enc P W (tSl t) e) (hx : DataW.trod enc P W 0 (fun _ => true) true fuel e [v] = some x) : ∃ y, V (tSl t) y v [] W := by
  obtain ⟨y, a, cap, h1, h2⟩ := h.get _ _ _ hx
  exact ⟨y, [v], by simp at h1; rw [h1]; rfl, a, cap, h1, h2⟩
end
end Go.Wk
