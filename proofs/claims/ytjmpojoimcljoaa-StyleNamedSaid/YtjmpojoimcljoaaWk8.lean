/-
  WHAT IS PROVED HERE: more operations: part of an array that lies in a variable, as a slice; a slice compared with nil. Conditions stand in each statement; they hold over any program.
-/
import Derived.Test.YtjmpojoimcljoaaWk7
import Derived.WalkSpells
namespace Go.Wk
open Go.RowKit

section
variable {P : Program} {n : Nat} {w w0 : World} {O : List (Option Nat)} {obs : List Ob} {ty : TypeId} {σ : Fr} {T T' : TypeId} {x y z : Operand}

/-- a[:h] of an array in a variable. -/
theorem rd_sliceArrH {g o m : Nat} {e : TypeId} {sz : Nat} {h : Int} {k : IntKind} (hu : P.underlying T = some (.array m e)) (hsz : ∀ w', (sizeOf e).run P w' = .ok sz w') (hx : ev σ x = .pointer (some ⟨g, o, none⟩)) (hh : ev σ y = .int k h) (h0 : 0 ≤ h) (h1 : h ≤ m) :
    Rd P σ (.slice T x none (some y) none) ty w (.slice (some ⟨g, o, none⟩) h.toNat m) :=
  Rd.of fun w' => by
    have hr : (Instr.sliceAt T (.pointer (some ⟨g, o, none⟩)) none (some (.int k h)) none).run P w' = .ok (.slice (some ⟨g, o, none⟩) h.toNat m) w' := by
      simp [Instr.sliceAt, Instr.sureAddr, run_underlying hu, Instr.sliceBounds, run_sliceBound, h0, h1, hsz, Addr.add]
    simp only [xop, execOp, hx, hh, Option.map_some, Option.map_none, Sem.run_bind, hr]
    rfl

/-- A variable's array is not written any more: it is read as a slice. -/
theorem take_map_take {α β : Type} (f : α → β) (l : List α) (m : Nat) : (l.map f).take (l.take m).length = (l.take m).map f := by
  rw [List.map_take, List.length_take]
  rcases Nat.le_total m l.length with h | h
  · rw [Nat.min_eq_left h]
  · rw [Nat.min_eq_right h, List.take_of_length_le (by simp), List.take_of_length_le (by simpa using h)]
theorem St.sliceBox {g o : Nat} {e : TypeId} {cs : List Value} {k : IntKind} {xs : List Int} {cap m : Nat} (h : St w0 O w obs) (i : Nat) (hi : obs[i]? = some (.box g e cs)) (hc : (cs.drop o).take xs.length = xs.map (Value.int k)) (hin : ∀ x ∈ xs, InK k x)
    (hlen : xs.length = m) (h1 : m ≤ cap) (h2 : cap ≤ maxLen) : St w0 O w (Ob.v (tSl (tI k)) xs (.slice (some ⟨g, o, none⟩) m cap) :: obs.eraseIdx i) := by
  subst hlen
  have hb := h.get i hi
  have hs : St w0 O w (obs.eraseIdx i) := h.drop i
  refine hs.add (V.of_form h1 h2 fun hne => ⟨g, o, rfl, ?_, (Array.getElem?_eq_some_iff.1 hb.2).1, fun j x hj => ⟨[.int k x], ⟨rfl, hin x (List.mem_of_getElem? hj)⟩, fun q u hq => ?_⟩⟩)
  · intro hm
    rcases List.mem_append.1 hm with hm | hm
    · obtain ⟨ob, ho, he⟩ := List.mem_map.1 hm
      have hp := h.front i hi
      have hsep := (List.pairwise_cons.1 hp.sep).1 ob ho
      rcases hsep with hsep | hsep
      · cases hsep
      · exact hsep he.symm
    · have := h.olt g hm
      have hbb := hb.1
      omega
  · cases q with
    | succ q => simp at hq
    | zero =>
      simp only [List.getElem?_cons_zero, Option.some.injEq] at hq
      subst hq
      have hx : ((cs.drop o).take xs.length)[j]? = some (.int k x) := by rw [hc, List.getElem?_map, hj]; rfl
      rw [List.getElem?_take] at hx
      split at hx
      · rw [List.getElem?_drop] at hx
        have : (tI k).n = 1 := rfl
        rw [this, Nat.mul_one, Nat.add_zero]
        simp only [World.cell?, hb.2]
        simpa using hx
      · cases hx

theorem rd_eqlNilR {α : Type} {t : Ty α} {et e : TypeId} {v : Value} {ys : List α} (hS : St w0 O w obs) (i : Nat) (hi : obs[i]? = some (.row t et v ys)) (hx : ev σ x = v) (hy : ev σ y = .slice none 0 0) (hu : P.underlying T = some (.slice e)) (hn : ys = [] → v = .slice none 0 0) {b : Bool} (hb : decide (ys = []) = b) :
    Rd P σ (.binOp .eql T x y T') ty w (.bool b) :=
  Rd.of fun w' => by
    subst hb
    obtain ⟨cs, hr, _⟩ := hS.get i hi
    rcases hr.2 with ⟨rfl, hl⟩ | ⟨g, cap, cur, rfl, _⟩
    · have : ys = [] := List.eq_nil_of_length_eq_zero hl
      subst this
      have hq := Lib.run_eql_slice_nil (P := P) w' T e none 0 0 0 0 hu
      simp [xop, execOp, hx, hy, eqGuard_at_slice, hq]
    · have : ys ≠ [] := fun h => by cases hn h
      have hq := Lib.run_eql_slice_nil (P := P) w' T e (some ⟨g, 0, none⟩) ys.length cap 0 0 hu
      simp [xop, execOp, hx, hy, eqGuard_at_slice, hq, this]
/-- A slice that came in: nil only where it is empty. -/
theorem rd_eqlNilV {α : Type} {t : Ty α} {e : TypeId} {v : Value} {xs : List α} {F : List (Option Nat)} {W : World} (hv : V (tSl t) xs v F W) (hx : ev σ x = v) (hy : ev σ y = .slice none 0 0) (hu : P.underlying T = some (.slice e)) :
    ∃ u, Rd P σ (.binOp .eql T x y T') ty w u ∧ ∃ b, u = .bool b ∧ (b = true → xs = []) := by
  obtain ⟨a, cap, rfl, h1, h2, h3⟩ := hv.form
  refine ⟨.bool a.isNone, Rd.of fun w' => ?_, _, rfl, fun hb => ?_⟩
  · have hq := Lib.run_eql_slice_nil (P := P) w' T e a xs.length cap 0 0 hu
    simp [xop, execOp, hx, hy, eqGuard_at_slice, hq]
  · by_cases hne : xs = []
    · exact hne
    · obtain ⟨b, o, rfl, _⟩ := h3 hne
      cases hb
/-- x[:len(x):len(x)] -/
theorem rd_clip {α : Type} {t : Ty α} {e : TypeId} {v : Value} {xs : List α} {F : List (Option Nat)} {k1 k2 : IntKind} {i j : Int} (hv : V (tSl t) xs v F w) (hu : P.underlying T = some (.slice e)) (hsz : ∀ w', (sizeOf e).run P w' = .ok t.n w')
    (hx : ev σ x = v) (hy : ev σ y = .int k1 i) (hz : ev σ z = .int k2 j) (hi : i = xs.length) (hj : j = xs.length) :
    ∃ u, Rd P σ (.slice T x none (some y) (some z)) ty w u ∧ ∃ ad, u = .slice ad xs.length xs.length ∧ V (tSl t) xs u F w := by
  subst hi hj
  obtain ⟨ad, h1, h2⟩ := rd_sliceHM (ty := ty) hv hu hsz hx hy hz (Int.natCast_nonneg _) (Int.le_refl _) (Int.le_refl _)
  rw [Int.toNat_natCast, List.take_length] at h2
  rw [Int.toNat_natCast] at h1
  exact ⟨_, h1, ad, rfl, h2⟩
end
end Go.Wk
