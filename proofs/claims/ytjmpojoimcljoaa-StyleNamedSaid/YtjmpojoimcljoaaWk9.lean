/-
  WHAT IS PROVED HERE: more operations: an element of an array of numbers at a number that is not written out; slices that do not change, compared with nil. Conditions stand in each statement; they hold over any program.
-/
import Derived.Test.YtjmpojoimcljoaaWk8
import Derived.Laws.Cover3
namespace Go.Wk
open Go.RowKit

section
variable {P : Program} {n : Nat} {w w0 : World} {O : List (Option Nat)} {obs : List Ob} {ty : TypeId} {σ : Fr} {T T' : TypeId} {x y z : Operand}

theorem map_ix {α : Type} {d : α} (f : α → Value) {xs : List α} {j : Int} (h0 : 0 ≤ j) (h1 : j < xs.length) : (xs.map f)[j.toNat]? = some (f (ix d xs j)) := by
  rw [List.getElem?_map, ix_get (d := d) h1 h0]; rfl
/-- An element of an array in a variable. -/
theorem rd_loadXi {g : Nat} {e : TypeId} {cs : List Value} {α : Type} {d : α} {f : α → Value} {xs : List α} {j : Int} (hS : St w0 O w obs) (i : Nat) (hi : obs[i]? = some (.box g e cs)) (hx : ev σ x = .pointer (some ⟨g, 0 + j.toNat * 1, none⟩)) (hc : cs = xs.map f)
    (h0 : 0 ≤ j) (h1 : j < xs.length) (hag : ∀ w', (isAgg T).run P w' = .ok false w') : Rd P σ (.load T x) ty w (f (ix d xs j)) :=
  rd_loadX hS i hi hx (by rw [hc, Nat.zero_add, Nat.mul_one]; exact map_ix f h0 h1) hag
theorem rd_indexVi {s e : TypeId} {len : Nat} {cs : Array Value} {α : Type} {d : α} {f : α → Value} {xs : List α} {j : Int} {k : IntKind} (hx : ev σ x = .agg cs) (hi : ev σ y = .int k j) (hu : P.underlying s = some (.array len e)) (hsz : ∀ w', (sizeOf e).run P w' = .ok 1 w')
    (hag : ∀ w', (isAgg e).run P w' = .ok false w') (hc : cs = (xs.map f).toArray) (hl : len = xs.length) (h0 : 0 ≤ j) (h1 : j < xs.length) : Rd P σ (.index s x y) ty w (f (ix d xs j)) :=
  rd_indexV hx hi hu hsz hag h0 (by omega) (by rw [hc]; simpa using map_ix (d := d) f h0 h1)
theorem ix3 {p : Int → Prop} {a b c j : Int} (h0 : 0 ≤ j) (h1 : j < 3) (ha : p a) (hb : p b) (hc : p c) : p (ix 0 [a, b, c] j) := by
  have : j = 0 ∨ j = 1 ∨ j = 2 := by omega
  rcases this with rfl | rfl | rfl
  · exact ha
  · exact hb
  · exact hc
/-- A slice that does not change: nil where it is empty. -/
theorem rd_eqlNilI {α : Type} {t : Ty α} {e : TypeId} {v : Value} {xs : List α} {F : List (Option Nat)} {W : World} (hv : V (tSl t) xs v F W) (hx : ev σ x = v) (hy : ev σ y = .slice none 0 0) (hu : P.underlying T = some (.slice e)) (hn : xs = [] → v = .slice none 0 0) :
    Rd P σ (.binOp .eql T x y T') ty w (.bool (decide (xs = []))) :=
  Rd.of fun w' => by
    obtain ⟨a, cap, rfl, h1, h2, h3⟩ := hv.form
    by_cases hne : xs = []
    · subst hne
      have h4 := hn rfl
      simp only [Value.slice.injEq] at h4
      obtain ⟨rfl, h4, rfl⟩ := h4
      have hq := Lib.run_eql_slice_nil (P := P) w' T e none 0 0 0 0 hu
      simp [xop, execOp, hx, hy, eqGuard_at_slice, hq]
    · obtain ⟨b, o, rfl, _⟩ := h3 hne
      have hq := Lib.run_eql_slice_nil (P := P) w' T e (some ⟨b, o, none⟩) xs.length cap 0 0 hu
      simp [xop, execOp, hx, hy, eqGuard_at_slice, hq, hne]
theorem rd_neqlNilI {α : Type} {t : Ty α} {e : TypeId} {v : Value} {xs : List α} {F : List (Option Nat)} {W : World} (hv : V (tSl t) xs v F W) (hx : ev σ x = v) (hy : ev σ y = .slice none 0 0) (hu : P.underlying T = some (.slice e)) (hn : xs = [] → v = .slice none 0 0) :
    Rd P σ (.binOp .neq T x y T') ty w (.bool (!decide (xs = []))) :=
  Rd.of fun w' => by
    obtain ⟨a, cap, rfl, h1, h2, h3⟩ := hv.form
    by_cases hne : xs = []
    · subst hne
      have h4 := hn rfl
      simp only [Value.slice.injEq] at h4
      obtain ⟨rfl, h4, rfl⟩ := h4
      have hq := run_neq_slice_nil (P := P) w' T e none 0 0 hu
      simp [xop, execOp, hx, hy, eqGuard_at_slice, hq]
    · obtain ⟨b, o, rfl, _⟩ := h3 hne
      have hq := run_neq_slice_nil (P := P) w' T e (some ⟨b, o, none⟩) xs.length cap hu
      simp [xop, execOp, hx, hy, eqGuard_at_slice, hq, hne]
end
end Go.Wk
