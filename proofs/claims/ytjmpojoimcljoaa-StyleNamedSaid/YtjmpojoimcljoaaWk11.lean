/-
  WHAT IS PROVED HERE: one half of a pair in a row of the call's own; a table of values in a variable, read and written at a number that is not written out. Conditions stand in each statement; they hold over any program.
-/
import Derived.Test.YtjmpojoimcljoaaWk10
namespace Go.Wk
open Go.RowKit

section
variable {P : Program} {n : Nat} {w w0 w' : World} {O : List (Option Nat)} {obs : List Ob} {ops : Array Oper} {rest : List Oper} {k : Cont} {d : Tmp} {ty : TypeId} {pos : String} {af : Array Edge}
  {l : List (Nat × Value)} {σ0 σ : Fr} {T T' : TypeId} {x y z lo hi mx : Operand} {k1 k2 : IntKind}

theorem row_pair {e : TypeId} {v : Value} {ys : List (Int × Int)} {g : Nat} {m : Int} (hS : St w0 O w obs) (i : Nat) (hi : obs[i]? = some (.row (tP (tI k1) (tI k2)) e v ys)) (hg : v.ownBlock = some g) (h0 : 0 ≤ m) (h1 : m < ys.length) :
    InK k1 (ix (0, 0) ys m).1 ∧ InK k2 (ix (0, 0) ys m).2 ∧ g < w.heap.size ∧ w.cell? ⟨g, m.toNat * 2 + 0, none⟩ = some (.int k1 (ix (0, 0) ys m).1) ∧ w.cell? ⟨g, m.toNat * 2 + 1, none⟩ = some (.int k2 (ix (0, 0) ys m).2) := by
  obtain ⟨es, ⟨c, d, rfl, ⟨rfl, p1⟩, ⟨rfl, p2⟩⟩, q1, q2⟩ := PtE.row hS i hi hg (ix_get (d := (0, 0)) h1 h0)
  exact ⟨p1, p2, q1, q2 0 _ rfl, q2 1 _ rfl⟩
theorem rd_loadR1 {e : TypeId} {v : Value} {ys : List (Int × Int)} {g : Nat} {m : Int} (hS : St w0 O w obs) (i : Nat) (hi : obs[i]? = some (.row (tP (tI k1) (tI k2)) e v ys)) (hg : v.ownBlock = some g)
    (hx : ev σ x = .pointer (some ⟨g, m.toNat * 2 + 0, none⟩)) (h0 : 0 ≤ m) (h1 : m < ys.length) (hag : ∀ w', (isAgg T).run P w' = .ok false w') : Rd P σ (.load T x) ty w (.int k1 (ix (0, 0) ys m).1) := by
  obtain ⟨_, _, q1, q2, _⟩ := row_pair hS i hi hg h0 h1
  intro w' hw'
  have hl : (loadVar T ⟨g, m.toNat * 2 + 0, none⟩).run P w' = .ok (.int k1 (ix (0, 0) ys m).1) w' := run_load1 hag ((World.cell?_of_block (hw'.block g q1)).trans q2)
  simp only [xop, execOp, hx, Instr.loadAt, Instr.sureAddr, Sem.run_bind, Sem.run_pure, Result.andThen_ok, hl]
theorem rd_loadR2 {e : TypeId} {v : Value} {ys : List (Int × Int)} {g : Nat} {m : Int} (hS : St w0 O w obs) (i : Nat) (hi : obs[i]? = some (.row (tP (tI k1) (tI k2)) e v ys)) (hg : v.ownBlock = some g)
    (hx : ev σ x = .pointer (some ⟨g, m.toNat * 2 + 1, none⟩)) (h0 : 0 ≤ m) (h1 : m < ys.length) (hag : ∀ w', (isAgg T).run P w' = .ok false w') : Rd P σ (.load T x) ty w (.int k2 (ix (0, 0) ys m).2) := by
  obtain ⟨_, _, q1, _, q2⟩ := row_pair hS i hi hg h0 h1
  intro w' hw'
  have hl : (loadVar T ⟨g, m.toNat * 2 + 1, none⟩).run P w' = .ok (.int k2 (ix (0, 0) ys m).2) w' := run_load1 hag ((World.cell?_of_block (hw'.block g q1)).trans q2)
  simp only [xop, execOp, hx, Instr.loadAt, Instr.sureAddr, Sem.run_bind, Sem.run_pure, Result.andThen_ok, hl]

theorem rd_indexO {s e : TypeId} {g len c sz : Nat} {m : Int} {k : IntKind} (hu : P.underlying s = some (.slice e)) (hsz : ∀ w', (sizeOf e).run P w' = .ok sz w') (hx : ev σ x = .slice (some ⟨g, 0, none⟩) len c) (hi : ev σ y = .int k m) (h0 : 0 ≤ m) (h1 : m < len) :
    Rd P σ (.indexAddr s x y) ty w (.pointer (some ⟨g, m.toNat * sz, none⟩)) := by
  have := run_indexSl (P := P) (w := w) (ty := ty) hx hi hu hsz h0 h1
  rwa [Addr.add_lit, Nat.zero_add] at this

/-! ### tables -/
theorem rd_loadXa {g o : Nat} {e : TypeId} {α : Type} {d : α} {f : α → Value} {xs : List α} {j : Int} (hS : St w0 O w obs) (i : Nat) (hi : obs[i]? = some (.box g e (xs.map f))) (hx : ev σ x = .pointer (some ⟨g, o, none⟩)) (ho : o = j.toNat)
    (h0 : 0 ≤ j) (h1 : j < xs.length) (hag : ∀ w', (isAgg T).run P w' = .ok false w') : Rd P σ (.load T x) ty w (f (ix d xs j)) :=
  rd_loadX hS i hi hx (by rw [ho]; exact map_ix f h0 h1) hag
theorem set_splice {α : Type} (l : List α) (o : Nat) (v : α) (h : o < l.length) : l.take o ++ [v] ++ l.drop (o + 1) = l.set o v := by
  rw [List.set_eq_take_append_cons_drop, if_pos h, List.append_assoc]; rfl
theorem Wx.storeXa {g o : Nat} {e : TypeId} {α : Type} {f : α → Value} {xs : List α} {j : Int} {u : α} (hS : St w0 O w obs) (i : Nat) (hi : obs[i]? = some (.box g e (xs.map f))) (hx : ev (look l σ0) x = .pointer (some ⟨g, o, none⟩)) (ho : o = j.toNat)
    (hy : ev (look l σ0) y = f u) (hv : (f u).cells = #[f u]) (h1 : (f u).oneCell' = true) (hsz : ∀ w', (sizeOf T).run P w' = .ok 1 w') (h0 : 0 ≤ j) (hj : j < xs.length)
    (h : ∀ w', w.heap.size ≤ w'.heap.size → St w0 O w' (obs.set i (.box g e ((xs.set j.toNat u).map f))) → Wx P n ops false rest k (look l σ0) w') :
    Wx P n ops false (⟨none, .store T x y, ty, pos, af, none⟩ :: rest) k (look l σ0) w := by
  have hlt : o < (xs.map f).length := by rw [List.length_map]; omega
  refine Wx.storeX (ds := [f u]) hS i hi hx hy hv hsz (by simp only [List.length_cons, List.length_nil]; omega) (by intro q hq; rw [List.mem_singleton] at hq; rw [hq]; exact h1) (set_splice _ _ _ hlt) (fun w' hw hS' => h w' hw ?_)
  rw [ho] at hS'
  rw [List.map_set]
  exact hS'
end
end Go.Wk
