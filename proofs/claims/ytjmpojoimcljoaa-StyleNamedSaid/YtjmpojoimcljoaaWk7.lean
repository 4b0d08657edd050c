/-
  WHAT IS PROVED HERE: calls that write variables, or slices, of the caller's own, which are lent to them: the state of the caller goes in and comes back. Conditions stand in each statement; they hold over any program.
-/
import Derived.Test.YtjmpojoimcljoaaWk5
namespace Go.Wk
open Go.RowKit

section
variable {P : Program} {n : Nat} {w w0 w' : World} {O : List (Option Nat)} {obs : List Ob} {ops : Array Oper} {rest : List Oper} {k : Cont} {ty : TypeId} {pos : String} {af : Array Edge}
  {l : List (Nat × Value)} {σ0 : Fr}

/-- A call that says what it leaves of the caller's state. -/
theorem Wx.callB {d : Tmp} {c : Call} {f : FuncId} {args : Array Value} {Q : Value → World → Prop}
    (hrun : ∀ w', (xop (ev (look l σ0)) (.call c) ty).run P w' = .ok (.enter f args) w') (hc : Calls P f args w (Bk Q)) (hd : Nat.ble (d + 1) n = true)
    (h : ∀ r w', Q r w' → Wx P n ops false rest k (look ((d, r) :: l) σ0) w') : Wx P n ops false (⟨some d, .call c, ty, pos, af, none⟩ :: rest) k (look l σ0) w :=
  Wo.callB (hrun w) hc hd fun r w' hq => by
    have := h r w' hq
    rw [look_cons] at this
    exact this
theorem Wx.callU {c : Call} {f : FuncId} {args : Array Value} {Q : Value → World → Prop}
    (hrun : ∀ w', (xop (ev (look l σ0)) (.call c) ty).run P w' = .ok (.enter f args) w') (hc : Calls P f args w (Bk Q))
    (h : ∀ r w', Q r w' → Wx P n ops false rest k (look l σ0) w') : Wx P n ops false (⟨none, .call c, ty, pos, af, none⟩ :: rest) k (look l σ0) w :=
  Wo.callB (hrun w) hc rfl fun r w' hq => h r w' hq

theorem fb_perm {obs' : List Ob} (h : obs'.Perm obs) (x : Option Nat) : x ∈ fb obs' O ↔ x ∈ fb obs O := by
  simp only [fb, List.mem_append]
  rw [(h.map Ob.blk).mem_iff]

/-- The objects, in another order. -/
theorem St.perm {obs' : List Ob} (h : St w0 O w obs) (hp : obs'.Perm obs) : St w0 O w obs' := by
  have hM : Mv (fb obs O) (fb obs' O) w w := .less fun _ hb => (fb_perm hp _).1 hb
  refine ⟨h.bel, h.olt, fun ob ho => Ob.ok_ext (h.ok ob (hp.mem_iff.1 ho)) (Ext.refl _) hM, h.sep.perm hp.symm ?_⟩
  intro a b hab
  rcases hab with hab | hab
  · cases hb : b.blk with
    | none => exact .inl rfl
    | some x => exact .inr (by rw [hab]; simp)
  · exact .inr (fun e => hab e.symm)

theorem St.pull {A R pre : List Ob} (h : St w0 O w (pre ++ (A ++ R))) : St w0 O w (A ++ (pre ++ R)) :=
  h.perm (by rw [← List.append_assoc, ← List.append_assoc]; exact List.perm_append_comm.append_right R)
theorem V.permF {α : Type} {t : Ty α} {x : α} {v : Value} {W : World} {obs' : List Ob} (h : V t x v (fb obs O) W) (hp : obs'.Perm obs) : V t x v (fb obs' O) W := h.mv (.less fun _ hb => (fb_perm hp _).1 hb)
theorem V.pull {α : Type} {t : Ty α} {x : α} {v : Value} {W : World} {A R pre : List Ob} (h : V t x v (fb (pre ++ (A ++ R)) O) W) : V t x v (fb (A ++ (pre ++ R)) O) W :=
  h.permF (by rw [← List.append_assoc, ← List.append_assoc]; exact List.perm_append_comm.append_right R)

theorem erase_perm {α : Type 1} : ∀ (l : List α) (i : Nat) (a : α), l[i]? = some a → (a :: l.eraseIdx i).Perm l
  | [], i, a, h => by simp at h
  | x :: l, 0, a, h => by
    simp only [List.getElem?_cons_zero, Option.some.injEq] at h
    subst h; exact List.Perm.refl _
  | x :: l, i + 1, a, h => by
    simp only [List.getElem?_cons_succ] at h
    rw [List.eraseIdx_cons_succ]
    exact (List.Perm.swap x a _).trans ((erase_perm l i a h).cons x)
theorem St.front {a : Ob} (h : St w0 O w obs) (i : Nat) (hi : obs[i]? = some a) : St w0 O w (a :: obs.eraseIdx i) := by
  exact h.perm (erase_perm obs i a hi)
/-- A call of the caller's own state, as a call of a function that leaves old memory as it was. -/
theorem ret_of_bk {f : FuncId} {args : Array Value} {Q Q' : Value → World → Prop} (h : Calls P f args w (Bk Q)) (hq : ∀ r w', Q r w' → Ext w w' ∧ Q' r w') : Calls P f args w (Ret w Q') :=
  h.mono fun _ _ ⟨r, he, hr⟩ => ⟨r, he, (hq r _ hr).1, (hq r _ hr).2⟩
end
end Go.Wk
