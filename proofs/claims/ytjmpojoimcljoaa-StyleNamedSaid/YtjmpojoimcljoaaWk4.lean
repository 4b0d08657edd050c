/-
  WHAT IS PROVED HERE: what each operation that makes or writes memory leaves behind: new variables, stores, literals of slices, make, append, copy. Conditions stand in each statement (bounds on sizes); they hold over any program.
-/
import Derived.Test.YtjmpojoimcljoaaWk3
namespace Go.Wk
open Go.RowKit

/-- What is known of a slice type, its elements' type, and an element's zero, cells and bytes. -/
structure ElemI (P : Program) (T e : TypeId) (z : Value) (n bytes : Nat) : Prop where
  und : P.underlying T = some (.slice e)
  info : ∃ i, P.info? e = some i ∧ i.zero = some z ∧ i.size = n ∧ i.bytes = bytes
  zn : z.cells.size = n
  pos : 0 < n

theorem ElemI.of {P : Program} {T e : TypeId} {z : Value} {n bytes : Nat} (hu : P.underlying T = some (.slice e)) (hi : ((P.info? e).map fun i => (i.zero, i.size, i.bytes)) = some (some z, n, bytes)) (hz : z.cells.size = n) (hp : 0 < n) :
    ElemI P T e z n bytes := by
  refine ⟨hu, ?_, hz, hp⟩
  match hq : P.info? e, hi with
  | none, hi => cases hi
  | some i, hi => injection hi with hi; injection hi with h1 h2; injection h2 with h2 h3; exact ⟨i, rfl, h1, h2, h3⟩

theorem ElemI.size {P : Program} {T e : TypeId} {z : Value} {n bytes : Nat} (h : ElemI P T e z n bytes) (w : World) : (sizeOf e).run P w = .ok n w := by
  obtain ⟨i, h1, h2, h3, h4⟩ := h.info
  simp [sizeOf, typeInfo, h1, h3]

section
variable {P : Program} {n : Nat} {w w0 : World} {O : List (Option Nat)} {obs : List Ob} {ops : Array Oper} {rest : List Oper} {k : Cont} {d : Tmp} {ty : TypeId} {pos : String} {af : Array Edge}
  {l : List (Nat × Value)} {σ0 : Fr} {T : TypeId} {x y : Operand}

theorem Wx.val {op : Op} {v : Value} {w' : World} (hrun : (xop (ev (look l σ0)) op ty).run P w = .ok (.value v) w') (hd : Nat.ble (d + 1) n = true) (h : Wx P n ops false rest k (look ((d, v) :: l) σ0) w') :
    Wx P n ops false (⟨some d, op, ty, pos, af, none⟩ :: rest) k (look l σ0) w :=
  Wo.val hrun hd (by rw [look_cons] at h; exact h)
theorem Wx.unit {op : Op} {w' : World} (hrun : (xop (ev (look l σ0)) op ty).run P w = .ok .skip w') (h : Wx P n ops false rest k (look l σ0) w') :
    Wx P n ops false (⟨none, op, ty, pos, af, none⟩ :: rest) k (look l σ0) w :=
  Wo.unit hrun rfl h

/-- A variable made with its value. -/
theorem Wx.box {v : Value} {cs : List Value} (hS : St w0 O w obs) (hx : ev (look l σ0) x = v) (hc : v.cells = cs.toArray) (hd : Nat.ble (d + 1) n = true)
    (h : ∀ g w', Ext w w' → w.heap.size ≤ g → St w0 O w' (.box g T cs :: obs) → Wx P n ops false rest k (look ((d, .pointer (some ⟨g, 0, none⟩)) :: l) σ0) w') :
    Wx P n ops false (⟨some d, .box T x, ty, pos, af, none⟩ :: rest) k (look l σ0) w := by
  refine Wx.val (v := .pointer (some ⟨w.heap.size, 0, none⟩)) (w' := w.alloc (.cells cs.toArray T)) ?_ hd (h _ _ ((Below.refl _ _).alloc (Nat.le_refl _) _) (Nat.le_refl _) (hS.new T cs))
  simp [xop, execOp, Instr.box, newVar, newRow, hx, hc]

/-- A variable made with its zero. -/
theorem Wx.alloc {z : Value} {cs : List Value} (hS : St w0 O w obs) (hz : ∀ w', (zeroValue T).run P w' = .ok z w') (hc : z.cells = cs.toArray) (hd : Nat.ble (d + 1) n = true)
    (h : ∀ g w', Ext w w' → w.heap.size ≤ g → St w0 O w' (.box g T cs :: obs) → Wx P n ops false rest k (look ((d, .pointer (some ⟨g, 0, none⟩)) :: l) σ0) w') :
    Wx P n ops false (⟨some d, .alloc T, ty, pos, af, none⟩ :: rest) k (look l σ0) w := by
  refine Wx.val (v := .pointer (some ⟨w.heap.size, 0, none⟩)) (w' := w.alloc (.cells cs.toArray T)) ?_ hd (h _ _ ((Below.refl _ _).alloc (Nat.le_refl _) _) (Nat.le_refl _) (hS.new T cs))
  simp [xop, execOp, Instr.alloc, hz, newVar, newRow, hc]

theorem run_storeAt {P : Program} {w : World} {T : TypeId} {g o : Nat} {cur : Array Value} {e : TypeId} {v : Value} {ds : List Value} (hg : w.heap[g]? = some (.cells cur e (0, 0))) (hv : v.cells = ds.toArray)
    (hsz : ∀ w', (sizeOf T).run P w' = .ok ds.length w') (hfit : o + ds.length ≤ cur.size) (h1 : ∀ u ∈ ds, u.oneCell' = true) :
    (Instr.storeAt T (.pointer (some ⟨g, o, none⟩)) v).run P w = .ok () (w.setRow g (cur.toList.take o ++ ds ++ cur.toList.drop (o + ds.length)).toArray) := by
  have hst := run_storeCells_at P g o e ds 0 cur w hg (by simpa using hfit) h1
  simp only [Nat.add_zero] at hst
  simp [Instr.storeAt, Instr.sureAddr, storeVar, hv, hsz, hst]

theorem setRow_size' (w : World) (g : Nat) (cs : Array Value) : (w.setRow g cs).heap.size = w.heap.size := by simp

/-- A store into a variable of the call's own. -/
theorem Wx.storeX {g : Nat} {e : TypeId} {cs cs' ds : List Value} {o : Nat} {v : Value} (hS : St w0 O w obs) (i : Nat) (hi : obs[i]? = some (.box g e cs)) (hx : ev (look l σ0) x = .pointer (some ⟨g, o, none⟩))
    (hy : ev (look l σ0) y = v) (hv : v.cells = ds.toArray) (hsz : ∀ w', (sizeOf T).run P w' = .ok ds.length w') (hfit : o + ds.length ≤ cs.length) (h1 : ∀ u ∈ ds, u.oneCell' = true)
    (hcs : cs.take o ++ ds ++ cs.drop (o + ds.length) = cs') (h : ∀ w', w.heap.size ≤ w'.heap.size → St w0 O w' (obs.set i (.box g e cs')) → Wx P n ops false rest k (look l σ0) w') :
    Wx P n ops false (⟨none, .store T x y, ty, pos, af, none⟩ :: rest) k (look l σ0) w := by
  have hb := hS.get i hi
  refine Wx.unit (w' := w.setRow g cs'.toArray) ?_ (h _ (by simp) ?_)
  · have := run_storeAt (P := P) (T := T) (o := o) hb.2 hv hsz (by simpa using hfit) h1
    rw [show cs.toArray.toList = cs from rfl, hcs] at this
    simp [xop, execOp, hx, hy, this]
  · refine hS.turn i hi rfl rfl rfl (by simp) (fun b _ hb' => setRow_other w g b _ (fun hq => hb' (by rw [hq]; rfl))) (fun b hb' => .inl hb') (fun b hb' => by simpa using (Ob.ok_lt hb hb').2) (fun F _ => ?_)
    exact ⟨hb.1, setRow_heap w g _ _ e _ hb.2⟩

theorem mul_lt_seg {i j m : Nat} (h : i < j) : i * m + m ≤ j * m := by
  have := Nat.mul_le_mul_right m (Nat.succ_le_of_lt h)
  rwa [Nat.succ_mul] at this

theorem Reps.set {α : Type} {t : Ty α} {F : List (Option Nat)} {ys : List α} {cs ds : List Value} {j : Nat} {y : α} (h : Reps t F w ys cs) (hj : j < ys.length) (hd : t.rep F w y ds) :
    Reps t F w (ys.set j y) (cs.take (j * t.n) ++ ds ++ cs.drop (j * t.n + ds.length)) := by
  have hdl := t.len hd
  have hjn := mul_lt_seg (m := t.n) hj
  have htl : (cs.take (j * t.n)).length = j * t.n := by rw [List.length_take, h.1]; omega
  refine ⟨by simp only [List.length_append, List.length_take, List.length_drop, List.length_set, h.1, hdl]; omega, fun i z hz => ?_⟩
  rw [List.getElem?_set] at hz
  split at hz
  · rename_i hij
    subst hij
    injection hz with hz
    subst hz
    rw [List.append_assoc, List.drop_append, List.drop_of_length_le (by omega), List.nil_append, htl, Nat.sub_self, List.drop_zero, List.take_append, List.take_of_length_le (by omega), hdl, Nat.sub_self, List.take_zero, List.append_nil]
    exact hd
  · rename_i hij
    have hil : i < ys.length := (List.getElem?_eq_some_iff.1 hz).1
    have hin := mul_lt_seg (m := t.n) hil
    have e : ((cs.take (j * t.n) ++ ds ++ cs.drop (j * t.n + ds.length)).drop (i * t.n)).take t.n = (cs.drop (i * t.n)).take t.n := by
      apply List.ext_getElem?
      intro q
      rw [List.getElem?_take, List.getElem?_take]
      by_cases hq : q < t.n
      · rw [if_pos hq, if_pos hq, List.getElem?_drop, List.getElem?_drop]
        rcases Nat.lt_or_gt_of_ne hij with hlt | hlt
        · have := mul_lt_seg (m := t.n) hlt
          rw [List.getElem?_append_right (by simp only [List.length_append, htl, hdl]; omega)]
          rw [List.getElem?_drop]
          congr 1
          simp only [List.length_append, htl, hdl]
          omega
        · have := mul_lt_seg (m := t.n) hlt
          rw [List.append_assoc, List.getElem?_append_left (by omega), List.getElem?_take_of_lt (by omega)]
      · rw [if_neg hq, if_neg hq]
    rw [e]
    exact h.2 i z hz

theorem take_splice (l ds : List Value) (o m : Nat) (h : o + ds.length ≤ m) (hm : m ≤ l.length) :
    (l.take o ++ ds ++ l.drop (o + ds.length)).take m = (l.take m).take o ++ ds ++ (l.take m).drop (o + ds.length) := by
  have hl : (l.take o ++ ds).length = o + ds.length := by rw [List.length_append, List.length_take]; omega
  rw [List.take_append, List.take_of_length_le (by omega), hl, List.take_take, Nat.min_eq_left (by omega), List.drop_take]

/-- A store into a slice of the call's own. -/
theorem Wx.storeR {α : Type} {t : Ty α} {e : TypeId} {v u : Value} {ys : List α} {z : α} {g j : Nat} (hS : St w0 O w obs) (i : Nat) (hi : obs[i]? = some (.row t e v ys)) (hg : v.ownBlock = some g)
    (hx : ev (look l σ0) x = .pointer (some ⟨g, j * t.n, none⟩)) (hj : j < ys.length) (hy : ev (look l σ0) y = u) (hu : V t z u (fb obs O) w) (hsz : ∀ w', (sizeOf T).run P w' = .ok t.n w')
    (h : ∀ w', w.heap.size ≤ w'.heap.size → St w0 O w' (obs.set i (.row t e v (ys.set j z))) → Wx P n ops false rest k (look l σ0) w') :
    Wx P n ops false (⟨none, .store T x y, ty, pos, af, none⟩ :: rest) k (look l σ0) w := by
  obtain ⟨cs, hr, hR⟩ := hS.get i hi
  obtain ⟨ds, rfl, hd⟩ := hu
  have hdl := t.len hd
  have hjn := mul_lt_seg (m := t.n) hj
  have hcells : (t.val ds).cells = ds.toArray := by
    unfold Ty.val
    cases hag : t.agg with
    | true => rfl
    | false =>
      have hn := t.flat hag
      match ds, hdl, t.one hd with
      | [q], _, ho =>
        have := ho q (by simp)
        simp only [Bool.false_eq_true, if_false, List.headD_cons]
        cases q <;> first | rfl | (simp [Value.oneCell'] at this)
      | [], hl, _ => simp [hn] at hl
      | _ :: _ :: _, hl, _ => simp [hn] at hl
  rcases hr.2 with ⟨rfl, _⟩ | ⟨g', cap, cur, rfl, h1, h2, h3, h4, h5, h6⟩
  · simp [Value.ownBlock] at hg
  · have : g' = g := by simpa [Value.ownBlock] using hg
    subst this
    have hfit : j * t.n + ds.length ≤ cur.size := by
      rw [h5, hdl]
      exact Nat.le_trans hjn (Nat.mul_le_mul_right _ h3)
    refine Wx.unit (w' := w.setRow g' (cur.toList.take (j * t.n) ++ ds ++ cur.toList.drop (j * t.n + ds.length)).toArray) ?_ (h _ (by simp) ?_)
    · have := run_storeAt (P := P) (T := T) (o := j * t.n) h2 hcells (by rw [hdl]; exact hsz) hfit (t.one hd)
      simp [xop, execOp, hx, hy, this]
    · refine hS.turn i hi rfl rfl rfl (by simp) (fun b _ hb' => setRow_other w g' b _ (fun hq => hb' (by rw [hq]; rfl))) (fun b hb' => .inl hb') (fun b hb' => by simpa using (Ob.ok_lt (hS.get i hi) hb').2) (fun F hM => ?_)
      refine ⟨cs.take (j * t.n) ++ ds ++ cs.drop (j * t.n + ds.length), ⟨?_, .inr ⟨g', cap, _, by rw [List.length_set], h1, setRow_heap w g' _ _ e _ h2, by rw [List.length_set]; exact h3, h4, ?_, ?_⟩⟩, (hR.set hj hd).mv hM⟩
      · simp only [List.length_append, List.length_take, List.length_drop, List.length_set, hdl, hR.1]
        omega
      · simp only [List.size_toArray, List.length_append, List.length_take, List.length_drop, Array.length_toList, hdl]
        omega
      · rw [List.length_set, ← h6]
        exact take_splice _ _ _ _ (by rw [hdl]; exact hjn) (by show ys.length * t.n ≤ cur.size; rw [h5]; exact Nat.mul_le_mul_right _ h3)

theorem Reps.append {α : Type} {t : Ty α} {F : List (Option Nat)} {ys zs : List α} {cs ds : List Value} (h : Reps t F w ys cs) (hd : Reps t F w zs ds) : Reps t F w (ys ++ zs) (cs ++ ds) := by
  refine ⟨by rw [List.length_append, List.length_append, h.1, hd.1, Nat.add_mul], fun i z hz => ?_⟩
  rw [List.getElem?_append] at hz
  split at hz
  · rename_i hi
    have := mul_lt_seg (m := t.n) hi
    rw [List.drop_append_of_le_length (by rw [h.1]; omega), List.take_append_of_le_length (by rw [List.length_drop, h.1]; omega)]
    exact h.2 i z hz
  · rename_i hi
    have hi' : ys.length ≤ i := by omega
    have e : i * t.n = cs.length + (i - ys.length) * t.n := by
      rw [h.1, ← Nat.add_mul]; congr 1; omega
    rw [e, ← List.drop_drop, List.drop_left]
    exact hd.2 _ z hz

/-- Where the elements to be appended lie. -/
def Src {α : Type} (t : Ty α) (zs : List α) (u : Value) (F : List (Option Nat)) (w : World) : Prop :=
  ∃ a c ds, u = .slice a zs.length c ∧ Reps t F w zs ds ∧ (∀ q ∈ ds, q.oneCell' = true) ∧ (zs ≠ [] → ∃ ad, a = some ad) ∧ ∀ ad, a = some ad → ∀ j q, ds[j]? = some q → w.cell? (ad.add j) = some q

theorem flat_cells {α : Type} {t : Ty α} {F : List (Option Nat)} {b : Nat} : ∀ (zs : List α) (o : Nat), Els t F w zs b o → ∃ ds, Reps t F w zs ds ∧ (∀ q ∈ ds, q.oneCell' = true) ∧ ∀ j q, ds[j]? = some q → w.cell? ⟨b, o + j, none⟩ = some q
  | [], _, _ => ⟨[], Reps.nil, by simp, by simp⟩
  | z :: zs, o, h => by
    obtain ⟨es, h1, h2⟩ := h 0 z rfl
    have hl := t.len h1
    obtain ⟨ds, g1, g2, g3⟩ := flat_cells zs (o + t.n) (fun i x hx => by
      obtain ⟨fs, q1, q2⟩ := h (i + 1) x (by simpa using hx)
      refine ⟨fs, q1, fun j u hu => ?_⟩
      have := q2 j u hu
      rwa [Nat.succ_mul, show o + (i * t.n + t.n) + j = o + t.n + i * t.n + j by omega] at this)
    refine ⟨es ++ ds, ?_, ?_, ?_⟩
    · have := Reps.append (ys := [z]) (cs := es) ⟨by simp [hl], fun i y hy => by
        match i, hy with
        | 0, hy =>
          simp at hy; subst hy
          simp only [Nat.zero_mul, List.drop_zero]
          rw [List.take_of_length_le (by omega)]
          exact h1⟩ g1
      simpa using this
    · intro q hq
      rcases List.mem_append.1 hq with hq | hq
      · exact t.one h1 q hq
      · exact g2 q hq
    · intro j q hq
      rw [List.getElem?_append] at hq
      split at hq
      · have := h2 j q hq
        rwa [Nat.zero_mul, Nat.add_zero] at this
      · rename_i hj
        have := g3 _ q hq
        rwa [hl, show o + t.n + (j - t.n) = o + j by omega] at this

/-- A slice that stands for zs. -/
theorem Src.ofV {α : Type} {t : Ty α} {zs : List α} {u : Value} {F : List (Option Nat)} (h : V (tSl t) zs u F w) : Src t zs u F w := by
  obtain ⟨a, cap, rfl, h1, h2, h3⟩ := h.form
  by_cases hz : zs = []
  · subst hz
    exact ⟨a, cap, [], rfl, Reps.nil, by simp, by simp, by simp⟩
  · obtain ⟨b, o, rfl, h4, h5, h6⟩ := h3 hz
    obtain ⟨ds, g1, g2, g3⟩ := flat_cells zs o h6
    refine ⟨_, cap, ds, rfl, g1, g2, fun _ => ⟨_, rfl⟩, fun ad had j q hq => ?_⟩
    injection had with had
    subst had
    rw [Addr.add_lit]
    exact g3 j q hq

/-- A slice of the call's own. -/
theorem Src.ofR {α : Type} {t : Ty α} {e : TypeId} {zs : List α} {u : Value} (hS : St w0 O w obs) (j : Nat) (hj : obs[j]? = some (.row t e u zs)) : Src t zs u (fb obs O) w := by
  obtain ⟨cs, hr, hR⟩ := hS.get j hj
  by_cases hz : zs = []
  · subst hz
    obtain ⟨a, c, rfl, _⟩ := ownsRow_form hr
    exact ⟨a, c, [], rfl, Reps.nil, by simp, by simp, by simp⟩
  · rcases hr.2 with ⟨rfl, hn⟩ | ⟨g, cap, cur, rfl, h1, h2, h3, h4, h5, h6⟩
    · exact (hz (List.eq_nil_of_length_eq_zero hn)).elim
    · obtain ⟨ds, g1, g2, g3⟩ := flat_cells zs 0 (row_els hr hR (Mv.refl _ _) rfl)
      refine ⟨_, cap, ds, rfl, g1, g2, fun _ => ⟨_, rfl⟩, fun ad had j q hq => ?_⟩
      injection had with had
      subst had
      rw [Addr.add_lit]
      exact g3 j q hq

/-- append to a slice of the call's own. -/
theorem Wx.append {α : Type} {t : Ty α} {e : TypeId} {v u : Value} {ys zs : List α} {z : Value} {bytes : Nat} (hE : ElemI P T e z t.n bytes) (hS : St w0 O w obs) (i : Nat) (hi : obs[i]? = some (.row t e v ys))
    (hx : ev (look l σ0) x = v) (hy : ev (look l σ0) y = u) (hu : Src t zs u (fb obs O) w) (h63 : ys.length + zs.length ≤ maxLen) (hb : (ys.length + zs.length) * bytes ≤ 140737488355328) (hd : Nat.ble (d + 1) n = true)
    (h : ∀ v' w', w.heap.size ≤ w'.heap.size → St w0 O w' (obs.set i (.row t e v' (ys ++ zs))) → Wx P n ops false rest k (look ((d, v') :: l) σ0) w') :
    Wx P n ops false (⟨some d, .call { callee := .builtin .append, args := #[x, y], argTypes := #[T, T] }, ty, pos, af, none⟩ :: rest) k (look l σ0) w := by
  obtain ⟨cs, hr, hR⟩ := hS.get i hi
  obtain ⟨a, c, ds, rfl, g1, g2, g3, g4⟩ := hu
  obtain ⟨ti, hti, hz, hsz, hby⟩ := hE.info
  have hrun : ∃ v' w', (Builtin.append_ #[T, T] ty #[v, .slice a zs.length c]).run P w = .ok v' w' ∧ w'.ownsRow w0.heap.size e t.n v' (ys.length + zs.length) (cs ++ ds) ∧ w.grownBy w' v.ownBlock ∧
      (v'.ownBlock = v.ownBlock ∨ v'.ownBlock = some w.heap.size) := by
    cases a with
    | some ad =>
      obtain ⟨v', w', q1, q2, q3, _, q5⟩ := run_append_own_at (P := P) w w0.heap.size T ty e ti z t.n bytes hE.und hti hz hsz hby hE.zn hE.pos v ys.length cs hr ad zs.length c ds g1.1 (g4 ad rfl) g2 h63 hb hS.bel.size
      exact ⟨v', w', q1, q2, q3, q5⟩
    | none =>
      have hzs : zs = [] := by
        cases zs with
        | nil => rfl
        | cons q qs =>
          obtain ⟨ad, h⟩ := g3 (by simp)
          cases h
      subst hzs
      have hds : ds = [] := List.eq_nil_of_length_eq_zero (by simpa using g1.1)
      subst hds
      refine ⟨v, w, ?_, by simpa using hr, ⟨rfl, rfl, rfl, Nat.le_refl _, fun _ _ _ => rfl⟩, .inl rfl⟩
      rcases hr.2 with ⟨rfl, hn⟩ | ⟨g, cap, cur, rfl, h1, h2, h3, h4, h5, h6⟩
      · simp [Builtin.append_, run_underlying hE.und, sizeOf, typeInfo, hti, Builtin.lenOf, Builtin.firstCells]
      · simp [Builtin.append_, run_underlying hE.und, sizeOf, typeInfo, hti, Builtin.lenOf, Builtin.firstCells, h3, storeCells]
  obtain ⟨v', w', q1, q2, q3, q4⟩ := hrun
  refine Wx.val (v := v') (w' := w') ?_ hd (h v' w' q3.size ?_)
  · simp [xop, execOp, resolve, invoke, builtin, hx, hy, q1]
  · refine hS.turn i hi q3.os q3.tape q3.output q3.size (fun b hb' hne => q3.block b hb' hne) (fun b hb' => ?_) (fun b hb' => (q2.lt b hb').2) (fun F hM => ⟨cs ++ ds, by rw [List.length_append]; exact q2, (hR.mv hM).append (g1.mv hM)⟩)
    have hb'' : v'.ownBlock = some b := hb'
    rcases q4 with q4 | q4
    · exact .inl (by rw [← hb'', q4]; rfl)
    · rw [q4] at hb''
      injection hb'' with hb''
      exact .inr (by omega)

/-- append to a slice at its capacity's end: a new slice of the call's own. -/
theorem Wx.appendNew {α : Type} {t : Ty α} {e : TypeId} {u : Value} {ys zs : List α} {z : Value} {bytes : Nat} {ad : Option Addr} (hE : ElemI P T e z t.n bytes) (hS : St w0 O w obs)
    (hx : ev (look l σ0) x = .slice ad ys.length ys.length) (hv : V (tSl t) ys (.slice ad ys.length ys.length) (fb obs O) w) (hy : ev (look l σ0) y = u) (hu : Src t zs u (fb obs O) w) (hne : zs ≠ [])
    (h63 : ys.length + zs.length ≤ maxLen) (hb : (ys.length + zs.length) * bytes ≤ 140737488355328) (hd : Nat.ble (d + 1) n = true)
    (h : ∀ v' w', Ext w w' → St w0 O w' (.row t e v' (ys ++ zs) :: obs) → Wx P n ops false rest k (look ((d, v') :: l) σ0) w') :
    Wx P n ops false (⟨some d, .call { callee := .builtin .append, args := #[x, y], argTypes := #[T, T] }, ty, pos, af, none⟩ :: rest) k (look l σ0) w := by
  obtain ⟨a0, c0, cs, he0, f1, f2, f3, f4⟩ := Src.ofV hv
  injection he0 with e1 _ e2
  subst e1 e2
  obtain ⟨a, c, ds, rfl, g1, g2, g3, g4⟩ := hu
  obtain ⟨ti, hti, hz, hsz, hby⟩ := hE.info
  obtain ⟨ad', rfl⟩ := g3 hne
  have hzl : 0 < zs.length := List.length_pos_iff.2 hne
  subst hby
  have hsmall : ys.length + zs.length ≤ 9223372036854775807 := by simp only [maxLen] at h63; omega
  have hlen : (cs ++ ds).length = (ys ++ zs).length * t.n := by rw [List.length_append, f1.1, g1.1, List.length_append, Nat.add_mul]
  have key : ∀ (cap : Nat), ys.length + zs.length ≤ cap → cap ≤ maxLen → ∀ (cells : Array Value), cells.toList = cs ++ ds ++ (Builtin.zeroCells z.cells (cap - (ys.length + zs.length))).toList →
      Ext w (w.drew.alloc (.cells cells e)) ∧ St w0 O (w.drew.alloc (.cells cells e)) (.row t e (.slice (some ⟨w.heap.size, 0, none⟩) (ys.length + zs.length) cap) (ys ++ zs) :: obs) := by
    intro cap hc1 hc2 cells hcells
    have hx : Ext w (w.drew.alloc (.cells cells e)) := (((Below.refl w.heap.size w).drew).alloc (by simp) _)
    refine ⟨hx, hS.push hx _ (fun b hb => by simp [Ob.blk, Value.ownBlock] at hb; omega) (fun F hM => ⟨cs ++ ds, ⟨?_, .inr ⟨w.heap.size, cap, cells, by rw [List.length_append], hS.bel.size, heap_alloc_new w.drew _, by rw [List.length_append]; exact hc1, hc2, ?_, ?_⟩⟩, (f1.mv hM).append (g1.mv hM)⟩)⟩
    · exact hlen
    · rw [← Array.length_toList, hcells]
      simp only [List.length_append, f1.1, g1.1, Array.length_toList, size_zeroCells, hE.zn, ← Nat.add_mul]
      congr 1
      omega
    · rw [hcells, List.take_append_of_le_length (Nat.le_of_eq hlen.symm), List.take_of_length_le (Nat.le_of_eq hlen)]
  cases ad with
  | some b =>
    have hr := run_append_grow (P := P) w T ty e ti z hE.und hti hz b ys.length ys.length cs (by rw [hsz]; exact f1.1) (f4 b rfl) ad' zs.length c ds (by rw [hsz]; exact g1.1) (g4 ad' rfl) (by omega) (by omega) (growslice_fits (by omega) hb)
    refine Wx.val (v := .slice (some ⟨w.heap.size, 0, none⟩) (ys.length + zs.length) (grownCap w (ys.length + zs.length) ys.length e))
      (w' := w.drew.alloc (.cells (cs.toArray ++ ds.toArray ++ Builtin.zeroCells z.cells (grownCap w (ys.length + zs.length) ys.length e - (ys.length + zs.length))) e)) ?_ hd (h _ _ ?_ ?_)
    · simp [xop, execOp, resolve, invoke, builtin, hx, hy, hr]
    · exact (((Below.refl w.heap.size w).drew).alloc (by simp) _)
    · exact (key _ (grownCap_ge w (ys.length + zs.length) ys.length e) (grownCap_le_maxLen w (ys.length + zs.length) ys.length e h63) _ (by simp)).2
  | none =>
    have hys : ys = [] := by
      cases ys with
      | nil => rfl
      | cons q qs =>
        obtain ⟨_, h⟩ := f3 (by simp)
        cases h
    subst hys
    have hcs : cs = [] := List.eq_nil_of_length_eq_zero (by simpa using f1.1)
    subst hcs
    have hr := run_append_nil (P := P) w T ty e ti z hE.und hti hz ad' zs.length c ds (by rw [hsz]; exact g1.1) (g4 ad' rfl) hzl (by simp at hsmall; omega) (by simp at hb; omega)
    refine Wx.val (v := .slice (some ⟨w.heap.size, 0, none⟩) zs.length (grownCap w zs.length 0 e)) (w' := w.drew.alloc (.cells (ds.toArray ++ Builtin.zeroCells z.cells (grownCap w zs.length 0 e - zs.length)) e)) ?_ hd (h _ _ ?_ ?_)
    · simp only [xop, execOp, resolve, invoke, builtin, Sem.run_bind, Sem.run_pure, Result.andThen_ok, List.map_toArray, List.map_cons, List.map_nil, hx, hy]
      rw [show (List.length ([] : List α)) = 0 from rfl, hr]
      rfl
    · exact (((Below.refl w.heap.size w).drew).alloc (by simp) _)
    · have := (key (grownCap w zs.length 0 e) (by simpa using grownCap_ge w zs.length 0 e) (grownCap_le_maxLen w zs.length 0 e (by simp at h63; omega)) (ds.toArray ++ Builtin.zeroCells z.cells (grownCap w zs.length 0 e - zs.length)) (by simp)).2
      simpa using this

/-! ### Literals of slices, make, copy -/

theorem fold_cells (off : Nat) : ∀ (vs : List Value) (j : Nat) (cs : Array Value), off + j + vs.length ≤ cs.size →
    ((vs.zipIdx j).foldl (fun cs p => cs.setIfInBounds (off + p.2) p.1) cs).toList = cs.toList.take (off + j) ++ vs ++ cs.toList.drop (off + j + vs.length)
  | [], j, cs, _ => by simp
  | v :: vs, j, cs, h => by
    simp only [List.length_cons] at h
    simp only [List.zipIdx_cons, List.foldl_cons]
    rw [fold_cells off vs (j + 1) (cs.setIfInBounds (off + j) v) (by simp; omega)]
    have := list_seg_step cs.toList (off + j) v vs (by simp; omega)
    simp only [Array.toList_setIfInBounds, List.length_cons]
    rw [show off + (j + 1) = off + j + 1 by omega]
    exact this

/-- The parts of a literal, numbered. -/
def nums : Nat → List Value → List (Nat × Value)
  | _, [] => []
  | i, v :: vs => (i, v) :: nums (i + 1) vs

theorem fill_nums {size : Nat} : ∀ (vs : List Value) (s : Nat) (cells : Array Value), (∀ v ∈ vs, v.cells.size = size) → cells.size = (s + vs.length) * size →
    ∃ out, Instr.fill (fun i => some (i * size, size)) cells (nums s vs) = some out ∧ out.toList = cells.toList.take (s * size) ++ vs.flatMap (fun v => v.cells.toList)
  | [], s, cells, _, hc => ⟨cells, rfl, by simp only [List.flatMap_nil, List.append_nil]; rw [List.take_of_length_le (by rw [Array.length_toList, hc]; simp)]⟩
  | v :: vs, s, cells, hv, hc => by
    have hvs := hv v (by simp)
    have hlen : s * size + size ≤ cells.size := by
      rw [hc, List.length_cons, Nat.add_mul, Nat.succ_mul]
      omega
    have hfold := fold_cells (s * size) v.cells.toList 0 cells (by rw [Array.length_toList, hvs]; omega)
    generalize hcells' : ((v.cells.toList.zipIdx 0).foldl (fun cs p => cs.setIfInBounds (s * size + p.2) p.1) cells) = cells' at hfold
    have hsz : cells'.size = cells.size := by
      rw [← Array.length_toList, hfold]
      simp only [List.length_append, List.length_take, List.length_drop, Array.length_toList, hvs]
      omega
    obtain ⟨out, h1, h2⟩ := fill_nums vs (s + 1) cells' (fun u hu => hv u (by simp [hu])) (by rw [hsz, hc, List.length_cons]; congr 1; omega)
    refine ⟨out, ?_, ?_⟩
    · simp only [nums, Instr.fill]
      rw [if_neg (by simp [hvs]; omega)]
      rw [← h1]
      congr 1
      rw [← hcells', ← Array.foldl_toList]
      congr 1
      simp
    · rw [h2, hfold]
      simp only [Nat.add_zero, List.flatMap_cons]
      have htl : (cells.toList.take (s * size)).length = s * size := by rw [List.length_take, Array.length_toList]; omega
      rw [List.take_left' (by rw [List.length_append, htl, Array.length_toList, hvs, Nat.succ_mul]), List.append_assoc]

theorem val_cells {α : Type} {t : Ty α} {y : α} {F : List (Option Nat)} {cs : List Value} (h : t.rep F w y cs) : (t.val cs).cells = cs.toArray := by
  have hdl := t.len h
  unfold Ty.val
  cases hag : t.agg with
  | true => rfl
  | false =>
    have hn := t.flat hag
    match cs, hdl, t.one h with
    | [q], _, ho =>
      have := ho q (by simp)
      simp only [Bool.false_eq_true, if_false, List.headD_cons]
      cases q <;> first | rfl | (simp [Value.oneCell'] at this)
    | [], hl, _ => simp [hn] at hl
    | _ :: _ :: _, hl, _ => simp [hn] at hl

/-- Values, and what they stand for. -/
def VL {α : Type} (t : Ty α) : List α → List Value → List (Option Nat) → World → Prop
  | [], [], _, _ => True
  | y :: ys, v :: vs, F, w => V t y v F w ∧ VL t ys vs F w
  | _, _, _, _ => False

theorem VL.reps {α : Type} {t : Ty α} {F : List (Option Nat)} : ∀ {ys : List α} {vs : List Value}, VL t ys vs F w →
    Reps t F w ys (vs.flatMap (fun v => v.cells.toList)) ∧ (∀ q ∈ vs.flatMap (fun v => v.cells.toList), q.oneCell' = true) ∧ (∀ v ∈ vs, v.cells.size = t.n) ∧ vs.length = ys.length
  | [], [], _ => ⟨Reps.nil, by simp, by simp, rfl⟩
  | y :: ys, v :: vs, ⟨⟨es, hv, h1⟩, h2⟩ => by
    obtain ⟨g1, g2, g3, g4⟩ := VL.reps h2
    have hc := val_cells h1
    rw [← hv] at hc
    have hl := t.len h1
    refine ⟨?_, ?_, ?_, by simp [g4]⟩
    · have := Reps.append (ys := [y]) (cs := es) ⟨by simp [hl], fun i z hz => by
        match i, hz with
        | 0, hz =>
          simp at hz; subst hz
          simp only [Nat.zero_mul, List.drop_zero]
          rw [List.take_of_length_le (by omega)]
          exact h1⟩ g1
      simpa [hc] using this
    · intro q hq
      simp only [List.flatMap_cons, hc, List.mem_append] at hq
      rcases hq with hq | hq
      · exact t.one h1 q hq
      · exact g2 q hq
    · intro u hu
      rcases List.mem_cons.1 hu with rfl | hu
      · rw [hc]; simp [hl]
      · exact g3 u hu
  | [], _ :: _, h => h.elim
  | _ :: _, [], h => h.elim

/-- A literal of a slice. -/
theorem Wx.lit {α : Type} {t : Ty α} {e : TypeId} {ys : List α} {vs : List Value} {z : Value} {bytes m : Nat} {ps : List (Nat × Operand)} (hE : ElemI P T e z t.n bytes) (hS : St w0 O w obs)
    (hp : ps.map (fun p => (p.1, ev (look l σ0) p.2)) = nums 0 vs) (hm : m = ys.length) (hv : VL t ys vs (fb obs O) w) (hlim : m * t.n ≤ 16777216) (hd : Nat.ble (d + 1) n = true)
    (h : ∀ v w', Ext w w' → St w0 O w' (.row t e v ys :: obs) → Wx P n ops false rest k (look ((d, v) :: l) σ0) w') :
    Wx P n ops false (⟨some d, .buildSlice T m ps.toArray, ty, pos, af, none⟩ :: rest) k (look l σ0) w := by
  obtain ⟨g1, g2, g3, g4⟩ := hv.reps
  obtain ⟨ti, hti, hz, hsz, hby⟩ := hE.info
  obtain ⟨out, f1, f2⟩ := fill_nums (size := t.n) vs 0 ((Array.range (m * t.n)).map ((if m * t.n = 0 then #[] else z.cells)[· % (if m * t.n = 0 then (#[] : Array Value) else z.cells).size]!)) g3 (by simp [g4, hm])
  simp only [Nat.zero_mul, List.take_zero, List.nil_append] at f2
  have hx : Ext w (w.alloc (.cells out e)) := (Below.refl _ _).alloc (Nat.le_refl _) _
  refine Wx.val (v := .slice (some ⟨w.heap.size, 0, none⟩) m m) (w' := w.alloc (.cells out e)) ?_ hd (h _ _ hx (hS.push hx _ (fun b hb => by simp [Ob.blk, Value.ownBlock] at hb; omega) (fun F hM => ⟨_, ⟨g1.1, .inr ⟨w.heap.size, ys.length, out, by rw [hm], hS.bel.size, heap_alloc_new w _, Nat.le_refl _, ?_, ?_, ?_⟩⟩, g1.mv hM⟩)))
  · show (do let v ← Instr.buildSlice T m (ps.toArray.map fun (i, x) => (i, ev (look l σ0) x)); pure (Next.value v) : Sem Next).run P w = _
    rw [show (ps.toArray.map fun (i, x) => (i, ev (look l σ0) x)) = (nums 0 vs).toArray by rw [← hp]; simp]
    have hnlim : ¬ (16777216 < m * t.n) := by omega
    by_cases h0 : m * t.n = 0
    · have hvs : vs = [] := by
        rcases Nat.mul_eq_zero.1 h0 with h1 | h1
        · exact List.eq_nil_of_length_eq_zero (by omega)
        · have := hE.pos; omega
      subst hvs
      have ho : out = #[] := Array.ext' (by simpa using f2)
      subst ho
      simp [Instr.buildSlice, run_underlying hE.und, hE.size, h0, newRow, nums, Instr.fill, Array.range_zero']
    · simp only [h0, if_false] at f1
      simp [Instr.buildSlice, run_underlying hE.und, hE.size, h0, hnlim, newRow, zeroValue, typeInfo, hti, hz, f1]
  · have := hE.pos
    have h1 : ys.length ≤ ys.length * t.n := Nat.le_mul_of_pos_right _ hE.pos
    rw [← hm] at h1 ⊢
    simp only [maxLen]; omega
  · rw [← Array.length_toList, f2]; exact g1.1
  · rw [f2, List.take_of_length_le (Nat.le_of_eq g1.1)]

/-- make([]T, n), its elements one cell each. -/
theorem Wx.make {α : Type} {t : Ty α} {e : TypeId} {zv : Value} {zy : α} {bytes m : Nat} {kl kc : IntKind} (hE : ElemI P T e zv 1 bytes) (hn : t.n = 1) (hzc : zv.cells = #[zv]) (hzr : ∀ F w, t.rep F w zy [zv]) (hS : St w0 O w obs)
    (hx : ev (look l σ0) x = .int kl (m : Int)) (hy : ev (look l σ0) y = .int kc (m : Int)) (hb : bytes * m ≤ 281474976710656) (h63 : m ≤ maxLen) (hd : Nat.ble (d + 1) n = true)
    (h : ∀ v w', Ext w w' → St w0 O w' (.row t e v (List.replicate m zy) :: obs) → Wx P n ops false rest k (look ((d, v) :: l) σ0) w') :
    Wx P n ops false (⟨some d, .makeSlice T x y, ty, pos, af, none⟩ :: rest) k (look l σ0) w := by
  obtain ⟨ti, hti, hz, hsz, hby⟩ := hE.info
  subst hby
  have hb' : (ti.bytes : Int) * (m : Int) ≤ 281474976710656 := by
    have h' : ((ti.bytes * m : Nat) : Int) ≤ 281474976710656 := by omega
    rwa [Int.natCast_mul] at h'
  have hr := run_make (P := P) w T e ti zv hE.und hti hz kl kc (m : Int) (m : Int) (by omega) (by omega) hb' (by simp only [maxLen] at h63; omega)
  simp only [Int.toNat_natCast, hsz, Nat.mul_one] at hr
  have hcells : (madeCells zv.cells m).toList = List.replicate m zv := by
    rw [hzc]
    apply List.ext_getElem?
    intro j
    simp only [madeCells, Array.toList_map, List.getElem?_map, List.getElem?_replicate, Array.toList_range]
    by_cases hj : j < m
    · simp [hj, Nat.mod_one]
    · simp [hj]
  have hx' : Ext w (w.alloc (.cells (madeCells zv.cells m) e)) := (Below.refl _ _).alloc (Nat.le_refl _) _
  refine Wx.val (v := .slice (some ⟨w.heap.size, 0, none⟩) m m) (w' := w.alloc (.cells (madeCells zv.cells m) e)) (by simp [xop, execOp, hx, hy, hr]) hd (h _ _ hx' (hS.push hx' _ (fun b hb => by simp [Ob.blk, Value.ownBlock] at hb; omega)
    (fun F hM => ⟨List.replicate m zv, ⟨by simp [hn], .inr ⟨w.heap.size, m, madeCells zv.cells m, by simp, hS.bel.size, heap_alloc_new w _, by simp, h63, by simp [size_madeCells, hn], ?_⟩⟩, by simp [hn], fun i q hq => ?_⟩)))
  · rw [hcells, List.length_replicate, hn, Nat.mul_one, List.take_of_length_le (by simp)]
  · obtain ⟨hi, hq⟩ := List.getElem?_eq_some_iff.1 hq
    simp only [List.getElem_replicate] at hq
    subst hq
    simp only [List.length_replicate] at hi
    rw [hn, Nat.mul_one, List.drop_replicate, List.take_replicate, Nat.min_eq_left (by omega)]
    exact hzr F _

/-- make([]T, 0, n) -/
theorem Wx.make0 {α : Type} {t : Ty α} {e : TypeId} {z : Value} {bytes m : Nat} {kl kc : IntKind} (hE : ElemI P T e z t.n bytes) (hS : St w0 O w obs)
    (hx : ev (look l σ0) x = .int kl 0) (hy : ev (look l σ0) y = .int kc (m : Int)) (hb : bytes * m ≤ 281474976710656) (h63 : m ≤ maxLen) (hd : Nat.ble (d + 1) n = true)
    (h : ∀ v w', Ext w w' → St w0 O w' (.row t e v ([] : List α) :: obs) → Wx P n ops false rest k (look ((d, v) :: l) σ0) w') :
    Wx P n ops false (⟨some d, .makeSlice T x y, ty, pos, af, none⟩ :: rest) k (look l σ0) w := by
  obtain ⟨ti, hti, hz, hsz, hby⟩ := hE.info
  subst hby
  have hb' : (ti.bytes : Int) * (m : Int) ≤ 281474976710656 := by
    have h' : ((ti.bytes * m : Nat) : Int) ≤ 281474976710656 := by omega
    rwa [Int.natCast_mul] at h'
  have hr := run_make (P := P) w T e ti z hE.und hti hz kl kc 0 (m : Int) (by omega) (by omega) hb' (by simp only [maxLen] at h63; omega)
  simp only [Int.toNat_natCast, hsz, Int.toNat_zero] at hr
  have hx' : Ext w (w.alloc (.cells (madeCells z.cells (m * t.n)) e)) := (Below.refl _ _).alloc (Nat.le_refl _) _
  refine Wx.val (v := .slice (some ⟨w.heap.size, 0, none⟩) 0 m) (w' := w.alloc (.cells (madeCells z.cells (m * t.n)) e)) (by simp [xop, execOp, hx, hy, hr]) hd (h _ _ hx' (hS.push hx' _ (fun b hb => by simp [Ob.blk, Value.ownBlock] at hb; omega)
    (fun F hM => ⟨[], ⟨by simp, .inr ⟨w.heap.size, m, madeCells z.cells (m * t.n), rfl, hS.bel.size, heap_alloc_new w _, Nat.zero_le _, h63, by simp [size_madeCells], by simp⟩⟩, Reps.nil⟩)))

end
end Go.Wk
