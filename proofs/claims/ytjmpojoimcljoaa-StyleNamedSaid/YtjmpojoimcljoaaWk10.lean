/-
  WHAT IS PROVED HERE: rows that a call makes and hands back, whose elements may be slices; elements taken out of a row in its own place; zeroes put behind a row. Conditions stand in each statement; they hold over any program.
-/
import Derived.Test.YtjmpojoimcljoaaWk9
namespace Go.Wk
open Go.RowKit

section
variable {P : Program} {n : Nat} {w w0 w' : World} {O : List (Option Nat)} {obs : List Ob} {ops : Array Oper} {rest : List Oper} {k : Cont} {d : Tmp} {ty : TypeId} {pos : String} {af : Array Edge}
  {l : List (Nat × Value)} {σ0 σ : Fr} {T T' : TypeId} {x y z lo hi mx : Operand}

/-- A new slice, of the caller's own from now on; its elements may stand in memory that the caller has lent. -/
def FreshO {α : Type} (t : Ty α) (e : TypeId) (ys : List α) (v : Value) (O : List (Option Nat)) (base : Nat) (w : World) : Prop := ∃ cs, w.ownsRow base e t.n v ys.length cs ∧ Reps t (v.ownBlock :: O) w ys cs
theorem St.frO {α : Type} {t : Ty α} {e : TypeId} {v : Value} {ys : List α} (hS : St w0 O w obs) (i : Nat) (hi : obs[i]? = some (.row t e v ys)) : FreshO t e ys v O w0.heap.size w := by
  obtain ⟨cs, h1, h2⟩ := hS.get i hi
  refine ⟨cs, h1, h2.mv (.less fun b hb => ?_)⟩
  rcases List.mem_cons.1 hb with hb | hb
  · exact List.mem_append.2 (.inl (List.mem_map.2 ⟨_, List.mem_of_getElem? hi, hb.symm⟩))
  · exact List.mem_append.2 (.inr hb)
theorem St.pushAt (h : St w0 O w obs) (hx : Ext w w') (ob : Ob) (hb : ∀ b, ob.blk = some b → w.heap.size ≤ b) (hok : ob.ok w0.heap.size (fb (ob :: obs) O) w') : St w0 O w' (ob :: obs) := by
  have hM : Mv (fb obs O) (fb (ob :: obs) O) w w' := by
    refine ⟨hx.size, fun b hbl hO => ⟨hx.block b hbl, fun hm => ?_⟩⟩
    simp only [fb, List.map_cons, List.cons_append] at hm
    rcases List.mem_cons.1 hm with hm | hm
    · have := hb b hm.symm
      omega
    · exact hO hm
  refine ⟨Ext.trans h.bel hx, h.olt, fun o2 ho => ?_, List.Pairwise.cons (fun o2 ho => ?_) h.sep⟩
  · rcases List.mem_cons.1 ho with rfl | ho
    · exact hok
    · exact Ob.ok_ext (h.ok o2 ho) hx hM
  · cases hq : ob.blk with
    | none => exact .inl rfl
    | some b =>
      right
      intro he
      have h1 := hb b hq
      have h2 := (Ob.ok_lt (h.ok o2 ho) he.symm).2
      omega
theorem St.pushFrO {α : Type} {t : Ty α} {e : TypeId} {v : Value} {ys : List α} (hS : St w0 O w obs) (hx : Ext w w') (h : FreshO t e ys v (fb obs O) w.heap.size w') : St w0 O w' (.row t e v ys :: obs) := by
  obtain ⟨cs, h1, h2⟩ := h
  refine hS.pushAt hx _ (fun b hb => (h1.lt b hb).1) ⟨cs, ⟨h1.1, ?_⟩, h2⟩
  rcases h1.2 with hn | ⟨g, cap, cur, e1, e2, e3⟩
  · exact .inl hn
  · exact .inr ⟨g, cap, cur, e1, Nat.le_trans hS.bel.size e2, e3⟩

theorem St.putBack {a : Ob} (i : Nat) (h : St w0 O w (a :: obs.eraseIdx i)) (hi : i < obs.length) : St w0 O w (obs.set i a) := by
  refine h.perm ?_
  have := erase_perm (obs.set i a) i a (by rw [List.getElem?_set_self hi])
  rw [List.eraseIdx_set_eq] at this
  exact this.symm

/-! ### in its own place -/
theorem Reps.take {α : Type} {t : Ty α} {F : List (Option Nat)} {ys : List α} {cs : List Value} (h : Reps t F w ys cs) (m : Nat) : Reps t F w (ys.take m) (cs.take (m * t.n)) := by
  refine ⟨by rw [List.length_take, List.length_take, h.1, Nat.mul_min_mul_right], fun i y hy => ?_⟩
  rw [List.getElem?_take] at hy
  split at hy
  · rename_i hlt
    have : (i + 1) * t.n ≤ m * t.n := Nat.mul_le_mul_right _ hlt
    rw [Nat.add_mul, Nat.one_mul] at this
    rw [List.drop_take, List.take_take, Nat.min_eq_left (by omega)]
    exact h.2 i y hy
  · cases hy
theorem Reps.drop {α : Type} {t : Ty α} {F : List (Option Nat)} {ys : List α} {cs : List Value} (h : Reps t F w ys cs) (m : Nat) : Reps t F w (ys.drop m) (cs.drop (m * t.n)) := by
  refine ⟨by rw [List.length_drop, List.length_drop, h.1, Nat.sub_mul], fun i y hy => ?_⟩
  rw [List.getElem?_drop] at hy
  rw [List.drop_drop, ← Nat.add_mul]
  exact h.2 _ y hy
theorem Reps.ones {α : Type} {t : Ty α} {F : List (Option Nat)} {ys : List α} {cs : List Value} (h : Reps t F w ys cs) (hn : 0 < t.n) : ∀ q ∈ cs, q.oneCell' = true := by
  intro q hq
  obtain ⟨k, hk, rfl⟩ := List.mem_iff_getElem.1 hq
  have hk2 : k / t.n < ys.length := Nat.div_lt_of_lt_mul (by rw [Nat.mul_comm, ← h.1]; exact hk)
  refine t.one (h.2 (k / t.n) _ (List.getElem?_eq_getElem hk2)) _ (List.mem_of_getElem? (i := k % t.n) ?_)
  rw [List.getElem?_take, if_pos (Nat.mod_lt _ hn), List.getElem?_drop, Nat.mul_comm, Nat.div_add_mod, List.getElem?_eq_getElem hk]
theorem St.rowForm {α : Type} {t : Ty α} {e : TypeId} {v : Value} {ys : List α} (hS : St w0 O w obs) (i : Nat) (hi : obs[i]? = some (.row t e v ys)) (h : 0 < ys.length) : ∃ g c, v = .slice (some ⟨g, 0, none⟩) ys.length c ∧ ys.length ≤ c := by
  obtain ⟨cs, hr, hR⟩ := hS.get i hi
  rcases hr.2 with ⟨rfl, hn⟩ | ⟨g, cap, cur, rfl, q1, q2, q3, q4, q5, q6⟩
  · omega
  · exact ⟨g, cap, rfl, q3⟩

theorem bounds_lhm {len cap : Nat} {k1 k2 k3 : IntKind} {l h m : Int} (h0 : 0 ≤ l) (h1 : l ≤ h) (h2 : h ≤ m) (h3 : m ≤ cap) (w' : World) :
    (Instr.sliceBounds true len cap (some (.int k1 l)) (some (.int k2 h)) (some (.int k3 m))).run P w' = .ok (l.toNat, h.toNat, m.toNat) w' := by
  have eh : (h.toNat : Int) = h := Int.toNat_of_nonneg (by omega)
  have em : (m.toNat : Int) = m := Int.toNat_of_nonneg (by omega)
  simp [Instr.sliceBounds, run_sliceBound, eh, em, h0, h1, h2, h3, (by omega : 0 ≤ h), (by omega : 0 ≤ m)]
/-- x[i:j:m], of which nothing is asked but that it is there. -/
theorem rd_slice3R {α : Type} {t : Ty α} {et : TypeId} {v : Value} {ys : List α} {e : TypeId} {i j m : Int} {k1 k2 k3 : IntKind} (hS : St w0 O w obs) (q : Nat) (hq : obs[q]? = some (.row t et v ys)) (hu : P.underlying T = some (.slice e))
    (hsz : ∀ w', (sizeOf e).run P w' = .ok t.n w') (hx : ev σ z = v) (hl : ev σ lo = .int k1 i) (hh : ev σ hi = .int k2 j) (hm : ev σ mx = .int k3 m) (h0 : 0 ≤ i) (h1 : i ≤ j) (h2 : j ≤ m) (h3 : m ≤ ys.length) :
    ∃ u, Rd P σ (.slice T z (some lo) (some hi) (some mx)) ty w u ∧ True := by
  obtain ⟨cs, hr, hR⟩ := hS.get q hq
  obtain ⟨a, c, rfl, hc⟩ := ownsRow_form hr
  refine ⟨sliced a i.toNat j.toNat m.toNat t.n, Rd.of fun w' => ?_, trivial⟩
  simp only [xop, execOp, hx, Option.map_some, hl, hh, hm, Sem.run_bind, run_sliceV hu hsz (bounds_lhm (P := P) h0 h1 h2 (by omega : m ≤ (c : Int)))]
  rfl
theorem rd_headO {g len c sz : Nat} {e : TypeId} {m : Int} {kk : IntKind} (hu : P.underlying T = some (.slice e)) (hsz : ∀ w', (sizeOf e).run P w' = .ok sz w') (hx : ev σ z = .slice (some ⟨g, 0, none⟩) len c) (hl : ev σ hi = .int kk m) (h0 : 0 ≤ m) (h1 : m ≤ c) :
    Rd P σ (.slice T z none (some hi) none) ty w (.slice (some ⟨g, 0, none⟩) m.toNat c) :=
  Rd.of fun w' => by
    simp only [xop, execOp, hx, Option.map_some, Option.map_none, hl, Sem.run_bind, run_sliceV hu hsz (bounds_h (P := P) h0 h1)]
    simp [sliced, Addr.add_lit]
theorem rd_tailO {g len c sz : Nat} {e : TypeId} {m : Int} {kk : IntKind} (hu : P.underlying T = some (.slice e)) (hsz : ∀ w', (sizeOf e).run P w' = .ok sz w') (hx : ev σ z = .slice (some ⟨g, 0, none⟩) len c) (hl : ev σ lo = .int kk m) (h0 : 0 ≤ m) (h1 : m ≤ len) (h2 : len ≤ c) :
    Rd P σ (.slice T z (some lo) none none) ty w (.slice (some (if c = m.toNat then ⟨g, 0, none⟩ else ⟨g, m.toNat * sz, none⟩)) (len - m.toNat) (c - m.toNat)) :=
  Rd.of fun w' => by
    simp only [xop, execOp, hx, Option.map_some, Option.map_none, hl, Sem.run_bind, run_sliceV hu hsz (bounds_l (P := P) (cap := c) h0 h1)]
    by_cases hc : c = m.toNat
    · simp [sliced, Addr.add_lit, hc]
    · have : ¬ c - m.toNat = 0 := by omega
      simp [sliced, Addr.add_lit, hc, this]
theorem rd_spareO {g len c sz : Nat} {e : TypeId} {a b : Int} {k1 k2 : IntKind} (hu : P.underlying T = some (.slice e)) (hsz : ∀ w', (sizeOf e).run P w' = .ok sz w') (hx : ev σ z = .slice (some ⟨g, 0, none⟩) len c) (hl : ev σ lo = .int k1 a) (hh : ev σ hi = .int k2 b)
    (h0 : 0 ≤ a) (h1 : a < b) (h2 : b ≤ c) : Rd P σ (.slice T z (some lo) (some hi) none) ty w (.slice (some ⟨g, a.toNat * sz, none⟩) (b.toNat - a.toNat) (c - a.toNat)) :=
  Rd.of fun w' => by
    simp only [xop, execOp, hx, Option.map_some, Option.map_none, hl, hh, Sem.run_bind, run_sliceV hu hsz (bounds_lh (P := P) h0 (Int.le_of_lt h1) h2)]
    simp [sliced, Addr.add_lit]
    omega

/-- append(s[:a], s[b:]...), s a slice of the call's own. -/
theorem Wx.appendIn {α : Type} {t : Ty α} {e : TypeId} {ys : List α} {zv : Value} {bytes g len c a b : Nat} (hE : ElemI P T e zv t.n bytes) (hS : St w0 O w obs) (i : Nat) (hi : obs[i]? = some (.row t e (.slice (some ⟨g, 0, none⟩) len c) ys))
    (hx : ev (look l σ0) x = .slice (some ⟨g, 0, none⟩) a c) (hy : ev (look l σ0) y = .slice (some (if c = b then ⟨g, 0, none⟩ else ⟨g, b * t.n, none⟩)) (len - b) (c - b)) (hab : a ≤ b) (hb : b ≤ ys.length) (hd : Nat.ble (d + 1) n = true)
    (h : ∀ w', w.heap.size ≤ w'.heap.size → St w0 O w' (obs.set i (.row t e (.slice (some ⟨g, 0, none⟩) (a + (len - b)) c) (ys.take a ++ ys.drop b))) → Wx P n ops false rest k (look ((d, .slice (some ⟨g, 0, none⟩) (a + (len - b)) c) :: l) σ0) w') :
    Wx P n ops false (⟨some d, .call { callee := .builtin .append, args := #[x, y], argTypes := #[T, T] }, ty, pos, af, none⟩ :: rest) k (look l σ0) w := by
  obtain ⟨cs, hr, hR⟩ := hS.get i hi
  obtain ⟨ti, hti, hz, hsz, hby⟩ := hE.info
  rcases hr.2 with ⟨h0, _⟩ | ⟨g', cap, cur, hv, q1, q2, q3, q4, q5, q6⟩
  · cases h0
  · simp only [Value.slice.injEq, Option.some.injEq, Addr.mk.injEq, and_true] at hv
    obtain ⟨rfl, rfl, rfl⟩ := hv
    have hcl : cs.length = ys.length * t.n := hr.1
    have hbn : b * t.n ≤ ys.length * t.n := Nat.mul_le_mul_right _ hb
    have han : a * t.n ≤ b * t.n := Nat.mul_le_mul_right _ hab
    have hcn : ys.length * t.n ≤ c * t.n := Nat.mul_le_mul_right _ q3
    have hnl : (cs.drop (b * t.n)).length = (ys.length - b) * t.n := by rw [List.length_drop, hcl, Nat.sub_mul]
    have hnl2 : (ys.length - b) * t.n = ys.length * t.n - b * t.n := Nat.sub_mul ..
    have hrun := run_append_room (P := P) w T ty e ti hE.und hti g a c cur q2 (if c = b then ⟨g, 0, none⟩ else ⟨g, b * t.n, none⟩) (ys.length - b) (c - b) (cs.drop (b * t.n)) (by rw [hnl, hsz]) (fun j u hu => by
      rw [List.getElem?_drop] at hu
      have hlt := (List.getElem?_eq_some_iff.1 hu).1
      have hne : ¬ c = b := by
        intro hcb
        have := Nat.mul_le_mul_right t.n (show ys.length ≤ b by omega)
        omega
      rw [if_neg hne, Addr.add_lit]
      have := hr.cells (g := g) rfl (b * t.n + j) u hu
      rwa [Addr.add_lit, Nat.zero_add] at this) (fun u hu => hR.ones hE.pos u (List.mem_of_mem_drop hu)) (by omega) (by rw [hnl, hsz]; have : cur.size = c * t.n := q5; omega)
    rw [hsz, hnl] at hrun
    refine Wx.val (v := .slice (some ⟨g, 0, none⟩) (a + (ys.length - b)) c) (w' := w.setRow g (cur.toList.take (a * t.n) ++ cs.drop (b * t.n) ++ cur.toList.drop (a * t.n + (ys.length - b) * t.n)).toArray) ?_ hd (h _ (by simp) ?_)
    · simp [xop, execOp, resolve, invoke, builtin, hx, hy, hrun]
    · have hcurl : cur.toList.length = c * t.n := by simpa using q5
      have hll : (ys.take a ++ ys.drop b).length = a + (ys.length - b) := by simp; omega
      have hct : cs.take (a * t.n) = cur.toList.take (a * t.n) := by rw [← q6, List.take_take, Nat.min_eq_left (by omega)]
      have hlen : (cs.take (a * t.n) ++ cs.drop (b * t.n)).length = (a + (ys.length - b)) * t.n := by
        rw [List.length_append, List.length_take, hnl, hcl, Nat.min_eq_left (by omega), Nat.add_mul]
      refine hS.turn i hi rfl rfl rfl (by simp) (fun b _ hb' => setRow_other w g b _ (fun hq => hb' (by rw [hq]; rfl))) (fun b hb' => .inl hb') (fun b hb' => by simpa using (Ob.ok_lt (hS.get i hi) hb').2) (fun F hM => ?_)
      refine ⟨cs.take (a * t.n) ++ cs.drop (b * t.n), ⟨by rw [hlen, hll], .inr ⟨g, c, _, by rw [hll], q1, setRow_heap w g cur _ e _ q2, by rw [hll]; omega, q4, ?_, ?_⟩⟩, (hR.mv hM |>.take a).append (hR.mv hM |>.drop b)⟩
      · simp only [List.size_toArray, List.length_append, List.length_take, List.length_drop, hcurl, hcl]
        omega
      · rw [hll, ← hlen, hct, List.take_left]

theorem zero_ones {zc : Array Value} {m : Nat} (hz : 0 < zc.size) (h1 : ∀ q ∈ zc, q.oneCell' = true) : ∀ q ∈ (Builtin.zeroCells zc m).toList, q.oneCell' = true := by
  intro q hq
  simp only [Builtin.zeroCells, Array.toList_map, List.mem_map] at hq
  obtain ⟨i, _, rfl⟩ := hq
  have : i % zc.size < zc.size := Nat.mod_lt _ hz
  rw [getElem!_pos zc _ this]
  exact h1 _ (Array.getElem_mem this)
/-- clear of what stands behind a slice of the call's own. -/
theorem Wx.clearR {α : Type} {t : Ty α} {e : TypeId} {ys : List α} {zv : Value} {bytes g len c o m cc : Nat} (hE : ElemI P T e zv t.n bytes) (hS : St w0 O w obs) (i : Nat) (hi : obs[i]? = some (.row t e (.slice (some ⟨g, 0, none⟩) len c) ys))
    (hx : ev (look l σ0) x = .slice (some ⟨g, o * t.n, none⟩) m cc) (h1 : len ≤ o) (h2 : o + m ≤ c) (hm : 0 < m) (hz1 : ∀ q ∈ zv.cells, q.oneCell' = true)
    (h : ∀ w', w.heap.size ≤ w'.heap.size → St w0 O w' obs → Wx P n ops false rest k (look l σ0) w') :
    Wx P n ops false (⟨none, .call { callee := .builtin .clear, args := #[x], argTypes := #[T] }, ty, pos, af, none⟩ :: rest) k (look l σ0) w := by
  obtain ⟨cs, hr, hR⟩ := hS.get i hi
  obtain ⟨ti, hti, hz, hsz, hby⟩ := hE.info
  rcases hr.2 with ⟨h0, _⟩ | ⟨g', cap, cur, hv, q1, q2, q3, q4, q5, q6⟩
  · cases h0
  · simp only [Value.slice.injEq, Option.some.injEq, Addr.mk.injEq, and_true] at hv
    obtain ⟨rfl, rfl, rfl⟩ := hv
    have hcurl : cur.toList.length = c * t.n := by simpa using q5
    have hvl : (Builtin.zeroCells zv.cells m).toList.length = m * t.n := by rw [Array.length_toList, size_zeroCells, hE.zn]
    have e1 : o * t.n + m * t.n ≤ c * t.n := by rw [← Nat.add_mul]; exact Nat.mul_le_mul_right _ h2
    have e2 : ys.length * t.n ≤ o * t.n := Nat.mul_le_mul_right _ h1
    have hst := run_storeCells_at P g (o * t.n) e (Builtin.zeroCells zv.cells m).toList 0 cur w q2 (by rw [hvl, q5]; exact e1) (zero_ones (by rw [hE.zn]; exact hE.pos) hz1)
    have hzv : ∀ W : World, (zeroValue e).run P W = .ok zv W := fun W => by simp [zeroValue, typeInfo, hti, hz]
    simp only [Nat.add_zero] at hst
    obtain ⟨m, rfl⟩ : ∃ m', m = m' + 1 := ⟨m - 1, by omega⟩
    have hrun : (Builtin.clear_ #[T] ty #[.slice (some ⟨g, o * t.n, none⟩) (m + 1) cc]).run P w = .ok (.tuple #[]) (w.setRow g (cur.toList.take (o * t.n) ++ (Builtin.zeroCells zv.cells (m + 1)).toList ++ cur.toList.drop (o * t.n + (Builtin.zeroCells zv.cells (m + 1)).toList.length)).toArray) := by
      simp [Builtin.clear_, run_underlying hE.und, hzv, hst]
    refine Wo.val (v := .tuple #[]) (w' := w.setRow g (cur.toList.take (o * t.n) ++ (Builtin.zeroCells zv.cells (m + 1)).toList ++ cur.toList.drop (o * t.n + (Builtin.zeroCells zv.cells (m + 1)).toList.length)).toArray) ?_ rfl (h _ (by simp) ?_)
    · simp [xop, execOp, resolve, invoke, builtin, hx, hrun]
    · have key := hS.turn (w' := w.setRow g (cur.toList.take (o * t.n) ++ (Builtin.zeroCells zv.cells (m + 1)).toList ++ cur.toList.drop (o * t.n + (Builtin.zeroCells zv.cells (m + 1)).toList.length)).toArray) i hi (ob' := .row t e (.slice (some ⟨g, 0, none⟩) ys.length c) ys) rfl rfl rfl (by simp) (fun b _ hb' => setRow_other w g b _ (fun hq => hb' (by rw [hq]; rfl))) (fun b hb' => .inl hb') (fun b hb' => by simpa using (Ob.ok_lt (hS.get i hi) hb').2) (fun F hM => ?_)
      · rwa [List.set_getElem?_self' hi] at key
      · refine ⟨cs, ⟨hr.1, .inr ⟨g, c, _, rfl, q1, setRow_heap w g cur _ e _ q2, q3, q4, ?_, ?_⟩⟩, hR.mv hM⟩
        · simp only [List.size_toArray, List.length_append, List.length_take, List.length_drop, hcurl, hvl]
          omega
        · rw [List.append_assoc, List.take_append_of_le_length (by rw [List.length_take, hcurl]; omega), List.take_take, Nat.min_eq_left e2]
          exact q6
end
end Go.Wk
