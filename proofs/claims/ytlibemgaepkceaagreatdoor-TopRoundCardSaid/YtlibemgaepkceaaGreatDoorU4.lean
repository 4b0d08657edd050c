/-
  WHAT IS PROVED HERE, TEXT BY TEXT (several texts of one prover, joined to one file; the conditions stand in each statement):
  * WHAT IS PROVED HERE: room made for a slice that is nil: its capacity, part of it, zeroes put behind it. Conditions stand in each statement; they hold over any program.
  * WHAT IS SAID HERE, WITH PLAIN LAWS: smallest members, lists put together, inverses, pointers as they are found. Conditions stand in each statement.
  * WHAT IS PROVED HERE: the tail of a slice of slices of the call's own is sorted by slices.SortFunc with slices.Compare. Conditions stand in each statement.
  * WHAT IS SAID HERE, WITH PLAIN LAWS: what holders get in a round, and how they go. Conditions stand in each statement.
  * WHAT IS SAID HERE, WITH PLAIN LAWS: what is needed of a tide, and how the first half of one is looked for. Conditions stand in each statement.
  * WHAT IS SAID HERE, WITH PLAIN LAWS: barges that pass a basin. No program in sight.
  * WHAT IS SAID HERE: a function that is told moves, whatever it keeps; and what a pass tells. No program in sight.
  * WHAT IS SAID HERE: an order of barges by numbers, and what happens when moves are carried out. No program in sight.
  * WHAT IS SAID HERE, WITH PLAIN LAWS: orders by numbers, and that rings of trade are rings of a tide. Conditions stand in each statement.
  * WHAT IS PROVED HERE: an argument that reads as data is, in the world at the start, a value that stands for a plain list, number, or pair (V of Wk2). Conditions: the types' closed facts, as hypotheses.
  * WHAT IS PROVED HERE: pairs of numbers as they are read at the start. Conditions: the types' closed facts, as hypotheses.
  * WHAT IS PROVED HERE: maps of the call's own, made, read and written: a list of keys with values, in the order in which the keys came. Conditions stand in each statement; they hold over any program.
  * WHAT IS PROVED HERE: a region of all orders, where what yields its value in every world that keeps some objects is taken first. Nothing here speaks of a program.
  * WHAT IS PROVED HERE: a region of all orders, with operations that are carried out just if a guard says so. Nothing here speaks of a program.
  * WHAT IS PROVED HERE: maps of the call's own: what is found, and whether; how many entries. Nothing here speaks of a program.
  * WHAT IS PROVED HERE: something is appended to a slice whose room is its length; that may be nothing. Nothing here speaks of a program.
  * WHAT IS PROVED HERE: calls of functions that have no body and write one cell of a variable of the call's own; functions entered as deferred calls; calls through an interface value. Nothing here speaks of a program.
  * WHAT IS PROVED HERE: plain laws of shores that are made of numbers. No program in sight.
  * WHAT IS PROVED HERE: plain laws of shores whose columns are in the opposite order. No program in sight.
  * WHAT IS PROVED HERE: plain laws of pools, one after another: where each place is. No program in sight.
  * WHAT IS PROVED HERE: plain laws of ways, basins and distances that are found by going over all neighbours many times. No program in sight.
  * WHAT IS PROVED HERE: plain laws of trees: how many joints they have, the highest joint between two, and the lowest ways found by trying all places in between. No program in sight.
  * WHAT IS PROVED HERE: plain laws of lowest ways between neighbours. No program in sight.
  * WHAT IS SAID HERE, WITH PLAIN LAWS: maps of lines: what comes after each end, rings of ends, parts, maps without a line; and the maps of six small shores. No program in sight.
  * WHAT IS PROVED HERE: plain laws of shores as maps: without the lines that are no joints of the tree a map has as many parts as there are joints with the river. No program in sight.
  * WHAT IS PROVED HERE: plain laws of six small shores as maps: without the lines that are no joints of the tree there are as many parts, with the places alone, as joints with the river. No program in sight.
  * WHAT IS PROVED HERE: plain laws of rings of ends: gone along until the first end comes again. No program in sight.
  * WHAT IS PROVED HERE: plain laws of parts: labels in an array, turned one by one. No program in sight.
  * WHAT IS PROVED HERE: plain laws of tables that are made of lists of ends, and of lists without a line. No program in sight.
-/
import Derived.Test.YtlibemgaepkceaaGreatDoorU1
import Derived.Lib.AppendZerosOnto
import Derived.Test.YtlibemgaepkceaaGreatDoorU2
import Derived.Test.YtlibemgaepkceaaGreatDoorU3
import Derived.Deep.Slices
import Derived.Deep.Strs
import Derived.Lib.SmallJoins
import Derived.OpenShut
import Derived.Carry
import Derived.ProofKit
import Derived.ChangeMaps5
import Derived.MapKept
import Derived.ChangeMaps4
import Derived.Laws.LoneSync
import Derived.Defers

set_option linter.unusedVariables false
set_option linter.unusedSimpArgs false

namespace Go.Wk
open Go.RowKit
set_option linter.unusedVariables false
section
variable {P : Program} {n : Nat} {σ : Fr} {w w0 : World} {O : List (Option Nat)} {obs : List Ob} {x y z : Operand} {ty T T' : TypeId} {ops : Array Oper} {rest : List Oper} {k : Cont} {pos : String} {af : Array Edge} {l : List (Nat × Value)} {σ0 : Fr} {d : Tmp}
theorem rd_cap {e : TypeId} {ad : Option Addr} {m c : Nat} (hx : ev σ x = .slice ad m c) (hu : P.underlying T = some (.slice e)) :
    Rd P σ (.call { callee := .builtin .cap, args := #[x], argTypes := #[T] }) ty w (.int .i64 c) :=
  Rd.of fun w' => by
    simp [xop, execOp, resolve, invoke, builtin, hx, Builtin.cap_, run_underlying hu, goInt]
theorem rd_sliceNil {e : TypeId} {sz : Nat} {kk : IntKind} (hu : P.underlying T = some (.slice e)) (hsz : ∀ w', (sizeOf e).run P w' = .ok sz w') (hx : ev σ z = .slice none 0 0) (hh : ev σ y = .int kk 0) :
    Rd P σ (.slice T z none (some y) none) ty w (.slice none 0 0) :=
  Rd.of fun w' => by
    simp only [xop, execOp, hx, Option.map_some, Option.map_none, hh, Sem.run_bind, run_sliceV hu hsz (bounds_h (P := P) (len := 0) (cap := 0) (k2 := kk) (h := 0) (Int.le_refl 0) (Int.le_refl 0))]
    rfl
theorem Wx.zeros {α : Type} {t : Ty α} {e : TypeId} {zv : Value} {zy : α} {bytes m : Nat} {kq kn : IntKind} (hE : ElemI P T e zv 1 bytes) (hn : t.n = 1) (hzc : zv.cells = #[zv]) (hzr : ∀ F w, t.rep F w zy [zv]) (hS : St w0 O w obs)
    (htn : P.underlying T' = some (.int kn)) (hx : ev (look l σ0) x = .slice none 0 0) (hy : ev (look l σ0) y = .int kq (m : Int)) (h0 : 0 < m) (hb : m * bytes ≤ 140737488355328) (h63 : m ≤ maxLen) (hd : Nat.ble (d + 1) n = true)
    (h : ∀ v w', Ext w w' → St w0 O w' (.row t e v (List.replicate m zy) :: obs) → Wx P n ops false rest k (look ((d, v) :: l) σ0) w') :
    Wx P n ops false (⟨some d, .call { callee := .builtin .append, args := #[x, y], argTypes := #[T, T'] }, ty, pos, af, none⟩ :: rest) k (look l σ0) w := by
  obtain ⟨ti, hti, hz, hsz, hby⟩ := hE.info
  subst hby
  have hr := Lib.run_append_grow_zeros (P := P) w T T' ty e ti zv kq kn hE.und htn hti hz none 0 0 [] (run_firstCells_none w.drew ti.size 0 0 0) m h0 (by omega) (by omega) (by simp only [maxLen] at h63; omega) (by omega) (growslice_fits (by omega) (by simpa using hb))
  have hc1 := grownCap_ge w (0 + m) 0 e
  have hc2 := grownCap_le_maxLen w (0 + m) 0 e (by simp only [maxLen] at h63 ⊢; omega)
  generalize grownCap w (0 + m) 0 e = cap at hr hc1 hc2
  have hzl : ∀ q : Nat, (Builtin.zeroCells zv.cells q).toList = List.replicate q zv := by
    intro q
    rw [hzc]
    apply List.ext_getElem?
    intro j
    simp only [Builtin.zeroCells, Array.toList_map, List.getElem?_map, List.getElem?_replicate, Array.toList_range]
    by_cases hj : j < q
    · simp [hj, Nat.mod_one]
    · simp [hj]
  have hx' : Ext w (w.drew.alloc (.cells (([] : List Value).toArray ++ Builtin.zeroCells zv.cells m ++ Builtin.zeroCells zv.cells (cap - (0 + m))) e)) := (((Below.refl w.heap.size w).drew).alloc (by simp) _)
  have hcl : (([] : List Value).toArray ++ Builtin.zeroCells zv.cells m ++ Builtin.zeroCells zv.cells (cap - (0 + m))).toList = List.replicate m zv ++ List.replicate (cap - (0 + m)) zv := by simp [hzl]
  refine Wx.val (v := .slice (some ⟨w.heap.size, 0, none⟩) (0 + m) cap) (w' := _) (by simp [xop, execOp, resolve, invoke, builtin, hx, hy, hr]) hd (h _ _ hx' ?_)
  generalize hcc : (([] : List Value).toArray ++ Builtin.zeroCells zv.cells m ++ Builtin.zeroCells zv.cells (cap - (0 + m))) = cc at hx' hcl ⊢
  have hsize : cc.size = cap := by rw [← Array.length_toList, hcl]; simp; omega
  refine hS.push hx' _ (fun b hb => by simp [Ob.blk, Value.ownBlock] at hb; omega) (fun F hM => ⟨List.replicate m zv, ⟨by simp [hn], .inr ⟨w.heap.size, cap, cc, by simp, hS.bel.size, heap_alloc_new w.drew _, by simpa using hc1, hc2, by simp [hsize, hn], ?_⟩⟩, by simp [hn], fun i q hq => ?_⟩)
  · rw [hcl, List.length_replicate, hn, Nat.mul_one, List.take_append_of_le_length (by simp), List.take_of_length_le (by simp)]
  · obtain ⟨hi, hq⟩ := List.getElem?_eq_some_iff.1 hq
    simp only [List.getElem_replicate] at hq
    subst hq
    simp only [List.length_replicate] at hi
    rw [hn, Nat.mul_one, List.drop_replicate, List.take_replicate, Nat.min_eq_left (by omega)]
    exact hzr F _
end
end Go.Wk

namespace Go.Proofs.YtlibemgaepkceaaGreatDoor
open Go.Wk Go.RowKit
set_option linter.unusedVariables false
theorem minR_start {l : List Int} (h : 1 ≤ (l.length : Int)) : (l.drop (1 : Int).toNat).foldl min (ix 0 l 0) = minR l := by
  cases l with
  | nil => simp at h
  | cons a l => rfl
theorem minR_next {l : List Int} {k m r : Int} (h0 : 0 ≤ k) (h1 : k < l.length) (h : (l.drop k.toNat).foldl min m = r) : (l.drop (k + 1).toNat).foldl min (min m (ix 0 l k)) = r := by
  rw [← h, drop_ix (d := 0) h0 h1]; rfl
theorem flatR_le {α : Type} (ss : List (List α)) (k : Nat) : (ss.take k).flatten.length ≤ ss.flatten.length := by
  conv => rhs; rw [← List.take_append_drop k ss, List.flatten_append, List.length_append]
  omega
theorem flatR_next {α : Type} {ss : List (List α)} {k : Int} (h0 : 0 ≤ k) (h1 : k < ss.length) : (ss.take (k + 1).toNat).flatten = (ss.take k.toNat).flatten ++ ix [] ss k ∧ ((ss.take k.toNat).flatten.length : Int) + (ix [] ss k).length ≤ ss.flatten.length := by
  have e : (ss.take (k + 1).toNat).flatten = (ss.take k.toNat).flatten ++ ix [] ss k := by rw [take_ix (d := []) h0 h1, List.flatten_append]; simp
  refine ⟨e, ?_⟩
  have := flatR_le ss (k + 1).toNat
  rw [e, List.length_append] at this
  omega
theorem idxP_at (n : Int) : ∀ (ys : List Int) (i : Int), n ∈ ys → idxP (fun y => decide (y = n)) i ys = i + (ys.idxOf n : Int)
  | y :: ys, i, h => by
    rw [idxP, List.idxOf_cons]
    by_cases hy : y = n
    · subst hy; simp
    · have h2 : n ∈ ys := (List.mem_cons.1 h).resolve_left fun q => hy q.symm
      rw [if_neg (by simpa using hy), idxP_at n ys (i + 1) h2]
      have : (y == n) = false := by simpa using hy
      rw [this, cond_false]
      omega
theorem rot_at {l : List Int} (h : l ≠ []) : (0 ≤ idxP (fun y => decide (y = minR l)) 0 l ∧ idxP (fun y => decide (y = minR l)) 0 l < l.length) ∧
    [l.drop (idxP (fun y => decide (y = minR l)) 0 l).toNat, l.take (idxP (fun y => decide (y = minR l)) 0 l).toNat].flatten = rotV l := by
  have hm := (minR_ok h).1
  rw [idxP_at (minR l) l 0 hm]
  have := List.idxOf_lt_length_iff.2 hm
  refine ⟨by omega, ?_⟩
  rw [show (0 + (l.idxOf (minR l) : Int)).toNat = l.idxOf (minR l) by omega, rotV]; simp
def invK (H : List Int) (i : Int) : List Int := ((upR H.length).take i.toNat).foldl (fun o i => o.set (ix 0 H i).toNat i) (List.replicate H.length 0)
def invV (H : List Int) : List Int := invK H H.length
theorem inv_next {H : List Int} {i : Int} (h0 : 0 ≤ i) (h1 : i < H.length) : invK H (i + 1) = (invK H i).set (ix 0 H i).toNat i := by
  rw [invK, upR_take h0 h1, List.foldl_append]; rfl
theorem inv_len {H : List Int} {i : Int} : (invK H i).length = H.length := by
  rw [invK]
  have : ∀ (L o : List Int), (L.foldl (fun o i => o.set (ix 0 H i).toNat i) o).length = o.length := by
    intro L
    induction L with
    | nil => intro o; rfl
    | cons a L ih => intro o; rw [List.foldl_cons, ih, List.length_set]
  rw [this, List.length_replicate]
theorem inv_all {H : List Int} {i : Int} (h : (H.length : Int) ≤ i) : invK H i = invV H := by
  rw [invV, invK, invK, List.take_of_length_le (by rw [upR_len]; omega), List.take_of_length_le (by rw [upR_len]; omega)]
theorem inv_at {H : List Int} {n : Nat} (hP : PermR n H) : ∀ (m : Nat), m ≤ n → ∀ j : Int, 0 ≤ j → j < m → ix 0 (invK H m) (ix 0 H j) = j
  | 0, _, j, j0, j1 => by omega
  | m + 1, hm, j, j0, j1 => by
    have hl := hP.len
    have hx := hP.at_ (i := (m : Int)) (by omega) (by omega)
    have hj := hP.at_ (i := j) j0 (by omega)
    rw [show (((m + 1 : Nat)) : Int) = (m : Int) + 1 by omega, inv_next (by omega) (by omega), ix_setR hx.1 (by rw [inv_len]; omega) hj.1]
    by_cases hjm : j = m
    · subst hjm; rw [if_pos rfl]
    · rw [if_neg, inv_at hP m (by omega) j j0 (by omega)]
      intro e
      have e1 := ix_get (d := (0 : Int)) (show j < H.length by omega) j0
      have e2 := ix_get (d := (0 : Int)) (show (m : Int) < H.length by omega) (by omega)
      rw [e, ← e2] at e1
      have := (List.getElem?_inj (by omega) hP.nd).1 e1
      omega
theorem inv_ix {H : List Int} {n : Nat} (hP : PermR n H) {j : Int} (j0 : 0 ≤ j) (j1 : j < n) : ix 0 (invV H) (ix 0 H j) = j := by
  have := inv_at hP n (Nat.le_refl n) j j0 j1
  rw [invV, hP.len]; exact this
structure WHOK (n : Nat) (W : WW) (H : List Int) : Prop where
  n1 : 1 ≤ n ∧ n ≤ 6
  l : W.length = n
  w : ∀ l ∈ W, PermR n l
  h : PermR n H
theorem WHOK.ok {n : Nat} {W : WW} {H : List Int} (h : WHOK n W H) : WOK n W (invV H) := by
  have hw : ∀ x : Int, 0 ≤ x → x < n → PermR n (ix [] W x) := fun x x0 x1 => h.w _ (ix_memR x0 (by rw [h.l]; exact x1))
  refine ⟨h.l, by rw [invV, inv_len, h.h.len], fun x x0 x1 => (hw x x0 x1).len, fun x x0 x1 s hs => (hw x x0 x1).mem.1 hs, fun x x0 x1 s s0 s1 => (hw x x0 x1).mem.2 ⟨s0, s1⟩, fun s s0 s1 => ?_, fun x x0 x1 => ⟨ix 0 H x, h.h.at_ x0 x1, inv_ix h.h x0 x1⟩⟩
  obtain ⟨j, j0, j1, e⟩ := ix_of_mem (h.h.mem.2 ⟨s0, s1⟩)
  rw [h.h.len] at j1
  rw [← e, inv_ix h.h j0 j1]
  exact ⟨j0, j1⟩
theorem wish_bd {n : Nat} {W : WW} {Ow : List Int} {A : AA} (hW : WOK n W Ow) {x : Int} (x0 : 0 ≤ x) (x1 : x < n) : -1 ≤ wishV W Ow A x ∧ wishV W Ow A x < n := by
  cases hg : goneB A x with
  | true => rw [wish_gone hg]; omega
  | false => have := wish_there hW x0 x1 hg; omega
def ToI (n : Nat) (W : WW) (Ow : List Int) (A : AA) (ts : List Int) (k : Int) : Prop := ts.length = n ∧ ∀ j : Int, 0 ≤ j → j < k → ix 0 ts j = toF W Ow A j
section
variable {n : Nat} {W : WW} {Ow : List Int} {A : AA} {ts : List Int} {k : Int}
theorem toI_start : ToI n W Ow A (List.replicate n 0) 0 := ⟨List.length_replicate, fun j j0 j1 => by omega⟩
theorem toI_yes (h : ToI n W Ow A ts k) (k0 : 0 ≤ k) (k1 : k < n) (c : 0 ≤ wishV W Ow A k) : ToI n W Ow A ((ts.set k.toNat (-1)).set k.toNat (ix 0 Ow (wishV W Ow A k))) (k + 1) := by
  refine ⟨by rw [List.length_set, List.length_set]; exact h.1, fun j j0 j1 => ?_⟩
  rw [ix_setR k0 (by rw [List.length_set, h.1]; exact k1) j0, ix_setR k0 (by rw [h.1]; exact k1) j0]
  by_cases hj : j = k
  · subst hj; rw [if_pos rfl, toF, if_pos c]
  · rw [if_neg hj, if_neg hj]; exact h.2 j j0 (by omega)
theorem toI_no (h : ToI n W Ow A ts k) (k0 : 0 ≤ k) (k1 : k < n) (c : ¬ 0 ≤ wishV W Ow A k) : ToI n W Ow A (ts.set k.toNat (-1)) (k + 1) := by
  refine ⟨by rw [List.length_set]; exact h.1, fun j j0 j1 => ?_⟩
  rw [ix_setR k0 (by rw [h.1]; exact k1) j0]
  by_cases hj : j = k
  · subst hj; rw [if_pos rfl, toF, if_neg c]
  · rw [if_neg hj]; exact h.2 j j0 (by omega)
theorem ext_R {p q : List Int} (hl : p.length = q.length) (h : ∀ i : Int, 0 ≤ i → i < p.length → ix 0 p i = ix 0 q i) : p = q := by
  refine List.ext_getElem hl fun i h1 h2 => ?_
  have := h (i : Int) (by omega) (by omega)
  rw [ix, ix, List.getD_eq_getElem?_getD, List.getD_eq_getElem?_getD, show ((i : Int)).toNat = i by omega, List.getElem?_eq_getElem h1, List.getElem?_eq_getElem h2] at this
  exact this
theorem toI_all (h : ToI n W Ow A ts k) (hk : (n : Int) ≤ k) : ts = toV W Ow A n := by
  refine ext_R (by rw [h.1, toV, List.length_map, upR_len]) fun i i0 i1 => ?_
  rw [h.1] at i1
  rw [h.2 i i0 (by omega), toV_ix i0 i1]
def RgI (to : List Int) (c : Int) (cyc g rest : List Int) (x : Int) : Prop := cyc = g ++ rest ∧ Pth to x rest c
theorem rg_start {to cyc : List Int} {c : Int} (h : CycP n to c cyc) : RgI to c cyc [] cyc c := ⟨rfl, h.pth⟩
theorem rg_more {to cyc g rest : List Int} {c x : Int} (h : CycP n to c cyc) (hI : RgI to c cyc g rest x) (hc : g = [] ∨ x ≠ c) : ∃ r, rest = x :: r ∧ RgI to c cyc (g ++ [x]) r (ix 0 to x) := by
  obtain ⟨e, hp⟩ := hI
  cases rest with
  | nil =>
    obtain rfl : x = c := hp
    rcases hc with hc | hc
    · subst hc; exact (h.ne e).elim
    · exact (hc rfl).elim
  | cons y r =>
    obtain ⟨rfl, hp⟩ := hp
    exact ⟨r, rfl, by rw [e]; simp, hp⟩
theorem rgi_end {to cyc g rest : List Int} {c x : Int} (h : CycP n to c cyc) (hI : RgI to c cyc g rest x) (hg : g ≠ []) (hx : x = c) : g = cyc := by
  obtain ⟨e, hp⟩ := hI
  cases rest with
  | nil => rw [e, List.append_nil]
  | cons y r =>
    exfalso
    obtain ⟨rfl, _⟩ := hp
    cases g with
    | nil => exact hg rfl
    | cons z g =>
      have h1 := h.pth
      rw [e] at h1
      have hz : z = c := h1.1
      have h2 := h.nd
      rw [e, hz, ← hx] at h2
      exact (List.nodup_cons.1 h2).1 (by simp)
theorem CycP.len {to l : List Int} {c : Int} (h : CycP n to c l) : l.length ≤ n := by
  have := List.Nodup.length_le_of_subset h.nd (l₂ := upR n) fun x hx => upR_mem.2 (h.mem x hx).1
  rw [upR_len] at this; exact this
theorem scan_skip {to ms m2 : List Int} {Q : List (List Int)} {h a : Int} (e : (pthV to (h + 1) ms h).2 = (m2, a)) (c : ix 0 to a < 0 ∨ ix 0 m2 a ≠ h + 1) : scanS to (ms, Q) h = (m2, Q) := by
  rw [scanS]
  simp only
  rw [e, if_pos c]
theorem scan_ring {to ms m2 : List Int} {Q : List (List Int)} {h a : Int} (e : (pthV to (h + 1) ms h).2 = (m2, a)) (c : ¬ (ix 0 to a < 0 ∨ ix 0 m2 a ≠ h + 1)) : scanS to (ms, Q) h = (m2, Q ++ [rotV (cyclV (pthV to (h + 1) ms h))]) := by
  rw [scanS]
  simp only
  rw [e, if_neg c]
theorem scan_cyc {to ms m2 : List Int} {Q : List (List Int)} {h a : Int} (hto : ToOK n to) (hs : ScanI n to h (ms, Q)) (h0 : 0 ≤ h) (h1 : h < n) (e : (pthV to (h + 1) ms h).2 = (m2, a)) (c : ¬ (ix 0 to a < 0 ∨ ix 0 m2 a ≠ h + 1)) :
    CycP n to a (cyclV (pthV to (h + 1) ms h)) := by
  have hp := pthV_spec (k := h + 1) hto (by omega) rfl hs.len h0 h1
  have hk : ∀ x ∈ ms, x ≠ h + 1 := fun x hx ex => by
    obtain ⟨j, j0, j1, ej⟩ := ix_of_mem hx
    have := hs.rng j j0 (by rw [hs.len] at j1; exact j1)
    simp only at this
    omega
  have := (cyc_ok hp hk hs.len (by rw [e]; simp only; omega)).2.1
  rw [e] at this
  exact this
theorem rg_pos {g : List Int} (h : ¬ (g.length : Int) = 0) : g ≠ [] := fun q => by subst q; exact h rfl
theorem rg_nil {g : List Int} (h : (g.length : Int) = 0) : g = [] := List.eq_nil_of_length_eq_zero (by omega)
end
end Go.Proofs.YtlibemgaepkceaaGreatDoor

namespace Go.Proofs.YtlibemgaepkceaaGreatDoor
open Go.Wk Go.RowKit Go.Lib
set_option linter.unusedVariables false
theorem swo_L {α : Type} [Inhabited α] (f : α → List Int) : Go.Sort.SWO (Go.Proofs.ltOf fun x y : α => cmpL (f x) (f y)) := by
  have hi : ∀ x y : α, Go.Proofs.ltOf (fun x y : α => cmpL (f x) (f y)) x y = true ↔ ltL (f x) (f y) := fun x y => by rw [Go.Proofs.ltOf, decide_eq_true_eq, cmpL_lt]
  have hf : ∀ x y : α, Go.Proofs.ltOf (fun x y : α => cmpL (f x) (f y)) x y = false ↔ ¬ ltL (f x) (f y) := fun x y => by rw [← Bool.not_eq_true, hi]
  refine ⟨fun x => (hf _ _).2 (ltL_irr _), fun x y z h k => (hi _ _).2 (ltL_trans ((hi _ _).1 h) ((hi _ _).1 k)), fun x y z h k => (hf _ _).2 fun q => ?_⟩
  have h := (hf _ _).1 h
  have k := (hf _ _).1 k
  by_cases h1 : ltL (f y) (f x)
  · exact k (ltL_trans h1 q)
  · rcases ltL_total (f x) (f y) with e | e | e
    · exact h e
    · rw [e] at q; exact k q
    · exact h1 e
theorem sortTail {w0 w : World} {O : List (Option Nat)} {obs : List Ob} {v : Value} {e : TypeId} {ys : List (List Int)} (hS : St w0 O w obs) (i : Nat) (hi : obs[i]? = some (.row (tSl tInt) e v ys)) (lo : Nat) (hlo : lo < ys.length) (hlen : ys.length ≤ 1000)
    {u : Value} (hu : ∀ g c, v = .slice (some ⟨g, 0, none⟩) ys.length c → u = .slice (some ⟨g, lo, none⟩) (ys.length - lo) (c - lo)) :
    Calls Tryz.prog 9 #[u, .func (.func 10) #[] #[]] w (Bk fun r w' => r = .tuple #[] ∧ ∃ zs : List (List Int), zs.Perm (ys.drop lo) ∧ zs.Pairwise (fun a b => ¬ ltL b a) ∧ St w0 O w' (obs.set i (.row (tSl tInt) e v (ys.take lo ++ zs)))) := by
  obtain ⟨g, cap, hv, hgl, hgF, d, hd, hH, hput⟩ := St.tailRow rfl hS i hi lo hlo
  have hdl : d.length = ys.length - lo := by rw [← List.length_map (f := fun x : CelV (tSl tInt) (fb obs O) w => x.1.2), hd, List.length_drop]
  obtain ⟨x0, hx0⟩ := List.exists_mem_of_length_pos (l := d) (by omega)
  letI : Inhabited (CelV (tSl tInt) (fb obs O) w) := ⟨x0⟩
  rw [hu g cap hv, ← hdl]
  refine (Go.Proofs.Any.slices_SortFunc Tryz.laysSlF06_f9 (fun x : CelV (tSl tInt) (fb obs O) w => x.1.1) (fun x => (tSl tInt).one x.2 _ List.mem_cons_self) (fun x y : CelV (tSl tInt) (fb obs O) w => cmpL x.1.2 y.1.2) (swo_L fun x : CelV (tSl tInt) (fb obs O) w => x.1.2)
    10 #[] g lo (cap - lo) d.toArray w (fun _ _ => ?_) (fun m os dk _ x y => ?_) hH hgl (by simp; omega)).mono ?_
  · exact Go.Proofs.enters_of Tryz.func10 (by kernel_rfl) rfl _ _
  · have hm := mv_putO (F := fb obs O) (w := w) (fun x : CelV (tSl tInt) (fb obs O) w => x.1.1) lo dk (n := m) (os := os) hgF
    have hx : V (tSl tInt) x.1.2 x.1.1 (fb obs O) w := ⟨[x.1.1], rfl, x.2⟩
    have hy : V (tSl tInt) y.1.2 y.1.1 (fb obs O) w := ⟨[y.1.1], rfl, y.2⟩
    refine (X10 (hx.mv hm) (hy.mv hm)).mono ?_
    rintro e w' ⟨r, he, rfl, hw⟩
    exact ⟨he, 0, #[], by rw [hw]; exact (Go.Sort.grow_empty _).symm⟩
  · rintro e w' ⟨rfl, d', n, os, hp, hs, rfl⟩
    have hp2 : d'.toList.Perm d := by
      have := hp.2.2
      have hz : d'.size = d.length := by rw [hp.1]; simp
      rw [Array.extract_eq_self_of_le (by simp [hz]), Array.extract_eq_self_of_le (by simp)] at this
      exact this
    refine ⟨_, rfl, rfl, d'.toList.map (fun x : CelV (tSl tInt) (fb obs O) w => x.1.2), ?_, ?_, by have := hput n os d'.toList hp2; rw [Array.toArray_toList] at this; exact this⟩
    · rw [← hd]; exact hp2.map _
    · rw [List.pairwise_map, List.pairwise_iff_getElem]
      intro a b ha hb hab
      have hz : d'.size = d.length := by rw [hp.1]; simp
      have := hs a b (Nat.zero_le _) hab (by simp at hb ⊢; omega)
      rw [getElem!_pos d' a (by simp at ha; omega), getElem!_pos d' b (by simp at hb; omega), Go.Proofs.ltOf, decide_eq_false_iff_not, cmpL_lt] at this
      simpa using this
end Go.Proofs.YtlibemgaepkceaaGreatDoor

namespace Go.Proofs.YtlibemgaepkceaaGreatDoor
open Go.Wk Go.RowKit
set_option linter.unusedVariables false
def GtI (n : Nat) (W : WW) (Ow : List Int) (A : AA) (gs D : List Int) : Prop := gs.length = n ∧ ∀ x ∈ D, (0 ≤ x ∧ x < n) ∧ ix 0 gs x = wishV W Ow A x
def StI (n : Nat) (nb : Int) (gs : List Int) (S S' : List HS) (D : List Int) : Prop := S'.length = n ∧ ∀ x : Int, 0 ≤ x → x < n → ix hs0 S' x = if x ∈ D then .g nb (ix 0 gs x) else ix hs0 S x
section
variable {n : Nat} {W : WW} {Ow : List Int} {A : AA} {gs D : List Int} {nb : Int} {S S' : List HS} {h : Int}
theorem gtI_start : GtI n W Ow A (List.replicate n 0) [] := ⟨List.length_replicate, fun x hx => nomatch hx⟩
theorem gtI_next (hI : GtI n W Ow A gs D) (h0 : 0 ≤ h) (h1 : h < n) : GtI n W Ow A (gs.set h.toNat (wishV W Ow A h)) (D ++ [h]) := by
  refine ⟨by rw [List.length_set]; exact hI.1, fun x hx => ?_⟩
  by_cases hxh : x = h
  · subst hxh
    exact ⟨⟨h0, h1⟩, by rw [ix_setR h0 (by rw [hI.1]; exact h1) h0, if_pos rfl]⟩
  · have hx : x ∈ D := by
      rcases List.mem_append.1 hx with hx | hx
      · exact hx
      · exact (hxh (List.mem_singleton.1 hx)).elim
    obtain ⟨a, b⟩ := hI.2 x hx
    exact ⟨a, by rw [ix_setR h0 (by rw [hI.1]; exact h1) a.1, if_neg hxh, b]⟩
theorem stI_start (hl : S.length = n) : StI n nb gs S S [] := ⟨hl, fun x _ _ => by simp⟩
theorem stI_next (hI : StI n nb gs S S' D) (h0 : 0 ≤ h) (h1 : h < n) : StI n nb gs S (S'.set h.toNat (HS.g nb (ix 0 gs h))) (D ++ [h]) := by
  refine ⟨by rw [List.length_set]; exact hI.1, fun x x0 x1 => ?_⟩
  rw [ix_setR h0 (by rw [hI.1]; exact h1) x0]
  by_cases hxh : x = h
  · subst hxh; rw [if_pos rfl, if_pos (by simp)]
  · rw [if_neg hxh, hI.2 x x0 x1]
    by_cases hx : x ∈ D
    · rw [if_pos hx, if_pos (List.mem_append.2 (.inl hx))]
    · rw [if_neg hx, if_neg fun q => (List.mem_append.1 q).elim hx fun q => hxh (List.mem_singleton.1 q)]
theorem flat_in {zs : List (List Int)} {i j : Int} (j0 : 0 ≤ j) (j1 : j < (ix [] zs i).length) : (zs.take i.toNat).flatten ++ (ix [] zs i).take (j + 1).toNat = ((zs.take i.toNat).flatten ++ (ix [] zs i).take j.toNat) ++ [ix 0 (ix [] zs i) j] := by
  rw [take_ix (d := (0 : Int)) j0 j1, List.append_assoc]
theorem flat_out {zs : List (List Int)} {i j : Int} (i0 : 0 ≤ i) (i1 : i < zs.length) (hj : ((ix [] zs i).length : Int) ≤ j) : (zs.take i.toNat).flatten ++ (ix [] zs i).take j.toNat = (zs.take (i + 1).toNat).flatten := by
  rw [(flatR_next i0 i1).1, take_end hj]
theorem flat_zero {zs : List (List Int)} {i : Int} : (zs.take i.toNat).flatten = (zs.take i.toNat).flatten ++ (ix [] zs i).take (0 : Int).toNat := by simp
theorem absL_rep : absL (List.replicate n (HS.w 0)) = none0 n := by rw [absL, none0, List.map_replicate]; rfl
theorem fin_step (hW : WOK n W Ow) {S2 S4 S6 : List HS} {zs Q : List (List Int)} (h4 : absL S4 = absL S2) (hI : SInv n W Ow S4) (hG : GtI n W Ow (absL S2) gs zs.flatten) (hS : StI n nb gs S4 S6 zs.flatten) (hz : zs.Perm Q) :
    absL S6 = nextA W Ow n (absL S2) Q.flatten ∧ SInv n W Ow S6 := by
  have hm : ∀ x, x ∈ zs.flatten ↔ x ∈ Q.flatten := fun x => hz.flatten.mem_iff
  have hA : absL S6 = nextA W Ow n (absL S2) Q.flatten := by
    refine List.ext_getElem (by rw [absL_len, hS.1, nextA_len]) fun i h1 h2 => ?_
    have hi : (i : Int) < n := by rw [absL_len, hS.1] at h1; omega
    have e1 : ix (some 0) (absL S6) (i : Int) = (absL S6)[i] := by rw [ix, List.getD_eq_getElem?_getD, show ((i : Int)).toNat = i by omega, List.getElem?_eq_getElem h1]; rfl
    have e2 : ix (some 0) (nextA W Ow n (absL S2) Q.flatten) (i : Int) = (nextA W Ow n (absL S2) Q.flatten)[i] := by rw [ix, List.getD_eq_getElem?_getD, show ((i : Int)).toNat = i by omega, List.getElem?_eq_getElem h2]; rfl
    rw [← e1, ← e2, nextA_ix (by omega) hi, absL_ix, hS.2 (i : Int) (by omega) hi]
    by_cases hx : (i : Int) ∈ zs.flatten
    · rw [if_pos hx, if_pos ((hm _).1 hx), (hG.2 _ hx).2]; rfl
    · rw [if_neg hx, if_neg fun q => hx ((hm _).2 q), ← absL_ix, h4]
  refine ⟨hA, hS.1, fun x x0 x1 hx => ?_⟩
  rw [hS.2 x x0 x1] at hx ⊢
  by_cases hxz : x ∈ zs.flatten
  · rw [if_pos hxz] at hx; cases hx
  · rw [if_neg hxz] at hx ⊢
    obtain ⟨k1, k2⟩ := hI.2 x x0 x1 hx
    refine ⟨k1, fun j j0 j1 => ?_⟩
    have hg := k2 j j0 j1
    obtain ⟨p0, p1⟩ := wish_lt hW hI x0 x1 hx
    have hr := hW.wr x x0 x1 _ (ix_memR (d := (0 : Int)) (j := j) j0 (by rw [hW.wl x x0 x1]; omega))
    have ho := hW.or _ hr.1 hr.2
    rw [gone_isW, hS.2 _ ho.1 ho.2]
    rw [gone_isW] at hg
    split
    · rfl
    · exact hg
theorem runI_len {O : List Int} {Q : List (List Int)} (h : RunI O n A Q) : Q.length ≤ n := by
  have h1 := List.Nodup.length_le_of_subset h.nd (l₂ := upR n) fun x hx => upR_mem.2 ((h.mem x).1 hx).1
  rw [upR_len] at h1
  have h2 : ∀ {R : List (List Int)}, (∀ l ∈ R, 0 < l.length) → R.length ≤ R.flatten.length := by
    intro R
    induction R with
    | nil => intro _; exact Nat.le_refl _
    | cons l R ih =>
      intro hl
      rw [List.flatten_cons, List.length_append, List.length_cons]
      have := hl l List.mem_cons_self
      have := ih fun l h => hl l (List.mem_cons_of_mem _ h)
      omega
  have := h2 (R := Q) fun l hl => by obtain ⟨m, q, e, _⟩ := h.ring l hl; rw [e]; simp
  omega
end
theorem tail_ix {R zs : List (List Int)} {d i : Int} (hd : d = R.length) (hi : 0 ≤ i) : ix [] (R ++ zs) (d + i) = ix [] zs i := by
  rw [ix, ix, List.getD_eq_getElem?_getD, List.getD_eq_getElem?_getD, List.getElem?_append_right (by omega)]
  congr 2; omega
theorem take_map_hs {S : List HS} {k : Int} (h0 : 0 ≤ k) (h1 : k < S.length) : (S.map gT).take (k + 1).toNat = (S.map gT).take k.toNat ++ [gT (ix hs0 S k)] := by
  rw [take_ix (d := gT hs0) h0 (by rw [List.length_map]; exact h1)]
  congr 2
  rw [ix, ix, List.getD_eq_getElem?_getD, List.getD_eq_getElem?_getD, List.getElem?_map]
  cases S[k.toNat]? <;> rfl
theorem whok_all {n : Nat} {W : WW} {H : List Int} (h : WHOK n W H) : ∀ l ∈ W ++ [H], PermR W.length l := by
  rw [h.l]
  intro l hl
  rcases List.mem_append.1 hl with hl | hl
  · exact h.w l hl
  · rw [List.mem_singleton.1 hl]; exact h.h
theorem told_eq {S : List HS} {A : AA} (h : absL S = A) : S.map gT = A.map fun x => x.getD 0 := by
  rw [← h, absL, List.map_map]
  refine List.map_congr_left fun x _ => ?_
  cases x <;> rfl
end Go.Proofs.YtlibemgaepkceaaGreatDoor

namespace Go.Proofs.YtlibemgaepkceaaGreatDoor
open Go.Wk Go.RowKit
set_option linter.unusedVariables false
structure GW (tide : List Int) : Prop where
  n1 : 1 ≤ tide.length ∧ tide.length ≤ 6
  p : PermR tide.length tide
  ring : ∀ l ∈ wrV tide, RingP tide l
  rr : ∀ l ∈ wrV tide, ∀ x ∈ l, 0 ≤ x ∧ x < (tide.length : Int)
  nd : (wrV tide).flatten.Nodup
  cov : ∀ x : Int, 0 ≤ x → x < tide.length → x ∈ (wrV tide).flatten
  inc : (wrV tide).Pairwise fun a b => ix 0 a 0 < ix 0 b 0
  l6 : (wrV tide).length ≤ 6
  ll : ∀ l ∈ wrV tide, 1 ≤ l.length ∧ l.length ≤ 6
  bk : ∀ m : Int, 0 ≤ m → m ≤ 8 → 1 ≤ bkK (kdV tide) m ∧ bkK (kdV tide) m ≤ 60
  kd : ∀ x ∈ kdV tide, 0 ≤ x ∧ x ≤ 6
  af : afV tide (bkV tide) = upR tide.length
theorem perm_of_R {n : Nat} {l : List Int} (hl : l.length = n) (hn : l.Nodup) (hm : ∀ x ∈ l, 0 ≤ x ∧ x < (n : Int)) : PermR n l := by
  refine ⟨(List.perm_ext_iff_of_nodup hn upR_nodup).2 fun x => ⟨fun hx => upR_mem.2 (hm x hx), fun hx => Classical.byContradiction fun hc => ?_⟩⟩
  have := List.Nodup.length_le_of_subset (l₁ := x :: l) (List.nodup_cons.2 ⟨hc, hn⟩) (l₂ := upR n) fun y hy => by
    rcases List.mem_cons.1 hy with rfl | hy
    · exact hx
    · exact upR_mem.2 (hm y hy)
  rw [upR_len, List.length_cons] at this
  omega
theorem gw_of {tide : List Int} (h : goodW tide = true) : GW tide := by
  simp only [goodW, Bool.and_eq_true, decide_eq_true_iff, List.all_eq_true] at h
  obtain ⟨⟨⟨⟨⟨⟨⟨⟨⟨⟨⟨⟨⟨h1, h2⟩, h3⟩, h4⟩, h5⟩, h6⟩, h7⟩, h8⟩, h9⟩, h10⟩, h11⟩, h12⟩, h13⟩, h14⟩ := h
  exact ⟨⟨h1, h2⟩, perm_of_R rfl h4 h3, fun l hl => ringB_iff (h5 l hl), h6, h7, fun x x0 x1 => h8 x (upR_mem.2 ⟨x0, x1⟩), h9, h10, h11, fun m m0 m1 => h12 m (upR_mem.2 ⟨m0, by omega⟩), h13, h14⟩
theorem kd_bd {R : List (List Int)} : ∀ (k : Nat), k ≤ R.length → ∀ j : Int, 0 ≤ ix 0 (kdK R k) j ∧ ix 0 (kdK R k) j ≤ k
  | 0, _, j => by
    rw [kdK]
    show 0 ≤ ix 0 (List.replicate 8 0) j ∧ ix 0 (List.replicate 8 0) j ≤ _
    have : ix 0 (List.replicate 8 (0 : Int)) j = 0 := by rw [ix, List.getD_eq_getElem?_getD, List.getElem?_replicate]; split <;> rfl
    omega
  | k + 1, h, j => by
    have ih := kd_bd (R := R) k (by omega)
    rw [show (((k + 1 : Nat)) : Int) = (k : Int) + 1 by omega, kd_next (by omega) (by omega), kdS, ix, List.getD_eq_getElem?_getD, List.getElem?_set]
    split
    · split
      · have := ih ((ix [] R (k : Int)).length : Int)
        simp only [Option.getD_some]; omega
      · simp only [Option.getD_none]; omega
    · have := ih j
      rw [ix, List.getD_eq_getElem?_getD] at this
      omega
theorem kdV_len {tide : List Int} : (kdV tide).length = 8 := by rw [← kd_all (i := ((wrV tide).length : Int)) (Int.le_refl _), kd_len]
theorem bkw_more {m c st y : Int} {f : Nat} (h : 0 < c ∧ y % m ≠ 0) : bkW m c st (f + 1) y = bkW m c st f (y + st) := by rw [bkW, if_pos h]
theorem bkw_end {m c st y : Int} {f : Nat} (h : ¬ (0 < c ∧ y % m ≠ 0)) : bkW m c st f y = y := by cases f with
  | zero => rfl
  | succ f => rw [bkW, if_neg h]
/-! ### the example of chapter 13 -/
def T4 : List Int := [1, 0, 3, 2]
theorem gw_T4 : GW T4 := gw_of (by decide +kernel)
def matN (a : Int) : Nat → Int
  | 0 => 1
  | 1 => if a % 2 = 1 then 1 else 0
  | m + 2 => (if a % 2 = 1 then matN a (m + 1) else 0) + ((m : Int) + 1) * a * matN a m
def matF (a m : Int) : Int := matN a m.toNat
theorem mat_bd {a m : Int} (a0 : 0 ≤ a) (a1 : a ≤ 7) (m0 : 0 ≤ m) (m1 : m ≤ 6) : (0 ≤ matF a m ∧ matF a m ≤ 100000) ∧ (0 ≤ (m - 1) * a * matF a (m - 2) + 1000 ∧ (m - 1) * a * matF a (m - 2) ≤ 100000) ∧ -7 ≤ (m - 1) * a ∧ (m - 1) * a ≤ 49 := by
  have key : ∀ (a : Fin 8) (m : Fin 7), (0 ≤ matF (a.val : Int) (m.val : Int) ∧ matF (a.val : Int) (m.val : Int) ≤ 100000) ∧ (0 ≤ ((m.val : Int) - 1) * (a.val : Int) * matF (a.val : Int) ((m.val : Int) - 2) + 1000 ∧ ((m.val : Int) - 1) * (a.val : Int) * matF (a.val : Int) ((m.val : Int) - 2) ≤ 100000) ∧
      -7 ≤ ((m.val : Int) - 1) * (a.val : Int) ∧ ((m.val : Int) - 1) * (a.val : Int) ≤ 49 := by decide +kernel
  have := key ⟨a.toNat, by omega⟩ ⟨m.toNat, by omega⟩
  simp only [Int.toNat_of_nonneg a0, Int.toNat_of_nonneg m0] at this
  exact this
theorem mat_more {a m : Int} (h : 0 < m) : matF a m = (if a % 2 = 1 then matF a (m - 1) else 0) + (if 1 < m then (m - 1) * a * matF a (m - 2) else 0) := by
  rw [matF, matF, matF]
  by_cases h1 : 1 < m
  · rw [if_pos h1, show m.toNat = (m - 2).toNat + 2 by omega, matN, show (m - 1).toNat = (m - 2).toNat + 1 by omega, show (((m - 2).toNat : Int)) + 1 = m - 1 by omega]
  · rw [if_neg h1, show m = 1 by omega]
    show (if a % 2 = 1 then (1 : Int) else 0) = (if a % 2 = 1 then matN a (0 : Int).toNat else 0) + 0
    rw [Int.add_zero]; rfl
def haK (i : Int) : Int := ((upR 8).take i.toNat).foldl (fun p i => p * matF i (ix 0 (kdV T4) i)) 1
theorem ha_next {i : Int} (h0 : 0 ≤ i) (h1 : i < 8) : haK (i + 1) = haK i * matF i (ix 0 (kdV T4) i) := by
  rw [haK, upR_take (n := 8) h0 h1, List.foldl_append]; rfl
theorem ha_bd {i : Int} (h0 : 0 ≤ i) (h1 : i ≤ 8) : 0 ≤ haK i ∧ haK i ≤ 100 := by
  have key : ∀ i : Fin 9, 0 ≤ haK (i.val : Int) ∧ haK (i.val : Int) ≤ 100 := by decide +kernel
  have := key ⟨i.toNat, by omega⟩
  simp only [Int.toNat_of_nonneg h0] at this
  exact this
theorem ha_all : haK 8 = 2 := by decide +kernel
def folF (td : List Int) : Nat → List Int → Int → Int → Bool × List Int
  | 0, y, p, q => if ix 0 y p = q then (true, y) else (false, y)
  | f + 1, y, p, q => if ix 0 y p = q then (true, y) else if 0 ≤ ix 0 y p ∨ q ∈ y then (false, y) else folF td f (y.set p.toNat q) q (ix 0 td p)
def folV (td y : List Int) (p q : Int) : Bool × List Int := folF td (y.count (-1)) y p q
structure HaI (n : Nat) (y : List Int) : Prop where
  l : y.length = n
  r : ∀ x ∈ y, -1 ≤ x ∧ x < n
section
variable {n : Nat} {td y : List Int} {p q : Int}
theorem HaI.at_ (h : HaI n y) (p0 : 0 ≤ p) (p1 : p < n) : -1 ≤ ix 0 y p ∧ ix 0 y p < n := h.r _ (ix_memR p0 (by rw [h.l]; exact p1))
theorem HaI.set (h : HaI n y) (q0 : 0 ≤ q) (q1 : q < n) : HaI n (y.set p.toNat q) :=
  ⟨by rw [List.length_set]; exact h.l, fun x hx => by
    rcases List.mem_or_eq_of_mem_set hx with hx | rfl
    · exact h.r x hx
    · omega⟩
theorem count_set1 {met : List Int} {a k : Int} (h0 : 0 ≤ a) (h1 : a < met.length) (hm : ix 0 met a = -1) (hk : k ≠ -1) : (met.set a.toNat k).count (-1) + 1 = met.count (-1) := by
  have hlt : a.toNat < met.length := by omega
  have hg : met[a.toNat] = -1 := by
    have := ix_get (d := (0 : Int)) h1 h0
    rw [hm, List.getElem?_eq_getElem hlt] at this
    exact Option.some.inj this
  have e1 : met = met.take a.toNat ++ (-1 :: met.drop (a.toNat + 1)) := by
    rw [← hg, ← List.drop_eq_getElem_cons hlt, List.take_append_drop]
  have e2 : met.set a.toNat k = met.take a.toNat ++ (k :: met.drop (a.toNat + 1)) := by
    rw [List.set_eq_take_append_cons_drop, if_pos hlt]
  rw [e2]
  conv => rhs; rw [e1]
  rw [List.count_append, List.count_append, List.count_cons, List.count_cons]
  simp [hk]
  omega
theorem fol_yes (h : ix 0 y p = q) : folV td y p q = (true, y) := by
  rw [folV]; cases y.count (-1) <;> rw [folF, if_pos h]
theorem fol_no (h : ¬ ix 0 y p = q) (h2 : 0 ≤ ix 0 y p ∨ q ∈ y) : folV td y p q = (false, y) := by
  rw [folV]; cases y.count (-1) with
  | zero => rw [folF, if_neg h]
  | succ f => rw [folF, if_neg h, if_pos h2]
theorem fol_more (hI : HaI n y) (p0 : 0 ≤ p) (p1 : p < n) (q0 : 0 ≤ q) (h : ¬ ix 0 y p = q) (h2 : ¬ (0 ≤ ix 0 y p ∨ q ∈ y)) :
    folV td y p q = folV td (y.set p.toNat q) q (ix 0 td p) ∧ (y.set p.toNat q).count (-1) < y.count (-1) := by
  have hb := hI.at_ p0 p1
  have hc := count_set1 (k := q) p0 (by rw [hI.l]; exact p1) (show ix 0 y p = -1 by omega) (by omega)
  rw [folV, ← hc, folF, if_neg h, if_neg h2]
  exact ⟨rfl, by omega⟩
theorem folF_ok (ht : ∀ x ∈ td, 0 ≤ x ∧ x < (n : Int)) (hl : td.length = n) : ∀ {f : Nat} {y : List Int} {p q : Int}, HaI n y → 0 ≤ p → p < n → 0 ≤ q → q < n → HaI n (folF td f y p q).2 := by
  intro f
  induction f with
  | zero => intro y p q hI _ _ _ _; rw [folF]; split <;> exact hI
  | succ f ih =>
    intro y p q hI p0 p1 q0 q1
    rw [folF]
    split
    · exact hI
    · split
      · exact hI
      · have := ht _ (ix_memR (d := (0 : Int)) p0 (by rw [hl]; exact p1))
        exact ih (hI.set q0 q1) q0 q1 this.1 this.2
end
def tryF (td : List Int) (p : Int) (put : List Int → Bool × List Int) : List Int → List Int → Bool × List Int
  | [], y => (false, y)
  | q :: qs, y => if (folV td y p q).1 = true then (if (put (folV td y p q).2).1 = true then put (folV td y p q).2 else tryF td p put qs y) else tryF td p put qs y
def putF (td : List Int) (n : Nat) : Nat → List Int → Bool × List Int
  | 0, y => (true, y)
  | f + 1, y => if 0 ≤ ix 0 y ((n : Int) - (f + 1)) then putF td n f y else tryF td ((n : Int) - (f + 1)) (putF td n f) (upR n) y
theorem putF_ok {n : Nat} {td : List Int} (ht : ∀ x ∈ td, 0 ≤ x ∧ x < (n : Int)) (hl : td.length = n) : ∀ {f : Nat} {y : List Int}, f ≤ n → HaI n y → HaI n (putF td n f y).2 := by
  intro f
  induction f with
  | zero => intro y _ hI; exact hI
  | succ f ih =>
    intro y hf hI
    rw [putF]
    split
    · exact ih (by omega) hI
    · have key : ∀ (qs : List Int), (∀ q ∈ qs, 0 ≤ q ∧ q < (n : Int)) → HaI n (tryF td ((n : Int) - (f + 1)) (putF td n f) qs y).2 := by
        intro qs
        induction qs with
        | nil => intro _; exact hI
        | cons q qs ihq =>
          intro hq
          have hq0 := hq q List.mem_cons_self
          have hr := ihq fun x hx => hq x (List.mem_cons_of_mem _ hx)
          rw [tryF]
          split
          · split
            · exact ih (by omega) (folF_ok ht hl hI (by omega) (by omega) hq0.1 hq0.2)
            · exact hr
          · exact hr
      exact key _ fun q hq => upR_mem.1 hq
theorem half_T4 : putF T4 4 4 [-1, -1, -1, -1] = (true, [2, 3, 1, 0]) := by decide +kernel
theorem not_or_has {a q : Int} {y : List Int} (h : ¬ 0 ≤ a ∧ hasL y q = false) : ¬ (0 ≤ a ∨ q ∈ y) := by
  rintro (k | k)
  · exact h.1 k
  · have := hasL_iff.2 k
    rw [h.2] at this; cases this
theorem copy_all {a b : List Int} (h : a.length = b.length) : List.take a.length b ++ List.drop (min b.length a.length) a = b := by
  rw [h, List.take_length, Nat.min_self, ← h, List.drop_length, List.append_nil]
theorem upR_drop {n : Nat} {q : Int} (q0 : 0 ≤ q) (q1 : q < n) : (upR n).drop q.toNat = q :: (upR n).drop (q + 1).toNat := by
  rw [drop_ix (d := (0 : Int)) q0 (by rw [upR_len]; exact q1), upR_ix q0 q1]
section
variable {td y : List Int} {p q : Int} {put : List Int → Bool × List Int} {n : Nat}
theorem try_no (q0 : 0 ≤ q) (q1 : q < n) (h : (folV td y p q).1 = false) : tryF td p put ((upR n).drop q.toNat) y = tryF td p put ((upR n).drop (q + 1).toNat) y := by
  rw [upR_drop q0 q1, tryF, if_neg (by rw [h]; simp)]
theorem try_not (q0 : 0 ≤ q) (q1 : q < n) (h : (folV td y p q).1 = true) (h2 : (put (folV td y p q).2).1 = false) : tryF td p put ((upR n).drop q.toNat) y = tryF td p put ((upR n).drop (q + 1).toNat) y := by
  rw [upR_drop q0 q1, tryF, if_pos h, if_neg (by rw [h2]; simp)]
theorem try_yes (q0 : 0 ≤ q) (q1 : q < n) (h : (folV td y p q).1 = true) (h2 : (put (folV td y p q).2).1 = true) : tryF td p put ((upR n).drop q.toNat) y = put (folV td y p q).2 := by
  rw [upR_drop q0 q1, tryF, if_pos h, if_pos h2]
theorem try_end (h : (n : Int) ≤ q) : tryF td p put ((upR n).drop q.toNat) y = (false, y) := by
  rw [drop_end (by rw [upR_len]; exact h)]; rfl
end
end Go.Proofs.YtlibemgaepkceaaGreatDoor

namespace Go.Proofs.YtlibemgaepkceaaGreatDoor
open Go.Wk Go.RowKit
set_option linter.unusedVariables false
def topB (ys : List Int) : Int := if ys.length = 0 then 0 else ix 0 ys (ys.length - 1)
abbrev popB (ys : List Int) : List Int := ys.take ((ys.length : Int) - 1).toNat
theorem popB_len {ys : List Int} (h : 0 < ys.length) : (popB ys).length + 1 = ys.length := by rw [popB, List.length_take]; omega
def popL (k : Int) : Nat → List Int → List Int → List Int × List Int
  | 0, ys, os => (ys, os)
  | n + 1, ys, os => if topB ys < k ∧ 0 < ys.length then popL k n (popB ys) (os ++ [topB ys]) else (ys, os)
theorem pop_next {k : Int} {ys os : List Int} (h : topB ys < k) (hn : 0 < ys.length) : popL k ys.length ys os = popL k (popB ys).length (popB ys) (os ++ [topB ys]) := by
  have e := popB_len hn
  rw [← e, popL, if_pos ⟨h, hn⟩]
theorem pop_end {k : Int} {ys os : List Int} (h : ¬ (topB ys < k ∧ 0 < ys.length)) : popL k ys.length ys os = (ys, os) := by
  cases hl : ys.length with
  | zero => rfl
  | succ n => rw [popL, if_neg h]
end Go.Proofs.YtlibemgaepkceaaGreatDoor

namespace Go.Proofs.YtlibemgaepkceaaGreatDoor
open Go.Wk Go.RowKit
set_option linter.unusedVariables false
def TellIn (P : Go.Program) (fe : Go.FuncId) (cs : List Go.Value) (Tl : List (Int × Int) → List Ob → Prop) : Prop :=
  ∀ (ls : List (Int × Int)) (mv x : Int) (pre ob : List Ob) (w0 w : Go.World) (O : List (Option Nat)), (ls.length : Int) ≤ 100 → InK .u8 mv → InK .i64 x → Tl ls ob → St w0 O w (pre ++ ob) →
    Go.Calls P fe (.int .u8 mv :: .int .i64 x :: cs).toArray w (Bk fun r w' => r = .tuple #[] ∧ ∃ ob', Tl (ls ++ [(mv, x)]) ob' ∧ St w0 O w' (pre ++ ob'))
theorem tellIn_pre {P : Go.Program} {fe : Go.FuncId} {cs : List Go.Value} {Tl : List (Int × Int) → List Ob → Prop} (h : TellIn P fe cs Tl) (A : List Ob) : TellIn P fe cs (fun ls ob => ∃ ob', ob = A ++ ob' ∧ Tl ls ob') := by
  rintro ls mv x pre ob w0 w O hl hm hx ⟨ob', rfl, hT⟩ hS
  rw [← List.append_assoc] at hS
  refine (h ls mv x (pre ++ A) ob' w0 w O hl hm hx hT hS).mono ?_
  rintro e w' ⟨r, he, hr, ob2, hT2, hS2⟩
  exact ⟨r, he, hr, A ++ ob2, ⟨ob2, rfl, hT2⟩, by rw [← List.append_assoc]; exact hS2⟩
theorem top_in {w0 w : Go.World} {O : List (Option Nat)} {obs : List Ob} {v : Go.Value} {ys : List Int} {e : Go.TypeId} (hS : St w0 O w obs) (i : Nat) (hi : obs[i]? = some (.row (tI .i64) e v ys)) : InK .i64 (topB ys) := by
  rw [topB]
  split
  · exact ⟨by decide, by decide⟩
  · exact hS.rowInK' i hi (by omega) (by omega)
def outO (os : List Int) : List (Int × Int) := os.map fun x => (111, x)
def pasS (s : List Int × List (Int × Int)) (x : Int) : List Int × List (Int × Int) := ((popL x s.1.length s.1 []).1 ++ [x], s.2 ++ outO (popL x s.1.length s.1 []).2 ++ [(105, x)])
def pasK (xs : List Int) (k : Int) : List Int × List (Int × Int) := (xs.take k.toNat).foldl pasS ([], [])
def pasV (xs : List Int) : List (Int × Int) := (xs.foldl pasS ([], [])).2 ++ outO (popL xs.length (xs.foldl pasS ([], [])).1.length (xs.foldl pasS ([], [])).1 []).2
def outV (ls : List (Int × Int)) : List Int := (ls.filter fun p => decide (p.1 = 111)).map (·.2)
theorem pas_next {xs : List Int} {k : Int} (h0 : 0 ≤ k) (h1 : k < xs.length) : pasK xs (k + 1) = pasS (pasK xs k) (ix 0 xs k) := by
  rw [pasK, take_ix (d := (0 : Int)) h0 h1, List.foldl_append]; rfl
theorem pas_end {xs : List Int} {k : Int} (h : (xs.length : Int) ≤ k) : pasK xs k = xs.foldl pasS ([], []) := by rw [pasK, List.take_of_length_le (by omega)]
theorem outO_snoc (os : List Int) (x : Int) : outO (os ++ [x]) = outO os ++ [(111, x)] := by rw [outO, List.map_append]; rfl
theorem outV_snoc (ls : List (Int × Int)) (mv x : Int) : outV (ls ++ [(mv, x)]) = if mv = 111 then outV ls ++ [x] else outV ls := by
  rw [outV, List.filter_append, List.map_append]
  by_cases h : mv = 111
  · rw [if_pos h]; simp [outV, h]
  · rw [if_neg h]; simp [outV, h]
theorem outV_len (ls : List (Int × Int)) : (outV ls).length ≤ ls.length := by rw [outV, List.length_map]; exact List.length_filter_le _ _
theorem pop_len (k : Int) : ∀ (n : Nat) (ys os : List Int), n ≤ ys.length → (popL k n ys os).1.length + (popL k n ys os).2.length = ys.length + os.length
  | 0, ys, os, _ => rfl
  | n + 1, ys, os, h => by
    rw [popL]
    split
    · rename_i hc
      have hp := popB_len hc.2
      rw [pop_len k n (popB ys) _ (by omega), List.length_append]
      simp only [List.length_cons, List.length_nil]
      omega
    · rfl
theorem pas_len (xs : List Int) : ∀ (s : List Int × List (Int × Int)), (xs.foldl pasS s).1.length + (xs.foldl pasS s).2.length ≤ s.1.length + s.2.length + 2 * xs.length := by
  induction xs with
  | nil => intro s; simp
  | cons x xs ih =>
    intro s
    have h1 := ih (pasS s x)
    have h2 := pop_len x s.1.length s.1 [] (Nat.le_refl _)
    rw [List.foldl_cons, List.length_cons]
    have h3 : (pasS s x).1.length = (popL x s.1.length s.1 []).1.length + 1 := by rw [pasS, List.length_append]; rfl
    have h4 : (pasS s x).2.length = s.2.length + (popL x s.1.length s.1 []).2.length + 1 := by
      simp only [pasS, List.length_append, outO, List.length_map, List.length_cons, List.length_nil]
    simp only [List.length_nil] at h2
    omega
theorem pask_len (xs : List Int) (k : Int) : (pasK xs k).1.length + (pasK xs k).2.length ≤ 2 * xs.length := by
  have := pas_len (xs.take k.toNat) ([], [])
  rw [List.length_take] at this
  simp only [List.length_nil] at this
  rw [pasK]
  omega
end Go.Proofs.YtlibemgaepkceaaGreatDoor
namespace Go.Proofs.YtlibemgaepkceaaGreatDoor
open Go.Wk Go.RowKit
structure PmOK (xs : List Int) : Prop where
  n : 1 ≤ (xs.length : Int) ∧ (xs.length : Int) ≤ 7
  r : ∀ x ∈ xs, 0 ≤ x ∧ x < (xs.length : Int)
  d : xs.Nodup
def PmI (xs : List Int) (k : Int) (met : List Bool) : Prop := met.length = 7 ∧ ∀ y : Int, 0 ≤ y → y < 7 → met.getD y.toNat false = hasL (xs.take k.toNat) y
theorem pm_start {xs : List Int} : PmI xs 0 (List.replicate 7 false) := ⟨rfl, fun y y0 y1 => by
  rw [List.getD_eq_getElem?_getD, List.getElem?_replicate]; split <;> rfl⟩
theorem hasL_mem {l : List Int} {x : Int} : hasL l x = true ↔ x ∈ l := by
  rw [hasL, List.any_eq_true]
  exact ⟨fun ⟨y, hy, h⟩ => by rw [← of_decide_eq_true h]; exact hy, fun h => ⟨x, h, decide_eq_true rfl⟩⟩
theorem pm_free {xs : List Int} {k : Int} {met : List Bool} (hk : PmOK xs) (h : PmI xs k met) (h0 : 0 ≤ k) (h1 : k < xs.length) : met.getD (ix 0 xs k).toNat false = false := by
  have hx := hk.r _ (List.mem_of_getElem? (ix_get (d := (0 : Int)) h1 h0))
  have hn := hk.n
  rw [h.2 _ hx.1 (by omega), ← Bool.not_eq_true, hasL_mem]
  intro hm
  obtain ⟨q, hq, e⟩ := List.mem_iff_getElem.1 hm
  have hq' : q < k.toNat := by rw [List.length_take] at hq; omega
  rw [List.getElem_take] at e
  have hd := List.pairwise_iff_getElem.1 hk.d q k.toNat (by omega) (by omega) hq'
  obtain ⟨g1, g2⟩ := List.getElem?_eq_some_iff.1 (ix_get (d := (0 : Int)) h1 h0)
  rw [g2] at hd
  exact hd e
theorem pm_next {xs : List Int} {k : Int} {met : List Bool} (hk : PmOK xs) (h : PmI xs k met) (h0 : 0 ≤ k) (h1 : k < xs.length) : PmI xs (k + 1) (met.set (ix 0 xs k).toNat true) := by
  have hx := hk.r _ (List.mem_of_getElem? (ix_get (d := (0 : Int)) h1 h0))
  have hn := hk.n
  refine ⟨by rw [List.length_set]; exact h.1, fun y y0 y1 => ?_⟩
  have ht := take_ix (d := (0 : Int)) h0 h1
  rw [ht, List.getD_eq_getElem?_getD, List.getElem?_set, hasL, List.any_append]
  by_cases e : (ix 0 xs k).toNat = y.toNat
  · have e2 : ix 0 xs k = y := by omega
    rw [if_pos e, if_pos (by rw [h.1]; omega), e2]; simp
  · have e2 : ix 0 xs k ≠ y := by omega
    rw [if_neg e]
    have := h.2 y y0 y1
    rw [List.getD_eq_getElem?_getD] at this
    rw [this, hasL]; simp [e2]
theorem pm_120 : PmOK [1, 2, 0] := ⟨by decide, by decide, by decide⟩
end Go.Proofs.YtlibemgaepkceaaGreatDoor
namespace Go.Proofs.YtlibemgaepkceaaGreatDoor
open Go.Wk Go.RowKit
end Go.Proofs.YtlibemgaepkceaaGreatDoor

namespace Go.Proofs.YtlibemgaepkceaaGreatDoor
open Go.Wk Go.RowKit
set_option linter.unusedVariables false
def upL (n : Int) : List Int := (List.range n.toNat).map fun (q : Nat) => (q : Int)
theorem upL_suc {n : Int} (h : 0 ≤ n) : upL (n + 1) = upL n ++ [n] := by
  rw [upL, show (n + 1).toNat = n.toNat + 1 by omega, List.range_succ, List.map_append, upL, List.map_cons, List.map_nil, Int.toNat_of_nonneg h]
def comS (s : List Int × List Int) (c : Int) : List Int × List Int :=
  (s.1.take (c % s.1.length).toNat ++ s.1.drop (c % s.1.length + 1).toNat, s.2 ++ [ix 0 s.1 (c % s.1.length)])
def comK (n : Int) (bs : List Int) (i : Int) : List Int × List Int := (bs.take i.toNat).foldl comS (upL n, [])
theorem comk_next {n : Int} {bs : List Int} {i : Int} (h0 : 0 ≤ i) (h1 : i < bs.length) : comK n bs (i + 1) = comS (comK n bs i) (ix 0 bs i) := by
  rw [comK, take_ix (d := (0 : Int)) h0 h1, List.foldl_append]; rfl
theorem coms_len {s : List Int × List Int} {c : Int} (h : 0 < s.1.length) : (comS s c).1.length + 1 = s.1.length := by
  have h1 := Int.emod_nonneg c (show (s.1.length : Int) ≠ 0 by omega)
  have h2 := Int.emod_lt_of_pos c (show (0 : Int) < s.1.length by omega)
  rw [comS, List.length_append, List.length_take, List.length_drop]
  omega
end Go.Proofs.YtlibemgaepkceaaGreatDoor

namespace Go.Proofs.YtlibemgaepkceaaGreatDoor
open Go.Wk Go.RowKit
set_option linter.unusedVariables false
theorem comS_perm {s : List Int × List Int} {c : Int} (h : 0 < s.1.length) : ((comS s c).1 ++ (comS s c).2).Perm (s.1 ++ s.2) := by
  have h1 := Int.emod_nonneg c (show (s.1.length : Int) ≠ 0 by omega)
  have h2 := Int.emod_lt_of_pos c (show (0 : Int) < s.1.length by omega)
  have e : s.1 = s.1.take (c % s.1.length).toNat ++ ix 0 s.1 (c % s.1.length) :: s.1.drop (c % s.1.length + 1).toNat := by
    rw [← drop_ix (d := (0 : Int)) h1 h2, List.take_append_drop]
  rw [comS]
  simp only
  generalize s.1.take (c % s.1.length).toNat = p at e ⊢
  generalize ix 0 s.1 (c % s.1.length) = x at e ⊢
  generalize s.1.drop (c % s.1.length + 1).toNat = q at e ⊢
  rw [e, List.append_assoc, List.append_assoc]
  refine List.Perm.append_left p ?_
  rw [List.cons_append, ← List.append_assoc]
  exact (List.perm_append_comm (l₁ := q ++ s.2) (l₂ := [x]))
theorem com_perm : ∀ (es : List Int) (s : List Int × List Int), es.length ≤ s.1.length → ((es.foldl comS s).1 ++ (es.foldl comS s).2).Perm (s.1 ++ s.2) ∧ (es.foldl comS s).1.length + es.length = s.1.length
  | [], s, _ => ⟨List.Perm.refl _, rfl⟩
  | c :: es, s, h => by
    simp only [List.length_cons] at h
    have hk := coms_len (s := s) (c := c) (by omega)
    obtain ⟨a, b⟩ := com_perm es (comS s c) (by omega)
    exact ⟨a.trans (comS_perm (by omega)), by rw [List.foldl_cons, List.length_cons]; omega⟩
def deaV (n : Nat) (bs : List Int) : List Int := (comK n bs n).2
theorem dea_perm {n : Nat} {bs : List Int} (h : n ≤ bs.length) : PermR n (deaV n bs) := by
  obtain ⟨a, b⟩ := com_perm (bs.take n) (upR n, []) (by rw [List.length_take, upR_len]; omega)
  have e : comK n bs n = (bs.take n).foldl comS (upR n, []) := by rw [comK, Int.toNat_natCast]; rfl
  simp only [upR_len, List.length_take, List.append_nil] at a b
  rw [← e] at a b
  have : (comK n bs n).1 = [] := List.eq_nil_of_length_eq_zero (by omega)
  rw [this, List.nil_append] at a
  exact ⟨a⟩
def byR (bys : List Int) (h : Int) : List Int := (bys.drop (h.toNat * 7)).take 7
theorem byR_len {bys : List Int} {h : Int} (hl : bys.length = 42) (h0 : 0 ≤ h) (h1 : h < 6) : (byR bys h).length = 7 := by
  rw [byR, List.length_take, List.length_drop]; omega
theorem byR_in {bys : List Int} {h : Int} (hi : ∀ z ∈ bys, InK .u8 z) : ∀ z ∈ byR bys h, InK .u8 z := fun z hz => hi z (List.mem_of_mem_drop (List.mem_of_mem_take hz))
def whV (n : Nat) (bys : List Int) : List (List Int) := (upR n).map fun h => deaV n (byR bys h)
theorem whV_len {n : Nat} {bys : List Int} : (whV n bys).length = n := by rw [whV, List.length_map, upR_len]
theorem wh_next {n : Nat} {bys : List Int} {i : Int} (h0 : 0 ≤ i) (h1 : i < n) : (whV n bys).take (i + 1).toNat = (whV n bys).take i.toNat ++ [deaV n (byR bys i)] := by
  rw [whV, ← List.map_take, ← List.map_take, upR_take h0 h1, List.map_append]; rfl
theorem whok_of {n : Nat} {bys hs : List Int} (hn : 1 ≤ n ∧ n ≤ 6) (hl : bys.length = 42) (hh : hs.length = 7) : WHOK n (whV n bys) (deaV n hs) := by
  refine ⟨hn, whV_len, fun l hl' => ?_, dea_perm (by omega)⟩
  obtain ⟨h, hm, rfl⟩ := List.mem_map.1 hl'
  have := upR_mem.1 hm
  exact dea_perm (by rw [byR_len hl this.1 (by omega)]; omega)
def PsI (n : Nat) (P ps : List Int) (k : Int) : Prop := ps.length = n ∧ ∀ j : Int, 0 ≤ j → j < k → ix 0 ps j = ix 0 P j
theorem psI_start {n : Nat} {P : List Int} : PsI n P (List.replicate n 0) 0 := ⟨List.length_replicate, fun j j0 j1 => by omega⟩
theorem psI_next {n : Nat} {P ps : List Int} {k : Int} (h : PsI n P ps k) (k0 : 0 ≤ k) (k1 : k < n) : PsI n P (ps.set k.toNat (ix 0 P k)) (k + 1) := by
  refine ⟨by rw [List.length_set]; exact h.1, fun j j0 j1 => ?_⟩
  rw [ix_setR k0 (by rw [h.1]; exact k1) j0]
  by_cases hj : j = k
  · rw [if_pos hj, hj]
  · rw [if_neg hj]; exact h.2 j j0 (by omega)
theorem psI_all {n : Nat} {P ps : List Int} {k : Int} (h : PsI n P ps k) (hk : (n : Int) ≤ k) (hP : P.length = n) : ps = P :=
  ext_R (by rw [h.1, hP]) fun i i0 i1 => h.2 i i0 (by rw [h.1] at i1; omega)
theorem idx_nd {H : List Int} (hn : H.Nodup) {j : Int} (j0 : 0 ≤ j) (j1 : j < H.length) : idxP (fun y => decide (y = ix 0 H j)) 0 H = j := by
  have hm := ix_memR (d := (0 : Int)) j0 j1
  rw [idxP_at _ _ _ hm]
  have hlt := List.idxOf_lt_length_iff.2 hm
  have e1 := ix_get (d := (0 : Int)) j1 j0
  have e2 : H[H.idxOf (ix 0 H j)]? = some (ix 0 H j) := by rw [List.getElem?_eq_getElem hlt, List.getElem_idxOf hlt]
  rw [← e2] at e1
  have := (List.getElem?_inj (by omega) hn).1 e1
  omega
structure TrP (n : Nat) (H : List Int) (P gs : List Int) (R : List (List Int)) : Prop where
  gl : gs.length = n
  pl : P.length = n
  gw : GW P
  ix : ∀ i : Int, 0 ≤ i → i < n → idxP (fun y => decide (y = ix 0 gs i)) 0 H = Go.Wk.ix 0 P i ∧ 0 ≤ Go.Wk.ix 0 P i ∧ Go.Wk.ix 0 P i < n
  rp : R.Perm (wrV P)
theorem tr_of {n : Nat} {W : WW} {H : List Int} {A : AA} {R : List (List Int)} (hH : WHOK n W H) (hr : Runs W (invV H) n (none0 n) [] A R) : TrP n H (ptsV (invV H) n A) (A.map fun x => x.getD 0) R := by
  obtain ⟨hI, hall⟩ := runs_ok hH.ok hr run_start
  have hpl : (ptsV (invV H) n A).length = n := by rw [ptsV, List.length_map, upR_len]
  have hsome : ∀ x : Int, 0 ≤ x → x < n → ∃ s, ix (some 0) A x = some s ∧ 0 ≤ s ∧ s < n := fun x x0 x1 => by
    have := hall x x0 x1
    rw [goneB] at this
    cases hx : ix (some 0) A x with
    | none => rw [hx] at this; cases this
    | some s => exact ⟨s, rfl, hI.rng x s x0 x1 hx⟩
  have hmem : ∀ x, x ∈ R.flatten ↔ x ∈ upR n := fun x => by
    rw [hI.mem, upR_mem]
    exact ⟨fun h => h.1, fun h => ⟨h, hall x h.1 h.2⟩⟩
  have hRf : R.flatten.Perm (upR n) := (List.perm_ext_iff_of_nodup hI.nd upR_nodup).2 hmem
  have hPm : (upR n).map (fun x => ix 0 (ptsV (invV H) n A) x) = ptsV (invV H) n A := by
    refine ext_R (by rw [List.length_map, upR_len, hpl]) fun i i0 i1 => ?_
    rw [List.length_map, upR_len] at i1
    rw [Go.Wk.ix, List.getD_eq_getElem?_getD, List.getElem?_map, ix_get (d := (0 : Int)) (by rw [upR_len]; exact i1) i0, upR_ix i0 i1]; rfl
  have hPp : PermR n (ptsV (invV H) n A) := by
    have := rings_map hI.ring
    exact ⟨by rw [← hPm]; exact ((hRf.map _).symm.trans this).trans hRf⟩
  have hg := gw_of (good_tide hH.n1.1 hH.n1.2 hPp)
  refine ⟨by rw [List.length_map, hI.len], hpl, hg, fun i i0 i1 => ?_, ?_⟩
  · obtain ⟨s, hs, s0, s1⟩ := hsome i i0 i1
    have e1 : Go.Wk.ix 0 (A.map fun x => x.getD 0) i = s := by
      rw [Go.Wk.ix, List.getD_eq_getElem?_getD, List.getElem?_map, ix_get (d := some 0) (by rw [hI.len]; exact i1) i0, hs]; rfl
    have e2 : Go.Wk.ix 0 (ptsV (invV H) n A) i = Go.Wk.ix 0 (invV H) s := by rw [pts_ix i0 i1, hs]
    obtain ⟨j, j0, j1, ej⟩ := ix_of_mem (hH.h.mem.2 ⟨s0, s1⟩)
    rw [hH.h.len] at j1
    have e3 : Go.Wk.ix 0 (invV H) s = j := by rw [← ej]; exact inv_ix hH.h j0 j1
    rw [e1, e2, e3, ← ej]
    exact ⟨idx_nd hH.h.nd j0 (by rw [hH.h.len]; exact j1), j0, j1⟩
  · refine rings_perm hI.ring hg.ring hI.nd hg.nd fun x => ?_
    rw [hmem, upR_mem]
    constructor
    · intro h; exact hg.cov x h.1 (by rw [hpl]; exact h.2)
    · intro h
      obtain ⟨l, hl, hx⟩ := List.mem_flatten.1 h
      have := hg.rr l hl x hx
      rw [hpl] at this; exact this
theorem wr_pos {P : List Int} (h : GW P) : 0 < (wrV P).length := by
  have := h.cov 0 (Int.le_refl _) (by have := h.n1; omega)
  cases hw : wrV P with
  | nil => rw [hw] at this; cases this
  | cons a l => simp
theorem sort_one {P : List Int} (h : GW P) {zs : List (List Int)} (hp : zs.Perm (wrV P)) (hs : zs.Pairwise fun a b => ¬ ltL b a) : zs = wrV P := by
  refine List.Perm.eq_of_pairwise (le := fun a b => ¬ ltL b a) (fun a b _ _ h1 h2 => ?_) hs ?_ hp
  · rcases ltL_total a b with k | k | k
    · exact (h2 k).elim
    · exact k
    · exact (h1 k).elim
  · have hi := h.inc
    have hl := h.ll
    generalize wrV P = L at hi hl
    induction L with
    | nil => exact List.Pairwise.nil
    | cons a L ih =>
      rw [List.pairwise_cons] at hi ⊢
      refine ⟨fun b hb k => ?_, ih hi.2 fun l h => hl l (List.mem_cons_of_mem _ h)⟩
      have h1 := hi.1 b hb
      have h2 := hl b (List.mem_cons_of_mem _ hb)
      have h3 := hl a List.mem_cons_self
      cases b with
      | nil => simp at h2
      | cons y b =>
        cases a with
        | nil => simp at h3
        | cons x a =>
          have e1 : Go.Wk.ix 0 (x :: a) 0 = x := rfl
          have e2 : Go.Wk.ix 0 (y :: b) 0 = y := rfl
          rw [e1, e2] at h1
          rcases k with k | k <;> omega
end Go.Proofs.YtlibemgaepkceaaGreatDoor

namespace Go.Wk
open Go.RowKit Go.ChangeShapes

section
variable {H : Type} {enc : TypeId × Value → H} {P : Program} {W : World}

theorem inK_of_wf {k : IntKind} {n : Int} (h : (Lit.int k n).wf = true) : InK k n := by
  cases k <;> simp [Lit.wf, IntKind.min, IntKind.max, IntKind.bits, IntKind.signed] at h <;> simp only [InK, lo, hi] <;> omega

structure Rds {α : Type} (enc : TypeId × Value → H) (P : Program) (W : World) (t : Ty α) (e : TypeId) : Prop where
  n : P.cellsOf e = t.n
  pos : 0 < t.n
  get : ∀ fuel cs x, DataW.trod enc P W 0 (fun _ => true) true fuel e cs = some x → ∃ y, t.rep [] W y cs

theorem list_of {α : Type} {p : Nat → α → Prop} : ∀ n : Nat, (∀ i, i < n → ∃ y, p i y) → ∃ ys : List α, ys.length = n ∧ ∀ i y, ys[i]? = some y → p i y
  | 0, _ => ⟨[], rfl, by simp⟩
  | n + 1, h => by
    obtain ⟨ys, h1, h2⟩ := list_of n (fun i hi => h i (by omega))
    obtain ⟨y, hy⟩ := h n (by omega)
    refine ⟨ys ++ [y], by simp [h1], fun i z hz => ?_⟩
    by_cases hi : i < ys.length
    · rw [List.getElem?_append_left hi] at hz; exact h2 i z hz
    · rw [List.getElem?_append_right (by omega)] at hz
      have : i - ys.length = 0 := by
        rcases Nat.eq_zero_or_pos (i - ys.length) with h | h
        · exact h
        · rw [List.getElem?_eq_none (by simp; omega)] at hz; cases hz
      rw [this] at hz
      simp at hz
      subst hz
      have : i = n := by omega
      rw [this]; exact hy

def RdI (enc : TypeId × Value → H) (P : Program) (W : World) (k : IntKind) (m : Nat) (e : TypeId) : Prop :=
  ∀ fuel cs x, DataW.trod enc P W 0 (fun _ => true) true fuel e cs = some x → ∃ zs : List Int, zs.length = m ∧ cs = zs.map (Value.int k) ∧ ∀ z ∈ zs, InK k z
theorem RdI.array {k : IntKind} {n : Nat} {e t : TypeId} (hu : P.underlying t = some (.array n e)) (he : P.underlying e = some (.int k)) (hc : P.cellsOf e = 1) (hn : P.cellsOf t = n) : RdI enc P W k n t := by
  intro fuel cs x h
  obtain ⟨xs, m, _, _, hl, hx, hel⟩ := DataW.trod_array hu h
  rw [hc] at hel
  rw [hn] at hl
  have h1 : ∀ i, i < n → ∃ z, cs[i]? = some (.int k z) ∧ InK k z := by
    intro i hi
    have := hel i hi
    cases hxi : xs[i]? with
    | none => rw [List.getElem?_eq_none_iff] at hxi; omega
    | some y =>
      rw [hxi] at this
      obtain ⟨z, hz, _, hw⟩ := DataW.trod_int he this
      refine ⟨z, ?_, inK_of_wf hw⟩
      have h2 := congrArg (fun l : List Value => l[0]?) hz
      simp only [List.getElem?_take, List.getElem?_drop] at h2
      simpa using h2
  obtain ⟨zs, z1, z2⟩ := list_of (p := fun i z => cs[i]? = some (.int k z) ∧ InK k z) n h1
  refine ⟨zs, z1, List.ext_getElem? fun i => ?_, fun z hz => ?_⟩
  · rw [List.getElem?_map]
    by_cases hi : i < n
    · have hzi : zs[i]? = some zs[i] := List.getElem?_eq_getElem (by omega)
      rw [hzi, (z2 i _ hzi).1]; rfl
    · rw [List.getElem?_eq_none (by omega), List.getElem?_eq_none (by omega)]; rfl
  · obtain ⟨i, hi⟩ := List.getElem?_of_mem hz
    exact (z2 i z hi).2
theorem RdI.v {k : IntKind} {t : TypeId} {m : Nat} {cs : Array Value} {d : DataW H} {p : List MemPlace} (h : RdI enc P W k m t) (hx : DataW.Trod enc P W 0 (fun _ => true) true t (.agg cs) d p) : ∃ zs : List Int, zs.length = m ∧ cs = (zs.map (Value.int k)).toArray ∧ ∀ z ∈ zs, InK k z := by
  obtain ⟨fuel, hf⟩ := hx
  obtain ⟨zs, h1, h2, h3⟩ := h _ _ _ hf
  refine ⟨zs, h1, ?_, h3⟩
  rw [← h2]
  simp [Value.cells]
end
end Go.Wk

namespace Go.Wk
open Go.RowKit Go.ChangeShapes
section
variable {H : Type} {enc : TypeId × Value → H} {P : Program} {W : World}
end
section
variable {P : Program} {σ : Fr} {w : World} {x y : Operand} {ty T T' : TypeId}
end
end Go.Wk

namespace Go.Wk
open Go.RowKit Go.Lib Go.ChangeMaps
set_option linter.unusedVariables false
set_option linter.unusedSimpArgs false
set_option linter.unusedSectionVars false

section
variable {κ ν : Type} [DecidableEq κ]
def mE (f : κ → Value) (g : ν → Value) : List (κ × ν) → Nat → List MapEntry
  | [], _ => []
  | p :: m, i => ⟨f p.1, g p.2, i⟩ :: mE f g m (i + 1)
def mfind : List (κ × ν) → κ → Nat → Option (Nat × ν)
  | [], _, _ => none
  | p :: m, k, i => if p.1 = k then some (i, p.2) else mfind m k (i + 1)
structure KeyD (P : Program) (kt : TypeId) (f : κ → Value) : Prop where
  check : ∀ (b : Bool) (k : κ) (w : World), (Instr.checkKey b 10000 kt (f k)).run P w = .ok () w
  find : ∀ {ν : Type} (g : ν → Value) (m : List (κ × ν)) (k : κ) (i : Nat) (w : World), (Instr.findKey kt (f k) (mE f g m i)).run P w = .ok ((mfind m k 0).map fun x => (x.1, g x.2)) w
  stays : ∀ (k : κ) (w : World), (Instr.keyThatStays (f k) (f k)).run P w = .ok (f k) w
end

section
variable {P : Program} {n : Nat} {kc : Cont} {σ σ0 : Fr} {w w0 : World} {O : List (Option Nat)} {obs : List Ob} {x y z : Operand} {ty T : TypeId} {l : List (Nat × Value)} {d : Tmp} {pos : String} {af : Array Edge} {ops : Array Oper} {rest : List Oper}
variable {κ ν : Type} [DecidableEq κ] {f : κ → Value} {g : ν → Value} {kt et : TypeId}

end
end Go.Wk

namespace Go.Wk
open Go.RowKit Go.Lib
set_option linter.unusedVariables false
variable {P : Program} {n : Nat} {kn kr k : Cont} {ke : List (Nat × Cont)} {σ : Fr} {w : World} {ops : Array Oper} {S : World → Prop}

end Go.Wk
namespace Go.Wk
end Go.Wk

namespace Go.Wk
open Go.RowKit Go.Lib
set_option linter.unusedVariables false
variable {P : Program} {n : Nat} {kn kr k : Cont} {ke : List (Nat × Cont)} {σ : Fr} {w : World} {ops : Array Oper} {S : World → Prop}

end Go.Wk

namespace Go.Wk
open Go.RowKit Go.Lib Go.Maps
set_option linter.unusedVariables false
section
variable {P : Program} {n : Nat} {kc : Cont} {σ σ0 : Fr} {w w0 : World} {O : List (Option Nat)} {obs : List Ob} {x y z : Operand} {ty T : TypeId}
variable {κ ν : Type} [DecidableEq κ] {f : κ → Value} {g : ν → Value} {kt et : TypeId}
end
end Go.Wk

namespace Go.Wk
open Go.RowKit Go.Lib
set_option linter.unusedVariables false
section
variable {P : Program} {n : Nat} {w w0 : World} {O : List (Option Nat)} {obs : List Ob} {ops : Array Oper} {rest : List Oper} {k : Cont} {d : Tmp} {ty : TypeId} {pos : String} {af : Array Edge}
variable {l : List (Nat × Value)} {σ0 : Fr} {T : TypeId} {x y : Operand}
theorem appendNone {n0 : Nat} {ad : Option Addr} {T ty e : TypeId} {ti : TypeInfo} (hu : P.underlying T = some (.slice e)) (hti : P.info? e = some ti) (a : Option Addr) (c : Nat) :
    (Builtin.append_ #[T, T] ty #[.slice ad n0 n0, .slice a 0 c]).run P w = .ok (.slice ad n0 n0) w := by
  cases a with
  | none => cases ad <;> simp [Builtin.append_, run_underlying hu, sizeOf, typeInfo, hti, Builtin.lenOf, Builtin.firstCells, storeCells]
  | some b => cases ad <;> simp [Builtin.append_, run_underlying hu, sizeOf, typeInfo, hti, Builtin.lenOf, run_firstCells_some (P := P) w ti.size 0 b 0 c [] (by simp) (by simp), storeCells]
theorem Wx.appendClip {α : Type} {t : Ty α} {e : TypeId} {u : Value} {ys zs : List α} {z : Value} {bytes : Nat} {ad : Option Addr} (hE : ElemI P T e z t.n bytes) (hS : St w0 O w obs)
    (hx : ev (look l σ0) x = .slice ad ys.length ys.length) (hv : V (tSl t) ys (.slice ad ys.length ys.length) (fb obs O) w) (hy : ev (look l σ0) y = u) (hu : Src t zs u (fb obs O) w)
    (h63 : ys.length + zs.length ≤ maxLen) (hb : (ys.length + zs.length) * bytes ≤ 140737488355328) (hd : Nat.ble (d + 1) n = true)
    (h : ∀ v' w', Ext w w' → St w0 O w' (Ob.v (tSl t) (ys ++ zs) v' :: obs) → Wx P n ops false rest k (look ((d, v') :: l) σ0) w') :
    Wx P n ops false (⟨some d, .call { callee := .builtin .append, args := #[x, y], argTypes := #[T, T] }, ty, pos, af, none⟩ :: rest) k (look l σ0) w := by
  by_cases hz : zs = []
  · subst hz
    obtain ⟨a, c, ds, rfl, g1, g2, g3, g4⟩ := hu
    obtain ⟨ti, hti, _⟩ := hE.info
    have hr := appendNone (P := P) (w := w) (ty := ty) (n0 := ys.length) (ad := ad) hE.und hti a c
    refine Wx.val (v := .slice ad ys.length ys.length) (w' := w) ?_ hd (h _ _ (Below.refl _ _) (hS.add (by rw [List.append_nil]; exact hv)))
    simp [xop, execOp, resolve, invoke, builtin, hx, hy, hr]
  · exact Wx.appendNew hE hS hx hv hy hu hz h63 hb hd fun v' w' hX hS' => h v' w' hX (hS'.freeze 0 rfl)
theorem rd_clipK {α : Type} {t : Ty α} {e : TypeId} {v : Value} {xs : List α} {F : List (Option Nat)} {k1 k2 : IntKind} {j : Int} {σ : Fr} {z : Operand} (hv : V (tSl t) xs v F w) (hu : P.underlying T = some (.slice e)) (hsz : ∀ w', (sizeOf e).run P w' = .ok t.n w')
    (hx : ev σ x = v) (hy : ev σ y = .int k1 j) (hz : ev σ z = .int k2 j) (h0 : 0 ≤ j) (h1 : j ≤ xs.length) :
    ∃ u, Rd P σ (.slice T x none (some y) (some z)) ty w u ∧ ∃ ad, u = .slice ad (xs.take j.toNat).length (xs.take j.toNat).length ∧ V (tSl t) (xs.take j.toNat) u F w := by
  obtain ⟨ad, h1', h2⟩ := rd_sliceHM (ty := ty) hv hu hsz hx hy hz h0 (Int.le_refl _) h1
  have hl : (xs.take j.toNat).length = j.toNat := by rw [List.length_take]; omega
  exact ⟨_, h1', ad, by rw [hl], h2⟩
end
end Go.Wk

namespace Go.Wk
open Go.RowKit Go.Lib
set_option linter.unusedVariables false
section
variable {P : Program} {n : Nat} {w w0 w1 : World} {O : List (Option Nat)} {obs : List Ob} {ops : Array Oper} {rest : List Oper} {k kn kr : Cont} {d : Tmp} {ty : TypeId} {pos : String} {af : Array Edge}
variable {l : List (Nat × Value)} {σ σ0 : Fr} {T : TypeId} {x y : Operand} {g o : Nat} {e : TypeId} {cs : List Value} {v u : Value}
theorem rd_mkI {T : TypeId} (hx : ev σ x = v) (h : P.concrete T = true) : Rd P σ (.makeInterface T x) ty w (.iface T v) :=
  Rd.of fun w' => by simp [xop, execOp, hx, run_makeInterface w' T v h]
end
end Go.Wk

namespace Go.Proofs.YtlibemgaepkceaaGreatDoor
open Go.Wk
set_option linter.unusedVariables false
section
variable {most : Int} {zs : List Int}
end
end Go.Proofs.YtlibemgaepkceaaGreatDoor
namespace Go.Proofs.YtlibemgaepkceaaGreatDoor
open Go.Wk Go.RowKit
theorem ix_u8 {zs : List Int} (h : ∀ z ∈ zs, InK .u8 z) (j : Int) : 0 ≤ ix 0 zs j ∧ ix 0 zs j ≤ 255 := by
  unfold ix
  cases hz : zs[j.toNat]? with
  | none => rw [List.getD_eq_getElem?_getD, hz]; simp
  | some z =>
    have := bd_u8 (h z (List.mem_of_getElem? hz))
    rw [List.getD_eq_getElem?_getD, hz]; exact this
end Go.Proofs.YtlibemgaepkceaaGreatDoor
namespace Go.Proofs.YtlibemgaepkceaaGreatDoor
open Go.Wk
end Go.Proofs.YtlibemgaepkceaaGreatDoor
namespace Go.Proofs.YtlibemgaepkceaaGreatDoor
open Go.Wk
set_option linter.unusedVariables false
section
variable {R C : Int} {H ps : List Int} {h : Int}
end
end Go.Proofs.YtlibemgaepkceaaGreatDoor
namespace Go.Proofs.YtlibemgaepkceaaGreatDoor
open Go.Wk
set_option linter.unusedVariables false
section
variable {R C : Int} {H ws : List Int} {p : Int}
end
end Go.Proofs.YtlibemgaepkceaaGreatDoor
namespace Go.Proofs.YtlibemgaepkceaaGreatDoor
open Go.Wk
set_option linter.unusedVariables false
section
variable {R C : Int} {H H2 : List Int}
end
end Go.Proofs.YtlibemgaepkceaaGreatDoor

namespace Go.Proofs.YtlibemgaepkceaaGreatDoor
open Go.Wk
set_option linter.unusedVariables false
section
variable {C n : Int}
end
section
variable {R C : Int} {H H2 : List Int}
end
section
variable {A : RelE} {n : Int} {f : Int → Bool}
end
section
variable {R C : Int} {H H2 : List Int}
end
end Go.Proofs.YtlibemgaepkceaaGreatDoor

namespace Go.Proofs.YtlibemgaepkceaaGreatDoor
open Go.Wk Go.RowKit
set_option linter.unusedVariables false
theorem and_mask {y : Int} (h0 : 1 ≤ y) (h1 : y ≤ 40) : bits .and .u64 y 4294967295 = y ∧ y / 2 ^ min (32 : Int).toNat IntKind.u64.bits = 0 := by
  have key : ∀ k : Fin 41, bits .and .u64 ((k.val : Nat) : Int) 4294967295 = ((k.val : Nat) : Int) ∧ ((k.val : Nat) : Int) / 2 ^ min (32 : Int).toNat IntKind.u64.bits = 0 := by decide +kernel
  have := key ⟨y.toNat, by omega⟩
  rw [show ((y.toNat : Nat) : Int) = y by omega] at this
  exact this
theorem rep_first {a : Int} {n : Nat} (h : 1 ≤ n) : List.take (List.replicate n (0 : Int)).length [a] ++ List.drop (min [a].length (List.replicate n (0 : Int)).length) (List.replicate n 0) = List.replicate 1 a ++ List.replicate (n - 1) 0 := by
  obtain ⟨m, rfl⟩ : ∃ m, n = m + 1 := ⟨n - 1, by omega⟩
  simp [List.replicate_succ]
theorem rep_next {a b n : Int} (h1 : 1 ≤ b) (h2 : b < n) :
    List.take (b.toNat * 1) (List.replicate b.toNat a ++ List.replicate (n.toNat - b.toNat) 0) ++
      List.take ((List.replicate b.toNat a ++ List.replicate (n.toNat - b.toNat) 0).length - b.toNat) (List.take b.toNat (List.replicate b.toNat a ++ List.replicate (n.toNat - b.toNat) 0)) ++
      List.drop (b.toNat * 1 + min (List.take b.toNat (List.replicate b.toNat a ++ List.replicate (n.toNat - b.toNat) 0)).length ((List.replicate b.toNat a ++ List.replicate (n.toNat - b.toNat) 0).length - b.toNat)) (List.replicate b.toNat a ++ List.replicate (n.toNat - b.toNat) 0) =
    List.replicate (min (b + b) n).toNat a ++ List.replicate (n.toNat - (min (b + b) n).toNat) 0 := by
  have e1 : List.take b.toNat (List.replicate b.toNat a ++ List.replicate (n.toNat - b.toNat) 0) = List.replicate b.toNat a := by
    rw [List.take_append_of_le_length (by simp)]; simp
  have e2 : (List.replicate b.toNat a ++ List.replicate (n.toNat - b.toNat) (0 : Int)).length = n.toNat := by simp; omega
  rw [Nat.mul_one, e1, e2, List.take_replicate, List.length_replicate, List.replicate_append_replicate]
  rw [List.drop_append, List.drop_eq_nil_of_le (by simp), List.nil_append, List.drop_replicate, List.length_replicate]
  congr 2 <;> omega
section
variable {R C : Int} {H : List Int} {w : Int}
end
end Go.Proofs.YtlibemgaepkceaaGreatDoor

namespace Go.Proofs.YtlibemgaepkceaaGreatDoor
open Go.Wk
set_option linter.unusedVariables false
section
variable {R C : Int} {H : List Int} {h p : Int}
/-! ### basins -/
/-! ### distances, found by going over all neighbours many times -/
variable {r u y : Int} {far : List Int}
end
end Go.Proofs.YtlibemgaepkceaaGreatDoor

namespace Go.Proofs.YtlibemgaepkceaaGreatDoor
open Go.Wk
set_option linter.unusedVariables false
/-! ### slices of slices -/
def mx (yss : List (List Int)) (x y : Int) : Int := ix 0 (ix [] yss x) y
section
variable {N : Int} {yss : List (List Int)}
end
/-! ### the heights of places, and of the river -/
section
variable {R C : Int} {H : List Int}
end
/-! ### how many joints a tree has -/
section
variable {out : List Ends}
end
section
variable {R C : Int} {H : List Int}
end
/-! ### the highest joint between two -/
section
variable {R C : Int} {H : List Int} {k : Int}
variable {ys0 yss : List (List Int)} {p q : Int}
end
/-! ### the lowest ways, found by trying all places in between -/
section
variable {R C : Int} {H : List Int} {yss : List (List Int)} {M p q : Int}
end
end Go.Proofs.YtlibemgaepkceaaGreatDoor

namespace Go.Proofs.YtlibemgaepkceaaGreatDoor
open Go.Wk
set_option linter.unusedVariables false
section
variable {R C : Int} {H : List Int}
end
end Go.Proofs.YtlibemgaepkceaaGreatDoor

namespace Go.Proofs.YtlibemgaepkceaaGreatDoor
open Go.Wk
set_option linter.unusedVariables false
abbrev Rws := List (List Int)
abbrev Tab := List Int
def teN (t : Tab) : Int := ix 0 t 0
def taF (t : Tab) (e : Int) : Int := ix 0 t (1 + e)
def tpF (t : Tab) (e : Int) : Int := ix 0 t (17 + e)
def tnN (t : Tab) : Int := ix 0 t 33
def tabStep (l : List Int) (t : Tab) (j : Int) : Tab := (t.set (1 + ix 0 l j).toNat (ix 0 l ((j + 1) % l.length))).set (17 + ix 0 l j).toNat (tnN t)
def tabIn (l : List Int) (k : Int) (t : Tab) : Tab := (rng 0 k).foldl (tabStep l) t
def tabS (t : Tab) (l : List Int) : Tab := if l.length = 0 then t else ((tabIn l l.length t).set 0 (teN (tabIn l l.length t) + l.length)).set 33 (tnN (tabIn l l.length t) + 1)
def tab0 : Tab := List.replicate 34 0
def tabV (ls : Rws) : Tab := ls.foldl tabS tab0
def itF (f : Int → Int) : Nat → Int → Int
  | 0, x => x
  | k + 1, x => f (itF f k x)
def perF (f : Int → Int) (x : Int) : Nat := ((List.range 17).find? fun k => decide (1 ≤ k) && decide (itF f k x = x)).getD 1
def orbF (f : Int → Int) (x : Int) (k : Nat) : List Int := (List.range k).map fun i => itF f i x
def cycS (f : Int → Int) (s : Rws) (x : Int) : Rws := if s.any (fun l => hasL l x) = true then s else s ++ [orbF f x (perF f x)]
def cycV (ends : Int) (f : Int → Int) : Rws := (rng 0 ends).foldl (cycS f) []
def othL : List Int := [1, 0, 3, 2, 5, 4, 7, 6, 9, 8, 11, 10, 13, 12, 15, 14]
def arndF (t : Tab) (e : Int) : Int := taF t e
def alngF (t : Tab) (e : Int) : Int := taF t (ix 0 othL e)
def labS (s : List Int × Int) (e : Ends) : List Int × Int := if ix 0 s.1 e.1 = ix 0 s.1 e.2 then s else (s.1.map fun x => if x = ix 0 s.1 e.1 then ix 0 s.1 e.2 else x, s.2 - 1)
def labV (n : Int) (es : List Ends) : List Int × Int := es.foldl labS (rng 0 n, n)
def edgT (t : Tab) : List Ends := (rng 0 (teN t / 2)).map fun i => (tpF t (2 * i), tpF t (2 * i + 1))
def partT (t : Tab) : Int := (labV (tnN t) (edgT t)).2
def genT (t : Tab) : Int := partT t - (tnN t - teN t / 2 + (cycV (teN t) (alngF t)).length) / 2
/-! ### six small shores -/
end Go.Proofs.YtlibemgaepkceaaGreatDoor

namespace Go.Proofs.YtlibemgaepkceaaGreatDoor
open Go.Wk
set_option linter.unusedVariables false
section
variable {R C : Int} {H : List Int}
end
/-! ### labels -/
end Go.Proofs.YtlibemgaepkceaaGreatDoor

namespace Go.Proofs.YtlibemgaepkceaaGreatDoor
open Go.Wk
set_option linter.unusedVariables false
section
variable {R C : Int} {H : List Int}
end
end Go.Proofs.YtlibemgaepkceaaGreatDoor

namespace Go.Proofs.YtlibemgaepkceaaGreatDoor
open Go.Wk
set_option linter.unusedVariables false
def permB (n : Int) (f : Int → Int) : Bool := (decide (n ≤ 16) && (rng 0 n).all fun x => decide (0 ≤ f x) && decide (f x < n)) && decide ((rng 0 n).map f).Nodup
section
variable {n x : Int} {f : Int → Int}
theorem perm_rng (h : permB n f = true) (hx : 0 ≤ x ∧ x < n) : 0 ≤ f x ∧ f x < n := by
  rw [permB, Bool.and_eq_true, Bool.and_eq_true, List.all_eq_true] at h
  have := h.1.2 x (rng_mem.2 hx)
  rw [Bool.and_eq_true, decide_eq_true_eq, decide_eq_true_eq] at this
  exact this
theorem perm_inj (h : permB n f = true) {y : Int} (hx : 0 ≤ x ∧ x < n) (hy : 0 ≤ y ∧ y < n) (e : f x = f y) : x = y := by
  rw [permB, Bool.and_eq_true, decide_eq_true_eq, List.Nodup, List.pairwise_map, List.pairwise_iff_getElem] at h
  have hl := rng_length (i := 0) (n := n) (by omega)
  have key : ∀ u v : Int, (0 ≤ u ∧ u < n) → (0 ≤ v ∧ v < n) → u < v → f u ≠ f v := fun u v hu hv huv q => by
    have hu' : u.toNat < (rng 0 n).length := by omega
    have hv' : v.toNat < (rng 0 n).length := by omega
    have := h.2 u.toNat v.toNat hu' hv' (by omega)
    have eu : (rng 0 n)[u.toNat] = u := by have := rng_get hu.1 hu.2; rw [List.getElem?_eq_getElem hu'] at this; exact Option.some.inj this
    have ev : (rng 0 n)[v.toNat] = v := by have := rng_get hv.1 hv.2; rw [List.getElem?_eq_getElem hv'] at this; exact Option.some.inj this
    rw [eu, ev] at this
    exact this q
  rcases Int.lt_trichotomy x y with q | q | q
  · exact absurd e (key x y hx hy q)
  · exact q
  · exact absurd e.symm (key y x hy hx q)
theorem it_rng (h : permB n f = true) (hx : 0 ≤ x ∧ x < n) : ∀ k, 0 ≤ itF f k x ∧ itF f k x < n
  | 0 => hx
  | k + 1 => perm_rng (f := f) h (it_rng h hx k)
theorem it_can (h : permB n f = true) (hx : 0 ≤ x ∧ x < n) : ∀ i d : Nat, itF f (i + d) x = itF f i x → itF f d x = x
  | 0, d, e => by rw [Nat.zero_add] at e; exact e
  | i + 1, d, e => by
    rw [show i + 1 + d = (i + d) + 1 by omega] at e
    exact it_can h hx i d (perm_inj h (it_rng h hx _) (it_rng h hx _) e)
theorem it_ex (h : permB n f = true) (hx : 0 ≤ x ∧ x < n) : ∃ k ∈ List.range 17, (decide (1 ≤ k) && decide (itF f k x = x)) = true := by
  have h16 : n ≤ 16 := by
    rw [permB, Bool.and_eq_true, Bool.and_eq_true, decide_eq_true_eq] at h; exact h.1.1
  refine Classical.byContradiction fun hno => ?_
  have hno' : ∀ k, 1 ≤ k → k < 17 → itF f k x ≠ x := fun k k1 k2 e => hno ⟨k, List.mem_range.2 k2, by rw [decide_eq_true k1, decide_eq_true e]; rfl⟩
  have hd : ((List.range (n.toNat + 1)).map fun k => itF f k x).Nodup := by
    rw [List.Nodup, List.pairwise_map]
    refine List.Pairwise.imp_of_mem ?_ (List.pairwise_lt_range (n := n.toNat + 1))
    intro a b ha hb hab e
    have hb := List.mem_range.1 hb
    have := it_can h hx a (b - a) (by rw [show a + (b - a) = b by omega]; exact e.symm)
    exact hno' (b - a) (by omega) (by omega) this
  have := short_of (n := n) (by omega) hd fun y hy => by
    obtain ⟨k, _, rfl⟩ := List.mem_map.1 hy
    exact it_rng h hx k
  rw [List.length_map, List.length_range] at this
  omega
theorem per_spec (h : permB n f = true) (hx : 0 ≤ x ∧ x < n) : (1 ≤ perF f x ∧ perF f x ≤ 16) ∧ itF f (perF f x) x = x ∧ ∀ k, 1 ≤ k → k < perF f x → itF f k x ≠ x := by
  obtain ⟨k, hk, hp⟩ := it_ex h hx
  rw [perF]
  cases hf : (List.range 17).find? fun k => decide (1 ≤ k) && decide (itF f k x = x) with
  | none => exact absurd hp (List.find?_eq_none.1 hf k hk)
  | some m =>
    show (1 ≤ m ∧ m ≤ 16) ∧ itF f m x = x ∧ _
    obtain ⟨hq, us, bs, he, hl⟩ := List.find?_eq_some_iff_append.1 hf
    rw [Bool.and_eq_true, decide_eq_true_eq, decide_eq_true_eq] at hq
    have hm : m ∈ List.range 17 := by rw [he]; simp
    have hm' := List.mem_range.1 hm
    refine ⟨⟨hq.1, by omega⟩, hq.2, fun j j1 j2 e => ?_⟩
    have j2 : j < m := j2
    have hj : j ∈ List.range 17 := List.mem_range.2 (by omega)
    have hs : (List.range 17).Pairwise (· < ·) := List.pairwise_lt_range
    rw [he] at hj hs
    rcases List.mem_append.1 hj with hj | hj
    · have := hl j hj
      rw [decide_eq_true j1, decide_eq_true e] at this; cases this
    · rcases List.mem_cons.1 hj with rfl | hj
      · omega
      · have := (List.pairwise_cons.1 (List.pairwise_append.1 hs).2.1).1 j hj; omega
def CyI (f : Int → Int) (x : Int) (out : Rws) (j : Nat) (l : List Int) (e : Int) (met : List Bool) : Prop := (l = orbF f x j ∧ e = itF f j x) ∧ j < perF f x ∧ met.length = 16 ∧ ∀ y : Int, 0 ≤ y → y < 16 → met.getD y.toNat false = (out.any (fun l => hasL l y) || hasL (orbF f x j) y)
def MetB (out : Rws) (met : List Bool) : Prop := met.length = 16 ∧ ∀ y : Int, 0 ≤ y → y < 16 → met.getD y.toNat false = out.any (fun l => hasL l y)
theorem met0 : MetB [] (List.replicate 16 false) := ⟨rfl, fun y y0 y1 => by
  rw [List.getD_eq_getElem?_getD, List.getElem?_replicate, if_pos (by omega)]; rfl⟩
theorem orb_next {j : Nat} : orbF f x (j + 1) = orbF f x j ++ [itF f j x] := by rw [orbF, orbF, List.range_succ, List.map_append]; rfl
theorem cy_start (h : permB n f = true) (hx : 0 ≤ x ∧ x < n) {out : Rws} {met : List Bool} (hm : MetB out met) : CyI f x out 0 [] x met := ⟨⟨rfl, rfl⟩, (per_spec h hx).1.1, hm.1, fun y y0 y1 => by rw [hm.2 y y0 y1]; simp [orbF, hasL]⟩
theorem hasL_snoc {l : List Int} {a y : Int} : hasL (l ++ [a]) y = (hasL l y || decide (a = y)) := by
  rw [Bool.eq_iff_iff, Bool.or_eq_true, hasL_iff, hasL_iff, List.mem_append, List.mem_singleton, decide_eq_true_eq]
  exact ⟨fun q => q.imp id Eq.symm, fun q => q.imp id Eq.symm⟩
theorem met_set {j : Nat} {e : Int} {out : Rws} {met : List Bool} (hl : met.length = 16) (h : ∀ y : Int, 0 ≤ y → y < 16 → met.getD y.toNat false = (out.any (fun l => hasL l y) || hasL (orbF f x j) y)) (he : e = itF f j x) (e0 : 0 ≤ e) (e1 : e < 16) :
    ∀ y : Int, 0 ≤ y → y < 16 → (met.set e.toNat true).getD y.toNat false = (out.any (fun l => hasL l y) || hasL (orbF f x (j + 1)) y) := fun y y0 y1 => by
  rw [orb_next, hasL_snoc, ← he]
  have hy := h y y0 y1
  rw [List.getD_eq_getElem?_getD] at hy ⊢
  rw [List.getElem?_set]
  by_cases q : e = y
  · subst q; rw [if_pos rfl, if_pos (by omega)]; simp
  · rw [if_neg (by omega), hy, decide_eq_false q, Bool.or_false]
theorem cy_next (h : permB n f = true) (hx : 0 ≤ x ∧ x < n) (hn : n ≤ 16) {out : Rws} {j : Nat} {l : List Int} {e : Int} {met : List Bool} (hI : CyI f x out j l e met) (hne : f e ≠ x) : CyI f x out (j + 1) (l ++ [e]) (f e) (met.set e.toNat true) := by
  obtain ⟨⟨h1, h2⟩, h3, h4, h5⟩ := hI
  have hr := it_rng h hx j
  have hp := per_spec h hx
  refine ⟨⟨by rw [orb_next, h1, h2], by rw [h2]; rfl⟩, ?_, by rw [List.length_set]; exact h4, met_set h4 h5 h2 (by omega) (by omega)⟩
  refine Decidable.byContradiction fun hge => hne ?_
  have : j + 1 = perF f x := by omega
  have := hp.2.1
  rw [← ‹j + 1 = perF f x›] at this
  rw [h2]; exact this
theorem cy_end (h : permB n f = true) (hx : 0 ≤ x ∧ x < n) (hn : n ≤ 16) {out : Rws} {j : Nat} {l : List Int} {e : Int} {met : List Bool} (hI : CyI f x out j l e met) (he : f e = x) : l ++ [e] = orbF f x (perF f x) ∧ MetB (out ++ [l ++ [e]]) (met.set e.toNat true) := by
  obtain ⟨⟨h1, h2⟩, h3, h4, h5⟩ := hI
  have hr := it_rng h hx j
  have hp := per_spec h hx
  have hj : j + 1 = perF f x := by
    refine Decidable.byContradiction fun hge => ?_
    have := hp.2.2 (j + 1) (by omega) (by omega)
    exact this (by rw [h2] at he; exact he)
  have ho : l ++ [e] = orbF f x (j + 1) := by rw [orb_next, h1, h2]
  refine ⟨by rw [ho, hj], by rw [List.length_set]; exact h4, fun y y0 y1 => ?_⟩
  rw [met_set h4 h5 h2 (by omega) (by omega) y y0 y1, List.any_append, ho]; simp
theorem cyc_skip {out : Rws} {k : Int} (k0 : 0 ≤ k) (ho : out = (rng 0 k).foldl (cycS f) []) {met : List Bool} (hm : MetB out met) (h16 : k < 16) (hk : met.getD k.toNat false = true) : out = (rng 0 (k + 1)).foldl (cycS f) [] ∧ MetB out met := by
  refine ⟨?_, hm⟩
  rw [rng_snoc k0, List.foldl_append, ← ho]
  show out = cycS f out k
  rw [cycS, if_pos (by rw [← hm.2 k k0 h16]; exact hk)]
theorem cyc_take {out : Rws} {k : Int} (k0 : 0 ≤ k) (ho : out = (rng 0 k).foldl (cycS f) []) {met : List Bool} (hm : MetB out met) (h16 : k < 16) (hk : met.getD k.toNat false = false) : out ++ [orbF f k (perF f k)] = (rng 0 (k + 1)).foldl (cycS f) [] := by
  rw [rng_snoc k0, List.foldl_append, ← ho]
  show _ = cycS f out k
  rw [cycS, if_neg (by rw [← hm.2 k k0 h16, hk]; decide)]
end
end Go.Proofs.YtlibemgaepkceaaGreatDoor
namespace Go.Proofs.YtlibemgaepkceaaGreatDoor
open Go.Wk
theorem cy_rng {n x : Int} {f : Int → Int} (h : permB n f = true) (hx : 0 ≤ x ∧ x < n) {out : Rws} {j : Nat} {l : List Int} {e : Int} {met : List Bool} (hI : CyI f x out j l e met) : 0 ≤ e ∧ e < n := by
  rw [hI.1.2]; exact it_rng h hx j
theorem cy_len {x : Int} {f : Int → Int} {out : Rws} {j : Nat} {l : List Int} {e : Int} {met : List Bool} (hI : CyI f x out j l e met) : l.length = j := by
  rw [hI.1.1, orbF, List.length_map, List.length_range]
theorem cy_bd {n x : Int} {f : Int → Int} (h : permB n f = true) (hx : 0 ≤ x ∧ x < n) {out : Rws} {j : Nat} {l : List Int} {e : Int} {met : List Bool} (hI : CyI f x out j l e met) : j < 16 := by
  have := (per_spec h hx).1.2
  have := hI.2.1
  omega
end Go.Proofs.YtlibemgaepkceaaGreatDoor

namespace Go.Proofs.YtlibemgaepkceaaGreatDoor
open Go.Wk
set_option linter.unusedVariables false
def tblB (t : Tab) : Bool := decide (t.length = 34) && ((decide (0 ≤ tnN t ∧ tnN t ≤ 8) && decide ((0 ≤ teN t ∧ teN t ≤ 16) ∧ teN t % 2 = 0)) && (rng 0 (teN t)).all fun e => decide (0 ≤ tpF t e ∧ tpF t e < tnN t))
structure TblOK (t : Tab) : Prop where
  l : t.length = 34
  n : 0 ≤ tnN t ∧ tnN t ≤ 8
  e : (0 ≤ teN t ∧ teN t ≤ 16) ∧ teN t % 2 = 0
  p : ∀ e, 0 ≤ e → e < teN t → 0 ≤ tpF t e ∧ tpF t e < tnN t
theorem tbl_ok {t : Tab} (h : tblB t = true) : TblOK t := by
  rw [tblB, Bool.and_eq_true, Bool.and_eq_true, Bool.and_eq_true, decide_eq_true_eq, decide_eq_true_eq, decide_eq_true_eq, List.all_eq_true] at h
  exact ⟨h.1, h.2.1.1, h.2.1.2, fun e e0 e1 => of_decide_eq_true (h.2.2 e (rng_mem.2 ⟨e0, e1⟩))⟩
def labK (t : Tab) (i : Int) : List Int × Int := ((edgT t).take i.toNat).foldl labS (rng 0 (tnN t), tnN t)
def LbI (t : Tab) (i : Int) (lab : List Int) (n : Int) : Prop := lab.length = 16 ∧ lab.take (tnN t).toNat = (labK t i).1 ∧ n = (labK t i).2
section
variable {t : Tab} {i n : Int} {lab lab2 : List Int}
theorem take_ix0 {l : List Int} {k : Nat} {x : Int} (h0 : 0 ≤ x) (h : x.toNat < k) : ix 0 (l.take k) x = ix 0 l x := by rw [ix, ix, List.getD_eq_getElem?_getD, List.getD_eq_getElem?_getD, List.getElem?_take, if_pos h]
theorem ext_ix {l m : List Int} (hl : l.length = m.length) (h : ∀ x : Int, 0 ≤ x → x < l.length → ix 0 l x = ix 0 m x) : l = m := by
  refine List.ext_getElem hl fun k h1 h2 => ?_
  have := h (k : Int) (by omega) (by omega)
  simp only [ix, Int.toNat_natCast, List.getD_eq_getElem?_getD, List.getElem?_eq_getElem h1, List.getElem?_eq_getElem h2, Option.getD_some] at this
  exact this
theorem lb_start (hk : TblOK t) (hl : lab.length = 16) (h : ∀ x, 0 ≤ x → x < tnN t → ix 0 lab x = x) : LbI t 0 lab (tnN t) := by
  refine ⟨hl, ?_, rfl⟩
  have hn := hk.n
  have hr := rng_length (i := 0) (n := tnN t) (by omega)
  show lab.take (tnN t).toNat = rng 0 (tnN t)
  refine ext_ix (by rw [List.length_take]; omega) fun x x0 x1 => ?_
  rw [List.length_take] at x1
  rw [take_ix0 x0 (by omega), h x x0 (by omega), ix_rng ⟨x0, by omega⟩]
theorem edg_len (hk : TblOK t) : ((edgT t).length : Int) = teN t / 2 := by
  have := hk.e
  rw [edgT, List.length_map]; have := rng_length (i := 0) (n := teN t / 2) (by omega); omega
theorem lab_succ (hk : TblOK t) (i0 : 0 ≤ i) (i1 : 2 * i < teN t) : labK t (i + 1) = labS (labK t i) (tpF t (2 * i), tpF t (2 * i + 1)) := by
  have hl := edg_len hk
  have he := hk.e
  rw [labK, take_ix (d := (0, 0)) i0 (by omega), List.foldl_append]
  have : ix (0, 0) (edgT t) i = (tpF t (2 * i), tpF t (2 * i + 1)) := by
    rw [ix, edgT, List.getD_eq_getElem?_getD, List.getElem?_map, rng_get i0 (by omega)]; rfl
  rw [this]; rfl
theorem lb_ix (hk : TblOK t) (h : LbI t i lab n) {x : Int} (x0 : 0 ≤ x) (x1 : x < tnN t) : ix 0 (labK t i).1 x = ix 0 lab x := by rw [← h.2.1, take_ix0 x0 (by omega)]
theorem lb_skip (hk : TblOK t) (h : LbI t i lab n) (i0 : 0 ≤ i) (i1 : 2 * i < teN t) (he : ix 0 lab (tpF t (2 * i)) = ix 0 lab (tpF t (2 * i + 1))) : LbI t (i + 1) lab n := by
  have e2 := hk.e.2
  have a := hk.p (2 * i) (by omega) i1
  have b := hk.p (2 * i + 1) (by omega) (by omega)
  have : labK t (i + 1) = labK t i := by
    rw [lab_succ hk i0 i1, labS, if_pos]
    rw [lb_ix hk h a.1 a.2, lb_ix hk h b.1 b.2]; exact he
  exact ⟨h.1, by rw [this]; exact h.2.1, by rw [this]; exact h.2.2⟩
theorem lb_take (hk : TblOK t) (h : LbI t i lab n) (i0 : 0 ≤ i) (i1 : 2 * i < teN t) (hne : ¬ ix 0 lab (tpF t (2 * i)) = ix 0 lab (tpF t (2 * i + 1))) {k : Int} (hR : RelI lab lab2 (ix 0 lab (tpF t (2 * i))) (ix 0 lab (tpF t (2 * i + 1))) k) (hkk : k = tnN t) : LbI t (i + 1) lab2 (n - 1) := by
  have e2 := hk.e.2
  have hn := hk.n
  have a := hk.p (2 * i) (by omega) i1
  have b := hk.p (2 * i + 1) (by omega) (by omega)
  have hl := h.1
  have : labK t (i + 1) = ((labK t i).1.map fun x => if x = ix 0 lab (tpF t (2 * i)) then ix 0 lab (tpF t (2 * i + 1)) else x, (labK t i).2 - 1) := by
    rw [lab_succ hk i0 i1, labS, lb_ix hk h a.1 a.2, lb_ix hk h b.1 b.2, if_neg hne]
  refine ⟨by rw [hR.1]; exact hl, ?_, by rw [this, h.2.2]⟩
  rw [this, ← h.2.1]
  subst hkk
  refine ext_ix (by rw [List.length_map, List.length_take, List.length_take, hR.1]) fun x x0 x1 => ?_
  rw [List.length_take, hR.1] at x1
  rw [take_ix0 x0 (by omega), hR.2 x x0 (by omega)]
  have hx : ix 0 ((lab.take (tnN t).toNat).map fun x => if x = ix 0 lab (tpF t (2 * i)) then ix 0 lab (tpF t (2 * i + 1)) else x) x = if ix 0 lab x = ix 0 lab (tpF t (2 * i)) then ix 0 lab (tpF t (2 * i + 1)) else ix 0 lab x := by
    have hxl : x < ((lab.take (tnN t).toNat).length : Int) := by rw [List.length_take]; omega
    rw [ix, List.getD_eq_getElem?_getD, List.getElem?_map, ix_get (d := 0) hxl x0, Option.map_some, Option.getD_some, take_ix0 x0 (by omega)]
  rw [hx]
  by_cases q : ix 0 lab x = ix 0 lab (tpF t (2 * i))
  · rw [if_pos ⟨by omega, q⟩, if_pos q]
  · rw [if_neg (fun z => q z.2), if_neg q]
theorem lb_end (hk : TblOK t) (h : LbI t i lab n) (i0 : 0 ≤ i) (hi : teN t ≤ 2 * i) : n = partT t := by
  have hl := edg_len hk
  have := hk.e
  rw [h.2.2, labK, List.take_of_length_le (by omega)]; rfl
end
end Go.Proofs.YtlibemgaepkceaaGreatDoor

namespace Go.Proofs.YtlibemgaepkceaaGreatDoor
open Go.Wk
set_option linter.unusedVariables false
def okM (ls : Rws) : Bool := (ls.all (fun l => decide (0 < l.length)) && decide ls.flatten.Nodup) && ((ls.flatten.all fun e => decide (0 ≤ e ∧ e < (ls.flatten.length : Int))) && decide (ls.flatten.length ≤ 16 ∧ ls.flatten.length % 2 = 0))
structure MapOK (ls : Rws) : Prop where
  n : ∀ l ∈ ls, 0 < l.length
  d : ls.flatten.Nodup
  r : ∀ e ∈ ls.flatten, 0 ≤ e ∧ e < (ls.flatten.length : Int)
  m : ls.flatten.length ≤ 16 ∧ ls.flatten.length % 2 = 0
theorem map_ok {ls : Rws} (h : okM ls = true) : MapOK ls := by
  rw [okM, Bool.and_eq_true, Bool.and_eq_true, Bool.and_eq_true, decide_eq_true_eq, decide_eq_true_eq, List.all_eq_true, List.all_eq_true] at h
  exact ⟨fun l hl => of_decide_eq_true (h.1.1 l hl), h.1.2, fun e he => of_decide_eq_true (h.2.1 e he), h.2.2⟩
section
variable {ls : Rws} {l : List Int} {t : Tab} {k : Int}
theorem tabIn_next (k0 : 0 ≤ k) : tabIn l (k + 1) t = tabStep l (tabIn l k t) k := by rw [tabIn, rng_snoc k0, List.foldl_append]; rfl
theorem tabIn_len : ∀ {k : Int}, (tabIn l k t).length = t.length := by
  intro k
  rw [tabIn]
  generalize rng 0 k = r
  induction r generalizing t with
  | nil => rfl
  | cons x r ih => rw [List.foldl_cons, ih, tabStep, List.length_set, List.length_set]
theorem tabS_len : (tabS t l).length = t.length := by
  rw [tabS]; split
  · rfl
  · rw [List.length_set, List.length_set, tabIn_len]
def tabK (ls : Rws) (k : Int) : Tab := (ls.take k.toNat).foldl tabS tab0
theorem tabK_len : (tabK ls k).length = 34 := by
  rw [tabK]
  have : ∀ (m : Rws) (t : Tab), (m.foldl tabS t).length = t.length := by
    intro m
    induction m with
    | nil => intro t; rfl
    | cons l m ih => intro t; rw [List.foldl_cons, ih, tabS_len]
  rw [this]; rfl
theorem tabK_next (k0 : 0 ≤ k) (k1 : k < ls.length) : tabK ls (k + 1) = tabS (tabK ls k) (ix [] ls k) := by rw [tabK, take_ix (d := []) k0 k1, List.foldl_append]; rfl
theorem tabK_end (hk : (ls.length : Int) ≤ k) : tabK ls k = tabV ls := by rw [tabK, List.take_of_length_le (by omega)]; rfl
def MtI (ls : Rws) (k j : Int) (met : List Bool) : Prop := met.length = 16 ∧ ∀ y : Int, 0 ≤ y → y < 16 → met.getD y.toNat false = hasL ((ls.take k.toNat).flatten ++ (ix [] ls k).take j.toNat) y
theorem mt_start : MtI ls 0 0 (List.replicate 16 false) := ⟨rfl, fun y y0 y1 => by
  rw [List.getD_eq_getElem?_getD, List.getElem?_replicate, if_pos (by omega)]; rfl⟩
theorem mt_row {met : List Bool} {j : Int} (h : MtI ls k j met) (k0 : 0 ≤ k) (k1 : k < ls.length) (hj : ((ix [] ls k).length : Int) ≤ j) : MtI ls (k + 1) 0 met := ⟨h.1, fun y y0 y1 => by
  have e : (ix [] ls k).take j.toNat = ix [] ls k := List.take_of_length_le (by omega)
  rw [h.2 y y0 y1, take_ix (d := []) k0 k1, List.flatten_append, e]; simp⟩
theorem flat_at (k0 : 0 ≤ k) (k1 : k < ls.length) : ls.flatten = (ls.take k.toNat).flatten ++ (ix [] ls k ++ (ls.drop (k + 1).toNat).flatten) := by
  conv => lhs; rw [← List.take_append_drop k.toNat ls, List.flatten_append, drop_ix (d := []) k0 k1, List.flatten_cons]
theorem end_mem (k0 : 0 ≤ k) (k1 : k < ls.length) {j : Int} (j0 : 0 ≤ j) (j1 : j < (ix [] ls k).length) : ix 0 (ix [] ls k) j ∈ ls.flatten := by
  rw [flat_at k0 k1, List.mem_append, List.mem_append]; exact .inr (.inl (ix_inl j0 j1))
theorem mt_free (hk : MapOK ls) {met : List Bool} {j : Int} (h : MtI ls k j met) (k0 : 0 ≤ k) (k1 : k < ls.length) (j0 : 0 ≤ j) (j1 : j < (ix [] ls k).length) : met.getD (ix 0 (ix [] ls k) j).toNat false = false := by
  have hr := hk.r _ (end_mem k0 k1 j0 j1)
  have hm := hk.m
  rw [h.2 _ hr.1 (by omega)]
  cases hq : hasL ((ls.take k.toNat).flatten ++ (ix [] ls k).take j.toNat) (ix 0 (ix [] ls k) j) with
  | false => rfl
  | true =>
    exfalso
    have hd := hk.d
    have e : ls.flatten = ((ls.take k.toNat).flatten ++ (ix [] ls k).take j.toNat) ++ (ix 0 (ix [] ls k) j :: ((ix [] ls k).drop (j + 1).toNat ++ (ls.drop (k + 1).toNat).flatten)) := by
      rw [flat_at k0 k1]
      conv => lhs; rw [← List.take_append_drop j.toNat (ix [] ls k), drop_ix (d := 0) j0 j1]
      simp
    rw [e] at hd
    exact (List.pairwise_append.1 hd).2.2 _ (hasL_iff.1 hq) _ (by simp) rfl
theorem mt_next (hk : MapOK ls) {met : List Bool} {j : Int} (h : MtI ls k j met) (k0 : 0 ≤ k) (k1 : k < ls.length) (j0 : 0 ≤ j) (j1 : j < (ix [] ls k).length) : MtI ls k (j + 1) (met.set (ix 0 (ix [] ls k) j).toNat true) := ⟨by rw [List.length_set]; exact h.1, fun y y0 y1 => by
  have hr := hk.r _ (end_mem k0 k1 j0 j1)
  have hm := hk.m
  have hl := h.1
  have hy := h.2 y y0 y1
  rw [take_ix (d := 0) j0 j1, ← List.append_assoc, hasL_snoc, ← hy]
  rw [List.getD_eq_getElem?_getD, List.getD_eq_getElem?_getD, List.getElem?_set]
  by_cases q : ix 0 (ix [] ls k) j = y
  · rw [if_pos (by omega), if_pos (by omega), decide_eq_true q]; simp
  · rw [if_neg (by omega), decide_eq_false q, Bool.or_false]⟩
theorem flat_take (k0 : 0 ≤ k) (k1 : k < ls.length) : (((ls.take (k + 1).toNat).flatten.length : Nat) : Int) = ((ls.take k.toNat).flatten.length : Nat) + ((ix [] ls k).length : Int) := by
  rw [take_ix (d := []) k0 k1, List.flatten_append, List.length_append]; simp
end
end Go.Proofs.YtlibemgaepkceaaGreatDoor
namespace Go.Proofs.YtlibemgaepkceaaGreatDoor
open Go.Wk Go.RowKit
theorem ix_i64 {zs : List Int} (h : ∀ z ∈ zs, InK .i64 z) (j : Int) : -9223372036854775808 ≤ ix 0 zs j ∧ ix 0 zs j ≤ 9223372036854775807 := by
  unfold ix
  cases hz : zs[j.toNat]? with
  | none => rw [List.getD_eq_getElem?_getD, hz]; simp
  | some z =>
    have := bd_i64 (h z (List.mem_of_getElem? hz))
    rw [List.getD_eq_getElem?_getD, hz]; exact this
end Go.Proofs.YtlibemgaepkceaaGreatDoor
namespace Go.Proofs.YtlibemgaepkceaaGreatDoor
open Go.Wk
def TbB (k : Int) (t : Tab) : Prop := t.length = 34 ∧ (0 ≤ ix 0 t 0 ∧ ix 0 t 0 ≤ 1000 * k) ∧ (0 ≤ ix 0 t 33 ∧ ix 0 t 33 ≤ k)
theorem tb_start : TbB 0 (List.replicate 34 0) := ⟨rfl, by decide, by decide⟩
theorem tb_set {k e v : Int} {t : Tab} (h : TbB k t) (e0 : 0 ≤ e) (e1 : e < 16) : TbB k (t.set (1 + e).toNat v) ∧ TbB k (t.set (17 + e).toNat v) := by
  obtain ⟨h1, h2, h3⟩ := h
  refine ⟨⟨by rw [List.length_set]; exact h1, ?_, ?_⟩, ⟨by rw [List.length_set]; exact h1, ?_, ?_⟩⟩ <;> (rw [ix_set0 (by omega) (by omega) (by omega), if_neg (by omega)]; first | exact h2 | exact h3)
theorem tb_up {k n : Int} {t : Tab} (h : TbB k t) (hn : 0 ≤ n ∧ n ≤ 1000) : TbB (k + 1) ((t.set 0 (ix 0 t 0 + n)).set 33 (ix 0 (t.set 0 (ix 0 t 0 + n)) 33 + 1)) := by
  obtain ⟨h1, h2, h3⟩ := h
  have a : ix 0 (t.set 0 (ix 0 t 0 + n)) 33 = ix 0 t 33 := by
    have := ix_set0 (l := t) (i := 0) (p := 33) (v := ix 0 t 0 + n) (by omega) (by omega) (by omega)
    rw [if_neg (by omega)] at this; exact this
  have b : ix 0 (t.set 0 (ix 0 t 0 + n)) 0 = ix 0 t 0 + n := by
    have := ix_set0 (l := t) (i := 0) (p := 0) (v := ix 0 t 0 + n) (by omega) (by omega) (by omega)
    rw [if_pos rfl] at this; exact this
  rw [a]
  refine ⟨by rw [List.length_set, List.length_set]; exact h1, ?_, ?_⟩
  · have := ix_set0 (l := t.set 0 (ix 0 t 0 + n)) (i := 33) (p := 0) (v := ix 0 t 33 + 1) (by omega) (by rw [List.length_set]; omega) (by omega)
    rw [if_neg (by omega), b] at this
    have e : (33 : Int).toNat = 33 := rfl
    rw [e] at this
    rw [this]; omega
  · have := ix_set0 (l := t.set 0 (ix 0 t 0 + n)) (i := 33) (p := 33) (v := ix 0 t 33 + 1) (by omega) (by rw [List.length_set]; omega) (by omega)
    rw [if_pos rfl] at this
    have e : (33 : Int).toNat = 33 := rfl
    rw [e] at this
    rw [this]; omega
theorem tb_more {k : Int} {t : Tab} (h : TbB k t) : TbB (k + 1) t := ⟨h.1, by have := h.2.1; omega, by have := h.2.2; omega⟩
theorem tabK_put {ls : Rws} {k : Int} (k0 : 0 ≤ k) (k1 : k < ls.length) (hn : ¬ ((ix [] ls k).length : Int) = 0) {j : Int} (hj : j = (ix [] ls k).length) {t2 : Tab} (h2 : t2 = tabIn (ix [] ls k) j (tabK ls k)) : (t2.set 0 (ix 0 t2 0 + (ix [] ls k).length)).set 33 (ix 0 (t2.set 0 (ix 0 t2 0 + (ix [] ls k).length)) 33 + 1) = tabK ls (k + 1) := by
  have a : ix 0 (t2.set 0 (ix 0 t2 0 + (ix [] ls k).length)) 33 = ix 0 t2 33 := by
    by_cases hl : 0 < t2.length
    · have := ix_set0 (l := t2) (i := 0) (p := 33) (v := ix 0 t2 0 + (ix [] ls k).length) (by omega) (by omega) (by omega)
      rw [if_neg (by omega)] at this; exact this
    · rw [show t2 = [] from List.length_eq_zero_iff.1 (by omega)]; rfl
  rw [a, tabK_next k0 k1, tabS, if_neg (by omega), h2, hj]; rfl
theorem tabK_skip {ls : Rws} {k : Int} (k0 : 0 ≤ k) (k1 : k < ls.length) (hn : ((ix [] ls k).length : Int) = 0) : tabK ls k = tabK ls (k + 1) := by
  rw [tabK_next k0 k1, tabS, if_pos (by omega)]
end Go.Proofs.YtlibemgaepkceaaGreatDoor
namespace Go.Proofs.YtlibemgaepkceaaGreatDoor
open Go.Wk
theorem tb_pts {k e v : Int} {t : Tab} (h : TbB k t) (e0 : 0 ≤ e) (e1 : e < 16) : ix 0 (t.set (1 + e).toNat v) 33 = ix 0 t 33 := by
  have := h.1
  rw [ix_set0 (by omega) (by omega) (by omega), if_neg (by omega)]
theorem tb_pts0 {k v : Int} {t : Tab} (h : TbB k t) : ix 0 (t.set (0 : Int).toNat v) 33 = ix 0 t 33 := by
  have := h.1
  rw [ix_set0 (by omega) (by omega) (by omega), if_neg (by omega)]
theorem tabK_put2 {ls : Rws} {k : Int} (k0 : 0 ≤ k) (k1 : k < ls.length) (hn : ¬ ((ix [] ls k).length : Int) = 0) {j : Int} (hj : j = (ix [] ls k).length) {t2 : Tab} (hb : TbB k t2) (h2 : t2 = tabIn (ix [] ls k) j (tabK ls k)) : (t2.set (0 : Int).toNat (ix 0 t2 0 + (ix [] ls k).length)).set (33 : Int).toNat (ix 0 t2 33 + 1) = tabK ls (k + 1) := by
  have := tabK_put k0 k1 hn hj h2
  have e := tb_pts0 hb (v := ix 0 t2 0 + (ix [] ls k).length)
  have e0 : (0 : Int).toNat = 0 := rfl
  rw [e0] at e
  rw [e] at this
  exact this
theorem tb_up2 {k n : Int} {t : Tab} (h : TbB k t) (hn : 0 ≤ n ∧ n ≤ 1000) : TbB (k + 1) ((t.set (0 : Int).toNat (ix 0 t 0 + n)).set (33 : Int).toNat (ix 0 t 33 + 1)) := by
  have := tb_up h hn
  have e := tb_pts0 h (v := ix 0 t 0 + n)
  have e0 : (0 : Int).toNat = 0 := rfl
  rw [e0] at e
  rw [e] at this
  exact this
end Go.Proofs.YtlibemgaepkceaaGreatDoor
namespace Go.Proofs.YtlibemgaepkceaaGreatDoor
open Go.Wk
theorem flat_le {ls : Rws} {k : Int} : ((ls.take k.toNat).flatten.length : Int) ≤ ls.flatten.length := by
  have : ls.flatten = (ls.take k.toNat).flatten ++ (ls.drop k.toNat).flatten := by rw [← List.flatten_append, List.take_append_drop]
  rw [this, List.length_append]; omega
theorem map_cnt {ls : Rws} (h : MapOK ls) : (ls.length : Int) ≤ 16 := by
  have : ∀ m : Rws, (∀ l ∈ m, 0 < l.length) → m.length ≤ m.flatten.length := by
    intro m
    induction m with
    | nil => intro _; exact Nat.le_refl _
    | cons l m ih =>
      intro hm
      have := ih fun l' hl => hm l' (List.mem_cons_of_mem _ hl)
      have := hm l (by simp)
      rw [List.flatten_cons, List.length_append, List.length_cons]; omega
  have := this ls h.n
  have := h.m
  omega
theorem map_rng {ls : Rws} (h : MapOK ls) : ∀ l ∈ ls, ∀ e ∈ l, 0 ≤ e ∧ e < 16 := fun l hl e he => by
  have := h.r e (List.mem_flatten.2 ⟨l, hl, he⟩)
  have := h.m
  omega
theorem map_len {ls : Rws} (h : MapOK ls) : ∀ l ∈ ls, (l.length : Int) ≤ 1000 := fun l hl => by
  obtain ⟨a, b, rfl⟩ := List.append_of_mem hl
  have := h.m
  rw [List.flatten_append, List.flatten_cons, List.length_append, List.length_append] at this
  omega
end Go.Proofs.YtlibemgaepkceaaGreatDoor
namespace Go.Proofs.YtlibemgaepkceaaGreatDoor
theorem tabV_len {ls : Rws} : (tabV ls).length = 34 := by
  have := tabK_len (ls := ls) (k := ls.length)
  rw [tabK_end (Int.le_refl _)] at this; exact this
end Go.Proofs.YtlibemgaepkceaaGreatDoor
namespace Go.Proofs.YtlibemgaepkceaaGreatDoor
open Go.Wk Go.RowKit
theorem in_small {x : Int} (h : -1000000 ≤ x ∧ x ≤ 1000000) : InK .i64 x := in_i64 (by omega) (by omega)
theorem mem_set_or {l : List Int} {i : Nat} {v : Int} {P : Int → Prop} (h : ∀ x ∈ l, P x) (hv : P v) : ∀ x ∈ l.set i v, P x := fun x hx => by
  rcases List.mem_or_eq_of_mem_set hx with hx | rfl
  · exact h x hx
  · exact hv
theorem tabK_small {ls : Rws} (hr : ∀ l ∈ ls, ∀ e ∈ l, 0 ≤ e ∧ e < 16) (hf16 : ls.flatten.length ≤ 16) (hc16 : (ls.length : Int) ≤ 16) : ∀ k : Nat, k ≤ ls.length → (∀ x ∈ tabK ls (k : Int), -1000 ≤ x ∧ x ≤ 1000) ∧ (0 ≤ teN (tabK ls (k : Int)) ∧ teN (tabK ls (k : Int)) ≤ ((ls.take k).flatten.length : Int)) ∧ (0 ≤ tnN (tabK ls (k : Int)) ∧ tnN (tabK ls (k : Int)) ≤ k)
  | 0, _ => ⟨fun x hx => by
      have : tabK ls ((0 : Nat) : Int) = tab0 := rfl
      rw [this, tab0] at hx
      rw [List.eq_of_mem_replicate hx]; omega, by
      have : tabK ls ((0 : Nat) : Int) = tab0 := rfl
      rw [this]; exact ⟨by decide, Int.natCast_nonneg _⟩, by
      have : tabK ls ((0 : Nat) : Int) = tab0 := rfl
      rw [this]; decide⟩
  | k + 1, hle => by
    obtain ⟨h1, h2, h3⟩ := tabK_small hr hf16 hc16 k (by omega)
    have hlt : (k : Int) < ls.length := by omega
    have hn : tabK ls ((k + 1 : Nat) : Int) = tabS (tabK ls k) (ix [] ls k) := tabK_next (k := (k : Int)) (by omega) hlt
    have hft := flat_take (ls := ls) (k := (k : Int)) (by omega) hlt
    have hf := flat_le (ls := ls) (k := ((k + 1 : Nat) : Int))
    have e1 : ((k : Int) + 1).toNat = k + 1 := by omega
    have e2 : ((k + 1 : Nat) : Int).toNat = k + 1 := by omega
    rw [e1, Int.toNat_natCast] at hft
    rw [e2] at hf
    have hmem : ix [] ls (k : Int) ∈ ls := List.mem_of_getElem? (ix_get hlt (by omega))
    rw [hn, tabS]
    split
    · rename_i h0
      exact ⟨h1, ⟨h2.1, by omega⟩, h3.1, by omega⟩
    · rename_i h0
      have hr := hr _ hmem
      have key : ∀ j : Nat, j ≤ (ix [] ls (k : Int)).length → TbB 16 (tabIn (ix [] ls k) j (tabK ls k)) ∧ (∀ x ∈ tabIn (ix [] ls k) j (tabK ls k), -1000 ≤ x ∧ x ≤ 1000) ∧ teN (tabIn (ix [] ls k) j (tabK ls k)) = teN (tabK ls k) ∧ tnN (tabIn (ix [] ls k) j (tabK ls k)) = tnN (tabK ls k) := by
        intro j
        induction j with
        | zero =>
          intro _
          have z : tabIn (ix [] ls (k : Int)) ((0 : Nat) : Int) (tabK ls k) = tabK ls k := rfl
          rw [z]
          exact ⟨⟨tabK_len, ⟨h2.1, by show teN (tabK ls (k : Int)) ≤ 1000 * 16; omega⟩, ⟨h3.1, by show tnN (tabK ls (k : Int)) ≤ 16; omega⟩⟩, h1, rfl, rfl⟩
        | succ j ih =>
          intro hj
          obtain ⟨i1, i2, i3, i4⟩ := ih (by omega)
          have hjl : (j : Int) < (ix [] ls (k : Int)).length := by omega
          have he := hr _ (ix_inl (by omega : (0 : Int) ≤ j) hjl)
          have hb := tb_set (v := ix 0 (ix [] ls k) (((j : Int) + 1) % (ix [] ls (k : Int)).length)) i1 he.1 he.2
          have hb2 := tb_set (v := tnN (tabIn (ix [] ls k) j (tabK ls k))) hb.1 he.1 he.2
          have hst : tabIn (ix [] ls k) ((j + 1 : Nat) : Int) (tabK ls k) = tabStep (ix [] ls k) (tabIn (ix [] ls k) j (tabK ls k)) j := tabIn_next (k := (j : Int)) (by omega)
          have hmd := Int.emod_nonneg ((j : Int) + 1) (show ((ix [] ls (k : Int)).length : Int) ≠ 0 by omega)
          have hmd2 := Int.emod_lt_of_pos ((j : Int) + 1) (show 0 < ((ix [] ls (k : Int)).length : Int) by omega)
          have hv := hr _ (ix_inl hmd hmd2)
          rw [hst, tabStep]
          refine ⟨hb2.2, mem_set_or (mem_set_or i2 (by omega)) (by rw [i4]; omega), ?_, ?_⟩
          · rw [← i3, teN, teN, ix_set0 (by omega) (by rw [List.length_set, i1.1]; omega) (by omega), if_neg (by omega), ix_set0 (by omega) (by rw [i1.1]; omega) (by omega), if_neg (by omega)]
          · rw [← i4, tnN, tnN, ix_set0 (by omega) (by rw [List.length_set, i1.1]; omega) (by omega), if_neg (by omega), ix_set0 (by omega) (by rw [i1.1]; omega) (by omega), if_neg (by omega)]
      obtain ⟨i1, i2, i3, i4⟩ := key (ix [] ls (k : Int)).length (Nat.le_refl _)
      refine ⟨mem_set_or (mem_set_or i2 (by rw [i3]; omega)) (by rw [i4]; omega), ?_, ?_⟩
      · have a := ix_set0 (l := (tabIn (ix [] ls k) (ix [] ls (k : Int)).length (tabK ls k)).set 0 (teN (tabIn (ix [] ls k) (ix [] ls (k : Int)).length (tabK ls k)) + (ix [] ls (k : Int)).length)) (i := 33) (p := 0) (v := tnN (tabIn (ix [] ls k) (ix [] ls (k : Int)).length (tabK ls k)) + 1) (by omega) (by rw [List.length_set, i1.1]; omega) (by omega)
        have b := ix_set0 (l := tabIn (ix [] ls k) (ix [] ls (k : Int)).length (tabK ls k)) (i := 0) (p := 0) (v := teN (tabIn (ix [] ls k) (ix [] ls (k : Int)).length (tabK ls k)) + (ix [] ls (k : Int)).length) (by omega) (by rw [i1.1]; omega) (by omega)
        rw [if_neg (by omega)] at a
        rw [if_pos rfl] at b
        have e0 : (0 : Int).toNat = 0 := rfl
        have e33 : (33 : Int).toNat = 33 := rfl
        rw [e0] at b
        rw [e33, b] at a
        rw [teN, a, i3]; omega
      · have a := ix_set0 (l := (tabIn (ix [] ls k) (ix [] ls (k : Int)).length (tabK ls k)).set 0 (teN (tabIn (ix [] ls k) (ix [] ls (k : Int)).length (tabK ls k)) + (ix [] ls (k : Int)).length)) (i := 33) (p := 33) (v := tnN (tabIn (ix [] ls k) (ix [] ls (k : Int)).length (tabK ls k)) + 1) (by omega) (by rw [List.length_set, i1.1]; omega) (by omega)
        rw [if_pos rfl] at a
        have e33 : (33 : Int).toNat = 33 := rfl
        rw [e33] at a
        rw [tnN, a, i4]; omega
theorem tab_in {ls : Rws} (hk : MapOK ls) : ∀ z ∈ tabV ls, InK .i64 z := fun z hz => by
  rw [← tabK_end (ls := ls) (k := (ls.length : Int)) (Int.le_refl _)] at hz
  have := (tabK_small (map_rng hk) hk.m.1 (map_cnt hk) ls.length (Nat.le_refl _)).1 z hz
  exact in_small (by omega)
end Go.Proofs.YtlibemgaepkceaaGreatDoor
namespace Go.Proofs.YtlibemgaepkceaaGreatDoor
open Go.Wk
end Go.Proofs.YtlibemgaepkceaaGreatDoor
namespace Go.Proofs.YtlibemgaepkceaaGreatDoor
open Go.Wk Go.RowKit
end Go.Proofs.YtlibemgaepkceaaGreatDoor
