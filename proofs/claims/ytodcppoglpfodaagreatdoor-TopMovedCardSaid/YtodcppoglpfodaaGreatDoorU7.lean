/-
  WHAT IS PROVED HERE, TEXT BY TEXT (several texts of one prover, joined to one file; the conditions stand in each statement):
  * WHAT IS SAID HERE, WITH PLAIN LAWS: colours of points, found one after another, and rings of an odd number of points: all are tried; what they come to on the maps of six small shores. No program in sight.
  * WHAT IS SAID HERE, WITH PLAIN LAWS: the bits of the points near a point, step by step. No program in sight.
  * WHAT IS SAID HERE, WITH PLAIN LAWS: the search for colours, step by step. No program in sight.
  * WHAT IS SAID HERE, WITH PLAIN LAWS: the search for a ring of so many points, a call at a time. No program in sight.
  * WHAT IS SAID HERE, WITH PLAIN LAWS: things divided between heirs: what one holds is worth to another, who is an enemy, turns. No program in sight.
  * WHAT IS SAID HERE, WITH PLAIN LAWS: turns, and the whole run. No program in sight.
  * WHAT IS SAID HERE, WITH PLAIN LAWS: the example of chapter 9. No program in sight.
  * WHAT IS PROVED HERE: what functions hand back, each out of its own code; the conditions stand in each statement.
  * WHAT IS SAID HERE: plain functions: what the functions of layer 3 compute, of the package and of the reference.
  * WHAT IS SAID HERE: plain functions: the first order, pairs of layers, layers reached, three layers apart, the fewest forms to leave out, of layer 3's package.
  * WHAT IS SAID HERE: plain functions: what the functions of layer 3's reference compute.
  * WHAT IS SAID HERE: plain functions: forms left out, of layer 3's reference.
  * WHAT IS SAID HERE: plain functions: finds and orders made by numbers, of the statements that stand without the reference.
  * WHAT IS SAID HERE: plain functions: three layers apart, by labels, and what StyleTucker says of finds.
  * WHAT IS SAID HERE: plain laws of lists that the walks of StyleTucker and of the statements behind it ask for. Conditions stand in each statement.
  * WHAT IS PROVED HERE: what functions hand back, each out of its own code; the conditions stand in each statement.
  * WHAT IS PROVED HERE: what functions hand back, each out of its own code; the conditions stand in each statement.
  * WHAT IS PROVED HERE: what functions hand back, each out of its own code; the conditions stand in each statement.
  * WHAT IS PROVED HERE: what functions hand back, each out of its own code; the conditions stand in each statement.
  * WHAT IS PROVED HERE: what functions hand back, each out of its own code; the conditions stand in each statement.
  * WHAT IS PROVED HERE: what functions hand back, each out of its own code; the conditions stand in each statement.
  * WHAT IS PROVED HERE: what functions hand back, each out of its own code; the conditions stand in each statement.
  * WHAT IS PROVED HERE: what functions hand back, each out of its own code; the conditions stand in each statement.
  * WHAT IS PROVED HERE: what functions hand back, each out of its own code; the conditions stand in each statement.
-/
import Derived.Test.YtodcppoglpfodaaGreatDoorU6
import Derived.Test.YtodcppoglpfodaaGreatDoorU2
import Derived.Laws.BitsAllLaws
import Derived.Test.YtodcppoglpfodaaGreatDoorProg
import Derived.Test.YtodcppoglpfodaaGreatDoorU1

set_option linter.unusedVariables false
set_option linter.unusedSimpArgs false

namespace Go.Proofs.YtodcppoglpfodaaGreatDoor
open Go.Wk Go.RowKit
set_option linter.unusedVariables false
def nearS (t : Tab) (out : List Int) (e : Int) : List Int := out.set (tpF t e).toNat (bits .or .u32 (ix 0 out (tpF t e)) (IntKind.u32.wrap (1 * 2 ^ min (tpF t (ix 0 othL e)).toNat IntKind.u32.bits)))
def nearK (t : Tab) (k : Int) : List Int := (rng 0 k).foldl (nearS t) (List.replicate (tnN t).toNat 0)
def nearV (t : Tab) : List Int := nearK t (teN t)
def bitN (l q : Int) : Bool := decide (bits .and .u32 (l / 2 ^ min q.toNat IntKind.u32.bits) 1 = 1)
def clashV (near out : List Int) (p k : Int) : Bool := (rng 0 k).any fun q => decide (ix 0 out q = ix 0 out p) && bitN (ix 0 near p) q
def colR (near : List Int) (pts most : Int) : Nat → Bool → Int → List Int → Option (Option (List Int))
  | 0, _, _, _ => none
  | n + 1, false, p, out => if pts ≤ p then some (some out) else if clashV near out p p = false ∧ ix 0 out p < most then colR near pts most n false (p + 1) out else colR near pts most n true p (out.set p.toNat (ix 0 out p + 1))
  | n + 1, true, p, out => if most ≤ ix 0 out p then (if p - 1 < 0 then some none else colR near pts most n true (p - 1) ((out.set p.toNat 0).set (p - 1).toNat (ix 0 (out.set p.toNat 0) (p - 1) + 1))) else colR near pts most n false p out
end Go.Proofs.YtodcppoglpfodaaGreatDoor

namespace Go.Proofs.YtodcppoglpfodaaGreatDoor
open Go.Wk Go.RowKit
set_option linter.unusedVariables false
end Go.Proofs.YtodcppoglpfodaaGreatDoor

namespace Go.Proofs.YtodcppoglpfodaaGreatDoor
open Go.Wk Go.RowKit
set_option linter.unusedVariables false
structure ColI (t : Tab) (most : Int) (r : Option (List Int)) (m : Bool) (n : Nat) (p : Int) (out : List Int) : Prop where
  l : (out.length : Int) = tnN t
  p0 : 0 ≤ p
  p1 : p ≤ tnN t
  p2 : m = true → p < tnN t
  b : ∀ q, 0 ≤ q → q < tnN t → 0 ≤ ix 0 out q ∧ ix 0 out q ≤ most ∧ ((m = false ∨ q ≠ p) → ix 0 out q < most)
  g : colR (nearV t) (tnN t) most n m p out = some r
variable {t : Tab} {most p : Int} {r : Option (List Int)} {n : Nat} {out : List Int}
end Go.Proofs.YtodcppoglpfodaaGreatDoor

namespace Go.Proofs.YtodcppoglpfodaaGreatDoor
open Go.Wk Go.RowKit
set_option linter.unusedVariables false
variable {near l : List Int} {pts many met p : Int} {n : Nat}
end Go.Proofs.YtodcppoglpfodaaGreatDoor

namespace Go.Proofs.YtodcppoglpfodaaGreatDoor
open Go.Wk Go.RowKit
set_option linter.unusedVariables false
structure DvOK (vs : List (List Int)) (m : Int) : Prop where
  n : 1 ≤ (vs.length : Int) ∧ (vs.length : Int) ≤ 4
  m6 : 0 ≤ m ∧ m ≤ 6
  l : ∀ r ∈ vs, (r.length : Int) = m
  b : ∀ r ∈ vs, ∀ z ∈ r, 0 ≤ z ∧ z ≤ 20
def shS (row ow : List Int) (h : Int) (s : Int × Int) (x : Int) : Int × Int := if ix 0 ow x = h then (s.1 + ix 0 row x, max s.2 (ix 0 row x)) else s
def shK (row ow : List Int) (h k : Int) : Int × Int := (rng 0 k).foldl (shS row ow h) (0, 0)
def shV (vs : List (List Int)) (ow : List Int) (i h : Int) : Int × Int := shK (ix [] vs i) ow h ow.length
def envV (vs : List (List Int)) (ow : List Int) (i h : Int) : Int := (shV vs ow i h).1 - (shV vs ow i i).1
def enmV (vs : List (List Int)) (ow : List Int) (h : Int) : Int := ((rng 0 vs.length).find? fun j => decide (0 < envV vs ow j h)).getD (-1)
def calV (vs : List (List Int)) (ow : List Int) : Int := ((rng 0 vs.length).find? fun i => decide (enmV vs ow i = -1)).getD (-1)
def wlkR (vs : List (List Int)) (ow : List Int) : Nat → List Int → Int → Option (List Int)
  | 0, _, _ => none
  | n + 1, l, i => if hasL l i = true then some l else wlkR vs ow n (l ++ [i]) (enmV vs ow i)
def eqI (n : Int) : Int → Bool := fun y => decide (y = n)
def rinV (vs : List (List Int)) (ow l : List Int) : List Int := l.drop (idxP (eqI (enmV vs ow (ix 0 l (l.length - 1)))) 0 l).toNat
def turM (r : List Int) (h : Int) : Int := if 0 ≤ idxP (eqI h) 0 r then ix 0 r ((idxP (eqI h) 0 r + 1) % r.length) else h
def turV (vs : List (List Int)) (ow l : List Int) : List Int := ow.map (turM (rinV vs ow l))
def rgR (vs : List (List Int)) (m : Int) : Nat → Int → List Int → Option (List Int)
  | 0, _, _ => none
  | n + 1, x, ow => if m ≤ x then some ow else if calV vs ow = -1 then (match wlkR vs ow 9 [] 0 with | some l => if 0 ≤ idxP (eqI (enmV vs ow (ix 0 l (l.length - 1)))) 0 l then rgR vs m n x (turV vs ow l) else none | none => none) else rgR vs m n (x + 1) (ow.set x.toNat (calV vs ow))
variable {vs : List (List Int)} {ow row l r : List Int} {i h k x m n : Int}
theorem sh_next (h0 : 0 ≤ k) : shK row ow h (k + 1) = shS row ow h (shK row ow h k) k := by rw [shK, rng_snoc h0, List.foldl_append]; rfl
theorem sh_bd (hb : ∀ z ∈ row, 0 ≤ z ∧ z ≤ 20) : ∀ (n : Nat), 0 ≤ (shK row ow h n).1 ∧ (shK row ow h n).1 ≤ 20 * n ∧ 0 ≤ (shK row ow h n).2 ∧ (shK row ow h n).2 ≤ 20
  | 0 => by rw [shK, show ((0 : Nat) : Int) = 0 from rfl, rng_nil (Int.le_refl 0)]; simp
  | n + 1 => by
    have ih := sh_bd hb n
    have hz : 0 ≤ ix 0 row n ∧ ix 0 row n ≤ 20 := by
      rcases Int.lt_or_le (n : Int) row.length with hl | hl
      · exact hb _ (List.mem_of_getElem? (ix_get (d := 0) hl (by omega)))
      · have : ix 0 row n = 0 := by rw [ix, List.getD_eq_getElem?_getD, List.getElem?_eq_none (by omega)]; rfl
        omega
    have hc : ((n + 1 : Nat) : Int) = (n : Int) + 1 := by omega
    rw [hc, sh_next (by omega), shS]
    split
    · refine ⟨by simp only; omega, by simp only; omega, ?_, ?_⟩ <;> simp only [Int.max_def] <;> split <;> omega
    · omega
theorem shk_bd (hb : ∀ z ∈ row, 0 ≤ z ∧ z ≤ 20) (h0 : 0 ≤ k) (h1 : k ≤ 6) : 0 ≤ (shK row ow h k).1 ∧ (shK row ow h k).1 ≤ 120 ∧ 0 ≤ (shK row ow h k).2 ∧ (shK row ow h k).2 ≤ 20 := by
  have := sh_bd (ow := ow) (h := h) hb k.toNat
  rw [Int.toNat_of_nonneg h0] at this
  omega
theorem row_mem (hk : DvOK vs m) (h0 : 0 ≤ i) (h1 : i < vs.length) : ix [] vs i ∈ vs := List.mem_of_getElem? (ix_get (d := []) h1 h0)
theorem shv_bd (hk : DvOK vs ow.length) (h0 : 0 ≤ i) (h1 : i < vs.length) (h : Int) : 0 ≤ (shV vs ow i h).1 ∧ (shV vs ow i h).1 ≤ 120 ∧ 0 ≤ (shV vs ow i h).2 ∧ (shV vs ow i h).2 ≤ 20 := shk_bd (hk.b _ (row_mem hk h0 h1)) hk.m6.1 hk.m6.2
theorem fnd_next {f : Int → Bool} (h0 : 0 ≤ k) (hp : (rng 0 k).find? f = none) (hf : f k = false) : (rng 0 (k + 1)).find? f = none := by
  rw [rng_snoc h0, List.find?_append, hp]; simp [hf]
theorem fnd_none {f : Int → Bool} (hp : (rng 0 k).find? f = none) (hk : k = n) : ((rng 0 n).find? f).getD (-1) = -1 := by rw [← hk, hp]; rfl
theorem fnd_hit {f : Int → Bool} (h0 : 0 ≤ k) (hk : k < n) (hp : (rng 0 k).find? f = none) (hf : f k = true) : ((rng 0 n).find? f).getD (-1) = k := by
  have h1 : rng 0 n = rng 0 (k + 1) ++ rng (k + 1) n := by
    have : ∀ (d : Nat) (a : Int), 0 ≤ a → rng 0 (a + d) = rng 0 a ++ rng a (a + d) := by
      intro d
      induction d with
      | zero => intro a ha; rw [show a + ((0 : Nat) : Int) = a by omega, rng_nil (Int.le_refl a), List.append_nil]
      | succ d ih =>
        intro a ha
        rw [show a + ((d + 1 : Nat) : Int) = (a + d) + 1 by omega, rng_snoc (by omega), rng_snoc (i := a) (by omega), ih a ha, List.append_assoc]
    have h2 := this (n - (k + 1)).toNat (k + 1) (by omega)
    rw [show k + 1 + ((n - (k + 1)).toNat : Int) = n by omega] at h2
    exact h2
  rw [h1, rng_snoc h0, List.find?_append, List.find?_append, hp]
  simp [hf]
end Go.Proofs.YtodcppoglpfodaaGreatDoor

namespace Go.Proofs.YtodcppoglpfodaaGreatDoor
open Go.Wk Go.RowKit
set_option linter.unusedVariables false
variable {vs : List (List Int)} {ow ow2 row l l2 res : List Int} {i h k x m : Int} {n : Nat}
theorem wlk_end (h : wlkR vs ow n l2 i = some l) (hc : hasL l2 i = true) : l2 = l := by
  cases n with
  | zero => cases h
  | succ n => rw [wlkR, if_pos hc] at h; exact Option.some.inj h
theorem wlk_next (h : wlkR vs ow n l2 i = some l) (hc : hasL l2 i = false) : wlkR vs ow (n - 1) (l2 ++ [i]) (enmV vs ow i) = some l ∧ 0 < n := by
  cases n with
  | zero => cases h
  | succ n => rw [wlkR, if_neg (by rw [hc]; decide)] at h; exact ⟨h, by omega⟩
theorem wlk_pos' : ∀ (n : Nat) (l2 : List Int) (i : Int), wlkR vs ow n l2 i = some l → l2.length ≤ l.length ∧ (l2 = [] → 0 < l.length)
  | 0, _, _, h => by cases h
  | n + 1, l2, i, h => by
    rw [wlkR] at h
    split at h
    · rename_i hc
      cases Option.some.inj h
      refine ⟨Nat.le_refl _, fun he => ?_⟩
      subst he; cases hc
    · have := wlk_pos' n _ _ h
      rw [List.length_append] at this
      simp only [List.length_cons, List.length_nil] at this
      exact ⟨by omega, fun _ => by omega⟩
theorem wlk_pos (h : wlkR vs ow n [] i = some l) : 0 < l.length := (wlk_pos' n _ _ h).2 rfl
theorem enm_bd (hk : DvOK vs m) (h : Int) : -1 ≤ enmV vs ow h ∧ enmV vs ow h ≤ 4 := by
  have hn := hk.n
  rw [enmV]
  cases hf : (rng 0 vs.length).find? fun j => decide (0 < envV vs ow j h) with
  | none => simp only [Option.getD_none]; omega
  | some j =>
    have := rng_mem.1 (List.mem_of_find?_eq_some hf)
    simp only [Option.getD_some]; omega
theorem idx_lt' {P : Int → Bool} : ∀ (l : List Int) (i : Int), 0 ≤ i → 0 ≤ idxP P i l → idxP P i l < i + l.length
  | [], i, hi, h => by simp [idxP] at h
  | x :: l, i, hi, h => by
    rw [idxP] at h ⊢
    rw [List.length_cons]
    split
    · omega
    · rename_i hx
      rw [if_neg hx] at h
      have := idx_lt' l (i + 1) (by omega) h
      omega
theorem idx_lt {P : Int → Bool} {l : List Int} (h : 0 ≤ idxP P 0 l) : idxP P 0 l < l.length := by
  have := idx_lt' l 0 (Int.le_refl 0) h
  omega
theorem cal_bd (hk : DvOK vs m) : -1 ≤ calV vs ow ∧ calV vs ow ≤ 4 := by
  have hn := hk.n
  rw [calV]
  cases hf : (rng 0 vs.length).find? fun i => decide (enmV vs ow i = -1) with
  | none => simp only [Option.getD_none]; omega
  | some j =>
    have := rng_mem.1 (List.mem_of_find?_eq_some hf)
    simp only [Option.getD_some]; omega
def mpK (f : Int → Int) (ow : List Int) (k : Int) : List Int := (ow.take k.toNat).map f ++ ow.drop k.toNat
theorem mp_len (f : Int → Int) (ow : List Int) (k : Int) : (mpK f ow k).length = ow.length := by rw [mpK, List.length_append, List.length_map, List.length_take, List.length_drop]; omega
theorem mp_at {f : Int → Int} (h0 : 0 ≤ k) (h1 : k < ow.length) : ix 0 (mpK f ow k) k = ix 0 ow k := by
  have hl : ((ow.take k.toNat).map f).length = k.toNat := by rw [List.length_map, List.length_take]; omega
  rw [ix, ix, mpK, List.getD_eq_getElem?_getD, List.getD_eq_getElem?_getD, List.getElem?_append_right (by omega), hl, List.getElem?_drop]
  congr 2
  omega
theorem mp_set {f : Int → Int} (h0 : 0 ≤ k) (h1 : k < ow.length) : (mpK f ow k).set k.toNat (f (ix 0 ow k)) = mpK f ow (k + 1) := by
  have hl : ((ow.take k.toNat).map f).length = k.toNat := by rw [List.length_map, List.length_take]; omega
  have e : (k + 1).toNat = k.toNat + 1 := by omega
  have hd : ow.drop k.toNat = ix 0 ow k :: ow.drop (k.toNat + 1) := by
    rw [List.drop_eq_getElem_cons (by omega)]
    congr 1
    have := ix_get (d := (0 : Int)) h1 h0
    rw [List.getElem?_eq_getElem (by omega)] at this
    exact Option.some.inj this
  have ht : ow.take (k.toNat + 1) = ow.take k.toNat ++ [ix 0 ow k] := by
    rw [List.take_add_one]
    congr 1
    rw [ix_get (d := (0 : Int)) h1 h0]; rfl
  rw [mpK, mpK, e, List.set_append_right _ _ (by omega), hl, Nat.sub_self, hd, List.set_cons_zero, ht, List.map_append, List.append_assoc]
  rfl
theorem mp_keep {f : Int → Int} (h0 : 0 ≤ k) (h1 : k < ow.length) (hf : f (ix 0 ow k) = ix 0 ow k) : mpK f ow k = mpK f ow (k + 1) := by
  rw [← mp_set h0 h1, hf]
  refine (List.ext_getElem? fun j => ?_)
  rw [List.getElem?_set]
  split
  · rename_i hj
    subst hj
    have := mp_at (f := f) h0 h1
    rw [if_pos (by rw [mp_len]; omega), ← this, ix_get (d := (0 : Int)) (by rw [mp_len]; exact h1) h0]
  · rfl
theorem mp_end {f : Int → Int} (h : (ow.length : Int) ≤ k) : mpK f ow k = ow.map f := by rw [mpK, List.take_of_length_le (by omega), List.drop_eq_nil_of_le (by omega), List.append_nil]
theorem rg_end (h : rgR vs m n x ow = some res) (hx : m ≤ x) : ow = res := by
  cases n with
  | zero => cases h
  | succ n => rw [rgR, if_pos hx] at h; exact Option.some.inj h
theorem rg_turn (h : rgR vs m n x ow = some res) (hx : x < m) (hc : calV vs ow = -1) :
    ∃ l, wlkR vs ow 9 [] 0 = some l ∧ 0 ≤ idxP (eqI (enmV vs ow (ix 0 l (l.length - 1)))) 0 l ∧ rgR vs m (n - 1) x (turV vs ow l) = some res ∧ 0 < n := by
  cases n with
  | zero => cases h
  | succ n =>
    rw [rgR, if_neg (by omega), if_pos hc] at h
    cases hw : wlkR vs ow 9 [] 0 with
    | none => rw [hw] at h; cases h
    | some l =>
      rw [hw] at h
      simp only at h
      split at h
      · rename_i hi; exact ⟨l, rfl, hi, h, by omega⟩
      · cases h
theorem rg_put (h : rgR vs m n x ow = some res) (hx : x < m) (hc : ¬ calV vs ow = -1) : rgR vs m (n - 1) (x + 1) (ow.set x.toNat (calV vs ow)) = some res ∧ 0 < n := by
  cases n with
  | zero => cases h
  | succ n => rw [rgR, if_neg (by omega), if_neg hc] at h; exact ⟨h, by omega⟩
theorem tur_len (l : List Int) : (turV vs ow l).length = ow.length := by rw [turV, List.length_map]
def vs0 : List (List Int) := [[1, 5, 2], [5, 1, 2]]
theorem rg_0 : rgR vs0 3 50 0 (List.replicate (3 : Int).toNat (-1)) = some [1, 0, 0] := by decide +kernel
theorem dv_0 : DvOK vs0 3 := by
  refine ⟨by decide, by decide, ?_, ?_⟩
  · decide
  · decide
end Go.Proofs.YtodcppoglpfodaaGreatDoor

namespace Go.Proofs.YtodcppoglpfodaaGreatDoor
open Go.Wk
theorem good_0 : GoodM [[0, 2, 1, 3]] := good_m (by decide +kernel)
theorem gen_0 : (0 ≤ partT (tabV [[0, 2, 1, 3]]) ∧ partT (tabV [[0, 2, 1, 3]]) ≤ 100) ∧ 0 ≤ tnN (tabV [[0, 2, 1, 3]]) - teN (tabV [[0, 2, 1, 3]]) / 2 + (cycV (teN (tabV [[0, 2, 1, 3]])) (alngF (tabV [[0, 2, 1, 3]]))).length := by decide +kernel
end Go.Proofs.YtodcppoglpfodaaGreatDoor

namespace Go.Proofs.YtodcppoglpfodaaGreatDoor
open Go.Wk Go.RowKit Go.Lib
set_option linter.unusedVariables false
set_option linter.unusedSimpArgs false
theorem mixedVa_ : Tryz.prog.follows .mixedOrders = true := by kernel_rfl

theorem F38 {xv : Value} {xs : List Int} {Fr_xv : List (Option Nat)} {yv : Value} {ys : List Int} {Fr_yv : List (Option Nat)} {w : World} (h_xv : V (tSl (tI .i64)) xs xv Fr_xv w) (h_yv : V (tSl (tI .i64)) ys yv Fr_yv w) : Calls Tryz.prog 38 #[xv, yv] w (Ret w (fun r _ => r = .bool (decide (xs = ys)))) := by
  have a_xv := h_xv.any
  have l_xv := h_xv.len63
  have a_yv := h_yv.any
  have l_yv := h_yv.len63
  have hS := St.start0 w
  refine enterR Tryz.func38 rfl Tryz.ntmps38 Tryz.results38 rfl ?_
  refine W.seq ?_
  refine W.reg ?_
  refine Wx.rd (v := .bool false) (rd_assign rfl) rfl ?_
  refine Wx.nil ?_
  refine W.seq ?_
  refine W.seq ?_
  refine W.reg ?_
  refine Wx.rd (v := xv) (rd_move rfl) rfl ?_
  refine Wx.rd (v := .int .i64 (xs.length : Int)) (rd_lenV rfl (hS.arg a_xv) Tryz.underlying23) rfl ?_
  refine Wx.rd (v := yv) (rd_move rfl) rfl ?_
  refine Wx.rd (v := .int .i64 (ys.length : Int)) (rd_lenV rfl (hS.arg a_yv) Tryz.underlying23) rfl ?_
  refine Wx.rd (v := .bool (decide ((xs.length : Int) ≠ (ys.length : Int)))) (rd_neq rfl rfl) rfl ?_
  refine Wx.nil ?_
  refine W.condD rfl (fun c0 => ?_) (fun c0 => ?_)
  · -- yes
    refine W.seq ?_
    refine W.reg ?_
    refine Wx.rd (v := .bool false) (rd_assign rfl) rfl ?_
    refine Wx.nil ?_
    have e0_0 : (decide (xs = ys)) = false := by exact decide_eq_false (fun h : xs = ys => c0 (by rw [h]))
    exact W.ret ⟨.bool false, ResIs.one, hS.bel, (by rw [e0_0])⟩
  · -- no
    refine W.skip ?_
    refine W.seq ?_
    refine W.seq ?_
    refine W.reg ?_
    refine Wx.rd (v := xv) (rd_move rfl) rfl ?_
    refine Wx.rd (v := .int .i64 (xs.length : Int)) (rd_lenV rfl (hS.arg a_xv) Tryz.underlying23) rfl ?_
    refine Wx.rd (v := .int .i64 0) (rd_move rfl) rfl ?_
    refine Wx.nil ?_
    refine W.block ?_
    refine W.loop [4, 5, 13, 14, 15, 16, 17, 18, 19, 20, 21, 22, 23, 24, 25] (fun (k : Int) => [(13, .int .i64 k)]) (fun (k : Int) w' => St w [] w' [] ∧ 0 ≤ k ∧ k ≤ xs.length ∧ decide (xs.drop k.toNat = ys.drop k.toNat) = decide (xs = ys)) (fun (k : Int) => (xs.length - k).toNat) 0 ⟨rfl, trivial⟩ ⟨hS, (by first | omega | simp), (by first | omega | simp), (by simp)⟩ ?_
    rintro k u_2 w_1 ⟨hS, h0, h1, h2⟩
    refine W.seq ?_
    refine W.reg ?_
    refine Wx.rd (v := .bool (decide (k < (xs.length : Int)))) (rd_lss rfl rfl) rfl ?_
    refine Wx.nil ?_
    refine W.seq ?_
    refine W.condD rfl (fun c1 => ?_) (fun c1 => ?_)
    · -- yes
      refine W.skip ?_
      refine W.seq ?_
      refine W.block ?_
      refine W.seq ?_
      refine W.reg ?_
      refine Wx.rd (v := .int .i64 k) (rd_move rfl) rfl ?_
      refine Wx.rd (v := .int .i64 k) (rd_assign rfl) rfl ?_
      refine Wx.nil ?_
      refine W.seq ?_
      refine W.regQ mixedVa_ (by kernel_rfl) ?_
      refine Wx.rd (v := xv) (rd_move rfl) rfl ?_
      refine Wx.rd (v := .int .i64 k) (rd_move rfl) rfl ?_
      refine Wx.ex (rd_index 0 (hS.arg a_xv) rfl rfl Tryz.underlying23 Tryz.sizeOf3 (by first | omega | (simp only [List.length_set, List.length_append, List.length_cons, List.length_nil, List.length_replicate]; omega)) (by first | omega | (simp only [List.length_set, List.length_append, List.length_cons, List.length_nil, List.length_replicate]; omega))) rfl (fun p_3 hp_4 => ?_)
      refine Wx.rd (v := .int .i64 (ix 0 xs k)) (rd_loadI hp_4 rfl Tryz.isAgg3 Tryz.sizeOf3) rfl ?_
      have bd_5 := bd_i64 hp_4.inK
      refine Wx.rd (v := yv) (rd_move rfl) rfl ?_
      refine Wx.rd (v := .int .i64 k) (rd_move rfl) rfl ?_
      refine Wx.ex (rd_index 0 (hS.arg a_yv) rfl rfl Tryz.underlying23 Tryz.sizeOf3 (by first | omega | (simp only [List.length_set, List.length_append, List.length_cons, List.length_nil, List.length_replicate]; omega)) (by first | omega | (simp only [List.length_set, List.length_append, List.length_cons, List.length_nil, List.length_replicate]; omega))) rfl (fun p_6 hp_7 => ?_)
      refine Wx.rd (v := .int .i64 (ix 0 ys k)) (rd_loadI hp_7 rfl Tryz.isAgg3 Tryz.sizeOf3) rfl ?_
      have bd_8 := bd_i64 hp_7.inK
      refine Wx.rd (v := .bool (decide ((ix 0 xs k) ≠ (ix 0 ys k)))) (rd_neq rfl rfl) rfl ?_
      refine Wx.nilQ (fun w_9 hx_10 => ?_)
      have hS := hS.ext hx_10
      refine W.condD rfl (fun c2 => ?_) (fun c2 => ?_)
      · -- yes
        refine W.seq ?_
        refine W.reg ?_
        refine Wx.rd (v := .bool false) (rd_assign rfl) rfl ?_
        refine Wx.nil ?_
        have he : ¬ ix 0 xs k = ix 0 ys k := fun hh => by rw [hh] at c2; omega
        have e1_0 : (decide (xs = ys)) = false := by rw [← h2, drop_ix (d := 0) h0 c1, drop_ix (d := 0) (xs := ys) h0 (by omega)]; simp [he]
        exact W.ret ⟨.bool false, ResIs.one, hS.bel, (by rw [e1_0])⟩
      · -- no
        refine W.skip ?_
        refine W.reg ?_
        refine Wx.rd (v := .int .i64 (k + 1)) (rd_add rfl rfl (in_i64 (by omega) (by omega))) rfl ?_
        refine Wx.rd (v := .int .i64 (k + 1)) (rd_move rfl) rfl ?_
        refine Wx.nil ?_
        have he : ix 0 xs k = ix 0 ys k := by omega
        refine ⟨k + 1, (by show (xs.length - (k + 1)).toNat < (xs.length - k).toNat; omega), ?_, ?_, Out.look rfl Out.self⟩
        · exact ⟨hS, (by first | omega | assumption), (by first | omega | assumption), (by rw [← h2, drop_ix (d := 0) h0 c1, drop_ix (d := 0) (xs := ys) h0 (by omega)]; simp [he])⟩
        · exact ⟨rfl, trivial⟩
    · -- no
      refine W.exit rfl ?_
      refine W.seq ?_
      refine W.reg ?_
      refine Wx.rd (v := .bool true) (rd_assign rfl) rfl ?_
      refine Wx.nil ?_
      have e2_0 : (decide (xs = ys)) = true := by rw [← h2, drop_end (by omega), drop_end (xs := ys) (by omega)]; simp
      exact W.ret ⟨.bool true, ResIs.one, hS.bel, (by rw [e2_0])⟩

theorem F37 {lv : Value} {l : List Int} {O : List (Option Nat)} {w : World} (h_lv : V (tSl (tI .i64)) l lv O w) (hO : ∀ b, some b ∈ O → b < w.heap.size) : Calls Tryz.prog 37 #[lv] w (Ret w (fun r w' => ∃ rv, r = rv ∧ V (tSl (tI .i64)) l rv O w')) := by
  have a_lv := h_lv
  have l_lv := h_lv.len63
  have hS := St.start w O hO
  refine enterR Tryz.func37 rfl Tryz.ntmps37 Tryz.results37 rfl ?_
  refine W.seq ?_
  refine W.reg ?_
  refine Wx.rd (v := (.slice none 0 0)) (rd_assign rfl) rfl ?_
  refine Wx.nil ?_
  refine W.seq ?_
  refine W.reg ?_
  refine Wx.rd (v := lv) (rd_move rfl) rfl ?_
  refine Wx.rd (v := lv) (rd_assign rfl) rfl ?_
  refine Wx.nil ?_
  exact W.ret ⟨lv, ResIs.one, hS.bel, ⟨lv, rfl, (V.mv (hS.arg a_lv) (.less (fun _ h => List.mem_append.2 (.inr h))))⟩⟩
end Go.Proofs.YtodcppoglpfodaaGreatDoor

namespace Go.Proofs.YtodcppoglpfodaaGreatDoor.C3
open Go.Wk

/-! ### both -/
def hasL : List Int → Int → Bool
  | [], _ => false
  | x :: xs, n => if x = n then true else hasL xs n

def numE (L : Int) : Int → List Int → Int
  | _, [] => 0
  | last, n :: ns => if n < 0 ∨ L ≤ n then 2 else if n ≤ last then 7 else numE L n ns
def formE (L : Int) (f : List Int) : Int := if f.length = 0 then 4 else numE L (-1) f
def formsE (L : Int) : List (List Int) → Int
  | [] => 0
  | f :: fs => if formE L f = 0 then formsE L fs else formE L f
def checkE (L : Int) (fs : List (List Int)) : Int := if L < 1 ∨ 7 < L then 1 else if 10 < (fs.length : Int) then 3 else formsE L fs

/-! ### the package -/
def withS (s n : Int) : Int := bits .or .u8 s (IntKind.u8.wrap (1 * 2 ^ min n.toNat IntKind.u8.bits))
def hasS (s n : Int) : Bool := decide (bits .and .u8 (s / 2 ^ min n.toNat IntKind.u8.bits) 1 = 1)
def setF : Int → List Int → Int
  | s, [] => s
  | s, n :: ns => setF (withS s n) ns
def setsF (fs : List (List Int)) : List Int := fs.map (setF 0)
def openL (L : Int) (fs : List (List Int)) : Int := if checkE L fs = 0 then L else 0
def openS (L : Int) (fs : List (List Int)) : List Int := if checkE L fs = 0 then setsF fs else []

theorem setF_snoc : ∀ (ns : List Int) (s n : Int), setF s (ns ++ [n]) = withS (setF s ns) n
  | [], _, _ => rfl
  | m :: ns, s, n => by simp [setF, setF_snoc ns]

theorem withS_in (s n : Int) : InK .u8 (withS s n) := wrap_inK _ _
/-! ### the statements' own -/
/-! ### the package: which layer may follow, and in how many ways -/
def badS (p n f : Int) : Bool := (decide (bits .and .u8 f p ≠ 0) && decide (bits .andNot .u8 f p ≠ 0)) && !hasS f n
def idxL (P : Int → Bool) : Int → List Int → Int
  | _, [] => -1
  | i, f :: fs => if P f = true then i else idxL P (i + 1) fs
theorem idxL_any (P : Int → Bool) : ∀ (fs : List Int) (i : Int), 0 ≤ i → decide (0 ≤ idxL P i fs) = fs.any P
  | [], _, _ => by simp [idxL]
  | f :: fs, i, hi => by
    rw [idxL]
    split
    · rename_i h; simp [h, hi]
    · rename_i h; rw [idxL_any P fs (i + 1) (by omega)]; simp [h]
def mayB (fs : List Int) (p n : Int) : Bool := !hasS p n && !fs.any (badS p n)
def orI (p n : Int) : Int := bits .or .i64 p (IntKind.i64.wrap (1 * 2 ^ min n.toNat IntKind.i64.bits))
def powI (L : Int) : Int := 2 ^ L.toNat
def popN (q : Nat) : Nat := q % 2 + q / 2 % 2 + q / 4 % 2 + q / 8 % 2 + q / 16 % 2 + q / 32 % 2 + q / 64 % 2
def sumW : Nat → (Int → Int) → Int
  | 0, _ => 0
  | k + 1, f => sumW k f + f k
def ways (L : Nat) (fs : List Int) : Nat → Int → Int
  | 0, _ => 1
  | m + 1, q => sumW L fun n => if mayB fs q n = true then ways L fs m (orI q n) else 0
def endE (L : Nat) (fs : List Int) (q : Int) : Int := ways L fs (L - popN q.toNat) q
def sumE (L : Nat) (fs : List Int) (p : Int) (k : Nat) : Int := sumW k fun n => if mayB fs p n = true then endE L fs (orI p n) else 0
def fillE (L : Nat) (fs : List Int) (p : Int) : List Int := (List.range (2 ^ L)).map fun (q : Nat) => if p < (q : Int) then endE L fs q else 0
def endT (L : Int) (fs : List Int) : List Int := fillE L.toNat fs (-1)
def countT (L : Int) (fs : List Int) : Int := endE L.toNat fs 0

theorem powI_bd {L : Int} (h0 : 1 ≤ L) (h1 : L ≤ 7) : 2 ≤ powI L ∧ powI L ≤ 128 := by
  have : L = 1 ∨ L = 2 ∨ L = 3 ∨ L = 4 ∨ L = 5 ∨ L = 6 ∨ L = 7 := by omega
  rcases this with h | h | h | h | h | h | h <;> subst h <;> exact ⟨by decide, by decide⟩
theorem shl_powI {L : Int} (h0 : 0 ≤ L) (h1 : L ≤ 10) : IntKind.i64.wrap (1 * 2 ^ min L.toNat IntKind.i64.bits) = powI L := by
  have : L = 0 ∨ L = 1 ∨ L = 2 ∨ L = 3 ∨ L = 4 ∨ L = 5 ∨ L = 6 ∨ L = 7 ∨ L = 8 ∨ L = 9 ∨ L = 10 := by omega
  rcases this with h | h | h | h | h | h | h | h | h | h | h <;> subst h <;> decide +kernel
theorem powI_nat (L : Int) : powI L = ((2 ^ L.toNat : Nat) : Int) := by simp [powI]
theorem fillE_len (L : Nat) (fs : List Int) (p : Int) : (fillE L fs p).length = 2 ^ L := by simp [fillE]
theorem fillE_ix {L : Nat} {fs : List Int} {p q : Int} (h0 : 0 ≤ q) (h1 : q < 2 ^ L) : ix 0 (fillE L fs p) q = if p < q then endE L fs q else 0 := by
  have hq : q.toNat < 2 ^ L := by
    have : ((2 ^ L : Nat) : Int) = (2 : Int) ^ L := by simp
    omega
  have e : ((q.toNat : Nat) : Int) = q := by omega
  simp [ix, fillE, List.getD_eq_getElem?_getD, hq, e]

theorem or_facts : ∀ p < 128, ∀ n < 7, hasS (p : Nat) (n : Nat) = false → (p : Int) < orI (p : Nat) (n : Nat) ∧ orI (p : Nat) (n : Nat) < 128 ∧ popN (orI (p : Nat) (n : Nat)).toNat = popN p + 1 := by decide +kernel
theorem or_lt : ∀ L < 8, ∀ p < 2 ^ L, ∀ n < L, orI (p : Nat) (n : Nat) < ((2 ^ L : Nat) : Int) := by decide +kernel
theorem pop_lt : ∀ L < 8, ∀ p < 2 ^ L, p + 1 < 2 ^ L → popN p < L := by decide +kernel
theorem pop_full : ∀ L < 8, popN (2 ^ L - 1) = L := by decide +kernel

theorem mayB_not {fs : List Int} {p n : Int} (h : mayB fs p n = true) : hasS p n = false := by
  simp only [mayB, Bool.and_eq_true, Bool.not_eq_true'] at h
  exact h.1
theorem orI_facts {p n : Int} (h0 : 0 ≤ p) (h1 : p < 128) (h2 : 0 ≤ n) (h3 : n < 7) (h : hasS p n = false) : p < orI p n ∧ orI p n < 128 ∧ popN (orI p n).toNat = popN p.toNat + 1 := by
  obtain ⟨p, rfl⟩ := Int.eq_ofNat_of_zero_le h0
  obtain ⟨n, rfl⟩ := Int.eq_ofNat_of_zero_le h2
  exact or_facts p (by omega) n (by omega) h
theorem orI_lt {L p n : Int} (hL0 : 1 ≤ L) (hL : L ≤ 7) (h0 : 0 ≤ p) (h1 : p < powI L) (h2 : 0 ≤ n) (h3 : n < L) : orI p n < powI L := by
  obtain ⟨p, rfl⟩ := Int.eq_ofNat_of_zero_le h0
  obtain ⟨n, rfl⟩ := Int.eq_ofNat_of_zero_le h2
  rw [powI_nat] at h1 ⊢
  exact or_lt L.toNat (by omega) p (by omega) n (by omega)

theorem sumW_congr {f g : Int → Int} : ∀ (k : Nat), (∀ n : Nat, n < k → f n = g n) → sumW k f = sumW k g
  | 0, _ => rfl
  | k + 1, h => by rw [sumW, sumW, sumW_congr k (fun n hn => h n (by omega)), h k (by omega)]
theorem sumW_bd {f : Int → Int} {B : Int} : ∀ (k : Nat), (∀ n : Nat, n < k → 0 ≤ f n ∧ f n ≤ B) → 0 ≤ sumW k f ∧ sumW k f ≤ k * B
  | 0, _ => by simp [sumW]
  | k + 1, h => by
    have h1 := sumW_bd k (fun n hn => h n (by omega))
    have h2 := h k (by omega)
    rw [sumW]
    have : ((k + 1 : Nat) : Int) * B = k * B + B := by rw [Int.natCast_add, Int.add_mul]; simp
    omega
theorem ways_bd {L : Nat} {fs : List Int} (hL : L ≤ 7) : ∀ (m : Nat) (q : Int), 0 ≤ ways L fs m q ∧ ways L fs m q ≤ 7 ^ m
  | 0, _ => by simp [ways]
  | m + 1, q => by
    have h7 : (0 : Int) ≤ 7 ^ m := Int.pow_nonneg (by decide)
    have := sumW_bd (f := fun n => if mayB fs q n = true then ways L fs m (orI q n) else 0) (B := 7 ^ m) L (fun n _ => by
      have := ways_bd (fs := fs) hL m (orI q n)
      split <;> omega)
    rw [ways]
    refine ⟨this.1, Int.le_trans this.2 ?_⟩
    rw [Int.pow_succ, Int.mul_comm]
    exact Int.mul_le_mul_of_nonneg_left (by omega) h7
theorem pow7 : ∀ m ≤ 7, (7 : Int) ^ m ≤ 823543 := by decide +kernel
theorem endE_bd {L : Nat} {fs : List Int} (hL : L ≤ 7) (q : Int) : 0 ≤ endE L fs q ∧ endE L fs q ≤ 823543 := by
  have := ways_bd (fs := fs) hL (L - popN q.toNat) q
  have h7 := pow7 (L - popN q.toNat) (by omega)
  exact ⟨this.1, Int.le_trans this.2 h7⟩
theorem sumE_bd {L : Nat} {fs : List Int} (hL : L ≤ 7) (p : Int) {k : Nat} (hk : k ≤ 7) : 0 ≤ sumE L fs p k ∧ sumE L fs p k ≤ 5764801 := by
  have := sumW_bd (f := fun n => if mayB fs p n = true then endE L fs (orI p n) else 0) (B := 823543) k (fun n _ => by
    have := endE_bd (fs := fs) hL (orI p n)
    split <;> omega)
  unfold sumE
  omega
theorem endE_full {L : Nat} {fs : List Int} (hL : L ≤ 7) : endE L fs ((2 ^ L : Nat) - 1) = 1 := by
  have h2 : 1 ≤ 2 ^ L := Nat.one_le_two_pow
  rw [endE, show ((((2 ^ L : Nat) : Int) - 1)).toNat = 2 ^ L - 1 by omega, pop_full L (by omega), Nat.sub_self, ways]
theorem endE_step {L : Nat} {fs : List Int} (hL : L ≤ 7) {p : Int} (h0 : 0 ≤ p) (h1 : p + 1 < (2 ^ L : Nat)) : endE L fs p = sumE L fs p L := by
  have h2 : 2 ^ L ≤ 128 := Nat.pow_le_pow_right (n := 2) (i := L) (j := 7) (by decide) hL
  have hp := pop_lt L (by omega) p.toNat (by omega) (by omega)
  obtain ⟨m, hm⟩ : ∃ m, L - popN p.toNat = m + 1 := ⟨L - popN p.toNat - 1, by omega⟩
  rw [endE, hm, ways, sumE]
  refine sumW_congr L fun n hn => ?_
  split
  · rename_i hmay
    have hf := orI_facts h0 (by omega) (Int.natCast_nonneg n) (by omega) (mayB_not hmay)
    rw [endE, hf.2.2, show L - (popN p.toNat + 1) = m by omega]
  · rfl

theorem set_ix_self {xs : List Int} {p s : Int} (h0 : 0 ≤ p) (h1 : p < xs.length) : ix 0 (xs.set p.toNat s) p = s := by
  simp [ix, List.getD_eq_getElem?_getD, (by omega : p.toNat < xs.length)]
theorem set_ix_ne {xs : List Int} {p q s : Int} (h0 : 0 ≤ p) (h1 : 0 ≤ q) (h : p ≠ q) : ix 0 (xs.set p.toNat s) q = ix 0 xs q := by
  rw [ix, ix, List.getD_eq_getElem?_getD, List.getD_eq_getElem?_getD, List.getElem?_set_ne (by omega)]

theorem fill_start {L : Nat} {fs : List Int} (hL : L ≤ 7) {m : Int} (h : m = (2 ^ L : Nat) - 1) : (List.replicate (2 ^ L) 0).set m.toNat 1 = fillE L fs (m - 1) := by
  have h2 : 1 ≤ 2 ^ L := Nat.one_le_two_pow
  refine List.ext_getElem (by simp [fillE]) fun i h1 _ => ?_
  have hi : i < 2 ^ L := by simpa using h1
  rw [List.getElem_set]
  simp only [fillE, List.getElem_map, List.getElem_range, List.getElem_replicate]
  by_cases hm : m.toNat = i
  · have : (i : Int) = (2 ^ L : Nat) - 1 := by omega
    rw [if_pos hm, if_pos (by omega), this, endE_full hL]
  · rw [if_neg hm, if_neg (by omega)]
theorem fill_next {L : Nat} {fs : List Int} (hL : L ≤ 7) {p : Int} (h0 : 0 ≤ p) (h1 : p + 1 < (2 ^ L : Nat)) : (fillE L fs p).set p.toNat (sumE L fs p L) = fillE L fs (p - 1) := by
  refine List.ext_getElem (by simp [fillE]) fun i h2 _ => ?_
  have hi : i < 2 ^ L := by simpa [fillE] using h2
  rw [List.getElem_set]
  simp only [fillE, List.getElem_map, List.getElem_range]
  by_cases hm : p.toNat = i
  · have : (i : Int) = p := by omega
    rw [if_pos hm, if_pos (by omega), this, endE_step hL h0 h1]
  · rw [if_neg hm]
    by_cases hlt : p < (i : Int)
    · rw [if_pos hlt, if_pos (by omega)]
    · rw [if_neg hlt, if_neg (by omega)]
theorem fill_set0 {L : Nat} {fs : List Int} {p : Int} (h0 : 0 ≤ p) : (fillE L fs p).set p.toNat (sumE L fs p 0) = fillE L fs p := by
  refine List.ext_getElem (by simp [fillE]) fun i h2 _ => ?_
  rw [List.getElem_set]
  simp only [fillE, List.getElem_map, List.getElem_range]
  by_cases hm : p.toNat = i
  · have : (i : Int) = p := by omega
    rw [if_pos hm, if_neg (by omega)]; rfl
  · rw [if_neg hm]
theorem sumE_succ {L : Nat} {fs : List Int} {p k : Int} (hk : 0 ≤ k) : sumE L fs p (k + 1).toNat = sumE L fs p k.toNat + (if mayB fs p k = true then endE L fs (orI p k) else 0) := by
  have e : (k + 1).toNat = k.toNat + 1 := by omega
  have e2 : ((k.toNat : Nat) : Int) = k := by omega
  rw [e, sumE, sumW, e2]; rfl

theorem and_mask {y : Int} (h0 : 1 ≤ y) (h1 : y ≤ 7) : bits .and .u64 y 4294967295 = y ∧ y / 2 ^ min (32 : Int).toNat IntKind.u64.bits = 0 := by
  have : y = 1 ∨ y = 2 ∨ y = 3 ∨ y = 4 ∨ y = 5 ∨ y = 6 ∨ y = 7 := by omega
  rcases this with h | h | h | h | h | h | h <;> subst h <;> decide +kernel

/-! ### the package: places -/
theorem openL_ok {L : Int} {fs : List (List Int)} (h : checkE L fs = 0) : openL L fs = L ∧ openS L fs = setsF fs ∧ 1 ≤ L ∧ L ≤ 7 ∧ (fs.length : Int) ≤ 10 := by
  refine ⟨by simp [openL, h], by simp [openS, h], ?_⟩
  simp only [checkE] at h
  split at h
  · cases h
  · split at h
    · cases h
    · omega
theorem rep_first {a : Int} {n : Nat} (h : 1 ≤ n) : List.take (List.replicate n (0 : Int)).length [a] ++ List.drop (min [a].length (List.replicate n (0 : Int)).length) (List.replicate n 0) = List.replicate 1 a ++ List.replicate (n - 1) 0 := by
  obtain ⟨m, rfl⟩ : ∃ m, n = m + 1 := ⟨n - 1, by omega⟩
  simp [List.replicate_succ]
theorem rep_next {a b n : Int} (h1 : 1 ≤ b) (h2 : b < n) :
    List.take (b.toNat * 1) (List.replicate b.toNat a ++ List.replicate (n.toNat - b.toNat) 0) ++
      List.take ((List.replicate b.toNat a ++ List.replicate (n.toNat - b.toNat) 0).length - b.toNat) (List.take b.toNat (List.replicate b.toNat a ++ List.replicate (n.toNat - b.toNat) 0)) ++
      List.drop (b.toNat * 1 + min (List.take b.toNat (List.replicate b.toNat a ++ List.replicate (n.toNat - b.toNat) 0)).length ((List.replicate b.toNat a ++ List.replicate (n.toNat - b.toNat) 0).length - b.toNat)) (List.replicate b.toNat a ++ List.replicate (n.toNat - b.toNat) 0) =
    List.replicate (min (b + b) n).toNat a ++ List.replicate (n.toNat - (min (b + b) n).toNat) 0 := by
  have e1 : List.take b.toNat (List.replicate b.toNat a ++ List.replicate (n.toNat - b.toNat) 0) = List.replicate b.toNat a := by
    rw [List.take_append_of_le_length (by simp)]; simp
  have e2 : (List.replicate b.toNat a ++ List.replicate (n.toNat - b.toNat) (0 : Int)).length = n.toNat := by simp; omega
  rw [Nat.mul_one, e1, e2, List.take_replicate, List.length_replicate, List.replicate_append_replicate]
  rw [List.drop_append, List.drop_eq_nil_of_le (by simp), List.nil_append, List.drop_replicate, List.length_replicate]
  congr 2 <;> omega
end Go.Proofs.YtodcppoglpfodaaGreatDoor.C3

namespace Go.Proofs.YtodcppoglpfodaaGreatDoor.C3
open Go.Wk

/-! ### the first order -/
theorem with_or : ∀ p < 128, ∀ n < 7, withS (p : Nat) (n : Nat) = orI (p : Nat) (n : Nat) := by decide +kernel
theorem withS_lt {L p n : Int} (hL0 : 1 ≤ L) (hL : L ≤ 7) (h0 : 0 ≤ p) (h1 : p < powI L) (h2 : 0 ≤ n) (h3 : n < L) : withS p n < powI L ∧ 0 ≤ withS p n ∧ withS p n = orI p n := by
  have h7 := powI_bd hL0 hL
  have h := orI_lt hL0 hL h0 h1 h2 h3
  have hi := bd_u8 (withS_in p n)
  obtain ⟨p, rfl⟩ := Int.eq_ofNat_of_zero_le h0
  obtain ⟨n, rfl⟩ := Int.eq_ofNat_of_zero_le h2
  have e := with_or p (by omega) n (by omega)
  exact ⟨by rw [e]; exact h, hi.1, e⟩
def pickF (L : Int) (ss : List Int) (q : Int) : Nat → Option Int
  | 0 => none
  | m + 1 => if mayB ss q (L - (m + 1)) = true ∧ 0 < ix 0 (endT L ss) (withS q (L - (m + 1))) then some (L - (m + 1)) else pickF L ss q m
def firstG (L : Int) (ss : List Int) : Nat → Int → List Int → List Int
  | 0, _, out => out
  | m + 1, q, out => match pickF L ss q L.toNat with
    | some n => firstG L ss m (withS q n) (out ++ [n])
    | none => firstG L ss m q out
def firstE (L : Int) (fs : List (List Int)) : Int := if checkE L fs ≠ 0 then checkE L fs else if countT L (setsF fs) = 0 then 12 else 0
def firstL (L : Int) (fs : List (List Int)) : List Int := if firstE L fs = 0 then firstG L (setsF fs) L.toNat 0 [] else []
theorem endT_len (L : Int) (ss : List Int) : ((endT L ss).length : Int) = powI L := by rw [endT, fillE_len, powI_nat]
theorem endT0 {L : Int} (ss : List Int) (h0 : 1 ≤ L) (h7 : L ≤ 7) : ix 0 (endT L ss) 0 = countT L ss := by
  have := powI_bd h0 h7
  rw [endT, fillE_ix (by omega) (by have := powI_nat L; rw [powI] at this; rw [powI] at *; omega), if_pos (by omega), countT]

/-! ### pairs -/
/-! ### layers reached -/
/-! ### three layers -/
/-! ### the fewest forms -/
end Go.Proofs.YtodcppoglpfodaaGreatDoor.C3

namespace Go.Proofs.YtodcppoglpfodaaGreatDoor.C3
open Go.Wk

theorem hasL_mem : ∀ (l : List Int) (x : Int), hasL l x = true ↔ x ∈ l
  | [], x => by simp [hasL]
  | y :: l, x => by
    rw [hasL]
    split
    · rename_i h; simp [h]
    · rename_i h
      rw [hasL_mem l x, List.mem_cons]
      exact ⟨.inr, fun h' => h'.resolve_left (fun e => h e.symm)⟩

/-! ### runs, and orders that fit -/
/-! ### all orders -/
/-! ### chains -/
theorem ix_app {met zs : List Int} {i : Int} (h0 : 0 ≤ i) (h : i < met.length) : ix 0 (met ++ zs) i = ix 0 met i := by
  rw [ix, ix, List.getD_eq_getElem?_getD, List.getD_eq_getElem?_getD, List.getElem?_append_left (by omega)]
/-! ### an order's error, gaps and dates -/
/-! ### what the statements say -/
end Go.Proofs.YtodcppoglpfodaaGreatDoor.C3

namespace Go.Proofs.YtodcppoglpfodaaGreatDoor.C3
open Go.Wk

/-! ### numbers in ascending order -/
def up (n : Int) : Nat → List Int
  | 0 => []
  | k + 1 => (n - (k + 1)) :: up n k
end Go.Proofs.YtodcppoglpfodaaGreatDoor.C3

namespace Go.Proofs.YtodcppoglpfodaaGreatDoor.C3
open Go.Wk

/-! ### forms left out, by bits -/
/-! ### a function that is called with each order: what it keeps is some objects, of which something holds -/
end Go.Proofs.YtodcppoglpfodaaGreatDoor.C3

namespace Go.Proofs.YtodcppoglpfodaaGreatDoor.C3
open Go.Wk

/-! ### labels -/
/-! ### all three layers -/
end Go.Proofs.YtodcppoglpfodaaGreatDoor.C3

namespace Go.Proofs.YtodcppoglpfodaaGreatDoor.C3
open Go.Wk

theorem ix_mem {xs : List Int} {j : Int} (h0 : 0 ≤ j) (h : j < xs.length) : ix 0 xs j ∈ xs := List.mem_of_getElem? (ix_get h h0)
/-! ### orders by numbers -/
/-! ### turned round -/
theorem ext_ix {xs ys : List Int} (hl : xs.length = ys.length) (h : ∀ q : Int, 0 ≤ q → q < xs.length → ix 0 xs q = ix 0 ys q) : xs = ys := by
  refine List.ext_getElem hl fun i h1 h2 => ?_
  have := h i (by omega) (by omega)
  rwa [ix, ix, List.getD_eq_getElem?_getD, List.getD_eq_getElem?_getD, Int.toNat_natCast, List.getElem?_eq_getElem h1, List.getElem?_eq_getElem h2] at this
theorem ix_set {xs : List Int} {j q : Int} {x : Int} (h0 : 0 ≤ j) (h1 : j < xs.length) (q0 : 0 ≤ q) : ix 0 (xs.set j.toNat x) q = if q = j then x else ix 0 xs q := by
  rw [ix, ix, List.getD_eq_getElem?_getD, List.getD_eq_getElem?_getD, List.getElem?_set]
  by_cases hq : q = j
  · subst hq
    rw [if_pos rfl, if_pos rfl, if_pos (by omega)]; rfl
  · rw [if_neg hq, if_neg (by omega)]
/-! ### what StyleGaps says -/
/-! ### a function that is called with each order, whose numbers are known -/
/-! ### what StyleBeside keeps of the orders -/
/-! ### what StyleMore says -/
/-! ### short lists, sorted -/
/-! ### what StyleNamed says -/
end Go.Proofs.YtodcppoglpfodaaGreatDoor.C3

namespace Go.Proofs.YtodcppoglpfodaaGreatDoor
open Go.Wk Go.RowKit Go.Lib
set_option linter.unusedVariables false
set_option linter.unusedSimpArgs false
theorem foSa_213_0 : fldOff Tryz.prog 213 0 = some 0 := by kernel_rfl
theorem foSa_213_1 : fldOff Tryz.prog 213 1 = some 1 := by kernel_rfl
theorem foSa_232_1 : fldOff Tryz.prog 232 1 = some 1 := by kernel_rfl
theorem elSa_230 : ElemI Tryz.prog 230 236 (.int .u8 0) 1 1 := ElemI.of Tryz.underlying230 (by kernel_rfl) (by first | rfl | kernel_rfl) (by decide)

theorem C3.F138 {s : Int} {n : Int} {w : World} (i_s : InK .u8 s) (i_n : InK .i64 n) (p_n : 0 ≤ n) : Calls Tryz.prog 138 #[.int .u8 s, .int .i64 n] w (Ret w (fun r _ => r = .int .u8 (withS s n))) := by
  have b_n := bd_i64 i_n
  have b_s := bd_u8 i_s
  have hS := St.start0 w
  refine enterR Tryz.func138 rfl Tryz.ntmps138 Tryz.results138 rfl ?_
  refine W.seq ?_
  refine W.reg ?_
  refine Wx.rd (v := .int .u8 0) (rd_assign rfl) rfl ?_
  refine Wx.nil ?_
  refine W.seq ?_
  refine W.reg ?_
  refine Wx.rd (v := .int .u8 s) (rd_move rfl) rfl ?_
  refine Wx.rd (v := .int .i64 n) (rd_move rfl) rfl ?_
  refine Wx.rd (v := .int .u8 (IntKind.u8.wrap (1 * 2 ^ min n.toNat (IntKind.u8).bits))) (rd_shl rfl rfl (by omega)) rfl ?_
  have bd_1 := bd_u8 (wrap_inK .u8 (1 * 2 ^ min n.toNat (IntKind.u8).bits))
  refine Wx.rd (v := .int .u8 (bits .or .u8 s (IntKind.u8.wrap (1 * 2 ^ min n.toNat (IntKind.u8).bits)))) (rd_or rfl rfl) rfl ?_
  have bd_2 := bd_u8 (bits_in .or .u8 s (IntKind.u8.wrap (1 * 2 ^ min n.toNat (IntKind.u8).bits)))
  refine Wx.rd (v := .int .u8 (bits .or .u8 s (IntKind.u8.wrap (1 * 2 ^ min n.toNat (IntKind.u8).bits)))) (rd_assign rfl) rfl ?_
  refine Wx.nil ?_
  have e0_0 : (withS s n) = (bits .or .u8 s (IntKind.u8.wrap (1 * 2 ^ min n.toNat (IntKind.u8).bits)) : Int) := by rfl
  exact W.ret ⟨.int .u8 (bits .or .u8 s (IntKind.u8.wrap (1 * 2 ^ min n.toNat (IntKind.u8).bits))), ResIs.one, hS.bel, (by rw [e0_0])⟩

theorem C3.F146 {s : Int} {n : Int} {w : World} (i_s : InK .u8 s) (i_n : InK .i64 n) (p_n : 0 ≤ n) : Calls Tryz.prog 146 #[.int .u8 s, .int .i64 n] w (Ret w (fun r _ => r = .bool (hasS s n))) := by
  have b_n := bd_i64 i_n
  have b_s := bd_u8 i_s
  have hS := St.start0 w
  refine enterR Tryz.func146 rfl Tryz.ntmps146 Tryz.results146 rfl ?_
  refine W.seq ?_
  refine W.reg ?_
  refine Wx.rd (v := .bool false) (rd_assign rfl) rfl ?_
  refine Wx.nil ?_
  refine W.seq ?_
  refine W.reg ?_
  refine Wx.rd (v := .int .u8 s) (rd_move rfl) rfl ?_
  refine Wx.rd (v := .int .i64 n) (rd_move rfl) rfl ?_
  refine Wx.rd (v := .int .u8 (s / 2 ^ min n.toNat (IntKind.u8).bits)) (rd_shr rfl rfl (by omega)) rfl ?_
  refine Wx.rd (v := .int .u8 (bits .and .u8 (s / 2 ^ min n.toNat (IntKind.u8).bits) 1)) (rd_and rfl rfl) rfl ?_
  have bd_1 := bd_u8 (bits_in .and .u8 (s / 2 ^ min n.toNat (IntKind.u8).bits) 1)
  refine Wx.rd (v := .bool (decide ((bits .and .u8 (s / 2 ^ min n.toNat (IntKind.u8).bits) 1) = 1))) (rd_eql rfl rfl) rfl ?_
  refine Wx.rd (v := .bool (decide ((bits .and .u8 (s / 2 ^ min n.toNat (IntKind.u8).bits) 1) = 1))) (rd_assign rfl) rfl ?_
  refine Wx.nil ?_
  have e0_0 : (hasS s n) = (decide ((bits .and .u8 (s / 2 ^ min n.toNat (IntKind.u8).bits) 1) = 1)) := by rfl
  exact W.ret ⟨.bool (decide ((bits .and .u8 (s / 2 ^ min n.toNat (IntKind.u8).bits) 1) = 1)), ResIs.one, hS.bel, (by rw [e0_0])⟩

theorem C3.F135 {L : Int} {fv : Value} {fs : List (List Int)} {O : List (Option Nat)} {w : World} (i_L : InK .i64 L) (h_fv : V (tSl (tSl (tI .i64))) fs fv O w) (hO : ∀ b, some b ∈ O → b < w.heap.size) : Calls Tryz.prog 135 #[.agg #[.int .i64 L, fv]] w (Ret w (fun r w' => ∃ sv, r = .tuple #[.agg #[.int .i64 (openL L fs), sv], .int .i64 (checkE L fs)] ∧ V (tSl (tI .u8)) (openS L fs) sv O w')) := by
  have b_L := bd_i64 i_L
  have a_fv := h_fv
  have l_fv := h_fv.len63
  have hS := St.start w O hO
  refine enterR Tryz.func135 rfl Tryz.ntmps135 Tryz.results135 rfl ?_
  refine W.seq ?_
  refine W.reg ?_
  refine Wx.box (cs := [.int .i64 L, fv]) hS rfl rfl rfl (fun g_1 w_2 hx_4 hb_3 hS => ?_)
  refine Wx.alloc (cs := [.int .i64 0, (.slice none 0 0)]) hS Tryz.zeroValue232 rfl rfl (fun g_5 w_6 hx_8 hb_7 hS => ?_)
  refine Wx.rd (v := .int .i64 0) (rd_assign rfl) rfl ?_
  refine Wx.nil ?_
  refine W.seq ?_
  refine W.block ?_
  refine W.seq ?_
  refine W.reg ?_
  refine Wx.rd (v := .pointer (some ⟨g_1, 0, none⟩)) (rd_fieldAddr rfl foSa_213_0) rfl ?_
  refine Wx.rd (v := .int .i64 L) (rd_loadX hS 1 rfl rfl rfl Tryz.isAgg3) rfl ?_
  refine Wx.rd (v := .bool (decide (L < 1))) (rd_lss rfl rfl) rfl ?_
  refine Wx.rd (v := .bool (decide (L < 1))) (rd_move rfl) rfl ?_
  refine Wx.cut (X := Unit) 4 [16, 17, 18, 19] (fun _ => [(19, .bool (decide (L < 1) || decide (7 < L)))]) (fun _ w' => St w O w' [.box g_5 232 [.int .i64 0, (.slice none 0 0)], .box g_1 213 [.int .i64 L, fv]]) ?_ ?_
  · rcases Bool.eq_false_or_eq_true (decide (L < 1)) with g_9 | g_9
    · -- True
      have gp_10 := of_decide_eq_true g_9
      refine Wx.gnoB rfl rfl (congrArg Value.bool g_9) rfl rfl ?_
      refine Wx.gnoB rfl rfl (congrArg Value.bool g_9) rfl rfl ?_
      refine Wx.gnoB rfl rfl (congrArg Value.bool g_9) rfl rfl ?_
      refine Wx.rd (v := .bool true) (rd_pickT (congrArg Value.bool g_9) rfl) rfl ?_
      refine Wx.nil ⟨(), hS, ⟨?_, trivial⟩, Out.look rfl Out.refl⟩
      show Value.bool true = Value.bool (decide (L < 1) || decide (7 < L))
      first | rw [g_9, Bool.true_or] | (rw [g_9]; rfl)
    · -- False
      have gp_11 := of_decide_eq_false g_9
      refine Wx.gyes rfl rfl (congrArg Value.bool g_9) ?_
      refine Wx.rd (v := .pointer (some ⟨g_1, 0, none⟩)) (rd_fieldAddr rfl foSa_213_0) rfl ?_
      refine Wx.gyes rfl rfl (congrArg Value.bool g_9) ?_
      refine Wx.rd (v := .int .i64 L) (rd_loadX hS 1 rfl rfl rfl Tryz.isAgg3) rfl ?_
      refine Wx.gyes rfl rfl (congrArg Value.bool g_9) ?_
      refine Wx.rd (v := .bool (decide (7 < L))) (rd_gtr rfl rfl) rfl ?_
      refine Wx.rd (v := .bool (decide (7 < L))) (rd_pickF (congrArg Value.bool g_9) rfl) rfl ?_
      refine Wx.nil ⟨(), hS, ⟨?_, trivial⟩, Out.look rfl Out.refl⟩
      show Value.bool (decide (7 < L)) = Value.bool (decide (L < 1) || decide (7 < L))
      first | rw [g_9, Bool.false_or] | (rw [g_9]; rfl)
  rintro ⟨⟩ u_13 w_12 hS
  refine Wx.rd (v := .bool (decide (L < 1) || decide (7 < L))) (rd_assign rfl) rfl ?_
  refine Wx.nil ?_
  refine W.cond rfl (fun c0 => ?_) (fun c0 => ?_)
  · -- yes
    try simp only [Bool.and_eq_true, Bool.or_eq_true, Bool.not_eq_true', Bool.and_eq_false_iff, Bool.or_eq_false_iff, Bool.not_eq_false', decide_eq_true_eq, decide_eq_false_iff_not, not_or, Bool.false_eq_true, Bool.true_eq_false, false_or, or_false, not_false_eq_true] at c0
    refine W.seq ?_
    refine W.reg ?_
    refine Wx.rd (v := .agg #[.int .i64 0, (.slice none 0 0)]) (rd_build (vs := []) rfl (by kernel_rfl)) rfl ?_
    refine Wx.storeX (cs' := [.int .i64 0, (.slice none 0 0)]) (ds := [.int .i64 0, (.slice none 0 0)]) hS 0 rfl rfl rfl rfl Tryz.sizeOf232 (Nat.le_of_ble_eq_true rfl) (one_cons rfl (one_cons rfl one_nil)) rfl (fun w_14 hz_15 hS => ?_)
    refine Wx.rd (v := .int .i64 1) (rd_assign rfl) rfl ?_
    refine Wx.nil ?_
    have hE : checkE L fs = 1 := by simp only [checkE]; rw [if_pos (by omega)]
    have e0_0 : (openL L fs) = (0 : Int) := by simp [openL, hE]
    have e0_1 : openS L fs = [] := by simp [openS, hE]
    have e0_2 : (checkE L fs) = (1 : Int) := by exact hE
    exact W.ret ⟨.tuple #[.agg #[.int .i64 0, (.slice none 0 0)], .int .i64 1], (ResIs.cell2 hS 0 rfl rfl Tryz.isAgg232 Tryz.sizeOf232), hS.bel, ⟨(.slice none 0 0), (by rw [e0_0, e0_2]), (by rw [e0_1]; exact (V.nil (t := (tI .u8))))⟩⟩
  · -- no
    try simp only [Bool.and_eq_true, Bool.or_eq_true, Bool.not_eq_true', Bool.and_eq_false_iff, Bool.or_eq_false_iff, Bool.not_eq_false', decide_eq_true_eq, decide_eq_false_iff_not, not_or, Bool.false_eq_true, Bool.true_eq_false, false_or, or_false, not_false_eq_true] at c0
    refine W.seq ?_
    refine W.reg ?_
    refine Wx.rd (v := .pointer (some ⟨g_1, 1, none⟩)) (rd_fieldAddr rfl foSa_213_1) rfl ?_
    refine Wx.rd (v := fv) (rd_loadX hS 1 rfl rfl rfl Tryz.isAgg115) rfl ?_
    refine Wx.rd (v := .int .i64 (fs.length : Int)) (rd_lenV rfl (hS.arg a_fv) Tryz.underlying115) rfl ?_
    refine Wx.rd (v := .bool (decide (10 < (fs.length : Int)))) (rd_gtr rfl rfl) rfl ?_
    refine Wx.rd (v := .bool (decide (10 < (fs.length : Int)))) (rd_assign rfl) rfl ?_
    refine Wx.nil ?_
    refine W.condD rfl (fun c1 => ?_) (fun c1 => ?_)
    · -- yes
      refine W.seq ?_
      refine W.reg ?_
      refine Wx.rd (v := .agg #[.int .i64 0, (.slice none 0 0)]) (rd_build (vs := []) rfl (by kernel_rfl)) rfl ?_
      refine Wx.storeX (cs' := [.int .i64 0, (.slice none 0 0)]) (ds := [.int .i64 0, (.slice none 0 0)]) hS 0 rfl rfl rfl rfl Tryz.sizeOf232 (Nat.le_of_ble_eq_true rfl) (one_cons rfl (one_cons rfl one_nil)) rfl (fun w_16 hz_17 hS => ?_)
      refine Wx.rd (v := .int .i64 3) (rd_assign rfl) rfl ?_
      refine Wx.nil ?_
      have hE : checkE L fs = 3 := by simp only [checkE]; rw [if_neg (by omega), if_pos (by omega)]
      have e1_0 : (openL L fs) = (0 : Int) := by simp [openL, hE]
      have e1_1 : openS L fs = [] := by simp [openS, hE]
      have e1_2 : (checkE L fs) = (3 : Int) := by exact hE
      exact W.ret ⟨.tuple #[.agg #[.int .i64 0, (.slice none 0 0)], .int .i64 3], (ResIs.cell2 hS 0 rfl rfl Tryz.isAgg232 Tryz.sizeOf232), hS.bel, ⟨(.slice none 0 0), (by rw [e1_0, e1_2]), (by rw [e1_1]; exact (V.nil (t := (tI .u8))))⟩⟩
    · -- no
      refine W.skip ?_
      refine W.seq ?_
      refine W.reg ?_
      refine Wx.rd (v := .pointer (some ⟨g_1, 0, none⟩)) (rd_fieldAddr rfl foSa_213_0) rfl ?_
      refine Wx.rd (v := .int .i64 L) (rd_loadX hS 1 rfl rfl rfl Tryz.isAgg3) rfl ?_
      refine Wx.rd (v := .agg #[.int .i64 L, (.slice none 0 0)]) (rd_build (vs := [(0, .int .i64 L)]) rfl (by kernel_rfl)) rfl ?_
      refine Wx.alloc (cs := [.int .i64 0, (.slice none 0 0)]) hS Tryz.zeroValue232 rfl rfl (fun g_18 w_19 hx_21 hb_20 hS => ?_)
      refine Wx.storeX (cs' := [.int .i64 L, (.slice none 0 0)]) (ds := [.int .i64 L, (.slice none 0 0)]) hS 0 rfl rfl rfl rfl Tryz.sizeOf232 (Nat.le_of_ble_eq_true rfl) (one_cons rfl (one_cons rfl one_nil)) rfl (fun w_22 hz_23 hS => ?_)
      refine Wx.nil ?_
      refine W.seq ?_
      refine W.seq ?_
      refine W.reg ?_
      refine Wx.rd (v := .pointer (some ⟨g_1, 1, none⟩)) (rd_fieldAddr rfl foSa_213_1) rfl ?_
      refine Wx.rd (v := fv) (rd_loadX hS 2 rfl rfl rfl Tryz.isAgg115) rfl ?_
      refine Wx.rd (v := .int .i64 (fs.length : Int)) (rd_lenV rfl (hS.arg a_fv) Tryz.underlying115) rfl ?_
      refine Wx.rd (v := .int .i64 0) (rd_move rfl) rfl ?_
      refine Wx.nil ?_
      refine W.block ?_
      have hE : checkE L fs = formsE L fs := by simp only [checkE]; rw [if_neg (by omega), if_neg (by omega)]
      have hS := hS.addNil (tI .u8) 236
      refine W.loop [3, 6, 7, 8, 10, 33, 34, 35, 36, 37, 38, 39, 40, 41, 42, 43, 44, 45, 46, 47, 48, 49, 50, 51, 52, 53, 54, 55, 56, 57, 58, 59, 60, 61, 62, 63, 64, 65, 66, 67, 68, 69, 70, 71, 72, 73] (fun x : Int × Value × (List Int) => match x with | (k, sv, sets) => [(33, .int .i64 k)]) (fun (x : Int × Value × (List Int)) w' => match x with | (k, sv, sets) => St w O w' [.row (tI .u8) 236 sv sets, .box g_18 232 [.int .i64 L, sv], .box g_5 232 [.int .i64 0, (.slice none 0 0)], .box g_1 213 [.int .i64 L, fv]] ∧ 0 ≤ k ∧ k ≤ fs.length ∧ formsE L (fs.drop k.toNat) = formsE L fs ∧ sets = setsF (fs.take k.toNat)) (fun x : Int × Value × (List Int) => match x with | (k, sv, sets) => (fs.length - k).toNat) (0, (.slice none 0 0), []) ⟨rfl, trivial⟩ ⟨hS, (by first | omega | simp), (by first | omega | simp), (by simp), (rfl)⟩ ?_
      rintro ⟨k, sv, sets⟩ u_25 w_24 ⟨hS, h0, h1, h2, h3⟩
      have hln : (sets.length : Int) ≤ 10 := by rw [h3]; simp [setsF]; omega
      refine W.seq ?_
      refine W.reg ?_
      refine Wx.rd (v := .bool (decide (k < (fs.length : Int)))) (rd_lss rfl rfl) rfl ?_
      refine Wx.nil ?_
      refine W.seq ?_
      refine W.condD rfl (fun c2 => ?_) (fun c2 => ?_)
      · -- yes
        refine W.skip ?_
        refine W.seq ?_
        refine W.block ?_
        refine W.seq ?_
        refine W.reg ?_
        refine Wx.ex (rd_index [] (hS.arg a_fv) rfl rfl Tryz.underlying115 Tryz.sizeOf23 (by first | omega | (simp only [List.length_set, List.length_append, List.length_cons, List.length_nil, List.length_replicate]; omega)) (by first | omega | (simp only [List.length_set, List.length_append, List.length_cons, List.length_nil, List.length_replicate]; omega))) rfl (fun p_26 hp_27 => ?_)
        refine Wx.ex (rd_load hp_27 rfl Tryz.isAgg23 Tryz.sizeOf23) rfl (fun v_28 hv_29 => ?_)
        have ln_30 := hv_29.len63
        have hS := hS.add hv_29
        refine Wx.rd (v := v_28) (rd_assign rfl) rfl ?_
        refine Wx.nil ?_
        refine W.seq ?_
        refine W.seq ?_
        refine W.reg ?_
        refine Wx.rd (v := v_28) (rd_move rfl) rfl ?_
        refine Wx.rd (v := .int .i64 ((ix [] fs k).length : Int)) (rd_lenV rfl (hS.v 0 rfl) Tryz.underlying23) rfl ?_
        refine Wx.rd (v := .bool (decide (((ix [] fs k).length : Int) = 0))) (rd_eql rfl rfl) rfl ?_
        refine Wx.nil ?_
        refine W.condD rfl (fun c3 => ?_) (fun c3 => ?_)
        · -- yes
          refine W.seq ?_
          refine W.reg ?_
          refine Wx.rd (v := .agg #[.int .i64 0, (.slice none 0 0)]) (rd_build (vs := []) rfl (by kernel_rfl)) rfl ?_
          refine Wx.storeX (cs' := [.int .i64 0, (.slice none 0 0)]) (ds := [.int .i64 0, (.slice none 0 0)]) hS 3 rfl rfl rfl rfl Tryz.sizeOf232 (Nat.le_of_ble_eq_true rfl) (one_cons rfl (one_cons rfl one_nil)) rfl (fun w_32 hz_33 hS => ?_)
          refine Wx.rd (v := .int .i64 4) (rd_assign rfl) rfl ?_
          refine Wx.nil ?_
          have hE : checkE L fs = 4 := by rw [hE, ← h2, drop_ix (d := []) h0 c2, formsE, show formE L (ix [] fs k) = 4 by rw [formE, if_pos (by omega)]]; simp
          have e2_0 : (openL L fs) = (0 : Int) := by simp [openL, hE]
          have e2_1 : openS L fs = [] := by simp [openS, hE]
          have e2_2 : (checkE L fs) = (4 : Int) := by exact hE
          exact W.ret ⟨.tuple #[.agg #[.int .i64 0, (.slice none 0 0)], .int .i64 4], (ResIs.cell2 hS 3 rfl rfl Tryz.isAgg232 Tryz.sizeOf232), hS.bel, ⟨(.slice none 0 0), (by rw [e2_0, e2_2]), (by rw [e2_1]; exact (V.nil (t := (tI .u8))))⟩⟩
        · -- no
          refine W.skip ?_
          refine W.seq ?_
          refine W.reg ?_
          refine Wx.rd (v := .int .u8 0) (rd_assign rfl) rfl ?_
          refine Wx.nil ?_
          refine W.seq ?_
          refine W.reg ?_
          refine Wx.rd (v := .int .i64 (-1)) (rd_assign rfl) rfl ?_
          refine Wx.nil ?_
          refine W.seq ?_
          refine W.seq ?_
          refine W.reg ?_
          refine Wx.rd (v := v_28) (rd_move rfl) rfl ?_
          refine Wx.rd (v := .int .i64 ((ix [] fs k).length : Int)) (rd_lenV rfl (hS.v 0 rfl) Tryz.underlying23) rfl ?_
          refine Wx.rd (v := .int .i64 0) (rd_move rfl) rfl ?_
          refine Wx.nil ?_
          refine W.block ?_
          refine W.loop [3, 7, 8, 10, 43, 44, 45, 46, 47, 48, 49, 50, 51, 52, 53, 54, 55, 56, 57, 58, 59, 60, 61, 62, 63, 64, 65, 66] (fun x : Int × Int × Int => match x with | (s, last, j) => [(7, .int .u8 s), (8, .int .i64 last), (43, .int .i64 j)]) (fun (x : Int × Int × Int) w' => match x with | (s, last, j) => St w O w' [Ob.v (tSl (tI .i64)) (ix [] fs k) v_28, .row (tI .u8) 236 sv sets, .box g_18 232 [.int .i64 L, sv], .box g_5 232 [.int .i64 0, (.slice none 0 0)], .box g_1 213 [.int .i64 L, fv]] ∧ 0 ≤ j ∧ j ≤ (ix [] fs k).length ∧ numE L last ((ix [] fs k).drop j.toNat) = numE L (-1) (ix [] fs k) ∧ s = setF 0 ((ix [] fs k).take j.toNat) ∧ InK .u8 s) (fun x : Int × Int × Int => match x with | (s, last, j) => ((ix [] fs k).length - j).toNat) (0, -1, 0) ⟨rfl, rfl, rfl, trivial⟩ ⟨hS, (by first | omega | simp), (by first | omega | simp), (by simp), (by simp [setF]), (⟨by decide, by decide⟩)⟩ ?_
          rintro ⟨s, last, j⟩ u_35 w_34 ⟨hS, g0, g1, g2, g3, g4⟩
          have b_s := bd_u8 g4
          refine W.seq ?_
          refine W.reg ?_
          refine Wx.rd (v := .bool (decide (j < ((ix [] fs k).length : Int)))) (rd_lss rfl rfl) rfl ?_
          refine Wx.nil ?_
          refine W.seq ?_
          refine W.condD rfl (fun c4 => ?_) (fun c4 => ?_)
          · -- yes
            refine W.skip ?_
            refine W.seq ?_
            refine W.block ?_
            refine W.seq ?_
            refine W.reg ?_
            refine Wx.ex (rd_index 0 (hS.v 0 rfl) rfl rfl Tryz.underlying23 Tryz.sizeOf3 (by first | omega | (simp only [List.length_set, List.length_append, List.length_cons, List.length_nil, List.length_replicate]; omega)) (by first | omega | (simp only [List.length_set, List.length_append, List.length_cons, List.length_nil, List.length_replicate]; omega))) rfl (fun p_36 hp_37 => ?_)
            refine Wx.rd (v := .int .i64 (ix 0 (ix [] fs k) j)) (rd_loadI hp_37 rfl Tryz.isAgg3 Tryz.sizeOf3) rfl ?_
            have bd_38 := bd_i64 hp_37.inK
            refine Wx.rd (v := .int .i64 (ix 0 (ix [] fs k) j)) (rd_assign rfl) rfl ?_
            refine Wx.nil ?_
            refine W.seq ?_
            refine W.block ?_
            refine W.seq ?_
            refine W.reg ?_
            refine Wx.rd (v := .int .i64 (ix 0 (ix [] fs k) j)) (rd_move rfl) rfl ?_
            refine Wx.rd (v := .bool (decide ((ix 0 (ix [] fs k) j) < 0))) (rd_lss rfl rfl) rfl ?_
            refine Wx.rd (v := .bool (decide ((ix 0 (ix [] fs k) j) < 0))) (rd_move rfl) rfl ?_
            refine Wx.cut (X := Unit) 5 [51, 52, 53, 54, 55] (fun _ => [(55, .bool (decide ((ix 0 (ix [] fs k) j) < 0) || decide (L ≤ (ix 0 (ix [] fs k) j))))]) (fun _ w' => St w O w' [Ob.v (tSl (tI .i64)) (ix [] fs k) v_28, .row (tI .u8) 236 sv sets, .box g_18 232 [.int .i64 L, sv], .box g_5 232 [.int .i64 0, (.slice none 0 0)], .box g_1 213 [.int .i64 L, fv]]) ?_ ?_
            · rcases Bool.eq_false_or_eq_true (decide ((ix 0 (ix [] fs k) j) < 0)) with g_39 | g_39
              · -- True
                have gp_40 := of_decide_eq_true g_39
                refine Wx.gnoB rfl rfl (congrArg Value.bool g_39) rfl rfl ?_
                refine Wx.gnoB rfl rfl (congrArg Value.bool g_39) rfl rfl ?_
                refine Wx.gnoB rfl rfl (congrArg Value.bool g_39) rfl rfl ?_
                refine Wx.gnoB rfl rfl (congrArg Value.bool g_39) rfl rfl ?_
                refine Wx.rd (v := .bool true) (rd_pickT (congrArg Value.bool g_39) rfl) rfl ?_
                refine Wx.nil ⟨(), hS, ⟨?_, trivial⟩, Out.look rfl Out.refl⟩
                show Value.bool true = Value.bool (decide ((ix 0 (ix [] fs k) j) < 0) || decide (L ≤ (ix 0 (ix [] fs k) j)))
                first | rw [g_39, Bool.true_or] | (rw [g_39]; rfl)
              · -- False
                have gp_41 := of_decide_eq_false g_39
                refine Wx.gyes rfl rfl (congrArg Value.bool g_39) ?_
                refine Wx.rd (v := .int .i64 (ix 0 (ix [] fs k) j)) (rd_move rfl) rfl ?_
                refine Wx.gyes rfl rfl (congrArg Value.bool g_39) ?_
                refine Wx.rd (v := .pointer (some ⟨g_1, 0, none⟩)) (rd_fieldAddr rfl foSa_213_0) rfl ?_
                refine Wx.gyes rfl rfl (congrArg Value.bool g_39) ?_
                refine Wx.rd (v := .int .i64 L) (rd_loadX hS 4 rfl rfl rfl Tryz.isAgg3) rfl ?_
                refine Wx.gyes rfl rfl (congrArg Value.bool g_39) ?_
                refine Wx.rd (v := .bool (decide (L ≤ (ix 0 (ix [] fs k) j)))) (rd_geq rfl rfl) rfl ?_
                refine Wx.rd (v := .bool (decide (L ≤ (ix 0 (ix [] fs k) j)))) (rd_pickF (congrArg Value.bool g_39) rfl) rfl ?_
                refine Wx.nil ⟨(), hS, ⟨?_, trivial⟩, Out.look rfl Out.refl⟩
                show Value.bool (decide (L ≤ (ix 0 (ix [] fs k) j))) = Value.bool (decide ((ix 0 (ix [] fs k) j) < 0) || decide (L ≤ (ix 0 (ix [] fs k) j)))
                first | rw [g_39, Bool.false_or] | (rw [g_39]; rfl)
            rintro ⟨⟩ u_43 w_42 hS
            refine Wx.rd (v := .bool (decide ((ix 0 (ix [] fs k) j) < 0) || decide (L ≤ (ix 0 (ix [] fs k) j)))) (rd_assign rfl) rfl ?_
            refine Wx.nil ?_
            refine W.cond rfl (fun c5 => ?_) (fun c5 => ?_)
            · -- yes
              try simp only [Bool.and_eq_true, Bool.or_eq_true, Bool.not_eq_true', Bool.and_eq_false_iff, Bool.or_eq_false_iff, Bool.not_eq_false', decide_eq_true_eq, decide_eq_false_iff_not, not_or, Bool.false_eq_true, Bool.true_eq_false, false_or, or_false, not_false_eq_true] at c5
              refine W.seq ?_
              refine W.reg ?_
              refine Wx.rd (v := .agg #[.int .i64 0, (.slice none 0 0)]) (rd_build (vs := []) rfl (by kernel_rfl)) rfl ?_
              refine Wx.storeX (cs' := [.int .i64 0, (.slice none 0 0)]) (ds := [.int .i64 0, (.slice none 0 0)]) hS 3 rfl rfl rfl rfl Tryz.sizeOf232 (Nat.le_of_ble_eq_true rfl) (one_cons rfl (one_cons rfl one_nil)) rfl (fun w_44 hz_45 hS => ?_)
              refine Wx.rd (v := .int .i64 2) (rd_assign rfl) rfl ?_
              refine Wx.nil ?_
              have hE : checkE L fs = 2 := by rw [hE, ← h2, drop_ix (d := []) h0 c2, formsE, show formE L (ix [] fs k) = 2 by rw [formE, if_neg (by omega), ← g2, drop_ix (d := 0) g0 c4, numE, if_pos (by omega)]]; simp
              have e3_0 : (openL L fs) = (0 : Int) := by simp [openL, hE]
              have e3_1 : openS L fs = [] := by simp [openS, hE]
              have e3_2 : (checkE L fs) = (2 : Int) := by exact hE
              exact W.ret ⟨.tuple #[.agg #[.int .i64 0, (.slice none 0 0)], .int .i64 2], (ResIs.cell2 hS 3 rfl rfl Tryz.isAgg232 Tryz.sizeOf232), hS.bel, ⟨(.slice none 0 0), (by rw [e3_0, e3_2]), (by rw [e3_1]; exact (V.nil (t := (tI .u8))))⟩⟩
            · -- no
              try simp only [Bool.and_eq_true, Bool.or_eq_true, Bool.not_eq_true', Bool.and_eq_false_iff, Bool.or_eq_false_iff, Bool.not_eq_false', decide_eq_true_eq, decide_eq_false_iff_not, not_or, Bool.false_eq_true, Bool.true_eq_false, false_or, or_false, not_false_eq_true] at c5
              refine W.seq ?_
              refine W.reg ?_
              refine Wx.rd (v := .int .i64 (ix 0 (ix [] fs k) j)) (rd_move rfl) rfl ?_
              refine Wx.rd (v := .int .i64 last) (rd_move rfl) rfl ?_
              refine Wx.rd (v := .bool (decide ((ix 0 (ix [] fs k) j) ≤ last))) (rd_leq rfl rfl) rfl ?_
              refine Wx.rd (v := .bool (decide ((ix 0 (ix [] fs k) j) ≤ last))) (rd_assign rfl) rfl ?_
              refine Wx.nil ?_
              refine W.condD rfl (fun c6 => ?_) (fun c6 => ?_)
              · -- yes
                refine W.seq ?_
                refine W.reg ?_
                refine Wx.rd (v := .agg #[.int .i64 0, (.slice none 0 0)]) (rd_build (vs := []) rfl (by kernel_rfl)) rfl ?_
                refine Wx.storeX (cs' := [.int .i64 0, (.slice none 0 0)]) (ds := [.int .i64 0, (.slice none 0 0)]) hS 3 rfl rfl rfl rfl Tryz.sizeOf232 (Nat.le_of_ble_eq_true rfl) (one_cons rfl (one_cons rfl one_nil)) rfl (fun w_46 hz_47 hS => ?_)
                refine Wx.rd (v := .int .i64 7) (rd_assign rfl) rfl ?_
                refine Wx.nil ?_
                have hE : checkE L fs = 7 := by rw [hE, ← h2, drop_ix (d := []) h0 c2, formsE, show formE L (ix [] fs k) = 7 by rw [formE, if_neg (by omega), ← g2, drop_ix (d := 0) g0 c4, numE, if_neg (by omega), if_pos (by omega)]]; simp
                have e4_0 : (openL L fs) = (0 : Int) := by simp [openL, hE]
                have e4_1 : openS L fs = [] := by simp [openS, hE]
                have e4_2 : (checkE L fs) = (7 : Int) := by exact hE
                exact W.ret ⟨.tuple #[.agg #[.int .i64 0, (.slice none 0 0)], .int .i64 7], (ResIs.cell2 hS 3 rfl rfl Tryz.isAgg232 Tryz.sizeOf232), hS.bel, ⟨(.slice none 0 0), (by rw [e4_0, e4_2]), (by rw [e4_1]; exact (V.nil (t := (tI .u8))))⟩⟩
              · -- no
                refine W.skip ?_
                refine W.reg ?_
                refine Wx.rd (v := .int .u8 s) (rd_move rfl) rfl ?_
                refine Wx.rd (v := .int .i64 (ix 0 (ix [] fs k) j)) (rd_move rfl) rfl ?_
                refine Wx.callF (run_callF Tryz.call138 rfl) (C3.F138 (in_u8 (by omega) (by omega)) (in_i64 (by omega) (by omega)) (by omega)) rfl ?_
                rintro r_48 w_49 hx_50 rfl
                have hS := hS.ext hx_50
                have in_51 := bd_u8 (withS_in s (ix 0 (ix [] fs k) j))
                refine Wx.rd (v := .int .i64 (ix 0 (ix [] fs k) j)) (rd_move rfl) rfl ?_
                refine Wx.rd (v := .int .u8 (withS s (ix 0 (ix [] fs k) j))) (rd_assign rfl) rfl ?_
                refine Wx.rd (v := .int .i64 (ix 0 (ix [] fs k) j)) (rd_assign rfl) rfl ?_
                refine Wx.nil ?_
                refine W.reg ?_
                refine Wx.rd (v := .int .i64 (j + 1)) (rd_add rfl rfl (in_i64 (by omega) (by omega))) rfl ?_
                refine Wx.rd (v := .int .i64 (j + 1)) (rd_move rfl) rfl ?_
                refine Wx.nil ?_
                refine ⟨(withS s (ix 0 (ix [] fs k) j), ix 0 (ix [] fs k) j, j + 1), (by show ((ix [] fs k).length - (j + 1)).toNat < ((ix [] fs k).length - j).toNat; omega), ?_, ?_, Out.look rfl (Out.hav rfl (Out.look rfl Out.self))⟩
                · exact ⟨hS, (by first | omega | assumption), (by first | omega | assumption), (by rw [← g2, drop_ix (d := 0) g0 c4, numE, if_neg (by omega), if_neg (by omega)]), (by rw [take_ix (d := 0) g0 c4, setF_snoc, ← g3]), (withS_in _ _)⟩
                · exact ⟨rfl, rfl, rfl, trivial⟩
          · -- no
            refine W.exit rfl ?_
            refine W.reg ?_
            refine Wx.rd (v := .pointer (some ⟨g_18, 1, none⟩)) (rd_fieldAddr rfl foSa_232_1) rfl ?_
            refine Wx.rd (v := sv) (rd_loadX hS 2 rfl rfl rfl Tryz.isAgg230) rfl ?_
            refine Wx.rd (v := .int .u8 s) (rd_move rfl) rfl ?_
            refine Wx.lit (t := (tI .u8)) (ys := [s]) (vs := [.int .u8 s]) elSa_230 hS rfl rfl ⟨(V.mkInt (in_u8 (by omega) (by omega))), trivial⟩ (by decide) rfl (fun v_52 w_53 hx_54 hS => ?_)
            refine Wx.append elSa_230 hS 2 rfl rfl rfl (Src.ofR hS 0 rfl) (by simp only [maxLen]; first | omega | (simp; omega) | simp) (by first | omega | (simp; omega) | simp) rfl (fun v_55 w_56 hz_57 hS => ?_)
            refine Wx.rd (v := .pointer (some ⟨g_18, 1, none⟩)) (rd_fieldAddr rfl foSa_232_1) rfl ?_
            refine Wx.storeX (cs' := [.int .i64 L, v_55]) (ds := [v_55]) hS 3 rfl rfl rfl (Go.Wk.cells_one (hS.rowOne 2 rfl)) Tryz.sizeOf230 (Nat.le_of_ble_eq_true rfl) (one_cons (hS.rowOne 2 rfl) one_nil) rfl (fun w_58 hz_59 hS => ?_)
            refine Wx.nil ?_
            refine W.reg ?_
            refine Wx.rd (v := .int .i64 (k + 1)) (rd_add rfl rfl (in_i64 (by omega) (by omega))) rfl ?_
            refine Wx.rd (v := .int .i64 (k + 1)) (rd_move rfl) rfl ?_
            refine Wx.nil ?_
            refine ⟨(k + 1, v_55, sets ++ [s]), (by show (fs.length - (k + 1)).toNat < (fs.length - k).toNat; omega), ?_, ?_, Out.look rfl (Out.hav rfl (Out.look rfl Out.self))⟩
            · exact ⟨St.tl (hS.tl), (by first | omega | assumption), (by first | omega | assumption), (by rw [← h2, drop_ix (d := []) h0 c2]; rw [formsE, if_pos]; rw [formE, if_neg (by omega), ← g2, drop_end (by omega)]; rfl), (by rw [take_ix (d := []) h0 c2, h3, g3, take_end (show ((ix [] fs k).length : Int) ≤ j by omega)]; simp [setsF])⟩
            · exact ⟨rfl, trivial⟩
      · -- no
        refine W.exit rfl ?_
        refine W.seq ?_
        refine W.reg ?_
        refine Wx.rd (v := .agg #[.int .i64 L, sv]) (rd_loadXs (ds := [.int .i64 L, sv]) hS 1 rfl rfl rfl rfl Tryz.isAgg232 Tryz.sizeOf232) rfl ?_
        refine Wx.storeX (cs' := [.int .i64 L, sv]) (ds := [.int .i64 L, sv]) hS 2 rfl rfl rfl rfl Tryz.sizeOf232 (Nat.le_of_ble_eq_true rfl) (one_cons rfl (one_cons (hS.rowOne 0 rfl) one_nil)) rfl (fun w_60 hz_61 hS => ?_)
        refine Wx.rd (v := .int .i64 0) (rd_assign rfl) rfl ?_
        refine Wx.nil ?_
        have hE : checkE L fs = 0 := by rw [hE, ← h2, drop_end (by omega)]; rfl
        have e5_0 : (openL L fs) = (L : Int) := by simp [openL, hE]
        have e5_1 : openS L fs = sets := by simp [openS, hE, h3, take_end (by omega : (fs.length : Int) ≤ k)]
        have e5_2 : (checkE L fs) = (0 : Int) := by exact hE
        exact W.ret ⟨.tuple #[.agg #[.int .i64 L, sv], .int .i64 0], (ResIs.cell2 hS 2 rfl rfl Tryz.isAgg232 Tryz.sizeOf232), hS.bel, ⟨sv, (by rw [e5_0, e5_2]), (by rw [e5_1]; exact ((hS.lend 0 rfl).mv (.less (fun _ h => List.mem_append.2 (.inr h)))))⟩⟩

theorem C3.F148 {f : Int} {gp : Nat} {p : Int} {gn : Nat} {n : Int} {w : World} (i_f : InK .u8 f) (i_p : InK .u8 p) (x_gp : w.heap[gp]? = some (.cells #[.int .u8 p] 236 (0, 0))) (i_n : InK .i64 n) (x_gn : w.heap[gn]? = some (.cells #[.int .i64 n] 3 (0, 0))) (p_n : 0 ≤ n) : Calls Tryz.prog 148 #[.int .u8 f, .pointer (some ⟨gp, 0, none⟩), .pointer (some ⟨gn, 0, none⟩)] w (Ret w (fun r _ => r = .bool (badS p n f))) := by
  have b_n := bd_i64 i_n
  have b_p := bd_u8 i_p
  have b_f := bd_u8 i_f
  have hS := St.start0 w
  refine enterR Tryz.func148 rfl Tryz.ntmps148 Tryz.results148 rfl ?_
  refine W.seq ?_
  refine W.reg ?_
  refine Wx.rd (v := .bool false) (rd_assign rfl) rfl ?_
  refine Wx.nil ?_
  refine W.seq ?_
  refine W.reg ?_
  refine Wx.rd (v := .int .u8 f) (rd_move rfl) rfl ?_
  refine Wx.rd (v := .int .u8 p) (rd_loadO x_gp hS.bel rfl rfl Tryz.isAgg236) rfl ?_
  refine Wx.rd (v := .int .u8 (bits .and .u8 f p)) (rd_and rfl rfl) rfl ?_
  have bd_1 := bd_u8 (bits_in .and .u8 f p)
  refine Wx.rd (v := .bool (decide ((bits .and .u8 f p) ≠ 0))) (rd_neq rfl rfl) rfl ?_
  refine Wx.rd (v := .bool (decide ((bits .and .u8 f p) ≠ 0))) (rd_move rfl) rfl ?_
  refine Wx.cut (X := Unit) 5 [10, 11, 12, 13, 14] (fun _ => [(14, .bool (decide ((bits .and .u8 f p) ≠ 0) && decide ((bits .andNot .u8 f p) ≠ 0)))]) (fun _ w' => St w [] w' []) ?_ ?_
  · rcases Bool.eq_false_or_eq_true (decide ((bits .and .u8 f p) ≠ 0)) with g_2 | g_2
    · -- True
      have gp_3 := of_decide_eq_true g_2
      refine Wx.gyes rfl rfl (congrArg Value.bool g_2) ?_
      refine Wx.rd (v := .int .u8 f) (rd_move rfl) rfl ?_
      refine Wx.gyes rfl rfl (congrArg Value.bool g_2) ?_
      refine Wx.rd (v := .int .u8 p) (rd_loadO x_gp hS.bel rfl rfl Tryz.isAgg236) rfl ?_
      refine Wx.gyes rfl rfl (congrArg Value.bool g_2) ?_
      refine Wx.rd (v := .int .u8 (bits .andNot .u8 f p)) (rd_andNot rfl rfl) rfl ?_
      have bd_4 := bd_u8 (bits_in .andNot .u8 f p)
      refine Wx.gyes rfl rfl (congrArg Value.bool g_2) ?_
      refine Wx.rd (v := .bool (decide ((bits .andNot .u8 f p) ≠ 0))) (rd_neq rfl rfl) rfl ?_
      refine Wx.rd (v := .bool (decide ((bits .andNot .u8 f p) ≠ 0))) (rd_pickT (congrArg Value.bool g_2) rfl) rfl ?_
      refine Wx.nil ⟨(), hS, ⟨?_, trivial⟩, Out.look rfl Out.refl⟩
      show Value.bool (decide ((bits .andNot .u8 f p) ≠ 0)) = Value.bool (decide ((bits .and .u8 f p) ≠ 0) && decide ((bits .andNot .u8 f p) ≠ 0))
      first | rw [g_2, Bool.true_and] | (rw [g_2]; rfl)
    · -- False
      have gp_5 := of_decide_eq_false g_2
      refine Wx.gnoB rfl rfl (congrArg Value.bool g_2) rfl rfl ?_
      refine Wx.gnoB rfl rfl (congrArg Value.bool g_2) rfl rfl ?_
      refine Wx.gnoB rfl rfl (congrArg Value.bool g_2) rfl rfl ?_
      refine Wx.gnoB rfl rfl (congrArg Value.bool g_2) rfl rfl ?_
      refine Wx.rd (v := .bool false) (rd_pickF (congrArg Value.bool g_2) rfl) rfl ?_
      refine Wx.nil ⟨(), hS, ⟨?_, trivial⟩, Out.look rfl Out.refl⟩
      show Value.bool false = Value.bool (decide ((bits .and .u8 f p) ≠ 0) && decide ((bits .andNot .u8 f p) ≠ 0))
      first | rw [g_2, Bool.false_and] | (rw [g_2]; rfl)
  rintro ⟨⟩ u_7 w_6 hS
  refine Wx.rd (v := .bool (decide ((bits .and .u8 f p) ≠ 0) && decide ((bits .andNot .u8 f p) ≠ 0))) (rd_move rfl) rfl ?_
  refine Wx.cut (X := Unit) 5 [16, 17, 18, 19, 20] (fun _ => [(20, .bool ((decide ((bits .and .u8 f p) ≠ 0) && decide ((bits .andNot .u8 f p) ≠ 0)) && !(hasS f n)))]) (fun _ w' => St w [] w' []) ?_ ?_
  · rcases Bool.eq_false_or_eq_true (decide ((bits .and .u8 f p) ≠ 0) && decide ((bits .andNot .u8 f p) ≠ 0)) with g_8 | g_8
    · -- True
      have gp_9 := g_8
      try simp only [Bool.and_eq_true, Bool.or_eq_true, Bool.not_eq_true', Bool.and_eq_false_iff, Bool.or_eq_false_iff, Bool.not_eq_false', decide_eq_true_eq, decide_eq_false_iff_not, not_or, Bool.false_eq_true, Bool.true_eq_false, false_or, or_false, not_false_eq_true] at gp_9
      refine Wx.gyes rfl rfl (congrArg Value.bool g_8) ?_
      refine Wx.rd (v := .int .u8 f) (rd_move rfl) rfl ?_
      refine Wx.gyes rfl rfl (congrArg Value.bool g_8) ?_
      refine Wx.rd (v := .int .i64 n) (rd_loadO x_gn hS.bel rfl rfl Tryz.isAgg3) rfl ?_
      refine Wx.gyes rfl rfl (congrArg Value.bool g_8) ?_
      refine Wx.callF (run_callF Tryz.call146 rfl) (C3.F146 i_f i_n (by omega)) rfl ?_
      rintro r_10 w_11 hx_12 rfl
      have hS := hS.ext hx_12
      refine Wx.gyes rfl rfl (congrArg Value.bool g_8) ?_
      refine Wx.rd (v := .bool (!(hasS f n))) (rd_not rfl) rfl ?_
      refine Wx.rd (v := .bool (!(hasS f n))) (rd_pickT (congrArg Value.bool g_8) rfl) rfl ?_
      refine Wx.nil ⟨(), hS, ⟨?_, trivial⟩, Out.look rfl Out.refl⟩
      show Value.bool (!(hasS f n)) = Value.bool ((decide ((bits .and .u8 f p) ≠ 0) && decide ((bits .andNot .u8 f p) ≠ 0)) && !(hasS f n))
      first | rw [g_8, Bool.true_and] | (rw [g_8]; rfl)
    · -- False
      have gp_13 := g_8
      try simp only [Bool.and_eq_true, Bool.or_eq_true, Bool.not_eq_true', Bool.and_eq_false_iff, Bool.or_eq_false_iff, Bool.not_eq_false', decide_eq_true_eq, decide_eq_false_iff_not, not_or, Bool.false_eq_true, Bool.true_eq_false, false_or, or_false, not_false_eq_true] at gp_13
      refine Wx.gnoB rfl rfl (congrArg Value.bool g_8) rfl rfl ?_
      refine Wx.gnoB rfl rfl (congrArg Value.bool g_8) rfl rfl ?_
      refine Wx.gnoB rfl rfl (congrArg Value.bool g_8) rfl rfl ?_
      refine Wx.gnoB rfl rfl (congrArg Value.bool g_8) rfl rfl ?_
      refine Wx.rd (v := .bool false) (rd_pickF (congrArg Value.bool g_8) rfl) rfl ?_
      refine Wx.nil ⟨(), hS, ⟨?_, trivial⟩, Out.look rfl Out.refl⟩
      show Value.bool false = Value.bool ((decide ((bits .and .u8 f p) ≠ 0) && decide ((bits .andNot .u8 f p) ≠ 0)) && !(hasS f n))
      first | rw [g_8, Bool.false_and] | (rw [g_8]; rfl)
  rintro ⟨⟩ u_15 w_14 hS
  refine Wx.rd (v := .bool ((decide ((bits .and .u8 f p) ≠ 0) && decide ((bits .andNot .u8 f p) ≠ 0)) && !(hasS f n))) (rd_assign rfl) rfl ?_
  refine Wx.nil ?_
  have e0_0 : (badS p n f) = ((decide ((bits .and .u8 f p) ≠ 0) && decide ((bits .andNot .u8 f p) ≠ 0)) && !(hasS f n)) := by rfl
  exact W.ret ⟨.bool ((decide ((bits .and .u8 f p) ≠ 0) && decide ((bits .andNot .u8 f p) ≠ 0)) && !(hasS f n)), ResIs.one, hS.bel, (by rw [e0_0])⟩

theorem C3.F151 {fv : Value} {fs : List Int} {Fr_fv : List (Option Nat)} {gp : Nat} {p : Int} {gn : Nat} {n : Int} {w : World} (h_fv : V (tSl (tI .u8)) fs fv Fr_fv w) (i_p : InK .u8 p) (x_gp : w.heap[gp]? = some (.cells #[.int .u8 p] 236 (0, 0))) (i_n : InK .i64 n) (x_gn : w.heap[gn]? = some (.cells #[.int .i64 n] 3 (0, 0))) (p_n : 0 ≤ n) : Calls Tryz.prog 151 #[fv, .func (.func 148) #[] #[.pointer (some ⟨gp, 0, none⟩), .pointer (some ⟨gn, 0, none⟩)]] w (Ret w (fun r _ => r = .int .i64 (idxL (badS p n) 0 fs))) := by
  have b_n := bd_i64 i_n
  have b_p := bd_u8 i_p
  have a_fv := h_fv.any
  have l_fv := h_fv.len63
  have hS := St.start0 w
  refine enterR Tryz.func151 rfl Tryz.ntmps151 Tryz.results151 rfl ?_
  refine W.seq ?_
  refine W.reg ?_
  refine Wx.rd (v := .int .i64 0) (rd_assign rfl) rfl ?_
  refine Wx.nil ?_
  refine W.seq ?_
  refine W.seq ?_
  refine W.reg ?_
  refine Wx.rd (v := fv) (rd_move rfl) rfl ?_
  refine Wx.rd (v := .int .i64 (fs.length : Int)) (rd_lenV rfl (hS.arg a_fv) Tryz.underlying230) rfl ?_
  refine Wx.rd (v := .int .i64 0) (rd_move rfl) rfl ?_
  refine Wx.nil ?_
  refine W.block ?_
  refine W.loop [4, 5, 8, 9, 10, 11, 12, 13, 14, 15, 16, 17, 18] (fun (k : Int) => [(8, .int .i64 k)]) (fun (k : Int) w' => St w [] w' [] ∧ 0 ≤ k ∧ k ≤ fs.length ∧ idxL (badS p n) k (fs.drop k.toNat) = idxL (badS p n) 0 fs) (fun (k : Int) => (fs.length - k).toNat) 0 ⟨rfl, trivial⟩ ⟨hS, (by first | omega | simp), (by first | omega | simp), (by simp)⟩ ?_
  rintro k u_2 w_1 ⟨hS, h0, h1, h2⟩
  refine W.seq ?_
  refine W.reg ?_
  refine Wx.rd (v := .bool (decide (k < (fs.length : Int)))) (rd_lss rfl rfl) rfl ?_
  refine Wx.nil ?_
  refine W.seq ?_
  refine W.condD rfl (fun c0 => ?_) (fun c0 => ?_)
  · -- yes
    refine W.skip ?_
    refine W.seq ?_
    refine W.block ?_
    refine W.seq ?_
    refine W.reg ?_
    refine Wx.rd (v := .int .i64 k) (rd_move rfl) rfl ?_
    refine Wx.rd (v := .int .i64 k) (rd_assign rfl) rfl ?_
    refine Wx.nil ?_
    refine W.seq ?_
    refine W.reg ?_
    refine Wx.rd (v := .func (.func 148) #[] #[.pointer (some ⟨gp, 0, none⟩), .pointer (some ⟨gn, 0, none⟩)]) (rd_move rfl) rfl ?_
    refine Wx.rd (v := fv) (rd_move rfl) rfl ?_
    refine Wx.rd (v := .int .i64 k) (rd_move rfl) rfl ?_
    refine Wx.ex (rd_index 0 (hS.arg a_fv) rfl rfl Tryz.underlying230 Tryz.sizeOf236 (by first | omega | (simp only [List.length_set, List.length_append, List.length_cons, List.length_nil, List.length_replicate]; omega)) (by first | omega | (simp only [List.length_set, List.length_append, List.length_cons, List.length_nil, List.length_replicate]; omega))) rfl (fun p_3 hp_4 => ?_)
    refine Wx.rd (v := .int .u8 (ix 0 fs k)) (rd_loadI hp_4 rfl Tryz.isAgg236 Tryz.sizeOf236) rfl ?_
    have bd_5 := bd_u8 hp_4.inK
    refine Wx.callF (run_callC (fs := []) (cs := [.pointer (some ⟨gp, 0, none⟩), .pointer (some ⟨gn, 0, none⟩)]) (vs := [.int .u8 (ix 0 fs k), .pointer (some ⟨gp, 0, none⟩), .pointer (some ⟨gn, 0, none⟩)]) Tryz.call148 rfl rfl) (C3.F148 (in_u8 (by omega) (by omega)) i_p (extAt x_gp hS.bel) i_n (extAt x_gn hS.bel) (by omega)) rfl ?_
    rintro r_6 w_7 hx_8 rfl
    have hS := hS.ext hx_8
    refine Wx.nil ?_
    refine W.cond rfl (fun c1 => ?_) (fun c1 => ?_)
    · -- yes
      try simp only [Bool.and_eq_true, Bool.or_eq_true, Bool.not_eq_true', Bool.and_eq_false_iff, Bool.or_eq_false_iff, Bool.not_eq_false', decide_eq_true_eq, decide_eq_false_iff_not, not_or, Bool.false_eq_true, Bool.true_eq_false, false_or, or_false, not_false_eq_true] at c1
      refine W.seq ?_
      refine W.reg ?_
      refine Wx.rd (v := .int .i64 k) (rd_move rfl) rfl ?_
      refine Wx.rd (v := .int .i64 k) (rd_assign rfl) rfl ?_
      refine Wx.nil ?_
      have e0_0 : (idxL (badS p n) 0 fs) = (k : Int) := by rw [← h2, drop_ix (d := 0) h0 c0, idxL, if_pos c1]
      exact W.ret ⟨.int .i64 k, ResIs.one, hS.bel, (by rw [e0_0])⟩
    · -- no
      try simp only [Bool.and_eq_true, Bool.or_eq_true, Bool.not_eq_true', Bool.and_eq_false_iff, Bool.or_eq_false_iff, Bool.not_eq_false', decide_eq_true_eq, decide_eq_false_iff_not, not_or, Bool.false_eq_true, Bool.true_eq_false, false_or, or_false, not_false_eq_true] at c1
      refine W.skip ?_
      refine W.reg ?_
      refine Wx.rd (v := .int .i64 (k + 1)) (rd_add rfl rfl (in_i64 (by omega) (by omega))) rfl ?_
      refine Wx.rd (v := .int .i64 (k + 1)) (rd_move rfl) rfl ?_
      refine Wx.nil ?_
      refine ⟨k + 1, (by show (fs.length - (k + 1)).toNat < (fs.length - k).toNat; omega), ?_, ?_, Out.look rfl Out.self⟩
      · exact ⟨hS, (by first | omega | assumption), (by first | omega | assumption), (by rw [← h2, drop_ix (d := 0) h0 c0, idxL, if_neg (by simp [c1])])⟩
      · exact ⟨rfl, trivial⟩
  · -- no
    refine W.exit rfl ?_
    refine W.seq ?_
    refine W.reg ?_
    refine Wx.rd (v := .int .i64 (-1)) (rd_assign rfl) rfl ?_
    refine Wx.nil ?_
    have e1_0 : (idxL (badS p n) 0 fs) = (-1 : Int) := by rw [← h2, drop_end (by omega)]; rfl
    exact W.ret ⟨.int .i64 (-1), ResIs.one, hS.bel, (by rw [e1_0])⟩

theorem C3.F147 {fv : Value} {fs : List Int} {Fr_fv : List (Option Nat)} {gp : Nat} {p : Int} {gn : Nat} {n : Int} {w : World} (h_fv : V (tSl (tI .u8)) fs fv Fr_fv w) (i_p : InK .u8 p) (x_gp : w.heap[gp]? = some (.cells #[.int .u8 p] 236 (0, 0))) (i_n : InK .i64 n) (x_gn : w.heap[gn]? = some (.cells #[.int .i64 n] 3 (0, 0))) (p_n : 0 ≤ n) : Calls Tryz.prog 147 #[fv, .func (.func 148) #[] #[.pointer (some ⟨gp, 0, none⟩), .pointer (some ⟨gn, 0, none⟩)]] w (Ret w (fun r _ => r = .bool (fs.any (badS p n)))) := by
  have b_n := bd_i64 i_n
  have b_p := bd_u8 i_p
  have a_fv := h_fv.any
  have l_fv := h_fv.len63
  have hS := St.start0 w
  refine enterR Tryz.func147 rfl Tryz.ntmps147 Tryz.results147 rfl ?_
  refine W.seq ?_
  refine W.reg ?_
  refine Wx.rd (v := .bool false) (rd_assign rfl) rfl ?_
  refine Wx.nil ?_
  refine W.seq ?_
  refine W.reg ?_
  refine Wx.rd (v := fv) (rd_move rfl) rfl ?_
  refine Wx.rd (v := .func (.func 148) #[] #[.pointer (some ⟨gp, 0, none⟩), .pointer (some ⟨gn, 0, none⟩)]) (rd_move rfl) rfl ?_
  refine Wx.callF (run_callF Tryz.call151 rfl) (C3.F151 (hS.arg a_fv) i_p (extAt x_gp hS.bel) i_n (extAt x_gn hS.bel) (by omega)) rfl ?_
  rintro r_1 w_2 hx_3 rfl
  have hS := hS.ext hx_3
  refine Wx.rd (v := .bool (decide (0 ≤ (idxL (badS p n) 0 fs)))) (rd_geq rfl rfl) rfl ?_
  refine Wx.rd (v := .bool (decide (0 ≤ (idxL (badS p n) 0 fs)))) (rd_assign rfl) rfl ?_
  refine Wx.nil ?_
  have e0_0 : (fs.any (badS p n)) = (decide (0 ≤ (idxL (badS p n) 0 fs))) := by exact (idxL_any _ _ _ (by omega)).symm
  exact W.ret ⟨.bool (decide (0 ≤ (idxL (badS p n) 0 fs))), ResIs.one, hS.bel, (by rw [e0_0])⟩

theorem C3.F137 {L : Int} {sv : Value} {ss : List Int} {Fr_sv : List (Option Nat)} {p : Int} {n : Int} {w : World} (i_L : InK .i64 L) (h_sv : V (tSl (tI .u8)) ss sv Fr_sv w) (i_p : InK .u8 p) (i_n : InK .i64 n) (p_n : 0 ≤ n) : Calls Tryz.prog 137 #[.agg #[.int .i64 L, sv], .int .u8 p, .int .i64 n] w (Ret w (fun r _ => r = .bool (mayB ss p n))) := by
  have b_n := bd_i64 i_n
  have b_p := bd_u8 i_p
  have b_L := bd_i64 i_L
  have a_sv := h_sv.any
  have l_sv := h_sv.len63
  have hS := St.start0 w
  refine enterR Tryz.func137 rfl Tryz.ntmps137 Tryz.results137 rfl ?_
  refine W.seq ?_
  refine W.reg ?_
  refine Wx.box (cs := [.int .i64 L, sv]) hS rfl rfl rfl (fun g_1 w_2 hx_4 hb_3 hS => ?_)
  refine Wx.box (cs := [.int .u8 p]) hS rfl rfl rfl (fun g_5 w_6 hx_8 hb_7 hS => ?_)
  refine Wx.box (cs := [.int .i64 n]) hS rfl rfl rfl (fun g_9 w_10 hx_12 hb_11 hS => ?_)
  refine Wx.rd (v := .bool false) (rd_assign rfl) rfl ?_
  refine Wx.nil ?_
  refine W.seq ?_
  refine W.reg ?_
  refine Wx.rd (v := .int .u8 p) (rd_loadX hS 1 rfl rfl rfl Tryz.isAgg236) rfl ?_
  refine Wx.rd (v := .int .i64 n) (rd_loadX hS 0 rfl rfl rfl Tryz.isAgg3) rfl ?_
  refine Wx.callF (run_callF Tryz.call146 rfl) (C3.F146 i_p i_n (by omega)) rfl ?_
  rintro r_13 w_14 hx_15 rfl
  have hS := hS.ext hx_15
  refine Wx.rd (v := .bool (!(hasS p n))) (rd_not rfl) rfl ?_
  refine Wx.rd (v := .bool (!(hasS p n))) (rd_move rfl) rfl ?_
  refine Wx.cut (X := Unit) 6 [12, 13, 14, 15, 16, 17] (fun _ => [(17, .bool (!(hasS p n) && !(ss.any (badS p n))))]) (fun _ w' => St w [] w' [.box g_9 3 [.int .i64 n], .box g_5 236 [.int .u8 p], .box g_1 232 [.int .i64 L, sv]]) ?_ ?_
  · rcases Bool.eq_false_or_eq_true (!(hasS p n)) with g_16 | g_16
    · -- True
      have gp_17 := g_16
      try simp only [Bool.and_eq_true, Bool.or_eq_true, Bool.not_eq_true', Bool.and_eq_false_iff, Bool.or_eq_false_iff, Bool.not_eq_false', decide_eq_true_eq, decide_eq_false_iff_not, not_or, Bool.false_eq_true, Bool.true_eq_false, false_or, or_false, not_false_eq_true] at gp_17
      refine Wx.gyes rfl rfl (congrArg Value.bool g_16) ?_
      refine Wx.rd (v := .pointer (some ⟨g_1, 1, none⟩)) (rd_fieldAddr rfl foSa_232_1) rfl ?_
      refine Wx.gyes rfl rfl (congrArg Value.bool g_16) ?_
      refine Wx.rd (v := sv) (rd_loadX hS 2 rfl rfl rfl Tryz.isAgg230) rfl ?_
      refine Wx.gyes rfl rfl (congrArg Value.bool g_16) ?_
      refine Wx.rd (v := .func (.func 148) #[] #[.pointer (some ⟨g_5, 0, none⟩), .pointer (some ⟨g_9, 0, none⟩)]) (rd_makeFunc (vs := []) (us := [.pointer (some ⟨g_5, 0, none⟩), .pointer (some ⟨g_9, 0, none⟩)]) rfl rfl) rfl ?_
      refine Wx.gyes rfl rfl (congrArg Value.bool g_16) ?_
      refine Wx.callF (run_callF Tryz.call147 rfl) (C3.F147 (hS.arg a_sv) i_p (boxAt hS 1 rfl (Ext.refl _)) i_n (boxAt hS 0 rfl (Ext.refl _)) (by omega)) rfl ?_
      rintro r_18 w_19 hx_20 rfl
      have hS := hS.ext hx_20
      refine Wx.gyes rfl rfl (congrArg Value.bool g_16) ?_
      refine Wx.rd (v := .bool (!(ss.any (badS p n)))) (rd_not rfl) rfl ?_
      refine Wx.rd (v := .bool (!(ss.any (badS p n)))) (rd_pickT (congrArg Value.bool g_16) rfl) rfl ?_
      refine Wx.nil ⟨(), hS, ⟨?_, trivial⟩, Out.look rfl Out.refl⟩
      show Value.bool (!(ss.any (badS p n))) = Value.bool (!(hasS p n) && !(ss.any (badS p n)))
      first | rw [g_16, Bool.true_and] | (rw [g_16]; rfl)
    · -- False
      have gp_21 := g_16
      try simp only [Bool.and_eq_true, Bool.or_eq_true, Bool.not_eq_true', Bool.and_eq_false_iff, Bool.or_eq_false_iff, Bool.not_eq_false', decide_eq_true_eq, decide_eq_false_iff_not, not_or, Bool.false_eq_true, Bool.true_eq_false, false_or, or_false, not_false_eq_true] at gp_21
      refine Wx.gnoB rfl rfl (congrArg Value.bool g_16) rfl rfl ?_
      refine Wx.gnoB rfl rfl (congrArg Value.bool g_16) rfl rfl ?_
      refine Wx.gnoB rfl rfl (congrArg Value.bool g_16) rfl rfl ?_
      refine Wx.gnoB rfl rfl (congrArg Value.bool g_16) rfl rfl ?_
      refine Wx.gnoB rfl rfl (congrArg Value.bool g_16) rfl rfl ?_
      refine Wx.rd (v := .bool false) (rd_pickF (congrArg Value.bool g_16) rfl) rfl ?_
      refine Wx.nil ⟨(), hS, ⟨?_, trivial⟩, Out.look rfl Out.refl⟩
      show Value.bool false = Value.bool (!(hasS p n) && !(ss.any (badS p n)))
      first | rw [g_16, Bool.false_and] | (rw [g_16]; rfl)
  rintro ⟨⟩ u_23 w_22 hS
  refine Wx.rd (v := .bool (!(hasS p n) && !(ss.any (badS p n)))) (rd_assign rfl) rfl ?_
  refine Wx.nil ?_
  have e0_0 : (mayB ss p n) = (!(hasS p n) && !(ss.any (badS p n))) := by rfl
  exact W.ret ⟨.bool (!(hasS p n) && !(ss.any (badS p n))), ResIs.one, hS.bel, (by rw [e0_0])⟩
end Go.Proofs.YtodcppoglpfodaaGreatDoor

namespace Go.Proofs.YtodcppoglpfodaaGreatDoor
open Go.Wk Go.RowKit Go.Lib
set_option linter.unusedVariables false
set_option linter.unusedSimpArgs false
theorem foSb_232_0 : fldOff Tryz.prog 232 0 = some 0 := by kernel_rfl
theorem elSb_23 : ElemI Tryz.prog 23 3 (.int .i64 0) 1 8 := ElemI.of Tryz.underlying23 (by kernel_rfl) (by first | rfl | kernel_rfl) (by decide)
theorem mixedSb_ : Tryz.prog.follows .mixedOrders = true := by kernel_rfl

theorem C3.F136 {L : Int} {sv : Value} {ss : List Int} {Fr_sv : List (Option Nat)} {w : World} (i_L : InK .i64 L) (h_sv : V (tSl (tI .u8)) ss sv Fr_sv w) (p_1 : 1 ≤ L) (p_7 : L ≤ 7) : Calls Tryz.prog 136 #[.agg #[.int .i64 L, sv]] w (Ret w (fun r w' => ∃ ev, r = ev ∧ Fresh (tI .i64) 3 (endT L ss) ev w.heap.size w')) := by
  have b_L := bd_i64 i_L
  have hpw := powI_bd p_1 p_7
  have hpn := powI_nat L
  have a_sv := h_sv.any
  have l_sv := h_sv.len63
  have hS := St.start0 w
  refine enterR Tryz.func136 rfl Tryz.ntmps136 Tryz.results136 rfl ?_
  refine W.seq ?_
  refine W.reg ?_
  refine Wx.box (cs := [.int .i64 L, sv]) hS rfl rfl rfl (fun g_1 w_2 hx_4 hb_3 hS => ?_)
  refine Wx.rd (v := (.slice none 0 0)) (rd_assign rfl) rfl ?_
  refine Wx.nil ?_
  refine W.seq ?_
  refine W.reg ?_
  refine Wx.rd (v := .pointer (some ⟨g_1, 0, none⟩)) (rd_fieldAddr rfl foSb_232_0) rfl ?_
  refine Wx.rd (v := .int .i64 L) (rd_loadX hS 0 rfl rfl rfl Tryz.isAgg3) rfl ?_
  refine Wx.rd (v := .int .i64 (powI L)) (Rd.to (v := .int .i64 (IntKind.i64.wrap (1 * 2 ^ min L.toNat (IntKind.i64).bits))) (rd_shl rfl rfl (by omega)) (congrArg (Value.int .i64) (show (powI L : Int) = (IntKind.i64.wrap (1 * 2 ^ min L.toNat (IntKind.i64).bits) : Int) from (shl_powI (by omega) (by omega)).symm).symm)) rfl ?_
  have bd_5 := bd_i64 (wrap_inK .i64 (1 * 2 ^ min L.toNat (IntKind.i64).bits))
  refine Wx.make (t := (tI .i64)) (zy := (0 : Int)) (m := (2 ^ L.toNat)) elSb_23 rfl rfl (fun _ _ => ⟨rfl, by decide, by decide⟩) hS (congrArg (Value.int .i64) hpn) (congrArg (Value.int .i64) hpn) (by omega) (by simp only [maxLen]; omega) rfl (fun v_6 w_7 hx_8 hS => ?_)
  refine Wx.rd (v := v_6) (rd_assign rfl) rfl ?_
  refine Wx.nil ?_
  refine W.seq ?_
  refine W.reg ?_
  refine Wx.rd (v := v_6) (rd_move rfl) rfl ?_
  refine Wx.rd (v := v_6) (rd_move rfl) rfl ?_
  have hrl : (List.replicate (2 ^ L.toNat) (0 : Int)).length = 2 ^ L.toNat := by simp
  refine Wx.rd (v := .int .i64 ((List.replicate (2 ^ L.toNat) (0 : Int)).length : Int)) (rd_lenR hS 0 rfl rfl Tryz.underlying23) rfl ?_
  refine Wx.rd (v := .int .i64 (((List.replicate (2 ^ L.toNat) (0 : Int)).length : Int) - 1)) (rd_sub rfl rfl (in_i64 (by omega) (by omega))) rfl ?_
  refine Wx.indexR hS 0 rfl rfl rfl Tryz.underlying23 Tryz.sizeOf3 (by first | omega | (simp only [List.length_set, List.length_append, List.length_cons, List.length_nil, List.length_replicate]; omega)) (by first | omega | (simp only [List.length_set, List.length_append, List.length_cons, List.length_nil, List.length_replicate]; omega)) rfl (fun g_11 hg_12 => ?_)
  refine Wx.storeR (j := (((List.replicate (2 ^ L.toNat) (0 : Int)).length : Int) - 1).toNat) (z := 1) hS 0 rfl hg_12 rfl (by first | omega | (simp only [List.length_set, List.length_append, List.length_cons, List.length_nil, List.length_replicate]; omega)) rfl (V.mkInt (in_i64 (by omega) (by omega))) Tryz.sizeOf3 (fun w_13 hz_14 hS => ?_)
  have hS := hS.spell (ys' := fillE L.toNat ss (powI L - 2)) 0 rfl (by rw [fill_start (L := L.toNat) (fs := ss) (by omega) (by simp)]; congr 1; omega)
  refine Wx.nil ?_
  refine W.seq ?_
  refine W.seq ?_
  refine W.reg ?_
  refine Wx.rd (v := v_6) (rd_move rfl) rfl ?_
  have hle := fillE_len L.toNat ss (powI L - 2)
  refine Wx.rd (v := .int .i64 ((fillE L.toNat ss (powI L - 2)).length : Int)) (rd_lenR hS 0 rfl rfl Tryz.underlying23) rfl ?_
  refine Wx.rd (v := .int .i64 (((fillE L.toNat ss (powI L - 2)).length : Int) - 2)) (rd_sub rfl rfl (in_i64 (by omega) (by omega))) rfl ?_
  refine Wx.rd (v := .int .i64 (((fillE L.toNat ss (powI L - 2)).length : Int) - 2)) (rd_assign rfl) rfl ?_
  refine Wx.nil ?_
  refine W.block ?_
  refine W.loop [4, 5, 18, 19, 20, 21, 22, 23, 24, 25, 26, 27, 28, 29, 30, 31, 32, 33, 34, 35, 36, 37, 38, 39, 40, 41, 42, 43, 44, 45] (fun x : Int × (List Int) => match x with | (p, out) => [(4, .int .i64 p)]) (fun (x : Int × (List Int)) w' => match x with | (p, out) => St w [] w' [.row (tI .i64) 3 v_6 out, .box g_1 232 [.int .i64 L, sv]] ∧ -1 ≤ p ∧ p ≤ powI L - 2 ∧ out = fillE L.toNat ss p ∧ (out.length : Int) = powI L) (fun x : Int × (List Int) => match x with | (p, out) => (p + 1).toNat) (((fillE L.toNat ss (powI L - 2)).length : Int) - 2, fillE L.toNat ss (powI L - 2)) ⟨rfl, trivial⟩ ⟨hS, (by omega), (by omega), (by congr 1; omega), (by omega)⟩ ?_
  rintro ⟨p, out⟩ u_16 w_15 ⟨hS, g0m, g1, g2, g3⟩
  refine W.seq ?_
  refine W.seq ?_
  refine W.reg ?_
  refine Wx.rd (v := .int .i64 p) (rd_move rfl) rfl ?_
  refine Wx.rd (v := .bool (decide (0 ≤ p))) (rd_geq rfl rfl) rfl ?_
  refine Wx.nil ?_
  refine W.condD rfl (fun c0 => ?_) (fun c0 => ?_)
  · -- yes
    refine W.skip ?_
    refine W.seq ?_
    refine W.block ?_
    refine W.seq ?_
    refine W.reg ?_
    refine Wx.rd (v := .pointer (some ⟨g_1, 0, none⟩)) (rd_fieldAddr rfl foSb_232_0) rfl ?_
    refine Wx.rd (v := .int .i64 L) (rd_loadX hS 1 rfl rfl rfl Tryz.isAgg3) rfl ?_
    refine Wx.rd (v := .int .i64 0) (rd_move rfl) rfl ?_
    refine Wx.nil ?_
    refine W.block ?_
    refine W.loop [5, 24, 25, 26, 27, 28, 29, 30, 31, 32, 33, 34, 35, 36, 37, 38, 39, 40, 41, 42, 43, 44, 45] (fun x : Int × (List Int) => match x with | (k, out) => [(24, .int .i64 k)]) (fun (x : Int × (List Int)) w' => match x with | (k, out) => St w [] w' [.row (tI .i64) 3 v_6 out, .box g_1 232 [.int .i64 L, sv]] ∧ 0 ≤ k ∧ k ≤ L ∧ out = (fillE L.toNat ss p).set p.toNat (sumE L.toNat ss p k.toNat) ∧ (out.length : Int) = powI L) (fun x : Int × (List Int) => match x with | (k, out) => (L - k).toNat) (0, out) ⟨rfl, trivial⟩ ⟨hS, (by first | omega | simp), (by first | omega | simp), (by rw [g2]; exact (fill_set0 c0).symm), (g3)⟩ ?_
    rintro ⟨k, out⟩ u_18 w_17 ⟨hS, h0, h1, h2, h3⟩
    refine W.seq ?_
    refine W.reg ?_
    refine Wx.rd (v := .bool (decide (k < L))) (rd_lss rfl rfl) rfl ?_
    refine Wx.nil ?_
    refine W.seq ?_
    refine W.condD rfl (fun c1 => ?_) (fun c1 => ?_)
    · -- yes
      refine W.skip ?_
      refine W.seq ?_
      refine W.block ?_
      refine W.seq ?_
      refine W.reg ?_
      refine Wx.rd (v := .int .i64 k) (rd_move rfl) rfl ?_
      refine Wx.rd (v := .int .i64 k) (rd_assign rfl) rfl ?_
      refine Wx.nil ?_
      refine W.seq ?_
      refine W.reg ?_
      refine Wx.rd (v := .agg #[.int .i64 L, sv]) (rd_loadXs (ds := [.int .i64 L, sv]) hS 1 rfl rfl rfl rfl Tryz.isAgg232 Tryz.sizeOf232) rfl ?_
      refine Wx.rd (v := .int .i64 p) (rd_move rfl) rfl ?_
      refine Wx.rd (v := .int .u8 p) (rd_convIn rfl Tryz.underlying3 Tryz.underlying236 (in_u8 (by omega) (by omega))) rfl ?_
      refine Wx.rd (v := .int .i64 k) (rd_move rfl) rfl ?_
      refine Wx.callF (run_callF Tryz.call137 rfl) (C3.F137 i_L (hS.arg a_sv) (in_u8 (by omega) (by omega)) (in_i64 (by omega) (by omega)) (by omega)) rfl ?_
      rintro r_19 w_20 hx_21 rfl
      have hS := hS.ext hx_21
      refine Wx.nil ?_
      refine W.cond rfl (fun c2 => ?_) (fun c2 => ?_)
      · -- yes
        try simp only [Bool.and_eq_true, Bool.or_eq_true, Bool.not_eq_true', Bool.and_eq_false_iff, Bool.or_eq_false_iff, Bool.not_eq_false', decide_eq_true_eq, decide_eq_false_iff_not, not_or, Bool.false_eq_true, Bool.true_eq_false, false_or, or_false, not_false_eq_true] at c2
        refine W.regT 13 mixedSb_ (by kernel_rfl) ?_
        refine Wx.rd (v := v_6) (rd_move rfl) rfl ?_
        refine Wx.rd (v := .int .i64 p) (rd_move rfl) rfl ?_
        have hll := fillE_len L.toNat ss p
        have hlt := orI_lt (n := k) p_1 p_7 c0 (by omega) h0 (by omega)
        have hof := orI_facts (n := k) c0 (by omega) h0 (by omega) (mayB_not c2)
        have ho : ix 0 out p = sumE L.toNat ss p k.toNat := by rw [h2]; exact set_ix_self c0 (by omega)
        have hoo : ix 0 out (orI p k) = endE L.toNat ss (orI p k) := by rw [h2, set_ix_ne c0 (by omega) (by omega), fillE_ix (by omega) (by rw [hpn] at hlt; simpa using hlt), if_pos hof.1]
        have hs1 := sumE_bd (L := L.toNat) (fs := ss) (by omega) p (k := k.toNat) (by omega)
        have hs2 := endE_bd (L := L.toNat) (fs := ss) (by omega) (orI p k)
        refine Wx.indexR hS 0 rfl rfl rfl Tryz.underlying23 Tryz.sizeOf3 (by first | omega | (simp only [List.length_set, List.length_append, List.length_cons, List.length_nil, List.length_replicate]; omega)) (by first | omega | (simp only [List.length_set, List.length_append, List.length_cons, List.length_nil, List.length_replicate]; omega)) rfl (fun g_22 hg_23 => ?_)
        refine Wx.rd (v := .int .i64 (ix 0 out p)) (rd_loadRI' hS 0 rfl hg_23 rfl (by first | omega | (simp only [List.length_set, List.length_append, List.length_cons, List.length_nil, List.length_replicate]; omega)) (by first | omega | (simp only [List.length_set, List.length_append, List.length_cons, List.length_nil, List.length_replicate]; omega)) Tryz.isAgg3 Tryz.sizeOf3) rfl ?_
        have bd_24 := bd_i64 (hS.rowInK' 0 rfl (by first | omega | (simp only [List.length_set, List.length_append, List.length_cons, List.length_nil, List.length_replicate]; omega)) (by first | omega | (simp only [List.length_set, List.length_append, List.length_cons, List.length_nil, List.length_replicate]; omega)) : InK .i64 (ix 0 out p))
        refine Wx.rd (v := v_6) (rd_move rfl) rfl ?_
        refine Wx.rd (v := .int .i64 p) (rd_move rfl) rfl ?_
        refine Wx.rd (v := .int .i64 k) (rd_move rfl) rfl ?_
        refine Wx.rd (v := .int .i64 (IntKind.i64.wrap (1 * 2 ^ min k.toNat (IntKind.i64).bits))) (rd_shl rfl rfl (by omega)) rfl ?_
        have bd_25 := bd_i64 (wrap_inK .i64 (1 * 2 ^ min k.toNat (IntKind.i64).bits))
        refine Wx.rd (v := .int .i64 (orI p k)) (Rd.to (v := .int .i64 (bits .or .i64 p (IntKind.i64.wrap (1 * 2 ^ min k.toNat (IntKind.i64).bits)))) (rd_or rfl rfl) (congrArg (Value.int .i64) (show (orI p k : Int) = (bits .or .i64 p (IntKind.i64.wrap (1 * 2 ^ min k.toNat (IntKind.i64).bits)) : Int) from rfl).symm)) rfl ?_
        have bd_26 := bd_i64 (bits_in .or .i64 p (IntKind.i64.wrap (1 * 2 ^ min k.toNat (IntKind.i64).bits)))
        refine Wx.indexR hS 0 rfl rfl rfl Tryz.underlying23 Tryz.sizeOf3 (by first | omega | (simp only [List.length_set, List.length_append, List.length_cons, List.length_nil, List.length_replicate]; omega)) (by first | omega | (simp only [List.length_set, List.length_append, List.length_cons, List.length_nil, List.length_replicate]; omega)) rfl (fun g_27 hg_28 => ?_)
        refine Wx.rd (v := .int .i64 (ix 0 out (orI p k))) (rd_loadRI' hS 0 rfl hg_28 rfl (by first | omega | (simp only [List.length_set, List.length_append, List.length_cons, List.length_nil, List.length_replicate]; omega)) (by first | omega | (simp only [List.length_set, List.length_append, List.length_cons, List.length_nil, List.length_replicate]; omega)) Tryz.isAgg3 Tryz.sizeOf3) rfl ?_
        have bd_29 := bd_i64 (hS.rowInK' 0 rfl (by first | omega | (simp only [List.length_set, List.length_append, List.length_cons, List.length_nil, List.length_replicate]; omega)) (by first | omega | (simp only [List.length_set, List.length_append, List.length_cons, List.length_nil, List.length_replicate]; omega)) : InK .i64 (ix 0 out (orI p k)))
        refine Wx.rd (v := .int .i64 ((ix 0 out p) + (ix 0 out (orI p k)))) (rd_add rfl rfl (in_i64 (by omega) (by omega))) rfl ?_
        refine Wx.indexR hS 0 rfl rfl rfl Tryz.underlying23 Tryz.sizeOf3 (by first | omega | (simp only [List.length_set, List.length_append, List.length_cons, List.length_nil, List.length_replicate]; omega)) (by first | omega | (simp only [List.length_set, List.length_append, List.length_cons, List.length_nil, List.length_replicate]; omega)) rfl (fun g_30 hg_31 => ?_)
        refine Wx.nilQ (fun w_32 hx_33 => ?_)
        have hS := hS.ext hx_33
        refine Wx.storeR (j := p.toNat) (z := (ix 0 out p) + (ix 0 out (orI p k))) hS 0 rfl hg_31 rfl (by first | omega | (simp only [List.length_set, List.length_append, List.length_cons, List.length_nil, List.length_replicate]; omega)) rfl (V.mkInt (in_i64 (by omega) (by omega))) Tryz.sizeOf3 (fun w_34 hz_35 hS => ?_)
        refine Wx.nil ?_
        refine W.reg ?_
        refine Wx.rd (v := .int .i64 (k + 1)) (rd_add rfl rfl (in_i64 (by omega) (by omega))) rfl ?_
        refine Wx.rd (v := .int .i64 (k + 1)) (rd_move rfl) rfl ?_
        refine Wx.nil ?_
        refine ⟨(k + 1, List.set out p.toNat ((ix 0 out p) + (ix 0 out (orI p k)))), (by show (L - (k + 1)).toNat < (L - k).toNat; omega), ?_, ?_, Out.look rfl Out.self⟩
        · exact ⟨hS, (by first | omega | assumption), (by first | omega | assumption), (by rw [ho, hoo, sumE_succ h0, if_pos c2, h2, List.set_set]), (by rw [List.length_set]; exact h3)⟩
        · exact ⟨rfl, trivial⟩
      · -- no
        try simp only [Bool.and_eq_true, Bool.or_eq_true, Bool.not_eq_true', Bool.and_eq_false_iff, Bool.or_eq_false_iff, Bool.not_eq_false', decide_eq_true_eq, decide_eq_false_iff_not, not_or, Bool.false_eq_true, Bool.true_eq_false, false_or, or_false, not_false_eq_true] at c2
        refine W.skip ?_
        refine W.reg ?_
        refine Wx.rd (v := .int .i64 (k + 1)) (rd_add rfl rfl (in_i64 (by omega) (by omega))) rfl ?_
        refine Wx.rd (v := .int .i64 (k + 1)) (rd_move rfl) rfl ?_
        refine Wx.nil ?_
        refine ⟨(k + 1, out), (by show (L - (k + 1)).toNat < (L - k).toNat; omega), ?_, ?_, Out.look rfl Out.self⟩
        · exact ⟨hS, (by first | omega | assumption), (by first | omega | assumption), (by rw [sumE_succ h0, if_neg (by simp [c2]), Int.add_zero]; exact h2), (h3)⟩
        · exact ⟨rfl, trivial⟩
    · -- no
      refine W.exit rfl ?_
      refine W.reg ?_
      refine Wx.rd (v := .int .i64 p) (rd_move rfl) rfl ?_
      refine Wx.rd (v := .int .i64 (p - 1)) (rd_sub rfl rfl (in_i64 (by omega) (by omega))) rfl ?_
      refine Wx.rd (v := .int .i64 (p - 1)) (rd_assign rfl) rfl ?_
      refine Wx.nil ?_
      refine ⟨(p - 1, out), (by show ((p - 1) + 1).toNat < (p + 1).toNat; omega), ?_, ?_, Out.look rfl (Out.hav rfl (Out.look rfl Out.self))⟩
      · exact ⟨hS, (by first | omega | assumption), (by first | omega | assumption), (by rw [h2, show k.toNat = L.toNat by omega, fill_next (by omega) c0 (by omega)]), (h3)⟩
      · exact ⟨rfl, trivial⟩
  · -- no
    refine W.exit rfl ?_
    refine W.seq ?_
    refine W.reg ?_
    refine Wx.rd (v := v_6) (rd_move rfl) rfl ?_
    refine Wx.rd (v := v_6) (rd_assign rfl) rfl ?_
    refine Wx.nil ?_
    have e0_0 : endT L ss = out := by rw [endT, g2]; congr 1; omega
    exact W.ret ⟨v_6, ResIs.one, hS.bel, ⟨v_6, rfl, (by rw [e0_0]; exact (hS.fr 0 rfl flat_int))⟩⟩
end Go.Proofs.YtodcppoglpfodaaGreatDoor

namespace Go.Proofs.YtodcppoglpfodaaGreatDoor
open Go.Wk Go.RowKit Go.Lib
set_option linter.unusedVariables false
set_option linter.unusedSimpArgs false
theorem foSc_232_0 : fldOff Tryz.prog 232 0 = some 0 := by kernel_rfl
theorem elSc_23 : ElemI Tryz.prog 23 3 (.int .i64 0) 1 8 := ElemI.of Tryz.underlying23 (by kernel_rfl) (by first | rfl | kernel_rfl) (by decide)

theorem C3.F117 {L : Int} {fv : Value} {fs : List (List Int)} {Fr_fv : List (Option Nat)} {w : World} (i_L : InK .i64 L) (h_fv : V (tSl (tSl (tI .i64))) fs fv Fr_fv w) : Calls Tryz.prog 117 #[.agg #[.int .i64 L, fv]] w (Ret w (fun r w' => ∃ rv, r = .tuple #[rv, .int .i64 (firstE L fs)] ∧ Fresh (tI .i64) 3 (firstL L fs) rv w.heap.size w')) := by
  have b_L := bd_i64 i_L
  have a_fv := h_fv.any
  have l_fv := h_fv.len63
  have hS := St.start0 w
  refine enterR Tryz.func117 rfl Tryz.ntmps117 Tryz.results117 rfl ?_
  refine W.seq ?_
  refine W.reg ?_
  refine Wx.box (cs := [.int .i64 L, fv]) hS rfl rfl rfl (fun g_1 w_2 hx_4 hb_3 hS => ?_)
  refine Wx.rd (v := (.slice none 0 0)) (rd_assign rfl) rfl ?_
  refine Wx.rd (v := .int .i64 0) (rd_assign rfl) rfl ?_
  refine Wx.nil ?_
  refine W.seq ?_
  refine W.reg ?_
  refine Wx.rd (v := .agg #[.int .i64 L, fv]) (rd_loadXs (ds := [.int .i64 L, fv]) hS 0 rfl rfl rfl rfl Tryz.isAgg213 Tryz.sizeOf213) rfl ?_
  refine Wx.callF (run_callF Tryz.call135 rfl) (C3.F135 i_L (hS.arg a_fv) hS.fb_lt) rfl ?_
  rintro r_5 w_6 hx_7 ⟨v_8, rfl, hv_9⟩
  have ln_11 := hv_9.len63
  have hS := hS.ext hx_7
  have hS := hS.add hv_9
  refine Wx.rd (v := .tuple #[.agg #[.int .i64 (openL L fs), v_8], .int .i64 (checkE L fs)]) (rd_move rfl) rfl ?_
  refine Wx.rd (v := .agg #[.int .i64 (openL L fs), v_8]) (rd_extract rfl rfl) rfl ?_
  refine Wx.rd (v := .int .i64 (checkE L fs)) (rd_extract rfl rfl) rfl ?_
  refine Wx.alloc (cs := [.int .i64 0, (.slice none 0 0)]) hS Tryz.zeroValue232 rfl rfl (fun g_12 w_13 hx_15 hb_14 hS => ?_)
  refine Wx.storeX (cs' := [.int .i64 (openL L fs), v_8]) (ds := [.int .i64 (openL L fs), v_8]) hS 0 rfl rfl rfl rfl Tryz.sizeOf232 (Nat.le_of_ble_eq_true rfl) (one_cons rfl (one_cons (V.oneC (hS.v 1 rfl)) one_nil)) rfl (fun w_16 hz_17 hS => ?_)
  refine Wx.rd (v := .int .i64 (checkE L fs)) (rd_assign rfl) rfl ?_
  refine Wx.nil ?_
  refine W.seq ?_
  refine W.seq ?_
  refine W.reg ?_
  refine Wx.rd (v := .int .i64 (checkE L fs)) (rd_move rfl) rfl ?_
  refine Wx.rd (v := .bool (decide ((checkE L fs) ≠ 0))) (rd_neq rfl rfl) rfl ?_
  refine Wx.nil ?_
  refine W.condD rfl (fun c0 => ?_) (fun c0 => ?_)
  · -- yes
    refine W.seq ?_
    refine W.reg ?_
    refine Wx.rd (v := .int .i64 (checkE L fs)) (rd_move rfl) rfl ?_
    refine Wx.rd (v := (.slice none 0 0)) (rd_assign rfl) rfl ?_
    refine Wx.rd (v := .int .i64 (checkE L fs)) (rd_assign rfl) rfl ?_
    refine Wx.nil ?_
    have hE : firstE L fs = checkE L fs := by rw [firstE, if_pos (by omega)]
    have hl : firstL L fs = [] := by rw [firstL, if_neg (by omega)]
    have e0_0 : firstL L fs = [] := by exact hl
    have e0_1 : (firstE L fs) = (checkE L fs : Int) := by exact hE
    exact W.ret ⟨.tuple #[(.slice none 0 0), .int .i64 (checkE L fs)], ResIs.two, hS.bel, ⟨(.slice none 0 0), (by rw [e0_1]), (by rw [e0_0]; exact ((hS.addNil (tI .i64) 3).fr 0 rfl flat_int))⟩⟩
  · -- no
    have hc : checkE L fs = 0 := by omega
    have ho := openL_ok hc
    have hpw := powI_bd (L := openL L fs) (by omega) (by omega)
    have hel := endT_len (openL L fs) (openS L fs)
    have he0 := endT0 (L := openL L fs) (openS L fs) (by omega) (by omega)
    refine W.skip ?_
    refine W.seq ?_
    refine W.reg ?_
    refine Wx.rd (v := .agg #[.int .i64 (openL L fs), v_8]) (rd_loadXs (ds := [.int .i64 (openL L fs), v_8]) hS 0 rfl rfl rfl rfl Tryz.isAgg232 Tryz.sizeOf232) rfl ?_
    refine Wx.callF (run_callF Tryz.call136 rfl) (C3.F136 (in_i64 (by omega) (by omega)) (hS.v 1 rfl) (by omega) (by omega)) rfl ?_
    rintro r_18 w_19 hx_20 ⟨_, rfl, hv_21⟩
    have hS := hS.pushFr hx_20 hv_21
    refine Wx.rd (v := r_18) (rd_assign rfl) rfl ?_
    refine Wx.nil ?_
    refine W.seq ?_
    refine W.seq ?_
    refine W.reg ?_
    refine Wx.rd (v := r_18) (rd_move rfl) rfl ?_
    refine Wx.indexR hS 0 rfl rfl rfl Tryz.underlying23 Tryz.sizeOf3 (by first | omega | (simp only [List.length_set, List.length_append, List.length_cons, List.length_nil, List.length_replicate]; omega)) (by first | omega | (simp only [List.length_set, List.length_append, List.length_cons, List.length_nil, List.length_replicate]; omega)) rfl (fun g_23 hg_24 => ?_)
    refine Wx.rd (v := .int .i64 (ix 0 (endT (openL L fs) (openS L fs)) 0)) (rd_loadRI' hS 0 rfl hg_24 rfl (by first | omega | (simp only [List.length_set, List.length_append, List.length_cons, List.length_nil, List.length_replicate]; omega)) (by first | omega | (simp only [List.length_set, List.length_append, List.length_cons, List.length_nil, List.length_replicate]; omega)) Tryz.isAgg3 Tryz.sizeOf3) rfl ?_
    have bd_25 := bd_i64 (hS.rowInK' 0 rfl (by first | omega | (simp only [List.length_set, List.length_append, List.length_cons, List.length_nil, List.length_replicate]; omega)) (by first | omega | (simp only [List.length_set, List.length_append, List.length_cons, List.length_nil, List.length_replicate]; omega)) : InK .i64 (ix 0 (endT (openL L fs) (openS L fs)) 0))
    refine Wx.rd (v := .bool (decide ((ix 0 (endT (openL L fs) (openS L fs)) 0) = 0))) (rd_eql rfl rfl) rfl ?_
    refine Wx.nil ?_
    refine W.condD rfl (fun c1 => ?_) (fun c1 => ?_)
    · -- yes
      refine W.seq ?_
      refine W.reg ?_
      refine Wx.rd (v := (.slice none 0 0)) (rd_assign rfl) rfl ?_
      refine Wx.rd (v := .int .i64 12) (rd_assign rfl) rfl ?_
      refine Wx.nil ?_
      have hE : firstE L fs = 12 := by rw [firstE, if_neg (by omega), ← ho.1, ← ho.2.1, if_pos (by omega)]
      have hl : firstL L fs = [] := by rw [firstL, if_neg (by omega)]
      have e1_0 : firstL L fs = [] := by exact hl
      have e1_1 : (firstE L fs) = (12 : Int) := by exact hE
      exact W.ret ⟨.tuple #[(.slice none 0 0), .int .i64 12], ResIs.two, hS.bel, ⟨(.slice none 0 0), (by rw [e1_1]), (by rw [e1_0]; exact ((hS.addNil (tI .i64) 3).fr 0 rfl flat_int))⟩⟩
    · -- no
      have hE : firstE L fs = 0 := by rw [firstE, if_neg (by omega), ← ho.1, ← ho.2.1, if_neg (by omega)]
      refine W.skip ?_
      refine W.seq ?_
      refine W.reg ?_
      refine Wx.rd (v := .pointer (some ⟨g_12, 0, none⟩)) (rd_fieldAddr rfl foSc_232_0) rfl ?_
      refine Wx.rd (v := .int .i64 (openL L fs)) (rd_loadX hS 1 rfl rfl rfl Tryz.isAgg3) rfl ?_
      obtain ⟨n_29, hn_30⟩ : ∃ n_29 : Nat, (openL L fs : Int) = (n_29 : Int) := ⟨(openL L fs).toNat, by omega⟩
      refine Wx.make0 (t := (tI .i64)) (m := n_29) elSc_23 hS rfl (congrArg (Value.int .i64) hn_30) (by omega) (by simp only [maxLen]; omega) rfl (fun v_26 w_27 hx_28 hS => ?_)
      refine Wx.rd (v := v_26) (rd_assign rfl) rfl ?_
      refine Wx.nil ?_
      refine W.seq ?_
      refine W.reg ?_
      refine Wx.rd (v := .int .u8 0) (rd_assign rfl) rfl ?_
      refine Wx.nil ?_
      refine W.seq ?_
      refine W.seq ?_
      refine W.reg ?_
      refine Wx.rd (v := .pointer (some ⟨g_12, 0, none⟩)) (rd_fieldAddr rfl foSc_232_0) rfl ?_
      refine Wx.rd (v := .int .i64 (openL L fs)) (rd_loadX hS 2 rfl rfl rfl Tryz.isAgg3) rfl ?_
      refine Wx.rd (v := .int .i64 0) (rd_move rfl) rfl ?_
      refine Wx.nil ?_
      refine W.block ?_
      refine W.loop [7, 8, 9, 29, 30, 31, 32, 33, 34, 35, 36, 37, 38, 39, 40, 41, 42, 43, 44, 45, 46, 47, 48, 49, 50, 51, 52, 53, 54, 55, 56, 57] (fun x : Int × Int × Value × (List Int) => match x with | (q, i, xv, out) => [(8, .int .u8 q), (29, .int .i64 i), (7, xv)]) (fun (x : Int × Int × Value × (List Int)) w' => match x with | (q, i, xv, out) => St w [] w' [.row (tI .i64) 3 xv out, .row (tI .i64) 3 r_18 (endT (openL L fs) (openS L fs)), .box g_12 232 [.int .i64 (openL L fs), v_8], Ob.v (tSl (tI .u8)) (openS L fs) v_8, .box g_1 213 [.int .i64 L, fv]] ∧ 0 ≤ i ∧ i ≤ openL L fs ∧ firstG (openL L fs) (openS L fs) (openL L fs - i).toNat q out = firstG (openL L fs) (openS L fs) (openL L fs).toNat 0 [] ∧ (out.length : Int) ≤ i ∧ 0 ≤ q ∧ q < powI (openL L fs)) (fun x : Int × Int × Value × (List Int) => match x with | (q, i, xv, out) => (openL L fs - i).toNat) (0, 0, v_26, []) ⟨rfl, rfl, rfl, trivial⟩ ⟨hS, (by first | omega | simp), (by first | omega | simp), (by simp), (by simp), (by first | omega | simp), (by first | omega | simp)⟩ ?_
      rintro ⟨q, i, xv, out⟩ u_32 w_31 ⟨hS, h0, h1, h2, h3, h4, h5⟩
      refine W.seq ?_
      refine W.reg ?_
      refine Wx.rd (v := .bool (decide (i < (openL L fs)))) (rd_lss rfl rfl) rfl ?_
      refine Wx.nil ?_
      refine W.seq ?_
      refine W.condD rfl (fun c2 => ?_) (fun c2 => ?_)
      · -- yes
        refine W.skip ?_
        refine W.seq ?_
        refine W.block ?_
        refine W.seq ?_
        refine W.reg ?_
        refine Wx.rd (v := .pointer (some ⟨g_12, 0, none⟩)) (rd_fieldAddr rfl foSc_232_0) rfl ?_
        refine Wx.rd (v := .int .i64 (openL L fs)) (rd_loadX hS 2 rfl rfl rfl Tryz.isAgg3) rfl ?_
        refine Wx.rd (v := .int .i64 0) (rd_move rfl) rfl ?_
        refine Wx.nil ?_
        refine W.block ?_
        refine W.loop [7, 8, 9, 33, 34, 35, 36, 37, 38, 39, 40, 41, 42, 43, 44, 45, 46, 47, 48, 49, 50, 51, 52, 53, 54, 55, 56] (fun (j : Int) => [(8, .int .u8 q), (33, .int .i64 j), (7, xv)]) (fun (j : Int) w' => St w [] w' [.row (tI .i64) 3 xv out, .row (tI .i64) 3 r_18 (endT (openL L fs) (openS L fs)), .box g_12 232 [.int .i64 (openL L fs), v_8], Ob.v (tSl (tI .u8)) (openS L fs) v_8, .box g_1 213 [.int .i64 L, fv]] ∧ 0 ≤ j ∧ j ≤ openL L fs ∧ pickF (openL L fs) (openS L fs) q (openL L fs - j).toNat = pickF (openL L fs) (openS L fs) q (openL L fs).toNat) (fun (j : Int) => (openL L fs - j).toNat) 0 ⟨rfl, rfl, rfl, trivial⟩ ⟨hS, (by first | omega | simp), (by first | omega | simp), (by simp)⟩ ?_
        rintro j u_34 w_33 ⟨hS, g0, g1, g2⟩
        refine W.seq ?_
        refine W.reg ?_
        refine Wx.rd (v := .bool (decide (j < (openL L fs)))) (rd_lss rfl rfl) rfl ?_
        refine Wx.nil ?_
        refine W.seq ?_
        refine W.condD rfl (fun c3 => ?_) (fun c3 => ?_)
        · -- yes
          refine W.skip ?_
          refine W.seq ?_
          refine W.block ?_
          refine W.seq ?_
          refine W.reg ?_
          refine Wx.rd (v := .int .i64 j) (rd_move rfl) rfl ?_
          refine Wx.rd (v := .int .i64 j) (rd_assign rfl) rfl ?_
          refine Wx.nil ?_
          refine W.seq ?_
          refine W.reg ?_
          refine Wx.rd (v := .agg #[.int .i64 (openL L fs), v_8]) (rd_loadXs (ds := [.int .i64 (openL L fs), v_8]) hS 2 rfl rfl rfl rfl Tryz.isAgg232 Tryz.sizeOf232) rfl ?_
          refine Wx.rd (v := .int .u8 q) (rd_move rfl) rfl ?_
          refine Wx.rd (v := .int .i64 j) (rd_move rfl) rfl ?_
          refine Wx.callF (run_callF Tryz.call137 rfl) (C3.F137 (in_i64 (by omega) (by omega)) (hS.v 3 rfl) (in_u8 (by omega) (by omega)) (in_i64 (by omega) (by omega)) (by omega)) rfl ?_
          rintro r_35 w_36 hx_37 rfl
          have hS := hS.ext hx_37
          refine Wx.rd (v := .bool (mayB (openS L fs) q j)) (rd_move rfl) rfl ?_
          refine Wx.cut (X := Unit) 8 [41, 42, 43, 44, 45, 46, 47, 48] (fun _ => [(48, .bool (mayB (openS L fs) q j && decide (0 < (ix 0 (endT (openL L fs) (openS L fs)) (withS q j)))))]) (fun _ w' => St w [] w' [.row (tI .i64) 3 xv out, .row (tI .i64) 3 r_18 (endT (openL L fs) (openS L fs)), .box g_12 232 [.int .i64 (openL L fs), v_8], Ob.v (tSl (tI .u8)) (openS L fs) v_8, .box g_1 213 [.int .i64 L, fv]]) ?_ ?_
          · rcases Bool.eq_false_or_eq_true (mayB (openS L fs) q j) with g_38 | g_38
            · -- True
              have gp_39 := g_38
              try simp only [Bool.and_eq_true, Bool.or_eq_true, Bool.not_eq_true', Bool.and_eq_false_iff, Bool.or_eq_false_iff, Bool.not_eq_false', decide_eq_true_eq, decide_eq_false_iff_not, not_or, Bool.false_eq_true, Bool.true_eq_false, false_or, or_false, not_false_eq_true] at gp_39
              refine Wx.gyes rfl rfl (congrArg Value.bool g_38) ?_
              refine Wx.rd (v := r_18) (rd_move rfl) rfl ?_
              refine Wx.gyes rfl rfl (congrArg Value.bool g_38) ?_
              refine Wx.rd (v := .int .u8 q) (rd_move rfl) rfl ?_
              refine Wx.gyes rfl rfl (congrArg Value.bool g_38) ?_
              refine Wx.rd (v := .int .i64 j) (rd_move rfl) rfl ?_
              refine Wx.gyes rfl rfl (congrArg Value.bool g_38) ?_
              refine Wx.callF (run_callF Tryz.call138 rfl) (C3.F138 (in_u8 (by omega) (by omega)) (in_i64 (by omega) (by omega)) (by omega)) rfl ?_
              rintro r_40 w_41 hx_42 rfl
              have hS := hS.ext hx_42
              have in_43 := bd_u8 (withS_in q j)
              refine Wx.gyes rfl rfl (congrArg Value.bool g_38) ?_
              have hw := withS_lt (L := openL L fs) (p := q) (n := j) (by omega) (by omega) (by omega) (by omega) (by omega) (by omega)
              refine Wx.indexR hS 1 rfl rfl rfl Tryz.underlying23 Tryz.sizeOf3 (by first | omega | (simp only [List.length_set, List.length_append, List.length_cons, List.length_nil, List.length_replicate]; omega)) (by first | omega | (simp only [List.length_set, List.length_append, List.length_cons, List.length_nil, List.length_replicate]; omega)) rfl (fun g_44 hg_45 => ?_)
              refine Wx.gyes rfl rfl (congrArg Value.bool g_38) ?_
              refine Wx.rd (v := .int .i64 (ix 0 (endT (openL L fs) (openS L fs)) (withS q j))) (rd_loadRI' hS 1 rfl hg_45 rfl (by first | omega | (simp only [List.length_set, List.length_append, List.length_cons, List.length_nil, List.length_replicate]; omega)) (by first | omega | (simp only [List.length_set, List.length_append, List.length_cons, List.length_nil, List.length_replicate]; omega)) Tryz.isAgg3 Tryz.sizeOf3) rfl ?_
              have bd_46 := bd_i64 (hS.rowInK' 1 rfl (by first | omega | (simp only [List.length_set, List.length_append, List.length_cons, List.length_nil, List.length_replicate]; omega)) (by first | omega | (simp only [List.length_set, List.length_append, List.length_cons, List.length_nil, List.length_replicate]; omega)) : InK .i64 (ix 0 (endT (openL L fs) (openS L fs)) (withS q j)))
              refine Wx.gyes rfl rfl (congrArg Value.bool g_38) ?_
              refine Wx.rd (v := .bool (decide (0 < (ix 0 (endT (openL L fs) (openS L fs)) (withS q j))))) (rd_gtr rfl rfl) rfl ?_
              refine Wx.rd (v := .bool (decide (0 < (ix 0 (endT (openL L fs) (openS L fs)) (withS q j))))) (rd_pickT (congrArg Value.bool g_38) rfl) rfl ?_
              refine Wx.nil ⟨(), hS, ⟨?_, trivial⟩, Out.look rfl Out.refl⟩
              show Value.bool (decide (0 < (ix 0 (endT (openL L fs) (openS L fs)) (withS q j)))) = Value.bool (mayB (openS L fs) q j && decide (0 < (ix 0 (endT (openL L fs) (openS L fs)) (withS q j))))
              first | rw [g_38, Bool.true_and] | (rw [g_38]; rfl)
            · -- False
              have gp_47 := g_38
              try simp only [Bool.and_eq_true, Bool.or_eq_true, Bool.not_eq_true', Bool.and_eq_false_iff, Bool.or_eq_false_iff, Bool.not_eq_false', decide_eq_true_eq, decide_eq_false_iff_not, not_or, Bool.false_eq_true, Bool.true_eq_false, false_or, or_false, not_false_eq_true] at gp_47
              refine Wx.gnoB rfl rfl (congrArg Value.bool g_38) rfl rfl ?_
              refine Wx.gnoB rfl rfl (congrArg Value.bool g_38) rfl rfl ?_
              refine Wx.gnoB rfl rfl (congrArg Value.bool g_38) rfl rfl ?_
              refine Wx.gnoB rfl rfl (congrArg Value.bool g_38) rfl rfl ?_
              refine Wx.gnoB rfl rfl (congrArg Value.bool g_38) rfl rfl ?_
              refine Wx.gnoB rfl rfl (congrArg Value.bool g_38) rfl rfl ?_
              refine Wx.gnoB rfl rfl (congrArg Value.bool g_38) rfl rfl ?_
              refine Wx.rd (v := .bool false) (rd_pickF (congrArg Value.bool g_38) rfl) rfl ?_
              refine Wx.nil ⟨(), hS, ⟨?_, trivial⟩, Out.look rfl Out.refl⟩
              show Value.bool false = Value.bool (mayB (openS L fs) q j && decide (0 < (ix 0 (endT (openL L fs) (openS L fs)) (withS q j))))
              first | rw [g_38, Bool.false_and] | (rw [g_38]; rfl)
          rintro ⟨⟩ u_49 w_48 hS
          refine Wx.nil ?_
          refine W.cond rfl (fun c4 => ?_) (fun c4 => ?_)
          · -- yes
            try simp only [Bool.and_eq_true, Bool.or_eq_true, Bool.not_eq_true', Bool.and_eq_false_iff, Bool.or_eq_false_iff, Bool.not_eq_false', decide_eq_true_eq, decide_eq_false_iff_not, not_or, Bool.false_eq_true, Bool.true_eq_false, false_or, or_false, not_false_eq_true] at c4
            refine W.seq ?_
            refine W.reg ?_
            refine Wx.rd (v := xv) (rd_move rfl) rfl ?_
            refine Wx.rd (v := .int .i64 j) (rd_move rfl) rfl ?_
            refine Wx.lit (t := (tI .i64)) (ys := [j]) (vs := [.int .i64 j]) elSc_23 hS rfl rfl ⟨(V.mkInt (in_i64 (by omega) (by omega))), trivial⟩ (by decide) rfl (fun v_50 w_51 hx_52 hS => ?_)
            refine Wx.append elSc_23 hS 1 rfl rfl rfl (Src.ofR hS 0 rfl) (by simp only [maxLen]; first | omega | (simp; omega) | simp) (by first | omega | (simp; omega) | simp) rfl (fun v_53 w_54 hz_55 hS => ?_)
            refine Wx.rd (v := .int .u8 q) (rd_move rfl) rfl ?_
            refine Wx.rd (v := .int .i64 j) (rd_move rfl) rfl ?_
            have hw := withS_lt (L := openL L fs) (p := q) (n := j) (by omega) (by omega) (by omega) (by omega) (by omega) (by omega)
            refine Wx.callF (run_callF Tryz.call138 rfl) (C3.F138 (in_u8 (by omega) (by omega)) (in_i64 (by omega) (by omega)) (by omega)) rfl ?_
            rintro r_56 w_57 hx_58 rfl
            have hS := hS.ext hx_58
            have in_59 := bd_u8 (withS_in q j)
            refine Wx.rd (v := v_53) (rd_assign rfl) rfl ?_
            refine Wx.rd (v := .int .u8 (withS q j)) (rd_assign rfl) rfl ?_
            refine Wx.nil ?_
            refine W.exit rfl ?_
            refine W.reg ?_
            refine Wx.rd (v := .int .i64 (i + 1)) (rd_add rfl rfl (in_i64 (by omega) (by omega))) rfl ?_
            refine Wx.rd (v := .int .i64 (i + 1)) (rd_move rfl) rfl ?_
            refine Wx.nil ?_
            refine ⟨(withS q j, i + 1, v_53, out ++ [j]), (by show (openL L fs - (i + 1)).toNat < (openL L fs - i).toNat; omega), ?_, ?_, Out.look rfl (Out.hav rfl (Out.look rfl (Out.hav rfl (Out.look rfl Out.self))))⟩
            · exact ⟨hS.tl, (by first | omega | assumption), (by first | omega | assumption), (by rw [← h2, show (openL L fs - i).toNat = (openL L fs - (i + 1)).toNat + 1 by omega, firstG, ← g2, show (openL L fs - j).toNat = (openL L fs - (j + 1)).toNat + 1 by omega, pickF, show openL L fs - (((openL L fs - (j + 1)).toNat : Nat) + 1 : Int) = j by omega, if_pos ⟨c4.1, by omega⟩]), (by simp; omega), (by first | omega | assumption), (by first | omega | assumption)⟩
            · exact ⟨rfl, rfl, rfl, trivial⟩
          · -- no
            try simp only [Bool.and_eq_true, Bool.or_eq_true, Bool.not_eq_true', Bool.and_eq_false_iff, Bool.or_eq_false_iff, Bool.not_eq_false', decide_eq_true_eq, decide_eq_false_iff_not, not_or, Bool.false_eq_true, Bool.true_eq_false, false_or, or_false, not_false_eq_true] at c4
            refine W.skip ?_
            refine W.reg ?_
            refine Wx.rd (v := .int .i64 (j + 1)) (rd_add rfl rfl (in_i64 (by omega) (by omega))) rfl ?_
            refine Wx.rd (v := .int .i64 (j + 1)) (rd_move rfl) rfl ?_
            refine Wx.nil ?_
            refine ⟨j + 1, (by show (openL L fs - (j + 1)).toNat < (openL L fs - j).toNat; omega), ?_, ?_, Out.look rfl (Out.hav rfl (Out.look rfl Out.self))⟩
            · exact ⟨hS, (by first | omega | assumption), (by first | omega | assumption), (by rw [← g2, show (openL L fs - j).toNat = (openL L fs - (j + 1)).toNat + 1 by omega, pickF, show openL L fs - (((openL L fs - (j + 1)).toNat : Nat) + 1 : Int) = j by omega, if_neg (by intro hh; rcases c4 with c4 | c4; { rw [hh.1] at c4; cases c4 }; omega)])⟩
            · exact ⟨rfl, rfl, rfl, trivial⟩
        · -- no
          refine W.exit rfl ?_
          refine W.reg ?_
          refine Wx.rd (v := .int .i64 (i + 1)) (rd_add rfl rfl (in_i64 (by omega) (by omega))) rfl ?_
          refine Wx.rd (v := .int .i64 (i + 1)) (rd_move rfl) rfl ?_
          refine Wx.nil ?_
          refine ⟨(q, i + 1, xv, out), (by show (openL L fs - (i + 1)).toNat < (openL L fs - i).toNat; omega), ?_, ?_, Out.look rfl (Out.hav rfl (Out.look rfl Out.self))⟩
          · exact ⟨hS, (by first | omega | assumption), (by first | omega | assumption), (by rw [← h2, show (openL L fs - i).toNat = (openL L fs - (i + 1)).toNat + 1 by omega, firstG, ← g2, show (openL L fs - j).toNat = 0 by omega, pickF]), (by first | omega | assumption), (by first | omega | assumption), (by first | omega | assumption)⟩
          · exact ⟨rfl, rfl, rfl, trivial⟩
      · -- no
        refine W.exit rfl ?_
        refine W.seq ?_
        refine W.reg ?_
        refine Wx.rd (v := xv) (rd_move rfl) rfl ?_
        refine Wx.rd (v := xv) (rd_assign rfl) rfl ?_
        refine Wx.rd (v := .int .i64 0) (rd_assign rfl) rfl ?_
        refine Wx.nil ?_
        have hl : firstL L fs = out := by rw [firstL, if_pos hE, ← ho.1, ← ho.2.1, ← h2, show (openL L fs - i).toNat = 0 by omega, firstG]
        have e2_0 : firstL L fs = out := by exact hl
        have e2_1 : (firstE L fs) = (0 : Int) := by exact hE
        exact W.ret ⟨.tuple #[xv, .int .i64 0], ResIs.two, hS.bel, ⟨xv, (by rw [e2_1]), (by rw [e2_0]; exact (hS.fr 0 rfl flat_int))⟩⟩
end Go.Proofs.YtodcppoglpfodaaGreatDoor

namespace Go.Proofs.YtodcppoglpfodaaGreatDoor
open Go.Wk Go.RowKit Go.Lib
set_option linter.unusedVariables false
set_option linter.unusedSimpArgs false
theorem foYa_209_0 : fldOff Tryz.prog 209 0 = some 0 := by kernel_rfl
theorem foYa_209_1 : fldOff Tryz.prog 209 1 = some 1 := by kernel_rfl
theorem foYa_209_2 : fldOff Tryz.prog 209 2 = some 2 := by kernel_rfl

theorem F142 {lo : Int} {n : Int} {hi : Int} {w : World} (i_lo : InK .i64 lo) (i_n : InK .i64 n) (i_hi : InK .i64 hi) : Calls Tryz.prog 142 #[.int .i64 lo, .int .i64 n, .int .i64 hi] w (Ret w (fun r _ => r = .bool (decide (lo ≤ n) && decide (n ≤ hi)))) := by
  have b_hi := bd_i64 i_hi
  have b_n := bd_i64 i_n
  have b_lo := bd_i64 i_lo
  have hS := St.start0 w
  refine enterR Tryz.func142 rfl Tryz.ntmps142 Tryz.results142 rfl ?_
  refine W.seq ?_
  refine W.reg ?_
  refine Wx.rd (v := .bool false) (rd_assign rfl) rfl ?_
  refine Wx.nil ?_
  refine W.seq ?_
  refine W.reg ?_
  refine Wx.rd (v := .int .i64 lo) (rd_move rfl) rfl ?_
  refine Wx.rd (v := .int .i64 n) (rd_move rfl) rfl ?_
  refine Wx.rd (v := .bool (decide (lo ≤ n))) (rd_leq rfl rfl) rfl ?_
  refine Wx.rd (v := .bool (decide (lo ≤ n))) (rd_move rfl) rfl ?_
  refine Wx.cut (X := Unit) 4 [11, 12, 13, 14] (fun _ => [(14, .bool (decide (lo ≤ n) && decide (n ≤ hi)))]) (fun _ w' => St w [] w' []) ?_ ?_
  · rcases Bool.eq_false_or_eq_true (decide (lo ≤ n)) with g_1 | g_1
    · -- True
      have gp_2 := of_decide_eq_true g_1
      refine Wx.gyes rfl rfl (congrArg Value.bool g_1) ?_
      refine Wx.rd (v := .int .i64 n) (rd_move rfl) rfl ?_
      refine Wx.gyes rfl rfl (congrArg Value.bool g_1) ?_
      refine Wx.rd (v := .int .i64 hi) (rd_move rfl) rfl ?_
      refine Wx.gyes rfl rfl (congrArg Value.bool g_1) ?_
      refine Wx.rd (v := .bool (decide (n ≤ hi))) (rd_leq rfl rfl) rfl ?_
      refine Wx.rd (v := .bool (decide (n ≤ hi))) (rd_pickT (congrArg Value.bool g_1) rfl) rfl ?_
      refine Wx.nil ⟨(), hS, ⟨?_, trivial⟩, Out.look rfl Out.refl⟩
      show Value.bool (decide (n ≤ hi)) = Value.bool (decide (lo ≤ n) && decide (n ≤ hi))
      first | rw [g_1, Bool.true_and] | (rw [g_1]; rfl)
    · -- False
      have gp_3 := of_decide_eq_false g_1
      refine Wx.gnoB rfl rfl (congrArg Value.bool g_1) rfl rfl ?_
      refine Wx.gnoB rfl rfl (congrArg Value.bool g_1) rfl rfl ?_
      refine Wx.gnoB rfl rfl (congrArg Value.bool g_1) rfl rfl ?_
      refine Wx.rd (v := .bool false) (rd_pickF (congrArg Value.bool g_1) rfl) rfl ?_
      refine Wx.nil ⟨(), hS, ⟨?_, trivial⟩, Out.look rfl Out.refl⟩
      show Value.bool false = Value.bool (decide (lo ≤ n) && decide (n ≤ hi))
      first | rw [g_1, Bool.false_and] | (rw [g_1]; rfl)
  rintro ⟨⟩ u_5 w_4 hS
  refine Wx.rd (v := .bool (decide (lo ≤ n) && decide (n ≤ hi))) (rd_assign rfl) rfl ?_
  refine Wx.nil ?_
  exact W.ret ⟨.bool (decide (lo ≤ n) && decide (n ≤ hi)), ResIs.one, hS.bel, rfl⟩

theorem F144 {h : Int} {w : World} (i_h : InK .i64 h) : Calls Tryz.prog 144 #[.int .i64 h] w (Ret w (fun r _ => r = .bool (badH h))) := by
  have b_h := bd_i64 i_h
  have hS := St.start0 w
  refine enterR Tryz.func144 rfl Tryz.ntmps144 Tryz.results144 rfl ?_
  refine W.seq ?_
  refine W.reg ?_
  refine Wx.rd (v := .bool false) (rd_assign rfl) rfl ?_
  refine Wx.nil ?_
  refine W.seq ?_
  refine W.reg ?_
  refine Wx.rd (v := .int .i64 h) (rd_move rfl) rfl ?_
  refine Wx.callF (run_callF Tryz.call142 rfl) (F142 (in_i64 (by omega) (by omega)) i_h (in_i64 (by omega) (by omega))) rfl ?_
  rintro r_1 w_2 hx_3 rfl
  have hS := hS.ext hx_3
  refine Wx.rd (v := .bool (!(decide (0 ≤ h) && decide (h ≤ 30)))) (rd_not rfl) rfl ?_
  refine Wx.rd (v := .bool (!(decide (0 ≤ h) && decide (h ≤ 30)))) (rd_assign rfl) rfl ?_
  refine Wx.nil ?_
  have e0_0 : (badH h) = (!(decide (0 ≤ h) && decide (h ≤ 30))) := by rfl
  exact W.ret ⟨.bool (!(decide (0 ≤ h) && decide (h ≤ 30))), ResIs.one, hS.bel, (by rw [e0_0])⟩

theorem FIw {xv : Value} {xs : List Int} {Fr_xv : List (Option Nat)} {w : World} (h_xv : V (tSl (tI .i64)) xs xv Fr_xv w) : Calls Tryz.prog 149 #[xv, .func (.func 144) #[] #[]] w (Ret w (fun r _ => r = .int .i64 (idxP badH 0 xs))) := by
  have a_xv := h_xv.any
  have l_xv := h_xv.len63
  have hS := St.start0 w
  refine enterR Tryz.func149 rfl Tryz.ntmps149 Tryz.results149 rfl ?_
  refine W.seq ?_
  refine W.reg ?_
  refine Wx.rd (v := .int .i64 0) (rd_assign rfl) rfl ?_
  refine Wx.nil ?_
  refine W.seq ?_
  refine W.seq ?_
  refine W.reg ?_
  refine Wx.rd (v := xv) (rd_move rfl) rfl ?_
  refine Wx.rd (v := .int .i64 (xs.length : Int)) (rd_lenV rfl (hS.arg a_xv) Tryz.underlying23) rfl ?_
  refine Wx.rd (v := .int .i64 0) (rd_move rfl) rfl ?_
  refine Wx.nil ?_
  refine W.block ?_
  refine W.loop [4, 5, 8, 9, 10, 11, 12, 13, 14, 15, 16, 17, 18] (fun (k : Int) => [(8, .int .i64 k)]) (fun (k : Int) w' => St w [] w' [] ∧ 0 ≤ k ∧ k ≤ xs.length ∧ idxP badH k (xs.drop k.toNat) = idxP badH 0 xs) (fun (k : Int) => (xs.length - k).toNat) 0 ⟨rfl, trivial⟩ ⟨hS, (by first | omega | simp), (by first | omega | simp), (by simp)⟩ ?_
  rintro k u_2 w_1 ⟨hS, h0, h1, h2⟩
  refine W.seq ?_
  refine W.reg ?_
  refine Wx.rd (v := .bool (decide (k < (xs.length : Int)))) (rd_lss rfl rfl) rfl ?_
  refine Wx.nil ?_
  refine W.seq ?_
  refine W.condD rfl (fun c0 => ?_) (fun c0 => ?_)
  · -- yes
    refine W.skip ?_
    refine W.seq ?_
    refine W.block ?_
    refine W.seq ?_
    refine W.reg ?_
    refine Wx.rd (v := .int .i64 k) (rd_move rfl) rfl ?_
    refine Wx.rd (v := .int .i64 k) (rd_assign rfl) rfl ?_
    refine Wx.nil ?_
    refine W.seq ?_
    refine W.reg ?_
    refine Wx.rd (v := .func (.func 144) #[] #[]) (rd_move rfl) rfl ?_
    refine Wx.rd (v := xv) (rd_move rfl) rfl ?_
    refine Wx.rd (v := .int .i64 k) (rd_move rfl) rfl ?_
    refine Wx.ex (rd_index 0 (hS.arg a_xv) rfl rfl Tryz.underlying23 Tryz.sizeOf3 (by first | omega | (simp only [List.length_set, List.length_append, List.length_cons, List.length_nil, List.length_replicate]; omega)) (by first | omega | (simp only [List.length_set, List.length_append, List.length_cons, List.length_nil, List.length_replicate]; omega))) rfl (fun p_3 hp_4 => ?_)
    refine Wx.rd (v := .int .i64 (ix 0 xs k)) (rd_loadI hp_4 rfl Tryz.isAgg3 Tryz.sizeOf3) rfl ?_
    have bd_5 := bd_i64 hp_4.inK
    refine Wx.callF (run_callC (fs := []) (cs := []) (vs := [.int .i64 (ix 0 xs k)]) Tryz.call144 rfl rfl) (F144 (in_i64 (by omega) (by omega))) rfl ?_
    rintro r_6 w_7 hx_8 rfl
    have hS := hS.ext hx_8
    refine Wx.nil ?_
    refine W.cond rfl (fun c1 => ?_) (fun c1 => ?_)
    · -- yes
      try simp only [Bool.and_eq_true, Bool.or_eq_true, Bool.not_eq_true', Bool.and_eq_false_iff, Bool.or_eq_false_iff, Bool.not_eq_false', decide_eq_true_eq, decide_eq_false_iff_not, not_or, Bool.false_eq_true, Bool.true_eq_false, false_or, or_false, not_false_eq_true] at c1
      refine W.seq ?_
      refine W.reg ?_
      refine Wx.rd (v := .int .i64 k) (rd_move rfl) rfl ?_
      refine Wx.rd (v := .int .i64 k) (rd_assign rfl) rfl ?_
      refine Wx.nil ?_
      have e0_0 : (idxP badH 0 xs) = (k : Int) := by exact idxP_here h0 c0 h2 c1
      exact W.ret ⟨.int .i64 k, ResIs.one, hS.bel, (by rw [e0_0])⟩
    · -- no
      try simp only [Bool.and_eq_true, Bool.or_eq_true, Bool.not_eq_true', Bool.and_eq_false_iff, Bool.or_eq_false_iff, Bool.not_eq_false', decide_eq_true_eq, decide_eq_false_iff_not, not_or, Bool.false_eq_true, Bool.true_eq_false, false_or, or_false, not_false_eq_true] at c1
      refine W.skip ?_
      refine W.reg ?_
      refine Wx.rd (v := .int .i64 (k + 1)) (rd_add rfl rfl (in_i64 (by omega) (by omega))) rfl ?_
      refine Wx.rd (v := .int .i64 (k + 1)) (rd_move rfl) rfl ?_
      refine Wx.nil ?_
      refine ⟨k + 1, (by show (xs.length - (k + 1)).toNat < (xs.length - k).toNat; omega), ?_, ?_, Out.look rfl Out.self⟩
      · exact ⟨hS, (by first | omega | assumption), (by first | omega | assumption), (idxP_step h0 c0 h2 c1)⟩
      · exact ⟨rfl, trivial⟩
  · -- no
    refine W.exit rfl ?_
    refine W.seq ?_
    refine W.reg ?_
    refine Wx.rd (v := .int .i64 (-1)) (rd_assign rfl) rfl ?_
    refine Wx.nil ?_
    have e1_0 : (idxP badH 0 xs) = (-1 : Int) := by exact idxP_out (by omega) h2
    exact W.ret ⟨.int .i64 (-1), ResIs.one, hS.bel, (by rw [e1_0])⟩

theorem F143 {xv : Value} {xs : List Int} {Fr_xv : List (Option Nat)} {w : World} (h_xv : V (tSl (tI .i64)) xs xv Fr_xv w) : Calls Tryz.prog 143 #[xv, .func (.func 144) #[] #[]] w (Ret w (fun r _ => r = .bool (xs.any badH))) := by
  have a_xv := h_xv.any
  have l_xv := h_xv.len63
  have hS := St.start0 w
  refine enterR Tryz.func143 rfl Tryz.ntmps143 Tryz.results143 rfl ?_
  refine W.seq ?_
  refine W.reg ?_
  refine Wx.rd (v := .bool false) (rd_assign rfl) rfl ?_
  refine Wx.nil ?_
  refine W.seq ?_
  refine W.reg ?_
  refine Wx.rd (v := xv) (rd_move rfl) rfl ?_
  refine Wx.rd (v := .func (.func 144) #[] #[]) (rd_move rfl) rfl ?_
  refine Wx.callF (run_callF Tryz.call149 rfl) (FIw (hS.arg a_xv)) rfl ?_
  rintro r_1 w_2 hx_3 rfl
  have hS := hS.ext hx_3
  have ib_4 := idxP_bd badH xs 0 (Int.le_refl 0)
  refine Wx.rd (v := .bool (decide (0 ≤ (idxP badH 0 xs)))) (rd_geq rfl rfl) rfl ?_
  refine Wx.rd (v := .bool (decide (0 ≤ (idxP badH 0 xs)))) (rd_assign rfl) rfl ?_
  refine Wx.nil ?_
  have e0_0 : (xs.any badH) = (decide (0 ≤ (idxP badH 0 xs))) := by exact (idxP_any _ _ _ (by omega)).symm
  exact W.ret ⟨.bool (decide (0 ≤ (idxP badH 0 xs))), ResIs.one, hS.bel, (by rw [e0_0])⟩

set_option maxHeartbeats 1000000 in
theorem F131 {R : Int} {C : Int} {hv : Value} {H : List Int} {Fr_hv : List (Option Nat)} {w : World} (i_R : InK .i64 R) (i_C : InK .i64 C) (h_hv : V (tSl (tI .i64)) H hv Fr_hv w) : Calls Tryz.prog 131 #[.agg #[.int .i64 R, .int .i64 C, hv]] w (Ret w (fun r _ => r = .int .i64 (checkS R C H))) := by
  have b_C := bd_i64 i_C
  have b_R := bd_i64 i_R
  have a_hv := h_hv.any
  have l_hv := h_hv.len63
  have hS := St.start0 w
  refine enterR Tryz.func131 rfl Tryz.ntmps131 Tryz.results131 rfl ?_
  refine W.seq ?_
  refine W.reg ?_
  refine Wx.box (cs := [.int .i64 R, .int .i64 C, hv]) hS rfl rfl rfl (fun g_1 w_2 hx_4 hb_3 hS => ?_)
  refine Wx.rd (v := .int .i64 0) (rd_assign rfl) rfl ?_
  refine Wx.nil ?_
  refine W.seq ?_
  refine W.block ?_
  refine W.seq ?_
  refine W.reg ?_
  refine Wx.rd (v := .pointer (some ⟨g_1, 0, none⟩)) (rd_fieldAddr rfl foYa_209_0) rfl ?_
  refine Wx.rd (v := .int .i64 R) (rd_loadX hS 0 rfl rfl rfl Tryz.isAgg3) rfl ?_
  refine Wx.callF (run_callF Tryz.call142 rfl) (F142 (in_i64 (by omega) (by omega)) i_R (in_i64 (by omega) (by omega))) rfl ?_
  rintro r_5 w_6 hx_7 rfl
  have hS := hS.ext hx_7
  refine Wx.rd (v := .bool (!(decide (1 ≤ R) && decide (R ≤ 6)))) (rd_not rfl) rfl ?_
  refine Wx.rd (v := .bool (!(decide (1 ≤ R) && decide (R ≤ 6)))) (rd_move rfl) rfl ?_
  refine Wx.cut (X := Unit) 5 [9, 10, 11, 12, 13] (fun _ => [(13, .bool (!(decide (1 ≤ R) && decide (R ≤ 6)) || !(decide (1 ≤ C) && decide (C ≤ 6))))]) (fun _ w' => St w [] w' [.box g_1 209 [.int .i64 R, .int .i64 C, hv]]) ?_ ?_
  · rcases Bool.eq_false_or_eq_true (!(decide (1 ≤ R) && decide (R ≤ 6))) with g_8 | g_8
    · -- True
      have gp_9 := g_8
      try simp only [Bool.and_eq_true, Bool.or_eq_true, Bool.not_eq_true', Bool.and_eq_false_iff, Bool.or_eq_false_iff, Bool.not_eq_false', decide_eq_true_eq, decide_eq_false_iff_not, not_or, Bool.false_eq_true, Bool.true_eq_false, false_or, or_false, not_false_eq_true] at gp_9
      refine Wx.gnoB rfl rfl (congrArg Value.bool g_8) rfl rfl ?_
      refine Wx.gnoB rfl rfl (congrArg Value.bool g_8) rfl rfl ?_
      refine Wx.gnoB rfl rfl (congrArg Value.bool g_8) rfl rfl ?_
      refine Wx.gnoB rfl rfl (congrArg Value.bool g_8) rfl rfl ?_
      refine Wx.rd (v := .bool true) (rd_pickT (congrArg Value.bool g_8) rfl) rfl ?_
      refine Wx.nil ⟨(), hS, ⟨?_, trivial⟩, Out.look rfl Out.refl⟩
      show Value.bool true = Value.bool (!(decide (1 ≤ R) && decide (R ≤ 6)) || !(decide (1 ≤ C) && decide (C ≤ 6)))
      first | rw [g_8, Bool.true_or] | (rw [g_8]; rfl)
    · -- False
      have gp_10 := g_8
      try simp only [Bool.and_eq_true, Bool.or_eq_true, Bool.not_eq_true', Bool.and_eq_false_iff, Bool.or_eq_false_iff, Bool.not_eq_false', decide_eq_true_eq, decide_eq_false_iff_not, not_or, Bool.false_eq_true, Bool.true_eq_false, false_or, or_false, not_false_eq_true] at gp_10
      refine Wx.gyes rfl rfl (congrArg Value.bool g_8) ?_
      refine Wx.rd (v := .pointer (some ⟨g_1, 1, none⟩)) (rd_fieldAddr rfl foYa_209_1) rfl ?_
      refine Wx.gyes rfl rfl (congrArg Value.bool g_8) ?_
      refine Wx.rd (v := .int .i64 C) (rd_loadX hS 0 rfl rfl rfl Tryz.isAgg3) rfl ?_
      refine Wx.gyes rfl rfl (congrArg Value.bool g_8) ?_
      refine Wx.callF (run_callF Tryz.call142 rfl) (F142 (in_i64 (by omega) (by omega)) i_C (in_i64 (by omega) (by omega))) rfl ?_
      rintro r_11 w_12 hx_13 rfl
      have hS := hS.ext hx_13
      refine Wx.gyes rfl rfl (congrArg Value.bool g_8) ?_
      refine Wx.rd (v := .bool (!(decide (1 ≤ C) && decide (C ≤ 6)))) (rd_not rfl) rfl ?_
      refine Wx.rd (v := .bool (!(decide (1 ≤ C) && decide (C ≤ 6)))) (rd_pickF (congrArg Value.bool g_8) rfl) rfl ?_
      refine Wx.nil ⟨(), hS, ⟨?_, trivial⟩, Out.look rfl Out.refl⟩
      show Value.bool (!(decide (1 ≤ C) && decide (C ≤ 6))) = Value.bool (!(decide (1 ≤ R) && decide (R ≤ 6)) || !(decide (1 ≤ C) && decide (C ≤ 6)))
      first | rw [g_8, Bool.false_or] | (rw [g_8]; rfl)
  rintro ⟨⟩ u_15 w_14 hS
  refine Wx.rd (v := .bool (!(decide (1 ≤ R) && decide (R ≤ 6)) || !(decide (1 ≤ C) && decide (C ≤ 6)))) (rd_assign rfl) rfl ?_
  refine Wx.nil ?_
  refine W.cond rfl (fun c0 => ?_) (fun c0 => ?_)
  · -- yes
    try simp only [Bool.and_eq_true, Bool.or_eq_true, Bool.not_eq_true', Bool.and_eq_false_iff, Bool.or_eq_false_iff, Bool.not_eq_false', decide_eq_true_eq, decide_eq_false_iff_not, not_or, Bool.false_eq_true, Bool.true_eq_false, false_or, or_false, not_false_eq_true] at c0
    refine W.seq ?_
    refine W.reg ?_
    refine Wx.rd (v := .int .i64 1) (rd_assign rfl) rfl ?_
    refine Wx.nil ?_
    have e0_0 : (checkS R C H) = (1 : Int) := by exact check_range (by omega)
    exact W.ret ⟨.int .i64 1, ResIs.one, hS.bel, (by rw [e0_0])⟩
  · -- no
    try simp only [Bool.and_eq_true, Bool.or_eq_true, Bool.not_eq_true', Bool.and_eq_false_iff, Bool.or_eq_false_iff, Bool.not_eq_false', decide_eq_true_eq, decide_eq_false_iff_not, not_or, Bool.false_eq_true, Bool.true_eq_false, false_or, or_false, not_false_eq_true] at c0
    refine W.seq ?_
    refine W.reg ?_
    refine Wx.rd (v := .pointer (some ⟨g_1, 2, none⟩)) (rd_fieldAddr rfl foYa_209_2) rfl ?_
    refine Wx.rd (v := hv) (rd_loadX hS 0 rfl rfl rfl Tryz.isAgg23) rfl ?_
    refine Wx.rd (v := .int .i64 (H.length : Int)) (rd_lenV rfl (hS.arg a_hv) Tryz.underlying23) rfl ?_
    refine Wx.rd (v := .pointer (some ⟨g_1, 0, none⟩)) (rd_fieldAddr rfl foYa_209_0) rfl ?_
    refine Wx.rd (v := .int .i64 R) (rd_loadX hS 0 rfl rfl rfl Tryz.isAgg3) rfl ?_
    refine Wx.rd (v := .pointer (some ⟨g_1, 1, none⟩)) (rd_fieldAddr rfl foYa_209_1) rfl ?_
    refine Wx.rd (v := .int .i64 C) (rd_loadX hS 0 rfl rfl rfl Tryz.isAgg3) rfl ?_
    have hmul : 0 ≤ R * C ∧ R * C ≤ 36 := mul36 (by omega) (by omega)
    refine Wx.rd (v := .int .i64 (R * C)) (rd_mul rfl rfl (in_i64 (by omega) (by omega))) rfl ?_
    refine Wx.rd (v := .bool (decide ((H.length : Int) ≠ (R * C)))) (rd_neq rfl rfl) rfl ?_
    refine Wx.rd (v := .bool (decide ((H.length : Int) ≠ (R * C)))) (rd_assign rfl) rfl ?_
    refine Wx.nil ?_
    refine W.condD rfl (fun c1 => ?_) (fun c1 => ?_)
    · -- yes
      refine W.seq ?_
      refine W.reg ?_
      refine Wx.rd (v := .int .i64 5) (rd_assign rfl) rfl ?_
      refine Wx.nil ?_
      have e1_0 : (checkS R C H) = (5 : Int) := by exact check_shape (by omega) (by omega)
      exact W.ret ⟨.int .i64 5, ResIs.one, hS.bel, (by rw [e1_0])⟩
    · -- no
      refine W.seq ?_
      refine W.reg ?_
      refine Wx.rd (v := .pointer (some ⟨g_1, 2, none⟩)) (rd_fieldAddr rfl foYa_209_2) rfl ?_
      refine Wx.rd (v := hv) (rd_loadX hS 0 rfl rfl rfl Tryz.isAgg23) rfl ?_
      refine Wx.callF (run_callF Tryz.call143 rfl) (F143 (hS.arg a_hv)) rfl ?_
      rintro r_16 w_17 hx_18 rfl
      have hS := hS.ext hx_18
      refine Wx.rd (v := .bool (H.any badH)) (rd_assign rfl) rfl ?_
      refine Wx.nil ?_
      refine W.cond rfl (fun c2 => ?_) (fun c2 => ?_)
      · -- yes
        try simp only [Bool.and_eq_true, Bool.or_eq_true, Bool.not_eq_true', Bool.and_eq_false_iff, Bool.or_eq_false_iff, Bool.not_eq_false', decide_eq_true_eq, decide_eq_false_iff_not, not_or, Bool.false_eq_true, Bool.true_eq_false, false_or, or_false, not_false_eq_true] at c2
        have hg : (1 ≤ R ∧ R ≤ 6) ∧ (1 ≤ C ∧ C ≤ 6) := by omega
        refine W.seq ?_
        refine W.reg ?_
        refine Wx.rd (v := .int .i64 1) (rd_assign rfl) rfl ?_
        refine Wx.nil ?_
        have e2_0 : (checkS R C H) = (1 : Int) := by rw [check_any (by omega) (by omega), if_pos c2]
        exact W.ret ⟨.int .i64 1, ResIs.one, hS.bel, (by rw [e2_0])⟩
      · -- no
        try simp only [Bool.and_eq_true, Bool.or_eq_true, Bool.not_eq_true', Bool.and_eq_false_iff, Bool.or_eq_false_iff, Bool.not_eq_false', decide_eq_true_eq, decide_eq_false_iff_not, not_or, Bool.false_eq_true, Bool.true_eq_false, false_or, or_false, not_false_eq_true] at c2
        refine W.skip ?_
        refine W.seq ?_
        refine W.reg ?_
        refine Wx.rd (v := .int .i64 0) (rd_assign rfl) rfl ?_
        refine Wx.nil ?_
        have e3_0 : (checkS R C H) = (0 : Int) := by rw [check_any (by omega) (by omega), if_neg (by rw [c2]; decide)]
        exact W.ret ⟨.int .i64 0, ResIs.one, hS.bel, (by rw [e3_0])⟩

theorem F134 {R : Int} {C : Int} {hv : Value} {H : List Int} {Fr_hv : List (Option Nat)} {w : World} (i_R : InK .i64 R) (i_C : InK .i64 C) (h_hv : V (tSl (tI .i64)) H hv Fr_hv w) : Calls Tryz.prog 134 #[.agg #[.int .i64 R, .int .i64 C, hv]] w (Ret w (fun r _ => r = .int .i64 (H.length : Int))) := by
  have b_C := bd_i64 i_C
  have b_R := bd_i64 i_R
  have a_hv := h_hv.any
  have l_hv := h_hv.len63
  have hS := St.start0 w
  refine enterR Tryz.func134 rfl Tryz.ntmps134 Tryz.results134 rfl ?_
  refine W.seq ?_
  refine W.reg ?_
  refine Wx.box (cs := [.int .i64 R, .int .i64 C, hv]) hS rfl rfl rfl (fun g_1 w_2 hx_4 hb_3 hS => ?_)
  refine Wx.rd (v := .int .i64 0) (rd_assign rfl) rfl ?_
  refine Wx.nil ?_
  refine W.seq ?_
  refine W.reg ?_
  refine Wx.rd (v := .pointer (some ⟨g_1, 2, none⟩)) (rd_fieldAddr rfl foYa_209_2) rfl ?_
  refine Wx.rd (v := hv) (rd_loadX hS 0 rfl rfl rfl Tryz.isAgg23) rfl ?_
  refine Wx.rd (v := .int .i64 (H.length : Int)) (rd_lenV rfl (hS.arg a_hv) Tryz.underlying23) rfl ?_
  refine Wx.rd (v := .int .i64 (H.length : Int)) (rd_assign rfl) rfl ?_
  refine Wx.nil ?_
  exact W.ret ⟨.int .i64 (H.length : Int), ResIs.one, hS.bel, rfl⟩
end Go.Proofs.YtodcppoglpfodaaGreatDoor

namespace Go.Proofs.YtodcppoglpfodaaGreatDoor
open Go.Wk Go.RowKit Go.Lib
set_option linter.unusedVariables false
set_option linter.unusedSimpArgs false
theorem foYb_209_1 : fldOff Tryz.prog 209 1 = some 1 := by kernel_rfl
theorem mixedYb_ : Tryz.prog.follows .mixedOrders = true := by kernel_rfl

set_option maxHeartbeats 2000000 in
theorem F150 {R C a : Int} {H : List Int} {hv : Value} {gn gs l : Nat} {Tl Tx : List Int → List Ob → Prop} {ob : List Ob} {w0 w : World} {O : List (Option Nat)} (p_ok : SOK R C H) (p_a : 0 ≤ a ∧ a < (H.length : Int)) (hE : EachY Tryz.prog l (nbW C H.length a) Tl Tx w0 O) (hT : Tl [] ob) (hS : St w0 O w (.box gn 3 [.int .i64 a] :: .box gs 209 [.int .i64 R, .int .i64 C, hv] :: Ob.v (tSl (tI .i64)) H hv :: ob)) : Calls Tryz.prog 150 #[(.func (.yield l) #[] #[]), (.pointer (some ⟨gn, 0, none⟩)), (.pointer (some ⟨gs, 0, none⟩))] w (Bk fun _ w' => ∃ ob', (Tl (nbW C H.length a) ob' ∨ ∃ ls, ls <+: nbW C H.length a ∧ Tx ls ob') ∧ St w0 O w' (.box gn 3 [.int .i64 a] :: .box gs 209 [.int .i64 R, .int .i64 C, hv] :: Ob.v (tSl (tI .i64)) H hv :: ob')) := by
  obtain ⟨⟨r1, r2⟩, ⟨c1_, c2_⟩, hRC, ⟨n1, n36⟩, hCn, hok⟩ := id p_ok
  have a0 := p_a.1
  have a1 := p_a.2
  refine enterB Tryz.func150 rfl Tryz.ntmps150 Tryz.results150 rfl ?_
  refine W.seq ?_
  refine W.seq ?_
  refine W.reg ?_
  refine Wx.rd (v := .int .i64 a) (rd_loadX hS 0 rfl rfl rfl Tryz.isAgg3) rfl ?_
  refine Wx.rd (v := .pointer (some ⟨gs, 1, none⟩)) (rd_fieldAddr rfl foYb_209_1) rfl ?_
  refine Wx.rd (v := .int .i64 C) (rd_loadX hS 1 rfl rfl rfl Tryz.isAgg3) rfl ?_
  refine Wx.rd (v := .int .i64 (a - C)) (rd_sub rfl rfl (in_i64 (by omega) (by omega))) rfl ?_
  refine Wx.rd (v := .int .i64 a) (rd_loadX hS 0 rfl rfl rfl Tryz.isAgg3) rfl ?_
  refine Wx.rd (v := .int .i64 (a - 1)) (rd_sub rfl rfl (in_i64 (by omega) (by omega))) rfl ?_
  refine Wx.rd (v := .int .i64 a) (rd_loadX hS 0 rfl rfl rfl Tryz.isAgg3) rfl ?_
  refine Wx.rd (v := .int .i64 (a + 1)) (rd_add rfl rfl (in_i64 (by omega) (by omega))) rfl ?_
  refine Wx.rd (v := .int .i64 a) (rd_loadX hS 0 rfl rfl rfl Tryz.isAgg3) rfl ?_
  refine Wx.rd (v := .pointer (some ⟨gs, 1, none⟩)) (rd_fieldAddr rfl foYb_209_1) rfl ?_
  refine Wx.rd (v := .int .i64 C) (rd_loadX hS 1 rfl rfl rfl Tryz.isAgg3) rfl ?_
  refine Wx.rd (v := .int .i64 (a + C)) (rd_add rfl rfl (in_i64 (by omega) (by omega))) rfl ?_
  refine Wx.rd (v := .agg #[.int .i64 (a - C), .int .i64 (a - 1), .int .i64 (a + 1), .int .i64 (a + C)]) (rd_build (vs := [(0, .int .i64 (a - C)), (1, .int .i64 (a - 1)), (2, .int .i64 (a + 1)), (3, .int .i64 (a + C))]) rfl (by kernel_rfl)) rfl ?_
  refine Wx.rd (v := .int .i64 0) (rd_move rfl) rfl ?_
  refine Wx.nil ?_
  refine W.block ?_
  refine W.loop [4, 5, 19, 20, 21, 22, 23, 24, 25, 26, 27, 28, 29, 30, 31, 32, 33, 34, 35, 36, 37, 38, 39, 40, 41, 42, 43, 44, 45, 46, 47, 48, 49, 50, 51, 52, 53, 54, 55, 56, 57] (fun x : Int × (List Ob) => match x with | (k, obk) => [(19, .int .i64 k)]) (fun (x : Int × (List Ob)) w' => match x with | (k, obk) => St w0 O w' (.box gn 3 [.int .i64 a] :: .box gs 209 [.int .i64 R, .int .i64 C, hv] :: Ob.v (tSl (tI .i64)) H hv :: obk) ∧ 0 ≤ k ∧ k ≤ 4 ∧ Tl (nbP C H.length a k) obk) (fun x : Int × (List Ob) => match x with | (k, obk) => (4 - k).toNat) (0, ob) ⟨rfl, trivial⟩ ⟨hS, (by first | omega | simp), (by first | omega | simp), (hT)⟩ ?_
  rintro ⟨k, obk⟩ u_2 w_1 ⟨hS, h0, h1, h2⟩
  refine W.seq ?_
  refine W.reg ?_
  refine Wx.rd (v := .bool (decide (k < 4))) (rd_lss rfl rfl) rfl ?_
  refine Wx.nil ?_
  refine W.seq ?_
  refine W.condD rfl (fun c0 => ?_) (fun c0 => ?_)
  · -- yes
    refine W.skip ?_
    refine W.seq ?_
    refine W.block ?_
    refine W.seq ?_
    refine W.reg ?_
    refine Wx.rd (v := .int .i64 k) (rd_move rfl) rfl ?_
    refine Wx.rd (v := .int .i64 (ix 0 [a - C, a - 1, a + 1, a + C] k)) (rd_indexVi (d := (0 : Int)) (f := Value.int .i64) (xs := [a - C, a - 1, a + 1, a + C]) rfl rfl Tryz.underlying255 Tryz.sizeOf3 Tryz.isAgg3 rfl rfl (by omega) (by simp; omega)) rfl ?_
    refine Wx.rd (v := .int .i64 k) (rd_assign rfl) rfl ?_
    refine Wx.rd (v := .int .i64 (ix 0 [a - C, a - 1, a + 1, a + C] k)) (rd_assign rfl) rfl ?_
    refine Wx.nil ?_
    refine W.seq ?_
    refine W.seq ?_
    refine W.reg ?_
    refine Wx.rd (v := .int .i64 (ix 0 [a - C, a - 1, a + 1, a + C] k)) (rd_move rfl) rfl ?_
    refine Wx.rd (v := .bool (decide ((ix 0 [a - C, a - 1, a + 1, a + C] k) < 0))) (rd_lss rfl rfl) rfl ?_
    refine Wx.rd (v := .bool (decide ((ix 0 [a - C, a - 1, a + 1, a + C] k) < 0))) (rd_move rfl) rfl ?_
    refine Wx.cut (X := Unit) 5 [26, 27, 28, 29, 30] (fun _ => [(30, .bool (decide ((ix 0 [a - C, a - 1, a + 1, a + C] k) < 0) || decide ((H.length : Int) ≤ (ix 0 [a - C, a - 1, a + 1, a + C] k))))]) (fun _ w' => St w0 O w' (.box gn 3 [.int .i64 a] :: .box gs 209 [.int .i64 R, .int .i64 C, hv] :: Ob.v (tSl (tI .i64)) H hv :: obk)) ?_ ?_
    · rcases Bool.eq_false_or_eq_true (decide ((ix 0 [a - C, a - 1, a + 1, a + C] k) < 0)) with g_3 | g_3
      · -- True
        have gp_4 := of_decide_eq_true g_3
        refine Wx.gnoB rfl rfl (congrArg Value.bool g_3) rfl rfl ?_
        refine Wx.gnoB rfl rfl (congrArg Value.bool g_3) rfl rfl ?_
        refine Wx.gnoB rfl rfl (congrArg Value.bool g_3) rfl rfl ?_
        refine Wx.gnoB rfl rfl (congrArg Value.bool g_3) rfl rfl ?_
        refine Wx.rd (v := .bool true) (rd_pickT (congrArg Value.bool g_3) rfl) rfl ?_
        refine Wx.nil ⟨(), hS, ⟨?_, trivial⟩, Out.look rfl Out.refl⟩
        show Value.bool true = Value.bool (decide ((ix 0 [a - C, a - 1, a + 1, a + C] k) < 0) || decide ((H.length : Int) ≤ (ix 0 [a - C, a - 1, a + 1, a + C] k)))
        first | rw [g_3, Bool.true_or] | (rw [g_3]; rfl)
      · -- False
        have gp_5 := of_decide_eq_false g_3
        refine Wx.gyes rfl rfl (congrArg Value.bool g_3) ?_
        refine Wx.rd (v := .int .i64 (ix 0 [a - C, a - 1, a + 1, a + C] k)) (rd_move rfl) rfl ?_
        refine Wx.gyes rfl rfl (congrArg Value.bool g_3) ?_
        refine Wx.rd (v := .agg #[.int .i64 R, .int .i64 C, hv]) (rd_loadXs (ds := [.int .i64 R, .int .i64 C, hv]) hS 1 rfl rfl rfl rfl Tryz.isAgg209 Tryz.sizeOf209) rfl ?_
        refine Wx.gyes rfl rfl (congrArg Value.bool g_3) ?_
        refine Wx.callF (run_callF Tryz.call134 rfl) (F134 (in_i64 (by omega) (by omega)) (in_i64 (by omega) (by omega)) (hS.v 2 rfl)) rfl ?_
        rintro r_6 w_7 hx_8 rfl
        have hS := hS.ext hx_8
        refine Wx.gyes rfl rfl (congrArg Value.bool g_3) ?_
        refine Wx.rd (v := .bool (decide ((H.length : Int) ≤ (ix 0 [a - C, a - 1, a + 1, a + C] k)))) (rd_geq rfl rfl) rfl ?_
        refine Wx.rd (v := .bool (decide ((H.length : Int) ≤ (ix 0 [a - C, a - 1, a + 1, a + C] k)))) (rd_pickF (congrArg Value.bool g_3) rfl) rfl ?_
        refine Wx.nil ⟨(), hS, ⟨?_, trivial⟩, Out.look rfl Out.refl⟩
        show Value.bool (decide ((H.length : Int) ≤ (ix 0 [a - C, a - 1, a + 1, a + C] k))) = Value.bool (decide ((ix 0 [a - C, a - 1, a + 1, a + C] k) < 0) || decide ((H.length : Int) ≤ (ix 0 [a - C, a - 1, a + 1, a + C] k)))
        first | rw [g_3, Bool.false_or] | (rw [g_3]; rfl)
    rintro ⟨⟩ u_10 w_9 hS
    refine Wx.rd (v := .bool (decide ((ix 0 [a - C, a - 1, a + 1, a + C] k) < 0) || decide ((H.length : Int) ≤ (ix 0 [a - C, a - 1, a + 1, a + C] k)))) (rd_move rfl) rfl ?_
    refine Wx.cut (X := Unit) 10 [32, 33, 34, 35, 36, 37, 38, 39, 40, 41] (fun _ => [(41, .bool ((decide ((ix 0 [a - C, a - 1, a + 1, a + C] k) < 0) || decide ((H.length : Int) ≤ (ix 0 [a - C, a - 1, a + 1, a + C] k))) || (decide (k = 1) && decide ((a % C) = 0))))]) (fun _ w' => St w0 O w' (.box gn 3 [.int .i64 a] :: .box gs 209 [.int .i64 R, .int .i64 C, hv] :: Ob.v (tSl (tI .i64)) H hv :: obk)) ?_ ?_
    · rcases Bool.eq_false_or_eq_true (decide ((ix 0 [a - C, a - 1, a + 1, a + C] k) < 0) || decide ((H.length : Int) ≤ (ix 0 [a - C, a - 1, a + 1, a + C] k))) with g_11 | g_11
      · -- True
        have gp_12 := g_11
        try simp only [Bool.and_eq_true, Bool.or_eq_true, Bool.not_eq_true', Bool.and_eq_false_iff, Bool.or_eq_false_iff, Bool.not_eq_false', decide_eq_true_eq, decide_eq_false_iff_not, not_or, Bool.false_eq_true, Bool.true_eq_false, false_or, or_false, not_false_eq_true] at gp_12
        refine Wx.gnoB rfl rfl (congrArg Value.bool g_11) rfl rfl ?_
        refine Wx.gnoB rfl rfl (congrArg Value.bool g_11) rfl rfl ?_
        refine Wx.gnoB rfl rfl (congrArg Value.bool g_11) rfl rfl ?_
        refine Wx.gno rfl rfl rfl rfl ?_
        refine Wx.gno rfl rfl rfl rfl ?_
        refine Wx.gno rfl rfl rfl rfl ?_
        refine Wx.gno rfl rfl rfl rfl ?_
        refine Wx.gno rfl rfl rfl rfl ?_
        refine Wx.gnoB rfl rfl (congrArg Value.bool g_11) rfl rfl ?_
        refine Wx.rd (v := .bool true) (rd_pickT (congrArg Value.bool g_11) rfl) rfl ?_
        refine Wx.nil ⟨(), hS, ⟨?_, trivial⟩, Out.look rfl Out.refl⟩
        show Value.bool true = Value.bool ((decide ((ix 0 [a - C, a - 1, a + 1, a + C] k) < 0) || decide ((H.length : Int) ≤ (ix 0 [a - C, a - 1, a + 1, a + C] k))) || (decide (k = 1) && decide ((a % C) = 0)))
        first | rw [g_11, Bool.true_or] | (rw [g_11]; rfl)
      · -- False
        have gp_13 := g_11
        try simp only [Bool.and_eq_true, Bool.or_eq_true, Bool.not_eq_true', Bool.and_eq_false_iff, Bool.or_eq_false_iff, Bool.not_eq_false', decide_eq_true_eq, decide_eq_false_iff_not, not_or, Bool.false_eq_true, Bool.true_eq_false, false_or, or_false, not_false_eq_true] at gp_13
        refine Wx.gyes rfl rfl (congrArg Value.bool g_11) ?_
        refine Wx.rd (v := .int .i64 k) (rd_move rfl) rfl ?_
        refine Wx.gyes rfl rfl (congrArg Value.bool g_11) ?_
        refine Wx.rd (v := .bool (decide (k = 1))) (rd_eql rfl rfl) rfl ?_
        refine Wx.gyes rfl rfl (congrArg Value.bool g_11) ?_
        refine Wx.rd (v := .bool (decide (k = 1))) (rd_move rfl) rfl ?_
        refine Wx.cut (X := Unit) 6 [35, 36, 37, 38, 39, 40] (fun _ => [(40, .bool (decide (k = 1) && decide ((a % C) = 0)))]) (fun _ w' => St w0 O w' (.box gn 3 [.int .i64 a] :: .box gs 209 [.int .i64 R, .int .i64 C, hv] :: Ob.v (tSl (tI .i64)) H hv :: obk)) ?_ ?_
        · rcases Bool.eq_false_or_eq_true (decide (k = 1)) with g_14 | g_14
          · -- True
            have gp_15 := of_decide_eq_true g_14
            refine Wx.gyes rfl rfl (congrArg Value.bool g_14) ?_
            refine Wx.rd (v := .int .i64 a) (rd_loadX hS 0 rfl rfl rfl Tryz.isAgg3) rfl ?_
            refine Wx.gyes rfl rfl (congrArg Value.bool g_14) ?_
            refine Wx.rd (v := .pointer (some ⟨gs, 1, none⟩)) (rd_fieldAddr rfl foYb_209_1) rfl ?_
            refine Wx.gyes rfl rfl (congrArg Value.bool g_14) ?_
            refine Wx.rd (v := .int .i64 C) (rd_loadX hS 1 rfl rfl rfl Tryz.isAgg3) rfl ?_
            refine Wx.gyes rfl rfl (congrArg Value.bool g_14) ?_
            refine Wx.rd (v := .int .i64 (a % C)) (rd_rem rfl rfl (by omega) (by omega)) rfl ?_
            refine Wx.gyes rfl rfl (congrArg Value.bool g_14) ?_
            refine Wx.rd (v := .bool (decide ((a % C) = 0))) (rd_eql rfl rfl) rfl ?_
            refine Wx.gyes rfl rfl (congrArg Value.bool g_11) ?_
            refine Wx.rd (v := .bool (decide ((a % C) = 0))) (rd_pickT (congrArg Value.bool g_14) rfl) rfl ?_
            refine Wx.nil ⟨(), hS, ⟨?_, trivial⟩, Out.look rfl Out.refl⟩
            show Value.bool (decide ((a % C) = 0)) = Value.bool (decide (k = 1) && decide ((a % C) = 0))
            first | rw [g_14, Bool.true_and] | (rw [g_14]; rfl)
          · -- False
            have gp_16 := of_decide_eq_false g_14
            refine Wx.gnoB rfl rfl (congrArg Value.bool g_14) rfl rfl ?_
            refine Wx.gnoB rfl rfl (congrArg Value.bool g_14) rfl rfl ?_
            refine Wx.gnoB rfl rfl (congrArg Value.bool g_14) rfl rfl ?_
            refine Wx.gnoB rfl rfl (congrArg Value.bool g_14) rfl rfl ?_
            refine Wx.gnoB rfl rfl (congrArg Value.bool g_14) rfl rfl ?_
            refine Wx.gyes rfl rfl (congrArg Value.bool g_11) ?_
            refine Wx.rd (v := .bool false) (rd_pickF (congrArg Value.bool g_14) rfl) rfl ?_
            refine Wx.nil ⟨(), hS, ⟨?_, trivial⟩, Out.look rfl Out.refl⟩
            show Value.bool false = Value.bool (decide (k = 1) && decide ((a % C) = 0))
            first | rw [g_14, Bool.false_and] | (rw [g_14]; rfl)
        rintro ⟨⟩ u_18 w_17 hS
        refine Wx.rd (v := .bool (decide (k = 1) && decide ((a % C) = 0))) (rd_pickF (congrArg Value.bool g_11) rfl) rfl ?_
        refine Wx.nil ⟨(), hS, ⟨?_, trivial⟩, Out.look rfl (Out.hav rfl (Out.look rfl Out.refl))⟩
        show Value.bool (decide (k = 1) && decide ((a % C) = 0)) = Value.bool ((decide ((ix 0 [a - C, a - 1, a + 1, a + C] k) < 0) || decide ((H.length : Int) ≤ (ix 0 [a - C, a - 1, a + 1, a + C] k))) || (decide (k = 1) && decide ((a % C) = 0)))
        first | rw [g_11, Bool.false_or] | (rw [g_11]; rfl)
    rintro ⟨⟩ u_20 w_19 hS
    refine Wx.rd (v := .bool ((decide ((ix 0 [a - C, a - 1, a + 1, a + C] k) < 0) || decide ((H.length : Int) ≤ (ix 0 [a - C, a - 1, a + 1, a + C] k))) || (decide (k = 1) && decide ((a % C) = 0)))) (rd_move rfl) rfl ?_
    refine Wx.cut (X := Unit) 10 [43, 44, 45, 46, 47, 48, 49, 50, 51, 52] (fun _ => [(52, .bool (((decide ((ix 0 [a - C, a - 1, a + 1, a + C] k) < 0) || decide ((H.length : Int) ≤ (ix 0 [a - C, a - 1, a + 1, a + C] k))) || (decide (k = 1) && decide ((a % C) = 0))) || (decide (k = 2) && decide (((ix 0 [a - C, a - 1, a + 1, a + C] k) % C) = 0))))]) (fun _ w' => St w0 O w' (.box gn 3 [.int .i64 a] :: .box gs 209 [.int .i64 R, .int .i64 C, hv] :: Ob.v (tSl (tI .i64)) H hv :: obk)) ?_ ?_
    · rcases Bool.eq_false_or_eq_true ((decide ((ix 0 [a - C, a - 1, a + 1, a + C] k) < 0) || decide ((H.length : Int) ≤ (ix 0 [a - C, a - 1, a + 1, a + C] k))) || (decide (k = 1) && decide ((a % C) = 0))) with g_21 | g_21
      · -- True
        have gp_22 := g_21
        try simp only [Bool.and_eq_true, Bool.or_eq_true, Bool.not_eq_true', Bool.and_eq_false_iff, Bool.or_eq_false_iff, Bool.not_eq_false', decide_eq_true_eq, decide_eq_false_iff_not, not_or, Bool.false_eq_true, Bool.true_eq_false, false_or, or_false, not_false_eq_true] at gp_22
        refine Wx.gnoB rfl rfl (congrArg Value.bool g_21) rfl rfl ?_
        refine Wx.gnoB rfl rfl (congrArg Value.bool g_21) rfl rfl ?_
        refine Wx.gnoB rfl rfl (congrArg Value.bool g_21) rfl rfl ?_
        refine Wx.gno rfl rfl rfl rfl ?_
        refine Wx.gno rfl rfl rfl rfl ?_
        refine Wx.gno rfl rfl rfl rfl ?_
        refine Wx.gno rfl rfl rfl rfl ?_
        refine Wx.gno rfl rfl rfl rfl ?_
        refine Wx.gnoB rfl rfl (congrArg Value.bool g_21) rfl rfl ?_
        refine Wx.rd (v := .bool true) (rd_pickT (congrArg Value.bool g_21) rfl) rfl ?_
        refine Wx.nil ⟨(), hS, ⟨?_, trivial⟩, Out.look rfl Out.refl⟩
        show Value.bool true = Value.bool (((decide ((ix 0 [a - C, a - 1, a + 1, a + C] k) < 0) || decide ((H.length : Int) ≤ (ix 0 [a - C, a - 1, a + 1, a + C] k))) || (decide (k = 1) && decide ((a % C) = 0))) || (decide (k = 2) && decide (((ix 0 [a - C, a - 1, a + 1, a + C] k) % C) = 0)))
        first | rw [g_21, Bool.true_or] | (rw [g_21]; rfl)
      · -- False
        have gp_23 := g_21
        try simp only [Bool.and_eq_true, Bool.or_eq_true, Bool.not_eq_true', Bool.and_eq_false_iff, Bool.or_eq_false_iff, Bool.not_eq_false', decide_eq_true_eq, decide_eq_false_iff_not, not_or, Bool.false_eq_true, Bool.true_eq_false, false_or, or_false, not_false_eq_true] at gp_23
        refine Wx.gyes rfl rfl (congrArg Value.bool g_21) ?_
        refine Wx.rd (v := .int .i64 k) (rd_move rfl) rfl ?_
        refine Wx.gyes rfl rfl (congrArg Value.bool g_21) ?_
        refine Wx.rd (v := .bool (decide (k = 2))) (rd_eql rfl rfl) rfl ?_
        refine Wx.gyes rfl rfl (congrArg Value.bool g_21) ?_
        refine Wx.rd (v := .bool (decide (k = 2))) (rd_move rfl) rfl ?_
        refine Wx.cut (X := Unit) 6 [46, 47, 48, 49, 50, 51] (fun _ => [(51, .bool (decide (k = 2) && decide (((ix 0 [a - C, a - 1, a + 1, a + C] k) % C) = 0)))]) (fun _ w' => St w0 O w' (.box gn 3 [.int .i64 a] :: .box gs 209 [.int .i64 R, .int .i64 C, hv] :: Ob.v (tSl (tI .i64)) H hv :: obk)) ?_ ?_
        · rcases Bool.eq_false_or_eq_true (decide (k = 2)) with g_24 | g_24
          · -- True
            have gp_25 := of_decide_eq_true g_24
            refine Wx.gyes rfl rfl (congrArg Value.bool g_24) ?_
            refine Wx.rd (v := .int .i64 (ix 0 [a - C, a - 1, a + 1, a + C] k)) (rd_move rfl) rfl ?_
            refine Wx.gyes rfl rfl (congrArg Value.bool g_24) ?_
            refine Wx.rd (v := .pointer (some ⟨gs, 1, none⟩)) (rd_fieldAddr rfl foYb_209_1) rfl ?_
            refine Wx.gyes rfl rfl (congrArg Value.bool g_24) ?_
            refine Wx.rd (v := .int .i64 C) (rd_loadX hS 1 rfl rfl rfl Tryz.isAgg3) rfl ?_
            refine Wx.gyes rfl rfl (congrArg Value.bool g_24) ?_
            refine Wx.rd (v := .int .i64 ((ix 0 [a - C, a - 1, a + 1, a + C] k) % C)) (rd_rem rfl rfl (by omega) (by omega)) rfl ?_
            refine Wx.gyes rfl rfl (congrArg Value.bool g_24) ?_
            refine Wx.rd (v := .bool (decide (((ix 0 [a - C, a - 1, a + 1, a + C] k) % C) = 0))) (rd_eql rfl rfl) rfl ?_
            refine Wx.gyes rfl rfl (congrArg Value.bool g_21) ?_
            refine Wx.rd (v := .bool (decide (((ix 0 [a - C, a - 1, a + 1, a + C] k) % C) = 0))) (rd_pickT (congrArg Value.bool g_24) rfl) rfl ?_
            refine Wx.nil ⟨(), hS, ⟨?_, trivial⟩, Out.look rfl Out.refl⟩
            show Value.bool (decide (((ix 0 [a - C, a - 1, a + 1, a + C] k) % C) = 0)) = Value.bool (decide (k = 2) && decide (((ix 0 [a - C, a - 1, a + 1, a + C] k) % C) = 0))
            first | rw [g_24, Bool.true_and] | (rw [g_24]; rfl)
          · -- False
            have gp_26 := of_decide_eq_false g_24
            refine Wx.gnoB rfl rfl (congrArg Value.bool g_24) rfl rfl ?_
            refine Wx.gnoB rfl rfl (congrArg Value.bool g_24) rfl rfl ?_
            refine Wx.gnoB rfl rfl (congrArg Value.bool g_24) rfl rfl ?_
            refine Wx.gnoB rfl rfl (congrArg Value.bool g_24) rfl rfl ?_
            refine Wx.gnoB rfl rfl (congrArg Value.bool g_24) rfl rfl ?_
            refine Wx.gyes rfl rfl (congrArg Value.bool g_21) ?_
            refine Wx.rd (v := .bool false) (rd_pickF (congrArg Value.bool g_24) rfl) rfl ?_
            refine Wx.nil ⟨(), hS, ⟨?_, trivial⟩, Out.look rfl Out.refl⟩
            show Value.bool false = Value.bool (decide (k = 2) && decide (((ix 0 [a - C, a - 1, a + 1, a + C] k) % C) = 0))
            first | rw [g_24, Bool.false_and] | (rw [g_24]; rfl)
        rintro ⟨⟩ u_28 w_27 hS
        refine Wx.rd (v := .bool (decide (k = 2) && decide (((ix 0 [a - C, a - 1, a + 1, a + C] k) % C) = 0))) (rd_pickF (congrArg Value.bool g_21) rfl) rfl ?_
        refine Wx.nil ⟨(), hS, ⟨?_, trivial⟩, Out.look rfl (Out.hav rfl (Out.look rfl Out.refl))⟩
        show Value.bool (decide (k = 2) && decide (((ix 0 [a - C, a - 1, a + 1, a + C] k) % C) = 0)) = Value.bool (((decide ((ix 0 [a - C, a - 1, a + 1, a + C] k) < 0) || decide ((H.length : Int) ≤ (ix 0 [a - C, a - 1, a + 1, a + C] k))) || (decide (k = 1) && decide ((a % C) = 0))) || (decide (k = 2) && decide (((ix 0 [a - C, a - 1, a + 1, a + C] k) % C) = 0)))
        first | rw [g_21, Bool.false_or] | (rw [g_21]; rfl)
    rintro ⟨⟩ u_30 w_29 hS
    refine Wx.nil ?_
    refine W.cond rfl (fun c1 => ?_) (fun c1 => ?_)
    · -- yes
      try simp only [Bool.and_eq_true, Bool.or_eq_true, Bool.not_eq_true', Bool.and_eq_false_iff, Bool.or_eq_false_iff, Bool.not_eq_false', decide_eq_true_eq, decide_eq_false_iff_not, not_or, Bool.false_eq_true, Bool.true_eq_false, false_or, or_false, not_false_eq_true] at c1
      refine W.exit rfl ?_
      refine W.reg ?_
      refine Wx.rd (v := .int .i64 (k + 1)) (rd_add rfl rfl (in_i64 (by omega) (by omega))) rfl ?_
      refine Wx.rd (v := .int .i64 (k + 1)) (rd_move rfl) rfl ?_
      refine Wx.nil ?_
      refine ⟨(k + 1, obk), (by show (4 - (k + 1)).toNat < (4 - k).toNat; omega), ?_, ?_, Out.look rfl (Out.hav rfl (Out.look rfl (Out.hav rfl (Out.look rfl (Out.hav rfl (Out.look rfl Out.self))))))⟩
      · exact ⟨hS, (by first | omega | assumption), (by first | omega | assumption), (by rw [nb_skip h0 (outB_iff.2 (by omega))]; exact h2)⟩
      · exact ⟨rfl, trivial⟩
    · -- no
      try simp only [Bool.and_eq_true, Bool.or_eq_true, Bool.not_eq_true', Bool.and_eq_false_iff, Bool.or_eq_false_iff, Bool.not_eq_false', decide_eq_true_eq, decide_eq_false_iff_not, not_or, Bool.false_eq_true, Bool.true_eq_false, false_or, or_false, not_false_eq_true] at c1
      have hout : outB C H.length a k = false := outB_no (by omega)
      have hpy := nb_pre c1_ h0 c0 hout
      refine W.skip ?_
      refine W.seq ?_
      refine W.regYi 2 rfl rfl ?_
      refine Wx.rd (v := (.func (.yield l) #[] #[])) (rd_move rfl) rfl ?_
      refine Wx.rd (v := .int .i64 (ix 0 [a - C, a - 1, a + 1, a + C] k)) (rd_move rfl) rfl ?_
      refine Wx.nil ⟨_, _, rfl, rfl, ?_⟩
      refine YieldR.mono (hE _ _ [.box gn 3 [.int .i64 a], .box gs 209 [.int .i64 R, .int .i64 C, hv], Ob.v (tSl (tI .i64)) H hv] obk _ hpy h2 (St.swap (a := [.box gn 3 [.int .i64 a], .box gs 209 [.int .i64 R, .int .i64 C, hv], Ob.v (tSl (tI .i64)) H hv]) (b := obk) hS)) ?_
      rintro bqy w_31 ⟨oby, hyy, hxy, hS⟩
      have hS : St w0 O w_31 (.box gn 3 [.int .i64 a] :: .box gs 209 [.int .i64 R, .int .i64 C, hv] :: Ob.v (tSl (tI .i64)) H hv :: oby) := St.swap (a := oby) (b := [.box gn 3 [.int .i64 a], .box gs 209 [.int .i64 R, .int .i64 C, hv], Ob.v (tSl (tI .i64)) H hv]) hS
      refine Wx.rd (v := .bool (!bqy)) (rd_not rfl) rfl ?_
      refine Wx.nil ?_
      refine W.cond rfl (fun c2 => ?_) (fun c2 => ?_)
      · -- yes
        try simp only [Bool.and_eq_true, Bool.or_eq_true, Bool.not_eq_true', Bool.and_eq_false_iff, Bool.or_eq_false_iff, Bool.not_eq_false', decide_eq_true_eq, decide_eq_false_iff_not, not_or, Bool.false_eq_true, Bool.true_eq_false, false_or, or_false, not_false_eq_true] at c2
        exact W.ret ⟨.tuple #[], ResIs.zero, _, .inr ⟨_, hpy, hxy (by cases hq : bqy with | false => rfl | true => rw [hq] at c2; cases c2)⟩, hS⟩
      · -- no
        try simp only [Bool.and_eq_true, Bool.or_eq_true, Bool.not_eq_true', Bool.and_eq_false_iff, Bool.or_eq_false_iff, Bool.not_eq_false', decide_eq_true_eq, decide_eq_false_iff_not, not_or, Bool.false_eq_true, Bool.true_eq_false, false_or, or_false, not_false_eq_true] at c2
        refine W.skip ?_
        refine W.reg ?_
        refine Wx.rd (v := .int .i64 (k + 1)) (rd_add rfl rfl (in_i64 (by omega) (by omega))) rfl ?_
        refine Wx.rd (v := .int .i64 (k + 1)) (rd_move rfl) rfl ?_
        refine Wx.nil ?_
        refine ⟨(k + 1, oby), (by show (4 - (k + 1)).toNat < (4 - k).toNat; omega), ?_, ?_, Out.look rfl (Out.look rfl (Out.hav rfl (Out.look rfl (Out.hav rfl (Out.look rfl (Out.hav rfl (Out.look rfl Out.self)))))))⟩
        · exact ⟨hS, (by first | omega | assumption), (by first | omega | assumption), (by rw [nb_take h0 hout]; exact hyy (by cases hq : bqy with | true => rfl | false => rw [hq] at c2; cases c2))⟩
        · exact ⟨rfl, trivial⟩
  · -- no
    refine W.exit rfl ?_
    refine W.seq ?_
    refine W.regQ mixedYb_ (by kernel_rfl) ?_
    refine Wx.rd (v := .int .i64 a) (rd_loadX hS 0 rfl rfl rfl Tryz.isAgg3) rfl ?_
    refine Wx.rd (v := .agg #[.int .i64 R, .int .i64 C, hv]) (rd_loadXs (ds := [.int .i64 R, .int .i64 C, hv]) hS 1 rfl rfl rfl rfl Tryz.isAgg209 Tryz.sizeOf209) rfl ?_
    refine Wx.callV (v := .int .i64 (H.length : Int)) (run_callF Tryz.call134 rfl) (fun w_32 hw_33 => (F134 (in_i64 (by omega) (by omega)) (in_i64 (by omega) (by omega)) ((hS.v 2 rfl).ext hw_33))) rfl ?_
    refine Wx.rd (v := .pointer (some ⟨gs, 1, none⟩)) (rd_fieldAddr rfl foYb_209_1) rfl ?_
    refine Wx.rd (v := .int .i64 C) (rd_loadX hS 1 rfl rfl rfl Tryz.isAgg3) rfl ?_
    refine Wx.rd (v := .int .i64 ((H.length : Int) - C)) (rd_sub rfl rfl (in_i64 (by omega) (by omega))) rfl ?_
    refine Wx.rd (v := .bool (decide (((H.length : Int) - C) ≤ a))) (rd_geq rfl rfl) rfl ?_
    refine Wx.nilQ (fun w_34 hx_35 => ?_)
    have hS := hS.ext hx_35
    refine W.condD rfl (fun c3 => ?_) (fun c3 => ?_)
    · -- yes
      have hpz : (nbP C H.length a k ++ [(H.length : Int)]) <+: nbW C H.length a := by rw [nb_river c1_ (by omega), show k = 4 by omega]; exact List.prefix_refl _
      refine W.regYi 3 rfl rfl ?_
      refine Wx.rd (v := (.func (.yield l) #[] #[])) (rd_move rfl) rfl ?_
      refine Wx.rd (v := .agg #[.int .i64 R, .int .i64 C, hv]) (rd_loadXs (ds := [.int .i64 R, .int .i64 C, hv]) hS 1 rfl rfl rfl rfl Tryz.isAgg209 Tryz.sizeOf209) rfl ?_
      refine Wx.callF (run_callF Tryz.call134 rfl) (F134 (in_i64 (by omega) (by omega)) (in_i64 (by omega) (by omega)) (hS.v 2 rfl)) rfl ?_
      rintro r_36 w_37 hx_38 rfl
      have hS := hS.ext hx_38
      refine Wx.nil ⟨_, _, rfl, rfl, ?_⟩
      refine YieldR.mono (hE _ _ [.box gn 3 [.int .i64 a], .box gs 209 [.int .i64 R, .int .i64 C, hv], Ob.v (tSl (tI .i64)) H hv] obk _ hpz h2 (St.swap (a := [.box gn 3 [.int .i64 a], .box gs 209 [.int .i64 R, .int .i64 C, hv], Ob.v (tSl (tI .i64)) H hv]) (b := obk) hS)) ?_
      rintro bqz w_39 ⟨obz, hyz, hxz, hS⟩
      have hS : St w0 O w_39 (.box gn 3 [.int .i64 a] :: .box gs 209 [.int .i64 R, .int .i64 C, hv] :: Ob.v (tSl (tI .i64)) H hv :: obz) := St.swap (a := obz) (b := [.box gn 3 [.int .i64 a], .box gs 209 [.int .i64 R, .int .i64 C, hv], Ob.v (tSl (tI .i64)) H hv]) hS
      refine Wx.nil ?_
      exact ⟨.tuple #[], ResIs.zero, _, (by cases hq : bqz with | true => exact .inl (by rw [nb_river c1_ (by omega), ← show k = 4 by omega]; exact hyz hq) | false => exact .inr ⟨_, hpz, hxz hq⟩), hS⟩
    · -- no
      refine W.skip ?_
      exact ⟨.tuple #[], ResIs.zero, _, .inl (by rw [nb_dry c1_ (by omega), ← show k = 4 by omega]; exact h2), hS⟩

theorem iter85 {R C a : Int} {H : List Int} {hv : Value} {gn gs : Nat} {w0 : World} {O : List (Option Nat)} (p_ok : SOK R C H) (p_a : 0 ≤ a ∧ a < (H.length : Int)) : Iter Tryz.prog 150 [(.pointer (some ⟨gn, 0, none⟩)), (.pointer (some ⟨gs, 0, none⟩))] [.box gn 3 [.int .i64 a], .box gs 209 [.int .i64 R, .int .i64 C, hv], Ob.v (tSl (tI .i64)) H hv] (nbW C H.length a) w0 O :=
  fun l Tl Tx ob w hE hT hS => F150 p_ok p_a hE hT hS


theorem F145 {R C a : Int} {H : List Int} {hv : Value} {ob : List Ob} {w0 w : World} {O : List (Option Nat)} (hS : St w0 O w ob) (h_hv : V (tSl tInt) H hv (fb ob O) w) : Calls Tryz.prog 145 #[.agg #[.int .i64 R, .int .i64 C, hv], .int .i64 a] w (Bk fun r w' => ∃ gn gs, r = .func (.func 150) #[] #[(.pointer (some ⟨gn, 0, none⟩)), (.pointer (some ⟨gs, 0, none⟩))] ∧ St w0 O w' (.box gn 3 [.int .i64 a] :: .box gs 209 [.int .i64 R, .int .i64 C, hv] :: ob)) := by
  refine enterB Tryz.func145 rfl Tryz.ntmps145 Tryz.results145 rfl ?_
  refine W.seq ?_
  refine W.reg ?_
  refine Wx.box (cs := [.int .i64 R, .int .i64 C, hv]) hS rfl rfl rfl (fun g_1 w_2 hx_4 hb_3 hS => ?_)
  refine Wx.box (cs := [.int .i64 a]) hS rfl rfl rfl (fun g_5 w_6 hx_8 hb_7 hS => ?_)
  refine Wx.rd (v := .nilFunc) (rd_assign rfl) rfl ?_
  refine Wx.nil ?_
  refine W.seq ?_
  refine W.reg ?_
  refine Wx.rd (v := .func (.func 150) #[] #[.pointer (some ⟨g_5, 0, none⟩), .pointer (some ⟨g_1, 0, none⟩)]) (rd_makeFunc (vs := []) (us := [.pointer (some ⟨g_5, 0, none⟩), .pointer (some ⟨g_1, 0, none⟩)]) rfl rfl) rfl ?_
  refine Wx.rd (v := .func (.func 150) #[] #[.pointer (some ⟨g_5, 0, none⟩), .pointer (some ⟨g_1, 0, none⟩)]) (rd_assign rfl) rfl ?_
  refine Wx.nil ?_
  exact W.ret ⟨.func (.func 150) #[] #[.pointer (some ⟨g_5, 0, none⟩), .pointer (some ⟨g_1, 0, none⟩)], ResIs.one, _, _, rfl, hS⟩
end Go.Proofs.YtodcppoglpfodaaGreatDoor

namespace Go.Proofs.YtodcppoglpfodaaGreatDoor
open Go.Wk Go.RowKit Go.Lib
set_option linter.unusedVariables false
set_option linter.unusedSimpArgs false
theorem elYc_249 : ElemI Tryz.prog 249 4 (.bool false) 1 1 := ElemI.of Tryz.underlying249 (by kernel_rfl) (by first | rfl | kernel_rfl) (by decide)
theorem mixedYc_ : Tryz.prog.follows .mixedOrders = true := by kernel_rfl
theorem foYc_209_1 : fldOff Tryz.prog 209 1 = some 1 := by kernel_rfl
theorem foYc_209_2 : fldOff Tryz.prog 209 2 = some 2 := by kernel_rfl

set_option maxHeartbeats 4000000 in
theorem F132z {R : Int} {C : Int} {hv : Value} {H : List Int} {O : List (Option Nat)} {w : World} (i_R : InK .i64 R) (i_C : InK .i64 C) (h_hv : V (tSl (tI .i64)) H hv O w) (p_ok : SOK R C H) (hO : ∀ b, some b ∈ O → b < w.heap.size) : Calls Tryz.prog 132 #[.agg #[.int .i64 R, .int .i64 C, hv]] w (Ret w (fun r _ => ∃ ys : List Int, ((ys.length = 37 ∧ ∀ x, 0 ≤ x → x < (H.length : Int) → ix 0 ys x = sillV C H x) ∧ ZT H.length ys) ∧ r = .agg (List.map (Value.int .i64) ys).toArray)) := by
  have b_C := bd_i64 i_C
  have b_R := bd_i64 i_R
  obtain ⟨⟨r1, r2⟩, ⟨c1_, c2_⟩, hRC, ⟨n1, n36⟩, hCn, hok⟩ := id p_ok
  have a_hv := h_hv
  have l_hv := h_hv.len63
  have hS := St.start w O hO
  have hS : St w O w (DOb []) := hS
  refine enterMR (O := O) Tryz.func132 rfl Tryz.ntmps132 Tryz.results132 rfl ?_
  refine WD.seq ?_
  refine WD.ofW ?_
  refine W.reg ?_
  refine Wx.box (cs := [.int .i64 R, .int .i64 C, hv]) hS rfl rfl rfl (fun g_1 w_2 hx_4 hb_3 hS => ?_)
  refine Wx.alloc (cs := List.map (Value.int .i64) (List.replicate 37 (0 : Int))) hS Tryz.zeroValue228 (by kernel_rfl) rfl (fun g_5 w_6 hx_8 hb_7 hS => ?_)
  have hS : St _ _ w_6 (.box g_5 228 (List.map (Value.int .i64) (List.replicate 37 (0 : Int))) :: .box g_1 209 [.int .i64 R, .int .i64 C, hv] :: DOb []) := hS
  refine Wx.nil ?_
  refine WD.seq ?_
  refine WD.ofW ?_
  refine W.reg ?_
  refine Wx.alloc (cs := List.map (Value.int .i64) (List.replicate 37 (0 : Int))) hS Tryz.zeroValue228 (by kernel_rfl) rfl (fun g_9 w_10 hx_12 hb_11 hS => ?_)
  have hS : St _ _ w_10 (.box g_9 228 (List.map (Value.int .i64) (List.replicate 37 (0 : Int))) :: .box g_5 228 (List.map (Value.int .i64) (List.replicate 37 (0 : Int))) :: .box g_1 209 [.int .i64 R, .int .i64 C, hv] :: DOb []) := hS
  refine Wx.nil ?_
  refine WD.seq ?_
  refine WD.ofW ?_
  refine W.reg ?_
  refine Wx.rd (v := .agg #[.int .i64 R, .int .i64 C, hv]) (rd_loadXs (ds := [.int .i64 R, .int .i64 C, hv]) hS 2 rfl rfl rfl rfl Tryz.isAgg209 Tryz.sizeOf209) rfl ?_
  refine Wx.callF (run_callF Tryz.call134 rfl) (F134 i_R i_C (hS.arg a_hv)) rfl ?_
  rintro r_13 w_14 hx_15 rfl
  have hS := hS.ext hx_15
  refine Wx.make (t := tBool) (zy := false) (m := H.length) elYc_249 rfl rfl (fun _ _ => rfl) hS (congrArg (Value.int .i64) rfl) (congrArg (Value.int .i64) rfl) (by omega) (by simp only [maxLen]; omega) rfl (fun v_16 w_17 hx_18 hS => ?_)
  refine Wx.rd (v := v_16) (rd_assign rfl) rfl ?_
  refine Wx.nil ?_
  refine WD.seq ?_
  refine WD.ofW ?_
  refine W.seq ?_
  refine W.reg ?_
  refine Wx.rd (v := v_16) (rd_move rfl) rfl ?_
  refine Wx.rd (v := .int .i64 (H.length : Int)) (Rd.to (v := .int .i64 ((List.replicate H.length false).length : Int)) (rd_lenR hS 0 rfl rfl Tryz.underlying249) (congrArg (Value.int .i64) (show ((H.length : Int) : Int) = (((List.replicate H.length false).length : Int) : Int) from (by simp)).symm)) rfl ?_
  refine Wx.rd (v := .int .i64 0) (rd_move rfl) rfl ?_
  refine Wx.nil ?_
  refine W.block ?_
  refine W.loop [5, 15, 16, 17, 18, 19, 20, 21, 22, 23, 24, 25, 26, 27, 28, 29, 30, 31, 32, 33, 34] (fun x : Int × (List Bool) × (List Int) => match x with | (k, dn0, y1) => [(15, .int .i64 k)]) (fun (x : Int × (List Bool) × (List Int)) w' => match x with | (k, dn0, y1) => St w O w' (.row tBool 4 v_16 dn0 :: .box g_9 228 (List.map (Value.int .i64) y1) :: .box g_5 228 (List.map (Value.int .i64) (List.replicate 37 (0 : Int))) :: .box g_1 209 [.int .i64 R, .int .i64 C, hv] :: DOb []) ∧ 0 ≤ k ∧ k ≤ H.length ∧ IniI C H k y1 ∧ y1.length = 37 ∧ (dn0.length : Int) = H.length ∧ (∀ x, DB dn0 x = false) ∧ ZT H.length y1) (fun x : Int × (List Bool) × (List Int) => match x with | (k, dn0, y1) => (H.length - k).toNat) (0, List.replicate H.length false, (List.replicate 37 (0 : Int))) ⟨rfl, trivial⟩ ⟨hS, (by first | omega | simp), (by omega), (fun x x0 x1 => by omega), (by simp), (by simp), (fun x => db_zero), (zt_zero)⟩ ?_
  rintro ⟨k, dn0, y1⟩ u_22 w_21 ⟨hS, h0, h1, h2, h3, h4, h5, h6⟩
  refine W.seq ?_
  refine W.reg ?_
  refine Wx.rd (v := .bool (decide (k < (H.length : Int)))) (rd_lss rfl rfl) rfl ?_
  refine Wx.nil ?_
  refine W.seq ?_
  refine W.condD rfl (fun c0 => ?_) (fun c0 => ?_)
  · -- yes
    refine W.skip ?_
    refine W.seq ?_
    refine W.block ?_
    refine W.seq ?_
    refine W.reg ?_
    refine Wx.rd (v := .int .i64 k) (rd_move rfl) rfl ?_
    refine Wx.rd (v := .int .i64 k) (rd_assign rfl) rfl ?_
    refine Wx.nil ?_
    refine W.seq ?_
    refine W.reg ?_
    refine Wx.rd (v := .int .i64 k) (rd_move rfl) rfl ?_
    refine Wx.rd (v := .pointer (some ⟨g_9, 0 + k.toNat * 1, none⟩)) (rd_indexArr rfl rfl Tryz.underlying228 Tryz.sizeOf3 (by omega) (by omega)) rfl ?_
    refine Wx.storeXa (j := k) (f := (Value.int .i64)) (u := 31) hS 1 rfl rfl (by omega) rfl rfl rfl Tryz.sizeOf3 (by omega) (by omega) (fun w_23 hz_24 hS => ?_)
    refine Wx.nil ?_
    refine W.seq ?_
    refine W.regQ mixedYc_ (by kernel_rfl) ?_
    refine Wx.rd (v := .int .i64 k) (rd_move rfl) rfl ?_
    refine Wx.rd (v := .agg #[.int .i64 R, .int .i64 C, hv]) (rd_loadXs (ds := [.int .i64 R, .int .i64 C, hv]) hS 3 rfl rfl rfl rfl Tryz.isAgg209 Tryz.sizeOf209) rfl ?_
    refine Wx.callV (v := .int .i64 (H.length : Int)) (run_callF Tryz.call134 rfl) (fun w_25 hw_26 => (F134 i_R i_C ((hS.arg a_hv).ext hw_26))) rfl ?_
    refine Wx.rd (v := .pointer (some ⟨g_1, 1, none⟩)) (rd_fieldAddr rfl foYc_209_1) rfl ?_
    refine Wx.rd (v := .int .i64 C) (rd_loadX hS 3 rfl rfl rfl Tryz.isAgg3) rfl ?_
    refine Wx.rd (v := .int .i64 ((H.length : Int) - C)) (rd_sub rfl rfl (in_i64 (by omega) (by omega))) rfl ?_
    refine Wx.rd (v := .bool (decide (((H.length : Int) - C) ≤ k))) (rd_geq rfl rfl) rfl ?_
    refine Wx.nilQ (fun w_27 hx_28 => ?_)
    have hS := hS.ext hx_28
    refine W.condD rfl (fun c1 => ?_) (fun c1 => ?_)
    · -- yes
      refine W.reg ?_
      refine Wx.rd (v := .int .i64 k) (rd_move rfl) rfl ?_
      refine Wx.rd (v := .pointer (some ⟨g_1, 2, none⟩)) (rd_fieldAddr rfl foYc_209_2) rfl ?_
      refine Wx.rd (v := hv) (rd_loadX hS 3 rfl rfl rfl Tryz.isAgg23) rfl ?_
      refine Wx.rd (v := .int .i64 k) (rd_move rfl) rfl ?_
      refine Wx.ex (rd_index 0 (hS.arg a_hv) rfl rfl Tryz.underlying23 Tryz.sizeOf3 (by first | omega | (simp only [List.length_set, List.length_append, List.length_cons, List.length_nil, List.length_replicate]; omega)) (by first | omega | (simp only [List.length_set, List.length_append, List.length_cons, List.length_nil, List.length_replicate]; omega))) rfl (fun p_29 hp_30 => ?_)
      refine Wx.rd (v := .int .i64 (ix 0 H k)) (rd_loadI hp_30 rfl Tryz.isAgg3 Tryz.sizeOf3) rfl ?_
      have bd_31 := bd_i64 hp_30.inK
      refine Wx.rd (v := .pointer (some ⟨g_9, 0 + k.toNat * 1, none⟩)) (rd_indexArr rfl rfl Tryz.underlying228 Tryz.sizeOf3 (by omega) (by omega)) rfl ?_
      refine Wx.storeXa (j := k) (f := (Value.int .i64)) (u := (ix 0 H k)) hS 1 rfl rfl (by omega) rfl rfl rfl Tryz.sizeOf3 (by omega) (by simp only [List.length_set]; omega) (fun w_32 hz_33 hS => ?_)
      refine Wx.nil ?_
      refine W.reg ?_
      refine Wx.rd (v := .int .i64 (k + 1)) (rd_add rfl rfl (in_i64 (by omega) (by omega))) rfl ?_
      refine Wx.rd (v := .int .i64 (k + 1)) (rd_move rfl) rfl ?_
      refine Wx.nil ?_
      refine ⟨(k + 1, dn0, List.set (List.set y1 k.toNat 31) k.toNat (ix 0 H k)), (by show (H.length - (k + 1)).toNat < (H.length - k).toNat; omega), ?_, ?_, Out.look rfl Out.self⟩
      · exact ⟨hS, (by first | omega | assumption), (by first | omega | assumption), (ini_step2 h2 h0 (by omega) (by rw [iniV, if_pos (show lastB C H k = true from decide_eq_true (by omega))])), (by simp only [List.length_set]; exact h3), (by first | omega | assumption), (by first | omega | assumption), (zt_set (zt_set h6 h0 (by omega)) h0 (by omega))⟩
      · exact ⟨rfl, trivial⟩
    · -- no
      refine W.skip ?_
      refine W.reg ?_
      refine Wx.rd (v := .int .i64 (k + 1)) (rd_add rfl rfl (in_i64 (by omega) (by omega))) rfl ?_
      refine Wx.rd (v := .int .i64 (k + 1)) (rd_move rfl) rfl ?_
      refine Wx.nil ?_
      refine ⟨(k + 1, dn0, List.set y1 k.toNat 31), (by show (H.length - (k + 1)).toNat < (H.length - k).toNat; omega), ?_, ?_, Out.look rfl Out.self⟩
      · exact ⟨hS, (by first | omega | assumption), (by first | omega | assumption), (ini_step h2 h0 (by omega) (by rw [iniV, if_neg (show ¬ lastB C H k = true from fun q => by have := of_decide_eq_true q; omega)])), (by simp only [List.length_set]; exact h3), (by first | omega | assumption), (by first | omega | assumption), (zt_set h6 h0 (by omega))⟩
      · exact ⟨rfl, trivial⟩
  · -- no
    refine W.exit rfl ?_
    refine WD.seq ?_
    refine WD.seq ?_
    refine WD.ofW ?_
    refine W.reg ?_
    refine Wx.rd (v := v_16) (rd_move rfl) rfl ?_
    refine Wx.rd (v := .int .i64 (H.length : Int)) (Rd.to (v := .int .i64 (dn0.length : Int)) (rd_lenR hS 0 rfl rfl Tryz.underlying249) (congrArg (Value.int .i64) (show ((H.length : Int) : Int) = ((dn0.length : Int) : Int) from h4.symm).symm)) rfl ?_
    refine Wx.rd (v := .int .i64 0) (rd_move rfl) rfl ?_
    refine Wx.nil ?_
    refine WD.block ?_
    refine WD.loop [6, 7, 8, 37, 38, 39, 40, 41, 42, 43, 44, 45, 46, 47, 48, 49, 50, 51, 52, 53, 54, 55, 56, 57, 58, 59, 60, 61, 62, 63, 64, 65, 66, 67, 68, 89] (fun x : Int × (List Bool) × (List Int) × (List Nat) => match x with | (i, dn, y2, Ds) => [(37, .int .i64 i)]) (fun (x : Int × (List Bool) × (List Int) × (List Nat)) w' => match x with | (i, dn, y2, Ds) => St w O w' (.row tBool 4 v_16 dn :: .box g_9 228 (List.map (Value.int .i64) y2) :: .box g_5 228 (List.map (Value.int .i64) (List.replicate 37 (0 : Int))) :: .box g_1 209 [.int .i64 R, .int .i64 C, hv] :: DOb Ds) ∧ 0 ≤ i ∧ i ≤ H.length ∧ DjI C H (DB dn) (ix 0 y2) ∧ y2.length = 37 ∧ (dn.length : Int) = H.length ∧ (cntD H dn : Int) = i ∧ ZT H.length y2) (fun x : Int × (List Bool) × (List Int) × (List Nat) => match x with | (i, dn, y2, Ds) => (H.length - i).toNat) (fun x : Int × (List Bool) × (List Int) × (List Nat) => match x with | (i, dn, y2, Ds) => Ds) (0, dn0, y1, []) ⟨rfl, trivial⟩ rfl ⟨hS, (by first | omega | simp), (by omega), (dj_ini hok (by rw [show (H.length : Int) = k by omega]; exact h2) h5), (h3), (h4), (by rw [cnt_zero h5]; rfl), (h6)⟩ ?_
    rintro ⟨i, dn, y2, Ds⟩ u_35 w_34 ⟨hS, i0, i1, i2, i3, i4, i5, i6⟩
    refine WD.seq ?_
    refine WD.ofW ?_
    refine W.reg ?_
    refine Wx.rd (v := .bool (decide (i < (H.length : Int)))) (rd_lss rfl rfl) rfl ?_
    refine Wx.nil ?_
    refine WD.seq ?_
    refine WD.ofW ?_
    refine W.condD rfl (fun c2 => ?_) (fun c2 => ?_)
    · -- yes
      refine W.skip ?_
      refine WD.seq ?_
      refine WD.block ?_
      refine WD.seq ?_
      refine WD.ofW ?_
      refine W.reg ?_
      refine Wx.alloc (cs := [.int .i64 0]) hS Tryz.zeroValue3 rfl rfl (fun g_36 w_37 hx_39 hb_38 hS => ?_)
      refine Wx.storeX (cs' := [.int .i64 (-1)]) (ds := [.int .i64 (-1)]) hS 0 rfl rfl rfl rfl Tryz.sizeOf3 (Nat.le_of_ble_eq_true rfl) (one_cons rfl one_nil) rfl (fun w_40 hz_41 hS => ?_)
      refine Wx.nil ?_
      refine WD.seq ?_
      refine WD.ofW ?_
      refine W.seq ?_
      refine W.reg ?_
      refine Wx.rd (v := v_16) (rd_move rfl) rfl ?_
      refine Wx.rd (v := .int .i64 (H.length : Int)) (Rd.to (v := .int .i64 (dn.length : Int)) (rd_lenR hS 1 rfl rfl Tryz.underlying249) (congrArg (Value.int .i64) (show ((H.length : Int) : Int) = ((dn.length : Int) : Int) from i4.symm).symm)) rfl ?_
      refine Wx.rd (v := .int .i64 0) (rd_move rfl) rfl ?_
      refine Wx.nil ?_
      refine W.block ?_
      refine W.loop [7, 8, 41, 42, 43, 44, 45, 46, 47, 48, 49, 50, 51, 52, 53, 54, 55, 56, 57, 58, 59, 60, 61, 62] (fun x : Int × Int => match x with | (k, nx) => [(41, .int .i64 k)]) (fun (x : Int × Int) w' => match x with | (k, nx) => St w O w' (.box g_36 3 [.int .i64 nx] :: .row tBool 4 v_16 dn :: .box g_9 228 (List.map (Value.int .i64) y2) :: .box g_5 228 (List.map (Value.int .i64) (List.replicate 37 (0 : Int))) :: .box g_1 209 [.int .i64 R, .int .i64 C, hv] :: DOb Ds) ∧ 0 ≤ k ∧ k ≤ H.length ∧ NxI dn y2 k nx ∧ nx < 37 ∧ -1 ≤ nx) (fun x : Int × Int => match x with | (k, nx) => (H.length - k).toNat) (0, -1) ⟨rfl, trivial⟩ ⟨hS, (by first | omega | simp), (by omega), (nx_start), (by first | omega | simp), (by first | omega | simp)⟩ ?_
      rintro ⟨k, nx⟩ u_43 w_42 ⟨hS, k0, k1, k2, k3, k4⟩
      refine W.seq ?_
      refine W.reg ?_
      refine Wx.rd (v := .bool (decide (k < (H.length : Int)))) (rd_lss rfl rfl) rfl ?_
      refine Wx.nil ?_
      refine W.seq ?_
      refine W.condD rfl (fun c3 => ?_) (fun c3 => ?_)
      · -- yes
        refine W.skip ?_
        refine W.seq ?_
        refine W.block ?_
        refine W.seq ?_
        refine W.reg ?_
        refine Wx.rd (v := .int .i64 k) (rd_move rfl) rfl ?_
        refine Wx.indexR hS 1 rfl rfl rfl Tryz.underlying249 Tryz.sizeOf4 (by first | omega | (simp only [List.length_set, List.length_append, List.length_cons, List.length_nil, List.length_replicate]; omega)) (by first | omega | (simp only [List.length_set, List.length_append, List.length_cons, List.length_nil, List.length_replicate]; omega)) rfl (fun g_44 hg_45 => ?_)
        refine Wx.ex (rd_loadR' false hS 1 rfl hg_45 rfl (by first | omega | (simp only [List.length_set, List.length_append, List.length_cons, List.length_nil, List.length_replicate]; omega)) (by first | omega | (simp only [List.length_set, List.length_append, List.length_cons, List.length_nil, List.length_replicate]; omega)) Tryz.isAgg4 Tryz.sizeOf4) rfl (fun v_46 hv_47 => ?_)
        obtain rfl := hv_47.bool
        refine Wx.rd (v := .int .i64 k) (rd_assign rfl) rfl ?_
        refine Wx.rd (v := .bool (ix false dn k)) (rd_assign rfl) rfl ?_
        refine Wx.nil ?_
        refine W.seq ?_
        refine W.regQ mixedYc_ (by kernel_rfl) ?_
        refine Wx.rd (v := .bool (ix false dn k)) (rd_move rfl) rfl ?_
        refine Wx.rd (v := .bool (!(ix false dn k))) (rd_not rfl) rfl ?_
        refine Wx.rd (v := .bool (!(ix false dn k))) (rd_move rfl) rfl ?_
        refine Wx.cutQ (X := Unit) 12 [49, 50, 51, 52, 53, 54, 55, 56, 57, 58, 59, 60] (fun _ => [(60, .bool (!(ix false dn k) && (decide (nx < 0) || decide ((ix 0 y2 k) < (ix 0 y2 nx)))))]) (fun _ => True) ?_ ?_
        · rcases Bool.eq_false_or_eq_true (!(ix false dn k)) with g_48 | g_48
          · -- True
            have gp_49 := g_48
            try simp only [Bool.and_eq_true, Bool.or_eq_true, Bool.not_eq_true', Bool.and_eq_false_iff, Bool.or_eq_false_iff, Bool.not_eq_false', decide_eq_true_eq, decide_eq_false_iff_not, not_or, Bool.false_eq_true, Bool.true_eq_false, false_or, or_false, not_false_eq_true] at gp_49
            refine Wx.gyes rfl rfl (congrArg Value.bool g_48) ?_
            refine Wx.rd (v := .int .i64 nx) (rd_loadX hS 0 rfl rfl rfl Tryz.isAgg3) rfl ?_
            refine Wx.gyes rfl rfl (congrArg Value.bool g_48) ?_
            refine Wx.rd (v := .bool (decide (nx < 0))) (rd_lss rfl rfl) rfl ?_
            refine Wx.gyes rfl rfl (congrArg Value.bool g_48) ?_
            refine Wx.rd (v := .bool (decide (nx < 0))) (rd_move rfl) rfl ?_
            refine Wx.cutQ (X := Unit) 8 [52, 53, 54, 55, 56, 57, 58, 59] (fun _ => [(59, .bool (decide (nx < 0) || decide ((ix 0 y2 k) < (ix 0 y2 nx))))]) (fun _ => True) ?_ ?_
            · rcases Bool.eq_false_or_eq_true (decide (nx < 0)) with g_50 | g_50
              · -- True
                have gp_51 := of_decide_eq_true g_50
                refine Wx.gnoB rfl rfl (congrArg Value.bool g_50) rfl rfl ?_
                refine Wx.gnoB rfl rfl (congrArg Value.bool g_50) rfl rfl ?_
                refine Wx.gnoB rfl rfl (congrArg Value.bool g_50) rfl rfl ?_
                refine Wx.gnoB rfl rfl (congrArg Value.bool g_50) rfl rfl ?_
                refine Wx.gnoB rfl rfl (congrArg Value.bool g_50) rfl rfl ?_
                refine Wx.gnoB rfl rfl (congrArg Value.bool g_50) rfl rfl ?_
                refine Wx.gnoB rfl rfl (congrArg Value.bool g_50) rfl rfl ?_
                refine Wx.gyes rfl rfl (congrArg Value.bool g_48) ?_
                refine Wx.rd (v := .bool true) (rd_pickT (congrArg Value.bool g_50) rfl) rfl ?_
                refine Wx.nilQ (fun _ _ => ⟨(), trivial, ⟨?_, trivial⟩, Out.look rfl Out.refl⟩)
                show Value.bool true = Value.bool (decide (nx < 0) || decide ((ix 0 y2 k) < (ix 0 y2 nx)))
                first | rw [g_50, Bool.true_or] | (rw [g_50]; rfl)
              · -- False
                have gp_52 := of_decide_eq_false g_50
                refine Wx.gyes rfl rfl (congrArg Value.bool g_50) ?_
                refine Wx.rd (v := .int .i64 k) (rd_move rfl) rfl ?_
                refine Wx.gyes rfl rfl (congrArg Value.bool g_50) ?_
                refine Wx.rd (v := .pointer (some ⟨g_9, 0 + k.toNat * 1, none⟩)) (rd_indexArr rfl rfl Tryz.underlying228 Tryz.sizeOf3 (by omega) (by omega)) rfl ?_
                refine Wx.gyes rfl rfl (congrArg Value.bool g_50) ?_
                refine Wx.rd (v := .int .i64 (ix 0 y2 k)) (rd_loadXa (d := 0) (f := (Value.int .i64)) (j := k) hS 2 rfl rfl (by omega) (by omega) (by omega) Tryz.isAgg3) rfl ?_
                refine Wx.gyes rfl rfl (congrArg Value.bool g_50) ?_
                refine Wx.rd (v := .int .i64 nx) (rd_loadX hS 0 rfl rfl rfl Tryz.isAgg3) rfl ?_
                refine Wx.gyes rfl rfl (congrArg Value.bool g_50) ?_
                refine Wx.rd (v := .pointer (some ⟨g_9, 0 + nx.toNat * 1, none⟩)) (rd_indexArr rfl rfl Tryz.underlying228 Tryz.sizeOf3 (by omega) (by omega)) rfl ?_
                refine Wx.gyes rfl rfl (congrArg Value.bool g_50) ?_
                refine Wx.rd (v := .int .i64 (ix 0 y2 nx)) (rd_loadXa (d := 0) (f := (Value.int .i64)) (j := nx) hS 2 rfl rfl (by omega) (by omega) (by omega) Tryz.isAgg3) rfl ?_
                refine Wx.gyes rfl rfl (congrArg Value.bool g_50) ?_
                refine Wx.rd (v := .bool (decide ((ix 0 y2 k) < (ix 0 y2 nx)))) (rd_lss rfl rfl) rfl ?_
                refine Wx.gyes rfl rfl (congrArg Value.bool g_48) ?_
                refine Wx.rd (v := .bool (decide ((ix 0 y2 k) < (ix 0 y2 nx)))) (rd_pickF (congrArg Value.bool g_50) rfl) rfl ?_
                refine Wx.nilQ (fun _ _ => ⟨(), trivial, ⟨?_, trivial⟩, Out.look rfl Out.refl⟩)
                show Value.bool (decide ((ix 0 y2 k) < (ix 0 y2 nx))) = Value.bool (decide (nx < 0) || decide ((ix 0 y2 k) < (ix 0 y2 nx)))
                first | rw [g_50, Bool.false_or] | (rw [g_50]; rfl)
            rintro ⟨⟩ u_54 -
            refine Wx.rd (v := .bool (decide (nx < 0) || decide ((ix 0 y2 k) < (ix 0 y2 nx)))) (rd_pickT (congrArg Value.bool g_48) rfl) rfl ?_
            refine Wx.nilQ (fun _ _ => ⟨(), trivial, ⟨?_, trivial⟩, Out.look rfl (Out.hav rfl (Out.look rfl Out.refl))⟩)
            show Value.bool (decide (nx < 0) || decide ((ix 0 y2 k) < (ix 0 y2 nx))) = Value.bool (!(ix false dn k) && (decide (nx < 0) || decide ((ix 0 y2 k) < (ix 0 y2 nx))))
            first | rw [g_48, Bool.true_and] | (rw [g_48]; rfl)
          · -- False
            have gp_55 := g_48
            try simp only [Bool.and_eq_true, Bool.or_eq_true, Bool.not_eq_true', Bool.and_eq_false_iff, Bool.or_eq_false_iff, Bool.not_eq_false', decide_eq_true_eq, decide_eq_false_iff_not, not_or, Bool.false_eq_true, Bool.true_eq_false, false_or, or_false, not_false_eq_true] at gp_55
            refine Wx.gnoB rfl rfl (congrArg Value.bool g_48) rfl rfl ?_
            refine Wx.gnoB rfl rfl (congrArg Value.bool g_48) rfl rfl ?_
            refine Wx.gnoB rfl rfl (congrArg Value.bool g_48) rfl rfl ?_
            refine Wx.gno rfl rfl rfl rfl ?_
            refine Wx.gno rfl rfl rfl rfl ?_
            refine Wx.gno rfl rfl rfl rfl ?_
            refine Wx.gno rfl rfl rfl rfl ?_
            refine Wx.gno rfl rfl rfl rfl ?_
            refine Wx.gno rfl rfl rfl rfl ?_
            refine Wx.gno rfl rfl rfl rfl ?_
            refine Wx.gnoB rfl rfl (congrArg Value.bool g_48) rfl rfl ?_
            refine Wx.rd (v := .bool false) (rd_pickF (congrArg Value.bool g_48) rfl) rfl ?_
            refine Wx.nilQ (fun _ _ => ⟨(), trivial, ⟨?_, trivial⟩, Out.look rfl Out.refl⟩)
            show Value.bool false = Value.bool (!(ix false dn k) && (decide (nx < 0) || decide ((ix 0 y2 k) < (ix 0 y2 nx))))
            first | rw [g_48, Bool.false_and] | (rw [g_48]; rfl)
        rintro ⟨⟩ u_57 -
        refine Wx.nilQ (fun w_58 hx_59 => ?_)
        have hS := hS.ext hx_59
        refine W.cond rfl (fun c4 => ?_) (fun c4 => ?_)
        · -- yes
          try simp only [Bool.and_eq_true, Bool.or_eq_true, Bool.not_eq_true', Bool.and_eq_false_iff, Bool.or_eq_false_iff, Bool.not_eq_false', decide_eq_true_eq, decide_eq_false_iff_not, not_or, Bool.false_eq_true, Bool.true_eq_false, false_or, or_false, not_false_eq_true] at c4
          refine W.reg ?_
          refine Wx.rd (v := .int .i64 k) (rd_move rfl) rfl ?_
          refine Wx.storeX (cs' := [.int .i64 k]) (ds := [.int .i64 k]) hS 0 rfl rfl rfl rfl Tryz.sizeOf3 (Nat.le_of_ble_eq_true rfl) (one_cons rfl one_nil) rfl (fun w_60 hz_61 hS => ?_)
          refine Wx.nil ?_
          refine W.reg ?_
          refine Wx.rd (v := .int .i64 (k + 1)) (rd_add rfl rfl (in_i64 (by omega) (by omega))) rfl ?_
          refine Wx.rd (v := .int .i64 (k + 1)) (rd_move rfl) rfl ?_
          refine Wx.nil ?_
          refine ⟨(k + 1, k), (by show (H.length - (k + 1)).toNat < (H.length - k).toNat; omega), ?_, ?_, Out.look rfl (Out.hav rfl (Out.look rfl Out.self))⟩
          · exact ⟨hS, (by first | omega | assumption), (by first | omega | assumption), (nx_new k2 k0 c4.1 c4.2), (by first | omega | assumption), (by first | omega | assumption)⟩
          · exact ⟨rfl, trivial⟩
        · -- no
          try simp only [Bool.and_eq_true, Bool.or_eq_true, Bool.not_eq_true', Bool.and_eq_false_iff, Bool.or_eq_false_iff, Bool.not_eq_false', decide_eq_true_eq, decide_eq_false_iff_not, not_or, Bool.false_eq_true, Bool.true_eq_false, false_or, or_false, not_false_eq_true] at c4
          refine W.skip ?_
          refine W.reg ?_
          refine Wx.rd (v := .int .i64 (k + 1)) (rd_add rfl rfl (in_i64 (by omega) (by omega))) rfl ?_
          refine Wx.rd (v := .int .i64 (k + 1)) (rd_move rfl) rfl ?_
          refine Wx.nil ?_
          refine ⟨(k + 1, nx), (by show (H.length - (k + 1)).toNat < (H.length - k).toNat; omega), ?_, ?_, Out.look rfl (Out.hav rfl (Out.look rfl Out.self))⟩
          · exact ⟨hS, (by first | omega | assumption), (by first | omega | assumption), (nx_old k2 k0 (by rcases c4 with c | c; exact .inl c; exact .inr (by omega))), (by first | omega | assumption), (by first | omega | assumption)⟩
          · exact ⟨rfl, trivial⟩
      · -- no
        obtain ⟨hzr, hzd, hzm⟩ := nx_end (H := H) (by rw [show (H.length : Int) = k by omega]; exact k2) (cnt_some (by omega))
        have hz0 := hzr.1
        have hz1 := hzr.2
        refine W.exit rfl ?_
        refine WD.seq ?_
        refine WD.ofW ?_
        refine W.reg ?_
        refine Wx.rd (v := v_16) (rd_move rfl) rfl ?_
        refine Wx.rd (v := .int .i64 nx) (rd_loadX hS 0 rfl rfl rfl Tryz.isAgg3) rfl ?_
        refine Wx.indexR hS 1 rfl rfl rfl Tryz.underlying249 Tryz.sizeOf4 (by first | omega | (simp only [List.length_set, List.length_append, List.length_cons, List.length_nil, List.length_replicate]; omega)) (by first | omega | (simp only [List.length_set, List.length_append, List.length_cons, List.length_nil, List.length_replicate]; omega)) rfl (fun g_62 hg_63 => ?_)
        refine Wx.storeR (j := nx.toNat) (z := true) hS 1 rfl hg_63 rfl (by first | omega | (simp only [List.length_set, List.length_append, List.length_cons, List.length_nil, List.length_replicate]; omega)) rfl ⟨[.bool true], rfl, rfl⟩ Tryz.sizeOf4 (fun w_64 hz_65 hS => ?_)
        refine Wx.nil ?_
        refine WD.seq ?_
        refine WD.ofW ?_
        refine W.reg ?_
        refine Wx.rd (v := .agg #[.int .i64 R, .int .i64 C, hv]) (rd_loadXs (ds := [.int .i64 R, .int .i64 C, hv]) hS 4 rfl rfl rfl rfl Tryz.isAgg209 Tryz.sizeOf209) rfl ?_
        refine Wx.rd (v := .int .i64 nx) (rd_loadX hS 0 rfl rfl rfl Tryz.isAgg3) rfl ?_
        refine Wx.callB (run_callF Tryz.call145 rfl) (F145 hS (hS.arg a_hv)) rfl ?_
        rintro r_66 w_67 ⟨gn_68, gs_69, rfl, hS⟩
        refine Wx.nil ?_
        refine WD.block ?_
        have hS := hS.add (hS.arg a_hv)
        have hS := hS.front 7 rfl
        have hS := hS.front 7 rfl
        have hS := hS.front 7 rfl
        have hS := hS.front 7 rfl
        have hS := hS.front 7 rfl
        have hS := hS.front 5 rfl
        have hS := hS.front 7 rfl
        have hS := hS.front 7 rfl
        have hS : St _ _ w_67 (.box gn_68 3 [.int .i64 nx] :: .box gs_69 209 [.int .i64 R, .int .i64 C, hv] :: Ob.v (tSl (tI .i64)) H hv :: .box g_36 3 [.int .i64 nx] :: .row tBool 4 v_16 (List.set dn nx.toNat true) :: .box g_9 228 (List.map (Value.int .i64) y2) :: .box g_5 228 (List.map (Value.int .i64) (List.replicate 37 (0 : Int))) :: .box g_1 209 [.int .i64 R, .int .i64 C, hv] :: DOb Ds) := hS
        refine WD.range (ob := [.box g_36 3 [.int .i64 nx], .row tBool 4 v_16 (List.set dn nx.toNat true), .box g_9 228 (List.map (Value.int .i64) y2), .box g_5 228 (List.map (Value.int .i64) (List.replicate 37 (0 : Int))), .box g_1 209 [.int .i64 R, .int .i64 C, hv]]) (nbW C H.length nx) (fun ls ob => ∃ (y3 : List Int), (DjP C H (DB dn) nx (fun x => x ∈ ls) (ix 0 y3)) ∧ (y3.length = 37) ∧ (ZT H.length y3) ∧ ob = [.box g_36 3 [.int .i64 nx], .row tBool 4 v_16 (List.set dn nx.toNat true), .box g_9 228 (List.map (Value.int .i64) y3), .box g_5 228 (List.map (Value.int .i64) (List.replicate 37 (0 : Int))), .box g_1 209 [.int .i64 R, .int .i64 C, hv]]) (fun _ _ _ => False) [] rfl Tryz.call150 rfl rfl (iter85 p_ok hzr) hS ⟨y2, (djl_open hok i2 hzr hzd hzm), (i3), (i6), rfl⟩ ?_ ?_ ?_
        · -- a round
          rintro ls m pre_74 _ w_73 hpx ⟨y3, m2, m3, m4, rfl⟩ hS
          have hm := mem_nbW.1 (mem_pre hpx)
          have hm0 : 0 ≤ m ∧ m ≤ (H.length : Int) := by rcases hm with ⟨q, _⟩ | q <;> omega
          refine W.block ?_
          refine W.seq ?_
          refine W.reg ?_
          refine Wx.rd (v := .int .i64 m) (rd_move rfl) rfl ?_
          refine Wx.rd (v := .agg #[.int .i64 R, .int .i64 C, hv]) (rd_loadXs (ds := [.int .i64 R, .int .i64 C, hv]) hS 4 rfl rfl rfl rfl Tryz.isAgg209 Tryz.sizeOf209) rfl ?_
          refine Wx.callF (run_callF Tryz.call134 rfl) (F134 i_R i_C (hS.arg a_hv)) rfl ?_
          rintro r_75 w_76 hx_77 rfl
          have hS := hS.ext hx_77
          refine Wx.rd (v := .bool (decide (m < (H.length : Int)))) (rd_lss rfl rfl) rfl ?_
          refine Wx.nil ?_
          refine W.condD rfl (fun c5 => ?_) (fun c5 => ?_)
          · -- yes
            have hma : adjB C nx m = true := by rcases hm with q | q; exact q.2; omega
            refine W.regT 15 mixedYc_ (by kernel_rfl) ?_
            refine Wx.rd (v := .int .i64 m) (rd_move rfl) rfl ?_
            refine Wx.rd (v := .int .i64 m) (rd_move rfl) rfl ?_
            refine Wx.rd (v := .pointer (some ⟨g_9, 0 + m.toNat * 1, none⟩)) (rd_indexArr rfl rfl Tryz.underlying228 Tryz.sizeOf3 (by omega) (by omega)) rfl ?_
            refine Wx.rd (v := .int .i64 (ix 0 y3 m)) (rd_loadXa (d := 0) (f := (Value.int .i64)) (j := m) hS 2 rfl rfl (by omega) (by omega) (by omega) Tryz.isAgg3) rfl ?_
            refine Wx.rd (v := .int .i64 nx) (rd_loadX hS 0 rfl rfl rfl Tryz.isAgg3) rfl ?_
            refine Wx.rd (v := .pointer (some ⟨g_9, 0 + nx.toNat * 1, none⟩)) (rd_indexArr rfl rfl Tryz.underlying228 Tryz.sizeOf3 (by omega) (by omega)) rfl ?_
            refine Wx.rd (v := .int .i64 (ix 0 y3 nx)) (rd_loadXa (d := 0) (f := (Value.int .i64)) (j := nx) hS 2 rfl rfl (by omega) (by omega) (by omega) Tryz.isAgg3) rfl ?_
            refine Wx.rd (v := .pointer (some ⟨g_1, 2, none⟩)) (rd_fieldAddr rfl foYc_209_2) rfl ?_
            refine Wx.rd (v := hv) (rd_loadX hS 4 rfl rfl rfl Tryz.isAgg23) rfl ?_
            refine Wx.rd (v := .int .i64 m) (rd_move rfl) rfl ?_
            refine Wx.ex (rd_index 0 (hS.arg a_hv) rfl rfl Tryz.underlying23 Tryz.sizeOf3 (by first | omega | (simp only [List.length_set, List.length_append, List.length_cons, List.length_nil, List.length_replicate]; omega)) (by first | omega | (simp only [List.length_set, List.length_append, List.length_cons, List.length_nil, List.length_replicate]; omega))) rfl (fun p_78 hp_79 => ?_)
            refine Wx.rd (v := .int .i64 (ix 0 H m)) (rd_loadI hp_79 rfl Tryz.isAgg3 Tryz.sizeOf3) rfl ?_
            have bd_80 := bd_i64 hp_79.inK
            refine Wx.rd (v := .int .i64 (max (ix 0 y3 nx) (ix 0 H m))) (rd_max rfl rfl) rfl ?_
            refine Wx.rd (v := .int .i64 (min (ix 0 y3 m) (max (ix 0 y3 nx) (ix 0 H m)))) (rd_min rfl rfl) rfl ?_
            refine Wx.rd (v := .pointer (some ⟨g_9, 0 + m.toNat * 1, none⟩)) (rd_indexArr rfl rfl Tryz.underlying228 Tryz.sizeOf3 (by omega) (by omega)) rfl ?_
            refine Wx.nilQ (fun w_81 hx_82 => ?_)
            have hS := hS.ext hx_82
            refine Wx.storeXa (j := m) (f := (Value.int .i64)) (u := (min (ix 0 y3 m) (max (ix 0 y3 nx) (ix 0 H m)))) hS 2 rfl rfl (by omega) rfl rfl rfl Tryz.sizeOf3 (by omega) (by omega) (fun w_83 hz_84 hS => ?_)
            refine Wx.nil ?_
            have hS := hS.front 4 rfl
            have hS := hS.front 4 rfl
            have hS := hS.front 4 rfl
            have hS := hS.front 4 rfl
            have hS := hS.front 4 rfl
            have hS : St _ _ w_83 (.box g_36 3 [.int .i64 nx] :: .row tBool 4 v_16 (List.set dn nx.toNat true) :: .box g_9 228 (List.map (Value.int .i64) (List.set y3 m.toNat (min (ix 0 y3 m) (max (ix 0 y3 nx) (ix 0 H m))))) :: .box g_5 228 (List.map (Value.int .i64) (List.replicate 37 (0 : Int))) :: .box g_1 209 [.int .i64 R, .int .i64 C, hv] :: pre_74) := hS
            exact ⟨_, ⟨List.set y3 m.toNat (min (ix 0 y3 m) (max (ix 0 y3 nx) (ix 0 H m))), (djl_look hok hzr m2 (by omega) ⟨hm0.1, c5⟩ hma), (by simp only [List.length_set]; exact m3), (zt_set m4 (by omega) (by omega)), rfl⟩, hS⟩
          · -- no
            refine W.skip ?_
            have hS := hS.front 4 rfl
            have hS := hS.front 4 rfl
            have hS := hS.front 4 rfl
            have hS := hS.front 4 rfl
            have hS := hS.front 4 rfl
            have hS : St _ _ w_76 (.box g_36 3 [.int .i64 nx] :: .row tBool 4 v_16 (List.set dn nx.toNat true) :: .box g_9 228 (List.map (Value.int .i64) y3) :: .box g_5 228 (List.map (Value.int .i64) (List.replicate 37 (0 : Int))) :: .box g_1 209 [.int .i64 R, .int .i64 C, hv] :: pre_74) := hS
            exact ⟨_, ⟨y3, (djl_river m2 (by omega)), (by first | omega | assumption), (by first | omega | assumption), rfl⟩, hS⟩
        · -- all have come
          rintro _ D_85 w_86 ⟨y3, m2, m3, m4, rfl⟩ hS
          have hS : St _ _ w_86 (.box g_36 3 [.int .i64 nx] :: .row tBool 4 v_16 (List.set dn nx.toNat true) :: .box g_9 228 (List.map (Value.int .i64) y3) :: .box g_5 228 (List.map (Value.int .i64) (List.replicate 37 (0 : Int))) :: .box g_1 209 [.int .i64 R, .int .i64 C, hv] :: DOb (D_85 :: Ds)) := hS
          refine WD.ofW ?_
          refine W.reg ?_
          refine Wx.rd (v := .int .i64 (i + 1)) (rd_add rfl rfl (in_i64 (by omega) (by omega))) rfl ?_
          refine Wx.rd (v := .int .i64 (i + 1)) (rd_move rfl) rfl ?_
          refine Wx.nil ?_
          refine ⟨(i + 1, List.set dn nx.toNat true, y3, (D_85 :: Ds)), (by show (H.length - (i + 1)).toNat < (H.length - i).toNat; omega), rfl, ?_, ?_, Out.look rfl (Out.hav rfl (Out.look rfl Out.self))⟩
          · exact ⟨hS.tl, (by first | omega | assumption), (by first | omega | assumption), (djl_close hzr i4 m2), (m3), (by simp only [List.length_set]; exact i4), (by rw [cnt_set hzr i4 hzd]; omega), (m4)⟩
          · exact ⟨rfl, trivial⟩
        · exact fun _ _ _ _ _ h => h.elim
    · -- no
      refine W.exit rfl ?_
      refine WD.ofW ?_
      refine W.seq ?_
      refine W.reg ?_
      refine Wx.rd (v := .agg (List.map (Value.int .i64) y2).toArray) (rd_loadXs (ds := List.map (Value.int .i64) y2) hS 1 rfl rfl (by rw [List.drop_zero, List.take_of_length_le (by simp; omega)]) (by simp; omega) Tryz.isAgg228 Tryz.sizeOf228) rfl ?_
      refine Wx.storeX (cs' := List.map (Value.int .i64) y2) (ds := List.map (Value.int .i64) y2) hS 2 rfl rfl rfl rfl (fun w' => by rw [List.length_map, show List.length y2 = 37 by first | omega | (simp; omega) | simp]; exact Tryz.sizeOf228 w') (by first | (simp; omega) | simp) (by intro u hu; obtain ⟨_, _, rfl⟩ := List.mem_map.1 hu; rfl) (by rw [List.take_zero, List.nil_append, List.drop_of_length_le (by first | (simp; omega) | simp), List.append_nil]) (fun w_87 hz_88 hS => ?_)
      refine Wx.nil ?_
      have hS : St _ _ w_87 (.row tBool 4 v_16 dn :: .box g_9 228 (List.map (Value.int .i64) y2) :: .box g_5 228 (List.map (Value.int .i64) y2) :: .box g_1 209 [.int .i64 R, .int .i64 C, hv] :: DOb Ds) := hS
      refine W.ret ⟨[.row tBool 4 v_16 dn, .box g_9 228 (List.map (Value.int .i64) y2), .box g_5 228 (List.map (Value.int .i64) y2), .box g_1 209 [.int .i64 R, .int .i64 C, hv]], hS, fun w_89 hS => ?_⟩
      exact ⟨.agg (List.map (Value.int .i64) y2).toArray, (ResIs.cell1 hS 2 rfl rfl Tryz.isAgg228 (fun w' => by rw [List.length_map, show List.length y2 = 37 by first | omega | (simp; omega) | simp]; exact Tryz.sizeOf228 w')), hS.bel, ⟨y2, (by exact ⟨⟨i3, fun x x0 x1 => dj_end i2 (cnt_all (by omega)) x ⟨x0, x1⟩⟩, i6⟩), rfl⟩⟩

theorem F132 {R : Int} {C : Int} {hv : Value} {H : List Int} {O : List (Option Nat)} {w : World} (i_R : InK .i64 R) (i_C : InK .i64 C) (h_hv : V (tSl (tI .i64)) H hv O w) (p_ok : SOK R C H) (hO : ∀ b, some b ∈ O → b < w.heap.size) : Calls Tryz.prog 132 #[.agg #[.int .i64 R, .int .i64 C, hv]] w (Ret w (fun r _ => ∃ ys : List Int, (ys.length = 37 ∧ ∀ x, 0 ≤ x → x < (H.length : Int) → ix 0 ys x = sillV C H x) ∧ r = .agg (List.map (Value.int .i64) ys).toArray)) :=
  (F132z i_R i_C h_hv p_ok hO).mono fun _ _ ⟨r, he, hx, ys, ⟨h1, _⟩, h2⟩ => ⟨r, he, hx, ys, h1, h2⟩
end Go.Proofs.YtodcppoglpfodaaGreatDoor

namespace Go.Proofs.YtodcppoglpfodaaGreatDoor
open Go.Wk Go.RowKit Go.Lib
set_option linter.unusedVariables false
set_option linter.unusedSimpArgs false
theorem elYd_23 : ElemI Tryz.prog 23 3 (.int .i64 0) 1 8 := ElemI.of Tryz.underlying23 (by kernel_rfl) (by first | rfl | kernel_rfl) (by decide)

theorem F133 {xv : Value} {xs : List Int} {Fr_xv : List (Option Nat)} {w : World} (h_xv : V (tSl (tI .i64)) xs xv Fr_xv w) (p_1000 : (xs.length : Int) ≤ 1000) : Calls Tryz.prog 133 #[xv] w (Ret w (fun r w' => ∃ rv, r = rv ∧ Fresh (tI .i64) 3 xs rv w.heap.size w')) := by
  have a_xv := h_xv.any
  have l_xv := h_xv.len63
  have hS := St.start0 w
  refine enterR Tryz.func133 rfl Tryz.ntmps133 Tryz.results133 rfl ?_
  refine W.seq ?_
  refine W.reg ?_
  refine Wx.rd (v := (.slice none 0 0)) (rd_assign rfl) rfl ?_
  refine Wx.nil ?_
  refine W.seq ?_
  refine W.seq ?_
  refine W.reg ?_
  refine Wx.rd (v := xv) (rd_move rfl) rfl ?_
  refine Wx.ex (rd_eqlNilV (hS.arg a_xv) rfl rfl Tryz.underlying23) rfl (fun u_1 hu_u_1 => ?_)
  obtain ⟨b_2, rfl, hb_3⟩ := hu_u_1
  refine Wx.nil ?_
  refine W.cond rfl (fun c0 => ?_) (fun c0 => ?_)
  · -- yes
    try simp only [Bool.and_eq_true, Bool.or_eq_true, Bool.not_eq_true', Bool.and_eq_false_iff, Bool.or_eq_false_iff, Bool.not_eq_false', decide_eq_true_eq, decide_eq_false_iff_not, not_or, Bool.false_eq_true, Bool.true_eq_false, false_or, or_false, not_false_eq_true] at c0
    refine W.seq ?_
    refine W.reg ?_
    refine Wx.rd (v := (.slice none 0 0)) (rd_assign rfl) rfl ?_
    refine Wx.nil ?_
    have e0_0 : xs = [] := by solve_by_elim
    exact W.ret ⟨(.slice none 0 0), ResIs.one, hS.bel, ⟨(.slice none 0 0), rfl, (by rw [e0_0]; exact ((hS.addNil (tI .i64) 3).fr 0 rfl flat_int))⟩⟩
  · -- no
    try simp only [Bool.and_eq_true, Bool.or_eq_true, Bool.not_eq_true', Bool.and_eq_false_iff, Bool.or_eq_false_iff, Bool.not_eq_false', decide_eq_true_eq, decide_eq_false_iff_not, not_or, Bool.false_eq_true, Bool.true_eq_false, false_or, or_false, not_false_eq_true] at c0
    refine W.skip ?_
    refine W.seq ?_
    refine W.reg ?_
    refine Wx.lit (t := (tI .i64)) (ys := []) (vs := []) elYd_23 hS rfl rfl trivial (by decide) rfl (fun v_4 w_5 hx_6 hS => ?_)
    refine Wx.rd (v := xv) (rd_move rfl) rfl ?_
    refine Wx.append elYd_23 hS 0 rfl rfl rfl (Src.ofV (hS.arg a_xv)) (by simp only [maxLen]; first | omega | (simp; omega) | simp) (by first | omega | (simp; omega) | simp) rfl (fun v_7 w_8 hz_9 hS => ?_)
    refine Wx.rd (v := v_7) (rd_assign rfl) rfl ?_
    refine Wx.nil ?_
    have e1_0 : xs = [] ++ xs := by first | rfl | omega
    exact W.ret ⟨v_7, ResIs.one, hS.bel, ⟨v_7, rfl, (by rw [e1_0]; exact (hS.fr 0 rfl flat_int))⟩⟩

theorem F116 {R : Int} {C : Int} {hv : Value} {H : List Int} {O : List (Option Nat)} {w : World} (i_R : InK .i64 R) (i_C : InK .i64 C) (h_hv : V (tSl (tI .i64)) H hv O w) (hO : ∀ b, some b ∈ O → b < w.heap.size) : Calls Tryz.prog 116 #[.agg #[.int .i64 R, .int .i64 C, hv]] w (Ret w (fun r w' => ∃ rv, r = .tuple #[rv, .int .i64 (checkS R C H)] ∧ Fresh (tI .i64) 3 (sillsE R C H) rv w.heap.size w')) := by
  have b_C := bd_i64 i_C
  have b_R := bd_i64 i_R
  have a_hv := h_hv
  have l_hv := h_hv.len63
  have hS := St.start w O hO
  refine enterR Tryz.func116 rfl Tryz.ntmps116 Tryz.results116 rfl ?_
  refine W.seq ?_
  refine W.reg ?_
  refine Wx.box (cs := [.int .i64 R, .int .i64 C, hv]) hS rfl rfl rfl (fun g_1 w_2 hx_4 hb_3 hS => ?_)
  refine Wx.rd (v := (.slice none 0 0)) (rd_assign rfl) rfl ?_
  refine Wx.rd (v := .int .i64 0) (rd_assign rfl) rfl ?_
  refine Wx.nil ?_
  refine W.seq ?_
  refine W.seq ?_
  refine W.reg ?_
  refine Wx.rd (v := .agg #[.int .i64 R, .int .i64 C, hv]) (rd_loadXs (ds := [.int .i64 R, .int .i64 C, hv]) hS 0 rfl rfl rfl rfl Tryz.isAgg209 Tryz.sizeOf209) rfl ?_
  refine Wx.callF (run_callF Tryz.call131 rfl) (F131 i_R i_C (hS.arg a_hv)) rfl ?_
  rintro r_5 w_6 hx_7 rfl
  have hS := hS.ext hx_7
  refine Wx.rd (v := .int .i64 (checkS R C H)) (rd_assign rfl) rfl ?_
  refine Wx.nil ?_
  refine W.seq ?_
  refine W.reg ?_
  refine Wx.rd (v := .int .i64 (checkS R C H)) (rd_move rfl) rfl ?_
  refine Wx.rd (v := .bool (decide ((checkS R C H) ≠ 0))) (rd_neq rfl rfl) rfl ?_
  refine Wx.nil ?_
  refine W.condD rfl (fun c0 => ?_) (fun c0 => ?_)
  · -- yes
    refine W.seq ?_
    refine W.reg ?_
    refine Wx.rd (v := .int .i64 (checkS R C H)) (rd_move rfl) rfl ?_
    refine Wx.rd (v := (.slice none 0 0)) (rd_assign rfl) rfl ?_
    refine Wx.rd (v := .int .i64 (checkS R C H)) (rd_assign rfl) rfl ?_
    refine Wx.nil ?_
    have e0_0 : sillsE R C H = [] := by rw [sillsE, if_neg c0]
    exact W.ret ⟨.tuple #[(.slice none 0 0), .int .i64 (checkS R C H)], ResIs.two, hS.bel, ⟨(.slice none 0 0), rfl, (by rw [e0_0]; exact ((hS.addNil (tI .i64) 3).fr 0 rfl flat_int))⟩⟩
  · -- no
    have h0c : checkS R C H = 0 := by omega
    have p_ok := SOK.of h0c
    obtain ⟨⟨r1, r2⟩, ⟨c1_, c2_⟩, hRC, ⟨n1, n36⟩, hCn, hok⟩ := id p_ok
    refine W.skip ?_
    refine W.seq ?_
    refine W.reg ?_
    refine Wx.rd (v := .agg #[.int .i64 R, .int .i64 C, hv]) (rd_loadXs (ds := [.int .i64 R, .int .i64 C, hv]) hS 0 rfl rfl rfl rfl Tryz.isAgg209 Tryz.sizeOf209) rfl ?_
    refine Wx.callF (run_callF Tryz.call132 rfl) (F132 i_R i_C (hS.arg a_hv) p_ok hS.fb_lt) rfl ?_
    rintro r_9 w_10 hx_11 ⟨l_8, hex, rfl⟩
    have hS := hS.ext hx_11
    refine Wx.alloc (cs := List.map (Value.int .i64) (List.replicate 37 (0 : Int))) hS Tryz.zeroValue228 (by kernel_rfl) rfl (fun g_12 w_13 hx_15 hb_14 hS => ?_)
    have hS : St _ _ w_13 [.box g_12 228 (List.map (Value.int .i64) (List.replicate 37 (0 : Int))), .box g_1 209 [.int .i64 R, .int .i64 C, hv]] := hS
    refine Wx.storeX (cs' := List.map (Value.int .i64) l_8) (ds := List.map (Value.int .i64) l_8) hS 0 rfl rfl rfl rfl (fun w' => by rw [List.length_map, show List.length l_8 = 37 by first | omega | (simp; omega) | simp]; exact Tryz.sizeOf228 w') (by first | (simp; omega) | simp) (by intro u hu; obtain ⟨_, _, rfl⟩ := List.mem_map.1 hu; rfl) (by rw [List.take_zero, List.nil_append, List.drop_of_length_le (by first | (simp; omega) | simp), List.append_nil]) (fun w_16 hz_17 hS => ?_)
    refine Wx.nil ?_
    refine W.seq ?_
    refine W.reg ?_
    refine Wx.rd (v := .agg #[.int .i64 R, .int .i64 C, hv]) (rd_loadXs (ds := [.int .i64 R, .int .i64 C, hv]) hS 1 rfl rfl rfl rfl Tryz.isAgg209 Tryz.sizeOf209) rfl ?_
    refine Wx.callF (run_callF Tryz.call134 rfl) (F134 i_R i_C (hS.arg a_hv)) rfl ?_
    rintro r_18 w_19 hx_20 rfl
    have hS := hS.ext hx_20
    refine Wx.rd (v := (.slice (some ⟨g_12, 0, none⟩) (H.length : Int).toNat 37)) (rd_sliceArrH (m := 37) Tryz.underlying228 Tryz.sizeOf3 rfl rfl (by omega) (by omega)) rfl ?_
    have hS := hS.sliceBox (o := 0) (k := .i64) (m := (H.length : Int).toNat) (xs := List.take (H.length : Int).toNat l_8) (cap := 37) 0 rfl (by exact take_map_take (Value.int .i64) l_8 _) (kn_in (f := sillV C H) (by omega) hex.2 (fun x x0 x1 => by have := p_ok.sill x0 x1; omega)) (by simp; omega) (by omega) (by decide)
    have hS := hS.add (t := tSl (tI .i64)) (x := sillsL C H) (v := .slice (some ⟨g_12, 0, none⟩) (H.length : Int).toNat 37) (by have q := (hS.v 0 rfl); rw [show List.take (H.length : Int).toNat l_8 = sillsL C H from take_map (by omega) (by omega) hex.2] at q; exact q)
    refine Wx.callF (run_callF Tryz.call133 rfl) (F133 (hS.v 0 rfl) (by have := rng_length (i := 0) (n := H.length) (by omega); simp [sillsL]; omega)) rfl ?_
    rintro r_22 w_23 hx_24 ⟨_, rfl, hv_25⟩
    have hS := hS.pushFr hx_24 hv_25
    refine Wx.rd (v := r_22) (rd_assign rfl) rfl ?_
    refine Wx.rd (v := .int .i64 0) (rd_assign rfl) rfl ?_
    refine Wx.nil ?_
    have e1_0 : sillsE R C H = (sillsL C H) := by rw [sillsE, if_pos h0c]
    have e1_1 : (checkS R C H) = (0 : Int) := by exact h0c
    exact W.ret ⟨.tuple #[r_22, .int .i64 0], ResIs.two, hS.bel, ⟨r_22, (by rw [e1_1]), (by rw [e1_0]; exact (hS.fr 0 rfl flat_int))⟩⟩
end Go.Proofs.YtodcppoglpfodaaGreatDoor

namespace Go.Proofs.YtodcppoglpfodaaGreatDoor
open Go.Wk Go.RowKit Go.Lib
set_option linter.unusedVariables false
set_option linter.unusedSimpArgs false
theorem elVb_23 : ElemI Tryz.prog 23 3 (.int .i64 0) 1 8 := ElemI.of Tryz.underlying23 (by kernel_rfl) (by first | rfl | kernel_rfl) (by decide)
theorem elVb_115 : ElemI Tryz.prog 115 23 ((.slice none 0 0)) 1 24 := ElemI.of Tryz.underlying115 (by kernel_rfl) (by first | rfl | kernel_rfl) (by decide)

set_option maxHeartbeats 2000000 in
theorem C3.F94  {w : World}  : Calls Tryz.prog 94 #[] w (Ret w (fun r _ => r = .bool true)) := by
  have hS := St.start0 w
  refine enterR Tryz.func94 rfl Tryz.ntmps94 Tryz.results94 rfl ?_
  refine W.seq ?_
  refine W.reg ?_
  refine Wx.rd (v := .bool false) (rd_assign rfl) rfl ?_
  refine Wx.nil ?_
  refine W.seq ?_
  refine W.reg ?_
  refine Wx.lit (t := (tI .i64)) (ys := [9, 3, 6, 1]) (vs := [.int .i64 9, .int .i64 3, .int .i64 6, .int .i64 1]) elVb_23 hS rfl rfl ⟨(V.mkInt (in_i64 (by omega) (by omega))), ⟨(V.mkInt (in_i64 (by omega) (by omega))), ⟨(V.mkInt (in_i64 (by omega) (by omega))), ⟨(V.mkInt (in_i64 (by omega) (by omega))), trivial⟩⟩⟩⟩ (by decide) rfl (fun v_1 w_2 hx_3 hS => ?_)
  have hS := hS.freeze 0 rfl
  refine Wx.callF (run_callF Tryz.call37 rfl) (F37 (hS.v 0 rfl) hS.fb_lt) rfl ?_
  rintro r_5 w_6 hx_7 ⟨_, rfl, hv_8⟩
  have ln_10 := hv_8.len63
  have hS := hS.ext hx_7
  have hS := hS.add hv_8
  refine Wx.rd (v := .agg #[.int .i64 4, .int .i64 1, r_5]) (rd_buildC (vs := [(0, .int .i64 4), (1, .int .i64 1), (2, r_5)]) (us := [(0, .agg #[.int .i64 4]), (1, .agg #[.int .i64 1]), (2, .agg #[r_5])]) rfl (parts_cons rfl (parts_cons rfl (parts_cons (Go.Wk.cells_one (V.oneC (hS.v 0 rfl))) parts_nil))) (by kernel_rfl)) rfl ?_
  refine Wx.alloc (cs := [.int .i64 0, .int .i64 0, (.slice none 0 0)]) hS Tryz.zeroValue209 rfl rfl (fun g_11 w_12 hx_14 hb_13 hS => ?_)
  refine Wx.storeX (cs' := [.int .i64 4, .int .i64 1, r_5]) (ds := [.int .i64 4, .int .i64 1, r_5]) hS 0 rfl rfl rfl rfl Tryz.sizeOf209 (Nat.le_of_ble_eq_true rfl) (one_cons rfl (one_cons rfl (one_cons (V.oneC (hS.v 1 rfl)) one_nil))) rfl (fun w_15 hz_16 hS => ?_)
  refine Wx.nil ?_
  refine W.seq ?_
  refine W.reg ?_
  refine Wx.rd (v := .agg #[.int .i64 4, .int .i64 1, r_5]) (rd_loadXs (ds := [.int .i64 4, .int .i64 1, r_5]) hS 0 rfl rfl rfl rfl Tryz.isAgg209 Tryz.sizeOf209) rfl ?_
  refine Wx.callF (run_callF Tryz.call116 rfl) (F116 (in_i64 (by omega) (by omega)) (in_i64 (by omega) (by omega)) (hS.v 1 rfl) hS.fb_lt) rfl ?_
  rintro r_17 w_18 hx_19 ⟨v_20, rfl, hv_21⟩
  have hS := hS.pushFr hx_19 hv_21
  refine Wx.rd (v := .tuple #[v_20, .int .i64 (checkS 4 1 [9, 3, 6, 1])]) (rd_move rfl) rfl ?_
  refine Wx.rd (v := v_20) (rd_extract rfl rfl) rfl ?_
  refine Wx.rd (v := .int .i64 0) (Rd.to (v := .int .i64 (checkS 4 1 [9, 3, 6, 1])) (rd_extract rfl rfl) (congrArg (Value.int .i64) (show (0 : Int) = (checkS 4 1 [9, 3, 6, 1] : Int) from (by decide +kernel)).symm)) rfl ?_
  refine Wx.rd (v := v_20) (rd_assign rfl) rfl ?_
  refine Wx.rd (v := .int .i64 0) (rd_assign rfl) rfl ?_
  refine Wx.nil ?_
  refine W.seq ?_
  refine W.reg ?_
  refine Wx.lit (t := (tI .i64)) (ys := [0, 1]) (vs := [.int .i64 0, .int .i64 1]) elVb_23 hS rfl rfl ⟨(V.mkInt (in_i64 (by omega) (by omega))), ⟨(V.mkInt (in_i64 (by omega) (by omega))), trivial⟩⟩ (by decide) rfl (fun v_23 w_24 hx_25 hS => ?_)
  refine Wx.lit (t := (tI .i64)) (ys := [1, 2]) (vs := [.int .i64 1, .int .i64 2]) elVb_23 hS rfl rfl ⟨(V.mkInt (in_i64 (by omega) (by omega))), ⟨(V.mkInt (in_i64 (by omega) (by omega))), trivial⟩⟩ (by decide) rfl (fun v_26 w_27 hx_28 hS => ?_)
  refine Wx.lit (t := (tI .i64)) (ys := [2, 3]) (vs := [.int .i64 2, .int .i64 3]) elVb_23 hS rfl rfl ⟨(V.mkInt (in_i64 (by omega) (by omega))), ⟨(V.mkInt (in_i64 (by omega) (by omega))), trivial⟩⟩ (by decide) rfl (fun v_29 w_30 hx_31 hS => ?_)
  have hS := hS.freeze 2 rfl
  have hS := hS.freeze 2 rfl
  have hS := hS.freeze 2 rfl
  refine Wx.lit (t := (tSl (tI .i64))) (ys := [[0, 1], [1, 2], [2, 3]]) (vs := [v_23, v_26, v_29]) elVb_115 hS rfl rfl ⟨(hS.v 2 rfl), ⟨(hS.v 1 rfl), ⟨(hS.v 0 rfl), trivial⟩⟩⟩ (by decide) rfl (fun v_35 w_36 hx_37 hS => ?_)
  refine Wx.rd (v := .agg #[.int .i64 4, v_35]) (rd_buildC (vs := [(0, .int .i64 4), (1, v_35)]) (us := [(0, .agg #[.int .i64 4]), (1, .agg #[v_35])]) rfl (parts_cons rfl (parts_cons (Go.Wk.cells_one (hS.rowOne 0 rfl)) parts_nil)) (by kernel_rfl)) rfl ?_
  refine Wx.callF (run_callF Tryz.call117 rfl) (C3.F117 (in_i64 (by omega) (by omega)) (hS.lend 0 rfl)) rfl ?_
  rintro r_38 w_39 hx_40 ⟨v_41, rfl, hv_42⟩
  have hS := hS.pushFr hx_40 hv_42
  refine Wx.rd (v := .tuple #[v_41, .int .i64 (firstE 4 [[0, 1], [1, 2], [2, 3]])]) (rd_move rfl) rfl ?_
  refine Wx.rd (v := v_41) (rd_extract rfl rfl) rfl ?_
  refine Wx.rd (v := .int .i64 0) (Rd.to (v := .int .i64 (firstE 4 [[0, 1], [1, 2], [2, 3]])) (rd_extract rfl rfl) (congrArg (Value.int .i64) (show (0 : Int) = (firstE 4 [[0, 1], [1, 2], [2, 3]] : Int) from (by decide +kernel)).symm)) rfl ?_
  refine Wx.rd (v := v_41) (rd_assign rfl) rfl ?_
  refine Wx.rd (v := .int .i64 0) (rd_assign rfl) rfl ?_
  refine Wx.nil ?_
  refine W.seq ?_
  refine W.reg ?_
  refine Wx.rd (v := .int .i64 0) (rd_move rfl) rfl ?_
  refine Wx.rd (v := .bool true) (Rd.to (v := .bool (decide ((0 : Int) = 0))) (rd_eql rfl rfl) rfl) rfl ?_
  refine Wx.rd (v := .bool true) (rd_move rfl) rfl ?_
  refine Wx.gyes rfl rfl rfl ?_
  refine Wx.rd (v := .int .i64 0) (rd_move rfl) rfl ?_
  refine Wx.gyes rfl rfl rfl ?_
  refine Wx.rd (v := .bool true) (Rd.to (v := .bool (decide ((0 : Int) = 0))) (rd_eql rfl rfl) rfl) rfl ?_
  refine Wx.rd (v := .bool true) (rd_pickT rfl rfl) rfl ?_
  refine Wx.rd (v := .bool true) (rd_move rfl) rfl ?_
  refine Wx.gyes rfl rfl rfl ?_
  refine Wx.rd (v := v_20) (rd_move rfl) rfl ?_
  refine Wx.gyes rfl rfl rfl ?_
  refine Wx.lit (t := (tI .i64)) (ys := [9, 6, 6, 1]) (vs := [.int .i64 9, .int .i64 6, .int .i64 6, .int .i64 1]) elVb_23 hS rfl rfl ⟨(V.mkInt (in_i64 (by omega) (by omega))), ⟨(V.mkInt (in_i64 (by omega) (by omega))), ⟨(V.mkInt (in_i64 (by omega) (by omega))), ⟨(V.mkInt (in_i64 (by omega) (by omega))), trivial⟩⟩⟩⟩ (by decide) rfl (fun v_44 w_45 hx_46 hS => ?_)
  refine Wx.gyes rfl rfl rfl ?_
  have hS := hS.freeze 0 rfl
  refine Wx.callF (run_callF Tryz.call37 rfl) (F37 (hS.v 0 rfl) hS.fb_lt) rfl ?_
  rintro r_48 w_49 hx_50 ⟨_, rfl, hv_51⟩
  have ln_53 := hv_51.len63
  have hS := hS.ext hx_50
  have hS := hS.add hv_51
  refine Wx.gyes rfl rfl rfl ?_
  refine Wx.callF (run_callF Tryz.call38 rfl) (F38 (hS.lend 7 rfl) (hS.v 0 rfl)) rfl ?_
  rintro r_54 w_55 hx_56 rfl
  have hS := hS.ext hx_56
  rw [show (decide ((sillsE 4 1 [9, 3, 6, 1]) = [9, 6, 6, 1]) : Bool) = true from (by decide +kernel)]
  refine Wx.rd (v := .bool true) (rd_pickT rfl rfl) rfl ?_
  refine Wx.rd (v := .bool true) (rd_move rfl) rfl ?_
  refine Wx.gyes rfl rfl rfl ?_
  refine Wx.rd (v := v_41) (rd_move rfl) rfl ?_
  refine Wx.gyes rfl rfl rfl ?_
  refine Wx.lit (t := (tI .i64)) (ys := [0, 1, 2, 3]) (vs := [.int .i64 0, .int .i64 1, .int .i64 2, .int .i64 3]) elVb_23 hS rfl rfl ⟨(V.mkInt (in_i64 (by omega) (by omega))), ⟨(V.mkInt (in_i64 (by omega) (by omega))), ⟨(V.mkInt (in_i64 (by omega) (by omega))), ⟨(V.mkInt (in_i64 (by omega) (by omega))), trivial⟩⟩⟩⟩ (by decide) rfl (fun v_57 w_58 hx_59 hS => ?_)
  refine Wx.gyes rfl rfl rfl ?_
  have hS := hS.freeze 0 rfl
  refine Wx.callF (run_callF Tryz.call37 rfl) (F37 (hS.v 0 rfl) hS.fb_lt) rfl ?_
  rintro r_61 w_62 hx_63 ⟨_, rfl, hv_64⟩
  have ln_66 := hv_64.len63
  have hS := hS.ext hx_63
  have hS := hS.add hv_64
  refine Wx.gyes rfl rfl rfl ?_
  refine Wx.callF (run_callF Tryz.call38 rfl) (F38 (hS.lend 4 rfl) (hS.v 0 rfl)) rfl ?_
  rintro r_67 w_68 hx_69 rfl
  have hS := hS.ext hx_69
  rw [show (decide ((firstL 4 [[0, 1], [1, 2], [2, 3]]) = [0, 1, 2, 3]) : Bool) = true from (by decide +kernel)]
  refine Wx.rd (v := .bool true) (rd_pickT rfl rfl) rfl ?_
  refine Wx.rd (v := .bool true) (rd_assign rfl) rfl ?_
  refine Wx.nil ?_
  exact W.ret ⟨.bool true, ResIs.one, hS.bel, rfl⟩
end Go.Proofs.YtodcppoglpfodaaGreatDoor

namespace Go.Proofs.YtodcppoglpfodaaGreatDoor
open Go.Wk Go.RowKit Go.Lib
set_option linter.unusedVariables false
set_option linter.unusedSimpArgs false
theorem elHb_36 : ElemI Tryz.prog 36 38 (.agg #[.int .i64 0, .int .i64 0]) 2 16 := ElemI.of Tryz.underlying36 (by kernel_rfl) (by first | rfl | kernel_rfl) (by decide)
theorem elHb_23 : ElemI Tryz.prog 23 3 (.int .i64 0) 1 8 := ElemI.of Tryz.underlying23 (by kernel_rfl) (by first | rfl | kernel_rfl) (by decide)

theorem C5.F32 {rim : ByteArray} {w : World} (s_rim : rim.size ≤ maxLen) : Calls Tryz.prog 32 #[.string rim] w (Ret w (fun r _ => r = .int .i64 (rimE rim))) := by
  have hS := St.start0 w
  refine enterR Tryz.func32 rfl Tryz.ntmps32 Tryz.results32 rfl ?_
  refine W.seq ?_
  refine W.reg ?_
  refine Wx.rd (v := .int .i64 0) (rd_assign rfl) rfl ?_
  refine Wx.nil ?_
  refine W.seq ?_
  refine W.seq ?_
  refine W.reg ?_
  refine Wx.rd (v := .string rim) (rd_move rfl) rfl ?_
  refine Wx.rd (v := .int .i64 (rim.size : Int)) (rd_lenS rfl Tryz.underlying9) rfl ?_
  refine Wx.rd (v := .bool (decide (12 < (rim.size : Int)))) (rd_gtr rfl rfl) rfl ?_
  refine Wx.nil ?_
  refine W.condD rfl (fun c0 => ?_) (fun c0 => ?_)
  · -- yes
    refine W.seq ?_
    refine W.reg ?_
    refine Wx.rd (v := .int .i64 3) (rd_assign rfl) rfl ?_
    refine Wx.nil ?_
    have e0_0 : (rimE rim) = (3 : Int) := by rw [rimE, if_pos c0]
    exact W.ret ⟨.int .i64 3, ResIs.one, hS.bel, (by rw [e0_0])⟩
  · -- no
    refine W.skip ?_
    refine W.seq ?_
    refine W.seq ?_
    refine W.reg ?_
    refine Wx.rd (v := .string rim) (rd_move rfl) rfl ?_
    refine Wx.rangeS (s := rim) hS rfl Tryz.underlying9 rfl (fun g_1 w_2 hx_3 hS => ?_)
    refine Wx.nil ?_
    refine W.block ?_
    refine W.loop [2, 4, 10, 11, 12, 13, 14, 15] (fun (p : Nat) => []) (fun (p : Nat) w' => St w [] w' [.raw g_1 (.stringIter rim p)] ∧ p ≤ rim.size ∧ (∀ q : Int, 0 ≤ q → q < p → isLet (tabAt rim q) = true)) (fun (p : Nat) => rim.size - p) 0 trivial ⟨hS, (Nat.zero_le _), (fun q q0 q1 => by omega)⟩ ?_
    rintro p u_5 w_4 ⟨hS, h1, h2⟩
    refine W.seq ?_
    refine W.reg ?_
    refine Wx.nextS hS 0 rfl rfl rfl (fun hn w_6 hz_7 hS => ?_) (fun hn => ?_)
    · -- a rune
      have hS : St _ _ w_6 [.raw g_1 (.stringIter rim (p + (runeW rim (p : Int)).toNat))] := hS
      have hrb := runeAt_bd rim (p : Int)
      refine Wx.rd (v := .bool true) (rd_extract rfl rfl) rfl ?_
      refine Wx.nil ?_
      refine W.seq ?_
      refine W.condT rfl rfl ?_
      refine W.skip ?_
      refine W.block ?_
      refine W.seq ?_
      refine W.reg ?_
      refine Wx.rd (v := .int .i32 (runeAt rim (p : Int))) (rd_extract rfl rfl) rfl ?_
      refine Wx.rd (v := .int .i32 (runeAt rim (p : Int))) (rd_assign rfl) rfl ?_
      refine Wx.nil ?_
      refine W.seq ?_
      refine W.reg ?_
      refine Wx.rd (v := .int .i32 (runeAt rim (p : Int))) (rd_move rfl) rfl ?_
      refine Wx.callF (run_callF Tryz.call45 rfl) (C5.F45 (by first | assumption | (simp only [maxLen]; omega) | (simp only [ByteArray.size_extract, ByteArray.size_append, maxLen] at *; omega) | decide) (in_i32 (by omega) (by omega)) letS_asc (by decide) (by omega)) rfl ?_
      rintro r_9 w_10 hx_11 rfl
      have hS := hS.ext hx_11
      refine Wx.rd (v := .bool (!(hasRune letS (runeAt rim (p : Int))))) (rd_not rfl) rfl ?_
      refine Wx.nil ?_
      refine W.cond rfl (fun c2 => ?_) (fun c2 => ?_)
      · -- yes
        try simp only [Bool.and_eq_true, Bool.or_eq_true, Bool.not_eq_true', Bool.and_eq_false_iff, Bool.or_eq_false_iff, Bool.not_eq_false', decide_eq_true_eq, decide_eq_false_iff_not, not_or, Bool.false_eq_true, Bool.true_eq_false, false_or, or_false, not_false_eq_true] at c2
        have hnl := rune_not (s := rim) (p := (p : Int)) (by omega) c2
        refine W.seq ?_
        refine W.reg ?_
        refine Wx.rd (v := .int .i64 10) (rd_assign rfl) rfl ?_
        refine Wx.nil ?_
        have e1_0 : (rimE rim) = (10 : Int) := by exact rimE_bad (by omega) (by omega) hn hnl
        exact W.ret ⟨.int .i64 10, ResIs.one, hS.bel, (by rw [e1_0])⟩
      · -- no
        try simp only [Bool.and_eq_true, Bool.or_eq_true, Bool.not_eq_true', Bool.and_eq_false_iff, Bool.or_eq_false_iff, Bool.not_eq_false', decide_eq_true_eq, decide_eq_false_iff_not, not_or, Bool.false_eq_true, Bool.true_eq_false, false_or, or_false, not_false_eq_true] at c2
        have hle := rune_let (s := rim) (p := (p : Int)) (by omega) c2
        refine W.skip ?_
        refine ⟨p + (runeW rim (p : Int)).toNat, (by show rim.size - (p + (runeW rim (p : Int)).toNat) < rim.size - p; omega), ?_, ?_, Out.look rfl Out.self⟩
        · exact ⟨hS, (by omega), (fun q q0 q1 => by by_cases hq : q = (p : Int); (subst hq; exact hle.2); exact h2 q q0 (by omega))⟩
        · exact trivial
    · -- the end
      refine Wx.rd (v := .bool false) (rd_extract rfl rfl) rfl ?_
      refine Wx.nil ?_
      refine W.seq ?_
      refine W.condF rfl rfl ?_
      refine W.exit rfl ?_
      refine W.seq ?_
      refine W.reg ?_
      refine Wx.rd (v := .int .i64 0) (rd_assign rfl) rfl ?_
      refine Wx.nil ?_
      have e2_0 : (rimE rim) = (0 : Int) := by exact rimE_good (by omega) (fun q q0 q1 => h2 q q0 (by omega))
      exact W.ret ⟨.int .i64 0, ResIs.one, hS.bel, (by rw [e2_0])⟩

theorem C5.F66b {rim : ByteArray} {O : List (Option Nat)} {w : World} (s_rim : rim.size ≤ maxLen) (p_12 : (rim.size : Int) ≤ 12) (p_l : Lets rim) (hO : ∀ b, some b ∈ O → b < w.heap.size) (hG : Laid w) : Calls Tryz.prog 66 #[.string rim] w (Ret w (fun r w' => ∃ sv lv, r = .tuple #[sv, lv] ∧ V (tSl (tP (tI .i64) (tI .i64))) ((takS rim).1) sv O w' ∧ Fresh (tI .i64) 3 ((takS rim).2) lv w.heap.size w')) := by
  have hS := St.start w O hO
  refine enterR Tryz.func66 rfl Tryz.ntmps66 Tryz.results66 rfl ?_
  refine W.seq ?_
  refine W.reg ?_
  refine Wx.rd (v := (.slice none 0 0)) (rd_assign rfl) rfl ?_
  refine Wx.rd (v := (.slice none 0 0)) (rd_assign rfl) rfl ?_
  refine Wx.nil ?_
  refine W.seq ?_
  refine W.seq ?_
  refine W.reg ?_
  refine Wx.rd (v := .string rim) (rd_move rfl) rfl ?_
  refine Wx.rangeS (s := rim) hS rfl Tryz.underlying9 rfl (fun g_1 w_2 hx_3 hS => ?_)
  refine Wx.nil ?_
  refine W.block ?_
  have hS := hS.addNil (tP (tI .i64) (tI .i64)) 38
  have hS := hS.addNil (tI .i64) 3
  refine W.loop [2, 3, 4, 5, 8, 9, 10, 11, 12, 13, 14, 15, 16, 17, 18, 19, 20, 21, 22, 23, 24, 25, 26, 27, 28, 29, 30, 31, 32, 33, 34, 35, 36, 37, 38, 39, 40, 41, 42] (fun x : Value × (List (Int × Int)) × Value × (List Int) × Nat => match x with | (tv, st, lw, lf, p) => [(2, tv), (3, lw)]) (fun (x : Value × (List (Int × Int)) × Value × (List Int) × Nat) w' => match x with | (tv, st, lw, lf, p) => St w O w' [.row (tI .i64) 3 lw lf, .row (tP (tI .i64) (tI .i64)) 38 tv st, .raw g_1 (.stringIter rim p)] ∧ p ≤ rim.size ∧ runS rim (st, lf) (rng p rim.size) = takS rim ∧ (∀ x ∈ lf, 0 ≤ x ∧ x < p) ∧ 2 * (st.length : Int) + lf.length = p) (fun x : Value × (List (Int × Int)) × Value × (List Int) × Nat => match x with | (tv, st, lw, lf, p) => rim.size - p) ((.slice none 0 0), [], (.slice none 0 0), [], 0) ⟨rfl, rfl, trivial⟩ ⟨hS, (Nat.zero_le _), (rfl), (by simp), (rfl)⟩ ?_
  rintro ⟨tv, st, lw, lf, p⟩ u_5 w_4 ⟨hS, h1, h2, h3, h4⟩
  refine W.seq ?_
  refine W.reg ?_
  refine Wx.nextS hS 2 rfl rfl rfl (fun hn w_6 hz_7 hS => ?_) (fun hn => ?_)
  · -- a rune
    have hS : St _ _ w_6 [.row (tI .i64) 3 lw lf, .row (tP (tI .i64) (tI .i64)) 38 tv st, .raw g_1 (.stringIter rim (p + (runeW rim (p : Int)).toNat))] := hS
    have hra := (runeAt_ascii (s := rim) (p := (p : Int)) (by omega) (by have := isLet_bd (p_l p (by omega) (by omega)); omega)).2
    refine Wx.rd (v := .bool true) (rd_extract rfl rfl) rfl ?_
    refine Wx.nil ?_
    refine W.seq ?_
    refine W.condT rfl rfl ?_
    refine W.skip ?_
    refine W.block ?_
    refine W.seq ?_
    refine W.reg ?_
    refine Wx.rd (v := .int .i64 (p : Int)) (rd_extract rfl rfl) rfl ?_
    refine Wx.rd (v := .int .i64 (p : Int)) (rd_assign rfl) rfl ?_
    refine Wx.nil ?_
    refine W.seq ?_
    refine W.reg ?_
    refine Wx.rd (v := lw) (rd_move rfl) rfl ?_
    refine Wx.rd (v := .int .i64 (lf.length : Int)) (rd_lenR hS 0 rfl rfl Tryz.underlying23) rfl ?_
    refine Wx.rd (v := .int .i64 (lf.length : Int)) (rd_assign rfl) rfl ?_
    refine Wx.nil ?_
    refine W.seq ?_
    refine W.seq ?_
    refine W.reg ?_
    refine Wx.rd (v := .int .i64 (lf.length : Int)) (rd_move rfl) rfl ?_
    refine Wx.rd (v := .bool (decide (0 < (lf.length : Int)))) (rd_gtr rfl rfl) rfl ?_
    refine Wx.rd (v := .bool (decide (0 < (lf.length : Int)))) (rd_move rfl) rfl ?_
    refine Wx.cut (X := Unit) 9 [16, 17, 18, 19, 20, 21, 22, 23, 24] (fun _ => [(24, .bool (decide (0 < (lf.length : Int)) && fitR rim (ix 0 lf ((lf.length : Int) - 1)) (p : Int)))]) (fun _ w' => St w O w' [.row (tI .i64) 3 lw lf, .row (tP (tI .i64) (tI .i64)) 38 tv st, .raw g_1 (.stringIter rim (p + (runeW rim (p : Int)).toNat))]) ?_ ?_
    · rcases Bool.eq_false_or_eq_true (decide (0 < (lf.length : Int))) with g_9 | g_9
      · -- True
        have gp_10 := of_decide_eq_true g_9
        refine Wx.gyes rfl rfl (congrArg Value.bool g_9) ?_
        refine Wx.rd (v := .string rim) (rd_move rfl) rfl ?_
        refine Wx.gyes rfl rfl (congrArg Value.bool g_9) ?_
        refine Wx.rd (v := lw) (rd_move rfl) rfl ?_
        refine Wx.gyes rfl rfl (congrArg Value.bool g_9) ?_
        refine Wx.rd (v := .int .i64 (lf.length : Int)) (rd_move rfl) rfl ?_
        refine Wx.gyes rfl rfl (congrArg Value.bool g_9) ?_
        refine Wx.rd (v := .int .i64 ((lf.length : Int) - 1)) (rd_sub rfl rfl (in_i64 (by omega) (by omega))) rfl ?_
        refine Wx.gyes rfl rfl (congrArg Value.bool g_9) ?_
        refine Wx.indexR hS 0 rfl rfl rfl Tryz.underlying23 Tryz.sizeOf3 (by first | omega | (simp only [List.length_set, List.length_append, List.length_cons, List.length_nil, List.length_replicate]; omega)) (by first | omega | (simp only [List.length_set, List.length_append, List.length_cons, List.length_nil, List.length_replicate]; omega)) rfl (fun g_11 hg_12 => ?_)
        refine Wx.gyes rfl rfl (congrArg Value.bool g_9) ?_
        refine Wx.rd (v := .int .i64 (ix 0 lf ((lf.length : Int) - 1))) (rd_loadRI' hS 0 rfl hg_12 rfl (by first | omega | (simp only [List.length_set, List.length_append, List.length_cons, List.length_nil, List.length_replicate]; omega)) (by first | omega | (simp only [List.length_set, List.length_append, List.length_cons, List.length_nil, List.length_replicate]; omega)) Tryz.isAgg3 Tryz.sizeOf3) rfl ?_
        have bd_13 := bd_i64 (hS.rowInK' 0 rfl (by first | omega | (simp only [List.length_set, List.length_append, List.length_cons, List.length_nil, List.length_replicate]; omega)) (by first | omega | (simp only [List.length_set, List.length_append, List.length_cons, List.length_nil, List.length_replicate]; omega)) : InK .i64 (ix 0 lf ((lf.length : Int) - 1)))
        refine Wx.gyes rfl rfl (congrArg Value.bool g_9) ?_
        refine Wx.rd (v := .int .i64 (p : Int)) (rd_move rfl) rfl ?_
        refine Wx.gyes rfl rfl (congrArg Value.bool g_9) ?_
        have hlm := h3 (ix 0 lf ((lf.length : Int) - 1)) (ix_mem (by omega) (by omega))
        refine Wx.callF (run_callF Tryz.call35 rfl) (C5.F35 (by first | assumption | (simp only [maxLen]; omega) | (simp only [ByteArray.size_extract, ByteArray.size_append, maxLen] at *; omega) | decide) (in_i64 (by omega) (by omega)) (in_i64 (by omega) (by omega)) (by omega) (by omega) (by omega) (by omega) (by omega) (hG.ext hS.bel)) rfl ?_
        rintro r_14 w_15 hx_16 rfl
        have hS := hS.ext hx_16
        refine Wx.rd (v := .bool (fitR rim (ix 0 lf ((lf.length : Int) - 1)) (p : Int))) (rd_pickT (congrArg Value.bool g_9) rfl) rfl ?_
        refine Wx.nil ⟨(), hS, ⟨?_, trivial⟩, Out.look rfl Out.refl⟩
        show Value.bool (fitR rim (ix 0 lf ((lf.length : Int) - 1)) (p : Int)) = Value.bool (decide (0 < (lf.length : Int)) && fitR rim (ix 0 lf ((lf.length : Int) - 1)) (p : Int))
        first | rw [g_9, Bool.true_and] | (rw [g_9]; rfl)
      · -- False
        have gp_17 := of_decide_eq_false g_9
        refine Wx.gnoB rfl rfl (congrArg Value.bool g_9) rfl rfl ?_
        refine Wx.gnoB rfl rfl (congrArg Value.bool g_9) rfl rfl ?_
        refine Wx.gnoB rfl rfl (congrArg Value.bool g_9) rfl rfl ?_
        refine Wx.gnoB rfl rfl (congrArg Value.bool g_9) rfl rfl ?_
        refine Wx.gnoB rfl rfl (congrArg Value.bool g_9) rfl rfl ?_
        refine Wx.gnoB rfl rfl (congrArg Value.bool g_9) rfl rfl ?_
        refine Wx.gnoB rfl rfl (congrArg Value.bool g_9) rfl rfl ?_
        refine Wx.gnoB rfl rfl (congrArg Value.bool g_9) rfl rfl ?_
        refine Wx.rd (v := .bool false) (rd_pickF (congrArg Value.bool g_9) rfl) rfl ?_
        refine Wx.nil ⟨(), hS, ⟨?_, trivial⟩, Out.look rfl Out.refl⟩
        show Value.bool false = Value.bool (decide (0 < (lf.length : Int)) && fitR rim (ix 0 lf ((lf.length : Int) - 1)) (p : Int))
        first | rw [g_9, Bool.false_and] | (rw [g_9]; rfl)
    rintro ⟨⟩ u_19 w_18 hS
    refine Wx.nil ?_
    refine W.cond rfl (fun c1 => ?_) (fun c1 => ?_)
    · -- yes
      try simp only [Bool.and_eq_true, Bool.or_eq_true, Bool.not_eq_true', Bool.and_eq_false_iff, Bool.or_eq_false_iff, Bool.not_eq_false', decide_eq_true_eq, decide_eq_false_iff_not, not_or, Bool.false_eq_true, Bool.true_eq_false, false_or, or_false, not_false_eq_true] at c1
      refine W.seq ?_
      refine W.reg ?_
      refine Wx.rd (v := tv) (rd_move rfl) rfl ?_
      refine Wx.rd (v := lw) (rd_move rfl) rfl ?_
      refine Wx.rd (v := .int .i64 (lf.length : Int)) (rd_move rfl) rfl ?_
      refine Wx.rd (v := .int .i64 ((lf.length : Int) - 1)) (rd_sub rfl rfl (in_i64 (by omega) (by omega))) rfl ?_
      refine Wx.indexR hS 0 rfl rfl rfl Tryz.underlying23 Tryz.sizeOf3 (by first | omega | (simp only [List.length_set, List.length_append, List.length_cons, List.length_nil, List.length_replicate]; omega)) (by first | omega | (simp only [List.length_set, List.length_append, List.length_cons, List.length_nil, List.length_replicate]; omega)) rfl (fun g_20 hg_21 => ?_)
      refine Wx.rd (v := .int .i64 (ix 0 lf ((lf.length : Int) - 1))) (rd_loadRI' hS 0 rfl hg_21 rfl (by first | omega | (simp only [List.length_set, List.length_append, List.length_cons, List.length_nil, List.length_replicate]; omega)) (by first | omega | (simp only [List.length_set, List.length_append, List.length_cons, List.length_nil, List.length_replicate]; omega)) Tryz.isAgg3 Tryz.sizeOf3) rfl ?_
      have bd_22 := bd_i64 (hS.rowInK' 0 rfl (by first | omega | (simp only [List.length_set, List.length_append, List.length_cons, List.length_nil, List.length_replicate]; omega)) (by first | omega | (simp only [List.length_set, List.length_append, List.length_cons, List.length_nil, List.length_replicate]; omega)) : InK .i64 (ix 0 lf ((lf.length : Int) - 1)))
      refine Wx.rd (v := .int .i64 (p : Int)) (rd_move rfl) rfl ?_
      refine Wx.rd (v := .agg #[.int .i64 (ix 0 lf ((lf.length : Int) - 1)), .int .i64 (p : Int)]) (rd_build (vs := [(0, .int .i64 (ix 0 lf ((lf.length : Int) - 1))), (1, .int .i64 (p : Int))]) rfl (by kernel_rfl)) rfl ?_
      refine Wx.lit (t := (tP (tI .i64) (tI .i64))) (ys := [(ix 0 lf ((lf.length : Int) - 1), (p : Int))]) (vs := [.agg #[.int .i64 (ix 0 lf ((lf.length : Int) - 1)), .int .i64 (p : Int)]]) elHb_36 hS rfl rfl ⟨(V.mk2 (in_i64 (by omega) (by omega)) (in_i64 (by omega) (by omega))), trivial⟩ (by decide) rfl (fun v_23 w_24 hx_25 hS => ?_)
      refine Wx.append elHb_36 hS 2 rfl rfl rfl (Src.ofR hS 0 rfl) (by simp only [maxLen]; first | omega | (simp; omega) | simp) (by first | omega | (simp; omega) | simp) rfl (fun v_26 w_27 hz_28 hS => ?_)
      refine Wx.rd (v := v_26) (rd_assign rfl) rfl ?_
      refine Wx.nil ?_
      refine W.seq ?_
      refine W.reg ?_
      refine Wx.rd (v := lw) (rd_move rfl) rfl ?_
      refine Wx.rd (v := .int .i64 (lf.length : Int)) (rd_move rfl) rfl ?_
      refine Wx.rd (v := .int .i64 ((lf.length : Int) - 1)) (rd_sub rfl rfl (in_i64 (by omega) (by omega))) rfl ?_
      obtain ⟨g_29, c_30, rfl, hc_31⟩ := hS.rowForm 1 rfl (by omega)
      refine Wx.rd (v := (.slice (some ⟨g_29, 0, none⟩) ((lf.length : Int) - 1).toNat c_30)) (rd_headO Tryz.underlying23 Tryz.sizeOf3 rfl rfl (by omega) (by omega)) rfl ?_
      have hS : St _ _ _ [.row (tP (tI .i64) (tI .i64)) 38 v_23 [(ix 0 lf ((lf.length : Int) - 1), (p : Int))], .row (tI .i64) 3 (.slice (some ⟨g_29, 0, none⟩) ((lf.length : Int) - 1).toNat c_30) (List.take ((lf.length : Int) - 1).toNat lf), .row (tP (tI .i64) (tI .i64)) 38 v_26 (st ++ [(ix 0 lf ((lf.length : Int) - 1), (p : Int))]), .raw g_1 (.stringIter rim (p + (runeW rim (p : Int)).toNat))] := hS.shrink (m := ((lf.length : Int) - 1).toNat) 1 rfl (by omega)
      refine Wx.rd (v := (.slice (some ⟨g_29, 0, none⟩) ((lf.length : Int) - 1).toNat c_30)) (rd_assign rfl) rfl ?_
      refine Wx.nil ?_
      refine W.exit rfl ?_
      refine ⟨(v_26, st ++ [(ix 0 lf ((lf.length : Int) - 1), (p : Int))], (.slice (some ⟨g_29, 0, none⟩) ((lf.length : Int) - 1).toNat c_30), List.take ((lf.length : Int) - 1).toNat lf, p + (runeW rim (p : Int)).toNat), (by show rim.size - (p + (runeW rim (p : Int)).toNat) < rim.size - p; omega), ?_, ?_, Out.look rfl (Out.hav rfl (Out.look rfl Out.self))⟩
      · exact ⟨hS.tl, (by omega), (by rw [← h2, rng_cons (i := (p : Int)) (by omega), runS_cons, show ((p + (runeW rim (p : Int)).toNat : Nat) : Int) = (p : Int) + 1 by omega]; first | rw [stepS_yes c1.1 c1.2] | rw [stepS_no c1]), (fun x hx => by first | (have := h3 x (List.mem_of_mem_take hx); omega) | (rcases List.mem_append.1 hx with hx | hx; (have := h3 x hx; omega); (rw [List.mem_singleton] at hx; omega))), (by simp only [List.length_append, List.length_take, List.length_cons, List.length_nil]; omega)⟩
      · exact ⟨rfl, rfl, trivial⟩
    · -- no
      try simp only [Bool.and_eq_true, Bool.or_eq_true, Bool.not_eq_true', Bool.and_eq_false_iff, Bool.or_eq_false_iff, Bool.not_eq_false', decide_eq_true_eq, decide_eq_false_iff_not, not_or, Bool.false_eq_true, Bool.true_eq_false, false_or, or_false, not_false_eq_true] at c1
      refine W.skip ?_
      refine W.reg ?_
      refine Wx.rd (v := lw) (rd_move rfl) rfl ?_
      refine Wx.rd (v := .int .i64 (p : Int)) (rd_move rfl) rfl ?_
      refine Wx.lit (t := (tI .i64)) (ys := [(p : Int)]) (vs := [.int .i64 (p : Int)]) elHb_23 hS rfl rfl ⟨(V.mkInt (in_i64 (by omega) (by omega))), trivial⟩ (by decide) rfl (fun v_32 w_33 hx_34 hS => ?_)
      refine Wx.append elHb_23 hS 1 rfl rfl rfl (Src.ofR hS 0 rfl) (by simp only [maxLen]; first | omega | (simp; omega) | simp) (by first | omega | (simp; omega) | simp) rfl (fun v_35 w_36 hz_37 hS => ?_)
      refine Wx.rd (v := v_35) (rd_assign rfl) rfl ?_
      refine Wx.nil ?_
      refine ⟨(tv, st, v_35, lf ++ [(p : Int)], p + (runeW rim (p : Int)).toNat), (by show rim.size - (p + (runeW rim (p : Int)).toNat) < rim.size - p; omega), ?_, ?_, Out.look rfl (Out.hav rfl (Out.look rfl Out.self))⟩
      · exact ⟨hS.tl, (by omega), (by rw [← h2, rng_cons (i := (p : Int)) (by omega), runS_cons, show ((p + (runeW rim (p : Int)).toNat : Nat) : Int) = (p : Int) + 1 by omega]; first | rw [stepS_yes c1.1 c1.2] | rw [stepS_no c1]), (fun x hx => by first | (have := h3 x (List.mem_of_mem_take hx); omega) | (rcases List.mem_append.1 hx with hx | hx; (have := h3 x hx; omega); (rw [List.mem_singleton] at hx; omega))), (by simp only [List.length_append, List.length_take, List.length_cons, List.length_nil]; omega)⟩
      · exact ⟨rfl, rfl, trivial⟩
  · -- the end
    refine Wx.rd (v := .bool false) (rd_extract rfl rfl) rfl ?_
    refine Wx.nil ?_
    refine W.seq ?_
    refine W.condF rfl rfl ?_
    refine W.exit rfl ?_
    refine W.seq ?_
    refine W.reg ?_
    refine Wx.rd (v := tv) (rd_move rfl) rfl ?_
    refine Wx.rd (v := lw) (rd_move rfl) rfl ?_
    refine Wx.rd (v := tv) (rd_assign rfl) rfl ?_
    refine Wx.rd (v := lw) (rd_assign rfl) rfl ?_
    refine Wx.nil ?_
    have e0_0 : (takS rim).1 = st := by rw [← h2, rng_nil (by omega)]; rfl
    have e0_1 : (takS rim).2 = lf := by rw [← h2, rng_nil (by omega)]; rfl
    exact W.ret ⟨.tuple #[tv, lw], ResIs.two, hS.bel, ⟨tv, lw, rfl, (by rw [e0_0]; exact ((hS.lend 1 rfl).mv (.less (fun _ h => List.mem_append.2 (.inr h))))), (by rw [e0_1]; exact (hS.fr 0 rfl flat_int))⟩⟩

end Go.Proofs.YtodcppoglpfodaaGreatDoor
