/-
  WHAT IS PROVED HERE, TEXT BY TEXT (several texts of one prover, joined to one file; the conditions stand in each statement):
  * WHAT IS SAID HERE, WITH PLAIN LAWS: colours of points, found one after another, and rings of an odd number of points: all are tried; what they come to on the maps of six small shores. No program in sight.
  * WHAT IS PROVED HERE: a struct that is somebody else's variable, loaded whole. The conditions stand in each statement; they hold over any program.
  * WHAT IS SAID HERE: the package's list of other ends reads as the program's text lays it.
  * WHAT IS SAID HERE, WITH PLAIN LAWS: the bits of the points near a point, step by step. No program in sight.
  * WHAT IS SAID HERE, WITH PLAIN LAWS: the search for colours, step by step. No program in sight.
  * WHAT IS SAID HERE, WITH PLAIN LAWS: the search for a ring of so many points, a call at a time. No program in sight.
  * WHAT IS SAID HERE, WITH PLAIN LAWS: things divided between heirs: what one holds is worth to another, who is an enemy, turns. No program in sight.
  * WHAT IS SAID HERE, WITH PLAIN LAWS: turns, and the whole run. No program in sight.
  * WHAT IS SAID HERE, WITH PLAIN LAWS: the example of chapter 9. No program in sight.
  * WHAT IS PROVED HERE: what functions hand back, each out of its own code; the conditions stand in each statement.
  * WHAT IS PROVED HERE: what functions hand back, each out of its own code; the conditions stand in each statement.
  * WHAT IS PROVED HERE: what functions hand back, each out of its own code; the conditions stand in each statement.
  * WHAT IS PROVED HERE: what functions hand back, each out of its own code; the conditions stand in each statement.
  * WHAT IS PROVED HERE: what functions hand back, each out of its own code; the conditions stand in each statement.
  * WHAT IS PROVED HERE: what functions hand back, each out of its own code; the conditions stand in each statement.
  * WHAT IS PROVED HERE: what functions hand back, each out of its own code; the conditions stand in each statement.
  * WHAT IS PROVED HERE: what functions hand back, each out of its own code; the conditions stand in each statement.
  * WHAT IS PROVED HERE: what functions hand back, each out of its own code; the conditions stand in each statement.
  * WHAT IS PROVED HERE: what functions hand back, each out of its own code; the conditions stand in each statement.
  * WHAT IS PROVED HERE: what functions hand back, each out of its own code; the conditions stand in each statement.
  * WHAT IS PROVED HERE: what functions hand back, each out of its own code; the conditions stand in each statement.
  * WHAT IS PROVED HERE: what functions hand back, each out of its own code; the conditions stand in each statement.
-/
import Derived.Test.YtlibemgaepkceaaGreatDoorU5
import Derived.Test.YtlibemgaepkceaaGreatDoorU1
import Derived.Test.YtlibemgaepkceaaGreatDoorU4
import Derived.Test.YtlibemgaepkceaaGreatDoorU2
import Derived.Laws.BitsAllLaws
import Derived.Test.YtlibemgaepkceaaGreatDoorProg

set_option linter.unusedVariables false
set_option linter.unusedSimpArgs false

namespace Go.Proofs.YtlibemgaepkceaaGreatDoor
open Go.Wk Go.RowKit
set_option linter.unusedVariables false
def nearS (t : Tab) (out : List Int) (e : Int) : List Int := out.set (tpF t e).toNat (bits .or .u32 (ix 0 out (tpF t e)) (IntKind.u32.wrap (1 * 2 ^ min (tpF t (ix 0 othL e)).toNat IntKind.u32.bits)))
def nearK (t : Tab) (k : Int) : List Int := (rng 0 k).foldl (nearS t) (List.replicate (tnN t).toNat 0)
def nearV (t : Tab) : List Int := nearK t (teN t)
def bitN (l q : Int) : Bool := decide (bits .and .u32 (l / 2 ^ min q.toNat IntKind.u32.bits) 1 = 1)
def clashV (near out : List Int) (p k : Int) : Bool := (rng 0 k).any fun q => decide (ix 0 out q = ix 0 out p) && bitN (ix 0 near p) q
def colR (near : List Int) (pts most : Int) : Nat → Bool → Int → List Int → Option (Option (List Int))
  | 0, _, _, _ => none
  | n + 1, false, p, out => if pts ≤ p then some (some out) else if clashV near out p p = false ∧ ix 0 out p < most then colR near pts most n false (p + 1) out else colR near pts most n true p (out.set p.toNat (ix 0 out p + 1))
  | n + 1, true, p, out => if most ≤ ix 0 out p then (if p - 1 < 0 then some none else colR near pts most n true (p - 1) ((out.set p.toNat 0).set (p - 1).toNat (ix 0 (out.set p.toNat 0) (p - 1) + 1))) else colR near pts most n false p out
end Go.Proofs.YtlibemgaepkceaaGreatDoor

namespace Go.Wk
open Go.RowKit
set_option linter.unusedVariables false
end Go.Wk

namespace Go.Proofs.YtlibemgaepkceaaGreatDoor
open Go.Wk Go.RowKit Go.Lib Go.Proofs
set_option linter.unusedVariables false
structure Laid (w : World) : Prop where
  oth : ∃ e fz, w.heap[0]? = some (.cells (othL.map (Value.int .i64)).toArray e fz)
  props : TabIs Tryz.prog w "unicode.properties" .u8 propertiesTab
  upper : RVar 3 upperT w
  cases : CaseVar 4 caseA w
theorem cell_ext {w w' : World} (h : Ext w w') {a : Addr} {v : Value} (hc : w.cell? a = some v) : w'.cell? a = some v :=
  (World.cell?_of_block (h.block a.block (World.block_lt_of_cell? w a hc))).trans hc
theorem rgTab_ext {w w' : World} (h : Ext w w') {k : IntKind} {R o : Nat} {T : Array Rg} (ht : RgTab k R o T w) : RgTab k R o T w' := fun i hi => by
  have := ht i hi
  exact ⟨cell_ext h this.1, cell_ext h this.2.1, cell_ext h this.2.2⟩
theorem Laid.ext {w w' : World} (hG : Laid w) (h : Ext w w') : Laid w' := by
  obtain ⟨e, fz, hh⟩ := hG.oth
  refine ⟨⟨e, fz, by rw [h.block 0 (Array.getElem?_eq_some_iff.1 hh).1]; exact hh⟩, ?_, ?_, ?_⟩
  · have hp := hG.props
    unfold TabIs World.var? at hp ⊢
    cases hg : Tryz.prog.globalNamed "unicode.properties" with
    | none => rw [hg] at hp; cases hp
    | some g =>
      rw [hg] at hp
      simp only [Option.bind_some] at hp ⊢
      cases hq : w.heap[g]? with
      | none => rw [hq] at hp; cases hp
      | some o => rw [hq] at hp; rw [h.block g (Array.getElem?_eq_some_iff.1 hq).1, hq]; exact hp
  · obtain ⟨Tb, oT, h1, a16, a32, R16, o16, c16, R32, o32, c32, g1, g2, g3, g4, g5, g6, g7, g8⟩ := hG.upper
    exact ⟨Tb, oT, cell_ext h h1, a16, a32, R16, o16, c16, R32, o32, c32, cell_ext h g1, cell_ext h g2, cell_ext h g3, g4, g5, rgTab_ext h g6, rgTab_ext h g7, g8⟩
  · obtain ⟨R, oR, cap, h1, h2⟩ := hG.cases
    exact ⟨R, oR, cap, cell_ext h h1, fun i hi => by
      have := h2 i hi
      exact ⟨cell_ext h this.1, cell_ext h this.2.1, cell_ext h this.2.2.1, cell_ext h this.2.2.2.1, cell_ext h this.2.2.2.2⟩⟩
theorem oth_bd {e : Int} (h0 : 0 ≤ e) (h1 : e < 16) : 0 ≤ ix 0 othL e ∧ ix 0 othL e < 16 := by
  have h : ∀ k < 16, 0 ≤ ix 0 othL (k : Nat) ∧ ix 0 othL (k : Nat) < 16 := by decide
  have := h e.toNat (by omega)
  rwa [Int.toNat_of_nonneg h0] at this
theorem cyc_len (f : Int → Int) : ∀ (l : List Int) (s : Rws), (l.foldl (cycS f) s).length ≤ s.length + l.length
  | [], s => by simp
  | x :: l, s => by
    have h := cyc_len f l (cycS f s x)
    rw [List.foldl_cons, List.length_cons]
    have : (cycS f s x).length ≤ s.length + 1 := by
      rw [cycS]; split
      · omega
      · rw [List.length_append]; simp
    omega
theorem cycV_len {n : Int} (h : 0 ≤ n) (f : Int → Int) : ((cycV n f).length : Int) ≤ n := by
  have := cyc_len f (rng 0 n) []
  have hr := rng_length h
  simp only [List.length_nil] at this
  show ((List.foldl (cycS f) [] (rng 0 n)).length : Int) ≤ n
  omega
theorem oth_len : (othL.length : Int) = 16 := rfl
end Go.Proofs.YtlibemgaepkceaaGreatDoor

namespace Go.Proofs.YtlibemgaepkceaaGreatDoor
open Go.Wk Go.RowKit
set_option linter.unusedVariables false
end Go.Proofs.YtlibemgaepkceaaGreatDoor

namespace Go.Proofs.YtlibemgaepkceaaGreatDoor
open Go.Wk Go.RowKit
set_option linter.unusedVariables false
structure ColI (t : Tab) (most : Int) (r : Option (List Int)) (m : Bool) (n : Nat) (p : Int) (out : List Int) : Prop where
  l : (out.length : Int) = tnN t
  p0 : 0 ≤ p
  p1 : p ≤ tnN t
  p2 : m = true → p < tnN t
  b : ∀ q, 0 ≤ q → q < tnN t → 0 ≤ ix 0 out q ∧ ix 0 out q ≤ most ∧ ((m = false ∨ q ≠ p) → ix 0 out q < most)
  g : colR (nearV t) (tnN t) most n m p out = some r
variable {t : Tab} {most p : Int} {r : Option (List Int)} {n : Nat} {out : List Int}
end Go.Proofs.YtlibemgaepkceaaGreatDoor

namespace Go.Proofs.YtlibemgaepkceaaGreatDoor
open Go.Wk Go.RowKit
set_option linter.unusedVariables false
variable {near l : List Int} {pts many met p : Int} {n : Nat}
end Go.Proofs.YtlibemgaepkceaaGreatDoor

namespace Go.Proofs.YtlibemgaepkceaaGreatDoor
open Go.Wk Go.RowKit
set_option linter.unusedVariables false
structure DvOK (vs : List (List Int)) (m : Int) : Prop where
  n : 1 ≤ (vs.length : Int) ∧ (vs.length : Int) ≤ 4
  m6 : 0 ≤ m ∧ m ≤ 6
  l : ∀ r ∈ vs, (r.length : Int) = m
  b : ∀ r ∈ vs, ∀ z ∈ r, 0 ≤ z ∧ z ≤ 20
def shS (row ow : List Int) (h : Int) (s : Int × Int) (x : Int) : Int × Int := if ix 0 ow x = h then (s.1 + ix 0 row x, max s.2 (ix 0 row x)) else s
def shK (row ow : List Int) (h k : Int) : Int × Int := (rng 0 k).foldl (shS row ow h) (0, 0)
def shV (vs : List (List Int)) (ow : List Int) (i h : Int) : Int × Int := shK (ix [] vs i) ow h ow.length
def envV (vs : List (List Int)) (ow : List Int) (i h : Int) : Int := (shV vs ow i h).1 - (shV vs ow i i).1
def enmV (vs : List (List Int)) (ow : List Int) (h : Int) : Int := ((rng 0 vs.length).find? fun j => decide (0 < envV vs ow j h)).getD (-1)
def calV (vs : List (List Int)) (ow : List Int) : Int := ((rng 0 vs.length).find? fun i => decide (enmV vs ow i = -1)).getD (-1)
def wlkR (vs : List (List Int)) (ow : List Int) : Nat → List Int → Int → Option (List Int)
  | 0, _, _ => none
  | n + 1, l, i => if hasL l i = true then some l else wlkR vs ow n (l ++ [i]) (enmV vs ow i)
def eqI (n : Int) : Int → Bool := fun y => decide (y = n)
def rinV (vs : List (List Int)) (ow l : List Int) : List Int := l.drop (idxP (eqI (enmV vs ow (ix 0 l (l.length - 1)))) 0 l).toNat
def turM (r : List Int) (h : Int) : Int := if 0 ≤ idxP (eqI h) 0 r then ix 0 r ((idxP (eqI h) 0 r + 1) % r.length) else h
def turV (vs : List (List Int)) (ow l : List Int) : List Int := ow.map (turM (rinV vs ow l))
def rgR (vs : List (List Int)) (m : Int) : Nat → Int → List Int → Option (List Int)
  | 0, _, _ => none
  | n + 1, x, ow => if m ≤ x then some ow else if calV vs ow = -1 then (match wlkR vs ow 9 [] 0 with | some l => if 0 ≤ idxP (eqI (enmV vs ow (ix 0 l (l.length - 1)))) 0 l then rgR vs m n x (turV vs ow l) else none | none => none) else rgR vs m n (x + 1) (ow.set x.toNat (calV vs ow))
variable {vs : List (List Int)} {ow row l r : List Int} {i h k x m n : Int}
theorem sh_next (h0 : 0 ≤ k) : shK row ow h (k + 1) = shS row ow h (shK row ow h k) k := by rw [shK, rng_snoc h0, List.foldl_append]; rfl
theorem sh_bd (hb : ∀ z ∈ row, 0 ≤ z ∧ z ≤ 20) : ∀ (n : Nat), 0 ≤ (shK row ow h n).1 ∧ (shK row ow h n).1 ≤ 20 * n ∧ 0 ≤ (shK row ow h n).2 ∧ (shK row ow h n).2 ≤ 20
  | 0 => by rw [shK, show ((0 : Nat) : Int) = 0 from rfl, rng_nil (Int.le_refl 0)]; simp
  | n + 1 => by
    have ih := sh_bd hb n
    have hz : 0 ≤ ix 0 row n ∧ ix 0 row n ≤ 20 := by
      rcases Int.lt_or_le (n : Int) row.length with hl | hl
      · exact hb _ (List.mem_of_getElem? (ix_get (d := 0) hl (by omega)))
      · have : ix 0 row n = 0 := by rw [ix, List.getD_eq_getElem?_getD, List.getElem?_eq_none (by omega)]; rfl
        omega
    have hc : ((n + 1 : Nat) : Int) = (n : Int) + 1 := by omega
    rw [hc, sh_next (by omega), shS]
    split
    · refine ⟨by simp only; omega, by simp only; omega, ?_, ?_⟩ <;> simp only [Int.max_def] <;> split <;> omega
    · omega
theorem shk_bd (hb : ∀ z ∈ row, 0 ≤ z ∧ z ≤ 20) (h0 : 0 ≤ k) (h1 : k ≤ 6) : 0 ≤ (shK row ow h k).1 ∧ (shK row ow h k).1 ≤ 120 ∧ 0 ≤ (shK row ow h k).2 ∧ (shK row ow h k).2 ≤ 20 := by
  have := sh_bd (ow := ow) (h := h) hb k.toNat
  rw [Int.toNat_of_nonneg h0] at this
  omega
theorem row_mem (hk : DvOK vs m) (h0 : 0 ≤ i) (h1 : i < vs.length) : ix [] vs i ∈ vs := List.mem_of_getElem? (ix_get (d := []) h1 h0)
theorem shv_bd (hk : DvOK vs ow.length) (h0 : 0 ≤ i) (h1 : i < vs.length) (h : Int) : 0 ≤ (shV vs ow i h).1 ∧ (shV vs ow i h).1 ≤ 120 ∧ 0 ≤ (shV vs ow i h).2 ∧ (shV vs ow i h).2 ≤ 20 := shk_bd (hk.b _ (row_mem hk h0 h1)) hk.m6.1 hk.m6.2
theorem fnd_next {f : Int → Bool} (h0 : 0 ≤ k) (hp : (rng 0 k).find? f = none) (hf : f k = false) : (rng 0 (k + 1)).find? f = none := by
  rw [rng_snoc h0, List.find?_append, hp]; simp [hf]
theorem fnd_none {f : Int → Bool} (hp : (rng 0 k).find? f = none) (hk : k = n) : ((rng 0 n).find? f).getD (-1) = -1 := by rw [← hk, hp]; rfl
theorem fnd_hit {f : Int → Bool} (h0 : 0 ≤ k) (hk : k < n) (hp : (rng 0 k).find? f = none) (hf : f k = true) : ((rng 0 n).find? f).getD (-1) = k := by
  have h1 : rng 0 n = rng 0 (k + 1) ++ rng (k + 1) n := by
    have : ∀ (d : Nat) (a : Int), 0 ≤ a → rng 0 (a + d) = rng 0 a ++ rng a (a + d) := by
      intro d
      induction d with
      | zero => intro a ha; rw [show a + ((0 : Nat) : Int) = a by omega, rng_nil (Int.le_refl a), List.append_nil]
      | succ d ih =>
        intro a ha
        rw [show a + ((d + 1 : Nat) : Int) = (a + d) + 1 by omega, rng_snoc (by omega), rng_snoc (i := a) (by omega), ih a ha, List.append_assoc]
    have h2 := this (n - (k + 1)).toNat (k + 1) (by omega)
    rw [show k + 1 + ((n - (k + 1)).toNat : Int) = n by omega] at h2
    exact h2
  rw [h1, rng_snoc h0, List.find?_append, List.find?_append, hp]
  simp [hf]
end Go.Proofs.YtlibemgaepkceaaGreatDoor

namespace Go.Proofs.YtlibemgaepkceaaGreatDoor
open Go.Wk Go.RowKit
set_option linter.unusedVariables false
variable {vs : List (List Int)} {ow ow2 row l l2 res : List Int} {i h k x m : Int} {n : Nat}
theorem wlk_end (h : wlkR vs ow n l2 i = some l) (hc : hasL l2 i = true) : l2 = l := by
  cases n with
  | zero => cases h
  | succ n => rw [wlkR, if_pos hc] at h; exact Option.some.inj h
theorem wlk_next (h : wlkR vs ow n l2 i = some l) (hc : hasL l2 i = false) : wlkR vs ow (n - 1) (l2 ++ [i]) (enmV vs ow i) = some l ∧ 0 < n := by
  cases n with
  | zero => cases h
  | succ n => rw [wlkR, if_neg (by rw [hc]; decide)] at h; exact ⟨h, by omega⟩
theorem wlk_pos' : ∀ (n : Nat) (l2 : List Int) (i : Int), wlkR vs ow n l2 i = some l → l2.length ≤ l.length ∧ (l2 = [] → 0 < l.length)
  | 0, _, _, h => by cases h
  | n + 1, l2, i, h => by
    rw [wlkR] at h
    split at h
    · rename_i hc
      cases Option.some.inj h
      refine ⟨Nat.le_refl _, fun he => ?_⟩
      subst he; cases hc
    · have := wlk_pos' n _ _ h
      rw [List.length_append] at this
      simp only [List.length_cons, List.length_nil] at this
      exact ⟨by omega, fun _ => by omega⟩
theorem wlk_pos (h : wlkR vs ow n [] i = some l) : 0 < l.length := (wlk_pos' n _ _ h).2 rfl
theorem enm_bd (hk : DvOK vs m) (h : Int) : -1 ≤ enmV vs ow h ∧ enmV vs ow h ≤ 4 := by
  have hn := hk.n
  rw [enmV]
  cases hf : (rng 0 vs.length).find? fun j => decide (0 < envV vs ow j h) with
  | none => simp only [Option.getD_none]; omega
  | some j =>
    have := rng_mem.1 (List.mem_of_find?_eq_some hf)
    simp only [Option.getD_some]; omega
theorem idx_lt' {P : Int → Bool} : ∀ (l : List Int) (i : Int), 0 ≤ i → 0 ≤ idxP P i l → idxP P i l < i + l.length
  | [], i, hi, h => by simp [idxP] at h
  | x :: l, i, hi, h => by
    rw [idxP] at h ⊢
    rw [List.length_cons]
    split
    · omega
    · rename_i hx
      rw [if_neg hx] at h
      have := idx_lt' l (i + 1) (by omega) h
      omega
theorem idx_lt {P : Int → Bool} {l : List Int} (h : 0 ≤ idxP P 0 l) : idxP P 0 l < l.length := by
  have := idx_lt' l 0 (Int.le_refl 0) h
  omega
theorem cal_bd (hk : DvOK vs m) : -1 ≤ calV vs ow ∧ calV vs ow ≤ 4 := by
  have hn := hk.n
  rw [calV]
  cases hf : (rng 0 vs.length).find? fun i => decide (enmV vs ow i = -1) with
  | none => simp only [Option.getD_none]; omega
  | some j =>
    have := rng_mem.1 (List.mem_of_find?_eq_some hf)
    simp only [Option.getD_some]; omega
def mpK (f : Int → Int) (ow : List Int) (k : Int) : List Int := (ow.take k.toNat).map f ++ ow.drop k.toNat
theorem mp_len (f : Int → Int) (ow : List Int) (k : Int) : (mpK f ow k).length = ow.length := by rw [mpK, List.length_append, List.length_map, List.length_take, List.length_drop]; omega
theorem mp_at {f : Int → Int} (h0 : 0 ≤ k) (h1 : k < ow.length) : ix 0 (mpK f ow k) k = ix 0 ow k := by
  have hl : ((ow.take k.toNat).map f).length = k.toNat := by rw [List.length_map, List.length_take]; omega
  rw [ix, ix, mpK, List.getD_eq_getElem?_getD, List.getD_eq_getElem?_getD, List.getElem?_append_right (by omega), hl, List.getElem?_drop]
  congr 2
  omega
theorem mp_set {f : Int → Int} (h0 : 0 ≤ k) (h1 : k < ow.length) : (mpK f ow k).set k.toNat (f (ix 0 ow k)) = mpK f ow (k + 1) := by
  have hl : ((ow.take k.toNat).map f).length = k.toNat := by rw [List.length_map, List.length_take]; omega
  have e : (k + 1).toNat = k.toNat + 1 := by omega
  have hd : ow.drop k.toNat = ix 0 ow k :: ow.drop (k.toNat + 1) := by
    rw [List.drop_eq_getElem_cons (by omega)]
    congr 1
    have := ix_get (d := (0 : Int)) h1 h0
    rw [List.getElem?_eq_getElem (by omega)] at this
    exact Option.some.inj this
  have ht : ow.take (k.toNat + 1) = ow.take k.toNat ++ [ix 0 ow k] := by
    rw [List.take_add_one]
    congr 1
    rw [ix_get (d := (0 : Int)) h1 h0]; rfl
  rw [mpK, mpK, e, List.set_append_right _ _ (by omega), hl, Nat.sub_self, hd, List.set_cons_zero, ht, List.map_append, List.append_assoc]
  rfl
theorem mp_keep {f : Int → Int} (h0 : 0 ≤ k) (h1 : k < ow.length) (hf : f (ix 0 ow k) = ix 0 ow k) : mpK f ow k = mpK f ow (k + 1) := by
  rw [← mp_set h0 h1, hf]
  refine (List.ext_getElem? fun j => ?_)
  rw [List.getElem?_set]
  split
  · rename_i hj
    subst hj
    have := mp_at (f := f) h0 h1
    rw [if_pos (by rw [mp_len]; omega), ← this, ix_get (d := (0 : Int)) (by rw [mp_len]; exact h1) h0]
  · rfl
theorem mp_end {f : Int → Int} (h : (ow.length : Int) ≤ k) : mpK f ow k = ow.map f := by rw [mpK, List.take_of_length_le (by omega), List.drop_eq_nil_of_le (by omega), List.append_nil]
theorem rg_end (h : rgR vs m n x ow = some res) (hx : m ≤ x) : ow = res := by
  cases n with
  | zero => cases h
  | succ n => rw [rgR, if_pos hx] at h; exact Option.some.inj h
theorem rg_turn (h : rgR vs m n x ow = some res) (hx : x < m) (hc : calV vs ow = -1) :
    ∃ l, wlkR vs ow 9 [] 0 = some l ∧ 0 ≤ idxP (eqI (enmV vs ow (ix 0 l (l.length - 1)))) 0 l ∧ rgR vs m (n - 1) x (turV vs ow l) = some res ∧ 0 < n := by
  cases n with
  | zero => cases h
  | succ n =>
    rw [rgR, if_neg (by omega), if_pos hc] at h
    cases hw : wlkR vs ow 9 [] 0 with
    | none => rw [hw] at h; cases h
    | some l =>
      rw [hw] at h
      simp only at h
      split at h
      · rename_i hi; exact ⟨l, rfl, hi, h, by omega⟩
      · cases h
theorem rg_put (h : rgR vs m n x ow = some res) (hx : x < m) (hc : ¬ calV vs ow = -1) : rgR vs m (n - 1) (x + 1) (ow.set x.toNat (calV vs ow)) = some res ∧ 0 < n := by
  cases n with
  | zero => cases h
  | succ n => rw [rgR, if_neg (by omega), if_neg hc] at h; exact ⟨h, by omega⟩
theorem tur_len (l : List Int) : (turV vs ow l).length = ow.length := by rw [turV, List.length_map]
def vs0 : List (List Int) := [[1, 5, 2], [5, 1, 2]]
theorem rg_0 : rgR vs0 3 50 0 (List.replicate (3 : Int).toNat (-1)) = some [1, 0, 0] := by decide +kernel
theorem dv_0 : DvOK vs0 3 := by
  refine ⟨by decide, by decide, ?_, ?_⟩
  · decide
  · decide
end Go.Proofs.YtlibemgaepkceaaGreatDoor

namespace Go.Proofs.YtlibemgaepkceaaGreatDoor
open Go.Wk
theorem good_0 : GoodM [[0, 2, 1, 3]] := good_m (by decide +kernel)
theorem gen_0 : (0 ≤ partT (tabV [[0, 2, 1, 3]]) ∧ partT (tabV [[0, 2, 1, 3]]) ≤ 100) ∧ 0 ≤ tnN (tabV [[0, 2, 1, 3]]) - teN (tabV [[0, 2, 1, 3]]) / 2 + (cycV (teN (tabV [[0, 2, 1, 3]])) (alngF (tabV [[0, 2, 1, 3]]))).length := by decide +kernel
end Go.Proofs.YtlibemgaepkceaaGreatDoor

namespace Go.Proofs.YtlibemgaepkceaaGreatDoor
open Go.Wk Go.RowKit Go.Lib
set_option linter.unusedVariables false
set_option linter.unusedSimpArgs false


theorem F7 {xv : Value} {xs : List Int} {Fr_xv : List (Option Nat)} {n : Int} {w : World} (h_xv : V (tSl (tI .i64)) xs xv Fr_xv w) (i_n : InK .i64 n) : Calls Tryz.prog 7 #[xv, .int .i64 n] w (Ret w (fun r _ => r = .int .i64 (idxP (fun y => decide (y = n)) 0 xs))) := by
  have b_n := bd_i64 i_n
  have a_xv := h_xv.any
  have l_xv := h_xv.len63
  have hS := St.start0 w
  refine enterR Tryz.func7 rfl Tryz.ntmps7 Tryz.results7 rfl ?_
  refine W.seq ?_
  refine W.reg ?_
  refine Wx.rd (v := .int .i64 0) (rd_assign rfl) rfl ?_
  refine Wx.nil ?_
  refine W.seq ?_
  refine W.seq ?_
  refine W.reg ?_
  refine Wx.rd (v := xv) (rd_move rfl) rfl ?_
  refine Wx.rd (v := .int .i64 (xs.length : Int)) (rd_lenV rfl (hS.arg a_xv) Tryz.underlying25) rfl ?_
  refine Wx.rd (v := .int .i64 0) (rd_move rfl) rfl ?_
  refine Wx.nil ?_
  refine W.block ?_
  refine W.loop [4, 5, 8, 9, 10, 11, 12, 13, 14, 15, 16, 17, 18] (fun (k : Int) => [(8, .int .i64 k)]) (fun (k : Int) w' => St w [] w' [] ∧ 0 ≤ k ∧ k ≤ xs.length ∧ idxP (fun y => decide (y = n)) k (xs.drop k.toNat) = idxP (fun y => decide (y = n)) 0 xs) (fun (k : Int) => (xs.length - k).toNat) 0 ⟨rfl, trivial⟩ ⟨hS, (by first | omega | simp), (by first | omega | simp), (by simp)⟩ ?_
  rintro k u_2 w_1 ⟨hS, h0, h1, h2⟩
  refine W.seq ?_
  refine W.reg ?_
  refine Wx.rd (v := .bool (decide (k < (xs.length : Int)))) (rd_lss rfl rfl) rfl ?_
  refine Wx.nil ?_
  refine W.seq ?_
  refine W.condD rfl (fun c0 => ?_) (fun c0 => ?_)
  · -- yes
    refine W.skip ?_
    refine W.seq ?_
    refine W.block ?_
    refine W.seq ?_
    refine W.reg ?_
    refine Wx.rd (v := .int .i64 k) (rd_move rfl) rfl ?_
    refine Wx.rd (v := .int .i64 k) (rd_assign rfl) rfl ?_
    refine Wx.nil ?_
    refine W.seq ?_
    refine W.reg ?_
    refine Wx.rd (v := .int .i64 n) (rd_move rfl) rfl ?_
    refine Wx.rd (v := xv) (rd_move rfl) rfl ?_
    refine Wx.rd (v := .int .i64 k) (rd_move rfl) rfl ?_
    refine Wx.ex (rd_index 0 (hS.arg a_xv) rfl rfl Tryz.underlying25 Tryz.sizeOf3 (by first | omega | (simp only [List.length_set, List.length_append, List.length_cons, List.length_nil, List.length_replicate]; omega)) (by first | omega | (simp only [List.length_set, List.length_append, List.length_cons, List.length_nil, List.length_replicate]; omega))) rfl (fun p_3 hp_4 => ?_)
    refine Wx.rd (v := .int .i64 (ix 0 xs k)) (rd_loadI hp_4 rfl Tryz.isAgg3 Tryz.sizeOf3) rfl ?_
    have bd_5 := bd_i64 hp_4.inK
    refine Wx.rd (v := .bool (decide (n = (ix 0 xs k)))) (rd_eql rfl rfl) rfl ?_
    refine Wx.nil ?_
    refine W.condD rfl (fun c1 => ?_) (fun c1 => ?_)
    · -- yes
      refine W.seq ?_
      refine W.reg ?_
      refine Wx.rd (v := .int .i64 k) (rd_move rfl) rfl ?_
      refine Wx.rd (v := .int .i64 k) (rd_assign rfl) rfl ?_
      refine Wx.nil ?_
      have e0_0 : (idxP (fun y => decide (y = n)) 0 xs) = (k : Int) := by exact idxP_here h0 c0 h2 (decide_eq_true c1.symm)
      exact W.ret ⟨.int .i64 k, ResIs.one, hS.bel, (by rw [e0_0])⟩
    · -- no
      refine W.skip ?_
      refine W.reg ?_
      refine Wx.rd (v := .int .i64 (k + 1)) (rd_add rfl rfl (in_i64 (by omega) (by omega))) rfl ?_
      refine Wx.rd (v := .int .i64 (k + 1)) (rd_move rfl) rfl ?_
      refine Wx.nil ?_
      refine ⟨k + 1, (by show (xs.length - (k + 1)).toNat < (xs.length - k).toNat; omega), ?_, ?_, Out.look rfl Out.self⟩
      · exact ⟨hS, (by first | omega | assumption), (by first | omega | assumption), (idxP_step h0 c0 h2 (decide_eq_false fun q => c1 q.symm))⟩
      · exact ⟨rfl, trivial⟩
  · -- no
    refine W.exit rfl ?_
    refine W.seq ?_
    refine W.reg ?_
    refine Wx.rd (v := .int .i64 (-1)) (rd_assign rfl) rfl ?_
    refine Wx.nil ?_
    have e1_0 : (idxP (fun y => decide (y = n)) 0 xs) = (-1 : Int) := by exact idxP_out (by omega) h2
    exact W.ret ⟨.int .i64 (-1), ResIs.one, hS.bel, (by rw [e1_0])⟩

theorem F65 {xv : Value} {xs : List Int} {Fr_xv : List (Option Nat)} {n : Int} {w : World} (h_xv : V (tSl (tI .i64)) xs xv Fr_xv w) (i_n : InK .i64 n) : Calls Tryz.prog 65 #[xv, .int .i64 n] w (Ret w (fun r _ => r = .bool (hasL xs n))) := by
  have b_n := bd_i64 i_n
  have a_xv := h_xv.any
  have l_xv := h_xv.len63
  have hS := St.start0 w
  refine enterR Tryz.func65 rfl Tryz.ntmps65 Tryz.results65 rfl ?_
  refine W.seq ?_
  refine W.reg ?_
  refine Wx.rd (v := .bool false) (rd_assign rfl) rfl ?_
  refine Wx.nil ?_
  refine W.seq ?_
  refine W.reg ?_
  refine Wx.rd (v := xv) (rd_move rfl) rfl ?_
  refine Wx.rd (v := .int .i64 n) (rd_move rfl) rfl ?_
  refine Wx.callF (run_callF Tryz.call7 rfl) (F7 (hS.arg a_xv) i_n) rfl ?_
  rintro r_1 w_2 hx_3 rfl
  have hS := hS.ext hx_3
  have ib_4 := idxP_bd (fun y => decide (y = n)) xs 0 (Int.le_refl 0)
  refine Wx.rd (v := .bool (decide (0 ≤ (idxP (fun y => decide (y = n)) 0 xs)))) (rd_geq rfl rfl) rfl ?_
  refine Wx.rd (v := .bool (decide (0 ≤ (idxP (fun y => decide (y = n)) 0 xs)))) (rd_assign rfl) rfl ?_
  refine Wx.nil ?_
  have e0_0 : (hasL xs n) = (decide (0 ≤ (idxP (fun y => decide (y = n)) 0 xs))) := by exact (idxP_any (fun y => decide (y = n)) xs 0 (Int.le_refl 0)).symm
  exact W.ret ⟨.bool (decide (0 ≤ (idxP (fun y => decide (y = n)) 0 xs))), ResIs.one, hS.bel, (by rw [e0_0])⟩
end Go.Proofs.YtlibemgaepkceaaGreatDoor

namespace Go.Proofs.YtlibemgaepkceaaGreatDoor
open Go.Wk Go.RowKit Go.Lib
set_option linter.unusedVariables false
set_option linter.unusedSimpArgs false
theorem foYa_146_0 : fldOff Tryz.prog 146 0 = some 0 := by kernel_rfl
theorem foYa_146_1 : fldOff Tryz.prog 146 1 = some 1 := by kernel_rfl
theorem foYa_146_2 : fldOff Tryz.prog 146 2 = some 2 := by kernel_rfl

theorem F121 {lo : Int} {n : Int} {hi : Int} {w : World} (i_lo : InK .i64 lo) (i_n : InK .i64 n) (i_hi : InK .i64 hi) : Calls Tryz.prog 121 #[.int .i64 lo, .int .i64 n, .int .i64 hi] w (Ret w (fun r _ => r = .bool (decide (lo ≤ n) && decide (n ≤ hi)))) := by
  have b_hi := bd_i64 i_hi
  have b_n := bd_i64 i_n
  have b_lo := bd_i64 i_lo
  have hS := St.start0 w
  refine enterR Tryz.func121 rfl Tryz.ntmps121 Tryz.results121 rfl ?_
  refine W.seq ?_
  refine W.reg ?_
  refine Wx.rd (v := .bool false) (rd_assign rfl) rfl ?_
  refine Wx.nil ?_
  refine W.seq ?_
  refine W.reg ?_
  refine Wx.rd (v := .int .i64 lo) (rd_move rfl) rfl ?_
  refine Wx.rd (v := .int .i64 n) (rd_move rfl) rfl ?_
  refine Wx.rd (v := .bool (decide (lo ≤ n))) (rd_leq rfl rfl) rfl ?_
  refine Wx.rd (v := .bool (decide (lo ≤ n))) (rd_move rfl) rfl ?_
  refine Wx.cut (X := Unit) 4 [11, 12, 13, 14] (fun _ => [(14, .bool (decide (lo ≤ n) && decide (n ≤ hi)))]) (fun _ w' => St w [] w' []) ?_ ?_
  · rcases Bool.eq_false_or_eq_true (decide (lo ≤ n)) with g_1 | g_1
    · -- True
      have gp_2 := of_decide_eq_true g_1
      refine Wx.gyes rfl rfl (congrArg Value.bool g_1) ?_
      refine Wx.rd (v := .int .i64 n) (rd_move rfl) rfl ?_
      refine Wx.gyes rfl rfl (congrArg Value.bool g_1) ?_
      refine Wx.rd (v := .int .i64 hi) (rd_move rfl) rfl ?_
      refine Wx.gyes rfl rfl (congrArg Value.bool g_1) ?_
      refine Wx.rd (v := .bool (decide (n ≤ hi))) (rd_leq rfl rfl) rfl ?_
      refine Wx.rd (v := .bool (decide (n ≤ hi))) (rd_pickT (congrArg Value.bool g_1) rfl) rfl ?_
      refine Wx.nil ⟨(), hS, ⟨?_, trivial⟩, Out.look rfl Out.refl⟩
      show Value.bool (decide (n ≤ hi)) = Value.bool (decide (lo ≤ n) && decide (n ≤ hi))
      first | rw [g_1, Bool.true_and] | (rw [g_1]; rfl)
    · -- False
      have gp_3 := of_decide_eq_false g_1
      refine Wx.gnoB rfl rfl (congrArg Value.bool g_1) rfl rfl ?_
      refine Wx.gnoB rfl rfl (congrArg Value.bool g_1) rfl rfl ?_
      refine Wx.gnoB rfl rfl (congrArg Value.bool g_1) rfl rfl ?_
      refine Wx.rd (v := .bool false) (rd_pickF (congrArg Value.bool g_1) rfl) rfl ?_
      refine Wx.nil ⟨(), hS, ⟨?_, trivial⟩, Out.look rfl Out.refl⟩
      show Value.bool false = Value.bool (decide (lo ≤ n) && decide (n ≤ hi))
      first | rw [g_1, Bool.false_and] | (rw [g_1]; rfl)
  rintro ⟨⟩ u_5 w_4 hS
  refine Wx.rd (v := .bool (decide (lo ≤ n) && decide (n ≤ hi))) (rd_assign rfl) rfl ?_
  refine Wx.nil ?_
  exact W.ret ⟨.bool (decide (lo ≤ n) && decide (n ≤ hi)), ResIs.one, hS.bel, rfl⟩

theorem F123 {h : Int} {w : World} (i_h : InK .i64 h) : Calls Tryz.prog 123 #[.int .i64 h] w (Ret w (fun r _ => r = .bool (badH h))) := by
  have b_h := bd_i64 i_h
  have hS := St.start0 w
  refine enterR Tryz.func123 rfl Tryz.ntmps123 Tryz.results123 rfl ?_
  refine W.seq ?_
  refine W.reg ?_
  refine Wx.rd (v := .bool false) (rd_assign rfl) rfl ?_
  refine Wx.nil ?_
  refine W.seq ?_
  refine W.reg ?_
  refine Wx.rd (v := .int .i64 h) (rd_move rfl) rfl ?_
  refine Wx.callF (run_callF Tryz.call121 rfl) (F121 (in_i64 (by omega) (by omega)) i_h (in_i64 (by omega) (by omega))) rfl ?_
  rintro r_1 w_2 hx_3 rfl
  have hS := hS.ext hx_3
  refine Wx.rd (v := .bool (!(decide (0 ≤ h) && decide (h ≤ 30)))) (rd_not rfl) rfl ?_
  refine Wx.rd (v := .bool (!(decide (0 ≤ h) && decide (h ≤ 30)))) (rd_assign rfl) rfl ?_
  refine Wx.nil ?_
  have e0_0 : (badH h) = (!(decide (0 ≤ h) && decide (h ≤ 30))) := by rfl
  exact W.ret ⟨.bool (!(decide (0 ≤ h) && decide (h ≤ 30))), ResIs.one, hS.bel, (by rw [e0_0])⟩

theorem FIw {xv : Value} {xs : List Int} {Fr_xv : List (Option Nat)} {w : World} (h_xv : V (tSl (tI .i64)) xs xv Fr_xv w) : Calls Tryz.prog 134 #[xv, .func (.func 123) #[] #[]] w (Ret w (fun r _ => r = .int .i64 (idxP badH 0 xs))) := by
  have a_xv := h_xv.any
  have l_xv := h_xv.len63
  have hS := St.start0 w
  refine enterR Tryz.func134 rfl Tryz.ntmps134 Tryz.results134 rfl ?_
  refine W.seq ?_
  refine W.reg ?_
  refine Wx.rd (v := .int .i64 0) (rd_assign rfl) rfl ?_
  refine Wx.nil ?_
  refine W.seq ?_
  refine W.seq ?_
  refine W.reg ?_
  refine Wx.rd (v := xv) (rd_move rfl) rfl ?_
  refine Wx.rd (v := .int .i64 (xs.length : Int)) (rd_lenV rfl (hS.arg a_xv) Tryz.underlying25) rfl ?_
  refine Wx.rd (v := .int .i64 0) (rd_move rfl) rfl ?_
  refine Wx.nil ?_
  refine W.block ?_
  refine W.loop [4, 5, 8, 9, 10, 11, 12, 13, 14, 15, 16, 17, 18] (fun (k : Int) => [(8, .int .i64 k)]) (fun (k : Int) w' => St w [] w' [] ∧ 0 ≤ k ∧ k ≤ xs.length ∧ idxP badH k (xs.drop k.toNat) = idxP badH 0 xs) (fun (k : Int) => (xs.length - k).toNat) 0 ⟨rfl, trivial⟩ ⟨hS, (by first | omega | simp), (by first | omega | simp), (by simp)⟩ ?_
  rintro k u_2 w_1 ⟨hS, h0, h1, h2⟩
  refine W.seq ?_
  refine W.reg ?_
  refine Wx.rd (v := .bool (decide (k < (xs.length : Int)))) (rd_lss rfl rfl) rfl ?_
  refine Wx.nil ?_
  refine W.seq ?_
  refine W.condD rfl (fun c0 => ?_) (fun c0 => ?_)
  · -- yes
    refine W.skip ?_
    refine W.seq ?_
    refine W.block ?_
    refine W.seq ?_
    refine W.reg ?_
    refine Wx.rd (v := .int .i64 k) (rd_move rfl) rfl ?_
    refine Wx.rd (v := .int .i64 k) (rd_assign rfl) rfl ?_
    refine Wx.nil ?_
    refine W.seq ?_
    refine W.reg ?_
    refine Wx.rd (v := .func (.func 123) #[] #[]) (rd_move rfl) rfl ?_
    refine Wx.rd (v := xv) (rd_move rfl) rfl ?_
    refine Wx.rd (v := .int .i64 k) (rd_move rfl) rfl ?_
    refine Wx.ex (rd_index 0 (hS.arg a_xv) rfl rfl Tryz.underlying25 Tryz.sizeOf3 (by first | omega | (simp only [List.length_set, List.length_append, List.length_cons, List.length_nil, List.length_replicate]; omega)) (by first | omega | (simp only [List.length_set, List.length_append, List.length_cons, List.length_nil, List.length_replicate]; omega))) rfl (fun p_3 hp_4 => ?_)
    refine Wx.rd (v := .int .i64 (ix 0 xs k)) (rd_loadI hp_4 rfl Tryz.isAgg3 Tryz.sizeOf3) rfl ?_
    have bd_5 := bd_i64 hp_4.inK
    refine Wx.callF (run_callC (fs := []) (cs := []) (vs := [.int .i64 (ix 0 xs k)]) Tryz.call123 rfl rfl) (F123 (in_i64 (by omega) (by omega))) rfl ?_
    rintro r_6 w_7 hx_8 rfl
    have hS := hS.ext hx_8
    refine Wx.nil ?_
    refine W.cond rfl (fun c1 => ?_) (fun c1 => ?_)
    · -- yes
      try simp only [Bool.and_eq_true, Bool.or_eq_true, Bool.not_eq_true', Bool.and_eq_false_iff, Bool.or_eq_false_iff, Bool.not_eq_false', decide_eq_true_eq, decide_eq_false_iff_not, not_or, Bool.false_eq_true, Bool.true_eq_false, false_or, or_false, not_false_eq_true] at c1
      refine W.seq ?_
      refine W.reg ?_
      refine Wx.rd (v := .int .i64 k) (rd_move rfl) rfl ?_
      refine Wx.rd (v := .int .i64 k) (rd_assign rfl) rfl ?_
      refine Wx.nil ?_
      have e0_0 : (idxP badH 0 xs) = (k : Int) := by exact idxP_here h0 c0 h2 c1
      exact W.ret ⟨.int .i64 k, ResIs.one, hS.bel, (by rw [e0_0])⟩
    · -- no
      try simp only [Bool.and_eq_true, Bool.or_eq_true, Bool.not_eq_true', Bool.and_eq_false_iff, Bool.or_eq_false_iff, Bool.not_eq_false', decide_eq_true_eq, decide_eq_false_iff_not, not_or, Bool.false_eq_true, Bool.true_eq_false, false_or, or_false, not_false_eq_true] at c1
      refine W.skip ?_
      refine W.reg ?_
      refine Wx.rd (v := .int .i64 (k + 1)) (rd_add rfl rfl (in_i64 (by omega) (by omega))) rfl ?_
      refine Wx.rd (v := .int .i64 (k + 1)) (rd_move rfl) rfl ?_
      refine Wx.nil ?_
      refine ⟨k + 1, (by show (xs.length - (k + 1)).toNat < (xs.length - k).toNat; omega), ?_, ?_, Out.look rfl Out.self⟩
      · exact ⟨hS, (by first | omega | assumption), (by first | omega | assumption), (idxP_step h0 c0 h2 c1)⟩
      · exact ⟨rfl, trivial⟩
  · -- no
    refine W.exit rfl ?_
    refine W.seq ?_
    refine W.reg ?_
    refine Wx.rd (v := .int .i64 (-1)) (rd_assign rfl) rfl ?_
    refine Wx.nil ?_
    have e1_0 : (idxP badH 0 xs) = (-1 : Int) := by exact idxP_out (by omega) h2
    exact W.ret ⟨.int .i64 (-1), ResIs.one, hS.bel, (by rw [e1_0])⟩

theorem F122 {xv : Value} {xs : List Int} {Fr_xv : List (Option Nat)} {w : World} (h_xv : V (tSl (tI .i64)) xs xv Fr_xv w) : Calls Tryz.prog 122 #[xv, .func (.func 123) #[] #[]] w (Ret w (fun r _ => r = .bool (xs.any badH))) := by
  have a_xv := h_xv.any
  have l_xv := h_xv.len63
  have hS := St.start0 w
  refine enterR Tryz.func122 rfl Tryz.ntmps122 Tryz.results122 rfl ?_
  refine W.seq ?_
  refine W.reg ?_
  refine Wx.rd (v := .bool false) (rd_assign rfl) rfl ?_
  refine Wx.nil ?_
  refine W.seq ?_
  refine W.reg ?_
  refine Wx.rd (v := xv) (rd_move rfl) rfl ?_
  refine Wx.rd (v := .func (.func 123) #[] #[]) (rd_move rfl) rfl ?_
  refine Wx.callF (run_callF Tryz.call134 rfl) (FIw (hS.arg a_xv)) rfl ?_
  rintro r_1 w_2 hx_3 rfl
  have hS := hS.ext hx_3
  have ib_4 := idxP_bd badH xs 0 (Int.le_refl 0)
  refine Wx.rd (v := .bool (decide (0 ≤ (idxP badH 0 xs)))) (rd_geq rfl rfl) rfl ?_
  refine Wx.rd (v := .bool (decide (0 ≤ (idxP badH 0 xs)))) (rd_assign rfl) rfl ?_
  refine Wx.nil ?_
  have e0_0 : (xs.any badH) = (decide (0 ≤ (idxP badH 0 xs))) := by exact (idxP_any _ _ _ (by omega)).symm
  exact W.ret ⟨.bool (decide (0 ≤ (idxP badH 0 xs))), ResIs.one, hS.bel, (by rw [e0_0])⟩

set_option maxHeartbeats 1000000 in
theorem F110 {R : Int} {C : Int} {hv : Value} {H : List Int} {Fr_hv : List (Option Nat)} {w : World} (i_R : InK .i64 R) (i_C : InK .i64 C) (h_hv : V (tSl (tI .i64)) H hv Fr_hv w) : Calls Tryz.prog 110 #[.agg #[.int .i64 R, .int .i64 C, hv]] w (Ret w (fun r _ => r = .int .i64 (checkS R C H))) := by
  have b_C := bd_i64 i_C
  have b_R := bd_i64 i_R
  have a_hv := h_hv.any
  have l_hv := h_hv.len63
  have hS := St.start0 w
  refine enterR Tryz.func110 rfl Tryz.ntmps110 Tryz.results110 rfl ?_
  refine W.seq ?_
  refine W.reg ?_
  refine Wx.box (cs := [.int .i64 R, .int .i64 C, hv]) hS rfl rfl rfl (fun g_1 w_2 hx_4 hb_3 hS => ?_)
  refine Wx.rd (v := .int .i64 0) (rd_assign rfl) rfl ?_
  refine Wx.nil ?_
  refine W.seq ?_
  refine W.block ?_
  refine W.seq ?_
  refine W.reg ?_
  refine Wx.rd (v := .pointer (some ⟨g_1, 0, none⟩)) (rd_fieldAddr rfl foYa_146_0) rfl ?_
  refine Wx.rd (v := .int .i64 R) (rd_loadX hS 0 rfl rfl rfl Tryz.isAgg3) rfl ?_
  refine Wx.callF (run_callF Tryz.call121 rfl) (F121 (in_i64 (by omega) (by omega)) i_R (in_i64 (by omega) (by omega))) rfl ?_
  rintro r_5 w_6 hx_7 rfl
  have hS := hS.ext hx_7
  refine Wx.rd (v := .bool (!(decide (1 ≤ R) && decide (R ≤ 6)))) (rd_not rfl) rfl ?_
  refine Wx.rd (v := .bool (!(decide (1 ≤ R) && decide (R ≤ 6)))) (rd_move rfl) rfl ?_
  refine Wx.cut (X := Unit) 5 [9, 10, 11, 12, 13] (fun _ => [(13, .bool (!(decide (1 ≤ R) && decide (R ≤ 6)) || !(decide (1 ≤ C) && decide (C ≤ 6))))]) (fun _ w' => St w [] w' [.box g_1 146 [.int .i64 R, .int .i64 C, hv]]) ?_ ?_
  · rcases Bool.eq_false_or_eq_true (!(decide (1 ≤ R) && decide (R ≤ 6))) with g_8 | g_8
    · -- True
      have gp_9 := g_8
      try simp only [Bool.and_eq_true, Bool.or_eq_true, Bool.not_eq_true', Bool.and_eq_false_iff, Bool.or_eq_false_iff, Bool.not_eq_false', decide_eq_true_eq, decide_eq_false_iff_not, not_or, Bool.false_eq_true, Bool.true_eq_false, false_or, or_false, not_false_eq_true] at gp_9
      refine Wx.gnoB rfl rfl (congrArg Value.bool g_8) rfl rfl ?_
      refine Wx.gnoB rfl rfl (congrArg Value.bool g_8) rfl rfl ?_
      refine Wx.gnoB rfl rfl (congrArg Value.bool g_8) rfl rfl ?_
      refine Wx.gnoB rfl rfl (congrArg Value.bool g_8) rfl rfl ?_
      refine Wx.rd (v := .bool true) (rd_pickT (congrArg Value.bool g_8) rfl) rfl ?_
      refine Wx.nil ⟨(), hS, ⟨?_, trivial⟩, Out.look rfl Out.refl⟩
      show Value.bool true = Value.bool (!(decide (1 ≤ R) && decide (R ≤ 6)) || !(decide (1 ≤ C) && decide (C ≤ 6)))
      first | rw [g_8, Bool.true_or] | (rw [g_8]; rfl)
    · -- False
      have gp_10 := g_8
      try simp only [Bool.and_eq_true, Bool.or_eq_true, Bool.not_eq_true', Bool.and_eq_false_iff, Bool.or_eq_false_iff, Bool.not_eq_false', decide_eq_true_eq, decide_eq_false_iff_not, not_or, Bool.false_eq_true, Bool.true_eq_false, false_or, or_false, not_false_eq_true] at gp_10
      refine Wx.gyes rfl rfl (congrArg Value.bool g_8) ?_
      refine Wx.rd (v := .pointer (some ⟨g_1, 1, none⟩)) (rd_fieldAddr rfl foYa_146_1) rfl ?_
      refine Wx.gyes rfl rfl (congrArg Value.bool g_8) ?_
      refine Wx.rd (v := .int .i64 C) (rd_loadX hS 0 rfl rfl rfl Tryz.isAgg3) rfl ?_
      refine Wx.gyes rfl rfl (congrArg Value.bool g_8) ?_
      refine Wx.callF (run_callF Tryz.call121 rfl) (F121 (in_i64 (by omega) (by omega)) i_C (in_i64 (by omega) (by omega))) rfl ?_
      rintro r_11 w_12 hx_13 rfl
      have hS := hS.ext hx_13
      refine Wx.gyes rfl rfl (congrArg Value.bool g_8) ?_
      refine Wx.rd (v := .bool (!(decide (1 ≤ C) && decide (C ≤ 6)))) (rd_not rfl) rfl ?_
      refine Wx.rd (v := .bool (!(decide (1 ≤ C) && decide (C ≤ 6)))) (rd_pickF (congrArg Value.bool g_8) rfl) rfl ?_
      refine Wx.nil ⟨(), hS, ⟨?_, trivial⟩, Out.look rfl Out.refl⟩
      show Value.bool (!(decide (1 ≤ C) && decide (C ≤ 6))) = Value.bool (!(decide (1 ≤ R) && decide (R ≤ 6)) || !(decide (1 ≤ C) && decide (C ≤ 6)))
      first | rw [g_8, Bool.false_or] | (rw [g_8]; rfl)
  rintro ⟨⟩ u_15 w_14 hS
  refine Wx.rd (v := .bool (!(decide (1 ≤ R) && decide (R ≤ 6)) || !(decide (1 ≤ C) && decide (C ≤ 6)))) (rd_assign rfl) rfl ?_
  refine Wx.nil ?_
  refine W.cond rfl (fun c0 => ?_) (fun c0 => ?_)
  · -- yes
    try simp only [Bool.and_eq_true, Bool.or_eq_true, Bool.not_eq_true', Bool.and_eq_false_iff, Bool.or_eq_false_iff, Bool.not_eq_false', decide_eq_true_eq, decide_eq_false_iff_not, not_or, Bool.false_eq_true, Bool.true_eq_false, false_or, or_false, not_false_eq_true] at c0
    refine W.seq ?_
    refine W.reg ?_
    refine Wx.rd (v := .int .i64 1) (rd_assign rfl) rfl ?_
    refine Wx.nil ?_
    have e0_0 : (checkS R C H) = (1 : Int) := by exact check_range (by omega)
    exact W.ret ⟨.int .i64 1, ResIs.one, hS.bel, (by rw [e0_0])⟩
  · -- no
    try simp only [Bool.and_eq_true, Bool.or_eq_true, Bool.not_eq_true', Bool.and_eq_false_iff, Bool.or_eq_false_iff, Bool.not_eq_false', decide_eq_true_eq, decide_eq_false_iff_not, not_or, Bool.false_eq_true, Bool.true_eq_false, false_or, or_false, not_false_eq_true] at c0
    refine W.seq ?_
    refine W.reg ?_
    refine Wx.rd (v := .pointer (some ⟨g_1, 2, none⟩)) (rd_fieldAddr rfl foYa_146_2) rfl ?_
    refine Wx.rd (v := hv) (rd_loadX hS 0 rfl rfl rfl Tryz.isAgg25) rfl ?_
    refine Wx.rd (v := .int .i64 (H.length : Int)) (rd_lenV rfl (hS.arg a_hv) Tryz.underlying25) rfl ?_
    refine Wx.rd (v := .pointer (some ⟨g_1, 0, none⟩)) (rd_fieldAddr rfl foYa_146_0) rfl ?_
    refine Wx.rd (v := .int .i64 R) (rd_loadX hS 0 rfl rfl rfl Tryz.isAgg3) rfl ?_
    refine Wx.rd (v := .pointer (some ⟨g_1, 1, none⟩)) (rd_fieldAddr rfl foYa_146_1) rfl ?_
    refine Wx.rd (v := .int .i64 C) (rd_loadX hS 0 rfl rfl rfl Tryz.isAgg3) rfl ?_
    have hmul : 0 ≤ R * C ∧ R * C ≤ 36 := mul36 (by omega) (by omega)
    refine Wx.rd (v := .int .i64 (R * C)) (rd_mul rfl rfl (in_i64 (by omega) (by omega))) rfl ?_
    refine Wx.rd (v := .bool (decide ((H.length : Int) ≠ (R * C)))) (rd_neq rfl rfl) rfl ?_
    refine Wx.rd (v := .bool (decide ((H.length : Int) ≠ (R * C)))) (rd_assign rfl) rfl ?_
    refine Wx.nil ?_
    refine W.condD rfl (fun c1 => ?_) (fun c1 => ?_)
    · -- yes
      refine W.seq ?_
      refine W.reg ?_
      refine Wx.rd (v := .int .i64 5) (rd_assign rfl) rfl ?_
      refine Wx.nil ?_
      have e1_0 : (checkS R C H) = (5 : Int) := by exact check_shape (by omega) (by omega)
      exact W.ret ⟨.int .i64 5, ResIs.one, hS.bel, (by rw [e1_0])⟩
    · -- no
      refine W.seq ?_
      refine W.reg ?_
      refine Wx.rd (v := .pointer (some ⟨g_1, 2, none⟩)) (rd_fieldAddr rfl foYa_146_2) rfl ?_
      refine Wx.rd (v := hv) (rd_loadX hS 0 rfl rfl rfl Tryz.isAgg25) rfl ?_
      refine Wx.callF (run_callF Tryz.call122 rfl) (F122 (hS.arg a_hv)) rfl ?_
      rintro r_16 w_17 hx_18 rfl
      have hS := hS.ext hx_18
      refine Wx.rd (v := .bool (H.any badH)) (rd_assign rfl) rfl ?_
      refine Wx.nil ?_
      refine W.cond rfl (fun c2 => ?_) (fun c2 => ?_)
      · -- yes
        try simp only [Bool.and_eq_true, Bool.or_eq_true, Bool.not_eq_true', Bool.and_eq_false_iff, Bool.or_eq_false_iff, Bool.not_eq_false', decide_eq_true_eq, decide_eq_false_iff_not, not_or, Bool.false_eq_true, Bool.true_eq_false, false_or, or_false, not_false_eq_true] at c2
        have hg : (1 ≤ R ∧ R ≤ 6) ∧ (1 ≤ C ∧ C ≤ 6) := by omega
        refine W.seq ?_
        refine W.reg ?_
        refine Wx.rd (v := .int .i64 1) (rd_assign rfl) rfl ?_
        refine Wx.nil ?_
        have e2_0 : (checkS R C H) = (1 : Int) := by rw [check_any (by omega) (by omega), if_pos c2]
        exact W.ret ⟨.int .i64 1, ResIs.one, hS.bel, (by rw [e2_0])⟩
      · -- no
        try simp only [Bool.and_eq_true, Bool.or_eq_true, Bool.not_eq_true', Bool.and_eq_false_iff, Bool.or_eq_false_iff, Bool.not_eq_false', decide_eq_true_eq, decide_eq_false_iff_not, not_or, Bool.false_eq_true, Bool.true_eq_false, false_or, or_false, not_false_eq_true] at c2
        refine W.skip ?_
        refine W.seq ?_
        refine W.reg ?_
        refine Wx.rd (v := .int .i64 0) (rd_assign rfl) rfl ?_
        refine Wx.nil ?_
        have e3_0 : (checkS R C H) = (0 : Int) := by rw [check_any (by omega) (by omega), if_neg (by rw [c2]; decide)]
        exact W.ret ⟨.int .i64 0, ResIs.one, hS.bel, (by rw [e3_0])⟩

theorem F112 {R : Int} {C : Int} {hv : Value} {H : List Int} {Fr_hv : List (Option Nat)} {w : World} (i_R : InK .i64 R) (i_C : InK .i64 C) (h_hv : V (tSl (tI .i64)) H hv Fr_hv w) : Calls Tryz.prog 112 #[.agg #[.int .i64 R, .int .i64 C, hv]] w (Ret w (fun r _ => r = .int .i64 (H.length : Int))) := by
  have b_C := bd_i64 i_C
  have b_R := bd_i64 i_R
  have a_hv := h_hv.any
  have l_hv := h_hv.len63
  have hS := St.start0 w
  refine enterR Tryz.func112 rfl Tryz.ntmps112 Tryz.results112 rfl ?_
  refine W.seq ?_
  refine W.reg ?_
  refine Wx.box (cs := [.int .i64 R, .int .i64 C, hv]) hS rfl rfl rfl (fun g_1 w_2 hx_4 hb_3 hS => ?_)
  refine Wx.rd (v := .int .i64 0) (rd_assign rfl) rfl ?_
  refine Wx.nil ?_
  refine W.seq ?_
  refine W.reg ?_
  refine Wx.rd (v := .pointer (some ⟨g_1, 2, none⟩)) (rd_fieldAddr rfl foYa_146_2) rfl ?_
  refine Wx.rd (v := hv) (rd_loadX hS 0 rfl rfl rfl Tryz.isAgg25) rfl ?_
  refine Wx.rd (v := .int .i64 (H.length : Int)) (rd_lenV rfl (hS.arg a_hv) Tryz.underlying25) rfl ?_
  refine Wx.rd (v := .int .i64 (H.length : Int)) (rd_assign rfl) rfl ?_
  refine Wx.nil ?_
  exact W.ret ⟨.int .i64 (H.length : Int), ResIs.one, hS.bel, rfl⟩
end Go.Proofs.YtlibemgaepkceaaGreatDoor

namespace Go.Proofs.YtlibemgaepkceaaGreatDoor
open Go.Wk Go.RowKit Go.Lib
set_option linter.unusedVariables false
set_option linter.unusedSimpArgs false
theorem foYb_146_1 : fldOff Tryz.prog 146 1 = some 1 := by kernel_rfl
theorem mixedYb_ : Tryz.prog.follows .mixedOrders = true := by kernel_rfl

set_option maxHeartbeats 2000000 in
theorem F135 {R C a : Int} {H : List Int} {hv : Value} {gn gs l : Nat} {Tl Tx : List Int → List Ob → Prop} {ob : List Ob} {w0 w : World} {O : List (Option Nat)} (p_ok : SOK R C H) (p_a : 0 ≤ a ∧ a < (H.length : Int)) (hE : EachY Tryz.prog l (nbW C H.length a) Tl Tx w0 O) (hT : Tl [] ob) (hS : St w0 O w (.box gn 3 [.int .i64 a] :: .box gs 146 [.int .i64 R, .int .i64 C, hv] :: Ob.v (tSl (tI .i64)) H hv :: ob)) : Calls Tryz.prog 135 #[(.func (.yield l) #[] #[]), (.pointer (some ⟨gn, 0, none⟩)), (.pointer (some ⟨gs, 0, none⟩))] w (Bk fun _ w' => ∃ ob', (Tl (nbW C H.length a) ob' ∨ ∃ ls, ls <+: nbW C H.length a ∧ Tx ls ob') ∧ St w0 O w' (.box gn 3 [.int .i64 a] :: .box gs 146 [.int .i64 R, .int .i64 C, hv] :: Ob.v (tSl (tI .i64)) H hv :: ob')) := by
  obtain ⟨⟨r1, r2⟩, ⟨c1_, c2_⟩, hRC, ⟨n1, n36⟩, hCn, hok⟩ := id p_ok
  have a0 := p_a.1
  have a1 := p_a.2
  refine enterB Tryz.func135 rfl Tryz.ntmps135 Tryz.results135 rfl ?_
  refine W.seq ?_
  refine W.seq ?_
  refine W.reg ?_
  refine Wx.rd (v := .int .i64 a) (rd_loadX hS 0 rfl rfl rfl Tryz.isAgg3) rfl ?_
  refine Wx.rd (v := .pointer (some ⟨gs, 1, none⟩)) (rd_fieldAddr rfl foYb_146_1) rfl ?_
  refine Wx.rd (v := .int .i64 C) (rd_loadX hS 1 rfl rfl rfl Tryz.isAgg3) rfl ?_
  refine Wx.rd (v := .int .i64 (a - C)) (rd_sub rfl rfl (in_i64 (by omega) (by omega))) rfl ?_
  refine Wx.rd (v := .int .i64 a) (rd_loadX hS 0 rfl rfl rfl Tryz.isAgg3) rfl ?_
  refine Wx.rd (v := .int .i64 (a - 1)) (rd_sub rfl rfl (in_i64 (by omega) (by omega))) rfl ?_
  refine Wx.rd (v := .int .i64 a) (rd_loadX hS 0 rfl rfl rfl Tryz.isAgg3) rfl ?_
  refine Wx.rd (v := .int .i64 (a + 1)) (rd_add rfl rfl (in_i64 (by omega) (by omega))) rfl ?_
  refine Wx.rd (v := .int .i64 a) (rd_loadX hS 0 rfl rfl rfl Tryz.isAgg3) rfl ?_
  refine Wx.rd (v := .pointer (some ⟨gs, 1, none⟩)) (rd_fieldAddr rfl foYb_146_1) rfl ?_
  refine Wx.rd (v := .int .i64 C) (rd_loadX hS 1 rfl rfl rfl Tryz.isAgg3) rfl ?_
  refine Wx.rd (v := .int .i64 (a + C)) (rd_add rfl rfl (in_i64 (by omega) (by omega))) rfl ?_
  refine Wx.rd (v := .agg #[.int .i64 (a - C), .int .i64 (a - 1), .int .i64 (a + 1), .int .i64 (a + C)]) (rd_build (vs := [(0, .int .i64 (a - C)), (1, .int .i64 (a - 1)), (2, .int .i64 (a + 1)), (3, .int .i64 (a + C))]) rfl (by kernel_rfl)) rfl ?_
  refine Wx.rd (v := .int .i64 0) (rd_move rfl) rfl ?_
  refine Wx.nil ?_
  refine W.block ?_
  refine W.loop [4, 5, 19, 20, 21, 22, 23, 24, 25, 26, 27, 28, 29, 30, 31, 32, 33, 34, 35, 36, 37, 38, 39, 40, 41, 42, 43, 44, 45, 46, 47, 48, 49, 50, 51, 52, 53, 54, 55, 56, 57] (fun x : Int × (List Ob) => match x with | (k, obk) => [(19, .int .i64 k)]) (fun (x : Int × (List Ob)) w' => match x with | (k, obk) => St w0 O w' (.box gn 3 [.int .i64 a] :: .box gs 146 [.int .i64 R, .int .i64 C, hv] :: Ob.v (tSl (tI .i64)) H hv :: obk) ∧ 0 ≤ k ∧ k ≤ 4 ∧ Tl (nbP C H.length a k) obk) (fun x : Int × (List Ob) => match x with | (k, obk) => (4 - k).toNat) (0, ob) ⟨rfl, trivial⟩ ⟨hS, (by first | omega | simp), (by first | omega | simp), (hT)⟩ ?_
  rintro ⟨k, obk⟩ u_2 w_1 ⟨hS, h0, h1, h2⟩
  refine W.seq ?_
  refine W.reg ?_
  refine Wx.rd (v := .bool (decide (k < 4))) (rd_lss rfl rfl) rfl ?_
  refine Wx.nil ?_
  refine W.seq ?_
  refine W.condD rfl (fun c0 => ?_) (fun c0 => ?_)
  · -- yes
    refine W.skip ?_
    refine W.seq ?_
    refine W.block ?_
    refine W.seq ?_
    refine W.reg ?_
    refine Wx.rd (v := .int .i64 k) (rd_move rfl) rfl ?_
    refine Wx.rd (v := .int .i64 (ix 0 [a - C, a - 1, a + 1, a + C] k)) (rd_indexVi (d := (0 : Int)) (f := Value.int .i64) (xs := [a - C, a - 1, a + 1, a + C]) rfl rfl Tryz.underlying194 Tryz.sizeOf3 Tryz.isAgg3 rfl rfl (by omega) (by simp; omega)) rfl ?_
    refine Wx.rd (v := .int .i64 k) (rd_assign rfl) rfl ?_
    refine Wx.rd (v := .int .i64 (ix 0 [a - C, a - 1, a + 1, a + C] k)) (rd_assign rfl) rfl ?_
    refine Wx.nil ?_
    refine W.seq ?_
    refine W.seq ?_
    refine W.reg ?_
    refine Wx.rd (v := .int .i64 (ix 0 [a - C, a - 1, a + 1, a + C] k)) (rd_move rfl) rfl ?_
    refine Wx.rd (v := .bool (decide ((ix 0 [a - C, a - 1, a + 1, a + C] k) < 0))) (rd_lss rfl rfl) rfl ?_
    refine Wx.rd (v := .bool (decide ((ix 0 [a - C, a - 1, a + 1, a + C] k) < 0))) (rd_move rfl) rfl ?_
    refine Wx.cut (X := Unit) 5 [26, 27, 28, 29, 30] (fun _ => [(30, .bool (decide ((ix 0 [a - C, a - 1, a + 1, a + C] k) < 0) || decide ((H.length : Int) ≤ (ix 0 [a - C, a - 1, a + 1, a + C] k))))]) (fun _ w' => St w0 O w' (.box gn 3 [.int .i64 a] :: .box gs 146 [.int .i64 R, .int .i64 C, hv] :: Ob.v (tSl (tI .i64)) H hv :: obk)) ?_ ?_
    · rcases Bool.eq_false_or_eq_true (decide ((ix 0 [a - C, a - 1, a + 1, a + C] k) < 0)) with g_3 | g_3
      · -- True
        have gp_4 := of_decide_eq_true g_3
        refine Wx.gnoB rfl rfl (congrArg Value.bool g_3) rfl rfl ?_
        refine Wx.gnoB rfl rfl (congrArg Value.bool g_3) rfl rfl ?_
        refine Wx.gnoB rfl rfl (congrArg Value.bool g_3) rfl rfl ?_
        refine Wx.gnoB rfl rfl (congrArg Value.bool g_3) rfl rfl ?_
        refine Wx.rd (v := .bool true) (rd_pickT (congrArg Value.bool g_3) rfl) rfl ?_
        refine Wx.nil ⟨(), hS, ⟨?_, trivial⟩, Out.look rfl Out.refl⟩
        show Value.bool true = Value.bool (decide ((ix 0 [a - C, a - 1, a + 1, a + C] k) < 0) || decide ((H.length : Int) ≤ (ix 0 [a - C, a - 1, a + 1, a + C] k)))
        first | rw [g_3, Bool.true_or] | (rw [g_3]; rfl)
      · -- False
        have gp_5 := of_decide_eq_false g_3
        refine Wx.gyes rfl rfl (congrArg Value.bool g_3) ?_
        refine Wx.rd (v := .int .i64 (ix 0 [a - C, a - 1, a + 1, a + C] k)) (rd_move rfl) rfl ?_
        refine Wx.gyes rfl rfl (congrArg Value.bool g_3) ?_
        refine Wx.rd (v := .agg #[.int .i64 R, .int .i64 C, hv]) (rd_loadXs (ds := [.int .i64 R, .int .i64 C, hv]) hS 1 rfl rfl rfl rfl Tryz.isAgg146 Tryz.sizeOf146) rfl ?_
        refine Wx.gyes rfl rfl (congrArg Value.bool g_3) ?_
        refine Wx.callF (run_callF Tryz.call112 rfl) (F112 (in_i64 (by omega) (by omega)) (in_i64 (by omega) (by omega)) (hS.v 2 rfl)) rfl ?_
        rintro r_6 w_7 hx_8 rfl
        have hS := hS.ext hx_8
        refine Wx.gyes rfl rfl (congrArg Value.bool g_3) ?_
        refine Wx.rd (v := .bool (decide ((H.length : Int) ≤ (ix 0 [a - C, a - 1, a + 1, a + C] k)))) (rd_geq rfl rfl) rfl ?_
        refine Wx.rd (v := .bool (decide ((H.length : Int) ≤ (ix 0 [a - C, a - 1, a + 1, a + C] k)))) (rd_pickF (congrArg Value.bool g_3) rfl) rfl ?_
        refine Wx.nil ⟨(), hS, ⟨?_, trivial⟩, Out.look rfl Out.refl⟩
        show Value.bool (decide ((H.length : Int) ≤ (ix 0 [a - C, a - 1, a + 1, a + C] k))) = Value.bool (decide ((ix 0 [a - C, a - 1, a + 1, a + C] k) < 0) || decide ((H.length : Int) ≤ (ix 0 [a - C, a - 1, a + 1, a + C] k)))
        first | rw [g_3, Bool.false_or] | (rw [g_3]; rfl)
    rintro ⟨⟩ u_10 w_9 hS
    refine Wx.rd (v := .bool (decide ((ix 0 [a - C, a - 1, a + 1, a + C] k) < 0) || decide ((H.length : Int) ≤ (ix 0 [a - C, a - 1, a + 1, a + C] k)))) (rd_move rfl) rfl ?_
    refine Wx.cut (X := Unit) 10 [32, 33, 34, 35, 36, 37, 38, 39, 40, 41] (fun _ => [(41, .bool ((decide ((ix 0 [a - C, a - 1, a + 1, a + C] k) < 0) || decide ((H.length : Int) ≤ (ix 0 [a - C, a - 1, a + 1, a + C] k))) || (decide (k = 1) && decide ((a % C) = 0))))]) (fun _ w' => St w0 O w' (.box gn 3 [.int .i64 a] :: .box gs 146 [.int .i64 R, .int .i64 C, hv] :: Ob.v (tSl (tI .i64)) H hv :: obk)) ?_ ?_
    · rcases Bool.eq_false_or_eq_true (decide ((ix 0 [a - C, a - 1, a + 1, a + C] k) < 0) || decide ((H.length : Int) ≤ (ix 0 [a - C, a - 1, a + 1, a + C] k))) with g_11 | g_11
      · -- True
        have gp_12 := g_11
        try simp only [Bool.and_eq_true, Bool.or_eq_true, Bool.not_eq_true', Bool.and_eq_false_iff, Bool.or_eq_false_iff, Bool.not_eq_false', decide_eq_true_eq, decide_eq_false_iff_not, not_or, Bool.false_eq_true, Bool.true_eq_false, false_or, or_false, not_false_eq_true] at gp_12
        refine Wx.gnoB rfl rfl (congrArg Value.bool g_11) rfl rfl ?_
        refine Wx.gnoB rfl rfl (congrArg Value.bool g_11) rfl rfl ?_
        refine Wx.gnoB rfl rfl (congrArg Value.bool g_11) rfl rfl ?_
        refine Wx.gno rfl rfl rfl rfl ?_
        refine Wx.gno rfl rfl rfl rfl ?_
        refine Wx.gno rfl rfl rfl rfl ?_
        refine Wx.gno rfl rfl rfl rfl ?_
        refine Wx.gno rfl rfl rfl rfl ?_
        refine Wx.gnoB rfl rfl (congrArg Value.bool g_11) rfl rfl ?_
        refine Wx.rd (v := .bool true) (rd_pickT (congrArg Value.bool g_11) rfl) rfl ?_
        refine Wx.nil ⟨(), hS, ⟨?_, trivial⟩, Out.look rfl Out.refl⟩
        show Value.bool true = Value.bool ((decide ((ix 0 [a - C, a - 1, a + 1, a + C] k) < 0) || decide ((H.length : Int) ≤ (ix 0 [a - C, a - 1, a + 1, a + C] k))) || (decide (k = 1) && decide ((a % C) = 0)))
        first | rw [g_11, Bool.true_or] | (rw [g_11]; rfl)
      · -- False
        have gp_13 := g_11
        try simp only [Bool.and_eq_true, Bool.or_eq_true, Bool.not_eq_true', Bool.and_eq_false_iff, Bool.or_eq_false_iff, Bool.not_eq_false', decide_eq_true_eq, decide_eq_false_iff_not, not_or, Bool.false_eq_true, Bool.true_eq_false, false_or, or_false, not_false_eq_true] at gp_13
        refine Wx.gyes rfl rfl (congrArg Value.bool g_11) ?_
        refine Wx.rd (v := .int .i64 k) (rd_move rfl) rfl ?_
        refine Wx.gyes rfl rfl (congrArg Value.bool g_11) ?_
        refine Wx.rd (v := .bool (decide (k = 1))) (rd_eql rfl rfl) rfl ?_
        refine Wx.gyes rfl rfl (congrArg Value.bool g_11) ?_
        refine Wx.rd (v := .bool (decide (k = 1))) (rd_move rfl) rfl ?_
        refine Wx.cut (X := Unit) 6 [35, 36, 37, 38, 39, 40] (fun _ => [(40, .bool (decide (k = 1) && decide ((a % C) = 0)))]) (fun _ w' => St w0 O w' (.box gn 3 [.int .i64 a] :: .box gs 146 [.int .i64 R, .int .i64 C, hv] :: Ob.v (tSl (tI .i64)) H hv :: obk)) ?_ ?_
        · rcases Bool.eq_false_or_eq_true (decide (k = 1)) with g_14 | g_14
          · -- True
            have gp_15 := of_decide_eq_true g_14
            refine Wx.gyes rfl rfl (congrArg Value.bool g_14) ?_
            refine Wx.rd (v := .int .i64 a) (rd_loadX hS 0 rfl rfl rfl Tryz.isAgg3) rfl ?_
            refine Wx.gyes rfl rfl (congrArg Value.bool g_14) ?_
            refine Wx.rd (v := .pointer (some ⟨gs, 1, none⟩)) (rd_fieldAddr rfl foYb_146_1) rfl ?_
            refine Wx.gyes rfl rfl (congrArg Value.bool g_14) ?_
            refine Wx.rd (v := .int .i64 C) (rd_loadX hS 1 rfl rfl rfl Tryz.isAgg3) rfl ?_
            refine Wx.gyes rfl rfl (congrArg Value.bool g_14) ?_
            refine Wx.rd (v := .int .i64 (a % C)) (rd_rem rfl rfl (by omega) (by omega)) rfl ?_
            refine Wx.gyes rfl rfl (congrArg Value.bool g_14) ?_
            refine Wx.rd (v := .bool (decide ((a % C) = 0))) (rd_eql rfl rfl) rfl ?_
            refine Wx.gyes rfl rfl (congrArg Value.bool g_11) ?_
            refine Wx.rd (v := .bool (decide ((a % C) = 0))) (rd_pickT (congrArg Value.bool g_14) rfl) rfl ?_
            refine Wx.nil ⟨(), hS, ⟨?_, trivial⟩, Out.look rfl Out.refl⟩
            show Value.bool (decide ((a % C) = 0)) = Value.bool (decide (k = 1) && decide ((a % C) = 0))
            first | rw [g_14, Bool.true_and] | (rw [g_14]; rfl)
          · -- False
            have gp_16 := of_decide_eq_false g_14
            refine Wx.gnoB rfl rfl (congrArg Value.bool g_14) rfl rfl ?_
            refine Wx.gnoB rfl rfl (congrArg Value.bool g_14) rfl rfl ?_
            refine Wx.gnoB rfl rfl (congrArg Value.bool g_14) rfl rfl ?_
            refine Wx.gnoB rfl rfl (congrArg Value.bool g_14) rfl rfl ?_
            refine Wx.gnoB rfl rfl (congrArg Value.bool g_14) rfl rfl ?_
            refine Wx.gyes rfl rfl (congrArg Value.bool g_11) ?_
            refine Wx.rd (v := .bool false) (rd_pickF (congrArg Value.bool g_14) rfl) rfl ?_
            refine Wx.nil ⟨(), hS, ⟨?_, trivial⟩, Out.look rfl Out.refl⟩
            show Value.bool false = Value.bool (decide (k = 1) && decide ((a % C) = 0))
            first | rw [g_14, Bool.false_and] | (rw [g_14]; rfl)
        rintro ⟨⟩ u_18 w_17 hS
        refine Wx.rd (v := .bool (decide (k = 1) && decide ((a % C) = 0))) (rd_pickF (congrArg Value.bool g_11) rfl) rfl ?_
        refine Wx.nil ⟨(), hS, ⟨?_, trivial⟩, Out.look rfl (Out.hav rfl (Out.look rfl Out.refl))⟩
        show Value.bool (decide (k = 1) && decide ((a % C) = 0)) = Value.bool ((decide ((ix 0 [a - C, a - 1, a + 1, a + C] k) < 0) || decide ((H.length : Int) ≤ (ix 0 [a - C, a - 1, a + 1, a + C] k))) || (decide (k = 1) && decide ((a % C) = 0)))
        first | rw [g_11, Bool.false_or] | (rw [g_11]; rfl)
    rintro ⟨⟩ u_20 w_19 hS
    refine Wx.rd (v := .bool ((decide ((ix 0 [a - C, a - 1, a + 1, a + C] k) < 0) || decide ((H.length : Int) ≤ (ix 0 [a - C, a - 1, a + 1, a + C] k))) || (decide (k = 1) && decide ((a % C) = 0)))) (rd_move rfl) rfl ?_
    refine Wx.cut (X := Unit) 10 [43, 44, 45, 46, 47, 48, 49, 50, 51, 52] (fun _ => [(52, .bool (((decide ((ix 0 [a - C, a - 1, a + 1, a + C] k) < 0) || decide ((H.length : Int) ≤ (ix 0 [a - C, a - 1, a + 1, a + C] k))) || (decide (k = 1) && decide ((a % C) = 0))) || (decide (k = 2) && decide (((ix 0 [a - C, a - 1, a + 1, a + C] k) % C) = 0))))]) (fun _ w' => St w0 O w' (.box gn 3 [.int .i64 a] :: .box gs 146 [.int .i64 R, .int .i64 C, hv] :: Ob.v (tSl (tI .i64)) H hv :: obk)) ?_ ?_
    · rcases Bool.eq_false_or_eq_true ((decide ((ix 0 [a - C, a - 1, a + 1, a + C] k) < 0) || decide ((H.length : Int) ≤ (ix 0 [a - C, a - 1, a + 1, a + C] k))) || (decide (k = 1) && decide ((a % C) = 0))) with g_21 | g_21
      · -- True
        have gp_22 := g_21
        try simp only [Bool.and_eq_true, Bool.or_eq_true, Bool.not_eq_true', Bool.and_eq_false_iff, Bool.or_eq_false_iff, Bool.not_eq_false', decide_eq_true_eq, decide_eq_false_iff_not, not_or, Bool.false_eq_true, Bool.true_eq_false, false_or, or_false, not_false_eq_true] at gp_22
        refine Wx.gnoB rfl rfl (congrArg Value.bool g_21) rfl rfl ?_
        refine Wx.gnoB rfl rfl (congrArg Value.bool g_21) rfl rfl ?_
        refine Wx.gnoB rfl rfl (congrArg Value.bool g_21) rfl rfl ?_
        refine Wx.gno rfl rfl rfl rfl ?_
        refine Wx.gno rfl rfl rfl rfl ?_
        refine Wx.gno rfl rfl rfl rfl ?_
        refine Wx.gno rfl rfl rfl rfl ?_
        refine Wx.gno rfl rfl rfl rfl ?_
        refine Wx.gnoB rfl rfl (congrArg Value.bool g_21) rfl rfl ?_
        refine Wx.rd (v := .bool true) (rd_pickT (congrArg Value.bool g_21) rfl) rfl ?_
        refine Wx.nil ⟨(), hS, ⟨?_, trivial⟩, Out.look rfl Out.refl⟩
        show Value.bool true = Value.bool (((decide ((ix 0 [a - C, a - 1, a + 1, a + C] k) < 0) || decide ((H.length : Int) ≤ (ix 0 [a - C, a - 1, a + 1, a + C] k))) || (decide (k = 1) && decide ((a % C) = 0))) || (decide (k = 2) && decide (((ix 0 [a - C, a - 1, a + 1, a + C] k) % C) = 0)))
        first | rw [g_21, Bool.true_or] | (rw [g_21]; rfl)
      · -- False
        have gp_23 := g_21
        try simp only [Bool.and_eq_true, Bool.or_eq_true, Bool.not_eq_true', Bool.and_eq_false_iff, Bool.or_eq_false_iff, Bool.not_eq_false', decide_eq_true_eq, decide_eq_false_iff_not, not_or, Bool.false_eq_true, Bool.true_eq_false, false_or, or_false, not_false_eq_true] at gp_23
        refine Wx.gyes rfl rfl (congrArg Value.bool g_21) ?_
        refine Wx.rd (v := .int .i64 k) (rd_move rfl) rfl ?_
        refine Wx.gyes rfl rfl (congrArg Value.bool g_21) ?_
        refine Wx.rd (v := .bool (decide (k = 2))) (rd_eql rfl rfl) rfl ?_
        refine Wx.gyes rfl rfl (congrArg Value.bool g_21) ?_
        refine Wx.rd (v := .bool (decide (k = 2))) (rd_move rfl) rfl ?_
        refine Wx.cut (X := Unit) 6 [46, 47, 48, 49, 50, 51] (fun _ => [(51, .bool (decide (k = 2) && decide (((ix 0 [a - C, a - 1, a + 1, a + C] k) % C) = 0)))]) (fun _ w' => St w0 O w' (.box gn 3 [.int .i64 a] :: .box gs 146 [.int .i64 R, .int .i64 C, hv] :: Ob.v (tSl (tI .i64)) H hv :: obk)) ?_ ?_
        · rcases Bool.eq_false_or_eq_true (decide (k = 2)) with g_24 | g_24
          · -- True
            have gp_25 := of_decide_eq_true g_24
            refine Wx.gyes rfl rfl (congrArg Value.bool g_24) ?_
            refine Wx.rd (v := .int .i64 (ix 0 [a - C, a - 1, a + 1, a + C] k)) (rd_move rfl) rfl ?_
            refine Wx.gyes rfl rfl (congrArg Value.bool g_24) ?_
            refine Wx.rd (v := .pointer (some ⟨gs, 1, none⟩)) (rd_fieldAddr rfl foYb_146_1) rfl ?_
            refine Wx.gyes rfl rfl (congrArg Value.bool g_24) ?_
            refine Wx.rd (v := .int .i64 C) (rd_loadX hS 1 rfl rfl rfl Tryz.isAgg3) rfl ?_
            refine Wx.gyes rfl rfl (congrArg Value.bool g_24) ?_
            refine Wx.rd (v := .int .i64 ((ix 0 [a - C, a - 1, a + 1, a + C] k) % C)) (rd_rem rfl rfl (by omega) (by omega)) rfl ?_
            refine Wx.gyes rfl rfl (congrArg Value.bool g_24) ?_
            refine Wx.rd (v := .bool (decide (((ix 0 [a - C, a - 1, a + 1, a + C] k) % C) = 0))) (rd_eql rfl rfl) rfl ?_
            refine Wx.gyes rfl rfl (congrArg Value.bool g_21) ?_
            refine Wx.rd (v := .bool (decide (((ix 0 [a - C, a - 1, a + 1, a + C] k) % C) = 0))) (rd_pickT (congrArg Value.bool g_24) rfl) rfl ?_
            refine Wx.nil ⟨(), hS, ⟨?_, trivial⟩, Out.look rfl Out.refl⟩
            show Value.bool (decide (((ix 0 [a - C, a - 1, a + 1, a + C] k) % C) = 0)) = Value.bool (decide (k = 2) && decide (((ix 0 [a - C, a - 1, a + 1, a + C] k) % C) = 0))
            first | rw [g_24, Bool.true_and] | (rw [g_24]; rfl)
          · -- False
            have gp_26 := of_decide_eq_false g_24
            refine Wx.gnoB rfl rfl (congrArg Value.bool g_24) rfl rfl ?_
            refine Wx.gnoB rfl rfl (congrArg Value.bool g_24) rfl rfl ?_
            refine Wx.gnoB rfl rfl (congrArg Value.bool g_24) rfl rfl ?_
            refine Wx.gnoB rfl rfl (congrArg Value.bool g_24) rfl rfl ?_
            refine Wx.gnoB rfl rfl (congrArg Value.bool g_24) rfl rfl ?_
            refine Wx.gyes rfl rfl (congrArg Value.bool g_21) ?_
            refine Wx.rd (v := .bool false) (rd_pickF (congrArg Value.bool g_24) rfl) rfl ?_
            refine Wx.nil ⟨(), hS, ⟨?_, trivial⟩, Out.look rfl Out.refl⟩
            show Value.bool false = Value.bool (decide (k = 2) && decide (((ix 0 [a - C, a - 1, a + 1, a + C] k) % C) = 0))
            first | rw [g_24, Bool.false_and] | (rw [g_24]; rfl)
        rintro ⟨⟩ u_28 w_27 hS
        refine Wx.rd (v := .bool (decide (k = 2) && decide (((ix 0 [a - C, a - 1, a + 1, a + C] k) % C) = 0))) (rd_pickF (congrArg Value.bool g_21) rfl) rfl ?_
        refine Wx.nil ⟨(), hS, ⟨?_, trivial⟩, Out.look rfl (Out.hav rfl (Out.look rfl Out.refl))⟩
        show Value.bool (decide (k = 2) && decide (((ix 0 [a - C, a - 1, a + 1, a + C] k) % C) = 0)) = Value.bool (((decide ((ix 0 [a - C, a - 1, a + 1, a + C] k) < 0) || decide ((H.length : Int) ≤ (ix 0 [a - C, a - 1, a + 1, a + C] k))) || (decide (k = 1) && decide ((a % C) = 0))) || (decide (k = 2) && decide (((ix 0 [a - C, a - 1, a + 1, a + C] k) % C) = 0)))
        first | rw [g_21, Bool.false_or] | (rw [g_21]; rfl)
    rintro ⟨⟩ u_30 w_29 hS
    refine Wx.nil ?_
    refine W.cond rfl (fun c1 => ?_) (fun c1 => ?_)
    · -- yes
      try simp only [Bool.and_eq_true, Bool.or_eq_true, Bool.not_eq_true', Bool.and_eq_false_iff, Bool.or_eq_false_iff, Bool.not_eq_false', decide_eq_true_eq, decide_eq_false_iff_not, not_or, Bool.false_eq_true, Bool.true_eq_false, false_or, or_false, not_false_eq_true] at c1
      refine W.exit rfl ?_
      refine W.reg ?_
      refine Wx.rd (v := .int .i64 (k + 1)) (rd_add rfl rfl (in_i64 (by omega) (by omega))) rfl ?_
      refine Wx.rd (v := .int .i64 (k + 1)) (rd_move rfl) rfl ?_
      refine Wx.nil ?_
      refine ⟨(k + 1, obk), (by show (4 - (k + 1)).toNat < (4 - k).toNat; omega), ?_, ?_, Out.look rfl (Out.hav rfl (Out.look rfl (Out.hav rfl (Out.look rfl (Out.hav rfl (Out.look rfl Out.self))))))⟩
      · exact ⟨hS, (by first | omega | assumption), (by first | omega | assumption), (by rw [nb_skip h0 (outB_iff.2 (by omega))]; exact h2)⟩
      · exact ⟨rfl, trivial⟩
    · -- no
      try simp only [Bool.and_eq_true, Bool.or_eq_true, Bool.not_eq_true', Bool.and_eq_false_iff, Bool.or_eq_false_iff, Bool.not_eq_false', decide_eq_true_eq, decide_eq_false_iff_not, not_or, Bool.false_eq_true, Bool.true_eq_false, false_or, or_false, not_false_eq_true] at c1
      have hout : outB C H.length a k = false := outB_no (by omega)
      have hpy := nb_pre c1_ h0 c0 hout
      refine W.skip ?_
      refine W.seq ?_
      refine W.regYi 2 rfl rfl ?_
      refine Wx.rd (v := (.func (.yield l) #[] #[])) (rd_move rfl) rfl ?_
      refine Wx.rd (v := .int .i64 (ix 0 [a - C, a - 1, a + 1, a + C] k)) (rd_move rfl) rfl ?_
      refine Wx.nil ⟨_, _, rfl, rfl, ?_⟩
      refine YieldR.mono (hE _ _ [.box gn 3 [.int .i64 a], .box gs 146 [.int .i64 R, .int .i64 C, hv], Ob.v (tSl (tI .i64)) H hv] obk _ hpy h2 (St.swap (a := [.box gn 3 [.int .i64 a], .box gs 146 [.int .i64 R, .int .i64 C, hv], Ob.v (tSl (tI .i64)) H hv]) (b := obk) hS)) ?_
      rintro bqy w_31 ⟨oby, hyy, hxy, hS⟩
      have hS : St w0 O w_31 (.box gn 3 [.int .i64 a] :: .box gs 146 [.int .i64 R, .int .i64 C, hv] :: Ob.v (tSl (tI .i64)) H hv :: oby) := St.swap (a := oby) (b := [.box gn 3 [.int .i64 a], .box gs 146 [.int .i64 R, .int .i64 C, hv], Ob.v (tSl (tI .i64)) H hv]) hS
      refine Wx.rd (v := .bool (!bqy)) (rd_not rfl) rfl ?_
      refine Wx.nil ?_
      refine W.cond rfl (fun c2 => ?_) (fun c2 => ?_)
      · -- yes
        try simp only [Bool.and_eq_true, Bool.or_eq_true, Bool.not_eq_true', Bool.and_eq_false_iff, Bool.or_eq_false_iff, Bool.not_eq_false', decide_eq_true_eq, decide_eq_false_iff_not, not_or, Bool.false_eq_true, Bool.true_eq_false, false_or, or_false, not_false_eq_true] at c2
        exact W.ret ⟨.tuple #[], ResIs.zero, _, .inr ⟨_, hpy, hxy (by cases hq : bqy with | false => rfl | true => rw [hq] at c2; cases c2)⟩, hS⟩
      · -- no
        try simp only [Bool.and_eq_true, Bool.or_eq_true, Bool.not_eq_true', Bool.and_eq_false_iff, Bool.or_eq_false_iff, Bool.not_eq_false', decide_eq_true_eq, decide_eq_false_iff_not, not_or, Bool.false_eq_true, Bool.true_eq_false, false_or, or_false, not_false_eq_true] at c2
        refine W.skip ?_
        refine W.reg ?_
        refine Wx.rd (v := .int .i64 (k + 1)) (rd_add rfl rfl (in_i64 (by omega) (by omega))) rfl ?_
        refine Wx.rd (v := .int .i64 (k + 1)) (rd_move rfl) rfl ?_
        refine Wx.nil ?_
        refine ⟨(k + 1, oby), (by show (4 - (k + 1)).toNat < (4 - k).toNat; omega), ?_, ?_, Out.look rfl (Out.look rfl (Out.hav rfl (Out.look rfl (Out.hav rfl (Out.look rfl (Out.hav rfl (Out.look rfl Out.self)))))))⟩
        · exact ⟨hS, (by first | omega | assumption), (by first | omega | assumption), (by rw [nb_take h0 hout]; exact hyy (by cases hq : bqy with | true => rfl | false => rw [hq] at c2; cases c2))⟩
        · exact ⟨rfl, trivial⟩
  · -- no
    refine W.exit rfl ?_
    refine W.seq ?_
    refine W.regQ mixedYb_ (by kernel_rfl) ?_
    refine Wx.rd (v := .int .i64 a) (rd_loadX hS 0 rfl rfl rfl Tryz.isAgg3) rfl ?_
    refine Wx.rd (v := .agg #[.int .i64 R, .int .i64 C, hv]) (rd_loadXs (ds := [.int .i64 R, .int .i64 C, hv]) hS 1 rfl rfl rfl rfl Tryz.isAgg146 Tryz.sizeOf146) rfl ?_
    refine Wx.callV (v := .int .i64 (H.length : Int)) (run_callF Tryz.call112 rfl) (fun w_32 hw_33 => (F112 (in_i64 (by omega) (by omega)) (in_i64 (by omega) (by omega)) ((hS.v 2 rfl).ext hw_33))) rfl ?_
    refine Wx.rd (v := .pointer (some ⟨gs, 1, none⟩)) (rd_fieldAddr rfl foYb_146_1) rfl ?_
    refine Wx.rd (v := .int .i64 C) (rd_loadX hS 1 rfl rfl rfl Tryz.isAgg3) rfl ?_
    refine Wx.rd (v := .int .i64 ((H.length : Int) - C)) (rd_sub rfl rfl (in_i64 (by omega) (by omega))) rfl ?_
    refine Wx.rd (v := .bool (decide (((H.length : Int) - C) ≤ a))) (rd_geq rfl rfl) rfl ?_
    refine Wx.nilQ (fun w_34 hx_35 => ?_)
    have hS := hS.ext hx_35
    refine W.condD rfl (fun c3 => ?_) (fun c3 => ?_)
    · -- yes
      have hpz : (nbP C H.length a k ++ [(H.length : Int)]) <+: nbW C H.length a := by rw [nb_river c1_ (by omega), show k = 4 by omega]; exact List.prefix_refl _
      refine W.regYi 3 rfl rfl ?_
      refine Wx.rd (v := (.func (.yield l) #[] #[])) (rd_move rfl) rfl ?_
      refine Wx.rd (v := .agg #[.int .i64 R, .int .i64 C, hv]) (rd_loadXs (ds := [.int .i64 R, .int .i64 C, hv]) hS 1 rfl rfl rfl rfl Tryz.isAgg146 Tryz.sizeOf146) rfl ?_
      refine Wx.callF (run_callF Tryz.call112 rfl) (F112 (in_i64 (by omega) (by omega)) (in_i64 (by omega) (by omega)) (hS.v 2 rfl)) rfl ?_
      rintro r_36 w_37 hx_38 rfl
      have hS := hS.ext hx_38
      refine Wx.nil ⟨_, _, rfl, rfl, ?_⟩
      refine YieldR.mono (hE _ _ [.box gn 3 [.int .i64 a], .box gs 146 [.int .i64 R, .int .i64 C, hv], Ob.v (tSl (tI .i64)) H hv] obk _ hpz h2 (St.swap (a := [.box gn 3 [.int .i64 a], .box gs 146 [.int .i64 R, .int .i64 C, hv], Ob.v (tSl (tI .i64)) H hv]) (b := obk) hS)) ?_
      rintro bqz w_39 ⟨obz, hyz, hxz, hS⟩
      have hS : St w0 O w_39 (.box gn 3 [.int .i64 a] :: .box gs 146 [.int .i64 R, .int .i64 C, hv] :: Ob.v (tSl (tI .i64)) H hv :: obz) := St.swap (a := obz) (b := [.box gn 3 [.int .i64 a], .box gs 146 [.int .i64 R, .int .i64 C, hv], Ob.v (tSl (tI .i64)) H hv]) hS
      refine Wx.nil ?_
      exact ⟨.tuple #[], ResIs.zero, _, (by cases hq : bqz with | true => exact .inl (by rw [nb_river c1_ (by omega), ← show k = 4 by omega]; exact hyz hq) | false => exact .inr ⟨_, hpz, hxz hq⟩), hS⟩
    · -- no
      refine W.skip ?_
      exact ⟨.tuple #[], ResIs.zero, _, .inl (by rw [nb_dry c1_ (by omega), ← show k = 4 by omega]; exact h2), hS⟩

theorem iter85 {R C a : Int} {H : List Int} {hv : Value} {gn gs : Nat} {w0 : World} {O : List (Option Nat)} (p_ok : SOK R C H) (p_a : 0 ≤ a ∧ a < (H.length : Int)) : Iter Tryz.prog 135 [(.pointer (some ⟨gn, 0, none⟩)), (.pointer (some ⟨gs, 0, none⟩))] [.box gn 3 [.int .i64 a], .box gs 146 [.int .i64 R, .int .i64 C, hv], Ob.v (tSl (tI .i64)) H hv] (nbW C H.length a) w0 O :=
  fun l Tl Tx ob w hE hT hS => F135 p_ok p_a hE hT hS


theorem F124 {R C a : Int} {H : List Int} {hv : Value} {ob : List Ob} {w0 w : World} {O : List (Option Nat)} (hS : St w0 O w ob) (h_hv : V (tSl tInt) H hv (fb ob O) w) : Calls Tryz.prog 124 #[.agg #[.int .i64 R, .int .i64 C, hv], .int .i64 a] w (Bk fun r w' => ∃ gn gs, r = .func (.func 135) #[] #[(.pointer (some ⟨gn, 0, none⟩)), (.pointer (some ⟨gs, 0, none⟩))] ∧ St w0 O w' (.box gn 3 [.int .i64 a] :: .box gs 146 [.int .i64 R, .int .i64 C, hv] :: ob)) := by
  refine enterB Tryz.func124 rfl Tryz.ntmps124 Tryz.results124 rfl ?_
  refine W.seq ?_
  refine W.reg ?_
  refine Wx.box (cs := [.int .i64 R, .int .i64 C, hv]) hS rfl rfl rfl (fun g_1 w_2 hx_4 hb_3 hS => ?_)
  refine Wx.box (cs := [.int .i64 a]) hS rfl rfl rfl (fun g_5 w_6 hx_8 hb_7 hS => ?_)
  refine Wx.rd (v := .nilFunc) (rd_assign rfl) rfl ?_
  refine Wx.nil ?_
  refine W.seq ?_
  refine W.reg ?_
  refine Wx.rd (v := .func (.func 135) #[] #[.pointer (some ⟨g_5, 0, none⟩), .pointer (some ⟨g_1, 0, none⟩)]) (rd_makeFunc (vs := []) (us := [.pointer (some ⟨g_5, 0, none⟩), .pointer (some ⟨g_1, 0, none⟩)]) rfl rfl) rfl ?_
  refine Wx.rd (v := .func (.func 135) #[] #[.pointer (some ⟨g_5, 0, none⟩), .pointer (some ⟨g_1, 0, none⟩)]) (rd_assign rfl) rfl ?_
  refine Wx.nil ?_
  exact W.ret ⟨.func (.func 135) #[] #[.pointer (some ⟨g_5, 0, none⟩), .pointer (some ⟨g_1, 0, none⟩)], ResIs.one, _, _, rfl, hS⟩
end Go.Proofs.YtlibemgaepkceaaGreatDoor

namespace Go.Proofs.YtlibemgaepkceaaGreatDoor
open Go.Wk Go.RowKit Go.Lib
set_option linter.unusedVariables false
set_option linter.unusedSimpArgs false
theorem elYc_182 : ElemI Tryz.prog 182 4 (.bool false) 1 1 := ElemI.of Tryz.underlying182 (by kernel_rfl) (by first | rfl | kernel_rfl) (by decide)
theorem mixedYc_ : Tryz.prog.follows .mixedOrders = true := by kernel_rfl
theorem foYc_146_1 : fldOff Tryz.prog 146 1 = some 1 := by kernel_rfl
theorem foYc_146_2 : fldOff Tryz.prog 146 2 = some 2 := by kernel_rfl

set_option maxHeartbeats 4000000 in
theorem F111z {R : Int} {C : Int} {hv : Value} {H : List Int} {O : List (Option Nat)} {w : World} (i_R : InK .i64 R) (i_C : InK .i64 C) (h_hv : V (tSl (tI .i64)) H hv O w) (p_ok : SOK R C H) (hO : ∀ b, some b ∈ O → b < w.heap.size) : Calls Tryz.prog 111 #[.agg #[.int .i64 R, .int .i64 C, hv]] w (Ret w (fun r _ => ∃ ys : List Int, ((ys.length = 37 ∧ ∀ x, 0 ≤ x → x < (H.length : Int) → ix 0 ys x = sillV C H x) ∧ ZT H.length ys) ∧ r = .agg (List.map (Value.int .i64) ys).toArray)) := by
  have b_C := bd_i64 i_C
  have b_R := bd_i64 i_R
  obtain ⟨⟨r1, r2⟩, ⟨c1_, c2_⟩, hRC, ⟨n1, n36⟩, hCn, hok⟩ := id p_ok
  have a_hv := h_hv
  have l_hv := h_hv.len63
  have hS := St.start w O hO
  have hS : St w O w (DOb []) := hS
  refine enterMR (O := O) Tryz.func111 rfl Tryz.ntmps111 Tryz.results111 rfl ?_
  refine WD.seq ?_
  refine WD.ofW ?_
  refine W.reg ?_
  refine Wx.box (cs := [.int .i64 R, .int .i64 C, hv]) hS rfl rfl rfl (fun g_1 w_2 hx_4 hb_3 hS => ?_)
  refine Wx.alloc (cs := List.map (Value.int .i64) (List.replicate 37 (0 : Int))) hS Tryz.zeroValue166 (by kernel_rfl) rfl (fun g_5 w_6 hx_8 hb_7 hS => ?_)
  have hS : St _ _ w_6 (.box g_5 166 (List.map (Value.int .i64) (List.replicate 37 (0 : Int))) :: .box g_1 146 [.int .i64 R, .int .i64 C, hv] :: DOb []) := hS
  refine Wx.nil ?_
  refine WD.seq ?_
  refine WD.ofW ?_
  refine W.reg ?_
  refine Wx.alloc (cs := List.map (Value.int .i64) (List.replicate 37 (0 : Int))) hS Tryz.zeroValue166 (by kernel_rfl) rfl (fun g_9 w_10 hx_12 hb_11 hS => ?_)
  have hS : St _ _ w_10 (.box g_9 166 (List.map (Value.int .i64) (List.replicate 37 (0 : Int))) :: .box g_5 166 (List.map (Value.int .i64) (List.replicate 37 (0 : Int))) :: .box g_1 146 [.int .i64 R, .int .i64 C, hv] :: DOb []) := hS
  refine Wx.nil ?_
  refine WD.seq ?_
  refine WD.ofW ?_
  refine W.reg ?_
  refine Wx.rd (v := .agg #[.int .i64 R, .int .i64 C, hv]) (rd_loadXs (ds := [.int .i64 R, .int .i64 C, hv]) hS 2 rfl rfl rfl rfl Tryz.isAgg146 Tryz.sizeOf146) rfl ?_
  refine Wx.callF (run_callF Tryz.call112 rfl) (F112 i_R i_C (hS.arg a_hv)) rfl ?_
  rintro r_13 w_14 hx_15 rfl
  have hS := hS.ext hx_15
  refine Wx.make (t := tBool) (zy := false) (m := H.length) elYc_182 rfl rfl (fun _ _ => rfl) hS (congrArg (Value.int .i64) rfl) (congrArg (Value.int .i64) rfl) (by omega) (by simp only [maxLen]; omega) rfl (fun v_16 w_17 hx_18 hS => ?_)
  refine Wx.rd (v := v_16) (rd_assign rfl) rfl ?_
  refine Wx.nil ?_
  refine WD.seq ?_
  refine WD.ofW ?_
  refine W.seq ?_
  refine W.reg ?_
  refine Wx.rd (v := v_16) (rd_move rfl) rfl ?_
  refine Wx.rd (v := .int .i64 (H.length : Int)) (Rd.to (v := .int .i64 ((List.replicate H.length false).length : Int)) (rd_lenR hS 0 rfl rfl Tryz.underlying182) (congrArg (Value.int .i64) (show ((H.length : Int) : Int) = (((List.replicate H.length false).length : Int) : Int) from (by simp)).symm)) rfl ?_
  refine Wx.rd (v := .int .i64 0) (rd_move rfl) rfl ?_
  refine Wx.nil ?_
  refine W.block ?_
  refine W.loop [5, 15, 16, 17, 18, 19, 20, 21, 22, 23, 24, 25, 26, 27, 28, 29, 30, 31, 32, 33, 34] (fun x : Int × (List Bool) × (List Int) => match x with | (k, dn0, y1) => [(15, .int .i64 k)]) (fun (x : Int × (List Bool) × (List Int)) w' => match x with | (k, dn0, y1) => St w O w' (.row tBool 4 v_16 dn0 :: .box g_9 166 (List.map (Value.int .i64) y1) :: .box g_5 166 (List.map (Value.int .i64) (List.replicate 37 (0 : Int))) :: .box g_1 146 [.int .i64 R, .int .i64 C, hv] :: DOb []) ∧ 0 ≤ k ∧ k ≤ H.length ∧ IniI C H k y1 ∧ y1.length = 37 ∧ (dn0.length : Int) = H.length ∧ (∀ x, DB dn0 x = false) ∧ ZT H.length y1) (fun x : Int × (List Bool) × (List Int) => match x with | (k, dn0, y1) => (H.length - k).toNat) (0, List.replicate H.length false, (List.replicate 37 (0 : Int))) ⟨rfl, trivial⟩ ⟨hS, (by first | omega | simp), (by omega), (fun x x0 x1 => by omega), (by simp), (by simp), (fun x => db_zero), (zt_zero)⟩ ?_
  rintro ⟨k, dn0, y1⟩ u_22 w_21 ⟨hS, h0, h1, h2, h3, h4, h5, h6⟩
  refine W.seq ?_
  refine W.reg ?_
  refine Wx.rd (v := .bool (decide (k < (H.length : Int)))) (rd_lss rfl rfl) rfl ?_
  refine Wx.nil ?_
  refine W.seq ?_
  refine W.condD rfl (fun c0 => ?_) (fun c0 => ?_)
  · -- yes
    refine W.skip ?_
    refine W.seq ?_
    refine W.block ?_
    refine W.seq ?_
    refine W.reg ?_
    refine Wx.rd (v := .int .i64 k) (rd_move rfl) rfl ?_
    refine Wx.rd (v := .int .i64 k) (rd_assign rfl) rfl ?_
    refine Wx.nil ?_
    refine W.seq ?_
    refine W.reg ?_
    refine Wx.rd (v := .int .i64 k) (rd_move rfl) rfl ?_
    refine Wx.rd (v := .pointer (some ⟨g_9, 0 + k.toNat * 1, none⟩)) (rd_indexArr rfl rfl Tryz.underlying166 Tryz.sizeOf3 (by omega) (by omega)) rfl ?_
    refine Wx.storeXa (j := k) (f := (Value.int .i64)) (u := 31) hS 1 rfl rfl (by omega) rfl rfl rfl Tryz.sizeOf3 (by omega) (by omega) (fun w_23 hz_24 hS => ?_)
    refine Wx.nil ?_
    refine W.seq ?_
    refine W.regQ mixedYc_ (by kernel_rfl) ?_
    refine Wx.rd (v := .int .i64 k) (rd_move rfl) rfl ?_
    refine Wx.rd (v := .agg #[.int .i64 R, .int .i64 C, hv]) (rd_loadXs (ds := [.int .i64 R, .int .i64 C, hv]) hS 3 rfl rfl rfl rfl Tryz.isAgg146 Tryz.sizeOf146) rfl ?_
    refine Wx.callV (v := .int .i64 (H.length : Int)) (run_callF Tryz.call112 rfl) (fun w_25 hw_26 => (F112 i_R i_C ((hS.arg a_hv).ext hw_26))) rfl ?_
    refine Wx.rd (v := .pointer (some ⟨g_1, 1, none⟩)) (rd_fieldAddr rfl foYc_146_1) rfl ?_
    refine Wx.rd (v := .int .i64 C) (rd_loadX hS 3 rfl rfl rfl Tryz.isAgg3) rfl ?_
    refine Wx.rd (v := .int .i64 ((H.length : Int) - C)) (rd_sub rfl rfl (in_i64 (by omega) (by omega))) rfl ?_
    refine Wx.rd (v := .bool (decide (((H.length : Int) - C) ≤ k))) (rd_geq rfl rfl) rfl ?_
    refine Wx.nilQ (fun w_27 hx_28 => ?_)
    have hS := hS.ext hx_28
    refine W.condD rfl (fun c1 => ?_) (fun c1 => ?_)
    · -- yes
      refine W.reg ?_
      refine Wx.rd (v := .int .i64 k) (rd_move rfl) rfl ?_
      refine Wx.rd (v := .pointer (some ⟨g_1, 2, none⟩)) (rd_fieldAddr rfl foYc_146_2) rfl ?_
      refine Wx.rd (v := hv) (rd_loadX hS 3 rfl rfl rfl Tryz.isAgg25) rfl ?_
      refine Wx.rd (v := .int .i64 k) (rd_move rfl) rfl ?_
      refine Wx.ex (rd_index 0 (hS.arg a_hv) rfl rfl Tryz.underlying25 Tryz.sizeOf3 (by first | omega | (simp only [List.length_set, List.length_append, List.length_cons, List.length_nil, List.length_replicate]; omega)) (by first | omega | (simp only [List.length_set, List.length_append, List.length_cons, List.length_nil, List.length_replicate]; omega))) rfl (fun p_29 hp_30 => ?_)
      refine Wx.rd (v := .int .i64 (ix 0 H k)) (rd_loadI hp_30 rfl Tryz.isAgg3 Tryz.sizeOf3) rfl ?_
      have bd_31 := bd_i64 hp_30.inK
      refine Wx.rd (v := .pointer (some ⟨g_9, 0 + k.toNat * 1, none⟩)) (rd_indexArr rfl rfl Tryz.underlying166 Tryz.sizeOf3 (by omega) (by omega)) rfl ?_
      refine Wx.storeXa (j := k) (f := (Value.int .i64)) (u := (ix 0 H k)) hS 1 rfl rfl (by omega) rfl rfl rfl Tryz.sizeOf3 (by omega) (by simp only [List.length_set]; omega) (fun w_32 hz_33 hS => ?_)
      refine Wx.nil ?_
      refine W.reg ?_
      refine Wx.rd (v := .int .i64 (k + 1)) (rd_add rfl rfl (in_i64 (by omega) (by omega))) rfl ?_
      refine Wx.rd (v := .int .i64 (k + 1)) (rd_move rfl) rfl ?_
      refine Wx.nil ?_
      refine ⟨(k + 1, dn0, List.set (List.set y1 k.toNat 31) k.toNat (ix 0 H k)), (by show (H.length - (k + 1)).toNat < (H.length - k).toNat; omega), ?_, ?_, Out.look rfl Out.self⟩
      · exact ⟨hS, (by first | omega | assumption), (by first | omega | assumption), (ini_step2 h2 h0 (by omega) (by rw [iniV, if_pos (show lastB C H k = true from decide_eq_true (by omega))])), (by simp only [List.length_set]; exact h3), (by first | omega | assumption), (by first | omega | assumption), (zt_set (zt_set h6 h0 (by omega)) h0 (by omega))⟩
      · exact ⟨rfl, trivial⟩
    · -- no
      refine W.skip ?_
      refine W.reg ?_
      refine Wx.rd (v := .int .i64 (k + 1)) (rd_add rfl rfl (in_i64 (by omega) (by omega))) rfl ?_
      refine Wx.rd (v := .int .i64 (k + 1)) (rd_move rfl) rfl ?_
      refine Wx.nil ?_
      refine ⟨(k + 1, dn0, List.set y1 k.toNat 31), (by show (H.length - (k + 1)).toNat < (H.length - k).toNat; omega), ?_, ?_, Out.look rfl Out.self⟩
      · exact ⟨hS, (by first | omega | assumption), (by first | omega | assumption), (ini_step h2 h0 (by omega) (by rw [iniV, if_neg (show ¬ lastB C H k = true from fun q => by have := of_decide_eq_true q; omega)])), (by simp only [List.length_set]; exact h3), (by first | omega | assumption), (by first | omega | assumption), (zt_set h6 h0 (by omega))⟩
      · exact ⟨rfl, trivial⟩
  · -- no
    refine W.exit rfl ?_
    refine WD.seq ?_
    refine WD.seq ?_
    refine WD.ofW ?_
    refine W.reg ?_
    refine Wx.rd (v := v_16) (rd_move rfl) rfl ?_
    refine Wx.rd (v := .int .i64 (H.length : Int)) (Rd.to (v := .int .i64 (dn0.length : Int)) (rd_lenR hS 0 rfl rfl Tryz.underlying182) (congrArg (Value.int .i64) (show ((H.length : Int) : Int) = ((dn0.length : Int) : Int) from h4.symm).symm)) rfl ?_
    refine Wx.rd (v := .int .i64 0) (rd_move rfl) rfl ?_
    refine Wx.nil ?_
    refine WD.block ?_
    refine WD.loop [6, 7, 8, 37, 38, 39, 40, 41, 42, 43, 44, 45, 46, 47, 48, 49, 50, 51, 52, 53, 54, 55, 56, 57, 58, 59, 60, 61, 62, 63, 64, 65, 66, 67, 68, 89] (fun x : Int × (List Bool) × (List Int) × (List Nat) => match x with | (i, dn, y2, Ds) => [(37, .int .i64 i)]) (fun (x : Int × (List Bool) × (List Int) × (List Nat)) w' => match x with | (i, dn, y2, Ds) => St w O w' (.row tBool 4 v_16 dn :: .box g_9 166 (List.map (Value.int .i64) y2) :: .box g_5 166 (List.map (Value.int .i64) (List.replicate 37 (0 : Int))) :: .box g_1 146 [.int .i64 R, .int .i64 C, hv] :: DOb Ds) ∧ 0 ≤ i ∧ i ≤ H.length ∧ DjI C H (DB dn) (ix 0 y2) ∧ y2.length = 37 ∧ (dn.length : Int) = H.length ∧ (cntD H dn : Int) = i ∧ ZT H.length y2) (fun x : Int × (List Bool) × (List Int) × (List Nat) => match x with | (i, dn, y2, Ds) => (H.length - i).toNat) (fun x : Int × (List Bool) × (List Int) × (List Nat) => match x with | (i, dn, y2, Ds) => Ds) (0, dn0, y1, []) ⟨rfl, trivial⟩ rfl ⟨hS, (by first | omega | simp), (by omega), (dj_ini hok (by rw [show (H.length : Int) = k by omega]; exact h2) h5), (h3), (h4), (by rw [cnt_zero h5]; rfl), (h6)⟩ ?_
    rintro ⟨i, dn, y2, Ds⟩ u_35 w_34 ⟨hS, i0, i1, i2, i3, i4, i5, i6⟩
    refine WD.seq ?_
    refine WD.ofW ?_
    refine W.reg ?_
    refine Wx.rd (v := .bool (decide (i < (H.length : Int)))) (rd_lss rfl rfl) rfl ?_
    refine Wx.nil ?_
    refine WD.seq ?_
    refine WD.ofW ?_
    refine W.condD rfl (fun c2 => ?_) (fun c2 => ?_)
    · -- yes
      refine W.skip ?_
      refine WD.seq ?_
      refine WD.block ?_
      refine WD.seq ?_
      refine WD.ofW ?_
      refine W.reg ?_
      refine Wx.alloc (cs := [.int .i64 0]) hS Tryz.zeroValue3 rfl rfl (fun g_36 w_37 hx_39 hb_38 hS => ?_)
      refine Wx.storeX (cs' := [.int .i64 (-1)]) (ds := [.int .i64 (-1)]) hS 0 rfl rfl rfl rfl Tryz.sizeOf3 (Nat.le_of_ble_eq_true rfl) (one_cons rfl one_nil) rfl (fun w_40 hz_41 hS => ?_)
      refine Wx.nil ?_
      refine WD.seq ?_
      refine WD.ofW ?_
      refine W.seq ?_
      refine W.reg ?_
      refine Wx.rd (v := v_16) (rd_move rfl) rfl ?_
      refine Wx.rd (v := .int .i64 (H.length : Int)) (Rd.to (v := .int .i64 (dn.length : Int)) (rd_lenR hS 1 rfl rfl Tryz.underlying182) (congrArg (Value.int .i64) (show ((H.length : Int) : Int) = ((dn.length : Int) : Int) from i4.symm).symm)) rfl ?_
      refine Wx.rd (v := .int .i64 0) (rd_move rfl) rfl ?_
      refine Wx.nil ?_
      refine W.block ?_
      refine W.loop [7, 8, 41, 42, 43, 44, 45, 46, 47, 48, 49, 50, 51, 52, 53, 54, 55, 56, 57, 58, 59, 60, 61, 62] (fun x : Int × Int => match x with | (k, nx) => [(41, .int .i64 k)]) (fun (x : Int × Int) w' => match x with | (k, nx) => St w O w' (.box g_36 3 [.int .i64 nx] :: .row tBool 4 v_16 dn :: .box g_9 166 (List.map (Value.int .i64) y2) :: .box g_5 166 (List.map (Value.int .i64) (List.replicate 37 (0 : Int))) :: .box g_1 146 [.int .i64 R, .int .i64 C, hv] :: DOb Ds) ∧ 0 ≤ k ∧ k ≤ H.length ∧ NxI dn y2 k nx ∧ nx < 37 ∧ -1 ≤ nx) (fun x : Int × Int => match x with | (k, nx) => (H.length - k).toNat) (0, -1) ⟨rfl, trivial⟩ ⟨hS, (by first | omega | simp), (by omega), (nx_start), (by first | omega | simp), (by first | omega | simp)⟩ ?_
      rintro ⟨k, nx⟩ u_43 w_42 ⟨hS, k0, k1, k2, k3, k4⟩
      refine W.seq ?_
      refine W.reg ?_
      refine Wx.rd (v := .bool (decide (k < (H.length : Int)))) (rd_lss rfl rfl) rfl ?_
      refine Wx.nil ?_
      refine W.seq ?_
      refine W.condD rfl (fun c3 => ?_) (fun c3 => ?_)
      · -- yes
        refine W.skip ?_
        refine W.seq ?_
        refine W.block ?_
        refine W.seq ?_
        refine W.reg ?_
        refine Wx.rd (v := .int .i64 k) (rd_move rfl) rfl ?_
        refine Wx.indexR hS 1 rfl rfl rfl Tryz.underlying182 Tryz.sizeOf4 (by first | omega | (simp only [List.length_set, List.length_append, List.length_cons, List.length_nil, List.length_replicate]; omega)) (by first | omega | (simp only [List.length_set, List.length_append, List.length_cons, List.length_nil, List.length_replicate]; omega)) rfl (fun g_44 hg_45 => ?_)
        refine Wx.ex (rd_loadR' false hS 1 rfl hg_45 rfl (by first | omega | (simp only [List.length_set, List.length_append, List.length_cons, List.length_nil, List.length_replicate]; omega)) (by first | omega | (simp only [List.length_set, List.length_append, List.length_cons, List.length_nil, List.length_replicate]; omega)) Tryz.isAgg4 Tryz.sizeOf4) rfl (fun v_46 hv_47 => ?_)
        obtain rfl := hv_47.bool
        refine Wx.rd (v := .int .i64 k) (rd_assign rfl) rfl ?_
        refine Wx.rd (v := .bool (ix false dn k)) (rd_assign rfl) rfl ?_
        refine Wx.nil ?_
        refine W.seq ?_
        refine W.regQ mixedYc_ (by kernel_rfl) ?_
        refine Wx.rd (v := .bool (ix false dn k)) (rd_move rfl) rfl ?_
        refine Wx.rd (v := .bool (!(ix false dn k))) (rd_not rfl) rfl ?_
        refine Wx.rd (v := .bool (!(ix false dn k))) (rd_move rfl) rfl ?_
        refine Wx.cutQ (X := Unit) 12 [49, 50, 51, 52, 53, 54, 55, 56, 57, 58, 59, 60] (fun _ => [(60, .bool (!(ix false dn k) && (decide (nx < 0) || decide ((ix 0 y2 k) < (ix 0 y2 nx)))))]) (fun _ => True) ?_ ?_
        · rcases Bool.eq_false_or_eq_true (!(ix false dn k)) with g_48 | g_48
          · -- True
            have gp_49 := g_48
            try simp only [Bool.and_eq_true, Bool.or_eq_true, Bool.not_eq_true', Bool.and_eq_false_iff, Bool.or_eq_false_iff, Bool.not_eq_false', decide_eq_true_eq, decide_eq_false_iff_not, not_or, Bool.false_eq_true, Bool.true_eq_false, false_or, or_false, not_false_eq_true] at gp_49
            refine Wx.gyes rfl rfl (congrArg Value.bool g_48) ?_
            refine Wx.rd (v := .int .i64 nx) (rd_loadX hS 0 rfl rfl rfl Tryz.isAgg3) rfl ?_
            refine Wx.gyes rfl rfl (congrArg Value.bool g_48) ?_
            refine Wx.rd (v := .bool (decide (nx < 0))) (rd_lss rfl rfl) rfl ?_
            refine Wx.gyes rfl rfl (congrArg Value.bool g_48) ?_
            refine Wx.rd (v := .bool (decide (nx < 0))) (rd_move rfl) rfl ?_
            refine Wx.cutQ (X := Unit) 8 [52, 53, 54, 55, 56, 57, 58, 59] (fun _ => [(59, .bool (decide (nx < 0) || decide ((ix 0 y2 k) < (ix 0 y2 nx))))]) (fun _ => True) ?_ ?_
            · rcases Bool.eq_false_or_eq_true (decide (nx < 0)) with g_50 | g_50
              · -- True
                have gp_51 := of_decide_eq_true g_50
                refine Wx.gnoB rfl rfl (congrArg Value.bool g_50) rfl rfl ?_
                refine Wx.gnoB rfl rfl (congrArg Value.bool g_50) rfl rfl ?_
                refine Wx.gnoB rfl rfl (congrArg Value.bool g_50) rfl rfl ?_
                refine Wx.gnoB rfl rfl (congrArg Value.bool g_50) rfl rfl ?_
                refine Wx.gnoB rfl rfl (congrArg Value.bool g_50) rfl rfl ?_
                refine Wx.gnoB rfl rfl (congrArg Value.bool g_50) rfl rfl ?_
                refine Wx.gnoB rfl rfl (congrArg Value.bool g_50) rfl rfl ?_
                refine Wx.gyes rfl rfl (congrArg Value.bool g_48) ?_
                refine Wx.rd (v := .bool true) (rd_pickT (congrArg Value.bool g_50) rfl) rfl ?_
                refine Wx.nilQ (fun _ _ => ⟨(), trivial, ⟨?_, trivial⟩, Out.look rfl Out.refl⟩)
                show Value.bool true = Value.bool (decide (nx < 0) || decide ((ix 0 y2 k) < (ix 0 y2 nx)))
                first | rw [g_50, Bool.true_or] | (rw [g_50]; rfl)
              · -- False
                have gp_52 := of_decide_eq_false g_50
                refine Wx.gyes rfl rfl (congrArg Value.bool g_50) ?_
                refine Wx.rd (v := .int .i64 k) (rd_move rfl) rfl ?_
                refine Wx.gyes rfl rfl (congrArg Value.bool g_50) ?_
                refine Wx.rd (v := .pointer (some ⟨g_9, 0 + k.toNat * 1, none⟩)) (rd_indexArr rfl rfl Tryz.underlying166 Tryz.sizeOf3 (by omega) (by omega)) rfl ?_
                refine Wx.gyes rfl rfl (congrArg Value.bool g_50) ?_
                refine Wx.rd (v := .int .i64 (ix 0 y2 k)) (rd_loadXa (d := 0) (f := (Value.int .i64)) (j := k) hS 2 rfl rfl (by omega) (by omega) (by omega) Tryz.isAgg3) rfl ?_
                refine Wx.gyes rfl rfl (congrArg Value.bool g_50) ?_
                refine Wx.rd (v := .int .i64 nx) (rd_loadX hS 0 rfl rfl rfl Tryz.isAgg3) rfl ?_
                refine Wx.gyes rfl rfl (congrArg Value.bool g_50) ?_
                refine Wx.rd (v := .pointer (some ⟨g_9, 0 + nx.toNat * 1, none⟩)) (rd_indexArr rfl rfl Tryz.underlying166 Tryz.sizeOf3 (by omega) (by omega)) rfl ?_
                refine Wx.gyes rfl rfl (congrArg Value.bool g_50) ?_
                refine Wx.rd (v := .int .i64 (ix 0 y2 nx)) (rd_loadXa (d := 0) (f := (Value.int .i64)) (j := nx) hS 2 rfl rfl (by omega) (by omega) (by omega) Tryz.isAgg3) rfl ?_
                refine Wx.gyes rfl rfl (congrArg Value.bool g_50) ?_
                refine Wx.rd (v := .bool (decide ((ix 0 y2 k) < (ix 0 y2 nx)))) (rd_lss rfl rfl) rfl ?_
                refine Wx.gyes rfl rfl (congrArg Value.bool g_48) ?_
                refine Wx.rd (v := .bool (decide ((ix 0 y2 k) < (ix 0 y2 nx)))) (rd_pickF (congrArg Value.bool g_50) rfl) rfl ?_
                refine Wx.nilQ (fun _ _ => ⟨(), trivial, ⟨?_, trivial⟩, Out.look rfl Out.refl⟩)
                show Value.bool (decide ((ix 0 y2 k) < (ix 0 y2 nx))) = Value.bool (decide (nx < 0) || decide ((ix 0 y2 k) < (ix 0 y2 nx)))
                first | rw [g_50, Bool.false_or] | (rw [g_50]; rfl)
            rintro ⟨⟩ u_54 -
            refine Wx.rd (v := .bool (decide (nx < 0) || decide ((ix 0 y2 k) < (ix 0 y2 nx)))) (rd_pickT (congrArg Value.bool g_48) rfl) rfl ?_
            refine Wx.nilQ (fun _ _ => ⟨(), trivial, ⟨?_, trivial⟩, Out.look rfl (Out.hav rfl (Out.look rfl Out.refl))⟩)
            show Value.bool (decide (nx < 0) || decide ((ix 0 y2 k) < (ix 0 y2 nx))) = Value.bool (!(ix false dn k) && (decide (nx < 0) || decide ((ix 0 y2 k) < (ix 0 y2 nx))))
            first | rw [g_48, Bool.true_and] | (rw [g_48]; rfl)
          · -- False
            have gp_55 := g_48
            try simp only [Bool.and_eq_true, Bool.or_eq_true, Bool.not_eq_true', Bool.and_eq_false_iff, Bool.or_eq_false_iff, Bool.not_eq_false', decide_eq_true_eq, decide_eq_false_iff_not, not_or, Bool.false_eq_true, Bool.true_eq_false, false_or, or_false, not_false_eq_true] at gp_55
            refine Wx.gnoB rfl rfl (congrArg Value.bool g_48) rfl rfl ?_
            refine Wx.gnoB rfl rfl (congrArg Value.bool g_48) rfl rfl ?_
            refine Wx.gnoB rfl rfl (congrArg Value.bool g_48) rfl rfl ?_
            refine Wx.gno rfl rfl rfl rfl ?_
            refine Wx.gno rfl rfl rfl rfl ?_
            refine Wx.gno rfl rfl rfl rfl ?_
            refine Wx.gno rfl rfl rfl rfl ?_
            refine Wx.gno rfl rfl rfl rfl ?_
            refine Wx.gno rfl rfl rfl rfl ?_
            refine Wx.gno rfl rfl rfl rfl ?_
            refine Wx.gnoB rfl rfl (congrArg Value.bool g_48) rfl rfl ?_
            refine Wx.rd (v := .bool false) (rd_pickF (congrArg Value.bool g_48) rfl) rfl ?_
            refine Wx.nilQ (fun _ _ => ⟨(), trivial, ⟨?_, trivial⟩, Out.look rfl Out.refl⟩)
            show Value.bool false = Value.bool (!(ix false dn k) && (decide (nx < 0) || decide ((ix 0 y2 k) < (ix 0 y2 nx))))
            first | rw [g_48, Bool.false_and] | (rw [g_48]; rfl)
        rintro ⟨⟩ u_57 -
        refine Wx.nilQ (fun w_58 hx_59 => ?_)
        have hS := hS.ext hx_59
        refine W.cond rfl (fun c4 => ?_) (fun c4 => ?_)
        · -- yes
          try simp only [Bool.and_eq_true, Bool.or_eq_true, Bool.not_eq_true', Bool.and_eq_false_iff, Bool.or_eq_false_iff, Bool.not_eq_false', decide_eq_true_eq, decide_eq_false_iff_not, not_or, Bool.false_eq_true, Bool.true_eq_false, false_or, or_false, not_false_eq_true] at c4
          refine W.reg ?_
          refine Wx.rd (v := .int .i64 k) (rd_move rfl) rfl ?_
          refine Wx.storeX (cs' := [.int .i64 k]) (ds := [.int .i64 k]) hS 0 rfl rfl rfl rfl Tryz.sizeOf3 (Nat.le_of_ble_eq_true rfl) (one_cons rfl one_nil) rfl (fun w_60 hz_61 hS => ?_)
          refine Wx.nil ?_
          refine W.reg ?_
          refine Wx.rd (v := .int .i64 (k + 1)) (rd_add rfl rfl (in_i64 (by omega) (by omega))) rfl ?_
          refine Wx.rd (v := .int .i64 (k + 1)) (rd_move rfl) rfl ?_
          refine Wx.nil ?_
          refine ⟨(k + 1, k), (by show (H.length - (k + 1)).toNat < (H.length - k).toNat; omega), ?_, ?_, Out.look rfl (Out.hav rfl (Out.look rfl Out.self))⟩
          · exact ⟨hS, (by first | omega | assumption), (by first | omega | assumption), (nx_new k2 k0 c4.1 c4.2), (by first | omega | assumption), (by first | omega | assumption)⟩
          · exact ⟨rfl, trivial⟩
        · -- no
          try simp only [Bool.and_eq_true, Bool.or_eq_true, Bool.not_eq_true', Bool.and_eq_false_iff, Bool.or_eq_false_iff, Bool.not_eq_false', decide_eq_true_eq, decide_eq_false_iff_not, not_or, Bool.false_eq_true, Bool.true_eq_false, false_or, or_false, not_false_eq_true] at c4
          refine W.skip ?_
          refine W.reg ?_
          refine Wx.rd (v := .int .i64 (k + 1)) (rd_add rfl rfl (in_i64 (by omega) (by omega))) rfl ?_
          refine Wx.rd (v := .int .i64 (k + 1)) (rd_move rfl) rfl ?_
          refine Wx.nil ?_
          refine ⟨(k + 1, nx), (by show (H.length - (k + 1)).toNat < (H.length - k).toNat; omega), ?_, ?_, Out.look rfl (Out.hav rfl (Out.look rfl Out.self))⟩
          · exact ⟨hS, (by first | omega | assumption), (by first | omega | assumption), (nx_old k2 k0 (by rcases c4 with c | c; exact .inl c; exact .inr (by omega))), (by first | omega | assumption), (by first | omega | assumption)⟩
          · exact ⟨rfl, trivial⟩
      · -- no
        obtain ⟨hzr, hzd, hzm⟩ := nx_end (H := H) (by rw [show (H.length : Int) = k by omega]; exact k2) (cnt_some (by omega))
        have hz0 := hzr.1
        have hz1 := hzr.2
        refine W.exit rfl ?_
        refine WD.seq ?_
        refine WD.ofW ?_
        refine W.reg ?_
        refine Wx.rd (v := v_16) (rd_move rfl) rfl ?_
        refine Wx.rd (v := .int .i64 nx) (rd_loadX hS 0 rfl rfl rfl Tryz.isAgg3) rfl ?_
        refine Wx.indexR hS 1 rfl rfl rfl Tryz.underlying182 Tryz.sizeOf4 (by first | omega | (simp only [List.length_set, List.length_append, List.length_cons, List.length_nil, List.length_replicate]; omega)) (by first | omega | (simp only [List.length_set, List.length_append, List.length_cons, List.length_nil, List.length_replicate]; omega)) rfl (fun g_62 hg_63 => ?_)
        refine Wx.storeR (j := nx.toNat) (z := true) hS 1 rfl hg_63 rfl (by first | omega | (simp only [List.length_set, List.length_append, List.length_cons, List.length_nil, List.length_replicate]; omega)) rfl ⟨[.bool true], rfl, rfl⟩ Tryz.sizeOf4 (fun w_64 hz_65 hS => ?_)
        refine Wx.nil ?_
        refine WD.seq ?_
        refine WD.ofW ?_
        refine W.reg ?_
        refine Wx.rd (v := .agg #[.int .i64 R, .int .i64 C, hv]) (rd_loadXs (ds := [.int .i64 R, .int .i64 C, hv]) hS 4 rfl rfl rfl rfl Tryz.isAgg146 Tryz.sizeOf146) rfl ?_
        refine Wx.rd (v := .int .i64 nx) (rd_loadX hS 0 rfl rfl rfl Tryz.isAgg3) rfl ?_
        refine Wx.callB (run_callF Tryz.call124 rfl) (F124 hS (hS.arg a_hv)) rfl ?_
        rintro r_66 w_67 ⟨gn_68, gs_69, rfl, hS⟩
        refine Wx.nil ?_
        refine WD.block ?_
        have hS := hS.add (hS.arg a_hv)
        have hS := hS.front 7 rfl
        have hS := hS.front 7 rfl
        have hS := hS.front 7 rfl
        have hS := hS.front 7 rfl
        have hS := hS.front 7 rfl
        have hS := hS.front 5 rfl
        have hS := hS.front 7 rfl
        have hS := hS.front 7 rfl
        have hS : St _ _ w_67 (.box gn_68 3 [.int .i64 nx] :: .box gs_69 146 [.int .i64 R, .int .i64 C, hv] :: Ob.v (tSl (tI .i64)) H hv :: .box g_36 3 [.int .i64 nx] :: .row tBool 4 v_16 (List.set dn nx.toNat true) :: .box g_9 166 (List.map (Value.int .i64) y2) :: .box g_5 166 (List.map (Value.int .i64) (List.replicate 37 (0 : Int))) :: .box g_1 146 [.int .i64 R, .int .i64 C, hv] :: DOb Ds) := hS
        refine WD.range (ob := [.box g_36 3 [.int .i64 nx], .row tBool 4 v_16 (List.set dn nx.toNat true), .box g_9 166 (List.map (Value.int .i64) y2), .box g_5 166 (List.map (Value.int .i64) (List.replicate 37 (0 : Int))), .box g_1 146 [.int .i64 R, .int .i64 C, hv]]) (nbW C H.length nx) (fun ls ob => ∃ (y3 : List Int), (DjP C H (DB dn) nx (fun x => x ∈ ls) (ix 0 y3)) ∧ (y3.length = 37) ∧ (ZT H.length y3) ∧ ob = [.box g_36 3 [.int .i64 nx], .row tBool 4 v_16 (List.set dn nx.toNat true), .box g_9 166 (List.map (Value.int .i64) y3), .box g_5 166 (List.map (Value.int .i64) (List.replicate 37 (0 : Int))), .box g_1 146 [.int .i64 R, .int .i64 C, hv]]) (fun _ _ _ => False) [] rfl Tryz.call135 rfl rfl (iter85 p_ok hzr) hS ⟨y2, (djl_open hok i2 hzr hzd hzm), (i3), (i6), rfl⟩ ?_ ?_ ?_
        · -- a round
          rintro ls m pre_74 _ w_73 hpx ⟨y3, m2, m3, m4, rfl⟩ hS
          have hm := mem_nbW.1 (mem_pre hpx)
          have hm0 : 0 ≤ m ∧ m ≤ (H.length : Int) := by rcases hm with ⟨q, _⟩ | q <;> omega
          refine W.block ?_
          refine W.seq ?_
          refine W.reg ?_
          refine Wx.rd (v := .int .i64 m) (rd_move rfl) rfl ?_
          refine Wx.rd (v := .agg #[.int .i64 R, .int .i64 C, hv]) (rd_loadXs (ds := [.int .i64 R, .int .i64 C, hv]) hS 4 rfl rfl rfl rfl Tryz.isAgg146 Tryz.sizeOf146) rfl ?_
          refine Wx.callF (run_callF Tryz.call112 rfl) (F112 i_R i_C (hS.arg a_hv)) rfl ?_
          rintro r_75 w_76 hx_77 rfl
          have hS := hS.ext hx_77
          refine Wx.rd (v := .bool (decide (m < (H.length : Int)))) (rd_lss rfl rfl) rfl ?_
          refine Wx.nil ?_
          refine W.condD rfl (fun c5 => ?_) (fun c5 => ?_)
          · -- yes
            have hma : adjB C nx m = true := by rcases hm with q | q; exact q.2; omega
            refine W.regT 15 mixedYc_ (by kernel_rfl) ?_
            refine Wx.rd (v := .int .i64 m) (rd_move rfl) rfl ?_
            refine Wx.rd (v := .int .i64 m) (rd_move rfl) rfl ?_
            refine Wx.rd (v := .pointer (some ⟨g_9, 0 + m.toNat * 1, none⟩)) (rd_indexArr rfl rfl Tryz.underlying166 Tryz.sizeOf3 (by omega) (by omega)) rfl ?_
            refine Wx.rd (v := .int .i64 (ix 0 y3 m)) (rd_loadXa (d := 0) (f := (Value.int .i64)) (j := m) hS 2 rfl rfl (by omega) (by omega) (by omega) Tryz.isAgg3) rfl ?_
            refine Wx.rd (v := .int .i64 nx) (rd_loadX hS 0 rfl rfl rfl Tryz.isAgg3) rfl ?_
            refine Wx.rd (v := .pointer (some ⟨g_9, 0 + nx.toNat * 1, none⟩)) (rd_indexArr rfl rfl Tryz.underlying166 Tryz.sizeOf3 (by omega) (by omega)) rfl ?_
            refine Wx.rd (v := .int .i64 (ix 0 y3 nx)) (rd_loadXa (d := 0) (f := (Value.int .i64)) (j := nx) hS 2 rfl rfl (by omega) (by omega) (by omega) Tryz.isAgg3) rfl ?_
            refine Wx.rd (v := .pointer (some ⟨g_1, 2, none⟩)) (rd_fieldAddr rfl foYc_146_2) rfl ?_
            refine Wx.rd (v := hv) (rd_loadX hS 4 rfl rfl rfl Tryz.isAgg25) rfl ?_
            refine Wx.rd (v := .int .i64 m) (rd_move rfl) rfl ?_
            refine Wx.ex (rd_index 0 (hS.arg a_hv) rfl rfl Tryz.underlying25 Tryz.sizeOf3 (by first | omega | (simp only [List.length_set, List.length_append, List.length_cons, List.length_nil, List.length_replicate]; omega)) (by first | omega | (simp only [List.length_set, List.length_append, List.length_cons, List.length_nil, List.length_replicate]; omega))) rfl (fun p_78 hp_79 => ?_)
            refine Wx.rd (v := .int .i64 (ix 0 H m)) (rd_loadI hp_79 rfl Tryz.isAgg3 Tryz.sizeOf3) rfl ?_
            have bd_80 := bd_i64 hp_79.inK
            refine Wx.rd (v := .int .i64 (max (ix 0 y3 nx) (ix 0 H m))) (rd_max rfl rfl) rfl ?_
            refine Wx.rd (v := .int .i64 (min (ix 0 y3 m) (max (ix 0 y3 nx) (ix 0 H m)))) (rd_min rfl rfl) rfl ?_
            refine Wx.rd (v := .pointer (some ⟨g_9, 0 + m.toNat * 1, none⟩)) (rd_indexArr rfl rfl Tryz.underlying166 Tryz.sizeOf3 (by omega) (by omega)) rfl ?_
            refine Wx.nilQ (fun w_81 hx_82 => ?_)
            have hS := hS.ext hx_82
            refine Wx.storeXa (j := m) (f := (Value.int .i64)) (u := (min (ix 0 y3 m) (max (ix 0 y3 nx) (ix 0 H m)))) hS 2 rfl rfl (by omega) rfl rfl rfl Tryz.sizeOf3 (by omega) (by omega) (fun w_83 hz_84 hS => ?_)
            refine Wx.nil ?_
            have hS := hS.front 4 rfl
            have hS := hS.front 4 rfl
            have hS := hS.front 4 rfl
            have hS := hS.front 4 rfl
            have hS := hS.front 4 rfl
            have hS : St _ _ w_83 (.box g_36 3 [.int .i64 nx] :: .row tBool 4 v_16 (List.set dn nx.toNat true) :: .box g_9 166 (List.map (Value.int .i64) (List.set y3 m.toNat (min (ix 0 y3 m) (max (ix 0 y3 nx) (ix 0 H m))))) :: .box g_5 166 (List.map (Value.int .i64) (List.replicate 37 (0 : Int))) :: .box g_1 146 [.int .i64 R, .int .i64 C, hv] :: pre_74) := hS
            exact ⟨_, ⟨List.set y3 m.toNat (min (ix 0 y3 m) (max (ix 0 y3 nx) (ix 0 H m))), (djl_look hok hzr m2 (by omega) ⟨hm0.1, c5⟩ hma), (by simp only [List.length_set]; exact m3), (zt_set m4 (by omega) (by omega)), rfl⟩, hS⟩
          · -- no
            refine W.skip ?_
            have hS := hS.front 4 rfl
            have hS := hS.front 4 rfl
            have hS := hS.front 4 rfl
            have hS := hS.front 4 rfl
            have hS := hS.front 4 rfl
            have hS : St _ _ w_76 (.box g_36 3 [.int .i64 nx] :: .row tBool 4 v_16 (List.set dn nx.toNat true) :: .box g_9 166 (List.map (Value.int .i64) y3) :: .box g_5 166 (List.map (Value.int .i64) (List.replicate 37 (0 : Int))) :: .box g_1 146 [.int .i64 R, .int .i64 C, hv] :: pre_74) := hS
            exact ⟨_, ⟨y3, (djl_river m2 (by omega)), (by first | omega | assumption), (by first | omega | assumption), rfl⟩, hS⟩
        · -- all have come
          rintro _ D_85 w_86 ⟨y3, m2, m3, m4, rfl⟩ hS
          have hS : St _ _ w_86 (.box g_36 3 [.int .i64 nx] :: .row tBool 4 v_16 (List.set dn nx.toNat true) :: .box g_9 166 (List.map (Value.int .i64) y3) :: .box g_5 166 (List.map (Value.int .i64) (List.replicate 37 (0 : Int))) :: .box g_1 146 [.int .i64 R, .int .i64 C, hv] :: DOb (D_85 :: Ds)) := hS
          refine WD.ofW ?_
          refine W.reg ?_
          refine Wx.rd (v := .int .i64 (i + 1)) (rd_add rfl rfl (in_i64 (by omega) (by omega))) rfl ?_
          refine Wx.rd (v := .int .i64 (i + 1)) (rd_move rfl) rfl ?_
          refine Wx.nil ?_
          refine ⟨(i + 1, List.set dn nx.toNat true, y3, (D_85 :: Ds)), (by show (H.length - (i + 1)).toNat < (H.length - i).toNat; omega), rfl, ?_, ?_, Out.look rfl (Out.hav rfl (Out.look rfl Out.self))⟩
          · exact ⟨hS.tl, (by first | omega | assumption), (by first | omega | assumption), (djl_close hzr i4 m2), (m3), (by simp only [List.length_set]; exact i4), (by rw [cnt_set hzr i4 hzd]; omega), (m4)⟩
          · exact ⟨rfl, trivial⟩
        · exact fun _ _ _ _ _ h => h.elim
    · -- no
      refine W.exit rfl ?_
      refine WD.ofW ?_
      refine W.seq ?_
      refine W.reg ?_
      refine Wx.rd (v := .agg (List.map (Value.int .i64) y2).toArray) (rd_loadXs (ds := List.map (Value.int .i64) y2) hS 1 rfl rfl (by rw [List.drop_zero, List.take_of_length_le (by simp; omega)]) (by simp; omega) Tryz.isAgg166 Tryz.sizeOf166) rfl ?_
      refine Wx.storeX (cs' := List.map (Value.int .i64) y2) (ds := List.map (Value.int .i64) y2) hS 2 rfl rfl rfl rfl (fun w' => by rw [List.length_map, show List.length y2 = 37 by first | omega | (simp; omega) | simp]; exact Tryz.sizeOf166 w') (by first | (simp; omega) | simp) (by intro u hu; obtain ⟨_, _, rfl⟩ := List.mem_map.1 hu; rfl) (by rw [List.take_zero, List.nil_append, List.drop_of_length_le (by first | (simp; omega) | simp), List.append_nil]) (fun w_87 hz_88 hS => ?_)
      refine Wx.nil ?_
      have hS : St _ _ w_87 (.row tBool 4 v_16 dn :: .box g_9 166 (List.map (Value.int .i64) y2) :: .box g_5 166 (List.map (Value.int .i64) y2) :: .box g_1 146 [.int .i64 R, .int .i64 C, hv] :: DOb Ds) := hS
      refine W.ret ⟨[.row tBool 4 v_16 dn, .box g_9 166 (List.map (Value.int .i64) y2), .box g_5 166 (List.map (Value.int .i64) y2), .box g_1 146 [.int .i64 R, .int .i64 C, hv]], hS, fun w_89 hS => ?_⟩
      exact ⟨.agg (List.map (Value.int .i64) y2).toArray, (ResIs.cell1 hS 2 rfl rfl Tryz.isAgg166 (fun w' => by rw [List.length_map, show List.length y2 = 37 by first | omega | (simp; omega) | simp]; exact Tryz.sizeOf166 w')), hS.bel, ⟨y2, (by exact ⟨⟨i3, fun x x0 x1 => dj_end i2 (cnt_all (by omega)) x ⟨x0, x1⟩⟩, i6⟩), rfl⟩⟩

theorem F111 {R : Int} {C : Int} {hv : Value} {H : List Int} {O : List (Option Nat)} {w : World} (i_R : InK .i64 R) (i_C : InK .i64 C) (h_hv : V (tSl (tI .i64)) H hv O w) (p_ok : SOK R C H) (hO : ∀ b, some b ∈ O → b < w.heap.size) : Calls Tryz.prog 111 #[.agg #[.int .i64 R, .int .i64 C, hv]] w (Ret w (fun r _ => ∃ ys : List Int, (ys.length = 37 ∧ ∀ x, 0 ≤ x → x < (H.length : Int) → ix 0 ys x = sillV C H x) ∧ r = .agg (List.map (Value.int .i64) ys).toArray)) :=
  (F111z i_R i_C h_hv p_ok hO).mono fun _ _ ⟨r, he, hx, ys, ⟨h1, _⟩, h2⟩ => ⟨r, he, hx, ys, h1, h2⟩
end Go.Proofs.YtlibemgaepkceaaGreatDoor

namespace Go.Proofs.YtlibemgaepkceaaGreatDoor
open Go.Wk Go.RowKit Go.Lib
set_option linter.unusedVariables false
set_option linter.unusedSimpArgs false
theorem elYd_25 : ElemI Tryz.prog 25 3 (.int .i64 0) 1 8 := ElemI.of Tryz.underlying25 (by kernel_rfl) (by first | rfl | kernel_rfl) (by decide)

theorem F49 {xv : Value} {xs : List Int} {Fr_xv : List (Option Nat)} {w : World} (h_xv : V (tSl (tI .i64)) xs xv Fr_xv w) (p_1000 : (xs.length : Int) ≤ 1000) : Calls Tryz.prog 49 #[xv] w (Ret w (fun r w' => ∃ rv, r = rv ∧ Fresh (tI .i64) 3 xs rv w.heap.size w')) := by
  have a_xv := h_xv.any
  have l_xv := h_xv.len63
  have hS := St.start0 w
  refine enterR Tryz.func49 rfl Tryz.ntmps49 Tryz.results49 rfl ?_
  refine W.seq ?_
  refine W.reg ?_
  refine Wx.rd (v := (.slice none 0 0)) (rd_assign rfl) rfl ?_
  refine Wx.nil ?_
  refine W.seq ?_
  refine W.seq ?_
  refine W.reg ?_
  refine Wx.rd (v := xv) (rd_move rfl) rfl ?_
  refine Wx.ex (rd_eqlNilV (hS.arg a_xv) rfl rfl Tryz.underlying25) rfl (fun u_1 hu_u_1 => ?_)
  obtain ⟨b_2, rfl, hb_3⟩ := hu_u_1
  refine Wx.nil ?_
  refine W.cond rfl (fun c0 => ?_) (fun c0 => ?_)
  · -- yes
    try simp only [Bool.and_eq_true, Bool.or_eq_true, Bool.not_eq_true', Bool.and_eq_false_iff, Bool.or_eq_false_iff, Bool.not_eq_false', decide_eq_true_eq, decide_eq_false_iff_not, not_or, Bool.false_eq_true, Bool.true_eq_false, false_or, or_false, not_false_eq_true] at c0
    refine W.seq ?_
    refine W.reg ?_
    refine Wx.rd (v := (.slice none 0 0)) (rd_assign rfl) rfl ?_
    refine Wx.nil ?_
    have e0_0 : xs = [] := by solve_by_elim
    exact W.ret ⟨(.slice none 0 0), ResIs.one, hS.bel, ⟨(.slice none 0 0), rfl, (by rw [e0_0]; exact ((hS.addNil (tI .i64) 3).fr 0 rfl flat_int))⟩⟩
  · -- no
    try simp only [Bool.and_eq_true, Bool.or_eq_true, Bool.not_eq_true', Bool.and_eq_false_iff, Bool.or_eq_false_iff, Bool.not_eq_false', decide_eq_true_eq, decide_eq_false_iff_not, not_or, Bool.false_eq_true, Bool.true_eq_false, false_or, or_false, not_false_eq_true] at c0
    refine W.skip ?_
    refine W.seq ?_
    refine W.reg ?_
    refine Wx.lit (t := (tI .i64)) (ys := []) (vs := []) elYd_25 hS rfl rfl trivial (by decide) rfl (fun v_4 w_5 hx_6 hS => ?_)
    refine Wx.rd (v := xv) (rd_move rfl) rfl ?_
    refine Wx.append elYd_25 hS 0 rfl rfl rfl (Src.ofV (hS.arg a_xv)) (by simp only [maxLen]; first | omega | (simp; omega) | simp) (by first | omega | (simp; omega) | simp) rfl (fun v_7 w_8 hz_9 hS => ?_)
    refine Wx.rd (v := v_7) (rd_assign rfl) rfl ?_
    refine Wx.nil ?_
    have e1_0 : xs = [] ++ xs := by first | rfl | omega
    exact W.ret ⟨v_7, ResIs.one, hS.bel, ⟨v_7, rfl, (by rw [e1_0]; exact (hS.fr 0 rfl flat_int))⟩⟩

theorem F103 {R : Int} {C : Int} {hv : Value} {H : List Int} {O : List (Option Nat)} {w : World} (i_R : InK .i64 R) (i_C : InK .i64 C) (h_hv : V (tSl (tI .i64)) H hv O w) (hO : ∀ b, some b ∈ O → b < w.heap.size) : Calls Tryz.prog 103 #[.agg #[.int .i64 R, .int .i64 C, hv]] w (Ret w (fun r w' => ∃ rv, r = .tuple #[rv, .int .i64 (checkS R C H)] ∧ Fresh (tI .i64) 3 (sillsE R C H) rv w.heap.size w')) := by
  have b_C := bd_i64 i_C
  have b_R := bd_i64 i_R
  have a_hv := h_hv
  have l_hv := h_hv.len63
  have hS := St.start w O hO
  refine enterR Tryz.func103 rfl Tryz.ntmps103 Tryz.results103 rfl ?_
  refine W.seq ?_
  refine W.reg ?_
  refine Wx.box (cs := [.int .i64 R, .int .i64 C, hv]) hS rfl rfl rfl (fun g_1 w_2 hx_4 hb_3 hS => ?_)
  refine Wx.rd (v := (.slice none 0 0)) (rd_assign rfl) rfl ?_
  refine Wx.rd (v := .int .i64 0) (rd_assign rfl) rfl ?_
  refine Wx.nil ?_
  refine W.seq ?_
  refine W.seq ?_
  refine W.reg ?_
  refine Wx.rd (v := .agg #[.int .i64 R, .int .i64 C, hv]) (rd_loadXs (ds := [.int .i64 R, .int .i64 C, hv]) hS 0 rfl rfl rfl rfl Tryz.isAgg146 Tryz.sizeOf146) rfl ?_
  refine Wx.callF (run_callF Tryz.call110 rfl) (F110 i_R i_C (hS.arg a_hv)) rfl ?_
  rintro r_5 w_6 hx_7 rfl
  have hS := hS.ext hx_7
  refine Wx.rd (v := .int .i64 (checkS R C H)) (rd_assign rfl) rfl ?_
  refine Wx.nil ?_
  refine W.seq ?_
  refine W.reg ?_
  refine Wx.rd (v := .int .i64 (checkS R C H)) (rd_move rfl) rfl ?_
  refine Wx.rd (v := .bool (decide ((checkS R C H) ≠ 0))) (rd_neq rfl rfl) rfl ?_
  refine Wx.nil ?_
  refine W.condD rfl (fun c0 => ?_) (fun c0 => ?_)
  · -- yes
    refine W.seq ?_
    refine W.reg ?_
    refine Wx.rd (v := .int .i64 (checkS R C H)) (rd_move rfl) rfl ?_
    refine Wx.rd (v := (.slice none 0 0)) (rd_assign rfl) rfl ?_
    refine Wx.rd (v := .int .i64 (checkS R C H)) (rd_assign rfl) rfl ?_
    refine Wx.nil ?_
    have e0_0 : sillsE R C H = [] := by rw [sillsE, if_neg c0]
    exact W.ret ⟨.tuple #[(.slice none 0 0), .int .i64 (checkS R C H)], ResIs.two, hS.bel, ⟨(.slice none 0 0), rfl, (by rw [e0_0]; exact ((hS.addNil (tI .i64) 3).fr 0 rfl flat_int))⟩⟩
  · -- no
    have h0c : checkS R C H = 0 := by omega
    have p_ok := SOK.of h0c
    obtain ⟨⟨r1, r2⟩, ⟨c1_, c2_⟩, hRC, ⟨n1, n36⟩, hCn, hok⟩ := id p_ok
    refine W.skip ?_
    refine W.seq ?_
    refine W.reg ?_
    refine Wx.rd (v := .agg #[.int .i64 R, .int .i64 C, hv]) (rd_loadXs (ds := [.int .i64 R, .int .i64 C, hv]) hS 0 rfl rfl rfl rfl Tryz.isAgg146 Tryz.sizeOf146) rfl ?_
    refine Wx.callF (run_callF Tryz.call111 rfl) (F111 i_R i_C (hS.arg a_hv) p_ok hS.fb_lt) rfl ?_
    rintro r_9 w_10 hx_11 ⟨l_8, hex, rfl⟩
    have hS := hS.ext hx_11
    refine Wx.alloc (cs := List.map (Value.int .i64) (List.replicate 37 (0 : Int))) hS Tryz.zeroValue166 (by kernel_rfl) rfl (fun g_12 w_13 hx_15 hb_14 hS => ?_)
    have hS : St _ _ w_13 [.box g_12 166 (List.map (Value.int .i64) (List.replicate 37 (0 : Int))), .box g_1 146 [.int .i64 R, .int .i64 C, hv]] := hS
    refine Wx.storeX (cs' := List.map (Value.int .i64) l_8) (ds := List.map (Value.int .i64) l_8) hS 0 rfl rfl rfl rfl (fun w' => by rw [List.length_map, show List.length l_8 = 37 by first | omega | (simp; omega) | simp]; exact Tryz.sizeOf166 w') (by first | (simp; omega) | simp) (by intro u hu; obtain ⟨_, _, rfl⟩ := List.mem_map.1 hu; rfl) (by rw [List.take_zero, List.nil_append, List.drop_of_length_le (by first | (simp; omega) | simp), List.append_nil]) (fun w_16 hz_17 hS => ?_)
    refine Wx.nil ?_
    refine W.seq ?_
    refine W.reg ?_
    refine Wx.rd (v := .agg #[.int .i64 R, .int .i64 C, hv]) (rd_loadXs (ds := [.int .i64 R, .int .i64 C, hv]) hS 1 rfl rfl rfl rfl Tryz.isAgg146 Tryz.sizeOf146) rfl ?_
    refine Wx.callF (run_callF Tryz.call112 rfl) (F112 i_R i_C (hS.arg a_hv)) rfl ?_
    rintro r_18 w_19 hx_20 rfl
    have hS := hS.ext hx_20
    refine Wx.rd (v := (.slice (some ⟨g_12, 0, none⟩) (H.length : Int).toNat 37)) (rd_sliceArrH (m := 37) Tryz.underlying166 Tryz.sizeOf3 rfl rfl (by omega) (by omega)) rfl ?_
    have hS := hS.sliceBox (o := 0) (k := .i64) (m := (H.length : Int).toNat) (xs := List.take (H.length : Int).toNat l_8) (cap := 37) 0 rfl (by exact take_map_take (Value.int .i64) l_8 _) (kn_in (f := sillV C H) (by omega) hex.2 (fun x x0 x1 => by have := p_ok.sill x0 x1; omega)) (by simp; omega) (by omega) (by decide)
    have hS := hS.add (t := tSl (tI .i64)) (x := sillsL C H) (v := .slice (some ⟨g_12, 0, none⟩) (H.length : Int).toNat 37) (by have q := (hS.v 0 rfl); rw [show List.take (H.length : Int).toNat l_8 = sillsL C H from take_map (by omega) (by omega) hex.2] at q; exact q)
    refine Wx.callF (run_callF Tryz.call49 rfl) (F49 (hS.v 0 rfl) (by have := rng_length (i := 0) (n := H.length) (by omega); simp [sillsL]; omega)) rfl ?_
    rintro r_22 w_23 hx_24 ⟨_, rfl, hv_25⟩
    have hS := hS.pushFr hx_24 hv_25
    refine Wx.rd (v := r_22) (rd_assign rfl) rfl ?_
    refine Wx.rd (v := .int .i64 0) (rd_assign rfl) rfl ?_
    refine Wx.nil ?_
    have e1_0 : sillsE R C H = (sillsL C H) := by rw [sillsE, if_pos h0c]
    have e1_1 : (checkS R C H) = (0 : Int) := by exact h0c
    exact W.ret ⟨.tuple #[r_22, .int .i64 0], ResIs.two, hS.bel, ⟨r_22, (by rw [e1_1]), (by rw [e1_0]; exact (hS.fr 0 rfl flat_int))⟩⟩
end Go.Proofs.YtlibemgaepkceaaGreatDoor

namespace Go.Proofs.YtlibemgaepkceaaGreatDoor
open Go.Wk Go.RowKit Go.Lib
set_option linter.unusedVariables false
set_option linter.unusedSimpArgs false
theorem elNa_25 : ElemI Tryz.prog 25 3 (.int .i64 0) 1 8 := ElemI.of Tryz.underlying25 (by kernel_rfl) (by first | rfl | kernel_rfl) (by decide)
theorem elNa_24 : ElemI Tryz.prog 24 25 ((.slice none 0 0)) 1 24 := ElemI.of Tryz.underlying24 (by kernel_rfl) (by first | rfl | kernel_rfl) (by decide)

theorem F25 {n : Int} {lo : Int} {hi : Int} {w : World} (i_n : InK .i64 n) (i_lo : InK .i64 lo) (i_hi : InK .i64 hi) : Calls Tryz.prog 25 #[.int .i64 n, .int .i64 lo, .int .i64 hi] w (Ret w (fun r _ => r = .bool (decide (lo ≤ n) && decide (n ≤ hi)))) := by
  have b_hi := bd_i64 i_hi
  have b_lo := bd_i64 i_lo
  have b_n := bd_i64 i_n
  have hS := St.start0 w
  refine enterR Tryz.func25 rfl Tryz.ntmps25 Tryz.results25 rfl ?_
  refine W.seq ?_
  refine W.reg ?_
  refine Wx.rd (v := .bool false) (rd_assign rfl) rfl ?_
  refine Wx.nil ?_
  refine W.seq ?_
  refine W.reg ?_
  refine Wx.rd (v := .int .i64 lo) (rd_move rfl) rfl ?_
  refine Wx.rd (v := .int .i64 n) (rd_move rfl) rfl ?_
  refine Wx.rd (v := .bool (decide (lo ≤ n))) (rd_leq rfl rfl) rfl ?_
  refine Wx.rd (v := .bool (decide (lo ≤ n))) (rd_move rfl) rfl ?_
  refine Wx.cut (X := Unit) 4 [11, 12, 13, 14] (fun _ => [(14, .bool (decide (lo ≤ n) && decide (n ≤ hi)))]) (fun _ w' => St w [] w' []) ?_ ?_
  · rcases Bool.eq_false_or_eq_true (decide (lo ≤ n)) with g_1 | g_1
    · -- True
      have gp_2 := of_decide_eq_true g_1
      refine Wx.gyes rfl rfl (congrArg Value.bool g_1) ?_
      refine Wx.rd (v := .int .i64 n) (rd_move rfl) rfl ?_
      refine Wx.gyes rfl rfl (congrArg Value.bool g_1) ?_
      refine Wx.rd (v := .int .i64 hi) (rd_move rfl) rfl ?_
      refine Wx.gyes rfl rfl (congrArg Value.bool g_1) ?_
      refine Wx.rd (v := .bool (decide (n ≤ hi))) (rd_leq rfl rfl) rfl ?_
      refine Wx.rd (v := .bool (decide (n ≤ hi))) (rd_pickT (congrArg Value.bool g_1) rfl) rfl ?_
      refine Wx.nil ⟨(), hS, ⟨?_, trivial⟩, Out.look rfl Out.refl⟩
      show Value.bool (decide (n ≤ hi)) = Value.bool (decide (lo ≤ n) && decide (n ≤ hi))
      first | rw [g_1, Bool.true_and] | (rw [g_1]; rfl)
    · -- False
      have gp_3 := of_decide_eq_false g_1
      refine Wx.gnoB rfl rfl (congrArg Value.bool g_1) rfl rfl ?_
      refine Wx.gnoB rfl rfl (congrArg Value.bool g_1) rfl rfl ?_
      refine Wx.gnoB rfl rfl (congrArg Value.bool g_1) rfl rfl ?_
      refine Wx.rd (v := .bool false) (rd_pickF (congrArg Value.bool g_1) rfl) rfl ?_
      refine Wx.nil ⟨(), hS, ⟨?_, trivial⟩, Out.look rfl Out.refl⟩
      show Value.bool false = Value.bool (decide (lo ≤ n) && decide (n ≤ hi))
      first | rw [g_1, Bool.false_and] | (rw [g_1]; rfl)
  rintro ⟨⟩ u_5 w_4 hS
  refine Wx.rd (v := .bool (decide (lo ≤ n) && decide (n ≤ hi))) (rd_assign rfl) rfl ?_
  refine Wx.nil ?_
  exact W.ret ⟨.bool (decide (lo ≤ n) && decide (n ≤ hi)), ResIs.one, hS.bel, rfl⟩

theorem F19 {tv : Value} {td : List Int} {Fr_tv : List (Option Nat)} {w : World} (h_tv : V (tSl (tI .i64)) td tv Fr_tv w) (p_g : GW td) : Calls Tryz.prog 19 #[tv] w (Ret w (fun r _ => r = .int .i64 0)) := by
  have hn := p_g.n1
  have a_tv := h_tv.any
  have l_tv := h_tv.len63
  have hS := St.start0 w
  refine enterR Tryz.func19 rfl Tryz.ntmps19 Tryz.results19 rfl ?_
  refine W.seq ?_
  refine W.reg ?_
  refine Wx.rd (v := .int .i64 0) (rd_assign rfl) rfl ?_
  refine Wx.nil ?_
  refine W.seq ?_
  refine W.reg ?_
  refine Wx.rd (v := tv) (rd_move rfl) rfl ?_
  refine Wx.rd (v := .int .i64 (td.length : Int)) (rd_lenV rfl (hS.arg a_tv) Tryz.underlying25) rfl ?_
  refine Wx.rd (v := .int .i64 (td.length : Int)) (rd_assign rfl) rfl ?_
  refine Wx.nil ?_
  refine W.seq ?_
  refine W.seq ?_
  refine W.reg ?_
  refine Wx.rd (v := .int .i64 (td.length : Int)) (rd_move rfl) rfl ?_
  refine Wx.callF (run_callF Tryz.call25 rfl) (F25 (in_i64 (by omega) (by omega)) (in_i64 (by omega) (by omega)) (in_i64 (by omega) (by omega))) rfl ?_
  rintro r_1 w_2 hx_3 rfl
  have hS := hS.ext hx_3
  refine Wx.rd (v := .bool (!(decide (1 ≤ (td.length : Int)) && decide ((td.length : Int) ≤ 7)))) (rd_not rfl) rfl ?_
  refine Wx.nil ?_
  refine W.condF rfl (by rw [decide_eq_true (by omega), decide_eq_true (by omega)]; rfl) ?_
  refine W.skip ?_
  refine W.seq ?_
  refine W.reg ?_
  refine Wx.rd (v := .int .i64 0) (rd_assign rfl) rfl ?_
  refine Wx.nil ?_
  refine W.seq ?_
  refine W.seq ?_
  refine W.reg ?_
  refine Wx.rd (v := tv) (rd_move rfl) rfl ?_
  refine Wx.rd (v := .int .i64 (td.length : Int)) (rd_lenV rfl (hS.arg a_tv) Tryz.underlying25) rfl ?_
  refine Wx.rd (v := .int .i64 0) (rd_move rfl) rfl ?_
  refine Wx.nil ?_
  refine W.block ?_
  refine W.loop [2, 4, 6, 14, 15, 16, 17, 18, 19, 20, 21, 22, 23, 24, 25, 26, 27, 28, 29, 30, 31, 32, 33, 34] (fun x : Int × Int => match x with | (met, k) => [(4, .int .i64 met), (14, .int .i64 k)]) (fun (x : Int × Int) w' => match x with | (met, k) => St w [] w' [] ∧ 0 ≤ k ∧ k ≤ td.length ∧ MskI td.length met (mrkV td.length (td.take k.toNat))) (fun x : Int × Int => match x with | (met, k) => (td.length - k).toNat) (0, 0) ⟨rfl, rfl, trivial⟩ ⟨hS, (by first | omega | simp), (by first | omega | simp), (msk_start (by omega))⟩ ?_
  rintro ⟨met, k⟩ u_5 w_4 ⟨hS, h0, h1, h2⟩
  refine W.seq ?_
  refine W.reg ?_
  refine Wx.rd (v := .bool (decide (k < (td.length : Int)))) (rd_lss rfl rfl) rfl ?_
  refine Wx.nil ?_
  refine W.seq ?_
  refine W.condD rfl (fun c1 => ?_) (fun c1 => ?_)
  · -- yes
    have ha := p_g.p.at_ (i := k) h0 (by omega)
    have hmk := msk_take p_g.p (by omega) h2 h0 (by omega)
    refine W.skip ?_
    refine W.seq ?_
    refine W.block ?_
    refine W.seq ?_
    refine W.reg ?_
    refine Wx.ex (rd_index 0 (hS.arg a_tv) rfl rfl Tryz.underlying25 Tryz.sizeOf3 (by first | omega | (simp only [List.length_set, List.length_append, List.length_cons, List.length_nil, List.length_replicate]; omega)) (by first | omega | (simp only [List.length_set, List.length_append, List.length_cons, List.length_nil, List.length_replicate]; omega))) rfl (fun p_6 hp_7 => ?_)
    refine Wx.rd (v := .int .i64 (ix 0 td k)) (rd_loadI hp_7 rfl Tryz.isAgg3 Tryz.sizeOf3) rfl ?_
    have bd_8 := bd_i64 hp_7.inK
    refine Wx.rd (v := .int .i64 (ix 0 td k)) (rd_assign rfl) rfl ?_
    refine Wx.nil ?_
    refine W.seq ?_
    refine W.block ?_
    refine W.seq ?_
    refine W.reg ?_
    refine Wx.rd (v := .int .i64 (ix 0 td k)) (rd_move rfl) rfl ?_
    refine Wx.rd (v := .int .i64 (td.length : Int)) (rd_move rfl) rfl ?_
    refine Wx.rd (v := .int .i64 ((td.length : Int) - 1)) (rd_sub rfl rfl (in_i64 (by omega) (by omega))) rfl ?_
    refine Wx.callF (run_callF Tryz.call25 rfl) (F25 (in_i64 (by omega) (by omega)) (in_i64 (by omega) (by omega)) (in_i64 (by omega) (by omega))) rfl ?_
    rintro r_9 w_10 hx_11 rfl
    have hS := hS.ext hx_11
    refine Wx.rd (v := .bool (!(decide (0 ≤ (ix 0 td k)) && decide ((ix 0 td k) ≤ ((td.length : Int) - 1))))) (rd_not rfl) rfl ?_
    refine Wx.rd (v := .bool (!(decide (0 ≤ (ix 0 td k)) && decide ((ix 0 td k) ≤ ((td.length : Int) - 1))))) (rd_assign rfl) rfl ?_
    refine Wx.nil ?_
    refine W.condF rfl (by rw [decide_eq_true (by omega), decide_eq_true (by omega)]; rfl) ?_
    refine W.seq ?_
    refine W.reg ?_
    refine Wx.rd (v := .int .i64 met) (rd_move rfl) rfl ?_
    refine Wx.rd (v := .int .i64 (ix 0 td k)) (rd_move rfl) rfl ?_
    refine Wx.rd (v := .int .i64 (met / 2 ^ min (ix 0 td k).toNat (IntKind.i64).bits)) (rd_shr rfl rfl (by omega)) rfl ?_
    refine Wx.rd (v := .int .i64 (bits .and .i64 (met / 2 ^ min (ix 0 td k).toNat (IntKind.i64).bits) 1)) (rd_and rfl rfl) rfl ?_
    have bd_12 := bd_i64 (bits_in .and .i64 (met / 2 ^ min (ix 0 td k).toNat (IntKind.i64).bits) 1)
    refine Wx.rd (v := .bool (decide ((bits .and .i64 (met / 2 ^ min (ix 0 td k).toNat (IntKind.i64).bits) 1) = 1))) (rd_eql rfl rfl) rfl ?_
    refine Wx.rd (v := .bool (decide ((bits .and .i64 (met / 2 ^ min (ix 0 td k).toNat (IntKind.i64).bits) 1) = 1))) (rd_assign rfl) rfl ?_
    refine Wx.nil ?_
    refine W.condF rfl (decide_eq_false (by have hq := hmk.1; unfold bitV at hq; omega)) ?_
    refine W.skip ?_
    refine W.reg ?_
    refine Wx.rd (v := .int .i64 met) (rd_move rfl) rfl ?_
    refine Wx.rd (v := .int .i64 (ix 0 td k)) (rd_move rfl) rfl ?_
    refine Wx.rd (v := .int .i64 (IntKind.i64.wrap (1 * 2 ^ min (ix 0 td k).toNat (IntKind.i64).bits))) (rd_shl rfl rfl (by omega)) rfl ?_
    have bd_13 := bd_i64 (wrap_inK .i64 (1 * 2 ^ min (ix 0 td k).toNat (IntKind.i64).bits))
    refine Wx.rd (v := .int .i64 (bits .or .i64 met (IntKind.i64.wrap (1 * 2 ^ min (ix 0 td k).toNat (IntKind.i64).bits)))) (rd_or rfl rfl) rfl ?_
    have bd_14 := bd_i64 (bits_in .or .i64 met (IntKind.i64.wrap (1 * 2 ^ min (ix 0 td k).toNat (IntKind.i64).bits)))
    refine Wx.rd (v := .int .i64 (bits .or .i64 met (IntKind.i64.wrap (1 * 2 ^ min (ix 0 td k).toNat (IntKind.i64).bits)))) (rd_assign rfl) rfl ?_
    refine Wx.nil ?_
    refine W.reg ?_
    refine Wx.rd (v := .int .i64 (k + 1)) (rd_add rfl rfl (in_i64 (by omega) (by omega))) rfl ?_
    refine Wx.rd (v := .int .i64 (k + 1)) (rd_move rfl) rfl ?_
    refine Wx.nil ?_
    refine ⟨(bits .or .i64 met (IntKind.i64.wrap (1 * 2 ^ min (ix 0 td k).toNat (IntKind.i64).bits)), k + 1), (by show (td.length - (k + 1)).toNat < (td.length - k).toNat; omega), ?_, ?_, Out.look rfl Out.self⟩
    · exact ⟨hS, (by first | omega | assumption), (by first | omega | assumption), (hmk.2)⟩
    · exact ⟨rfl, rfl, trivial⟩
  · -- no
    refine W.exit rfl ?_
    refine W.seq ?_
    refine W.reg ?_
    refine Wx.rd (v := .int .i64 0) (rd_assign rfl) rfl ?_
    refine Wx.nil ?_
    exact W.ret ⟨.int .i64 0, ResIs.one, hS.bel, rfl⟩

set_option maxHeartbeats 1000000 in
theorem F20 {tv : Value} {td : List Int} {O : List (Option Nat)} {w : World} (h_tv : V (tSl (tI .i64)) td tv O w) (p_g : GW td) (hO : ∀ b, some b ∈ O → b < w.heap.size) : Calls Tryz.prog 20 #[tv] w (Ret w (fun r w' => ∃ rv, r = rv ∧ FreshO (tSl (tI .i64)) 25 (wrV td) rv O w.heap.size w')) := by
  have hn := p_g.n1
  have hpm := p_g.p
  have hto : ToOK td.length td := ⟨rfl, fun x x0 x1 => by have := p_g.p.at_ (i := x) x0 x1; omega⟩
  have a_tv := h_tv
  have l_tv := h_tv.len63
  have hS := St.start w O hO
  refine enterR Tryz.func20 rfl Tryz.ntmps20 Tryz.results20 rfl ?_
  refine W.seq ?_
  refine W.reg ?_
  refine Wx.rd (v := (.slice none 0 0)) (rd_assign rfl) rfl ?_
  refine Wx.nil ?_
  refine W.seq ?_
  refine W.reg ?_
  refine Wx.rd (v := (.slice none 0 0)) (rd_assign rfl) rfl ?_
  refine Wx.nil ?_
  refine W.seq ?_
  refine W.reg ?_
  refine Wx.rd (v := .int .i64 0) (rd_assign rfl) rfl ?_
  refine Wx.nil ?_
  refine W.seq ?_
  refine W.seq ?_
  refine W.reg ?_
  refine Wx.rd (v := tv) (rd_move rfl) rfl ?_
  refine Wx.rd (v := .int .i64 (td.length : Int)) (rd_lenV rfl (hS.arg a_tv) Tryz.underlying25) rfl ?_
  refine Wx.rd (v := .int .i64 0) (rd_move rfl) rfl ?_
  refine Wx.nil ?_
  refine W.block ?_
  have hS := hS.addNil (tSl (tI .i64)) 25
  refine W.loop [3, 4, 5, 6, 9, 10, 11, 12, 13, 14, 15, 16, 17, 18, 19, 20, 21, 22, 23, 24, 25, 26, 27, 28, 29, 30, 31, 32, 33, 34, 35] (fun x : Int × Int × Value × (List (List Int)) × (List Int) => match x with | (mt, i, v2, R2, M) => [(4, .int .i64 mt), (9, .int .i64 i), (3, v2)]) (fun (x : Int × Int × Value × (List (List Int)) × (List Int)) w' => match x with | (mt, i, v2, R2, M) => St w O w' [.row (tSl (tI .i64)) 25 v2 R2] ∧ 0 ≤ i ∧ i ≤ td.length ∧ MskI td.length mt M ∧ wrK td i = (M, R2) ∧ (R2.length : Int) ≤ i) (fun x : Int × Int × Value × (List (List Int)) × (List Int) => match x with | (mt, i, v2, R2, M) => (td.length - i).toNat) (0, 0, (.slice none 0 0), [], (List.replicate td.length 0)) ⟨rfl, rfl, rfl, trivial⟩ ⟨hS, (by first | omega | simp), (by first | omega | simp), (msk_start (by omega)), (rfl), (by simp)⟩ ?_
  rintro ⟨mt, i, v2, R2, M⟩ u_2 w_1 ⟨hS, h0, h1, h2, h3, h4⟩
  refine W.seq ?_
  refine W.reg ?_
  refine Wx.rd (v := .bool (decide (i < (td.length : Int)))) (rd_lss rfl rfl) rfl ?_
  refine Wx.nil ?_
  refine W.seq ?_
  refine W.condD rfl (fun c0 => ?_) (fun c0 => ?_)
  · -- yes
    refine W.skip ?_
    refine W.seq ?_
    refine W.block ?_
    refine W.seq ?_
    refine W.reg ?_
    refine Wx.rd (v := .int .i64 i) (rd_move rfl) rfl ?_
    refine Wx.rd (v := .int .i64 i) (rd_assign rfl) rfl ?_
    refine Wx.nil ?_
    refine W.seq ?_
    refine W.reg ?_
    refine Wx.rd (v := (.slice none 0 0)) (rd_assign rfl) rfl ?_
    refine Wx.nil ?_
    refine W.seq ?_
    refine W.block ?_
    have hS := hS.addNil (tI .i64) 3
    refine W.loop [4, 5, 6, 12, 13, 14, 15, 16, 17, 18, 19, 20, 21, 22, 23, 24, 25, 26, 27, 28] (fun x : Int × Int × Value × (List Int) × (List Int) => match x with | (mu, p2, lv, ls, M2) => [(4, .int .i64 mu), (5, .int .i64 p2), (6, lv)]) (fun (x : Int × Int × Value × (List Int) × (List Int)) w' => match x with | (mu, p2, lv, ls, M2) => St w O w' [.row (tI .i64) 3 lv ls, .row (tSl (tI .i64)) 25 v2 R2] ∧ 0 ≤ p2 ∧ p2 < (td.length : Int) ∧ MskI td.length mu M2 ∧ ls ++ (pthV td 1 M2 p2).1 = (pthV td 1 M i).1 ∧ (pthV td 1 M2 p2).2 = (pthV td 1 M i).2 ∧ (ls = [] → lv = .slice none 0 0) ∧ ls.length + M2.count 0 ≤ 7) (fun x : Int × Int × Value × (List Int) × (List Int) => match x with | (mu, p2, lv, ls, M2) => M2.count 0) (mt, i, (.slice none 0 0), [], M) ⟨rfl, rfl, rfl, trivial⟩ ⟨hS, (by first | omega | simp), (by first | omega | simp), (h2), (rfl), (rfl), (fun _ => rfl), (by have := List.count_le_length (a := (0 : Int)) (l := M); rw [h2.l] at this; simp; omega)⟩ ?_
    rintro ⟨mu, p2, lv, ls, M2⟩ u_4 w_3 ⟨hS, j2, j3, m1, m2, m3, m4, m5⟩
    refine W.seq ?_
    refine W.seq ?_
    refine W.reg ?_
    refine Wx.rd (v := .int .i64 mu) (rd_move rfl) rfl ?_
    refine Wx.rd (v := .int .i64 p2) (rd_move rfl) rfl ?_
    refine Wx.rd (v := .int .i64 (mu / 2 ^ min p2.toNat (IntKind.i64).bits)) (rd_shr rfl rfl (by omega)) rfl ?_
    refine Wx.rd (v := .int .i64 (bits .and .i64 (mu / 2 ^ min p2.toNat (IntKind.i64).bits) 1)) (rd_and rfl rfl) rfl ?_
    have bd_5 := bd_i64 (bits_in .and .i64 (mu / 2 ^ min p2.toNat (IntKind.i64).bits) 1)
    refine Wx.rd (v := .bool (decide ((bits .and .i64 (mu / 2 ^ min p2.toNat (IntKind.i64).bits) 1) = 0))) (rd_eql rfl rfl) rfl ?_
    refine Wx.nil ?_
    refine W.condD rfl (fun c1 => ?_) (fun c1 => ?_)
    · -- yes
      have hpt := hpm.at_ (i := p2) j2 (by omega)
      have hbit := m1.at_ p2 j2 j3
      have hMz : ix 0 M2 p2 = 0 := by unfold bitV at hbit; split at hbit <;> omega
      have hnx := pthV_next (to := td) (k := 1) (met := M2) (a := p2) (by decide) j2 (by rw [m1.l]; exact j3) hpt.1 hMz
      have hms := msk_or m1 j2 j3
      refine W.skip ?_
      refine W.seq ?_
      refine W.block ?_
      refine W.seq ?_
      refine W.reg ?_
      refine Wx.rd (v := .int .i64 mu) (rd_move rfl) rfl ?_
      refine Wx.rd (v := .int .i64 p2) (rd_move rfl) rfl ?_
      refine Wx.rd (v := .int .i64 (IntKind.i64.wrap (1 * 2 ^ min p2.toNat (IntKind.i64).bits))) (rd_shl rfl rfl (by omega)) rfl ?_
      have bd_6 := bd_i64 (wrap_inK .i64 (1 * 2 ^ min p2.toNat (IntKind.i64).bits))
      refine Wx.rd (v := .int .i64 (bits .or .i64 mu (IntKind.i64.wrap (1 * 2 ^ min p2.toNat (IntKind.i64).bits)))) (rd_or rfl rfl) rfl ?_
      have bd_7 := bd_i64 (bits_in .or .i64 mu (IntKind.i64.wrap (1 * 2 ^ min p2.toNat (IntKind.i64).bits)))
      refine Wx.rd (v := .int .i64 (bits .or .i64 mu (IntKind.i64.wrap (1 * 2 ^ min p2.toNat (IntKind.i64).bits)))) (rd_assign rfl) rfl ?_
      refine Wx.nil ?_
      refine W.reg ?_
      refine Wx.rd (v := lv) (rd_move rfl) rfl ?_
      refine Wx.rd (v := .int .i64 p2) (rd_move rfl) rfl ?_
      refine Wx.lit (t := (tI .i64)) (ys := [p2]) (vs := [.int .i64 p2]) elNa_25 hS rfl rfl ⟨(V.mkInt (in_i64 (by omega) (by omega))), trivial⟩ (by decide) rfl (fun v_8 w_9 hx_10 hS => ?_)
      refine Wx.append elNa_25 hS 1 rfl rfl rfl (Src.ofR hS 0 rfl) (by simp only [maxLen]; first | omega | (simp; omega) | simp) (by first | omega | (simp; omega) | simp) rfl (fun v_11 w_12 hz_13 hS => ?_)
      refine Wx.rd (v := v_11) (rd_assign rfl) rfl ?_
      refine Wx.nil ?_
      refine W.reg ?_
      refine Wx.rd (v := tv) (rd_move rfl) rfl ?_
      refine Wx.rd (v := .int .i64 p2) (rd_move rfl) rfl ?_
      refine Wx.ex (rd_index 0 (hS.arg a_tv) rfl rfl Tryz.underlying25 Tryz.sizeOf3 (by first | omega | (simp only [List.length_set, List.length_append, List.length_cons, List.length_nil, List.length_replicate]; omega)) (by first | omega | (simp only [List.length_set, List.length_append, List.length_cons, List.length_nil, List.length_replicate]; omega))) rfl (fun p_14 hp_15 => ?_)
      refine Wx.rd (v := .int .i64 (ix 0 td p2)) (rd_loadI hp_15 rfl Tryz.isAgg3 Tryz.sizeOf3) rfl ?_
      have bd_16 := bd_i64 hp_15.inK
      refine Wx.rd (v := .int .i64 (ix 0 td p2)) (rd_assign rfl) rfl ?_
      refine Wx.nil ?_
      refine ⟨(bits .or .i64 mu (IntKind.i64.wrap (1 * 2 ^ min p2.toNat (IntKind.i64).bits)), ix 0 td p2, v_11, ls ++ [p2], M2.set p2.toNat 1), (by have := count_set0 (k := 1) j2 (by rw [m1.l]; exact j3) hMz (by decide); show (M2.set p2.toNat 1).count 0 < M2.count 0; omega), ?_, ?_, Out.look rfl Out.self⟩
      · exact ⟨hS.tl, (by first | omega | assumption), (by first | omega | assumption), (hms), (by rw [← m2, hnx, List.append_assoc]; rfl), (by rw [← m3, hnx]), (fun h => by simp at h), (by have := count_set0 (k := 1) j2 (by rw [m1.l]; exact j3) hMz (by decide); simp; omega)⟩
      · exact ⟨rfl, rfl, rfl, trivial⟩
    · -- no
      have hpt := hpm.at_ (i := p2) j2 (by omega)
      have hbit := m1.at_ p2 j2 j3
      have hend := pthV_end (to := td) (k := 1) (met := M2) (a := p2) (by unfold bitV at hbit; split at hbit <;> omega)
      rw [hend] at m2 m3
      simp only [List.append_nil] at m2
      have hS := hS.freeze 0 rfl
      refine W.exit rfl ?_
      refine W.seq ?_
      refine W.reg ?_
      refine Wx.rd (v := lv) (rd_move rfl) rfl ?_
      refine Wx.rd (v := .bool (!(decide (ls = [])))) (rd_neqlNilI (hS.v 0 rfl) rfl rfl Tryz.underlying25 m4) rfl ?_
      refine Wx.nil ?_
      refine W.cond rfl (fun c2 => ?_) (fun c2 => ?_)
      · -- yes
        try simp only [Bool.and_eq_true, Bool.or_eq_true, Bool.not_eq_true', Bool.and_eq_false_iff, Bool.or_eq_false_iff, Bool.not_eq_false', decide_eq_true_eq, decide_eq_false_iff_not, not_or, Bool.false_eq_true, Bool.true_eq_false, false_or, or_false, not_false_eq_true] at c2
        refine W.reg ?_
        refine Wx.rd (v := v2) (rd_move rfl) rfl ?_
        refine Wx.rd (v := lv) (rd_move rfl) rfl ?_
        refine Wx.lit (t := (tSl (tI .i64))) (ys := [ls]) (vs := [lv]) elNa_24 hS rfl rfl ⟨(hS.v 0 rfl), trivial⟩ (by decide) rfl (fun v_18 w_19 hx_20 hS => ?_)
        refine Wx.append elNa_24 hS 2 rfl rfl rfl (Src.ofR hS 0 rfl) (by simp only [maxLen]; first | omega | (simp; omega) | simp) (by first | omega | (simp; omega) | simp) rfl (fun v_21 w_22 hz_23 hS => ?_)
        refine Wx.rd (v := v_21) (rd_assign rfl) rfl ?_
        refine Wx.nil ?_
        refine W.reg ?_
        refine Wx.rd (v := .int .i64 (i + 1)) (rd_add rfl rfl (in_i64 (by omega) (by omega))) rfl ?_
        refine Wx.rd (v := .int .i64 (i + 1)) (rd_move rfl) rfl ?_
        refine Wx.nil ?_
        refine ⟨(mu, i + 1, v_21, R2 ++ [ls], M2), (by show (td.length - (i + 1)).toNat < (td.length - i).toNat; omega), ?_, ?_, Out.look rfl (Out.hav rfl (Out.look rfl Out.self))⟩
        · exact ⟨St.tl (hS.tl), (by first | omega | assumption), (by first | omega | assumption), (m1), (by rw [wr_next h0 (by omega), h3, wrS, ← m2, ← m3, if_neg (by simpa using c2)]), (by simp only [List.length_append, List.length_cons, List.length_nil]; omega)⟩
        · exact ⟨rfl, rfl, rfl, trivial⟩
      · -- no
        try simp only [Bool.and_eq_true, Bool.or_eq_true, Bool.not_eq_true', Bool.and_eq_false_iff, Bool.or_eq_false_iff, Bool.not_eq_false', decide_eq_true_eq, decide_eq_false_iff_not, not_or, Bool.false_eq_true, Bool.true_eq_false, false_or, or_false, not_false_eq_true] at c2
        refine W.skip ?_
        refine W.reg ?_
        refine Wx.rd (v := .int .i64 (i + 1)) (rd_add rfl rfl (in_i64 (by omega) (by omega))) rfl ?_
        refine Wx.rd (v := .int .i64 (i + 1)) (rd_move rfl) rfl ?_
        refine Wx.nil ?_
        refine ⟨(mu, i + 1, v2, R2, M2), (by show (td.length - (i + 1)).toNat < (td.length - i).toNat; omega), ?_, ?_, Out.look rfl (Out.hav rfl (Out.look rfl Out.self))⟩
        · exact ⟨hS.tl, (by first | omega | assumption), (by first | omega | assumption), (m1), (by rw [wr_next h0 (by omega), h3, wrS, ← m2, ← m3, if_pos (by simpa using c2)]), (by first | omega | assumption)⟩
        · exact ⟨rfl, rfl, rfl, trivial⟩
  · -- no
    refine W.exit rfl ?_
    refine W.seq ?_
    refine W.reg ?_
    refine Wx.rd (v := v2) (rd_move rfl) rfl ?_
    refine Wx.rd (v := v2) (rd_assign rfl) rfl ?_
    refine Wx.nil ?_
    have e0_0 : wrV td = R2 := by rw [← wr_all (i := i) (by omega), h3]
    exact W.ret ⟨v2, ResIs.one, hS.bel, ⟨v2, rfl, (by rw [e0_0]; exact (hS.frO 0 rfl))⟩⟩
end Go.Proofs.YtlibemgaepkceaaGreatDoor

namespace Go.Proofs.YtlibemgaepkceaaGreatDoor
open Go.Wk Go.RowKit Go.Lib
set_option linter.unusedVariables false
set_option linter.unusedSimpArgs false
theorem elNb_25 : ElemI Tryz.prog 25 3 (.int .i64 0) 1 8 := ElemI.of Tryz.underlying25 (by kernel_rfl) (by first | rfl | kernel_rfl) (by decide)

theorem F24 {tv : Value} {td : List Int} {Fr_tv : List (Option Nat)} {w : World} (h_tv : V (tSl (tI .i64)) td tv Fr_tv w) (p_g : GW td) : Calls Tryz.prog 24 #[tv] w (Ret w (fun r _ => r = .agg (List.map (Value.int .i64) (kdV td)).toArray)) := by
  have hn := p_g.n1
  have hl6 := p_g.l6
  have hkl := kdV_len (tide := td)
  have a_tv := h_tv.any
  have l_tv := h_tv.len63
  have hS := St.start0 w
  refine enterR Tryz.func24 rfl Tryz.ntmps24 Tryz.results24 rfl ?_
  refine W.seq ?_
  refine W.reg ?_
  refine Wx.alloc (cs := List.map (Value.int .i64) (List.replicate 8 (0 : Int))) hS Tryz.zeroValue60 (by kernel_rfl) rfl (fun g_1 w_2 hx_4 hb_3 hS => ?_)
  have hS : St _ _ w_2 [.box g_1 60 (List.map (Value.int .i64) (List.replicate 8 (0 : Int)))] := hS
  refine Wx.nil ?_
  refine W.seq ?_
  refine W.reg ?_
  refine Wx.alloc (cs := List.map (Value.int .i64) (List.replicate 8 (0 : Int))) hS Tryz.zeroValue60 (by kernel_rfl) rfl (fun g_5 w_6 hx_8 hb_7 hS => ?_)
  have hS : St _ _ w_6 [.box g_5 60 (List.map (Value.int .i64) (List.replicate 8 (0 : Int))), .box g_1 60 (List.map (Value.int .i64) (List.replicate 8 (0 : Int)))] := hS
  refine Wx.nil ?_
  refine W.seq ?_
  refine W.seq ?_
  refine W.reg ?_
  refine Wx.rd (v := tv) (rd_move rfl) rfl ?_
  refine Wx.callF (run_callF Tryz.call20 rfl) (F20 (hS.arg a_tv) p_g hS.fb_lt) rfl ?_
  rintro r_9 w_10 hx_11 ⟨_, rfl, hv_12⟩
  have hS := hS.pushFrO hx_11 hv_12
  refine Wx.rd (v := .int .i64 ((wrV td).length : Int)) (rd_lenR hS 0 rfl rfl Tryz.underlying24) rfl ?_
  refine Wx.rd (v := .int .i64 0) (rd_move rfl) rfl ?_
  refine Wx.nil ?_
  refine W.block ?_
  refine W.loop [5, 9, 10, 11, 12, 13, 14, 15, 16, 17, 18, 19] (fun x : Int × (List Int) => match x with | (k, K) => [(9, .int .i64 k)]) (fun (x : Int × (List Int)) w' => match x with | (k, K) => St w [] w' [.row (tSl (tI .i64)) 25 r_9 (wrV td), .box g_5 60 (List.map (Value.int .i64) K), .box g_1 60 (List.map (Value.int .i64) (List.replicate 8 (0 : Int)))] ∧ 0 ≤ k ∧ k ≤ (wrV td).length ∧ K = kdK (wrV td) k) (fun x : Int × (List Int) => match x with | (k, K) => ((wrV td).length - k).toNat) (0, (List.replicate 8 (0 : Int))) ⟨rfl, trivial⟩ ⟨hS, (by first | omega | simp), (by first | omega | simp), (rfl)⟩ ?_
  rintro ⟨k, K⟩ u_15 w_14 ⟨hS, h0, h1, h2⟩
  have hKl : K.length = 8 := by rw [h2, kd_len]
  refine W.seq ?_
  refine W.reg ?_
  refine Wx.rd (v := .bool (decide (k < ((wrV td).length : Int)))) (rd_lss rfl rfl) rfl ?_
  refine Wx.nil ?_
  refine W.seq ?_
  refine W.condD rfl (fun c0 => ?_) (fun c0 => ?_)
  · -- yes
    have hll := p_g.ll _ (ix_memR (d := ([] : List Int)) h0 (by omega))
    have hkb := kd_bd (R := wrV td) k.toNat (by omega) ((ix [] (wrV td) k).length : Int)
    rw [Int.toNat_of_nonneg h0, ← h2] at hkb
    refine W.skip ?_
    refine W.seq ?_
    refine W.block ?_
    refine W.seq ?_
    refine W.reg ?_
    refine Wx.indexR hS 0 rfl rfl rfl Tryz.underlying24 Tryz.sizeOf25 (by first | omega | (simp only [List.length_set, List.length_append, List.length_cons, List.length_nil, List.length_replicate]; omega)) (by first | omega | (simp only [List.length_set, List.length_append, List.length_cons, List.length_nil, List.length_replicate]; omega)) rfl (fun g_16 hg_17 => ?_)
    refine Wx.ex (rd_loadR' [] hS 0 rfl hg_17 rfl (by first | omega | (simp only [List.length_set, List.length_append, List.length_cons, List.length_nil, List.length_replicate]; omega)) (by first | omega | (simp only [List.length_set, List.length_append, List.length_cons, List.length_nil, List.length_replicate]; omega)) Tryz.isAgg25 Tryz.sizeOf25) rfl (fun v_18 hv_19 => ?_)
    have ln_20 := hv_19.len63
    have hS := hS.add hv_19
    refine Wx.rd (v := v_18) (rd_assign rfl) rfl ?_
    refine Wx.nil ?_
    refine W.reg ?_
    refine Wx.rd (v := v_18) (rd_move rfl) rfl ?_
    refine Wx.rd (v := .int .i64 ((ix [] (wrV td) k).length : Int)) (rd_lenV rfl (hS.v 0 rfl) Tryz.underlying25) rfl ?_
    refine Wx.rd (v := .pointer (some ⟨g_5, 0 + ((ix [] (wrV td) k).length : Int).toNat * 1, none⟩)) (rd_indexArr rfl rfl Tryz.underlying60 Tryz.sizeOf3 (by omega) (by omega)) rfl ?_
    refine Wx.rd (v := .int .i64 (ix 0 K ((ix [] (wrV td) k).length : Int))) (rd_loadXa (d := 0) (f := (Value.int .i64)) (j := ((ix [] (wrV td) k).length : Int)) hS 2 rfl rfl (by omega) (by omega) (by omega) Tryz.isAgg3) rfl ?_
    refine Wx.rd (v := .int .i64 ((ix 0 K ((ix [] (wrV td) k).length : Int)) + 1)) (rd_add rfl rfl (in_i64 (by omega) (by omega))) rfl ?_
    refine Wx.rd (v := .pointer (some ⟨g_5, 0 + ((ix [] (wrV td) k).length : Int).toNat * 1, none⟩)) (rd_indexArr rfl rfl Tryz.underlying60 Tryz.sizeOf3 (by omega) (by omega)) rfl ?_
    refine Wx.storeXa (j := ((ix [] (wrV td) k).length : Int)) (f := (Value.int .i64)) (u := ((ix 0 K ((ix [] (wrV td) k).length : Int)) + 1)) hS 2 rfl rfl (by omega) rfl rfl rfl Tryz.sizeOf3 (by omega) (by omega) (fun w_22 hz_23 hS => ?_)
    refine Wx.nil ?_
    refine W.reg ?_
    refine Wx.rd (v := .int .i64 (k + 1)) (rd_add rfl rfl (in_i64 (by omega) (by omega))) rfl ?_
    refine Wx.rd (v := .int .i64 (k + 1)) (rd_move rfl) rfl ?_
    refine Wx.nil ?_
    refine ⟨(k + 1, List.set K ((ix [] (wrV td) k).length : Int).toNat ((ix 0 K ((ix [] (wrV td) k).length : Int)) + 1)), (by show ((wrV td).length - (k + 1)).toNat < ((wrV td).length - k).toNat; omega), ?_, ?_, Out.look rfl Out.self⟩
    · exact ⟨hS.tl, (by first | omega | assumption), (by first | omega | assumption), (by rw [kd_next h0 (by omega), ← h2]; simp [kdS])⟩
    · exact ⟨rfl, trivial⟩
  · -- no
    refine W.exit rfl ?_
    refine W.seq ?_
    refine W.reg ?_
    refine Wx.rd (v := .agg (List.map (Value.int .i64) K).toArray) (rd_loadXs (ds := List.map (Value.int .i64) K) hS 1 rfl rfl (by rw [List.drop_zero, List.take_of_length_le (by simp; omega)]) (by simp; omega) Tryz.isAgg60 Tryz.sizeOf60) rfl ?_
    refine Wx.storeX (cs' := List.map (Value.int .i64) K) (ds := List.map (Value.int .i64) K) hS 2 rfl rfl rfl rfl (fun w' => by rw [List.length_map, show List.length K = 8 by first | omega | (simp; omega) | simp]; exact Tryz.sizeOf60 w') (by first | (simp; omega) | simp) (by intro u hu; obtain ⟨_, _, rfl⟩ := List.mem_map.1 hu; rfl) (by rw [List.take_zero, List.nil_append, List.drop_of_length_le (by first | (simp; omega) | simp), List.append_nil]) (fun w_24 hz_25 hS => ?_)
    refine Wx.nil ?_
    have e0_0 : (kdV td) = K := by rw [h2, kd_all (by omega)]
    exact W.ret ⟨.agg (List.map (Value.int .i64) K).toArray, (ResIs.cell1 hS 2 rfl rfl Tryz.isAgg60 (fun w' => by rw [List.length_map, show List.length K = 8 by first | omega | (simp; omega) | simp]; exact Tryz.sizeOf60 w')), hS.bel, (by rw [e0_0])⟩

theorem F8 {tv : Value} {td : List Int} {O : List (Option Nat)} {w : World} (h_tv : V (tSl (tI .i64)) td tv O w) (p_g : GW td) (hO : ∀ b, some b ∈ O → b < w.heap.size) : Calls Tryz.prog 8 #[tv] w (Ret w (fun r w' => ∃ rv, r = .tuple #[rv, .int .i64 0] ∧ FreshO (tSl (tI .i64)) 25 (wrV td) rv O w.heap.size w')) := by
  have a_tv := h_tv
  have l_tv := h_tv.len63
  have hS := St.start w O hO
  refine enterR Tryz.func8 rfl Tryz.ntmps8 Tryz.results8 rfl ?_
  refine W.seq ?_
  refine W.reg ?_
  refine Wx.rd (v := (.slice none 0 0)) (rd_assign rfl) rfl ?_
  refine Wx.rd (v := .int .i64 0) (rd_assign rfl) rfl ?_
  refine Wx.nil ?_
  refine W.seq ?_
  refine W.seq ?_
  refine W.reg ?_
  refine Wx.rd (v := tv) (rd_move rfl) rfl ?_
  refine Wx.callF (run_callF Tryz.call19 rfl) (F19 (hS.arg a_tv) p_g) rfl ?_
  rintro r_1 w_2 hx_3 rfl
  have hS := hS.ext hx_3
  refine Wx.rd (v := .int .i64 0) (rd_assign rfl) rfl ?_
  refine Wx.nil ?_
  refine W.seq ?_
  refine W.reg ?_
  refine Wx.rd (v := .int .i64 0) (rd_move rfl) rfl ?_
  refine Wx.rd (v := .bool false) (Rd.to (v := .bool (decide ((0 : Int) ≠ 0))) (rd_neq rfl rfl) rfl) rfl ?_
  refine Wx.nil ?_
  refine W.condF rfl rfl ?_
  refine W.skip ?_
  refine W.seq ?_
  refine W.reg ?_
  refine Wx.rd (v := tv) (rd_move rfl) rfl ?_
  refine Wx.callF (run_callF Tryz.call20 rfl) (F20 (hS.arg a_tv) p_g hS.fb_lt) rfl ?_
  rintro r_4 w_5 hx_6 ⟨_, rfl, hv_7⟩
  have hS := hS.pushFrO hx_6 hv_7
  refine Wx.rd (v := r_4) (rd_assign rfl) rfl ?_
  refine Wx.rd (v := .int .i64 0) (rd_assign rfl) rfl ?_
  refine Wx.nil ?_
  exact W.ret ⟨.tuple #[r_4, .int .i64 0], ResIs.two, hS.bel, ⟨r_4, rfl, (hS.frO 0 rfl)⟩⟩

set_option maxHeartbeats 1000000 in
theorem F12 {tv : Value} {td : List Int} {t : Int} {O : List (Option Nat)} {w : World} (h_tv : V (tSl (tI .i64)) td tv O w) (i_t : InK .i64 t) (p_g : GW td) (p_t : 0 ≤ t ∧ t ≤ 1000) (hO : ∀ b, some b ∈ O → b < w.heap.size) : Calls Tryz.prog 12 #[tv, .int .i64 t] w (Ret w (fun r w' => ∃ rv, r = .tuple #[rv, .int .i64 0] ∧ Fresh (tI .i64) 3 (afV td t) rv w.heap.size w')) := by
  have b_t := bd_i64 i_t
  have hn := p_g.n1
  have hl6 := p_g.l6
  have a_tv := h_tv
  have l_tv := h_tv.len63
  have hS := St.start w O hO
  refine enterR Tryz.func12 rfl Tryz.ntmps12 Tryz.results12 rfl ?_
  refine W.seq ?_
  refine W.reg ?_
  refine Wx.rd (v := (.slice none 0 0)) (rd_assign rfl) rfl ?_
  refine Wx.rd (v := .int .i64 0) (rd_assign rfl) rfl ?_
  refine Wx.nil ?_
  refine W.seq ?_
  refine W.reg ?_
  refine Wx.rd (v := tv) (rd_move rfl) rfl ?_
  refine Wx.callF (run_callF Tryz.call19 rfl) (F19 (hS.arg a_tv) p_g) rfl ?_
  rintro r_1 w_2 hx_3 rfl
  have hS := hS.ext hx_3
  refine Wx.rd (v := .int .i64 0) (rd_assign rfl) rfl ?_
  refine Wx.nil ?_
  refine W.seq ?_
  refine W.block ?_
  refine W.seq ?_
  refine W.reg ?_
  refine Wx.rd (v := .int .i64 0) (rd_move rfl) rfl ?_
  refine Wx.rd (v := .bool false) (Rd.to (v := .bool (decide ((0 : Int) ≠ 0))) (rd_neq rfl rfl) rfl) rfl ?_
  refine Wx.rd (v := .bool false) (rd_assign rfl) rfl ?_
  refine Wx.nil ?_
  refine W.condF rfl rfl ?_
  refine W.seq ?_
  refine W.reg ?_
  refine Wx.rd (v := .int .i64 t) (rd_move rfl) rfl ?_
  refine Wx.callF (run_callF Tryz.call25 rfl) (F25 i_t (in_i64 (by omega) (by omega)) (in_i64 (by omega) (by omega))) rfl ?_
  rintro r_4 w_5 hx_6 rfl
  have hS := hS.ext hx_6
  refine Wx.rd (v := .bool (!(decide ((-1000000000) ≤ t) && decide (t ≤ 1000000000)))) (rd_not rfl) rfl ?_
  refine Wx.rd (v := .bool (!(decide ((-1000000000) ≤ t) && decide (t ≤ 1000000000)))) (rd_assign rfl) rfl ?_
  refine Wx.nil ?_
  refine W.condF rfl (by rw [decide_eq_true (by omega), decide_eq_true (by omega)]; rfl) ?_
  refine W.skip ?_
  refine W.seq ?_
  refine W.reg ?_
  refine Wx.rd (v := tv) (rd_move rfl) rfl ?_
  refine Wx.rd (v := .int .i64 (td.length : Int)) (rd_lenV rfl (hS.arg a_tv) Tryz.underlying25) rfl ?_
  refine Wx.make (t := (tI .i64)) (zy := (0 : Int)) (m := td.length) elNb_25 rfl rfl (fun _ _ => ⟨rfl, by decide, by decide⟩) hS (congrArg (Value.int .i64) rfl) (congrArg (Value.int .i64) rfl) (by omega) (by simp only [maxLen]; omega) rfl (fun v_7 w_8 hx_9 hS => ?_)
  refine Wx.rd (v := v_7) (rd_assign rfl) rfl ?_
  refine Wx.nil ?_
  refine W.seq ?_
  refine W.seq ?_
  refine W.reg ?_
  refine Wx.rd (v := tv) (rd_move rfl) rfl ?_
  refine Wx.callF (run_callF Tryz.call20 rfl) (F20 (hS.arg a_tv) p_g hS.fb_lt) rfl ?_
  rintro r_12 w_13 hx_14 ⟨_, rfl, hv_15⟩
  have hS := hS.pushFrO hx_14 hv_15
  refine Wx.rd (v := .int .i64 ((wrV td).length : Int)) (rd_lenR hS 0 rfl rfl Tryz.underlying24) rfl ?_
  refine Wx.rd (v := .int .i64 0) (rd_move rfl) rfl ?_
  refine Wx.nil ?_
  refine W.block ?_
  refine W.loop [9, 10, 11, 12, 29, 30, 31, 32, 33, 34, 35, 36, 37, 38, 39, 40, 41, 42, 43, 44, 45, 46, 47, 48, 49, 50, 51, 52, 53, 54, 55, 56, 57, 58] (fun x : Int × (List Int) => match x with | (k, out) => [(29, .int .i64 k)]) (fun (x : Int × (List Int)) w' => match x with | (k, out) => St w O w' [.row (tSl (tI .i64)) 25 r_12 (wrV td), .row (tI .i64) 3 v_7 out] ∧ 0 ≤ k ∧ k ≤ (wrV td).length ∧ out = afN t (wrV td) td.length k) (fun x : Int × (List Int) => match x with | (k, out) => ((wrV td).length - k).toNat) (0, List.replicate td.length (0 : Int)) ⟨rfl, trivial⟩ ⟨hS, (by first | omega | simp), (by first | omega | simp), (rfl)⟩ ?_
  rintro ⟨k, out⟩ u_18 w_17 ⟨hS, h0, h1, h2⟩
  refine W.seq ?_
  refine W.reg ?_
  refine Wx.rd (v := .bool (decide (k < ((wrV td).length : Int)))) (rd_lss rfl rfl) rfl ?_
  refine Wx.nil ?_
  refine W.seq ?_
  refine W.condD rfl (fun c2 => ?_) (fun c2 => ?_)
  · -- yes
    have hll := p_g.ll _ (ix_memR (d := ([] : List Int)) h0 (by omega))
    have hrr := p_g.rr _ (ix_memR (d := ([] : List Int)) h0 (by omega))
    have hol : out.length = td.length := by rw [h2, afn_len]
    refine W.skip ?_
    refine W.seq ?_
    refine W.block ?_
    refine W.seq ?_
    refine W.reg ?_
    refine Wx.indexR hS 0 rfl rfl rfl Tryz.underlying24 Tryz.sizeOf25 (by first | omega | (simp only [List.length_set, List.length_append, List.length_cons, List.length_nil, List.length_replicate]; omega)) (by first | omega | (simp only [List.length_set, List.length_append, List.length_cons, List.length_nil, List.length_replicate]; omega)) rfl (fun g_19 hg_20 => ?_)
    refine Wx.ex (rd_loadR' [] hS 0 rfl hg_20 rfl (by first | omega | (simp only [List.length_set, List.length_append, List.length_cons, List.length_nil, List.length_replicate]; omega)) (by first | omega | (simp only [List.length_set, List.length_append, List.length_cons, List.length_nil, List.length_replicate]; omega)) Tryz.isAgg25 Tryz.sizeOf25) rfl (fun v_21 hv_22 => ?_)
    have ln_23 := hv_22.len63
    have hS := hS.add hv_22
    refine Wx.rd (v := v_21) (rd_assign rfl) rfl ?_
    refine Wx.nil ?_
    refine W.seq ?_
    refine W.reg ?_
    refine Wx.rd (v := v_21) (rd_move rfl) rfl ?_
    refine Wx.rd (v := .int .i64 ((ix [] (wrV td) k).length : Int)) (rd_lenV rfl (hS.v 0 rfl) Tryz.underlying25) rfl ?_
    refine Wx.rd (v := .int .i64 ((ix [] (wrV td) k).length : Int)) (rd_assign rfl) rfl ?_
    refine Wx.nil ?_
    refine W.seq ?_
    refine W.reg ?_
    refine Wx.rd (v := v_21) (rd_move rfl) rfl ?_
    refine Wx.rd (v := .int .i64 ((ix [] (wrV td) k).length : Int)) (rd_lenV rfl (hS.v 0 rfl) Tryz.underlying25) rfl ?_
    refine Wx.rd (v := .int .i64 0) (rd_move rfl) rfl ?_
    refine Wx.nil ?_
    refine W.block ?_
    refine W.loop [11, 12, 37, 38, 39, 40, 41, 42, 43, 44, 45, 46, 47, 48, 49, 50, 51, 52, 53, 54, 55, 56, 57] (fun x : Int × (List Int) => match x with | (j, o2) => [(37, .int .i64 j)]) (fun (x : Int × (List Int)) w' => match x with | (j, o2) => St w O w' [Ob.v (tSl (tI .i64)) (ix [] (wrV td) k) v_21, .row (tSl (tI .i64)) 25 r_12 (wrV td), .row (tI .i64) 3 v_7 o2] ∧ 0 ≤ j ∧ j ≤ (ix [] (wrV td) k).length ∧ o2 = afK t (ix [] (wrV td) k) out j) (fun x : Int × (List Int) => match x with | (j, o2) => ((ix [] (wrV td) k).length - j).toNat) (0, out) ⟨rfl, trivial⟩ ⟨hS, (by first | omega | simp), (by first | omega | simp), (rfl)⟩ ?_
    rintro ⟨j, o2⟩ u_26 w_25 ⟨hS, j0, j1, j2⟩
    refine W.seq ?_
    refine W.reg ?_
    refine Wx.rd (v := .bool (decide (j < ((ix [] (wrV td) k).length : Int)))) (rd_lss rfl rfl) rfl ?_
    refine Wx.nil ?_
    refine W.seq ?_
    refine W.condD rfl (fun c3 => ?_) (fun c3 => ?_)
    · -- yes
      have hx := hrr _ (ix_memR (d := (0 : Int)) (j := j) j0 (by omega))
      have hol2 : o2.length = td.length := by rw [j2, afk_len, hol]
      have he0 := Int.emod_nonneg (j + t) (show (((ix [] (wrV td) k).length : Int)) ≠ 0 by omega)
      have he1 := Int.emod_lt_of_pos (j + t) (show (0 : Int) < (ix [] (wrV td) k).length by omega)
      have he2 := Int.emod_nonneg ((j + t) % ((ix [] (wrV td) k).length : Int) + ((ix [] (wrV td) k).length : Int)) (show (((ix [] (wrV td) k).length : Int)) ≠ 0 by omega)
      have he3 := Int.emod_lt_of_pos ((j + t) % ((ix [] (wrV td) k).length : Int) + ((ix [] (wrV td) k).length : Int)) (show (0 : Int) < (ix [] (wrV td) k).length by omega)
      refine W.skip ?_
      refine W.seq ?_
      refine W.block ?_
      refine W.seq ?_
      refine W.reg ?_
      refine Wx.rd (v := .int .i64 j) (rd_move rfl) rfl ?_
      refine Wx.ex (rd_index 0 (hS.v 0 rfl) rfl rfl Tryz.underlying25 Tryz.sizeOf3 (by first | omega | (simp only [List.length_set, List.length_append, List.length_cons, List.length_nil, List.length_replicate]; omega)) (by first | omega | (simp only [List.length_set, List.length_append, List.length_cons, List.length_nil, List.length_replicate]; omega))) rfl (fun p_27 hp_28 => ?_)
      refine Wx.rd (v := .int .i64 (ix 0 (ix [] (wrV td) k) j)) (rd_loadI hp_28 rfl Tryz.isAgg3 Tryz.sizeOf3) rfl ?_
      have bd_29 := bd_i64 hp_28.inK
      refine Wx.rd (v := .int .i64 j) (rd_assign rfl) rfl ?_
      refine Wx.rd (v := .int .i64 (ix 0 (ix [] (wrV td) k) j)) (rd_assign rfl) rfl ?_
      refine Wx.nil ?_
      refine W.reg ?_
      refine Wx.rd (v := v_7) (rd_move rfl) rfl ?_
      refine Wx.rd (v := .int .i64 (ix 0 (ix [] (wrV td) k) j)) (rd_move rfl) rfl ?_
      refine Wx.rd (v := v_21) (rd_move rfl) rfl ?_
      refine Wx.rd (v := .int .i64 j) (rd_move rfl) rfl ?_
      refine Wx.rd (v := .int .i64 t) (rd_move rfl) rfl ?_
      refine Wx.rd (v := .int .i64 (j + t)) (rd_add rfl rfl (in_i64 (by omega) (by omega))) rfl ?_
      refine Wx.rd (v := .int .i64 ((ix [] (wrV td) k).length : Int)) (rd_move rfl) rfl ?_
      refine Wx.rd (v := .int .i64 ((j + t) % ((ix [] (wrV td) k).length : Int))) (rd_rem rfl rfl (by omega) (by omega)) rfl ?_
      refine Wx.rd (v := .int .i64 ((ix [] (wrV td) k).length : Int)) (rd_move rfl) rfl ?_
      refine Wx.rd (v := .int .i64 (((j + t) % ((ix [] (wrV td) k).length : Int)) + ((ix [] (wrV td) k).length : Int))) (rd_add rfl rfl (in_i64 (by omega) (by omega))) rfl ?_
      refine Wx.rd (v := .int .i64 ((ix [] (wrV td) k).length : Int)) (rd_move rfl) rfl ?_
      refine Wx.rd (v := .int .i64 ((((j + t) % ((ix [] (wrV td) k).length : Int)) + ((ix [] (wrV td) k).length : Int)) % ((ix [] (wrV td) k).length : Int))) (rd_rem rfl rfl (by omega) (by omega)) rfl ?_
      refine Wx.ex (rd_index 0 (hS.v 0 rfl) rfl rfl Tryz.underlying25 Tryz.sizeOf3 (by first | omega | (simp only [List.length_set, List.length_append, List.length_cons, List.length_nil, List.length_replicate]; omega)) (by first | omega | (simp only [List.length_set, List.length_append, List.length_cons, List.length_nil, List.length_replicate]; omega))) rfl (fun p_30 hp_31 => ?_)
      refine Wx.rd (v := .int .i64 (ix 0 (ix [] (wrV td) k) ((((j + t) % ((ix [] (wrV td) k).length : Int)) + ((ix [] (wrV td) k).length : Int)) % ((ix [] (wrV td) k).length : Int)))) (rd_loadI hp_31 rfl Tryz.isAgg3 Tryz.sizeOf3) rfl ?_
      have bd_32 := bd_i64 hp_31.inK
      refine Wx.indexR hS 2 rfl rfl rfl Tryz.underlying25 Tryz.sizeOf3 (by first | omega | (simp only [List.length_set, List.length_append, List.length_cons, List.length_nil, List.length_replicate]; omega)) (by first | omega | (simp only [List.length_set, List.length_append, List.length_cons, List.length_nil, List.length_replicate]; omega)) rfl (fun g_33 hg_34 => ?_)
      refine Wx.storeR (j := (ix 0 (ix [] (wrV td) k) j).toNat) (z := ix 0 (ix [] (wrV td) k) ((((j + t) % ((ix [] (wrV td) k).length : Int)) + ((ix [] (wrV td) k).length : Int)) % ((ix [] (wrV td) k).length : Int))) hS 2 rfl hg_34 rfl (by first | omega | (simp only [List.length_set, List.length_append, List.length_cons, List.length_nil, List.length_replicate]; omega)) rfl (V.mkInt (in_i64 (by omega) (by omega))) Tryz.sizeOf3 (fun w_35 hz_36 hS => ?_)
      refine Wx.nil ?_
      refine W.reg ?_
      refine Wx.rd (v := .int .i64 (j + 1)) (rd_add rfl rfl (in_i64 (by omega) (by omega))) rfl ?_
      refine Wx.rd (v := .int .i64 (j + 1)) (rd_move rfl) rfl ?_
      refine Wx.nil ?_
      refine ⟨(j + 1, List.set o2 (ix 0 (ix [] (wrV td) k) j).toNat (ix 0 (ix [] (wrV td) k) ((((j + t) % ((ix [] (wrV td) k).length : Int)) + ((ix [] (wrV td) k).length : Int)) % ((ix [] (wrV td) k).length : Int)))), (by show ((ix [] (wrV td) k).length - (j + 1)).toNat < ((ix [] (wrV td) k).length - j).toNat; omega), ?_, ?_, Out.look rfl Out.self⟩
      · exact ⟨hS, (by first | omega | assumption), (by first | omega | assumption), (by rw [afk_next j0 (by omega), ← j2]; rfl)⟩
      · exact ⟨rfl, trivial⟩
    · -- no
      refine W.exit rfl ?_
      refine W.reg ?_
      refine Wx.rd (v := .int .i64 (k + 1)) (rd_add rfl rfl (in_i64 (by omega) (by omega))) rfl ?_
      refine Wx.rd (v := .int .i64 (k + 1)) (rd_move rfl) rfl ?_
      refine Wx.nil ?_
      refine ⟨(k + 1, o2), (by show ((wrV td).length - (k + 1)).toNat < ((wrV td).length - k).toNat; omega), ?_, ?_, Out.look rfl (Out.hav rfl (Out.look rfl Out.self))⟩
      · exact ⟨hS.tl, (by first | omega | assumption), (by first | omega | assumption), (by rw [afn_next h0 (by omega), ← h2, j2, afk_all (by omega)])⟩
      · exact ⟨rfl, trivial⟩
  · -- no
    refine W.exit rfl ?_
    refine W.seq ?_
    refine W.reg ?_
    refine Wx.rd (v := v_7) (rd_move rfl) rfl ?_
    refine Wx.rd (v := v_7) (rd_assign rfl) rfl ?_
    refine Wx.rd (v := .int .i64 0) (rd_assign rfl) rfl ?_
    refine Wx.nil ?_
    have e0_0 : afV td t = out := by rw [h2, afn_all (by omega)]
    exact W.ret ⟨.tuple #[v_7, .int .i64 0], ResIs.two, hS.bel, ⟨v_7, rfl, (by rw [e0_0]; exact (hS.fr 1 rfl flat_int))⟩⟩

theorem F11 {tv : Value} {td : List Int} {Fr_tv : List (Option Nat)} {w : World} (h_tv : V (tSl (tI .i64)) td tv Fr_tv w) (p_g : GW td) : Calls Tryz.prog 11 #[tv] w (Ret w (fun r _ => r = .tuple #[.int .i64 (bkV td), .int .i64 0])) := by
  have hn := p_g.n1
  have hkl := kdV_len (tide := td)
  have a_tv := h_tv.any
  have l_tv := h_tv.len63
  have hS := St.start0 w
  refine enterR Tryz.func11 rfl Tryz.ntmps11 Tryz.results11 rfl ?_
  refine W.seq ?_
  refine W.reg ?_
  refine Wx.rd (v := .int .i64 0) (rd_assign rfl) rfl ?_
  refine Wx.rd (v := .int .i64 0) (rd_assign rfl) rfl ?_
  refine Wx.nil ?_
  refine W.seq ?_
  refine W.seq ?_
  refine W.reg ?_
  refine Wx.rd (v := tv) (rd_move rfl) rfl ?_
  refine Wx.callF (run_callF Tryz.call19 rfl) (F19 (hS.arg a_tv) p_g) rfl ?_
  rintro r_1 w_2 hx_3 rfl
  have hS := hS.ext hx_3
  refine Wx.rd (v := .int .i64 0) (rd_assign rfl) rfl ?_
  refine Wx.nil ?_
  refine W.seq ?_
  refine W.reg ?_
  refine Wx.rd (v := .int .i64 0) (rd_move rfl) rfl ?_
  refine Wx.rd (v := .bool false) (Rd.to (v := .bool (decide ((0 : Int) ≠ 0))) (rd_neq rfl rfl) rfl) rfl ?_
  refine Wx.nil ?_
  refine W.condF rfl rfl ?_
  refine W.skip ?_
  refine W.seq ?_
  refine W.reg ?_
  refine Wx.rd (v := tv) (rd_move rfl) rfl ?_
  refine Wx.callF (run_callF Tryz.call24 rfl) (F24 (hS.arg a_tv) p_g) rfl ?_
  rintro r_4 w_5 hx_6 rfl
  have hS := hS.ext hx_6
  refine Wx.alloc (cs := List.map (Value.int .i64) (List.replicate 8 (0 : Int))) hS Tryz.zeroValue60 (by kernel_rfl) rfl (fun g_7 w_8 hx_10 hb_9 hS => ?_)
  have hS : St _ _ w_8 [.box g_7 60 (List.map (Value.int .i64) (List.replicate 8 (0 : Int)))] := hS
  refine Wx.storeX (cs' := List.map (Value.int .i64) (kdV td)) (ds := List.map (Value.int .i64) (kdV td)) hS 0 rfl rfl rfl rfl (fun w' => by rw [List.length_map, show List.length (kdV td) = 8 by first | omega | (simp; omega) | simp]; exact Tryz.sizeOf60 w') (by first | (simp; omega) | simp) (by intro u hu; obtain ⟨_, _, rfl⟩ := List.mem_map.1 hu; rfl) (by rw [List.take_zero, List.nil_append, List.drop_of_length_le (by first | (simp; omega) | simp), List.append_nil]) (fun w_11 hz_12 hS => ?_)
  refine Wx.nil ?_
  refine W.seq ?_
  refine W.reg ?_
  refine Wx.rd (v := .int .i64 1) (rd_assign rfl) rfl ?_
  refine Wx.nil ?_
  refine W.seq ?_
  refine W.seq ?_
  refine W.reg ?_
  refine Wx.rd (v := .int .i64 2) (rd_assign rfl) rfl ?_
  refine Wx.nil ?_
  refine W.block ?_
  refine W.loop [6, 7, 8, 16, 17, 18, 19, 20, 21, 22, 23, 24, 25, 26, 27, 28, 29, 30, 31, 32, 33] (fun x : Int × Int => match x with | (z, m) => [(6, .int .i64 z), (7, .int .i64 m)]) (fun (x : Int × Int) w' => match x with | (z, m) => St w [] w' [.box g_7 60 (List.map (Value.int .i64) (kdV td))] ∧ 2 ≤ m ∧ m ≤ 8 ∧ z = bkK (kdV td) m) (fun x : Int × Int => match x with | (z, m) => (8 - m).toNat) (1, 2) ⟨rfl, rfl, trivial⟩ ⟨hS, (by first | omega | simp), (by first | omega | simp), (rfl)⟩ ?_
  rintro ⟨z, m⟩ u_14 w_13 ⟨hS, h0, h1, h2⟩
  refine W.seq ?_
  refine W.seq ?_
  refine W.reg ?_
  refine Wx.rd (v := .int .i64 m) (rd_move rfl) rfl ?_
  refine Wx.rd (v := .bool (decide (m < 8))) (rd_lss rfl rfl) rfl ?_
  refine Wx.nil ?_
  refine W.condD rfl (fun c1 => ?_) (fun c1 => ?_)
  · -- yes
    have hbk := p_g.bk m (by omega) (by omega)
    rw [← h2] at hbk
    refine W.skip ?_
    refine W.seq ?_
    refine W.block ?_
    refine W.seq ?_
    refine W.reg ?_
    refine Wx.rd (v := .int .i64 z) (rd_move rfl) rfl ?_
    refine Wx.rd (v := .int .i64 z) (rd_assign rfl) rfl ?_
    refine Wx.nil ?_
    refine W.block ?_
    refine W.loop [6, 21, 22, 23, 24, 25, 26, 27, 28, 29, 30, 31, 32, 33] (fun x : Int × Int => match x with | (y, j) => [(6, .int .i64 y)]) (fun (x : Int × Int) w' => match x with | (y, j) => St w [] w' [.box g_7 60 (List.map (Value.int .i64) (kdV td))] ∧ 1 ≤ j ∧ j ≤ m ∧ y = z * j ∧ bkW m (ix 0 (kdV td) m) z (8 - j).toNat y = bkS (kdV td) z m ∧ 1 ≤ y ∧ y ≤ 60 * j) (fun x : Int × Int => match x with | (y, j) => (8 - j).toNat) (z, 1) ⟨rfl, trivial⟩ ⟨hS, (by first | omega | simp), (by first | omega | simp), ((Int.mul_one z).symm), (rfl), (by first | omega | simp), (by first | omega | simp)⟩ ?_
    rintro ⟨y, j⟩ u_16 w_15 ⟨hS, y0, y1, y2, y3, y4, y5⟩
    refine W.seq ?_
    refine W.seq ?_
    refine W.reg ?_
    refine Wx.rd (v := .int .i64 m) (rd_move rfl) rfl ?_
    refine Wx.rd (v := .pointer (some ⟨g_7, 0 + m.toNat * 1, none⟩)) (rd_indexArr rfl rfl Tryz.underlying60 Tryz.sizeOf3 (by omega) (by omega)) rfl ?_
    refine Wx.rd (v := .int .i64 (ix 0 (kdV td) m)) (rd_loadXa (d := 0) (f := (Value.int .i64)) (j := m) hS 0 rfl rfl (by omega) (by omega) (by omega) Tryz.isAgg3) rfl ?_
    refine Wx.rd (v := .bool (decide (0 < (ix 0 (kdV td) m)))) (rd_gtr rfl rfl) rfl ?_
    refine Wx.rd (v := .bool (decide (0 < (ix 0 (kdV td) m)))) (rd_move rfl) rfl ?_
    refine Wx.cut (X := Unit) 5 [26, 27, 28, 29, 30] (fun _ => [(30, .bool (decide (0 < (ix 0 (kdV td) m)) && decide ((y % m) ≠ 0)))]) (fun _ w' => St w [] w' [.box g_7 60 (List.map (Value.int .i64) (kdV td))]) ?_ ?_
    · rcases Bool.eq_false_or_eq_true (decide (0 < (ix 0 (kdV td) m))) with g_17 | g_17
      · -- True
        have gp_18 := of_decide_eq_true g_17
        refine Wx.gyes rfl rfl (congrArg Value.bool g_17) ?_
        refine Wx.rd (v := .int .i64 y) (rd_move rfl) rfl ?_
        refine Wx.gyes rfl rfl (congrArg Value.bool g_17) ?_
        refine Wx.rd (v := .int .i64 m) (rd_move rfl) rfl ?_
        refine Wx.gyes rfl rfl (congrArg Value.bool g_17) ?_
        refine Wx.rd (v := .int .i64 (y % m)) (rd_rem rfl rfl (by omega) (by omega)) rfl ?_
        refine Wx.gyes rfl rfl (congrArg Value.bool g_17) ?_
        refine Wx.rd (v := .bool (decide ((y % m) ≠ 0))) (rd_neq rfl rfl) rfl ?_
        refine Wx.rd (v := .bool (decide ((y % m) ≠ 0))) (rd_pickT (congrArg Value.bool g_17) rfl) rfl ?_
        refine Wx.nil ⟨(), hS, ⟨?_, trivial⟩, Out.look rfl Out.refl⟩
        show Value.bool (decide ((y % m) ≠ 0)) = Value.bool (decide (0 < (ix 0 (kdV td) m)) && decide ((y % m) ≠ 0))
        first | rw [g_17, Bool.true_and] | (rw [g_17]; rfl)
      · -- False
        have gp_19 := of_decide_eq_false g_17
        refine Wx.gnoB rfl rfl (congrArg Value.bool g_17) rfl rfl ?_
        refine Wx.gnoB rfl rfl (congrArg Value.bool g_17) rfl rfl ?_
        refine Wx.gnoB rfl rfl (congrArg Value.bool g_17) rfl rfl ?_
        refine Wx.gnoB rfl rfl (congrArg Value.bool g_17) rfl rfl ?_
        refine Wx.rd (v := .bool false) (rd_pickF (congrArg Value.bool g_17) rfl) rfl ?_
        refine Wx.nil ⟨(), hS, ⟨?_, trivial⟩, Out.look rfl Out.refl⟩
        show Value.bool false = Value.bool (decide (0 < (ix 0 (kdV td) m)) && decide ((y % m) ≠ 0))
        first | rw [g_17, Bool.false_and] | (rw [g_17]; rfl)
    rintro ⟨⟩ u_21 w_20 hS
    refine Wx.nil ?_
    refine W.cond rfl (fun c2 => ?_) (fun c2 => ?_)
    · -- yes
      try simp only [Bool.and_eq_true, Bool.or_eq_true, Bool.not_eq_true', Bool.and_eq_false_iff, Bool.or_eq_false_iff, Bool.not_eq_false', decide_eq_true_eq, decide_eq_false_iff_not, not_or, Bool.false_eq_true, Bool.true_eq_false, false_or, or_false, not_false_eq_true] at c2
      have hjm : j < m := Classical.byContradiction fun hc => c2.2 (by rw [y2, show j = m by omega]; exact Int.mul_emod_left z m)
      refine W.skip ?_
      refine W.block ?_
      refine W.reg ?_
      refine Wx.rd (v := .int .i64 y) (rd_move rfl) rfl ?_
      refine Wx.rd (v := .int .i64 z) (rd_move rfl) rfl ?_
      refine Wx.rd (v := .int .i64 (y + z)) (rd_add rfl rfl (in_i64 (by omega) (by omega))) rfl ?_
      refine Wx.rd (v := .int .i64 (y + z)) (rd_assign rfl) rfl ?_
      refine Wx.nil ?_
      refine ⟨(y + z, j + 1), (by show (8 - (j + 1)).toNat < (8 - j).toNat; omega), ?_, ?_, Out.look rfl (Out.hav rfl (Out.look rfl Out.self))⟩
      · exact ⟨hS, (by first | omega | assumption), (by first | omega | assumption), (by rw [y2, Int.mul_add, Int.mul_one]), (by rw [← y3, show (8 - j).toNat = (8 - (j + 1)).toNat + 1 by omega, bkw_more c2]), (by first | omega | assumption), (by omega)⟩
      · exact ⟨rfl, trivial⟩
    · -- no
      try simp only [Bool.and_eq_true, Bool.or_eq_true, Bool.not_eq_true', Bool.and_eq_false_iff, Bool.or_eq_false_iff, Bool.not_eq_false', decide_eq_true_eq, decide_eq_false_iff_not, not_or, Bool.false_eq_true, Bool.true_eq_false, false_or, or_false, not_false_eq_true] at c2
      refine W.exit rfl ?_
      refine W.reg ?_
      refine Wx.rd (v := .int .i64 m) (rd_move rfl) rfl ?_
      refine Wx.rd (v := .int .i64 (m + 1)) (rd_add rfl rfl (in_i64 (by omega) (by omega))) rfl ?_
      refine Wx.rd (v := .int .i64 (m + 1)) (rd_assign rfl) rfl ?_
      refine Wx.nil ?_
      refine ⟨(y, m + 1), (by show (8 - (m + 1)).toNat < (8 - m).toNat; omega), ?_, ?_, Out.look rfl (Out.hav rfl (Out.look rfl (Out.hav rfl (Out.look rfl Out.self))))⟩
      · exact ⟨hS, (by first | omega | assumption), (by first | omega | assumption), (by rw [bk_next h0 (by omega), ← h2, ← y3, bkw_end (by omega)])⟩
      · exact ⟨rfl, rfl, trivial⟩
  · -- no
    refine W.exit rfl ?_
    refine W.seq ?_
    refine W.reg ?_
    refine Wx.rd (v := .int .i64 z) (rd_move rfl) rfl ?_
    refine Wx.rd (v := .int .i64 z) (rd_assign rfl) rfl ?_
    refine Wx.rd (v := .int .i64 0) (rd_assign rfl) rfl ?_
    refine Wx.nil ?_
    have e0_0 : (bkV td) = (z : Int) := by rw [h2, show m = 8 by omega]; rfl
    exact W.ret ⟨.tuple #[.int .i64 z, .int .i64 0], ResIs.two, hS.bel, (by rw [e0_0])⟩
end Go.Proofs.YtlibemgaepkceaaGreatDoor

namespace Go.Proofs.YtlibemgaepkceaaGreatDoor
open Go.Wk Go.RowKit Go.Lib
set_option linter.unusedVariables false
set_option linter.unusedSimpArgs false


theorem F63_rec : ∀ (fuel : Nat) {a : Int} {m : Int} {w : World} (i_a : InK .i64 a) (i_m : InK .i64 m) (p_a : 0 ≤ a ∧ a ≤ 7) (p_m : 0 ≤ m ∧ m ≤ 6) (hfuel : m.toNat < fuel), Calls Tryz.prog 63 #[.int .i64 a, .int .i64 m] w (Ret w (fun r _ => r = .int .i64 (matF a m))) := by
  intro fuel
  induction fuel with
  | zero => intros; omega
  | succ fuel IH =>
  intro a m w i_a i_m p_a p_m hfuel
  have b_m := bd_i64 i_m
  have b_a := bd_i64 i_a
  have hb := mat_bd p_a.1 p_a.2 p_m.1 p_m.2
  have hS := St.start0 w
  refine enterR Tryz.func63 rfl Tryz.ntmps63 Tryz.results63 rfl ?_
  refine W.seq ?_
  refine W.reg ?_
  refine Wx.rd (v := .int .i64 0) (rd_assign rfl) rfl ?_
  refine Wx.nil ?_
  refine W.seq ?_
  refine W.seq ?_
  refine W.reg ?_
  refine Wx.rd (v := .int .i64 m) (rd_move rfl) rfl ?_
  refine Wx.rd (v := .bool (decide (m = 0))) (rd_eql rfl rfl) rfl ?_
  refine Wx.nil ?_
  refine W.condD rfl (fun c0 => ?_) (fun c0 => ?_)
  · -- yes
    refine W.seq ?_
    refine W.reg ?_
    refine Wx.rd (v := .int .i64 1) (rd_assign rfl) rfl ?_
    refine Wx.nil ?_
    have e0_0 : (matF a m) = (1 : Int) := by rw [c0]; rfl
    exact W.ret ⟨.int .i64 1, ResIs.one, hS.bel, (by rw [e0_0])⟩
  · -- no
    refine W.skip ?_
    refine W.seq ?_
    refine W.reg ?_
    refine Wx.rd (v := .int .i64 0) (rd_assign rfl) rfl ?_
    refine Wx.nil ?_
    refine W.seq ?_
    refine W.seq ?_
    refine W.reg ?_
    refine Wx.rd (v := .int .i64 a) (rd_move rfl) rfl ?_
    refine Wx.rd (v := .int .i64 (a % 2)) (rd_rem rfl rfl (by omega) (by omega)) rfl ?_
    refine Wx.rd (v := .bool (decide ((a % 2) = 1))) (rd_eql rfl rfl) rfl ?_
    refine Wx.nil ?_
    refine W.condD rfl (fun c1 => ?_) (fun c1 => ?_)
    · -- yes
      refine W.reg ?_
      refine Wx.rd (v := .int .i64 a) (rd_move rfl) rfl ?_
      refine Wx.rd (v := .int .i64 m) (rd_move rfl) rfl ?_
      refine Wx.rd (v := .int .i64 (m - 1)) (rd_sub rfl rfl (in_i64 (by omega) (by omega))) rfl ?_
      refine Wx.callF (run_callF Tryz.call63 rfl) (IH i_a (in_i64 (by omega) (by omega)) (by omega) (by omega) (by omega)) rfl ?_
      rintro r_1 w_2 hx_3 rfl
      have hS := hS.ext hx_3
      have hb1 := mat_bd (m := m - 1) p_a.1 p_a.2 (by omega) (by omega)
      refine Wx.rd (v := .int .i64 (matF a (m - 1))) (rd_assign rfl) rfl ?_
      refine Wx.nil ?_
      refine W.seq ?_
      refine W.seq ?_
      refine W.reg ?_
      refine Wx.rd (v := .int .i64 m) (rd_move rfl) rfl ?_
      refine Wx.rd (v := .bool (decide (1 < m))) (rd_gtr rfl rfl) rfl ?_
      refine Wx.nil ?_
      refine W.condD rfl (fun c2 => ?_) (fun c2 => ?_)
      · -- yes
        refine W.reg ?_
        refine Wx.rd (v := .int .i64 (matF a (m - 1))) (rd_move rfl) rfl ?_
        refine Wx.rd (v := .int .i64 m) (rd_move rfl) rfl ?_
        refine Wx.rd (v := .int .i64 (m - 1)) (rd_sub rfl rfl (in_i64 (by omega) (by omega))) rfl ?_
        refine Wx.rd (v := .int .i64 a) (rd_move rfl) rfl ?_
        refine Wx.rd (v := .int .i64 ((m - 1) * a)) (rd_mul rfl rfl (in_i64 (by omega) (by omega))) rfl ?_
        refine Wx.rd (v := .int .i64 a) (rd_move rfl) rfl ?_
        refine Wx.rd (v := .int .i64 m) (rd_move rfl) rfl ?_
        refine Wx.rd (v := .int .i64 (m - 2)) (rd_sub rfl rfl (in_i64 (by omega) (by omega))) rfl ?_
        refine Wx.callF (run_callF Tryz.call63 rfl) (IH i_a (in_i64 (by omega) (by omega)) (by omega) (by omega) (by omega)) rfl ?_
        rintro r_4 w_5 hx_6 rfl
        have hS := hS.ext hx_6
        have hb2 := mat_bd (m := m - 2) p_a.1 p_a.2 (by omega) (by omega)
        refine Wx.rd (v := .int .i64 (((m - 1) * a) * (matF a (m - 2)))) (rd_mul rfl rfl (in_i64 (by omega) (by omega))) rfl ?_
        refine Wx.rd (v := .int .i64 ((matF a (m - 1)) + (((m - 1) * a) * (matF a (m - 2))))) (rd_add rfl rfl (in_i64 (by omega) (by omega))) rfl ?_
        refine Wx.rd (v := .int .i64 ((matF a (m - 1)) + (((m - 1) * a) * (matF a (m - 2))))) (rd_assign rfl) rfl ?_
        refine Wx.nil ?_
        refine W.seq ?_
        refine W.reg ?_
        refine Wx.rd (v := .int .i64 ((matF a (m - 1)) + (((m - 1) * a) * (matF a (m - 2))))) (rd_move rfl) rfl ?_
        refine Wx.rd (v := .int .i64 ((matF a (m - 1)) + (((m - 1) * a) * (matF a (m - 2))))) (rd_assign rfl) rfl ?_
        refine Wx.nil ?_
        have e1_0 : (matF a m) = ((matF a (m - 1)) + (((m - 1) * a) * (matF a (m - 2))) : Int) := by rw [mat_more (show 0 < m by omega), if_pos c1, if_pos c2]
        exact W.ret ⟨.int .i64 ((matF a (m - 1)) + (((m - 1) * a) * (matF a (m - 2)))), ResIs.one, hS.bel, (by rw [e1_0])⟩
      · -- no
        refine W.skip ?_
        refine W.seq ?_
        refine W.reg ?_
        refine Wx.rd (v := .int .i64 (matF a (m - 1))) (rd_move rfl) rfl ?_
        refine Wx.rd (v := .int .i64 (matF a (m - 1))) (rd_assign rfl) rfl ?_
        refine Wx.nil ?_
        have e2_0 : (matF a m) = (matF a (m - 1) : Int) := by rw [mat_more (show 0 < m by omega), if_pos c1, if_neg c2]; omega
        exact W.ret ⟨.int .i64 (matF a (m - 1)), ResIs.one, hS.bel, (by rw [e2_0])⟩
    · -- no
      refine W.skip ?_
      refine W.seq ?_
      refine W.seq ?_
      refine W.reg ?_
      refine Wx.rd (v := .int .i64 m) (rd_move rfl) rfl ?_
      refine Wx.rd (v := .bool (decide (1 < m))) (rd_gtr rfl rfl) rfl ?_
      refine Wx.nil ?_
      refine W.condD rfl (fun c3 => ?_) (fun c3 => ?_)
      · -- yes
        refine W.reg ?_
        refine Wx.rd (v := .int .i64 0) (rd_move rfl) rfl ?_
        refine Wx.rd (v := .int .i64 m) (rd_move rfl) rfl ?_
        refine Wx.rd (v := .int .i64 (m - 1)) (rd_sub rfl rfl (in_i64 (by omega) (by omega))) rfl ?_
        refine Wx.rd (v := .int .i64 a) (rd_move rfl) rfl ?_
        refine Wx.rd (v := .int .i64 ((m - 1) * a)) (rd_mul rfl rfl (in_i64 (by omega) (by omega))) rfl ?_
        refine Wx.rd (v := .int .i64 a) (rd_move rfl) rfl ?_
        refine Wx.rd (v := .int .i64 m) (rd_move rfl) rfl ?_
        refine Wx.rd (v := .int .i64 (m - 2)) (rd_sub rfl rfl (in_i64 (by omega) (by omega))) rfl ?_
        refine Wx.callF (run_callF Tryz.call63 rfl) (IH i_a (in_i64 (by omega) (by omega)) (by omega) (by omega) (by omega)) rfl ?_
        rintro r_7 w_8 hx_9 rfl
        have hS := hS.ext hx_9
        have hb2 := mat_bd (m := m - 2) p_a.1 p_a.2 (by omega) (by omega)
        refine Wx.rd (v := .int .i64 (((m - 1) * a) * (matF a (m - 2)))) (rd_mul rfl rfl (in_i64 (by omega) (by omega))) rfl ?_
        refine Wx.rd (v := .int .i64 (0 + (((m - 1) * a) * (matF a (m - 2))))) (rd_add rfl rfl (in_i64 (by omega) (by omega))) rfl ?_
        refine Wx.rd (v := .int .i64 (0 + (((m - 1) * a) * (matF a (m - 2))))) (rd_assign rfl) rfl ?_
        refine Wx.nil ?_
        refine W.seq ?_
        refine W.reg ?_
        refine Wx.rd (v := .int .i64 (0 + (((m - 1) * a) * (matF a (m - 2))))) (rd_move rfl) rfl ?_
        refine Wx.rd (v := .int .i64 (0 + (((m - 1) * a) * (matF a (m - 2))))) (rd_assign rfl) rfl ?_
        refine Wx.nil ?_
        have e3_0 : (matF a m) = (0 + (((m - 1) * a) * (matF a (m - 2))) : Int) := by rw [mat_more (show 0 < m by omega), if_neg c1, if_pos c3]
        exact W.ret ⟨.int .i64 (0 + (((m - 1) * a) * (matF a (m - 2)))), ResIs.one, hS.bel, (by rw [e3_0])⟩
      · -- no
        refine W.skip ?_
        refine W.seq ?_
        refine W.reg ?_
        refine Wx.rd (v := .int .i64 0) (rd_move rfl) rfl ?_
        refine Wx.rd (v := .int .i64 0) (rd_assign rfl) rfl ?_
        refine Wx.nil ?_
        have e4_0 : (matF a m) = (0 : Int) := by rw [mat_more (show 0 < m by omega), if_neg c1, if_neg c3]; rfl
        exact W.ret ⟨.int .i64 0, ResIs.one, hS.bel, (by rw [e4_0])⟩
theorem F63 {a : Int} {m : Int} {w : World} (i_a : InK .i64 a) (i_m : InK .i64 m) (p_a : 0 ≤ a ∧ a ≤ 7) (p_m : 0 ≤ m ∧ m ≤ 6) : Calls Tryz.prog 63 #[.int .i64 a, .int .i64 m] w (Ret w (fun r _ => r = .int .i64 (matF a m))) := F63_rec _ i_a i_m p_a p_m (Nat.lt_succ_self _)

theorem F46 {tv : Value} {td : List Int} {Fr_tv : List (Option Nat)} {w : World} (h_tv : V (tSl (tI .i64)) td tv Fr_tv w) (p_t : td = T4) : Calls Tryz.prog 46 #[tv] w (Ret w (fun r _ => r = .tuple #[.int .i64 2, .int .i64 0])) := by
  have p_g : GW td := by rw [p_t]; exact gw_T4
  have hkl := kdV_len (tide := td)
  have a_tv := h_tv.any
  have l_tv := h_tv.len63
  have hS := St.start0 w
  refine enterR Tryz.func46 rfl Tryz.ntmps46 Tryz.results46 rfl ?_
  refine W.seq ?_
  refine W.reg ?_
  refine Wx.rd (v := .int .i64 0) (rd_assign rfl) rfl ?_
  refine Wx.rd (v := .int .i64 0) (rd_assign rfl) rfl ?_
  refine Wx.nil ?_
  refine W.seq ?_
  refine W.seq ?_
  refine W.reg ?_
  refine Wx.rd (v := tv) (rd_move rfl) rfl ?_
  refine Wx.callF (run_callF Tryz.call19 rfl) (F19 (hS.arg a_tv) p_g) rfl ?_
  rintro r_1 w_2 hx_3 rfl
  have hS := hS.ext hx_3
  refine Wx.rd (v := .int .i64 0) (rd_assign rfl) rfl ?_
  refine Wx.nil ?_
  refine W.seq ?_
  refine W.reg ?_
  refine Wx.rd (v := .int .i64 0) (rd_move rfl) rfl ?_
  refine Wx.rd (v := .bool false) (Rd.to (v := .bool (decide ((0 : Int) ≠ 0))) (rd_neq rfl rfl) rfl) rfl ?_
  refine Wx.nil ?_
  refine W.condF rfl rfl ?_
  refine W.skip ?_
  refine W.seq ?_
  refine W.reg ?_
  refine Wx.rd (v := .int .i64 1) (rd_assign rfl) rfl ?_
  refine Wx.nil ?_
  refine W.seq ?_
  refine W.seq ?_
  refine W.reg ?_
  refine Wx.rd (v := tv) (rd_move rfl) rfl ?_
  refine Wx.callF (run_callF Tryz.call24 rfl) (F24 (hS.arg a_tv) p_g) rfl ?_
  rintro r_4 w_5 hx_6 rfl
  have hS := hS.ext hx_6
  refine Wx.rd (v := .int .i64 0) (rd_move rfl) rfl ?_
  refine Wx.nil ?_
  refine W.block ?_
  refine W.loop [5, 6, 7, 15, 16, 17, 18, 19, 20, 21, 22, 23, 24] (fun x : Int × Int => match x with | (p, i) => [(5, .int .i64 p), (15, .int .i64 i)]) (fun (x : Int × Int) w' => match x with | (p, i) => St w [] w' [] ∧ 0 ≤ i ∧ i ≤ 8 ∧ p = haK i) (fun x : Int × Int => match x with | (p, i) => (8 - i).toNat) (1, 0) ⟨rfl, rfl, trivial⟩ ⟨hS, (by first | omega | simp), (by first | omega | simp), (rfl)⟩ ?_
  rintro ⟨p, i⟩ u_8 w_7 ⟨hS, h0, h1, h2⟩
  refine W.seq ?_
  refine W.reg ?_
  refine Wx.rd (v := .bool (decide (i < 8))) (rd_lss rfl rfl) rfl ?_
  refine Wx.nil ?_
  refine W.seq ?_
  refine W.condD rfl (fun c1 => ?_) (fun c1 => ?_)
  · -- yes
    have hkv := p_g.kd _ (ix_memR (d := (0 : Int)) (j := i) h0 (by omega))
    have hmb := mat_bd (a := i) (m := ix 0 (kdV td) i) h0 (by omega) (by omega) (by omega)
    have hhb := ha_bd (i := i + 1) (by omega) (by omega)
    rw [ha_next h0 (by omega), ← p_t, ← h2] at hhb
    refine W.skip ?_
    refine W.seq ?_
    refine W.block ?_
    refine W.seq ?_
    refine W.reg ?_
    refine Wx.rd (v := .int .i64 i) (rd_move rfl) rfl ?_
    refine Wx.rd (v := .int .i64 (ix 0 (kdV td) i)) (rd_indexVi (d := (0 : Int)) (f := Value.int .i64) (xs := (kdV td)) rfl rfl Tryz.underlying60 Tryz.sizeOf3 Tryz.isAgg3 rfl hkl.symm (by omega) (by omega)) rfl ?_
    refine Wx.rd (v := .int .i64 i) (rd_assign rfl) rfl ?_
    refine Wx.rd (v := .int .i64 (ix 0 (kdV td) i)) (rd_assign rfl) rfl ?_
    refine Wx.nil ?_
    refine W.reg ?_
    refine Wx.rd (v := .int .i64 p) (rd_move rfl) rfl ?_
    refine Wx.rd (v := .int .i64 i) (rd_move rfl) rfl ?_
    refine Wx.rd (v := .int .i64 (ix 0 (kdV td) i)) (rd_move rfl) rfl ?_
    refine Wx.callF (run_callF Tryz.call63 rfl) (F63 (in_i64 (by omega) (by omega)) (in_i64 (by omega) (by omega)) (by omega) (by omega)) rfl ?_
    rintro r_9 w_10 hx_11 rfl
    have hS := hS.ext hx_11
    refine Wx.rd (v := .int .i64 (p * (matF i (ix 0 (kdV td) i)))) (rd_mul rfl rfl (in_i64 (by omega) (by omega))) rfl ?_
    refine Wx.rd (v := .int .i64 (p * (matF i (ix 0 (kdV td) i)))) (rd_assign rfl) rfl ?_
    refine Wx.nil ?_
    refine W.reg ?_
    refine Wx.rd (v := .int .i64 (i + 1)) (rd_add rfl rfl (in_i64 (by omega) (by omega))) rfl ?_
    refine Wx.rd (v := .int .i64 (i + 1)) (rd_move rfl) rfl ?_
    refine Wx.nil ?_
    refine ⟨(p * (matF i (ix 0 (kdV td) i)), i + 1), (by show (8 - (i + 1)).toNat < (8 - i).toNat; omega), ?_, ?_, Out.look rfl Out.self⟩
    · exact ⟨hS, (by first | omega | assumption), (by first | omega | assumption), (by rw [ha_next h0 (by omega), h2, p_t])⟩
    · exact ⟨rfl, rfl, trivial⟩
  · -- no
    refine W.exit rfl ?_
    refine W.seq ?_
    refine W.reg ?_
    refine Wx.rd (v := .int .i64 p) (rd_move rfl) rfl ?_
    refine Wx.rd (v := .int .i64 p) (rd_assign rfl) rfl ?_
    refine Wx.rd (v := .int .i64 0) (rd_assign rfl) rfl ?_
    refine Wx.nil ?_
    have e0_0 : (p : Int) = 2 := by rw [h2, show i = 8 by omega]; exact ha_all
    exact W.ret ⟨.tuple #[.int .i64 p, .int .i64 0], ResIs.two, hS.bel, (by rw [e0_0])⟩
end Go.Proofs.YtlibemgaepkceaaGreatDoor

namespace Go.Proofs.YtlibemgaepkceaaGreatDoor
open Go.Wk Go.RowKit Go.Lib
set_option linter.unusedVariables false
set_option linter.unusedSimpArgs false
theorem mixedNd_ : Tryz.prog.follows .mixedOrders = true := by kernel_rfl

theorem F50 {v tv : Value} {ys td : List Int} {n : Nat} {p q : Int} {ob : List Ob} {w0 w : World} {O : List (Option Nat)} (hn : n ≤ 7) (ht : ∀ z ∈ td, 0 ≤ z ∧ z < (n : Int)) (htl : td.length = n) (hI : HaI n ys) (p_p : 0 ≤ p ∧ p < n) (p_q : 0 ≤ q ∧ q < n) (hS : St w0 O w (.row (tI .i64) 3 v ys :: ob)) (hv1 : V (tSl tInt) td tv (fb (.row (tI .i64) 3 v ys :: ob) O) w) : Calls Tryz.prog 50 #[tv, v, .int .i64 p, .int .i64 q] w (Bk fun r w' => r = .bool (folV td ys p q).1 ∧ St w0 O w' (.row (tI .i64) 3 v ((folV td ys p q).2) :: ob)) := by
  have hS := hS.add (hv1)
  have ln_2 := (hS.v 0 rfl).len63
  refine enterB Tryz.func50 rfl Tryz.ntmps50 Tryz.results50 rfl ?_
  refine W.seq ?_
  refine W.reg ?_
  refine Wx.rd (v := .bool false) (rd_assign rfl) rfl ?_
  refine Wx.nil ?_
  refine W.seq ?_
  refine W.block ?_
  refine W.loop [2, 3, 8, 9, 10, 11, 12, 13, 14, 15, 16, 17, 18, 19, 20, 21, 22, 23, 24, 25, 26, 27, 28, 29, 30, 31, 32, 33] (fun x : Int × Int × (List Int) => match x with | (p2, q2, y2) => [(2, .int .i64 p2), (3, .int .i64 q2)]) (fun (x : Int × Int × (List Int)) w' => match x with | (p2, q2, y2) => St w0 O w' (Ob.v (tSl (tI .i64)) td tv :: .row (tI .i64) 3 v y2 :: ob) ∧ 0 ≤ p2 ∧ p2 < (n : Int) ∧ 0 ≤ q2 ∧ q2 < (n : Int) ∧ HaI n y2 ∧ folV td y2 p2 q2 = folV td ys p q) (fun x : Int × Int × (List Int) => match x with | (p2, q2, y2) => y2.count (-1)) (p, q, ys) ⟨rfl, rfl, trivial⟩ ⟨hS, (p_p.1), (p_p.2), (p_q.1), (p_q.2), (hI), (rfl)⟩ ?_
  rintro ⟨p2, q2, y2⟩ u_4 w_3 ⟨hS, f0, f1, f5, f6, f3, f4⟩
  have hyl := f3.l
  have hya := f3.at_ f0 f1
  refine W.seq ?_
  refine W.seq ?_
  refine W.reg ?_
  refine Wx.rd (v := v) (rd_move rfl) rfl ?_
  refine Wx.rd (v := .int .i64 p2) (rd_move rfl) rfl ?_
  refine Wx.indexR hS 1 rfl rfl rfl Tryz.underlying25 Tryz.sizeOf3 (by first | omega | (simp only [List.length_set, List.length_append, List.length_cons, List.length_nil, List.length_replicate]; omega)) (by first | omega | (simp only [List.length_set, List.length_append, List.length_cons, List.length_nil, List.length_replicate]; omega)) rfl (fun g_5 hg_6 => ?_)
  refine Wx.rd (v := .int .i64 (ix 0 y2 p2)) (rd_loadRI' hS 1 rfl hg_6 rfl (by first | omega | (simp only [List.length_set, List.length_append, List.length_cons, List.length_nil, List.length_replicate]; omega)) (by first | omega | (simp only [List.length_set, List.length_append, List.length_cons, List.length_nil, List.length_replicate]; omega)) Tryz.isAgg3 Tryz.sizeOf3) rfl ?_
  have bd_7 := bd_i64 (hS.rowInK' 1 rfl (by first | omega | (simp only [List.length_set, List.length_append, List.length_cons, List.length_nil, List.length_replicate]; omega)) (by first | omega | (simp only [List.length_set, List.length_append, List.length_cons, List.length_nil, List.length_replicate]; omega)) : InK .i64 (ix 0 y2 p2))
  refine Wx.rd (v := .int .i64 q2) (rd_move rfl) rfl ?_
  refine Wx.rd (v := .bool (decide ((ix 0 y2 p2) ≠ q2))) (rd_neq rfl rfl) rfl ?_
  refine Wx.nil ?_
  refine W.condD rfl (fun c0 => ?_) (fun c0 => ?_)
  · -- yes
    refine W.skip ?_
    refine W.block ?_
    refine W.seq ?_
    refine W.seq ?_
    refine W.reg ?_
    refine Wx.rd (v := v) (rd_move rfl) rfl ?_
    refine Wx.rd (v := .int .i64 p2) (rd_move rfl) rfl ?_
    refine Wx.indexR hS 1 rfl rfl rfl Tryz.underlying25 Tryz.sizeOf3 (by first | omega | (simp only [List.length_set, List.length_append, List.length_cons, List.length_nil, List.length_replicate]; omega)) (by first | omega | (simp only [List.length_set, List.length_append, List.length_cons, List.length_nil, List.length_replicate]; omega)) rfl (fun g_8 hg_9 => ?_)
    refine Wx.rd (v := .int .i64 (ix 0 y2 p2)) (rd_loadRI' hS 1 rfl hg_9 rfl (by first | omega | (simp only [List.length_set, List.length_append, List.length_cons, List.length_nil, List.length_replicate]; omega)) (by first | omega | (simp only [List.length_set, List.length_append, List.length_cons, List.length_nil, List.length_replicate]; omega)) Tryz.isAgg3 Tryz.sizeOf3) rfl ?_
    have bd_10 := bd_i64 (hS.rowInK' 1 rfl (by first | omega | (simp only [List.length_set, List.length_append, List.length_cons, List.length_nil, List.length_replicate]; omega)) (by first | omega | (simp only [List.length_set, List.length_append, List.length_cons, List.length_nil, List.length_replicate]; omega)) : InK .i64 (ix 0 y2 p2))
    refine Wx.rd (v := .bool (decide (0 ≤ (ix 0 y2 p2)))) (rd_geq rfl rfl) rfl ?_
    refine Wx.rd (v := .bool (decide (0 ≤ (ix 0 y2 p2)))) (rd_move rfl) rfl ?_
    refine Wx.cut (X := Unit) 4 [21, 22, 23, 24] (fun _ => [(24, .bool (decide (0 ≤ (ix 0 y2 p2)) || hasL y2 q2))]) (fun _ w' => St w0 O w' (Ob.v (tSl (tI .i64)) td tv :: .row (tI .i64) 3 v y2 :: ob)) ?_ ?_
    · rcases Bool.eq_false_or_eq_true (decide (0 ≤ (ix 0 y2 p2))) with g_11 | g_11
      · -- True
        have gp_12 := of_decide_eq_true g_11
        refine Wx.gnoB rfl rfl (congrArg Value.bool g_11) rfl rfl ?_
        refine Wx.gnoB rfl rfl (congrArg Value.bool g_11) rfl rfl ?_
        refine Wx.gnoB rfl rfl (congrArg Value.bool g_11) rfl rfl ?_
        refine Wx.rd (v := .bool true) (rd_pickT (congrArg Value.bool g_11) rfl) rfl ?_
        refine Wx.nil ⟨(), hS, ⟨?_, trivial⟩, Out.look rfl Out.refl⟩
        show Value.bool true = Value.bool (decide (0 ≤ (ix 0 y2 p2)) || hasL y2 q2)
        first | rw [g_11, Bool.true_or] | (rw [g_11]; rfl)
      · -- False
        have gp_13 := of_decide_eq_false g_11
        refine Wx.gyes rfl rfl (congrArg Value.bool g_11) ?_
        refine Wx.rd (v := v) (rd_move rfl) rfl ?_
        refine Wx.gyes rfl rfl (congrArg Value.bool g_11) ?_
        refine Wx.rd (v := .int .i64 q2) (rd_move rfl) rfl ?_
        refine Wx.gyes rfl rfl (congrArg Value.bool g_11) ?_
        refine Wx.callF (run_callF Tryz.call65 rfl) (F65 (hS.lend 1 rfl) (in_i64 (by omega) (by omega))) rfl ?_
        rintro r_14 w_15 hx_16 rfl
        have hS := hS.ext hx_16
        refine Wx.rd (v := .bool (hasL y2 q2)) (rd_pickF (congrArg Value.bool g_11) rfl) rfl ?_
        refine Wx.nil ⟨(), hS, ⟨?_, trivial⟩, Out.look rfl Out.refl⟩
        show Value.bool (hasL y2 q2) = Value.bool (decide (0 ≤ (ix 0 y2 p2)) || hasL y2 q2)
        first | rw [g_11, Bool.false_or] | (rw [g_11]; rfl)
    rintro ⟨⟩ u_18 w_17 hS
    refine Wx.nil ?_
    refine W.cond rfl (fun c1 => ?_) (fun c1 => ?_)
    · -- yes
      try simp only [Bool.and_eq_true, Bool.or_eq_true, Bool.not_eq_true', Bool.and_eq_false_iff, Bool.or_eq_false_iff, Bool.not_eq_false', decide_eq_true_eq, decide_eq_false_iff_not, not_or, Bool.false_eq_true, Bool.true_eq_false, false_or, or_false, not_false_eq_true] at c1
      refine W.seq ?_
      refine W.reg ?_
      refine Wx.rd (v := .bool false) (rd_assign rfl) rfl ?_
      refine Wx.nil ?_
      exact W.ret ⟨.bool false, ResIs.one, (by rw [← f4, fol_no (by omega) (c1.imp id hasL_iff.1)]), (by rw [← f4, fol_no (by omega) (c1.imp id hasL_iff.1)]; exact (St.tl hS))⟩
    · -- no
      try simp only [Bool.and_eq_true, Bool.or_eq_true, Bool.not_eq_true', Bool.and_eq_false_iff, Bool.or_eq_false_iff, Bool.not_eq_false', decide_eq_true_eq, decide_eq_false_iff_not, not_or, Bool.false_eq_true, Bool.true_eq_false, false_or, or_false, not_false_eq_true] at c1
      have hfm := fol_more (td := td) (q := q2) f3 f0 f1 f5 (by omega) (not_or_has c1)
      have htp := ht _ (ix_memR (d := (0 : Int)) f0 (by omega))
      refine W.skip ?_
      refine W.seq ?_
      refine W.reg ?_
      refine Wx.rd (v := v) (rd_move rfl) rfl ?_
      refine Wx.rd (v := .int .i64 p2) (rd_move rfl) rfl ?_
      refine Wx.rd (v := .int .i64 q2) (rd_move rfl) rfl ?_
      refine Wx.indexR hS 1 rfl rfl rfl Tryz.underlying25 Tryz.sizeOf3 (by first | omega | (simp only [List.length_set, List.length_append, List.length_cons, List.length_nil, List.length_replicate]; omega)) (by first | omega | (simp only [List.length_set, List.length_append, List.length_cons, List.length_nil, List.length_replicate]; omega)) rfl (fun g_19 hg_20 => ?_)
      refine Wx.storeR (j := p2.toNat) (z := q2) hS 1 rfl hg_20 rfl (by first | omega | (simp only [List.length_set, List.length_append, List.length_cons, List.length_nil, List.length_replicate]; omega)) rfl (V.mkInt (in_i64 (by omega) (by omega))) Tryz.sizeOf3 (fun w_21 hz_22 hS => ?_)
      refine Wx.nil ?_
      refine W.regQ mixedNd_ (by kernel_rfl) ?_
      refine Wx.rd (v := .int .i64 q2) (rd_move rfl) rfl ?_
      refine Wx.rd (v := tv) (rd_move rfl) rfl ?_
      refine Wx.rd (v := .int .i64 p2) (rd_move rfl) rfl ?_
      refine Wx.ex (rd_index 0 (hS.v 0 rfl) rfl rfl Tryz.underlying25 Tryz.sizeOf3 (by first | omega | (simp only [List.length_set, List.length_append, List.length_cons, List.length_nil, List.length_replicate]; omega)) (by first | omega | (simp only [List.length_set, List.length_append, List.length_cons, List.length_nil, List.length_replicate]; omega))) rfl (fun p_23 hp_24 => ?_)
      refine Wx.rd (v := .int .i64 (ix 0 td p2)) (rd_loadI hp_24 rfl Tryz.isAgg3 Tryz.sizeOf3) rfl ?_
      have bd_25 := bd_i64 hp_24.inK
      refine Wx.rd (v := .int .i64 q2) (rd_assign rfl) rfl ?_
      refine Wx.rd (v := .int .i64 (ix 0 td p2)) (rd_assign rfl) rfl ?_
      refine Wx.nilQ (fun w_26 hx_27 => ?_)
      have hS := hS.ext hx_27
      refine ⟨(q2, ix 0 td p2, List.set y2 p2.toNat q2), (hfm.2), ?_, ?_, Out.look rfl (Out.hav rfl (Out.look rfl Out.self))⟩
      · exact ⟨hS, (f5), (f6), (htp.1), (htp.2), (f3.set f5 f6), (by rw [← f4, hfm.1])⟩
      · exact ⟨rfl, rfl, trivial⟩
  · -- no
    refine W.exit rfl ?_
    refine W.seq ?_
    refine W.reg ?_
    refine Wx.rd (v := .bool true) (rd_assign rfl) rfl ?_
    refine Wx.nil ?_
    exact W.ret ⟨.bool true, ResIs.one, (by rw [← f4, fol_yes (by omega)]), (by rw [← f4, fol_yes (by omega)]; exact (St.tl hS))⟩
end Go.Proofs.YtlibemgaepkceaaGreatDoor

namespace Go.Proofs.YtlibemgaepkceaaGreatDoor
open Go.Wk Go.RowKit Go.Lib
set_option linter.unusedVariables false
set_option linter.unusedSimpArgs false


set_option maxHeartbeats 1000000 in
theorem F48 {v tv : Value} {ys td : List Int} {g6 g7 g1 n f : Nat} {p : Int} {ob : List Ob} {w0 w : World} {O : List (Option Nat)} (hn : n ≤ 7) (ht : ∀ z ∈ td, 0 ≤ z ∧ z < (n : Int)) (htl : td.length = n) (hI : HaI n ys) (hf : f ≤ n) (hp : p = (n : Int) - f) (IH : ∀ (k : Nat), k + 1 = f → ∀ (ob : List Ob) (ys' : List Int) (w1 : World), HaI n ys' → St w0 O w1 (.row (tI .i64) 3 v ys' :: .box g6 25 [v] :: .box g7 86 [(.func (.func 48) #[] #[.pointer (some ⟨g6, 0, none⟩), .pointer (some ⟨g7, 0, none⟩), .pointer (some ⟨g1, 0, none⟩)])] :: .box g1 25 [tv] :: Ob.v (tSl (tI .i64)) td tv :: ob) → Calls Tryz.prog 48 #[.int .i64 ((n : Int) - k), .pointer (some ⟨g6, 0, none⟩), .pointer (some ⟨g7, 0, none⟩), .pointer (some ⟨g1, 0, none⟩)] w1 (Bk fun r w' => r = .bool (putF td n k ys').1 ∧ St w0 O w' (.row (tI .i64) 3 v ((putF td n k ys').2) :: .box g6 25 [v] :: .box g7 86 [(.func (.func 48) #[] #[.pointer (some ⟨g6, 0, none⟩), .pointer (some ⟨g7, 0, none⟩), .pointer (some ⟨g1, 0, none⟩)])] :: .box g1 25 [tv] :: Ob.v (tSl (tI .i64)) td tv :: ob))) (hS : St w0 O w (.row (tI .i64) 3 v ys :: .box g6 25 [v] :: .box g7 86 [(.func (.func 48) #[] #[.pointer (some ⟨g6, 0, none⟩), .pointer (some ⟨g7, 0, none⟩), .pointer (some ⟨g1, 0, none⟩)])] :: .box g1 25 [tv] :: Ob.v (tSl (tI .i64)) td tv :: ob)) : Calls Tryz.prog 48 #[.int .i64 p, .pointer (some ⟨g6, 0, none⟩), .pointer (some ⟨g7, 0, none⟩), .pointer (some ⟨g1, 0, none⟩)] w (Bk fun r w' => r = .bool (putF td n f ys).1 ∧ St w0 O w' (.row (tI .i64) 3 v ((putF td n f ys).2) :: .box g6 25 [v] :: .box g7 86 [(.func (.func 48) #[] #[.pointer (some ⟨g6, 0, none⟩), .pointer (some ⟨g7, 0, none⟩), .pointer (some ⟨g1, 0, none⟩)])] :: .box g1 25 [tv] :: Ob.v (tSl (tI .i64)) td tv :: ob)) := by
  have hyl := hI.l
  refine enterB Tryz.func48 rfl Tryz.ntmps48 Tryz.results48 rfl ?_
  refine W.seq ?_
  refine W.reg ?_
  refine Wx.rd (v := .bool false) (rd_assign rfl) rfl ?_
  refine Wx.nil ?_
  refine W.seq ?_
  refine W.seq ?_
  refine W.reg ?_
  refine Wx.rd (v := .int .i64 p) (rd_move rfl) rfl ?_
  refine Wx.rd (v := v) (rd_loadX hS 1 rfl rfl rfl Tryz.isAgg25) rfl ?_
  refine Wx.rd (v := .int .i64 (ys.length : Int)) (rd_lenR hS 0 rfl rfl Tryz.underlying25) rfl ?_
  refine Wx.rd (v := .bool (decide (p = (ys.length : Int)))) (rd_eql rfl rfl) rfl ?_
  refine Wx.nil ?_
  refine W.condD rfl (fun c0 => ?_) (fun c0 => ?_)
  · -- yes
    refine W.seq ?_
    refine W.reg ?_
    refine Wx.rd (v := .bool true) (rd_assign rfl) rfl ?_
    refine Wx.nil ?_
    exact W.ret ⟨.bool true, ResIs.one, (by obtain rfl : f = 0 := (by omega); rfl), (by obtain rfl : f = 0 := (by omega); exact hS)⟩
  · -- no
    obtain ⟨k, rfl⟩ : ∃ k, f = k + 1 := ⟨f - 1, by omega⟩
    have hp2 : (n : Int) - ((k : Int) + 1) = p := by omega
    have hpk : p + 1 = (n : Int) - (k : Int) := by omega
    refine W.skip ?_
    refine W.seq ?_
    refine W.seq ?_
    refine W.reg ?_
    refine Wx.rd (v := v) (rd_loadX hS 1 rfl rfl rfl Tryz.isAgg25) rfl ?_
    refine Wx.rd (v := .int .i64 p) (rd_move rfl) rfl ?_
    refine Wx.indexR hS 0 rfl rfl rfl Tryz.underlying25 Tryz.sizeOf3 (by first | omega | (simp only [List.length_set, List.length_append, List.length_cons, List.length_nil, List.length_replicate]; omega)) (by first | omega | (simp only [List.length_set, List.length_append, List.length_cons, List.length_nil, List.length_replicate]; omega)) rfl (fun g_1 hg_2 => ?_)
    refine Wx.rd (v := .int .i64 (ix 0 ys p)) (rd_loadRI' hS 0 rfl hg_2 rfl (by first | omega | (simp only [List.length_set, List.length_append, List.length_cons, List.length_nil, List.length_replicate]; omega)) (by first | omega | (simp only [List.length_set, List.length_append, List.length_cons, List.length_nil, List.length_replicate]; omega)) Tryz.isAgg3 Tryz.sizeOf3) rfl ?_
    have bd_3 := bd_i64 (hS.rowInK' 0 rfl (by first | omega | (simp only [List.length_set, List.length_append, List.length_cons, List.length_nil, List.length_replicate]; omega)) (by first | omega | (simp only [List.length_set, List.length_append, List.length_cons, List.length_nil, List.length_replicate]; omega)) : InK .i64 (ix 0 ys p))
    refine Wx.rd (v := .bool (decide (0 ≤ (ix 0 ys p)))) (rd_geq rfl rfl) rfl ?_
    refine Wx.nil ?_
    refine W.condD rfl (fun c1 => ?_) (fun c1 => ?_)
    · -- yes
      refine W.seq ?_
      refine W.reg ?_
      refine Wx.rd (v := (.func (.func 48) #[] #[.pointer (some ⟨g6, 0, none⟩), .pointer (some ⟨g7, 0, none⟩), .pointer (some ⟨g1, 0, none⟩)])) (rd_loadX hS 2 rfl rfl rfl Tryz.isAgg86) rfl ?_
      refine Wx.rd (v := .int .i64 p) (rd_move rfl) rfl ?_
      refine Wx.rd (v := .int .i64 ((n : Int) - k)) (Rd.to (v := .int .i64 (p + 1)) (rd_add rfl rfl (in_i64 (by omega) (by omega))) (congrArg (Value.int .i64) (show (((n : Int) - k) : Int) = (p + 1 : Int) from (by omega)).symm)) rfl ?_
      have hS := hS.front 4 rfl
      have hS := hS.front 4 rfl
      have hS := hS.front 4 rfl
      have hS := hS.front 4 rfl
      have hS := hS.front 4 rfl
      have hS : St _ _ w (.row (tI .i64) 3 v ys :: .box g6 25 [v] :: .box g7 86 [(.func (.func 48) #[] #[.pointer (some ⟨g6, 0, none⟩), .pointer (some ⟨g7, 0, none⟩), .pointer (some ⟨g1, 0, none⟩)])] :: .box g1 25 [tv] :: Ob.v (tSl (tI .i64)) td tv :: ob) := hS
      refine Wx.callB (run_callC (fs := []) (cs := [.pointer (some ⟨g6, 0, none⟩), .pointer (some ⟨g7, 0, none⟩), .pointer (some ⟨g1, 0, none⟩)]) (vs := [.int .i64 ((n : Int) - k), .pointer (some ⟨g6, 0, none⟩), .pointer (some ⟨g7, 0, none⟩), .pointer (some ⟨g1, 0, none⟩)]) Tryz.call48 rfl rfl) (IH k rfl ([] ++ ob) ys _ hI hS) rfl ?_
      rintro r_4 w_5 ⟨hrp, hS⟩
      subst hrp
      have hS : St _ _ w_5 (.row (tI .i64) 3 v ((putF td n k ys).2) :: .box g6 25 [v] :: .box g7 86 [(.func (.func 48) #[] #[.pointer (some ⟨g6, 0, none⟩), .pointer (some ⟨g7, 0, none⟩), .pointer (some ⟨g1, 0, none⟩)])] :: .box g1 25 [tv] :: Ob.v (tSl (tI .i64)) td tv :: ob) := hS
      have hS := hS.front 4 rfl
      have hS := hS.front 4 rfl
      have hS := hS.front 4 rfl
      have hS := hS.front 4 rfl
      have hS := hS.front 4 rfl
      have hS : St _ _ w_5 (.row (tI .i64) 3 v ((putF td n k ys).2) :: .box g6 25 [v] :: .box g7 86 [(.func (.func 48) #[] #[.pointer (some ⟨g6, 0, none⟩), .pointer (some ⟨g7, 0, none⟩), .pointer (some ⟨g1, 0, none⟩)])] :: .box g1 25 [tv] :: Ob.v (tSl (tI .i64)) td tv :: ob) := hS
      refine Wx.rd (v := .bool ((putF td n k ys).1)) (rd_assign rfl) rfl ?_
      refine Wx.nil ?_
      exact W.ret ⟨.bool ((putF td n k ys).1), ResIs.one, (by rw [putF, hp2, if_pos c1]), (by rw [putF, hp2, if_pos c1]; exact hS)⟩
    · -- no
      have hput : putF td n (k + 1) ys = tryF td p (putF td n k) (upR n) ys := by rw [putF, hp2, if_neg c1]
      refine W.skip ?_
      refine W.seq ?_
      refine W.seq ?_
      refine W.reg ?_
      refine Wx.rd (v := v) (rd_loadX hS 1 rfl rfl rfl Tryz.isAgg25) rfl ?_
      refine Wx.rd (v := .int .i64 (ys.length : Int)) (rd_lenR hS 0 rfl rfl Tryz.underlying25) rfl ?_
      refine Wx.rd (v := .int .i64 0) (rd_move rfl) rfl ?_
      refine Wx.nil ?_
      refine W.block ?_
      refine W.loop [5, 6, 7, 23, 24, 25, 26, 27, 28, 29, 30, 31, 32, 33, 34, 35, 36, 37, 38, 39, 40, 41, 42] (fun x : Int × (List Int) => match x with | (q, y2) => [(23, .int .i64 q)]) (fun (x : Int × (List Int)) w' => match x with | (q, y2) => St w0 O w' (.row (tI .i64) 3 v y2 :: .box g6 25 [v] :: .box g7 86 [(.func (.func 48) #[] #[.pointer (some ⟨g6, 0, none⟩), .pointer (some ⟨g7, 0, none⟩), .pointer (some ⟨g1, 0, none⟩)])] :: .box g1 25 [tv] :: Ob.v (tSl (tI .i64)) td tv :: ob) ∧ 0 ≤ q ∧ q ≤ (ys.length : Int) ∧ y2 = ys ∧ tryF td p (putF td n k) ((upR n).drop q.toNat) ys = tryF td p (putF td n k) (upR n) ys) (fun x : Int × (List Int) => match x with | (q, y2) => ((ys.length : Int) - q).toNat) (0, ys) ⟨rfl, trivial⟩ ⟨hS, (by first | omega | simp), (by first | omega | simp), (rfl), (rfl)⟩ ?_
      rintro ⟨q, y2⟩ u_7 w_6 ⟨hS, q0, q1, q4, q3⟩
      have hIy : HaI n y2 := by rw [q4]; exact hI
      have hyl2 : y2.length = n := hIy.l
      refine W.seq ?_
      refine W.reg ?_
      refine Wx.rd (v := .bool (decide (q < (ys.length : Int)))) (rd_lss rfl rfl) rfl ?_
      refine Wx.nil ?_
      refine W.seq ?_
      refine W.condD rfl (fun c2 => ?_) (fun c2 => ?_)
      · -- yes
        have hIf := folF_ok ht htl (f := y2.count (-1)) (y := y2) (p := p) (q := q) hIy (by omega) (by omega) q0 (by omega)
        have hIp := putF_ok ht htl (f := k) (by omega) hIf
        refine W.skip ?_
        refine W.seq ?_
        refine W.block ?_
        refine W.seq ?_
        refine W.reg ?_
        refine Wx.rd (v := .int .i64 q) (rd_move rfl) rfl ?_
        refine Wx.rd (v := .int .i64 q) (rd_assign rfl) rfl ?_
        refine Wx.nil ?_
        refine W.seq ?_
        refine W.reg ?_
        refine Wx.rd (v := v) (rd_loadX hS 1 rfl rfl rfl Tryz.isAgg25) rfl ?_
        refine Wx.callF (run_callF Tryz.call49 rfl) (F49 (hS.lend 0 rfl) (by omega)) rfl ?_
        rintro r_8 w_9 hx_10 ⟨_, rfl, hv_11⟩
        have hS := hS.pushFr hx_10 hv_11
        refine Wx.rd (v := r_8) (rd_assign rfl) rfl ?_
        refine Wx.nil ?_
        refine W.seq ?_
        refine W.seq ?_
        refine W.reg ?_
        refine Wx.rd (v := tv) (rd_loadX hS 4 rfl rfl rfl Tryz.isAgg25) rfl ?_
        refine Wx.rd (v := v) (rd_loadX hS 2 rfl rfl rfl Tryz.isAgg25) rfl ?_
        refine Wx.rd (v := .int .i64 p) (rd_move rfl) rfl ?_
        refine Wx.rd (v := .int .i64 q) (rd_move rfl) rfl ?_
        have hS := hS.front 5 rfl
        have hS := hS.front 5 rfl
        have hS := hS.front 5 rfl
        have hS := hS.front 5 rfl
        have hS := hS.front 4 rfl
        have hS := hS.front 5 rfl
        have hS : St _ _ w_9 (.row (tI .i64) 3 v y2 :: .row (tI .i64) 3 r_8 y2 :: .box g6 25 [v] :: .box g7 86 [(.func (.func 48) #[] #[.pointer (some ⟨g6, 0, none⟩), .pointer (some ⟨g7, 0, none⟩), .pointer (some ⟨g1, 0, none⟩)])] :: .box g1 25 [tv] :: Ob.v (tSl (tI .i64)) td tv :: ob) := hS
        refine Wx.callB (run_callF Tryz.call50 rfl) (F50 (ob := (.row (tI .i64) 3 r_8 y2 :: .box g6 25 [v] :: .box g7 86 [(.func (.func 48) #[] #[.pointer (some ⟨g6, 0, none⟩), .pointer (some ⟨g7, 0, none⟩), .pointer (some ⟨g1, 0, none⟩)])] :: .box g1 25 [tv] :: Ob.v (tSl (tI .i64)) td tv :: ob)) hn ht htl hIy (show 0 ≤ p ∧ p < (n : Int) from ⟨by omega, by omega⟩) (show 0 ≤ q ∧ q < (n : Int) from ⟨q0, by omega⟩) hS (hS.v 5 rfl)) rfl ?_
        rintro r_13 w_14 ⟨rfl, hS⟩
        have hS : St _ _ w_14 (.row (tI .i64) 3 v ((folV td y2 p q).2) :: .row (tI .i64) 3 r_8 y2 :: .box g6 25 [v] :: .box g7 86 [(.func (.func 48) #[] #[.pointer (some ⟨g6, 0, none⟩), .pointer (some ⟨g7, 0, none⟩), .pointer (some ⟨g1, 0, none⟩)])] :: .box g1 25 [tv] :: Ob.v (tSl (tI .i64)) td tv :: ob) := hS
        have hS := hS.front 5 rfl
        have hS := hS.front 5 rfl
        have hS := hS.front 5 rfl
        have hS := hS.front 5 rfl
        have hS := hS.front 4 rfl
        have hS := hS.front 5 rfl
        have hS : St _ _ w_14 (.row (tI .i64) 3 r_8 y2 :: .row (tI .i64) 3 v ((folV td y2 p q).2) :: .box g6 25 [v] :: .box g7 86 [(.func (.func 48) #[] #[.pointer (some ⟨g6, 0, none⟩), .pointer (some ⟨g7, 0, none⟩), .pointer (some ⟨g1, 0, none⟩)])] :: .box g1 25 [tv] :: Ob.v (tSl (tI .i64)) td tv :: ob) := hS
        refine Wx.rd (v := .bool ((folV td y2 p q).1)) (rd_move rfl) rfl ?_
        cases hfo : (folV td y2 p q).1
        · -- false
          refine Wx.gnoB rfl rfl rfl rfl rfl ?_
          refine Wx.gnoB rfl rfl rfl rfl rfl ?_
          refine Wx.gnoB rfl rfl rfl rfl rfl ?_
          refine Wx.gnoB rfl rfl rfl rfl rfl ?_
          refine Wx.rd (v := .bool false) (rd_pickF rfl rfl) rfl ?_
          refine Wx.nil ?_
          refine W.condF rfl rfl ?_
          refine W.skip ?_
          refine W.reg ?_
          refine Wx.rd (v := v) (rd_loadX hS 2 rfl rfl rfl Tryz.isAgg25) rfl ?_
          refine Wx.rd (v := r_8) (rd_move rfl) rfl ?_
          refine Wx.copyW (c := ((min y2.length ((folV td y2 p q).2).length : Nat) : Int)) (yn := y2) rfl Tryz.underlying25 Tryz.sizeOf3 hS 1 rfl rfl (by have h1 : (folV td y2 p q).2.length = n := hIf.l; have h2 : (putF td n k (folV td y2 p q).2).2.length = n := hIp.l; omega) rfl (Src.ofR hS 0 rfl) rfl rfl (copy_all (by have h1 : (folV td y2 p q).2.length = n := hIf.l; have h2 : (putF td n k (folV td y2 p q).2).2.length = n := hIp.l; omega)) (fun w_15 hz_16 hS => ?_)
          refine Wx.nil ?_
          refine W.reg ?_
          refine Wx.rd (v := .int .i64 (q + 1)) (rd_add rfl rfl (in_i64 (by omega) (by omega))) rfl ?_
          refine Wx.rd (v := .int .i64 (q + 1)) (rd_move rfl) rfl ?_
          refine Wx.nil ?_
          refine ⟨(q + 1, y2), (by show ((ys.length : Int) - (q + 1)).toNat < ((ys.length : Int) - q).toNat; omega), ?_, ?_, Out.look rfl Out.self⟩
          · exact ⟨hS.tl, (by first | omega | assumption), (by first | omega | assumption), (q4), (by rw [← q3, try_no q0 (by omega) (by rw [← q4]; exact hfo)])⟩
          · exact ⟨rfl, trivial⟩
        · -- true
          refine Wx.gyes rfl rfl rfl ?_
          refine Wx.rd (v := (.func (.func 48) #[] #[.pointer (some ⟨g6, 0, none⟩), .pointer (some ⟨g7, 0, none⟩), .pointer (some ⟨g1, 0, none⟩)])) (rd_loadX hS 3 rfl rfl rfl Tryz.isAgg86) rfl ?_
          refine Wx.gyes rfl rfl rfl ?_
          refine Wx.rd (v := .int .i64 p) (rd_move rfl) rfl ?_
          refine Wx.gyes rfl rfl rfl ?_
          refine Wx.rd (v := .int .i64 ((n : Int) - k)) (Rd.to (v := .int .i64 (p + 1)) (rd_add rfl rfl (in_i64 (by omega) (by omega))) (congrArg (Value.int .i64) (show (((n : Int) - k) : Int) = (p + 1 : Int) from (by omega)).symm)) rfl ?_
          refine Wx.gyes rfl rfl rfl ?_
          have hS := hS.front 5 rfl
          have hS := hS.front 5 rfl
          have hS := hS.front 5 rfl
          have hS := hS.front 5 rfl
          have hS := hS.front 5 rfl
          have hS : St _ _ w_14 (.row (tI .i64) 3 v ((folV td y2 p q).2) :: .box g6 25 [v] :: .box g7 86 [(.func (.func 48) #[] #[.pointer (some ⟨g6, 0, none⟩), .pointer (some ⟨g7, 0, none⟩), .pointer (some ⟨g1, 0, none⟩)])] :: .box g1 25 [tv] :: Ob.v (tSl (tI .i64)) td tv :: .row (tI .i64) 3 r_8 y2 :: ob) := hS
          refine Wx.callB (run_callC (fs := []) (cs := [.pointer (some ⟨g6, 0, none⟩), .pointer (some ⟨g7, 0, none⟩), .pointer (some ⟨g1, 0, none⟩)]) (vs := [.int .i64 ((n : Int) - k), .pointer (some ⟨g6, 0, none⟩), .pointer (some ⟨g7, 0, none⟩), .pointer (some ⟨g1, 0, none⟩)]) Tryz.call48 rfl rfl) (IH k rfl ([.row (tI .i64) 3 r_8 y2] ++ ob) ((folV td y2 p q).2) _ hIf hS) rfl ?_
          rintro r_17 w_18 ⟨hrp, hS⟩
          subst hrp
          have hS : St _ _ w_18 (.row (tI .i64) 3 v ((putF td n k ((folV td y2 p q).2)).2) :: .box g6 25 [v] :: .box g7 86 [(.func (.func 48) #[] #[.pointer (some ⟨g6, 0, none⟩), .pointer (some ⟨g7, 0, none⟩), .pointer (some ⟨g1, 0, none⟩)])] :: .box g1 25 [tv] :: Ob.v (tSl (tI .i64)) td tv :: .row (tI .i64) 3 r_8 y2 :: ob) := hS
          have hS := hS.front 4 rfl
          have hS := hS.front 4 rfl
          have hS := hS.front 4 rfl
          have hS := hS.front 4 rfl
          have hS := hS.front 4 rfl
          have hS := hS.front 5 rfl
          have hS : St _ _ w_18 (.row (tI .i64) 3 r_8 y2 :: .row (tI .i64) 3 v ((putF td n k ((folV td y2 p q).2)).2) :: .box g6 25 [v] :: .box g7 86 [(.func (.func 48) #[] #[.pointer (some ⟨g6, 0, none⟩), .pointer (some ⟨g7, 0, none⟩), .pointer (some ⟨g1, 0, none⟩)])] :: .box g1 25 [tv] :: Ob.v (tSl (tI .i64)) td tv :: ob) := hS
          refine Wx.rd (v := .bool ((putF td n k ((folV td y2 p q).2)).1)) (rd_pickT rfl rfl) rfl ?_
          refine Wx.nil ?_
          refine W.cond rfl (fun c4 => ?_) (fun c4 => ?_)
          · -- yes
            try simp only [Bool.and_eq_true, Bool.or_eq_true, Bool.not_eq_true', Bool.and_eq_false_iff, Bool.or_eq_false_iff, Bool.not_eq_false', decide_eq_true_eq, decide_eq_false_iff_not, not_or, Bool.false_eq_true, Bool.true_eq_false, false_or, or_false, not_false_eq_true] at c4
            have hq2 : tryF td p (putF td n k) (upR n) ys = putF td n k (folV td y2 p q).2 := by rw [← q3, try_yes q0 (by omega) (by rw [← q4]; exact hfo) (by rw [← q4]; exact c4), q4]
            refine W.seq ?_
            refine W.reg ?_
            refine Wx.rd (v := .bool true) (rd_assign rfl) rfl ?_
            refine Wx.nil ?_
            exact W.ret ⟨.bool true, ResIs.one, (by rw [hput, hq2, c4]), (by rw [hput, hq2]; exact (St.tl hS))⟩
          · -- no
            try simp only [Bool.and_eq_true, Bool.or_eq_true, Bool.not_eq_true', Bool.and_eq_false_iff, Bool.or_eq_false_iff, Bool.not_eq_false', decide_eq_true_eq, decide_eq_false_iff_not, not_or, Bool.false_eq_true, Bool.true_eq_false, false_or, or_false, not_false_eq_true] at c4
            refine W.skip ?_
            refine W.reg ?_
            refine Wx.rd (v := v) (rd_loadX hS 2 rfl rfl rfl Tryz.isAgg25) rfl ?_
            refine Wx.rd (v := r_8) (rd_move rfl) rfl ?_
            refine Wx.copyW (c := ((min y2.length ((putF td n k ((folV td y2 p q).2)).2).length : Nat) : Int)) (yn := y2) rfl Tryz.underlying25 Tryz.sizeOf3 hS 1 rfl rfl (by have h1 : (folV td y2 p q).2.length = n := hIf.l; have h2 : (putF td n k (folV td y2 p q).2).2.length = n := hIp.l; omega) rfl (Src.ofR hS 0 rfl) rfl rfl (copy_all (by have h1 : (folV td y2 p q).2.length = n := hIf.l; have h2 : (putF td n k (folV td y2 p q).2).2.length = n := hIp.l; omega)) (fun w_19 hz_20 hS => ?_)
            refine Wx.nil ?_
            refine W.reg ?_
            refine Wx.rd (v := .int .i64 (q + 1)) (rd_add rfl rfl (in_i64 (by omega) (by omega))) rfl ?_
            refine Wx.rd (v := .int .i64 (q + 1)) (rd_move rfl) rfl ?_
            refine Wx.nil ?_
            refine ⟨(q + 1, y2), (by show ((ys.length : Int) - (q + 1)).toNat < ((ys.length : Int) - q).toNat; omega), ?_, ?_, Out.look rfl Out.self⟩
            · exact ⟨hS.tl, (by first | omega | assumption), (by first | omega | assumption), (q4), (by rw [← q3, try_not q0 (by omega) (by rw [← q4]; exact hfo) (by rw [← q4]; exact c4)])⟩
            · exact ⟨rfl, trivial⟩
      · -- no
        have hq2 : tryF td p (putF td n k) (upR n) ys = (false, ys) := by rw [← q3, try_end (by omega)]
        have hsay : y2 = ys := q4
        rw [hsay] at hS
        refine W.exit rfl ?_
        refine W.seq ?_
        refine W.reg ?_
        refine Wx.rd (v := .bool false) (rd_assign rfl) rfl ?_
        refine Wx.nil ?_
        exact W.ret ⟨.bool false, ResIs.one, (by rw [hput, hq2]), (by rw [hput, hq2]; exact hS)⟩

theorem haR {v tv : Value} {td : List Int} {g6 g7 g1 n : Nat} {w0 : World} {O : List (Option Nat)} (hn : n ≤ 7) (ht : ∀ z ∈ td, 0 ≤ z ∧ z < (n : Int)) (htl : td.length = n) :
    ∀ (f : Nat), f ≤ n → ∀ (ob : List Ob) (ys : List Int) (w : World), HaI n ys → St w0 O w (.row (tI .i64) 3 v ys :: .box g6 25 [v] :: .box g7 86 [(.func (.func 48) #[] #[.pointer (some ⟨g6, 0, none⟩), .pointer (some ⟨g7, 0, none⟩), .pointer (some ⟨g1, 0, none⟩)])] :: .box g1 25 [tv] :: Ob.v (tSl (tI .i64)) td tv :: ob) → Calls Tryz.prog 48 #[.int .i64 ((n : Int) - f), .pointer (some ⟨g6, 0, none⟩), .pointer (some ⟨g7, 0, none⟩), .pointer (some ⟨g1, 0, none⟩)] w (Bk fun r w' => r = .bool (putF td n f ys).1 ∧ St w0 O w' (.row (tI .i64) 3 v ((putF td n f ys).2) :: .box g6 25 [v] :: .box g7 86 [(.func (.func 48) #[] #[.pointer (some ⟨g6, 0, none⟩), .pointer (some ⟨g7, 0, none⟩), .pointer (some ⟨g1, 0, none⟩)])] :: .box g1 25 [tv] :: Ob.v (tSl (tI .i64)) td tv :: ob)) := by
  intro f
  induction f with
  | zero => intro hf ob ys w hI hS; exact F48 hn ht htl hI hf (by omega) (fun k hk => by omega) hS
  | succ f ih =>
    intro hf ob ys w hI hS
    exact F48 hn ht htl hI hf rfl (fun k hk ob ys' w1 hI' hS' => by
      obtain rfl : k = f := by omega
      exact ih (by omega) ob ys' w1 hI' hS') hS

end Go.Proofs.YtlibemgaepkceaaGreatDoor

namespace Go.Proofs.YtlibemgaepkceaaGreatDoor
open Go.Wk Go.RowKit Go.Lib
set_option linter.unusedVariables false
set_option linter.unusedSimpArgs false
theorem elZa_25 : ElemI Tryz.prog 25 3 (.int .i64 0) 1 8 := ElemI.of Tryz.underlying25 (by kernel_rfl) (by first | rfl | kernel_rfl) (by decide)
theorem mixedZa_ : Tryz.prog.follows .mixedOrders = true := by kernel_rfl

theorem F75 {y : Int} {w : World} (i_y : InK .u64 y) (q1 : 1 ≤ y) (q7 : y ≤ 40) : Calls Tryz.prog 75 #[.int .u64 1, .int .u64 y] w (Ret w (fun r _ => r = .tuple #[.int .u64 0, .int .u64 y])) := by
  have b_y := bd_u64 i_y
  have hm := and_mask q1 q7
  have hS := St.start0 w
  refine enterR Tryz.func75 rfl Tryz.ntmps75 Tryz.results75 rfl ?_
  refine W.seq ?_
  refine W.reg ?_
  refine Wx.rd (v := .int .u64 0) (rd_assign rfl) rfl ?_
  refine Wx.rd (v := .int .u64 0) (rd_assign rfl) rfl ?_
  refine Wx.nil ?_
  refine W.seq ?_
  refine W.reg ?_
  refine Wx.rd (v := .int .u64 1) (rd_move rfl) rfl ?_
  refine Wx.rd (v := .int .u64 1) (Rd.to (v := .int .u64 (bits .and .u64 1 4294967295)) (rd_and rfl rfl) (congrArg (Value.int .u64) (show (1 : Int) = (bits .and .u64 1 4294967295 : Int) from (by decide +kernel)).symm)) rfl ?_
  have bd_1 := bd_u64 (bits_in .and .u64 1 4294967295)
  refine Wx.rd (v := .int .u64 1) (rd_assign rfl) rfl ?_
  refine Wx.nil ?_
  refine W.seq ?_
  refine W.reg ?_
  refine Wx.rd (v := .int .u64 1) (rd_move rfl) rfl ?_
  refine Wx.rd (v := .int .u64 0) (Rd.to (v := .int .u64 (1 / 2 ^ min (32 : Int).toNat (IntKind.u64).bits)) (rd_shr rfl rfl (by omega)) (congrArg (Value.int .u64) (show (0 : Int) = (1 / 2 ^ min (32 : Int).toNat (IntKind.u64).bits : Int) from (by decide +kernel)).symm)) rfl ?_
  refine Wx.rd (v := .int .u64 0) (rd_assign rfl) rfl ?_
  refine Wx.nil ?_
  refine W.seq ?_
  refine W.reg ?_
  refine Wx.rd (v := .int .u64 y) (rd_move rfl) rfl ?_
  refine Wx.rd (v := .int .u64 y) (Rd.to (v := .int .u64 (bits .and .u64 y 4294967295)) (rd_and rfl rfl) (congrArg (Value.int .u64) (show (y : Int) = (bits .and .u64 y 4294967295 : Int) from hm.1.symm).symm)) rfl ?_
  have bd_2 := bd_u64 (bits_in .and .u64 y 4294967295)
  refine Wx.rd (v := .int .u64 y) (rd_assign rfl) rfl ?_
  refine Wx.nil ?_
  refine W.seq ?_
  refine W.reg ?_
  refine Wx.rd (v := .int .u64 y) (rd_move rfl) rfl ?_
  refine Wx.rd (v := .int .u64 0) (Rd.to (v := .int .u64 (y / 2 ^ min (32 : Int).toNat (IntKind.u64).bits)) (rd_shr rfl rfl (by omega)) (congrArg (Value.int .u64) (show (0 : Int) = (y / 2 ^ min (32 : Int).toNat (IntKind.u64).bits : Int) from hm.2.symm).symm)) rfl ?_
  refine Wx.rd (v := .int .u64 0) (rd_assign rfl) rfl ?_
  refine Wx.nil ?_
  refine W.seq ?_
  refine W.reg ?_
  refine Wx.rd (v := .int .u64 1) (rd_move rfl) rfl ?_
  refine Wx.rd (v := .int .u64 y) (rd_move rfl) rfl ?_
  refine Wx.rd (v := .int .u64 y) (Rd.to (v := .int .u64 (1 * y)) (rd_mul rfl rfl (in_u64 (by omega) (by omega))) (congrArg (Value.int .u64) (show (y : Int) = (1 * y : Int) from (by omega)).symm)) rfl ?_
  refine Wx.rd (v := .int .u64 y) (rd_assign rfl) rfl ?_
  refine Wx.nil ?_
  refine W.seq ?_
  refine W.reg ?_
  refine Wx.rd (v := .int .u64 0) (rd_move rfl) rfl ?_
  refine Wx.rd (v := .int .u64 y) (rd_move rfl) rfl ?_
  refine Wx.rd (v := .int .u64 0) (Rd.to (v := .int .u64 (0 * y)) (rd_mul rfl rfl (in_u64 (by omega) (by omega))) (congrArg (Value.int .u64) (show (0 : Int) = (0 * y : Int) from (by omega)).symm)) rfl ?_
  refine Wx.rd (v := .int .u64 y) (rd_move rfl) rfl ?_
  refine Wx.rd (v := .int .u64 0) (Rd.to (v := .int .u64 (y / 2 ^ min (32 : Int).toNat (IntKind.u64).bits)) (rd_shr rfl rfl (by omega)) (congrArg (Value.int .u64) (show (0 : Int) = (y / 2 ^ min (32 : Int).toNat (IntKind.u64).bits : Int) from hm.2.symm).symm)) rfl ?_
  refine Wx.rd (v := .int .u64 0) (rd_add (a := 0) (b := 0) rfl rfl (in_u64 (by omega) (by omega))) rfl ?_
  refine Wx.rd (v := .int .u64 0) (rd_assign rfl) rfl ?_
  refine Wx.nil ?_
  refine W.seq ?_
  refine W.reg ?_
  refine Wx.rd (v := .int .u64 0) (rd_move rfl) rfl ?_
  refine Wx.rd (v := .int .u64 0) (Rd.to (v := .int .u64 (bits .and .u64 0 4294967295)) (rd_and rfl rfl) (congrArg (Value.int .u64) (show (0 : Int) = (bits .and .u64 0 4294967295 : Int) from (by decide +kernel)).symm)) rfl ?_
  have bd_3 := bd_u64 (bits_in .and .u64 0 4294967295)
  refine Wx.rd (v := .int .u64 0) (rd_assign rfl) rfl ?_
  refine Wx.nil ?_
  refine W.seq ?_
  refine W.reg ?_
  refine Wx.rd (v := .int .u64 0) (rd_move rfl) rfl ?_
  refine Wx.rd (v := .int .u64 0) (Rd.to (v := .int .u64 (0 / 2 ^ min (32 : Int).toNat (IntKind.u64).bits)) (rd_shr rfl rfl (by omega)) (congrArg (Value.int .u64) (show (0 : Int) = (0 / 2 ^ min (32 : Int).toNat (IntKind.u64).bits : Int) from (by decide +kernel)).symm)) rfl ?_
  refine Wx.rd (v := .int .u64 0) (rd_assign rfl) rfl ?_
  refine Wx.nil ?_
  refine W.seq ?_
  refine W.reg ?_
  refine Wx.rd (v := .int .u64 0) (rd_move rfl) rfl ?_
  refine Wx.rd (v := .int .u64 1) (rd_move rfl) rfl ?_
  refine Wx.rd (v := .int .u64 0) (rd_move rfl) rfl ?_
  refine Wx.rd (v := .int .u64 0) (rd_mul (a := 1) (b := 0) rfl rfl (in_u64 (by omega) (by omega))) rfl ?_
  refine Wx.rd (v := .int .u64 0) (rd_add (a := 0) (b := 0) rfl rfl (in_u64 (by omega) (by omega))) rfl ?_
  refine Wx.rd (v := .int .u64 0) (rd_assign rfl) rfl ?_
  refine Wx.nil ?_
  refine W.seq ?_
  refine W.reg ?_
  refine Wx.rd (v := .int .u64 0) (rd_move rfl) rfl ?_
  refine Wx.rd (v := .int .u64 0) (rd_move rfl) rfl ?_
  refine Wx.rd (v := .int .u64 0) (rd_mul (a := 0) (b := 0) rfl rfl (in_u64 (by omega) (by omega))) rfl ?_
  refine Wx.rd (v := .int .u64 0) (rd_move rfl) rfl ?_
  refine Wx.rd (v := .int .u64 0) (rd_add (a := 0) (b := 0) rfl rfl (in_u64 (by omega) (by omega))) rfl ?_
  refine Wx.rd (v := .int .u64 0) (rd_move rfl) rfl ?_
  refine Wx.rd (v := .int .u64 0) (Rd.to (v := .int .u64 (0 / 2 ^ min (32 : Int).toNat (IntKind.u64).bits)) (rd_shr rfl rfl (by omega)) (congrArg (Value.int .u64) (show (0 : Int) = (0 / 2 ^ min (32 : Int).toNat (IntKind.u64).bits : Int) from (by decide +kernel)).symm)) rfl ?_
  refine Wx.rd (v := .int .u64 0) (rd_add (a := 0) (b := 0) rfl rfl (in_u64 (by omega) (by omega))) rfl ?_
  refine Wx.rd (v := .int .u64 0) (rd_assign rfl) rfl ?_
  refine Wx.nil ?_
  refine W.seq ?_
  refine W.reg ?_
  refine Wx.rd (v := .int .u64 1) (rd_move rfl) rfl ?_
  refine Wx.rd (v := .int .u64 y) (rd_move rfl) rfl ?_
  refine Wx.rd (v := .int .u64 y) (Rd.to (v := .int .u64 (1 * y)) (rd_mul rfl rfl (in_u64 (by omega) (by omega))) (congrArg (Value.int .u64) (show (y : Int) = (1 * y : Int) from (by omega)).symm)) rfl ?_
  refine Wx.rd (v := .int .u64 y) (rd_assign rfl) rfl ?_
  refine Wx.nil ?_
  exact W.ret ⟨.tuple #[.int .u64 0, .int .u64 y], ResIs.two, hS.bel, rfl⟩

theorem F64 {y : Int} {w : World} (i_y : InK .u64 y) (q1 : 1 ≤ y) (q7 : y ≤ 40) : Calls Tryz.prog 64 #[.int .u64 1, .int .u64 y] w (Ret w (fun r _ => r = .tuple #[.int .u64 0, .int .u64 y])) := by
  have b_y := bd_u64 i_y
  have hS := St.start0 w
  refine enterR Tryz.func64 rfl Tryz.ntmps64 Tryz.results64 rfl ?_
  refine W.seq ?_
  refine W.reg ?_
  refine Wx.rd (v := .int .u64 0) (rd_assign rfl) rfl ?_
  refine Wx.rd (v := .int .u64 0) (rd_assign rfl) rfl ?_
  refine Wx.nil ?_
  refine W.seq ?_
  refine W.condF rfl rfl ?_
  refine W.skip ?_
  refine W.seq ?_
  refine W.reg ?_
  refine Wx.rd (v := .int .u64 1) (rd_move rfl) rfl ?_
  refine Wx.rd (v := .int .u64 y) (rd_move rfl) rfl ?_
  refine Wx.callF (run_callF Tryz.call75 rfl) (F75 i_y (by omega) (by omega)) rfl ?_
  rintro r_1 w_2 hx_3 rfl
  have hS := hS.ext hx_3
  refine Wx.rd (v := .tuple #[.int .u64 0, .int .u64 y]) (rd_move rfl) rfl ?_
  refine Wx.rd (v := .int .u64 0) (rd_extract rfl rfl) rfl ?_
  refine Wx.rd (v := .int .u64 y) (rd_extract rfl rfl) rfl ?_
  refine Wx.rd (v := .int .u64 0) (rd_assign rfl) rfl ?_
  refine Wx.rd (v := .int .u64 y) (rd_assign rfl) rfl ?_
  refine Wx.nil ?_
  refine W.seq ?_
  refine W.reg ?_
  refine Wx.rd (v := .int .u64 0) (rd_move rfl) rfl ?_
  refine Wx.rd (v := .int .u64 y) (rd_move rfl) rfl ?_
  refine Wx.rd (v := .int .u64 0) (rd_assign rfl) rfl ?_
  refine Wx.rd (v := .int .u64 y) (rd_assign rfl) rfl ?_
  refine Wx.nil ?_
  exact W.ret ⟨.tuple #[.int .u64 0, .int .u64 y], ResIs.two, hS.bel, rfl⟩

theorem F47 {xv : Value} {Fr_xv : List (Option Nat)} {n : Int} {a : Int} {w : World} (h_xv : V (tSl (tI .i64)) [a] xv Fr_xv w) (i_n : InK .i64 n) (q1 : 1 ≤ n) (q7 : n ≤ 40) : Calls Tryz.prog 47 #[xv, .int .i64 n] w (Ret w (fun r w' => ∃ rv, r = rv ∧ Fresh (tI .i64) 3 (List.replicate n.toNat a) rv w.heap.size w')) := by
  have b_n := bd_i64 i_n
  have a_xv := h_xv.any
  have l_xv := h_xv.len63
  have hS := St.start0 w
  refine enterR Tryz.func47 rfl Tryz.ntmps47 Tryz.results47 rfl ?_
  refine W.seq ?_
  refine W.reg ?_
  refine Wx.rd (v := (.slice none 0 0)) (rd_assign rfl) rfl ?_
  refine Wx.nil ?_
  refine W.seq ?_
  refine W.seq ?_
  refine W.reg ?_
  refine Wx.rd (v := .int .i64 n) (rd_move rfl) rfl ?_
  refine Wx.rd (v := .bool (decide (n < 0))) (rd_lss rfl rfl) rfl ?_
  refine Wx.nil ?_
  refine W.condF rfl (decide_eq_false (by omega)) ?_
  refine W.skip ?_
  refine W.seq ?_
  refine W.reg ?_
  refine Wx.rd (v := xv) (rd_move rfl) rfl ?_
  refine Wx.rd (v := .int .i64 1) (Rd.to (v := .int .i64 ([a].length : Int)) (rd_lenV rfl (hS.arg a_xv) Tryz.underlying25) (congrArg (Value.int .i64) (show (1 : Int) = (([a].length : Int) : Int) from rfl).symm)) rfl ?_
  refine Wx.rd (v := .int .u64 1) (rd_convIn rfl Tryz.underlying3 Tryz.underlying57 (in_u64 (by omega) (by omega))) rfl ?_
  refine Wx.rd (v := .int .i64 n) (rd_move rfl) rfl ?_
  refine Wx.rd (v := .int .u64 n) (rd_convIn rfl Tryz.underlying3 Tryz.underlying57 (in_u64 (by omega) (by omega))) rfl ?_
  refine Wx.callF (run_callF Tryz.call64 rfl) (F64 (in_u64 (by omega) (by omega)) (by omega) (by omega)) rfl ?_
  rintro r_1 w_2 hx_3 rfl
  have hS := hS.ext hx_3
  refine Wx.rd (v := .tuple #[.int .u64 0, .int .u64 n]) (rd_move rfl) rfl ?_
  refine Wx.rd (v := .int .u64 0) (rd_extract rfl rfl) rfl ?_
  refine Wx.rd (v := .int .u64 n) (rd_extract rfl rfl) rfl ?_
  refine Wx.rd (v := .int .u64 0) (rd_assign rfl) rfl ?_
  refine Wx.rd (v := .int .u64 n) (rd_assign rfl) rfl ?_
  refine Wx.nil ?_
  refine W.seq ?_
  refine W.seq ?_
  refine W.reg ?_
  refine Wx.rd (v := .int .u64 0) (rd_move rfl) rfl ?_
  refine Wx.rd (v := .bool false) (Rd.to (v := .bool (decide ((0 : Int) < 0))) (rd_gtr rfl rfl) rfl) rfl ?_
  refine Wx.rd (v := .bool false) (rd_move rfl) rfl ?_
  refine Wx.gyes rfl rfl rfl ?_
  refine Wx.rd (v := .int .u64 n) (rd_move rfl) rfl ?_
  refine Wx.gyes rfl rfl rfl ?_
  refine Wx.rd (v := .bool (decide (9223372036854775807 < n))) (rd_gtr rfl rfl) rfl ?_
  refine Wx.rd (v := .bool (decide (9223372036854775807 < n))) (rd_pickF rfl rfl) rfl ?_
  refine Wx.nil ?_
  refine W.condF rfl (by simp; omega) ?_
  refine W.skip ?_
  refine W.seq ?_
  refine W.reg ?_
  refine Wx.rd (v := .int .u64 n) (rd_move rfl) rfl ?_
  refine Wx.rd (v := .int .i64 n) (rd_convIn rfl Tryz.underlying57 Tryz.underlying3 (in_i64 (by omega) (by omega))) rfl ?_
  refine Wx.make (t := (tI .i64)) (zy := (0 : Int)) (m := n.toNat) elZa_25 rfl rfl (fun _ _ => ⟨rfl, by decide, by decide⟩) hS (congrArg (Value.int .i64) (by omega)) (congrArg (Value.int .i64) (by omega)) (by omega) (by simp only [maxLen]; omega) rfl (fun v_4 w_5 hx_6 hS => ?_)
  refine Wx.rd (v := v_4) (rd_assign rfl) rfl ?_
  refine Wx.nil ?_
  refine W.seq ?_
  refine W.reg ?_
  refine Wx.rd (v := v_4) (rd_move rfl) rfl ?_
  refine Wx.rd (v := xv) (rd_move rfl) rfl ?_
  have hrl : (List.replicate n.toNat (0 : Int)).length = n.toNat := by simp
  refine Wx.copyW (c := 1) (yn := List.replicate 1 a ++ List.replicate (n.toNat - 1) 0) rfl Tryz.underlying25 Tryz.sizeOf3 hS 0 rfl rfl (by simp; omega) rfl (Src.ofV (hS.arg a_xv)) rfl (by simp; omega) (rep_first (by omega)) (fun w_9 hz_10 hS => ?_)
  refine Wx.rd (v := .int .i64 1) (rd_assign rfl) rfl ?_
  refine Wx.nil ?_
  refine W.seq ?_
  refine W.block ?_
  refine W.loop [8, 34, 35, 36, 37, 38, 39, 40, 41, 42, 43, 44, 45, 46] (fun x : Int × (List Int) => match x with | (b, out) => [(8, .int .i64 b)]) (fun (x : Int × (List Int)) w' => match x with | (b, out) => St w [] w' [.row (tI .i64) 3 v_4 out] ∧ 1 ≤ b ∧ b ≤ n ∧ out = List.replicate b.toNat a ++ List.replicate (n.toNat - b.toNat) 0 ∧ (out.length : Int) = n) (fun x : Int × (List Int) => match x with | (b, out) => (n - b).toNat) (1, List.replicate 1 a ++ List.replicate (n.toNat - 1) 0) ⟨rfl, trivial⟩ ⟨hS, (by first | omega | simp), (by first | omega | simp), (rfl), (by simp; omega)⟩ ?_
  rintro ⟨b, out⟩ u_12 w_11 ⟨hS, h0, h1, h2, h3⟩
  refine W.seq ?_
  refine W.seq ?_
  refine W.reg ?_
  refine Wx.rd (v := .int .i64 b) (rd_move rfl) rfl ?_
  refine Wx.rd (v := v_4) (rd_move rfl) rfl ?_
  refine Wx.rd (v := .int .i64 (out.length : Int)) (rd_lenR hS 0 rfl rfl Tryz.underlying25) rfl ?_
  refine Wx.rd (v := .bool (decide (b < (out.length : Int)))) (rd_lss rfl rfl) rfl ?_
  refine Wx.nil ?_
  refine W.condD rfl (fun c2 => ?_) (fun c2 => ?_)
  · -- yes
    refine W.skip ?_
    refine W.block ?_
    refine W.regP mixedZa_ (fun w_13 hx_14 => ?_)
    have hS := hS.ext hx_14
    refine Wp.rd (v := .int .i64 b) 0 rfl (by kernel_rfl) (fun _ => (rd_move rfl)) rfl ?_
    refine Wp.rd (v := v_4) 1 rfl (by kernel_rfl) (fun _ => (rd_move rfl)) rfl ?_
    refine Wp.rd (v := .int .i64 b) 2 rfl (by kernel_rfl) (fun _ => (rd_move rfl)) rfl ?_
    refine Wp.ex2 3 rfl (by kernel_rfl) (rd_tailR hS 0 rfl Tryz.underlying25 Tryz.sizeOf3 rfl rfl (by omega) (by omega)) rfl (fun g_15 c_16 hg_17 => ?_)
    refine Wp.rd (v := v_4) 4 rfl (by kernel_rfl) (fun _ => (rd_move rfl)) rfl ?_
    refine Wp.rd (v := .int .i64 b) 5 rfl (by kernel_rfl) (fun _ => (rd_move rfl)) rfl ?_
    refine Wp.ex2 6 rfl (by kernel_rfl) (rd_headR hS 0 rfl Tryz.underlying25 Tryz.sizeOf3 rfl rfl (by omega) (by omega)) rfl (fun g_18 c_19 hg_20 => ?_)
    refine Wp.br [7] (by kernel_rfl) (by decide) ⟨⟨_, rfl, ?_⟩, trivial⟩
    refine Wx.copyR (c := min (b + b) n - b) (yn := List.replicate (min (b + b) n).toNat a ++ List.replicate (n.toNat - (min (b + b) n).toNat) 0) rfl Tryz.underlying25 Tryz.sizeOf3 hS 0 rfl hg_17 rfl (by show b.toNat * 1 + (out.length - b.toNat) ≤ out.length; omega) rfl (Src.headR hS 0 rfl hg_20 (by omega)) rfl (by rw [List.length_take, Nat.min_eq_left (show b.toNat ≤ out.length by omega), Nat.min_def, Int.min_def]; split <;> split <;> omega) (by rw [h2]; exact rep_next (by omega) (by omega)) (fun w_21 hz_22 hS => ?_)
    refine Wx.nil ?_
    refine Wp.rd (v := .int .i64 (b + (min (b + b) n - b))) 8 rfl (by kernel_rfl) (fun _ => (rd_add rfl rfl (in_i64 (by omega) (by omega)))) rfl ?_
    refine Wp.rd (v := .int .i64 (b + (min (b + b) n - b))) 9 rfl (by kernel_rfl) (fun _ => (rd_assign rfl)) rfl ?_
    refine Wp.done (by kernel_rfl) ?_
    refine ⟨(b + (min (b + b) n - b), List.replicate (min (b + b) n).toNat a ++ List.replicate (n.toNat - (min (b + b) n).toNat) 0), (by show (n - (b + (min (b + b) n - b))).toNat < (n - b).toNat; omega), ?_, ?_, Out.look rfl Out.self⟩
    · exact ⟨hS, (by first | omega | assumption), (by first | omega | assumption), (by rw [show b + (min (b + b) n - b) = min (b + b) n by omega]), (by simp; omega)⟩
    · exact ⟨rfl, trivial⟩
  · -- no
    refine W.exit rfl ?_
    refine W.seq ?_
    refine W.reg ?_
    refine Wx.rd (v := v_4) (rd_move rfl) rfl ?_
    refine Wx.rd (v := v_4) (rd_assign rfl) rfl ?_
    refine Wx.nil ?_
    have e0_0 : List.replicate n.toNat a = out := by rw [h2, show n.toNat - b.toNat = 0 by omega, show b = n by omega]; simp
    exact W.ret ⟨v_4, ResIs.one, hS.bel, ⟨v_4, rfl, (by rw [e0_0]; exact (hS.fr 0 rfl flat_int))⟩⟩
end Go.Proofs.YtlibemgaepkceaaGreatDoor

namespace Go.Proofs.YtlibemgaepkceaaGreatDoor
open Go.Wk Go.RowKit Go.Lib
set_option linter.unusedVariables false
set_option linter.unusedSimpArgs false
theorem elNf_25 : ElemI Tryz.prog 25 3 (.int .i64 0) 1 8 := ElemI.of Tryz.underlying25 (by kernel_rfl) (by first | rfl | kernel_rfl) (by decide)

theorem F29 {tv : Value} {td : List Int} {O : List (Option Nat)} {w : World} (h_tv : V (tSl (tI .i64)) td tv O w) (p_t : td = T4) (hO : ∀ b, some b ∈ O → b < w.heap.size) : Calls Tryz.prog 29 #[tv] w (Ret w (fun r w' => ∃ rv, r = .tuple #[rv, .int .i64 0] ∧ Fresh (tI .i64) 3 ([2, 3, 1, 0] : List Int) rv w.heap.size w')) := by
  have a_tv := h_tv
  have l_tv := h_tv.len63
  have hS := St.start w O hO
  refine enterR Tryz.func29 rfl Tryz.ntmps29 Tryz.results29 rfl ?_
  refine W.seq ?_
  refine W.reg ?_
  refine Wx.box (cs := [tv]) hS rfl (Go.Wk.cells_one (V.oneC (hS.arg a_tv))) rfl (fun g_1 w_2 hx_4 hb_3 hS => ?_)
  refine Wx.rd (v := (.slice none 0 0)) (rd_assign rfl) rfl ?_
  refine Wx.rd (v := .int .i64 0) (rd_assign rfl) rfl ?_
  refine Wx.nil ?_
  refine W.seq ?_
  refine W.reg ?_
  refine Wx.rd (v := tv) (rd_loadX hS 0 rfl rfl rfl Tryz.isAgg25) rfl ?_
  refine Wx.callF (run_callF Tryz.call46 rfl) (F46 (hS.arg a_tv) p_t) rfl ?_
  rintro r_5 w_6 hx_7 rfl
  have hS := hS.ext hx_7
  refine Wx.rd (v := .tuple #[.int .i64 2, .int .i64 0]) (rd_move rfl) rfl ?_
  refine Wx.rd (v := .int .i64 2) (rd_extract rfl rfl) rfl ?_
  refine Wx.rd (v := .int .i64 0) (rd_extract rfl rfl) rfl ?_
  refine Wx.rd (v := .int .i64 2) (rd_assign rfl) rfl ?_
  refine Wx.rd (v := .int .i64 0) (rd_assign rfl) rfl ?_
  refine Wx.nil ?_
  refine W.seq ?_
  refine W.block ?_
  refine W.seq ?_
  refine W.reg ?_
  refine Wx.rd (v := .int .i64 0) (rd_move rfl) rfl ?_
  refine Wx.rd (v := .bool false) (Rd.to (v := .bool (decide ((0 : Int) ≠ 0))) (rd_neq rfl rfl) rfl) rfl ?_
  refine Wx.rd (v := .bool false) (rd_assign rfl) rfl ?_
  refine Wx.nil ?_
  refine W.condF rfl rfl ?_
  refine W.seq ?_
  refine W.reg ?_
  refine Wx.rd (v := .int .i64 2) (rd_move rfl) rfl ?_
  refine Wx.rd (v := .bool false) (Rd.to (v := .bool (decide ((2 : Int) = 0))) (rd_eql rfl rfl) rfl) rfl ?_
  refine Wx.rd (v := .bool false) (rd_assign rfl) rfl ?_
  refine Wx.nil ?_
  refine W.condF rfl rfl ?_
  refine W.skip ?_
  refine W.seq ?_
  refine W.reg ?_
  refine Wx.lit (t := (tI .i64)) (ys := [-1]) (vs := [.int .i64 (-1)]) elNf_25 hS rfl rfl ⟨(V.mkInt (in_i64 (by omega) (by omega))), trivial⟩ (by decide) rfl (fun v_8 w_9 hx_10 hS => ?_)
  refine Wx.rd (v := tv) (rd_loadX hS 1 rfl rfl rfl Tryz.isAgg25) rfl ?_
  refine Wx.rd (v := .int .i64 (td.length : Int)) (rd_lenV rfl (hS.arg a_tv) Tryz.underlying25) rfl ?_
  refine Wx.callF (run_callF Tryz.call47 rfl) (F47 (a := (-1)) (hS.lend 0 rfl) (in_i64 (by omega) (by omega)) (by rw [p_t]; decide) (by rw [p_t]; decide)) rfl ?_
  rintro r_11 w_12 hx_13 ⟨_, rfl, hv_14⟩
  have hS := hS.pushFr hx_13 hv_14
  refine Wx.alloc (cs := [(.slice none 0 0)]) hS Tryz.zeroValue25 rfl rfl (fun g_16 w_17 hx_19 hb_18 hS => ?_)
  refine Wx.storeX (cs' := [r_11]) (ds := [r_11]) hS 0 rfl rfl rfl (Go.Wk.cells_one (hS.rowOne 1 rfl)) Tryz.sizeOf25 (Nat.le_of_ble_eq_true rfl) (one_cons (hS.rowOne 1 rfl) one_nil) rfl (fun w_20 hz_21 hS => ?_)
  refine Wx.nil ?_
  refine W.seq ?_
  refine W.reg ?_
  refine Wx.alloc (cs := [.nilFunc]) hS Tryz.zeroValue86 rfl rfl (fun g_22 w_23 hx_25 hb_24 hS => ?_)
  refine Wx.nil ?_
  refine W.seq ?_
  refine W.reg ?_
  refine Wx.rd (v := .func (.func 48) #[] #[.pointer (some ⟨g_16, 0, none⟩), .pointer (some ⟨g_22, 0, none⟩), .pointer (some ⟨g_1, 0, none⟩)]) (rd_makeFunc (vs := []) (us := [.pointer (some ⟨g_16, 0, none⟩), .pointer (some ⟨g_22, 0, none⟩), .pointer (some ⟨g_1, 0, none⟩)]) rfl rfl) rfl ?_
  refine Wx.storeX (cs' := [.func (.func 48) #[] #[.pointer (some ⟨g_16, 0, none⟩), .pointer (some ⟨g_22, 0, none⟩), .pointer (some ⟨g_1, 0, none⟩)]]) (ds := [.func (.func 48) #[] #[.pointer (some ⟨g_16, 0, none⟩), .pointer (some ⟨g_22, 0, none⟩), .pointer (some ⟨g_1, 0, none⟩)]]) hS 0 rfl rfl rfl rfl Tryz.sizeOf86 (Nat.le_of_ble_eq_true rfl) (one_cons rfl one_nil) rfl (fun w_26 hz_27 hS => ?_)
  refine Wx.nil ?_
  refine W.seq ?_
  refine W.reg ?_
  have hS := hS.spell (ys' := [-1, -1, -1, -1]) 2 rfl (by rw [p_t]; rfl)
  refine Wx.rd (v := .func (.func 48) #[] #[.pointer (some ⟨g_16, 0, none⟩), .pointer (some ⟨g_22, 0, none⟩), .pointer (some ⟨g_1, 0, none⟩)]) (rd_loadX hS 0 rfl rfl rfl Tryz.isAgg86) rfl ?_
  have hS := hS.add (hS.arg a_tv)
  have hS := hS.front 4 rfl
  have hS := hS.front 1 rfl
  have hS := hS.front 5 rfl
  have hS := hS.front 3 rfl
  have hS := hS.front 4 rfl
  have hS := hS.front 5 rfl
  have hS : St _ _ w_26 [.row (tI .i64) 3 r_11 [-1, -1, -1, -1], .box g_16 25 [r_11], .box g_22 86 [.func (.func 48) #[] #[.pointer (some ⟨g_16, 0, none⟩), .pointer (some ⟨g_22, 0, none⟩), .pointer (some ⟨g_1, 0, none⟩)]], .box g_1 25 [tv], Ob.v (tSl (tI .i64)) td tv, .row (tI .i64) 3 v_8 [-1]] := hS
  refine Wx.callB (run_callC (fs := []) (cs := [.pointer (some ⟨g_16, 0, none⟩), .pointer (some ⟨g_22, 0, none⟩), .pointer (some ⟨g_1, 0, none⟩)]) (vs := [.int .i64 0, .pointer (some ⟨g_16, 0, none⟩), .pointer (some ⟨g_22, 0, none⟩), .pointer (some ⟨g_1, 0, none⟩)]) Tryz.call48 rfl rfl) (haR (n := 4) (by decide) (by rw [p_t]; decide) (by rw [p_t]; rfl) 4 (by decide) ([.row (tI .i64) 3 v_8 [-1]]) _ _ ⟨rfl, by decide⟩ hS) rfl ?_
  rintro r_28 w_29 ⟨rfl, hS⟩
  rw [p_t, half_T4] at hS
  simp only at hS
  rw [← p_t] at hS
  have hS : St _ _ w_29 [.row (tI .i64) 3 r_11 [2, 3, 1, 0], .box g_16 25 [r_11], .box g_22 86 [.func (.func 48) #[] #[.pointer (some ⟨g_16, 0, none⟩), .pointer (some ⟨g_22, 0, none⟩), .pointer (some ⟨g_1, 0, none⟩)]], .box g_1 25 [tv], Ob.v (tSl (tI .i64)) td tv, .row (tI .i64) 3 v_8 [-1]] := hS
  have hS := hS.drop 4
  have hS := hS.front 3 rfl
  have hS := hS.front 4 rfl
  have hS := hS.front 2 rfl
  have hS := hS.front 3 rfl
  have hS := hS.front 4 rfl
  have hS : St _ _ w_29 [.box g_22 86 [.func (.func 48) #[] #[.pointer (some ⟨g_16, 0, none⟩), .pointer (some ⟨g_22, 0, none⟩), .pointer (some ⟨g_1, 0, none⟩)]], .box g_16 25 [r_11], .row (tI .i64) 3 r_11 [2, 3, 1, 0], .row (tI .i64) 3 v_8 [-1], .box g_1 25 [tv]] := hS
  refine Wx.nil ?_
  refine W.seq ?_
  refine W.reg ?_
  refine Wx.rd (v := r_11) (rd_loadX hS 1 rfl rfl rfl Tryz.isAgg25) rfl ?_
  refine Wx.rd (v := r_11) (rd_assign rfl) rfl ?_
  refine Wx.rd (v := .int .i64 0) (rd_assign rfl) rfl ?_
  refine Wx.nil ?_
  have e0_0 : ([2, 3, 1, 0] : List Int) = [2, 3, 1, 0] := by rfl
  exact W.ret ⟨.tuple #[r_11, .int .i64 0], ResIs.two, hS.bel, ⟨r_11, rfl, (by rw [e0_0]; exact (hS.fr 2 rfl flat_int))⟩⟩
end Go.Proofs.YtlibemgaepkceaaGreatDoor

namespace Go.Proofs.YtlibemgaepkceaaGreatDoor
open Go.Wk Go.RowKit Go.Lib
set_option linter.unusedVariables false
set_option linter.unusedSimpArgs false
theorem mixedVa_ : Tryz.prog.follows .mixedOrders = true := by kernel_rfl

theorem F27 {xv : Value} {xs : List Int} {Fr_xv : List (Option Nat)} {yv : Value} {ys : List Int} {Fr_yv : List (Option Nat)} {w : World} (h_xv : V (tSl (tI .i64)) xs xv Fr_xv w) (h_yv : V (tSl (tI .i64)) ys yv Fr_yv w) : Calls Tryz.prog 27 #[xv, yv] w (Ret w (fun r _ => r = .bool (decide (xs = ys)))) := by
  have a_xv := h_xv.any
  have l_xv := h_xv.len63
  have a_yv := h_yv.any
  have l_yv := h_yv.len63
  have hS := St.start0 w
  refine enterR Tryz.func27 rfl Tryz.ntmps27 Tryz.results27 rfl ?_
  refine W.seq ?_
  refine W.reg ?_
  refine Wx.rd (v := .bool false) (rd_assign rfl) rfl ?_
  refine Wx.nil ?_
  refine W.seq ?_
  refine W.seq ?_
  refine W.reg ?_
  refine Wx.rd (v := xv) (rd_move rfl) rfl ?_
  refine Wx.rd (v := .int .i64 (xs.length : Int)) (rd_lenV rfl (hS.arg a_xv) Tryz.underlying25) rfl ?_
  refine Wx.rd (v := yv) (rd_move rfl) rfl ?_
  refine Wx.rd (v := .int .i64 (ys.length : Int)) (rd_lenV rfl (hS.arg a_yv) Tryz.underlying25) rfl ?_
  refine Wx.rd (v := .bool (decide ((xs.length : Int) ≠ (ys.length : Int)))) (rd_neq rfl rfl) rfl ?_
  refine Wx.nil ?_
  refine W.condD rfl (fun c0 => ?_) (fun c0 => ?_)
  · -- yes
    refine W.seq ?_
    refine W.reg ?_
    refine Wx.rd (v := .bool false) (rd_assign rfl) rfl ?_
    refine Wx.nil ?_
    have e0_0 : (decide (xs = ys)) = false := by exact decide_eq_false (fun h : xs = ys => c0 (by rw [h]))
    exact W.ret ⟨.bool false, ResIs.one, hS.bel, (by rw [e0_0])⟩
  · -- no
    refine W.skip ?_
    refine W.seq ?_
    refine W.seq ?_
    refine W.reg ?_
    refine Wx.rd (v := xv) (rd_move rfl) rfl ?_
    refine Wx.rd (v := .int .i64 (xs.length : Int)) (rd_lenV rfl (hS.arg a_xv) Tryz.underlying25) rfl ?_
    refine Wx.rd (v := .int .i64 0) (rd_move rfl) rfl ?_
    refine Wx.nil ?_
    refine W.block ?_
    refine W.loop [4, 5, 13, 14, 15, 16, 17, 18, 19, 20, 21, 22, 23, 24, 25] (fun (k : Int) => [(13, .int .i64 k)]) (fun (k : Int) w' => St w [] w' [] ∧ 0 ≤ k ∧ k ≤ xs.length ∧ decide (xs.drop k.toNat = ys.drop k.toNat) = decide (xs = ys)) (fun (k : Int) => (xs.length - k).toNat) 0 ⟨rfl, trivial⟩ ⟨hS, (by first | omega | simp), (by first | omega | simp), (by simp)⟩ ?_
    rintro k u_2 w_1 ⟨hS, h0, h1, h2⟩
    refine W.seq ?_
    refine W.reg ?_
    refine Wx.rd (v := .bool (decide (k < (xs.length : Int)))) (rd_lss rfl rfl) rfl ?_
    refine Wx.nil ?_
    refine W.seq ?_
    refine W.condD rfl (fun c1 => ?_) (fun c1 => ?_)
    · -- yes
      refine W.skip ?_
      refine W.seq ?_
      refine W.block ?_
      refine W.seq ?_
      refine W.reg ?_
      refine Wx.rd (v := .int .i64 k) (rd_move rfl) rfl ?_
      refine Wx.rd (v := .int .i64 k) (rd_assign rfl) rfl ?_
      refine Wx.nil ?_
      refine W.seq ?_
      refine W.regQ mixedVa_ (by kernel_rfl) ?_
      refine Wx.rd (v := xv) (rd_move rfl) rfl ?_
      refine Wx.rd (v := .int .i64 k) (rd_move rfl) rfl ?_
      refine Wx.ex (rd_index 0 (hS.arg a_xv) rfl rfl Tryz.underlying25 Tryz.sizeOf3 (by first | omega | (simp only [List.length_set, List.length_append, List.length_cons, List.length_nil, List.length_replicate]; omega)) (by first | omega | (simp only [List.length_set, List.length_append, List.length_cons, List.length_nil, List.length_replicate]; omega))) rfl (fun p_3 hp_4 => ?_)
      refine Wx.rd (v := .int .i64 (ix 0 xs k)) (rd_loadI hp_4 rfl Tryz.isAgg3 Tryz.sizeOf3) rfl ?_
      have bd_5 := bd_i64 hp_4.inK
      refine Wx.rd (v := yv) (rd_move rfl) rfl ?_
      refine Wx.rd (v := .int .i64 k) (rd_move rfl) rfl ?_
      refine Wx.ex (rd_index 0 (hS.arg a_yv) rfl rfl Tryz.underlying25 Tryz.sizeOf3 (by first | omega | (simp only [List.length_set, List.length_append, List.length_cons, List.length_nil, List.length_replicate]; omega)) (by first | omega | (simp only [List.length_set, List.length_append, List.length_cons, List.length_nil, List.length_replicate]; omega))) rfl (fun p_6 hp_7 => ?_)
      refine Wx.rd (v := .int .i64 (ix 0 ys k)) (rd_loadI hp_7 rfl Tryz.isAgg3 Tryz.sizeOf3) rfl ?_
      have bd_8 := bd_i64 hp_7.inK
      refine Wx.rd (v := .bool (decide ((ix 0 xs k) ≠ (ix 0 ys k)))) (rd_neq rfl rfl) rfl ?_
      refine Wx.nilQ (fun w_9 hx_10 => ?_)
      have hS := hS.ext hx_10
      refine W.condD rfl (fun c2 => ?_) (fun c2 => ?_)
      · -- yes
        refine W.seq ?_
        refine W.reg ?_
        refine Wx.rd (v := .bool false) (rd_assign rfl) rfl ?_
        refine Wx.nil ?_
        have he : ¬ ix 0 xs k = ix 0 ys k := fun hh => by rw [hh] at c2; omega
        have e1_0 : (decide (xs = ys)) = false := by rw [← h2, drop_ix (d := 0) h0 c1, drop_ix (d := 0) (xs := ys) h0 (by omega)]; simp [he]
        exact W.ret ⟨.bool false, ResIs.one, hS.bel, (by rw [e1_0])⟩
      · -- no
        refine W.skip ?_
        refine W.reg ?_
        refine Wx.rd (v := .int .i64 (k + 1)) (rd_add rfl rfl (in_i64 (by omega) (by omega))) rfl ?_
        refine Wx.rd (v := .int .i64 (k + 1)) (rd_move rfl) rfl ?_
        refine Wx.nil ?_
        have he : ix 0 xs k = ix 0 ys k := by omega
        refine ⟨k + 1, (by show (xs.length - (k + 1)).toNat < (xs.length - k).toNat; omega), ?_, ?_, Out.look rfl Out.self⟩
        · exact ⟨hS, (by first | omega | assumption), (by first | omega | assumption), (by rw [← h2, drop_ix (d := 0) h0 c1, drop_ix (d := 0) (xs := ys) h0 (by omega)]; simp [he])⟩
        · exact ⟨rfl, trivial⟩
    · -- no
      refine W.exit rfl ?_
      refine W.seq ?_
      refine W.reg ?_
      refine Wx.rd (v := .bool true) (rd_assign rfl) rfl ?_
      refine Wx.nil ?_
      have e2_0 : (decide (xs = ys)) = true := by rw [← h2, drop_end (by omega), drop_end (xs := ys) (by omega)]; simp
      exact W.ret ⟨.bool true, ResIs.one, hS.bel, (by rw [e2_0])⟩

theorem F30 {lv : Value} {l : List Int} {O : List (Option Nat)} {w : World} (h_lv : V (tSl (tI .i64)) l lv O w) (hO : ∀ b, some b ∈ O → b < w.heap.size) : Calls Tryz.prog 30 #[lv] w (Ret w (fun r w' => ∃ rv, r = rv ∧ V (tSl (tI .i64)) l rv O w')) := by
  have a_lv := h_lv
  have l_lv := h_lv.len63
  have hS := St.start w O hO
  refine enterR Tryz.func30 rfl Tryz.ntmps30 Tryz.results30 rfl ?_
  refine W.seq ?_
  refine W.reg ?_
  refine Wx.rd (v := (.slice none 0 0)) (rd_assign rfl) rfl ?_
  refine Wx.nil ?_
  refine W.seq ?_
  refine W.reg ?_
  refine Wx.rd (v := lv) (rd_move rfl) rfl ?_
  refine Wx.rd (v := lv) (rd_assign rfl) rfl ?_
  refine Wx.nil ?_
  exact W.ret ⟨lv, ResIs.one, hS.bel, ⟨lv, rfl, (V.mv (hS.arg a_lv) (.less (fun _ h => List.mem_append.2 (.inr h))))⟩⟩
end Go.Proofs.YtlibemgaepkceaaGreatDoor
