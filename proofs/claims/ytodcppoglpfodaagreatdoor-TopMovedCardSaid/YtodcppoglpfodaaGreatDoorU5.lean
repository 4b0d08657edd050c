/-
  WHAT IS PROVED HERE, TEXT BY TEXT (several texts of one prover, joined to one file; the conditions stand in each statement):
  * WHAT IS PROVED HERE: strings.Trim, out of the shelf's contract. Conditions stand in the statement.
  * WHAT IS SAID HERE, WITH PLAIN LAWS: the steps of the statement on moves as a rim. No program in sight.
  * WHAT IS PROVED HERE: plain laws of shores as maps: without the lines that are no joints of the tree a map has as many parts as there are joints with the river. No program in sight.
  * WHAT IS PROVED HERE: plain laws of six small shores as maps: without the lines that are no joints of the tree there are as many parts, with the places alone, as joints with the river. No program in sight.
  * WHAT IS PROVED HERE: plain laws of rings of ends: gone along until the first end comes again. No program in sight.
  * WHAT IS PROVED HERE: plain laws of parts: labels in an array, turned one by one. No program in sight.
  * WHAT IS PROVED HERE: plain laws of tables that are made of lists of ends, and of lists without a line. No program in sight.
-/
import Derived.Test.YtodcppoglpfodaaGreatDoorU2
import Derived.Shelf.Strings.SlTrimAscii
import Derived.Test.YtodcppoglpfodaaGreatDoorU4

set_option linter.unusedVariables false
set_option linter.unusedSimpArgs false

namespace Go.Proofs.YtodcppoglpfodaaGreatDoor
set_option linter.unusedVariables false
open Go.Wk Go.RowKit Go.Lib
def trimV (s t : ByteArray) : ByteArray := ⟨(Go.Lib.trimS s.data.toList t.data.toList).toArray⟩
theorem F7 {s t : ByteArray} {w : World} (s_s : s.size ≤ maxLen) (s_t : t.size ≤ maxLen) (p_t : t.data.toList.all (fun b => decide (b.toNat < 128)) = true) (p_z : (t.size : Int) ≤ 1000) : Calls Tryz.prog 7 #[.string s, .string t] w (Ret w fun q _ => q = .string (trimV s t)) :=
  C5.ret_of_below (Any.strings_Trim_laid Tryz.lays160 (by kernel_rfl) s t w s_s (by omega) (ascii_of_all p_t))
end Go.Proofs.YtodcppoglpfodaaGreatDoor

namespace Go.Proofs.YtodcppoglpfodaaGreatDoor
open Go.Wk Go.RowKit Go.Lib
set_option linter.unusedVariables false
theorem St.dropPre {w0 w : Go.World} {O : List (Option Nat)} {ob : List Ob} : ∀ {pre : List Ob}, St w0 O w (pre ++ ob) → St w0 O w ob
  | [], h => h
  | _ :: _, h => St.dropPre h.tl
theorem mvl_bd {xs : List Int} {i : Int} (h0 : 0 ≤ i) (h1 : i < (mvS xs).size) : ix 0 (mvL xs) i = 105 ∨ ix 0 (mvL xs) i = 111 := by
  have hl := mvL_len xs
  have hm : ix 0 (mvL xs) i ∈ mvL xs := List.mem_of_getElem? (ix_get (d := (0 : Int)) (by omega) h0)
  rw [mvL, List.mem_map] at hm
  obtain ⟨p, hp, he⟩ := hm
  rw [mvL, ← he]
  exact pasv_mv hp
theorem mv_tab {xs : List Int} : ∀ i : Int, 0 ≤ i → i < (mvS xs).size → tabAt (mvS xs) i = 105 ∨ tabAt (mvS xs) i = 111 := fun i h0 h1 => by
  rw [tab_mv h0 h1]; exact mvl_bd h0 h1
theorem mv_rune {xs : List Int} {p : Nat} (h1 : (p : Int) < (mvS xs).size) : runeAt (mvS xs) p = ix 0 (mvL xs) p ∧ runeW (mvS xs) p = 1 := by
  have ht := mv_tab (xs := xs) p (by omega) h1
  have h := runeAt_ascii (s := mvS xs) (p := (p : Int)) (by omega) (by omega)
  rw [← tab_mv (by omega) h1]; exact h
theorem trim_mv (xs : List Int) : trimV (mvS xs) { data := #[105, 111] } = { data := #[] } := by
  have hall : ∀ b ∈ mvB xs, b = 105 ∨ b = 111 := fun b hb => by
    rw [mvB, List.mem_map] at hb
    obtain ⟨p, hp, rfl⟩ := hb
    rcases pasv_mv hp with h | h <;> rw [h]
    · exact .inl rfl
    · exact .inr rfl
  have hdw : ∀ l : List UInt8, (∀ b ∈ l, b = 105 ∨ b = 111) → l.dropWhile (List.contains [105, 111] ·) = [] := by
    intro l
    induction l with
    | nil => intro _; rfl
    | cons b l ih =>
      intro hl
      rw [List.dropWhile_cons, if_pos (by rcases hl b List.mem_cons_self with rfl | rfl <;> rfl)]
      exact ih fun b hb => hl b (List.mem_cons_of_mem _ hb)
  rw [trimV, mvS]
  show (⟨(Go.Lib.trimS (mvB xs) [105, 111]).toArray⟩ : ByteArray) = _
  rw [Go.Lib.trimS, Go.Lib.trimRightS, hdw _ fun b hb => hall b (List.mem_reverse.1 hb)]
  rfl
theorem cmk_bd (n c : Int) (keys bs : List Int) : ∀ (i : Nat) (x : Int), (0 ≤ mget 0 (cmK n c keys bs i).1 x ∧ mget 0 (cmK n c keys bs i).1 x ≤ i) ∧ 0 ≤ (cmK n c keys bs i).2 ∧ (cmK n c keys bs i).2 ≤ i
  | 0, x => ⟨⟨Int.le_refl 0, Int.le_refl 0⟩, Int.le_refl 0, Int.le_refl 0⟩
  | i + 1, x => by
    have h := cmk_bd n c keys bs i x
    have e := cmk_next (n := n) (c := c) (keys := keys) (bs := bs) (i := (i : Int)) (by omega)
    rw [show ((i + 1 : Nat) : Int) = (i : Int) + 1 by omega, e, cmS]
    split
    · refine ⟨?_, by simp only; omega, by simp only; omega⟩
      rw [mget_mput]
      split <;> omega
    · omega
theorem came_bd (xs : List Int) (x : Int) : 0 ≤ mget 0 (cameV xs) x ∧ mget 0 (cameV xs) x ≤ (mvL xs).length := (cmk_bd _ _ _ _ _ x).1
theorem left_bd (xs : List Int) (x : Int) : 0 ≤ mget 0 (leftV xs) x ∧ mget 0 (leftV xs) x ≤ (mvL xs).length := (cmk_bd _ _ _ _ _ x).1
theorem jn_len (xs : List Int) : (jnV xs).length = xs.length := List.length_map ..
theorem jn_ix {xs : List Int} {q : Int} (h0 : 0 ≤ q) (h1 : q < xs.length) : ix (0, 0) (jnV xs) q = (mget 0 (cameV xs) (ix 0 xs q), mget 0 (leftV xs) (ix 0 xs q)) := by
  rw [jnV, ix, List.getD_eq_getElem?_getD, List.getElem?_map, List.getElem?_eq_getElem (by omega), ix, List.getD_eq_getElem?_getD, List.getElem?_eq_getElem (by omega)]; rfl
theorem jn_next {xs : List Int} {q : Int} (h0 : 0 ≤ q) (h1 : q < xs.length) : (jnV xs).take (q + 1).toNat = (jnV xs).take q.toNat ++ [(mget 0 (cameV xs) (ix 0 xs q), mget 0 (leftV xs) (ix 0 xs q))] := by
  rw [take_ix (d := (0, 0)) h0 (by rw [jn_len]; exact h1), jn_ix h0 h1]
end Go.Proofs.YtodcppoglpfodaaGreatDoor

namespace Go.Proofs.YtodcppoglpfodaaGreatDoor
open Go.Wk
set_option linter.unusedVariables false
section
variable {R C : Int} {H : List Int}
end
/-! ### labels -/
end Go.Proofs.YtodcppoglpfodaaGreatDoor

namespace Go.Proofs.YtodcppoglpfodaaGreatDoor
open Go.Wk
set_option linter.unusedVariables false
section
variable {R C : Int} {H : List Int}
end
end Go.Proofs.YtodcppoglpfodaaGreatDoor

namespace Go.Proofs.YtodcppoglpfodaaGreatDoor
open Go.Wk
set_option linter.unusedVariables false
def permB (n : Int) (f : Int → Int) : Bool := (decide (n ≤ 16) && (rng 0 n).all fun x => decide (0 ≤ f x) && decide (f x < n)) && decide ((rng 0 n).map f).Nodup
section
variable {n x : Int} {f : Int → Int}
theorem perm_rng (h : permB n f = true) (hx : 0 ≤ x ∧ x < n) : 0 ≤ f x ∧ f x < n := by
  rw [permB, Bool.and_eq_true, Bool.and_eq_true, List.all_eq_true] at h
  have := h.1.2 x (rng_mem.2 hx)
  rw [Bool.and_eq_true, decide_eq_true_eq, decide_eq_true_eq] at this
  exact this
theorem perm_inj (h : permB n f = true) {y : Int} (hx : 0 ≤ x ∧ x < n) (hy : 0 ≤ y ∧ y < n) (e : f x = f y) : x = y := by
  rw [permB, Bool.and_eq_true, decide_eq_true_eq, List.Nodup, List.pairwise_map, List.pairwise_iff_getElem] at h
  have hl := rng_length (i := 0) (n := n) (by omega)
  have key : ∀ u v : Int, (0 ≤ u ∧ u < n) → (0 ≤ v ∧ v < n) → u < v → f u ≠ f v := fun u v hu hv huv q => by
    have hu' : u.toNat < (rng 0 n).length := by omega
    have hv' : v.toNat < (rng 0 n).length := by omega
    have := h.2 u.toNat v.toNat hu' hv' (by omega)
    have eu : (rng 0 n)[u.toNat] = u := by have := rng_get hu.1 hu.2; rw [List.getElem?_eq_getElem hu'] at this; exact Option.some.inj this
    have ev : (rng 0 n)[v.toNat] = v := by have := rng_get hv.1 hv.2; rw [List.getElem?_eq_getElem hv'] at this; exact Option.some.inj this
    rw [eu, ev] at this
    exact this q
  rcases Int.lt_trichotomy x y with q | q | q
  · exact absurd e (key x y hx hy q)
  · exact q
  · exact absurd e.symm (key y x hy hx q)
theorem it_rng (h : permB n f = true) (hx : 0 ≤ x ∧ x < n) : ∀ k, 0 ≤ itF f k x ∧ itF f k x < n
  | 0 => hx
  | k + 1 => perm_rng (f := f) h (it_rng h hx k)
theorem it_can (h : permB n f = true) (hx : 0 ≤ x ∧ x < n) : ∀ i d : Nat, itF f (i + d) x = itF f i x → itF f d x = x
  | 0, d, e => by rw [Nat.zero_add] at e; exact e
  | i + 1, d, e => by
    rw [show i + 1 + d = (i + d) + 1 by omega] at e
    exact it_can h hx i d (perm_inj h (it_rng h hx _) (it_rng h hx _) e)
theorem it_ex (h : permB n f = true) (hx : 0 ≤ x ∧ x < n) : ∃ k ∈ List.range 17, (decide (1 ≤ k) && decide (itF f k x = x)) = true := by
  have h16 : n ≤ 16 := by
    rw [permB, Bool.and_eq_true, Bool.and_eq_true, decide_eq_true_eq] at h; exact h.1.1
  refine Classical.byContradiction fun hno => ?_
  have hno' : ∀ k, 1 ≤ k → k < 17 → itF f k x ≠ x := fun k k1 k2 e => hno ⟨k, List.mem_range.2 k2, by rw [decide_eq_true k1, decide_eq_true e]; rfl⟩
  have hd : ((List.range (n.toNat + 1)).map fun k => itF f k x).Nodup := by
    rw [List.Nodup, List.pairwise_map]
    refine List.Pairwise.imp_of_mem ?_ (List.pairwise_lt_range (n := n.toNat + 1))
    intro a b ha hb hab e
    have hb := List.mem_range.1 hb
    have := it_can h hx a (b - a) (by rw [show a + (b - a) = b by omega]; exact e.symm)
    exact hno' (b - a) (by omega) (by omega) this
  have := short_of (n := n) (by omega) hd fun y hy => by
    obtain ⟨k, _, rfl⟩ := List.mem_map.1 hy
    exact it_rng h hx k
  rw [List.length_map, List.length_range] at this
  omega
theorem per_spec (h : permB n f = true) (hx : 0 ≤ x ∧ x < n) : (1 ≤ perF f x ∧ perF f x ≤ 16) ∧ itF f (perF f x) x = x ∧ ∀ k, 1 ≤ k → k < perF f x → itF f k x ≠ x := by
  obtain ⟨k, hk, hp⟩ := it_ex h hx
  rw [perF]
  cases hf : (List.range 17).find? fun k => decide (1 ≤ k) && decide (itF f k x = x) with
  | none => exact absurd hp (List.find?_eq_none.1 hf k hk)
  | some m =>
    show (1 ≤ m ∧ m ≤ 16) ∧ itF f m x = x ∧ _
    obtain ⟨hq, us, bs, he, hl⟩ := List.find?_eq_some_iff_append.1 hf
    rw [Bool.and_eq_true, decide_eq_true_eq, decide_eq_true_eq] at hq
    have hm : m ∈ List.range 17 := by rw [he]; simp
    have hm' := List.mem_range.1 hm
    refine ⟨⟨hq.1, by omega⟩, hq.2, fun j j1 j2 e => ?_⟩
    have j2 : j < m := j2
    have hj : j ∈ List.range 17 := List.mem_range.2 (by omega)
    have hs : (List.range 17).Pairwise (· < ·) := List.pairwise_lt_range
    rw [he] at hj hs
    rcases List.mem_append.1 hj with hj | hj
    · have := hl j hj
      rw [decide_eq_true j1, decide_eq_true e] at this; cases this
    · rcases List.mem_cons.1 hj with rfl | hj
      · omega
      · have := (List.pairwise_cons.1 (List.pairwise_append.1 hs).2.1).1 j hj; omega
def CyI (f : Int → Int) (x : Int) (out : Rws) (j : Nat) (l : List Int) (e : Int) (met : List Bool) : Prop := (l = orbF f x j ∧ e = itF f j x) ∧ j < perF f x ∧ met.length = 16 ∧ ∀ y : Int, 0 ≤ y → y < 16 → met.getD y.toNat false = (out.any (fun l => hasL l y) || hasL (orbF f x j) y)
def MetB (out : Rws) (met : List Bool) : Prop := met.length = 16 ∧ ∀ y : Int, 0 ≤ y → y < 16 → met.getD y.toNat false = out.any (fun l => hasL l y)
theorem met0 : MetB [] (List.replicate 16 false) := ⟨rfl, fun y y0 y1 => by
  rw [List.getD_eq_getElem?_getD, List.getElem?_replicate, if_pos (by omega)]; rfl⟩
theorem orb_next {j : Nat} : orbF f x (j + 1) = orbF f x j ++ [itF f j x] := by rw [orbF, orbF, List.range_succ, List.map_append]; rfl
theorem cy_start (h : permB n f = true) (hx : 0 ≤ x ∧ x < n) {out : Rws} {met : List Bool} (hm : MetB out met) : CyI f x out 0 [] x met := ⟨⟨rfl, rfl⟩, (per_spec h hx).1.1, hm.1, fun y y0 y1 => by rw [hm.2 y y0 y1]; simp [orbF, hasL]⟩
theorem hasL_snoc {l : List Int} {a y : Int} : hasL (l ++ [a]) y = (hasL l y || decide (a = y)) := by
  rw [Bool.eq_iff_iff, Bool.or_eq_true, hasL_iff, hasL_iff, List.mem_append, List.mem_singleton, decide_eq_true_eq]
  exact ⟨fun q => q.imp id Eq.symm, fun q => q.imp id Eq.symm⟩
theorem met_set {j : Nat} {e : Int} {out : Rws} {met : List Bool} (hl : met.length = 16) (h : ∀ y : Int, 0 ≤ y → y < 16 → met.getD y.toNat false = (out.any (fun l => hasL l y) || hasL (orbF f x j) y)) (he : e = itF f j x) (e0 : 0 ≤ e) (e1 : e < 16) :
    ∀ y : Int, 0 ≤ y → y < 16 → (met.set e.toNat true).getD y.toNat false = (out.any (fun l => hasL l y) || hasL (orbF f x (j + 1)) y) := fun y y0 y1 => by
  rw [orb_next, hasL_snoc, ← he]
  have hy := h y y0 y1
  rw [List.getD_eq_getElem?_getD] at hy ⊢
  rw [List.getElem?_set]
  by_cases q : e = y
  · subst q; rw [if_pos rfl, if_pos (by omega)]; simp
  · rw [if_neg (by omega), hy, decide_eq_false q, Bool.or_false]
theorem cy_next (h : permB n f = true) (hx : 0 ≤ x ∧ x < n) (hn : n ≤ 16) {out : Rws} {j : Nat} {l : List Int} {e : Int} {met : List Bool} (hI : CyI f x out j l e met) (hne : f e ≠ x) : CyI f x out (j + 1) (l ++ [e]) (f e) (met.set e.toNat true) := by
  obtain ⟨⟨h1, h2⟩, h3, h4, h5⟩ := hI
  have hr := it_rng h hx j
  have hp := per_spec h hx
  refine ⟨⟨by rw [orb_next, h1, h2], by rw [h2]; rfl⟩, ?_, by rw [List.length_set]; exact h4, met_set h4 h5 h2 (by omega) (by omega)⟩
  refine Decidable.byContradiction fun hge => hne ?_
  have : j + 1 = perF f x := by omega
  have := hp.2.1
  rw [← ‹j + 1 = perF f x›] at this
  rw [h2]; exact this
theorem cy_end (h : permB n f = true) (hx : 0 ≤ x ∧ x < n) (hn : n ≤ 16) {out : Rws} {j : Nat} {l : List Int} {e : Int} {met : List Bool} (hI : CyI f x out j l e met) (he : f e = x) : l ++ [e] = orbF f x (perF f x) ∧ MetB (out ++ [l ++ [e]]) (met.set e.toNat true) := by
  obtain ⟨⟨h1, h2⟩, h3, h4, h5⟩ := hI
  have hr := it_rng h hx j
  have hp := per_spec h hx
  have hj : j + 1 = perF f x := by
    refine Decidable.byContradiction fun hge => ?_
    have := hp.2.2 (j + 1) (by omega) (by omega)
    exact this (by rw [h2] at he; exact he)
  have ho : l ++ [e] = orbF f x (j + 1) := by rw [orb_next, h1, h2]
  refine ⟨by rw [ho, hj], by rw [List.length_set]; exact h4, fun y y0 y1 => ?_⟩
  rw [met_set h4 h5 h2 (by omega) (by omega) y y0 y1, List.any_append, ho]; simp
theorem cyc_skip {out : Rws} {k : Int} (k0 : 0 ≤ k) (ho : out = (rng 0 k).foldl (cycS f) []) {met : List Bool} (hm : MetB out met) (h16 : k < 16) (hk : met.getD k.toNat false = true) : out = (rng 0 (k + 1)).foldl (cycS f) [] ∧ MetB out met := by
  refine ⟨?_, hm⟩
  rw [rng_snoc k0, List.foldl_append, ← ho]
  show out = cycS f out k
  rw [cycS, if_pos (by rw [← hm.2 k k0 h16]; exact hk)]
theorem cyc_take {out : Rws} {k : Int} (k0 : 0 ≤ k) (ho : out = (rng 0 k).foldl (cycS f) []) {met : List Bool} (hm : MetB out met) (h16 : k < 16) (hk : met.getD k.toNat false = false) : out ++ [orbF f k (perF f k)] = (rng 0 (k + 1)).foldl (cycS f) [] := by
  rw [rng_snoc k0, List.foldl_append, ← ho]
  show _ = cycS f out k
  rw [cycS, if_neg (by rw [← hm.2 k k0 h16, hk]; decide)]
end
end Go.Proofs.YtodcppoglpfodaaGreatDoor
namespace Go.Proofs.YtodcppoglpfodaaGreatDoor
open Go.Wk
theorem cy_rng {n x : Int} {f : Int → Int} (h : permB n f = true) (hx : 0 ≤ x ∧ x < n) {out : Rws} {j : Nat} {l : List Int} {e : Int} {met : List Bool} (hI : CyI f x out j l e met) : 0 ≤ e ∧ e < n := by
  rw [hI.1.2]; exact it_rng h hx j
theorem cy_len {x : Int} {f : Int → Int} {out : Rws} {j : Nat} {l : List Int} {e : Int} {met : List Bool} (hI : CyI f x out j l e met) : l.length = j := by
  rw [hI.1.1, orbF, List.length_map, List.length_range]
theorem cy_bd {n x : Int} {f : Int → Int} (h : permB n f = true) (hx : 0 ≤ x ∧ x < n) {out : Rws} {j : Nat} {l : List Int} {e : Int} {met : List Bool} (hI : CyI f x out j l e met) : j < 16 := by
  have := (per_spec h hx).1.2
  have := hI.2.1
  omega
end Go.Proofs.YtodcppoglpfodaaGreatDoor

namespace Go.Proofs.YtodcppoglpfodaaGreatDoor
open Go.Wk
set_option linter.unusedVariables false
def tblB (t : Tab) : Bool := decide (t.length = 34) && ((decide (0 ≤ tnN t ∧ tnN t ≤ 8) && decide ((0 ≤ teN t ∧ teN t ≤ 16) ∧ teN t % 2 = 0)) && (rng 0 (teN t)).all fun e => decide (0 ≤ tpF t e ∧ tpF t e < tnN t))
structure TblOK (t : Tab) : Prop where
  l : t.length = 34
  n : 0 ≤ tnN t ∧ tnN t ≤ 8
  e : (0 ≤ teN t ∧ teN t ≤ 16) ∧ teN t % 2 = 0
  p : ∀ e, 0 ≤ e → e < teN t → 0 ≤ tpF t e ∧ tpF t e < tnN t
theorem tbl_ok {t : Tab} (h : tblB t = true) : TblOK t := by
  rw [tblB, Bool.and_eq_true, Bool.and_eq_true, Bool.and_eq_true, decide_eq_true_eq, decide_eq_true_eq, decide_eq_true_eq, List.all_eq_true] at h
  exact ⟨h.1, h.2.1.1, h.2.1.2, fun e e0 e1 => of_decide_eq_true (h.2.2 e (rng_mem.2 ⟨e0, e1⟩))⟩
def labK (t : Tab) (i : Int) : List Int × Int := ((edgT t).take i.toNat).foldl labS (rng 0 (tnN t), tnN t)
def LbI (t : Tab) (i : Int) (lab : List Int) (n : Int) : Prop := lab.length = 16 ∧ lab.take (tnN t).toNat = (labK t i).1 ∧ n = (labK t i).2
section
variable {t : Tab} {i n : Int} {lab lab2 : List Int}
theorem take_ix0 {l : List Int} {k : Nat} {x : Int} (h0 : 0 ≤ x) (h : x.toNat < k) : ix 0 (l.take k) x = ix 0 l x := by rw [ix, ix, List.getD_eq_getElem?_getD, List.getD_eq_getElem?_getD, List.getElem?_take, if_pos h]
theorem ext_ix {l m : List Int} (hl : l.length = m.length) (h : ∀ x : Int, 0 ≤ x → x < l.length → ix 0 l x = ix 0 m x) : l = m := by
  refine List.ext_getElem hl fun k h1 h2 => ?_
  have := h (k : Int) (by omega) (by omega)
  simp only [ix, Int.toNat_natCast, List.getD_eq_getElem?_getD, List.getElem?_eq_getElem h1, List.getElem?_eq_getElem h2, Option.getD_some] at this
  exact this
theorem lb_start (hk : TblOK t) (hl : lab.length = 16) (h : ∀ x, 0 ≤ x → x < tnN t → ix 0 lab x = x) : LbI t 0 lab (tnN t) := by
  refine ⟨hl, ?_, rfl⟩
  have hn := hk.n
  have hr := rng_length (i := 0) (n := tnN t) (by omega)
  show lab.take (tnN t).toNat = rng 0 (tnN t)
  refine ext_ix (by rw [List.length_take]; omega) fun x x0 x1 => ?_
  rw [List.length_take] at x1
  rw [take_ix0 x0 (by omega), h x x0 (by omega), ix_rng ⟨x0, by omega⟩]
theorem edg_len (hk : TblOK t) : ((edgT t).length : Int) = teN t / 2 := by
  have := hk.e
  rw [edgT, List.length_map]; have := rng_length (i := 0) (n := teN t / 2) (by omega); omega
theorem lab_succ (hk : TblOK t) (i0 : 0 ≤ i) (i1 : 2 * i < teN t) : labK t (i + 1) = labS (labK t i) (tpF t (2 * i), tpF t (2 * i + 1)) := by
  have hl := edg_len hk
  have he := hk.e
  rw [labK, take_ix (d := (0, 0)) i0 (by omega), List.foldl_append]
  have : ix (0, 0) (edgT t) i = (tpF t (2 * i), tpF t (2 * i + 1)) := by
    rw [ix, edgT, List.getD_eq_getElem?_getD, List.getElem?_map, rng_get i0 (by omega)]; rfl
  rw [this]; rfl
theorem lb_ix (hk : TblOK t) (h : LbI t i lab n) {x : Int} (x0 : 0 ≤ x) (x1 : x < tnN t) : ix 0 (labK t i).1 x = ix 0 lab x := by rw [← h.2.1, take_ix0 x0 (by omega)]
theorem lb_skip (hk : TblOK t) (h : LbI t i lab n) (i0 : 0 ≤ i) (i1 : 2 * i < teN t) (he : ix 0 lab (tpF t (2 * i)) = ix 0 lab (tpF t (2 * i + 1))) : LbI t (i + 1) lab n := by
  have e2 := hk.e.2
  have a := hk.p (2 * i) (by omega) i1
  have b := hk.p (2 * i + 1) (by omega) (by omega)
  have : labK t (i + 1) = labK t i := by
    rw [lab_succ hk i0 i1, labS, if_pos]
    rw [lb_ix hk h a.1 a.2, lb_ix hk h b.1 b.2]; exact he
  exact ⟨h.1, by rw [this]; exact h.2.1, by rw [this]; exact h.2.2⟩
theorem lb_take (hk : TblOK t) (h : LbI t i lab n) (i0 : 0 ≤ i) (i1 : 2 * i < teN t) (hne : ¬ ix 0 lab (tpF t (2 * i)) = ix 0 lab (tpF t (2 * i + 1))) {k : Int} (hR : RelI lab lab2 (ix 0 lab (tpF t (2 * i))) (ix 0 lab (tpF t (2 * i + 1))) k) (hkk : k = tnN t) : LbI t (i + 1) lab2 (n - 1) := by
  have e2 := hk.e.2
  have hn := hk.n
  have a := hk.p (2 * i) (by omega) i1
  have b := hk.p (2 * i + 1) (by omega) (by omega)
  have hl := h.1
  have : labK t (i + 1) = ((labK t i).1.map fun x => if x = ix 0 lab (tpF t (2 * i)) then ix 0 lab (tpF t (2 * i + 1)) else x, (labK t i).2 - 1) := by
    rw [lab_succ hk i0 i1, labS, lb_ix hk h a.1 a.2, lb_ix hk h b.1 b.2, if_neg hne]
  refine ⟨by rw [hR.1]; exact hl, ?_, by rw [this, h.2.2]⟩
  rw [this, ← h.2.1]
  subst hkk
  refine ext_ix (by rw [List.length_map, List.length_take, List.length_take, hR.1]) fun x x0 x1 => ?_
  rw [List.length_take, hR.1] at x1
  rw [take_ix0 x0 (by omega), hR.2 x x0 (by omega)]
  have hx : ix 0 ((lab.take (tnN t).toNat).map fun x => if x = ix 0 lab (tpF t (2 * i)) then ix 0 lab (tpF t (2 * i + 1)) else x) x = if ix 0 lab x = ix 0 lab (tpF t (2 * i)) then ix 0 lab (tpF t (2 * i + 1)) else ix 0 lab x := by
    have hxl : x < ((lab.take (tnN t).toNat).length : Int) := by rw [List.length_take]; omega
    rw [ix, List.getD_eq_getElem?_getD, List.getElem?_map, ix_get (d := 0) hxl x0, Option.map_some, Option.getD_some, take_ix0 x0 (by omega)]
  rw [hx]
  by_cases q : ix 0 lab x = ix 0 lab (tpF t (2 * i))
  · rw [if_pos ⟨by omega, q⟩, if_pos q]
  · rw [if_neg (fun z => q z.2), if_neg q]
theorem lb_end (hk : TblOK t) (h : LbI t i lab n) (i0 : 0 ≤ i) (hi : teN t ≤ 2 * i) : n = partT t := by
  have hl := edg_len hk
  have := hk.e
  rw [h.2.2, labK, List.take_of_length_le (by omega)]; rfl
end
end Go.Proofs.YtodcppoglpfodaaGreatDoor

namespace Go.Proofs.YtodcppoglpfodaaGreatDoor
open Go.Wk
set_option linter.unusedVariables false
def okM (ls : Rws) : Bool := (ls.all (fun l => decide (0 < l.length)) && decide ls.flatten.Nodup) && ((ls.flatten.all fun e => decide (0 ≤ e ∧ e < (ls.flatten.length : Int))) && decide (ls.flatten.length ≤ 16 ∧ ls.flatten.length % 2 = 0))
structure MapOK (ls : Rws) : Prop where
  n : ∀ l ∈ ls, 0 < l.length
  d : ls.flatten.Nodup
  r : ∀ e ∈ ls.flatten, 0 ≤ e ∧ e < (ls.flatten.length : Int)
  m : ls.flatten.length ≤ 16 ∧ ls.flatten.length % 2 = 0
theorem map_ok {ls : Rws} (h : okM ls = true) : MapOK ls := by
  rw [okM, Bool.and_eq_true, Bool.and_eq_true, Bool.and_eq_true, decide_eq_true_eq, decide_eq_true_eq, List.all_eq_true, List.all_eq_true] at h
  exact ⟨fun l hl => of_decide_eq_true (h.1.1 l hl), h.1.2, fun e he => of_decide_eq_true (h.2.1 e he), h.2.2⟩
section
variable {ls : Rws} {l : List Int} {t : Tab} {k : Int}
theorem tabIn_next (k0 : 0 ≤ k) : tabIn l (k + 1) t = tabStep l (tabIn l k t) k := by rw [tabIn, rng_snoc k0, List.foldl_append]; rfl
theorem tabIn_len : ∀ {k : Int}, (tabIn l k t).length = t.length := by
  intro k
  rw [tabIn]
  generalize rng 0 k = r
  induction r generalizing t with
  | nil => rfl
  | cons x r ih => rw [List.foldl_cons, ih, tabStep, List.length_set, List.length_set]
theorem tabS_len : (tabS t l).length = t.length := by
  rw [tabS]; split
  · rfl
  · rw [List.length_set, List.length_set, tabIn_len]
def tabK (ls : Rws) (k : Int) : Tab := (ls.take k.toNat).foldl tabS tab0
theorem tabK_len : (tabK ls k).length = 34 := by
  rw [tabK]
  have : ∀ (m : Rws) (t : Tab), (m.foldl tabS t).length = t.length := by
    intro m
    induction m with
    | nil => intro t; rfl
    | cons l m ih => intro t; rw [List.foldl_cons, ih, tabS_len]
  rw [this]; rfl
theorem tabK_next (k0 : 0 ≤ k) (k1 : k < ls.length) : tabK ls (k + 1) = tabS (tabK ls k) (ix [] ls k) := by rw [tabK, take_ix (d := []) k0 k1, List.foldl_append]; rfl
theorem tabK_end (hk : (ls.length : Int) ≤ k) : tabK ls k = tabV ls := by rw [tabK, List.take_of_length_le (by omega)]; rfl
def MtI (ls : Rws) (k j : Int) (met : List Bool) : Prop := met.length = 16 ∧ ∀ y : Int, 0 ≤ y → y < 16 → met.getD y.toNat false = hasL ((ls.take k.toNat).flatten ++ (ix [] ls k).take j.toNat) y
theorem mt_start : MtI ls 0 0 (List.replicate 16 false) := ⟨rfl, fun y y0 y1 => by
  rw [List.getD_eq_getElem?_getD, List.getElem?_replicate, if_pos (by omega)]; rfl⟩
theorem mt_row {met : List Bool} {j : Int} (h : MtI ls k j met) (k0 : 0 ≤ k) (k1 : k < ls.length) (hj : ((ix [] ls k).length : Int) ≤ j) : MtI ls (k + 1) 0 met := ⟨h.1, fun y y0 y1 => by
  have e : (ix [] ls k).take j.toNat = ix [] ls k := List.take_of_length_le (by omega)
  rw [h.2 y y0 y1, take_ix (d := []) k0 k1, List.flatten_append, e]; simp⟩
theorem flat_at (k0 : 0 ≤ k) (k1 : k < ls.length) : ls.flatten = (ls.take k.toNat).flatten ++ (ix [] ls k ++ (ls.drop (k + 1).toNat).flatten) := by
  conv => lhs; rw [← List.take_append_drop k.toNat ls, List.flatten_append, drop_ix (d := []) k0 k1, List.flatten_cons]
theorem end_mem (k0 : 0 ≤ k) (k1 : k < ls.length) {j : Int} (j0 : 0 ≤ j) (j1 : j < (ix [] ls k).length) : ix 0 (ix [] ls k) j ∈ ls.flatten := by
  rw [flat_at k0 k1, List.mem_append, List.mem_append]; exact .inr (.inl (ix_inl j0 j1))
theorem mt_free (hk : MapOK ls) {met : List Bool} {j : Int} (h : MtI ls k j met) (k0 : 0 ≤ k) (k1 : k < ls.length) (j0 : 0 ≤ j) (j1 : j < (ix [] ls k).length) : met.getD (ix 0 (ix [] ls k) j).toNat false = false := by
  have hr := hk.r _ (end_mem k0 k1 j0 j1)
  have hm := hk.m
  rw [h.2 _ hr.1 (by omega)]
  cases hq : hasL ((ls.take k.toNat).flatten ++ (ix [] ls k).take j.toNat) (ix 0 (ix [] ls k) j) with
  | false => rfl
  | true =>
    exfalso
    have hd := hk.d
    have e : ls.flatten = ((ls.take k.toNat).flatten ++ (ix [] ls k).take j.toNat) ++ (ix 0 (ix [] ls k) j :: ((ix [] ls k).drop (j + 1).toNat ++ (ls.drop (k + 1).toNat).flatten)) := by
      rw [flat_at k0 k1]
      conv => lhs; rw [← List.take_append_drop j.toNat (ix [] ls k), drop_ix (d := 0) j0 j1]
      simp
    rw [e] at hd
    exact (List.pairwise_append.1 hd).2.2 _ (hasL_iff.1 hq) _ (by simp) rfl
theorem mt_next (hk : MapOK ls) {met : List Bool} {j : Int} (h : MtI ls k j met) (k0 : 0 ≤ k) (k1 : k < ls.length) (j0 : 0 ≤ j) (j1 : j < (ix [] ls k).length) : MtI ls k (j + 1) (met.set (ix 0 (ix [] ls k) j).toNat true) := ⟨by rw [List.length_set]; exact h.1, fun y y0 y1 => by
  have hr := hk.r _ (end_mem k0 k1 j0 j1)
  have hm := hk.m
  have hl := h.1
  have hy := h.2 y y0 y1
  rw [take_ix (d := 0) j0 j1, ← List.append_assoc, hasL_snoc, ← hy]
  rw [List.getD_eq_getElem?_getD, List.getD_eq_getElem?_getD, List.getElem?_set]
  by_cases q : ix 0 (ix [] ls k) j = y
  · rw [if_pos (by omega), if_pos (by omega), decide_eq_true q]; simp
  · rw [if_neg (by omega), decide_eq_false q, Bool.or_false]⟩
theorem flat_take (k0 : 0 ≤ k) (k1 : k < ls.length) : (((ls.take (k + 1).toNat).flatten.length : Nat) : Int) = ((ls.take k.toNat).flatten.length : Nat) + ((ix [] ls k).length : Int) := by
  rw [take_ix (d := []) k0 k1, List.flatten_append, List.length_append]; simp
end
end Go.Proofs.YtodcppoglpfodaaGreatDoor
namespace Go.Proofs.YtodcppoglpfodaaGreatDoor
open Go.Wk Go.RowKit
theorem ix_i64 {zs : List Int} (h : ∀ z ∈ zs, InK .i64 z) (j : Int) : -9223372036854775808 ≤ ix 0 zs j ∧ ix 0 zs j ≤ 9223372036854775807 := by
  unfold ix
  cases hz : zs[j.toNat]? with
  | none => rw [List.getD_eq_getElem?_getD, hz]; simp
  | some z =>
    have := bd_i64 (h z (List.mem_of_getElem? hz))
    rw [List.getD_eq_getElem?_getD, hz]; exact this
end Go.Proofs.YtodcppoglpfodaaGreatDoor
namespace Go.Proofs.YtodcppoglpfodaaGreatDoor
open Go.Wk
def TbB (k : Int) (t : Tab) : Prop := t.length = 34 ∧ (0 ≤ ix 0 t 0 ∧ ix 0 t 0 ≤ 1000 * k) ∧ (0 ≤ ix 0 t 33 ∧ ix 0 t 33 ≤ k)
theorem tb_start : TbB 0 (List.replicate 34 0) := ⟨rfl, by decide, by decide⟩
theorem tb_set {k e v : Int} {t : Tab} (h : TbB k t) (e0 : 0 ≤ e) (e1 : e < 16) : TbB k (t.set (1 + e).toNat v) ∧ TbB k (t.set (17 + e).toNat v) := by
  obtain ⟨h1, h2, h3⟩ := h
  refine ⟨⟨by rw [List.length_set]; exact h1, ?_, ?_⟩, ⟨by rw [List.length_set]; exact h1, ?_, ?_⟩⟩ <;> (rw [ix_set0 (by omega) (by omega) (by omega), if_neg (by omega)]; first | exact h2 | exact h3)
theorem tb_up {k n : Int} {t : Tab} (h : TbB k t) (hn : 0 ≤ n ∧ n ≤ 1000) : TbB (k + 1) ((t.set 0 (ix 0 t 0 + n)).set 33 (ix 0 (t.set 0 (ix 0 t 0 + n)) 33 + 1)) := by
  obtain ⟨h1, h2, h3⟩ := h
  have a : ix 0 (t.set 0 (ix 0 t 0 + n)) 33 = ix 0 t 33 := by
    have := ix_set0 (l := t) (i := 0) (p := 33) (v := ix 0 t 0 + n) (by omega) (by omega) (by omega)
    rw [if_neg (by omega)] at this; exact this
  have b : ix 0 (t.set 0 (ix 0 t 0 + n)) 0 = ix 0 t 0 + n := by
    have := ix_set0 (l := t) (i := 0) (p := 0) (v := ix 0 t 0 + n) (by omega) (by omega) (by omega)
    rw [if_pos rfl] at this; exact this
  rw [a]
  refine ⟨by rw [List.length_set, List.length_set]; exact h1, ?_, ?_⟩
  · have := ix_set0 (l := t.set 0 (ix 0 t 0 + n)) (i := 33) (p := 0) (v := ix 0 t 33 + 1) (by omega) (by rw [List.length_set]; omega) (by omega)
    rw [if_neg (by omega), b] at this
    have e : (33 : Int).toNat = 33 := rfl
    rw [e] at this
    rw [this]; omega
  · have := ix_set0 (l := t.set 0 (ix 0 t 0 + n)) (i := 33) (p := 33) (v := ix 0 t 33 + 1) (by omega) (by rw [List.length_set]; omega) (by omega)
    rw [if_pos rfl] at this
    have e : (33 : Int).toNat = 33 := rfl
    rw [e] at this
    rw [this]; omega
theorem tb_more {k : Int} {t : Tab} (h : TbB k t) : TbB (k + 1) t := ⟨h.1, by have := h.2.1; omega, by have := h.2.2; omega⟩
theorem tabK_put {ls : Rws} {k : Int} (k0 : 0 ≤ k) (k1 : k < ls.length) (hn : ¬ ((ix [] ls k).length : Int) = 0) {j : Int} (hj : j = (ix [] ls k).length) {t2 : Tab} (h2 : t2 = tabIn (ix [] ls k) j (tabK ls k)) : (t2.set 0 (ix 0 t2 0 + (ix [] ls k).length)).set 33 (ix 0 (t2.set 0 (ix 0 t2 0 + (ix [] ls k).length)) 33 + 1) = tabK ls (k + 1) := by
  have a : ix 0 (t2.set 0 (ix 0 t2 0 + (ix [] ls k).length)) 33 = ix 0 t2 33 := by
    by_cases hl : 0 < t2.length
    · have := ix_set0 (l := t2) (i := 0) (p := 33) (v := ix 0 t2 0 + (ix [] ls k).length) (by omega) (by omega) (by omega)
      rw [if_neg (by omega)] at this; exact this
    · rw [show t2 = [] from List.length_eq_zero_iff.1 (by omega)]; rfl
  rw [a, tabK_next k0 k1, tabS, if_neg (by omega), h2, hj]; rfl
theorem tabK_skip {ls : Rws} {k : Int} (k0 : 0 ≤ k) (k1 : k < ls.length) (hn : ((ix [] ls k).length : Int) = 0) : tabK ls k = tabK ls (k + 1) := by
  rw [tabK_next k0 k1, tabS, if_pos (by omega)]
end Go.Proofs.YtodcppoglpfodaaGreatDoor
namespace Go.Proofs.YtodcppoglpfodaaGreatDoor
open Go.Wk
theorem tb_pts {k e v : Int} {t : Tab} (h : TbB k t) (e0 : 0 ≤ e) (e1 : e < 16) : ix 0 (t.set (1 + e).toNat v) 33 = ix 0 t 33 := by
  have := h.1
  rw [ix_set0 (by omega) (by omega) (by omega), if_neg (by omega)]
theorem tb_pts0 {k v : Int} {t : Tab} (h : TbB k t) : ix 0 (t.set (0 : Int).toNat v) 33 = ix 0 t 33 := by
  have := h.1
  rw [ix_set0 (by omega) (by omega) (by omega), if_neg (by omega)]
theorem tabK_put2 {ls : Rws} {k : Int} (k0 : 0 ≤ k) (k1 : k < ls.length) (hn : ¬ ((ix [] ls k).length : Int) = 0) {j : Int} (hj : j = (ix [] ls k).length) {t2 : Tab} (hb : TbB k t2) (h2 : t2 = tabIn (ix [] ls k) j (tabK ls k)) : (t2.set (0 : Int).toNat (ix 0 t2 0 + (ix [] ls k).length)).set (33 : Int).toNat (ix 0 t2 33 + 1) = tabK ls (k + 1) := by
  have := tabK_put k0 k1 hn hj h2
  have e := tb_pts0 hb (v := ix 0 t2 0 + (ix [] ls k).length)
  have e0 : (0 : Int).toNat = 0 := rfl
  rw [e0] at e
  rw [e] at this
  exact this
theorem tb_up2 {k n : Int} {t : Tab} (h : TbB k t) (hn : 0 ≤ n ∧ n ≤ 1000) : TbB (k + 1) ((t.set (0 : Int).toNat (ix 0 t 0 + n)).set (33 : Int).toNat (ix 0 t 33 + 1)) := by
  have := tb_up h hn
  have e := tb_pts0 h (v := ix 0 t 0 + n)
  have e0 : (0 : Int).toNat = 0 := rfl
  rw [e0] at e
  rw [e] at this
  exact this
end Go.Proofs.YtodcppoglpfodaaGreatDoor
namespace Go.Proofs.YtodcppoglpfodaaGreatDoor
open Go.Wk
theorem flat_le {ls : Rws} {k : Int} : ((ls.take k.toNat).flatten.length : Int) ≤ ls.flatten.length := by
  have : ls.flatten = (ls.take k.toNat).flatten ++ (ls.drop k.toNat).flatten := by rw [← List.flatten_append, List.take_append_drop]
  rw [this, List.length_append]; omega
theorem map_cnt {ls : Rws} (h : MapOK ls) : (ls.length : Int) ≤ 16 := by
  have : ∀ m : Rws, (∀ l ∈ m, 0 < l.length) → m.length ≤ m.flatten.length := by
    intro m
    induction m with
    | nil => intro _; exact Nat.le_refl _
    | cons l m ih =>
      intro hm
      have := ih fun l' hl => hm l' (List.mem_cons_of_mem _ hl)
      have := hm l (by simp)
      rw [List.flatten_cons, List.length_append, List.length_cons]; omega
  have := this ls h.n
  have := h.m
  omega
theorem map_rng {ls : Rws} (h : MapOK ls) : ∀ l ∈ ls, ∀ e ∈ l, 0 ≤ e ∧ e < 16 := fun l hl e he => by
  have := h.r e (List.mem_flatten.2 ⟨l, hl, he⟩)
  have := h.m
  omega
theorem map_len {ls : Rws} (h : MapOK ls) : ∀ l ∈ ls, (l.length : Int) ≤ 1000 := fun l hl => by
  obtain ⟨a, b, rfl⟩ := List.append_of_mem hl
  have := h.m
  rw [List.flatten_append, List.flatten_cons, List.length_append, List.length_append] at this
  omega
end Go.Proofs.YtodcppoglpfodaaGreatDoor
namespace Go.Proofs.YtodcppoglpfodaaGreatDoor
theorem tabV_len {ls : Rws} : (tabV ls).length = 34 := by
  have := tabK_len (ls := ls) (k := ls.length)
  rw [tabK_end (Int.le_refl _)] at this; exact this
end Go.Proofs.YtodcppoglpfodaaGreatDoor
namespace Go.Proofs.YtodcppoglpfodaaGreatDoor
open Go.Wk Go.RowKit
theorem in_small {x : Int} (h : -1000000 ≤ x ∧ x ≤ 1000000) : InK .i64 x := in_i64 (by omega) (by omega)
theorem mem_set_or {l : List Int} {i : Nat} {v : Int} {P : Int → Prop} (h : ∀ x ∈ l, P x) (hv : P v) : ∀ x ∈ l.set i v, P x := fun x hx => by
  rcases List.mem_or_eq_of_mem_set hx with hx | rfl
  · exact h x hx
  · exact hv
theorem tabK_small {ls : Rws} (hr : ∀ l ∈ ls, ∀ e ∈ l, 0 ≤ e ∧ e < 16) (hf16 : ls.flatten.length ≤ 16) (hc16 : (ls.length : Int) ≤ 16) : ∀ k : Nat, k ≤ ls.length → (∀ x ∈ tabK ls (k : Int), -1000 ≤ x ∧ x ≤ 1000) ∧ (0 ≤ teN (tabK ls (k : Int)) ∧ teN (tabK ls (k : Int)) ≤ ((ls.take k).flatten.length : Int)) ∧ (0 ≤ tnN (tabK ls (k : Int)) ∧ tnN (tabK ls (k : Int)) ≤ k)
  | 0, _ => ⟨fun x hx => by
      have : tabK ls ((0 : Nat) : Int) = tab0 := rfl
      rw [this, tab0] at hx
      rw [List.eq_of_mem_replicate hx]; omega, by
      have : tabK ls ((0 : Nat) : Int) = tab0 := rfl
      rw [this]; exact ⟨by decide, Int.natCast_nonneg _⟩, by
      have : tabK ls ((0 : Nat) : Int) = tab0 := rfl
      rw [this]; decide⟩
  | k + 1, hle => by
    obtain ⟨h1, h2, h3⟩ := tabK_small hr hf16 hc16 k (by omega)
    have hlt : (k : Int) < ls.length := by omega
    have hn : tabK ls ((k + 1 : Nat) : Int) = tabS (tabK ls k) (ix [] ls k) := tabK_next (k := (k : Int)) (by omega) hlt
    have hft := flat_take (ls := ls) (k := (k : Int)) (by omega) hlt
    have hf := flat_le (ls := ls) (k := ((k + 1 : Nat) : Int))
    have e1 : ((k : Int) + 1).toNat = k + 1 := by omega
    have e2 : ((k + 1 : Nat) : Int).toNat = k + 1 := by omega
    rw [e1, Int.toNat_natCast] at hft
    rw [e2] at hf
    have hmem : ix [] ls (k : Int) ∈ ls := List.mem_of_getElem? (ix_get hlt (by omega))
    rw [hn, tabS]
    split
    · rename_i h0
      exact ⟨h1, ⟨h2.1, by omega⟩, h3.1, by omega⟩
    · rename_i h0
      have hr := hr _ hmem
      have key : ∀ j : Nat, j ≤ (ix [] ls (k : Int)).length → TbB 16 (tabIn (ix [] ls k) j (tabK ls k)) ∧ (∀ x ∈ tabIn (ix [] ls k) j (tabK ls k), -1000 ≤ x ∧ x ≤ 1000) ∧ teN (tabIn (ix [] ls k) j (tabK ls k)) = teN (tabK ls k) ∧ tnN (tabIn (ix [] ls k) j (tabK ls k)) = tnN (tabK ls k) := by
        intro j
        induction j with
        | zero =>
          intro _
          have z : tabIn (ix [] ls (k : Int)) ((0 : Nat) : Int) (tabK ls k) = tabK ls k := rfl
          rw [z]
          exact ⟨⟨tabK_len, ⟨h2.1, by show teN (tabK ls (k : Int)) ≤ 1000 * 16; omega⟩, ⟨h3.1, by show tnN (tabK ls (k : Int)) ≤ 16; omega⟩⟩, h1, rfl, rfl⟩
        | succ j ih =>
          intro hj
          obtain ⟨i1, i2, i3, i4⟩ := ih (by omega)
          have hjl : (j : Int) < (ix [] ls (k : Int)).length := by omega
          have he := hr _ (ix_inl (by omega : (0 : Int) ≤ j) hjl)
          have hb := tb_set (v := ix 0 (ix [] ls k) (((j : Int) + 1) % (ix [] ls (k : Int)).length)) i1 he.1 he.2
          have hb2 := tb_set (v := tnN (tabIn (ix [] ls k) j (tabK ls k))) hb.1 he.1 he.2
          have hst : tabIn (ix [] ls k) ((j + 1 : Nat) : Int) (tabK ls k) = tabStep (ix [] ls k) (tabIn (ix [] ls k) j (tabK ls k)) j := tabIn_next (k := (j : Int)) (by omega)
          have hmd := Int.emod_nonneg ((j : Int) + 1) (show ((ix [] ls (k : Int)).length : Int) ≠ 0 by omega)
          have hmd2 := Int.emod_lt_of_pos ((j : Int) + 1) (show 0 < ((ix [] ls (k : Int)).length : Int) by omega)
          have hv := hr _ (ix_inl hmd hmd2)
          rw [hst, tabStep]
          refine ⟨hb2.2, mem_set_or (mem_set_or i2 (by omega)) (by rw [i4]; omega), ?_, ?_⟩
          · rw [← i3, teN, teN, ix_set0 (by omega) (by rw [List.length_set, i1.1]; omega) (by omega), if_neg (by omega), ix_set0 (by omega) (by rw [i1.1]; omega) (by omega), if_neg (by omega)]
          · rw [← i4, tnN, tnN, ix_set0 (by omega) (by rw [List.length_set, i1.1]; omega) (by omega), if_neg (by omega), ix_set0 (by omega) (by rw [i1.1]; omega) (by omega), if_neg (by omega)]
      obtain ⟨i1, i2, i3, i4⟩ := key (ix [] ls (k : Int)).length (Nat.le_refl _)
      refine ⟨mem_set_or (mem_set_or i2 (by rw [i3]; omega)) (by rw [i4]; omega), ?_, ?_⟩
      · have a := ix_set0 (l := (tabIn (ix [] ls k) (ix [] ls (k : Int)).length (tabK ls k)).set 0 (teN (tabIn (ix [] ls k) (ix [] ls (k : Int)).length (tabK ls k)) + (ix [] ls (k : Int)).length)) (i := 33) (p := 0) (v := tnN (tabIn (ix [] ls k) (ix [] ls (k : Int)).length (tabK ls k)) + 1) (by omega) (by rw [List.length_set, i1.1]; omega) (by omega)
        have b := ix_set0 (l := tabIn (ix [] ls k) (ix [] ls (k : Int)).length (tabK ls k)) (i := 0) (p := 0) (v := teN (tabIn (ix [] ls k) (ix [] ls (k : Int)).length (tabK ls k)) + (ix [] ls (k : Int)).length) (by omega) (by rw [i1.1]; omega) (by omega)
        rw [if_neg (by omega)] at a
        rw [if_pos rfl] at b
        have e0 : (0 : Int).toNat = 0 := rfl
        have e33 : (33 : Int).toNat = 33 := rfl
        rw [e0] at b
        rw [e33, b] at a
        rw [teN, a, i3]; omega
      · have a := ix_set0 (l := (tabIn (ix [] ls k) (ix [] ls (k : Int)).length (tabK ls k)).set 0 (teN (tabIn (ix [] ls k) (ix [] ls (k : Int)).length (tabK ls k)) + (ix [] ls (k : Int)).length)) (i := 33) (p := 33) (v := tnN (tabIn (ix [] ls k) (ix [] ls (k : Int)).length (tabK ls k)) + 1) (by omega) (by rw [List.length_set, i1.1]; omega) (by omega)
        rw [if_pos rfl] at a
        have e33 : (33 : Int).toNat = 33 := rfl
        rw [e33] at a
        rw [tnN, a, i4]; omega
theorem tab_in {ls : Rws} (hk : MapOK ls) : ∀ z ∈ tabV ls, InK .i64 z := fun z hz => by
  rw [← tabK_end (ls := ls) (k := (ls.length : Int)) (Int.le_refl _)] at hz
  have := (tabK_small (map_rng hk) hk.m.1 (map_cnt hk) ls.length (Nat.le_refl _)).1 z hz
  exact in_small (by omega)
end Go.Proofs.YtodcppoglpfodaaGreatDoor
namespace Go.Proofs.YtodcppoglpfodaaGreatDoor
open Go.Wk
end Go.Proofs.YtodcppoglpfodaaGreatDoor
namespace Go.Proofs.YtodcppoglpfodaaGreatDoor
open Go.Wk Go.RowKit
end Go.Proofs.YtodcppoglpfodaaGreatDoor
