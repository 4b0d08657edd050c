/-
  WHAT IS PROVED HERE, TEXT BY TEXT (several texts of one prover, joined to one file; the conditions stand in each statement):
  * WHAT IS PROVED HERE: plain laws that join the program and the reference: full plans, joins of all greatest plans, rims compared. No program in sight. Conditions stand in each statement.
  * WHAT IS SAID HERE, WITH PLAIN LAWS: all orders of at most six barges; their moves as a rim, and the joins of each barge's moves. No program in sight.
-/
import Derived.Test.YtodcppoglpfodaaGreatDoorU2

set_option linter.unusedVariables false
set_option linter.unusedSimpArgs false

namespace Go.Proofs.YtodcppoglpfodaaGreatDoor.C5
open Go.Wk Go.RowKit Go.Lib Go
set_option linter.unusedVariables false

theorem ba_beq {a b : ByteArray} : (a == b) = true ↔ a = b := by
  cases a with | mk x => cases b with | mk y =>
  show (ByteArray.beq _ _) = true ↔ _
  unfold ByteArray.beq
  simp

/-! ### a rim as a word of numbers -/
def wtS (s : ByteArray) (q : Int) : Int := numC (tabAt s q)
def wd (s : ByteArray) : List Int := s.data.toList.map fun b => numC (b.toNat : Int)
theorem wt_word (s : ByteArray) : (rng 0 s.size).map (wtS s) = wd s := by
  have hl : s.size = s.data.toList.length := (by simp)
  refine List.ext_getElem? fun i => ?_
  by_cases hi : i < s.size
  · rw [rng, List.map_map, List.getElem?_map, List.getElem?_range (by omega), wd, List.getElem?_map, List.getElem?_eq_getElem (by omega)]
    simp only [Option.map_some, Function.comp_apply, wtS, Int.zero_add]
    rw [tabAt, Int.toNat_natCast, List.getD_eq_getElem?_getD, List.getElem?_eq_getElem (by omega)]; rfl
  · rw [List.getElem?_eq_none (by rw [List.length_map, rng, List.length_map, List.length_range]; omega), List.getElem?_eq_none (by rw [wd, List.length_map]; omega)]
theorem fits_wt {s : ByteArray} (h : Lets s) : Fits (fitR s) (wtS s) s.size := fun i j i0 i1 j0 j1 => (numC_fit (h i i0 i1) (h j j0 j1)).symm
theorem run_word {s : ByteArray} (h : Lets s) : ∀ (idx : List Int) (st : List Join) (lf : List Int), (∀ x ∈ lf, 0 ≤ x ∧ x < s.size) → (∀ x ∈ idx, 0 ≤ x ∧ x < s.size) →
    (runS s (st, lf) idx).2.map (wtS s) = (runK (lf.map (wtS s)).reverse (idx.map (wtS s))).reverse
  | [], st, lf, _, _ => by rw [List.map_nil]; simp [runS, runK]
  | j :: idx, st, lf, hl, hi => by
    have hj := hi j List.mem_cons_self
    have hi' : ∀ x ∈ idx, 0 ≤ x ∧ x < s.size := fun x hx => hi x (List.mem_cons_of_mem _ hx)
    rw [runS_cons, List.map_cons, runK_cons]
    rcases List.eq_nil_or_concat lf with rfl | ⟨lf', t, rfl⟩
    · rw [stepS_no (.inl (by decide)), run_word h idx _ _ (fun x hx => by rw [List.nil_append, List.mem_singleton] at hx; subst hx; exact hj) hi']
      rfl
    · rw [List.concat_eq_append] at hl ⊢
      have ht := hl t (by simp)
      have hx : ix 0 (lf' ++ [t]) (((lf' ++ [t]).length : Int) - 1) = t := ix_app (by rw [List.length_append, List.length_singleton]; omega)
      have hst : stk ((lf' ++ [t]).map (wtS s)).reverse (wtS s j) = if wtS s t + wtS s j = 0 then (lf'.map (wtS s)).reverse else wtS s j :: ((lf' ++ [t]).map (wtS s)).reverse := by
        rw [List.map_append, List.reverse_append]
        simp only [List.map_cons, List.map_nil, List.reverse_cons, List.reverse_nil, List.nil_append, List.cons_append, stk]
      by_cases hf : fitR s t j = true
      · rw [stepS_yes (by rw [List.length_append, List.length_singleton]; omega) (by rw [hx]; exact hf), hx, hst, if_pos (by have := fits_wt h t j ht.1 ht.2 hj.1 hj.2; rw [hf] at this; exact of_decide_eq_true this.symm)]
        rw [show (((lf' ++ [t]).length : Int) - 1).toNat = lf'.length by rw [List.length_append, List.length_singleton]; omega, List.take_left]
        exact run_word h idx _ _ (fun x hx => hl x (by simp [hx])) hi'
      · rw [stepS_no (.inr (by rw [hx]; simpa using hf)), hst, if_neg (fun q => hf (by rw [fits_wt h t j ht.1 ht.2 hj.1 hj.2]; exact decide_eq_true q))]
        rw [run_word h idx _ _ (fun x hx => by
          rcases List.mem_append.1 hx with hx | hx
          · exact hl x hx
          · rw [List.mem_singleton] at hx; subst hx; exact hj) hi', List.map_append, List.map_append, List.reverse_append]
        simp
theorem rest_word {s : ByteArray} (h : Lets s) : wd (restV s) = redW (wd s) := by
  have h1 := run_word h (rng 0 s.size) [] [] (by simp) fun x hx => by rw [rng_mem] at hx; exact hx
  rw [wt_word] at h1
  rw [redW, redK]
  refine Eq.trans ?_ h1
  rw [restV, wd]
  show ((takS s).2.map (byteAt s)).map _ = _
  rw [List.map_map]; rfl
theorem wd_size (s : ByteArray) : (wd s).length = s.size := by rw [wd, List.length_map]; simp
theorem rest_empty {s : ByteArray} (h : Lets s) : (restV s == ByteArray.empty) = decide (2 * (allV s).1 = s.size) := by
  have hf := full_iff (fits_wt h) (Int.le_refl 0) (by omega) (Int.le_refl (s.size : Int))
  rw [wt_word, Int.sub_zero] at hf
  have hr := rest_word h
  refine bool_iff ?_
  rw [decide_eq_true_eq, ba_beq]
  show _ ↔ 2 * (partP (fitR s) 0 s.size).1 = s.size
  rw [hf]
  constructor
  · intro e
    rw [e] at hr
    have : redW (wd s) = [] := hr.symm
    exact List.reverse_eq_nil_iff.1 this
  · intro e
    have hz : (restV s).size = 0 := by
      have := wd_size (restV s)
      rw [hr, redW, e] at this; exact this.symm
    exact ByteArray.size_eq_zero_iff.1 hz
theorem full_eq (s : ByteArray) : fullP s = fullR s := by
  rw [fullP, fullR]
  by_cases h : rimE s = 0
  · rw [if_pos h, decide_eq_true h, Bool.true_and, rest_empty (rimE_ok h).2]
  · rw [if_neg h, decide_eq_false h, Bool.false_and]

end Go.Proofs.YtodcppoglpfodaaGreatDoor.C5

namespace Go.Proofs.YtodcppoglpfodaaGreatDoor
open Go.Wk Go.RowKit Go.Lib
set_option linter.unusedVariables false
def ordO : Nat → List Int → List (List Int)
  | 0, _ => [[]]
  | f + 1, left => (List.range left.length).flatMap fun k => (ordO f (left.take k ++ left.drop (k + 1))).map (left.getD k 0 :: ·)
theorem com_ord : ∀ (f : Nat) (bs ls os : List Int), f ≤ bs.length → ls.length = f → ∃ l ∈ ordO f ls, ((bs.take f).foldl comS (ls, os)).2 = os ++ l
  | 0, bs, ls, os, _, _ => ⟨[], List.mem_singleton.2 rfl, by rw [List.take_zero, List.append_nil]; rfl⟩
  | f + 1, [], ls, os, h, _ => by simp at h
  | f + 1, b :: bs, ls, os, h, hl => by
    have h1 := Int.emod_nonneg b (show (ls.length : Int) ≠ 0 by omega)
    have h2 := Int.emod_lt_of_pos b (show (0 : Int) < ls.length by omega)
    have hk := coms_len (s := (ls, os)) (c := b) (by show 0 < ls.length; omega)
    obtain ⟨l, hm, he⟩ := com_ord f bs (comS (ls, os) b).1 (comS (ls, os) b).2 (by simpa using h) (by simp only at hk; omega)
    refine ⟨ix 0 ls (b % ls.length) :: l, ?_, ?_⟩
    · rw [ordO, List.mem_flatMap]
      refine ⟨(b % ls.length).toNat, List.mem_range.2 (by omega), List.mem_map.2 ⟨l, ?_, rfl⟩⟩
      rw [comS] at hm
      rw [show (b % (ls.length : Int)).toNat + 1 = (b % (ls.length : Int) + 1).toNat by omega]
      exact hm
    · rw [List.take_succ_cons, List.foldl_cons, he, comS, List.append_assoc]; rfl
def cmS (n c : Int) (keys : List Int) (s : List (Int × Int) × Int) (p : Int × Int) : List (Int × Int) × Int := if p.2 = c ∧ s.2 < n then (mput s.1 (ix 0 keys s.2) p.1, s.2 + 1) else s
def cmK (n c : Int) (keys bs : List Int) (i : Int) : List (Int × Int) × Int := ((List.range i.toNat).map fun (q : Nat) => ((q : Int), ix 0 bs q)).foldl (cmS n c keys) ([], 0)
theorem cmk_next {n c : Int} {keys bs : List Int} {i : Int} (h : 0 ≤ i) : cmK n c keys bs (i + 1) = cmS n c keys (cmK n c keys bs i) (i, ix 0 bs i) := by
  rw [cmK, show (i + 1).toNat = i.toNat + 1 by omega, List.range_succ, List.map_append, List.foldl_append]
  simp only [List.map_cons, List.map_nil, List.foldl_cons, List.foldl_nil, Int.toNat_of_nonneg h]; rfl
def cameV (xs : List Int) : List (Int × Int) := (cmK xs.length 105 xs (mvL xs) (mvL xs).length).1
def leftV (xs : List Int) : List (Int × Int) := (cmK xs.length 111 (rnV xs) (mvL xs) (mvL xs).length).1
def jnV (xs : List Int) : List (Int × Int) := xs.map fun x => (mget 0 (cameV xs) x, mget 0 (leftV xs) x)
def rimV (xs : List Int) : ByteArray := rpS (mvS xs)
def pmB (xs : List Int) : Bool := decide (1 ≤ (xs.length : Int)) && decide ((xs.length : Int) ≤ 7) && xs.all (fun x => decide (0 ≤ x) && decide (x < (xs.length : Int))) && decide xs.Nodup
def goodO (xs : List Int) : Bool := pmB xs && rnOK xs && decide ((rnV xs).length = xs.length) && decide ((mvL xs).length = 2 * xs.length) && decide (C5.rimE (rimV xs) = 0) && C5.fullP (rimV xs) && decide (C5.validT (rimV xs) [] (jnV xs) = 0)
/-! ### the same, with numbers written out as they come -/
def pick : Nat → Int → (Int → Bool) → Bool
  | 0, x, k => k x
  | f + 1, x, k => if x = (f : Int) then k f else pick f x k
theorem pick_eq {k : Int → Bool} : ∀ (f : Nat) (x : Int), pick f x k = k x
  | 0, _ => rfl
  | f + 1, x => by
    rw [pick]
    split
    · rename_i h; rw [h]
    · exact pick_eq f x
def frc (B : Nat) : List Int → (List Int → Bool) → Bool
  | [], k => k []
  | x :: l, k => pick B x fun y => frc B l fun u => k (y :: u)
theorem frc_eq (B : Nat) : ∀ (l : List Int) (k : List Int → Bool), frc B l k = k l
  | [], _ => rfl
  | x :: l, k => by rw [frc, pick_eq, frc_eq B l]
def frcJ (B : Nat) : List (Int × Int) → (List (Int × Int) → Bool) → Bool
  | [], k => k []
  | x :: l, k => pick B x.1 fun a => pick B x.2 fun b => frcJ B l fun u => k ((a, b) :: u)
theorem frcJ_eq (B : Nat) : ∀ (l : List (Int × Int)) (k : List (Int × Int) → Bool), frcJ B l k = k l
  | [], _ => rfl
  | x :: l, k => by rw [frcJ, pick_eq, pick_eq, frcJ_eq B l]
def chkO (xs w os r : List Int) : Bool :=
  pmB xs && rnA xs w ([], 0, []) && decide (os.length = xs.length) && decide (w.length = 2 * xs.length) && decide (C5.rimE (strOfNums r) = 0) && C5.fullP (strOfNums r) &&
    frcJ 13 (xs.map fun x => (mget 0 (cmK xs.length 105 xs w w.length).1 x, mget 0 (cmK xs.length 111 os w w.length).1 x)) fun j => decide (C5.validT (strOfNums r) [] j = 0)
def goodF (xs : List Int) : Bool := frc 7 xs fun xs => frc 112 (mvL xs) fun w => frc 7 (rnV xs) fun os => frc 98 (w.map rpC) fun r => chkO xs w os r
theorem strL_mv (xs : List Int) : strL (mvS xs) = mvL xs := by rw [strL, mvL, mvB_eq]; rfl
theorem goodF_eq (xs : List Int) : goodF xs = goodO xs := by
  rw [goodF, frc_eq, frc_eq, frc_eq, frc_eq, chkO, frcJ_eq, goodO, rimV, rpS, strL_mv]; rfl
end Go.Proofs.YtodcppoglpfodaaGreatDoor
