/-
  WHAT IS SAID HERE: plain functions: three layers apart, by labels, and what StyleTucker says of finds.
-/
import Derived.Test.YtjmpojoimcljoaaSpec5
namespace Go.Proofs.Ytjmpojoimcljoaa
open Go.Wk

/-! ### labels -/
def relab (a b : Int) (l : List Int) : List Int := l.map fun z => if z = a then b else z
def labX (f0 : Int) : List Int → List Int → List Int
  | [], lab => lab
  | x :: xs, lab => labX f0 xs (relab (ix 0 lab x) (ix 0 lab f0) lab)
def labF (past : Int) : List (List Int) → List Int → List Int
  | [], lab => lab
  | f :: fs, lab => labF past fs (if hasL f past = true then lab else labX (ix 0 f 0) f lab)
def labW (L : Int) (fs : List (List Int)) (past : Int) : List Int := labF past fs (up L L.toNat)
theorem relab_len (a b : Int) (l : List Int) : (relab a b l).length = l.length := by simp [relab]
theorem labX_len (f0 : Int) : ∀ xs lab : List Int, (labX f0 xs lab).length = lab.length
  | [], _ => rfl
  | x :: xs, lab => by rw [labX, labX_len f0 xs, relab_len]
theorem labF_len (past : Int) : ∀ (fs : List (List Int)) (lab : List Int), (labF past fs lab).length = lab.length
  | [], _ => rfl
  | f :: fs, lab => by
    rw [labF, labF_len past fs]
    split
    · rfl
    · rw [labX_len]
theorem labW_len (L : Int) (fs : List (List Int)) (past : Int) : (labW L fs past).length = L.toNat := by rw [labW, labF_len, up_len]
/-- One label in a round. -/
theorem relab_step {a b : Int} {l : List Int} {k : Int} (h0 : 0 ≤ k) (h : k < l.length) :
    (relab a b l).take (k + 1).toNat ++ l.drop (k + 1).toNat = ((relab a b l).take k.toNat ++ l.drop k.toNat).set k.toNat (if ix 0 l k = a then b else ix 0 l k) := by
  have hk : k.toNat < l.length := by omega
  have h1 : ix 0 l k = l[k.toNat] := by simp [ix, List.getD_eq_getElem?_getD, hk]
  rw [show (k + 1).toNat = k.toNat + 1 by omega, h1]
  generalize k.toNat = n at hk
  refine List.ext_getElem? fun i => ?_
  by_cases hi : i < l.length
  · rcases Nat.lt_trichotomy i n with h | h | h
    · rw [List.getElem?_append_left (by simp [relab]; omega), List.getElem?_set_ne (by omega), List.getElem?_append_left (by simp [relab]; omega), List.getElem?_take, List.getElem?_take, if_pos (by omega), if_pos h]
    · subst h
      rw [List.getElem?_append_left (by simp [relab]; omega), List.getElem?_set_self (by simp [relab]; omega), List.getElem?_take, if_pos (by omega), relab, List.getElem?_map, List.getElem?_eq_getElem hi]
      rfl
    · rw [List.getElem?_append_right (by simp [relab]; omega), List.getElem?_set_ne (by omega), List.getElem?_append_right (by simp [relab]; omega), List.getElem?_drop, List.getElem?_drop]
      simp only [List.length_take, relab_len]
      congr 1; omega
  · rw [List.getElem?_eq_none (by simp [relab]; omega), List.getElem?_eq_none (by simp [relab]; omega)]
theorem relab_at {a b : Int} {l : List Int} {k : Int} (h0 : 0 ≤ k) (h : k < l.length) : ix 0 ((relab a b l).take k.toNat ++ l.drop k.toNat) k = ix 0 l k := by
  rw [ix, ix, List.getD_eq_getElem?_getD, List.getD_eq_getElem?_getD, List.getElem?_append_right (by simp [relab]; omega), List.getElem?_drop]
  congr 2
  simp [relab]; omega
theorem relab_yes {a b : Int} {l m : List Int} {k : Int} (h0 : 0 ≤ k) (h : k < l.length) (hm : m = (relab a b l).take k.toNat ++ l.drop k.toNat) (he : ix 0 m k = a) : m.set k.toNat b = (relab a b l).take (k + 1).toNat ++ l.drop (k + 1).toNat := by
  subst hm
  rw [relab_at h0 h] at he
  rw [relab_step h0 h, if_pos he]
theorem relab_no {a b : Int} {l m : List Int} {k : Int} (h0 : 0 ≤ k) (h : k < l.length) (hm : m = (relab a b l).take k.toNat ++ l.drop k.toNat) (he : ix 0 m k ≠ a) : m = (relab a b l).take (k + 1).toNat ++ l.drop (k + 1).toNat := by
  rw [hm, relab_at h0 h] at he
  rw [relab_step h0 h, if_neg he, hm]
  have hl : ((relab a b l).take k.toNat ++ l.drop k.toNat)[k.toNat]? = some (ix 0 l k) := by
    rw [List.getElem?_append_right (by rw [List.length_take]; exact Nat.min_le_left _ _), List.getElem?_drop]
    rw [show k.toNat + (k.toNat - ((relab a b l).take k.toNat).length) = k.toNat by simp [relab_len]; omega]
    exact ix_get h h0
  obtain ⟨hlt, he2⟩ := List.getElem?_eq_some_iff.1 hl
  rw [← he2, List.set_getElem_self]
/-- Labels at the start. -/
theorem fill_step {L x : Int} (h0 : 0 ≤ x) (h : x < L) : (up x x.toNat ++ List.replicate (L - x).toNat 0).set x.toNat x = up (x + 1) (x + 1).toNat ++ List.replicate (L - (x + 1)).toNat 0 := by
  have e := up_snoc x x.toNat
  rw [show (x + 1).toNat = x.toNat + 1 by omega, e, show (L - x).toNat = (L - (x + 1)).toNat + 1 by omega, List.replicate_succ, List.set_append_right _ _ (by rw [up_len]; exact Nat.le_refl _), up_len, Nat.sub_self, List.set_cons_zero, List.append_assoc]
  rfl
def joinW (L : Int) (fs : List (List Int)) (past a b : Int) : Bool := decide (ix 0 (labW L fs past) a = ix 0 (labW L fs past) b)
def apartI (L : Int) (fs : List (List Int)) (l : List Int) (i : Int) : Bool := joinW L fs (ix 0 l i) (ix 0 l ((i + 1) % 3)) (ix 0 l ((i + 2) % 3))
def apartW (L : Int) (fs : List (List Int)) (a b c : Int) : Bool := (up 3 3).all (apartI L fs [a, b, c])

/-! ### all three layers -/
def prC (L a b : Int) (k : Nat) : List (Int × Int × Int) := (up L k).map fun c => (a, b, c)
def prB (L a : Int) (k : Nat) : List (Int × Int × Int) := (up L k).flatMap fun b => prC L a b L.toNat
def prA (L : Int) (k : Nat) : List (Int × Int × Int) := (up L k).flatMap fun a => prB L a L.toNat
theorem prC_next {L a b c : Int} (h0 : 0 ≤ c) (h : c < L) : prC L a b (L - c).toNat = (a, b, c) :: prC L a b (L - (c + 1)).toNat := by rw [prC, up_next h0 h]; rfl
theorem prB_next {L a b : Int} (h0 : 0 ≤ b) (h : b < L) : prB L a (L - b).toNat = prC L a b L.toNat ++ prB L a (L - (b + 1)).toNat := by rw [prB, up_next h0 h]; rfl
theorem prA_next {L a : Int} (h0 : 0 ≤ a) (h : a < L) : prA L (L - a).toNat = prB L a L.toNat ++ prA L (L - (a + 1)).toNat := by rw [prA, up_next h0 h]; rfl
def pickT (L : Int) (fs : List (List Int)) (t : Int × Int × Int) : Bool := decide (t.1 < t.2.1 ∧ t.2.1 < t.2.2) && apartW L fs t.1 t.2.1 t.2.2
theorem pickT_no {L a b c : Int} {fs : List (List Int)} (h : ¬ (a < b ∧ b < c)) : pickT L fs (a, b, c) = false := by
  rw [pickT, decide_eq_false h, Bool.false_and]
/-- The first three layers that are apart: those found till now, or the first of the rest. -/
def wy (L : Int) (fs : List (List Int)) (why : List Int) (rest : List (Int × Int × Int)) : List Int :=
  if why = [] then (match rest.find? (pickT L fs) with | some t => [t.1, t.2.1, t.2.2] | none => []) else why
theorem wy_skip {L : Int} {fs : List (List Int)} {why : List Int} {t : Int × Int × Int} {rest : List (Int × Int × Int)} (h : why = [] → pickT L fs t = false) : wy L fs why (t :: rest) = wy L fs why rest := by
  by_cases hw : why = []
  · rw [wy, wy, if_pos hw, if_pos hw, List.find?_cons, h hw]
  · rw [wy, wy, if_neg hw, if_neg hw]
theorem wy_take {L a b c : Int} {fs : List (List Int)} {rest : List (Int × Int × Int)} (h : pickT L fs (a, b, c) = true) : wy L fs [] ((a, b, c) :: rest) = wy L fs [a, b, c] rest := by
  rw [wy, wy, if_pos rfl, if_neg (by simp), List.find?_cons, h]
theorem wy_nil (L : Int) (fs : List (List Int)) (why : List Int) : wy L fs why [] = why := by
  rw [wy]
  split
  · rename_i h; subst h; rfl
  · rfl
def whyW (L : Int) (fs : List (List Int)) : List Int := wy L fs [] (prA L L.toNat)
def fitW (L : Int) (fs : List (List Int)) : List (List Int) := (allL L).filter (fitsW fs)
theorem fitW_len (L : Int) (fs : List (List Int)) (h7 : L ≤ 7) : (fitW L fs).length ≤ 823543 := Nat.le_trans (List.length_filter_le _ _) (allG_len' L h7 (by omega) [])
/-- What StyleTucker keeps of the orders: the first one that fits, and how many fit. -/
def stepF (fs : List (List Int)) (x : List Int × Int) (l : List Int) : List Int × Int := if fitsW fs l = true then (if x.2 = 0 then l else x.1, IntKind.i64.wrap (x.2 + 1)) else x
theorem wrap_one {c : Int} (h0 : 0 ≤ c) (h : c ≤ 1000000) : IntKind.i64.wrap (c + 1) = c + 1 := by
  simp only [IntKind.wrap, IntKind.signed, IntKind.bits]
  simp
  omega
theorem foldF_all (fs : List (List Int)) : ∀ (ls : List (List Int)) (fl : List Int) (c : Int), 0 ≤ c → c + ls.length ≤ 1000000 →
    ls.foldl (stepF fs) (fl, c) = (if c = 0 then (ls.filter (fitsW fs)).headD fl else fl, c + (ls.filter (fitsW fs)).length)
  | [], fl, c, h0, _ => by simp
  | l :: ls, fl, c, h0, h => by
    simp only [List.length_cons] at h
    rw [List.foldl_cons, List.filter_cons]
    by_cases hf : fitsW fs l = true
    · have e : stepF fs (fl, c) l = (if c = 0 then l else fl, c + 1) := by rw [stepF, if_pos hf, wrap_one h0 (by omega)]
      rw [e, foldF_all fs ls _ _ (by omega) (by omega), if_neg (by omega), if_pos hf]
      simp; omega
    · have e : stepF fs (fl, c) l = (fl, c) := by rw [stepF, if_neg hf]
      rw [e, foldF_all fs ls _ _ h0 (by omega), if_neg hf]
theorem foldF_fit {L : Int} {fs : List (List Int)} (h7 : L ≤ 7) : (allL L).foldl (stepF fs) ([], 0) = ((fitW L fs).headD [], ((fitW L fs).length : Int)) := by
  have := allG_len' L h7 (m := L.toNat) (by omega) []
  rw [foldF_all fs (allL L) [] 0 (by omega) (by rw [allL]; omega), if_pos rfl, Int.zero_add]; rfl
/-- What StyleTucker says of finds. -/
def tuckP (L : Int) (fs : List (List Int)) : Prop :=
  checkE L fs = 0 ∧ (∀ a b c, 0 ≤ a → a < L → 0 ≤ b → b < L → 0 ≤ c → c < L → ¬ ((a = b ∨ b = c) ∨ a = c) → provesE L fs a b c = if apartW L fs a b c = true then 0 else 14) ∧
  countE L fs = (fitW L fs).length ∧ ((fitW L fs).length = 0 ↔ whyW L fs ≠ []) ∧
  ((fitW L fs).length = 0 → firstE L fs = 12 ∧ firstL L fs = [] ∧ whyE L fs = 0 ∧ [(whyT L fs).1, (whyT L fs).2.1, (whyT L fs).2.2] = whyW L fs) ∧
  ((fitW L fs).length ≠ 0 → firstE L fs = 0 ∧ firstL L fs = (fitW L fs).headD [] ∧ whyE L fs = 13 ∧ whyT L fs = (0, 0, 0))
end Go.Proofs.Ytjmpojoimcljoaa
