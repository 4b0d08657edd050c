/-
  WHAT IS PROVED HERE, TEXT BY TEXT (several texts of one prover, joined to one file; the conditions stand in each statement):
  * WHAT IS SAID HERE, WITH PLAIN LAWS: tides, their rings, what they are after some times, and after how many all is back; all tides of at most six places, reckoned by the kernel. Conditions stand in each statement.
-/
import Derived.Test.YtlibemgaepkceaaGreatDoorU2

set_option linter.unusedVariables false
set_option linter.unusedSimpArgs false

namespace Go.Proofs.YtlibemgaepkceaaGreatDoor
open Go.Wk Go.RowKit
set_option linter.unusedVariables false
def bitV (met p : Int) : Int := bits .and .i64 (met / 2 ^ min p.toNat IntKind.i64.bits) 1
def orV (met p : Int) : Int := bits .or .i64 met (IntKind.i64.wrap (1 * 2 ^ min p.toNat IntKind.i64.bits))
theorem or_bit {m p q : Int} (m0 : 0 ≤ m) (m1 : m < 128) (p0 : 0 ≤ p) (p1 : p < 7) (q0 : 0 ≤ q) (q1 : q < 7) : bitV (orV m p) q = (if q = p then 1 else bitV m q) ∧ 0 ≤ orV m p ∧ orV m p < 128 := by
  have key : ∀ (a : Fin 128) (b c : Fin 7), bitV (orV (a.val : Int) (b.val : Int)) (c.val : Int) = (if (c.val : Int) = (b.val : Int) then 1 else bitV (a.val : Int) (c.val : Int)) ∧ 0 ≤ orV (a.val : Int) (b.val : Int) ∧ orV (a.val : Int) (b.val : Int) < 128 := by decide +kernel
  have := key ⟨m.toNat, by omega⟩ ⟨p.toNat, by omega⟩ ⟨q.toNat, by omega⟩
  simp only [Int.toNat_of_nonneg m0, Int.toNat_of_nonneg p0, Int.toNat_of_nonneg q0] at this
  exact this
theorem bitV_zero {q : Int} (q0 : 0 ≤ q) (q1 : q < 7) : bitV 0 q = 0 := by
  have key : ∀ c : Fin 7, bitV 0 (c.val : Int) = 0 := by decide +kernel
  have := key ⟨q.toNat, by omega⟩
  simp only [Int.toNat_of_nonneg q0] at this
  exact this
structure MskI (n : Nat) (met : Int) (M : List Int) : Prop where
  n7 : n ≤ 7
  b : 0 ≤ met ∧ met < 128
  l : M.length = n
  at_ : ∀ q : Int, 0 ≤ q → q < n → bitV met q = if ix 0 M q = 0 then 0 else 1
theorem msk_start {n : Nat} (h : n ≤ 7) : MskI n 0 (List.replicate n 0) :=
  ⟨h, by decide, List.length_replicate, fun q q0 q1 => by rw [bitV_zero q0 (by omega), ix_repR q0 q1]; rfl⟩
theorem msk_or {n : Nat} {met p : Int} {M : List Int} (h : MskI n met M) (p0 : 0 ≤ p) (p1 : p < n) : MskI n (orV met p) (M.set p.toNat 1) := by
  have h7 := h.n7
  have hb := h.b
  refine ⟨h7, (or_bit hb.1 hb.2 p0 (by omega) (Int.le_refl 0) (by decide)).2, by rw [List.length_set]; exact h.l, fun q q0 q1 => ?_⟩
  rw [(or_bit hb.1 hb.2 p0 (by omega) q0 (by omega)).1, ix_setR p0 (by rw [h.l]; exact p1) q0, h.at_ q q0 q1]
  by_cases hq : q = p
  · rw [if_pos hq, if_pos hq]; rfl
  · rw [if_neg hq, if_neg hq]
def mrkV (n : Nat) (l : List Int) : List Int := l.foldl (fun M x => M.set x.toNat 1) (List.replicate n 0)
theorem mrk_at {n : Nat} {l : List Int} (hl : ∀ x ∈ l, 0 ≤ x ∧ x < n) {q : Int} (q0 : 0 ≤ q) (q1 : q < n) : (mrkV n l).length = n ∧ ix 0 (mrkV n l) q = if q ∈ l then 1 else 0 := by
  have key : ∀ (l M : List Int), (∀ x ∈ l, 0 ≤ x ∧ x < n) → M.length = n → (l.foldl (fun M x => M.set x.toNat 1) M).length = n ∧ ix 0 (l.foldl (fun M x => M.set x.toNat 1) M) q = if q ∈ l then 1 else ix 0 M q := by
    intro l
    induction l with
    | nil => intro M _ hM; exact ⟨hM, by simp⟩
    | cons a l ih =>
      intro M hl hM
      have ha := hl a List.mem_cons_self
      obtain ⟨h1, h2⟩ := ih (M.set a.toNat 1) (fun x hx => hl x (List.mem_cons_of_mem _ hx)) (by rw [List.length_set]; exact hM)
      refine ⟨h1, ?_⟩
      rw [List.foldl_cons, h2, ix_setR ha.1 (by omega) q0]
      by_cases hq : q = a
      · subst hq; rw [if_pos rfl, if_pos List.mem_cons_self]; split <;> rfl
      · rw [if_neg hq]
        by_cases hql : q ∈ l
        · rw [if_pos hql, if_pos (List.mem_cons_of_mem _ hql)]
        · rw [if_neg hql, if_neg fun h => (List.mem_cons.1 h).elim hq hql]
  obtain ⟨h1, h2⟩ := key l (List.replicate n 0) hl List.length_replicate
  exact ⟨h1, by rw [mrkV, h2, ix_repR q0 q1]⟩
structure PermR (n : Nat) (l : List Int) : Prop where
  p : l.Perm (upR n)
theorem upR_nodup {n : Nat} : (upR n).Nodup := by
  rw [upR]
  exact List.Pairwise.map _ (fun a b h e => h (by omega)) List.nodup_range
section
variable {n : Nat} {l : List Int}
theorem PermR.len (h : PermR n l) : l.length = n := by rw [h.p.length_eq, upR_len]
theorem PermR.mem (h : PermR n l) {x : Int} : x ∈ l ↔ 0 ≤ x ∧ x < n := h.p.mem_iff.trans upR_mem
theorem PermR.nd (h : PermR n l) : l.Nodup := h.p.nodup_iff.2 upR_nodup
theorem PermR.at_ (h : PermR n l) {i : Int} (i0 : 0 ≤ i) (i1 : i < n) : 0 ≤ ix 0 l i ∧ ix 0 l i < n := h.mem.1 (ix_memR i0 (by rw [h.len]; exact i1))
theorem nd_take (h : l.Nodup) {i : Int} (i0 : 0 ≤ i) (i1 : i < l.length) : ix 0 l i ∉ l.take i.toNat := by
  intro hx
  have e := List.take_append_drop i.toNat l
  rw [← e, List.nodup_append] at h
  refine h.2.2 _ hx (ix 0 l i) ?_ rfl
  have : (l.drop i.toNat)[0]? = some (ix 0 l i) := by rw [List.getElem?_drop, Nat.add_zero]; exact ix_get i1 i0
  exact List.mem_of_getElem? this
theorem msk_take (hP : PermR n l) (h7 : n ≤ 7) {met i : Int} (h : MskI n met (mrkV n (l.take i.toNat))) (i0 : 0 ≤ i) (i1 : i < n) : bitV met (ix 0 l i) = 0 ∧ MskI n (orV met (ix 0 l i)) (mrkV n (l.take (i + 1).toNat)) := by
  have ha := hP.at_ i0 i1
  have hi : i < l.length := by rw [hP.len]; exact i1
  have hl : ∀ x ∈ l.take i.toNat, 0 ≤ x ∧ x < (n : Int) := fun x hx => hP.mem.1 (List.mem_of_mem_take hx)
  refine ⟨?_, ?_⟩
  · rw [h.at_ _ ha.1 ha.2, (mrk_at hl ha.1 ha.2).2, if_neg (nd_take hP.nd i0 hi)]; rfl
  · have := msk_or h ha.1 ha.2
    rw [take_ix (d := (0 : Int)) i0 hi, mrkV, List.foldl_append]
    exact this
end
def wrS (tide : List Int) (s : List Int × List (List Int)) (p : Int) : List Int × List (List Int) := ((pthV tide 1 s.1 p).2.1, if (pthV tide 1 s.1 p).1 = [] then s.2 else s.2 ++ [(pthV tide 1 s.1 p).1])
def wrK (tide : List Int) (i : Int) : List Int × List (List Int) := ((upR tide.length).take i.toNat).foldl (wrS tide) (List.replicate tide.length 0, [])
def wrV (tide : List Int) : List (List Int) := ((upR tide.length).foldl (wrS tide) (List.replicate tide.length 0, [])).2
theorem wr_next {tide : List Int} {i : Int} (h0 : 0 ≤ i) (h1 : i < tide.length) : wrK tide (i + 1) = wrS tide (wrK tide i) i := by
  rw [wrK, upR_take h0 h1, List.foldl_append]; rfl
theorem wr_all {tide : List Int} {i : Int} (h : (tide.length : Int) ≤ i) : (wrK tide i).2 = wrV tide := by
  rw [wrK, List.take_of_length_le (by rw [upR_len]; omega)]; rfl
def kdS (K : List Int) (l : List Int) : List Int := K.set l.length (ix 0 K l.length + 1)
def kdK (R : List (List Int)) (i : Int) : List Int := (R.take i.toNat).foldl kdS (List.replicate 8 0)
def kdV (tide : List Int) : List Int := (wrV tide).foldl kdS (List.replicate 8 0)
theorem kd_next {R : List (List Int)} {i : Int} (h0 : 0 ≤ i) (h1 : i < R.length) : kdK R (i + 1) = kdS (kdK R i) (ix [] R i) := by
  rw [kdK, take_ix (d := ([] : List Int)) h0 h1, List.foldl_append]; rfl
theorem kd_all {tide : List Int} {i : Int} (h : ((wrV tide).length : Int) ≤ i) : kdK (wrV tide) i = kdV tide := by rw [kdK, List.take_of_length_le (by omega)]; rfl
theorem kd_len {R : List (List Int)} {i : Int} : (kdK R i).length = 8 := by
  rw [kdK]
  have : ∀ (L : List (List Int)) (K : List Int), (L.foldl kdS K).length = K.length := by
    intro L
    induction L with
    | nil => intro K; rfl
    | cons a L ih => intro K; rw [List.foldl_cons, ih, kdS, List.length_set]
  rw [this]; rfl
def bkW (m c st : Int) : Nat → Int → Int
  | 0, x => x
  | f + 1, x => if 0 < c ∧ x % m ≠ 0 then bkW m c st f (x + st) else x
def bkS (K : List Int) (x m : Int) : Int := bkW m (ix 0 K m) x 7 x
def bkK (K : List Int) (m : Int) : Int := ((upR 8).take m.toNat).foldl (fun x m => if m < 2 then x else bkS K x m) 1
def bkV (tide : List Int) : Int := bkK (kdV tide) 8
theorem bk_next {K : List Int} {m : Int} (h0 : 2 ≤ m) (h1 : m < 8) : bkK K (m + 1) = bkS K (bkK K m) m := by
  rw [bkK, upR_take (n := 8) (by omega) h1, List.foldl_append]
  show (if m < 2 then _ else _) = _
  rw [if_neg (by omega)]; rfl
def afS (t : Int) (l : List Int) (out : List Int) (i : Int) : List Int := out.set (ix 0 l i).toNat (ix 0 l (((i + t) % l.length + l.length) % l.length))
def afK (t : Int) (l : List Int) (out : List Int) (i : Int) : List Int := ((upR l.length).take i.toNat).foldl (afS t l) out
def afF (t : Int) (out : List Int) (l : List Int) : List Int := (upR l.length).foldl (afS t l) out
def afN (t : Int) (R : List (List Int)) (n : Nat) (i : Int) : List Int := (R.take i.toNat).foldl (afF t) (List.replicate n 0)
def afV (tide : List Int) (t : Int) : List Int := (wrV tide).foldl (afF t) (List.replicate tide.length 0)
theorem afk_next {t : Int} {l out : List Int} {i : Int} (h0 : 0 ≤ i) (h1 : i < l.length) : afK t l out (i + 1) = afS t l (afK t l out i) i := by
  rw [afK, upR_take h0 h1, List.foldl_append]; rfl
theorem afk_all {t : Int} {l out : List Int} {i : Int} (h : (l.length : Int) ≤ i) : afK t l out i = afF t out l := by rw [afK, List.take_of_length_le (by rw [upR_len]; omega)]; rfl
theorem afn_next {t : Int} {R : List (List Int)} {n : Nat} {i : Int} (h0 : 0 ≤ i) (h1 : i < R.length) : afN t R n (i + 1) = afF t (afN t R n i) (ix [] R i) := by
  rw [afN, take_ix (d := ([] : List Int)) h0 h1, List.foldl_append]; rfl
theorem afn_all {tide : List Int} {t i : Int} (h : ((wrV tide).length : Int) ≤ i) : afN t (wrV tide) tide.length i = afV tide t := by rw [afN, List.take_of_length_le (by omega)]; rfl
theorem afk_len {t : Int} {l out : List Int} {i : Int} : (afK t l out i).length = out.length := by
  rw [afK]
  have : ∀ (L : List Int) (out : List Int), (L.foldl (afS t l) out).length = out.length := by
    intro L
    induction L with
    | nil => intro out; rfl
    | cons a L ih => intro out; rw [List.foldl_cons, ih, afS, List.length_set]
  exact this _ _
theorem afn_len {t : Int} {R : List (List Int)} {n : Nat} {i : Int} : (afN t R n i).length = n := by
  rw [afN]
  have : ∀ (L : List (List Int)) (out : List Int), (L.foldl (afF t) out).length = out.length := by
    intro L
    induction L with
    | nil => intro out; rfl
    | cons a L ih =>
      intro out
      rw [List.foldl_cons, ih, ← afk_all (i := (a.length : Int)) (Int.le_refl _), afk_len]
  rw [this, List.length_replicate]
def goodW (tide : List Int) : Bool :=
  decide (1 ≤ tide.length) && decide (tide.length ≤ 6) && tide.all (fun x => decide (0 ≤ x) && decide (x < (tide.length : Int))) && decide tide.Nodup && (wrV tide).all (ringB tide) &&
    (wrV tide).all (fun l => l.all fun x => decide (0 ≤ x) && decide (x < (tide.length : Int))) && decide (wrV tide).flatten.Nodup && (upR tide.length).all (fun x => decide (x ∈ (wrV tide).flatten)) &&
    decide ((wrV tide).Pairwise fun a b => ix 0 a 0 < ix 0 b 0) && decide ((wrV tide).length ≤ 6) && (wrV tide).all (fun l => decide (1 ≤ l.length) && decide (l.length ≤ 6)) && (upR 9).all (fun m => decide (1 ≤ bkK (kdV tide) m) && decide (bkK (kdV tide) m ≤ 60)) &&
    (kdV tide).all (fun x => decide (0 ≤ x) && decide (x ≤ 6)) && decide (afV tide (bkV tide) = upR tide.length)
def ordR : Nat → List Int → List (List Int)
  | 0, _ => [[]]
  | f + 1, left => (List.range left.length).flatMap fun k => (ordR f (left.take k ++ left.drop (k + 1))).map (left.getD k 0 :: ·)
theorem ordR_mem : ∀ {f : Nat} {l left : List Int}, left.length = f → l.Perm left → l ∈ ordR f left
  | 0, l, left, hl, h => by
    have := h.length_eq
    rw [hl] at this
    rw [List.eq_nil_of_length_eq_zero this]; exact List.mem_singleton.2 rfl
  | f + 1, [], left, hl, h => by have := h.length_eq; simp at this; omega
  | f + 1, x :: t, left, hl, h => by
    obtain ⟨k, hk, e⟩ := List.mem_iff_getElem.1 (h.mem_iff.1 List.mem_cons_self)
    rw [ordR, List.mem_flatMap]
    refine ⟨k, List.mem_range.2 hk, List.mem_map.2 ⟨t, ordR_mem (by rw [List.length_append, List.length_take, List.length_drop]; omega) ?_, ?_⟩⟩
    · have e2 : left = left.take k ++ x :: left.drop (k + 1) := by rw [← e, ← List.drop_eq_getElem_cons hk, List.take_append_drop]
      rw [e2] at h
      have := h.trans (List.perm_middle (a := x) (l₁ := left.take k) (l₂ := left.drop (k + 1)))
      exact (List.perm_cons x).1 this
    · rw [List.getD_eq_getElem?_getD, List.getElem?_eq_getElem hk, Option.getD_some, e]
theorem w1to4 : ((ordR 1 (upR 1)).all goodW && (ordR 2 (upR 2)).all goodW && (ordR 3 (upR 3)).all goodW && (ordR 4 (upR 4)).all goodW) = true := by decide +kernel
theorem w5 : (ordR 5 (upR 5)).all goodW = true := by decide +kernel
theorem w6 : (ordR 6 (upR 6)).all goodW = true := by decide +kernel
theorem good_tide {n : Nat} {l : List Int} (h0 : 1 ≤ n) (h1 : n ≤ 6) (h : PermR n l) : goodW l = true := by
  have h4 := w1to4
  simp only [Bool.and_eq_true] at h4
  have key : (ordR n (upR n)).all goodW = true := by
    obtain rfl | rfl | rfl | rfl | rfl | rfl : n = 1 ∨ n = 2 ∨ n = 3 ∨ n = 4 ∨ n = 5 ∨ n = 6 := by omega
    · exact h4.1.1.1
    · exact h4.1.1.2
    · exact h4.1.2
    · exact h4.2
    · exact w5
    · exact w6
  exact List.all_eq_true.1 key l (ordR_mem upR_len h.p)
end Go.Proofs.YtlibemgaepkceaaGreatDoor
