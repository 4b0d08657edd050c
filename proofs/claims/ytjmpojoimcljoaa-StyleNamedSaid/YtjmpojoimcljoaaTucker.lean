/-
  WHAT IS PROVED HERE: a plain law on orders: where of any three different members one parts the other two, there is an order in which whoever stands
  between two parts them.
-/
import Derived.Test.YtjmpojoimcljoaaWk3
namespace Go.Proofs.Ytjmpojoimcljoaa

/-- `J c a b`: one comes from `a` to `b` past `c`. -/
structure Jo (J : Int → Int → Int → Prop) : Prop where
  refl : ∀ c a, J c a a
  symm : ∀ c a b, J c a b → J c b a
  trans : ∀ c a b d, J c a b → J c b d → J c a d
  via : ∀ c a b d, J c a b → J d a b ∨ J c a d

def Free (J : Int → Int → Int → Prop) (X : List Int) : Prop := ∀ a ∈ X, ∀ b ∈ X, ∀ c ∈ X, a ≠ b → b ≠ c → a ≠ c → ¬ (J a b c ∧ J b c a ∧ J c a b)
def Ordd (J : Int → Int → Int → Prop) (Y : List Int) : Prop := ∀ x y z, [x, y, z].Sublist Y → ¬ J y x z

theorem sub3 {x y z : Int} {A B : List Int} (h : [x, y, z].Sublist (A ++ B)) :
    [x, y, z].Sublist A ∨ ([x, y].Sublist A ∧ z ∈ B) ∨ (x ∈ A ∧ [y, z].Sublist B) ∨ [x, y, z].Sublist B := by
  obtain ⟨l1, l2, e, h1, h2⟩ := List.sublist_append_iff.1 h
  match l1, e with
  | [], e => cases e; exact .inr (.inr (.inr h2))
  | [_], e => simp only [List.cons_append, List.nil_append, List.cons.injEq] at e; obtain ⟨rfl, rfl⟩ := e; exact .inr (.inr (.inl ⟨h1.subset (by simp), h2⟩))
  | [_, _], e => simp only [List.cons_append, List.nil_append, List.cons.injEq] at e; obtain ⟨rfl, rfl, rfl⟩ := e; exact .inr (.inl ⟨h1, h2.subset (by simp)⟩)
  | [_, _, _], e => simp only [List.cons_append, List.nil_append, List.cons.injEq] at e; obtain ⟨rfl, rfl, rfl, rfl⟩ := e; exact .inl h1
  | _ :: _ :: _ :: _ :: _, e => simp at e

theorem sub2 {x y : Int} {A B : List Int} (h : [x, y].Sublist (A ++ B)) : [x, y].Sublist A ∨ (x ∈ A ∧ y ∈ B) ∨ [x, y].Sublist B := by
  obtain ⟨l1, l2, e, h1, h2⟩ := List.sublist_append_iff.1 h
  match l1, e with
  | [], e => cases e; exact .inr (.inr h2)
  | [_], e => simp only [List.cons_append, List.nil_append, List.cons.injEq] at e; obtain ⟨rfl, rfl⟩ := e; exact .inr (.inl ⟨h1.subset (by simp), h2.subset (by simp)⟩)
  | [_, _], e => simp only [List.cons_append, List.nil_append, List.cons.injEq] at e; obtain ⟨rfl, rfl, rfl⟩ := e; exact .inl h1
  | _ :: _ :: _ :: _, e => simp at e

theorem ne_of_sub2 {x y : Int} {A : List Int} (hn : A.Nodup) (h : [x, y].Sublist A) : x ≠ y := by
  have := h.nodup hn
  simpa using this

theorem most {α : Type} (P : α → Prop) (f : α → Nat) (N : Nat) (hN : ∀ x, P x → f x ≤ N) (h : ∃ x, P x) : ∃ x, P x ∧ ∀ y, P y → f y ≤ f x := by
  obtain ⟨x, hx⟩ := h
  suffices H : ∀ k x, P x → N - f x ≤ k → ∃ x, P x ∧ ∀ y, P y → f y ≤ f x from H _ x hx (Nat.le_refl _)
  intro k
  induction k with
  | zero =>
    intro x hx hk
    refine ⟨x, hx, fun y hy => ?_⟩
    have := hN y hy; omega
  | succ k ih =>
    intro x hx hk
    by_cases hq : ∀ y, P y → f y ≤ f x
    · exact ⟨x, hx, hq⟩
    · obtain ⟨y, hy⟩ := Classical.not_forall.1 hq
      obtain ⟨hy, hlt⟩ := Classical.not_imp.1 hy
      have := hN y hy
      exact ih y hy (by omega)

theorem filter_le {α : Type} (p q : α → Bool) : ∀ (X : List α), (∀ x ∈ X, p x = true → q x = true) → (X.filter p).length ≤ (X.filter q).length
  | [], _ => by simp
  | x :: X, h => by
    have ih := filter_le p q X fun y hy => h y (List.mem_cons_of_mem _ hy)
    have hx := h x List.mem_cons_self
    simp only [List.filter_cons]
    split <;> split <;> simp_all <;> omega

theorem filter_eq_of_le {α : Type} (p q : α → Bool) : ∀ (X : List α), (∀ x ∈ X, p x = true → q x = true) → (X.filter q).length ≤ (X.filter p).length → ∀ x ∈ X, q x = true → p x = true
  | [], _, _, _, hx, _ => by simp at hx
  | y :: X, h, hl, x, hx, hq => by
    have ht : ∀ z ∈ X, p z = true → q z = true := fun z hz => h z (List.mem_cons_of_mem _ hz)
    have hy := h y List.mem_cons_self
    have hle := filter_le p q X ht
    simp only [List.filter_cons] at hl
    by_cases hpy : p y = true
    · have hqy := hy hpy
      simp only [hpy, hqy, if_true, List.length_cons] at hl
      rcases List.mem_cons.1 hx with rfl | hx
      · exact hpy
      · exact filter_eq_of_le p q X ht (by omega) x hx hq
    · by_cases hqy : q y = true
      · simp only [hpy, hqy, if_true, List.length_cons] at hl
        simp at hl; omega
      · simp only [hpy, hqy] at hl
        rcases List.mem_cons.1 hx with rfl | hx
        · exact absurd hq hqy
        · exact filter_eq_of_le p q X ht (by simpa using hl) x hx hq

section
variable {J : Int → Int → Int → Prop} (hJ : Jo J)
include hJ

/-- A member behind which no other one comes, on the way to `p`. -/
theorem topOf {p : Int} : ∀ (X : List Int), X ≠ [] → (∀ a ∈ X, ∀ b ∈ X, J p a b) → p ∉ X → Free J (p :: X) → ∃ m ∈ X, ∀ k ∈ X, k ≠ m → ¬ J m k p
  | [], h, _, _, _ => absurd rfl h
  | [a], _, _, _, _ => ⟨a, by simp, fun k hk hne => absurd (by simpa using hk) hne⟩
  | a :: b :: X, _, he, hp, hf => by
    have sub : ∀ x, x ∈ p :: b :: X → x ∈ p :: a :: b :: X := fun x hx => by
      rcases List.mem_cons.1 hx with rfl | h
      · exact List.mem_cons_self
      · exact List.mem_cons_of_mem _ (List.mem_cons_of_mem _ h)
    obtain ⟨m, hm, hmax⟩ := topOf (b :: X) (by simp) (fun x hx y hy => he x (List.mem_cons_of_mem _ hx) y (List.mem_cons_of_mem _ hy)) (fun h => hp (List.mem_cons_of_mem _ h))
      (fun x hx y hy z hz => hf x (sub x hx) y (sub y hy) z (sub z hz))
    have hm' : m ∈ a :: b :: X := List.mem_cons_of_mem _ hm
    -- no two come behind one another
    have two : ∀ x ∈ a :: b :: X, ∀ y ∈ a :: b :: X, x ≠ y → J x y p → J y x p → False := fun x hx y hy hne h1 h2 =>
      hf x (List.mem_cons_of_mem _ hx) y (List.mem_cons_of_mem _ hy) p List.mem_cons_self hne (fun e => hp (e ▸ hy)) (fun e => hp (e ▸ hx)) ⟨h1, hJ.symm _ _ _ h2, he x hx y hy⟩
    by_cases hma : a ≠ m ∧ J m a p
    · refine ⟨a, by simp, fun k hk hne h => ?_⟩
      rcases List.mem_cons.1 hk with rfl | hk'
      · exact hne rfl
      · by_cases hkm : k = m
        · exact two m hm' a (by simp) (fun e => hma.1 e.symm) hma.2 (hkm ▸ h)
        · rcases hJ.via a k p m h with h1 | h1
          · exact hmax k hk' hkm h1
          · exact two m hm' a (by simp) (fun e => hma.1 e.symm) hma.2 (hJ.trans _ _ _ _ (hJ.symm _ _ _ h1) h)
    · refine ⟨m, hm', fun k hk hne h => ?_⟩
      rcases List.mem_cons.1 hk with rfl | hk'
      · exact hma ⟨hne, h⟩
      · exact hmax k hk' hne h

open Classical in
theorem bothOrders (n : Nat) :
    (∀ X : List Int, 2 * X.length ≤ n → X.Nodup → Free J X → ∃ Y, Y.Perm X ∧ Ordd J Y) ∧
    (∀ (X : List Int) (p : Int), 2 * X.length + 1 ≤ n → X.Nodup → p ∉ X → (∀ a ∈ X, ∀ b ∈ X, J p a b) → Free J (p :: X) → ∃ Y, Y.Perm X ∧ Ordd J (Y ++ [p])) := by
  induction n with
  | zero =>
    refine ⟨fun X h _ _ => ⟨[], ?_, fun x y z hs => by simp at hs⟩, fun X p h => by omega⟩
    have : X = [] := List.eq_nil_of_length_eq_zero (by omega)
    rw [this]
  | succ n ih =>
    obtain ⟨ihU, ihQ⟩ := ih
    refine ⟨fun X hl hn hf => ?_, fun X p hl hn hp he hf => ?_⟩
    · -- without an end
      by_cases hsmall : X.length ≤ 1
      · refine ⟨X, .refl _, fun x y z hs => ?_⟩
        have := hs.length_le; simp at this; omega
      · obtain ⟨c0, k0, hc0, hk0, hne0⟩ : ∃ c k, c ∈ X ∧ k ∈ X ∧ c ≠ k := by
          match X, hsmall, hn with
          | a :: b :: X, _, hn => exact ⟨a, b, by simp, by simp, fun e => by simp [e] at hn⟩
          | [a], h, _ => simp at h
          | [], h, _ => simp at h
        obtain ⟨⟨c, k⟩, ⟨hc, hk, hne⟩, hmax⟩ := most (fun q : Int × Int => q.1 ∈ X ∧ q.2 ∈ X ∧ q.1 ≠ q.2) (fun q => (X.filter fun z => decide (z ≠ q.1 ∧ J q.1 q.2 z)).length) X.length
          (fun q _ => List.length_filter_le _ _) ⟨(c0, k0), hc0, hk0, hne0⟩
        simp only at hmax hc hk hne
        let p1 : Int → Bool := fun z => decide (z ≠ c ∧ J c k z)
        let K := X.filter p1
        let M := X.filter fun z => !p1 z
        have hperm : (K ++ M).Perm X := List.filter_append_perm p1 X
        have inK : ∀ z, z ∈ K ↔ z ∈ X ∧ z ≠ c ∧ J c k z := fun z => by simp [K, p1, List.mem_filter]
        have inM : ∀ z, z ∈ M ↔ z ∈ X ∧ ¬ (z ≠ c ∧ J c k z) := fun z => by
          have : z ∈ M ↔ z ∈ X ∧ (!p1 z) = true := List.mem_filter
          rw [this]; simp only [p1, Bool.not_eq_true', decide_eq_false_iff_not]
        have hkK : k ∈ K := (inK k).2 ⟨hk, fun e => hne e.symm, hJ.refl _ _⟩
        have hcM : c ∈ M := (inM c).2 ⟨hc, fun h => h.1 rfl⟩
        have hlen := hperm.length_eq
        rw [List.length_append] at hlen
        have hK1 : 1 ≤ K.length := List.length_pos_of_mem hkK
        have hM1 : 1 ≤ M.length := List.length_pos_of_mem hcM
        -- K is one class, past each of M
        have one : ∀ x ∈ M, ∀ a ∈ K, ∀ b ∈ K, J x a b := fun x hx a ha b hb => by
          have ha' := (inK a).1 ha; have hb' := (inK b).1 hb
          have hab : J c a b := hJ.trans _ _ _ _ (hJ.symm _ _ _ ha'.2.2) hb'.2.2
          by_cases hxc : x = c
          · rw [hxc]; exact hab
          · rcases hJ.via c a b x hab with h | h
            · exact h
            · exact absurd ⟨hxc, hJ.trans _ _ _ _ ha'.2.2 h⟩ ((inM x).1 hx).2
        have apart : ∀ x ∈ M, ∀ z ∈ M, z ≠ x → ∀ a ∈ K, ¬ J x a z := fun x hx z hz hzx a ha h => by
          have hzX := ((inM z).1 hz).1
          have hxX := ((inM x).1 hx).1
          have hxk : x ≠ k := fun e => ((inM x).1 hx).2 ((inK x).1 (e ▸ hkK)).2
          have hle := hmax (x, k) ⟨hxX, hk, hxk⟩
          simp only at hle
          have := filter_eq_of_le p1 (fun z => decide (z ≠ x ∧ J x k z)) X (fun y hy hpy => by
            have hyK : y ∈ K := List.mem_filter.2 ⟨hy, hpy⟩
            exact decide_eq_true ⟨fun e => ((inM x).1 hx).2 (e ▸ (inK y).1 hyK).2, one x hx k hkK y hyK⟩) hle z hzX
            (decide_eq_true ⟨hzx, hJ.trans _ _ _ _ (one x hx k hkK a ha) h⟩)
          exact ((inM z).1 hz).2 (of_decide_eq_true this)
        have hnK : K.Nodup := hn.sublist List.filter_sublist
        have hnM : M.Nodup := hn.sublist List.filter_sublist
        obtain ⟨YK, hYK, oK⟩ := ihQ K c (by omega) hnK (fun h => ((inK c).1 h).2.1 rfl) (one c hcM)
          (fun x hx y hy z hz => hf x (by rcases List.mem_cons.1 hx with rfl | h; exact hc; exact ((inK x).1 h).1) y (by rcases List.mem_cons.1 hy with rfl | h; exact hc; exact ((inK y).1 h).1) z (by rcases List.mem_cons.1 hz with rfl | h; exact hc; exact ((inK z).1 h).1))
        obtain ⟨YM, hYM, oM⟩ := ihU M (by omega) hnM (fun x hx y hy z hz => hf x ((inM x).1 hx).1 y ((inM y).1 hy).1 z ((inM z).1 hz).1)
        have mK : ∀ x, x ∈ YK → x ∈ K := fun x h => hYK.mem_iff.1 h
        have mM : ∀ x, x ∈ YM → x ∈ M := fun x h => hYM.mem_iff.1 h
        refine ⟨YK ++ YM, (hYK.append hYM).trans hperm, fun x y z hs hJx => ?_⟩
        rcases sub3 hs with h | ⟨h, hz⟩ | ⟨hx, h⟩ | h
        · exact oK x y z (h.trans (List.sublist_append_left _ _)) hJx
        · have hnc : ¬ J y x c := oK x y c (by have := h.append (List.Sublist.refl [c]); simpa using this)
          have hxK := mK x (h.subset (by simp))
          by_cases hzc : z = c
          · exact hnc (hzc ▸ hJx)
          · rcases hJ.via y x z c hJx with h1 | h1
            · exact ((inM z).1 (mM z hz)).2 ⟨hzc, hJ.trans _ _ _ _ ((inK x).1 hxK).2.2 h1⟩
            · exact hnc h1
        · exact apart y (mM y (h.subset (by simp))) z (mM z (h.subset (by simp))) (fun e => ne_of_sub2 (hYM.nodup_iff.2 hnM) h e.symm) x (mK x hx) hJx
        · exact oM x y z h hJx
    · -- with an end
      by_cases hX : X = []
      · subst hX; exact ⟨[], .refl _, fun x y z hs => by have := hs.length_le; simp at this⟩
      let pS : Int → Bool := fun s => decide (∀ k ∈ X, k ≠ s → ¬ J s k p)
      let S := X.filter pS
      let Lo := X.filter fun s => !pS s
      have hperm : (Lo ++ S).Perm X := List.perm_append_comm.trans (List.filter_append_perm pS X)
      have inS : ∀ s, s ∈ S ↔ s ∈ X ∧ ∀ k ∈ X, k ≠ s → ¬ J s k p := fun s => by simp [S, pS, List.mem_filter]
      have inL : ∀ s, s ∈ Lo ↔ s ∈ X ∧ ¬ ∀ k ∈ X, k ≠ s → ¬ J s k p := fun s => by
        have : s ∈ Lo ↔ s ∈ X ∧ (!pS s) = true := List.mem_filter
        rw [this]; simp only [pS, Bool.not_eq_true', decide_eq_false_iff_not]
      obtain ⟨m, hm, hmm⟩ := topOf hJ X hX he hp hf
      have hmS : m ∈ S := (inS m).2 ⟨hm, hmm⟩
      have hlen := hperm.length_eq
      rw [List.length_append] at hlen
      have hS1 : 1 ≤ S.length := List.length_pos_of_mem hmS
      have hnS : S.Nodup := hn.sublist List.filter_sublist
      have hnL : Lo.Nodup := hn.sublist List.filter_sublist
      have sX : ∀ s ∈ S, s ∈ X := fun s h => ((inS s).1 h).1
      have lX : ∀ s ∈ Lo, s ∈ X := fun s h => ((inL s).1 h).1
      -- each of S comes behind each of Lo
      have up : ∀ y ∈ Lo, ∀ s ∈ S, J y s p := fun y hy s hs => by
        obtain ⟨k, hk⟩ := Classical.not_forall.1 ((inL y).1 hy).2
        obtain ⟨hkX, hk⟩ := Classical.not_imp.1 hk
        obtain ⟨hky, hk⟩ := Classical.not_imp.1 hk
        have hk := Classical.not_not.1 hk
        by_cases hks : k = s
        · exact hks ▸ hk
        · rcases hJ.via y k p s hk with h | h
          · exact absurd h (((inS s).1 hs).2 k hkX hks)
          · exact hJ.trans _ _ _ _ (hJ.symm _ _ _ h) hk
      by_cases hL : Lo = []
      · -- S is all
        have hSX : S.length = X.length := by rw [hL] at hlen; simpa using hlen
        obtain ⟨Y, hY, oY⟩ := ihU X (by omega) hn (fun x hx y hy z hz => hf x (List.mem_cons_of_mem _ hx) y (List.mem_cons_of_mem _ hy) z (List.mem_cons_of_mem _ hz))
        refine ⟨Y, hY, fun x y z hs hJx => ?_⟩
        rcases sub3 hs with h | ⟨h, hz⟩ | ⟨hx, h⟩ | h
        · exact oY x y z h hJx
        · have hzp : z = p := by simpa using hz
          have hxX : x ∈ X := hY.mem_iff.1 (h.subset (by simp))
          have hyX : y ∈ X := hY.mem_iff.1 (h.subset (by simp))
          have hyS : y ∈ S := by
            have : y ∈ Lo ++ S := hperm.mem_iff.2 hyX
            rw [hL] at this; simpa using this
          exact ((inS y).1 hyS).2 x hxX (ne_of_sub2 (hY.nodup_iff.2 hn) h) (hzp ▸ hJx)
        · have := h.length_le; simp at this
        · have := h.length_le; simp at this
      · obtain ⟨lo, hlo, hlm⟩ := topOf hJ Lo hL (fun a ha b hb => he a (lX a ha) b (lX b hb)) (fun h => hp (lX p h))
          (fun x hx y hy z hz => hf x (by rcases List.mem_cons.1 hx with rfl | h; simp; exact List.mem_cons_of_mem _ (lX x h)) y (by rcases List.mem_cons.1 hy with rfl | h; simp; exact List.mem_cons_of_mem _ (lX y h)) z (by rcases List.mem_cons.1 hz with rfl | h; simp; exact List.mem_cons_of_mem _ (lX z h)))
        have hL1 : 1 ≤ Lo.length := List.length_pos_of_mem hlo
        obtain ⟨YL, hYL, oL⟩ := ihQ Lo p (by omega) hnL (fun h => hp (lX p h)) (fun a ha b hb => he a (lX a ha) b (lX b hb))
          (fun x hx y hy z hz => hf x (by rcases List.mem_cons.1 hx with rfl | h; simp; exact List.mem_cons_of_mem _ (lX x h)) y (by rcases List.mem_cons.1 hy with rfl | h; simp; exact List.mem_cons_of_mem _ (lX y h)) z (by rcases List.mem_cons.1 hz with rfl | h; simp; exact List.mem_cons_of_mem _ (lX z h)))
        have hloS : lo ∉ S := fun h => ((inL lo).1 hlo).2 ((inS lo).1 h).2
        obtain ⟨YS, hYS, oS⟩ := ihQ S lo (by omega) hnS hloS (fun a ha b hb => hJ.trans _ _ _ _ (up lo hlo a ha) (hJ.symm _ _ _ (up lo hlo b hb)))
          (fun x hx y hy z hz => hf x (by rcases List.mem_cons.1 hx with rfl | h; exact List.mem_cons_of_mem _ (lX _ hlo); exact List.mem_cons_of_mem _ (sX x h)) y (by rcases List.mem_cons.1 hy with rfl | h; exact List.mem_cons_of_mem _ (lX _ hlo); exact List.mem_cons_of_mem _ (sX y h)) z (by rcases List.mem_cons.1 hz with rfl | h; exact List.mem_cons_of_mem _ (lX _ hlo); exact List.mem_cons_of_mem _ (sX z h)))
        have mL : ∀ x, x ∈ YL → x ∈ Lo := fun x h => hYL.mem_iff.1 h
        have mS : ∀ x, x ∈ YS.reverse → x ∈ S := fun x h => hYS.mem_iff.1 (List.mem_reverse.1 h)
        have hSp : (YS.reverse).Perm S := (List.reverse_perm YS).trans hYS
        have rev2 : ∀ {x y}, [x, y].Sublist YS.reverse → [y, x].Sublist YS := fun h => by have := h.reverse; simpa using this
        have rev3 : ∀ {x y z}, [x, y, z].Sublist YS.reverse → [z, y, x].Sublist YS := fun h => by have := h.reverse; simpa using this
        refine ⟨YL ++ YS.reverse, (hYL.append hSp).trans hperm, fun x y z hs hJx => ?_⟩
        rw [List.append_assoc] at hs
        rcases sub3 hs with h | ⟨h, hz⟩ | ⟨hx, h⟩ | h
        · exact oL x y z (h.trans (List.sublist_append_left _ _)) hJx
        · have hnp : ¬ J y x p := oL x y p (by have := h.append (List.Sublist.refl [p]); simpa using this)
          rcases List.mem_append.1 hz with hz | hz
          · exact hnp (hJ.trans _ _ _ _ hJx (up y (mL y (h.subset (by simp))) z (mS z hz)))
          · exact hnp ((by simpa using hz : z = p) ▸ hJx)
        · rcases sub2 h with h | ⟨hy, hz⟩ | h
          · have h1 : ¬ J y z lo := oS z y lo (by have := (rev2 h).append (List.Sublist.refl [lo]); simpa using this)
            by_cases hxl : x = lo
            · exact h1 (hxl ▸ hJ.symm _ _ _ hJx)
            · rcases hJ.via y z x lo (hJ.symm _ _ _ hJx) with h2 | h2
              · exact hlm x (mL x hx) hxl (hJ.trans _ _ _ _ (hJ.symm _ _ _ h2) (up lo hlo z (mS z (h.subset (by simp)))))
              · exact h1 h2
          · have hzp : z = p := by simpa using hz
            have hyS := mS y hy
            have hxL := mL x hx
            exact ((inS y).1 hyS).2 x (lX x hxL) (fun e => ((inL x).1 hxL).2 (e ▸ ((inS y).1 hyS).2)) (hzp ▸ hJx)
          · have := h.length_le; simp at this
        · rcases sub3 h with h | ⟨h, hz⟩ | ⟨hx, h⟩ | h
          · exact oS z y x ((rev3 h).trans (List.sublist_append_left _ _)) (hJ.symm _ _ _ hJx)
          · have hzp : z = p := by simpa using hz
            have hyS := mS y (h.subset (by simp)); have hxS := mS x (h.subset (by simp))
            exact ((inS y).1 hyS).2 x (sX x hxS) (ne_of_sub2 (hSp.nodup_iff.2 hnS) h) (hzp ▸ hJx)
          · have := h.length_le; simp at this
          · have := h.length_le; simp at this

/-- The law of the stage: where no three are apart there is an order. -/
theorem tucker (X : List Int) (hn : X.Nodup) (hf : Free J X) : ∃ Y, Y.Perm X ∧ Ordd J Y := (bothOrders hJ (2 * X.length)).1 X (Nat.le_refl _) hn hf
end
end Go.Proofs.Ytjmpojoimcljoaa
