/-
  WHAT IS PROVED HERE, TEXT BY TEXT (several texts of one prover, joined to one file; the conditions stand in each statement):
  * WHAT IS PROVED HERE: plain laws of ways between two places, and of trees of joints: joints that are taken, the lowest first, connect what ways connect. No program in sight. Conditions stand in each statement.
  * WHAT IS PROVED HERE: plain laws of labels: what is connected has the same one. No program in sight. Conditions stand in each statement.
  * WHAT IS PROVED HERE: plain laws of the neighbours that have come so far. No program in sight. Conditions stand in each statement.
  * WHAT IS PROVED HERE: plain laws of sills that are found place by place, in lists. No program in sight. Conditions stand in each statement.
  * WHAT IS PROVED HERE: plain laws of comparing two rows of numbers. No program in sight.
  * WHAT IS PROVED HERE: strings that are gone through, rune by rune. Conditions stand in each statement; they hold over any program.
  * WHAT IS PROVED HERE: a variable that holds a string and a table of pairs, 13 times 13: what is read from it, what it holds after a pair is written. Conditions stand in each statement; they hold over any program.
  * WHAT IS PROVED HERE: a string's runes as a slice of the call's own, and a string made of a slice of runes. Conditions stand in each statement; they hold over any program.
  * WHAT IS PROVED HERE: a range over a function: the record of the loop and the block for deferred calls are objects of the call; the body is walked once; what an iterator promises. Conditions stand in each statement; they hold over any program.
  * WHAT IS PROVED HERE: an iterator calls the loop's own function. Conditions stand in each statement; they hold over any program.
  * WHAT IS PROVED HERE: objects in another order; an element of an array of numbers, at a number that is not written out. Conditions stand in each statement; they hold over any program.
  * WHAT IS PROVED HERE: a region that draws its order, over whatever class of worlds; a class of worlds that differ from one only in how much was drawn. Nothing here speaks of a program.
  * WHAT IS PROVED HERE: a slice of the call's own is written whole by a callee that sorts it. Nothing here speaks of a program.
  * WHAT IS PROVED HERE: queues: the tail of a slice of the call's own, which is appended to. Nothing here speaks of a program.
  * WHAT IS PROVED HERE: plain laws of places that are gone through from a queue. No program in sight.
  * WHAT IS PROVED HERE: plain laws of the shortest ways to the river, found from the river on, one place after the other. No program in sight.
  * WHAT IS PROVED HERE: plain laws of all joints, in their order. No program in sight.
  * WHAT IS PROVED HERE: plain laws of places that are put together, each under another one; and of the joints that are taken. No program in sight.
  * WHAT IS PROVED HERE: a region of all orders, where what yields its value in every world that keeps some objects is taken first. Nothing here speaks of a program.
  * WHAT IS PROVED HERE: plain laws of shores that are made of numbers. No program in sight.
  * WHAT IS PROVED HERE: plain laws of shores whose columns are in the opposite order. No program in sight.
  * WHAT IS PROVED HERE: plain laws of pools, one after another: where each place is. No program in sight.
  * WHAT IS PROVED HERE: plain laws of ways, basins and distances that are found by going over all neighbours many times. No program in sight.
  * WHAT IS PROVED HERE: plain laws of trees: how many joints they have, the highest joint between two, and the lowest ways found by trying all places in between. No program in sight.
  * WHAT IS PROVED HERE: plain laws of lowest ways between neighbours. No program in sight.
  * WHAT IS PROVED HERE: slices of slices of the call's own: the rows are objects of the call as well, and can be written, or turned into other ones. Conditions stand in each statement; they hold over any program.
  * DERIVED: THE SHELF's CONTRACTS AT THIS DUMP, IN PLAIN WORDS (tools/lay-plain.mjs out of 'TryShelf.lean', which tools/lay-shelf.mjs wrote): THE SAME DECLARATIONS UNDER THE SAME NAMES: 'import', 'namespace', 'open', 'def', 'theorem' AND NOTHING ELSE: no command of the shelf's: FOR A HAND-IN. Each laying: the table of numbers ('.._ren') and one theorem, a field a fact of the dump's own or the kernel's comparison; each contract: ONE APPLICATION.
-/
import Derived.Test.YtjhimoeodkaihaaU1
import Derived.Lib.OthersKept
import Derived.Scope
import Derived.Laws.Cover4
import Derived.Laws.IdiomStrings
import Derived.RangeFuncRecord
import Derived.RangeFuncSeq
import Derived.Sort.Grow
import Derived.Deep.Draws
import Derived.Sort.Row
import Derived.Shelf.GgSortFunc.InsertionK
import Derived.Shelf.Sort.Plain
import Derived.Shelf.SlSortCmp.WholeK
import Derived.Shelf.SlSortCmp.NoneTotal
import Derived.Ground.SlsfProg
import Derived.Test.YtjhimoeodkaihaaProg

set_option linter.unusedVariables false
set_option linter.unusedSimpArgs false

namespace Go.Proofs.Ytjhimoeodkaihaa
open Go.Wk
set_option linter.unusedVariables false
def nearB (C n a b : Int) : Bool := if a = n ∨ b = n then decide (a ≠ b) && decide (n - C ≤ min a b) else adjB C a b
def highV (H : List Int) (x : Int) : Int := if x = (H.length : Int) then 0 else ix 0 H x
def lowB (H : List Int) (h x : Int) : Bool := decide (highV H x ≤ h)
def gN (C : Int) (H : List Int) (h : Int) : RelE := rM (nearB C H.length) (lowB H h)
def ledN (C : Int) (H : List Int) (h a b : Int) : Bool := ledB (gN C H h) (H.length + 1) a b
def betwV (C : Int) (H : List Int) (a b : Int) : Int := ((rng (highV H a) 30).find? fun h => ledN C H h a b).getD 30
def betwX (R C : Int) (H : List Int) (a b : Int) : Int := if checkS R C H = 0 ∧ ¬ ((0 ≤ a ∧ a ≤ (H.length : Int)) ∧ (0 ≤ b ∧ b ≤ (H.length : Int))) then 2 else checkS R C H
def betwE (R C : Int) (H : List Int) (a b : Int) : Int := if betwX R C H a b = 0 then betwV C H a b else 0
section
variable {C : Int} {H : List Int}
theorem near_symm (n a b : Int) : nearB C n a b = nearB C n b a := by
  rw [nearB, nearB]
  by_cases h : a = n ∨ b = n
  · rw [if_pos h, if_pos h.symm, Int.min_comm, show decide (a ≠ b) = decide (b ≠ a) from decide_eq_decide.2 ⟨fun q e => q e.symm, fun q e => q e.symm⟩]
  · rw [if_neg h, if_neg (fun q => h q.symm), adj_symm]
theorem high_bd {R : Int} (hk : SOK R C H) {x : Int} (hx : 0 ≤ x ∧ x ≤ (H.length : Int)) : 0 ≤ highV H x ∧ highV H x ≤ 30 := by
  rw [highV]; split
  · omega
  · exact hk.at hx.1 (by omega)
theorem betw_found {h a b : Int} (h0 : highV H a ≤ h) (h1 : h < 30) (hlow : ∀ k, highV H a ≤ k → k < h → ledN C H k a b = false) (hf : ledN C H h a b = true) : betwV C H a b = h := by
  rw [betwV]
  cases hq : (rng (highV H a) 30).find? fun h => ledN C H h a b with
  | none => exact absurd hf (List.find?_eq_none.1 hq h (rng_mem.2 ⟨h0, h1⟩))
  | some s =>
    obtain ⟨hp, us, bs, he, hl⟩ := List.find?_eq_some_iff_append.1 hq
    show s = h
    have hs : s ∈ rng (highV H a) 30 := by rw [he]; simp
    have hs' := rng_mem.1 hs
    rcases Int.lt_trichotomy s h with k | k | k
    · rw [hlow s hs'.1 k] at hp; cases hp
    · exact k
    · exfalso
      have hm : h ∈ rng (highV H a) 30 := rng_mem.2 ⟨h0, h1⟩
      have hsrt := rng_asc (highV H a) 30
      rw [he] at hm hsrt
      rcases List.mem_append.1 hm with hm | hm
      · have := hl h hm; rw [hf] at this; cases this
      · rcases List.mem_cons.1 hm with e | hm
        · omega
        · have := (List.pairwise_cons.1 (List.pairwise_append.1 hsrt).2.1).1 h hm; omega
theorem betw_none {a b : Int} (hlow : ∀ k, highV H a ≤ k → k < 30 → ledN C H k a b = false) : betwV C H a b = 30 := by
  rw [betwV, List.find?_eq_none.2 fun k hk => by rw [hlow k (rng_mem.1 hk).1 (rng_mem.1 hk).2]; decide]
  rfl
theorem gN_iff {h a b : Int} : gN C H h a b = true ↔ nearB C H.length a b = true ∧ highV H a ≤ h ∧ highV H b ≤ h := by
  rw [gN, rM_iff, lowB, lowB, decide_eq_true_eq, decide_eq_true_eq]
theorem ledN_mono {h k a b : Int} (hk : h ≤ k) (ha : 0 ≤ a ∧ a < (H.length : Int) + 1) (hb : 0 ≤ b ∧ b < (H.length : Int) + 1) (hl : ledN C H h a b = true) : ledN C H k a b = true := by
  obtain ⟨d, hd⟩ := (led_rch ha hb).1 hl
  exact (led_rch ha hb).2 ⟨d, rch_monoG (fun x y hxy => by
    obtain ⟨e1, e2, e3⟩ := gN_iff.1 hxy
    exact gN_iff.2 ⟨e1, by omega, by omega⟩) d hd⟩
end
/-! ### what joints connect -/
abbrev Ends := Int × Int
def addE (E : Int → Int → Bool) (e : Ends) : Int → Int → Bool := fun x y => E x y || ((E x e.1 && E e.2 y) || (E x e.2 && E e.1 y))
def conF (l : List Ends) : Int → Int → Bool := l.foldl addE fun x y => decide (x = y)
theorem add_iff {E : Int → Int → Bool} {e : Ends} {x y : Int} : addE E e x y = true ↔ E x y = true ∨ (E x e.1 = true ∧ E e.2 y = true) ∨ (E x e.2 = true ∧ E e.1 y = true) := by
  rw [addE, Bool.or_eq_true, Bool.or_eq_true, Bool.and_eq_true, Bool.and_eq_true]
theorem con_snoc (l : List Ends) (e : Ends) : conF (l ++ [e]) = addE (conF l) e := by rw [conF, conF, List.foldl_append]; rfl
structure EqR (E : Int → Int → Bool) : Prop where
  r : ∀ x, E x x = true
  s : ∀ x y, E x y = true → E y x = true
  t : ∀ x y z, E x y = true → E y z = true → E x z = true
theorem addE_eq {E : Int → Int → Bool} (h : EqR E) (e : Ends) : EqR (addE E e) := by
  refine ⟨fun x => add_iff.2 (.inl (h.r x)), fun x y hxy => ?_, fun x y z hxy hyz => ?_⟩
  · rcases add_iff.1 hxy with q | ⟨q1, q2⟩ | ⟨q1, q2⟩
    · exact add_iff.2 (.inl (h.s _ _ q))
    · exact add_iff.2 (.inr (.inr ⟨h.s _ _ q2, h.s _ _ q1⟩))
    · exact add_iff.2 (.inr (.inl ⟨h.s _ _ q2, h.s _ _ q1⟩))
  · rcases add_iff.1 hxy with q | ⟨q1, q2⟩ | ⟨q1, q2⟩
    · rcases add_iff.1 hyz with p | ⟨p1, p2⟩ | ⟨p1, p2⟩
      · exact add_iff.2 (.inl (h.t _ _ _ q p))
      · exact add_iff.2 (.inr (.inl ⟨h.t _ _ _ q p1, p2⟩))
      · exact add_iff.2 (.inr (.inr ⟨h.t _ _ _ q p1, p2⟩))
    · rcases add_iff.1 hyz with p | ⟨p1, p2⟩ | ⟨p1, p2⟩
      · exact add_iff.2 (.inr (.inl ⟨q1, h.t _ _ _ q2 p⟩))
      · exact add_iff.2 (.inr (.inl ⟨q1, p2⟩))
      · exact add_iff.2 (.inl (h.t _ _ _ q1 p2))
    · rcases add_iff.1 hyz with p | ⟨p1, p2⟩ | ⟨p1, p2⟩
      · exact add_iff.2 (.inr (.inr ⟨q1, h.t _ _ _ q2 p⟩))
      · exact add_iff.2 (.inl (h.t _ _ _ q1 p2))
      · exact add_iff.2 (.inr (.inr ⟨q1, p2⟩))
theorem fold_eq : ∀ (l : List Ends) (E : Int → Int → Bool), EqR E → EqR (l.foldl addE E)
  | [], _, h => h
  | e :: l, E, h => fold_eq l _ (addE_eq h e)
theorem con_eq (l : List Ends) : EqR (conF l) := fold_eq l _ ⟨fun x => decide_eq_true rfl, fun x y h => decide_eq_true (of_decide_eq_true h).symm, fun x y z h k => decide_eq_true ((of_decide_eq_true h).trans (of_decide_eq_true k))⟩
theorem fold_mono : ∀ (l : List Ends) (E : Int → Int → Bool) {x y : Int}, E x y = true → l.foldl addE E x y = true
  | [], _, _, _, h => h
  | e :: l, E, x, y, h => fold_mono l _ (add_iff.2 (.inl h))
theorem con_app {l m : List Ends} {x y : Int} (h : conF l x y = true) : conF (l ++ m) x y = true := by
  rw [conF, List.foldl_append]; exact fold_mono m _ h
theorem con_edge {l : List Ends} {e : Ends} (h : e ∈ l) : conF l e.1 e.2 = true := by
  obtain ⟨u, v, rfl⟩ := List.append_of_mem h
  rw [show u ++ e :: v = (u ++ [e]) ++ v by simp]
  refine con_app ?_
  rw [con_snoc]
  exact add_iff.2 (.inr (.inl ⟨(con_eq u).r _, (con_eq u).r _⟩))
theorem snoc_ind {α : Type} {P : List α → Prop} (h0 : P []) (hs : ∀ l a, P l → P (l ++ [a])) (l : List α) : P l := by
  have : ∀ m : List α, P m.reverse := fun m => by
    induction m with
    | nil => exact h0
    | cons a m ih => rw [List.reverse_cons]; exact hs _ _ ih
  have h := this l.reverse
  rwa [List.reverse_reverse] at h
theorem con_least {E : Int → Int → Bool} (h : EqR E) : ∀ (l : List Ends), (∀ e ∈ l, E e.1 e.2 = true) → ∀ x y, conF l x y = true → E x y = true := by
  intro l
  induction l using snoc_ind with
  | h0 => intro _ x y hxy; rw [show x = y from of_decide_eq_true hxy]; exact h.r y
  | hs l e ih =>
    intro hl x y hxy
    have ih' := ih fun e' he' => hl e' (List.mem_append_left _ he')
    have he := hl e (by simp)
    rw [con_snoc] at hxy
    rcases add_iff.1 hxy with q | ⟨q1, q2⟩ | ⟨q1, q2⟩
    · exact ih' _ _ q
    · exact h.t _ _ _ (ih' _ _ q1) (h.t _ _ _ he (ih' _ _ q2))
    · exact h.t _ _ _ (ih' _ _ q1) (h.t _ _ _ (h.s _ _ he) (ih' _ _ q2))
/-! ### joints, the lowest first -/
structure Jt where
  a : Int
  b : Int
  h : Int
def Jt.e (j : Jt) : Ends := (j.a, j.b)
def jointI (C : Int) (H : List Int) (a b : Int) : Int := if b = (H.length : Int) then (if lastB C H a = true then ix 0 H a else -1) else if a < b ∧ adjB C a b = true then max (ix 0 H a) (ix 0 H b) else -1
def jB (C : Int) (H : List Int) (h a b : Int) : List Jt := if jointI C H a b = h then [⟨a, b, h⟩] else []
def jRow (C : Int) (H : List Int) (h a b : Int) : List Jt := (rng b (H.length + 1)).flatMap (jB C H h a)
def jLev (C : Int) (H : List Int) (h a : Int) : List Jt := (rng a H.length).flatMap fun a => jRow C H h a 0
def jAll (C : Int) (H : List Int) (h : Int) : List Jt := (rng h 31).flatMap fun h => jLev C H h 0
def kstep (out : List Jt) (j : Jt) : List Jt := if conF (out.map Jt.e) j.a j.b = true then out else out ++ [j]
def kru (l : List Jt) : List Jt := l.foldl kstep []
def treeV (C : Int) (H : List Int) : List Ends := (kru (jAll C H 0)).map Jt.e
def treeE (R C : Int) (H : List Int) : List Ends := if checkS R C H = 0 then treeV C H else []
section
variable {C : Int} {H : List Int}
theorem mem_jAll {j : Jt} : j ∈ jAll C H 0 ↔ (0 ≤ j.h ∧ j.h < 31) ∧ (0 ≤ j.a ∧ j.a < (H.length : Int)) ∧ (0 ≤ j.b ∧ j.b < (H.length : Int) + 1) ∧ jointI C H j.a j.b = j.h := by
  rw [jAll, List.mem_flatMap]
  constructor
  · rintro ⟨h, hh, hj⟩
    rw [jLev, List.mem_flatMap] at hj
    obtain ⟨a, ha, hj⟩ := hj
    rw [jRow, List.mem_flatMap] at hj
    obtain ⟨b, hb, hj⟩ := hj
    rw [jB] at hj
    split at hj
    · rename_i he
      rw [List.mem_singleton] at hj; subst hj
      exact ⟨rng_mem.1 hh, rng_mem.1 ha, rng_mem.1 hb, he⟩
    · cases hj
  · rintro ⟨h1, h2, h3, h4⟩
    refine ⟨j.h, rng_mem.2 h1, ?_⟩
    rw [jLev, List.mem_flatMap]
    refine ⟨j.a, rng_mem.2 h2, ?_⟩
    rw [jRow, List.mem_flatMap]
    refine ⟨j.b, rng_mem.2 h3, ?_⟩
    rw [jB, if_pos h4]; exact List.mem_singleton.2 rfl
def jlt (i j : Jt) : Prop := i.h < j.h ∨ (i.h = j.h ∧ (i.a < j.a ∨ (i.a = j.a ∧ i.b < j.b)))
theorem jAll_sorted : (jAll C H 0).Pairwise jlt := by
  refine List.pairwise_flatMap.2 ⟨fun h _ => ?_, (rng_asc 0 31).imp fun {h k} hk x hx y hy => ?_⟩
  · refine List.pairwise_flatMap.2 ⟨fun a _ => ?_, (rng_asc 0 H.length).imp fun {a c} hac x hx y hy => ?_⟩
    · refine List.pairwise_flatMap.2 ⟨fun b _ => ?_, (rng_asc 0 (H.length + 1)).imp fun {b d} hbd x hx y hy => ?_⟩
      · rw [jB]; split
        · exact List.pairwise_singleton _ _
        · exact .nil
      · rw [jB] at hx hy
        split at hx
        · split at hy
          · rw [List.mem_singleton.1 hx, List.mem_singleton.1 hy]; exact .inr ⟨rfl, .inr ⟨rfl, hbd⟩⟩
          · cases hy
        · cases hx
    · have e1 : x.h = h ∧ x.a = a := by
        rw [jRow, List.mem_flatMap] at hx
        obtain ⟨b, _, hx⟩ := hx
        rw [jB] at hx; split at hx
        · rw [List.mem_singleton.1 hx]; exact ⟨rfl, rfl⟩
        · cases hx
      have e2 : y.h = h ∧ y.a = c := by
        rw [jRow, List.mem_flatMap] at hy
        obtain ⟨b, _, hy⟩ := hy
        rw [jB] at hy; split at hy
        · rw [List.mem_singleton.1 hy]; exact ⟨rfl, rfl⟩
        · cases hy
      exact .inr ⟨by omega, .inl (by omega)⟩
  · have lev : ∀ (k : Int) (z : Jt), z ∈ jLev C H k 0 → z.h = k := by
      intro k z hz
      rw [jLev, List.mem_flatMap] at hz
      obtain ⟨a, _, hz⟩ := hz
      rw [jRow, List.mem_flatMap] at hz
      obtain ⟨b, _, hz⟩ := hz
      rw [jB] at hz; split at hz
      · rw [List.mem_singleton.1 hz]
      · cases hz
    have := lev h x hx; have := lev k y hy
    exact .inl (by omega)
theorem kru_con (l : List Jt) : ∀ x y, conF ((kru l).map Jt.e) x y = conF (l.map Jt.e) x y := by
  induction l using snoc_ind with
  | h0 => intro x y; rfl
  | hs l j ih =>
    have hk : kru (l ++ [j]) = kstep (kru l) j := by rw [kru, kru, List.foldl_append]; rfl
    intro x y
    rw [hk, kstep]
    split
    · rename_i hc
      rw [List.map_append, List.map_singleton, con_snoc, ih x y, Bool.eq_iff_iff, add_iff]
      rw [ih] at hc
      have hE := con_eq (l.map Jt.e)
      constructor
      · exact .inl
      · rintro (q | ⟨q1, q2⟩ | ⟨q1, q2⟩)
        · exact q
        · exact hE.t _ _ _ q1 (hE.t _ _ _ hc q2)
        · exact hE.t _ _ _ q1 (hE.t _ _ _ (hE.s _ _ hc) q2)
    · rw [List.map_append, List.map_append, List.map_singleton, con_snoc, con_snoc, Bool.eq_iff_iff, add_iff, add_iff]
      simp only [ih]
theorem joint_near {R : Int} (hk : SOK R C H) {a b h : Int} (ha : 0 ≤ a ∧ a < (H.length : Int)) (hb : 0 ≤ b ∧ b < (H.length : Int) + 1) (h0 : 0 ≤ h) : jointI C H a b = h → nearB C H.length a b = true ∧ max (highV H a) (highV H b) = h := by
  intro e
  rw [jointI] at e
  have hha : highV H a = ix 0 H a := by rw [highV, if_neg (by omega)]
  have hpa := hk.at ha.1 ha.2
  split at e
  · rename_i e1
    split at e
    · rename_i e2
      have hl : (H.length : Int) - C ≤ a := of_decide_eq_true e2
      refine ⟨?_, ?_⟩
      · rw [nearB, if_pos (.inr e1), Bool.and_eq_true, decide_eq_true_eq, decide_eq_true_eq]; omega
      · rw [hha, e1, show highV H (H.length : Int) = 0 by rw [highV, if_pos rfl]]; omega
    · omega
  · rename_i e1
    have hhb : highV H b = ix 0 H b := by rw [highV, if_neg e1]
    split at e
    · rename_i e2
      refine ⟨?_, by rw [hha, hhb]; exact e⟩
      rw [nearB, if_neg (by omega)]; exact e2.2
    · omega
theorem near_joint {R : Int} (hk : SOK R C H) {a b : Int} (ha : 0 ≤ a ∧ a < (H.length : Int) + 1) (hb : 0 ≤ b ∧ b < (H.length : Int) + 1) (hab : a < b) (hn : nearB C H.length a b = true) : jointI C H a b = max (highV H a) (highV H b) := by
  have hha : highV H a = ix 0 H a := by rw [highV, if_neg (by omega)]
  have hpa := hk.at ha.1 (show a < H.length by omega)
  rw [jointI]
  rw [nearB] at hn
  by_cases hbn : b = (H.length : Int)
  · rw [if_pos (.inr hbn), Bool.and_eq_true, decide_eq_true_eq, decide_eq_true_eq] at hn
    rw [if_pos hbn, if_pos (show lastB C H a = true from decide_eq_true (by omega)), hha, show highV H b = 0 by rw [highV, if_pos hbn]]; omega
  · rw [if_neg (by omega)] at hn
    rw [if_neg hbn, if_pos ⟨hab, hn⟩, hha, show highV H b = ix 0 H b by rw [highV, if_neg hbn]]
theorem near_ne {n a b : Int} (hn : nearB C n a b = true) (hC : 1 ≤ C) : a ≠ b := by
  rintro rfl
  rw [nearB] at hn
  split at hn
  · simp at hn
  · rw [adj_iff hC] at hn; omega
theorem con_led {R : Int} (hk : SOK R C H) {h : Int} {l : List Jt} (hl : ∀ j ∈ l, j ∈ jAll C H 0 ∧ j.h ≤ h) {x y : Int} (hx : 0 ≤ x ∧ x < (H.length : Int) + 1) (hy : 0 ≤ y ∧ y < (H.length : Int) + 1) (hc : conF (l.map Jt.e) x y = true) : ledN C H h x y = true := by
  have hR : EqR fun x y => decide (x = y) || (((decide (0 ≤ x) && decide (x < (H.length : Int) + 1)) && (decide (0 ≤ y) && decide (y < (H.length : Int) + 1))) && ledN C H h x y) := by
    refine ⟨fun x => by simp, fun x y hxy => ?_, fun x y z hxy hyz => ?_⟩
    · simp only [Bool.or_eq_true, Bool.and_eq_true, decide_eq_true_eq] at hxy ⊢
      rcases hxy with e | ⟨⟨h1, h2⟩, h3⟩
      · exact .inl e.symm
      · exact .inr ⟨⟨h2, h1⟩, led_symm (rM_symm (near_symm _)) h1 h2 h3⟩
    · simp only [Bool.or_eq_true, Bool.and_eq_true, decide_eq_true_eq] at hxy hyz ⊢
      rcases hxy with rfl | ⟨⟨h1, h2⟩, h3⟩
      · exact hyz
      · rcases hyz with rfl | ⟨⟨h4, h5⟩, h6⟩
        · exact .inr ⟨⟨h1, h2⟩, h3⟩
        · exact .inr ⟨⟨h1, h5⟩, led_trans h1 h2 h5 h3 h6⟩
  have := con_least hR (l.map Jt.e) (fun e he => by
    obtain ⟨j, hj, rfl⟩ := List.mem_map.1 he
    obtain ⟨h1, h2⟩ := hl j hj
    obtain ⟨m1, m2, m3, m4⟩ := mem_jAll.1 h1
    obtain ⟨n1, n2⟩ := joint_near hk m2 m3 m1.1 m4
    simp only [Bool.or_eq_true, Bool.and_eq_true, decide_eq_true_eq]
    refine .inr ⟨⟨⟨m2.1, ?_⟩, m3⟩, led_one ⟨m2.1, ?_⟩ m3 (gN_iff.2 ⟨n1, ?_, ?_⟩)⟩
    · show j.a < _; omega
    · show j.a < _; omega
    · show highV H j.a ≤ h; omega
    · show highV H j.b ≤ h; omega) x y hc
  simp only [Bool.or_eq_true, Bool.and_eq_true, decide_eq_true_eq] at this
  rcases this with rfl | ⟨_, h3⟩
  · exact led_refl hx
  · exact h3
theorem led_con {R : Int} (hk : SOK R C H) {h : Int} (hh : h ≤ 30) {l : List Jt} (hl : ∀ j ∈ jAll C H 0, j.h ≤ h → j ∈ l) {x y : Int} (hx : 0 ≤ x ∧ x < (H.length : Int) + 1) (hy : 0 ≤ y ∧ y < (H.length : Int) + 1) (hc : ledN C H h x y = true) : conF (l.map Jt.e) x y = true := by
  obtain ⟨d, hd⟩ := (led_rch hx hy).1 hc
  have hE := con_eq (l.map Jt.e)
  have key : ∀ (d : Nat) (x : Int), (0 ≤ x ∧ x < (H.length : Int) + 1) → rchB (gN C H h) (H.length + 1) y d x = true → conF (l.map Jt.e) x y = true := by
    intro d
    induction d with
    | zero => intro x _ hr; rw [show x = y from of_decide_eq_true hr]; exact hE.r y
    | succ d ih =>
      intro x hx hr
      obtain ⟨k, hkr, e1, e2⟩ := rch_step.1 hr
      obtain ⟨g1, g2, g3⟩ := gN_iff.1 e1
      refine hE.t _ _ _ ?_ (ih k hkr e2)
      have hne := near_ne g1 hk.c.1
      have hbx := high_bd hk (x := x) ⟨hx.1, by omega⟩
      have hbk := high_bd hk (x := k) ⟨hkr.1, by omega⟩
      by_cases hlt : x < k
      · have hj := near_joint hk hx hkr hlt g1
        have hm : (⟨x, k, max (highV H x) (highV H k)⟩ : Jt) ∈ l := hl _ (mem_jAll.2 ⟨⟨by show 0 ≤ max _ _; omega, by show max _ _ < 31; omega⟩, ⟨hx.1, by show x < _; omega⟩, hkr, hj⟩) (by show max _ _ ≤ h; omega)
        exact con_edge (List.mem_map.2 ⟨_, hm, rfl⟩)
      · rw [near_symm] at g1
        have hj := near_joint hk hkr hx (by omega) g1
        have hm : (⟨k, x, max (highV H k) (highV H x)⟩ : Jt) ∈ l := hl _ (mem_jAll.2 ⟨⟨by show 0 ≤ max _ _; omega, by show max _ _ < 31; omega⟩, ⟨hkr.1, by show k < _; omega⟩, hx, hj⟩) (by show max _ _ ≤ h; omega)
        exact hE.s _ _ (con_edge (List.mem_map.2 ⟨_, hm, rfl⟩))
  exact key d x hx hd
theorem betw_joint {R : Int} (hk : SOK R C H) {pre post : List Jt} {j : Jt} (hl : jAll C H 0 = pre ++ j :: post) {a b : Int} (ha : 0 ≤ a ∧ a < (H.length : Int) + 1) (hb : 0 ≤ b ∧ b < (H.length : Int) + 1) (hno : conF (pre.map Jt.e) a b = false) (hyes : conF ((pre ++ [j]).map Jt.e) a b = true) : betwV C H a b = j.h := by
  have hs := jAll_sorted (C := C) (H := H)
  rw [hl, List.pairwise_append] at hs
  have hjm : j ∈ jAll C H 0 := by rw [hl]; simp
  obtain ⟨m1, m2, m3, m4⟩ := mem_jAll.1 hjm
  have hled : ledN C H j.h a b = true := con_led hk (fun i hi => by
    rcases List.mem_append.1 hi with hi | hi
    · have hlt := hs.2.2 i hi j (by simp)
      exact ⟨by rw [hl]; exact List.mem_append_left _ hi, by rcases hlt with q | q <;> omega⟩
    · rw [List.mem_singleton.1 hi]; exact ⟨hjm, Int.le_refl _⟩) ha hb hyes
  have hnot : ∀ k, k < j.h → ledN C H k a b = false := fun k hkj => by
    cases hq : ledN C H k a b with
    | false => rfl
    | true =>
      have := led_con hk (h := k) (by omega) (l := pre) (fun i hi hik => by
        rw [hl] at hi
        rcases List.mem_append.1 hi with hi | hi
        · exact hi
        · exfalso
          rcases List.mem_cons.1 hi with rfl | hi
          · omega
          · have := (List.pairwise_cons.1 hs.2.1).1 i hi
            rcases this with q | q <;> omega) ha hb hq
      rw [hno] at this; cases this
  have hne : a ≠ b := by rintro rfl; rw [(con_eq _).r a] at hno; cases hno
  have hha : highV H a ≤ j.h := by
    obtain ⟨d, hd⟩ := (led_rch ha hb).1 hled
    cases d with
    | zero => exact absurd (of_decide_eq_true hd) hne
    | succ d => obtain ⟨k, _, e1, _⟩ := rch_step.1 hd; exact (gN_iff.1 e1).2.1
  by_cases h30 : j.h < 30
  · exact betw_found hha h30 (fun k _ hk' => hnot k hk') hled
  · rw [betw_none fun k _ hk' => hnot k (by omega)]; omega
theorem betw_same {R : Int} (hk : SOK R C H) {a : Int} (ha : 0 ≤ a ∧ a < (H.length : Int) + 1) : betwV C H a a = highV H a := by
  have hb := high_bd hk (x := a) ⟨ha.1, by omega⟩
  by_cases h30 : highV H a < 30
  · exact betw_found (Int.le_refl _) h30 (fun k _ _ => by omega) (led_refl ha)
  · rw [betw_none fun k _ _ => by omega]; omega
end
end Go.Proofs.Ytjhimoeodkaihaa

namespace Go.Proofs.Ytjhimoeodkaihaa
open Go.Wk
set_option linter.unusedVariables false
def LabI (n : Int) (l : List Int) (out : List Ends) : Prop := (l.length : Int) = n + 1 ∧ ∀ x y, (0 ≤ x ∧ x ≤ n) → (0 ≤ y ∧ y ≤ n) → decide (ix 0 l x = ix 0 l y) = conF out x y
def RelI (l l' : List Int) (old new k : Int) : Prop := l'.length = l.length ∧ ∀ x, 0 ≤ x → x < (l.length : Int) → ix 0 l' x = if x < k ∧ ix 0 l x = old then new else ix 0 l x
section
variable {n : Int} {l l' : List Int} {out : List Ends}
theorem ix_rng {x : Int} (h : 0 ≤ x ∧ x < n) : ix 0 (rng 0 n) x = x := by
  rw [ix, rng, List.getD_eq_getElem?_getD, List.getElem?_map, List.getElem?_range (show x.toNat < (n - 0).toNat by omega)]
  show (0 : Int) + ((x.toNat : Nat) : Int) = x
  omega
theorem lab_add {a b k : Int} (hL : LabI n l out) (ha : 0 ≤ a ∧ a ≤ n) (hb : 0 ≤ b ∧ b ≤ n) (h : RelI l l' (ix 0 l a) (ix 0 l b) k) (hk : (l.length : Int) ≤ k) (hne : ix 0 l a ≠ ix 0 l b) : LabI n l' (out ++ [(a, b)]) := by
  have hlen := hL.1
  refine ⟨by rw [h.1]; exact hlen, fun x y hx hy => ?_⟩
  have val : ∀ z, (0 ≤ z ∧ z ≤ n) → ix 0 l' z = if ix 0 l z = ix 0 l a then ix 0 l b else ix 0 l z := fun z hz => by
    rw [h.2 z hz.1 (by omega)]
    by_cases e : ix 0 l z = ix 0 l a
    · rw [if_pos ⟨by omega, e⟩, if_pos e]
    · rw [if_neg (fun q => e q.2), if_neg e]
  rw [con_snoc, Bool.eq_iff_iff, add_iff, decide_eq_true_eq, val x hx, val y hy]
  have c := fun p q hp hq => hL.2 p q hp hq
  have cd : ∀ p q, (0 ≤ p ∧ p ≤ n) → (0 ≤ q ∧ q ≤ n) → (conF out p q = true ↔ ix 0 l p = ix 0 l q) := fun p q hp hq => by rw [← c p q hp hq, decide_eq_true_eq]
  rw [cd x y hx hy, cd x a hx ha, cd b y hb hy, cd x b hx hb, cd a y ha hy]
  by_cases ex : ix 0 l x = ix 0 l a
  · rw [if_pos ex]
    by_cases ey : ix 0 l y = ix 0 l a
    · rw [if_pos ey]
      exact ⟨fun _ => .inl (ex.trans ey.symm), fun _ => rfl⟩
    · rw [if_neg ey]
      refine ⟨fun q => .inr (.inl ⟨ex, q⟩), fun q => ?_⟩
      rcases q with q | ⟨_, q⟩ | ⟨_, q⟩
      · exact absurd (q.symm.trans ex) ey
      · exact q
      · exact absurd q.symm ey
  · rw [if_neg ex]
    by_cases ey : ix 0 l y = ix 0 l a
    · rw [if_pos ey]
      refine ⟨fun q => .inr (.inr ⟨q, ey.symm⟩), fun q => ?_⟩
      rcases q with q | ⟨q, _⟩ | ⟨q, _⟩
      · exact absurd (q.trans ey) ex
      · exact absurd q ex
      · exact q
    · rw [if_neg ey]
      refine ⟨.inl, fun q => ?_⟩
      rcases q with q | ⟨q, _⟩ | ⟨_, q⟩
      · exact q
      · exact absurd q ex
      · exact absurd q.symm ey
theorem lab_con {a b : Int} (hL : LabI n l out) (ha : 0 ≤ a ∧ a ≤ n) (hb : 0 ≤ b ∧ b ≤ n) : conF out a b = true ↔ ix 0 l a = ix 0 l b := by rw [← hL.2 a b ha hb, decide_eq_true_eq]
end
section
variable {C : Int} {H : List Int} {out : List Ends}
end
end Go.Proofs.Ytjhimoeodkaihaa

namespace Go.Proofs.Ytjhimoeodkaihaa
open Go.Wk
set_option linter.unusedVariables false
def nbP (C n a k : Int) : List Int := (rng 0 k).flatMap (nbK C n a)
section
variable {C n a : Int}
theorem nbP_next {k : Int} (h0 : 0 ≤ k) : nbP C n a (k + 1) = nbP C n a k ++ nbK C n a k := by rw [nbP, rng_snoc h0, List.flatMap_append]; simp [nbP]
theorem nb_skip {k : Int} (h0 : 0 ≤ k) (h : outB C n a k = true) : nbP C n a (k + 1) = nbP C n a k := by rw [nbP_next h0, nbK, if_pos h, List.append_nil]
theorem nb_take {k : Int} (h0 : 0 ≤ k) (h : outB C n a k = false) : nbP C n a (k + 1) = nbP C n a k ++ [ix 0 (four C a) k] := by rw [nbP_next h0, nbK, if_neg (by rw [h]; decide)]
theorem nbP_pre {k : Int} : ∀ (d : Nat), (4 - k).toNat = d → 0 ≤ k → k ≤ 4 → nbP C n a k <+: nbP C n a 4 := by
  intro d
  induction d generalizing k with
  | zero => intro h h0 h4; rw [show k = 4 by omega]; exact List.prefix_refl _
  | succ d ih =>
    intro h h0 h4
    have := ih (k := k + 1) (by omega) (by omega) (by omega)
    rw [nbP_next h0] at this
    exact (List.prefix_append _ _).trans this
theorem nbP_all (hC : 1 ≤ C) : nbP C n a 4 = nbV C n a := nbL_eq hC
theorem nb_pre (hC : 1 ≤ C) {k : Int} (h0 : 0 ≤ k) (h4 : k < 4) (h : outB C n a k = false) : (nbP C n a k ++ [ix 0 (four C a) k]) <+: nbW C n a := by
  rw [← nb_take h0 h, nbW, ← nbP_all hC]
  exact (nbP_pre _ rfl (by omega) (by omega)).trans (List.prefix_append _ _)
theorem nb_river (hC : 1 ≤ C) (h : n - C ≤ a) : nbW C n a = nbP C n a 4 ++ [n] := by rw [nbW, nbP_all hC, riverL, if_pos h]
theorem nb_dry (hC : 1 ≤ C) (h : ¬ n - C ≤ a) : nbW C n a = nbP C n a 4 := by rw [nbW, nbP_all hC, riverL, if_neg h, List.append_nil]
theorem outB_iff {k : Int} : outB C n a k = true ↔ ((ix 0 [a - C, a - 1, a + 1, a + C] k < 0 ∨ n ≤ ix 0 [a - C, a - 1, a + 1, a + C] k) ∨ (k = 1 ∧ a % C = 0)) ∨ (k = 2 ∧ ix 0 [a - C, a - 1, a + 1, a + C] k % C = 0) := by
  rw [outB, four]
  simp only [Bool.or_eq_true, Bool.and_eq_true, decide_eq_true_eq]
theorem outB_no {k : Int} (h : ¬ (((ix 0 [a - C, a - 1, a + 1, a + C] k < 0 ∨ n ≤ ix 0 [a - C, a - 1, a + 1, a + C] k) ∨ (k = 1 ∧ a % C = 0)) ∨ (k = 2 ∧ ix 0 [a - C, a - 1, a + 1, a + C] k % C = 0))) : outB C n a k = false := by
  cases hq : outB C n a k with
  | false => rfl
  | true => exact absurd (outB_iff.1 hq) h
end
end Go.Proofs.Ytjhimoeodkaihaa

namespace Go.Proofs.Ytjhimoeodkaihaa
open Go.Wk
set_option linter.unusedVariables false
def DB (dn : List Bool) (x : Int) : Bool := ix false dn x
theorem ix_setB {l : List Bool} {i p : Int} {v : Bool} (h0 : 0 ≤ i) (h1 : i < l.length) (hp : 0 ≤ p) : ix false (l.set i.toNat v) p = if p = i then v else ix false l p := by
  simp only [ix, List.getD_eq_getElem?_getD, List.getElem?_set]
  by_cases e : p = i
  · subst e; rw [if_pos rfl, if_pos rfl, if_pos (by omega)]; rfl
  · rw [if_neg (by omega), if_neg e]
section
variable {C : Int} {H : List Int} {dn : List Bool} {y : List Int}
theorem db_zero {m : Nat} {x : Int} : DB (List.replicate m false) x = false := by
  rw [DB, ix, List.getD_eq_getElem?_getD, List.getElem?_replicate]; split <;> rfl
def iniV (C : Int) (H : List Int) (x : Int) : Int := if lastB C H x = true then ix 0 H x else 31
def IniI (C : Int) (H : List Int) (k : Int) (y : List Int) : Prop := ∀ x, 0 ≤ x → x < k → ix 0 y x = iniV C H x
theorem ini_step {k : Int} {v : Int} (h : IniI C H k y) (h0 : 0 ≤ k) (h1 : k < y.length) (hv : v = iniV C H k) : IniI C H (k + 1) (y.set k.toNat v) := fun x x0 x1 => by
  rw [ix_set0 h0 h1 x0]
  by_cases e : x = k
  · rw [if_pos e, e]; exact hv
  · rw [if_neg e]; exact h x x0 (by omega)
theorem ini_step2 {k : Int} {v u : Int} (h : IniI C H k y) (h0 : 0 ≤ k) (h1 : k < y.length) (hv : v = iniV C H k) : IniI C H (k + 1) ((y.set k.toNat u).set k.toNat v) := by
  rw [List.set_set]; exact ini_step h h0 h1 hv
theorem dj_ini (hok : ShoreOK C H) (h : IniI C H H.length y) (hd : ∀ x, DB dn x = false) : DjI C H (DB dn) (ix 0 y) := dj_start hok (fun x _ => hd x) (fun x hx => h x hx.1 hx.2)
def cntD (H : List Int) (dn : List Bool) : Nat := (rng 0 H.length).countP (DB dn)
theorem cnt_zero (h : ∀ x, DB dn x = false) : cntD H dn = 0 := by
  rw [cntD, List.countP_eq_zero]; intro x _; rw [h x]; decide
theorem cnt_all (h : (H.length : Int) ≤ (cntD H dn : Int)) : ∀ x, inR H x → DB dn x = true := by
  have hl := rng_length (i := 0) (n := H.length) (by omega)
  have he : (rng 0 H.length).countP (DB dn) = (rng 0 H.length).length := by
    have := List.countP_le_length (p := DB dn) (l := rng 0 H.length)
    rw [cntD] at h
    omega
  intro x hx
  exact List.countP_eq_length.1 he x (rng_mem.2 hx)
theorem cnt_some (h : (cntD H dn : Int) < H.length) : ∃ x, inR H x ∧ DB dn x = false := by
  refine Classical.byContradiction fun hn => ?_
  have : (rng 0 H.length).countP (DB dn) = (rng 0 H.length).length := List.countP_eq_length.2 fun x hx => by
    cases hq : DB dn x with
    | true => rfl
    | false => exact absurd ⟨x, rng_mem.1 hx, hq⟩ hn
  have hl := rng_length (i := 0) (n := H.length) (by omega)
  rw [cntD] at h
  omega
theorem db_set {z : Int} (hz : 0 ≤ z ∧ z < (dn.length : Int)) {x : Int} (hx : 0 ≤ x) : DB (dn.set z.toNat true) x = (DB dn x || decide (x = z)) := by
  rw [DB, ix_setB hz.1 hz.2 hx]
  by_cases e : x = z
  · rw [if_pos e, decide_eq_true e, Bool.or_true]
  · rw [if_neg e, decide_eq_false e, Bool.or_false]; rfl
theorem cnt_set {z : Int} (hz : inR H z) (hl : (dn.length : Int) = H.length) (hd : DB dn z = false) : cntD H (dn.set z.toNat true) = cntD H dn + 1 := by
  have key : ∀ (l : List Int), l.Pairwise (· < ·) → (∀ x ∈ l, 0 ≤ x) → l.countP (DB (dn.set z.toNat true)) = l.countP (DB dn) + if z ∈ l then 1 else 0 := by
    intro l
    induction l with
    | nil => intro _ _; rfl
    | cons a l ih =>
      intro hs h0
      obtain ⟨h1, h2⟩ := List.pairwise_cons.1 hs
      have ih := ih h2 fun x hx => h0 x (List.mem_cons_of_mem _ hx)
      rw [List.countP_cons, List.countP_cons, ih, db_set ⟨hz.1, by rw [hl]; exact hz.2⟩ (h0 a (by simp))]
      by_cases e : a = z
      · subst e
        have hnm : ¬ a ∈ l := fun hm => by have := h1 a hm; omega
        rw [hd, decide_eq_true rfl, if_neg hnm, if_pos (List.mem_cons_self)]; simp
      · rw [decide_eq_false e, Bool.or_false]
        by_cases hm : z ∈ l
        · rw [if_pos hm, if_pos (List.mem_cons_of_mem _ hm)]; omega
        · rw [if_neg hm, if_neg (fun q => (List.mem_cons.1 q).elim (fun q => e q.symm) hm)]; omega
  have := key (rng 0 H.length) (rng_asc _ _) fun x hx => (rng_mem.1 hx).1
  rw [if_pos (rng_mem.2 hz)] at this
  exact this
def NxI (dn : List Bool) (y : List Int) (k nx : Int) : Prop := (nx = -1 ∧ ∀ x, 0 ≤ x → x < k → DB dn x = true) ∨ ((0 ≤ nx ∧ nx < k) ∧ DB dn nx = false ∧ ∀ x, 0 ≤ x → x < k → DB dn x = false → ix 0 y nx ≤ ix 0 y x)
theorem nx_start : NxI dn y 0 (-1) := .inl ⟨rfl, fun x x0 x1 => by omega⟩
theorem nx_new {k nx : Int} (h : NxI dn y k nx) (h0 : 0 ≤ k) (hd : DB dn k = false) (hc : nx < 0 ∨ ix 0 y k < ix 0 y nx) : NxI dn y (k + 1) k := by
  refine .inr ⟨⟨h0, by omega⟩, hd, fun x x0 x1 hx => ?_⟩
  by_cases e : x = k
  · rw [e]; exact Int.le_refl _
  · rcases h with ⟨_, h⟩ | ⟨h1, _, h2⟩
    · have := h x x0 (by omega); rw [hx] at this; cases this
    · have := h2 x x0 (by omega) hx
      rcases hc with hc | hc <;> omega
theorem nx_old {k nx : Int} (h : NxI dn y k nx) (h0 : 0 ≤ k) (hc : DB dn k = true ∨ ¬ (nx < 0 ∨ ix 0 y k < ix 0 y nx)) : NxI dn y (k + 1) nx := by
  rcases h with ⟨h1, h2⟩ | ⟨h1, h2, h3⟩
  · refine .inl ⟨h1, fun x x0 x1 => ?_⟩
    by_cases e : x = k
    · rw [e]; rcases hc with hc | hc
      · exact hc
      · omega
    · exact h2 x x0 (by omega)
  · refine .inr ⟨⟨h1.1, by omega⟩, h2, fun x x0 x1 hx => ?_⟩
    by_cases e : x = k
    · subst e
      rcases hc with hc | hc
      · rw [hx] at hc; cases hc
      · omega
    · exact h3 x x0 (by omega) hx
theorem nx_end {nx : Int} (h : NxI dn y H.length nx) (hex : ∃ x, inR H x ∧ DB dn x = false) : inR H nx ∧ DB dn nx = false ∧ ∀ x, inR H x → DB dn x = false → ix 0 y nx ≤ ix 0 y x := by
  rcases h with ⟨_, h⟩ | ⟨h1, h2, h3⟩
  · obtain ⟨x, hx, hd⟩ := hex
    rw [h x hx.1 hx.2] at hd; cases hd
  · exact ⟨h1, h2, fun x hx hd => h3 x hx.1 hx.2 hd⟩
theorem djl_look (hok : ShoreOK C H) {D : Int → Bool} {z m : Int} {ls : List Int} (hz : inR H z) (hI : DjP C H D z (fun x => x ∈ ls) (ix 0 y)) (hl : (H.length : Int) ≤ y.length) (hm : inR H m) (hadj : adjB C z m = true) :
    DjP C H D z (fun x => x ∈ ls ++ [m]) (ix 0 (y.set m.toNat (min (ix 0 y m) (max (ix 0 y z) (ix 0 H m))))) := by
  have := dj_look hok hz hI hm (by rw [adj_symm]; exact hadj) (o' := ix 0 (y.set m.toNat (min (ix 0 y m) (max (ix 0 y z) (ix 0 H m))))) (fun x hx => by rw [ix_set0 hm.1 (by have := hm.2; omega) hx.1])
  obtain ⟨i1, i2, i3, i4, i5⟩ := this
  exact ⟨i1, i2, i3, i4, fun x hx hd hne hxz hp => i5 x hx hd hne hxz (by rcases List.mem_append.1 hp with q | q; exact .inl q; exact .inr (List.mem_singleton.1 q))⟩
theorem djl_river {D : Int → Bool} {z m : Int} {ls : List Int} (hI : DjP C H D z (fun x => x ∈ ls) (ix 0 y)) (hm : (H.length : Int) ≤ m) : DjP C H D z (fun x => x ∈ ls ++ [m]) (ix 0 y) := by
  obtain ⟨i1, i2, i3, i4, i5⟩ := hI
  exact ⟨i1, i2, i3, i4, fun x hx hd hne hxz hp => i5 x hx hd hne hxz (by
    rcases List.mem_append.1 hp with q | q
    · exact q
    · have := hx.2; rw [List.mem_singleton.1 q] at this; omega)⟩
theorem djl_open (hok : ShoreOK C H) (hI : DjI C H (DB dn) (ix 0 y)) {z : Int} (hz : inR H z) (hd : DB dn z = false) (hmin : ∀ x, inR H x → DB dn x = false → ix 0 y z ≤ ix 0 y x) : DjP C H (DB dn) z (fun x => x ∈ ([] : List Int)) (ix 0 y) := by
  obtain ⟨i1, i2, i3, i4, i5⟩ := dj_open hok hI hz hd hmin
  exact ⟨i1, i2, i3, i4, fun x _ _ _ _ hp => nomatch hp⟩
theorem djl_close {z : Int} (hz : inR H z) (hl : (dn.length : Int) = H.length) (hI : DjP C H (DB dn) z (fun x => x ∈ nbW C H.length z) (ix 0 y)) : DjI C H (DB (dn.set z.toNat true)) (ix 0 y) :=
  dj_close hz hI (fun x hx hxz => mem_nbW.2 (.inl ⟨hx, by rw [adj_symm]; exact hxz⟩)) (fun x hx => db_set ⟨hz.1, by rw [hl]; exact hz.2⟩ hx.1)
theorem mem_pre {ls L : List Int} {m : Int} (h : (ls ++ [m]) <+: L) : m ∈ L := by
  obtain ⟨t, rfl⟩ := h; simp
theorem dep_step {R lv k : Int} (hk : SOK R C H) (h : ∀ x, 0 ≤ x → x < (H.length : Int) → ix 0 y x = if x < k then depthV C H lv x else sillV C H x) (h0 : 0 ≤ k) (h1 : k < (H.length : Int)) (hl : y.length = 37) :
    ∀ x, 0 ≤ x → x < (H.length : Int) → ix 0 (y.set k.toNat (max (ix 0 y k) lv - ix 0 H k)) x = if x < k + 1 then depthV C H lv x else sillV C H x := by
  intro x x0 x1
  have hn := hk.n
  rw [ix_set0 h0 (by omega) x0]
  by_cases e : x = k
  · subst e; rw [if_pos rfl, if_pos (by omega), h x x0 x1, if_neg (by omega)]; rfl
  · rw [if_neg e, h x x0 x1]
    by_cases e2 : x < k
    · rw [if_pos e2, if_pos (by omega)]
    · rw [if_neg e2, if_neg (by omega)]
def bareK (R C : Int) (H : List Int) (lv k : Int) : List Int := if levelE R C H lv = 0 then (rng 0 k).filter (bareB C H lv) else []
theorem bareK_yes {R lv k d : Int} (h0 : 0 ≤ k) (h1 : k < (H.length : Int)) (hc : levelE R C H lv = 0) (hd : d = 0) (hy : d = depthV C H lv k) : bareK R C H lv (k + 1) = bareK R C H lv k ++ [k] := by
  rw [bareK, bareK, if_pos hc, if_pos hc, filt_snoc h0, if_pos]
  exact decide_eq_true (by omega)
theorem bareK_no {R lv k d : Int} (h0 : 0 ≤ k) (h1 : k < (H.length : Int)) (hc : levelE R C H lv = 0 → ¬ d = 0) (hy : levelE R C H lv = 0 → d = depthV C H lv k) : bareK R C H lv (k + 1) = bareK R C H lv k := by
  rw [bareK, bareK]
  by_cases e : levelE R C H lv = 0
  · rw [if_pos e, if_pos e, filt_snoc h0, if_neg, List.append_nil]
    have h1' := hc e
    have h2 := hy e
    have h3 := (depth_nn (SOK.of (level_ok e).1) (w := lv) h0 h1).1
    rw [bareB, decide_eq_true_eq]; omega
  · rw [if_neg e, if_neg e]
theorem bareK_end {R lv k : Int} (hk : (H.length : Int) = k) : bareK R C H lv k = bareE R C H lv := by rw [bareK, bareE, bareL, hk]
theorem take_map {f : Int → Int} {y : List Int} {n : Int} (h0 : 0 ≤ n) (hl : n ≤ y.length) (h : ∀ x, 0 ≤ x → x < n → ix 0 y x = f x) : y.take n.toNat = (rng 0 n).map f := by
  refine List.ext_getElem (by have := rng_length h0; simp; omega) fun i h1 h2 => ?_
  have hi : (i : Int) < n := by simp at h1; omega
  have hyl : i < y.length := by omega
  have e := h i (by omega) hi
  have hr := ix_rng (n := n) (x := (i : Int)) ⟨by omega, hi⟩
  rw [ix, Int.toNat_natCast, List.getD_eq_getElem?_getD, List.getElem?_eq_getElem (show i < y.length by omega)] at e
  rw [ix, Int.toNat_natCast, List.getD_eq_getElem?_getD, List.getElem?_eq_getElem (show i < (rng 0 n).length by simpa using h2)] at hr
  rw [List.getElem_take, List.getElem_map]
  have e' : y[i] = f i := e
  have hlr : i < (rng 0 n).length := by simpa using h2
  have hr' : (rng 0 n)[i]'hlr = (i : Int) := hr
  rw [hr', e']
theorem kn_in {f : Int → Int} {y : List Int} {n : Int} (hl : n ≤ y.length) (h : ∀ x, 0 ≤ x → x < n → ix 0 y x = f x) (hb : ∀ x, 0 ≤ x → x < n → 0 ≤ f x ∧ f x ≤ 1000) : ∀ x ∈ y.take n.toNat, InK .i64 x := by
  intro x hx
  obtain ⟨i, hi, e⟩ := List.mem_iff_getElem.1 hx
  rw [List.getElem_take] at e
  have hi' : (i : Int) < n := by simp at hi; omega
  have e2 := h i (by omega) hi'
  rw [ix, Int.toNat_natCast, List.getD_eq_getElem?_getD, List.getElem?_eq_getElem (show i < y.length by omega)] at e2
  have e3 : y[i] = f i := e2
  have := hb i (by omega) hi'
  exact in_i64 (by omega) (by omega)
end
end Go.Proofs.Ytjhimoeodkaihaa
namespace Go.Proofs.Ytjhimoeodkaihaa
open Go.Wk
def ZT (n : Int) (y : List Int) : Prop := ∀ x, n ≤ x → ix 0 y x = 0
theorem zt_zero {n : Int} {m : Nat} : ZT n (List.replicate m 0) := fun x _ => by
  rw [ix, List.getD_eq_getElem?_getD, List.getElem?_replicate]; split <;> rfl
theorem zt_set {n i v : Int} {y : List Int} (h : ZT n y) (h0 : 0 ≤ i) (h1 : i < n) : ZT n (y.set i.toNat v) := fun x hx => by
  have := h x hx
  rw [ix, List.getD_eq_getElem?_getD, List.getElem?_set, if_neg (by omega)]
  rwa [ix, List.getD_eq_getElem?_getD] at this
def knL (f : Int → Int) (n : Int) : List Int := (rng 0 37).map fun x => if x < n then f x else 0
theorem knL_len {f : Int → Int} {n : Int} : (knL f n).length = 37 := by rw [knL, List.length_map]; rfl
theorem rng_get {i : Int} (h0 : 0 ≤ i) {n : Int} (h1 : i < n) : (rng 0 n)[i.toNat]? = some i := by
  rw [rng, List.getElem?_map, List.getElem?_range (by omega)]; simp; omega
theorem knL_ix {f : Int → Int} {n x : Int} (h0 : 0 ≤ x) (h1 : x < 37) : ix 0 (knL f n) x = if x < n then f x else 0 := by
  rw [ix, knL, List.getD_eq_getElem?_getD, List.getElem?_map, rng_get h0 h1]; rfl
theorem knL_eq {f : Int → Int} {n : Int} {ys : List Int} (h1 : ys.length = 37) (h2 : ∀ x, 0 ≤ x → x < n → ix 0 ys x = f x) (h3 : ZT n ys) : ys = knL f n := by
  apply List.ext_getElem?
  intro k
  by_cases hk : k < 37
  · have h : ix 0 ys (k : Int) = ix 0 (knL f n) (k : Int) := by
      rw [knL_ix (by omega) (by omega)]
      split
      · rename_i hlt; exact h2 _ (by omega) hlt
      · rename_i hlt; exact h3 _ (by omega)
    rw [ix, ix, Int.toNat_natCast, List.getD_eq_getElem?_getD, List.getD_eq_getElem?_getD, List.getElem?_eq_getElem (by omega), List.getElem?_eq_getElem (show k < (knL f n).length by rw [knL_len]; exact hk)] at h
    rw [List.getElem?_eq_getElem (by omega), List.getElem?_eq_getElem (show k < (knL f n).length by rw [knL_len]; exact hk)]
    exact congrArg some h
  · rw [List.getElem?_eq_none (by omega), List.getElem?_eq_none (by rw [knL_len]; omega)]
end Go.Proofs.Ytjhimoeodkaihaa

namespace Go.Proofs.Ytjhimoeodkaihaa
open Go.Wk
set_option linter.unusedVariables false
def cmpJ (x y : (Int × Int) × Int) : Int := if x.2 ≠ y.2 then x.2 - y.2 else cmpL [x.1.1, x.1.2] [y.1.1, y.1.2]
def encJ (x : (Int × Int) × Int) : List Value := [.int .i64 x.1.1, .int .i64 x.1.2, .int .i64 x.2]
def jnB (x : (Int × Int) × Int) : Prop := (0 ≤ x.1.1 ∧ x.1.1 < 100) ∧ (0 ≤ x.1.2 ∧ x.1.2 < 100) ∧ (0 ≤ x.2 ∧ x.2 < 100)
section
variable {xs ys : List Int} {k : Int}
theorem cmpl_next (h0 : 0 ≤ k) (c0 : k < xs.length) (c1 : k < ys.length) (h : cmpL (xs.drop k.toNat) (ys.drop k.toNat) = cmpL xs ys) (h2 : cmpI (ix 0 xs k) (ix 0 ys k) = 0) :
    cmpL (xs.drop (k + 1).toNat) (ys.drop (k + 1).toNat) = cmpL xs ys := by
  rw [drop_ix (d := 0) h0 c0, drop_ix (d := 0) h0 c1, cmpL, if_neg (by omega)] at h
  exact h
theorem cmpl_here (h0 : 0 ≤ k) (c0 : k < xs.length) (c1 : k < ys.length) (h : cmpL (xs.drop k.toNat) (ys.drop k.toNat) = cmpL xs ys) (h2 : cmpI (ix 0 xs k) (ix 0 ys k) ≠ 0) :
    cmpL xs ys = cmpI (ix 0 xs k) (ix 0 ys k) := by
  rw [drop_ix (d := 0) h0 c0, drop_ix (d := 0) h0 c1, cmpL, if_pos h2] at h
  exact h.symm
theorem cmpl_long (h0 : 0 ≤ k) (c0 : k < xs.length) (c1 : (ys.length : Int) ≤ k) (h : cmpL (xs.drop k.toNat) (ys.drop k.toNat) = cmpL xs ys) : cmpL xs ys = 1 := by
  rw [drop_ix (d := 0) h0 c0, drop_end c1] at h; exact h.symm
theorem cmpl_short (h0 : 0 ≤ k) (c0 : (xs.length : Int) ≤ k) (h : cmpL (xs.drop k.toNat) (ys.drop k.toNat) = cmpL xs ys) (c1 : k < ys.length) : cmpL xs ys = -1 := by
  rw [drop_end c0, drop_ix (d := 0) h0 c1] at h; exact h.symm
theorem cmpl_same (h0 : 0 ≤ k) (c0 : (xs.length : Int) ≤ k) (h : cmpL (xs.drop k.toNat) (ys.drop k.toNat) = cmpL xs ys) (c1 : (ys.length : Int) ≤ k) : cmpL xs ys = 0 := by
  rw [drop_end c0, drop_end c1] at h; exact h.symm
end
end Go.Proofs.Ytjhimoeodkaihaa
namespace Go.Proofs.Ytjhimoeodkaihaa
def jLt (x y : (Int × Int) × Int) : Prop := x.2 < y.2 ∨ x.2 = y.2 ∧ (x.1.1 < y.1.1 ∨ x.1.1 = y.1.1 ∧ x.1.2 < y.1.2)
theorem cmpJ_lt {x y : (Int × Int) × Int} : cmpJ x y < 0 ↔ jLt x y := by
  unfold cmpJ jLt cmpL cmpI
  simp only [cmpL, cmpI]
  (repeat' split) <;> omega
end Go.Proofs.Ytjhimoeodkaihaa

namespace Go.Wk
open Go.RowKit Go.Lib

section
variable {P : Program} {n : Nat} {w w0 w' : World} {O : List (Option Nat)} {obs : List Ob} {ops : Array Oper} {rest : List Oper} {k : Cont} {d : Tmp} {ty : TypeId} {pos : String} {af : Array Edge}
  {l : List (Nat × Value)} {σ0 σ : Fr} {T T' : TypeId} {x y z lo hi mx : Operand}

end
end Go.Wk

namespace Go.Wk
open Go.RowKit Go.Lib
set_option linter.unusedVariables false

abbrev Tab := Int → Int → Int × Int
def cellT (T : Tab) (m : Nat) : Int := if m % 2 = 0 then (T (m / 26 : Nat) (m / 2 % 13 : Nat)).1 else (T (m / 26 : Nat) (m / 2 % 13 : Nat)).2
def tabC (s : ByteArray) (T : Tab) : List Value := .string s :: (List.range 338).map fun m => .int .i64 (cellT T m)
section
variable (s : ByteArray) (T : Tab) {i n : Int} (i0 : 0 ≤ i) (i1 : i < 13) (n0 : 0 ≤ n) (n1 : n < 13)
include i0 i1 n0 n1
end

section
variable {P : Program} {n : Nat} {σ : Fr} {w w0 : World} {O : List (Option Nat)} {obs : List Ob} {x : Operand} {ty T' : TypeId} {g : Nat} {e : TypeId} {s : ByteArray} {T : Tab} {i m : Int}
  (hb : ∀ w', Ext w w' → w'.heap[g]? = some (.cells (tabC s T).toArray e (0, 0)))
include hb
end

end Go.Wk

namespace Go.Wk
open Go.RowKit Go.Lib
set_option linter.unusedVariables false

section
variable {P : Program} {n : Nat} {k : Cont} {σ σ0 : Fr} {w w0 : World} {O : List (Option Nat)} {obs : List Ob} {x : Operand} {ty T : TypeId} {l : List (Nat × Value)} {d : Tmp} {pos : String} {af : Array Edge} {ops : Array Oper} {rest : List Oper}

end
end Go.Wk

namespace Go.Wk
open Go.RowKit

abbrev ContD := List Nat → Cont
def mkD (D : Nat) : Deferred := { target := .collected D, args := #[] }
def marks (Ds : List Nat) : List Deferred := Ds.map mkD
def DOb (Ds : List Nat) : List Ob := Ds.map fun D => .raw D (.deferred (some []))
def findX (id : Nat) : List (Nat × ContD) → Option ContD
  | [] => none
  | (i, k) :: l => bif Nat.beq id i then some k else findX id l
def postM (n : Nat) (kn kr : ContD) (ke : List (Nat × ContD)) : Exit → Act → World → Prop
  | .normal, a, w => a.tmps.size = n ∧ ∃ Ds, a.defers = marks Ds ∧ kn Ds (fun i => a.tmps.getD i undef) w
  | .ret, a, w => a.tmps.size = n ∧ ∃ Ds, a.defers = marks Ds ∧ kr Ds (fun i => a.tmps.getD i undef) w
  | .exit id, a, w => a.tmps.size = n ∧ ∃ Ds, a.defers = marks Ds ∧ match findX id ke with
    | some k => k Ds (fun i => a.tmps.getD i undef) w
    | none => False
  | _, _, _ => False
def WD (P : Program) (n : Nat) (c : Code) (kn kr : ContD) (ke : List (Nat × ContD)) (Ds : List Nat) (σ : Fr) (w : World) : Prop :=
  ∀ T, AtF n σ T → ∀ m, c.wpIn Fence.wide m P (postM n kn kr ke) ⟨T, marks Ds⟩ w
theorem findX_map (Ds : List Nat) (id : Nat) : ∀ (ke : List (Nat × ContD)), findEx id (ke.map fun x => (x.1, x.2 Ds)) = (findX id ke).map fun k => k Ds
  | [] => rfl
  | (i, k) :: l => by
    simp only [List.map_cons, findEx, findX]
    cases Nat.beq id i with
    | true => rfl
    | false => exact findX_map Ds id l
section
variable {P : Program} {n : Nat} {kn kr : ContD} {ke : List (Nat × ContD)} {Ds : List Nat} {σ : Fr} {w : World}
theorem WD.ofW {c : Code} (h : W P n c (kn Ds) (kr Ds) (ke.map fun x => (x.1, x.2 Ds)) σ w) : WD P n c kn kr ke Ds σ w := by
  intro T hT m
  refine wpIn_mono (F := Fence.wide) (h T hT none (marks Ds) m) ?_
  intro e a w hq
  cases e with
  | normal => exact ⟨hq.1, Ds, hq.2.1, hq.2.2⟩
  | ret => exact ⟨hq.1, Ds, hq.2.1, hq.2.2⟩
  | exit id =>
    obtain ⟨h1, h2, h3⟩ := hq
    refine ⟨h1, Ds, h2, ?_⟩
    rw [findX_map] at h3
    cases hf : findX id ke with
    | none => rw [hf] at h3; exact h3
    | some k => rw [hf] at h3; exact h3
  | goto l => exact hq
  | panic ch => exact hq
  | outgrown => exact hq
theorem WD.seq {a b : Code} (h : WD P n a (fun Ds σ w => WD P n b kn kr ke Ds σ w) kr ke Ds σ w) : WD P n (.seq a b) kn kr ke Ds σ w := by
  intro T hT m
  refine wpIn_seq (wpIn_mono (h T hT m) ?_)
  intro e a' w' hq
  cases e with
  | normal =>
    obtain ⟨h1, Ds', h2, h3⟩ := hq
    have := h3 a'.tmps (AtF.self h1) m
    cases a'
    simp only at h2
    subst h2
    exact this
  | exit id => exact hq
  | goto l => exact hq
  | ret => exact hq
  | panic ch => exact hq
  | outgrown => exact hq
theorem WD.block {id : Nat} {c : Code} (h : WD P n c kn kr ((id, kn) :: ke) Ds σ w) : WD P n (.block id c) kn kr ke Ds σ w := by
  intro T hT m
  refine wpIn_block (wpIn_mono (h T hT m) ?_)
  intro e a' w' hq
  cases e with
  | exit id' =>
    simp only [postM, findX] at hq
    simp only [Exit.inBlock]
    by_cases hid : id' = id
    · subst hid
      have hb : Nat.beq id' id' = true := Nat.beq_refl id'
      rw [if_pos rfl]
      rw [hb] at hq
      exact hq
    · have hb : Nat.beq id' id = false := by
        cases hq' : Nat.beq id' id with
        | false => rfl
        | true => exact absurd (Nat.eq_of_beq_eq_true hq') hid
      rw [if_neg hid]
      rw [hb] at hq
      exact hq
  | normal => exact hq
  | goto l => exact hq
  | ret => exact hq
  | panic ch => exact hq
  | outgrown => exact hq
theorem WD.loop {X : Type _} (D : List Nat) (f : X → List (Nat × Value)) (I : X → World → Prop) (m : X → Nat) (dso : X → List Nat) (x0 : X) {c : Code} (h0 : Has (f x0) σ) (hDs : dso x0 = Ds) (hI : I x0 w)
    (round : ∀ (x : X) (u : Fr) (w : World), I x w → WD P n c (fun Ds' σ' w' => ∃ x', m x' < m x ∧ dso x' = Ds' ∧ I x' w' ∧ Agr D (f x') σ σ') kr ke (dso x) (look (f x) (hav D u σ)) w) :
    WD P n (.loop c) kn kr ke Ds σ w := by
  intro T hT rm
  subst hDs
  refine wpIn_loop_ghost (fun k a w => ∃ x, m x = k ∧ I x w ∧ a.tmps.size = n ∧ a.defers = marks (dso x) ∧ Agr D (f x) σ (fun i => a.tmps.getD i undef)) (m x0) ?_ ?_
  · exact ⟨x0, rfl, hI, hT.1, rfl, by simp only; rw [hT.fun_eq]; exact Agr.start h0⟩
  · rintro k a w ⟨x, rfl, hI, h1, h2, hA⟩
    have hr := round x (fun i => a.tmps.getD i undef) w hI
    have hF : AtF n (look (f x) (hav D (fun i => a.tmps.getD i undef) σ)) a.tmps := ⟨h1, fun i => congrFun hA.eq i⟩
    have := hr a.tmps hF rm
    cases a
    simp only at h2
    subst h2
    refine wpIn_mono this ?_
    intro e a' w' hq
    cases e with
    | normal =>
      obtain ⟨g1, Ds', g2, x', g3, rfl, g4, g5⟩ := hq
      exact ⟨m x', g3, x', rfl, g4, g1, g2, g5⟩
    | exit id => exact hq
    | goto l => exact hq
    | ret => exact hq
    | panic ch => exact hq
    | outgrown => exact hq
end

/-! ### Blocks that hold no cells -/
section
variable {w0 w : World} {O : List (Option Nat)} {obs a b : List Ob}
theorem ext_alloc (w : World) (o : Obj) : Ext w (w.alloc o) := (Below.refl _ _).alloc (Nat.le_refl _) _
theorem St.newRaw (h : St w0 O w obs) (o : Obj) : St w0 O (w.alloc o) (.raw w.heap.size o :: obs) := by
  have hx := ext_alloc w o
  have hM : Mv (fb obs O) (fb (.raw w.heap.size o :: obs) O) w (w.alloc o) := by
    refine ⟨hx.size, fun b hb hO => ⟨hx.block b hb, fun hm => ?_⟩⟩
    simp only [fb, List.map_cons, List.cons_append, Ob.blk] at hm
    rcases List.mem_cons.1 hm with hm | hm
    · injection hm with hm
      omega
    · exact hO hm
  refine ⟨Ext.trans h.bel hx, h.olt, fun ob ho => ?_, List.Pairwise.cons (fun ob ho => ?_) h.sep⟩
  · rcases List.mem_cons.1 ho with rfl | ho
    · exact ⟨h.bel.size, World.alloc_heap_new w o⟩
    · exact Ob.ok_ext (h.ok ob ho) hx hM
  · right
    intro hb
    have := (Ob.ok_lt (h.ok ob ho) (b := w.heap.size) hb.symm).2
    omega
theorem St.putRaw {g : Nat} {o : Obj} (h : St w0 O w obs) (i : Nat) (hi : obs[i]? = some (.raw g o)) (o' : Obj) : St w0 O (w.putObj g o') (obs.set i (.raw g o')) := by
  have hob := h.get i hi
  have hlt := (Array.getElem?_eq_some_iff.1 hob.2).1
  refine h.turn (ob' := .raw g o') i hi rfl rfl rfl (by rw [World.putObj_size]; exact Nat.le_refl _) (fun b hb hne => World.putObj_heap_other (fun e => hne (by rw [e]; rfl))) (fun b hb => .inl hb) (fun b hb => ?_) (fun F hM => ⟨hob.1, World.putObj_heap_same hlt⟩)
  rw [World.putObj_size]
  simp only [Ob.blk, Option.some.injEq] at hb
  subst hb
  exact hlt
theorem St.putMid {g : Nat} {o : Obj} (h : St w0 O w (a ++ .raw g o :: b)) (o' : Obj) : St w0 O (w.putObj g o') (a ++ .raw g o' :: b) := by
  have := h.putRaw (g := g) (o := o) a.length (by simp) o'
  rwa [List.set_append_right _ _ (Nat.le_refl _), Nat.sub_self, List.set_cons_zero] at this
theorem St.getMid {ob : Ob} (h : St w0 O w (a ++ ob :: b)) : ob.ok w0.heap.size (fb (a ++ ob :: b) O) w := h.ok ob (by simp)
theorem St.dropMid {ob : Ob} (h : St w0 O w (a ++ ob :: b)) : St w0 O w (a ++ b) := h.sub (List.Sublist.append (List.Sublist.refl a) (List.sublist_cons_self ob b))
end

/-! ### The function's end -/
theorem leaves_marks {P : Program} {fn : Func} {tmps : Array Value} {R : Ending → World → Prop} {m : Nat} {w0 : World} {O : List (Option Nat)} {obs : List Ob}
    (hR : ∀ w2, St w0 O w2 obs → ∃ v, (results fn tmps).run P w2 = .ok v w2 ∧ R (.returned v) w2) : ∀ (Ds : List Nat) (w : World), St w0 O w (obs ++ DOb Ds) → LeavesInM Fence.wide m P fn tmps R (marks Ds) .returning w
  | [], w, h => by
    rw [show DOb [] = [] from rfl, List.append_nil] at h
    exact hR w h
  | D :: Ds, w, h => by
    have hD := (h.getMid (ob := .raw D (.deferred (some [])))).2
    refine ⟨fun e => (nomatch e), .inl ⟨D, _, rfl, run_takeDeferred hD, leaves_marks hR Ds _ ?_⟩⟩
    exact (h.putMid (.deferred none)).dropMid
abbrev EndM (P : Program) (rs : Array ResultVar) (w0 : World) (O : List (Option Nat)) (Q : Value → World → Prop) : ContD := fun Ds σ w' =>
  ∃ obs, St w0 O w' (obs ++ DOb Ds) ∧ ∀ w2, St w0 O w2 obs → ∃ v, ResIs P rs σ w2 v ∧ Q v w2
theorem enterM {P : Program} {n : Nat} {w : World} {f : FuncId} {fn : Func} {c : Code} {vs : List Value} {rs : Array ResultVar} {Q : Value → World → Prop} (w0 : World) (O : List (Option Nat)) (hf : P.funcs[f]? = some fn) (hb : fn.body = some c) (hn : fn.ntmps = n) (hrs : fn.results = rs)
    (hle : Nat.ble vs.length n = true) (h : WD P n c (EndM P rs w0 O Q) (EndM P rs w0 O Q) [] [] (look (argl 0 vs) und) w) : Calls P f vs.toArray w (Bk Q) := by
  have hle' := Nat.le_of_ble_eq_true hle
  refine (callsIn_wide (n := 0)).1 (callsIn_of_wp_marks hf hb trivial ?_ rfl)
  have hF : AtF n (look (argl 0 vs) und) (vs.toArray ++ Array.replicate (fn.ntmps - vs.toArray.size) undef) := by
    refine ⟨by simp; omega, fun i => ?_⟩
    rw [look_argl]
    simp only [Nat.zero_le, if_true, Nat.sub_zero]
    simp only [Array.getD_eq_getD_getElem?, Array.getElem?_append]
    split
    · simp
    · rename_i hi
      simp only [List.size_toArray] at hi ⊢
      rw [Array.getElem?_replicate]
      rw [List.getElem?_eq_none (by omega)]
      split <;> rfl
  refine wpIn_mono (h _ hF 0) ?_
  have key : ∀ (a : Act) (w' : World), (a.tmps.size = n ∧ ∃ Ds, a.defers = marks Ds ∧ EndM P rs w0 O Q Ds (fun i => a.tmps.getD i undef) w') → LeavesInM Fence.wide 0 P fn a.tmps (Bk Q) a.defers .returning w' := by
    rintro a w' ⟨h1, Ds, h2, obs, hS, h3⟩
    rw [h2]
    refine leaves_marks (fun w2 hS2 => ?_) Ds w' hS
    obtain ⟨v, hr, hQ⟩ := h3 w2 hS2
    exact ⟨v, hr fn hrs _ _ (AtF.self h1), v, rfl, hQ⟩
  intro e a w' hq
  cases e with
  | normal => exact key a w' hq
  | ret => exact key a w' hq
  | exit id => obtain ⟨_, _, _, hq⟩ := hq; exact hq.elim
  | goto l => exact hq.elim
  | panic ch => exact hq.elim
  | outgrown => exact hq.elim
theorem enterMR {P : Program} {n : Nat} {w : World} {O : List (Option Nat)} {f : FuncId} {fn : Func} {c : Code} {vs : List Value} {rs : Array ResultVar} {Q : Value → World → Prop} (hf : P.funcs[f]? = some fn) (hb : fn.body = some c) (hn : fn.ntmps = n) (hrs : fn.results = rs)
    (hle : Nat.ble vs.length n = true) (h : WD P n c (EndM P rs w O (fun v w' => Ext w w' ∧ Q v w')) (EndM P rs w O (fun v w' => Ext w w' ∧ Q v w')) [] [] (look (argl 0 vs) und) w) : Calls P f vs.toArray w (Ret w Q) := enterM (Q := fun v w' => Ext w w' ∧ Q v w') w O hf hb hn hrs hle h

/-! ### What an iterator promises -/
def YieldR (P : Program) (l : Nat) (m : Int) (w : World) (R : Bool → World → Prop) : Prop :=
  ∃ fn tmps assign body, (Instr.yield l #[.int .i64 m]).run P w = .ok (.round l fn tmps assign body) w ∧ ∀ k, RoundIn Fence.wide k P l fn tmps assign body w fun e w' => ∃ b, e = .returned (.bool b) ∧ R b w'
def EachY (P : Program) (l : Nat) (L : List Int) (Tl Tx : List Int → List Ob → Prop) (w0 : World) (O : List (Option Nat)) : Prop :=
  ∀ (ls : List Int) (m : Int) (pre ob : List Ob) (w : World), (ls ++ [m]) <+: L → Tl ls ob → St w0 O w (ob ++ pre) →
    YieldR P l m w fun b w' => ∃ ob', (b = true → Tl (ls ++ [m]) ob') ∧ (b = false → Tx (ls ++ [m]) ob') ∧ St w0 O w' (ob' ++ pre)
def Iter (P : Program) (gf : FuncId) (cs : List Value) (A : List Ob) (L : List Int) (w0 : World) (O : List (Option Nat)) : Prop :=
  ∀ (l : Nat) (Tl Tx : List Int → List Ob → Prop) (ob : List Ob) (w : World), EachY P l L Tl Tx w0 O → Tl [] ob → St w0 O w (A ++ ob) →
    Calls P gf (.func (.yield l) #[] #[] :: cs).toArray w (Bk fun _ w' => ∃ ob', (Tl L ob' ∨ ∃ ls, ls <+: L ∧ Tx ls ob') ∧ St w0 O w' (A ++ ob'))

def jumpC : Option Nat → Code
  | none => .ret
  | some id => .exit id

section
variable {P : Program} {n : Nat} {kn kr : ContD} {ke : List (Nat × ContD)} {Ds : List Nat} {σ : Fr} {w w0 : World} {O : List (Option Nat)}

theorem WD.range {tg p d idA : Nat} {ty : TypeId} {pos : String} {af : Array Edge} {body : Code} {gf : FuncId} {cs : List Value} {A ob : List Ob} (L : List Int) (Tl : List Int → List Ob → Prop) (Tx : Option Nat → List Int → List Ob → Prop) (ids : List Nat)
    (hg : σ tg = .func (.func gf) #[] cs.toArray) (hc : ∀ args w, (callFunc gf args).run P w = .ok (.enter gf args) w) (hp : Nat.ble (p + 1) n = true) (hd : Nat.ble (d + 1) n = true)
    (hIt : Iter P gf cs A L w0 O) (hS : St w0 O w (A ++ (ob ++ DOb Ds))) (h0 : Tl [] ob)
    (hbody : ∀ (ls : List Int) (m : Int) (pre ob : List Ob) (w : World), (ls ++ [m]) <+: L → Tl ls ob → St w0 O w (ob ++ pre) →
      W P n body (fun _ w' => ∃ ob', Tl (ls ++ [m]) ob' ∧ St w0 O w' (ob' ++ pre)) (fun _ w' => ∃ ob', Tx none (ls ++ [m]) ob' ∧ St w0 O w' (ob' ++ pre))
        (ids.map fun id => (id, fun _ w' => ∃ ob', Tx (some id) (ls ++ [m]) ob' ∧ St w0 O w' (ob' ++ pre))) (look [(d, .int .i64 m), (p, .int .i64 m)] σ) w)
    (hdone : ∀ ob' D w', Tl L ob' → St w0 O w' (ob' ++ DOb (D :: Ds)) → kn (D :: Ds) σ w')
    (hstop : ∀ x ls ob' D w', Tx x ls ob' → ls <+: L → St w0 O w' (ob' ++ DOb (D :: Ds)) → match x with
      | none => kr (D :: Ds) σ w'
      | some id => ∃ k, findX id ke = some k ∧ k (D :: Ds) σ w') :
    WD P n (.rangeFunc (.tmp tg) #[p] (.region idA #[⟨some d, .assign (.tmp p), ty, pos, af, none⟩] false) body) kn kr ke Ds σ w := by
  intro T hT m
  refine wpIn_rangeFunc ?_
  intro fn hfn
  obtain ⟨rec, hrec⟩ : ∃ rec : LoopState → Option Code → Loop, rec = fun st pe => { state := st, pending := pe, fn, tmps := T, params := #[p], assign := .region idA #[⟨some d, .assign (.tmp p), ty, pos, af, none⟩] false, body, defers := w.heap.size } := ⟨_, rfl⟩
  have hgT : (Act.mk T (marks Ds)).eval (.tmp tg) = .func (.func gf) #[] cs.toArray := by rw [hT.eval]; exact hg
  refine ⟨w.heap.size + 1, [{ target := .collected w.heap.size, args := #[] }], (w.alloc (.deferred (some []))).alloc (.loop (rec .ready none)), { target := .fn (.func gf) cs.toArray, args := #[.func (.yield (w.heap.size + 1)) #[] #[]] }, (w.alloc (.deferred (some []))).alloc (.loop (rec .ready none)), gf,
    #[.func (.yield (w.heap.size + 1)) #[] #[]] ++ cs.toArray, (w.alloc (.deferred (some []))).alloc (.loop (rec .ready none)), ?_, ?_, fun _ _ => trivial, ?_, fun hh => (nomatch hh), ?_⟩
  · rw [hrec]; exact run_enterLoop_outer _ _ _ _ _
  · simp only [resolve, hgT]
    simp [go_sem]
  · simp [invoke, go_sem, hc]
  obtain ⟨Tl', hTl'⟩ : ∃ T' : List Int → List Ob → Prop, T' = fun ls ob' => ∃ ob0, Tl ls ob0 ∧ ob' = ob0 ++ (.raw (w.heap.size + 1) (.loop (rec .ready none)) :: DOb (w.heap.size :: Ds)) := ⟨_, rfl⟩
  obtain ⟨Tx', hTx'⟩ : ∃ T' : List Int → List Ob → Prop, T' = fun ls ob' => ∃ x ob0, (Tx x ls ob0) ∧ ob' = ob0 ++ (.raw (w.heap.size + 1) (.loop (rec .done (some (jumpC x)))) :: DOb (w.heap.size :: Ds)) := ⟨_, rfl⟩
  have hS1 : St w0 O ((w.alloc (.deferred (some []))).alloc (.loop (rec .ready none))) (A ++ (ob ++ (.raw (w.heap.size + 1) (.loop (rec .ready none)) :: DOb (w.heap.size :: Ds)))) := by
    have h1 := (hS.newRaw (.deferred (some []))).newRaw (.loop (rec .ready none))
    rw [World.size_alloc] at h1
    refine h1.perm ?_
    have e : A ++ (ob ++ (Ob.raw (w.heap.size + 1) (.loop (rec .ready none)) :: DOb (w.heap.size :: Ds))) = (A ++ ob) ++ ([.raw (w.heap.size + 1) (.loop (rec .ready none)), .raw w.heap.size (.deferred (some []))] ++ DOb Ds) := by simp [DOb]
    rw [e, show Ob.raw (w.heap.size + 1) (.loop (rec .ready none)) :: Ob.raw w.heap.size (.deferred (some [])) :: (A ++ (ob ++ DOb Ds)) = [.raw (w.heap.size + 1) (.loop (rec .ready none)), .raw w.heap.size (.deferred (some []))] ++ ((A ++ ob) ++ DOb Ds) by simp]
    rw [← List.append_assoc, ← List.append_assoc]
    exact List.perm_append_comm.append_right _
  have hE : EachY P (w.heap.size + 1) L Tl' Tx' w0 O := by
    subst hTl' hTx'
    rintro ls x pre ob' w1 hpx ⟨ob0, hT0, rfl⟩ hS0
    rw [List.append_assoc, List.cons_append] at hS0
    have hl := (hS0.getMid (ob := .raw (w.heap.size + 1) (.loop (rec .ready none)))).2
    have hy := run_yield (P := P) (args := #[.int .i64 x]) hl (by rw [hrec]; rfl)
    refine ⟨_, _, _, _, hy, fun k => ?_⟩
    rw [hrec]
    refine roundIn_of_wpIn trivial ?_
    have hp' := Nat.le_of_ble_eq_true hp
    obtain ⟨T', hT', hF'⟩ := hT.put (some p) (.int .i64 x) hp []
    have hfold : (#[p].zip #[Value.int .i64 x]).foldl (fun tmps (q : Tmp × Value) => tmps.setIfInBounds q.1 q.2) T = T' := by
      have := congrArg Act.tmps hT'
      simpa [Act.put] using this
    have hfold2 : ((rec .ready none).params.zip #[Value.int .i64 x]).foldl (fun tmps (x : Tmp × Value) => match x with | (t, a) => tmps.setIfInBounds t a) (rec .ready none).tmps = T' := by
      rw [hrec]; exact hfold
    rw [hrec] at hfold2
    rw [hfold2]
    have hA : W P n (.region idA [⟨some d, .assign (.tmp p), ty, pos, af, none⟩].toArray false) (fun σ' w' => σ' = look [(d, .int .i64 x), (p, .int .i64 x)] σ ∧ w' = w1) (fun _ _ => False) [] (look [(p, .int .i64 x)] σ) w1 := by
      refine W.reg ?_ rfl
      refine Wx.rd (v := .int .i64 x) (fun w' _ => ?_) hd ?_
      · show (xop _ _ _).run P w' = _
        simp [xop, execOp, ev, look, Nat.beq_refl]
      · exact Wx.nil ⟨rfl, rfl⟩
    have hA2 := hA T' hF' (some (w.heap.size + 1)) [] k
    refine wpIn_mono hA2 ?_
    intro e a1 w1' hq
    cases e with
    | normal =>
      obtain ⟨q1, q2, q3, rfl⟩ := hq
      refine ⟨_, run_beginRound hl (by rw [hrec]), ?_⟩
      have hS2 := hS0.putMid (.loop { rec .ready none with state := .busy })
      have hB := hbody ls x _ ob0 _ hpx hT0 hS2
      have hB2 := hB a1.tmps ⟨q1, fun i => congrFun q3 i⟩ (some (w.heap.size + 1)) [] k
      obtain ⟨at1, ad1⟩ := a1
      simp only at q2
      subst q2
      refine wpIn_mono hB2 ?_
      have fin : ∀ (jump : Option Code) (ob3 : List Ob) (w3 : World), St w0 O w3 (ob3 ++ (.raw (w.heap.size + 1) (.loop { rec .ready none with state := .busy }) :: (DOb (w.heap.size :: Ds) ++ pre))) →
          ∃ w4, (Instr.endRound (w.heap.size + 1) jump).run P w3 = .ok (.bool jump.isNone) w4 ∧ St w0 O w4 (ob3 ++ (.raw (w.heap.size + 1) (.loop (rec (if jump.isNone then .ready else .done) jump)) :: (DOb (w.heap.size :: Ds) ++ pre))) := fun jump ob3 w3 h3 => by
        have hl3 := (h3.getMid (ob := .raw (w.heap.size + 1) (.loop { rec .ready none with state := .busy }))).2
        have := run_endRound (P := P) jump hl3
        refine ⟨_, this, ?_⟩
        have h4 := h3.putMid (.loop (rec (if jump.isNone then .ready else .done) jump))
        rw [hrec] at h4 ⊢
        exact h4
      intro e a3 w3 hp3
      cases e with
      | normal =>
        obtain ⟨_, _, ob3, g1, g2⟩ := hp3
        obtain ⟨w4, g3, g4⟩ := fin none ob3 w3 g2
        exact ⟨_, w4, g3, true, rfl, _, fun _ => ⟨ob3, g1, rfl⟩, fun h => (nomatch h), by rw [hrec] at g4; rw [List.append_assoc]; exact g4⟩
      | ret =>
        obtain ⟨_, _, ob3, g1, g2⟩ := hp3
        obtain ⟨w4, g3, g4⟩ := fin (some .ret) ob3 w3 g2
        exact ⟨_, w4, g3, false, rfl, _, fun h => (nomatch h), fun _ => ⟨none, ob3, g1, rfl⟩, by rw [hrec] at g4; rw [List.append_assoc]; exact g4⟩
      | exit id =>
        obtain ⟨_, _, g0⟩ := hp3
        have hfind : ∀ (ids : List Nat), findEx id (ids.map fun id => (id, fun (_ : Fr) w' => ∃ ob', Tx (some id) (ls ++ [x]) ob' ∧ St w0 O w' (ob' ++ (.raw (w.heap.size + 1) (.loop { rec .ready none with state := .busy }) :: (DOb (w.heap.size :: Ds) ++ pre))))) = none ∨
            findEx id (ids.map fun id => (id, fun (_ : Fr) w' => ∃ ob', Tx (some id) (ls ++ [x]) ob' ∧ St w0 O w' (ob' ++ (.raw (w.heap.size + 1) (.loop { rec .ready none with state := .busy }) :: (DOb (w.heap.size :: Ds) ++ pre))))) = some (fun _ w' => ∃ ob', Tx (some id) (ls ++ [x]) ob' ∧ St w0 O w' (ob' ++ (.raw (w.heap.size + 1) (.loop { rec .ready none with state := .busy }) :: (DOb (w.heap.size :: Ds) ++ pre)))) := by
          intro ids
          induction ids with
          | nil => exact .inl rfl
          | cons i ids ih =>
            simp only [List.map_cons, findEx]
            cases hb : Nat.beq id i with
            | true => rw [Nat.eq_of_beq_eq_true hb]; exact .inr rfl
            | false => exact ih
        rcases hfind ids with hf | hf
        · rw [hf] at g0; exact g0.elim
        · rw [hf] at g0
          obtain ⟨ob3, g1, g2⟩ := g0
          obtain ⟨w4, g3, g4⟩ := fin (some (.exit id)) ob3 w3 g2
          exact ⟨_, w4, g3, false, rfl, _, fun h => (nomatch h), fun _ => ⟨some id, ob3, g1, rfl⟩, by rw [hrec] at g4; rw [List.append_assoc]; exact g4⟩
      | goto t => exact hp3.elim
      | panic ch => exact hp3.elim
      | outgrown => exact hp3.elim
    | exit id => obtain ⟨_, _, hq⟩ := hq; exact hq.elim
    | ret => exact hq.2.2.elim
    | goto t => exact hq.elim
    | panic ch => exact hq.elim
    | outgrown => exact hq.elim
  have hcall := hIt (w.heap.size + 1) Tl' Tx' _ _ hE (by rw [hTl']; exact ⟨ob, h0, rfl⟩) hS1
  have hargs : #[Value.func (.yield (w.heap.size + 1)) #[] #[]] ++ cs.toArray = (Value.func (.yield (w.heap.size + 1)) #[] #[] :: cs).toArray := by simp
  rw [hargs]
  refine callsIn_wide.2 (Calls.mono hcall ?_)
  subst hTl' hTx'
  rintro e w3 ⟨v, rfl, ob', hob, hS3⟩
  have hnoA : ∀ {t : List Ob} {w3 : World}, St w0 O w3 (A ++ t) → St w0 O w3 t := fun h => h.sub (List.sublist_append_right _ _)
  rcases hob with ⟨ob0, hT0, rfl⟩ | ⟨ls, hpre, x, ob0, hT0, rfl⟩
  · have hS4 := hnoA hS3
    have hl := (hS4.getMid (ob := .raw (w.heap.size + 1) (.loop (rec .ready none)))).2
    have hr := run_endLoop (P := P) hl (by rw [hrec]; simp)
    refine ⟨none, _, by rw [hr, hrec], ?_⟩
    have hS5 := (hS4.putMid (.loop { rec .ready none with state := .exhausted })).dropMid
    rw [hrec] at hS5
    exact ⟨hT.1, w.heap.size :: Ds, rfl, by simp only; rw [hT.fun_eq]; exact hdone ob0 _ _ hT0 hS5⟩
  · have hS4 := hnoA hS3
    have hl := (hS4.getMid (ob := .raw (w.heap.size + 1) (.loop (rec .done (some (jumpC x)))))).2
    have hr := run_endLoop (P := P) hl (by rw [hrec]; simp)
    refine ⟨some (jumpC x), _, by rw [hr, hrec], ?_⟩
    have hS5 := (hS4.putMid (.loop { rec .done (some (jumpC x)) with state := .exhausted })).dropMid
    rw [hrec] at hS5
    have hst := hstop x ls ob0 _ _ hT0 hpre hS5
    cases x with
    | none => exact wpIn_ret ⟨hT.1, w.heap.size :: Ds, rfl, by simp only; rw [hT.fun_eq]; exact hst⟩
    | some id =>
      obtain ⟨k, hk, hst⟩ := hst
      exact wpIn_exit ⟨hT.1, w.heap.size :: Ds, rfl, by rw [hk]; simp only; rw [hT.fun_eq]; exact hst⟩
end
end Go.Wk

namespace Go.Wk
open Go.RowKit
section
variable {P : Program} {ops : Array Oper} {Q Q' : Exit → Act → World → Prop} {r : Option Nat} {m : Nat} {ds : List Deferred}
theorem wpList_ringA {r' : List Oper} (hQ : ∀ a w, Q .normal a w → wpListIn (ringF r) m P ops Q' r' (withD ds a) w) (hp : ∀ c a w, ¬ Q (.panic c) a w) (ho : ∀ a w, ¬ Q .outgrown a w) :
    ∀ (l : List Oper) (a : Act) (w : World), noDefer l = true → wpList P ops Q l a w → wpListIn (ringF r) m P ops Q' (l ++ r') (withD ds a) w := by
  intro l
  induction l with
  | nil => intro a w _ h; exact hQ a w h
  | cons o l ih =>
    intro a w hd h
    have hdo := noDefer_mem hd o (by simp)
    have hdl : noDefer l = true := by simp only [noDefer, Bool.and_eq_true] at hd; exact hd.2
    unfold wpList at h
    rw [List.cons_append]
    unfold wpListIn
    show if Region.wanted o (yielded ops a.tmps) = true then _ else _
    split
    · rename_i hw
      rw [if_pos hw] at h
      exact oper_ring hdo hp ho (fun a w hk => ih a w hdl hk) h
    · rename_i hw
      rw [if_neg hw] at h
      refine ⟨fun _ _ => trivial, ?_⟩
      rw [withD_put]
      exact ih _ _ hdl h
end
theorem W.regY {P : Program} {n : Nat} {kn kr : Cont} {ke : List (Nat × Cont)} {σ : Fr} {w : World} {id : Nat} (l1 : List Oper) {d t : Tmp} {x : Operand} {ats : Array TypeId} {ty : TypeId} {pos : String} {af : Array Edge} {l2 : List Oper}
    (hd : Nat.ble (d + 1) n = true)
    (h : Wx P n (l1 ++ ⟨some d, .call { callee := .value (.tmp t), args := #[x], argTypes := ats }, ty, pos, af, none⟩ :: l2).toArray false l1 (fun σ' w' => ∃ l i, σ' t = .func (.yield l) #[] #[] ∧ ev σ' x = .int .i64 i ∧
      YieldR P l i w' fun b w'' => Wx P n (l1 ++ ⟨some d, .call { callee := .value (.tmp t), args := #[x], argTypes := ats }, ty, pos, af, none⟩ :: l2).toArray false l2 kn (look [(d, .bool b)] σ') w'') σ w)
    (h1 : noDefer l1 = true := by rfl) (h2 : noDefer l2 = true := by rfl) :
    W P n (.region id (l1 ++ ⟨some d, .call { callee := .value (.tmp t), args := #[x], argTypes := ats }, ty, pos, af, none⟩ :: l2).toArray false) kn kr ke σ w := by
  intro T hT r ds m
  refine wpIn_region_lit ?_
  refine wpList_ringA (ds := ds) (fun a w' hq => ?_) post_panic post_out l1 ⟨T, []⟩ w h1 (h T hT)
  obtain ⟨g1, g2, l, i, e1, e2, fn, tmps, assign, body, hy, hR⟩ := hq
  obtain ⟨at1, ad1⟩ := a
  simp only at g2
  subst g2
  have hev : (withD ds (Act.mk at1 [])).eval = ev (fun i => at1.getD i undef) := by rw [withD_eval]; exact (AtF.self g1).eval []
  unfold wpListIn
  show if Region.wanted _ _ = true then _ else _
  rw [if_pos (show Region.wanted _ _ = true from rfl)]
  refine ⟨fun _ _ => trivial, ?_⟩
  rw [Oper.semAt_eq _ _ _ (fun c e => by cases e), hev, execOp_xop]
  have hrun : ∀ σ1 : Fr, ev σ1 (.tmp t) = .func (.yield l) #[] #[] → ev σ1 x = .int .i64 i → (xop (ev σ1) (.call { callee := .value (.tmp t), args := #[x], argTypes := ats }) ty).run P w' = .ok (.round l fn tmps assign body) w' := fun σ1 e1' e2' => by
    simp [xop, execOp, resolve, Deferred.ofValue, e1', e2', invoke, hy]
  dsimp only
  rw [hrun (fun i => at1.getD i undef) e1 e2]
  refine ⟨fun hh => (nomatch hh), ?_⟩
  refine RoundIn.mono (show RoundIn (ringF r) (m - 1) P l fn tmps assign body w' _ from hR (m - 1)) ?_
  rintro e w'' ⟨b, rfl, hb⟩
  obtain ⟨T', hT', hF⟩ := (AtF.self g1).put (some d) (.bool b) hd []
  have := hb T' hF
  show wpListIn _ _ _ _ _ l2 ((withD ds ⟨at1, []⟩).put (some d) (.bool b)) w''
  rw [withD_put, hT']
  exact wpList_ring (ds := ds) post_ring post_panic post_out l2 ⟨T', []⟩ w'' h2 this
theorem W.regYi {P : Program} {n : Nat} {kn kr : Cont} {ke : List (Nat × Cont)} {σ : Fr} {w : World} {id : Nat} {l : List Oper} (i : Nat) {d t : Tmp} {x : Operand} {ats : Array TypeId} {ty : TypeId} {pos : String} {af : Array Edge}
    (hi : l[i]? = some ⟨some d, .call { callee := .value (.tmp t), args := #[x], argTypes := ats }, ty, pos, af, none⟩) (hd : Nat.ble (d + 1) n = true)
    (h : Wx P n l.toArray false (l.take i) (fun σ' w' => ∃ y j, σ' t = .func (.yield y) #[] #[] ∧ ev σ' x = .int .i64 j ∧ YieldR P y j w' fun b w'' => Wx P n l.toArray false (l.drop (i + 1)) kn (look [(d, .bool b)] σ') w'') σ w)
    (h1 : noDefer l = true := by rfl) : W P n (.region id l.toArray false) kn kr ke σ w := by
  obtain ⟨hlt, he⟩ := List.getElem?_eq_some_iff.1 hi
  have e : l = l.take i ++ ⟨some d, .call { callee := .value (.tmp t), args := #[x], argTypes := ats }, ty, pos, af, none⟩ :: l.drop (i + 1) := by
    rw [← he, ← List.drop_eq_getElem_cons hlt, List.take_append_drop]
  have hnd : ∀ l' : List Oper, l'.Sublist l → noDefer l' = true := by
    intro l' hs
    have hm := noDefer_mem h1
    clear h e h1 he
    induction l' with
    | nil => rfl
    | cons o l' ih =>
      simp only [noDefer, Bool.and_eq_true]
      refine ⟨?_, ih ((List.sublist_cons_self o l').trans hs)⟩
      have := hm o (hs.subset (by simp))
      split
      · rename_i c hc; exact absurd hc (this c)
      · rfl
  have h2 := W.regY (id := id) (kr := kr) (ke := ke) (kn := kn) (l.take i) (l2 := l.drop (i + 1)) (t := t) (x := x) (ats := ats) (ty := ty) (pos := pos) (af := af) hd (by rw [← e]; exact h) (hnd _ (List.take_sublist i l)) (hnd _ (List.drop_sublist (i + 1) l))
  rw [← e] at h2
  exact h2
theorem YieldR.mono {P : Program} {l : Nat} {m : Int} {w : World} {R R' : Bool → World → Prop} (h : YieldR P l m w R) (hr : ∀ b w', R b w' → R' b w') : YieldR P l m w R' := by
  obtain ⟨fn, tmps, assign, body, h1, h2⟩ := h
  exact ⟨fn, tmps, assign, body, h1, fun k => (h2 k).mono fun e w' ⟨b, e1, hb⟩ => ⟨b, e1, hr b w' hb⟩⟩
end Go.Wk

namespace Go.Wk
open Go.RowKit
theorem St.swap {w0 w : World} {O : List (Option Nat)} {a b : List Ob} (h : St w0 O w (a ++ b)) : St w0 O w (b ++ a) := h.perm List.perm_append_comm
theorem ResIs.cellV {P : Program} {w0 w : World} {O : List (Option Nat)} {obs : List Ob} {g : Nat} {e T : TypeId} {v : Value} {s : Tmp} {σ : Fr} (hS : St w0 O w obs) (i : Nat) (hi : obs[i]? = some (.box g e [v])) (hs : σ s = .pointer (some ⟨g, 0, none⟩))
    (hag : ∀ w', (isAgg T).run P w' = .ok false w') : ResIs P #[.cell s T] σ w v := by
  intro fn hf F n hT
  have hb := hS.get i hi
  have hc : w.cell? ⟨g, 0, none⟩ = some v := by
    rw [cell_of_row w g 0 _ e (0, 0) hb.2]; rfl
  have hl : (loadVar T ⟨g, 0, none⟩).run P w = .ok v w := run_load1 hag hc
  have h1 := hT.2 s
  rw [hs] at h1
  simp only [Array.getD_eq_getD_getElem?] at h1
  simp [results, hf, h1, asAddr, hl]
end Go.Wk

namespace Go.Wk
open Go.RowKit Go.Lib Go.Sort
set_option linter.unusedVariables false
variable {P : Program} {n : Nat} {kn kr : Cont} {ke : List (Nat × Cont)} {σ : Fr} {w : World}

def Wc (P : Program) (n : Nat) (ops : Array Oper) (C : World → Prop) (rest : List Oper) (k : Cont) (σ : Fr) : Prop :=
  ∀ T, AtF n σ T → wpQuiet P ops C (fun a' => a'.tmps.size = n ∧ a'.defers = [] ∧ ∀ w', C w' → k (fun i => a'.tmps.getD i undef) w') rest ⟨T, []⟩

theorem W.regionC {C : World → Prop} {id : Nat} {l : List Oper} (hm : P.follows .mixedOrders = true) (hd : noDefer l = true) (hB : Region.lexB .any l.toArray = true) (hC : C { w with drawn := w.drawn + 1 }) (h : Wc P n l.toArray C l kn σ) :
    W P n (.region id l.toArray true) kn kr ke σ w := by
  refine W.ofAny hm hd fun T hT => ?_
  simp only [Region.lexB, Bool.and_eq_true] at hB
  have hgo : wpQuiet P l.toArray C (fun a' => ∀ w', C w' → post n kn (fun _ _ => False) [] .normal a' w') l ⟨T, []⟩ → wpAny P .any l.toArray (post n kn (fun _ _ => False) []) l.toArray.size (Array.replicate l.toArray.size false) ⟨T, []⟩ { w with drawn := w.drawn + 1 } := fun hq => by
    refine wpAny_of_quiet (Q := fun a' => ∀ w', C w' → post n kn (fun _ _ => False) [] .normal a' w') (fun _ w' hw' h => h w' hw') _ _ _ _ hC ?_
    have := wpAnyQ_lex (C := C) (md := .any) hB.1 l 0 (Array.replicate l.toArray.size false) ⟨T, []⟩ (by simp) (by simpa using hB.2) hq
    simpa using this
  refine hgo ?_
  clear hgo
  have := h T hT
  generalize hQ : (fun a' : Act => a'.tmps.size = n ∧ a'.defers = [] ∧ ∀ w', C w' → kn (fun i => a'.tmps.getD i undef) w') = Q at this
  have hQ' : ∀ a', Q a' → ∀ w', C w' → post n kn (fun _ _ => False) [] .normal a' w' := by
    subst hQ
    exact fun a' h w' hw' => ⟨h.1, h.2.1, h.2.2 w' hw'⟩
  clear hQ h
  show wpQuiet P l.toArray C _ l ⟨T, []⟩
  revert this
  generalize hops : l.toArray = ops
  clear hops hB hd
  generalize (Act.mk T []) = a
  clear hT T
  revert a
  induction l with
  | nil => intro a h; exact hQ' a h
  | cons o l ih =>
    intro a h
    simp only [wpQuiet] at h ⊢
    split
    · rename_i hw
      rw [if_pos hw] at h
      exact Oper.quiet_mono (fun a h => ih a h) h
    · rename_i hw
      rw [if_neg hw] at h
      exact ih _ h

theorem Wc.nil {ops : Array Oper} {C : World → Prop} {k : Cont} (h : ∀ w', C w' → k σ w') : Wc P n ops C [] k σ :=
  fun T hT => wpQuiet_nil ⟨hT.1, rfl, fun w' hw' => by rw [hT.fun_eq]; exact h w' hw'⟩

theorem Wc.val {ops : Array Oper} {C : World → Prop} {rest : List Oper} {k : Cont} {d : Tmp} {op : Op} {ty : TypeId} {pos : String} {af : Array Edge} {v : Value} {l : List (Nat × Value)} {σ0 : Fr}
    (hr : ∀ w', C w' → (xop (ev (look l σ0)) op ty).run P w' = .ok (.value v) w') (hd : Nat.ble (d + 1) n = true)
    (h : Wc P n ops C rest k (look ((d, v) :: l) σ0)) : Wc P n ops C (⟨some d, op, ty, pos, af, none⟩ :: rest) k (look l σ0) := by
  intro T hT
  have hw : Region.wanted (⟨some d, op, ty, pos, af, none⟩ : Oper) (yielded ops (Act.mk T []).tmps) = true := rfl
  obtain ⟨T', hT', hF⟩ := hT.put (some d) v hd []
  refine wpQuiet_step fun K hK => ?_
  rw [if_pos hw]
  refine ⟨v, fun w' hw' => ?_, ?_⟩
  · unfold Oper.quietAt
    rw [hT.eval, execOp_xop]
    dsimp only
    rw [hr w' hw']
    exact ⟨rfl, rfl⟩
  · rw [hT']
    rw [look_cons] at h
    exact hK _ (h T' hF)

theorem Wc.call {ops : Array Oper} {C : World → Prop} {rest : List Oper} {k : Cont} {d : Tmp} {op : Op} {ty : TypeId} {pos : String} {af : Array Edge} {f : FuncId} {args : Array Value} {v : Value} {l : List (Nat × Value)} {σ0 : Fr}
    (hrun : ∀ w', (xop (ev (look l σ0)) op ty).run P w' = .ok (.enter f args) w') (hc : ∀ w', C w' → Calls P f args w' (Bk fun r w2 => r = v ∧ C w2)) (hd : Nat.ble (d + 1) n = true)
    (h : Wc P n ops C rest k (look ((d, v) :: l) σ0)) : Wc P n ops C (⟨some d, op, ty, pos, af, none⟩ :: rest) k (look l σ0) := by
  intro T hT
  have hw : Region.wanted (⟨some d, op, ty, pos, af, none⟩ : Oper) (yielded ops (Act.mk T []).tmps) = true := rfl
  obtain ⟨T', hT', hF⟩ := hT.put (some d) v hd []
  refine wpQuiet_step fun K hK => ?_
  rw [if_pos hw]
  refine ⟨v, fun w' hw' => ?_, ?_⟩
  · unfold Oper.quietAt
    rw [hT.eval, execOp_xop]
    dsimp only
    rw [hrun w']
    refine ⟨rfl, Calls.mono (hc w' hw') ?_⟩
    rintro e w2 ⟨r, rfl, rfl, h2⟩
    exact ⟨rfl, h2⟩
  · rw [hT']
    rw [look_cons] at h
    exact hK _ (h T' hF)

def Drew (w w' : World) : Prop := ∃ q, w' = w.drewN q
theorem Drew.ext {w' : World} (h : Drew w w') : Ext w w' := by
  obtain ⟨q, rfl⟩ := h; exact ⟨rfl, rfl, rfl, Nat.le_refl _, fun _ _ => rfl⟩
theorem Drew.one : Drew w { w with drawn := w.drawn + 1 } := ⟨1, rfl⟩
theorem Wc.rd {ops : Array Oper} {rest : List Oper} {k : Cont} {d : Tmp} {op : Op} {ty : TypeId} {pos : String} {af : Array Edge} {v : Value} {l : List (Nat × Value)} {σ0 : Fr}
    (hr : Rd P (look l σ0) op ty w v) (hd : Nat.ble (d + 1) n = true) (h : Wc P n ops (Drew w) rest k (look ((d, v) :: l) σ0)) : Wc P n ops (Drew w) (⟨some d, op, ty, pos, af, none⟩ :: rest) k (look l σ0) :=
  Wc.val (fun w' hw' => hr w' hw'.ext) hd h

theorem rd_sliceArrB {g o m : Nat} {e : TypeId} {sz : Nat} {T ty : TypeId} {x : Operand} (hu : P.underlying T = some (.array m e)) (hsz : ∀ w', (sizeOf e).run P w' = .ok sz w') (hx : ev σ x = .pointer (some ⟨g, o, none⟩)) :
    Rd P σ (.slice T x none none none) ty w (.slice (some ⟨g, o, none⟩) m m) :=
  Rd.of fun w' => by
    have hr : (Instr.sliceAt T (.pointer (some ⟨g, o, none⟩)) none none none).run P w' = .ok (.slice (some ⟨g, o, none⟩) m m) w' := by
      simp [Instr.sliceAt, Instr.sureAddr, run_underlying hu, Instr.sliceBounds, run_sliceBound, hsz, Addr.add]
    simp only [xop, execOp, hx, Option.map_none, Sem.run_bind, hr]
    rfl

theorem Wo.boxX {ops : Array Oper} {rest : List Oper} {k : Cont} {d : Tmp} {T : TypeId} {x : Operand} {ty : TypeId} {pos : String} {af : Array Edge} {l : List (Nat × Value)} {σ0 : Fr} {v : Value} {cs : List Value} {w0 : World} {O : List (Option Nat)} {obs : List Ob} (hS : St w0 O w obs)
    (hx : ev (look l σ0) x = v) (hc : v.cells = cs.toArray) (hd : Nat.ble (d + 1) n = true)
    (h : St w0 O (grow w #[.cells cs.toArray T]) (.box w.heap.size T cs :: obs) → Wx P n ops false rest k (look ((d, .pointer (some ⟨w.heap.size, 0, none⟩)) :: l) σ0) (grow w #[.cells cs.toArray T])) :
    Wx P n ops false (⟨some d, .box T x, ty, pos, af, none⟩ :: rest) k (look l σ0) w := by
  refine Wx.val (v := .pointer (some ⟨w.heap.size, 0, none⟩)) (w' := w.alloc (.cells cs.toArray T)) ?_ hd ?_
  · simp [xop, execOp, Instr.box, newVar, newRow, hx, hc]
  · rw [alloc_eq_grow]
    exact h (by rw [← alloc_eq_grow]; exact hS.new T cs)
end Go.Wk

namespace Go.Wk
open Go.RowKit Go.Lib Go.Sort
set_option linter.unusedVariables false
variable {w w' w0 : World} {O : List (Option Nat)} {obs : List Ob} {α : Type} {t : Ty α} {e : TypeId} {v : Value} {ys ys' : List α}

theorem St.rowOpen (hS : St w0 O w obs) (i : Nat) (hi : obs[i]? = some (.row t e v ys)) (hne : 0 < ys.length) :
    ∃ g cap cur cs, v = .slice (some ⟨g, 0, none⟩) ys.length cap ∧ w.heap[g]? = some (.cells cur e (0, 0)) ∧ cur.toList.take (ys.length * t.n) = cs ∧ cs.length = ys.length * t.n ∧ Reps t (fb obs O) w ys cs := by
  obtain ⟨cs, hr, hR⟩ := hS.get i hi
  rcases hr.2 with ⟨_, h0⟩ | ⟨g, cap, cur, hv, h1, h2, h3, h4, h5, h6⟩
  · omega
  · exact ⟨g, cap, cur, cs, hv, h2, h6, hr.1, hR⟩

theorem St.putIn {cur cur' : Array Value} {g cap : Nat} {cs' : List Value} (hS : St w0 O w obs) (i : Nat) (hi : obs[i]? = some (.row t e v ys)) (hv : v = .slice (some ⟨g, 0, none⟩) ys.length cap) (hg : w.heap[g]? = some (.cells cur e (0, 0)))
    (hne : 0 < ys.length) (hlen : ys'.length = ys.length) (hos : w'.os = w.os) (htape : w'.tape = w.tape) (hout : w'.output = w.output) (hsz : w.heap.size ≤ w'.heap.size) (hbl : ∀ b, b < w.heap.size → b ≠ g → w'.heap[b]? = w.heap[b]?)
    (hg' : w'.heap[g]? = some (.cells cur' e (0, 0))) (hcs : cur'.size = cur.size) (ht : cur'.toList.take (ys.length * t.n) = cs') (hl : cs'.length = ys.length * t.n) (hR' : Reps t (fb obs O) w ys' cs') :
    St w0 O w' (obs.set i (.row t e v ys')) := by
  obtain ⟨cs, hr, hR⟩ := hS.get i hi
  have hlt : g < w.heap.size := (Array.getElem?_eq_some_iff.1 hg).1
  refine hS.turn i hi hos htape hout hsz (fun b hb hb' => hbl b hb fun hq => hb' (by subst hq; rw [hv]; rfl)) (fun b hb' => .inl hb') (fun b hb' => ?_) (fun F hM => ?_)
  · have : b = g := by rw [show (Ob.row t e v ys').blk = v.ownBlock from rfl, hv] at hb'; simpa [Value.ownBlock] using hb'.symm
    omega
  · rcases hr.2 with ⟨_, h0⟩ | ⟨g2, cap2, cur2, hv2, h1, h2, h3, h4, h5, h6⟩
    · omega
    · rw [hv] at hv2
      simp only [Value.slice.injEq, Option.some.injEq, Addr.mk.injEq, true_and, and_true] at hv2
      obtain ⟨rfl, rfl⟩ := hv2
      rw [hg] at h2
      simp only [Option.some.injEq, Obj.cells.injEq, true_and, and_true] at h2
      subst h2
      exact ⟨cs', ⟨by rw [hl, hlen], .inr ⟨g, cap, cur', by rw [hlen]; exact hv, h1, hg', by rw [hlen]; exact h3, h4, by rw [hcs]; exact h5, by rw [hlen]; exact ht⟩⟩, hR'.mv hM⟩

theorem putCells_take {β : Type} [Inhabited β] (enc : β → Value) (d : Array β) (c : Array Value) (h : d.size ≤ c.size) : (putCells enc 0 d c).toList.take d.size = d.toList.map enc := by
  apply List.ext_getElem?
  intro k
  rw [List.getElem?_take]
  by_cases hk : k < d.size
  · rw [if_pos hk, Array.getElem?_toList, putCells, Array.getElem?_mapIdx, Array.getElem?_eq_getElem (show k < c.size by omega), Option.map_some, if_pos ⟨Nat.zero_le _, by omega⟩, List.getElem?_map, Array.getElem?_toList, Array.getElem?_eq_getElem hk, Option.map_some]
    simp [hk]
  · rw [if_neg hk, List.getElem?_eq_none (by simp; omega)]
theorem heap_put {β : Type} [Inhabited β] (enc : β → Value) (d : Array β) {g n : Nat} {os : Array Obj} {cur : Array Value} (hg : w.heap[g]? = some (.cells cur e (0, 0))) :
    (grow (putRow enc (Sort.ahead w n) g 0 d) os).heap[g]? = some (.cells (putCells enc 0 d cur) e (0, 0)) := by
  have hlt : g < w.heap.size := (Array.getElem?_eq_some_iff.1 hg).1
  rw [heap_grow_old _ _ (by simp [putRow, mapBlock, Sort.ahead]; exact hlt)]
  simp only [putRow, mapBlock, Sort.ahead, Array.getElem?_modify, if_true, hg, Option.map_some, onCells]
theorem heap_put_other {β : Type} [Inhabited β] (enc : β → Value) (d : Array β) {g n b : Nat} {os : Array Obj} (hb : b < w.heap.size) (hne : b ≠ g) :
    (grow (putRow enc (Sort.ahead w n) g 0 d) os).heap[b]? = w.heap[b]? := by
  rw [heap_grow_old _ _ (by simp [putRow, mapBlock, Sort.ahead]; exact hb)]
  simp [putRow, mapBlock, Sort.ahead, Array.getElem?_modify, Ne.symm hne]
theorem St.putRowAt {β : Type} [Inhabited β] {enc : β → Value} {d : Array β} {cur : Array Value} {g cap n : Nat} {os : Array Obj} (hS : St w0 O w obs) (i : Nat) (hi : obs[i]? = some (.row t e v ys)) (hv : v = .slice (some ⟨g, 0, none⟩) ys.length cap) (hg : w.heap[g]? = some (.cells cur e (0, 0)))
    (hne : 0 < ys.length) (hlen : ys'.length = ys.length) (hd : d.size = ys.length * t.n) (hc : ys.length * t.n ≤ cur.size) (hR' : Reps t (fb obs O) w ys' (d.toList.map enc)) :
    St w0 O (grow (putRow enc (Sort.ahead w n) g 0 d) os) (obs.set i (.row t e v ys')) := by
  refine hS.putIn i hi hv hg hne hlen rfl rfl rfl (by simp [putRow, mapBlock, Sort.ahead]) (fun b hb hbg => heap_put_other enc d hb hbg) (heap_put enc d hg) (by simp [putCells]) ?_ (by simp [hd]) hR'
  rw [← hd]; exact putCells_take enc d cur (by omega)

theorem holds_of {β : Type} [Inhabited β] {enc : β → Value} {d : Array β} {cur : Array Value} {g : Nat} (hg : w.heap[g]? = some (.cells cur e (0, 0))) (h : cur.toList.take d.size = d.toList.map enc) : Holds enc w g 0 d := by
  intro j hj
  have h1 : (d.toList.map enc)[j]? = some (enc d[j]!) := by simp [hj]
  rw [← h, List.getElem?_take, if_pos hj, Array.getElem?_toList] at h1
  exact ⟨by simp [World.cell?, hg, h1], by simp [World.frozen?, hg]⟩

theorem repsA_int {F : List (Option Nat)} {k : IntKind} : ∀ {ys : List Int} {cs : List Value}, Reps (tI k) F w ys cs → cs = ys.map (Value.int k) ∧ ∀ y ∈ ys, InK k y := by
  intro ys cs h
  have hn : (tI k).n = 1 := rfl
  have hl : cs.length = ys.length := by rw [h.1, hn, Nat.mul_one]
  have hat : ∀ i y, ys[i]? = some y → cs[i]? = some (Value.int k y) ∧ InK k y := fun i y hy => by
    obtain ⟨h1, h2⟩ := h.2 i y hy
    rw [hn, Nat.mul_one] at h1
    have : ((cs.drop i).take 1)[0]? = some (Value.int k y) := by rw [h1]; rfl
    rw [List.getElem?_take, if_pos (by omega), List.getElem?_drop, Nat.add_zero] at this
    exact ⟨this, h2⟩
  refine ⟨List.ext_getElem? fun i => ?_, fun y hy => ?_⟩
  · rw [List.getElem?_map]
    cases hy : ys[i]? with
    | none => rw [List.getElem?_eq_none (by have := List.getElem?_eq_none_iff.1 hy; omega)]; rfl
    | some y => rw [(hat i y hy).1]; rfl
  · obtain ⟨i, hi⟩ := List.mem_iff_getElem?.1 hy
    exact (hat i y hi).2
theorem repsA_ints {F : List (Option Nat)} {k : IntKind} {ys : List Int} (h : ∀ y ∈ ys, InK k y) : Reps (tI k) F w ys (ys.map (Value.int k)) := by
  refine ⟨by simp [tI], fun i z hz => ⟨?_, h z (List.mem_of_getElem? hz)⟩⟩
  apply List.ext_getElem?
  intro q
  have hn : (tI k).n = 1 := rfl
  rw [hn, Nat.mul_one, List.getElem?_take]
  cases q with
  | zero => rw [if_pos (by omega), List.getElem?_drop, List.getElem?_map, Nat.add_zero, hz]; rfl
  | succ q => rw [if_neg (by omega)]; rfl

theorem St.sortI {k : IntKind} {v : Value} {ys ys' : List Int} {n : Nat} {os : Array Obj} {g cap : Nat} (hS : St w0 O w obs) (i : Nat) (hi : obs[i]? = some (.row (tI k) e v ys)) (hne : 0 < ys.length) (hp : ys'.Perm ys) (hv : v = .slice (some ⟨g, 0, none⟩) ys.length cap) :
    St w0 O (grow (putRow (Value.int k) (Sort.ahead w n) g 0 ys'.toArray) os) (obs.set i (.row (tI k) e v ys')) := by
  obtain ⟨g', cap', cur, cs, hv', hg, h6, hl, hR⟩ := hS.rowOpen i hi hne
  rw [hv] at hv'
  simp only [Value.slice.injEq, Option.some.injEq, Addr.mk.injEq, true_and, and_true] at hv'
  obtain ⟨rfl, rfl⟩ := hv'
  obtain ⟨rfl, hin⟩ := repsA_int hR
  have hn : (tI k).n = 1 := rfl
  have hle : ys.length ≤ cur.size := by
    have := congrArg List.length h6
    simp [hn] at this; omega
  exact hS.putRowAt i hi hv hg hne hp.length_eq (by simp [hn, hp.length_eq]) (by rw [hn, Nat.mul_one]; exact hle) (repsA_ints fun y hy => hin y (hp.mem_iff.1 hy))
theorem St.holdsI {k : IntKind} {v : Value} {ys : List Int} (hS : St w0 O w obs) (i : Nat) (hi : obs[i]? = some (.row (tI k) e v ys)) (hne : 0 < ys.length) :
    ∃ g cap, v = .slice (some ⟨g, 0, none⟩) ys.length cap ∧ Holds (Value.int k) w g 0 ys.toArray ∧ g < w.heap.size := by
  obtain ⟨g, cap, cur, cs, hv, hg, h6, hl, hR⟩ := hS.rowOpen i hi hne
  obtain ⟨rfl, hin⟩ := repsA_int hR
  exact ⟨g, cap, hv, holds_of hg (by simpa [tI] using h6), (Array.getElem?_eq_some_iff.1 hg).1⟩
end Go.Wk
namespace Go.Wk
open Go.RowKit Go.Lib Go.Sort
set_option linter.unusedVariables false
theorem flatMap_get {α : Type} [Inhabited α] {enc : α → List Value} {k : Nat} (hk0 : 0 < k) (hk : ∀ x, (enc x).length = k) : ∀ (l : List α) (t : Nat), t < l.length * k → (l.flatMap enc)[t]? = (enc l[t / k]!)[t % k]?
  | [], t, h => by simp at h
  | x :: l, t, h => by
    rw [List.flatMap_cons]
    by_cases ht : t < k
    · rw [List.getElem?_append_left (by rw [hk]; exact ht), Nat.div_eq_of_lt ht, Nat.mod_eq_of_lt ht]; rfl
    · have hkt : k ≤ t := Nat.le_of_not_lt ht
      rw [List.getElem?_append_right (by rw [hk]; exact hkt), hk, flatMap_get hk0 hk l (t - k) (by rw [List.length_cons, Nat.succ_mul] at h; omega)]
      rw [show t / k = (t - k) / k + 1 by rw [Nat.div_eq_sub_div hk0 hkt], show t % k = (t - k) % k by rw [Nat.mod_eq_sub_mod hkt]]
      simp
theorem flatK_list {α : Type} [Inhabited α] {enc : α → List Value} {k : Nat} (hk0 : 0 < k) (hk : ∀ x, (enc x).length = k) (l : List α) : (flatK enc k l.toArray).toList = l.flatMap enc := by
  have hlen : (l.flatMap enc).length = l.length * k := by
    induction l with
    | nil => simp
    | cons x l ih => rw [List.flatMap_cons, List.length_append, ih, hk, List.length_cons, Nat.succ_mul]; omega
  apply List.ext_getElem?
  intro t
  by_cases ht : t < l.length * k
  · have hd : t / k < l.length := (Nat.div_lt_iff_lt_mul hk0).2 ht
    have hm : t % k < (enc l[t / k]!).length := by rw [hk]; exact Nat.mod_lt _ hk0
    rw [flatMap_get hk0 hk l t ht, List.getElem?_eq_getElem hm]
    have e1 : (enc l[t / k]!)[t % k]! = (enc l[t / k]!)[t % k] := getElem!_pos (enc l[t / k]!) (t % k) hm
    rw [← e1]
    simp [flatK, ht]
  · rw [List.getElem?_eq_none (by simp; omega), List.getElem?_eq_none (by rw [hlen]; omega)]
section
variable {w w' w0 : World} {O : List (Option Nat)} {obs : List Ob} {α : Type} {t : Ty α} {e : TypeId} {v : Value} {ys ys' : List α} {F : List (Option Nat)}
theorem reps_flat {enc : α → List Value} (he : ∀ F w x cs, t.rep F w x cs → cs = enc x) : ∀ {ys : List α} {cs : List Value}, Reps t F w ys cs → cs = ys.flatMap enc
  | [], cs, h => by have := h.1; simp at this; subst this; rfl
  | y :: ys, cs, h => by
    have h0 := h.2 0 y rfl
    rw [Nat.zero_mul, List.drop_zero] at h0
    have ht := h.drop 1
    simp only [List.drop_succ_cons, List.drop_zero, Nat.one_mul] at ht
    rw [List.flatMap_cons, ← he _ _ _ _ h0, ← reps_flat he ht, List.take_append_drop]
theorem reps_flats {enc : α → List Value} : ∀ {ys : List α}, (∀ y ∈ ys, t.rep F w y (enc y)) → Reps t F w ys (ys.flatMap enc)
  | [], _ => Reps.nil
  | y :: ys, h => by
    have h0 := h y (by simp)
    have h1 := reps_flats (ys := ys) fun z hz => h z (by simp [hz])
    have : Reps t F w [y] (enc y) := ⟨by rw [t.len h0]; simp, fun i z hz => by
      cases i with
      | zero => simp at hz; subst hz; rw [Nat.zero_mul, List.drop_zero, List.take_of_length_le (by rw [t.len h0]; omega)]; exact h0
      | succ i => simp at hz⟩
    exact this.append h1
theorem reps_mem : ∀ {ys : List α} {cs : List Value}, Reps t F w ys cs → ∀ y ∈ ys, ∃ c, t.rep F w y c := fun h y hy => by
  obtain ⟨i, hi⟩ := List.mem_iff_getElem?.1 hy
  exact ⟨_, h.2 i y hi⟩
theorem St.holdsK {β : Type} [Inhabited β] {enc : α → List Value} {g : β → α} (he : ∀ F w x cs, t.rep F w x cs → cs = enc x) (hk0 : 0 < t.n) (hk : ∀ x, (enc x).length = t.n) (hS : St w0 O w obs) (i : Nat) (hi : obs[i]? = some (.row t e v ys)) (hne : 0 < ys.length) {l : List β} (hl : l.map g = ys) :
    ∃ b cap, v = .slice (some ⟨b, 0, none⟩) l.toArray.size cap ∧ HoldsK (fun x => enc (g x)) t.n w b 0 l.toArray ∧ b < w.heap.size ∧
      ∀ (l' : List β) (n : Nat) (os : Array Obj), l'.Perm l → St w0 O (Go.Proofs.sortWorldK (fun x => enc (g x)) t.n w b 0 n l'.toArray os) (obs.set i (.row t e v (l'.map g))) := by
  subst hl
  obtain ⟨b, cap, cur, cs, hv, hg, h6, hlen, hR⟩ := hS.rowOpen i hi hne
  have hcs := reps_flat he hR
  have hsz : (l.map g).length = l.toArray.size := by simp
  have hfl : ∀ l' : List β, (flatK (fun x => enc (g x)) t.n l'.toArray).toList = (l'.map g).flatMap enc := fun l' => by
    rw [flatK_list hk0 (fun x => hk (g x)), List.flatMap_map]
  have hcur : (l.map g).length * t.n ≤ cur.size := by
    have := congrArg List.length h6
    rw [hlen, List.length_take] at this
    have h2 : cur.toList.length = cur.size := Array.length_toList
    omega
  refine ⟨b, cap, by rw [← hsz]; exact hv, holds_of hg ?_, (Array.getElem?_eq_some_iff.1 hg).1, fun l' n os hp => ?_⟩
  · rw [hfl, List.map_id, ← hcs, ← h6, size_flatK, ← hsz]
  · refine hS.putRowAt i hi hv hg hne (by simp [hp.length_eq]) (by rw [size_flatK]; simp [hp.length_eq]) hcur ?_
    rw [hfl, List.map_id]
    refine reps_flats fun y hy => ?_
    obtain ⟨x, hx, rfl⟩ := List.mem_map.1 hy
    obtain ⟨c, hc⟩ := reps_mem hR (g x) (List.mem_map.2 ⟨x, hp.mem_iff.1 hx, rfl⟩)
    rw [← he _ _ _ _ hc]; exact hc
end
end Go.Wk

namespace Go.Wk
open Go.RowKit Go.Lib
set_option linter.unusedVariables false
variable {P : Program} {n : Nat} {w w0 : World} {O : List (Option Nat)} {obs : List Ob} {ops : Array Oper} {rest : List Oper} {kc : Cont} {d : Tmp} {ty : TypeId} {pos : String} {af : Array Edge}
  {l : List (Nat × Value)} {σ0 σ : Fr} {T : TypeId} {x y z lo : Operand} {k : IntKind}

def QTail (v : Value) (j : Nat) (q : Value) : Prop :=
  ∃ (g : Nat) (m cap : Nat) (a : Addr), v = .slice (some ⟨g, 0, none⟩) m cap ∧ j ≤ m ∧ m ≤ cap ∧ q = .slice (some a) (m - j) (cap - j) ∧ (j < cap → a = ⟨g, j, none⟩)

theorem QTail.self {α : Type} {t : Ty α} {e : TypeId} {v : Value} {ys : List α} (hS : St w0 O w obs) (i : Nat) (hi : obs[i]? = some (.row t e v ys)) (h : 0 < ys.length) : QTail v 0 v := by
  obtain ⟨cs, hr, _⟩ := hS.get i hi
  rcases hr.2 with ⟨_, h0⟩ | ⟨g, cap, cur, hv, h1, h2, h3, h4, h5, h6⟩
  · omega
  · exact ⟨g, ys.length, cap, ⟨g, 0, none⟩, hv, Nat.zero_le _, h3, hv, fun _ => rfl⟩
theorem QTail.oneC {v q : Value} {j : Nat} (h : QTail v j q) : q.oneCell' = true := by
  obtain ⟨g, m, cap, a, _, _, _, rfl, _⟩ := h; rfl
theorem QTail.le {α : Type} {t : Ty α} {e : TypeId} {v q : Value} {ys : List α} {j : Nat} (h : QTail v j q) (hS : St w0 O w obs) (i : Nat) (hi : obs[i]? = some (.row t e v ys)) :
    ∃ g cap a, v = .slice (some ⟨g, 0, none⟩) ys.length cap ∧ j ≤ ys.length ∧ ys.length ≤ cap ∧ q = .slice (some a) (ys.length - j) (cap - j) ∧ (j < cap → a = ⟨g, j, none⟩) := by
  obtain ⟨g, m, cap, a, hv, h1, h2, h3, h4⟩ := h
  obtain ⟨cs, hr, _⟩ := hS.get i hi
  rcases hr.2 with ⟨h0, _⟩ | ⟨g', cap', cur, hv', _⟩
  · rw [hv] at h0; cases h0
  · rw [hv] at hv'
    simp only [Value.slice.injEq, Option.some.injEq, Addr.mk.injEq, true_and, and_true] at hv'
    obtain ⟨rfl, rfl, rfl⟩ := hv'
    exact ⟨g, cap, a, hv, h1, h2, h3, h4⟩

theorem rd_lenQ {α : Type} {t : Ty α} {e et : TypeId} {v q : Value} {ys : List α} {j : Nat} (hS : St w0 O w obs) (i : Nat) (hi : obs[i]? = some (.row t et v ys)) (hq : QTail v j q) (hx : ev σ x = q)
    (hu : P.underlying T = some (.slice e)) : Rd P σ (.call { callee := .builtin .len, args := #[x], argTypes := #[T] }) ty w (.int .i64 ((ys.drop j).length : Int)) := by
  obtain ⟨g, cap, a, _, h1, h2, rfl, _⟩ := hq.le hS i hi
  rw [List.length_drop]
  exact rd_len hx hu

theorem rd_tailQ {e et : TypeId} {v q : Value} {ys : List Int} {j : Nat} {kk : IntKind} (hS : St w0 O w obs) (i : Nat) (hi : obs[i]? = some (.row (tI k) et v ys)) (hq : QTail v j q) (hu : P.underlying T = some (.slice e))
    (hsz : ∀ w', (sizeOf e).run P w' = .ok 1 w') (hx : ev σ z = q) (hl : ev σ lo = .int kk 1) (h1 : j < ys.length) :
    ∃ q', Rd P σ (.slice T z (some lo) none none) ty w q' ∧ QTail v (j + 1) q' := by
  obtain ⟨g, cap, a, hv, q1, q2, rfl, q3⟩ := hq.le hS i hi
  have ha := q3 (by omega)
  subst ha
  refine ⟨_, Rd.of fun w' => ?_, ⟨g, ys.length, cap, if cap - j = 1 then ⟨g, j, none⟩ else ⟨g, j + 1, none⟩, hv, h1, q2, rfl, fun h => ?_⟩⟩
  · simp only [xop, execOp, hx, Option.map_some, Option.map_none, hl, Sem.run_bind, run_sliceV hu hsz (bounds_l (P := P) (len := ys.length - j) (cap := cap - j) (l := 1) (by omega) (by omega))]
    have e1 : (1 : Int).toNat = 1 := rfl
    simp only [sliced, e1]
    by_cases hc : cap - j = 1
    · rw [if_pos hc, if_pos hc]; simp [Nat.sub_sub]
    · rw [if_neg hc, if_neg hc]; simp [Nat.sub_sub, Addr.add]
  · rw [if_neg (by omega)]

theorem Wx.indexQ {q0 : Bool} {e et : TypeId} {v q : Value} {ys : List Int} {j : Nat} {kk : IntKind} (hS : St w0 O w obs) (i : Nat) (hi : obs[i]? = some (.row (tI k) et v ys)) (hq : QTail v j q) (hx : ev (look l σ0) x = q)
    (hy : ev (look l σ0) y = .int kk 0) (hu : P.underlying T = some (.slice e)) (hsz : ∀ w', (sizeOf e).run P w' = .ok 1 w') (h1 : j < ys.length) (hd : Nat.ble (d + 1) n = true)
    (h : ∀ g, v.ownBlock = some g → Wx P n ops q0 rest kc (look ((d, .pointer (some ⟨g, ((j : Nat) : Int).toNat * 1, none⟩)) :: l) σ0) w) :
    Wx P n ops q0 (⟨some d, .indexAddr T x y, ty, pos, af, none⟩ :: rest) kc (look l σ0) w := by
  obtain ⟨g, cap, a, hv, q1, q2, rfl, q3⟩ := hq.le hS i hi
  have ha := q3 (by omega)
  subst ha
  have := run_indexSl (P := P) (w := w) (ty := ty) (σ := look l σ0) (n := 0) hx hy hu hsz (by omega) (by omega)
  rw [Addr.add_lit] at this
  refine Wx.rd this hd ?_
  have hh := h g (by rw [hv]; rfl)
  simpa using hh

theorem run_append_roomAt (t ty e : TypeId) (i : TypeInfo) (ht : P.underlying t = some (.slice e)) (hi : P.info? e = some i) (w : World)
    (g o sLen sCap : Nat) (cur : Array Value) (hg : w.heap[g]? = some (.cells cur e (0, 0)))
    (a : Addr) (m c : Nat) (news : List Value) (hl : news.length = m * i.size) (hnews : ∀ j u, news[j]? = some u → w.cell? (a.add j) = some u) (h1 : ∀ u ∈ news, u.oneCell' = true)
    (hroom : sLen + m ≤ sCap) (hfit : o + sLen * i.size + news.length ≤ cur.size) :
    (Builtin.append_ #[t, t] ty #[.slice (some ⟨g, o, none⟩) sLen sCap, .slice (some a) m c]).run P w =
      .ok (.slice (some ⟨g, o, none⟩) (sLen + m) sCap) (w.setRow g (cur.toList.take (o + sLen * i.size) ++ news ++ cur.toList.drop (o + sLen * i.size + news.length)).toArray) := by
  have hf := run_firstCells_some (P := P) w i.size m a m c news hl hnews
  have hst := run_storeCells_at P g (o + sLen * i.size) e news 0 cur w hg (by simpa using hfit) h1
  simp only [Nat.add_zero] at hst
  simp [Builtin.append_, run_underlying ht, sizeOf, typeInfo, hi, Builtin.lenOf, hroom, hf, Addr.add_lit, hst]

theorem Wx.appendQ {e : TypeId} {v q u : Value} {ys zs : List Int} {zv : Value} {bytes j : Nat} (hE : ElemI P T e zv 1 bytes) (hS : St w0 O w obs) (i : Nat) (hi : obs[i]? = some (.row (tI k) e v ys)) (hq : QTail v j q)
    (hx : ev (look l σ0) x = q) (hy : ev (look l σ0) y = u) (hu : Src (tI k) zs u (fb obs O) w) (hne : zs ≠ []) (h63 : ys.length + zs.length ≤ 100000) (hb : (ys.length + zs.length) * bytes ≤ 140737488355328) (hd : Nat.ble (d + 1) n = true)
    (h : ∀ v' q' ys' j' w', w.heap.size ≤ w'.heap.size → QTail v' j' q' → ys'.drop j' = ys.drop j ++ zs → ys'.length ≤ ys.length + zs.length → j' ≤ ys'.length → St w0 O w' (obs.set i (.row (tI k) e v' ys')) → Wx P n ops false rest kc (look ((d, q') :: l) σ0) w') :
    Wx P n ops false (⟨some d, .call { callee := .builtin .append, args := #[x, y], argTypes := #[T, T] }, ty, pos, af, none⟩ :: rest) kc (look l σ0) w := by
  obtain ⟨cs, hr, hR⟩ := hS.get i hi
  obtain ⟨a, c, ds, rfl, g1, g2, g3, g4⟩ := hu
  obtain ⟨ad, rfl⟩ := g3 hne
  obtain ⟨ti, hti, hz, hsz, hby⟩ := hE.info
  obtain ⟨g, cap, a0, hv, q1, q2, rfl, q3⟩ := hq.le hS i hi
  have hn1 : (tI k).n = 1 := rfl
  have hzl : 0 < zs.length := List.length_pos_iff.2 hne
  have hdl : ds.length = zs.length := by rw [g1.1, hn1, Nat.mul_one]
  have hcl : cs.length = ys.length := by rw [hR.1, hn1, Nat.mul_one]
  subst hby
  rcases hr.2 with ⟨h0, _⟩ | ⟨g', cap', cur, hv', r1, r2, r3, r4, r5, r6⟩
  · rw [hv] at h0; cases h0
  rw [hv] at hv'
  simp only [Value.slice.injEq, Option.some.injEq, Addr.mk.injEq, true_and, and_true] at hv'
  obtain ⟨rfl, rfl⟩ := hv'
  rw [hn1, Nat.mul_one] at r5 r6
  have hcurl : cur.toList.length = cap := by simpa using r5
  by_cases hroom : ys.length - j + zs.length ≤ cap - j
  · have hjc : j < cap := by omega
    have ha := q3 hjc
    subst ha
    have hrun := run_append_roomAt (P := P) T ty e ti hE.und hti w g j (ys.length - j) (cap - j) cur r2 ad zs.length c ds (by rw [g1.1, hn1, hsz]) (g4 ad rfl) g2 hroom (by rw [hsz, hdl]; omega)
    rw [hsz, Nat.mul_one, show j + (ys.length - j) = ys.length by omega] at hrun
    refine Wx.val (v := .slice (some ⟨g, j, none⟩) (ys.length - j + zs.length) (cap - j)) (w' := w.setRow g (cur.toList.take ys.length ++ ds ++ cur.toList.drop (ys.length + ds.length)).toArray) ?_ hd
      (h (.slice (some ⟨g, 0, none⟩) (ys.length + zs.length) cap) _ (ys ++ zs) j _ (by simp) ⟨g, ys.length + zs.length, cap, ⟨g, j, none⟩, rfl, by omega, by omega, by congr 1; omega, fun _ => rfl⟩ ?_ (by simp) (by simp; omega) ?_)
    · simp [xop, execOp, resolve, invoke, builtin, hx, hy, hrun]
    · rw [List.drop_append_of_le_length q1]
    · refine hS.turn i hi rfl rfl rfl (by simp) (fun b _ hb' => setRow_other w g b _ (fun hq => hb' (by subst hq; show some b = v.ownBlock; rw [hv]; rfl))) (fun b hb' => .inl (by show v.ownBlock = some b; rw [hv]; exact hb')) (fun b hb' => ?_) (fun F hM => ?_)
      · have : b = g := by have h2 : (some g : Option Nat) = some b := hb'; injection h2 with h2; exact h2.symm
        subst this
        have := (Array.getElem?_eq_some_iff.1 r2).1
        simpa using this
      · refine ⟨cs ++ ds, ⟨by rw [List.length_append, List.length_append, hcl, hdl, hn1, Nat.mul_one], .inr ⟨g, cap, _, by rw [List.length_append], r1, setRow_heap w g cur _ e _ r2, by rw [List.length_append]; omega, r4, ?_, ?_⟩⟩, (hR.mv hM).append (g1.mv hM)⟩
        · simp only [List.size_toArray, List.length_append, List.length_take, List.length_drop, hcurl, hdl, hn1]; omega
        · rw [r6, List.length_append, hn1, Nat.mul_one, ← hcl, ← hdl, ← List.length_append]
          exact List.take_left
  · have hold : ∀ p u, (cs.drop j)[p]? = some u → w.cell? (a0.add p) = some u := fun p u hu => by
      rw [List.getElem?_drop] at hu
      have hlt := (List.getElem?_eq_some_iff.1 hu).1
      have ha := q3 (by omega)
      subst ha
      have := hr.cells (g := g) (by rw [hv]; rfl) (j + p) u hu
      rw [Addr.add_lit, Nat.zero_add] at this
      rw [Addr.add_lit]; exact this
    have hlen : ys.length - j + zs.length ≤ maxLen := by have : (100000 : Nat) ≤ maxLen := by decide
                                                         omega
    have hr2 := run_append_grow (P := P) w T ty e ti zv hE.und hti hz a0 (ys.length - j) (cap - j) (cs.drop j) (by rw [List.length_drop, hcl, hsz, Nat.mul_one]) hold ad zs.length c ds (by rw [g1.1, hn1, hsz]) (g4 ad rfl) (by omega) (by simp only [maxLen] at hlen; omega)
      (growslice_fits (by omega) (Nat.le_trans (Nat.mul_le_mul_right _ (by omega)) hb))
    have hge := grownCap_ge w (ys.length - j + zs.length) (cap - j) e
    have hle := grownCap_le_maxLen w (ys.length - j + zs.length) (cap - j) e hlen
    generalize grownCap w (ys.length - j + zs.length) (cap - j) e = cp at hr2 hge hle
    refine Wx.val (v := .slice (some ⟨w.heap.size, 0, none⟩) (ys.length - j + zs.length) cp) (w' := w.drew.alloc (.cells ((cs.drop j).toArray ++ ds.toArray ++ Builtin.zeroCells zv.cells (cp - (ys.length - j + zs.length))) e)) ?_ hd
      (h _ _ (ys.drop j ++ zs) 0 _ (by simp) ⟨w.heap.size, ys.length - j + zs.length, cp, ⟨w.heap.size, 0, none⟩, rfl, Nat.zero_le _, hge, rfl, fun _ => rfl⟩ rfl (by simp) (Nat.zero_le _) ?_)
    · simp [xop, execOp, resolve, invoke, builtin, hx, hy, hr2]
    · refine hS.turn i hi rfl rfl rfl (by simp) (fun b hb' _ => heap_alloc_old w.drew _ hb') (fun b hb' => .inr ?_) (fun b hb' => ?_) (fun F hM => ?_)
      · have h2 : (some w.heap.size : Option Nat) = some b := hb'; injection h2 with h2; omega
      · have h2 : (some w.heap.size : Option Nat) = some b := hb'; injection h2 with h2; simp; omega
      · have hlen2 : (cs.drop j ++ ds).length = ys.length - j + zs.length := by rw [List.length_append, List.length_drop, hcl, hdl]
        refine ⟨cs.drop j ++ ds, ⟨by rw [hlen2, hn1]; simp, .inr ⟨w.heap.size, cp, _, by simp, hS.bel.size, heap_alloc_new w.drew _, by simpa using hge, hle, ?_, ?_⟩⟩, ?_⟩
        · simp only [Array.size_append, List.size_toArray, size_zeroCells, hE.zn, List.length_drop, hcl, hdl, hn1]; omega
        · have e1 : (ys.drop j ++ zs).length * (tI k).n = (cs.drop j ++ ds).length := by rw [hlen2, hn1]; simp
          rw [e1]
          simp only [Array.toList_append, List.append_assoc]
          rw [← List.append_assoc]
          exact List.take_left
        · have hd := (hR.mv hM).drop j
          rw [hn1, Nat.mul_one] at hd
          exact hd.append (g1.mv hM)
theorem q_head {qs out : List Int} {i : Int} {j : Nat} (h : qs.drop j = out.drop i.toNat) (h0 : 0 ≤ i) (h1 : i < out.length) : j < qs.length ∧ ix 0 qs ((j : Nat) : Int) = ix 0 out i ∧ qs.drop (j + 1) = out.drop (i + 1).toNat := by
  have hl := congrArg List.length h
  simp only [List.length_drop] at hl
  have hj : j < qs.length := by omega
  have e1 := drop_ix (d := (0 : Int)) (xs := qs) (n := ((j : Nat) : Int)) (by omega) (by omega)
  have e2 := drop_ix (d := (0 : Int)) h0 h1
  rw [Int.toNat_natCast, h, e2] at e1
  injection e1 with e3 e4
  exact ⟨hj, e3.symm, by rw [e4]; congr 1⟩

structure MayF (P : Program) (gm : Nat) (cm : List Value) (f : Int → Bool) (m : Int) (w : World) : Prop where
  ent : ∀ args w', (callFunc gm args).run P w' = .ok (.enter gm args) w'
  call : ∀ x w', 0 ≤ x → x < m → Ext w w' → Calls P gm (.int .i64 x :: cm).toArray w' (Ret w' fun r _ => r = .bool (f x))
end Go.Wk
namespace Go.Wk
open Go.RowKit Go.Lib
set_option linter.unusedVariables false
theorem rd_loadOA {P : Program} {w w0 : World} {σ : Fr} {T e ty : TypeId} {x : Operand} {k : IntKind} {ys : List Int} {g : Nat} {fz : Nat × Nat} {i : Int} (hh : w0.heap[g]? = some (.cells (ys.map (Value.int k)).toArray e fz)) (hb : Ext w0 w) (hx : ev σ x = .pointer (some ⟨g, 0 + i.toNat * 1, none⟩))
    (h0 : 0 ≤ i) (h1 : i < ys.length) (hag : ∀ w', (isAgg T).run P w' = .ok false w') : Rd P σ (.load T x) ty w (.int k (ix 0 ys i)) := by
  refine rd_loadO hh hb hx ?_ hag
  have := ix_get (d := (0 : Int)) h1 h0
  simp [this]
end Go.Wk
namespace Go.Wk
open Go.RowKit Go.Lib
theorem V.mk3 {k : IntKind} {w : World} {a b c : Int} {F : List (Option Nat)} (h1 : InK k a) (h2 : InK k b) (h3 : InK k c) : V (tP (tP (tI k) (tI k)) (tI k)) ((a, b), c) (.agg #[.int k a, .int k b, .int k c]) F w :=
  ⟨[.int k a, .int k b, .int k c], rfl, [.int k a, .int k b], [.int k c], rfl, ⟨[.int k a], [.int k b], rfl, ⟨rfl, h1⟩, ⟨rfl, h2⟩⟩, ⟨rfl, h3⟩⟩
theorem V.i3 {k : IntKind} {w : World} {z : (Int × Int) × Int} {v : Value} {F : List (Option Nat)} (h : V (tP (tP (tI k) (tI k)) (tI k)) z v F w) : v = .agg #[.int k z.1.1, .int k z.1.2, .int k z.2] ∧ InK k z.1.1 ∧ InK k z.1.2 ∧ InK k z.2 := by
  obtain ⟨cs, rfl, c, d, rfl, ⟨c1, c2, rfl, ⟨rfl, h1⟩, ⟨rfl, h2⟩⟩, ⟨rfl, h3⟩⟩ := h
  exact ⟨rfl, h1, h2, h3⟩
end Go.Wk

namespace Go.Proofs.Ytjhimoeodkaihaa
open Go.Wk
set_option linter.unusedVariables false
section
variable {A : RelE} {n : Int} {f : Int → Bool}
def BfP (A : RelE) (n : Int) (f : Int → Bool) (a i : Int) (S : Int → Prop) (met : List Int) : Prop :=
  (met.Nodup ∧ a ∈ met) ∧ (∀ x ∈ met, (0 ≤ x ∧ x < n) ∧ f x = true ∧ ledB (rM A f) n a x = true) ∧ ∀ j : Int, 0 ≤ j → j < met.length → ∀ z, (0 ≤ z ∧ z < n) → (j < i ∨ (j = i ∧ S z)) → A (ix 0 met j) z = true → f z = true → z ∈ met
theorem bp_open {a i : Int} {met : List Int} (h : BfI A n f a i 0 met) : BfP A n f a i (fun x => x ∈ ([] : List Int)) met :=
  ⟨h.1, h.2.1, fun j j0 j1 z hz hc => h.2.2 j j0 j1 z hz (by rcases hc with hc | ⟨_, hc⟩; exact .inl hc; cases hc)⟩
theorem bp_len {a i : Int} {S : Int → Prop} {met : List Int} (hn : 0 ≤ n) (h : BfP A n f a i S met) : (met.length : Int) ≤ n := short_of hn h.1.1 fun x hx => (h.2.1 x hx).1
theorem bp_yes {a i y : Int} {met ls : List Int} (h : BfP A n f a i (fun x => x ∈ ls) met) (i0 : 0 ≤ i) (i1 : i < met.length) (ha : 0 ≤ a ∧ a < n) (hy : 0 ≤ y ∧ y < n) (hadj : A (ix 0 met i) y = true) (hf : f y = true) (hm : y ∉ met) : BfP A n f a i (fun x => x ∈ ls ++ [y]) (met ++ [y]) := by
  obtain ⟨⟨hd, hma⟩, h1, h2⟩ := h
  have hi := h1 _ (List.mem_of_getElem? (ix_get (d := (0 : Int)) i1 i0))
  refine ⟨⟨List.pairwise_append.2 ⟨hd, List.pairwise_singleton _ _, fun p hp q hq => by rw [List.mem_singleton.1 hq]; exact fun e => hm (by rw [← e]; exact hp)⟩, List.mem_append.2 (.inl hma)⟩, fun x hx => ?_, fun j j0 j1 z hz hc hjz hfz => ?_⟩
  · rcases List.mem_append.1 hx with hx | hx
    · exact h1 x hx
    · rw [List.mem_singleton.1 hx]
      exact ⟨hy, hf, led_trans ha hi.1 hy hi.2.2 (led_one hi.1 hy (rM_iff.2 ⟨hadj, hi.2.1, hf⟩))⟩
  · by_cases hj : j < met.length
    · rw [ix_app1 j0 hj] at hjz
      by_cases hz' : z = y
      · subst hz'; simp
      · refine List.mem_append.2 (.inl (h2 j j0 hj z hz ?_ hjz hfz))
        rcases hc with hc | ⟨hc, hs⟩
        · exact .inl hc
        · rcases List.mem_append.1 hs with hs | hs
          · exact .inr ⟨hc, hs⟩
          · exact absurd (List.mem_singleton.1 hs) hz'
    · omega
theorem bp_no {a i y : Int} {met ls : List Int} (h : BfP A n f a i (fun x => x ∈ ls) met) (hc : ¬ (0 ≤ y ∧ y < n) ∨ f y = false ∨ y ∈ met) : BfP A n f a i (fun x => x ∈ ls ++ [y]) met := by
  refine ⟨h.1, h.2.1, fun j j0 j1 z hz hlt hjz hfz => ?_⟩
  by_cases e : z = y
  · subst e
    rcases hc with hc | hc | hc
    · exact absurd hz hc
    · rw [hc] at hfz; cases hfz
    · exact hc
  · refine h.2.2 j j0 j1 z hz ?_ hjz hfz
    rcases hlt with hlt | ⟨hlt, hs⟩
    · exact .inl hlt
    · rcases List.mem_append.1 hs with hs | hs
      · exact .inr ⟨hlt, hs⟩
      · exact absurd (List.mem_singleton.1 hs) e
theorem bp_close {a i : Int} {met L : List Int} (h : BfP A n f a i (fun x => x ∈ L) met) (hL : ∀ z, (0 ≤ z ∧ z < n) → A (ix 0 met i) z = true → z ∈ L) : BfI A n f a (i + 1) 0 met := by
  refine ⟨h.1, h.2.1, fun j j0 j1 z hz hc hjz hfz => h.2.2 j j0 j1 z hz ?_ hjz hfz⟩
  by_cases e : j = i
  · subst e; exact .inr ⟨rfl, hL z hz hjz⟩
  · exact .inl (by omega)
def Marks (n : Int) (met : List Bool) (out : List Int) : Prop := (met.length : Int) = n + 1 ∧ ∀ x, 0 ≤ x → x ≤ n → (ix false met x = true ↔ x ∈ out)
theorem mk_start {a : Int} {m : Nat} (hm : (m : Int) = n + 1) (ha : 0 ≤ a ∧ a < n) : Marks n ((List.replicate m false).set a.toNat true) [a] := by
  refine ⟨by simp; omega, fun x x0 x1 => ?_⟩
  rw [ix_setB ha.1 (by simp; omega) x0, List.mem_singleton]
  split
  · rename_i e; simp [e]
  · rename_i e
    simp only [e, iff_false]
    rw [ix, List.getD_eq_getElem?_getD, List.getElem?_replicate]; split <;> simp
theorem mk_add {met : List Bool} {out : List Int} {y : Int} (h : Marks n met out) (hy : 0 ≤ y ∧ y < n) : Marks n (met.set y.toNat true) (out ++ [y]) := by
  refine ⟨by simp; exact h.1, fun x x0 x1 => ?_⟩
  rw [ix_setB hy.1 (by have := h.1; omega) x0, List.mem_append, List.mem_singleton]
  split
  · rename_i e; simp [e]
  · rename_i e; rw [h.2 x x0 x1]; simp [e]
theorem bf_sorted {a i : Int} {met : List Int} (h : BfI A n f a i 0 met) (hi : (met.length : Int) ≤ i) (ha : 0 ≤ a ∧ a < n) (hf : f a = true) : met.mergeSort (fun x y => decide (x ≤ y)) = floodV A n f a := by
  have hp := List.mergeSort_perm met (fun x y => decide (x ≤ y))
  refine asc_ext ?_ flood_asc fun x => ?_
  · have hs : (met.mergeSort fun x y => decide (x ≤ y)).Pairwise (fun x y => x ≤ y) := by
      refine (List.pairwise_mergeSort (le := fun x y : Int => decide (x ≤ y)) (fun x y z h k => ?_) (fun x y => ?_) met).imp fun {x y} h => of_decide_eq_true h
      · rw [decide_eq_true_eq] at h k ⊢; omega
      · rw [Bool.or_eq_true, decide_eq_true_eq, decide_eq_true_eq]; omega
    have hd : (met.mergeSort fun x y => decide (x ≤ y)).Pairwise (fun x y => x ≠ y) := (hp.nodup_iff).2 h.1.1
    exact (hs.and hd).imp fun {x y} h => by omega
  · rw [hp.mem_iff, flood_mem]
    exact ⟨fun hx => ⟨hf, (h.2.1 x hx).1, (h.2.1 x hx).2.2⟩, fun ⟨_, hx, hl⟩ => (bf_end h hi ha x hx).2 hl⟩
end
end Go.Proofs.Ytjhimoeodkaihaa
namespace Go.Proofs.Ytjhimoeodkaihaa
open Go.Wk
def wetK (ys H : List Int) (lv x : Int) : Bool := decide (0 < ix 0 ys x) && decide (lv < ix 0 ys x + ix 0 H x)
theorem wetK_eq {C : Int} {ys H : List Int} {lv x : Int} (h : ix 0 ys x = depthV C H lv x) : wetK ys H lv x = wetB C H lv x := by
  rw [wetK, wetB, h, Bool.and_comm]
  congr 1
  refine decide_eq_decide.2 ?_
  rw [depthV]; omega
end Go.Proofs.Ytjhimoeodkaihaa
namespace Go.Proofs.Ytjhimoeodkaihaa
open Go.Wk
theorem pool_hit {A : RelE} {n k : Int} {f : Int → Bool} (h : 0 < ((floodV A n f k).length : Int)) (h2 : ix 0 (floodV A n f k) 0 = k) : poolF A n f k = [floodV A n f k] := by
  rw [poolF, if_pos]
  cases hl : floodV A n f k with
  | nil => rw [hl] at h; simp at h
  | cons x l => rw [hl] at h2; simp [ix] at h2; simp [h2]
theorem pool_not {A : RelE} {n k : Int} {f : Int → Bool} (h : ¬ 0 < ((floodV A n f k).length : Int) ∨ ¬ ix 0 (floodV A n f k) 0 = k) : poolF A n f k = [] := by
  rw [poolF, if_neg]
  intro hh
  cases hl : floodV A n f k with
  | nil => rw [hl] at hh; simp at hh
  | cons x l =>
    rw [hl] at hh h
    simp only [List.head?_cons, Option.some.injEq] at hh
    rcases h with h | h
    · simp at h
    · exact h (by simp [ix, hh])
theorem flat_snoc {β : Type} {g : Int → List β} {k : Int} (h : 0 ≤ k) : (rng 0 (k + 1)).flatMap g = (rng 0 k).flatMap g ++ g k := by
  rw [rng_snoc h, List.flatMap_append]; simp
end Go.Proofs.Ytjhimoeodkaihaa

namespace Go.Proofs.Ytjhimoeodkaihaa
open Go.Wk
set_option linter.unusedVariables false
def MeetR (H : List Int) (h m left : Int) (far todo far' todo' : List Int) : Prop :=
  ((ix 0 far m = 0 ∧ ix 0 H m ≤ h) ∧ far' = far.set m.toNat left ∧ todo' = todo ++ [m]) ∨ (¬ (ix 0 far m = 0 ∧ ix 0 H m ≤ h) ∧ far' = far ∧ todo' = todo)
section
variable {C : Int} {H : List Int} {h : Int}
structure QI (C : Int) (H : List Int) (h b : Int) (far todo : List Int) : Prop where
  len : far.length = 37
  nd : todo.Nodup
  mem : ∀ x ∈ todo, (0 ≤ x ∧ x < (H.length : Int)) ∧ ix 0 H x ≤ h ∧ (0 < ix 0 far x ∧ ix 0 far x ≤ b + 1) ∧ rW C H h (ix 0 far x - 1).toNat x = true
  out : ∀ x, 0 ≤ x → x < (H.length : Int) → x ∉ todo → ix 0 far x = 0
  mono : todo.Pairwise fun x y => ix 0 far x ≤ ix 0 far y
  bd : b ≤ todo.length ∧ ∀ x ∈ todo, ix 0 far x ≤ todo.length
def LC (C : Int) (H : List Int) (h k : Int) (far : List Int) : Prop := ∀ z, (0 ≤ z ∧ z < (H.length : Int)) → H.length - C ≤ z → z < k → ix 0 H z ≤ h → ix 0 far z = 1
def NC (C : Int) (H : List Int) (h i : Int) (S : Int → Prop) (far todo : List Int) : Prop :=
  ∀ j : Int, 0 ≤ j → j < todo.length → ∀ z, (0 ≤ z ∧ z < (H.length : Int)) → (j < i ∨ (j = i ∧ S z)) → adjB C (ix 0 todo j) z = true → ix 0 H z ≤ h → 0 < ix 0 far z ∧ ix 0 far z ≤ ix 0 far (ix 0 todo j) + 1
theorem qi_start (hn : (H.length : Int) ≤ 36) : QI C H h 0 (List.replicate 37 0) [] :=
  ⟨by simp, by simp, fun x hx => (nomatch hx), fun x x0 x1 _ => by rw [ix, List.getD_eq_getElem?_getD, List.getElem?_replicate]; split <;> rfl, .nil, by simp, fun x hx => (nomatch hx)⟩
theorem lc_start {far : List Int} : LC C H h (H.length - C) far := fun z hz h1 h2 => by omega
theorem nc_start {far todo : List Int} {S : Int → Prop} (hS : ∀ z, ¬ S z) : NC C H h 0 S far todo := fun j j0 j1 z hz hc => by
  rcases hc with hc | ⟨_, hc⟩
  · omega
  · exact absurd hc (hS z)
theorem far_old {far : List Int} {m x v : Int} (hl : far.length = 37) (hm : 0 ≤ m ∧ m < 37) (hx : 0 ≤ x) (h0 : ix 0 far m = 0) (h1 : ¬ ix 0 far x = 0) : ix 0 (far.set m.toNat v) x = ix 0 far x := by
  rw [ix_set0 hm.1 (by omega) hx, if_neg (by rintro rfl; exact h1 h0)]
theorem qi_meet {b m : Int} {far todo far' todo' : List Int} (hq : QI C H h b far todo) (hn : (H.length : Int) ≤ 36) (hb : 0 ≤ b) (hm : 0 ≤ m ∧ m < (H.length : Int)) (hr : ix 0 H m ≤ h → rW C H h b.toNat m = true) (hM : MeetR H h m (b + 1) far todo far' todo') :
    QI C H h b far' todo' ∧ (∀ x, 0 ≤ x → ¬ ix 0 far x = 0 → ix 0 far' x = ix 0 far x) ∧ (ix 0 H m ≤ h → 0 < ix 0 far' m ∧ ix 0 far' m ≤ b + 1) ∧ (todo.length : Int) ≤ todo'.length ∧ (∀ j : Int, 0 ≤ j → j < todo.length → ix 0 todo' j = ix 0 todo j) := by
  rcases hM with ⟨⟨h0, hlow⟩, rfl, rfl⟩ | ⟨hc, rfl, rfl⟩
  · have hnm : m ∉ todo := fun hmem => by have := (hq.mem m hmem).2.2.1; omega
    have hold : ∀ x, 0 ≤ x → ¬ ix 0 far x = 0 → ix 0 (far.set m.toNat (b + 1)) x = ix 0 far x := fun x hx h1 => far_old hq.len ⟨hm.1, by omega⟩ hx h0 h1
    have hnew : ix 0 (far.set m.toNat (b + 1)) m = b + 1 := by rw [ix_set0 hm.1 (by have := hq.len; omega) hm.1, if_pos rfl]
    have hmo : ∀ x ∈ todo, ix 0 (far.set m.toNat (b + 1)) x = ix 0 far x := fun x hx => hold x (hq.mem x hx).1.1 (by have := (hq.mem x hx).2.2.1; omega)
    refine ⟨⟨by simp; exact hq.len, List.pairwise_append.2 ⟨hq.nd, List.pairwise_singleton _ _, fun p hp q hq' => by rw [List.mem_singleton.1 hq']; exact fun e => hnm (by rw [← e]; exact hp)⟩, fun x hx => ?_, fun x x0 x1 hx => ?_, ?_, ?_⟩, hold, fun _ => by omega, by simp; omega, fun j j0 j1 => ix_app1 j0 j1⟩
    · rcases List.mem_append.1 hx with hx | hx
      · rw [hmo x hx]; exact hq.mem x hx
      · rw [List.mem_singleton.1 hx, hnew]
        exact ⟨hm, hlow, by omega, by rw [show (b + 1 - 1).toNat = b.toNat by omega]; exact hr hlow⟩
    · have hx1 : x ∉ todo := fun q => hx (List.mem_append.2 (.inl q))
      have hxm : x ≠ m := by rintro rfl; exact hx (by simp)
      rw [ix_set0 hm.1 (by have := hq.len; omega) x0, if_neg hxm]
      exact hq.out x x0 x1 hx1
    · refine List.pairwise_append.2 ⟨hq.mono.imp_of_mem fun {x y} hx hy hh => by rw [hmo x hx, hmo y hy]; exact hh, List.pairwise_singleton _ _, fun x hx y hy => ?_⟩
      rw [List.mem_singleton.1 hy, hnew, hmo x hx]
      exact (hq.mem x hx).2.2.1.2
    · have hbd := hq.bd
      refine ⟨by simp; omega, fun x hx => ?_⟩
      rcases List.mem_append.1 hx with hx | hx
      · rw [hmo x hx]; have := hbd.2 x hx; simp; omega
      · rw [List.mem_singleton.1 hx, hnew]; simp; omega
  · refine ⟨hq, fun _ _ _ => rfl, fun hlow => ?_, Int.le_refl _, fun _ _ _ => rfl⟩
    have hmem : m ∈ todo' := Decidable.byContradiction fun hh => hc ⟨hq.out m hm.1 hm.2 hh, hlow⟩
    exact (hq.mem m hmem).2.2.1
theorem lc_keep {k : Int} {far far' : List Int} (hl : LC C H h k far) (ho : ∀ x, 0 ≤ x → ¬ ix 0 far x = 0 → ix 0 far' x = ix 0 far x) : LC C H h k far' := fun z hz h1 h2 h3 => by
  have := hl z hz h1 h2 h3
  rw [ho z hz.1 (by omega), this]
theorem lc_step {k : Int} {far far' : List Int} (hl : LC C H h k far) (ho : ∀ x, 0 ≤ x → ¬ ix 0 far x = 0 → ix 0 far' x = ix 0 far x) (hk : ix 0 H k ≤ h → 0 < ix 0 far' k ∧ ix 0 far' k ≤ 0 + 1) : LC C H h (k + 1) far' := fun z hz h1 h2 h3 => by
  by_cases e : z = k
  · subst e; have := hk h3; omega
  · exact lc_keep hl ho z hz h1 (by omega) h3
theorem nc_keep {i b : Int} {S : Int → Prop} {far todo far' todo' : List Int} (hq : QI C H h b far todo) (hN : NC C H h i S far todo) (hi : i < todo.length) (ho : ∀ x, 0 ≤ x → ¬ ix 0 far x = 0 → ix 0 far' x = ix 0 far x) (ht : ∀ j : Int, 0 ≤ j → j < todo.length → ix 0 todo' j = ix 0 todo j) :
    NC C H h i S far' todo' := fun j j0 j1 z hz hc hA hlow => by
  have hj : j < todo.length := by omega
  rw [ht j j0 hj] at hA ⊢
  have hmj := hq.mem _ (ix_inl j0 hj)
  have := hN j j0 hj z hz hc hA hlow
  rw [ho z hz.1 (by omega), ho _ hmj.1.1 (by omega)]
  exact this
theorem nc_step {i b y : Int} {ls far todo far' todo' : List Int} (hq : QI C H h b far todo) (hN : NC C H h i (fun x => x ∈ ls) far todo) (i0 : 0 ≤ i) (hi : i < todo.length) (ho : ∀ x, 0 ≤ x → ¬ ix 0 far x = 0 → ix 0 far' x = ix 0 far x) (ht : ∀ j : Int, 0 ≤ j → j < todo.length → ix 0 todo' j = ix 0 todo j)
    (hb : ix 0 far (ix 0 todo i) = b) (hy : (0 ≤ y ∧ y < (H.length : Int)) → ix 0 H y ≤ h → 0 < ix 0 far' y ∧ ix 0 far' y ≤ b + 1) : NC C H h i (fun x => x ∈ ls ++ [y]) far' todo' := fun j j0 j1 z hz hc hA hlow => by
  by_cases e : j = i ∧ z = y
  · obtain ⟨rfl, rfl⟩ := e
    have hmj := hq.mem _ (ix_inl j0 hi)
    rw [ht j j0 hi, ho _ hmj.1.1 (by omega), hb]
    exact hy hz hlow
  · refine nc_keep hq hN hi ho ht j j0 j1 z hz ?_ hA hlow
    rcases hc with hc | ⟨hc, hs⟩
    · exact .inl hc
    · rcases List.mem_append.1 hs with hs | hs
      · exact .inr ⟨hc, hs⟩
      · exact absurd ⟨hc, List.mem_singleton.1 hs⟩ e
theorem nc_close {i : Int} {L far todo : List Int} (hN : NC C H h i (fun x => x ∈ L) far todo) (hL : ∀ z, (0 ≤ z ∧ z < (H.length : Int)) → adjB C (ix 0 todo i) z = true → z ∈ L) {S : Int → Prop} (hS : ∀ z, ¬ S z) : NC C H h (i + 1) S far todo := fun j j0 j1 z hz hc hA hlow => by
  refine hN j j0 j1 z hz ?_ hA hlow
  rcases hc with hc | ⟨_, hc⟩
  · by_cases e : j = i
    · subst e; exact .inr ⟨rfl, hL z hz hA⟩
    · exact .inl (by omega)
  · exact absurd hc (hS z)
theorem nc_open {i : Int} {far todo : List Int} {S : Int → Prop} (hN : NC C H h i (fun _ => False) far todo) (hS : ∀ z, ¬ S z) : NC C H h i S far todo := fun j j0 j1 z hz hc hA hlow => hN j j0 j1 z hz (by
  rcases hc with hc | ⟨_, hc⟩
  · exact .inl hc
  · exact absurd hc (hS z)) hA hlow
def QAt (C : Int) (H : List Int) (h i : Int) (far todo : List Int) : Prop := ∃ b, 0 ≤ b ∧ QI C H h b far todo ∧ ∀ j : Int, i ≤ j → j < todo.length → b ≤ ix 0 far (ix 0 todo j)
theorem qat_open {i : Int} {far todo : List Int} (hq : QAt C H h i far todo) (i0 : 0 ≤ i) (hi : i < todo.length) : QI C H h (ix 0 far (ix 0 todo i)) far todo := by
  obtain ⟨b, hb, hQ, hlow⟩ := hq
  have := hlow i (Int.le_refl _) hi
  exact ⟨hQ.len, hQ.nd, fun x hx => by obtain ⟨h1, h2, h3, h4⟩ := hQ.mem x hx; exact ⟨h1, h2, by omega, h4⟩, hQ.out, hQ.mono, hQ.bd.2 _ (ix_inl i0 hi), hQ.bd.2⟩
theorem qi_from {i b : Int} {far todo : List Int} (hQ : QI C H h b far todo) (i0 : 0 ≤ i) (hi : i < todo.length) (hb : ix 0 far (ix 0 todo i) = b) : ∀ j : Int, i ≤ j → j < todo.length → b ≤ ix 0 far (ix 0 todo j) := fun j hij hj => by
  by_cases e : i = j
  · subst e; omega
  · have := List.pairwise_iff_getElem.1 hQ.mono i.toNat j.toNat (by omega) (by omega) (by omega)
    have e1 : ix 0 todo i = todo[i.toNat]'(by omega) := by rw [ix, List.getD_eq_getElem?_getD, List.getElem?_eq_getElem (by omega)]; rfl
    have e2 : ix 0 todo j = todo[j.toNat]'(by omega) := by rw [ix, List.getD_eq_getElem?_getD, List.getElem?_eq_getElem (by omega)]; rfl
    rw [← e1, ← e2] at this
    omega
theorem qat_start {far todo : List Int} (hq : QI C H h 0 far todo) : QAt C H h 0 far todo := ⟨0, Int.le_refl _, hq, fun j j0 j1 => by have := (hq.mem _ (ix_inl j0 j1)).2.2.1; omega⟩
theorem qat_next {i b : Int} {far todo : List Int} (hQ : QI C H h b far todo) (hb0 : 0 ≤ b) (i0 : 0 ≤ i) (hi : i < todo.length) (hb : ix 0 far (ix 0 todo i) = b) : QAt C H h (i + 1) far todo := ⟨b, hb0, hQ, fun j hj hj1 => qi_from hQ i0 hi hb j (by omega) hj1⟩
theorem qat_len {i : Int} {far todo : List Int} (hq : QAt C H h i far todo) : (todo.length : Int) ≤ H.length ∧ far.length = 37 := by
  obtain ⟨b, _, hQ, _⟩ := hq
  exact ⟨short_of (by omega) hQ.nd fun x hx => (hQ.mem x hx).1, hQ.len⟩
theorem far_dist {i p : Int} {far todo : List Int} (hA : ∀ a b : Int, adjB C a b = adjB C b a) (hq : QAt C H h i far todo) (hi : (todo.length : Int) ≤ i) (hL : LC C H h H.length far) (hN : NC C H h i (fun _ => False) far todo) (hlast : ∀ a, lastB C H a = true → H.length - C ≤ a) (hp : 0 ≤ p ∧ p < (H.length : Int)) : ix 0 far p = distV C H h p := by
  obtain ⟨b, hb, hQ, _⟩ := hq
  have key : ∀ (d : Nat) (p : Int), (0 ≤ p ∧ p < (H.length : Int)) → rW C H h d p = true → 0 < ix 0 far p ∧ ix 0 far p ≤ (d : Int) + 1 := by
    intro d
    induction d with
    | zero =>
      intro p hp hr
      obtain ⟨h1, h2⟩ := rW_zero.1 hr
      have := hL p hp (hlast p h2) hp.2 h1
      omega
    | succ d ih =>
      intro p hp hr
      obtain ⟨h1, q, hq, h2, h3⟩ := rW_step.1 hr
      obtain ⟨h4, h5⟩ := ih q hq h3
      have hqm : q ∈ todo := Decidable.byContradiction fun hh => by have := hQ.out q hq.1 hq.2 hh; omega
      obtain ⟨j, j0, j1, e⟩ := ix_mem' hqm
      have := hN j j0 j1 p hp (.inl (by omega)) (by rw [e, hA]; exact h2) h1
      rw [e] at this
      omega
  by_cases h0 : ix 0 far p = 0
  · rw [h0, dist_none fun d hd => by
      cases hr : rW C H h d p with
      | false => rfl
      | true => have := key d p hp hr; omega]
  · have hpm : p ∈ todo := Decidable.byContradiction fun hh => h0 (hQ.out p hp.1 hp.2 hh)
    obtain ⟨_, _, h1, h2⟩ := hQ.mem p hpm
    refine (dist_isD hp ⟨by omega, h2, fun d hd => ?_⟩).symm
    cases hr : rW C H h d p with
    | false => rfl
    | true => have := key d p hp hr; omega
theorem pre_before {L ls : List Int} {m q : Int} (hL : L.Pairwise (· < ·)) (hp : (ls ++ [m]) <+: L) (hq : q ∈ L) (hlt : q < m) : q ∈ ls := by
  obtain ⟨t, rfl⟩ := hp
  rcases List.mem_append.1 hq with h1 | h1
  · rcases List.mem_append.1 h1 with h1 | h1
    · exact h1
    · rw [List.mem_singleton.1 h1] at hlt; omega
  · have := (List.pairwise_append.1 hL).2.2 m (by simp) q h1
    omega
end
end Go.Proofs.Ytjhimoeodkaihaa

namespace Go.Proofs.Ytjhimoeodkaihaa
open Go.Wk
set_option linter.unusedVariables false
abbrev J3 := (Int × Int) × Int
def jF (H : List Int) (a b : Int) : List J3 := if b = (H.length : Int) then [((a, b), ix 0 H a)] else if a < b then [((a, b), max (ix 0 H a) (ix 0 H b))] else []
def jRowP (C : Int) (H : List Int) (a : Int) : List J3 := (nbW C H.length a).flatMap (jF H a)
def jRawL (C : Int) (H : List Int) : List J3 := (rng 0 H.length).flatMap (jRowP C H)
def Jt.t (j : Jt) : J3 := ((j.a, j.b), j.h)
def jTL (C : Int) (H : List Int) : List J3 := (jAll C H 0).map Jt.t
theorem strict_ext {α : Type} {r : α → α → Prop} (hirr : ∀ x, ¬ r x x) (has : ∀ x y, r x y → r y x → False) : ∀ {l m : List α}, l.Pairwise r → m.Pairwise r → (∀ x, x ∈ l ↔ x ∈ m) → l = m
  | [], [], _, _, _ => rfl
  | [], y :: m, _, _, h => absurd ((h y).2 (by simp)) (by simp)
  | x :: l, [], _, _, h => absurd ((h x).1 (by simp)) (by simp)
  | x :: l, y :: m, hl, hm, h => by
    obtain ⟨l1, l2⟩ := List.pairwise_cons.1 hl
    obtain ⟨m1, m2⟩ := List.pairwise_cons.1 hm
    have hxy : x = y := by
      rcases List.mem_cons.1 ((h x).1 (by simp)) with e | hx
      · exact e
      · rcases List.mem_cons.1 ((h y).2 (by simp)) with e | hy
        · exact e.symm
        · exact (has _ _ (l1 y hy) (m1 x hx)).elim
    subst hxy
    rw [strict_ext hirr has l2 m2 fun z => ⟨fun hz => ?_, fun hz => ?_⟩]
    · rcases List.mem_cons.1 ((h z).1 (List.mem_cons_of_mem _ hz)) with e | hz'
      · subst e; exact absurd (l1 z hz) (hirr z)
      · exact hz'
    · rcases List.mem_cons.1 ((h z).2 (List.mem_cons_of_mem _ hz)) with e | hz'
      · subst e; exact absurd (m1 z hz) (hirr z)
      · exact hz'
section
variable {C : Int} {H : List Int}
theorem jf_mem {a b : Int} {x : J3} : x ∈ jF H a b ↔ x.1 = (a, b) ∧ ((b = (H.length : Int) ∧ x.2 = ix 0 H a) ∨ (b ≠ (H.length : Int) ∧ a < b ∧ x.2 = max (ix 0 H a) (ix 0 H b))) := by
  obtain ⟨⟨p, q⟩, h⟩ := x
  rw [jF]
  split
  · rename_i e
    rw [List.mem_singleton, Prod.mk.injEq]
    exact and_congr_right fun _ => ⟨fun k => .inl ⟨e, k⟩, fun k => by rcases k with k | k; exact k.2; exact absurd e k.1⟩
  · rename_i e
    split
    · rename_i e2
      rw [List.mem_singleton, Prod.mk.injEq]
      exact and_congr_right fun _ => ⟨fun k => .inr ⟨e, e2, k⟩, fun k => by rcases k with k | k; exact absurd k.1 e; exact k.2.2⟩
    · rename_i e2
      exact ⟨fun k => (nomatch k), fun k => by rcases k.2 with k | k; exact absurd k.1 e; exact absurd k.2.1 e2⟩
theorem raw_mem {x : J3} : x ∈ jRawL C H ↔ (0 ≤ x.1.1 ∧ x.1.1 < (H.length : Int)) ∧ x.1.2 ∈ nbW C H.length x.1.1 ∧ ((x.1.2 = (H.length : Int) ∧ x.2 = ix 0 H x.1.1) ∨ (x.1.2 ≠ (H.length : Int) ∧ x.1.1 < x.1.2 ∧ x.2 = max (ix 0 H x.1.1) (ix 0 H x.1.2))) := by
  rw [jRawL, List.mem_flatMap]
  constructor
  · rintro ⟨a, ha, hx⟩
    rw [jRowP, List.mem_flatMap] at hx
    obtain ⟨b, hb, hx⟩ := hx
    obtain ⟨h1, h2⟩ := jf_mem.1 hx
    rw [h1]
    exact ⟨rng_mem.1 ha, hb, h2⟩
  · rintro ⟨h1, h2, h3⟩
    refine ⟨x.1.1, rng_mem.2 h1, ?_⟩
    rw [jRowP, List.mem_flatMap]
    exact ⟨x.1.2, h2, jf_mem.2 ⟨rfl, h3⟩⟩
theorem raw_nodup : (jRawL C H).Nodup := by
  have : (jRawL C H).Pairwise fun x y => x.1.1 < y.1.1 ∨ (x.1.1 = y.1.1 ∧ x.1.2 < y.1.2) := by
    refine List.pairwise_flatMap.2 ⟨fun a _ => List.pairwise_flatMap.2 ⟨fun b _ => ?_, nbW_asc.imp fun {b d} hbd x hx y hy => ?_⟩, (rng_asc 0 H.length).imp fun {a c} hac x hx y hy => ?_⟩
    · rw [jF]; split
      · exact List.pairwise_singleton _ _
      · split
        · exact List.pairwise_singleton _ _
        · exact .nil
    · have h1 := (jf_mem.1 hx).1
      have h2 := (jf_mem.1 hy).1
      rw [h1, h2]; exact .inr ⟨rfl, hbd⟩
    · rw [jRowP, List.mem_flatMap] at hx hy
      obtain ⟨b, _, hx⟩ := hx
      obtain ⟨d, _, hy⟩ := hy
      rw [(jf_mem.1 hx).1, (jf_mem.1 hy).1]; exact .inl hac
  exact this.imp fun {x y} h e => by subst e; omega
theorem jtl_mem {x : J3} (hk : ShoreOK C H) : x ∈ jRawL C H ↔ x ∈ jTL C H := by
  obtain ⟨⟨a, b⟩, h⟩ := x
  have e : ((a, b), h) ∈ jTL C H ↔ (⟨a, b, h⟩ : Jt) ∈ jAll C H 0 := by
    rw [jTL, List.mem_map]
    exact ⟨fun ⟨⟨a', b', h'⟩, hj, he⟩ => by simp only [Jt.t, Prod.mk.injEq] at he; obtain ⟨⟨rfl, rfl⟩, rfl⟩ := he; exact hj, fun hj => ⟨_, hj, rfl⟩⟩
  rw [e, raw_mem, mem_jAll, mem_nbW]
  simp only
  constructor
  · rintro ⟨h1, h2, h3⟩
    have hA := hk.at h1.1 h1.2
    rcases h3 with ⟨e1, e2⟩ | ⟨e1, e2, e3⟩
    · subst e1
      have hl : lastB C H a = true := decide_eq_true (by rcases h2 with h2 | h2 <;> omega)
      exact ⟨by omega, h1, by omega, by rw [jointI, if_pos rfl, if_pos hl]; exact e2.symm⟩
    · rcases h2 with h2 | h2
      · have hB := hk.at h2.1.1 h2.1.2
        exact ⟨by omega, h1, by omega, by rw [jointI, if_neg e1, if_pos ⟨e2, h2.2⟩]; exact e3.symm⟩
      · exact absurd h2.1 e1
  · rintro ⟨h0, h1, h2, h3⟩
    refine ⟨h1, ?_⟩
    rw [jointI] at h3
    split at h3
    · rename_i e1
      split at h3
      · rename_i hl
        exact ⟨.inr ⟨e1, of_decide_eq_true hl⟩, .inl ⟨e1, h3.symm⟩⟩
      · omega
    · rename_i e1
      split at h3
      · rename_i hl
        exact ⟨.inl ⟨⟨h2.1, by omega⟩, hl.2⟩, .inr ⟨e1, hl.1, h3.symm⟩⟩
      · omega
theorem jtl_sorted : (jTL C H).Pairwise jLt := by
  rw [jTL, List.pairwise_map]
  refine jAll_sorted.imp fun {x y} h => ?_
  unfold jlt at h; unfold jLt Jt.t; simp only; omega
theorem raw_sort (hk : ShoreOK C H) {ys : List J3} (hp : ys.Perm (jRawL C H)) (hs : ys.Pairwise fun x y => ¬ jLt y x) : ys = jTL C H := by
  refine strict_ext (r := jLt) (fun x => by unfold jLt; omega) (fun x y => by unfold jLt; omega) ?_ jtl_sorted fun x => by rw [hp.mem_iff]; exact jtl_mem hk
  have hd : ys.Pairwise fun x y => x ≠ y := hp.nodup_iff.2 raw_nodup
  refine (hs.and hd).imp fun {x y} h => ?_
  obtain ⟨⟨a, b⟩, c⟩ := x
  obtain ⟨⟨a', b'⟩, c'⟩ := y
  obtain ⟨h1, h2⟩ := h
  unfold jLt at h1 ⊢
  simp only at h1 ⊢
  have h3 : ¬ (a = a' ∧ b = b' ∧ c = c') := fun ⟨e1, e2, e3⟩ => h2 (by rw [e1, e2, e3])
  omega
theorem raw_bd (hk : ShoreOK C H) (hn : (H.length : Int) ≤ 36) : ∀ x ∈ jRawL C H, jnB x := by
  intro x hx
  obtain ⟨h1, h2, h3⟩ := raw_mem.1 hx
  have hA := hk.at h1.1 h1.2
  have h2 := mem_nbW.1 h2
  unfold jnB
  rcases h3 with ⟨e1, e2⟩ | ⟨e1, e2, e3⟩
  · omega
  · rcases h2 with h2 | h2
    · have hB := hk.at h2.1.1 h2.1.2
      omega
    · omega
theorem raw_pos (hC : 1 ≤ C) (hn : 1 ≤ (H.length : Int)) : 0 < (jRawL C H).length := by
  refine List.length_pos_of_mem (a := (((H.length : Int) - 1, (H.length : Int)), ix 0 H (H.length - 1))) (raw_mem.2 ⟨⟨by simp only; omega, by simp only; omega⟩, mem_nbW.2 (.inr ⟨rfl, by simp only; omega⟩), .inl ⟨rfl, rfl⟩⟩)
theorem nbw_len {a : Int} (hC : 1 ≤ C) : ((nbW C H.length a).length : Int) ≤ 5 := by
  have h4 : ∀ k : Int, 0 ≤ k → ((nbK C H.length a k).length : Int) ≤ 1 := fun k _ => by rw [nbK]; split <;> simp
  have e : nbP C H.length a 4 = nbK C H.length a 0 ++ nbK C H.length a 1 ++ nbK C H.length a 2 ++ nbK C H.length a 3 := by
    rw [show (4 : Int) = 3 + 1 by rfl, nbP_next (by omega), show (3 : Int) = 2 + 1 by rfl, nbP_next (by omega), show (2 : Int) = 1 + 1 by rfl, nbP_next (by omega), show (1 : Int) = 0 + 1 by rfl, nbP_next (by omega)]
    rfl
  have hl : ((nbP C H.length a 4).length : Int) ≤ 4 := by
    rw [e]
    have := h4 0 (by omega); have := h4 1 (by omega); have := h4 2 (by omega); have := h4 3 (by omega)
    simp only [List.length_append]; omega
  by_cases h : H.length - C ≤ a
  · rw [nb_river hC h]; simp only [List.length_append, List.length_singleton]; omega
  · rw [nb_dry hC h]; omega
theorem pre_len {a m : Int} {ls : List Int} (hC : 1 ≤ C) (h : (ls ++ [m]) <+: nbW C H.length a) : (ls.length : Int) + 1 ≤ 5 := by
  have h1 := h.length_le
  have h2 := nbw_len (C := C) (H := H) (a := a) hC
  simp only [List.length_append, List.length_singleton] at h1
  omega
theorem jf_add {a m : Int} {ls : List Int} {out l : List J3} (h : jF H a m = l) : (out ++ ls.flatMap (jF H a)) ++ l = out ++ (ls ++ [m]).flatMap (jF H a) := by
  rw [List.flatMap_append, List.append_assoc]; simp [h]
theorem jf_river {a m : Int} (h : m = (H.length : Int)) : jF H a m = [((a, m), ix 0 H a)] := by rw [jF, if_pos h]
theorem jf_step {a m : Int} (h : ¬ m = (H.length : Int)) (h2 : a < m) : jF H a m = [((a, m), max (ix 0 H a) (ix 0 H m))] := by rw [jF, if_neg h, if_pos h2]
theorem jf_none {a m : Int} (h : ¬ m = (H.length : Int)) (h2 : ¬ a < m) : jF H a m = [] := by rw [jF, if_neg h, if_neg h2]
theorem raw_len (hC : 1 ≤ C) : ∀ {n : Nat}, (((rng 0 (n : Int)).flatMap (jRowP C H)).length : Int) ≤ 5 * n := by
  intro n
  induction n with
  | zero => simp [rng_nil]
  | succ n ih =>
    have h1 : ∀ (a : Int) (l : List Int), ((l.flatMap (jF H a)).length : Int) ≤ l.length := by
      intro a l
      induction l with
      | nil => simp
      | cons b l ihl =>
        rw [List.flatMap_cons, List.length_append, List.length_cons]
        have : ((jF H a b).length : Int) ≤ 1 := by rw [jF]; split; simp; split <;> simp
        omega
    rw [show ((n + 1 : Nat) : Int) = (n : Int) + 1 by rfl, flat_snoc (by omega), List.length_append]
    have h2 := h1 (n : Int) (nbW C H.length n)
    have h3 := nbw_len (C := C) (H := H) (a := (n : Int)) hC
    have h4 : ((jRowP C H n).length : Int) ≤ 5 := by rw [jRowP]; omega
    omega
theorem jtl_len (hk : ShoreOK C H) (hC : 1 ≤ C) (hn : (H.length : Int) ≤ 36) : ((jTL C H).length : Int) ≤ 180 := by
  have hp : (jTL C H).Perm (jRawL C H) := by
    have hd : (jTL C H).Nodup := jtl_sorted.imp fun {x y} h e => by subst e; unfold jLt at h; omega
    exact (List.perm_ext_iff_of_nodup hd raw_nodup).2 fun x => (jtl_mem hk).symm
  rw [hp.length_eq, jRawL]
  have := raw_len (C := C) (H := H) hC (n := H.length)
  omega
end
end Go.Proofs.Ytjhimoeodkaihaa

namespace Go.Proofs.Ytjhimoeodkaihaa
open Go.Wk
set_option linter.unusedVariables false
def upK (ys : List Int) : Nat → Int → Int
  | 0, x => x
  | d + 1, x => upK ys d (ix 0 ys x)
def topV (ys : List Int) (x : Int) : Int := upK ys 1000 x
structure UF (m : Nat) (ys : List Int) : Prop where
  len : ys.length = 37
  rng : ∀ x, (0 ≤ x ∧ x < 37) → 0 ≤ ix 0 ys x ∧ ix 0 ys x < 37
  rk : ∃ rk : Int → Nat, ∀ x, (0 ≤ x ∧ x < 37) → rk x ≤ m ∧ (ix 0 ys x = x → rk x = 0) ∧ (ix 0 ys x ≠ x → rk (ix 0 ys x) < rk x)
section
variable {ys : List Int} {m : Nat}
theorem upK_root : ∀ (d : Nat) {r : Int}, ix 0 ys r = r → upK ys d r = r
  | 0, _, _ => rfl
  | d + 1, r, h => by rw [upK, h]; exact upK_root d h
theorem upK_add : ∀ (d e : Nat) (x : Int), upK ys (d + e) x = upK ys e (upK ys d x)
  | 0, e, x => by rw [Nat.zero_add]; rfl
  | d + 1, e, x => by rw [show d + 1 + e = (d + e) + 1 by omega, upK, upK, upK_add d e]
theorem upK_rng (h : UF m ys) : ∀ (d : Nat) {x : Int}, (0 ≤ x ∧ x < 37) → 0 ≤ upK ys d x ∧ upK ys d x < 37
  | 0, _, hx => hx
  | d + 1, x, hx => by rw [upK]; exact upK_rng h d (h.rng x hx)
theorem top_rng (h : UF m ys) {x : Int} (hx : 0 ≤ x ∧ x < 37) : 0 ≤ topV ys x ∧ topV ys x < 37 := upK_rng h _ hx
theorem top_root (h : UF m ys) (hm : m ≤ 1000) {x : Int} (hx : 0 ≤ x ∧ x < 37) : ix 0 ys (topV ys x) = topV ys x := by
  obtain ⟨rk, hrk⟩ := h.rk
  have key : ∀ (d : Nat) (x : Int), (0 ≤ x ∧ x < 37) → rk x ≤ d → ix 0 ys (upK ys d x) = upK ys d x := by
    intro d
    induction d with
    | zero =>
      intro x hx hd
      exact Decidable.byContradiction fun hne => by have := (hrk x hx).2.2 hne; omega
    | succ d ih =>
      intro x hx hd
      rw [upK]
      refine ih _ (h.rng x hx) ?_
      by_cases e : ix 0 ys x = x
      · rw [e, (hrk x hx).2.1 e]; omega
      · have := (hrk x hx).2.2 e; omega
  exact key 1000 x hx (Nat.le_trans (hrk x hx).1 hm)
theorem top_uniq (h : UF m ys) (hm : m ≤ 1000) {x r : Int} (hx : 0 ≤ x ∧ x < 37) {d : Nat} (hd : upK ys d x = r) (hr : ix 0 ys r = r) : topV ys x = r := by
  have h1 : upK ys (1000 + d) x = topV ys x := by rw [upK_add]; exact upK_root d (top_root h hm hx)
  have h2 : upK ys (d + 1000) x = r := by rw [upK_add, hd]; exact upK_root 1000 hr
  rw [Nat.add_comm] at h2
  exact h1.symm.trans h2
theorem top_self (h : UF m ys) (hm : m ≤ 1000) {r : Int} (hx : 0 ≤ r ∧ r < 37) (hr : ix 0 ys r = r) : topV ys r = r := top_uniq (d := 0) h hm hx rfl hr
theorem top_step (h : UF m ys) (hm : m ≤ 1000) {x : Int} (hx : 0 ≤ x ∧ x < 37) : topV ys (ix 0 ys x) = topV ys x :=
  (top_uniq (d := 1001) h hm hx (r := topV ys (ix 0 ys x)) (by rw [upK]; rfl) (top_root h hm (h.rng x hx))).symm
theorem uf_start : UF 0 (rng 0 37) := by
  have hi : ∀ x, (0 ≤ x ∧ x < 37) → ix 0 (Go.Proofs.Ytjhimoeodkaihaa.rng 0 37) x = x := fun x hx => ix_rng hx
  exact ⟨rfl, fun x hx => by rw [hi x hx]; exact hx, fun _ => 0, fun x hx => ⟨Nat.le_refl _, fun _ => rfl, fun hne => absurd (hi x hx) hne⟩⟩
theorem uf_link (h : UF m ys) (hm : m < 1000) {x y : Int} (hx : 0 ≤ x ∧ x < 37) (hy : 0 ≤ y ∧ y < 37) (rx : ix 0 ys x = x) (ry : ix 0 ys y = y) (hne : x ≠ y) :
    UF (m + 1) (ys.set x.toNat y) ∧ ∀ z, (0 ≤ z ∧ z < 37) → topV (ys.set x.toNat y) z = if topV ys z = x then y else topV ys z := by
  have hl := h.len
  have hix : ∀ z, 0 ≤ z → ix 0 (ys.set x.toNat y) z = if z = x then y else ix 0 ys z := fun z hz => ix_set0 hx.1 (by omega) hz
  obtain ⟨rk, hrk⟩ := h.rk
  have hU : UF (m + 1) (ys.set x.toNat y) := by
    refine ⟨by simp; exact hl, fun z hz => ?_, fun z => if topV ys z = x then rk z + 1 else rk z, fun z hz => ?_⟩
    · rw [hix z hz.1]; split
      · exact hy
      · exact h.rng z hz
    · obtain ⟨k1, k2, k3⟩ := hrk z hz
      have ht := top_step h (Nat.le_of_lt hm) hz
      rw [hix z hz.1]
      refine ⟨by dsimp only; split <;> omega, fun e => ?_, fun e => ?_⟩
      · by_cases ezx : z = x
        · rw [if_pos ezx] at e; omega
        · rw [if_neg ezx] at e
          have := top_self h (Nat.le_of_lt hm) hz e
          dsimp only; rw [if_neg (by omega)]; exact k2 e
      · by_cases ezx : z = x
        · rw [if_pos ezx]
          have hty := top_self h (Nat.le_of_lt hm) hy ry
          have htx := top_self h (Nat.le_of_lt hm) hx rx
          dsimp only
          rw [if_neg (by omega), ezx, if_pos htx, (hrk y hy).2.1 ry]; omega
        · rw [if_neg ezx] at e ⊢
          dsimp only
          rw [ht]
          have := k3 e
          split <;> omega
  refine ⟨hU, fun z hz => ?_⟩
  have key : ∀ (n : Nat) (z : Int), (0 ≤ z ∧ z < 37) → rk z ≤ n → ∃ d, upK (ys.set x.toNat y) d z = if topV ys z = x then y else topV ys z := by
    intro n
    induction n with
    | zero =>
      intro z hz hn
      have hr : ix 0 ys z = z := Decidable.byContradiction fun hne => by have := (hrk z hz).2.2 hne; omega
      have ht := top_self h (Nat.le_of_lt hm) hz hr
      by_cases ezx : z = x
      · exact ⟨1, by rw [upK, upK, hix z hz.1, if_pos ezx, if_pos (by omega)]⟩
      · exact ⟨0, by rw [upK, if_neg (by omega), ht]⟩
    | succ n ih =>
      intro z hz hn
      by_cases hr : ix 0 ys z = z
      · have ht := top_self h (Nat.le_of_lt hm) hz hr
        by_cases ezx : z = x
        · exact ⟨1, by rw [upK, upK, hix z hz.1, if_pos ezx, if_pos (by omega)]⟩
        · exact ⟨0, by rw [upK, if_neg (by omega), ht]⟩
      · obtain ⟨d, hd⟩ := ih (ix 0 ys z) (h.rng z hz) (by have := (hrk z hz).2.2 hr; omega)
        have ezx : z ≠ x := by rintro rfl; exact hr rx
        exact ⟨d + 1, by rw [upK, hix z hz.1, if_neg ezx, hd, top_step h (Nat.le_of_lt hm) hz]⟩
  obtain ⟨d, hd⟩ := key (rk z) z hz (Nat.le_refl _)
  refine top_uniq hU hm hz hd ?_
  have hroot := top_root h (Nat.le_of_lt hm) hz
  have hrg := top_rng h hz
  by_cases e : topV ys z = x
  · rw [if_pos e, hix y hy.1, if_neg (by omega)]; exact ry
  · rw [if_neg e, hix _ hrg.1, if_neg e]; exact hroot
def tops (n : Int) (ys : List Int) : List Int := (rng 0 (n + 1)).map (topV ys)
theorem tops_ix {n x : Int} (hx : 0 ≤ x ∧ x ≤ n) : ix 0 (tops n ys) x = topV ys x := by
  rw [ix, tops, List.getD_eq_getElem?_getD, List.getElem?_map, rng_get hx.1 (by omega), Option.map_some, Option.getD_some]
theorem tops_len {n : Int} (hn : 0 ≤ n) : ((tops n ys).length : Int) = n + 1 := by
  rw [tops, List.length_map]; have := rng_length (i := 0) (n := n + 1) (by omega); omega
theorem tops_start {n : Int} (hn : 0 ≤ n) (h36 : n ≤ 36) : LabI n (tops n (rng 0 37)) [] := by
  refine ⟨tops_len hn, fun x y hx hy => ?_⟩
  have key : ∀ z, (0 ≤ z ∧ z ≤ n) → topV (rng 0 37) z = z := fun z hz => by
    have h1 : ix 0 (rng 0 37) z = z := ix_rng ⟨hz.1, by omega⟩
    have h2 : 0 ≤ z ∧ z < 37 := ⟨hz.1, by omega⟩
    have h3 : UF 0 (rng 0 37) := uf_start
    generalize rng 0 37 = ys at h1 h3 ⊢
    exact top_self h3 (Nat.zero_le _) h2 h1
  rw [tops_ix hx, tops_ix hy, key x hx, key y hy]; rfl
theorem tops_con {n a b : Int} {out : List Ends} (hL : LabI n (tops n ys) out) (ha : 0 ≤ a ∧ a ≤ n) (hb : 0 ≤ b ∧ b ≤ n) : conF out a b = true ↔ topV ys a = topV ys b := by
  rw [lab_con hL ha hb, tops_ix ha, tops_ix hb]
theorem tops_link {n a b : Int} {out : List Ends} (h : UF m ys) (hm : m < 1000) (hL : LabI n (tops n ys) out) (hn : n ≤ 36) (ha : 0 ≤ a ∧ a ≤ n) (hb : 0 ≤ b ∧ b ≤ n) (hne : topV ys a ≠ topV ys b) :
    UF (m + 1) (ys.set (topV ys a).toNat (topV ys b)) ∧ LabI n (tops n (ys.set (topV ys a).toNat (topV ys b))) (out ++ [(a, b)]) := by
  have ha' : 0 ≤ a ∧ a < 37 := by omega
  have hb' : 0 ≤ b ∧ b < 37 := by omega
  obtain ⟨h1, h2⟩ := uf_link h hm (top_rng h ha') (top_rng h hb') (top_root h (Nat.le_of_lt hm) ha') (top_root h (Nat.le_of_lt hm) hb') hne
  have hln : ((tops n ys).length : Int) = n + 1 := tops_len (by omega)
  refine ⟨h1, lab_add (k := n + 1) hL ha hb ⟨?_, fun x x0 x1 => ?_⟩ (by omega) (by rw [tops_ix ha, tops_ix hb]; exact hne)⟩
  · rw [tops, tops, List.length_map, List.length_map]
  · rw [tops_ix ⟨x0, by omega⟩, tops_ix ⟨x0, by omega⟩, tops_ix ha, tops_ix hb, h2 x ⟨x0, by omega⟩]
    by_cases e : topV ys x = topV ys a
    · rw [if_pos e, if_pos ⟨by omega, e⟩]
    · rw [if_neg e, if_neg (fun q => e q.2)]
end
/-! ### all is connected -/
section
variable {R C : Int} {H : List Int}
theorem rch_wide {G G' : RelE} {n n' b : Int} (hn : n ≤ n') (hG : ∀ x y, (0 ≤ x ∧ x < n) → (0 ≤ y ∧ y < n) → G x y = true → G' x y = true) : ∀ (d : Nat) (x : Int), (0 ≤ x ∧ x < n) → rchB G n b d x = true → rchB G' n' b d x = true := by
  intro d
  induction d with
  | zero => intro x _ h; exact h
  | succ d ih =>
    intro x hx h
    obtain ⟨k, hk, e1, e2⟩ := rch_step.1 h
    exact rch_step.2 ⟨k, ⟨hk.1, by omega⟩, hG x k hx hk e1, ih k hk e2⟩
theorem falls_led (hk : SOK R C H) {h a : Int} (h0 : 0 ≤ h) (ha : 0 ≤ a ∧ a < (H.length : Int)) (hf : fallsB C H h a = true) : ledN C H h a H.length = true := by
  obtain ⟨h1, b, hb, h2, h3⟩ := falls_iff.1 hf
  have hlow : ∀ x, (0 ≤ x ∧ x < (H.length : Int)) → highV H x = ix 0 H x := fun x hx => by rw [highV, if_neg (by omega)]
  obtain ⟨d, hd⟩ := (led_rch ha hb).1 h3
  have hbl : ix 0 H b ≤ h := by
    have key : ∀ (d : Nat) (x : Int), ix 0 H x ≤ h → rchB (gH C H h) H.length b d x = true → ix 0 H b ≤ h := by
      intro d
      induction d with
      | zero => intro x hx hr; rw [show x = b from of_decide_eq_true hr] at hx; exact hx
      | succ d ih =>
        intro x hx hr
        obtain ⟨k, hk, e1, e2⟩ := rch_step.1 hr
        exact ih k (gH_iff.1 e1).2.2 e2
    exact key d a h1 hd
  have h4 : ledN C H h a b = true := (led_rch ⟨ha.1, by omega⟩ ⟨hb.1, by omega⟩).2 ⟨d, rch_wide (by omega) (fun x y hx hy e => by
    obtain ⟨e1, e2, e3⟩ := gH_iff.1 e
    refine gN_iff.2 ⟨?_, by rw [hlow x hx]; exact e2, by rw [hlow y hy]; exact e3⟩
    rw [nearB, if_neg (by omega)]; exact e1) d a ha hd⟩
  refine led_trans ⟨ha.1, by omega⟩ ⟨hb.1, by omega⟩ ⟨by omega, by omega⟩ h4 (led_one ⟨hb.1, by omega⟩ ⟨by omega, by omega⟩ (gN_iff.2 ⟨?_, by rw [hlow b hb]; exact hbl, by rw [highV, if_pos rfl]; exact h0⟩))
  have : (H.length : Int) - C ≤ b := of_decide_eq_true h2
  rw [nearB, if_pos (.inr rfl), Bool.and_eq_true, decide_eq_true_eq, decide_eq_true_eq]; omega
theorem led_river (hk : SOK R C H) {a : Int} (ha : 0 ≤ a ∧ a ≤ (H.length : Int)) : ledN C H 30 a H.length = true := by
  by_cases e : a = (H.length : Int)
  · rw [e]; exact led_refl ⟨by omega, by omega⟩
  · exact falls_led hk (by omega) ⟨ha.1, by omega⟩ (falls_top hk.o (Int.le_refl 30) _ rfl ha.1 (by omega))
theorem led_all (hk : SOK R C H) {a b : Int} (ha : 0 ≤ a ∧ a ≤ (H.length : Int)) (hb : 0 ≤ b ∧ b ≤ (H.length : Int)) : ledN C H 30 a b = true :=
  led_trans ⟨ha.1, by omega⟩ ⟨by omega, by omega⟩ ⟨hb.1, by omega⟩ (led_river hk ha) (led_symm (rM_symm (near_symm _)) ⟨hb.1, by omega⟩ ⟨by omega, by omega⟩ (led_river hk hb))
theorem all_con (hk : SOK R C H) {a b : Int} (ha : 0 ≤ a ∧ a ≤ (H.length : Int)) (hb : 0 ≤ b ∧ b ≤ (H.length : Int)) : conF ((kru (jAll C H 0)).map Jt.e) a b = true := by
  rw [kru_con]
  exact led_con hk (Int.le_refl 30) (fun j hj _ => hj) ⟨ha.1, by omega⟩ ⟨hb.1, by omega⟩ (led_all hk ha hb)
/-! ### the joints that are taken -/
def kruP (C : Int) (H : List Int) (k : Int) : List Jt := kru ((jAll C H 0).take k.toNat)
def treeJ (C : Int) (H : List Int) : List J3 := (kru (jAll C H 0)).map Jt.t
theorem jtl_ix {k : Int} (h0 : 0 ≤ k) (h1 : k < (jTL C H).length) : ∃ (j : Jt) (post : List Jt), jAll C H 0 = (jAll C H 0).take k.toNat ++ j :: post ∧ ix ((0, 0), 0) (jTL C H) k = j.t ∧ (jAll C H 0).take (k + 1).toNat = (jAll C H 0).take k.toNat ++ [j] := by
  have hl : k.toNat < (jAll C H 0).length := by rw [jTL, List.length_map] at h1; omega
  refine ⟨(jAll C H 0)[k.toNat], (jAll C H 0).drop (k.toNat + 1), ?_, ?_, ?_⟩
  · rw [← List.drop_eq_getElem_cons hl, List.take_append_drop]
  · rw [ix, jTL, List.getD_eq_getElem?_getD, List.getElem?_map, List.getElem?_eq_getElem hl]; rfl
  · rw [show (k + 1).toNat = k.toNat + 1 by omega, List.take_succ_eq_append_getElem hl]
theorem kru_snoc (l : List Jt) (j : Jt) : kru (l ++ [j]) = kstep (kru l) j := by rw [kru, kru, List.foldl_append]; rfl
theorem kru_sub : ∀ (l : List Jt), (kru l).length ≤ l.length := by
  intro l
  induction l using snoc_ind with
  | h0 => simp [kru]
  | hs l j ih => rw [kru_snoc, kstep]; split <;> simp <;> omega
structure TrI (C : Int) (H : List Int) (a b k : Int) (ys : List Int) (out : List J3) (high : Int) : Prop where
  o : out = (kruP C H k).map Jt.t
  uf : UF out.length ys
  lab : LabI H.length (tops H.length ys) ((kruP C H k).map Jt.e)
  hi : conF ((kruP C H k).map Jt.e) a b = true → high = betwV C H a b
  bd : 0 ≤ high ∧ high ≤ 100
theorem tr_start (hk : SOK R C H) {a b : Int} (ha : 0 ≤ a ∧ a ≤ (H.length : Int)) : TrI C H a b 0 (rng 0 37) [] (highV H a) := by
  have hb := high_bd hk ha
  refine ⟨rfl, uf_start, tops_start (by omega) hk.n.2, fun hc => ?_, by omega⟩
  have e : a = b := of_decide_eq_true hc
  subst e
  exact (betw_same hk ⟨ha.1, by omega⟩).symm
theorem tr_end (hk : SOK R C H) {a b k : Int} (ha : 0 ≤ a ∧ a ≤ (H.length : Int)) (hb : 0 ≤ b ∧ b ≤ (H.length : Int)) {ys : List Int} {out : List J3} {high : Int} (hT : TrI C H a b k ys out high) (hkl : ((jTL C H).length : Int) ≤ k) : out = treeJ C H ∧ high = betwV C H a b := by
  have e : kruP C H k = kru (jAll C H 0) := by
    rw [kruP, List.take_of_length_le (by rw [jTL, List.length_map] at hkl; omega)]
  refine ⟨by rw [hT.o, e]; rfl, hT.hi (by rw [e]; exact all_con hk ha hb)⟩
theorem jtl_bd (hk : SOK R C H) {k : Int} (h0 : 0 ≤ k) (h1 : k < (jTL C H).length) : ∃ p q h : Int, ix ((0, 0), 0) (jTL C H) k = ((p, q), h) ∧ (0 ≤ p ∧ p < (H.length : Int)) ∧ (0 ≤ q ∧ q ≤ (H.length : Int)) ∧ (0 ≤ h ∧ h ≤ 30) := by
  obtain ⟨j, post, hl, hi, _⟩ := jtl_ix h0 h1
  obtain ⟨m1, m2, m3, m4⟩ := mem_jAll.1 (show j ∈ jAll C H 0 by rw [hl]; simp)
  exact ⟨j.a, j.b, j.h, hi, m2, by omega, by omega⟩
theorem tr_skip {a b k p q h : Int} {ys : List Int} {out : List J3} {high : Int} (hT : TrI C H a b k ys out high) (h0 : 0 ≤ k) (h1 : k < (jTL C H).length) (hi : ix ((0, 0), 0) (jTL C H) k = ((p, q), h)) (hp : 0 ≤ p ∧ p ≤ (H.length : Int)) (hq : 0 ≤ q ∧ q ≤ (H.length : Int)) (he : topV ys p = topV ys q) : TrI C H a b (k + 1) ys out high := by
  obtain ⟨j, post, hl, hij, ht⟩ := jtl_ix h0 h1
  have e : kruP C H (k + 1) = kruP C H k := by
    rw [kruP, ht, kru_snoc, kstep, if_pos]; rfl
    rw [hi] at hij
    have e1 : j.a = p := (congrArg (fun z : J3 => z.1.1) hij).symm
    have e2 : j.b = q := (congrArg (fun z : J3 => z.1.2) hij).symm
    rw [e1, e2]
    exact (tops_con hT.lab hp hq).2 he
  exact ⟨by rw [e]; exact hT.o, hT.uf, by rw [e]; exact hT.lab, by rw [e]; exact hT.hi, hT.bd⟩
theorem tr_take (hk : SOK R C H) {a b k p q h : Int} {ys : List Int} {out : List J3} {high : Int} (hT : TrI C H a b k ys out high) (ha : 0 ≤ a ∧ a ≤ (H.length : Int)) (hb : 0 ≤ b ∧ b ≤ (H.length : Int)) (h0 : 0 ≤ k) (h1 : k < (jTL C H).length) (hol : out.length < 1000) (hi : ix ((0, 0), 0) (jTL C H) k = ((p, q), h)) (hp : 0 ≤ p ∧ p ≤ (H.length : Int)) (hq : 0 ≤ q ∧ q ≤ (H.length : Int)) (hh : 0 ≤ h ∧ h ≤ 30) (he : ¬ topV ys p = topV ys q)
    {high' : Int} (hhi : high' = if topV ys a = topV ys b then high else h) : TrI C H a b (k + 1) (ys.set (topV ys p).toNat (topV ys q)) (out ++ [((p, q), h)]) high' := by
  obtain ⟨j, post, hl, hij, ht⟩ := jtl_ix h0 h1
  rw [hi] at hij
  have e1 : j.a = p := (congrArg (fun z : J3 => z.1.1) hij).symm
  have e2 : j.b = q := (congrArg (fun z : J3 => z.1.2) hij).symm
  have e3 : j.h = h := (congrArg (fun z : J3 => z.2) hij).symm
  have e : kruP C H (k + 1) = kruP C H k ++ [j] := by
    rw [kruP, ht, kru_snoc, kstep, if_neg]; rfl
    rw [e1, e2]
    exact fun q' => he ((tops_con hT.lab hp hq).1 q')
  obtain ⟨u1, u2⟩ := tops_link hT.uf hol hT.lab hk.n.2 hp hq he
  have hje : Jt.e j = (p, q) := by rw [Jt.e, e1, e2]
  refine ⟨by rw [e, List.map_append, ← hT.o, List.map_singleton, ← hij], by rw [List.length_append]; exact u1, by rw [e, List.map_append, List.map_singleton, hje]; exact u2, fun hc => ?_, ?_⟩
  · rw [hhi]
    by_cases hap : topV ys a = topV ys b
    · rw [if_pos hap]; exact hT.hi ((tops_con hT.lab ha hb).2 hap)
    · rw [if_neg hap, ← e3]
      refine (betw_joint hk hl ⟨ha.1, by omega⟩ ⟨hb.1, by omega⟩ ?_ ?_).symm
      · rw [← kru_con]
        cases hq' : conF ((kru ((jAll C H 0).take k.toNat)).map Jt.e) a b with
        | false => rfl
        | true => exact absurd ((tops_con hT.lab ha hb).1 hq') hap
      · rw [← ht, ← kru_con]; exact hc
  · rw [hhi]; have := hT.bd; split <;> omega
end
end Go.Proofs.Ytjhimoeodkaihaa
namespace Go.Proofs.Ytjhimoeodkaihaa
open Go.Wk
theorem id_rng {y : List Int} (h : y.length = 37) (hi : ∀ x, 0 ≤ x → x < 37 → ix 0 y x = x) : y = rng 0 37 := by
  apply List.ext_getElem?
  intro k
  by_cases hk : k < 37
  · have h1 := hi (k : Int) (by omega) (by omega)
    have h2 := rng_get (i := (k : Int)) (n := 37) (by omega) (by omega)
    rw [Int.toNat_natCast] at h2
    rw [h2, List.getElem?_eq_getElem (by omega)]
    rw [ix, Int.toNat_natCast, List.getD_eq_getElem?_getD, List.getElem?_eq_getElem (by omega)] at h1
    exact congrArg some h1
  · rw [List.getElem?_eq_none (by omega), List.getElem?_eq_none (by have := rng_length (i := 0) (n := 37) (by omega); omega)]
theorem tr_len {C : Int} {H : List Int} {a b k : Int} {ys : List Int} {out : List J3} {high : Int} (h : TrI C H a b k ys out high) (h0 : 0 ≤ k) : (out.length : Int) ≤ k := by
  rw [h.o, List.length_map, kruP]
  have := kru_sub ((jAll C H 0).take k.toNat)
  rw [List.length_take] at this
  omega
theorem jtl_jbd {R C : Int} {H : List Int} (hk : SOK R C H) {k : Int} (h0 : 0 ≤ k) (h1 : k < (jTL C H).length) : (0 ≤ (ix ((0, 0), 0) (jTL C H) k).1.1 ∧ (ix ((0, 0), 0) (jTL C H) k).1.1 < (H.length : Int)) ∧ (0 ≤ (ix ((0, 0), 0) (jTL C H) k).1.2 ∧ (ix ((0, 0), 0) (jTL C H) k).1.2 ≤ (H.length : Int)) ∧ (0 ≤ (ix ((0, 0), 0) (jTL C H) k).2 ∧ (ix ((0, 0), 0) (jTL C H) k).2 ≤ 30) := by
  obtain ⟨p, q, h, hi, hp, hq, hh⟩ := jtl_bd hk h0 h1
  rw [hi]; exact ⟨hp, hq, hh⟩
theorem tree_len {R C : Int} {H : List Int} (hk : SOK R C H) : ((treeJ C H).length : Int) ≤ 180 := by
  have := kru_sub (jAll C H 0)
  have h2 := jtl_len hk.o hk.c.1 hk.n.2
  rw [jTL, List.length_map] at h2
  rw [treeJ, List.length_map]; omega
theorem tree_snoc {C : Int} {H : List Int} {k : Int} {out : List Ends} (h : out = ((treeJ C H).take k.toNat).map (·.1)) (h0 : 0 ≤ k) (h1 : k < ((treeJ C H).length : Int)) : out ++ [((ix ((0, 0), 0) (treeJ C H) k).1.1, (ix ((0, 0), 0) (treeJ C H) k).1.2)] = ((treeJ C H).take (k + 1).toNat).map (·.1) := by
  rw [take_ix (d := ((0, 0), 0)) h0 h1, List.map_append, h]; rfl
theorem tree_full {C : Int} {H : List Int} {k : Int} (hk : ((treeJ C H).length : Int) ≤ k) : ((treeJ C H).take k.toNat).map (·.1) = treeV C H := by
  rw [List.take_of_length_le (by omega), treeJ, treeV, List.map_map]; rfl
end Go.Proofs.Ytjhimoeodkaihaa
namespace Go.Proofs.Ytjhimoeodkaihaa
def sS : List Int := [5, 5, 5, 5, 2, 5, 5, 4, 5]
def sT : List Int := [9, 3, 6, 1]
end Go.Proofs.Ytjhimoeodkaihaa

namespace Go.Wk
open Go.RowKit Go.Lib
set_option linter.unusedVariables false
variable {P : Program} {n : Nat} {kn kr k : Cont} {ke : List (Nat × Cont)} {σ : Fr} {w : World} {ops : Array Oper} {S : World → Prop}

def Wz (P : Program) (n : Nat) (ops : Array Oper) (S : World → Prop) (fuel : Nat) (listed : Array Bool) (k : Cont) (σ : Fr) (w : World) : Prop :=
  ∀ T, AtF n σ T → wpAnyH P .any ops (post n k (fun _ _ => False) []) S fuel listed ⟨T, []⟩ w

theorem W.regZ (S : World → World → Prop) {id : Nat} {l : List Oper} (hm : P.follows .mixedOrders = true) (h : ∀ w', Ext w w' → Wz P n l.toArray (S w') l.length (Array.replicate l.length false) kn σ w') (hd : noDefer l = true := by rfl) : W P n (.region id l.toArray true) kn kr ke σ w := by
  refine W.ofAny hm hd fun T hT => ?_
  have h2 := h _ (ext_drawn w) T hT
  exact wpAny_of_held (S := S _) _ _ _ _ (by simpa using h2)

theorem Wz.rd (i : Nat) {f : Nat} {listed : Array Bool} {d : Tmp} {op : Op} {ty : TypeId} {pos : String} {af : Array Edge} {v : Value} {l : List (Nat × Value)} {σ0 : Fr}
    (hi : ops[i]? = some ⟨some d, op, ty, pos, af, none⟩) (hB : (Region.noSelect ops && Region.free .any ops listed i && (Region.ready .any ops listed).contains i) = true) (hS : S w)
    (hr : ∀ w', S w' → Rd P (look l σ0) op ty w' v) (hd : Nat.ble (d + 1) n = true) (h : Wz P n ops S f (listed.setIfInBounds i true) k (look ((d, v) :: l) σ0) w) : Wz P n ops S (f + 1) listed k (look l σ0) w := by
  intro T hT
  simp only [Bool.and_eq_true] at hB
  obtain ⟨T', hT', hF⟩ := hT.put (some d) v hd []
  rw [look_cons] at h
  refine wpAnyH_take (v := v) hi hB.1.1 hB.1.2 hB.2 (fun c a w h => h.elim) (.inl ⟨rfl, fun w' hw' => ?_⟩) hS ?_
  · rw [hT.eval, execOp_xop]
    exact hr w' hw' w' (Ext.refl _)
  · rw [hT']
    exact h T' hF

theorem Wz.br (rs : List Nat) {f : Nat} {listed : Array Bool} (hr : Region.ready .any ops listed = rs) (hne : rs ≠ [])
    (h : AllI (fun i => ∃ o, ops[i]? = some o ∧ Wx P n ops false [o] (fun σ' w' => S w' ∧ Wz P n ops S f (listed.setIfInBounds i true) k σ' w') σ w) rs) : Wz P n ops S (f + 1) listed k σ w := by
  intro T hT
  refine wpAnyH_all hr hne fun i hi => ?_
  obtain ⟨o, ho, h⟩ := h.mem i hi
  have h2 : wpList P ops (post n (fun σ' w' => S w' ∧ Wz P n ops S f (listed.setIfInBounds i true) k σ' w') (fun _ _ => False) []) [o] ⟨T, []⟩ w := h T hT
  have key : ∀ a' w', post n (fun σ' w' => S w' ∧ Wz P n ops S f (listed.setIfInBounds i true) k σ' w') (fun _ _ => False) [] .normal a' w' →
      (fun a' w' => S w' ∧ wpAnyH P .any ops (post n k (fun _ _ => False) []) S f (listed.setIfInBounds i true) a' w') a' w' := by
    intro a' w' ⟨g1, g2, g4⟩
    refine ⟨g4.1, ?_⟩
    have := g4.2 a'.tmps (AtF.self g1)
    cases a'
    simp only at g2
    subst g2
    exact this
  unfold wpOp
  simp only [ho]
  unfold wpList at h2
  split
  · rename_i hw
    rw [if_pos hw] at h2
    rcases h2 with h2 | h2
    · refine .inl ?_
      unfold Oper.wp at h2 ⊢
      generalize (execOp (Act.eval ⟨T, []⟩) o).run P w = r at h2 ⊢
      cases r with
      | ok nx w' =>
        cases nx <;> simp only [Oper.upon] at h2 ⊢
        case value u => exact key _ _ h2
        case skip => exact key _ _ h2
        case defer d => exact key _ _ h2
        case enter f args =>
          refine Calls.mono h2 fun e w'' he => ?_
          cases e with
          | returned u => exact key _ _ he
          | panicked c => exact he
          | outgrown => exact he
        case row row args => exact Rows.mono h2 fun u w'' he => key _ _ he
      | halt x w' =>
        cases x <;> simp only [Oper.upon] at h2 ⊢
        case panic u => exact h2
    · exact .inr h2
  · rename_i hw
    rw [if_neg hw] at h2
    exact key _ _ h2

theorem Wz.done {f : Nat} {listed : Array Bool} (hr : Region.ready .any ops listed = []) (h : k σ w) : Wz P n ops S f listed k σ w :=
  fun T hT => wpAnyH_done hr ⟨hT.1, rfl, by rw [hT.fun_eq]; exact h⟩ f
end Go.Wk
namespace Go.Wk
theorem drop_map_take {α β : Type} (f : α → β) (l : List α) (o m : Nat) : ((l.map f).drop o).take ((l.drop o).take m).length = ((l.drop o).take m).map f := by
  rw [List.map_take, List.map_drop, ← List.map_drop]
  apply List.ext_getElem?
  intro k
  simp only [List.getElem?_take, List.length_take, List.length_drop, List.getElem?_map, List.getElem?_drop]
  by_cases h1 : k < m
  · rw [if_pos h1]
    by_cases h2 : k < l.length - o
    · rw [if_pos (by omega)]
    · rw [if_neg (by omega), List.getElem?_eq_none (by omega)]; rfl
  · rw [if_neg h1, if_neg (by omega)]
end Go.Wk

namespace Go.Proofs.Ytjhimoeodkaihaa
open Go.Wk
set_option linter.unusedVariables false
def sdR (most : Int) (zs : List Int) : Int := 1 + ix 0 zs 0 % most
def sdC (most : Int) (zs : List Int) : Int := 1 + ix 0 zs 1 % most
def sdX (most : Int) (zs : List Int) : List Int := (zs.drop 2).take (sdR most zs * sdC most zs).toNat
def sdH (most : Int) (zs : List Int) : List Int := (sdX most zs).map fun x => x % 31
section
variable {most : Int} {zs : List Int}
theorem sd_bd (h1 : 1 ≤ most) (h6 : most ≤ 6) : (1 ≤ sdR most zs ∧ sdR most zs ≤ 6) ∧ (1 ≤ sdC most zs ∧ sdC most zs ≤ 6) := by
  unfold sdR sdC
  have a1 := Int.emod_nonneg (ix 0 zs 0) (show most ≠ 0 by omega)
  have a2 := Int.emod_lt_of_pos (ix 0 zs 0) (show 0 < most by omega)
  have a3 := Int.emod_nonneg (ix 0 zs 1) (show most ≠ 0 by omega)
  have a4 := Int.emod_lt_of_pos (ix 0 zs 1) (show 0 < most by omega)
  omega
theorem sd_mul (h1 : 1 ≤ most) (h6 : most ≤ 6) : 0 ≤ sdR most zs * sdC most zs ∧ sdR most zs * sdC most zs ≤ 36 := by
  have := sd_bd (zs := zs) h1 h6
  exact mul36 this.1 this.2
theorem sdX_len (h1 : 1 ≤ most) (h6 : most ≤ 6) (hz : zs.length = 38) : ((sdX most zs).length : Int) = sdR most zs * sdC most zs := by
  have := sd_mul (zs := zs) h1 h6
  rw [sdX, List.length_take, List.length_drop, hz]; omega
theorem sd_ok (h1 : 1 ≤ most) (h6 : most ≤ 6) (hz : zs.length = 38) : SOK (sdR most zs) (sdC most zs) (sdH most zs) := by
  have hb := sd_bd (zs := zs) h1 h6
  refine SOK.of ?_
  rw [checkS, if_neg (not_not_intro hb), if_neg (not_not_intro (by rw [sdH, List.length_map]; exact sdX_len h1 h6 hz)), if_neg]
  intro h
  obtain ⟨x, hx, hxb⟩ := List.any_eq_true.1 h
  obtain ⟨y, _, rfl⟩ := List.mem_map.1 hx
  have : badH (y % 31) = false := badH_iff.2 (by have := Int.emod_nonneg y (show (31 : Int) ≠ 0 by decide); have := Int.emod_lt_of_pos y (show (0 : Int) < 31 by decide); omega)
  rw [this] at hxb; cases hxb
theorem sd_snoc {k : Int} {hs : List Int} (h : hs = ((sdX most zs).take k.toNat).map fun x => x % 31) (h0 : 0 ≤ k) (h1 : k < (sdX most zs).length) : hs ++ [ix 0 (sdX most zs) k % 31] = ((sdX most zs).take (k + 1).toNat).map fun x => x % 31 := by
  rw [take_ix (d := 0) h0 h1, List.map_append, ← h]; rfl
theorem sd_full {k : Int} (hk : ((sdX most zs).length : Int) ≤ k) : (((sdX most zs).take k.toNat).map fun x => x % 31) = sdH most zs := by
  rw [List.take_of_length_le (by omega), sdH]
end
end Go.Proofs.Ytjhimoeodkaihaa
namespace Go.Proofs.Ytjhimoeodkaihaa
open Go.Wk Go.RowKit
theorem ix_u8 {zs : List Int} (h : ∀ z ∈ zs, InK .u8 z) (j : Int) : 0 ≤ ix 0 zs j ∧ ix 0 zs j ≤ 255 := by
  unfold ix
  cases hz : zs[j.toNat]? with
  | none => rw [List.getD_eq_getElem?_getD, hz]; simp
  | some z =>
    have := bd_u8 (h z (List.mem_of_getElem? hz))
    rw [List.getD_eq_getElem?_getD, hz]; exact this
end Go.Proofs.Ytjhimoeodkaihaa
namespace Go.Proofs.Ytjhimoeodkaihaa
open Go.Wk
theorem max_dec {a b c : Int} (hc : 1 ≤ c) : (decide (a - b = c) || decide (b - a = c)) = decide (max (a - b) (b - a) = c) := by
  rw [Bool.eq_iff_iff, Bool.or_eq_true, decide_eq_true_eq, decide_eq_true_eq, decide_eq_true_eq]; omega
end Go.Proofs.Ytjhimoeodkaihaa
namespace Go.Proofs.Ytjhimoeodkaihaa
open Go.Wk
set_option linter.unusedVariables false
section
variable {R C : Int} {H ps : List Int} {h : Int}
theorem SOK.chk (hk : SOK R C H) : checkS R C H = 0 := by
  rw [checkS, if_neg (not_not_intro ⟨hk.r, hk.c⟩), if_neg (not_not_intro hk.e), if_neg]
  intro hq
  obtain ⟨x, hx, hxb⟩ := List.any_eq_true.1 hq
  have := badH_iff.2 (hk.o.b x hx)
  rw [this] at hxb; cases hxb
theorem sills_eq (hk : SOK R C H) : sillsE R C H = sillsL C H := by rw [sillsE, if_pos hk.chk]
theorem sills_len (hk : SOK R C H) : ((sillsE R C H).length : Int) = H.length := by
  rw [sills_eq hk, sillsL, List.length_map]; have := rng_length (i := 0) (n := (H.length : Int)) (by omega); omega
theorem sills_ix (hk : SOK R C H) {x : Int} (h0 : 0 ≤ x) (h1 : x < (H.length : Int)) : ix 0 (sillsE R C H) x = sillV C H x := by
  rw [sills_eq hk, ix, sillsL, List.getD_eq_getElem?_getD, List.getElem?_map, rng_get h0 h1, Option.map_some, Option.getD_some]
end
end Go.Proofs.Ytjhimoeodkaihaa
namespace Go.Proofs.Ytjhimoeodkaihaa
open Go.Wk
set_option linter.unusedVariables false
section
variable {R C : Int} {H ws : List Int} {p : Int}
end
end Go.Proofs.Ytjhimoeodkaihaa
namespace Go.Proofs.Ytjhimoeodkaihaa
open Go.Wk
set_option linter.unusedVariables false
section
variable {R C : Int} {H H2 : List Int}
end
end Go.Proofs.Ytjhimoeodkaihaa

namespace Go.Proofs.Ytjhimoeodkaihaa
open Go.Wk
set_option linter.unusedVariables false
section
variable {C n : Int}
end
section
variable {R C : Int} {H H2 : List Int}
end
section
variable {A : RelE} {n : Int} {f : Int → Bool}
end
section
variable {R C : Int} {H H2 : List Int}
end
end Go.Proofs.Ytjhimoeodkaihaa

namespace Go.Proofs.Ytjhimoeodkaihaa
open Go.Wk Go.RowKit
set_option linter.unusedVariables false
theorem and_mask {y : Int} (h0 : 1 ≤ y) (h1 : y ≤ 40) : bits .and .u64 y 4294967295 = y ∧ y / 2 ^ min (32 : Int).toNat IntKind.u64.bits = 0 := by
  have key : ∀ k : Fin 41, bits .and .u64 ((k.val : Nat) : Int) 4294967295 = ((k.val : Nat) : Int) ∧ ((k.val : Nat) : Int) / 2 ^ min (32 : Int).toNat IntKind.u64.bits = 0 := by decide +kernel
  have := key ⟨y.toNat, by omega⟩
  rw [show ((y.toNat : Nat) : Int) = y by omega] at this
  exact this
theorem rep_first {a : Int} {n : Nat} (h : 1 ≤ n) : List.take (List.replicate n (0 : Int)).length [a] ++ List.drop (min [a].length (List.replicate n (0 : Int)).length) (List.replicate n 0) = List.replicate 1 a ++ List.replicate (n - 1) 0 := by
  obtain ⟨m, rfl⟩ : ∃ m, n = m + 1 := ⟨n - 1, by omega⟩
  simp [List.replicate_succ]
theorem rep_next {a b n : Int} (h1 : 1 ≤ b) (h2 : b < n) :
    List.take (b.toNat * 1) (List.replicate b.toNat a ++ List.replicate (n.toNat - b.toNat) 0) ++
      List.take ((List.replicate b.toNat a ++ List.replicate (n.toNat - b.toNat) 0).length - b.toNat) (List.take b.toNat (List.replicate b.toNat a ++ List.replicate (n.toNat - b.toNat) 0)) ++
      List.drop (b.toNat * 1 + min (List.take b.toNat (List.replicate b.toNat a ++ List.replicate (n.toNat - b.toNat) 0)).length ((List.replicate b.toNat a ++ List.replicate (n.toNat - b.toNat) 0).length - b.toNat)) (List.replicate b.toNat a ++ List.replicate (n.toNat - b.toNat) 0) =
    List.replicate (min (b + b) n).toNat a ++ List.replicate (n.toNat - (min (b + b) n).toNat) 0 := by
  have e1 : List.take b.toNat (List.replicate b.toNat a ++ List.replicate (n.toNat - b.toNat) 0) = List.replicate b.toNat a := by
    rw [List.take_append_of_le_length (by simp)]; simp
  have e2 : (List.replicate b.toNat a ++ List.replicate (n.toNat - b.toNat) (0 : Int)).length = n.toNat := by simp; omega
  rw [Nat.mul_one, e1, e2, List.take_replicate, List.length_replicate, List.replicate_append_replicate]
  rw [List.drop_append, List.drop_eq_nil_of_le (by simp), List.nil_append, List.drop_replicate, List.length_replicate]
  congr 2 <;> omega
section
variable {R C : Int} {H : List Int} {w : Int}
end
end Go.Proofs.Ytjhimoeodkaihaa

namespace Go.Proofs.Ytjhimoeodkaihaa
open Go.Wk
set_option linter.unusedVariables false
section
variable {R C : Int} {H : List Int} {h p : Int}
/-! ### basins -/
/-! ### distances, found by going over all neighbours many times -/
variable {r u y : Int} {far : List Int}
end
end Go.Proofs.Ytjhimoeodkaihaa

namespace Go.Proofs.Ytjhimoeodkaihaa
open Go.Wk
set_option linter.unusedVariables false
/-! ### slices of slices -/
def mx (yss : List (List Int)) (x y : Int) : Int := ix 0 (ix [] yss x) y
def MatN (N : Int) (yss : List (List Int)) : Prop := (yss.length : Int) = N ∧ ∀ x, 0 ≤ x → x < N → ((ix [] yss x).length : Int) = N
section
variable {N : Int} {yss : List (List Int)}
theorem ixs_set {l : List (List Int)} {r : List Int} {i x : Int} (h0 : 0 ≤ i) (h1 : i < l.length) (hx : 0 ≤ x) : ix [] (l.set i.toNat r) x = if x = i then r else ix [] l x := by
  simp only [ix, List.getD_eq_getElem?_getD, List.getElem?_set]
  by_cases e : x = i
  · subst e; rw [if_pos rfl, if_pos rfl, if_pos (by omega)]; rfl
  · rw [if_neg (by omega), if_neg e]
theorem mx_set (hM : MatN N yss) {x y v : Int} (x0 : 0 ≤ x) (x1 : x < N) (y0 : 0 ≤ y) (y1 : y < N) : MatN N (yss.set x.toNat ((ix [] yss x).set y.toNat v)) ∧ ∀ p q, 0 ≤ p → 0 ≤ q → mx (yss.set x.toNat ((ix [] yss x).set y.toNat v)) p q = if p = x ∧ q = y then v else mx yss p q := by
  have hl := hM.1
  have hr := hM.2 x x0 x1
  refine ⟨⟨by rw [List.length_set]; exact hl, fun p p0 p1 => ?_⟩, fun p q p0 q0 => ?_⟩
  · rw [ixs_set x0 (by omega) p0]
    split
    · rw [List.length_set]; exact hr
    · exact hM.2 p p0 p1
  · rw [mx, ixs_set x0 (by omega) p0]
    by_cases e : p = x
    · subst e
      rw [if_pos rfl, ix_set0 y0 (by omega) q0]
      by_cases e2 : q = y
      · rw [if_pos e2, if_pos ⟨rfl, e2⟩]
      · rw [if_neg e2, if_neg (fun z => e2 z.2)]; rfl
    · rw [if_neg e, if_neg (fun z => e z.1)]; rfl
end
/-! ### the heights of places, and of the river -/
theorem highs_ix {H : List Int} {x : Int} (x0 : 0 ≤ x) (x1 : x ≤ (H.length : Int)) : ix 0 (H ++ [0]) x = highV H x := by
  rw [highV]
  split
  · rename_i e; subst e
    simp only [ix, Int.toNat_natCast, List.getD_eq_getElem?_getD, List.getElem?_append_right (Nat.le_refl _), Nat.sub_self]; rfl
  · exact ix_app1 x0 (by omega)
section
variable {R C : Int} {H : List Int}
theorem led_fallsN (hk : SOK R C H) {k : Int} (k0 : 0 ≤ k) {a : Int} (ha : 0 ≤ a ∧ a < (H.length : Int)) (hl : ledN C H k a H.length = true) : fallsB C H k a = true := by
  obtain ⟨d, hd⟩ := (led_rch (n := (H.length : Int) + 1) ⟨ha.1, by omega⟩ ⟨by omega, by omega⟩).1 hl
  have key : ∀ (d : Nat) (x : Int), (0 ≤ x ∧ x < (H.length : Int)) → rchB (gN C H k) (H.length + 1) H.length d x = true → fallsB C H k x = true := by
    intro d
    induction d with
    | zero => intro x hx hr; have : x = (H.length : Int) := of_decide_eq_true hr; omega
    | succ d ih =>
      intro x hx hr
      obtain ⟨q, hq, e1, e2⟩ := rch_step.1 hr
      obtain ⟨g1, g2, g3⟩ := gN_iff.1 e1
      have hh : highV H x = ix 0 H x := by rw [highV, if_neg (by omega)]
      rw [hh] at g2
      by_cases e : q = (H.length : Int)
      · rw [nearB, if_pos (.inr e), Bool.and_eq_true, decide_eq_true_eq, decide_eq_true_eq] at g1
        exact falls_last hx (decide_eq_true (by omega)) g2
      · rw [nearB, if_neg (by omega)] at g1
        exact falls_step hx ⟨hq.1, by omega⟩ g1 g2 (ih q ⟨hq.1, by omega⟩ e2)
  exact key d a ha hd
theorem sill_betw (hk : SOK R C H) {a : Int} (a0 : 0 ≤ a) (a1 : a < (H.length : Int)) : betwV C H a H.length = sillV C H a := by
  have hs := hk.sill a0 a1
  have hh : highV H a = ix 0 H a := by rw [highV, if_neg (by omega)]
  have hno : ∀ k, highV H a ≤ k → k < sillV C H a → ledN C H k a H.length = false := fun k k0 k1 => by
    cases hq : ledN C H k a H.length with
    | false => rfl
    | true =>
      have hb := hk.at a0 a1
      have := (sill_iff hk.o ⟨a0, a1⟩).2 (led_fallsN hk (by omega) ⟨a0, a1⟩ hq)
      omega
  by_cases h30 : sillV C H a < 30
  · exact betw_found (by omega) h30 hno (falls_led hk hs.2.1 ⟨a0, a1⟩ ((sill_iff hk.o ⟨a0, a1⟩).1 (Int.le_refl _)))
  · rw [betw_none fun k k0 k1 => hno k k0 (by omega)]; omega
theorem led_high {h x y : Int} (hx : 0 ≤ x ∧ x < (H.length : Int) + 1) (hy : 0 ≤ y ∧ y < (H.length : Int) + 1) (hne : x ≠ y) (hl : ledN C H h x y = true) : highV H x ≤ h := by
  obtain ⟨d, hd⟩ := (led_rch hx hy).1 hl
  cases d with
  | zero => exact absurd (of_decide_eq_true hd) hne
  | succ d => obtain ⟨k, _, e1, _⟩ := rch_step.1 hd; exact (gN_iff.1 e1).2.1
theorem betw_le {h x y : Int} (hh : highV H x ≤ h) (hl : ledN C H h x y = true) (h30 : h ≤ 30) : betwV C H x y ≤ h := by
  rw [betwV]
  cases hq : (rng (highV H x) 30).find? fun h => ledN C H h x y with
  | none =>
    show (30 : Int) ≤ h
    refine Decidable.byContradiction fun hlt => ?_
    exact List.find?_eq_none.1 hq h (rng_mem.2 ⟨hh, by omega⟩) hl
  | some s =>
    obtain ⟨hp, us, bs, he, hlow⟩ := List.find?_eq_some_iff_append.1 hq
    show s ≤ h
    refine Decidable.byContradiction fun hgt => ?_
    have hs : s ∈ rng (highV H x) 30 := by rw [he]; simp
    have hs' := rng_mem.1 hs
    have hm : h ∈ rng (highV H x) 30 := rng_mem.2 ⟨hh, by omega⟩
    have hsrt := rng_asc (highV H x) 30
    rw [he] at hm hsrt
    rcases List.mem_append.1 hm with hm | hm
    · have := hlow h hm; rw [hl] at this; cases this
    · rcases List.mem_cons.1 hm with e | hm
      · omega
      · have := (List.pairwise_cons.1 (List.pairwise_append.1 hsrt).2.1).1 h hm; omega
theorem betw_bd (hk : SOK R C H) {x y : Int} (hx : 0 ≤ x ∧ x ≤ (H.length : Int)) (hy : 0 ≤ y ∧ y ≤ (H.length : Int)) : (highV H x ≤ betwV C H x y ∧ betwV C H x y ≤ 30) ∧ ledN C H (betwV C H x y) x y = true := by
  have hb := high_bd hk hx
  refine ⟨⟨?_, betw_le (by omega) (led_all hk hx hy) (Int.le_refl _)⟩, ?_⟩
  · rw [betwV]
    cases hq : (rng (highV H x) 30).find? fun h => ledN C H h x y with
    | none => exact hb.2
    | some s => exact (rng_mem.1 (List.mem_of_find?_eq_some hq)).1
  · rw [betwV]
    cases hq : (rng (highV H x) 30).find? fun h => ledN C H h x y with
    | none => exact led_all hk hx hy
    | some s =>
      have := List.find?_some (p := fun h => ledN C H h x y) hq
      exact this
end
/-! ### how many joints a tree has -/
def minB (out : List Ends) (x : Int) : Bool := (rng 0 x).all fun y => !(conF out y x)
section
variable {out : List Ends}
theorem min_iff {x : Int} : minB out x = true ↔ ∀ y, 0 ≤ y → y < x → conF out y x = false := by
  rw [minB, List.all_eq_true]
  exact ⟨fun h y y0 y1 => by have := h y (rng_mem.2 ⟨y0, y1⟩); simpa using this, fun h y hy => by rw [h y (rng_mem.1 hy).1 (rng_mem.1 hy).2]; rfl⟩
theorem min_ex : ∀ (d : Nat) {x : Int}, x.toNat = d → 0 ≤ x → ∃ m, (0 ≤ m ∧ m ≤ x) ∧ conF out m x = true ∧ minB out m = true := by
  intro d
  induction d using Nat.strongRecOn with
  | _ d ih =>
    intro x hd x0
    cases hm : minB out x with
    | true => exact ⟨x, ⟨x0, Int.le_refl _⟩, (con_eq out).r x, hm⟩
    | false =>
      rw [minB, List.all_eq_false] at hm
      obtain ⟨y, hy, hc⟩ := hm
      have hy := rng_mem.1 hy
      have hc : conF out y x = true := by simpa using hc
      obtain ⟨m, h1, h2, h3⟩ := ih y.toNat (by omega) rfl hy.1
      exact ⟨m, ⟨h1.1, by omega⟩, (con_eq out).t _ _ _ h2 hc, h3⟩
theorem min_le {m x : Int} (hm : minB out m = true) (x0 : 0 ≤ x) (hc : conF out x m = true) : m ≤ x := by
  refine Decidable.byContradiction fun h => ?_
  rw [min_iff.1 hm x x0 (by omega)] at hc; cases hc
theorem min_add {a b : Int} (ha : 0 ≤ a) (hb : 0 ≤ b) (hn : conF out a b = false) : ∃ M, (0 ≤ M ∧ M ≤ max a b) ∧ minB out M = true ∧ ∀ x, 0 ≤ x → minB (out ++ [(a, b)]) x = (minB out x && decide (x ≠ M)) := by
  have hE := con_eq out
  obtain ⟨p, p1, p2, p3⟩ := min_ex (out := out) _ rfl ha
  obtain ⟨q, q1, q2, q3⟩ := min_ex (out := out) _ rfl hb
  have hne : p ≠ q := by
    rintro rfl
    rw [hE.t _ _ _ (hE.s _ _ p2) q2] at hn; cases hn
  have new : ∀ x y, conF (out ++ [(a, b)]) x y = true ↔ conF out x y = true ∨ (conF out x a = true ∧ conF out b y = true) ∨ (conF out x b = true ∧ conF out a y = true) := fun x y => by rw [con_snoc, add_iff]
  refine ⟨max p q, ⟨by omega, by omega⟩, ?_, fun x x0 => ?_⟩
  · rcases Int.le_total p q with h | h
    · rw [Int.max_eq_right h]; exact q3
    · rw [Int.max_eq_left h]; exact p3
  · rw [Bool.eq_iff_iff, Bool.and_eq_true, decide_eq_true_eq]
    constructor
    · intro h
      refine ⟨min_iff.2 fun y y0 y1 => ?_, fun e => ?_⟩
      · cases hq : conF out y x with
        | false => rfl
        | true => have := min_iff.1 h y y0 y1; rw [(new y x).2 (.inl hq)] at this; cases this
      · have hmin : min p q < x := by omega
        have := min_iff.1 h (min p q) (by omega) hmin
        rcases Int.le_total p q with hpq | hpq
        · rw [Int.min_eq_left hpq] at this
          have ex : x = q := by omega
          rw [(new p x).2 (.inr (.inl ⟨p2, by rw [ex]; exact hE.s _ _ q2⟩))] at this; cases this
        · rw [Int.min_eq_right hpq] at this
          have ex : x = p := by omega
          rw [(new q x).2 (.inr (.inr ⟨q2, by rw [ex]; exact hE.s _ _ p2⟩))] at this; cases this
    · rintro ⟨h, hx⟩
      refine min_iff.2 fun y y0 y1 => ?_
      cases hq : conF (out ++ [(a, b)]) y x with
      | false => rfl
      | true =>
        exfalso
        rcases (new y x).1 hq with c | ⟨c1, c2⟩ | ⟨c1, c2⟩
        · rw [min_iff.1 h y y0 y1] at c; cases c
        · have e1 := min_le h q1.1 (hE.t _ _ _ q2 c2)
          have e2 := min_le q3 x0 (hE.s _ _ (hE.t _ _ _ q2 c2))
          have e3 := min_le p3 y0 (hE.t _ _ _ c1 (hE.s _ _ p2))
          omega
        · have e1 := min_le h p1.1 (hE.t _ _ _ p2 c2)
          have e2 := min_le p3 x0 (hE.s _ _ (hE.t _ _ _ p2 c2))
          have e3 := min_le q3 y0 (hE.t _ _ _ c1 (hE.s _ _ q2))
          omega
theorem filt_less {p q : Int → Bool} {M : Int} : ∀ {l : List Int}, l.Nodup → M ∈ l → p M = true → (∀ x ∈ l, q x = (p x && decide (x ≠ M))) → (l.filter p).length = (l.filter q).length + 1
  | [], _, h, _, _ => nomatch h
  | x :: l, hd, hM, hp, hq => by
    obtain ⟨h1, h2⟩ := List.pairwise_cons.1 hd
    by_cases e : x = M
    · subst e
      have hqx := hq x (by simp)
      rw [List.filter_cons_of_pos hp, List.filter_cons_of_neg (by rw [hqx]; simp), List.length_cons]
      congr 1
      congr 1
      refine List.filter_congr fun y hy => ?_
      rw [hq y (List.mem_cons_of_mem _ hy), decide_eq_true (show y ≠ x from fun e => h1 y hy e.symm), Bool.and_true]
    · have ih := filt_less h2 ((List.mem_cons.1 hM).resolve_left fun q => e q.symm) hp fun y hy => hq y (List.mem_cons_of_mem _ hy)
      have hqx := hq x (by simp)
      rw [decide_eq_true e, Bool.and_true] at hqx
      by_cases hpx : p x = true
      · rw [List.filter_cons_of_pos hpx, List.filter_cons_of_pos (by rw [hqx]; exact hpx), List.length_cons, List.length_cons, ih]
      · rw [List.filter_cons_of_neg hpx, List.filter_cons_of_neg (by rw [hqx]; exact hpx), ih]
end
section
variable {R C : Int} {H : List Int}
theorem kru_cnt {n : Int} (hn : 0 ≤ n) (l : List Jt) : (∀ j ∈ l, (0 ≤ j.a ∧ j.a ≤ n) ∧ (0 ≤ j.b ∧ j.b ≤ n)) → ((((rng 0 (n + 1)).filter (minB ((kru l).map Jt.e))).length : Int) + (kru l).length = n + 1) := by
  induction l using snoc_ind with
  | h0 =>
    intro _
    have e : (rng 0 (n + 1)).filter (minB ((kru []).map Jt.e)) = rng 0 (n + 1) := List.filter_eq_self.2 fun x hx => min_iff.2 fun y y0 y1 => decide_eq_false (by omega)
    rw [e]
    have := rng_length (i := 0) (n := n + 1) (by omega)
    show _ + ((0 : Nat) : Int) = _
    omega
  | hs l j ih =>
    intro hl
    have ih' := ih fun i hi => hl i (List.mem_append_left _ hi)
    obtain ⟨ha, hb⟩ := hl j (by simp)
    rw [kru_snoc, kstep]
    split
    · exact ih'
    · rename_i hc
      have hc' : conF ((kru l).map Jt.e) j.a j.b = false := by simpa using hc
      obtain ⟨M, hM, hmin, hall⟩ := min_add ha.1 hb.1 hc'
      have e : ((kru l ++ [j]).map Jt.e) = (kru l).map Jt.e ++ [(j.a, j.b)] := by rw [List.map_append]; rfl
      rw [e, List.length_append]
      have hd : (rng 0 (n + 1)).Nodup := (rng_asc 0 _).imp fun h e => by omega
      have := filt_less (q := minB ((kru l).map Jt.e ++ [(j.a, j.b)])) hd (rng_mem.2 ⟨hM.1, by omega⟩) hmin fun x hx => hall x (rng_mem.1 hx).1
      simp only [List.length_cons, List.length_nil]
      omega
theorem jAll_ends {j : Jt} (hj : j ∈ jAll C H 0) : (0 ≤ j.a ∧ j.a ≤ (H.length : Int)) ∧ (0 ≤ j.b ∧ j.b ≤ (H.length : Int)) := by
  obtain ⟨_, m2, m3, _⟩ := mem_jAll.1 hj
  omega
theorem tree_cnt (hk : SOK R C H) : ((treeV C H).length : Int) = H.length := by
  have h := kru_cnt (n := H.length) (by omega) (jAll C H 0) fun j hj => jAll_ends hj
  have e : (rng 0 ((H.length : Int) + 1)).filter (minB ((kru (jAll C H 0)).map Jt.e)) = [0] := by
    rw [rng_cons (show (0 : Int) < H.length + 1 by omega), List.filter_cons_of_pos (min_iff.2 fun y y0 y1 => by omega), List.filter_eq_nil_iff.2]
    intro x hx
    have hx := rng_mem.1 hx
    rw [Bool.not_eq_true]
    cases hq : minB ((kru (jAll C H 0)).map Jt.e) x with
    | false => rfl
    | true =>
      have := min_iff.1 hq 0 (Int.le_refl 0) (by omega)
      rw [all_con hk ⟨Int.le_refl 0, by omega⟩ ⟨by omega, by omega⟩] at this; cases this
  rw [e] at h
  rw [treeV, List.length_map]
  simp only [List.length_cons, List.length_nil] at h
  omega
theorem tree_is (hk : SOK R C H) : treeE R C H = treeV C H := by rw [treeE, if_pos hk.chk]
theorem kru_at (l : List Jt) : ∀ k : Nat, k < (kru l).length → ∃ pre j post, l = pre ++ j :: post ∧ kru pre = (kru l).take k ∧ (kru l)[k]? = some j ∧ conF ((kru pre).map Jt.e) j.a j.b = false := by
  induction l using snoc_ind with
  | h0 => intro k hk; exact absurd hk (Nat.not_lt_zero _)
  | hs l j ih =>
    intro k hk
    rw [kru_snoc, kstep] at hk ⊢
    split
    · rename_i hc
      rw [if_pos hc] at hk
      obtain ⟨pre, i, post, e1, e2, e3, e4⟩ := ih k hk
      exact ⟨pre, i, post ++ [j], by rw [e1]; simp, e2, e3, e4⟩
    · rename_i hc
      rw [if_neg hc, List.length_append] at hk
      by_cases h : k < (kru l).length
      · obtain ⟨pre, i, post, e1, e2, e3, e4⟩ := ih k h
        exact ⟨pre, i, post ++ [j], by rw [e1]; simp, by rw [e2, List.take_append_of_le_length (by omega)], by rw [List.getElem?_append_left h]; exact e3, e4⟩
      · simp only [List.length_cons, List.length_nil] at hk
        have : k = (kru l).length := by omega
        subst this
        exact ⟨l, j, [], rfl, by rw [List.take_append_of_le_length (Nat.le_refl _), List.take_length], by simp, by simpa using hc⟩
end
/-! ### the highest joint between two -/
def tkE (C : Int) (H : List Int) (k : Int) : List Ends := (treeV C H).take k.toNat
def teA (C : Int) (H : List Int) (k : Int) : Int := (ix (0, 0) (treeV C H) k).1
def teB (C : Int) (H : List Int) (k : Int) : Int := (ix (0, 0) (treeV C H) k).2
def hjV (C : Int) (H : List Int) (k : Int) : Int := max (highV H (teA C H k)) (highV H (teB C H k))
def FarT (C : Int) (H : List Int) (k : Int) (yss : List (List Int)) : Prop := MatN (H.length + 1) yss ∧ ∀ x y, 0 ≤ x → x ≤ (H.length : Int) → 0 ≤ y → y ≤ (H.length : Int) → mx yss x y = if x = y then 0 else if conF (tkE C H k) x y = true then betwV C H x y else -1
def doneB (x0 y0 x y : Int) : Bool := decide (x < x0) || (decide (x = x0) && decide (y < y0))
def nwB (C : Int) (H : List Int) (k x0 y0 x y : Int) : Bool := (doneB x0 y0 x y && (conF (tkE C H k) (teA C H k) x && conF (tkE C H k) (teB C H k) y)) || (doneB x0 y0 y x && (conF (tkE C H k) (teA C H k) y && conF (tkE C H k) (teB C H k) x))
def FarU (C : Int) (H : List Int) (k : Int) (ys0 : List (List Int)) (x0 y0 : Int) (yss : List (List Int)) : Prop := MatN (H.length + 1) yss ∧ ∀ x y, 0 ≤ x → x ≤ (H.length : Int) → 0 ≤ y → y ≤ (H.length : Int) → mx yss x y = if nwB C H k x0 y0 x y = true then hjV C H k else mx ys0 x y
section
variable {R C : Int} {H : List Int} {k : Int}
theorem te_facts (hk : SOK R C H) (k0 : 0 ≤ k) (k1 : k < (treeV C H).length) :
    ((0 ≤ teA C H k ∧ teA C H k < (H.length : Int)) ∧ teA C H k < teB C H k ∧ teB C H k ≤ (H.length : Int)) ∧ nearB C H.length (teA C H k) (teB C H k) = true ∧ conF (tkE C H k) (teA C H k) (teB C H k) = false ∧ tkE C H (k + 1) = tkE C H k ++ [(teA C H k, teB C H k)] ∧ (0 ≤ hjV C H k ∧ hjV C H k ≤ 30) ∧
      (∀ x y, (0 ≤ x ∧ x ≤ (H.length : Int)) → (0 ≤ y ∧ y ≤ (H.length : Int)) → conF (tkE C H k) x y = true → x ≠ y → betwV C H x y ≤ hjV C H k) ∧
      ∀ x y, (0 ≤ x ∧ x ≤ (H.length : Int)) → (0 ≤ y ∧ y ≤ (H.length : Int)) → conF (tkE C H k) x y = false → conF (tkE C H (k + 1)) x y = true → betwV C H x y = hjV C H k := by
  have hlen : (treeV C H).length = (kru (jAll C H 0)).length := by rw [treeV, List.length_map]
  obtain ⟨pre, j, post, e1, e2, e3, e4⟩ := kru_at (jAll C H 0) k.toNat (by omega)
  have hj : j ∈ jAll C H 0 := by rw [e1]; simp
  obtain ⟨m1, m2, m3, m4⟩ := mem_jAll.1 hj
  obtain ⟨n1, n2⟩ := joint_near hk m2 m3 m1.1 m4
  have he : (treeV C H)[k.toNat]? = some (j.a, j.b) := by rw [treeV, List.getElem?_map, e3]; rfl
  have hix : ix (0, 0) (treeV C H) k = (j.a, j.b) := by rw [ix, List.getD_eq_getElem?_getD, he]; rfl
  have hA : teA C H k = j.a := by rw [teA, hix]
  have hB : teB C H k = j.b := by rw [teB, hix]
  have hh : hjV C H k = j.h := by rw [hjV, hA, hB]; exact n2
  have ht : tkE C H k = (kru pre).map Jt.e := by rw [tkE, treeV, ← List.map_take, e2]
  have ht1 : tkE C H (k + 1) = tkE C H k ++ [(j.a, j.b)] := by rw [tkE, take_ix (d := (0, 0)) k0 k1, hix, tkE]
  have hab : j.a < j.b := by
    have := m4
    rw [jointI] at this
    split at this
    · omega
    · split at this
      · rename_i h; exact h.1
      · omega
  have hs := jAll_sorted (C := C) (H := H)
  rw [e1, List.pairwise_append] at hs
  have hpre : ∀ i ∈ pre, i ∈ jAll C H 0 ∧ i.h ≤ j.h := fun i hi => ⟨by rw [e1]; exact List.mem_append_left _ hi, by rcases hs.2.2 i hi j (by simp) with q | q <;> omega⟩
  rw [hA, hB, hh]
  refine ⟨⟨m2, hab, by omega⟩, n1, by rw [ht]; exact e4, by rw [ht1], ⟨m1.1, by omega⟩, fun x y hx hy hc hne => ?_, fun x y hx hy hno hyes => ?_⟩
  · rw [ht, kru_con] at hc
    have hl := con_led hk hpre ⟨hx.1, by omega⟩ ⟨hy.1, by omega⟩ hc
    exact betw_le (led_high ⟨hx.1, by omega⟩ ⟨hy.1, by omega⟩ hne hl) hl (by omega)
  · refine betw_joint hk e1 ⟨hx.1, by omega⟩ ⟨hy.1, by omega⟩ (by rw [ht, kru_con] at hno; exact hno) ?_
    rw [ht1, ht] at hyes
    rw [List.map_append, List.map_singleton, con_snoc, add_iff]
    rw [con_snoc, add_iff] at hyes
    simp only [kru_con] at hyes
    exact hyes
theorem ft_start : conF (tkE C H 0) = fun x y => decide (x = y) := rfl
theorem far_pos (hk : SOK R C H) {yss : List (List Int)} (hF : FarT C H k yss) {x y : Int} (x0 : 0 ≤ x) (x1 : x ≤ (H.length : Int)) (y0 : 0 ≤ y) (y1 : y ≤ (H.length : Int)) : decide (0 ≤ mx yss x y) = conF (tkE C H k) x y := by
  rw [hF.2 x y x0 x1 y0 y1]
  by_cases e : x = y
  · subst e; rw [if_pos rfl, (con_eq _).r x]; rfl
  · rw [if_neg e]
    have hb := betw_bd hk ⟨x0, x1⟩ ⟨y0, y1⟩
    have hh := high_bd hk ⟨x0, x1⟩
    split
    · rename_i h; rw [h]; exact decide_eq_true (by omega)
    · rename_i h
      rw [show conF (tkE C H k) x y = false by simpa using h]; decide
theorem far_low (hk : SOK R C H) {yss : List (List Int)} (hF : FarT C H k yss) (k0 : 0 ≤ k) (k1 : k < (treeV C H).length) {x y : Int} (x0 : 0 ≤ x) (x1 : x ≤ (H.length : Int)) (y0 : 0 ≤ y) (y1 : y ≤ (H.length : Int)) : mx yss x y ≤ hjV C H k := by
  obtain ⟨_, _, _, _, hb, hle, _⟩ := te_facts hk k0 k1
  rw [hF.2 x y x0 x1 y0 y1]
  split
  · omega
  · rename_i e
    split
    · rename_i h; exact hle x y ⟨x0, x1⟩ ⟨y0, y1⟩ h e
    · omega
variable {ys0 yss : List (List Int)} {p q : Int}
theorem fu_start (hF : FarT C H k ys0) : FarU C H k ys0 0 0 ys0 := ⟨hF.1, fun x y x0 x1 y0 y1 => by
  rw [if_neg]
  have e1 : doneB 0 0 x y = false := by simp [doneB]; omega
  have e2 : doneB 0 0 y x = false := by simp [doneB]; omega
  rw [nwB, e1, e2]; simp⟩
theorem fu_row (hF : FarU C H k ys0 p q yss) (hq : (H.length : Int) + 1 ≤ q) : FarU C H k ys0 (p + 1) 0 yss := ⟨hF.1, fun x y x0 x1 y0 y1 => by
  have e : ∀ a b : Int, 0 ≤ b → b ≤ (H.length : Int) → doneB (p + 1) 0 a b = doneB p q a b := fun a b b0 b1 => by
    rw [doneB, doneB, Bool.eq_iff_iff]; simp only [Bool.or_eq_true, Bool.and_eq_true, decide_eq_true_eq]; omega
  rw [hF.2 x y x0 x1 y0 y1, nwB, nwB, e x y y0 y1, e y x x0 x1]⟩
theorem done_next {x y : Int} : doneB p (q + 1) x y = (doneB p q x y || (decide (x = p) && decide (y = q))) := by
  rw [doneB, doneB, Bool.eq_iff_iff]; simp only [Bool.or_eq_true, Bool.and_eq_true, decide_eq_true_eq]; omega
theorem fu_miss (hF : FarU C H k ys0 p q yss) (hc : (conF (tkE C H k) (teA C H k) p && conF (tkE C H k) (teB C H k) q) = false) : FarU C H k ys0 p (q + 1) yss := ⟨hF.1, fun x y x0 x1 y0 y1 => by
  rw [hF.2 x y x0 x1 y0 y1, nwB, nwB, done_next, done_next]
  congr 2
  have e : ∀ a b : Int, ((doneB p q a b || (decide (a = p) && decide (b = q))) && (conF (tkE C H k) (teA C H k) a && conF (tkE C H k) (teB C H k) b)) = (doneB p q a b && (conF (tkE C H k) (teA C H k) a && conF (tkE C H k) (teB C H k) b)) := fun a b => by
    by_cases h : a = p ∧ b = q
    · obtain ⟨rfl, rfl⟩ := h; rw [hc]; simp
    · have : (decide (a = p) && decide (b = q)) = false := by simp; omega
      rw [this, Bool.or_false]
  rw [e, e]⟩
theorem fu_hit (hF : FarU C H k ys0 p q yss) (p0 : 0 ≤ p) (p1 : p ≤ (H.length : Int)) (q0 : 0 ≤ q) (q1 : q ≤ (H.length : Int)) (hc : (conF (tkE C H k) (teA C H k) p && conF (tkE C H k) (teB C H k) q) = true) {m1 m2 : List (List Int)}
    (h1 : MatN (H.length + 1) m2) (h2 : ∀ x y, 0 ≤ x → 0 ≤ y → mx m1 x y = if x = p ∧ y = q then hjV C H k else mx yss x y) (h3 : ∀ x y, 0 ≤ x → 0 ≤ y → mx m2 x y = if x = q ∧ y = p then hjV C H k else mx m1 x y) : FarU C H k ys0 p (q + 1) m2 := ⟨h1, fun x y x0 x1 y0 y1 => by
  rw [h3 x y x0 y0, h2 x y x0 y0, hF.2 x y x0 x1 y0 y1, nwB, nwB, done_next, done_next]
  by_cases e1 : x = q ∧ y = p
  · obtain ⟨rfl, rfl⟩ := e1
    rw [if_pos ⟨rfl, rfl⟩, if_pos]
    simp [hc]
  · rw [if_neg e1]
    have f1 : (decide (y = p) && decide (x = q)) = false := by simp; omega
    by_cases e2 : x = p ∧ y = q
    · obtain ⟨rfl, rfl⟩ := e2
      rw [if_pos ⟨rfl, rfl⟩, if_pos]
      simp [hc]
    · rw [if_neg e2]
      have f2 : (decide (x = p) && decide (y = q)) = false := by simp; omega
      rw [f1, f2, Bool.or_false, Bool.or_false]⟩
theorem fu_end (hk : SOK R C H) (hF0 : FarT C H k ys0) (hF : FarU C H k ys0 p q yss) (k0 : 0 ≤ k) (k1 : k < (treeV C H).length) (hp : (H.length : Int) + 1 ≤ p) : FarT C H (k + 1) yss := ⟨hF.1, fun x y x0 x1 y0 y1 => by
  obtain ⟨⟨tA, tAB, tB⟩, _, hno, hsn, _, _, hnew⟩ := te_facts hk k0 k1
  have hE := con_eq (tkE C H k)
  have hd : ∀ a b : Int, a ≤ (H.length : Int) → doneB p q a b = true := fun a b h => by simp [doneB]; omega
  have hadd : conF (tkE C H (k + 1)) x y = true ↔ conF (tkE C H k) x y = true ∨ (conF (tkE C H k) x (teA C H k) = true ∧ conF (tkE C H k) (teB C H k) y = true) ∨ (conF (tkE C H k) x (teB C H k) = true ∧ conF (tkE C H k) (teA C H k) y = true) := by rw [hsn, con_snoc, add_iff]
  rw [hF.2 x y x0 x1 y0 y1, nwB, hd x y x1, hd y x y1, Bool.true_and, Bool.true_and, hF0.2 x y x0 x1 y0 y1]
  have hw : ((conF (tkE C H k) (teA C H k) x && conF (tkE C H k) (teB C H k) y) || (conF (tkE C H k) (teA C H k) y && conF (tkE C H k) (teB C H k) x)) = true ↔ (conF (tkE C H k) x (teA C H k) = true ∧ conF (tkE C H k) (teB C H k) y = true) ∨ (conF (tkE C H k) x (teB C H k) = true ∧ conF (tkE C H k) (teA C H k) y = true) := by
    rw [Bool.or_eq_true, Bool.and_eq_true, Bool.and_eq_true]
    constructor
    · rintro (⟨u, v⟩ | ⟨u, v⟩)
      · exact .inl ⟨hE.s _ _ u, v⟩
      · exact .inr ⟨hE.s _ _ v, u⟩
    · rintro (⟨u, v⟩ | ⟨u, v⟩)
      · exact .inl ⟨hE.s _ _ u, v⟩
      · exact .inr ⟨v, hE.s _ _ u⟩
  have hcl : conF (tkE C H k) x y = true → ¬ ((conF (tkE C H k) x (teA C H k) = true ∧ conF (tkE C H k) (teB C H k) y = true) ∨ (conF (tkE C H k) x (teB C H k) = true ∧ conF (tkE C H k) (teA C H k) y = true)) := by
    rintro hc (⟨u, v⟩ | ⟨u, v⟩)
    · rw [hE.t _ _ _ (hE.s _ _ u) (hE.t _ _ _ hc (hE.s _ _ v))] at hno; cases hno
    · rw [hE.t _ _ _ v (hE.t _ _ _ (hE.s _ _ hc) u)] at hno; cases hno
  by_cases e : x = y
  · rw [if_neg (fun h => hcl (by rw [e]; exact hE.r y) (hw.1 h)), if_pos e, if_pos e]
  · rw [if_neg e, if_neg e]
    by_cases hc : conF (tkE C H k) x y = true
    · rw [if_neg (fun h => hcl hc (hw.1 h)), if_pos hc, if_pos (hadd.2 (.inl hc))]
    · by_cases hn : (conF (tkE C H k) x (teA C H k) = true ∧ conF (tkE C H k) (teB C H k) y = true) ∨ (conF (tkE C H k) x (teB C H k) = true ∧ conF (tkE C H k) (teA C H k) y = true)
      · rw [if_pos (hw.2 hn), if_pos (hadd.2 (.inr hn))]
        exact (hnew x y ⟨x0, x1⟩ ⟨y0, y1⟩ (by simpa using hc) (hadd.2 (.inr hn))).symm
      · rw [if_neg (fun h => hn (hw.1 h)), if_neg hc, if_neg (fun h => (hadd.1 h).elim hc hn)]⟩
theorem ft_end (hk : SOK R C H) (hF : FarT C H k yss) (hkl : ((treeV C H).length : Int) ≤ k) {x y : Int} (x0 : 0 ≤ x) (x1 : x ≤ (H.length : Int)) (y0 : 0 ≤ y) (y1 : y ≤ (H.length : Int)) (hne : x ≠ y) : mx yss x y = betwV C H x y := by
  rw [hF.2 x y x0 x1 y0 y1, if_neg hne, if_pos]
  rw [tkE, List.take_of_length_le (by omega)]
  exact all_con hk ⟨x0, x1⟩ ⟨y0, y1⟩
def FiI (N k : Int) (yss : List (List Int)) : Prop := (yss.length : Int) = N ∧ ∀ x, 0 ≤ x → x < k → ((ix [] yss x).length : Int) = N ∧ ∀ y, 0 ≤ y → y < N → mx yss x y = if x = y then 0 else -1
theorem fi_start {N : Nat} : FiI N 0 (List.replicate N []) := ⟨by simp, fun x x0 x1 => by omega⟩
theorem fi_next {N k : Int} (h : FiI N k yss) (k0 : 0 ≤ k) (k1 : k < N) : FiI N (k + 1) ((yss.set k.toNat (List.replicate N.toNat (-1))).set k.toNat ((ix [] (yss.set k.toNat (List.replicate N.toNat (-1))) k).set k.toNat 0)) := by
  have hl := h.1
  have e1 : ix [] (yss.set k.toNat (List.replicate N.toNat (-1))) k = List.replicate N.toNat (-1) := by rw [ixs_set k0 (by omega) k0, if_pos rfl]
  have hl2 : k < ((yss.set k.toNat (List.replicate N.toNat (-1))).length : Int) := by rw [List.length_set]; omega
  refine ⟨by rw [List.length_set, List.length_set]; exact hl, fun x x0 x1 => ?_⟩
  have er : ix [] ((yss.set k.toNat (List.replicate N.toNat (-1))).set k.toNat ((ix [] (yss.set k.toNat (List.replicate N.toNat (-1))) k).set k.toNat 0)) x = if x = k then (List.replicate N.toNat (-1)).set k.toNat 0 else ix [] yss x := by
    rw [ixs_set k0 hl2 x0, e1]
    split
    · rfl
    · rename_i e; rw [ixs_set k0 (by omega) x0, if_neg e]
  rw [er]
  by_cases e : x = k
  · subst e
    rw [if_pos rfl]
    refine ⟨by rw [List.length_set, List.length_replicate]; omega, fun y y0 y1 => ?_⟩
    rw [mx, er, if_pos rfl, ix_set0 x0 (by rw [List.length_replicate]; omega) y0]
    by_cases e2 : y = x
    · rw [if_pos e2, if_pos e2.symm]
    · rw [if_neg e2, if_neg (fun q => e2 q.symm), ix, List.getD_eq_getElem?_getD, List.getElem?_replicate, if_pos (by omega)]; rfl
  · rw [if_neg e]
    have := h.2 x x0 (by omega)
    refine ⟨this.1, fun y y0 y1 => ?_⟩
    rw [mx, er, if_neg e]; exact this.2 y y0 y1
theorem fi_end {k : Int} (h : FiI (H.length + 1) k yss) (hk : (H.length : Int) + 1 ≤ k) : FarT C H 0 yss := ⟨⟨h.1, fun x x0 x1 => (h.2 x x0 (by omega)).1⟩, fun x y x0 x1 y0 y1 => by
  rw [(h.2 x x0 (by omega)).2 y y0 (by omega), ft_start]
  by_cases e : x = y
  · rw [if_pos e, if_pos e]
  · rw [if_neg e, if_neg e, if_neg]; simpa using e⟩
end
/-! ### the lowest ways, found by trying all places in between -/
def wP (C : Int) (H : List Int) (h : Int) : Nat → Int → Int → Prop
  | 0, a, b => (a = b ∨ nearB C H.length a b = true) ∧ highV H a ≤ h ∧ highV H b ≤ h
  | M + 1, a, b => wP C H h M a b ∨ (wP C H h M a M ∧ wP C H h M M b)
def SndW (C : Int) (H : List Int) (v x y : Int) : Prop := v = 1000 ∨ (v ≤ 30 ∧ (highV H x ≤ v ∧ highV H y ≤ v) ∧ ledN C H v x y = true)
def FwI (C : Int) (H : List Int) (M p q : Int) (yss : List (List Int)) : Prop := MatN (H.length + 1) yss ∧ ∀ x y, 0 ≤ x → x ≤ (H.length : Int) → 0 ≤ y → y ≤ (H.length : Int) → SndW C H (mx yss x y) x y ∧ ∀ h, wP C H h (if doneB p q x y = true then M.toNat + 1 else M.toNat) x y → h ≤ 30 → mx yss x y ≤ h
def d0V (C : Int) (H : List Int) (x y : Int) : Int := if x = y ∨ nearB C H.length x y = true then max (highV H x) (highV H y) else 1000
def LsI (C : Int) (H : List Int) (p q : Int) (yss : List (List Int)) : Prop := (yss.length : Int) = H.length + 1 ∧ ∀ x, 0 ≤ x → x ≤ (H.length : Int) → ix [] yss x = if x < p then (rng 0 (H.length + 1)).map (d0V C H x) else if x = p then (rng 0 q).map (d0V C H x) else []
section
variable {R C : Int} {H : List Int} {yss : List (List Int)} {M p q : Int}
theorem ls_start {N : Nat} (h : (N : Int) = H.length + 1) : LsI C H 0 0 (List.replicate N []) := ⟨by simp; omega, fun x x0 x1 => by
  have e : ix [] (List.replicate N ([] : List Int)) x = [] := by rw [ix, List.getD_eq_getElem?_getD, List.getElem?_replicate, if_pos (by omega)]; rfl
  rw [e, if_neg (by omega), rng_nil (Int.le_refl 0)]; simp⟩
theorem ls_row (h : LsI C H p q yss) (hq : q = (H.length : Int) + 1) : LsI C H (p + 1) 0 yss := ⟨h.1, fun x x0 x1 => by
  rw [h.2 x x0 x1]
  subst hq
  by_cases e : x < p
  · rw [if_pos e, if_pos (by omega)]
  · rw [if_neg e]
    by_cases e2 : x = p
    · rw [if_pos e2, if_pos (by omega)]
    · rw [if_neg e2, if_neg (by omega), rng_nil (Int.le_refl 0)]; simp⟩
theorem ls_len (h : LsI C H p q yss) (p0 : 0 ≤ p) (p1 : p ≤ (H.length : Int)) (q0 : 0 ≤ q) : ((ix [] yss p).length : Int) = q := by
  rw [h.2 p p0 p1, if_neg (by omega), if_pos rfl, List.length_map]; have := rng_length (i := 0) (n := q) (by omega); omega
theorem ls_next (h : LsI C H p q yss) (p0 : 0 ≤ p) (p1 : p ≤ (H.length : Int)) (q0 : 0 ≤ q) {d : Int} (hd : d = d0V C H p q) : LsI C H p (q + 1) (yss.set p.toNat (ix [] yss p ++ [d])) := ⟨by rw [List.length_set]; exact h.1, fun x x0 x1 => by
  rw [ixs_set p0 (by rw [h.1]; omega) x0]
  by_cases e : x = p
  · subst e
    rw [if_pos rfl, h.2 x x0 x1, if_neg (by omega), if_pos rfl, if_neg (by omega), if_pos rfl, map_snoc q0, hd]
  · rw [if_neg e, h.2 x x0 x1]
    by_cases e2 : x < p
    · rw [if_pos e2, if_pos e2]
    · rw [if_neg e2, if_neg e, if_neg e2, if_neg e]⟩
theorem ls_end (hk : SOK R C H) (h : LsI C H p q yss) (hp : (H.length : Int) + 1 ≤ p) : FwI C H 0 0 0 yss := by
  have hrow : ∀ x, 0 ≤ x → x ≤ (H.length : Int) → ix [] yss x = (rng 0 (H.length + 1)).map (d0V C H x) := fun x x0 x1 => by rw [h.2 x x0 x1, if_pos (by omega)]
  refine ⟨⟨h.1, fun x x0 x1 => ?_⟩, fun x y x0 x1 y0 y1 => ?_⟩
  · rw [hrow x x0 (by omega), List.length_map]; have := rng_length (i := 0) (n := (H.length : Int) + 1) (by omega); omega
  · have hv : mx yss x y = d0V C H x y := by rw [mx, hrow x x0 x1, ix, List.getD_eq_getElem?_getD, List.getElem?_map, rng_get y0 (by omega), Option.map_some, Option.getD_some]
    have bx := high_bd hk ⟨x0, x1⟩
    have bY := high_bd hk ⟨y0, y1⟩
    rw [hv, d0V]
    have hd : doneB 0 0 x y = false := by simp [doneB]; omega
    rw [hd]
    refine ⟨?_, fun h hw _ => ?_⟩
    · split
      · rename_i hc
        refine .inr ⟨by omega, ⟨by omega, by omega⟩, ?_⟩
        by_cases e : x = y
        · subst e; exact led_refl ⟨x0, by omega⟩
        · exact led_one ⟨x0, by omega⟩ ⟨y0, by omega⟩ (gN_iff.2 ⟨hc.resolve_left e, by omega, by omega⟩)
      · exact .inl rfl
    · have hw' : wP C H h 0 x y := hw
      rw [wP] at hw'
      rw [if_pos hw'.1]; omega
theorem fw_le (h : FwI C H M p q yss) {x y : Int} (hk : SOK R C H) (x0 : 0 ≤ x) (x1 : x ≤ (H.length : Int)) (y0 : 0 ≤ y) (y1 : y ≤ (H.length : Int)) : 0 ≤ mx yss x y ∧ mx yss x y ≤ 1000 := by
  have bx := high_bd hk ⟨x0, x1⟩
  rcases (h.2 x y x0 x1 y0 y1).1 with e | ⟨e1, e2, _⟩ <;> omega
theorem fw_row (h : FwI C H M p q yss) (hq : (H.length : Int) + 1 ≤ q) : FwI C H M (p + 1) 0 yss := ⟨h.1, fun x y x0 x1 y0 y1 => by
  have e : doneB (p + 1) 0 x y = doneB p q x y := by
    rw [doneB, doneB, Bool.eq_iff_iff]; simp only [Bool.or_eq_true, Bool.and_eq_true, decide_eq_true_eq]; omega
  rw [e]; exact h.2 x y x0 x1 y0 y1⟩
theorem fw_place (h : FwI C H M p q yss) (hp : (H.length : Int) + 1 ≤ p) (hM : 0 ≤ M) : FwI C H (M + 1) 0 0 yss := ⟨h.1, fun x y x0 x1 y0 y1 => by
  obtain ⟨h1, h2⟩ := h.2 x y x0 x1 y0 y1
  have e1 : doneB p q x y = true := by simp [doneB]; omega
  have e2 : doneB 0 0 x y = false := by simp [doneB]; omega
  rw [e1, if_pos rfl] at h2
  rw [e2, show (M + 1).toNat = M.toNat + 1 by omega]
  exact ⟨h1, h2⟩⟩
theorem fw_next (hk : SOK R C H) (h : FwI C H M p q yss) (hM : 0 ≤ M) (hM1 : M ≤ (H.length : Int)) (p0 : 0 ≤ p) (p1 : p ≤ (H.length : Int)) (q0 : 0 ≤ q) (q1 : q ≤ (H.length : Int)) {v : Int} (hv : v = min (mx yss p q) (max (mx yss p M) (mx yss M q))) {m2 : List (List Int)}
    (h1 : MatN (H.length + 1) m2) (h2 : ∀ x y, 0 ≤ x → 0 ≤ y → mx m2 x y = if x = p ∧ y = q then v else mx yss x y) : FwI C H M p (q + 1) m2 := ⟨h1, fun x y x0 x1 y0 y1 => by
  rw [h2 x y x0 y0]
  by_cases e : x = p ∧ y = q
  · obtain ⟨rfl, rfl⟩ := e
    rw [if_pos ⟨rfl, rfl⟩]
    have dn : doneB x (y + 1) x y = true := by simp [doneB]; omega
    rw [dn, if_pos rfl]
    obtain ⟨a1, a2⟩ := h.2 x y x0 x1 y0 y1
    obtain ⟨b1, b2⟩ := h.2 x M x0 x1 hM hM1
    obtain ⟨c1, c2⟩ := h.2 M y hM hM1 y0 y1
    have la := fw_le h hk x0 x1 y0 y1
    have lb := fw_le h hk x0 x1 hM hM1
    have lc := fw_le h hk hM hM1 y0 y1
    have dun : doneB x y x y = false := by simp [doneB]
    rw [dun] at a2
    have up : ∀ {h' : Int} {b : Bool} {u z : Int}, wP C H h' M.toNat u z → wP C H h' (if b = true then M.toNat + 1 else M.toNat) u z := fun {h' b u z} hw => by
      cases b with
      | false => exact hw
      | true => exact .inl hw
    refine ⟨?_, fun h' hw h30 => ?_⟩
    · by_cases hle : mx yss x y ≤ max (mx yss x M) (mx yss M y)
      · rw [hv, Int.min_eq_left hle]; exact a1
      · rw [hv, Int.min_eq_right (by omega)]
        rcases b1 with b1 | ⟨b1, b3, b4⟩
        · omega
        · rcases c1 with c1 | ⟨c1, c3, c4⟩
          · omega
          · refine .inr ⟨by omega, ⟨by omega, by omega⟩, ?_⟩
            exact led_trans ⟨x0, by omega⟩ ⟨hM, by omega⟩ ⟨y0, by omega⟩ (ledN_mono (by omega) ⟨x0, by omega⟩ ⟨hM, by omega⟩ b4) (ledN_mono (by omega) ⟨hM, by omega⟩ ⟨y0, by omega⟩ c4)
    · rcases hw with hw | ⟨hw1, hw2⟩
      · have := a2 h' hw h30; omega
      · have e : ((M.toNat : Nat) : Int) = M := by omega
        rw [e] at hw1 hw2
        have := b2 h' (up hw1) h30
        have := c2 h' (up hw2) h30
        omega
  · rw [if_neg e]
    have dn : doneB p (q + 1) x y = doneB p q x y := by
      rw [done_next]
      have : (decide (x = p) && decide (y = q)) = false := by simp; omega
      rw [this, Bool.or_false]
    rw [dn]; exact h.2 x y x0 x1 y0 y1⟩
theorem wP_trans {h : Int} : ∀ (M : Nat) {a b : Int} {c : Nat}, c < M → wP C H h M a c → wP C H h M c b → wP C H h M a b := by
  intro M
  induction M with
  | zero => intro a b c hc; exact absurd hc (Nat.not_lt_zero _)
  | succ M ih =>
    intro a b c hc h1 h2
    by_cases e : c = M
    · subst e
      have k1 : wP C H h c a c := h1.elim id fun q => q.1
      have k2 : wP C H h c c b := h2.elim id fun q => q.2
      exact .inr ⟨k1, k2⟩
    · have hc' : c < M := by omega
      rcases h1 with h1 | ⟨h1, h3⟩
      · rcases h2 with h2 | ⟨h2, h4⟩
        · exact .inl (ih hc' h1 h2)
        · exact .inr ⟨ih hc' h1 h2, h4⟩
      · rcases h2 with h2 | ⟨h2, h4⟩
        · exact .inr ⟨h1, ih hc' h3 h2⟩
        · exact .inr ⟨h1, h4⟩
theorem wP_up {h : Int} {a b : Int} (h0 : wP C H h 0 a b) : ∀ M : Nat, wP C H h M a b
  | 0 => h0
  | M + 1 => .inl (wP_up h0 M)
theorem wP_all {h : Int} {a b : Int} (ha : 0 ≤ a ∧ a ≤ (H.length : Int)) (hb : 0 ≤ b ∧ b ≤ (H.length : Int)) (hh : highV H a ≤ h) (hl : ledN C H h a b = true) : wP C H h (H.length + 1) a b := by
  obtain ⟨d, hd⟩ := (led_rch (n := (H.length : Int) + 1) ⟨ha.1, by omega⟩ ⟨hb.1, by omega⟩).1 hl
  have key : ∀ (d : Nat) (x : Int), (0 ≤ x ∧ x ≤ (H.length : Int)) → highV H x ≤ h → rchB (gN C H h) (H.length + 1) b d x = true → wP C H h (H.length + 1) x b := by
    intro d
    induction d with
    | zero => intro x hx hxh hr; rw [show x = b from of_decide_eq_true hr] at hxh ⊢; exact wP_up ⟨.inl rfl, hxh, hxh⟩ _
    | succ d ih =>
      intro x hx hxh hr
      obtain ⟨k, hk, e1, e2⟩ := rch_step.1 hr
      obtain ⟨g1, g2, g3⟩ := gN_iff.1 e1
      have e : ((k.toNat : Nat) : Int) = k := by omega
      have h1 : wP C H h (H.length + 1) x (k.toNat : Nat) := by rw [e]; exact wP_up ⟨.inr g1, g2, g3⟩ _
      have h2 : wP C H h (H.length + 1) (k.toNat : Nat) b := by rw [e]; exact ih k ⟨hk.1, by omega⟩ g3 e2
      exact wP_trans _ (by omega) h1 h2
  exact key d a ha hh hd
theorem fw_end (hk : SOK R C H) (h : FwI C H M 0 0 yss) (hM : M = (H.length : Int) + 1) {x y : Int} (x0 : 0 ≤ x) (x1 : x ≤ (H.length : Int)) (y0 : 0 ≤ y) (y1 : y ≤ (H.length : Int)) : mx yss x y = betwV C H x y := by
  obtain ⟨h1, h2⟩ := h.2 x y x0 x1 y0 y1
  have e2 : doneB 0 0 x y = false := by simp [doneB]; omega
  rw [e2, hM, show ((H.length : Int) + 1).toNat = H.length + 1 by omega] at h2
  obtain ⟨b1, b2⟩ := betw_bd hk ⟨x0, x1⟩ ⟨y0, y1⟩
  have h3 := h2 (betwV C H x y) (wP_all ⟨x0, x1⟩ ⟨y0, y1⟩ b1.1 b2) b1.2
  rcases h1 with h1 | ⟨h1, h4, h5⟩
  · omega
  · have := betw_le h4.1 h5 h1
    omega
end
end Go.Proofs.Ytjhimoeodkaihaa

namespace Go.Proofs.Ytjhimoeodkaihaa
open Go.Wk
set_option linter.unusedVariables false
section
variable {R C : Int} {H : List Int}
theorem betw_near (hk : SOK R C H) {x y : Int} (hx : 0 ≤ x ∧ x ≤ (H.length : Int)) (hy : 0 ≤ y ∧ y ≤ (H.length : Int)) (hn : nearB C H.length x y = true) : betwV C H x y ≤ max (highV H x) (highV H y) := by
  have h1 := high_bd hk hx
  have h2 := high_bd hk hy
  exact betw_le (by omega) (led_one ⟨hx.1, by omega⟩ ⟨hy.1, by omega⟩ (gN_iff.2 ⟨hn, by omega, by omega⟩)) (by omega)
theorem betwX_zero (hk : SOK R C H) {x y : Int} (hx : 0 ≤ x ∧ x ≤ (H.length : Int)) (hy : 0 ≤ y ∧ y ≤ (H.length : Int)) : betwX R C H x y = 0 := by
  rw [betwX, if_neg (fun q => q.2 ⟨hx, hy⟩)]; exact hk.chk
theorem betwE_is (hk : SOK R C H) {x y : Int} (hx : 0 ≤ x ∧ x ≤ (H.length : Int)) (hy : 0 ≤ y ∧ y ≤ (H.length : Int)) : betwE R C H x y = betwV C H x y := by rw [betwE, if_pos (betwX_zero hk hx hy)]
theorem lt_len {α : Type} {u : Int} {n : Nat} {l : List α} (h : u < ((n + 1 : Nat) : Int)) (e : (l.length : Int) = (n : Int) + 1) : u < (l.length : Int) := by omega
theorem lt_lenN {α : Type} {u : Int} {n : Nat} {l : List α} (u0 : 0 ≤ u) (h : u < ((n + 1 : Nat) : Int)) (e : (l.length : Int) = (n : Int) + 1) : u.toNat < l.length := by omega
theorem lt_lenV {α : Type} {u : Int} {n : Nat} {l : List α} (u0 : 0 ≤ u) (h : u < ((n + 1 : Nat) : Int)) (e : l.length = n + 1) : u.toNat < l.length := by omega
theorem lt_suc {u : Int} {n : Nat} (h : u < ((n + 1 : Nat) : Int)) : u < (n : Int) + 1 := by omega
theorem le_suc {u : Int} {n : Nat} (h : u < ((n + 1 : Nat) : Int)) : u ≤ (n : Int) := by omega
theorem up_suc {u : Int} {n : Nat} (h : u < ((n + 1 : Nat) : Int)) : u + 1 ≤ (n : Int) + 1 := by omega
theorem up_ge {u : Int} (h : 0 ≤ u) : 0 ≤ u + 1 := by omega
theorem up_me {u : Int} {n : Nat} (h : u < ((n + 1 : Nat) : Int)) : ((n : Int) + 1 - (u + 1)).toNat < ((n : Int) + 1 - u).toNat := by omega
theorem up_in {u : Int} {n : Nat} (u0 : 0 ≤ u) (h : u < ((n + 1 : Nat) : Int)) (hn : (n : Int) ≤ 36) : InK .i64 (u + 1) := in_i64 (by omega) (by omega)
theorem ge_suc {u : Int} {n : Nat} (h : ¬ u < ((n + 1 : Nat) : Int)) : (n : Int) + 1 ≤ u := by omega
theorem max3_eq {a b c : Int} (h1 : a ≤ c) (h2 : b ≤ c) : c = max (max a b) c := by omega
theorem teA_eq {k : Int} : teA C H k = (ix (0, 0) (treeV C H) k).1 := rfl
theorem teB_eq {k : Int} : teB C H k = (ix (0, 0) (treeV C H) k).2 := rfl
theorem hj_eq {k : Int} : hjV C H k = max (highV H (teA C H k)) (highV H (teB C H k)) := rfl
end
end Go.Proofs.Ytjhimoeodkaihaa

namespace Go.Wk
open Go.RowKit
set_option linter.unusedVariables false
def rowsO (e1 : TypeId) (vs : List Value) (yss : List (List Int)) : List Ob := List.zipWith (fun v ys => Ob.row (tI .i64) e1 v ys) vs yss
def matO (e2 e1 : TypeId) (g : Nat) (vs : List Value) (yss : List (List Int)) : List Ob := .box g e2 vs :: rowsO e1 vs yss
section
variable {w0 w : World} {O : List (Option Nat)} {obs : List Ob} {e1 e2 : TypeId} {g p i : Nat} {vs : List Value} {yss : List (List Int)} {v : Value} {y : List Int}
theorem rows_get (hv : vs[i]? = some v) (hy : yss[i]? = some y) : (rowsO e1 vs yss)[i]? = some (.row (tI .i64) e1 v y) := by
  simp [rowsO, List.getElem?_zipWith, hv, hy]
theorem rows_set : (rowsO e1 vs yss).set i (.row (tI .i64) e1 v y) = rowsO e1 (vs.set i v) (yss.set i y) := by
  apply List.ext_getElem?
  intro j
  simp only [rowsO, List.getElem?_set, List.getElem?_zipWith, List.length_zipWith]
  by_cases hij : i = j
  · subst hij
    by_cases h1 : i < vs.length
    · by_cases h2 : i < yss.length
      · simp [h1, h2]; omega
      · simp [h1, h2]; omega
    · simp [h1]; omega
  · simp [hij]
theorem mat_lt (hd : obs.drop p = matO e2 e1 g vs yss) : p < obs.length := by
  have := congrArg List.length hd
  simp only [List.length_drop, matO, List.length_cons] at this
  omega
theorem mat_box (hd : obs.drop p = matO e2 e1 g vs yss) : obs[p]? = some (.box g e2 vs) := by
  have := congrArg (fun l => l[0]?) hd
  simpa [List.getElem?_drop, matO] using this
theorem mat_row (hd : obs.drop p = matO e2 e1 g vs yss) (hv : vs[i]? = some v) (hy : yss[i]? = some y) : obs[p + 1 + i]? = some (.row (tI .i64) e1 v y) := by
  have := congrArg (fun l => l[1 + i]?) hd
  simp only [List.getElem?_drop, matO] at this
  rw [Nat.add_assoc, this, Nat.add_comm 1 i, List.getElem?_cons_succ]
  exact rows_get hv hy
theorem mat_set (hd : obs.drop p = matO e2 e1 g vs yss) : obs.set (p + 1 + i) (.row (tI .i64) e1 v y) = obs.take p ++ (.box g e2 vs :: rowsO e1 (vs.set i v) (yss.set i y)) := by
  have hl := mat_lt hd
  have e : obs = obs.take p ++ matO e2 e1 g vs yss := by rw [← hd, List.take_append_drop]
  have hlen : (obs.take p).length = p := by rw [List.length_take]; omega
  conv => lhs; rw [e]
  rw [List.set_append_right _ _ (by rw [hlen]; omega), hlen, show p + 1 + i - p = i + 1 by omega, matO, List.set_cons_succ, rows_set]
theorem mat_put (hd : obs.drop p = matO e2 e1 g vs yss) (hv : vs[i]? = some v) : obs.set (p + 1 + i) (.row (tI .i64) e1 v y) = obs.take p ++ matO e2 e1 g vs (yss.set i y) := by
  rw [mat_set hd, matO]
  have : vs.set i v = vs := by
    obtain ⟨h1, h2⟩ := List.getElem?_eq_some_iff.1 hv
    rw [← h2]; exact List.set_getElem_self h1
  rw [this]
theorem mat_turn (hd : obs.drop p = matO e2 e1 g vs yss) : (obs.set (p + 1 + i) (.row (tI .i64) e1 v y)).set p (.box g e2 (vs.set i v)) = obs.take p ++ matO e2 e1 g (vs.set i v) (yss.set i y) := by
  have hl := mat_lt hd
  have hlen : (obs.take p).length = p := by rw [List.length_take]; omega
  rw [mat_set hd, List.set_append_right _ _ (by rw [hlen]; omega), hlen, Nat.sub_self, List.set_cons_zero]; rfl
theorem mat_v (h : i < vs.length) : ∃ v, vs[i]? = some v := ⟨vs[i], List.getElem?_eq_getElem h⟩
theorem St.instead {a : Ob} (h : St w0 O w (a :: obs)) (q : Nat) (hq : q < obs.length) : St w0 O w (obs.set q a) := by
  have hp : (a :: obs).Perm (obs[q] :: obs.set q a) := by
    have e1 : obs = obs.take q ++ obs[q] :: obs.drop (q + 1) := by rw [List.getElem_cons_drop, List.take_append_drop]
    have e2 : obs.set q a = obs.take q ++ a :: obs.drop (q + 1) := by rw [List.set_eq_take_append_cons_drop, if_pos hq]
    rw [e2]
    conv => lhs; rw [e1]
    refine (List.Perm.cons a List.perm_middle).trans ?_
    refine (List.Perm.swap _ _ _).trans (List.Perm.cons _ ?_)
    exact List.perm_middle.symm
  exact (h.perm hp.symm).tl
theorem St.addNils (h : St w0 O w obs) (e1 : TypeId) (m : Nat) : St w0 O w (List.replicate m (.row (tI .i64) e1 (.slice none 0 0) []) ++ obs) := by
  induction m with
  | zero => exact h
  | succ m ih => rw [List.replicate_succ]; exact ih.addNil (tI .i64) e1
theorem St.matFreeze (h : St w0 O w obs) (p : Nat) (hd : obs.drop p = matO e2 e1 g vs yss) (hl : vs.length = yss.length) (h63 : vs.length ≤ maxLen) :
    St w0 O w (Ob.v (tSl (tSl (tI .i64))) yss (.slice (some ⟨g, 0, none⟩) vs.length vs.length) :: obs.take p) := by
  have hlt := mat_lt hd
  have hM : ∀ j, p ≤ j → ∀ b, some b ∈ fb (obs.take p) O → some b ∈ fb (obs.eraseIdx j) O := fun j hj b hb => by
    rcases List.mem_append.1 hb with hb | hb
    · refine List.mem_append.2 (.inl (?_))
      obtain ⟨ob, ho, e⟩ := List.mem_map.1 hb
      refine List.mem_map.2 ⟨ob, ?_, e⟩
      obtain ⟨q, hq, e'⟩ := List.mem_iff_getElem.1 ho
      have hq' : q < p := by rw [List.length_take] at hq; omega
      rw [List.getElem_take] at e'
      refine List.mem_of_getElem? (i := q) ?_
      rw [List.getElem?_eraseIdx, if_pos (by omega), List.getElem?_eq_getElem (by omega), e']
    · exact List.mem_append.2 (.inr hb)
  have hb := h.get p (mat_box hd)
  refine (h.sub (List.take_sublist p obs)).add ?_
  rw [hl] at h63 ⊢
  refine V.of_form (Nat.le_refl _) h63 fun _ => ⟨g, 0, rfl, ?_, (Array.getElem?_eq_some_iff.1 hb.2).1, fun i x hx => ?_⟩
  · intro hm
    rcases List.mem_append.1 hm with hm | hm
    · obtain ⟨ob, ho, e⟩ := List.mem_map.1 hm
      obtain ⟨q, hq, e'⟩ := List.mem_iff_getElem.1 ho
      have hq' : q < p := by rw [List.length_take] at hq; omega
      rw [List.getElem_take] at e'
      have hs := List.pairwise_iff_getElem.1 h.sep q p (by omega) hlt hq'
      have hp := (List.getElem?_eq_some_iff.1 (mat_box hd)).2
      rw [e', hp] at hs
      rcases hs with hs | hs
      · rw [e] at hs; cases hs
      · exact hs e
    · have := h.olt g hm
      have := hb.1
      omega
  · have hi := (List.getElem?_eq_some_iff.1 hx).1
    obtain ⟨v, hv⟩ := mat_v (vs := vs) (i := i) (by omega)
    have hV := (h.lend (p + 1 + i) (mat_row hd hv hx)).mv (.less (hM (p + 1 + i) (by omega)))
    obtain ⟨cs, hcs, hr⟩ := hV
    have hr' := hr
    obtain ⟨a, cap, e, _⟩ := hr'
    refine ⟨cs, hr, fun j u hu => ?_⟩
    rw [cell_of_row w g _ _ e2 (0, 0) hb.2]
    rw [e] at hu hcs
    have hj : j = 0 := by
      cases j with
      | zero => rfl
      | succ j => simp at hu
    subst hj
    simp only [List.getElem?_cons_zero, Option.some.injEq] at hu
    have hv' : v = u := by rw [hcs, ← hu]; rfl
    show vs.toArray[0 + i * 1 + 0]? = some u
    simp only [Nat.zero_add, Nat.mul_one, Nat.add_zero, List.getElem?_toArray]
    rw [hv, hv']
theorem St.matFreezeN {n : Nat} (h : St w0 O w obs) (p : Nat) (hd : obs.drop p = matO e2 e1 g vs yss) (hv : vs.length = n) (hl : yss.length = n) (h63 : n ≤ maxLen) :
    St w0 O w (Ob.v (tSl (tSl (tI .i64))) yss (.slice (some ⟨g, 0, none⟩) n n) :: obs.take p) := by
  subst hv
  exact h.matFreeze p hd hl.symm h63
end
section
variable {P : Program} {n : Nat} {w w0 : World} {O : List (Option Nat)} {obs : List Ob} {ops : Array Oper} {rest : List Oper} {k : Cont} {d : Tmp} {ty : TypeId} {pos : String} {af : Array Edge}
  {l : List (Nat × Value)} {σ0 σ : Fr} {T s : TypeId} {x z : Operand} {e1 e2 : TypeId} {g p i : Nat} {vs : List Value} {yss : List (List Int)} {v : Value} {y : List Int} {ik : IntKind}
theorem rd_indexM {len cap : Nat} {m : Int} {e : TypeId} (hx : ev σ x = .slice (some ⟨g, 0, none⟩) len cap) (hi : ev σ z = .int ik m) (hu : P.underlying s = some (.slice e)) (hsz : ∀ w', (sizeOf e).run P w' = .ok 1 w') (h0 : 0 ≤ m) (h1 : m < len) :
    Rd P σ (.indexAddr s x z) ty w (.pointer (some ⟨g, m.toNat, none⟩)) := by
  have := run_indexSl (P := P) (w := w) (ty := ty) hx hi hu hsz h0 h1
  rw [Addr.add_lit, Nat.mul_one, Nat.zero_add] at this
  exact this
theorem rd_loadM (hS : St w0 O w obs) (p : Nat) (hd : obs.drop p = matO e2 e1 g vs yss) (hv : vs[i]? = some v) (hx : ev σ x = .pointer (some ⟨g, i, none⟩)) (hag : ∀ w', (isAgg T).run P w' = .ok false w') : Rd P σ (.load T x) ty w v :=
  rd_loadX hS p (mat_box hd) hx hv hag
theorem Wx.storeM {g' j : Nat} {a : Int} (hS : St w0 O w obs) (p : Nat) (hd : obs.drop p = matO e2 e1 g vs yss) (hv : vs[i]? = some v) (hy : yss[i]? = some y) (hg : v.ownBlock = some g') (hx : ev (look l σ0) x = .pointer (some ⟨g', j * 1, none⟩)) (hj : j < y.length)
    (hz : ev (look l σ0) z = .int .i64 a) (hr : InK .i64 a) (hsz : ∀ w', (sizeOf T).run P w' = .ok 1 w')
    (h : ∀ w', w.heap.size ≤ w'.heap.size → St w0 O w' (obs.take p ++ matO e2 e1 g vs (yss.set i (y.set j a))) → Wx P n ops false rest k (look l σ0) w') :
    Wx P n ops false (⟨none, .store T x z, ty, pos, af, none⟩ :: rest) k (look l σ0) w :=
  Wx.storeR (t := tI .i64) (z := a) hS (p + 1 + i) (mat_row hd hv hy) hg hx hj hz (V.mkInt hr) hsz fun w' hw hS' => h w' hw (by rw [mat_put hd hv] at hS'; exact hS')
theorem Wx.storeMV (p : Nat) (hd : obs.drop p = matO e2 e1 g vs yss) (hi : i < vs.length) (hiy : i < yss.length) (hS : St w0 O w (obs.set (p + 1 + i) (.row (tI .i64) e1 v y))) (hx : ev (look l σ0) x = .pointer (some ⟨g, i, none⟩))
    (hz : ev (look l σ0) z = v) (hsz : ∀ w', (sizeOf T).run P w' = .ok 1 w')
    (h : ∀ w', w.heap.size ≤ w'.heap.size → St w0 O w' (obs.take p ++ matO e2 e1 g (vs.set i v) (yss.set i y)) → Wx P n ops false rest k (look l σ0) w') :
    Wx P n ops false (⟨none, .store T x z, ty, pos, af, none⟩ :: rest) k (look l σ0) w := by
  have hlt := mat_lt hd
  have hlen : p + 1 + i < obs.length := by
    have := congrArg List.length hd
    simp only [List.length_drop, matO, List.length_cons, rowsO, List.length_zipWith] at this
    omega
  obtain ⟨cs, hr, _⟩ := hS.get (p + 1 + i) (by rw [List.getElem?_set_self (by simpa using hlen)])
  obtain ⟨ad, c, rfl, _⟩ := ownsRow_form hr
  refine Wx.storeX (ds := [.slice ad y.length c]) hS p (by rw [List.getElem?_set_ne (by omega)]; exact mat_box hd) hx hz rfl hsz (by simp; omega) (by intro u hu; rw [List.mem_singleton] at hu; rw [hu]; rfl) (set_splice _ _ _ hi) fun w' hw hS' => h w' hw ?_
  rw [mat_turn hd] at hS'
  exact hS'
theorem Wx.makeM {e1 : TypeId} {bytes m : Nat} {kl kc : IntKind} {e : TypeId} (hE : ElemI P T e (.slice none 0 0) 1 bytes) (hS : St w0 O w obs)
    (hx : ev (look l σ0) x = .int kl (m : Int)) (hy : ev (look l σ0) z = .int kc (m : Int)) (hb : bytes * m ≤ 281474976710656) (h63 : m ≤ maxLen) (hd : Nat.ble (d + 1) n = true)
    (h : ∀ g w', Ext w w' → St w0 O w' (obs ++ matO e e1 g (List.replicate m (.slice none 0 0)) (List.replicate m [])) → Wx P n ops false rest k (look ((d, .slice (some ⟨g, 0, none⟩) m m) :: l) σ0) w') :
    Wx P n ops false (⟨some d, .makeSlice T x z, ty, pos, af, none⟩ :: rest) k (look l σ0) w := by
  obtain ⟨ti, hti, hz, hsz, hby⟩ := hE.info
  subst hby
  have hb' : (ti.bytes : Int) * (m : Int) ≤ 281474976710656 := by
    have h' : ((ti.bytes * m : Nat) : Int) ≤ 281474976710656 := by omega
    rwa [Int.natCast_mul] at h'
  have hr := run_make (P := P) w T e ti (.slice none 0 0) hE.und hti hz kl kc (m : Int) (m : Int) (by omega) (by omega) hb' (by simp only [maxLen] at h63; omega)
  simp only [Int.toNat_natCast, hsz, Nat.mul_one] at hr
  have hcells : madeCells (Value.slice none 0 0).cells m = (List.replicate m (Value.slice none 0 0)).toArray := by
    apply Array.ext'
    rw [List.toList_toArray]
    apply List.ext_getElem?
    intro j
    simp only [madeCells, Array.toList_map, List.getElem?_map, List.getElem?_replicate, Array.toList_range]
    by_cases hj : j < m
    · simp [hj, Nat.mod_one, Value.cells]
    · simp [hj]
  have hx' : Ext w (w.alloc (.cells (madeCells (Value.slice none 0 0).cells m) e)) := (Below.refl _ _).alloc (Nat.le_refl _) _
  refine Wx.val (v := .slice (some ⟨w.heap.size, 0, none⟩) m m) (w' := w.alloc (.cells (madeCells (Value.slice none 0 0).cells m) e)) (by simp [xop, execOp, hx, hy, hr]) hd (h _ _ hx' ?_)
  have h1 := hS.push hx' (.box w.heap.size e (List.replicate m (.slice none 0 0))) (fun b hb => by simp [Ob.blk] at hb; omega) (fun F hM => ⟨hS.bel.size, by rw [heap_alloc_new w _, hcells]⟩)
  have h2 := h1.addNils e1 m
  refine h2.perm ?_
  have e' : rowsO e1 (List.replicate m (.slice none 0 0)) (List.replicate m []) = List.replicate m (.row (tI .i64) e1 (.slice none 0 0) []) := by simp [rowsO]
  rw [matO, e']
  refine List.perm_middle.trans ?_
  refine List.Perm.trans (List.Perm.cons _ List.perm_append_comm) ?_
  exact List.perm_middle.symm
end
end Go.Wk

namespace Go.Proofs
open Go.Shelf
def Try.lays189_ren : Go.Shelf.Ren := ⟨fun | 189 => 84 | 125 => 91 | 257 => 90 | 128 => 104 | 129 => 105 | 294 => 95 | 295 => 96 | 296 => 97 | 297 => 98 | 298 => 99 | 299 => 100 | 216 => 101 | 300 => 102 | 301 => 103 | 328 => 108 | 329 => 109 | 330 => 110 | 331 => 111 | 332 => 112 | 215 => 113 | 343 => 122 | n => n, fun | 28 => 22 | 3 => 3 | 46 => 107 | 0 => 0 | 51 => 114 | 53 => 61 | 4 => 4 | 183 => 126 | 182 => 125 | 131 => 131 | 5 => 5 | 9 => 9 | 218 => 137 | 222 => 141 | 228 => 148 | 229 => 149 | n => n, fun | n => n⟩
theorem Try.lays189 : Go.Proofs.Lays.n189 Try.prog Try.lays189_ren := {
  mixed := by kernel_rfl
  f125 := Try.func91.trans (congrArg some (by kernel_rfl))
  f128 := Try.func104.trans (congrArg some (by kernel_rfl))
  f129 := Try.func105.trans (congrArg some (by kernel_rfl))
  f189 := Try.func84.trans (congrArg some (by kernel_rfl))
  f215 := Try.func113.trans (congrArg some (by kernel_rfl))
  f216 := Try.func101.trans (congrArg some (by kernel_rfl))
  f257 := Try.func90.trans (congrArg some (by kernel_rfl))
  f294 := Try.func95.trans (congrArg some (by kernel_rfl))
  f295 := Try.func96.trans (congrArg some (by kernel_rfl))
  f296 := Try.func97.trans (congrArg some (by kernel_rfl))
  f297 := Try.func98.trans (congrArg some (by kernel_rfl))
  f298 := Try.func99.trans (congrArg some (by kernel_rfl))
  f299 := Try.func100.trans (congrArg some (by kernel_rfl))
  f300 := Try.func102.trans (congrArg some (by kernel_rfl))
  f301 := Try.func103.trans (congrArg some (by kernel_rfl))
  f328 := Try.func108.trans (congrArg some (by kernel_rfl))
  f329 := Try.func109.trans (congrArg some (by kernel_rfl))
  f330 := Try.func110.trans (congrArg some (by kernel_rfl))
  f331 := Try.func111.trans (congrArg some (by kernel_rfl))
  f332 := Try.func112.trans (congrArg some (by kernel_rfl))
  f343 := Try.func122.trans (congrArg some (by kernel_rfl))
  t0 := Try.underlying0
  a0 := Try.isAgg0
  z0 := Try.sizeOf0
  v0 := Try.zeroValue0
  t3 := Try.underlying3
  a3 := Try.isAgg3
  z3 := Try.sizeOf3
  v3 := Try.zeroValue3
  t4 := Try.underlying4
  a4 := Try.isAgg4
  z4 := Try.sizeOf4
  v4 := Try.zeroValue4
  t5 := Try.underlying5
  a5 := Try.isAgg5
  z5 := Try.sizeOf5
  v5 := Try.zeroValue5
  t9 := Try.underlying9
  a9 := Try.isAgg9
  z9 := Try.sizeOf9
  v9 := Try.zeroValue9
  t28 := Try.underlying22
  a28 := Try.isAgg22
  z28 := Try.sizeOf22
  v28 := Try.zeroValue22
  t46 := Try.underlying107
  a46 := Try.isAgg107
  z46 := Try.sizeOf107
  v46 := Try.zeroValue107
  t51 := Try.underlying114
  a51 := Try.isAgg114
  z51 := Try.sizeOf114
  v51 := Try.zeroValue114
  t53 := Try.underlying61
  a53 := Try.isAgg61
  z53 := Try.sizeOf61
  v53 := Try.zeroValue61
  t131 := Try.underlying131
  a131 := Try.isAgg131
  z131 := Try.sizeOf131
  v131 := Try.zeroValue131
  t182 := Try.underlying125
  a182 := Try.isAgg125
  z182 := Try.sizeOf125
  v182 := Try.zeroValue125
  t183 := Try.underlying126
  a183 := Try.isAgg126
  z183 := Try.sizeOf126
  v183 := Try.zeroValue126
  t218 := Try.underlying137
  a218 := Try.isAgg137
  z218 := Try.sizeOf137
  v218 := Try.zeroValue137
  t222 := Try.underlying141
  a222 := Try.isAgg141
  z222 := Try.sizeOf141
  v222 := Try.zeroValue141
  t228 := Try.underlying148
  a228 := Try.isAgg148
  z228 := Try.sizeOf148
  v228 := Try.zeroValue148
  t229 := Try.underlying149
  a229 := Try.isAgg149
  z229 := Try.sizeOf149
  v229 := Try.zeroValue149 }
def Try.laysSlF06_f92_ren : Go.Shelf.Ren := ⟨fun | 6 => 92 | 15 => 91 | 14 => 106 | 28 => 104 | 29 => 105 | 20 => 114 | 21 => 115 | 22 => 116 | 23 => 117 | 24 => 118 | 25 => 119 | 26 => 120 | 27 => 121 | 46 => 123 | 47 => 109 | 48 => 110 | 49 => 124 | 50 => 125 | 57 => 126 | n => n, fun | 22 => 101 | 24 => 105 | 25 => 123 | 3 => 3 | 39 => 107 | 0 => 0 | 53 => 114 | 55 => 61 | 4 => 4 | 46 => 126 | 45 => 125 | 50 => 131 | 5 => 5 | 9 => 9 | 66 => 137 | 70 => 141 | 76 => 148 | 77 => 149 | n => n, fun | n => n⟩
theorem Try.laysSlF06_f92 : Go.Proofs.SlLaysF0.n6 Try.prog Try.laysSlF06_f92_ren := {
  mixed := by kernel_rfl
  f6 := ⟨Try.f92.name, by decide, Try.func92.trans (congrArg some (by kernel_rfl))⟩
  f14 := ⟨Try.f106.name, by decide, Try.func106.trans (congrArg some (by kernel_rfl))⟩
  f15 := Try.func91.trans (congrArg some (by kernel_rfl))
  f20 := ⟨Try.f114.name, by decide, Try.func114.trans (congrArg some (by kernel_rfl))⟩
  f21 := ⟨Try.f115.name, by decide, Try.func115.trans (congrArg some (by kernel_rfl))⟩
  f22 := ⟨Try.f116.name, by decide, Try.func116.trans (congrArg some (by kernel_rfl))⟩
  f23 := ⟨Try.f117.name, by decide, Try.func117.trans (congrArg some (by kernel_rfl))⟩
  f24 := ⟨Try.f118.name, by decide, Try.func118.trans (congrArg some (by kernel_rfl))⟩
  f25 := ⟨Try.f119.name, by decide, Try.func119.trans (congrArg some (by kernel_rfl))⟩
  f26 := ⟨Try.f120.name, by decide, Try.func120.trans (congrArg some (by kernel_rfl))⟩
  f27 := ⟨Try.f121.name, by decide, Try.func121.trans (congrArg some (by kernel_rfl))⟩
  f28 := Try.func104.trans (congrArg some (by kernel_rfl))
  f29 := Try.func105.trans (congrArg some (by kernel_rfl))
  f46 := ⟨Try.f123.name, by decide, Try.func123.trans (congrArg some (by kernel_rfl))⟩
  f47 := Try.func109.trans (congrArg some (by kernel_rfl))
  f48 := Try.func110.trans (congrArg some (by kernel_rfl))
  f49 := ⟨Try.f124.name, by decide, Try.func124.trans (congrArg some (by kernel_rfl))⟩
  f50 := ⟨Try.f125.name, by decide, Try.func125.trans (congrArg some (by kernel_rfl))⟩
  f57 := ⟨Try.f126.name, by decide, Try.func126.trans (congrArg some (by kernel_rfl))⟩
  t0 := Try.underlying0
  a0 := Try.isAgg0
  z0 := Try.sizeOf0
  v0 := Try.zeroValue0
  t3 := Try.underlying3
  a3 := Try.isAgg3
  z3 := Try.sizeOf3
  v3 := Try.zeroValue3
  t4 := Try.underlying4
  a4 := Try.isAgg4
  z4 := Try.sizeOf4
  v4 := Try.zeroValue4
  t5 := Try.underlying5
  a5 := Try.isAgg5
  z5 := Try.sizeOf5
  v5 := Try.zeroValue5
  t9 := Try.underlying9
  a9 := Try.isAgg9
  z9 := Try.sizeOf9
  v9 := Try.zeroValue9
  t22 := Try.underlying101
  a22 := Try.isAgg101
  z22 := Try.sizeOf101
  v22 := Try.zeroValue101
  t25 := Try.underlying123
  a25 := Try.isAgg123
  z25 := Try.sizeOf123
  v25 := Try.zeroValue123
  t39 := Try.underlying107
  a39 := Try.isAgg107
  z39 := Try.sizeOf107
  v39 := Try.zeroValue107
  t45 := Try.underlying125
  a45 := Try.isAgg125
  z45 := Try.sizeOf125
  v45 := Try.zeroValue125
  t46 := Try.underlying126
  a46 := Try.isAgg126
  z46 := Try.sizeOf126
  v46 := Try.zeroValue126
  t50 := Try.underlying131
  a50 := Try.isAgg131
  z50 := Try.sizeOf131
  v50 := Try.zeroValue131
  t53 := Try.underlying114
  a53 := Try.isAgg114
  z53 := Try.sizeOf114
  v53 := Try.zeroValue114
  t55 := Try.underlying61
  a55 := Try.isAgg61
  z55 := Try.sizeOf61
  v55 := Try.zeroValue61
  t66 := Try.underlying137
  a66 := Try.isAgg137
  z66 := Try.sizeOf137
  v66 := Try.zeroValue137
  t70 := Try.underlying141
  a70 := Try.isAgg141
  z70 := Try.sizeOf141
  v70 := Try.zeroValue141
  t76 := Try.underlying148
  a76 := Try.isAgg148
  z76 := Try.sizeOf148
  v76 := Try.zeroValue148
  t77 := Try.underlying149
  a77 := Try.isAgg149
  z77 := Try.sizeOf149
  v77 := Try.zeroValue149 }
end Go.Proofs
