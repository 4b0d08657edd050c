/-
  WHAT IS PROVED HERE, TEXT BY TEXT (several texts of one prover, joined to one file; the conditions stand in each statement):
  * WHAT IS PROVED HERE: plain laws of ways between two places, and of trees of joints: joints that are taken, the lowest first, connect what ways connect. No program in sight. Conditions stand in each statement.
  * WHAT IS PROVED HERE: plain laws of labels: what is connected has the same one. No program in sight. Conditions stand in each statement.
  * WHAT IS PROVED HERE: plain laws of the neighbours that have come so far. No program in sight. Conditions stand in each statement.
  * WHAT IS PROVED HERE: plain laws of sills that are found place by place, in lists. No program in sight. Conditions stand in each statement.
  * WHAT IS PROVED HERE: plain laws of comparing two rows of numbers. No program in sight.
  * WHAT IS PROVED HERE: strings that are gone through, rune by rune. Conditions stand in each statement; they hold over any program.
  * WHAT IS PROVED HERE: a variable that holds a string and a table of pairs, 13 times 13: what is read from it, what it holds after a pair is written. Conditions stand in each statement; they hold over any program.
  * WHAT IS PROVED HERE: a string's runes as a slice of the call's own, and a string made of a slice of runes. Conditions stand in each statement; they hold over any program.
  * WHAT IS PROVED HERE: a range over a function: the record of the loop and the block for deferred calls are objects of the call; the body is walked once; what an iterator promises. Conditions stand in each statement; they hold over any program.
  * WHAT IS PROVED HERE: an iterator calls the loop's own function. Conditions stand in each statement; they hold over any program.
  * WHAT IS PROVED HERE: objects in another order; an element of an array of numbers, at a number that is not written out. Conditions stand in each statement; they hold over any program.
  * WHAT IS PROVED HERE: a region that draws its order, over whatever class of worlds; a class of worlds that differ from one only in how much was drawn. Nothing here speaks of a program.
  * WHAT IS PROVED HERE: a slice of the call's own is written whole by a callee that sorts it. Nothing here speaks of a program.
  * WHAT IS PROVED HERE: queues: the tail of a slice of the call's own, which is appended to. Nothing here speaks of a program.
  * WHAT IS PROVED HERE: plain laws of places that are gone through from a queue. No program in sight.
  * WHAT IS PROVED HERE: plain laws of the shortest ways to the river, found from the river on, one place after the other. No program in sight.
  * WHAT IS PROVED HERE: plain laws of all joints, in their order. No program in sight.
  * WHAT IS PROVED HERE: plain laws of places that are put together, each under another one; and of the joints that are taken. No program in sight.
  * WHAT IS PROVED HERE: a region of all orders, where what yields its value in every world that keeps some objects is taken first. Nothing here speaks of a program.
  * WHAT IS PROVED HERE: plain laws of shores that are made of numbers. No program in sight.
  * WHAT IS PROVED HERE: plain laws of shores whose columns are in the opposite order. No program in sight.
  * WHAT IS PROVED HERE: plain laws of pools, one after another: where each place is. No program in sight.
  * WHAT IS PROVED HERE: plain laws of ways, basins and distances that are found by going over all neighbours many times. No program in sight.
  * WHAT IS PROVED HERE: plain laws of trees: how many joints they have, the highest joint between two, and the lowest ways found by trying all places in between. No program in sight.
  * WHAT IS PROVED HERE: plain laws of lowest ways between neighbours. No program in sight.
  * WHAT IS SAID HERE, WITH PLAIN LAWS: maps of lines: what comes after each end, rings of ends, parts, maps without a line; and the maps of six small shores. No program in sight.
  * WHAT IS PROVED HERE: plain laws of shores as maps: without the lines that are no joints of the tree a map has as many parts as there are joints with the river. No program in sight.
  * WHAT IS PROVED HERE: plain laws of six small shores as maps: without the lines that are no joints of the tree there are as many parts, with the places alone, as joints with the river. No program in sight.
  * WHAT IS PROVED HERE: plain laws of rings of ends: gone along until the first end comes again. No program in sight.
  * WHAT IS PROVED HERE: plain laws of parts: labels in an array, turned one by one. No program in sight.
  * WHAT IS PROVED HERE: plain laws of tables that are made of lists of ends, and of lists without a line. No program in sight.
-/
import Derived.Test.YtdpdlplkngggoaaGreatDoorU1
import Derived.Lib.OthersKept
import Derived.Scope
import Derived.Laws.Cover4
import Derived.Laws.IdiomStrings
import Derived.RangeFuncRecord
import Derived.RangeFuncSeq
import Derived.Sort.Grow
import Derived.Deep.Draws
import Derived.Sort.Row
import Derived.Shelf.GgSortFunc.InsertionK

set_option linter.unusedVariables false
set_option linter.unusedSimpArgs false

namespace Go.Proofs.YtdpdlplkngggoaaGreatDoor
open Go.Wk
set_option linter.unusedVariables false
def nearB (C n a b : Int) : Bool := if a = n ∨ b = n then decide (a ≠ b) && decide (n - C ≤ min a b) else adjB C a b
def highV (H : List Int) (x : Int) : Int := if x = (H.length : Int) then 0 else ix 0 H x
def lowB (H : List Int) (h x : Int) : Bool := decide (highV H x ≤ h)
def gN (C : Int) (H : List Int) (h : Int) : RelE := rM (nearB C H.length) (lowB H h)
def ledN (C : Int) (H : List Int) (h a b : Int) : Bool := ledB (gN C H h) (H.length + 1) a b
def betwV (C : Int) (H : List Int) (a b : Int) : Int := ((rng (highV H a) 30).find? fun h => ledN C H h a b).getD 30
section
variable {C : Int} {H : List Int}
theorem near_symm (n a b : Int) : nearB C n a b = nearB C n b a := by
  rw [nearB, nearB]
  by_cases h : a = n ∨ b = n
  · rw [if_pos h, if_pos h.symm, Int.min_comm, show decide (a ≠ b) = decide (b ≠ a) from decide_eq_decide.2 ⟨fun q e => q e.symm, fun q e => q e.symm⟩]
  · rw [if_neg h, if_neg (fun q => h q.symm), adj_symm]
theorem high_bd {R : Int} (hk : SOK R C H) {x : Int} (hx : 0 ≤ x ∧ x ≤ (H.length : Int)) : 0 ≤ highV H x ∧ highV H x ≤ 30 := by
  rw [highV]; split
  · omega
  · exact hk.at hx.1 (by omega)
theorem betw_found {h a b : Int} (h0 : highV H a ≤ h) (h1 : h < 30) (hlow : ∀ k, highV H a ≤ k → k < h → ledN C H k a b = false) (hf : ledN C H h a b = true) : betwV C H a b = h := by
  rw [betwV]
  cases hq : (rng (highV H a) 30).find? fun h => ledN C H h a b with
  | none => exact absurd hf (List.find?_eq_none.1 hq h (rng_mem.2 ⟨h0, h1⟩))
  | some s =>
    obtain ⟨hp, us, bs, he, hl⟩ := List.find?_eq_some_iff_append.1 hq
    show s = h
    have hs : s ∈ rng (highV H a) 30 := by rw [he]; simp
    have hs' := rng_mem.1 hs
    rcases Int.lt_trichotomy s h with k | k | k
    · rw [hlow s hs'.1 k] at hp; cases hp
    · exact k
    · exfalso
      have hm : h ∈ rng (highV H a) 30 := rng_mem.2 ⟨h0, h1⟩
      have hsrt := rng_asc (highV H a) 30
      rw [he] at hm hsrt
      rcases List.mem_append.1 hm with hm | hm
      · have := hl h hm; rw [hf] at this; cases this
      · rcases List.mem_cons.1 hm with e | hm
        · omega
        · have := (List.pairwise_cons.1 (List.pairwise_append.1 hsrt).2.1).1 h hm; omega
theorem betw_none {a b : Int} (hlow : ∀ k, highV H a ≤ k → k < 30 → ledN C H k a b = false) : betwV C H a b = 30 := by
  rw [betwV, List.find?_eq_none.2 fun k hk => by rw [hlow k (rng_mem.1 hk).1 (rng_mem.1 hk).2]; decide]
  rfl
theorem gN_iff {h a b : Int} : gN C H h a b = true ↔ nearB C H.length a b = true ∧ highV H a ≤ h ∧ highV H b ≤ h := by
  rw [gN, rM_iff, lowB, lowB, decide_eq_true_eq, decide_eq_true_eq]
end
/-! ### what joints connect -/
abbrev Ends := Int × Int
def addE (E : Int → Int → Bool) (e : Ends) : Int → Int → Bool := fun x y => E x y || ((E x e.1 && E e.2 y) || (E x e.2 && E e.1 y))
def conF (l : List Ends) : Int → Int → Bool := l.foldl addE fun x y => decide (x = y)
theorem add_iff {E : Int → Int → Bool} {e : Ends} {x y : Int} : addE E e x y = true ↔ E x y = true ∨ (E x e.1 = true ∧ E e.2 y = true) ∨ (E x e.2 = true ∧ E e.1 y = true) := by
  rw [addE, Bool.or_eq_true, Bool.or_eq_true, Bool.and_eq_true, Bool.and_eq_true]
theorem con_snoc (l : List Ends) (e : Ends) : conF (l ++ [e]) = addE (conF l) e := by rw [conF, conF, List.foldl_append]; rfl
structure EqR (E : Int → Int → Bool) : Prop where
  r : ∀ x, E x x = true
  s : ∀ x y, E x y = true → E y x = true
  t : ∀ x y z, E x y = true → E y z = true → E x z = true
theorem addE_eq {E : Int → Int → Bool} (h : EqR E) (e : Ends) : EqR (addE E e) := by
  refine ⟨fun x => add_iff.2 (.inl (h.r x)), fun x y hxy => ?_, fun x y z hxy hyz => ?_⟩
  · rcases add_iff.1 hxy with q | ⟨q1, q2⟩ | ⟨q1, q2⟩
    · exact add_iff.2 (.inl (h.s _ _ q))
    · exact add_iff.2 (.inr (.inr ⟨h.s _ _ q2, h.s _ _ q1⟩))
    · exact add_iff.2 (.inr (.inl ⟨h.s _ _ q2, h.s _ _ q1⟩))
  · rcases add_iff.1 hxy with q | ⟨q1, q2⟩ | ⟨q1, q2⟩
    · rcases add_iff.1 hyz with p | ⟨p1, p2⟩ | ⟨p1, p2⟩
      · exact add_iff.2 (.inl (h.t _ _ _ q p))
      · exact add_iff.2 (.inr (.inl ⟨h.t _ _ _ q p1, p2⟩))
      · exact add_iff.2 (.inr (.inr ⟨h.t _ _ _ q p1, p2⟩))
    · rcases add_iff.1 hyz with p | ⟨p1, p2⟩ | ⟨p1, p2⟩
      · exact add_iff.2 (.inr (.inl ⟨q1, h.t _ _ _ q2 p⟩))
      · exact add_iff.2 (.inr (.inl ⟨q1, p2⟩))
      · exact add_iff.2 (.inl (h.t _ _ _ q1 p2))
    · rcases add_iff.1 hyz with p | ⟨p1, p2⟩ | ⟨p1, p2⟩
      · exact add_iff.2 (.inr (.inr ⟨q1, h.t _ _ _ q2 p⟩))
      · exact add_iff.2 (.inl (h.t _ _ _ q1 p2))
      · exact add_iff.2 (.inr (.inr ⟨q1, p2⟩))
theorem fold_eq : ∀ (l : List Ends) (E : Int → Int → Bool), EqR E → EqR (l.foldl addE E)
  | [], _, h => h
  | e :: l, E, h => fold_eq l _ (addE_eq h e)
theorem con_eq (l : List Ends) : EqR (conF l) := fold_eq l _ ⟨fun x => decide_eq_true rfl, fun x y h => decide_eq_true (of_decide_eq_true h).symm, fun x y z h k => decide_eq_true ((of_decide_eq_true h).trans (of_decide_eq_true k))⟩
theorem fold_mono : ∀ (l : List Ends) (E : Int → Int → Bool) {x y : Int}, E x y = true → l.foldl addE E x y = true
  | [], _, _, _, h => h
  | e :: l, E, x, y, h => fold_mono l _ (add_iff.2 (.inl h))
theorem con_app {l m : List Ends} {x y : Int} (h : conF l x y = true) : conF (l ++ m) x y = true := by
  rw [conF, List.foldl_append]; exact fold_mono m _ h
theorem con_edge {l : List Ends} {e : Ends} (h : e ∈ l) : conF l e.1 e.2 = true := by
  obtain ⟨u, v, rfl⟩ := List.append_of_mem h
  rw [show u ++ e :: v = (u ++ [e]) ++ v by simp]
  refine con_app ?_
  rw [con_snoc]
  exact add_iff.2 (.inr (.inl ⟨(con_eq u).r _, (con_eq u).r _⟩))
theorem snoc_ind {α : Type} {P : List α → Prop} (h0 : P []) (hs : ∀ l a, P l → P (l ++ [a])) (l : List α) : P l := by
  have : ∀ m : List α, P m.reverse := fun m => by
    induction m with
    | nil => exact h0
    | cons a m ih => rw [List.reverse_cons]; exact hs _ _ ih
  have h := this l.reverse
  rwa [List.reverse_reverse] at h
theorem con_least {E : Int → Int → Bool} (h : EqR E) : ∀ (l : List Ends), (∀ e ∈ l, E e.1 e.2 = true) → ∀ x y, conF l x y = true → E x y = true := by
  intro l
  induction l using snoc_ind with
  | h0 => intro _ x y hxy; rw [show x = y from of_decide_eq_true hxy]; exact h.r y
  | hs l e ih =>
    intro hl x y hxy
    have ih' := ih fun e' he' => hl e' (List.mem_append_left _ he')
    have he := hl e (by simp)
    rw [con_snoc] at hxy
    rcases add_iff.1 hxy with q | ⟨q1, q2⟩ | ⟨q1, q2⟩
    · exact ih' _ _ q
    · exact h.t _ _ _ (ih' _ _ q1) (h.t _ _ _ he (ih' _ _ q2))
    · exact h.t _ _ _ (ih' _ _ q1) (h.t _ _ _ (h.s _ _ he) (ih' _ _ q2))
/-! ### joints, the lowest first -/
structure Jt where
  a : Int
  b : Int
  h : Int
def Jt.e (j : Jt) : Ends := (j.a, j.b)
def jointI (C : Int) (H : List Int) (a b : Int) : Int := if b = (H.length : Int) then (if lastB C H a = true then ix 0 H a else -1) else if a < b ∧ adjB C a b = true then max (ix 0 H a) (ix 0 H b) else -1
def jB (C : Int) (H : List Int) (h a b : Int) : List Jt := if jointI C H a b = h then [⟨a, b, h⟩] else []
def jRow (C : Int) (H : List Int) (h a b : Int) : List Jt := (rng b (H.length + 1)).flatMap (jB C H h a)
def jLev (C : Int) (H : List Int) (h a : Int) : List Jt := (rng a H.length).flatMap fun a => jRow C H h a 0
def jAll (C : Int) (H : List Int) (h : Int) : List Jt := (rng h 31).flatMap fun h => jLev C H h 0
def kstep (out : List Jt) (j : Jt) : List Jt := if conF (out.map Jt.e) j.a j.b = true then out else out ++ [j]
def kru (l : List Jt) : List Jt := l.foldl kstep []
def treeV (C : Int) (H : List Int) : List Ends := (kru (jAll C H 0)).map Jt.e
def treeE (R C : Int) (H : List Int) : List Ends := if checkS R C H = 0 then treeV C H else []
section
variable {C : Int} {H : List Int}
theorem mem_jAll {j : Jt} : j ∈ jAll C H 0 ↔ (0 ≤ j.h ∧ j.h < 31) ∧ (0 ≤ j.a ∧ j.a < (H.length : Int)) ∧ (0 ≤ j.b ∧ j.b < (H.length : Int) + 1) ∧ jointI C H j.a j.b = j.h := by
  rw [jAll, List.mem_flatMap]
  constructor
  · rintro ⟨h, hh, hj⟩
    rw [jLev, List.mem_flatMap] at hj
    obtain ⟨a, ha, hj⟩ := hj
    rw [jRow, List.mem_flatMap] at hj
    obtain ⟨b, hb, hj⟩ := hj
    rw [jB] at hj
    split at hj
    · rename_i he
      rw [List.mem_singleton] at hj; subst hj
      exact ⟨rng_mem.1 hh, rng_mem.1 ha, rng_mem.1 hb, he⟩
    · cases hj
  · rintro ⟨h1, h2, h3, h4⟩
    refine ⟨j.h, rng_mem.2 h1, ?_⟩
    rw [jLev, List.mem_flatMap]
    refine ⟨j.a, rng_mem.2 h2, ?_⟩
    rw [jRow, List.mem_flatMap]
    refine ⟨j.b, rng_mem.2 h3, ?_⟩
    rw [jB, if_pos h4]; exact List.mem_singleton.2 rfl
def jlt (i j : Jt) : Prop := i.h < j.h ∨ (i.h = j.h ∧ (i.a < j.a ∨ (i.a = j.a ∧ i.b < j.b)))
theorem jAll_sorted : (jAll C H 0).Pairwise jlt := by
  refine List.pairwise_flatMap.2 ⟨fun h _ => ?_, (rng_asc 0 31).imp fun {h k} hk x hx y hy => ?_⟩
  · refine List.pairwise_flatMap.2 ⟨fun a _ => ?_, (rng_asc 0 H.length).imp fun {a c} hac x hx y hy => ?_⟩
    · refine List.pairwise_flatMap.2 ⟨fun b _ => ?_, (rng_asc 0 (H.length + 1)).imp fun {b d} hbd x hx y hy => ?_⟩
      · rw [jB]; split
        · exact List.pairwise_singleton _ _
        · exact .nil
      · rw [jB] at hx hy
        split at hx
        · split at hy
          · rw [List.mem_singleton.1 hx, List.mem_singleton.1 hy]; exact .inr ⟨rfl, .inr ⟨rfl, hbd⟩⟩
          · cases hy
        · cases hx
    · have e1 : x.h = h ∧ x.a = a := by
        rw [jRow, List.mem_flatMap] at hx
        obtain ⟨b, _, hx⟩ := hx
        rw [jB] at hx; split at hx
        · rw [List.mem_singleton.1 hx]; exact ⟨rfl, rfl⟩
        · cases hx
      have e2 : y.h = h ∧ y.a = c := by
        rw [jRow, List.mem_flatMap] at hy
        obtain ⟨b, _, hy⟩ := hy
        rw [jB] at hy; split at hy
        · rw [List.mem_singleton.1 hy]; exact ⟨rfl, rfl⟩
        · cases hy
      exact .inr ⟨by omega, .inl (by omega)⟩
  · have lev : ∀ (k : Int) (z : Jt), z ∈ jLev C H k 0 → z.h = k := by
      intro k z hz
      rw [jLev, List.mem_flatMap] at hz
      obtain ⟨a, _, hz⟩ := hz
      rw [jRow, List.mem_flatMap] at hz
      obtain ⟨b, _, hz⟩ := hz
      rw [jB] at hz; split at hz
      · rw [List.mem_singleton.1 hz]
      · cases hz
    have := lev h x hx; have := lev k y hy
    exact .inl (by omega)
theorem kru_con (l : List Jt) : ∀ x y, conF ((kru l).map Jt.e) x y = conF (l.map Jt.e) x y := by
  induction l using snoc_ind with
  | h0 => intro x y; rfl
  | hs l j ih =>
    have hk : kru (l ++ [j]) = kstep (kru l) j := by rw [kru, kru, List.foldl_append]; rfl
    intro x y
    rw [hk, kstep]
    split
    · rename_i hc
      rw [List.map_append, List.map_singleton, con_snoc, ih x y, Bool.eq_iff_iff, add_iff]
      rw [ih] at hc
      have hE := con_eq (l.map Jt.e)
      constructor
      · exact .inl
      · rintro (q | ⟨q1, q2⟩ | ⟨q1, q2⟩)
        · exact q
        · exact hE.t _ _ _ q1 (hE.t _ _ _ hc q2)
        · exact hE.t _ _ _ q1 (hE.t _ _ _ (hE.s _ _ hc) q2)
    · rw [List.map_append, List.map_append, List.map_singleton, con_snoc, con_snoc, Bool.eq_iff_iff, add_iff, add_iff]
      simp only [ih]
theorem joint_near {R : Int} (hk : SOK R C H) {a b h : Int} (ha : 0 ≤ a ∧ a < (H.length : Int)) (hb : 0 ≤ b ∧ b < (H.length : Int) + 1) (h0 : 0 ≤ h) : jointI C H a b = h → nearB C H.length a b = true ∧ max (highV H a) (highV H b) = h := by
  intro e
  rw [jointI] at e
  have hha : highV H a = ix 0 H a := by rw [highV, if_neg (by omega)]
  have hpa := hk.at ha.1 ha.2
  split at e
  · rename_i e1
    split at e
    · rename_i e2
      have hl : (H.length : Int) - C ≤ a := of_decide_eq_true e2
      refine ⟨?_, ?_⟩
      · rw [nearB, if_pos (.inr e1), Bool.and_eq_true, decide_eq_true_eq, decide_eq_true_eq]; omega
      · rw [hha, e1, show highV H (H.length : Int) = 0 by rw [highV, if_pos rfl]]; omega
    · omega
  · rename_i e1
    have hhb : highV H b = ix 0 H b := by rw [highV, if_neg e1]
    split at e
    · rename_i e2
      refine ⟨?_, by rw [hha, hhb]; exact e⟩
      rw [nearB, if_neg (by omega)]; exact e2.2
    · omega
theorem near_joint {R : Int} (hk : SOK R C H) {a b : Int} (ha : 0 ≤ a ∧ a < (H.length : Int) + 1) (hb : 0 ≤ b ∧ b < (H.length : Int) + 1) (hab : a < b) (hn : nearB C H.length a b = true) : jointI C H a b = max (highV H a) (highV H b) := by
  have hha : highV H a = ix 0 H a := by rw [highV, if_neg (by omega)]
  have hpa := hk.at ha.1 (show a < H.length by omega)
  rw [jointI]
  rw [nearB] at hn
  by_cases hbn : b = (H.length : Int)
  · rw [if_pos (.inr hbn), Bool.and_eq_true, decide_eq_true_eq, decide_eq_true_eq] at hn
    rw [if_pos hbn, if_pos (show lastB C H a = true from decide_eq_true (by omega)), hha, show highV H b = 0 by rw [highV, if_pos hbn]]; omega
  · rw [if_neg (by omega)] at hn
    rw [if_neg hbn, if_pos ⟨hab, hn⟩, hha, show highV H b = ix 0 H b by rw [highV, if_neg hbn]]
theorem near_ne {n a b : Int} (hn : nearB C n a b = true) (hC : 1 ≤ C) : a ≠ b := by
  rintro rfl
  rw [nearB] at hn
  split at hn
  · simp at hn
  · rw [adj_iff hC] at hn; omega
theorem con_led {R : Int} (hk : SOK R C H) {h : Int} {l : List Jt} (hl : ∀ j ∈ l, j ∈ jAll C H 0 ∧ j.h ≤ h) {x y : Int} (hx : 0 ≤ x ∧ x < (H.length : Int) + 1) (hy : 0 ≤ y ∧ y < (H.length : Int) + 1) (hc : conF (l.map Jt.e) x y = true) : ledN C H h x y = true := by
  have hR : EqR fun x y => decide (x = y) || (((decide (0 ≤ x) && decide (x < (H.length : Int) + 1)) && (decide (0 ≤ y) && decide (y < (H.length : Int) + 1))) && ledN C H h x y) := by
    refine ⟨fun x => by simp, fun x y hxy => ?_, fun x y z hxy hyz => ?_⟩
    · simp only [Bool.or_eq_true, Bool.and_eq_true, decide_eq_true_eq] at hxy ⊢
      rcases hxy with e | ⟨⟨h1, h2⟩, h3⟩
      · exact .inl e.symm
      · exact .inr ⟨⟨h2, h1⟩, led_symm (rM_symm (near_symm _)) h1 h2 h3⟩
    · simp only [Bool.or_eq_true, Bool.and_eq_true, decide_eq_true_eq] at hxy hyz ⊢
      rcases hxy with rfl | ⟨⟨h1, h2⟩, h3⟩
      · exact hyz
      · rcases hyz with rfl | ⟨⟨h4, h5⟩, h6⟩
        · exact .inr ⟨⟨h1, h2⟩, h3⟩
        · exact .inr ⟨⟨h1, h5⟩, led_trans h1 h2 h5 h3 h6⟩
  have := con_least hR (l.map Jt.e) (fun e he => by
    obtain ⟨j, hj, rfl⟩ := List.mem_map.1 he
    obtain ⟨h1, h2⟩ := hl j hj
    obtain ⟨m1, m2, m3, m4⟩ := mem_jAll.1 h1
    obtain ⟨n1, n2⟩ := joint_near hk m2 m3 m1.1 m4
    simp only [Bool.or_eq_true, Bool.and_eq_true, decide_eq_true_eq]
    refine .inr ⟨⟨⟨m2.1, ?_⟩, m3⟩, led_one ⟨m2.1, ?_⟩ m3 (gN_iff.2 ⟨n1, ?_, ?_⟩)⟩
    · show j.a < _; omega
    · show j.a < _; omega
    · show highV H j.a ≤ h; omega
    · show highV H j.b ≤ h; omega) x y hc
  simp only [Bool.or_eq_true, Bool.and_eq_true, decide_eq_true_eq] at this
  rcases this with rfl | ⟨_, h3⟩
  · exact led_refl hx
  · exact h3
theorem led_con {R : Int} (hk : SOK R C H) {h : Int} (hh : h ≤ 30) {l : List Jt} (hl : ∀ j ∈ jAll C H 0, j.h ≤ h → j ∈ l) {x y : Int} (hx : 0 ≤ x ∧ x < (H.length : Int) + 1) (hy : 0 ≤ y ∧ y < (H.length : Int) + 1) (hc : ledN C H h x y = true) : conF (l.map Jt.e) x y = true := by
  obtain ⟨d, hd⟩ := (led_rch hx hy).1 hc
  have hE := con_eq (l.map Jt.e)
  have key : ∀ (d : Nat) (x : Int), (0 ≤ x ∧ x < (H.length : Int) + 1) → rchB (gN C H h) (H.length + 1) y d x = true → conF (l.map Jt.e) x y = true := by
    intro d
    induction d with
    | zero => intro x _ hr; rw [show x = y from of_decide_eq_true hr]; exact hE.r y
    | succ d ih =>
      intro x hx hr
      obtain ⟨k, hkr, e1, e2⟩ := rch_step.1 hr
      obtain ⟨g1, g2, g3⟩ := gN_iff.1 e1
      refine hE.t _ _ _ ?_ (ih k hkr e2)
      have hne := near_ne g1 hk.c.1
      have hbx := high_bd hk (x := x) ⟨hx.1, by omega⟩
      have hbk := high_bd hk (x := k) ⟨hkr.1, by omega⟩
      by_cases hlt : x < k
      · have hj := near_joint hk hx hkr hlt g1
        have hm : (⟨x, k, max (highV H x) (highV H k)⟩ : Jt) ∈ l := hl _ (mem_jAll.2 ⟨⟨by show 0 ≤ max _ _; omega, by show max _ _ < 31; omega⟩, ⟨hx.1, by show x < _; omega⟩, hkr, hj⟩) (by show max _ _ ≤ h; omega)
        exact con_edge (List.mem_map.2 ⟨_, hm, rfl⟩)
      · rw [near_symm] at g1
        have hj := near_joint hk hkr hx (by omega) g1
        have hm : (⟨k, x, max (highV H k) (highV H x)⟩ : Jt) ∈ l := hl _ (mem_jAll.2 ⟨⟨by show 0 ≤ max _ _; omega, by show max _ _ < 31; omega⟩, ⟨hkr.1, by show k < _; omega⟩, hx, hj⟩) (by show max _ _ ≤ h; omega)
        exact hE.s _ _ (con_edge (List.mem_map.2 ⟨_, hm, rfl⟩))
  exact key d x hx hd
theorem betw_joint {R : Int} (hk : SOK R C H) {pre post : List Jt} {j : Jt} (hl : jAll C H 0 = pre ++ j :: post) {a b : Int} (ha : 0 ≤ a ∧ a < (H.length : Int) + 1) (hb : 0 ≤ b ∧ b < (H.length : Int) + 1) (hno : conF (pre.map Jt.e) a b = false) (hyes : conF ((pre ++ [j]).map Jt.e) a b = true) : betwV C H a b = j.h := by
  have hs := jAll_sorted (C := C) (H := H)
  rw [hl, List.pairwise_append] at hs
  have hjm : j ∈ jAll C H 0 := by rw [hl]; simp
  obtain ⟨m1, m2, m3, m4⟩ := mem_jAll.1 hjm
  have hled : ledN C H j.h a b = true := con_led hk (fun i hi => by
    rcases List.mem_append.1 hi with hi | hi
    · have hlt := hs.2.2 i hi j (by simp)
      exact ⟨by rw [hl]; exact List.mem_append_left _ hi, by rcases hlt with q | q <;> omega⟩
    · rw [List.mem_singleton.1 hi]; exact ⟨hjm, Int.le_refl _⟩) ha hb hyes
  have hnot : ∀ k, k < j.h → ledN C H k a b = false := fun k hkj => by
    cases hq : ledN C H k a b with
    | false => rfl
    | true =>
      have := led_con hk (h := k) (by omega) (l := pre) (fun i hi hik => by
        rw [hl] at hi
        rcases List.mem_append.1 hi with hi | hi
        · exact hi
        · exfalso
          rcases List.mem_cons.1 hi with rfl | hi
          · omega
          · have := (List.pairwise_cons.1 hs.2.1).1 i hi
            rcases this with q | q <;> omega) ha hb hq
      rw [hno] at this; cases this
  have hne : a ≠ b := by rintro rfl; rw [(con_eq _).r a] at hno; cases hno
  have hha : highV H a ≤ j.h := by
    obtain ⟨d, hd⟩ := (led_rch ha hb).1 hled
    cases d with
    | zero => exact absurd (of_decide_eq_true hd) hne
    | succ d => obtain ⟨k, _, e1, _⟩ := rch_step.1 hd; exact (gN_iff.1 e1).2.1
  by_cases h30 : j.h < 30
  · exact betw_found hha h30 (fun k _ hk' => hnot k hk') hled
  · rw [betw_none fun k _ hk' => hnot k (by omega)]; omega
theorem betw_same {R : Int} (hk : SOK R C H) {a : Int} (ha : 0 ≤ a ∧ a < (H.length : Int) + 1) : betwV C H a a = highV H a := by
  have hb := high_bd hk (x := a) ⟨ha.1, by omega⟩
  by_cases h30 : highV H a < 30
  · exact betw_found (Int.le_refl _) h30 (fun k _ _ => by omega) (led_refl ha)
  · rw [betw_none fun k _ _ => by omega]; omega
end
end Go.Proofs.YtdpdlplkngggoaaGreatDoor

namespace Go.Proofs.YtdpdlplkngggoaaGreatDoor
open Go.Wk
set_option linter.unusedVariables false
def kstepE (out : List Ends) (j : Jt) : List Ends := if conF out j.a j.b = true then out else out ++ [j.e]
theorem kru_ends (l : List Jt) : (kru l).map Jt.e = l.foldl kstepE [] := by
  induction l using snoc_ind with
  | h0 => rfl
  | hs l j ih =>
    rw [kru, List.foldl_append, List.foldl_append, ← ih]
    show (kstep (kru l) j).map Jt.e = kstepE ((kru l).map Jt.e) j
    rw [kstep, kstepE]
    split
    · rfl
    · rw [List.map_append]; rfl
def LabI (n : Int) (l : List Int) (out : List Ends) : Prop := (l.length : Int) = n + 1 ∧ ∀ x y, (0 ≤ x ∧ x ≤ n) → (0 ≤ y ∧ y ≤ n) → decide (ix 0 l x = ix 0 l y) = conF out x y
def RelI (l l' : List Int) (old new k : Int) : Prop := l'.length = l.length ∧ ∀ x, 0 ≤ x → x < (l.length : Int) → ix 0 l' x = if x < k ∧ ix 0 l x = old then new else ix 0 l x
section
variable {n : Int} {l l' : List Int} {out : List Ends}
theorem ix_rng {x : Int} (h : 0 ≤ x ∧ x < n) : ix 0 (rng 0 n) x = x := by
  rw [ix, rng, List.getD_eq_getElem?_getD, List.getElem?_map, List.getElem?_range (show x.toNat < (n - 0).toNat by omega)]
  show (0 : Int) + ((x.toNat : Nat) : Int) = x
  omega
theorem lab_start (h0 : 0 ≤ n) : LabI n (rng 0 (n + 1)) [] := by
  refine ⟨by have := rng_length (i := 0) (n := n + 1) (by omega); omega, fun x y hx hy => ?_⟩
  rw [ix_rng ⟨hx.1, by omega⟩, ix_rng ⟨hy.1, by omega⟩]; rfl
theorem rel_start {old new : Int} : RelI l l old new 0 := ⟨rfl, fun x h0 h1 => by rw [if_neg (by omega)]⟩
theorem rel_hit {old new k : Int} (h : RelI l l' old new k) (k0 : 0 ≤ k) (k1 : k < (l.length : Int)) (he : ix 0 l' k = old) : RelI l (l'.set k.toNat new) old new (k + 1) := by
  refine ⟨by rw [List.length_set]; exact h.1, fun x x0 x1 => ?_⟩
  rw [ix_set0 k0 (by rw [h.1]; exact k1) x0]
  have hk := h.2 k k0 k1
  rw [if_neg (by omega)] at hk
  by_cases e : x = k
  · subst e; rw [if_pos rfl, if_pos ⟨by omega, by rw [← hk]; exact he⟩]
  · rw [if_neg e, h.2 x x0 x1]
    by_cases e2 : x < k ∧ ix 0 l x = old
    · rw [if_pos e2, if_pos ⟨by omega, e2.2⟩]
    · rw [if_neg e2, if_neg (fun q => e2 ⟨by omega, q.2⟩)]
theorem rel_miss {old new k : Int} (h : RelI l l' old new k) (k0 : 0 ≤ k) (k1 : k < (l.length : Int)) (he : ¬ ix 0 l' k = old) : RelI l l' old new (k + 1) := by
  refine ⟨h.1, fun x x0 x1 => ?_⟩
  have hk := h.2 k k0 k1
  rw [if_neg (by omega)] at hk
  rw [h.2 x x0 x1]
  by_cases e2 : x < k ∧ ix 0 l x = old
  · rw [if_pos e2, if_pos ⟨by omega, e2.2⟩]
  · rw [if_neg e2, if_neg (fun q => ?_)]
    by_cases e : x = k
    · subst e; exact he (by rw [hk]; exact q.2)
    · exact e2 ⟨by omega, q.2⟩
theorem lab_add {a b k : Int} (hL : LabI n l out) (ha : 0 ≤ a ∧ a ≤ n) (hb : 0 ≤ b ∧ b ≤ n) (h : RelI l l' (ix 0 l a) (ix 0 l b) k) (hk : (l.length : Int) ≤ k) (hne : ix 0 l a ≠ ix 0 l b) : LabI n l' (out ++ [(a, b)]) := by
  have hlen := hL.1
  refine ⟨by rw [h.1]; exact hlen, fun x y hx hy => ?_⟩
  have val : ∀ z, (0 ≤ z ∧ z ≤ n) → ix 0 l' z = if ix 0 l z = ix 0 l a then ix 0 l b else ix 0 l z := fun z hz => by
    rw [h.2 z hz.1 (by omega)]
    by_cases e : ix 0 l z = ix 0 l a
    · rw [if_pos ⟨by omega, e⟩, if_pos e]
    · rw [if_neg (fun q => e q.2), if_neg e]
  rw [con_snoc, Bool.eq_iff_iff, add_iff, decide_eq_true_eq, val x hx, val y hy]
  have c := fun p q hp hq => hL.2 p q hp hq
  have cd : ∀ p q, (0 ≤ p ∧ p ≤ n) → (0 ≤ q ∧ q ≤ n) → (conF out p q = true ↔ ix 0 l p = ix 0 l q) := fun p q hp hq => by rw [← c p q hp hq, decide_eq_true_eq]
  rw [cd x y hx hy, cd x a hx ha, cd b y hb hy, cd x b hx hb, cd a y ha hy]
  by_cases ex : ix 0 l x = ix 0 l a
  · rw [if_pos ex]
    by_cases ey : ix 0 l y = ix 0 l a
    · rw [if_pos ey]
      exact ⟨fun _ => .inl (ex.trans ey.symm), fun _ => rfl⟩
    · rw [if_neg ey]
      refine ⟨fun q => .inr (.inl ⟨ex, q⟩), fun q => ?_⟩
      rcases q with q | ⟨_, q⟩ | ⟨_, q⟩
      · exact absurd (q.symm.trans ex) ey
      · exact q
      · exact absurd q.symm ey
  · rw [if_neg ex]
    by_cases ey : ix 0 l y = ix 0 l a
    · rw [if_pos ey]
      refine ⟨fun q => .inr (.inr ⟨q, ey.symm⟩), fun q => ?_⟩
      rcases q with q | ⟨q, _⟩ | ⟨q, _⟩
      · exact absurd (q.trans ey) ex
      · exact absurd q ex
      · exact q
    · rw [if_neg ey]
      refine ⟨.inl, fun q => ?_⟩
      rcases q with q | ⟨q, _⟩ | ⟨_, q⟩
      · exact q
      · exact absurd q ex
      · exact absurd q.symm ey
theorem lab_con {a b : Int} (hL : LabI n l out) (ha : 0 ≤ a ∧ a ≤ n) (hb : 0 ≤ b ∧ b ≤ n) : conF out a b = true ↔ ix 0 l a = ix 0 l b := by rw [← hL.2 a b ha hb, decide_eq_true_eq]
end
section
variable {C : Int} {H : List Int} {out : List Ends}
end
end Go.Proofs.YtdpdlplkngggoaaGreatDoor

namespace Go.Proofs.YtdpdlplkngggoaaGreatDoor
open Go.Wk
set_option linter.unusedVariables false
def nbP (C n a k : Int) : List Int := (rng 0 k).flatMap (nbK C n a)
section
variable {C n a : Int}
theorem nbP_next {k : Int} (h0 : 0 ≤ k) : nbP C n a (k + 1) = nbP C n a k ++ nbK C n a k := by rw [nbP, rng_snoc h0, List.flatMap_append]; simp [nbP]
theorem nb_skip {k : Int} (h0 : 0 ≤ k) (h : outB C n a k = true) : nbP C n a (k + 1) = nbP C n a k := by rw [nbP_next h0, nbK, if_pos h, List.append_nil]
theorem nb_take {k : Int} (h0 : 0 ≤ k) (h : outB C n a k = false) : nbP C n a (k + 1) = nbP C n a k ++ [ix 0 (four C a) k] := by rw [nbP_next h0, nbK, if_neg (by rw [h]; decide)]
theorem nbP_pre {k : Int} : ∀ (d : Nat), (4 - k).toNat = d → 0 ≤ k → k ≤ 4 → nbP C n a k <+: nbP C n a 4 := by
  intro d
  induction d generalizing k with
  | zero => intro h h0 h4; rw [show k = 4 by omega]; exact List.prefix_refl _
  | succ d ih =>
    intro h h0 h4
    have := ih (k := k + 1) (by omega) (by omega) (by omega)
    rw [nbP_next h0] at this
    exact (List.prefix_append _ _).trans this
theorem nbP_all (hC : 1 ≤ C) : nbP C n a 4 = nbV C n a := nbL_eq hC
theorem nb_pre (hC : 1 ≤ C) {k : Int} (h0 : 0 ≤ k) (h4 : k < 4) (h : outB C n a k = false) : (nbP C n a k ++ [ix 0 (four C a) k]) <+: nbW C n a := by
  rw [← nb_take h0 h, nbW, ← nbP_all hC]
  exact (nbP_pre _ rfl (by omega) (by omega)).trans (List.prefix_append _ _)
theorem nb_river (hC : 1 ≤ C) (h : n - C ≤ a) : nbW C n a = nbP C n a 4 ++ [n] := by rw [nbW, nbP_all hC, riverL, if_pos h]
theorem nb_dry (hC : 1 ≤ C) (h : ¬ n - C ≤ a) : nbW C n a = nbP C n a 4 := by rw [nbW, nbP_all hC, riverL, if_neg h, List.append_nil]
theorem outB_iff {k : Int} : outB C n a k = true ↔ ((ix 0 [a - C, a - 1, a + 1, a + C] k < 0 ∨ n ≤ ix 0 [a - C, a - 1, a + 1, a + C] k) ∨ (k = 1 ∧ a % C = 0)) ∨ (k = 2 ∧ ix 0 [a - C, a - 1, a + 1, a + C] k % C = 0) := by
  rw [outB, four]
  simp only [Bool.or_eq_true, Bool.and_eq_true, decide_eq_true_eq]
theorem outB_no {k : Int} (h : ¬ (((ix 0 [a - C, a - 1, a + 1, a + C] k < 0 ∨ n ≤ ix 0 [a - C, a - 1, a + 1, a + C] k) ∨ (k = 1 ∧ a % C = 0)) ∨ (k = 2 ∧ ix 0 [a - C, a - 1, a + 1, a + C] k % C = 0))) : outB C n a k = false := by
  cases hq : outB C n a k with
  | false => rfl
  | true => exact absurd (outB_iff.1 hq) h
end
end Go.Proofs.YtdpdlplkngggoaaGreatDoor

namespace Go.Proofs.YtdpdlplkngggoaaGreatDoor
open Go.Wk
set_option linter.unusedVariables false
def DB (dn : List Bool) (x : Int) : Bool := ix false dn x
theorem ix_setB {l : List Bool} {i p : Int} {v : Bool} (h0 : 0 ≤ i) (h1 : i < l.length) (hp : 0 ≤ p) : ix false (l.set i.toNat v) p = if p = i then v else ix false l p := by
  simp only [ix, List.getD_eq_getElem?_getD, List.getElem?_set]
  by_cases e : p = i
  · subst e; rw [if_pos rfl, if_pos rfl, if_pos (by omega)]; rfl
  · rw [if_neg (by omega), if_neg e]
section
variable {C : Int} {H : List Int} {dn : List Bool} {y : List Int}
theorem db_zero {m : Nat} {x : Int} : DB (List.replicate m false) x = false := by
  rw [DB, ix, List.getD_eq_getElem?_getD, List.getElem?_replicate]; split <;> rfl
def iniV (C : Int) (H : List Int) (x : Int) : Int := if lastB C H x = true then ix 0 H x else 31
def IniI (C : Int) (H : List Int) (k : Int) (y : List Int) : Prop := ∀ x, 0 ≤ x → x < k → ix 0 y x = iniV C H x
theorem ini_step {k : Int} {v : Int} (h : IniI C H k y) (h0 : 0 ≤ k) (h1 : k < y.length) (hv : v = iniV C H k) : IniI C H (k + 1) (y.set k.toNat v) := fun x x0 x1 => by
  rw [ix_set0 h0 h1 x0]
  by_cases e : x = k
  · rw [if_pos e, e]; exact hv
  · rw [if_neg e]; exact h x x0 (by omega)
theorem ini_step2 {k : Int} {v u : Int} (h : IniI C H k y) (h0 : 0 ≤ k) (h1 : k < y.length) (hv : v = iniV C H k) : IniI C H (k + 1) ((y.set k.toNat u).set k.toNat v) := by
  rw [List.set_set]; exact ini_step h h0 h1 hv
theorem dj_ini (hok : ShoreOK C H) (h : IniI C H H.length y) (hd : ∀ x, DB dn x = false) : DjI C H (DB dn) (ix 0 y) := dj_start hok (fun x _ => hd x) (fun x hx => h x hx.1 hx.2)
def cntD (H : List Int) (dn : List Bool) : Nat := (rng 0 H.length).countP (DB dn)
theorem cnt_zero (h : ∀ x, DB dn x = false) : cntD H dn = 0 := by
  rw [cntD, List.countP_eq_zero]; intro x _; rw [h x]; decide
theorem cnt_all (h : (H.length : Int) ≤ (cntD H dn : Int)) : ∀ x, inR H x → DB dn x = true := by
  have hl := rng_length (i := 0) (n := H.length) (by omega)
  have he : (rng 0 H.length).countP (DB dn) = (rng 0 H.length).length := by
    have := List.countP_le_length (p := DB dn) (l := rng 0 H.length)
    rw [cntD] at h
    omega
  intro x hx
  exact List.countP_eq_length.1 he x (rng_mem.2 hx)
theorem cnt_some (h : (cntD H dn : Int) < H.length) : ∃ x, inR H x ∧ DB dn x = false := by
  refine Classical.byContradiction fun hn => ?_
  have : (rng 0 H.length).countP (DB dn) = (rng 0 H.length).length := List.countP_eq_length.2 fun x hx => by
    cases hq : DB dn x with
    | true => rfl
    | false => exact absurd ⟨x, rng_mem.1 hx, hq⟩ hn
  have hl := rng_length (i := 0) (n := H.length) (by omega)
  rw [cntD] at h
  omega
theorem db_set {z : Int} (hz : 0 ≤ z ∧ z < (dn.length : Int)) {x : Int} (hx : 0 ≤ x) : DB (dn.set z.toNat true) x = (DB dn x || decide (x = z)) := by
  rw [DB, ix_setB hz.1 hz.2 hx]
  by_cases e : x = z
  · rw [if_pos e, decide_eq_true e, Bool.or_true]
  · rw [if_neg e, decide_eq_false e, Bool.or_false]; rfl
theorem cnt_set {z : Int} (hz : inR H z) (hl : (dn.length : Int) = H.length) (hd : DB dn z = false) : cntD H (dn.set z.toNat true) = cntD H dn + 1 := by
  have key : ∀ (l : List Int), l.Pairwise (· < ·) → (∀ x ∈ l, 0 ≤ x) → l.countP (DB (dn.set z.toNat true)) = l.countP (DB dn) + if z ∈ l then 1 else 0 := by
    intro l
    induction l with
    | nil => intro _ _; rfl
    | cons a l ih =>
      intro hs h0
      obtain ⟨h1, h2⟩ := List.pairwise_cons.1 hs
      have ih := ih h2 fun x hx => h0 x (List.mem_cons_of_mem _ hx)
      rw [List.countP_cons, List.countP_cons, ih, db_set ⟨hz.1, by rw [hl]; exact hz.2⟩ (h0 a (by simp))]
      by_cases e : a = z
      · subst e
        have hnm : ¬ a ∈ l := fun hm => by have := h1 a hm; omega
        rw [hd, decide_eq_true rfl, if_neg hnm, if_pos (List.mem_cons_self)]; simp
      · rw [decide_eq_false e, Bool.or_false]
        by_cases hm : z ∈ l
        · rw [if_pos hm, if_pos (List.mem_cons_of_mem _ hm)]; omega
        · rw [if_neg hm, if_neg (fun q => (List.mem_cons.1 q).elim (fun q => e q.symm) hm)]; omega
  have := key (rng 0 H.length) (rng_asc _ _) fun x hx => (rng_mem.1 hx).1
  rw [if_pos (rng_mem.2 hz)] at this
  exact this
def NxI (dn : List Bool) (y : List Int) (k nx : Int) : Prop := (nx = -1 ∧ ∀ x, 0 ≤ x → x < k → DB dn x = true) ∨ ((0 ≤ nx ∧ nx < k) ∧ DB dn nx = false ∧ ∀ x, 0 ≤ x → x < k → DB dn x = false → ix 0 y nx ≤ ix 0 y x)
theorem nx_start : NxI dn y 0 (-1) := .inl ⟨rfl, fun x x0 x1 => by omega⟩
theorem nx_new {k nx : Int} (h : NxI dn y k nx) (h0 : 0 ≤ k) (hd : DB dn k = false) (hc : nx < 0 ∨ ix 0 y k < ix 0 y nx) : NxI dn y (k + 1) k := by
  refine .inr ⟨⟨h0, by omega⟩, hd, fun x x0 x1 hx => ?_⟩
  by_cases e : x = k
  · rw [e]; exact Int.le_refl _
  · rcases h with ⟨_, h⟩ | ⟨h1, _, h2⟩
    · have := h x x0 (by omega); rw [hx] at this; cases this
    · have := h2 x x0 (by omega) hx
      rcases hc with hc | hc <;> omega
theorem nx_old {k nx : Int} (h : NxI dn y k nx) (h0 : 0 ≤ k) (hc : DB dn k = true ∨ ¬ (nx < 0 ∨ ix 0 y k < ix 0 y nx)) : NxI dn y (k + 1) nx := by
  rcases h with ⟨h1, h2⟩ | ⟨h1, h2, h3⟩
  · refine .inl ⟨h1, fun x x0 x1 => ?_⟩
    by_cases e : x = k
    · rw [e]; rcases hc with hc | hc
      · exact hc
      · omega
    · exact h2 x x0 (by omega)
  · refine .inr ⟨⟨h1.1, by omega⟩, h2, fun x x0 x1 hx => ?_⟩
    by_cases e : x = k
    · subst e
      rcases hc with hc | hc
      · rw [hx] at hc; cases hc
      · omega
    · exact h3 x x0 (by omega) hx
theorem nx_end {nx : Int} (h : NxI dn y H.length nx) (hex : ∃ x, inR H x ∧ DB dn x = false) : inR H nx ∧ DB dn nx = false ∧ ∀ x, inR H x → DB dn x = false → ix 0 y nx ≤ ix 0 y x := by
  rcases h with ⟨_, h⟩ | ⟨h1, h2, h3⟩
  · obtain ⟨x, hx, hd⟩ := hex
    rw [h x hx.1 hx.2] at hd; cases hd
  · exact ⟨h1, h2, fun x hx hd => h3 x hx.1 hx.2 hd⟩
theorem djl_look (hok : ShoreOK C H) {D : Int → Bool} {z m : Int} {ls : List Int} (hz : inR H z) (hI : DjP C H D z (fun x => x ∈ ls) (ix 0 y)) (hl : (H.length : Int) ≤ y.length) (hm : inR H m) (hadj : adjB C z m = true) :
    DjP C H D z (fun x => x ∈ ls ++ [m]) (ix 0 (y.set m.toNat (min (ix 0 y m) (max (ix 0 y z) (ix 0 H m))))) := by
  have := dj_look hok hz hI hm (by rw [adj_symm]; exact hadj) (o' := ix 0 (y.set m.toNat (min (ix 0 y m) (max (ix 0 y z) (ix 0 H m))))) (fun x hx => by rw [ix_set0 hm.1 (by have := hm.2; omega) hx.1])
  obtain ⟨i1, i2, i3, i4, i5⟩ := this
  exact ⟨i1, i2, i3, i4, fun x hx hd hne hxz hp => i5 x hx hd hne hxz (by rcases List.mem_append.1 hp with q | q; exact .inl q; exact .inr (List.mem_singleton.1 q))⟩
theorem djl_river {D : Int → Bool} {z m : Int} {ls : List Int} (hI : DjP C H D z (fun x => x ∈ ls) (ix 0 y)) (hm : (H.length : Int) ≤ m) : DjP C H D z (fun x => x ∈ ls ++ [m]) (ix 0 y) := by
  obtain ⟨i1, i2, i3, i4, i5⟩ := hI
  exact ⟨i1, i2, i3, i4, fun x hx hd hne hxz hp => i5 x hx hd hne hxz (by
    rcases List.mem_append.1 hp with q | q
    · exact q
    · have := hx.2; rw [List.mem_singleton.1 q] at this; omega)⟩
theorem djl_open (hok : ShoreOK C H) (hI : DjI C H (DB dn) (ix 0 y)) {z : Int} (hz : inR H z) (hd : DB dn z = false) (hmin : ∀ x, inR H x → DB dn x = false → ix 0 y z ≤ ix 0 y x) : DjP C H (DB dn) z (fun x => x ∈ ([] : List Int)) (ix 0 y) := by
  obtain ⟨i1, i2, i3, i4, i5⟩ := dj_open hok hI hz hd hmin
  exact ⟨i1, i2, i3, i4, fun x _ _ _ _ hp => nomatch hp⟩
theorem djl_close {z : Int} (hz : inR H z) (hl : (dn.length : Int) = H.length) (hI : DjP C H (DB dn) z (fun x => x ∈ nbW C H.length z) (ix 0 y)) : DjI C H (DB (dn.set z.toNat true)) (ix 0 y) :=
  dj_close hz hI (fun x hx hxz => mem_nbW.2 (.inl ⟨hx, by rw [adj_symm]; exact hxz⟩)) (fun x hx => db_set ⟨hz.1, by rw [hl]; exact hz.2⟩ hx.1)
theorem mem_pre {ls L : List Int} {m : Int} (h : (ls ++ [m]) <+: L) : m ∈ L := by
  obtain ⟨t, rfl⟩ := h; simp
theorem take_map {f : Int → Int} {y : List Int} {n : Int} (h0 : 0 ≤ n) (hl : n ≤ y.length) (h : ∀ x, 0 ≤ x → x < n → ix 0 y x = f x) : y.take n.toNat = (rng 0 n).map f := by
  refine List.ext_getElem (by have := rng_length h0; simp; omega) fun i h1 h2 => ?_
  have hi : (i : Int) < n := by simp at h1; omega
  have hyl : i < y.length := by omega
  have e := h i (by omega) hi
  have hr := ix_rng (n := n) (x := (i : Int)) ⟨by omega, hi⟩
  rw [ix, Int.toNat_natCast, List.getD_eq_getElem?_getD, List.getElem?_eq_getElem (show i < y.length by omega)] at e
  rw [ix, Int.toNat_natCast, List.getD_eq_getElem?_getD, List.getElem?_eq_getElem (show i < (rng 0 n).length by simpa using h2)] at hr
  rw [List.getElem_take, List.getElem_map]
  have e' : y[i] = f i := e
  have hlr : i < (rng 0 n).length := by simpa using h2
  have hr' : (rng 0 n)[i]'hlr = (i : Int) := hr
  rw [hr', e']
theorem kn_in {f : Int → Int} {y : List Int} {n : Int} (hl : n ≤ y.length) (h : ∀ x, 0 ≤ x → x < n → ix 0 y x = f x) (hb : ∀ x, 0 ≤ x → x < n → 0 ≤ f x ∧ f x ≤ 1000) : ∀ x ∈ y.take n.toNat, InK .i64 x := by
  intro x hx
  obtain ⟨i, hi, e⟩ := List.mem_iff_getElem.1 hx
  rw [List.getElem_take] at e
  have hi' : (i : Int) < n := by simp at hi; omega
  have e2 := h i (by omega) hi'
  rw [ix, Int.toNat_natCast, List.getD_eq_getElem?_getD, List.getElem?_eq_getElem (show i < y.length by omega)] at e2
  have e3 : y[i] = f i := e2
  have := hb i (by omega) hi'
  exact in_i64 (by omega) (by omega)
end
end Go.Proofs.YtdpdlplkngggoaaGreatDoor
namespace Go.Proofs.YtdpdlplkngggoaaGreatDoor
open Go.Wk
def ZT (n : Int) (y : List Int) : Prop := ∀ x, n ≤ x → ix 0 y x = 0
theorem zt_zero {n : Int} {m : Nat} : ZT n (List.replicate m 0) := fun x _ => by
  rw [ix, List.getD_eq_getElem?_getD, List.getElem?_replicate]; split <;> rfl
theorem zt_set {n i v : Int} {y : List Int} (h : ZT n y) (h0 : 0 ≤ i) (h1 : i < n) : ZT n (y.set i.toNat v) := fun x hx => by
  have := h x hx
  rw [ix, List.getD_eq_getElem?_getD, List.getElem?_set, if_neg (by omega)]
  rwa [ix, List.getD_eq_getElem?_getD] at this
theorem rng_get {i : Int} (h0 : 0 ≤ i) {n : Int} (h1 : i < n) : (rng 0 n)[i.toNat]? = some i := by
  rw [rng, List.getElem?_map, List.getElem?_range (by omega)]; simp; omega
end Go.Proofs.YtdpdlplkngggoaaGreatDoor

namespace Go.Proofs.YtdpdlplkngggoaaGreatDoor
open Go.Wk
set_option linter.unusedVariables false
def cmpJ (x y : (Int × Int) × Int) : Int := if x.2 ≠ y.2 then x.2 - y.2 else cmpL [x.1.1, x.1.2] [y.1.1, y.1.2]
def encJ (x : (Int × Int) × Int) : List Value := [.int .i64 x.1.1, .int .i64 x.1.2, .int .i64 x.2]
def jnB (x : (Int × Int) × Int) : Prop := (0 ≤ x.1.1 ∧ x.1.1 < 100) ∧ (0 ≤ x.1.2 ∧ x.1.2 < 100) ∧ (0 ≤ x.2 ∧ x.2 < 100)
section
variable {xs ys : List Int} {k : Int}
theorem cmpl_next (h0 : 0 ≤ k) (c0 : k < xs.length) (c1 : k < ys.length) (h : cmpL (xs.drop k.toNat) (ys.drop k.toNat) = cmpL xs ys) (h2 : cmpI (ix 0 xs k) (ix 0 ys k) = 0) :
    cmpL (xs.drop (k + 1).toNat) (ys.drop (k + 1).toNat) = cmpL xs ys := by
  rw [drop_ix (d := 0) h0 c0, drop_ix (d := 0) h0 c1, cmpL, if_neg (by omega)] at h
  exact h
theorem cmpl_here (h0 : 0 ≤ k) (c0 : k < xs.length) (c1 : k < ys.length) (h : cmpL (xs.drop k.toNat) (ys.drop k.toNat) = cmpL xs ys) (h2 : cmpI (ix 0 xs k) (ix 0 ys k) ≠ 0) :
    cmpL xs ys = cmpI (ix 0 xs k) (ix 0 ys k) := by
  rw [drop_ix (d := 0) h0 c0, drop_ix (d := 0) h0 c1, cmpL, if_pos h2] at h
  exact h.symm
theorem cmpl_long (h0 : 0 ≤ k) (c0 : k < xs.length) (c1 : (ys.length : Int) ≤ k) (h : cmpL (xs.drop k.toNat) (ys.drop k.toNat) = cmpL xs ys) : cmpL xs ys = 1 := by
  rw [drop_ix (d := 0) h0 c0, drop_end c1] at h; exact h.symm
theorem cmpl_short (h0 : 0 ≤ k) (c0 : (xs.length : Int) ≤ k) (h : cmpL (xs.drop k.toNat) (ys.drop k.toNat) = cmpL xs ys) (c1 : k < ys.length) : cmpL xs ys = -1 := by
  rw [drop_end c0, drop_ix (d := 0) h0 c1] at h; exact h.symm
theorem cmpl_same (h0 : 0 ≤ k) (c0 : (xs.length : Int) ≤ k) (h : cmpL (xs.drop k.toNat) (ys.drop k.toNat) = cmpL xs ys) (c1 : (ys.length : Int) ≤ k) : cmpL xs ys = 0 := by
  rw [drop_end c0, drop_end c1] at h; exact h.symm
end
end Go.Proofs.YtdpdlplkngggoaaGreatDoor
namespace Go.Proofs.YtdpdlplkngggoaaGreatDoor
def jLt (x y : (Int × Int) × Int) : Prop := x.2 < y.2 ∨ x.2 = y.2 ∧ (x.1.1 < y.1.1 ∨ x.1.1 = y.1.1 ∧ x.1.2 < y.1.2)
theorem cmpJ_lt {x y : (Int × Int) × Int} : cmpJ x y < 0 ↔ jLt x y := by
  unfold cmpJ jLt cmpL cmpI
  simp only [cmpL, cmpI]
  (repeat' split) <;> omega
end Go.Proofs.YtdpdlplkngggoaaGreatDoor

namespace Go.Wk
open Go.RowKit Go.Lib

theorem wpIn_scope_straight {F : Fence} {m : Nat} {P : Program} {Q : Exit → Act → World → Prop} {a : Act} {w : World} {c : Code} (h : c.wpIn F m P (Exit.noGoto Q) a w) : (Code.scope c).wpIn F m P Q a w := by
  intro b k cs hro hb hr
  have s0 : StepsIn (Machine.fenced P F) P (lone (b.atR a (.code (.scope c) :: k)) cs w) (lone (b.atR a (.code c :: .inScope c :: k)) cs w) := .one (fenced_calm hb hr rfl) (step_lone_go (by simp [stepG, stepG.exec, Frame.atR]))
  obtain ⟨e, a₁, w₁, hq, harr⟩ := h b (.inScope c :: k) cs hro hb hr
  cases e with
  | normal => exact ⟨.normal, a₁, w₁, hq, StepsIn.trans s0 (StepsIn.trans harr (.one (fenced_calm hb hr rfl) (step_lone_go (by simp [stepG, stepG.exec, Frame.atR]))))⟩
  | exit id => exact ⟨.exit id, a₁, w₁, hq, fun k' hk => StepsIn.trans s0 (harr.1 k' (by simp [exitTo, hk])), fun hro hk => let ⟨k₁, h1, h2⟩ := harr.2 hro (by simp [exitTo, hk]); ⟨k₁, h1, StepsIn.trans s0 h2⟩⟩
  | goto l => exact hq.elim
  | ret => exact ⟨_, a₁, w₁, hq, .of_steps s0 harr⟩
  | panic ch => exact ⟨_, a₁, w₁, hq, .of_steps s0 harr⟩
  | outgrown => exact ⟨_, a₁, w₁, hq, .of_steps s0 harr⟩
theorem W.scope {P : Program} {n : Nat} {kn kr : Cont} {ke : List (Nat × Cont)} {σ : Fr} {w : World} {c : Code} (h : W P n c kn kr ke σ w) : W P n (.scope c) kn kr ke σ w :=
  fun T hT r ds m => wpIn_scope_straight (wpIn_mono (h T hT r ds m) fun e _ _ q => by cases e <;> exact q)

def runeAt (s : ByteArray) (p : Int) : Int := ((Utf8.decode s p.toNat).1 : Nat)
def runeW (s : ByteArray) (p : Int) : Int := ((Utf8.decode s p.toNat).2 : Nat)

theorem get_tab (s : ByteArray) (i : Nat) : (((s.get! i).toNat : Nat) : Int) = tabAt s (i : Int) := by
  rw [tabAt]
  simp only [Int.toNat_natCast, ByteArray.get!, List.getD_eq_getElem?_getD]
  congr 2
  by_cases h : i < s.data.size
  · rw [getElem!_pos s.data i h, Array.getElem?_toList, Array.getElem?_eq_getElem h]; rfl
  · rw [getElem!_neg s.data i h, Array.getElem?_toList, Array.getElem?_eq_none (by omega)]; rfl
theorem tab_le (s : ByteArray) (p : Int) : 0 ≤ tabAt s p ∧ tabAt s p ≤ 255 := tabAt_bd s p
def dec5 (b0 b1 b2 b3 : Nat) (c1 c2 c3 : Bool) : Nat × Nat :=
  if b0 < 128 then (b0, 1)
  else if (b0 / 32 == 6 && c1) = true then (if 128 ≤ (b0 % 32) * 64 + b1 % 64 then ((b0 % 32) * 64 + b1 % 64, 2) else (65533, 1))
  else if (b0 / 16 == 14 && c1 && c2) = true then (if (2048 ≤ (b0 % 16) * 4096 + (b1 % 64) * 64 + b2 % 64) ∧ Utf8.valid ((b0 % 16) * 4096 + (b1 % 64) * 64 + b2 % 64 : Nat) = true then ((b0 % 16) * 4096 + (b1 % 64) * 64 + b2 % 64, 3) else (65533, 1))
  else if (b0 / 8 == 30 && c1 && c2 && c3) = true then (if (65536 ≤ (b0 % 8) * 262144 + (b1 % 64) * 4096 + (b2 % 64) * 64 + b3 % 64) ∧ Utf8.valid ((b0 % 8) * 262144 + (b1 % 64) * 4096 + (b2 % 64) * 64 + b3 % 64 : Nat) = true then ((b0 % 8) * 262144 + (b1 % 64) * 4096 + (b2 % 64) * 64 + b3 % 64, 4) else (65533, 1))
  else (65533, 1)
theorem dec5_cases (b0 b1 b2 b3 : Nat) (c1 c2 c3 : Bool) (h0 : b0 < 256) : (b0 < 128 ∧ dec5 b0 b1 b2 b3 c1 c2 c3 = (b0, 1)) ∨ (128 ≤ b0 ∧ 128 ≤ (dec5 b0 b1 b2 b3 c1 c2 c3).1 ∧ (dec5 b0 b1 b2 b3 c1 c2 c3).1 ≤ 1114111 ∧ (dec5 b0 b1 b2 b3 c1 c2 c3).2 ≤ 4) := by
  have hv : ∀ c : Nat, Utf8.valid (c : Int) = true → c ≤ 1114111 := fun c hc => by
    simp only [Utf8.valid, Bool.and_eq_true, Bool.or_eq_true, decide_eq_true_eq] at hc
    omega
  have hr : (128 ≤ 65533 ∧ 65533 ≤ 1114111 ∧ 1 ≤ 4) := by decide
  by_cases h : b0 < 128
  · left; exact ⟨h, by rw [dec5, if_pos h]⟩
  · right
    refine ⟨by omega, ?_⟩
    rw [dec5, if_neg h]
    by_cases h1 : (b0 / 32 == 6 && c1) = true
    · rw [if_pos h1]
      by_cases g : 128 ≤ (b0 % 32) * 64 + b1 % 64
      · rw [if_pos g]
        exact ⟨g, by show _ ≤ 1114111; omega, by show 2 ≤ 4; omega⟩
      · rw [if_neg g]; exact hr
    · rw [if_neg h1]
      by_cases h2 : (b0 / 16 == 14 && c1 && c2) = true
      · rw [if_pos h2]
        by_cases g : (2048 ≤ (b0 % 16) * 4096 + (b1 % 64) * 64 + b2 % 64) ∧ Utf8.valid ((b0 % 16) * 4096 + (b1 % 64) * 64 + b2 % 64 : Nat) = true
        · rw [if_pos g]
          exact ⟨by show 128 ≤ _; omega, hv _ g.2, by show 3 ≤ 4; omega⟩
        · rw [if_neg g]; exact hr
      · rw [if_neg h2]
        by_cases h3 : (b0 / 8 == 30 && c1 && c2 && c3) = true
        · rw [if_pos h3]
          by_cases g : (65536 ≤ (b0 % 8) * 262144 + (b1 % 64) * 4096 + (b2 % 64) * 64 + b3 % 64) ∧ Utf8.valid ((b0 % 8) * 262144 + (b1 % 64) * 4096 + (b2 % 64) * 64 + b3 % 64 : Nat) = true
          · rw [if_pos g]
            exact ⟨by show 128 ≤ _; omega, hv _ g.2, by show 4 ≤ 4; omega⟩
          · rw [if_neg g]; exact hr
        · rw [if_neg h3]; exact hr
theorem decode_dec5 (s : ByteArray) (i : Nat) : Utf8.decode s i = dec5 (s.get! i).toNat (s.get! (i + 1)).toNat (s.get! (i + 2)).toNat (s.get! (i + 3)).toNat (decide (i + 1 < s.size) && (s.get! (i + 1)).toNat / 64 == 2) (decide (i + 2 < s.size) && (s.get! (i + 2)).toNat / 64 == 2) (decide (i + 3 < s.size) && (s.get! (i + 3)).toNat / 64 == 2) := by
  simp only [Utf8.decode, dec5, Utf8.runeError, Bool.and_eq_true, decide_eq_true_eq, ge_iff_le, Nat.add_zero]
theorem decode_cases (s : ByteArray) (i : Nat) : (tabAt s i < 128 ∧ Utf8.decode s i = ((tabAt s i).toNat, 1)) ∨ (128 ≤ tabAt s i ∧ 128 ≤ (Utf8.decode s i).1 ∧ (Utf8.decode s i).1 ≤ 1114111 ∧ (Utf8.decode s i).2 ≤ 4) := by
  have h0 := get_tab s i
  have hb := tab_le s i
  rw [decode_dec5]
  rcases dec5_cases (s.get! i).toNat (s.get! (i + 1)).toNat (s.get! (i + 2)).toNat (s.get! (i + 3)).toNat (decide (i + 1 < s.size) && (s.get! (i + 1)).toNat / 64 == 2) (decide (i + 2 < s.size) && (s.get! (i + 2)).toNat / 64 == 2) (decide (i + 3 < s.size) && (s.get! (i + 3)).toNat / 64 == 2) (by omega) with ⟨h1, h2⟩ | ⟨h1, h2⟩
  · left; exact ⟨by omega, by rw [h2, ← h0]; rfl⟩
  · right; exact ⟨by omega, h2⟩
theorem runeAt_ascii {s : ByteArray} {p : Int} (h0 : 0 ≤ p) (h : tabAt s p < 128) : runeAt s p = tabAt s p ∧ runeW s p = 1 := by
  have e : ((p.toNat : Nat) : Int) = p := Int.toNat_of_nonneg h0
  have := decode_cases s p.toNat
  have hb := tab_le s p
  rw [e] at this
  rcases this with ⟨_, h2⟩ | ⟨h1, _⟩
  · rw [runeAt, runeW, h2]; exact ⟨by omega, rfl⟩
  · omega
theorem runeAt_other {s : ByteArray} {p : Int} (h0 : 0 ≤ p) (h : 128 ≤ tabAt s p) : 128 ≤ runeAt s p := by
  have e : ((p.toNat : Nat) : Int) = p := Int.toNat_of_nonneg h0
  have := decode_cases s p.toNat
  rw [e] at this
  rcases this with ⟨h1, _⟩ | ⟨_, h1, _⟩
  · omega
  · rw [runeAt]; omega
theorem runeAt_bd (s : ByteArray) (p : Int) : 0 ≤ runeAt s p ∧ runeAt s p ≤ 1114111 := by
  have := decode_cases s p.toNat
  have hb := tab_le s (p.toNat : Int)
  rw [runeAt]
  rcases this with ⟨h1, h2⟩ | ⟨_, _, h1, _⟩
  · rw [h2]; show 0 ≤ (((tabAt s p.toNat).toNat : Nat) : Int) ∧ _; omega
  · omega
theorem encode_last {r : Int} (h : 128 ≤ r) : 2 ≤ (Utf8.encode r).size ∧ (Utf8.encode r).size ≤ 4 ∧ 128 ≤ tabAt (Utf8.encode r) ((Utf8.encode r).size - 1 : Int) := by
  have hc : ∀ c : Nat, 128 ≤ c → c < 2097152 → 2 ≤ (if c < 0x80 then (⟨#[UInt8.ofNat c]⟩ : ByteArray) else if c < 0x800 then ⟨#[UInt8.ofNat (0xC0 + c / 64), UInt8.ofNat (0x80 + c % 64)]⟩ else if c < 0x10000 then ⟨#[UInt8.ofNat (0xE0 + c / 4096), UInt8.ofNat (0x80 + c / 64 % 64), UInt8.ofNat (0x80 + c % 64)]⟩ else ⟨#[UInt8.ofNat (0xF0 + c / 262144), UInt8.ofNat (0x80 + c / 4096 % 64), UInt8.ofNat (0x80 + c / 64 % 64), UInt8.ofNat (0x80 + c % 64)]⟩).size ∧ (if c < 0x80 then (⟨#[UInt8.ofNat c]⟩ : ByteArray) else if c < 0x800 then ⟨#[UInt8.ofNat (0xC0 + c / 64), UInt8.ofNat (0x80 + c % 64)]⟩ else if c < 0x10000 then ⟨#[UInt8.ofNat (0xE0 + c / 4096), UInt8.ofNat (0x80 + c / 64 % 64), UInt8.ofNat (0x80 + c % 64)]⟩ else ⟨#[UInt8.ofNat (0xF0 + c / 262144), UInt8.ofNat (0x80 + c / 4096 % 64), UInt8.ofNat (0x80 + c / 64 % 64), UInt8.ofNat (0x80 + c % 64)]⟩).size ≤ 4 ∧
      128 ≤ tabAt (if c < 0x80 then (⟨#[UInt8.ofNat c]⟩ : ByteArray) else if c < 0x800 then ⟨#[UInt8.ofNat (0xC0 + c / 64), UInt8.ofNat (0x80 + c % 64)]⟩ else if c < 0x10000 then ⟨#[UInt8.ofNat (0xE0 + c / 4096), UInt8.ofNat (0x80 + c / 64 % 64), UInt8.ofNat (0x80 + c % 64)]⟩ else ⟨#[UInt8.ofNat (0xF0 + c / 262144), UInt8.ofNat (0x80 + c / 4096 % 64), UInt8.ofNat (0x80 + c / 64 % 64), UInt8.ofNat (0x80 + c % 64)]⟩) (((if c < 0x80 then (⟨#[UInt8.ofNat c]⟩ : ByteArray) else if c < 0x800 then ⟨#[UInt8.ofNat (0xC0 + c / 64), UInt8.ofNat (0x80 + c % 64)]⟩ else if c < 0x10000 then ⟨#[UInt8.ofNat (0xE0 + c / 4096), UInt8.ofNat (0x80 + c / 64 % 64), UInt8.ofNat (0x80 + c % 64)]⟩ else ⟨#[UInt8.ofNat (0xF0 + c / 262144), UInt8.ofNat (0x80 + c / 4096 % 64), UInt8.ofNat (0x80 + c / 64 % 64), UInt8.ofNat (0x80 + c % 64)]⟩).size : Nat) - 1 : Int) := by
    intro c h1 h2
    have hm : ∀ u : Nat, 128 ≤ u → u < 256 → (128 : Int) ≤ ((UInt8.ofNat u).toNat : Nat) := fun u h3 h4 => by
      rw [UInt8.toNat_ofNat']; omega
    have hb := hm (0x80 + c % 64) (by omega) (by omega)
    rw [if_neg (by omega)]
    split
    · exact ⟨Nat.le_refl 2, Nat.le_add_right 2 2, hb⟩
    · split
      · exact ⟨Nat.le_add_right 2 1, Nat.le_add_right 3 1, hb⟩
      · exact ⟨Nat.le_add_right 2 2, Nat.le_refl 4, hb⟩
  simp only [Utf8.encode]
  refine hc _ ?_ ?_
  · split <;> first | omega | decide
  · split
    · rename_i hv
      simp only [Utf8.valid, Bool.and_eq_true, Bool.or_eq_true, decide_eq_true_eq] at hv
      omega
    · decide

section
variable {P : Program} {n : Nat} {w w0 w' : World} {O : List (Option Nat)} {obs : List Ob} {ops : Array Oper} {rest : List Oper} {k : Cont} {d : Tmp} {ty : TypeId} {pos : String} {af : Array Edge}
  {l : List (Nat × Value)} {σ0 σ : Fr} {T T' : TypeId} {x y z lo hi mx : Operand}

theorem rd_convRS {s dd : TypeId} {r : Int} (hx : ev σ x = .int .i32 r) (hs : P.underlying s = some (.int .i32)) (hd : P.underlying dd = some .string) :
    Rd P σ (.convert s dd x) ty w (.string (Utf8.encode r)) :=
  Rd.of fun w' => by
    simp [xop, execOp, hx, convert, run_underlying hs, run_underlying hd, Conv.intToString]
theorem Wx.rangeS {s : ByteArray} (hS : St w0 O w obs) (hx : ev (look l σ0) x = .string s) (hu : P.underlying T = some .string) (hd : Nat.ble (d + 1) n = true)
    (h : ∀ g w', Ext w w' → St w0 O w' (.raw g (.stringIter s 0) :: obs) → Wx P n ops false rest k (look ((d, .pointer (some ⟨g, 0, none⟩)) :: l) σ0) w') :
    Wx P n ops false (⟨some d, .range T x, ty, pos, af, none⟩ :: rest) k (look l σ0) w := by
  have he : Ext w (w.iter s 0) := (Below.refl _ _).alloc (Nat.le_refl _) _
  refine Wx.val (v := .pointer (some ⟨w.heap.size, 0, none⟩)) (w' := w.iter s 0) ?_ hd (h w.heap.size _ he (hS.push he _ (fun b hb => by simp [Ob.blk] at hb; omega) (fun F _ => ⟨hS.bel.size, World.iter_heap w s 0⟩)))
  simp [xop, execOp, hx, run_range_string w T s hu]
theorem Wx.nextS {s : ByteArray} {g : Nat} {p : Nat} (hS : St w0 O w obs) (i : Nat) (hi : obs[i]? = some (.raw g (.stringIter s p))) (hx : ev (look l σ0) x = .pointer (some ⟨g, 0, none⟩)) (hd : Nat.ble (d + 1) n = true)
    (h1 : (p : Int) < s.size → ∀ w', w.heap.size ≤ w'.heap.size → St w0 O w' (obs.set i (.raw g (.stringIter s (p + (Utf8.decode s p).2)))) → Wx P n ops false rest k (look ((d, .tuple #[.bool true, .int .i64 p, .int .i32 (Utf8.decode s p).1]) :: l) σ0) w')
    (h2 : ¬ (p : Int) < s.size → Wx P n ops false rest k (look ((d, .tuple #[.bool false]) :: l) σ0) w) :
    Wx P n ops false (⟨some d, .next x true, ty, pos, af, none⟩ :: rest) k (look l σ0) w := by
  have hb := hS.get i hi
  by_cases hp : p < s.size
  · refine Wx.val (v := .tuple #[.bool true, .int .i64 p, .int .i32 (Utf8.decode s p).1]) (w' := w.iterAt g s (p + (Utf8.decode s p).2)) ?_ hd (h1 (by omega) _ (by rw [iterAt_size]; exact Nat.le_refl _) ?_)
    · simp [xop, execOp, hx, run_next_any_at w g s p ty hb.2 hp]
    · refine hS.turn i hi rfl rfl rfl (by rw [iterAt_size]; exact Nat.le_refl _) (fun b _ hb' => iterAt_other w g b s _ (fun e => hb' (by rw [e]; rfl))) (fun b hb' => .inl hb') (fun b hb' => by rw [iterAt_size]; exact (Ob.ok_lt hb hb').2) (fun F _ => ⟨hb.1, iterAt_heap w g s p _ hb.2⟩)
  · refine Wx.val (v := .tuple #[.bool false]) (w' := w) ?_ hd (h2 (by omega))
    simp [xop, execOp, hx, run_next_end_at w g s p ty hb.2 hp]
end
end Go.Wk

namespace Go.Wk
open Go.RowKit Go.Lib
set_option linter.unusedVariables false

abbrev Tab := Int → Int → Int × Int
def cellT (T : Tab) (m : Nat) : Int := if m % 2 = 0 then (T (m / 26 : Nat) (m / 2 % 13 : Nat)).1 else (T (m / 26 : Nat) (m / 2 % 13 : Nat)).2
def tabC (s : ByteArray) (T : Tab) : List Value := .string s :: (List.range 338).map fun m => .int .i64 (cellT T m)
section
variable (s : ByteArray) (T : Tab) {i n : Int} (i0 : 0 ≤ i) (i1 : i < 13) (n0 : 0 ≤ n) (n1 : n < 13)
include i0 i1 n0 n1
end

section
variable {P : Program} {n : Nat} {σ : Fr} {w w0 : World} {O : List (Option Nat)} {obs : List Ob} {x : Operand} {ty T' : TypeId} {g : Nat} {e : TypeId} {s : ByteArray} {T : Tab} {i m : Int}
  (hb : ∀ w', Ext w w' → w'.heap[g]? = some (.cells (tabC s T).toArray e (0, 0)))
include hb
end

theorem St.shrink {w0 w : World} {O : List (Option Nat)} {obs : List Ob} {α : Type} {t : Ty α} {e : TypeId} {ys : List α} {g len c m : Nat} (hS : St w0 O w obs) (i : Nat) (hi : obs[i]? = some (.row t e (.slice (some ⟨g, 0, none⟩) len c) ys)) (hm : m ≤ ys.length) :
    St w0 O w (obs.set i (.row t e (.slice (some ⟨g, 0, none⟩) m c) (ys.take m))) := by
  obtain ⟨cs, hr, hR⟩ := hS.get i hi
  rcases hr.2 with ⟨h0, _⟩ | ⟨g', cap, cur, hv, q1, q2, q3, q4, q5, q6⟩
  · cases h0
  · simp only [Value.slice.injEq, Option.some.injEq, Addr.mk.injEq, and_true] at hv
    obtain ⟨rfl, rfl, rfl⟩ := hv
    have hcl : cs.length = ys.length * t.n := hr.1
    have hmn : m * t.n ≤ ys.length * t.n := Nat.mul_le_mul_right _ hm
    have hl : (ys.take m).length = m := by rw [List.length_take]; omega
    refine hS.turn (w' := w) i hi rfl rfl rfl (Nat.le_refl _) (fun _ _ _ => rfl) (fun b hb' => .inl hb') (fun b hb' => (Ob.ok_lt (hS.get i hi) hb').2) (fun F hM => ?_)
    refine ⟨cs.take (m * t.n), ⟨by rw [hl, List.length_take]; omega, .inr ⟨g, c, cur, by rw [hl], q1, q2, by rw [hl]; omega, q4, q5, ?_⟩⟩, (hR.mv hM).take m⟩
    rw [hl, ← q6, List.take_take, Nat.min_eq_left hmn]

end Go.Wk

namespace Go.Wk
open Go.RowKit Go.Lib
set_option linter.unusedVariables false

section
variable {P : Program} {n : Nat} {k : Cont} {σ σ0 : Fr} {w w0 : World} {O : List (Option Nat)} {obs : List Ob} {x : Operand} {ty T : TypeId} {l : List (Nat × Value)} {d : Tmp} {pos : String} {af : Array Edge} {ops : Array Oper} {rest : List Oper}

end
end Go.Wk

namespace Go.Wk
open Go.RowKit

abbrev ContD := List Nat → Cont
def mkD (D : Nat) : Deferred := { target := .collected D, args := #[] }
def marks (Ds : List Nat) : List Deferred := Ds.map mkD
def DOb (Ds : List Nat) : List Ob := Ds.map fun D => .raw D (.deferred (some []))
def findX (id : Nat) : List (Nat × ContD) → Option ContD
  | [] => none
  | (i, k) :: l => bif Nat.beq id i then some k else findX id l
def postM (n : Nat) (kn kr : ContD) (ke : List (Nat × ContD)) : Exit → Act → World → Prop
  | .normal, a, w => a.tmps.size = n ∧ ∃ Ds, a.defers = marks Ds ∧ kn Ds (fun i => a.tmps.getD i undef) w
  | .ret, a, w => a.tmps.size = n ∧ ∃ Ds, a.defers = marks Ds ∧ kr Ds (fun i => a.tmps.getD i undef) w
  | .exit id, a, w => a.tmps.size = n ∧ ∃ Ds, a.defers = marks Ds ∧ match findX id ke with
    | some k => k Ds (fun i => a.tmps.getD i undef) w
    | none => False
  | _, _, _ => False
def WD (P : Program) (n : Nat) (c : Code) (kn kr : ContD) (ke : List (Nat × ContD)) (Ds : List Nat) (σ : Fr) (w : World) : Prop :=
  ∀ T, AtF n σ T → ∀ m, c.wpIn Fence.wide m P (postM n kn kr ke) ⟨T, marks Ds⟩ w
theorem findX_map (Ds : List Nat) (id : Nat) : ∀ (ke : List (Nat × ContD)), findEx id (ke.map fun x => (x.1, x.2 Ds)) = (findX id ke).map fun k => k Ds
  | [] => rfl
  | (i, k) :: l => by
    simp only [List.map_cons, findEx, findX]
    cases Nat.beq id i with
    | true => rfl
    | false => exact findX_map Ds id l
section
variable {P : Program} {n : Nat} {kn kr : ContD} {ke : List (Nat × ContD)} {Ds : List Nat} {σ : Fr} {w : World}
theorem WD.ofW {c : Code} (h : W P n c (kn Ds) (kr Ds) (ke.map fun x => (x.1, x.2 Ds)) σ w) : WD P n c kn kr ke Ds σ w := by
  intro T hT m
  refine wpIn_mono (F := Fence.wide) (h T hT none (marks Ds) m) ?_
  intro e a w hq
  cases e with
  | normal => exact ⟨hq.1, Ds, hq.2.1, hq.2.2⟩
  | ret => exact ⟨hq.1, Ds, hq.2.1, hq.2.2⟩
  | exit id =>
    obtain ⟨h1, h2, h3⟩ := hq
    refine ⟨h1, Ds, h2, ?_⟩
    rw [findX_map] at h3
    cases hf : findX id ke with
    | none => rw [hf] at h3; exact h3
    | some k => rw [hf] at h3; exact h3
  | goto l => exact hq
  | panic ch => exact hq
  | outgrown => exact hq
theorem WD.seq {a b : Code} (h : WD P n a (fun Ds σ w => WD P n b kn kr ke Ds σ w) kr ke Ds σ w) : WD P n (.seq a b) kn kr ke Ds σ w := by
  intro T hT m
  refine wpIn_seq (wpIn_mono (h T hT m) ?_)
  intro e a' w' hq
  cases e with
  | normal =>
    obtain ⟨h1, Ds', h2, h3⟩ := hq
    have := h3 a'.tmps (AtF.self h1) m
    cases a'
    simp only at h2
    subst h2
    exact this
  | exit id => exact hq
  | goto l => exact hq
  | ret => exact hq
  | panic ch => exact hq
  | outgrown => exact hq
theorem WD.block {id : Nat} {c : Code} (h : WD P n c kn kr ((id, kn) :: ke) Ds σ w) : WD P n (.block id c) kn kr ke Ds σ w := by
  intro T hT m
  refine wpIn_block (wpIn_mono (h T hT m) ?_)
  intro e a' w' hq
  cases e with
  | exit id' =>
    simp only [postM, findX] at hq
    simp only [Exit.inBlock]
    by_cases hid : id' = id
    · subst hid
      have hb : Nat.beq id' id' = true := Nat.beq_refl id'
      rw [if_pos rfl]
      rw [hb] at hq
      exact hq
    · have hb : Nat.beq id' id = false := by
        cases hq' : Nat.beq id' id with
        | false => rfl
        | true => exact absurd (Nat.eq_of_beq_eq_true hq') hid
      rw [if_neg hid]
      rw [hb] at hq
      exact hq
  | normal => exact hq
  | goto l => exact hq
  | ret => exact hq
  | panic ch => exact hq
  | outgrown => exact hq
theorem WD.loop {X : Type _} (D : List Nat) (f : X → List (Nat × Value)) (I : X → World → Prop) (m : X → Nat) (dso : X → List Nat) (x0 : X) {c : Code} (h0 : Has (f x0) σ) (hDs : dso x0 = Ds) (hI : I x0 w)
    (round : ∀ (x : X) (u : Fr) (w : World), I x w → WD P n c (fun Ds' σ' w' => ∃ x', m x' < m x ∧ dso x' = Ds' ∧ I x' w' ∧ Agr D (f x') σ σ') kr ke (dso x) (look (f x) (hav D u σ)) w) :
    WD P n (.loop c) kn kr ke Ds σ w := by
  intro T hT rm
  subst hDs
  refine wpIn_loop_ghost (fun k a w => ∃ x, m x = k ∧ I x w ∧ a.tmps.size = n ∧ a.defers = marks (dso x) ∧ Agr D (f x) σ (fun i => a.tmps.getD i undef)) (m x0) ?_ ?_
  · exact ⟨x0, rfl, hI, hT.1, rfl, by simp only; rw [hT.fun_eq]; exact Agr.start h0⟩
  · rintro k a w ⟨x, rfl, hI, h1, h2, hA⟩
    have hr := round x (fun i => a.tmps.getD i undef) w hI
    have hF : AtF n (look (f x) (hav D (fun i => a.tmps.getD i undef) σ)) a.tmps := ⟨h1, fun i => congrFun hA.eq i⟩
    have := hr a.tmps hF rm
    cases a
    simp only at h2
    subst h2
    refine wpIn_mono this ?_
    intro e a' w' hq
    cases e with
    | normal =>
      obtain ⟨g1, Ds', g2, x', g3, rfl, g4, g5⟩ := hq
      exact ⟨m x', g3, x', rfl, g4, g1, g2, g5⟩
    | exit id => exact hq
    | goto l => exact hq
    | ret => exact hq
    | panic ch => exact hq
    | outgrown => exact hq
end

/-! ### Blocks that hold no cells -/
section
variable {w0 w : World} {O : List (Option Nat)} {obs a b : List Ob}
theorem ext_alloc (w : World) (o : Obj) : Ext w (w.alloc o) := (Below.refl _ _).alloc (Nat.le_refl _) _
theorem St.newRaw (h : St w0 O w obs) (o : Obj) : St w0 O (w.alloc o) (.raw w.heap.size o :: obs) := by
  have hx := ext_alloc w o
  have hM : Mv (fb obs O) (fb (.raw w.heap.size o :: obs) O) w (w.alloc o) := by
    refine ⟨hx.size, fun b hb hO => ⟨hx.block b hb, fun hm => ?_⟩⟩
    simp only [fb, List.map_cons, List.cons_append, Ob.blk] at hm
    rcases List.mem_cons.1 hm with hm | hm
    · injection hm with hm
      omega
    · exact hO hm
  refine ⟨Ext.trans h.bel hx, h.olt, fun ob ho => ?_, List.Pairwise.cons (fun ob ho => ?_) h.sep⟩
  · rcases List.mem_cons.1 ho with rfl | ho
    · exact ⟨h.bel.size, World.alloc_heap_new w o⟩
    · exact Ob.ok_ext (h.ok ob ho) hx hM
  · right
    intro hb
    have := (Ob.ok_lt (h.ok ob ho) (b := w.heap.size) hb.symm).2
    omega
theorem St.putRaw {g : Nat} {o : Obj} (h : St w0 O w obs) (i : Nat) (hi : obs[i]? = some (.raw g o)) (o' : Obj) : St w0 O (w.putObj g o') (obs.set i (.raw g o')) := by
  have hob := h.get i hi
  have hlt := (Array.getElem?_eq_some_iff.1 hob.2).1
  refine h.turn (ob' := .raw g o') i hi rfl rfl rfl (by rw [World.putObj_size]; exact Nat.le_refl _) (fun b hb hne => World.putObj_heap_other (fun e => hne (by rw [e]; rfl))) (fun b hb => .inl hb) (fun b hb => ?_) (fun F hM => ⟨hob.1, World.putObj_heap_same hlt⟩)
  rw [World.putObj_size]
  simp only [Ob.blk, Option.some.injEq] at hb
  subst hb
  exact hlt
theorem St.putMid {g : Nat} {o : Obj} (h : St w0 O w (a ++ .raw g o :: b)) (o' : Obj) : St w0 O (w.putObj g o') (a ++ .raw g o' :: b) := by
  have := h.putRaw (g := g) (o := o) a.length (by simp) o'
  rwa [List.set_append_right _ _ (Nat.le_refl _), Nat.sub_self, List.set_cons_zero] at this
theorem St.getMid {ob : Ob} (h : St w0 O w (a ++ ob :: b)) : ob.ok w0.heap.size (fb (a ++ ob :: b) O) w := h.ok ob (by simp)
theorem St.dropMid {ob : Ob} (h : St w0 O w (a ++ ob :: b)) : St w0 O w (a ++ b) := h.sub (List.Sublist.append (List.Sublist.refl a) (List.sublist_cons_self ob b))
end

/-! ### The function's end -/
theorem leaves_marks {P : Program} {fn : Func} {tmps : Array Value} {R : Ending → World → Prop} {m : Nat} {w0 : World} {O : List (Option Nat)} {obs : List Ob}
    (hR : ∀ w2, St w0 O w2 obs → ∃ v, (results fn tmps).run P w2 = .ok v w2 ∧ R (.returned v) w2) : ∀ (Ds : List Nat) (w : World), St w0 O w (obs ++ DOb Ds) → LeavesInM Fence.wide m P fn tmps R (marks Ds) .returning w
  | [], w, h => by
    rw [show DOb [] = [] from rfl, List.append_nil] at h
    exact hR w h
  | D :: Ds, w, h => by
    have hD := (h.getMid (ob := .raw D (.deferred (some [])))).2
    refine ⟨fun e => (nomatch e), .inl ⟨D, _, rfl, run_takeDeferred hD, leaves_marks hR Ds _ ?_⟩⟩
    exact (h.putMid (.deferred none)).dropMid
abbrev EndM (P : Program) (rs : Array ResultVar) (w0 : World) (O : List (Option Nat)) (Q : Value → World → Prop) : ContD := fun Ds σ w' =>
  ∃ obs, St w0 O w' (obs ++ DOb Ds) ∧ ∀ w2, St w0 O w2 obs → ∃ v, ResIs P rs σ w2 v ∧ Q v w2
theorem enterM {P : Program} {n : Nat} {w : World} {f : FuncId} {fn : Func} {c : Code} {vs : List Value} {rs : Array ResultVar} {Q : Value → World → Prop} (w0 : World) (O : List (Option Nat)) (hf : P.funcs[f]? = some fn) (hb : fn.body = some c) (hn : fn.ntmps = n) (hrs : fn.results = rs)
    (hle : Nat.ble vs.length n = true) (h : WD P n c (EndM P rs w0 O Q) (EndM P rs w0 O Q) [] [] (look (argl 0 vs) und) w) : Calls P f vs.toArray w (Bk Q) := by
  have hle' := Nat.le_of_ble_eq_true hle
  refine (callsIn_wide (n := 0)).1 (callsIn_of_wp_marks hf hb trivial ?_ rfl)
  have hF : AtF n (look (argl 0 vs) und) (vs.toArray ++ Array.replicate (fn.ntmps - vs.toArray.size) undef) := by
    refine ⟨by simp; omega, fun i => ?_⟩
    rw [look_argl]
    simp only [Nat.zero_le, if_true, Nat.sub_zero]
    simp only [Array.getD_eq_getD_getElem?, Array.getElem?_append]
    split
    · simp
    · rename_i hi
      simp only [List.size_toArray] at hi ⊢
      rw [Array.getElem?_replicate]
      rw [List.getElem?_eq_none (by omega)]
      split <;> rfl
  refine wpIn_mono (h _ hF 0) ?_
  have key : ∀ (a : Act) (w' : World), (a.tmps.size = n ∧ ∃ Ds, a.defers = marks Ds ∧ EndM P rs w0 O Q Ds (fun i => a.tmps.getD i undef) w') → LeavesInM Fence.wide 0 P fn a.tmps (Bk Q) a.defers .returning w' := by
    rintro a w' ⟨h1, Ds, h2, obs, hS, h3⟩
    rw [h2]
    refine leaves_marks (fun w2 hS2 => ?_) Ds w' hS
    obtain ⟨v, hr, hQ⟩ := h3 w2 hS2
    exact ⟨v, hr fn hrs _ _ (AtF.self h1), v, rfl, hQ⟩
  intro e a w' hq
  cases e with
  | normal => exact key a w' hq
  | ret => exact key a w' hq
  | exit id => obtain ⟨_, _, _, hq⟩ := hq; exact hq.elim
  | goto l => exact hq.elim
  | panic ch => exact hq.elim
  | outgrown => exact hq.elim
theorem enterMR {P : Program} {n : Nat} {w : World} {O : List (Option Nat)} {f : FuncId} {fn : Func} {c : Code} {vs : List Value} {rs : Array ResultVar} {Q : Value → World → Prop} (hf : P.funcs[f]? = some fn) (hb : fn.body = some c) (hn : fn.ntmps = n) (hrs : fn.results = rs)
    (hle : Nat.ble vs.length n = true) (h : WD P n c (EndM P rs w O (fun v w' => Ext w w' ∧ Q v w')) (EndM P rs w O (fun v w' => Ext w w' ∧ Q v w')) [] [] (look (argl 0 vs) und) w) : Calls P f vs.toArray w (Ret w Q) := enterM (Q := fun v w' => Ext w w' ∧ Q v w') w O hf hb hn hrs hle h

/-! ### What an iterator promises -/
def YieldR (P : Program) (l : Nat) (m : Int) (w : World) (R : Bool → World → Prop) : Prop :=
  ∃ fn tmps assign body, (Instr.yield l #[.int .i64 m]).run P w = .ok (.round l fn tmps assign body) w ∧ ∀ k, RoundIn Fence.wide k P l fn tmps assign body w fun e w' => ∃ b, e = .returned (.bool b) ∧ R b w'
def EachY (P : Program) (l : Nat) (L : List Int) (Tl Tx : List Int → List Ob → Prop) (w0 : World) (O : List (Option Nat)) : Prop :=
  ∀ (ls : List Int) (m : Int) (pre ob : List Ob) (w : World), (ls ++ [m]) <+: L → Tl ls ob → St w0 O w (ob ++ pre) →
    YieldR P l m w fun b w' => ∃ ob', (b = true → Tl (ls ++ [m]) ob') ∧ (b = false → Tx (ls ++ [m]) ob') ∧ St w0 O w' (ob' ++ pre)
def Iter (P : Program) (gf : FuncId) (cs : List Value) (A : List Ob) (L : List Int) (w0 : World) (O : List (Option Nat)) : Prop :=
  ∀ (l : Nat) (Tl Tx : List Int → List Ob → Prop) (ob : List Ob) (w : World), EachY P l L Tl Tx w0 O → Tl [] ob → St w0 O w (A ++ ob) →
    Calls P gf (.func (.yield l) #[] #[] :: cs).toArray w (Bk fun _ w' => ∃ ob', (Tl L ob' ∨ ∃ ls, ls <+: L ∧ Tx ls ob') ∧ St w0 O w' (A ++ ob'))

def jumpC : Option Nat → Code
  | none => .ret
  | some id => .exit id

section
variable {P : Program} {n : Nat} {kn kr : ContD} {ke : List (Nat × ContD)} {Ds : List Nat} {σ : Fr} {w w0 : World} {O : List (Option Nat)}

theorem WD.range {tg p d idA : Nat} {ty : TypeId} {pos : String} {af : Array Edge} {body : Code} {gf : FuncId} {cs : List Value} {A ob : List Ob} (L : List Int) (Tl : List Int → List Ob → Prop) (Tx : Option Nat → List Int → List Ob → Prop) (ids : List Nat)
    (hg : σ tg = .func (.func gf) #[] cs.toArray) (hc : ∀ args w, (callFunc gf args).run P w = .ok (.enter gf args) w) (hp : Nat.ble (p + 1) n = true) (hd : Nat.ble (d + 1) n = true)
    (hIt : Iter P gf cs A L w0 O) (hS : St w0 O w (A ++ (ob ++ DOb Ds))) (h0 : Tl [] ob)
    (hbody : ∀ (ls : List Int) (m : Int) (pre ob : List Ob) (w : World), (ls ++ [m]) <+: L → Tl ls ob → St w0 O w (ob ++ pre) →
      W P n body (fun _ w' => ∃ ob', Tl (ls ++ [m]) ob' ∧ St w0 O w' (ob' ++ pre)) (fun _ w' => ∃ ob', Tx none (ls ++ [m]) ob' ∧ St w0 O w' (ob' ++ pre))
        (ids.map fun id => (id, fun _ w' => ∃ ob', Tx (some id) (ls ++ [m]) ob' ∧ St w0 O w' (ob' ++ pre))) (look [(d, .int .i64 m), (p, .int .i64 m)] σ) w)
    (hdone : ∀ ob' D w', Tl L ob' → St w0 O w' (ob' ++ DOb (D :: Ds)) → kn (D :: Ds) σ w')
    (hstop : ∀ x ls ob' D w', Tx x ls ob' → ls <+: L → St w0 O w' (ob' ++ DOb (D :: Ds)) → match x with
      | none => kr (D :: Ds) σ w'
      | some id => ∃ k, findX id ke = some k ∧ k (D :: Ds) σ w') :
    WD P n (.rangeFunc (.tmp tg) #[p] (.region idA #[⟨some d, .assign (.tmp p), ty, pos, af, none⟩] false) body) kn kr ke Ds σ w := by
  intro T hT m
  refine wpIn_rangeFunc ?_
  intro fn hfn
  obtain ⟨rec, hrec⟩ : ∃ rec : LoopState → Option Code → Loop, rec = fun st pe => { state := st, pending := pe, fn, tmps := T, params := #[p], assign := .region idA #[⟨some d, .assign (.tmp p), ty, pos, af, none⟩] false, body, defers := w.heap.size } := ⟨_, rfl⟩
  have hgT : (Act.mk T (marks Ds)).eval (.tmp tg) = .func (.func gf) #[] cs.toArray := by rw [hT.eval]; exact hg
  refine ⟨w.heap.size + 1, [{ target := .collected w.heap.size, args := #[] }], (w.alloc (.deferred (some []))).alloc (.loop (rec .ready none)), { target := .fn (.func gf) cs.toArray, args := #[.func (.yield (w.heap.size + 1)) #[] #[]] }, (w.alloc (.deferred (some []))).alloc (.loop (rec .ready none)), gf,
    #[.func (.yield (w.heap.size + 1)) #[] #[]] ++ cs.toArray, (w.alloc (.deferred (some []))).alloc (.loop (rec .ready none)), ?_, ?_, fun _ _ => trivial, ?_, fun hh => (nomatch hh), ?_⟩
  · rw [hrec]; exact run_enterLoop_outer _ _ _ _ _
  · simp only [resolve, hgT]
    simp [go_sem]
  · simp [invoke, go_sem, hc]
  obtain ⟨Tl', hTl'⟩ : ∃ T' : List Int → List Ob → Prop, T' = fun ls ob' => ∃ ob0, Tl ls ob0 ∧ ob' = ob0 ++ (.raw (w.heap.size + 1) (.loop (rec .ready none)) :: DOb (w.heap.size :: Ds)) := ⟨_, rfl⟩
  obtain ⟨Tx', hTx'⟩ : ∃ T' : List Int → List Ob → Prop, T' = fun ls ob' => ∃ x ob0, (Tx x ls ob0) ∧ ob' = ob0 ++ (.raw (w.heap.size + 1) (.loop (rec .done (some (jumpC x)))) :: DOb (w.heap.size :: Ds)) := ⟨_, rfl⟩
  have hS1 : St w0 O ((w.alloc (.deferred (some []))).alloc (.loop (rec .ready none))) (A ++ (ob ++ (.raw (w.heap.size + 1) (.loop (rec .ready none)) :: DOb (w.heap.size :: Ds)))) := by
    have h1 := (hS.newRaw (.deferred (some []))).newRaw (.loop (rec .ready none))
    rw [World.size_alloc] at h1
    refine h1.perm ?_
    have e : A ++ (ob ++ (Ob.raw (w.heap.size + 1) (.loop (rec .ready none)) :: DOb (w.heap.size :: Ds))) = (A ++ ob) ++ ([.raw (w.heap.size + 1) (.loop (rec .ready none)), .raw w.heap.size (.deferred (some []))] ++ DOb Ds) := by simp [DOb]
    rw [e, show Ob.raw (w.heap.size + 1) (.loop (rec .ready none)) :: Ob.raw w.heap.size (.deferred (some [])) :: (A ++ (ob ++ DOb Ds)) = [.raw (w.heap.size + 1) (.loop (rec .ready none)), .raw w.heap.size (.deferred (some []))] ++ ((A ++ ob) ++ DOb Ds) by simp]
    rw [← List.append_assoc, ← List.append_assoc]
    exact List.perm_append_comm.append_right _
  have hE : EachY P (w.heap.size + 1) L Tl' Tx' w0 O := by
    subst hTl' hTx'
    rintro ls x pre ob' w1 hpx ⟨ob0, hT0, rfl⟩ hS0
    rw [List.append_assoc, List.cons_append] at hS0
    have hl := (hS0.getMid (ob := .raw (w.heap.size + 1) (.loop (rec .ready none)))).2
    have hy := run_yield (P := P) (args := #[.int .i64 x]) hl (by rw [hrec]; rfl)
    refine ⟨_, _, _, _, hy, fun k => ?_⟩
    rw [hrec]
    refine roundIn_of_wpIn trivial ?_
    have hp' := Nat.le_of_ble_eq_true hp
    obtain ⟨T', hT', hF'⟩ := hT.put (some p) (.int .i64 x) hp []
    have hfold : (#[p].zip #[Value.int .i64 x]).foldl (fun tmps (q : Tmp × Value) => tmps.setIfInBounds q.1 q.2) T = T' := by
      have := congrArg Act.tmps hT'
      simpa [Act.put] using this
    have hfold2 : ((rec .ready none).params.zip #[Value.int .i64 x]).foldl (fun tmps (x : Tmp × Value) => match x with | (t, a) => tmps.setIfInBounds t a) (rec .ready none).tmps = T' := by
      rw [hrec]; exact hfold
    rw [hrec] at hfold2
    rw [hfold2]
    have hA : W P n (.region idA [⟨some d, .assign (.tmp p), ty, pos, af, none⟩].toArray false) (fun σ' w' => σ' = look [(d, .int .i64 x), (p, .int .i64 x)] σ ∧ w' = w1) (fun _ _ => False) [] (look [(p, .int .i64 x)] σ) w1 := by
      refine W.reg ?_ rfl
      refine Wx.rd (v := .int .i64 x) (fun w' _ => ?_) hd ?_
      · show (xop _ _ _).run P w' = _
        simp [xop, execOp, ev, look, Nat.beq_refl]
      · exact Wx.nil ⟨rfl, rfl⟩
    have hA2 := hA T' hF' (some (w.heap.size + 1)) [] k
    refine wpIn_mono hA2 ?_
    intro e a1 w1' hq
    cases e with
    | normal =>
      obtain ⟨q1, q2, q3, rfl⟩ := hq
      refine ⟨_, run_beginRound hl (by rw [hrec]), ?_⟩
      have hS2 := hS0.putMid (.loop { rec .ready none with state := .busy })
      have hB := hbody ls x _ ob0 _ hpx hT0 hS2
      have hB2 := hB a1.tmps ⟨q1, fun i => congrFun q3 i⟩ (some (w.heap.size + 1)) [] k
      obtain ⟨at1, ad1⟩ := a1
      simp only at q2
      subst q2
      refine wpIn_mono hB2 ?_
      have fin : ∀ (jump : Option Code) (ob3 : List Ob) (w3 : World), St w0 O w3 (ob3 ++ (.raw (w.heap.size + 1) (.loop { rec .ready none with state := .busy }) :: (DOb (w.heap.size :: Ds) ++ pre))) →
          ∃ w4, (Instr.endRound (w.heap.size + 1) jump).run P w3 = .ok (.bool jump.isNone) w4 ∧ St w0 O w4 (ob3 ++ (.raw (w.heap.size + 1) (.loop (rec (if jump.isNone then .ready else .done) jump)) :: (DOb (w.heap.size :: Ds) ++ pre))) := fun jump ob3 w3 h3 => by
        have hl3 := (h3.getMid (ob := .raw (w.heap.size + 1) (.loop { rec .ready none with state := .busy }))).2
        have := run_endRound (P := P) jump hl3
        refine ⟨_, this, ?_⟩
        have h4 := h3.putMid (.loop (rec (if jump.isNone then .ready else .done) jump))
        rw [hrec] at h4 ⊢
        exact h4
      intro e a3 w3 hp3
      cases e with
      | normal =>
        obtain ⟨_, _, ob3, g1, g2⟩ := hp3
        obtain ⟨w4, g3, g4⟩ := fin none ob3 w3 g2
        exact ⟨_, w4, g3, true, rfl, _, fun _ => ⟨ob3, g1, rfl⟩, fun h => (nomatch h), by rw [hrec] at g4; rw [List.append_assoc]; exact g4⟩
      | ret =>
        obtain ⟨_, _, ob3, g1, g2⟩ := hp3
        obtain ⟨w4, g3, g4⟩ := fin (some .ret) ob3 w3 g2
        exact ⟨_, w4, g3, false, rfl, _, fun h => (nomatch h), fun _ => ⟨none, ob3, g1, rfl⟩, by rw [hrec] at g4; rw [List.append_assoc]; exact g4⟩
      | exit id =>
        obtain ⟨_, _, g0⟩ := hp3
        have hfind : ∀ (ids : List Nat), findEx id (ids.map fun id => (id, fun (_ : Fr) w' => ∃ ob', Tx (some id) (ls ++ [x]) ob' ∧ St w0 O w' (ob' ++ (.raw (w.heap.size + 1) (.loop { rec .ready none with state := .busy }) :: (DOb (w.heap.size :: Ds) ++ pre))))) = none ∨
            findEx id (ids.map fun id => (id, fun (_ : Fr) w' => ∃ ob', Tx (some id) (ls ++ [x]) ob' ∧ St w0 O w' (ob' ++ (.raw (w.heap.size + 1) (.loop { rec .ready none with state := .busy }) :: (DOb (w.heap.size :: Ds) ++ pre))))) = some (fun _ w' => ∃ ob', Tx (some id) (ls ++ [x]) ob' ∧ St w0 O w' (ob' ++ (.raw (w.heap.size + 1) (.loop { rec .ready none with state := .busy }) :: (DOb (w.heap.size :: Ds) ++ pre)))) := by
          intro ids
          induction ids with
          | nil => exact .inl rfl
          | cons i ids ih =>
            simp only [List.map_cons, findEx]
            cases hb : Nat.beq id i with
            | true => rw [Nat.eq_of_beq_eq_true hb]; exact .inr rfl
            | false => exact ih
        rcases hfind ids with hf | hf
        · rw [hf] at g0; exact g0.elim
        · rw [hf] at g0
          obtain ⟨ob3, g1, g2⟩ := g0
          obtain ⟨w4, g3, g4⟩ := fin (some (.exit id)) ob3 w3 g2
          exact ⟨_, w4, g3, false, rfl, _, fun h => (nomatch h), fun _ => ⟨some id, ob3, g1, rfl⟩, by rw [hrec] at g4; rw [List.append_assoc]; exact g4⟩
      | goto t => exact hp3.elim
      | panic ch => exact hp3.elim
      | outgrown => exact hp3.elim
    | exit id => obtain ⟨_, _, hq⟩ := hq; exact hq.elim
    | ret => exact hq.2.2.elim
    | goto t => exact hq.elim
    | panic ch => exact hq.elim
    | outgrown => exact hq.elim
  have hcall := hIt (w.heap.size + 1) Tl' Tx' _ _ hE (by rw [hTl']; exact ⟨ob, h0, rfl⟩) hS1
  have hargs : #[Value.func (.yield (w.heap.size + 1)) #[] #[]] ++ cs.toArray = (Value.func (.yield (w.heap.size + 1)) #[] #[] :: cs).toArray := by simp
  rw [hargs]
  refine callsIn_wide.2 (Calls.mono hcall ?_)
  subst hTl' hTx'
  rintro e w3 ⟨v, rfl, ob', hob, hS3⟩
  have hnoA : ∀ {t : List Ob} {w3 : World}, St w0 O w3 (A ++ t) → St w0 O w3 t := fun h => h.sub (List.sublist_append_right _ _)
  rcases hob with ⟨ob0, hT0, rfl⟩ | ⟨ls, hpre, x, ob0, hT0, rfl⟩
  · have hS4 := hnoA hS3
    have hl := (hS4.getMid (ob := .raw (w.heap.size + 1) (.loop (rec .ready none)))).2
    have hr := run_endLoop (P := P) hl (by rw [hrec]; simp)
    refine ⟨none, _, by rw [hr, hrec], ?_⟩
    have hS5 := (hS4.putMid (.loop { rec .ready none with state := .exhausted })).dropMid
    rw [hrec] at hS5
    exact ⟨hT.1, w.heap.size :: Ds, rfl, by simp only; rw [hT.fun_eq]; exact hdone ob0 _ _ hT0 hS5⟩
  · have hS4 := hnoA hS3
    have hl := (hS4.getMid (ob := .raw (w.heap.size + 1) (.loop (rec .done (some (jumpC x)))))).2
    have hr := run_endLoop (P := P) hl (by rw [hrec]; simp)
    refine ⟨some (jumpC x), _, by rw [hr, hrec], ?_⟩
    have hS5 := (hS4.putMid (.loop { rec .done (some (jumpC x)) with state := .exhausted })).dropMid
    rw [hrec] at hS5
    have hst := hstop x ls ob0 _ _ hT0 hpre hS5
    cases x with
    | none => exact wpIn_ret ⟨hT.1, w.heap.size :: Ds, rfl, by simp only; rw [hT.fun_eq]; exact hst⟩
    | some id =>
      obtain ⟨k, hk, hst⟩ := hst
      exact wpIn_exit ⟨hT.1, w.heap.size :: Ds, rfl, by rw [hk]; simp only; rw [hT.fun_eq]; exact hst⟩
end
end Go.Wk

namespace Go.Wk
open Go.RowKit
section
variable {P : Program} {ops : Array Oper} {Q Q' : Exit → Act → World → Prop} {r : Option Nat} {m : Nat} {ds : List Deferred}
theorem wpList_ringA {r' : List Oper} (hQ : ∀ a w, Q .normal a w → wpListIn (ringF r) m P ops Q' r' (withD ds a) w) (hp : ∀ c a w, ¬ Q (.panic c) a w) (ho : ∀ a w, ¬ Q .outgrown a w) :
    ∀ (l : List Oper) (a : Act) (w : World), noDefer l = true → wpList P ops Q l a w → wpListIn (ringF r) m P ops Q' (l ++ r') (withD ds a) w := by
  intro l
  induction l with
  | nil => intro a w _ h; exact hQ a w h
  | cons o l ih =>
    intro a w hd h
    have hdo := noDefer_mem hd o (by simp)
    have hdl : noDefer l = true := by simp only [noDefer, Bool.and_eq_true] at hd; exact hd.2
    unfold wpList at h
    rw [List.cons_append]
    unfold wpListIn
    show if Region.wanted o (yielded ops a.tmps) = true then _ else _
    split
    · rename_i hw
      rw [if_pos hw] at h
      exact oper_ring hdo hp ho (fun a w hk => ih a w hdl hk) h
    · rename_i hw
      rw [if_neg hw] at h
      refine ⟨fun _ _ => trivial, ?_⟩
      rw [withD_put]
      exact ih _ _ hdl h
end
theorem W.regY {P : Program} {n : Nat} {kn kr : Cont} {ke : List (Nat × Cont)} {σ : Fr} {w : World} {id : Nat} (l1 : List Oper) {d t : Tmp} {x : Operand} {ats : Array TypeId} {ty : TypeId} {pos : String} {af : Array Edge} {l2 : List Oper}
    (hd : Nat.ble (d + 1) n = true)
    (h : Wx P n (l1 ++ ⟨some d, .call { callee := .value (.tmp t), args := #[x], argTypes := ats }, ty, pos, af, none⟩ :: l2).toArray false l1 (fun σ' w' => ∃ l i, σ' t = .func (.yield l) #[] #[] ∧ ev σ' x = .int .i64 i ∧
      YieldR P l i w' fun b w'' => Wx P n (l1 ++ ⟨some d, .call { callee := .value (.tmp t), args := #[x], argTypes := ats }, ty, pos, af, none⟩ :: l2).toArray false l2 kn (look [(d, .bool b)] σ') w'') σ w)
    (h1 : noDefer l1 = true := by rfl) (h2 : noDefer l2 = true := by rfl) :
    W P n (.region id (l1 ++ ⟨some d, .call { callee := .value (.tmp t), args := #[x], argTypes := ats }, ty, pos, af, none⟩ :: l2).toArray false) kn kr ke σ w := by
  intro T hT r ds m
  refine wpIn_region_lit ?_
  refine wpList_ringA (ds := ds) (fun a w' hq => ?_) post_panic post_out l1 ⟨T, []⟩ w h1 (h T hT)
  obtain ⟨g1, g2, l, i, e1, e2, fn, tmps, assign, body, hy, hR⟩ := hq
  obtain ⟨at1, ad1⟩ := a
  simp only at g2
  subst g2
  have hev : (withD ds (Act.mk at1 [])).eval = ev (fun i => at1.getD i undef) := by rw [withD_eval]; exact (AtF.self g1).eval []
  unfold wpListIn
  show if Region.wanted _ _ = true then _ else _
  rw [if_pos (show Region.wanted _ _ = true from rfl)]
  refine ⟨fun _ _ => trivial, ?_⟩
  rw [Oper.semAt_eq _ _ _ (fun c e => by cases e), hev, execOp_xop]
  have hrun : ∀ σ1 : Fr, ev σ1 (.tmp t) = .func (.yield l) #[] #[] → ev σ1 x = .int .i64 i → (xop (ev σ1) (.call { callee := .value (.tmp t), args := #[x], argTypes := ats }) ty).run P w' = .ok (.round l fn tmps assign body) w' := fun σ1 e1' e2' => by
    simp [xop, execOp, resolve, Deferred.ofValue, e1', e2', invoke, hy]
  dsimp only
  rw [hrun (fun i => at1.getD i undef) e1 e2]
  refine ⟨fun hh => (nomatch hh), ?_⟩
  refine RoundIn.mono (show RoundIn (ringF r) (m - 1) P l fn tmps assign body w' _ from hR (m - 1)) ?_
  rintro e w'' ⟨b, rfl, hb⟩
  obtain ⟨T', hT', hF⟩ := (AtF.self g1).put (some d) (.bool b) hd []
  have := hb T' hF
  show wpListIn _ _ _ _ _ l2 ((withD ds ⟨at1, []⟩).put (some d) (.bool b)) w''
  rw [withD_put, hT']
  exact wpList_ring (ds := ds) post_ring post_panic post_out l2 ⟨T', []⟩ w'' h2 this
theorem W.regYi {P : Program} {n : Nat} {kn kr : Cont} {ke : List (Nat × Cont)} {σ : Fr} {w : World} {id : Nat} {l : List Oper} (i : Nat) {d t : Tmp} {x : Operand} {ats : Array TypeId} {ty : TypeId} {pos : String} {af : Array Edge}
    (hi : l[i]? = some ⟨some d, .call { callee := .value (.tmp t), args := #[x], argTypes := ats }, ty, pos, af, none⟩) (hd : Nat.ble (d + 1) n = true)
    (h : Wx P n l.toArray false (l.take i) (fun σ' w' => ∃ y j, σ' t = .func (.yield y) #[] #[] ∧ ev σ' x = .int .i64 j ∧ YieldR P y j w' fun b w'' => Wx P n l.toArray false (l.drop (i + 1)) kn (look [(d, .bool b)] σ') w'') σ w)
    (h1 : noDefer l = true := by rfl) : W P n (.region id l.toArray false) kn kr ke σ w := by
  obtain ⟨hlt, he⟩ := List.getElem?_eq_some_iff.1 hi
  have e : l = l.take i ++ ⟨some d, .call { callee := .value (.tmp t), args := #[x], argTypes := ats }, ty, pos, af, none⟩ :: l.drop (i + 1) := by
    rw [← he, ← List.drop_eq_getElem_cons hlt, List.take_append_drop]
  have hnd : ∀ l' : List Oper, l'.Sublist l → noDefer l' = true := by
    intro l' hs
    have hm := noDefer_mem h1
    clear h e h1 he
    induction l' with
    | nil => rfl
    | cons o l' ih =>
      simp only [noDefer, Bool.and_eq_true]
      refine ⟨?_, ih ((List.sublist_cons_self o l').trans hs)⟩
      have := hm o (hs.subset (by simp))
      split
      · rename_i c hc; exact absurd hc (this c)
      · rfl
  have h2 := W.regY (id := id) (kr := kr) (ke := ke) (kn := kn) (l.take i) (l2 := l.drop (i + 1)) (t := t) (x := x) (ats := ats) (ty := ty) (pos := pos) (af := af) hd (by rw [← e]; exact h) (hnd _ (List.take_sublist i l)) (hnd _ (List.drop_sublist (i + 1) l))
  rw [← e] at h2
  exact h2
theorem YieldR.mono {P : Program} {l : Nat} {m : Int} {w : World} {R R' : Bool → World → Prop} (h : YieldR P l m w R) (hr : ∀ b w', R b w' → R' b w') : YieldR P l m w R' := by
  obtain ⟨fn, tmps, assign, body, h1, h2⟩ := h
  exact ⟨fn, tmps, assign, body, h1, fun k => (h2 k).mono fun e w' ⟨b, e1, hb⟩ => ⟨b, e1, hr b w' hb⟩⟩
end Go.Wk

namespace Go.Wk
open Go.RowKit
theorem St.swap {w0 w : World} {O : List (Option Nat)} {a b : List Ob} (h : St w0 O w (a ++ b)) : St w0 O w (b ++ a) := h.perm List.perm_append_comm
end Go.Wk

namespace Go.Wk
open Go.RowKit Go.Lib Go.Sort
set_option linter.unusedVariables false
variable {P : Program} {n : Nat} {kn kr : Cont} {ke : List (Nat × Cont)} {σ : Fr} {w : World}

def Wc (P : Program) (n : Nat) (ops : Array Oper) (C : World → Prop) (rest : List Oper) (k : Cont) (σ : Fr) : Prop :=
  ∀ T, AtF n σ T → wpQuiet P ops C (fun a' => a'.tmps.size = n ∧ a'.defers = [] ∧ ∀ w', C w' → k (fun i => a'.tmps.getD i undef) w') rest ⟨T, []⟩

theorem W.regionC {C : World → Prop} {id : Nat} {l : List Oper} (hm : P.follows .mixedOrders = true) (hd : noDefer l = true) (hB : Region.lexB .any l.toArray = true) (hC : C { w with drawn := w.drawn + 1 }) (h : Wc P n l.toArray C l kn σ) :
    W P n (.region id l.toArray true) kn kr ke σ w := by
  refine W.ofAny hm hd fun T hT => ?_
  simp only [Region.lexB, Bool.and_eq_true] at hB
  have hgo : wpQuiet P l.toArray C (fun a' => ∀ w', C w' → post n kn (fun _ _ => False) [] .normal a' w') l ⟨T, []⟩ → wpAny P .any l.toArray (post n kn (fun _ _ => False) []) l.toArray.size (Array.replicate l.toArray.size false) ⟨T, []⟩ { w with drawn := w.drawn + 1 } := fun hq => by
    refine wpAny_of_quiet (Q := fun a' => ∀ w', C w' → post n kn (fun _ _ => False) [] .normal a' w') (fun _ w' hw' h => h w' hw') _ _ _ _ hC ?_
    have := wpAnyQ_lex (C := C) (md := .any) hB.1 l 0 (Array.replicate l.toArray.size false) ⟨T, []⟩ (by simp) (by simpa using hB.2) hq
    simpa using this
  refine hgo ?_
  clear hgo
  have := h T hT
  generalize hQ : (fun a' : Act => a'.tmps.size = n ∧ a'.defers = [] ∧ ∀ w', C w' → kn (fun i => a'.tmps.getD i undef) w') = Q at this
  have hQ' : ∀ a', Q a' → ∀ w', C w' → post n kn (fun _ _ => False) [] .normal a' w' := by
    subst hQ
    exact fun a' h w' hw' => ⟨h.1, h.2.1, h.2.2 w' hw'⟩
  clear hQ h
  show wpQuiet P l.toArray C _ l ⟨T, []⟩
  revert this
  generalize hops : l.toArray = ops
  clear hops hB hd
  generalize (Act.mk T []) = a
  clear hT T
  revert a
  induction l with
  | nil => intro a h; exact hQ' a h
  | cons o l ih =>
    intro a h
    simp only [wpQuiet] at h ⊢
    split
    · rename_i hw
      rw [if_pos hw] at h
      exact Oper.quiet_mono (fun a h => ih a h) h
    · rename_i hw
      rw [if_neg hw] at h
      exact ih _ h

theorem Wc.nil {ops : Array Oper} {C : World → Prop} {k : Cont} (h : ∀ w', C w' → k σ w') : Wc P n ops C [] k σ :=
  fun T hT => wpQuiet_nil ⟨hT.1, rfl, fun w' hw' => by rw [hT.fun_eq]; exact h w' hw'⟩

theorem Wc.val {ops : Array Oper} {C : World → Prop} {rest : List Oper} {k : Cont} {d : Tmp} {op : Op} {ty : TypeId} {pos : String} {af : Array Edge} {v : Value} {l : List (Nat × Value)} {σ0 : Fr}
    (hr : ∀ w', C w' → (xop (ev (look l σ0)) op ty).run P w' = .ok (.value v) w') (hd : Nat.ble (d + 1) n = true)
    (h : Wc P n ops C rest k (look ((d, v) :: l) σ0)) : Wc P n ops C (⟨some d, op, ty, pos, af, none⟩ :: rest) k (look l σ0) := by
  intro T hT
  have hw : Region.wanted (⟨some d, op, ty, pos, af, none⟩ : Oper) (yielded ops (Act.mk T []).tmps) = true := rfl
  obtain ⟨T', hT', hF⟩ := hT.put (some d) v hd []
  refine wpQuiet_step fun K hK => ?_
  rw [if_pos hw]
  refine ⟨v, fun w' hw' => ?_, ?_⟩
  · unfold Oper.quietAt
    rw [hT.eval, execOp_xop]
    dsimp only
    rw [hr w' hw']
    exact ⟨rfl, rfl⟩
  · rw [hT']
    rw [look_cons] at h
    exact hK _ (h T' hF)

theorem Wc.call {ops : Array Oper} {C : World → Prop} {rest : List Oper} {k : Cont} {d : Tmp} {op : Op} {ty : TypeId} {pos : String} {af : Array Edge} {f : FuncId} {args : Array Value} {v : Value} {l : List (Nat × Value)} {σ0 : Fr}
    (hrun : ∀ w', (xop (ev (look l σ0)) op ty).run P w' = .ok (.enter f args) w') (hc : ∀ w', C w' → Calls P f args w' (Bk fun r w2 => r = v ∧ C w2)) (hd : Nat.ble (d + 1) n = true)
    (h : Wc P n ops C rest k (look ((d, v) :: l) σ0)) : Wc P n ops C (⟨some d, op, ty, pos, af, none⟩ :: rest) k (look l σ0) := by
  intro T hT
  have hw : Region.wanted (⟨some d, op, ty, pos, af, none⟩ : Oper) (yielded ops (Act.mk T []).tmps) = true := rfl
  obtain ⟨T', hT', hF⟩ := hT.put (some d) v hd []
  refine wpQuiet_step fun K hK => ?_
  rw [if_pos hw]
  refine ⟨v, fun w' hw' => ?_, ?_⟩
  · unfold Oper.quietAt
    rw [hT.eval, execOp_xop]
    dsimp only
    rw [hrun w']
    refine ⟨rfl, Calls.mono (hc w' hw') ?_⟩
    rintro e w2 ⟨r, rfl, rfl, h2⟩
    exact ⟨rfl, h2⟩
  · rw [hT']
    rw [look_cons] at h
    exact hK _ (h T' hF)

def Drew (w w' : World) : Prop := ∃ q, w' = w.drewN q
theorem Drew.ext {w' : World} (h : Drew w w') : Ext w w' := by
  obtain ⟨q, rfl⟩ := h; exact ⟨rfl, rfl, rfl, Nat.le_refl _, fun _ _ => rfl⟩
theorem Drew.one : Drew w { w with drawn := w.drawn + 1 } := ⟨1, rfl⟩
theorem Wc.rd {ops : Array Oper} {rest : List Oper} {k : Cont} {d : Tmp} {op : Op} {ty : TypeId} {pos : String} {af : Array Edge} {v : Value} {l : List (Nat × Value)} {σ0 : Fr}
    (hr : Rd P (look l σ0) op ty w v) (hd : Nat.ble (d + 1) n = true) (h : Wc P n ops (Drew w) rest k (look ((d, v) :: l) σ0)) : Wc P n ops (Drew w) (⟨some d, op, ty, pos, af, none⟩ :: rest) k (look l σ0) :=
  Wc.val (fun w' hw' => hr w' hw'.ext) hd h

theorem rd_sliceArrB {g o m : Nat} {e : TypeId} {sz : Nat} {T ty : TypeId} {x : Operand} (hu : P.underlying T = some (.array m e)) (hsz : ∀ w', (sizeOf e).run P w' = .ok sz w') (hx : ev σ x = .pointer (some ⟨g, o, none⟩)) :
    Rd P σ (.slice T x none none none) ty w (.slice (some ⟨g, o, none⟩) m m) :=
  Rd.of fun w' => by
    have hr : (Instr.sliceAt T (.pointer (some ⟨g, o, none⟩)) none none none).run P w' = .ok (.slice (some ⟨g, o, none⟩) m m) w' := by
      simp [Instr.sliceAt, Instr.sureAddr, run_underlying hu, Instr.sliceBounds, run_sliceBound, hsz, Addr.add]
    simp only [xop, execOp, hx, Option.map_none, Sem.run_bind, hr]
    rfl

theorem Wo.boxX {ops : Array Oper} {rest : List Oper} {k : Cont} {d : Tmp} {T : TypeId} {x : Operand} {ty : TypeId} {pos : String} {af : Array Edge} {l : List (Nat × Value)} {σ0 : Fr} {v : Value} {cs : List Value} {w0 : World} {O : List (Option Nat)} {obs : List Ob} (hS : St w0 O w obs)
    (hx : ev (look l σ0) x = v) (hc : v.cells = cs.toArray) (hd : Nat.ble (d + 1) n = true)
    (h : St w0 O (grow w #[.cells cs.toArray T]) (.box w.heap.size T cs :: obs) → Wx P n ops false rest k (look ((d, .pointer (some ⟨w.heap.size, 0, none⟩)) :: l) σ0) (grow w #[.cells cs.toArray T])) :
    Wx P n ops false (⟨some d, .box T x, ty, pos, af, none⟩ :: rest) k (look l σ0) w := by
  refine Wx.val (v := .pointer (some ⟨w.heap.size, 0, none⟩)) (w' := w.alloc (.cells cs.toArray T)) ?_ hd ?_
  · simp [xop, execOp, Instr.box, newVar, newRow, hx, hc]
  · rw [alloc_eq_grow]
    exact h (by rw [← alloc_eq_grow]; exact hS.new T cs)
end Go.Wk

namespace Go.Wk
open Go.RowKit Go.Lib Go.Sort
set_option linter.unusedVariables false
variable {w w' w0 : World} {O : List (Option Nat)} {obs : List Ob} {α : Type} {t : Ty α} {e : TypeId} {v : Value} {ys ys' : List α}

theorem St.rowOpen (hS : St w0 O w obs) (i : Nat) (hi : obs[i]? = some (.row t e v ys)) (hne : 0 < ys.length) :
    ∃ g cap cur cs, v = .slice (some ⟨g, 0, none⟩) ys.length cap ∧ w.heap[g]? = some (.cells cur e (0, 0)) ∧ cur.toList.take (ys.length * t.n) = cs ∧ cs.length = ys.length * t.n ∧ Reps t (fb obs O) w ys cs := by
  obtain ⟨cs, hr, hR⟩ := hS.get i hi
  rcases hr.2 with ⟨_, h0⟩ | ⟨g, cap, cur, hv, h1, h2, h3, h4, h5, h6⟩
  · omega
  · exact ⟨g, cap, cur, cs, hv, h2, h6, hr.1, hR⟩

theorem St.putIn {cur cur' : Array Value} {g cap : Nat} {cs' : List Value} (hS : St w0 O w obs) (i : Nat) (hi : obs[i]? = some (.row t e v ys)) (hv : v = .slice (some ⟨g, 0, none⟩) ys.length cap) (hg : w.heap[g]? = some (.cells cur e (0, 0)))
    (hne : 0 < ys.length) (hlen : ys'.length = ys.length) (hos : w'.os = w.os) (htape : w'.tape = w.tape) (hout : w'.output = w.output) (hsz : w.heap.size ≤ w'.heap.size) (hbl : ∀ b, b < w.heap.size → b ≠ g → w'.heap[b]? = w.heap[b]?)
    (hg' : w'.heap[g]? = some (.cells cur' e (0, 0))) (hcs : cur'.size = cur.size) (ht : cur'.toList.take (ys.length * t.n) = cs') (hl : cs'.length = ys.length * t.n) (hR' : Reps t (fb obs O) w ys' cs') :
    St w0 O w' (obs.set i (.row t e v ys')) := by
  obtain ⟨cs, hr, hR⟩ := hS.get i hi
  have hlt : g < w.heap.size := (Array.getElem?_eq_some_iff.1 hg).1
  refine hS.turn i hi hos htape hout hsz (fun b hb hb' => hbl b hb fun hq => hb' (by subst hq; rw [hv]; rfl)) (fun b hb' => .inl hb') (fun b hb' => ?_) (fun F hM => ?_)
  · have : b = g := by rw [show (Ob.row t e v ys').blk = v.ownBlock from rfl, hv] at hb'; simpa [Value.ownBlock] using hb'.symm
    omega
  · rcases hr.2 with ⟨_, h0⟩ | ⟨g2, cap2, cur2, hv2, h1, h2, h3, h4, h5, h6⟩
    · omega
    · rw [hv] at hv2
      simp only [Value.slice.injEq, Option.some.injEq, Addr.mk.injEq, true_and, and_true] at hv2
      obtain ⟨rfl, rfl⟩ := hv2
      rw [hg] at h2
      simp only [Option.some.injEq, Obj.cells.injEq, true_and, and_true] at h2
      subst h2
      exact ⟨cs', ⟨by rw [hl, hlen], .inr ⟨g, cap, cur', by rw [hlen]; exact hv, h1, hg', by rw [hlen]; exact h3, h4, by rw [hcs]; exact h5, by rw [hlen]; exact ht⟩⟩, hR'.mv hM⟩

theorem putCells_take {β : Type} [Inhabited β] (enc : β → Value) (d : Array β) (c : Array Value) (h : d.size ≤ c.size) : (putCells enc 0 d c).toList.take d.size = d.toList.map enc := by
  apply List.ext_getElem?
  intro k
  rw [List.getElem?_take]
  by_cases hk : k < d.size
  · rw [if_pos hk, Array.getElem?_toList, putCells, Array.getElem?_mapIdx, Array.getElem?_eq_getElem (show k < c.size by omega), Option.map_some, if_pos ⟨Nat.zero_le _, by omega⟩, List.getElem?_map, Array.getElem?_toList, Array.getElem?_eq_getElem hk, Option.map_some]
    simp [hk]
  · rw [if_neg hk, List.getElem?_eq_none (by simp; omega)]
theorem heap_put {β : Type} [Inhabited β] (enc : β → Value) (d : Array β) {g n : Nat} {os : Array Obj} {cur : Array Value} (hg : w.heap[g]? = some (.cells cur e (0, 0))) :
    (grow (putRow enc (Sort.ahead w n) g 0 d) os).heap[g]? = some (.cells (putCells enc 0 d cur) e (0, 0)) := by
  have hlt : g < w.heap.size := (Array.getElem?_eq_some_iff.1 hg).1
  rw [heap_grow_old _ _ (by simp [putRow, mapBlock, Sort.ahead]; exact hlt)]
  simp only [putRow, mapBlock, Sort.ahead, Array.getElem?_modify, if_true, hg, Option.map_some, onCells]
theorem heap_put_other {β : Type} [Inhabited β] (enc : β → Value) (d : Array β) {g n b : Nat} {os : Array Obj} (hb : b < w.heap.size) (hne : b ≠ g) :
    (grow (putRow enc (Sort.ahead w n) g 0 d) os).heap[b]? = w.heap[b]? := by
  rw [heap_grow_old _ _ (by simp [putRow, mapBlock, Sort.ahead]; exact hb)]
  simp [putRow, mapBlock, Sort.ahead, Array.getElem?_modify, Ne.symm hne]
theorem St.putRowAt {β : Type} [Inhabited β] {enc : β → Value} {d : Array β} {cur : Array Value} {g cap n : Nat} {os : Array Obj} (hS : St w0 O w obs) (i : Nat) (hi : obs[i]? = some (.row t e v ys)) (hv : v = .slice (some ⟨g, 0, none⟩) ys.length cap) (hg : w.heap[g]? = some (.cells cur e (0, 0)))
    (hne : 0 < ys.length) (hlen : ys'.length = ys.length) (hd : d.size = ys.length * t.n) (hc : ys.length * t.n ≤ cur.size) (hR' : Reps t (fb obs O) w ys' (d.toList.map enc)) :
    St w0 O (grow (putRow enc (Sort.ahead w n) g 0 d) os) (obs.set i (.row t e v ys')) := by
  refine hS.putIn i hi hv hg hne hlen rfl rfl rfl (by simp [putRow, mapBlock, Sort.ahead]) (fun b hb hbg => heap_put_other enc d hb hbg) (heap_put enc d hg) (by simp [putCells]) ?_ (by simp [hd]) hR'
  rw [← hd]; exact putCells_take enc d cur (by omega)

theorem holds_of {β : Type} [Inhabited β] {enc : β → Value} {d : Array β} {cur : Array Value} {g : Nat} (hg : w.heap[g]? = some (.cells cur e (0, 0))) (h : cur.toList.take d.size = d.toList.map enc) : Holds enc w g 0 d := by
  intro j hj
  have h1 : (d.toList.map enc)[j]? = some (enc d[j]!) := by simp [hj]
  rw [← h, List.getElem?_take, if_pos hj, Array.getElem?_toList] at h1
  exact ⟨by simp [World.cell?, hg, h1], by simp [World.frozen?, hg]⟩

end Go.Wk
namespace Go.Wk
open Go.RowKit Go.Lib Go.Sort
set_option linter.unusedVariables false
theorem flatMap_get {α : Type} [Inhabited α] {enc : α → List Value} {k : Nat} (hk0 : 0 < k) (hk : ∀ x, (enc x).length = k) : ∀ (l : List α) (t : Nat), t < l.length * k → (l.flatMap enc)[t]? = (enc l[t / k]!)[t % k]?
  | [], t, h => by simp at h
  | x :: l, t, h => by
    rw [List.flatMap_cons]
    by_cases ht : t < k
    · rw [List.getElem?_append_left (by rw [hk]; exact ht), Nat.div_eq_of_lt ht, Nat.mod_eq_of_lt ht]; rfl
    · have hkt : k ≤ t := Nat.le_of_not_lt ht
      rw [List.getElem?_append_right (by rw [hk]; exact hkt), hk, flatMap_get hk0 hk l (t - k) (by rw [List.length_cons, Nat.succ_mul] at h; omega)]
      rw [show t / k = (t - k) / k + 1 by rw [Nat.div_eq_sub_div hk0 hkt], show t % k = (t - k) % k by rw [Nat.mod_eq_sub_mod hkt]]
      simp
theorem flatK_list {α : Type} [Inhabited α] {enc : α → List Value} {k : Nat} (hk0 : 0 < k) (hk : ∀ x, (enc x).length = k) (l : List α) : (flatK enc k l.toArray).toList = l.flatMap enc := by
  have hlen : (l.flatMap enc).length = l.length * k := by
    induction l with
    | nil => simp
    | cons x l ih => rw [List.flatMap_cons, List.length_append, ih, hk, List.length_cons, Nat.succ_mul]; omega
  apply List.ext_getElem?
  intro t
  by_cases ht : t < l.length * k
  · have hd : t / k < l.length := (Nat.div_lt_iff_lt_mul hk0).2 ht
    have hm : t % k < (enc l[t / k]!).length := by rw [hk]; exact Nat.mod_lt _ hk0
    rw [flatMap_get hk0 hk l t ht, List.getElem?_eq_getElem hm]
    have e1 : (enc l[t / k]!)[t % k]! = (enc l[t / k]!)[t % k] := getElem!_pos (enc l[t / k]!) (t % k) hm
    rw [← e1]
    simp [flatK, ht]
  · rw [List.getElem?_eq_none (by simp; omega), List.getElem?_eq_none (by rw [hlen]; omega)]
section
variable {w w' w0 : World} {O : List (Option Nat)} {obs : List Ob} {α : Type} {t : Ty α} {e : TypeId} {v : Value} {ys ys' : List α} {F : List (Option Nat)}
theorem reps_flat {enc : α → List Value} (he : ∀ F w x cs, t.rep F w x cs → cs = enc x) : ∀ {ys : List α} {cs : List Value}, Reps t F w ys cs → cs = ys.flatMap enc
  | [], cs, h => by have := h.1; simp at this; subst this; rfl
  | y :: ys, cs, h => by
    have h0 := h.2 0 y rfl
    rw [Nat.zero_mul, List.drop_zero] at h0
    have ht := h.drop 1
    simp only [List.drop_succ_cons, List.drop_zero, Nat.one_mul] at ht
    rw [List.flatMap_cons, ← he _ _ _ _ h0, ← reps_flat he ht, List.take_append_drop]
theorem reps_flats {enc : α → List Value} : ∀ {ys : List α}, (∀ y ∈ ys, t.rep F w y (enc y)) → Reps t F w ys (ys.flatMap enc)
  | [], _ => Reps.nil
  | y :: ys, h => by
    have h0 := h y (by simp)
    have h1 := reps_flats (ys := ys) fun z hz => h z (by simp [hz])
    have : Reps t F w [y] (enc y) := ⟨by rw [t.len h0]; simp, fun i z hz => by
      cases i with
      | zero => simp at hz; subst hz; rw [Nat.zero_mul, List.drop_zero, List.take_of_length_le (by rw [t.len h0]; omega)]; exact h0
      | succ i => simp at hz⟩
    exact this.append h1
theorem reps_mem : ∀ {ys : List α} {cs : List Value}, Reps t F w ys cs → ∀ y ∈ ys, ∃ c, t.rep F w y c := fun h y hy => by
  obtain ⟨i, hi⟩ := List.mem_iff_getElem?.1 hy
  exact ⟨_, h.2 i y hi⟩
theorem St.holdsK {β : Type} [Inhabited β] {enc : α → List Value} {g : β → α} (he : ∀ F w x cs, t.rep F w x cs → cs = enc x) (hk0 : 0 < t.n) (hk : ∀ x, (enc x).length = t.n) (hS : St w0 O w obs) (i : Nat) (hi : obs[i]? = some (.row t e v ys)) (hne : 0 < ys.length) {l : List β} (hl : l.map g = ys) :
    ∃ b cap, v = .slice (some ⟨b, 0, none⟩) l.toArray.size cap ∧ HoldsK (fun x => enc (g x)) t.n w b 0 l.toArray ∧ b < w.heap.size ∧
      ∀ (l' : List β) (n : Nat) (os : Array Obj), l'.Perm l → St w0 O (Go.Proofs.sortWorldK (fun x => enc (g x)) t.n w b 0 n l'.toArray os) (obs.set i (.row t e v (l'.map g))) := by
  subst hl
  obtain ⟨b, cap, cur, cs, hv, hg, h6, hlen, hR⟩ := hS.rowOpen i hi hne
  have hcs := reps_flat he hR
  have hsz : (l.map g).length = l.toArray.size := by simp
  have hfl : ∀ l' : List β, (flatK (fun x => enc (g x)) t.n l'.toArray).toList = (l'.map g).flatMap enc := fun l' => by
    rw [flatK_list hk0 (fun x => hk (g x)), List.flatMap_map]
  have hcur : (l.map g).length * t.n ≤ cur.size := by
    have := congrArg List.length h6
    rw [hlen, List.length_take] at this
    have h2 : cur.toList.length = cur.size := Array.length_toList
    omega
  refine ⟨b, cap, by rw [← hsz]; exact hv, holds_of hg ?_, (Array.getElem?_eq_some_iff.1 hg).1, fun l' n os hp => ?_⟩
  · rw [hfl, List.map_id, ← hcs, ← h6, size_flatK, ← hsz]
  · refine hS.putRowAt i hi hv hg hne (by simp [hp.length_eq]) (by rw [size_flatK]; simp [hp.length_eq]) hcur ?_
    rw [hfl, List.map_id]
    refine reps_flats fun y hy => ?_
    obtain ⟨x, hx, rfl⟩ := List.mem_map.1 hy
    obtain ⟨c, hc⟩ := reps_mem hR (g x) (List.mem_map.2 ⟨x, hp.mem_iff.1 hx, rfl⟩)
    rw [← he _ _ _ _ hc]; exact hc
end
end Go.Wk

namespace Go.Wk
open Go.RowKit Go.Lib
set_option linter.unusedVariables false
variable {P : Program} {n : Nat} {w w0 : World} {O : List (Option Nat)} {obs : List Ob} {ops : Array Oper} {rest : List Oper} {kc : Cont} {d : Tmp} {ty : TypeId} {pos : String} {af : Array Edge}
  {l : List (Nat × Value)} {σ0 σ : Fr} {T : TypeId} {x y z lo : Operand} {k : IntKind}

structure MayF (P : Program) (gm : Nat) (cm : List Value) (f : Int → Bool) (m : Int) (w : World) : Prop where
  ent : ∀ args w', (callFunc gm args).run P w' = .ok (.enter gm args) w'
  call : ∀ x w', 0 ≤ x → x < m → Ext w w' → Calls P gm (.int .i64 x :: cm).toArray w' (Ret w' fun r _ => r = .bool (f x))
end Go.Wk
namespace Go.Wk
open Go.RowKit Go.Lib
set_option linter.unusedVariables false
theorem rd_loadOA {P : Program} {w w0 : World} {σ : Fr} {T e ty : TypeId} {x : Operand} {k : IntKind} {ys : List Int} {g : Nat} {fz : Nat × Nat} {i : Int} (hh : w0.heap[g]? = some (.cells (ys.map (Value.int k)).toArray e fz)) (hb : Ext w0 w) (hx : ev σ x = .pointer (some ⟨g, 0 + i.toNat * 1, none⟩))
    (h0 : 0 ≤ i) (h1 : i < ys.length) (hag : ∀ w', (isAgg T).run P w' = .ok false w') : Rd P σ (.load T x) ty w (.int k (ix 0 ys i)) := by
  refine rd_loadO hh hb hx ?_ hag
  have := ix_get (d := (0 : Int)) h1 h0
  simp [this]
end Go.Wk
namespace Go.Wk
open Go.RowKit Go.Lib
theorem V.mk3 {k : IntKind} {w : World} {a b c : Int} {F : List (Option Nat)} (h1 : InK k a) (h2 : InK k b) (h3 : InK k c) : V (tP (tP (tI k) (tI k)) (tI k)) ((a, b), c) (.agg #[.int k a, .int k b, .int k c]) F w :=
  ⟨[.int k a, .int k b, .int k c], rfl, [.int k a, .int k b], [.int k c], rfl, ⟨[.int k a], [.int k b], rfl, ⟨rfl, h1⟩, ⟨rfl, h2⟩⟩, ⟨rfl, h3⟩⟩
theorem V.i3 {k : IntKind} {w : World} {z : (Int × Int) × Int} {v : Value} {F : List (Option Nat)} (h : V (tP (tP (tI k) (tI k)) (tI k)) z v F w) : v = .agg #[.int k z.1.1, .int k z.1.2, .int k z.2] ∧ InK k z.1.1 ∧ InK k z.1.2 ∧ InK k z.2 := by
  obtain ⟨cs, rfl, c, d, rfl, ⟨c1, c2, rfl, ⟨rfl, h1⟩, ⟨rfl, h2⟩⟩, ⟨rfl, h3⟩⟩ := h
  exact ⟨rfl, h1, h2, h3⟩
end Go.Wk

namespace Go.Proofs.YtdpdlplkngggoaaGreatDoor
open Go.Wk
set_option linter.unusedVariables false
section
variable {A : RelE} {n : Int} {f : Int → Bool}
end
end Go.Proofs.YtdpdlplkngggoaaGreatDoor
namespace Go.Proofs.YtdpdlplkngggoaaGreatDoor
open Go.Wk
end Go.Proofs.YtdpdlplkngggoaaGreatDoor
namespace Go.Proofs.YtdpdlplkngggoaaGreatDoor
open Go.Wk
theorem flat_snoc {β : Type} {g : Int → List β} {k : Int} (h : 0 ≤ k) : (rng 0 (k + 1)).flatMap g = (rng 0 k).flatMap g ++ g k := by
  rw [rng_snoc h, List.flatMap_append]; simp
end Go.Proofs.YtdpdlplkngggoaaGreatDoor

namespace Go.Proofs.YtdpdlplkngggoaaGreatDoor
open Go.Wk
set_option linter.unusedVariables false
section
variable {C : Int} {H : List Int} {h : Int}
structure QI (C : Int) (H : List Int) (h b : Int) (far todo : List Int) : Prop where
  len : far.length = 37
  nd : todo.Nodup
  mem : ∀ x ∈ todo, (0 ≤ x ∧ x < (H.length : Int)) ∧ ix 0 H x ≤ h ∧ (0 < ix 0 far x ∧ ix 0 far x ≤ b + 1) ∧ rW C H h (ix 0 far x - 1).toNat x = true
  out : ∀ x, 0 ≤ x → x < (H.length : Int) → x ∉ todo → ix 0 far x = 0
  mono : todo.Pairwise fun x y => ix 0 far x ≤ ix 0 far y
  bd : b ≤ todo.length ∧ ∀ x ∈ todo, ix 0 far x ≤ todo.length
end
end Go.Proofs.YtdpdlplkngggoaaGreatDoor

namespace Go.Proofs.YtdpdlplkngggoaaGreatDoor
open Go.Wk
set_option linter.unusedVariables false
abbrev J3 := (Int × Int) × Int
def jF (H : List Int) (a b : Int) : List J3 := if b = (H.length : Int) then [((a, b), ix 0 H a)] else if a < b then [((a, b), max (ix 0 H a) (ix 0 H b))] else []
def jRowP (C : Int) (H : List Int) (a : Int) : List J3 := (nbW C H.length a).flatMap (jF H a)
def jRawL (C : Int) (H : List Int) : List J3 := (rng 0 H.length).flatMap (jRowP C H)
def Jt.t (j : Jt) : J3 := ((j.a, j.b), j.h)
def jTL (C : Int) (H : List Int) : List J3 := (jAll C H 0).map Jt.t
theorem strict_ext {α : Type} {r : α → α → Prop} (hirr : ∀ x, ¬ r x x) (has : ∀ x y, r x y → r y x → False) : ∀ {l m : List α}, l.Pairwise r → m.Pairwise r → (∀ x, x ∈ l ↔ x ∈ m) → l = m
  | [], [], _, _, _ => rfl
  | [], y :: m, _, _, h => absurd ((h y).2 (by simp)) (by simp)
  | x :: l, [], _, _, h => absurd ((h x).1 (by simp)) (by simp)
  | x :: l, y :: m, hl, hm, h => by
    obtain ⟨l1, l2⟩ := List.pairwise_cons.1 hl
    obtain ⟨m1, m2⟩ := List.pairwise_cons.1 hm
    have hxy : x = y := by
      rcases List.mem_cons.1 ((h x).1 (by simp)) with e | hx
      · exact e
      · rcases List.mem_cons.1 ((h y).2 (by simp)) with e | hy
        · exact e.symm
        · exact (has _ _ (l1 y hy) (m1 x hx)).elim
    subst hxy
    rw [strict_ext hirr has l2 m2 fun z => ⟨fun hz => ?_, fun hz => ?_⟩]
    · rcases List.mem_cons.1 ((h z).1 (List.mem_cons_of_mem _ hz)) with e | hz'
      · subst e; exact absurd (l1 z hz) (hirr z)
      · exact hz'
    · rcases List.mem_cons.1 ((h z).2 (List.mem_cons_of_mem _ hz)) with e | hz'
      · subst e; exact absurd (m1 z hz) (hirr z)
      · exact hz'
section
variable {C : Int} {H : List Int}
theorem jf_mem {a b : Int} {x : J3} : x ∈ jF H a b ↔ x.1 = (a, b) ∧ ((b = (H.length : Int) ∧ x.2 = ix 0 H a) ∨ (b ≠ (H.length : Int) ∧ a < b ∧ x.2 = max (ix 0 H a) (ix 0 H b))) := by
  obtain ⟨⟨p, q⟩, h⟩ := x
  rw [jF]
  split
  · rename_i e
    rw [List.mem_singleton, Prod.mk.injEq]
    exact and_congr_right fun _ => ⟨fun k => .inl ⟨e, k⟩, fun k => by rcases k with k | k; exact k.2; exact absurd e k.1⟩
  · rename_i e
    split
    · rename_i e2
      rw [List.mem_singleton, Prod.mk.injEq]
      exact and_congr_right fun _ => ⟨fun k => .inr ⟨e, e2, k⟩, fun k => by rcases k with k | k; exact absurd k.1 e; exact k.2.2⟩
    · rename_i e2
      exact ⟨fun k => (nomatch k), fun k => by rcases k.2 with k | k; exact absurd k.1 e; exact absurd k.2.1 e2⟩
theorem raw_mem {x : J3} : x ∈ jRawL C H ↔ (0 ≤ x.1.1 ∧ x.1.1 < (H.length : Int)) ∧ x.1.2 ∈ nbW C H.length x.1.1 ∧ ((x.1.2 = (H.length : Int) ∧ x.2 = ix 0 H x.1.1) ∨ (x.1.2 ≠ (H.length : Int) ∧ x.1.1 < x.1.2 ∧ x.2 = max (ix 0 H x.1.1) (ix 0 H x.1.2))) := by
  rw [jRawL, List.mem_flatMap]
  constructor
  · rintro ⟨a, ha, hx⟩
    rw [jRowP, List.mem_flatMap] at hx
    obtain ⟨b, hb, hx⟩ := hx
    obtain ⟨h1, h2⟩ := jf_mem.1 hx
    rw [h1]
    exact ⟨rng_mem.1 ha, hb, h2⟩
  · rintro ⟨h1, h2, h3⟩
    refine ⟨x.1.1, rng_mem.2 h1, ?_⟩
    rw [jRowP, List.mem_flatMap]
    exact ⟨x.1.2, h2, jf_mem.2 ⟨rfl, h3⟩⟩
theorem raw_nodup : (jRawL C H).Nodup := by
  have : (jRawL C H).Pairwise fun x y => x.1.1 < y.1.1 ∨ (x.1.1 = y.1.1 ∧ x.1.2 < y.1.2) := by
    refine List.pairwise_flatMap.2 ⟨fun a _ => List.pairwise_flatMap.2 ⟨fun b _ => ?_, nbW_asc.imp fun {b d} hbd x hx y hy => ?_⟩, (rng_asc 0 H.length).imp fun {a c} hac x hx y hy => ?_⟩
    · rw [jF]; split
      · exact List.pairwise_singleton _ _
      · split
        · exact List.pairwise_singleton _ _
        · exact .nil
    · have h1 := (jf_mem.1 hx).1
      have h2 := (jf_mem.1 hy).1
      rw [h1, h2]; exact .inr ⟨rfl, hbd⟩
    · rw [jRowP, List.mem_flatMap] at hx hy
      obtain ⟨b, _, hx⟩ := hx
      obtain ⟨d, _, hy⟩ := hy
      rw [(jf_mem.1 hx).1, (jf_mem.1 hy).1]; exact .inl hac
  exact this.imp fun {x y} h e => by subst e; omega
theorem jtl_mem {x : J3} (hk : ShoreOK C H) : x ∈ jRawL C H ↔ x ∈ jTL C H := by
  obtain ⟨⟨a, b⟩, h⟩ := x
  have e : ((a, b), h) ∈ jTL C H ↔ (⟨a, b, h⟩ : Jt) ∈ jAll C H 0 := by
    rw [jTL, List.mem_map]
    exact ⟨fun ⟨⟨a', b', h'⟩, hj, he⟩ => by simp only [Jt.t, Prod.mk.injEq] at he; obtain ⟨⟨rfl, rfl⟩, rfl⟩ := he; exact hj, fun hj => ⟨_, hj, rfl⟩⟩
  rw [e, raw_mem, mem_jAll, mem_nbW]
  simp only
  constructor
  · rintro ⟨h1, h2, h3⟩
    have hA := hk.at h1.1 h1.2
    rcases h3 with ⟨e1, e2⟩ | ⟨e1, e2, e3⟩
    · subst e1
      have hl : lastB C H a = true := decide_eq_true (by rcases h2 with h2 | h2 <;> omega)
      exact ⟨by omega, h1, by omega, by rw [jointI, if_pos rfl, if_pos hl]; exact e2.symm⟩
    · rcases h2 with h2 | h2
      · have hB := hk.at h2.1.1 h2.1.2
        exact ⟨by omega, h1, by omega, by rw [jointI, if_neg e1, if_pos ⟨e2, h2.2⟩]; exact e3.symm⟩
      · exact absurd h2.1 e1
  · rintro ⟨h0, h1, h2, h3⟩
    refine ⟨h1, ?_⟩
    rw [jointI] at h3
    split at h3
    · rename_i e1
      split at h3
      · rename_i hl
        exact ⟨.inr ⟨e1, of_decide_eq_true hl⟩, .inl ⟨e1, h3.symm⟩⟩
      · omega
    · rename_i e1
      split at h3
      · rename_i hl
        exact ⟨.inl ⟨⟨h2.1, by omega⟩, hl.2⟩, .inr ⟨e1, hl.1, h3.symm⟩⟩
      · omega
theorem jtl_sorted : (jTL C H).Pairwise jLt := by
  rw [jTL, List.pairwise_map]
  refine jAll_sorted.imp fun {x y} h => ?_
  unfold jlt at h; unfold jLt Jt.t; simp only; omega
theorem raw_sort (hk : ShoreOK C H) {ys : List J3} (hp : ys.Perm (jRawL C H)) (hs : ys.Pairwise fun x y => ¬ jLt y x) : ys = jTL C H := by
  refine strict_ext (r := jLt) (fun x => by unfold jLt; omega) (fun x y => by unfold jLt; omega) ?_ jtl_sorted fun x => by rw [hp.mem_iff]; exact jtl_mem hk
  have hd : ys.Pairwise fun x y => x ≠ y := hp.nodup_iff.2 raw_nodup
  refine (hs.and hd).imp fun {x y} h => ?_
  obtain ⟨⟨a, b⟩, c⟩ := x
  obtain ⟨⟨a', b'⟩, c'⟩ := y
  obtain ⟨h1, h2⟩ := h
  unfold jLt at h1 ⊢
  simp only at h1 ⊢
  have h3 : ¬ (a = a' ∧ b = b' ∧ c = c') := fun ⟨e1, e2, e3⟩ => h2 (by rw [e1, e2, e3])
  omega
theorem raw_bd (hk : ShoreOK C H) (hn : (H.length : Int) ≤ 36) : ∀ x ∈ jRawL C H, jnB x := by
  intro x hx
  obtain ⟨h1, h2, h3⟩ := raw_mem.1 hx
  have hA := hk.at h1.1 h1.2
  have h2 := mem_nbW.1 h2
  unfold jnB
  rcases h3 with ⟨e1, e2⟩ | ⟨e1, e2, e3⟩
  · omega
  · rcases h2 with h2 | h2
    · have hB := hk.at h2.1.1 h2.1.2
      omega
    · omega
theorem raw_pos (hC : 1 ≤ C) (hn : 1 ≤ (H.length : Int)) : 0 < (jRawL C H).length := by
  refine List.length_pos_of_mem (a := (((H.length : Int) - 1, (H.length : Int)), ix 0 H (H.length - 1))) (raw_mem.2 ⟨⟨by simp only; omega, by simp only; omega⟩, mem_nbW.2 (.inr ⟨rfl, by simp only; omega⟩), .inl ⟨rfl, rfl⟩⟩)
theorem nbw_len {a : Int} (hC : 1 ≤ C) : ((nbW C H.length a).length : Int) ≤ 5 := by
  have h4 : ∀ k : Int, 0 ≤ k → ((nbK C H.length a k).length : Int) ≤ 1 := fun k _ => by rw [nbK]; split <;> simp
  have e : nbP C H.length a 4 = nbK C H.length a 0 ++ nbK C H.length a 1 ++ nbK C H.length a 2 ++ nbK C H.length a 3 := by
    rw [show (4 : Int) = 3 + 1 by rfl, nbP_next (by omega), show (3 : Int) = 2 + 1 by rfl, nbP_next (by omega), show (2 : Int) = 1 + 1 by rfl, nbP_next (by omega), show (1 : Int) = 0 + 1 by rfl, nbP_next (by omega)]
    rfl
  have hl : ((nbP C H.length a 4).length : Int) ≤ 4 := by
    rw [e]
    have := h4 0 (by omega); have := h4 1 (by omega); have := h4 2 (by omega); have := h4 3 (by omega)
    simp only [List.length_append]; omega
  by_cases h : H.length - C ≤ a
  · rw [nb_river hC h]; simp only [List.length_append, List.length_singleton]; omega
  · rw [nb_dry hC h]; omega
theorem pre_len {a m : Int} {ls : List Int} (hC : 1 ≤ C) (h : (ls ++ [m]) <+: nbW C H.length a) : (ls.length : Int) + 1 ≤ 5 := by
  have h1 := h.length_le
  have h2 := nbw_len (C := C) (H := H) (a := a) hC
  simp only [List.length_append, List.length_singleton] at h1
  omega
theorem jf_add {a m : Int} {ls : List Int} {out l : List J3} (h : jF H a m = l) : (out ++ ls.flatMap (jF H a)) ++ l = out ++ (ls ++ [m]).flatMap (jF H a) := by
  rw [List.flatMap_append, List.append_assoc]; simp [h]
theorem jf_river {a m : Int} (h : m = (H.length : Int)) : jF H a m = [((a, m), ix 0 H a)] := by rw [jF, if_pos h]
theorem jf_step {a m : Int} (h : ¬ m = (H.length : Int)) (h2 : a < m) : jF H a m = [((a, m), max (ix 0 H a) (ix 0 H m))] := by rw [jF, if_neg h, if_pos h2]
theorem jf_none {a m : Int} (h : ¬ m = (H.length : Int)) (h2 : ¬ a < m) : jF H a m = [] := by rw [jF, if_neg h, if_neg h2]
theorem raw_len (hC : 1 ≤ C) : ∀ {n : Nat}, (((rng 0 (n : Int)).flatMap (jRowP C H)).length : Int) ≤ 5 * n := by
  intro n
  induction n with
  | zero => simp [rng_nil]
  | succ n ih =>
    have h1 : ∀ (a : Int) (l : List Int), ((l.flatMap (jF H a)).length : Int) ≤ l.length := by
      intro a l
      induction l with
      | nil => simp
      | cons b l ihl =>
        rw [List.flatMap_cons, List.length_append, List.length_cons]
        have : ((jF H a b).length : Int) ≤ 1 := by rw [jF]; split; simp; split <;> simp
        omega
    rw [show ((n + 1 : Nat) : Int) = (n : Int) + 1 by rfl, flat_snoc (by omega), List.length_append]
    have h2 := h1 (n : Int) (nbW C H.length n)
    have h3 := nbw_len (C := C) (H := H) (a := (n : Int)) hC
    have h4 : ((jRowP C H n).length : Int) ≤ 5 := by rw [jRowP]; omega
    omega
theorem jtl_len (hk : ShoreOK C H) (hC : 1 ≤ C) (hn : (H.length : Int) ≤ 36) : ((jTL C H).length : Int) ≤ 180 := by
  have hp : (jTL C H).Perm (jRawL C H) := by
    have hd : (jTL C H).Nodup := jtl_sorted.imp fun {x y} h e => by subst e; unfold jLt at h; omega
    exact (List.perm_ext_iff_of_nodup hd raw_nodup).2 fun x => (jtl_mem hk).symm
  rw [hp.length_eq, jRawL]
  have := raw_len (C := C) (H := H) hC (n := H.length)
  omega
end
end Go.Proofs.YtdpdlplkngggoaaGreatDoor

namespace Go.Proofs.YtdpdlplkngggoaaGreatDoor
open Go.Wk
set_option linter.unusedVariables false
def upK (ys : List Int) : Nat → Int → Int
  | 0, x => x
  | d + 1, x => upK ys d (ix 0 ys x)
def topV (ys : List Int) (x : Int) : Int := upK ys 1000 x
structure UF (m : Nat) (ys : List Int) : Prop where
  len : ys.length = 37
  rng : ∀ x, (0 ≤ x ∧ x < 37) → 0 ≤ ix 0 ys x ∧ ix 0 ys x < 37
  rk : ∃ rk : Int → Nat, ∀ x, (0 ≤ x ∧ x < 37) → rk x ≤ m ∧ (ix 0 ys x = x → rk x = 0) ∧ (ix 0 ys x ≠ x → rk (ix 0 ys x) < rk x)
section
variable {ys : List Int} {m : Nat}
theorem upK_root : ∀ (d : Nat) {r : Int}, ix 0 ys r = r → upK ys d r = r
  | 0, _, _ => rfl
  | d + 1, r, h => by rw [upK, h]; exact upK_root d h
theorem upK_add : ∀ (d e : Nat) (x : Int), upK ys (d + e) x = upK ys e (upK ys d x)
  | 0, e, x => by rw [Nat.zero_add]; rfl
  | d + 1, e, x => by rw [show d + 1 + e = (d + e) + 1 by omega, upK, upK, upK_add d e]
theorem upK_rng (h : UF m ys) : ∀ (d : Nat) {x : Int}, (0 ≤ x ∧ x < 37) → 0 ≤ upK ys d x ∧ upK ys d x < 37
  | 0, _, hx => hx
  | d + 1, x, hx => by rw [upK]; exact upK_rng h d (h.rng x hx)
theorem top_rng (h : UF m ys) {x : Int} (hx : 0 ≤ x ∧ x < 37) : 0 ≤ topV ys x ∧ topV ys x < 37 := upK_rng h _ hx
theorem top_root (h : UF m ys) (hm : m ≤ 1000) {x : Int} (hx : 0 ≤ x ∧ x < 37) : ix 0 ys (topV ys x) = topV ys x := by
  obtain ⟨rk, hrk⟩ := h.rk
  have key : ∀ (d : Nat) (x : Int), (0 ≤ x ∧ x < 37) → rk x ≤ d → ix 0 ys (upK ys d x) = upK ys d x := by
    intro d
    induction d with
    | zero =>
      intro x hx hd
      exact Decidable.byContradiction fun hne => by have := (hrk x hx).2.2 hne; omega
    | succ d ih =>
      intro x hx hd
      rw [upK]
      refine ih _ (h.rng x hx) ?_
      by_cases e : ix 0 ys x = x
      · rw [e, (hrk x hx).2.1 e]; omega
      · have := (hrk x hx).2.2 e; omega
  exact key 1000 x hx (Nat.le_trans (hrk x hx).1 hm)
theorem top_uniq (h : UF m ys) (hm : m ≤ 1000) {x r : Int} (hx : 0 ≤ x ∧ x < 37) {d : Nat} (hd : upK ys d x = r) (hr : ix 0 ys r = r) : topV ys x = r := by
  have h1 : upK ys (1000 + d) x = topV ys x := by rw [upK_add]; exact upK_root d (top_root h hm hx)
  have h2 : upK ys (d + 1000) x = r := by rw [upK_add, hd]; exact upK_root 1000 hr
  rw [Nat.add_comm] at h2
  exact h1.symm.trans h2
theorem top_self (h : UF m ys) (hm : m ≤ 1000) {r : Int} (hx : 0 ≤ r ∧ r < 37) (hr : ix 0 ys r = r) : topV ys r = r := top_uniq (d := 0) h hm hx rfl hr
theorem top_step (h : UF m ys) (hm : m ≤ 1000) {x : Int} (hx : 0 ≤ x ∧ x < 37) : topV ys (ix 0 ys x) = topV ys x :=
  (top_uniq (d := 1001) h hm hx (r := topV ys (ix 0 ys x)) (by rw [upK]; rfl) (top_root h hm (h.rng x hx))).symm
theorem uf_start : UF 0 (rng 0 37) := by
  have hi : ∀ x, (0 ≤ x ∧ x < 37) → ix 0 (Go.Proofs.YtdpdlplkngggoaaGreatDoor.rng 0 37) x = x := fun x hx => ix_rng hx
  exact ⟨rfl, fun x hx => by rw [hi x hx]; exact hx, fun _ => 0, fun x hx => ⟨Nat.le_refl _, fun _ => rfl, fun hne => absurd (hi x hx) hne⟩⟩
theorem uf_link (h : UF m ys) (hm : m < 1000) {x y : Int} (hx : 0 ≤ x ∧ x < 37) (hy : 0 ≤ y ∧ y < 37) (rx : ix 0 ys x = x) (ry : ix 0 ys y = y) (hne : x ≠ y) :
    UF (m + 1) (ys.set x.toNat y) ∧ ∀ z, (0 ≤ z ∧ z < 37) → topV (ys.set x.toNat y) z = if topV ys z = x then y else topV ys z := by
  have hl := h.len
  have hix : ∀ z, 0 ≤ z → ix 0 (ys.set x.toNat y) z = if z = x then y else ix 0 ys z := fun z hz => ix_set0 hx.1 (by omega) hz
  obtain ⟨rk, hrk⟩ := h.rk
  have hU : UF (m + 1) (ys.set x.toNat y) := by
    refine ⟨by simp; exact hl, fun z hz => ?_, fun z => if topV ys z = x then rk z + 1 else rk z, fun z hz => ?_⟩
    · rw [hix z hz.1]; split
      · exact hy
      · exact h.rng z hz
    · obtain ⟨k1, k2, k3⟩ := hrk z hz
      have ht := top_step h (Nat.le_of_lt hm) hz
      rw [hix z hz.1]
      refine ⟨by dsimp only; split <;> omega, fun e => ?_, fun e => ?_⟩
      · by_cases ezx : z = x
        · rw [if_pos ezx] at e; omega
        · rw [if_neg ezx] at e
          have := top_self h (Nat.le_of_lt hm) hz e
          dsimp only; rw [if_neg (by omega)]; exact k2 e
      · by_cases ezx : z = x
        · rw [if_pos ezx]
          have hty := top_self h (Nat.le_of_lt hm) hy ry
          have htx := top_self h (Nat.le_of_lt hm) hx rx
          dsimp only
          rw [if_neg (by omega), ezx, if_pos htx, (hrk y hy).2.1 ry]; omega
        · rw [if_neg ezx] at e ⊢
          dsimp only
          rw [ht]
          have := k3 e
          split <;> omega
  refine ⟨hU, fun z hz => ?_⟩
  have key : ∀ (n : Nat) (z : Int), (0 ≤ z ∧ z < 37) → rk z ≤ n → ∃ d, upK (ys.set x.toNat y) d z = if topV ys z = x then y else topV ys z := by
    intro n
    induction n with
    | zero =>
      intro z hz hn
      have hr : ix 0 ys z = z := Decidable.byContradiction fun hne => by have := (hrk z hz).2.2 hne; omega
      have ht := top_self h (Nat.le_of_lt hm) hz hr
      by_cases ezx : z = x
      · exact ⟨1, by rw [upK, upK, hix z hz.1, if_pos ezx, if_pos (by omega)]⟩
      · exact ⟨0, by rw [upK, if_neg (by omega), ht]⟩
    | succ n ih =>
      intro z hz hn
      by_cases hr : ix 0 ys z = z
      · have ht := top_self h (Nat.le_of_lt hm) hz hr
        by_cases ezx : z = x
        · exact ⟨1, by rw [upK, upK, hix z hz.1, if_pos ezx, if_pos (by omega)]⟩
        · exact ⟨0, by rw [upK, if_neg (by omega), ht]⟩
      · obtain ⟨d, hd⟩ := ih (ix 0 ys z) (h.rng z hz) (by have := (hrk z hz).2.2 hr; omega)
        have ezx : z ≠ x := by rintro rfl; exact hr rx
        exact ⟨d + 1, by rw [upK, hix z hz.1, if_neg ezx, hd, top_step h (Nat.le_of_lt hm) hz]⟩
  obtain ⟨d, hd⟩ := key (rk z) z hz (Nat.le_refl _)
  refine top_uniq hU hm hz hd ?_
  have hroot := top_root h (Nat.le_of_lt hm) hz
  have hrg := top_rng h hz
  by_cases e : topV ys z = x
  · rw [if_pos e, hix y hy.1, if_neg (by omega)]; exact ry
  · rw [if_neg e, hix _ hrg.1, if_neg e]; exact hroot
def tops (n : Int) (ys : List Int) : List Int := (rng 0 (n + 1)).map (topV ys)
theorem tops_ix {n x : Int} (hx : 0 ≤ x ∧ x ≤ n) : ix 0 (tops n ys) x = topV ys x := by
  rw [ix, tops, List.getD_eq_getElem?_getD, List.getElem?_map, rng_get hx.1 (by omega), Option.map_some, Option.getD_some]
theorem tops_len {n : Int} (hn : 0 ≤ n) : ((tops n ys).length : Int) = n + 1 := by
  rw [tops, List.length_map]; have := rng_length (i := 0) (n := n + 1) (by omega); omega
theorem tops_start {n : Int} (hn : 0 ≤ n) (h36 : n ≤ 36) : LabI n (tops n (rng 0 37)) [] := by
  refine ⟨tops_len hn, fun x y hx hy => ?_⟩
  have key : ∀ z, (0 ≤ z ∧ z ≤ n) → topV (rng 0 37) z = z := fun z hz => by
    have h1 : ix 0 (rng 0 37) z = z := ix_rng ⟨hz.1, by omega⟩
    have h2 : 0 ≤ z ∧ z < 37 := ⟨hz.1, by omega⟩
    have h3 : UF 0 (rng 0 37) := uf_start
    generalize rng 0 37 = ys at h1 h3 ⊢
    exact top_self h3 (Nat.zero_le _) h2 h1
  rw [tops_ix hx, tops_ix hy, key x hx, key y hy]; rfl
theorem tops_con {n a b : Int} {out : List Ends} (hL : LabI n (tops n ys) out) (ha : 0 ≤ a ∧ a ≤ n) (hb : 0 ≤ b ∧ b ≤ n) : conF out a b = true ↔ topV ys a = topV ys b := by
  rw [lab_con hL ha hb, tops_ix ha, tops_ix hb]
theorem tops_link {n a b : Int} {out : List Ends} (h : UF m ys) (hm : m < 1000) (hL : LabI n (tops n ys) out) (hn : n ≤ 36) (ha : 0 ≤ a ∧ a ≤ n) (hb : 0 ≤ b ∧ b ≤ n) (hne : topV ys a ≠ topV ys b) :
    UF (m + 1) (ys.set (topV ys a).toNat (topV ys b)) ∧ LabI n (tops n (ys.set (topV ys a).toNat (topV ys b))) (out ++ [(a, b)]) := by
  have ha' : 0 ≤ a ∧ a < 37 := by omega
  have hb' : 0 ≤ b ∧ b < 37 := by omega
  obtain ⟨h1, h2⟩ := uf_link h hm (top_rng h ha') (top_rng h hb') (top_root h (Nat.le_of_lt hm) ha') (top_root h (Nat.le_of_lt hm) hb') hne
  have hln : ((tops n ys).length : Int) = n + 1 := tops_len (by omega)
  refine ⟨h1, lab_add (k := n + 1) hL ha hb ⟨?_, fun x x0 x1 => ?_⟩ (by omega) (by rw [tops_ix ha, tops_ix hb]; exact hne)⟩
  · rw [tops, tops, List.length_map, List.length_map]
  · rw [tops_ix ⟨x0, by omega⟩, tops_ix ⟨x0, by omega⟩, tops_ix ha, tops_ix hb, h2 x ⟨x0, by omega⟩]
    by_cases e : topV ys x = topV ys a
    · rw [if_pos e, if_pos ⟨by omega, e⟩]
    · rw [if_neg e, if_neg (fun q => e q.2)]
end
/-! ### all is connected -/
section
variable {R C : Int} {H : List Int}
theorem rch_wide {G G' : RelE} {n n' b : Int} (hn : n ≤ n') (hG : ∀ x y, (0 ≤ x ∧ x < n) → (0 ≤ y ∧ y < n) → G x y = true → G' x y = true) : ∀ (d : Nat) (x : Int), (0 ≤ x ∧ x < n) → rchB G n b d x = true → rchB G' n' b d x = true := by
  intro d
  induction d with
  | zero => intro x _ h; exact h
  | succ d ih =>
    intro x hx h
    obtain ⟨k, hk, e1, e2⟩ := rch_step.1 h
    exact rch_step.2 ⟨k, ⟨hk.1, by omega⟩, hG x k hx hk e1, ih k hk e2⟩
theorem falls_led (hk : SOK R C H) {h a : Int} (h0 : 0 ≤ h) (ha : 0 ≤ a ∧ a < (H.length : Int)) (hf : fallsB C H h a = true) : ledN C H h a H.length = true := by
  obtain ⟨h1, b, hb, h2, h3⟩ := falls_iff.1 hf
  have hlow : ∀ x, (0 ≤ x ∧ x < (H.length : Int)) → highV H x = ix 0 H x := fun x hx => by rw [highV, if_neg (by omega)]
  obtain ⟨d, hd⟩ := (led_rch ha hb).1 h3
  have hbl : ix 0 H b ≤ h := by
    have key : ∀ (d : Nat) (x : Int), ix 0 H x ≤ h → rchB (gH C H h) H.length b d x = true → ix 0 H b ≤ h := by
      intro d
      induction d with
      | zero => intro x hx hr; rw [show x = b from of_decide_eq_true hr] at hx; exact hx
      | succ d ih =>
        intro x hx hr
        obtain ⟨k, hk, e1, e2⟩ := rch_step.1 hr
        exact ih k (gH_iff.1 e1).2.2 e2
    exact key d a h1 hd
  have h4 : ledN C H h a b = true := (led_rch ⟨ha.1, by omega⟩ ⟨hb.1, by omega⟩).2 ⟨d, rch_wide (by omega) (fun x y hx hy e => by
    obtain ⟨e1, e2, e3⟩ := gH_iff.1 e
    refine gN_iff.2 ⟨?_, by rw [hlow x hx]; exact e2, by rw [hlow y hy]; exact e3⟩
    rw [nearB, if_neg (by omega)]; exact e1) d a ha hd⟩
  refine led_trans ⟨ha.1, by omega⟩ ⟨hb.1, by omega⟩ ⟨by omega, by omega⟩ h4 (led_one ⟨hb.1, by omega⟩ ⟨by omega, by omega⟩ (gN_iff.2 ⟨?_, by rw [hlow b hb]; exact hbl, by rw [highV, if_pos rfl]; exact h0⟩))
  have : (H.length : Int) - C ≤ b := of_decide_eq_true h2
  rw [nearB, if_pos (.inr rfl), Bool.and_eq_true, decide_eq_true_eq, decide_eq_true_eq]; omega
theorem led_river (hk : SOK R C H) {a : Int} (ha : 0 ≤ a ∧ a ≤ (H.length : Int)) : ledN C H 30 a H.length = true := by
  by_cases e : a = (H.length : Int)
  · rw [e]; exact led_refl ⟨by omega, by omega⟩
  · exact falls_led hk (by omega) ⟨ha.1, by omega⟩ (falls_top hk.o (Int.le_refl 30) _ rfl ha.1 (by omega))
theorem led_all (hk : SOK R C H) {a b : Int} (ha : 0 ≤ a ∧ a ≤ (H.length : Int)) (hb : 0 ≤ b ∧ b ≤ (H.length : Int)) : ledN C H 30 a b = true :=
  led_trans ⟨ha.1, by omega⟩ ⟨by omega, by omega⟩ ⟨hb.1, by omega⟩ (led_river hk ha) (led_symm (rM_symm (near_symm _)) ⟨hb.1, by omega⟩ ⟨by omega, by omega⟩ (led_river hk hb))
theorem all_con (hk : SOK R C H) {a b : Int} (ha : 0 ≤ a ∧ a ≤ (H.length : Int)) (hb : 0 ≤ b ∧ b ≤ (H.length : Int)) : conF ((kru (jAll C H 0)).map Jt.e) a b = true := by
  rw [kru_con]
  exact led_con hk (Int.le_refl 30) (fun j hj _ => hj) ⟨ha.1, by omega⟩ ⟨hb.1, by omega⟩ (led_all hk ha hb)
/-! ### the joints that are taken -/
def kruP (C : Int) (H : List Int) (k : Int) : List Jt := kru ((jAll C H 0).take k.toNat)
def treeJ (C : Int) (H : List Int) : List J3 := (kru (jAll C H 0)).map Jt.t
theorem jtl_ix {k : Int} (h0 : 0 ≤ k) (h1 : k < (jTL C H).length) : ∃ (j : Jt) (post : List Jt), jAll C H 0 = (jAll C H 0).take k.toNat ++ j :: post ∧ ix ((0, 0), 0) (jTL C H) k = j.t ∧ (jAll C H 0).take (k + 1).toNat = (jAll C H 0).take k.toNat ++ [j] := by
  have hl : k.toNat < (jAll C H 0).length := by rw [jTL, List.length_map] at h1; omega
  refine ⟨(jAll C H 0)[k.toNat], (jAll C H 0).drop (k.toNat + 1), ?_, ?_, ?_⟩
  · rw [← List.drop_eq_getElem_cons hl, List.take_append_drop]
  · rw [ix, jTL, List.getD_eq_getElem?_getD, List.getElem?_map, List.getElem?_eq_getElem hl]; rfl
  · rw [show (k + 1).toNat = k.toNat + 1 by omega, List.take_succ_eq_append_getElem hl]
theorem kru_snoc (l : List Jt) (j : Jt) : kru (l ++ [j]) = kstep (kru l) j := by rw [kru, kru, List.foldl_append]; rfl
theorem kru_sub : ∀ (l : List Jt), (kru l).length ≤ l.length := by
  intro l
  induction l using snoc_ind with
  | h0 => simp [kru]
  | hs l j ih => rw [kru_snoc, kstep]; split <;> simp <;> omega
structure TrI (C : Int) (H : List Int) (a b k : Int) (ys : List Int) (out : List J3) (high : Int) : Prop where
  o : out = (kruP C H k).map Jt.t
  uf : UF out.length ys
  lab : LabI H.length (tops H.length ys) ((kruP C H k).map Jt.e)
  hi : conF ((kruP C H k).map Jt.e) a b = true → high = betwV C H a b
  bd : 0 ≤ high ∧ high ≤ 100
theorem tr_start (hk : SOK R C H) {a b : Int} (ha : 0 ≤ a ∧ a ≤ (H.length : Int)) : TrI C H a b 0 (rng 0 37) [] (highV H a) := by
  have hb := high_bd hk ha
  refine ⟨rfl, uf_start, tops_start (by omega) hk.n.2, fun hc => ?_, by omega⟩
  have e : a = b := of_decide_eq_true hc
  subst e
  exact (betw_same hk ⟨ha.1, by omega⟩).symm
theorem tr_end (hk : SOK R C H) {a b k : Int} (ha : 0 ≤ a ∧ a ≤ (H.length : Int)) (hb : 0 ≤ b ∧ b ≤ (H.length : Int)) {ys : List Int} {out : List J3} {high : Int} (hT : TrI C H a b k ys out high) (hkl : ((jTL C H).length : Int) ≤ k) : out = treeJ C H ∧ high = betwV C H a b := by
  have e : kruP C H k = kru (jAll C H 0) := by
    rw [kruP, List.take_of_length_le (by rw [jTL, List.length_map] at hkl; omega)]
  refine ⟨by rw [hT.o, e]; rfl, hT.hi (by rw [e]; exact all_con hk ha hb)⟩
theorem jtl_bd (hk : SOK R C H) {k : Int} (h0 : 0 ≤ k) (h1 : k < (jTL C H).length) : ∃ p q h : Int, ix ((0, 0), 0) (jTL C H) k = ((p, q), h) ∧ (0 ≤ p ∧ p < (H.length : Int)) ∧ (0 ≤ q ∧ q ≤ (H.length : Int)) ∧ (0 ≤ h ∧ h ≤ 30) := by
  obtain ⟨j, post, hl, hi, _⟩ := jtl_ix h0 h1
  obtain ⟨m1, m2, m3, m4⟩ := mem_jAll.1 (show j ∈ jAll C H 0 by rw [hl]; simp)
  exact ⟨j.a, j.b, j.h, hi, m2, by omega, by omega⟩
theorem tr_skip {a b k p q h : Int} {ys : List Int} {out : List J3} {high : Int} (hT : TrI C H a b k ys out high) (h0 : 0 ≤ k) (h1 : k < (jTL C H).length) (hi : ix ((0, 0), 0) (jTL C H) k = ((p, q), h)) (hp : 0 ≤ p ∧ p ≤ (H.length : Int)) (hq : 0 ≤ q ∧ q ≤ (H.length : Int)) (he : topV ys p = topV ys q) : TrI C H a b (k + 1) ys out high := by
  obtain ⟨j, post, hl, hij, ht⟩ := jtl_ix h0 h1
  have e : kruP C H (k + 1) = kruP C H k := by
    rw [kruP, ht, kru_snoc, kstep, if_pos]; rfl
    rw [hi] at hij
    have e1 : j.a = p := (congrArg (fun z : J3 => z.1.1) hij).symm
    have e2 : j.b = q := (congrArg (fun z : J3 => z.1.2) hij).symm
    rw [e1, e2]
    exact (tops_con hT.lab hp hq).2 he
  exact ⟨by rw [e]; exact hT.o, hT.uf, by rw [e]; exact hT.lab, by rw [e]; exact hT.hi, hT.bd⟩
theorem tr_take (hk : SOK R C H) {a b k p q h : Int} {ys : List Int} {out : List J3} {high : Int} (hT : TrI C H a b k ys out high) (ha : 0 ≤ a ∧ a ≤ (H.length : Int)) (hb : 0 ≤ b ∧ b ≤ (H.length : Int)) (h0 : 0 ≤ k) (h1 : k < (jTL C H).length) (hol : out.length < 1000) (hi : ix ((0, 0), 0) (jTL C H) k = ((p, q), h)) (hp : 0 ≤ p ∧ p ≤ (H.length : Int)) (hq : 0 ≤ q ∧ q ≤ (H.length : Int)) (hh : 0 ≤ h ∧ h ≤ 30) (he : ¬ topV ys p = topV ys q)
    {high' : Int} (hhi : high' = if topV ys a = topV ys b then high else h) : TrI C H a b (k + 1) (ys.set (topV ys p).toNat (topV ys q)) (out ++ [((p, q), h)]) high' := by
  obtain ⟨j, post, hl, hij, ht⟩ := jtl_ix h0 h1
  rw [hi] at hij
  have e1 : j.a = p := (congrArg (fun z : J3 => z.1.1) hij).symm
  have e2 : j.b = q := (congrArg (fun z : J3 => z.1.2) hij).symm
  have e3 : j.h = h := (congrArg (fun z : J3 => z.2) hij).symm
  have e : kruP C H (k + 1) = kruP C H k ++ [j] := by
    rw [kruP, ht, kru_snoc, kstep, if_neg]; rfl
    rw [e1, e2]
    exact fun q' => he ((tops_con hT.lab hp hq).1 q')
  obtain ⟨u1, u2⟩ := tops_link hT.uf hol hT.lab hk.n.2 hp hq he
  have hje : Jt.e j = (p, q) := by rw [Jt.e, e1, e2]
  refine ⟨by rw [e, List.map_append, ← hT.o, List.map_singleton, ← hij], by rw [List.length_append]; exact u1, by rw [e, List.map_append, List.map_singleton, hje]; exact u2, fun hc => ?_, ?_⟩
  · rw [hhi]
    by_cases hap : topV ys a = topV ys b
    · rw [if_pos hap]; exact hT.hi ((tops_con hT.lab ha hb).2 hap)
    · rw [if_neg hap, ← e3]
      refine (betw_joint hk hl ⟨ha.1, by omega⟩ ⟨hb.1, by omega⟩ ?_ ?_).symm
      · rw [← kru_con]
        cases hq' : conF ((kru ((jAll C H 0).take k.toNat)).map Jt.e) a b with
        | false => rfl
        | true => exact absurd ((tops_con hT.lab ha hb).1 hq') hap
      · rw [← ht, ← kru_con]; exact hc
  · rw [hhi]; have := hT.bd; split <;> omega
end
end Go.Proofs.YtdpdlplkngggoaaGreatDoor
namespace Go.Proofs.YtdpdlplkngggoaaGreatDoor
open Go.Wk
theorem id_rng {y : List Int} (h : y.length = 37) (hi : ∀ x, 0 ≤ x → x < 37 → ix 0 y x = x) : y = rng 0 37 := by
  apply List.ext_getElem?
  intro k
  by_cases hk : k < 37
  · have h1 := hi (k : Int) (by omega) (by omega)
    have h2 := rng_get (i := (k : Int)) (n := 37) (by omega) (by omega)
    rw [Int.toNat_natCast] at h2
    rw [h2, List.getElem?_eq_getElem (by omega)]
    rw [ix, Int.toNat_natCast, List.getD_eq_getElem?_getD, List.getElem?_eq_getElem (by omega)] at h1
    exact congrArg some h1
  · rw [List.getElem?_eq_none (by omega), List.getElem?_eq_none (by have := rng_length (i := 0) (n := 37) (by omega); omega)]
theorem tr_len {C : Int} {H : List Int} {a b k : Int} {ys : List Int} {out : List J3} {high : Int} (h : TrI C H a b k ys out high) (h0 : 0 ≤ k) : (out.length : Int) ≤ k := by
  rw [h.o, List.length_map, kruP]
  have := kru_sub ((jAll C H 0).take k.toNat)
  rw [List.length_take] at this
  omega
theorem jtl_jbd {R C : Int} {H : List Int} (hk : SOK R C H) {k : Int} (h0 : 0 ≤ k) (h1 : k < (jTL C H).length) : (0 ≤ (ix ((0, 0), 0) (jTL C H) k).1.1 ∧ (ix ((0, 0), 0) (jTL C H) k).1.1 < (H.length : Int)) ∧ (0 ≤ (ix ((0, 0), 0) (jTL C H) k).1.2 ∧ (ix ((0, 0), 0) (jTL C H) k).1.2 ≤ (H.length : Int)) ∧ (0 ≤ (ix ((0, 0), 0) (jTL C H) k).2 ∧ (ix ((0, 0), 0) (jTL C H) k).2 ≤ 30) := by
  obtain ⟨p, q, h, hi, hp, hq, hh⟩ := jtl_bd hk h0 h1
  rw [hi]; exact ⟨hp, hq, hh⟩
theorem tree_len {R C : Int} {H : List Int} (hk : SOK R C H) : ((treeJ C H).length : Int) ≤ 180 := by
  have := kru_sub (jAll C H 0)
  have h2 := jtl_len hk.o hk.c.1 hk.n.2
  rw [jTL, List.length_map] at h2
  rw [treeJ, List.length_map]; omega
theorem tree_snoc {C : Int} {H : List Int} {k : Int} {out : List Ends} (h : out = ((treeJ C H).take k.toNat).map (·.1)) (h0 : 0 ≤ k) (h1 : k < ((treeJ C H).length : Int)) : out ++ [((ix ((0, 0), 0) (treeJ C H) k).1.1, (ix ((0, 0), 0) (treeJ C H) k).1.2)] = ((treeJ C H).take (k + 1).toNat).map (·.1) := by
  rw [take_ix (d := ((0, 0), 0)) h0 h1, List.map_append, h]; rfl
theorem tree_full {C : Int} {H : List Int} {k : Int} (hk : ((treeJ C H).length : Int) ≤ k) : ((treeJ C H).take k.toNat).map (·.1) = treeV C H := by
  rw [List.take_of_length_le (by omega), treeJ, treeV, List.map_map]; rfl
end Go.Proofs.YtdpdlplkngggoaaGreatDoor
namespace Go.Proofs.YtdpdlplkngggoaaGreatDoor
end Go.Proofs.YtdpdlplkngggoaaGreatDoor

namespace Go.Wk
open Go.RowKit Go.Lib
set_option linter.unusedVariables false
variable {P : Program} {n : Nat} {kn kr k : Cont} {ke : List (Nat × Cont)} {σ : Fr} {w : World} {ops : Array Oper} {S : World → Prop}

def Wz (P : Program) (n : Nat) (ops : Array Oper) (S : World → Prop) (fuel : Nat) (listed : Array Bool) (k : Cont) (σ : Fr) (w : World) : Prop :=
  ∀ T, AtF n σ T → wpAnyH P .any ops (post n k (fun _ _ => False) []) S fuel listed ⟨T, []⟩ w

theorem W.regZ (S : World → World → Prop) {id : Nat} {l : List Oper} (hm : P.follows .mixedOrders = true) (h : ∀ w', Ext w w' → Wz P n l.toArray (S w') l.length (Array.replicate l.length false) kn σ w') (hd : noDefer l = true := by rfl) : W P n (.region id l.toArray true) kn kr ke σ w := by
  refine W.ofAny hm hd fun T hT => ?_
  have h2 := h _ (ext_drawn w) T hT
  exact wpAny_of_held (S := S _) _ _ _ _ (by simpa using h2)

theorem Wz.rd (i : Nat) {f : Nat} {listed : Array Bool} {d : Tmp} {op : Op} {ty : TypeId} {pos : String} {af : Array Edge} {v : Value} {l : List (Nat × Value)} {σ0 : Fr}
    (hi : ops[i]? = some ⟨some d, op, ty, pos, af, none⟩) (hB : (Region.noSelect ops && Region.free .any ops listed i && (Region.ready .any ops listed).contains i) = true) (hS : S w)
    (hr : ∀ w', S w' → Rd P (look l σ0) op ty w' v) (hd : Nat.ble (d + 1) n = true) (h : Wz P n ops S f (listed.setIfInBounds i true) k (look ((d, v) :: l) σ0) w) : Wz P n ops S (f + 1) listed k (look l σ0) w := by
  intro T hT
  simp only [Bool.and_eq_true] at hB
  obtain ⟨T', hT', hF⟩ := hT.put (some d) v hd []
  rw [look_cons] at h
  refine wpAnyH_take (v := v) hi hB.1.1 hB.1.2 hB.2 (fun c a w h => h.elim) (.inl ⟨rfl, fun w' hw' => ?_⟩) hS ?_
  · rw [hT.eval, execOp_xop]
    exact hr w' hw' w' (Ext.refl _)
  · rw [hT']
    exact h T' hF

theorem Wz.br (rs : List Nat) {f : Nat} {listed : Array Bool} (hr : Region.ready .any ops listed = rs) (hne : rs ≠ [])
    (h : AllI (fun i => ∃ o, ops[i]? = some o ∧ Wx P n ops false [o] (fun σ' w' => S w' ∧ Wz P n ops S f (listed.setIfInBounds i true) k σ' w') σ w) rs) : Wz P n ops S (f + 1) listed k σ w := by
  intro T hT
  refine wpAnyH_all hr hne fun i hi => ?_
  obtain ⟨o, ho, h⟩ := h.mem i hi
  have h2 : wpList P ops (post n (fun σ' w' => S w' ∧ Wz P n ops S f (listed.setIfInBounds i true) k σ' w') (fun _ _ => False) []) [o] ⟨T, []⟩ w := h T hT
  have key : ∀ a' w', post n (fun σ' w' => S w' ∧ Wz P n ops S f (listed.setIfInBounds i true) k σ' w') (fun _ _ => False) [] .normal a' w' →
      (fun a' w' => S w' ∧ wpAnyH P .any ops (post n k (fun _ _ => False) []) S f (listed.setIfInBounds i true) a' w') a' w' := by
    intro a' w' ⟨g1, g2, g4⟩
    refine ⟨g4.1, ?_⟩
    have := g4.2 a'.tmps (AtF.self g1)
    cases a'
    simp only at g2
    subst g2
    exact this
  unfold wpOp
  simp only [ho]
  unfold wpList at h2
  split
  · rename_i hw
    rw [if_pos hw] at h2
    rcases h2 with h2 | h2
    · refine .inl ?_
      unfold Oper.wp at h2 ⊢
      generalize (execOp (Act.eval ⟨T, []⟩) o).run P w = r at h2 ⊢
      cases r with
      | ok nx w' =>
        cases nx <;> simp only [Oper.upon] at h2 ⊢
        case value u => exact key _ _ h2
        case skip => exact key _ _ h2
        case defer d => exact key _ _ h2
        case enter f args =>
          refine Calls.mono h2 fun e w'' he => ?_
          cases e with
          | returned u => exact key _ _ he
          | panicked c => exact he
          | outgrown => exact he
        case row row args => exact Rows.mono h2 fun u w'' he => key _ _ he
      | halt x w' =>
        cases x <;> simp only [Oper.upon] at h2 ⊢
        case panic u => exact h2
    · exact .inr h2
  · rename_i hw
    rw [if_neg hw] at h2
    exact key _ _ h2

theorem Wz.done {f : Nat} {listed : Array Bool} (hr : Region.ready .any ops listed = []) (h : k σ w) : Wz P n ops S f listed k σ w :=
  fun T hT => wpAnyH_done hr ⟨hT.1, rfl, by rw [hT.fun_eq]; exact h⟩ f
end Go.Wk
namespace Go.Wk
end Go.Wk

namespace Go.Proofs.YtdpdlplkngggoaaGreatDoor
open Go.Wk
set_option linter.unusedVariables false
section
variable {most : Int} {zs : List Int}
end
end Go.Proofs.YtdpdlplkngggoaaGreatDoor
namespace Go.Proofs.YtdpdlplkngggoaaGreatDoor
open Go.Wk Go.RowKit
end Go.Proofs.YtdpdlplkngggoaaGreatDoor
namespace Go.Proofs.YtdpdlplkngggoaaGreatDoor
open Go.Wk
end Go.Proofs.YtdpdlplkngggoaaGreatDoor
namespace Go.Proofs.YtdpdlplkngggoaaGreatDoor
open Go.Wk
set_option linter.unusedVariables false
section
variable {R C : Int} {H ps : List Int} {h : Int}
theorem SOK.chk (hk : SOK R C H) : checkS R C H = 0 := by
  rw [checkS, if_neg (not_not_intro ⟨hk.r, hk.c⟩), if_neg (not_not_intro hk.e), if_neg]
  intro hq
  obtain ⟨x, hx, hxb⟩ := List.any_eq_true.1 hq
  have := badH_iff.2 (hk.o.b x hx)
  rw [this] at hxb; cases hxb
end
end Go.Proofs.YtdpdlplkngggoaaGreatDoor
namespace Go.Proofs.YtdpdlplkngggoaaGreatDoor
open Go.Wk
set_option linter.unusedVariables false
section
variable {R C : Int} {H ws : List Int} {p : Int}
end
end Go.Proofs.YtdpdlplkngggoaaGreatDoor
namespace Go.Proofs.YtdpdlplkngggoaaGreatDoor
open Go.Wk
set_option linter.unusedVariables false
section
variable {R C : Int} {H H2 : List Int}
end
end Go.Proofs.YtdpdlplkngggoaaGreatDoor

namespace Go.Proofs.YtdpdlplkngggoaaGreatDoor
open Go.Wk
set_option linter.unusedVariables false
section
variable {C n : Int}
end
section
variable {R C : Int} {H H2 : List Int}
end
section
variable {A : RelE} {n : Int} {f : Int → Bool}
end
section
variable {R C : Int} {H H2 : List Int}
end
end Go.Proofs.YtdpdlplkngggoaaGreatDoor

namespace Go.Proofs.YtdpdlplkngggoaaGreatDoor
open Go.Wk Go.RowKit
set_option linter.unusedVariables false
theorem and_mask {y : Int} (h0 : 1 ≤ y) (h1 : y ≤ 40) : bits .and .u64 y 4294967295 = y ∧ y / 2 ^ min (32 : Int).toNat IntKind.u64.bits = 0 := by
  have key : ∀ k : Fin 41, bits .and .u64 ((k.val : Nat) : Int) 4294967295 = ((k.val : Nat) : Int) ∧ ((k.val : Nat) : Int) / 2 ^ min (32 : Int).toNat IntKind.u64.bits = 0 := by decide +kernel
  have := key ⟨y.toNat, by omega⟩
  rw [show ((y.toNat : Nat) : Int) = y by omega] at this
  exact this
theorem rep_first {a : Int} {n : Nat} (h : 1 ≤ n) : List.take (List.replicate n (0 : Int)).length [a] ++ List.drop (min [a].length (List.replicate n (0 : Int)).length) (List.replicate n 0) = List.replicate 1 a ++ List.replicate (n - 1) 0 := by
  obtain ⟨m, rfl⟩ : ∃ m, n = m + 1 := ⟨n - 1, by omega⟩
  simp [List.replicate_succ]
theorem rep_next {a b n : Int} (h1 : 1 ≤ b) (h2 : b < n) :
    List.take (b.toNat * 1) (List.replicate b.toNat a ++ List.replicate (n.toNat - b.toNat) 0) ++
      List.take ((List.replicate b.toNat a ++ List.replicate (n.toNat - b.toNat) 0).length - b.toNat) (List.take b.toNat (List.replicate b.toNat a ++ List.replicate (n.toNat - b.toNat) 0)) ++
      List.drop (b.toNat * 1 + min (List.take b.toNat (List.replicate b.toNat a ++ List.replicate (n.toNat - b.toNat) 0)).length ((List.replicate b.toNat a ++ List.replicate (n.toNat - b.toNat) 0).length - b.toNat)) (List.replicate b.toNat a ++ List.replicate (n.toNat - b.toNat) 0) =
    List.replicate (min (b + b) n).toNat a ++ List.replicate (n.toNat - (min (b + b) n).toNat) 0 := by
  have e1 : List.take b.toNat (List.replicate b.toNat a ++ List.replicate (n.toNat - b.toNat) 0) = List.replicate b.toNat a := by
    rw [List.take_append_of_le_length (by simp)]; simp
  have e2 : (List.replicate b.toNat a ++ List.replicate (n.toNat - b.toNat) (0 : Int)).length = n.toNat := by simp; omega
  rw [Nat.mul_one, e1, e2, List.take_replicate, List.length_replicate, List.replicate_append_replicate]
  rw [List.drop_append, List.drop_eq_nil_of_le (by simp), List.nil_append, List.drop_replicate, List.length_replicate]
  congr 2 <;> omega
section
variable {R C : Int} {H : List Int} {w : Int}
end
end Go.Proofs.YtdpdlplkngggoaaGreatDoor

namespace Go.Proofs.YtdpdlplkngggoaaGreatDoor
open Go.Wk
set_option linter.unusedVariables false
section
variable {R C : Int} {H : List Int} {h p : Int}
/-! ### basins -/
/-! ### distances, found by going over all neighbours many times -/
variable {r u y : Int} {far : List Int}
end
end Go.Proofs.YtdpdlplkngggoaaGreatDoor

namespace Go.Proofs.YtdpdlplkngggoaaGreatDoor
open Go.Wk
set_option linter.unusedVariables false
/-! ### slices of slices -/
def mx (yss : List (List Int)) (x y : Int) : Int := ix 0 (ix [] yss x) y
section
variable {N : Int} {yss : List (List Int)}
end
/-! ### the heights of places, and of the river -/
section
variable {R C : Int} {H : List Int}
theorem led_high {h x y : Int} (hx : 0 ≤ x ∧ x < (H.length : Int) + 1) (hy : 0 ≤ y ∧ y < (H.length : Int) + 1) (hne : x ≠ y) (hl : ledN C H h x y = true) : highV H x ≤ h := by
  obtain ⟨d, hd⟩ := (led_rch hx hy).1 hl
  cases d with
  | zero => exact absurd (of_decide_eq_true hd) hne
  | succ d => obtain ⟨k, _, e1, _⟩ := rch_step.1 hd; exact (gN_iff.1 e1).2.1
theorem betw_le {h x y : Int} (hh : highV H x ≤ h) (hl : ledN C H h x y = true) (h30 : h ≤ 30) : betwV C H x y ≤ h := by
  rw [betwV]
  cases hq : (rng (highV H x) 30).find? fun h => ledN C H h x y with
  | none =>
    show (30 : Int) ≤ h
    refine Decidable.byContradiction fun hlt => ?_
    exact List.find?_eq_none.1 hq h (rng_mem.2 ⟨hh, by omega⟩) hl
  | some s =>
    obtain ⟨hp, us, bs, he, hlow⟩ := List.find?_eq_some_iff_append.1 hq
    show s ≤ h
    refine Decidable.byContradiction fun hgt => ?_
    have hs : s ∈ rng (highV H x) 30 := by rw [he]; simp
    have hs' := rng_mem.1 hs
    have hm : h ∈ rng (highV H x) 30 := rng_mem.2 ⟨hh, by omega⟩
    have hsrt := rng_asc (highV H x) 30
    rw [he] at hm hsrt
    rcases List.mem_append.1 hm with hm | hm
    · have := hlow h hm; rw [hl] at this; cases this
    · rcases List.mem_cons.1 hm with e | hm
      · omega
      · have := (List.pairwise_cons.1 (List.pairwise_append.1 hsrt).2.1).1 h hm; omega
end
/-! ### how many joints a tree has -/
def minB (out : List Ends) (x : Int) : Bool := (rng 0 x).all fun y => !(conF out y x)
section
variable {out : List Ends}
theorem min_iff {x : Int} : minB out x = true ↔ ∀ y, 0 ≤ y → y < x → conF out y x = false := by
  rw [minB, List.all_eq_true]
  exact ⟨fun h y y0 y1 => by have := h y (rng_mem.2 ⟨y0, y1⟩); simpa using this, fun h y hy => by rw [h y (rng_mem.1 hy).1 (rng_mem.1 hy).2]; rfl⟩
theorem min_ex : ∀ (d : Nat) {x : Int}, x.toNat = d → 0 ≤ x → ∃ m, (0 ≤ m ∧ m ≤ x) ∧ conF out m x = true ∧ minB out m = true := by
  intro d
  induction d using Nat.strongRecOn with
  | _ d ih =>
    intro x hd x0
    cases hm : minB out x with
    | true => exact ⟨x, ⟨x0, Int.le_refl _⟩, (con_eq out).r x, hm⟩
    | false =>
      rw [minB, List.all_eq_false] at hm
      obtain ⟨y, hy, hc⟩ := hm
      have hy := rng_mem.1 hy
      have hc : conF out y x = true := by simpa using hc
      obtain ⟨m, h1, h2, h3⟩ := ih y.toNat (by omega) rfl hy.1
      exact ⟨m, ⟨h1.1, by omega⟩, (con_eq out).t _ _ _ h2 hc, h3⟩
theorem min_le {m x : Int} (hm : minB out m = true) (x0 : 0 ≤ x) (hc : conF out x m = true) : m ≤ x := by
  refine Decidable.byContradiction fun h => ?_
  rw [min_iff.1 hm x x0 (by omega)] at hc; cases hc
theorem min_add {a b : Int} (ha : 0 ≤ a) (hb : 0 ≤ b) (hn : conF out a b = false) : ∃ M, (0 ≤ M ∧ M ≤ max a b) ∧ minB out M = true ∧ ∀ x, 0 ≤ x → minB (out ++ [(a, b)]) x = (minB out x && decide (x ≠ M)) := by
  have hE := con_eq out
  obtain ⟨p, p1, p2, p3⟩ := min_ex (out := out) _ rfl ha
  obtain ⟨q, q1, q2, q3⟩ := min_ex (out := out) _ rfl hb
  have hne : p ≠ q := by
    rintro rfl
    rw [hE.t _ _ _ (hE.s _ _ p2) q2] at hn; cases hn
  have new : ∀ x y, conF (out ++ [(a, b)]) x y = true ↔ conF out x y = true ∨ (conF out x a = true ∧ conF out b y = true) ∨ (conF out x b = true ∧ conF out a y = true) := fun x y => by rw [con_snoc, add_iff]
  refine ⟨max p q, ⟨by omega, by omega⟩, ?_, fun x x0 => ?_⟩
  · rcases Int.le_total p q with h | h
    · rw [Int.max_eq_right h]; exact q3
    · rw [Int.max_eq_left h]; exact p3
  · rw [Bool.eq_iff_iff, Bool.and_eq_true, decide_eq_true_eq]
    constructor
    · intro h
      refine ⟨min_iff.2 fun y y0 y1 => ?_, fun e => ?_⟩
      · cases hq : conF out y x with
        | false => rfl
        | true => have := min_iff.1 h y y0 y1; rw [(new y x).2 (.inl hq)] at this; cases this
      · have hmin : min p q < x := by omega
        have := min_iff.1 h (min p q) (by omega) hmin
        rcases Int.le_total p q with hpq | hpq
        · rw [Int.min_eq_left hpq] at this
          have ex : x = q := by omega
          rw [(new p x).2 (.inr (.inl ⟨p2, by rw [ex]; exact hE.s _ _ q2⟩))] at this; cases this
        · rw [Int.min_eq_right hpq] at this
          have ex : x = p := by omega
          rw [(new q x).2 (.inr (.inr ⟨q2, by rw [ex]; exact hE.s _ _ p2⟩))] at this; cases this
    · rintro ⟨h, hx⟩
      refine min_iff.2 fun y y0 y1 => ?_
      cases hq : conF (out ++ [(a, b)]) y x with
      | false => rfl
      | true =>
        exfalso
        rcases (new y x).1 hq with c | ⟨c1, c2⟩ | ⟨c1, c2⟩
        · rw [min_iff.1 h y y0 y1] at c; cases c
        · have e1 := min_le h q1.1 (hE.t _ _ _ q2 c2)
          have e2 := min_le q3 x0 (hE.s _ _ (hE.t _ _ _ q2 c2))
          have e3 := min_le p3 y0 (hE.t _ _ _ c1 (hE.s _ _ p2))
          omega
        · have e1 := min_le h p1.1 (hE.t _ _ _ p2 c2)
          have e2 := min_le p3 x0 (hE.s _ _ (hE.t _ _ _ p2 c2))
          have e3 := min_le q3 y0 (hE.t _ _ _ c1 (hE.s _ _ q2))
          omega
theorem filt_less {p q : Int → Bool} {M : Int} : ∀ {l : List Int}, l.Nodup → M ∈ l → p M = true → (∀ x ∈ l, q x = (p x && decide (x ≠ M))) → (l.filter p).length = (l.filter q).length + 1
  | [], _, h, _, _ => nomatch h
  | x :: l, hd, hM, hp, hq => by
    obtain ⟨h1, h2⟩ := List.pairwise_cons.1 hd
    by_cases e : x = M
    · subst e
      have hqx := hq x (by simp)
      rw [List.filter_cons_of_pos hp, List.filter_cons_of_neg (by rw [hqx]; simp), List.length_cons]
      congr 1
      congr 1
      refine List.filter_congr fun y hy => ?_
      rw [hq y (List.mem_cons_of_mem _ hy), decide_eq_true (show y ≠ x from fun e => h1 y hy e.symm), Bool.and_true]
    · have ih := filt_less h2 ((List.mem_cons.1 hM).resolve_left fun q => e q.symm) hp fun y hy => hq y (List.mem_cons_of_mem _ hy)
      have hqx := hq x (by simp)
      rw [decide_eq_true e, Bool.and_true] at hqx
      by_cases hpx : p x = true
      · rw [List.filter_cons_of_pos hpx, List.filter_cons_of_pos (by rw [hqx]; exact hpx), List.length_cons, List.length_cons, ih]
      · rw [List.filter_cons_of_neg hpx, List.filter_cons_of_neg (by rw [hqx]; exact hpx), ih]
end
section
variable {R C : Int} {H : List Int}
theorem kru_cnt {n : Int} (hn : 0 ≤ n) (l : List Jt) : (∀ j ∈ l, (0 ≤ j.a ∧ j.a ≤ n) ∧ (0 ≤ j.b ∧ j.b ≤ n)) → ((((rng 0 (n + 1)).filter (minB ((kru l).map Jt.e))).length : Int) + (kru l).length = n + 1) := by
  induction l using snoc_ind with
  | h0 =>
    intro _
    have e : (rng 0 (n + 1)).filter (minB ((kru []).map Jt.e)) = rng 0 (n + 1) := List.filter_eq_self.2 fun x hx => min_iff.2 fun y y0 y1 => decide_eq_false (by omega)
    rw [e]
    have := rng_length (i := 0) (n := n + 1) (by omega)
    show _ + ((0 : Nat) : Int) = _
    omega
  | hs l j ih =>
    intro hl
    have ih' := ih fun i hi => hl i (List.mem_append_left _ hi)
    obtain ⟨ha, hb⟩ := hl j (by simp)
    rw [kru_snoc, kstep]
    split
    · exact ih'
    · rename_i hc
      have hc' : conF ((kru l).map Jt.e) j.a j.b = false := by simpa using hc
      obtain ⟨M, hM, hmin, hall⟩ := min_add ha.1 hb.1 hc'
      have e : ((kru l ++ [j]).map Jt.e) = (kru l).map Jt.e ++ [(j.a, j.b)] := by rw [List.map_append]; rfl
      rw [e, List.length_append]
      have hd : (rng 0 (n + 1)).Nodup := (rng_asc 0 _).imp fun h e => by omega
      have := filt_less (q := minB ((kru l).map Jt.e ++ [(j.a, j.b)])) hd (rng_mem.2 ⟨hM.1, by omega⟩) hmin fun x hx => hall x (rng_mem.1 hx).1
      simp only [List.length_cons, List.length_nil]
      omega
theorem jAll_ends {j : Jt} (hj : j ∈ jAll C H 0) : (0 ≤ j.a ∧ j.a ≤ (H.length : Int)) ∧ (0 ≤ j.b ∧ j.b ≤ (H.length : Int)) := by
  obtain ⟨_, m2, m3, _⟩ := mem_jAll.1 hj
  omega
theorem tree_cnt (hk : SOK R C H) : ((treeV C H).length : Int) = H.length := by
  have h := kru_cnt (n := H.length) (by omega) (jAll C H 0) fun j hj => jAll_ends hj
  have e : (rng 0 ((H.length : Int) + 1)).filter (minB ((kru (jAll C H 0)).map Jt.e)) = [0] := by
    rw [rng_cons (show (0 : Int) < H.length + 1 by omega), List.filter_cons_of_pos (min_iff.2 fun y y0 y1 => by omega), List.filter_eq_nil_iff.2]
    intro x hx
    have hx := rng_mem.1 hx
    rw [Bool.not_eq_true]
    cases hq : minB ((kru (jAll C H 0)).map Jt.e) x with
    | false => rfl
    | true =>
      have := min_iff.1 hq 0 (Int.le_refl 0) (by omega)
      rw [all_con hk ⟨Int.le_refl 0, by omega⟩ ⟨by omega, by omega⟩] at this; cases this
  rw [e] at h
  rw [treeV, List.length_map]
  simp only [List.length_cons, List.length_nil] at h
  omega
theorem tree_is (hk : SOK R C H) : treeE R C H = treeV C H := by rw [treeE, if_pos hk.chk]
theorem kru_at (l : List Jt) : ∀ k : Nat, k < (kru l).length → ∃ pre j post, l = pre ++ j :: post ∧ kru pre = (kru l).take k ∧ (kru l)[k]? = some j ∧ conF ((kru pre).map Jt.e) j.a j.b = false := by
  induction l using snoc_ind with
  | h0 => intro k hk; exact absurd hk (Nat.not_lt_zero _)
  | hs l j ih =>
    intro k hk
    rw [kru_snoc, kstep] at hk ⊢
    split
    · rename_i hc
      rw [if_pos hc] at hk
      obtain ⟨pre, i, post, e1, e2, e3, e4⟩ := ih k hk
      exact ⟨pre, i, post ++ [j], by rw [e1]; simp, e2, e3, e4⟩
    · rename_i hc
      rw [if_neg hc, List.length_append] at hk
      by_cases h : k < (kru l).length
      · obtain ⟨pre, i, post, e1, e2, e3, e4⟩ := ih k h
        exact ⟨pre, i, post ++ [j], by rw [e1]; simp, by rw [e2, List.take_append_of_le_length (by omega)], by rw [List.getElem?_append_left h]; exact e3, e4⟩
      · simp only [List.length_cons, List.length_nil] at hk
        have : k = (kru l).length := by omega
        subst this
        exact ⟨l, j, [], rfl, by rw [List.take_append_of_le_length (Nat.le_refl _), List.take_length], by simp, by simpa using hc⟩
end
/-! ### the highest joint between two -/
def tkE (C : Int) (H : List Int) (k : Int) : List Ends := (treeV C H).take k.toNat
def teA (C : Int) (H : List Int) (k : Int) : Int := (ix (0, 0) (treeV C H) k).1
def teB (C : Int) (H : List Int) (k : Int) : Int := (ix (0, 0) (treeV C H) k).2
def hjV (C : Int) (H : List Int) (k : Int) : Int := max (highV H (teA C H k)) (highV H (teB C H k))
section
variable {R C : Int} {H : List Int} {k : Int}
theorem te_facts (hk : SOK R C H) (k0 : 0 ≤ k) (k1 : k < (treeV C H).length) :
    ((0 ≤ teA C H k ∧ teA C H k < (H.length : Int)) ∧ teA C H k < teB C H k ∧ teB C H k ≤ (H.length : Int)) ∧ nearB C H.length (teA C H k) (teB C H k) = true ∧ conF (tkE C H k) (teA C H k) (teB C H k) = false ∧ tkE C H (k + 1) = tkE C H k ++ [(teA C H k, teB C H k)] ∧ (0 ≤ hjV C H k ∧ hjV C H k ≤ 30) ∧
      (∀ x y, (0 ≤ x ∧ x ≤ (H.length : Int)) → (0 ≤ y ∧ y ≤ (H.length : Int)) → conF (tkE C H k) x y = true → x ≠ y → betwV C H x y ≤ hjV C H k) ∧
      ∀ x y, (0 ≤ x ∧ x ≤ (H.length : Int)) → (0 ≤ y ∧ y ≤ (H.length : Int)) → conF (tkE C H k) x y = false → conF (tkE C H (k + 1)) x y = true → betwV C H x y = hjV C H k := by
  have hlen : (treeV C H).length = (kru (jAll C H 0)).length := by rw [treeV, List.length_map]
  obtain ⟨pre, j, post, e1, e2, e3, e4⟩ := kru_at (jAll C H 0) k.toNat (by omega)
  have hj : j ∈ jAll C H 0 := by rw [e1]; simp
  obtain ⟨m1, m2, m3, m4⟩ := mem_jAll.1 hj
  obtain ⟨n1, n2⟩ := joint_near hk m2 m3 m1.1 m4
  have he : (treeV C H)[k.toNat]? = some (j.a, j.b) := by rw [treeV, List.getElem?_map, e3]; rfl
  have hix : ix (0, 0) (treeV C H) k = (j.a, j.b) := by rw [ix, List.getD_eq_getElem?_getD, he]; rfl
  have hA : teA C H k = j.a := by rw [teA, hix]
  have hB : teB C H k = j.b := by rw [teB, hix]
  have hh : hjV C H k = j.h := by rw [hjV, hA, hB]; exact n2
  have ht : tkE C H k = (kru pre).map Jt.e := by rw [tkE, treeV, ← List.map_take, e2]
  have ht1 : tkE C H (k + 1) = tkE C H k ++ [(j.a, j.b)] := by rw [tkE, take_ix (d := (0, 0)) k0 k1, hix, tkE]
  have hab : j.a < j.b := by
    have := m4
    rw [jointI] at this
    split at this
    · omega
    · split at this
      · rename_i h; exact h.1
      · omega
  have hs := jAll_sorted (C := C) (H := H)
  rw [e1, List.pairwise_append] at hs
  have hpre : ∀ i ∈ pre, i ∈ jAll C H 0 ∧ i.h ≤ j.h := fun i hi => ⟨by rw [e1]; exact List.mem_append_left _ hi, by rcases hs.2.2 i hi j (by simp) with q | q <;> omega⟩
  rw [hA, hB, hh]
  refine ⟨⟨m2, hab, by omega⟩, n1, by rw [ht]; exact e4, by rw [ht1], ⟨m1.1, by omega⟩, fun x y hx hy hc hne => ?_, fun x y hx hy hno hyes => ?_⟩
  · rw [ht, kru_con] at hc
    have hl := con_led hk hpre ⟨hx.1, by omega⟩ ⟨hy.1, by omega⟩ hc
    exact betw_le (led_high ⟨hx.1, by omega⟩ ⟨hy.1, by omega⟩ hne hl) hl (by omega)
  · refine betw_joint hk e1 ⟨hx.1, by omega⟩ ⟨hy.1, by omega⟩ (by rw [ht, kru_con] at hno; exact hno) ?_
    rw [ht1, ht] at hyes
    rw [List.map_append, List.map_singleton, con_snoc, add_iff]
    rw [con_snoc, add_iff] at hyes
    simp only [kru_con] at hyes
    exact hyes
variable {ys0 yss : List (List Int)} {p q : Int}
end
/-! ### the lowest ways, found by trying all places in between -/
section
variable {R C : Int} {H : List Int} {yss : List (List Int)} {M p q : Int}
end
end Go.Proofs.YtdpdlplkngggoaaGreatDoor

namespace Go.Proofs.YtdpdlplkngggoaaGreatDoor
open Go.Wk
set_option linter.unusedVariables false
section
variable {R C : Int} {H : List Int}
end
end Go.Proofs.YtdpdlplkngggoaaGreatDoor

namespace Go.Proofs.YtdpdlplkngggoaaGreatDoor
open Go.Wk
set_option linter.unusedVariables false
abbrev Rws := List (List Int)
abbrev Tab := List Int
def teN (t : Tab) : Int := ix 0 t 0
def taF (t : Tab) (e : Int) : Int := ix 0 t (1 + e)
def tpF (t : Tab) (e : Int) : Int := ix 0 t (17 + e)
def tnN (t : Tab) : Int := ix 0 t 33
def tabStep (l : List Int) (t : Tab) (j : Int) : Tab := (t.set (1 + ix 0 l j).toNat (ix 0 l ((j + 1) % l.length))).set (17 + ix 0 l j).toNat (tnN t)
def tabIn (l : List Int) (k : Int) (t : Tab) : Tab := (rng 0 k).foldl (tabStep l) t
def tabS (t : Tab) (l : List Int) : Tab := if l.length = 0 then t else ((tabIn l l.length t).set 0 (teN (tabIn l l.length t) + l.length)).set 33 (tnN (tabIn l l.length t) + 1)
def tab0 : Tab := List.replicate 34 0
def tabV (ls : Rws) : Tab := ls.foldl tabS tab0
def itF (f : Int → Int) : Nat → Int → Int
  | 0, x => x
  | k + 1, x => f (itF f k x)
def perF (f : Int → Int) (x : Int) : Nat := ((List.range 17).find? fun k => decide (1 ≤ k) && decide (itF f k x = x)).getD 1
def orbF (f : Int → Int) (x : Int) (k : Nat) : List Int := (List.range k).map fun i => itF f i x
def cycS (f : Int → Int) (s : Rws) (x : Int) : Rws := if s.any (fun l => hasL l x) = true then s else s ++ [orbF f x (perF f x)]
def cycV (ends : Int) (f : Int → Int) : Rws := (rng 0 ends).foldl (cycS f) []
def othL : List Int := [1, 0, 3, 2, 5, 4, 7, 6, 9, 8, 11, 10, 13, 12, 15, 14]
def arndF (t : Tab) (e : Int) : Int := taF t e
def alngF (t : Tab) (e : Int) : Int := taF t (ix 0 othL e)
def labS (s : List Int × Int) (e : Ends) : List Int × Int := if ix 0 s.1 e.1 = ix 0 s.1 e.2 then s else (s.1.map fun x => if x = ix 0 s.1 e.1 then ix 0 s.1 e.2 else x, s.2 - 1)
def labV (n : Int) (es : List Ends) : List Int × Int := es.foldl labS (rng 0 n, n)
def edgT (t : Tab) : List Ends := (rng 0 (teN t / 2)).map fun i => (tpF t (2 * i), tpF t (2 * i + 1))
def partT (t : Tab) : Int := (labV (tnN t) (edgT t)).2
def cutL (line : Int) (l : List Int) : List Int := l.flatMap fun e => if e < 2 * line then [e] else if 2 * line + 1 < e then [e - 2] else []
def cutV (ls : Rws) (line : Int) : Rws := cycV (teN (tabV (ls.map (cutL line)))) (arndF (tabV (ls.map (cutL line))))
def genT (t : Tab) : Int := partT t - (tnN t - teN t / 2 + (cycV (teN t) (alngF t)).length) / 2
/-! ### six small shores -/
def lineL (R C : Int) : List Ends := (rng 0 (R * C)).flatMap fun p => (if p % C < C - 1 then [(p, p + 1)] else []) ++ (if p + C < R * C then [(p, p + C)] else [])
def idxE (x : Ends) : Int → List Ends → Int
  | _, [] => -1
  | i, y :: l => if y = x then i else idxE x (i + 1) l
def aroundP (C : Int) (L : List Ends) (p : Int) : List Int := [(p, p + 1), (p - C, p), (p - 1, p), (p, p + C)].flatMap fun x => if idxE x 0 L < 0 then [] else if x.1 = p then [2 * idxE x 0 L] else [2 * idxE x 0 L + 1]
def gridM (R C : Int) : Rws := (rng 0 (R * C)).map (aroundP C (lineL R C))
def sizeL : List Ends := [(1, 2), (2, 2), (2, 3), (3, 2), (1, 6), (1, 4)]
def keptL (L : List Ends) (keep : List Bool) : List Ends := ((List.range L.length).filter fun k => keep.getD k false).map fun k => L.getD k (0, 0)
def aloneN (n : Int) (es : List Ends) : Nat := ((rng 0 n).filter fun p => !(es.any fun e => decide (e.1 = p) || decide (e.2 = p))).length
def gridOK (s : Ends) : Bool := decide (genT (tabV (gridM s.1 s.2)) = 0) && decide (partT (tabV (gridM s.1 s.2)) = 1) && decide (((cycV (teN (tabV (gridM s.1 s.2))) (alngF (tabV (gridM s.1 s.2)))).length : Int) = (s.1 - 1) * (s.2 - 1) + 1)
theorem grid_ok : sizeL.all gridOK = true := by decide +kernel
end Go.Proofs.YtdpdlplkngggoaaGreatDoor

namespace Go.Proofs.YtdpdlplkngggoaaGreatDoor
open Go.Wk
set_option linter.unusedVariables false
theorem nodup_leG {α : Type} [DecidableEq α] {l m : List α} (h : l.Nodup) (hs : ∀ x ∈ l, x ∈ m) : l.length ≤ m.length := by
  induction l generalizing m with
  | nil => exact Nat.zero_le _
  | cons a l ih =>
    obtain ⟨h1, h2⟩ := List.pairwise_cons.1 h
    have hma := hs a (by simp)
    have := ih (m := m.erase a) h2 fun x hx => by
      have hxa : x ≠ a := fun e => h1 x hx e.symm
      exact (List.mem_erase_of_ne hxa).2 (hs x (List.mem_cons_of_mem _ hx))
    rw [List.length_erase_of_mem hma] at this
    have := List.length_pos_of_mem hma
    rw [List.length_cons]; omega
theorem filt_split {α : Type} (p : α → Bool) : ∀ l : List α, (l.filter p).length + (l.filter fun x => !(p x)).length = l.length
  | [] => rfl
  | x :: l => by
    have := filt_split p l
    cases h : p x <;> simp [h] <;> omega
def jtE (e : Ends) : Jt := ⟨e.1, e.2, 0⟩
def accE (es : List Ends) (out : List Ends) : List Ends := (es.map jtE).foldl kstepE out
theorem acc_kru (es : List Ends) : accE es [] = (kru (es.map jtE)).map Jt.e := (kru_ends _).symm
theorem acc_con (es : List Ends) (x y : Int) : conF (accE es []) x y = conF es x y := by
  rw [acc_kru, kru_con]
  congr 1
  rw [List.map_map]
  have : (Jt.e ∘ jtE) = id := by funext e; rfl
  rw [this, List.map_id]
theorem acc_le : ∀ (es out : List Ends), (accE es out).length ≤ out.length + es.length
  | [], out => Nat.le_refl _
  | e :: es, out => by
    have h := acc_le es (kstepE out (jtE e))
    have h2 : (kstepE out (jtE e)).length ≤ out.length + 1 := by rw [kstepE]; split <;> simp
    have h3 : accE (e :: es) out = accE es (kstepE out (jtE e)) := rfl
    rw [h3, List.length_cons]; omega
theorem acc_app (es fs out : List Ends) : accE (es ++ fs) out = accE fs (accE es out) := by rw [accE, List.map_append, List.foldl_append]; rfl
theorem acc_cnt {n : Int} (hn : 0 ≤ n) {es : List Ends} (h : ∀ e ∈ es, (0 ≤ e.1 ∧ e.1 ≤ n) ∧ (0 ≤ e.2 ∧ e.2 ≤ n)) : ((((rng 0 (n + 1)).filter (minB (accE es []))).length : Int) + (accE es []).length = n + 1) := by
  have := kru_cnt hn (es.map jtE) fun j hj => by
    obtain ⟨e, he, rfl⟩ := List.mem_map.1 hj
    exact h e he
  rw [acc_kru, List.length_map]; exact this
section
variable {R C : Int} {H : List Int}
theorem treeV_at (hk : SOK R C H) {k : Nat} (h : k < (treeV C H).length) : ∃ e, (treeV C H)[k]? = some e ∧ ((0 ≤ e.1 ∧ e.1 < (H.length : Int)) ∧ e.1 < e.2 ∧ e.2 ≤ (H.length : Int)) ∧ nearB C H.length e.1 e.2 = true ∧ conF ((treeV C H).take k) e.1 e.2 = false := by
  obtain ⟨h1, h2, h3, _⟩ := te_facts hk (k := (k : Int)) (by omega) (by omega)
  refine ⟨(treeV C H)[k], List.getElem?_eq_getElem h, ?_⟩
  have e : ix (0, 0) (treeV C H) (k : Int) = (treeV C H)[k] := by rw [ix, Int.toNat_natCast, List.getD_eq_getElem?_getD, List.getElem?_eq_getElem h]; rfl
  rw [teA, teB, e] at h1 h2 h3
  exact ⟨h1, h2, h3⟩
theorem treeV_mem (hk : SOK R C H) {e : Ends} (he : e ∈ treeV C H) : ((0 ≤ e.1 ∧ e.1 < (H.length : Int)) ∧ e.1 < e.2 ∧ e.2 ≤ (H.length : Int)) ∧ nearB C H.length e.1 e.2 = true := by
  obtain ⟨k, h, rfl⟩ := List.mem_iff_getElem.1 he
  obtain ⟨e', h1, h2, h3, _⟩ := treeV_at hk h
  rw [List.getElem?_eq_getElem h, Option.some.injEq] at h1
  rw [h1]; exact ⟨h2, h3⟩
theorem treeV_nodup (hk : SOK R C H) : (treeV C H).Nodup := by
  rw [List.Nodup, List.pairwise_iff_getElem]
  intro i j hi hj hij e
  obtain ⟨e', h1, _, _, h2⟩ := treeV_at hk hj
  rw [List.getElem?_eq_getElem hj, Option.some.injEq] at h1
  have hm : (treeV C H)[j] ∈ (treeV C H).take j := by
    rw [← e]
    refine List.mem_of_getElem? (i := i) ?_
    rw [List.getElem?_take, if_pos hij, List.getElem?_eq_getElem hi]
  have := con_edge hm
  rw [h1] at this
  rw [this] at h2; cases h2
theorem sub_acc (hk : SOK R C H) {E : List Ends} (hd : E.Nodup) (hs : ∀ e ∈ E, e ∈ treeV C H) : (accE E []).length = E.length := by
  have hT : ∀ e ∈ treeV C H, (0 ≤ e.1 ∧ e.1 ≤ (H.length : Int)) ∧ (0 ≤ e.2 ∧ e.2 ≤ (H.length : Int)) := fun e he => by have := (treeV_mem hk he).1; omega
  let F := (treeV C H).filter fun e => !(decide (e ∈ E))
  have hF : ∀ e ∈ F, e ∈ treeV C H := fun e he => (List.mem_filter.1 he).1
  have hall : ∀ x y, conF (treeV C H) x y = true → conF (E ++ F) x y = true := con_least (con_eq _) _ fun e he => by
    refine con_edge (List.mem_append.2 ?_)
    by_cases h : e ∈ E
    · exact .inl h
    · exact .inr (List.mem_filter.2 ⟨he, by simp [h]⟩)
  have hEF : ∀ e ∈ E ++ F, e ∈ treeV C H := fun e he => by
    rcases List.mem_append.1 he with h | h
    · exact hs e h
    · exact hF e h
  have hc := acc_cnt (n := H.length) (by omega) (es := E ++ F) fun e he => hT e (hEF e he)
  have e1 : (rng 0 ((H.length : Int) + 1)).filter (minB (accE (E ++ F) [])) = [0] := by
    rw [rng_cons (show (0 : Int) < H.length + 1 by omega), List.filter_cons_of_pos (min_iff.2 fun y y0 y1 => by omega), List.filter_eq_nil_iff.2]
    intro x hx
    have hx := rng_mem.1 hx
    rw [Bool.not_eq_true]
    cases hq : minB (accE (E ++ F) []) x with
    | false => rfl
    | true =>
      have := min_iff.1 hq 0 (Int.le_refl 0) (by omega)
      rw [acc_con, hall 0 x (all_con hk ⟨Int.le_refl 0, by omega⟩ ⟨by omega, by omega⟩)] at this; cases this
  rw [e1] at hc
  simp only [List.length_cons, List.length_nil] at hc
  have h1 : (accE (E ++ F) []).length ≤ (accE E []).length + F.length := by rw [acc_app]; exact acc_le F _
  have h2 := acc_le E []
  have h3 := tree_cnt hk
  have h4 : F.length + E.length ≤ (treeV C H).length := by
    have : ((treeV C H).filter fun e => decide (e ∈ E)).length + F.length = (treeV C H).length := by
      exact filt_split _ _
    have h5 := nodup_leG hd (m := (treeV C H).filter fun e => decide (e ∈ E)) fun e he => List.mem_filter.2 ⟨hs e he, by simpa using he⟩
    omega
  simp only [List.length_nil] at h2
  omega
end
/-! ### labels -/
theorem lab_step {n : Int} {l out : List Int × Int} {es : List Ends} {e : Ends} (hn : 1 ≤ n) (hL : LabI (n - 1) l.1 es) (he : (0 ≤ e.1 ∧ e.1 < n) ∧ (0 ≤ e.2 ∧ e.2 < n)) : LabI (n - 1) (labS l e).1 (kstepE es (jtE e)) ∧ (labS l e).2 = l.2 - ((kstepE es (jtE e)).length - es.length) := by
  have hc := lab_con hL (a := e.1) (b := e.2) ⟨he.1.1, by omega⟩ ⟨he.2.1, by omega⟩
  rw [labS, kstepE]
  by_cases h : ix 0 l.1 e.1 = ix 0 l.1 e.2
  · rw [if_pos h, if_pos (show conF es (jtE e).a (jtE e).b = true from hc.2 h)]
    exact ⟨hL, by omega⟩
  · rw [if_neg h, if_neg (show ¬ conF es (jtE e).a (jtE e).b = true from fun q => h (hc.1 q))]
    refine ⟨?_, by simp; omega⟩
    show LabI (n - 1) _ (es ++ [(e.1, e.2)])
    refine lab_add hL ⟨he.1.1, by omega⟩ ⟨he.2.1, by omega⟩ (k := l.1.length) ⟨by simp, fun x x0 x1 => ?_⟩ (Int.le_refl _) h
    rw [ix, List.getD_eq_getElem?_getD, List.getElem?_map, ix_get (d := 0) x1 x0, Option.map_some, Option.getD_some]
    by_cases hx : ix 0 l.1 x = ix 0 l.1 e.1
    · rw [if_pos hx, if_pos ⟨x1, hx⟩]
    · rw [if_neg hx, if_neg (fun q => hx q.2)]
theorem lab_fold {n : Int} (hn : 1 ≤ n) : ∀ (es : List Ends) {l : List Int × Int} {out : List Ends}, (∀ e ∈ es, (0 ≤ e.1 ∧ e.1 < n) ∧ (0 ≤ e.2 ∧ e.2 < n)) → LabI (n - 1) l.1 out → (es.foldl labS l).2 = l.2 - ((accE es out).length - out.length)
  | [], l, out, _, _ => by show l.2 = _; rw [show accE [] out = out from rfl]; omega
  | e :: es, l, out, h, hL => by
    obtain ⟨h1, h2⟩ := lab_step (out := l) hn hL (h e (by simp))
    have := lab_fold hn es (fun f hf => h f (List.mem_cons_of_mem _ hf)) h1
    rw [List.foldl_cons, this, h2, show accE (e :: es) out = accE es (kstepE out (jtE e)) from rfl]; omega
theorem labV_acc {n : Int} (hn : 1 ≤ n) {es : List Ends} (h : ∀ e ∈ es, (0 ≤ e.1 ∧ e.1 < n) ∧ (0 ≤ e.2 ∧ e.2 < n)) : (labV n es).2 = n - (accE es []).length := by
  have hs := lab_start (n := n - 1) (by omega)
  rw [show n - 1 + 1 = n by omega] at hs
  have := lab_fold hn es (l := (rng 0 n, n)) (out := []) h hs
  rw [labV, this]; simp
end Go.Proofs.YtdpdlplkngggoaaGreatDoor

namespace Go.Proofs.YtdpdlplkngggoaaGreatDoor
open Go.Wk
set_option linter.unusedVariables false
def lineOK (s : Ends) : Bool := decide (lineL s.1 s.2).Nodup && (lineL s.1 s.2).all fun e => decide ((0 ≤ e.1 ∧ e.1 < e.2) ∧ e.2 < s.1 * s.2)
theorem lines_ok : sizeL.all lineOK = true := by decide +kernel
section
variable {R C : Int} {H : List Int}
theorem line_mem (hk : SOK R C H) {e : Ends} (he : e ∈ treeV C H) (hn : e.2 ≠ (H.length : Int)) : e ∈ lineL R C := by
  obtain ⟨⟨⟨h1, h2⟩, h3, h4⟩, h5⟩ := treeV_mem hk he
  rw [nearB, if_neg (by omega), adj_iff hk.c.1] at h5
  rw [lineL, List.mem_flatMap]
  refine ⟨e.1, rng_mem.2 ⟨h1, by rw [← hk.e]; exact h2⟩, List.mem_append.2 ?_⟩
  have hc := hk.c.1
  rcases h5 with h | ⟨h, _⟩ | ⟨h, hm⟩ | h
  · omega
  · omega
  · left
    have h7 := Int.emod_nonneg e.1 (show C ≠ 0 by omega)
    have h8 := Int.emod_lt_of_pos e.1 (show 0 < C by omega)
    have h9 : e.1 % C < C - 1 := by
      refine Decidable.byContradiction fun hge => hm ?_
      have h6 := Int.mul_ediv_add_emod e.1 C
      have : e.1 + 1 = C * (e.1 / C + 1) := by rw [Int.mul_add]; omega
      rw [this]; exact Int.mul_emod_right C _
    rw [if_pos h9, List.mem_singleton]
    exact Prod.ext rfl h
  · right
    rw [if_pos (by rw [← hk.e]; omega), List.mem_singleton]
    exact Prod.ext rfl h
def keepL (C : Int) (H : List Int) (L : List Ends) : List Bool := L.map fun e => decide (e ∈ treeV C H)
theorem keep_get {L : List Ends} {k : Nat} (h : k < L.length) : (keepL C H L).getD k false = decide (L.getD k (0, 0) ∈ treeV C H) := by
  rw [keepL, List.getD_eq_getElem?_getD, List.getD_eq_getElem?_getD, List.getElem?_map, List.getElem?_eq_getElem h]; rfl
theorem kept_mem {L : List Ends} {e : Ends} : e ∈ keptL L (keepL C H L) ↔ e ∈ L ∧ e ∈ treeV C H := by
  rw [keptL, List.mem_map]
  constructor
  · rintro ⟨k, hk, rfl⟩
    rw [List.mem_filter, List.mem_range] at hk
    obtain ⟨h1, h2⟩ := hk
    rw [keep_get h1] at h2
    refine ⟨?_, of_decide_eq_true h2⟩
    rw [List.getD_eq_getElem?_getD, List.getElem?_eq_getElem h1]; exact List.getElem_mem h1
  · rintro ⟨h1, h2⟩
    obtain ⟨k, hk, rfl⟩ := List.mem_iff_getElem.1 h1
    have e : L.getD k (0, 0) = L[k] := by rw [List.getD_eq_getElem?_getD, List.getElem?_eq_getElem hk]; rfl
    exact ⟨k, List.mem_filter.2 ⟨List.mem_range.2 hk, by rw [keep_get hk, e]; exact decide_eq_true h2⟩, e⟩
theorem kept_nodup {L : List Ends} (hd : L.Nodup) {keep : List Bool} : (keptL L keep).Nodup := by
  rw [keptL, List.Nodup, List.pairwise_map]
  refine List.Pairwise.imp_of_mem ?_ ((List.pairwise_lt_range (n := L.length)).filter _)
  intro a b ha hb hab e
  have ha := List.mem_range.1 (List.mem_filter.1 ha).1
  have hb := List.mem_range.1 (List.mem_filter.1 hb).1
  rw [List.getD_eq_getElem?_getD, List.getD_eq_getElem?_getD, List.getElem?_eq_getElem ha, List.getElem?_eq_getElem hb] at e
  exact List.pairwise_iff_getElem.1 hd a b ha hb hab e
def riverN (C : Int) (H : List Int) : Nat := ((treeV C H).filter fun e => decide (e.2 = (H.length : Int))).length
theorem grid_river {s : Ends} (hs : s ∈ sizeL) (hk : SOK s.1 s.2 H) : (labV (s.1 * s.2) (keptL (lineL s.1 s.2) (keepL s.2 H (lineL s.1 s.2)))).2 = riverN s.2 H := by
  have h3 := List.all_eq_true.1 lines_ok s hs
  rw [lineOK, Bool.and_eq_true, decide_eq_true_eq, List.all_eq_true] at h3
  obtain ⟨hd, hl⟩ := h3
  have hl : ∀ e ∈ lineL s.1 s.2, (0 ≤ e.1 ∧ e.1 < e.2) ∧ e.2 < s.1 * s.2 := fun e he => of_decide_eq_true (hl e he)
  have hN : s.1 * s.2 = (H.length : Int) := hk.e.symm
  have hkd := kept_nodup (keep := keepL s.2 H (lineL s.1 s.2)) hd
  rw [labV_acc (by rw [hN]; exact hk.n.1) fun e he => by
    have := hl e (kept_mem.1 he).1
    omega]
  rw [sub_acc hk hkd fun e he => (kept_mem.1 he).2, hN]
  have h4 := tree_cnt hk
  have h5 := filt_split (fun e : Ends => decide (e.2 = (H.length : Int))) (treeV s.2 H)
  have h6 : ((treeV s.2 H).filter fun e => !(decide (e.2 = (H.length : Int)))).length = (keptL (lineL s.1 s.2) (keepL s.2 H (lineL s.1 s.2))).length := by
    refine Nat.le_antisymm (nodup_leG ((treeV_nodup hk).filter _) fun e he => ?_) (nodup_leG hkd fun e he => ?_)
    · rw [List.mem_filter] at he
      exact kept_mem.2 ⟨line_mem hk he.1 (by simpa using he.2), he.1⟩
    · obtain ⟨a, b⟩ := kept_mem.1 he
      have := hl e a
      exact List.mem_filter.2 ⟨b, by simp; omega⟩
  rw [riverN]
  omega
end
end Go.Proofs.YtdpdlplkngggoaaGreatDoor

namespace Go.Proofs.YtdpdlplkngggoaaGreatDoor
open Go.Wk
set_option linter.unusedVariables false
def permB (n : Int) (f : Int → Int) : Bool := (decide (n ≤ 16) && (rng 0 n).all fun x => decide (0 ≤ f x) && decide (f x < n)) && decide ((rng 0 n).map f).Nodup
section
variable {n x : Int} {f : Int → Int}
theorem perm_rng (h : permB n f = true) (hx : 0 ≤ x ∧ x < n) : 0 ≤ f x ∧ f x < n := by
  rw [permB, Bool.and_eq_true, Bool.and_eq_true, List.all_eq_true] at h
  have := h.1.2 x (rng_mem.2 hx)
  rw [Bool.and_eq_true, decide_eq_true_eq, decide_eq_true_eq] at this
  exact this
theorem perm_inj (h : permB n f = true) {y : Int} (hx : 0 ≤ x ∧ x < n) (hy : 0 ≤ y ∧ y < n) (e : f x = f y) : x = y := by
  rw [permB, Bool.and_eq_true, decide_eq_true_eq, List.Nodup, List.pairwise_map, List.pairwise_iff_getElem] at h
  have hl := rng_length (i := 0) (n := n) (by omega)
  have key : ∀ u v : Int, (0 ≤ u ∧ u < n) → (0 ≤ v ∧ v < n) → u < v → f u ≠ f v := fun u v hu hv huv q => by
    have hu' : u.toNat < (rng 0 n).length := by omega
    have hv' : v.toNat < (rng 0 n).length := by omega
    have := h.2 u.toNat v.toNat hu' hv' (by omega)
    have eu : (rng 0 n)[u.toNat] = u := by have := rng_get hu.1 hu.2; rw [List.getElem?_eq_getElem hu'] at this; exact Option.some.inj this
    have ev : (rng 0 n)[v.toNat] = v := by have := rng_get hv.1 hv.2; rw [List.getElem?_eq_getElem hv'] at this; exact Option.some.inj this
    rw [eu, ev] at this
    exact this q
  rcases Int.lt_trichotomy x y with q | q | q
  · exact absurd e (key x y hx hy q)
  · exact q
  · exact absurd e.symm (key y x hy hx q)
theorem it_rng (h : permB n f = true) (hx : 0 ≤ x ∧ x < n) : ∀ k, 0 ≤ itF f k x ∧ itF f k x < n
  | 0 => hx
  | k + 1 => perm_rng (f := f) h (it_rng h hx k)
theorem it_can (h : permB n f = true) (hx : 0 ≤ x ∧ x < n) : ∀ i d : Nat, itF f (i + d) x = itF f i x → itF f d x = x
  | 0, d, e => by rw [Nat.zero_add] at e; exact e
  | i + 1, d, e => by
    rw [show i + 1 + d = (i + d) + 1 by omega] at e
    exact it_can h hx i d (perm_inj h (it_rng h hx _) (it_rng h hx _) e)
theorem it_ex (h : permB n f = true) (hx : 0 ≤ x ∧ x < n) : ∃ k ∈ List.range 17, (decide (1 ≤ k) && decide (itF f k x = x)) = true := by
  have h16 : n ≤ 16 := by
    rw [permB, Bool.and_eq_true, Bool.and_eq_true, decide_eq_true_eq] at h; exact h.1.1
  refine Classical.byContradiction fun hno => ?_
  have hno' : ∀ k, 1 ≤ k → k < 17 → itF f k x ≠ x := fun k k1 k2 e => hno ⟨k, List.mem_range.2 k2, by rw [decide_eq_true k1, decide_eq_true e]; rfl⟩
  have hd : ((List.range (n.toNat + 1)).map fun k => itF f k x).Nodup := by
    rw [List.Nodup, List.pairwise_map]
    refine List.Pairwise.imp_of_mem ?_ (List.pairwise_lt_range (n := n.toNat + 1))
    intro a b ha hb hab e
    have hb := List.mem_range.1 hb
    have := it_can h hx a (b - a) (by rw [show a + (b - a) = b by omega]; exact e.symm)
    exact hno' (b - a) (by omega) (by omega) this
  have := short_of (n := n) (by omega) hd fun y hy => by
    obtain ⟨k, _, rfl⟩ := List.mem_map.1 hy
    exact it_rng h hx k
  rw [List.length_map, List.length_range] at this
  omega
theorem per_spec (h : permB n f = true) (hx : 0 ≤ x ∧ x < n) : (1 ≤ perF f x ∧ perF f x ≤ 16) ∧ itF f (perF f x) x = x ∧ ∀ k, 1 ≤ k → k < perF f x → itF f k x ≠ x := by
  obtain ⟨k, hk, hp⟩ := it_ex h hx
  rw [perF]
  cases hf : (List.range 17).find? fun k => decide (1 ≤ k) && decide (itF f k x = x) with
  | none => exact absurd hp (List.find?_eq_none.1 hf k hk)
  | some m =>
    show (1 ≤ m ∧ m ≤ 16) ∧ itF f m x = x ∧ _
    obtain ⟨hq, us, bs, he, hl⟩ := List.find?_eq_some_iff_append.1 hf
    rw [Bool.and_eq_true, decide_eq_true_eq, decide_eq_true_eq] at hq
    have hm : m ∈ List.range 17 := by rw [he]; simp
    have hm' := List.mem_range.1 hm
    refine ⟨⟨hq.1, by omega⟩, hq.2, fun j j1 j2 e => ?_⟩
    have j2 : j < m := j2
    have hj : j ∈ List.range 17 := List.mem_range.2 (by omega)
    have hs : (List.range 17).Pairwise (· < ·) := List.pairwise_lt_range
    rw [he] at hj hs
    rcases List.mem_append.1 hj with hj | hj
    · have := hl j hj
      rw [decide_eq_true j1, decide_eq_true e] at this; cases this
    · rcases List.mem_cons.1 hj with rfl | hj
      · omega
      · have := (List.pairwise_cons.1 (List.pairwise_append.1 hs).2.1).1 j hj; omega
def CyI (f : Int → Int) (x : Int) (out : Rws) (j : Nat) (l : List Int) (e : Int) (met : List Bool) : Prop := (l = orbF f x j ∧ e = itF f j x) ∧ j < perF f x ∧ met.length = 16 ∧ ∀ y : Int, 0 ≤ y → y < 16 → met.getD y.toNat false = (out.any (fun l => hasL l y) || hasL (orbF f x j) y)
def MetB (out : Rws) (met : List Bool) : Prop := met.length = 16 ∧ ∀ y : Int, 0 ≤ y → y < 16 → met.getD y.toNat false = out.any (fun l => hasL l y)
theorem met0 : MetB [] (List.replicate 16 false) := ⟨rfl, fun y y0 y1 => by
  rw [List.getD_eq_getElem?_getD, List.getElem?_replicate, if_pos (by omega)]; rfl⟩
theorem orb_next {j : Nat} : orbF f x (j + 1) = orbF f x j ++ [itF f j x] := by rw [orbF, orbF, List.range_succ, List.map_append]; rfl
theorem cy_start (h : permB n f = true) (hx : 0 ≤ x ∧ x < n) {out : Rws} {met : List Bool} (hm : MetB out met) : CyI f x out 0 [] x met := ⟨⟨rfl, rfl⟩, (per_spec h hx).1.1, hm.1, fun y y0 y1 => by rw [hm.2 y y0 y1]; simp [orbF, hasL]⟩
theorem hasL_snoc {l : List Int} {a y : Int} : hasL (l ++ [a]) y = (hasL l y || decide (a = y)) := by
  rw [Bool.eq_iff_iff, Bool.or_eq_true, hasL_iff, hasL_iff, List.mem_append, List.mem_singleton, decide_eq_true_eq]
  exact ⟨fun q => q.imp id Eq.symm, fun q => q.imp id Eq.symm⟩
theorem met_set {j : Nat} {e : Int} {out : Rws} {met : List Bool} (hl : met.length = 16) (h : ∀ y : Int, 0 ≤ y → y < 16 → met.getD y.toNat false = (out.any (fun l => hasL l y) || hasL (orbF f x j) y)) (he : e = itF f j x) (e0 : 0 ≤ e) (e1 : e < 16) :
    ∀ y : Int, 0 ≤ y → y < 16 → (met.set e.toNat true).getD y.toNat false = (out.any (fun l => hasL l y) || hasL (orbF f x (j + 1)) y) := fun y y0 y1 => by
  rw [orb_next, hasL_snoc, ← he]
  have hy := h y y0 y1
  rw [List.getD_eq_getElem?_getD] at hy ⊢
  rw [List.getElem?_set]
  by_cases q : e = y
  · subst q; rw [if_pos rfl, if_pos (by omega)]; simp
  · rw [if_neg (by omega), hy, decide_eq_false q, Bool.or_false]
theorem cy_next (h : permB n f = true) (hx : 0 ≤ x ∧ x < n) (hn : n ≤ 16) {out : Rws} {j : Nat} {l : List Int} {e : Int} {met : List Bool} (hI : CyI f x out j l e met) (hne : f e ≠ x) : CyI f x out (j + 1) (l ++ [e]) (f e) (met.set e.toNat true) := by
  obtain ⟨⟨h1, h2⟩, h3, h4, h5⟩ := hI
  have hr := it_rng h hx j
  have hp := per_spec h hx
  refine ⟨⟨by rw [orb_next, h1, h2], by rw [h2]; rfl⟩, ?_, by rw [List.length_set]; exact h4, met_set h4 h5 h2 (by omega) (by omega)⟩
  refine Decidable.byContradiction fun hge => hne ?_
  have : j + 1 = perF f x := by omega
  have := hp.2.1
  rw [← ‹j + 1 = perF f x›] at this
  rw [h2]; exact this
theorem cy_end (h : permB n f = true) (hx : 0 ≤ x ∧ x < n) (hn : n ≤ 16) {out : Rws} {j : Nat} {l : List Int} {e : Int} {met : List Bool} (hI : CyI f x out j l e met) (he : f e = x) : l ++ [e] = orbF f x (perF f x) ∧ MetB (out ++ [l ++ [e]]) (met.set e.toNat true) := by
  obtain ⟨⟨h1, h2⟩, h3, h4, h5⟩ := hI
  have hr := it_rng h hx j
  have hp := per_spec h hx
  have hj : j + 1 = perF f x := by
    refine Decidable.byContradiction fun hge => ?_
    have := hp.2.2 (j + 1) (by omega) (by omega)
    exact this (by rw [h2] at he; exact he)
  have ho : l ++ [e] = orbF f x (j + 1) := by rw [orb_next, h1, h2]
  refine ⟨by rw [ho, hj], by rw [List.length_set]; exact h4, fun y y0 y1 => ?_⟩
  rw [met_set h4 h5 h2 (by omega) (by omega) y y0 y1, List.any_append, ho]; simp
theorem cyc_skip {out : Rws} {k : Int} (k0 : 0 ≤ k) (ho : out = (rng 0 k).foldl (cycS f) []) {met : List Bool} (hm : MetB out met) (h16 : k < 16) (hk : met.getD k.toNat false = true) : out = (rng 0 (k + 1)).foldl (cycS f) [] ∧ MetB out met := by
  refine ⟨?_, hm⟩
  rw [rng_snoc k0, List.foldl_append, ← ho]
  show out = cycS f out k
  rw [cycS, if_pos (by rw [← hm.2 k k0 h16]; exact hk)]
theorem cyc_take {out : Rws} {k : Int} (k0 : 0 ≤ k) (ho : out = (rng 0 k).foldl (cycS f) []) {met : List Bool} (hm : MetB out met) (h16 : k < 16) (hk : met.getD k.toNat false = false) : out ++ [orbF f k (perF f k)] = (rng 0 (k + 1)).foldl (cycS f) [] := by
  rw [rng_snoc k0, List.foldl_append, ← ho]
  show _ = cycS f out k
  rw [cycS, if_neg (by rw [← hm.2 k k0 h16, hk]; decide)]
end
end Go.Proofs.YtdpdlplkngggoaaGreatDoor
namespace Go.Proofs.YtdpdlplkngggoaaGreatDoor
open Go.Wk
theorem cy_rng {n x : Int} {f : Int → Int} (h : permB n f = true) (hx : 0 ≤ x ∧ x < n) {out : Rws} {j : Nat} {l : List Int} {e : Int} {met : List Bool} (hI : CyI f x out j l e met) : 0 ≤ e ∧ e < n := by
  rw [hI.1.2]; exact it_rng h hx j
theorem cy_len {x : Int} {f : Int → Int} {out : Rws} {j : Nat} {l : List Int} {e : Int} {met : List Bool} (hI : CyI f x out j l e met) : l.length = j := by
  rw [hI.1.1, orbF, List.length_map, List.length_range]
theorem cy_bd {n x : Int} {f : Int → Int} (h : permB n f = true) (hx : 0 ≤ x ∧ x < n) {out : Rws} {j : Nat} {l : List Int} {e : Int} {met : List Bool} (hI : CyI f x out j l e met) : j < 16 := by
  have := (per_spec h hx).1.2
  have := hI.2.1
  omega
end Go.Proofs.YtdpdlplkngggoaaGreatDoor

namespace Go.Proofs.YtdpdlplkngggoaaGreatDoor
open Go.Wk
set_option linter.unusedVariables false
def tblB (t : Tab) : Bool := decide (t.length = 34) && ((decide (0 ≤ tnN t ∧ tnN t ≤ 8) && decide ((0 ≤ teN t ∧ teN t ≤ 16) ∧ teN t % 2 = 0)) && (rng 0 (teN t)).all fun e => decide (0 ≤ tpF t e ∧ tpF t e < tnN t))
structure TblOK (t : Tab) : Prop where
  l : t.length = 34
  n : 0 ≤ tnN t ∧ tnN t ≤ 8
  e : (0 ≤ teN t ∧ teN t ≤ 16) ∧ teN t % 2 = 0
  p : ∀ e, 0 ≤ e → e < teN t → 0 ≤ tpF t e ∧ tpF t e < tnN t
theorem tbl_ok {t : Tab} (h : tblB t = true) : TblOK t := by
  rw [tblB, Bool.and_eq_true, Bool.and_eq_true, Bool.and_eq_true, decide_eq_true_eq, decide_eq_true_eq, decide_eq_true_eq, List.all_eq_true] at h
  exact ⟨h.1, h.2.1.1, h.2.1.2, fun e e0 e1 => of_decide_eq_true (h.2.2 e (rng_mem.2 ⟨e0, e1⟩))⟩
def labK (t : Tab) (i : Int) : List Int × Int := ((edgT t).take i.toNat).foldl labS (rng 0 (tnN t), tnN t)
def LbI (t : Tab) (i : Int) (lab : List Int) (n : Int) : Prop := lab.length = 16 ∧ lab.take (tnN t).toNat = (labK t i).1 ∧ n = (labK t i).2
section
variable {t : Tab} {i n : Int} {lab lab2 : List Int}
theorem take_ix0 {l : List Int} {k : Nat} {x : Int} (h0 : 0 ≤ x) (h : x.toNat < k) : ix 0 (l.take k) x = ix 0 l x := by rw [ix, ix, List.getD_eq_getElem?_getD, List.getD_eq_getElem?_getD, List.getElem?_take, if_pos h]
theorem ext_ix {l m : List Int} (hl : l.length = m.length) (h : ∀ x : Int, 0 ≤ x → x < l.length → ix 0 l x = ix 0 m x) : l = m := by
  refine List.ext_getElem hl fun k h1 h2 => ?_
  have := h (k : Int) (by omega) (by omega)
  simp only [ix, Int.toNat_natCast, List.getD_eq_getElem?_getD, List.getElem?_eq_getElem h1, List.getElem?_eq_getElem h2, Option.getD_some] at this
  exact this
theorem lb_start (hk : TblOK t) (hl : lab.length = 16) (h : ∀ x, 0 ≤ x → x < tnN t → ix 0 lab x = x) : LbI t 0 lab (tnN t) := by
  refine ⟨hl, ?_, rfl⟩
  have hn := hk.n
  have hr := rng_length (i := 0) (n := tnN t) (by omega)
  show lab.take (tnN t).toNat = rng 0 (tnN t)
  refine ext_ix (by rw [List.length_take]; omega) fun x x0 x1 => ?_
  rw [List.length_take] at x1
  rw [take_ix0 x0 (by omega), h x x0 (by omega), ix_rng ⟨x0, by omega⟩]
theorem edg_len (hk : TblOK t) : ((edgT t).length : Int) = teN t / 2 := by
  have := hk.e
  rw [edgT, List.length_map]; have := rng_length (i := 0) (n := teN t / 2) (by omega); omega
theorem lab_succ (hk : TblOK t) (i0 : 0 ≤ i) (i1 : 2 * i < teN t) : labK t (i + 1) = labS (labK t i) (tpF t (2 * i), tpF t (2 * i + 1)) := by
  have hl := edg_len hk
  have he := hk.e
  rw [labK, take_ix (d := (0, 0)) i0 (by omega), List.foldl_append]
  have : ix (0, 0) (edgT t) i = (tpF t (2 * i), tpF t (2 * i + 1)) := by
    rw [ix, edgT, List.getD_eq_getElem?_getD, List.getElem?_map, rng_get i0 (by omega)]; rfl
  rw [this]; rfl
theorem lb_ix (hk : TblOK t) (h : LbI t i lab n) {x : Int} (x0 : 0 ≤ x) (x1 : x < tnN t) : ix 0 (labK t i).1 x = ix 0 lab x := by rw [← h.2.1, take_ix0 x0 (by omega)]
theorem lb_skip (hk : TblOK t) (h : LbI t i lab n) (i0 : 0 ≤ i) (i1 : 2 * i < teN t) (he : ix 0 lab (tpF t (2 * i)) = ix 0 lab (tpF t (2 * i + 1))) : LbI t (i + 1) lab n := by
  have e2 := hk.e.2
  have a := hk.p (2 * i) (by omega) i1
  have b := hk.p (2 * i + 1) (by omega) (by omega)
  have : labK t (i + 1) = labK t i := by
    rw [lab_succ hk i0 i1, labS, if_pos]
    rw [lb_ix hk h a.1 a.2, lb_ix hk h b.1 b.2]; exact he
  exact ⟨h.1, by rw [this]; exact h.2.1, by rw [this]; exact h.2.2⟩
theorem lb_take (hk : TblOK t) (h : LbI t i lab n) (i0 : 0 ≤ i) (i1 : 2 * i < teN t) (hne : ¬ ix 0 lab (tpF t (2 * i)) = ix 0 lab (tpF t (2 * i + 1))) {k : Int} (hR : RelI lab lab2 (ix 0 lab (tpF t (2 * i))) (ix 0 lab (tpF t (2 * i + 1))) k) (hkk : k = tnN t) : LbI t (i + 1) lab2 (n - 1) := by
  have e2 := hk.e.2
  have hn := hk.n
  have a := hk.p (2 * i) (by omega) i1
  have b := hk.p (2 * i + 1) (by omega) (by omega)
  have hl := h.1
  have : labK t (i + 1) = ((labK t i).1.map fun x => if x = ix 0 lab (tpF t (2 * i)) then ix 0 lab (tpF t (2 * i + 1)) else x, (labK t i).2 - 1) := by
    rw [lab_succ hk i0 i1, labS, lb_ix hk h a.1 a.2, lb_ix hk h b.1 b.2, if_neg hne]
  refine ⟨by rw [hR.1]; exact hl, ?_, by rw [this, h.2.2]⟩
  rw [this, ← h.2.1]
  subst hkk
  refine ext_ix (by rw [List.length_map, List.length_take, List.length_take, hR.1]) fun x x0 x1 => ?_
  rw [List.length_take, hR.1] at x1
  rw [take_ix0 x0 (by omega), hR.2 x x0 (by omega)]
  have hx : ix 0 ((lab.take (tnN t).toNat).map fun x => if x = ix 0 lab (tpF t (2 * i)) then ix 0 lab (tpF t (2 * i + 1)) else x) x = if ix 0 lab x = ix 0 lab (tpF t (2 * i)) then ix 0 lab (tpF t (2 * i + 1)) else ix 0 lab x := by
    have hxl : x < ((lab.take (tnN t).toNat).length : Int) := by rw [List.length_take]; omega
    rw [ix, List.getD_eq_getElem?_getD, List.getElem?_map, ix_get (d := 0) hxl x0, Option.map_some, Option.getD_some, take_ix0 x0 (by omega)]
  rw [hx]
  by_cases q : ix 0 lab x = ix 0 lab (tpF t (2 * i))
  · rw [if_pos ⟨by omega, q⟩, if_pos q]
  · rw [if_neg (fun z => q z.2), if_neg q]
theorem lb_end (hk : TblOK t) (h : LbI t i lab n) (i0 : 0 ≤ i) (hi : teN t ≤ 2 * i) : n = partT t := by
  have hl := edg_len hk
  have := hk.e
  rw [h.2.2, labK, List.take_of_length_le (by omega)]; rfl
end
end Go.Proofs.YtdpdlplkngggoaaGreatDoor

namespace Go.Proofs.YtdpdlplkngggoaaGreatDoor
open Go.Wk
set_option linter.unusedVariables false
def okM (ls : Rws) : Bool := (ls.all (fun l => decide (0 < l.length)) && decide ls.flatten.Nodup) && ((ls.flatten.all fun e => decide (0 ≤ e ∧ e < (ls.flatten.length : Int))) && decide (ls.flatten.length ≤ 16 ∧ ls.flatten.length % 2 = 0))
structure MapOK (ls : Rws) : Prop where
  n : ∀ l ∈ ls, 0 < l.length
  d : ls.flatten.Nodup
  r : ∀ e ∈ ls.flatten, 0 ≤ e ∧ e < (ls.flatten.length : Int)
  m : ls.flatten.length ≤ 16 ∧ ls.flatten.length % 2 = 0
theorem map_ok {ls : Rws} (h : okM ls = true) : MapOK ls := by
  rw [okM, Bool.and_eq_true, Bool.and_eq_true, Bool.and_eq_true, decide_eq_true_eq, decide_eq_true_eq, List.all_eq_true, List.all_eq_true] at h
  exact ⟨fun l hl => of_decide_eq_true (h.1.1 l hl), h.1.2, fun e he => of_decide_eq_true (h.2.1 e he), h.2.2⟩
section
variable {ls : Rws} {l : List Int} {t : Tab} {k : Int}
theorem tabIn_next (k0 : 0 ≤ k) : tabIn l (k + 1) t = tabStep l (tabIn l k t) k := by rw [tabIn, rng_snoc k0, List.foldl_append]; rfl
theorem tabIn_len : ∀ {k : Int}, (tabIn l k t).length = t.length := by
  intro k
  rw [tabIn]
  generalize rng 0 k = r
  induction r generalizing t with
  | nil => rfl
  | cons x r ih => rw [List.foldl_cons, ih, tabStep, List.length_set, List.length_set]
theorem tabS_len : (tabS t l).length = t.length := by
  rw [tabS]; split
  · rfl
  · rw [List.length_set, List.length_set, tabIn_len]
def tabK (ls : Rws) (k : Int) : Tab := (ls.take k.toNat).foldl tabS tab0
theorem tabK_len : (tabK ls k).length = 34 := by
  rw [tabK]
  have : ∀ (m : Rws) (t : Tab), (m.foldl tabS t).length = t.length := by
    intro m
    induction m with
    | nil => intro t; rfl
    | cons l m ih => intro t; rw [List.foldl_cons, ih, tabS_len]
  rw [this]; rfl
theorem tabK_next (k0 : 0 ≤ k) (k1 : k < ls.length) : tabK ls (k + 1) = tabS (tabK ls k) (ix [] ls k) := by rw [tabK, take_ix (d := []) k0 k1, List.foldl_append]; rfl
theorem tabK_end (hk : (ls.length : Int) ≤ k) : tabK ls k = tabV ls := by rw [tabK, List.take_of_length_le (by omega)]; rfl
def MtI (ls : Rws) (k j : Int) (met : List Bool) : Prop := met.length = 16 ∧ ∀ y : Int, 0 ≤ y → y < 16 → met.getD y.toNat false = hasL ((ls.take k.toNat).flatten ++ (ix [] ls k).take j.toNat) y
theorem mt_start : MtI ls 0 0 (List.replicate 16 false) := ⟨rfl, fun y y0 y1 => by
  rw [List.getD_eq_getElem?_getD, List.getElem?_replicate, if_pos (by omega)]; rfl⟩
theorem mt_row {met : List Bool} {j : Int} (h : MtI ls k j met) (k0 : 0 ≤ k) (k1 : k < ls.length) (hj : ((ix [] ls k).length : Int) ≤ j) : MtI ls (k + 1) 0 met := ⟨h.1, fun y y0 y1 => by
  have e : (ix [] ls k).take j.toNat = ix [] ls k := List.take_of_length_le (by omega)
  rw [h.2 y y0 y1, take_ix (d := []) k0 k1, List.flatten_append, e]; simp⟩
theorem flat_at (k0 : 0 ≤ k) (k1 : k < ls.length) : ls.flatten = (ls.take k.toNat).flatten ++ (ix [] ls k ++ (ls.drop (k + 1).toNat).flatten) := by
  conv => lhs; rw [← List.take_append_drop k.toNat ls, List.flatten_append, drop_ix (d := []) k0 k1, List.flatten_cons]
theorem end_mem (k0 : 0 ≤ k) (k1 : k < ls.length) {j : Int} (j0 : 0 ≤ j) (j1 : j < (ix [] ls k).length) : ix 0 (ix [] ls k) j ∈ ls.flatten := by
  rw [flat_at k0 k1, List.mem_append, List.mem_append]; exact .inr (.inl (ix_inl j0 j1))
theorem mt_free (hk : MapOK ls) {met : List Bool} {j : Int} (h : MtI ls k j met) (k0 : 0 ≤ k) (k1 : k < ls.length) (j0 : 0 ≤ j) (j1 : j < (ix [] ls k).length) : met.getD (ix 0 (ix [] ls k) j).toNat false = false := by
  have hr := hk.r _ (end_mem k0 k1 j0 j1)
  have hm := hk.m
  rw [h.2 _ hr.1 (by omega)]
  cases hq : hasL ((ls.take k.toNat).flatten ++ (ix [] ls k).take j.toNat) (ix 0 (ix [] ls k) j) with
  | false => rfl
  | true =>
    exfalso
    have hd := hk.d
    have e : ls.flatten = ((ls.take k.toNat).flatten ++ (ix [] ls k).take j.toNat) ++ (ix 0 (ix [] ls k) j :: ((ix [] ls k).drop (j + 1).toNat ++ (ls.drop (k + 1).toNat).flatten)) := by
      rw [flat_at k0 k1]
      conv => lhs; rw [← List.take_append_drop j.toNat (ix [] ls k), drop_ix (d := 0) j0 j1]
      simp
    rw [e] at hd
    exact (List.pairwise_append.1 hd).2.2 _ (hasL_iff.1 hq) _ (by simp) rfl
theorem mt_next (hk : MapOK ls) {met : List Bool} {j : Int} (h : MtI ls k j met) (k0 : 0 ≤ k) (k1 : k < ls.length) (j0 : 0 ≤ j) (j1 : j < (ix [] ls k).length) : MtI ls k (j + 1) (met.set (ix 0 (ix [] ls k) j).toNat true) := ⟨by rw [List.length_set]; exact h.1, fun y y0 y1 => by
  have hr := hk.r _ (end_mem k0 k1 j0 j1)
  have hm := hk.m
  have hl := h.1
  have hy := h.2 y y0 y1
  rw [take_ix (d := 0) j0 j1, ← List.append_assoc, hasL_snoc, ← hy]
  rw [List.getD_eq_getElem?_getD, List.getD_eq_getElem?_getD, List.getElem?_set]
  by_cases q : ix 0 (ix [] ls k) j = y
  · rw [if_pos (by omega), if_pos (by omega), decide_eq_true q]; simp
  · rw [if_neg (by omega), decide_eq_false q, Bool.or_false]⟩
theorem flat_take (k0 : 0 ≤ k) (k1 : k < ls.length) : (((ls.take (k + 1).toNat).flatten.length : Nat) : Int) = ((ls.take k.toNat).flatten.length : Nat) + ((ix [] ls k).length : Int) := by
  rw [take_ix (d := []) k0 k1, List.flatten_append, List.length_append]; simp
theorem cut_next {line j : Int} (j0 : 0 ≤ j) (j1 : j < l.length) : cutL line (l.take (j + 1).toNat) = cutL line (l.take j.toNat) ++ (if ix 0 l j < 2 * line then [ix 0 l j] else if 2 * line + 1 < ix 0 l j then [ix 0 l j - 2] else []) := by
  rw [take_ix (d := 0) j0 j1, cutL, cutL, List.flatMap_append]; simp
theorem cuts_next {line : Int} (k0 : 0 ≤ k) (k1 : k < ls.length) : (ls.take (k + 1).toNat).map (cutL line) = (ls.take k.toNat).map (cutL line) ++ [cutL line (ix [] ls k)] := by
  rw [take_ix (d := []) k0 k1, List.map_append]; rfl
end
end Go.Proofs.YtdpdlplkngggoaaGreatDoor
namespace Go.Proofs.YtdpdlplkngggoaaGreatDoor
open Go.Wk Go.RowKit
theorem ix_i64 {zs : List Int} (h : ∀ z ∈ zs, InK .i64 z) (j : Int) : -9223372036854775808 ≤ ix 0 zs j ∧ ix 0 zs j ≤ 9223372036854775807 := by
  unfold ix
  cases hz : zs[j.toNat]? with
  | none => rw [List.getD_eq_getElem?_getD, hz]; simp
  | some z =>
    have := bd_i64 (h z (List.mem_of_getElem? hz))
    rw [List.getD_eq_getElem?_getD, hz]; exact this
end Go.Proofs.YtdpdlplkngggoaaGreatDoor
namespace Go.Proofs.YtdpdlplkngggoaaGreatDoor
open Go.Wk
def TbB (k : Int) (t : Tab) : Prop := t.length = 34 ∧ (0 ≤ ix 0 t 0 ∧ ix 0 t 0 ≤ 1000 * k) ∧ (0 ≤ ix 0 t 33 ∧ ix 0 t 33 ≤ k)
theorem tb_start : TbB 0 (List.replicate 34 0) := ⟨rfl, by decide, by decide⟩
theorem tb_set {k e v : Int} {t : Tab} (h : TbB k t) (e0 : 0 ≤ e) (e1 : e < 16) : TbB k (t.set (1 + e).toNat v) ∧ TbB k (t.set (17 + e).toNat v) := by
  obtain ⟨h1, h2, h3⟩ := h
  refine ⟨⟨by rw [List.length_set]; exact h1, ?_, ?_⟩, ⟨by rw [List.length_set]; exact h1, ?_, ?_⟩⟩ <;> (rw [ix_set0 (by omega) (by omega) (by omega), if_neg (by omega)]; first | exact h2 | exact h3)
theorem tb_up {k n : Int} {t : Tab} (h : TbB k t) (hn : 0 ≤ n ∧ n ≤ 1000) : TbB (k + 1) ((t.set 0 (ix 0 t 0 + n)).set 33 (ix 0 (t.set 0 (ix 0 t 0 + n)) 33 + 1)) := by
  obtain ⟨h1, h2, h3⟩ := h
  have a : ix 0 (t.set 0 (ix 0 t 0 + n)) 33 = ix 0 t 33 := by
    have := ix_set0 (l := t) (i := 0) (p := 33) (v := ix 0 t 0 + n) (by omega) (by omega) (by omega)
    rw [if_neg (by omega)] at this; exact this
  have b : ix 0 (t.set 0 (ix 0 t 0 + n)) 0 = ix 0 t 0 + n := by
    have := ix_set0 (l := t) (i := 0) (p := 0) (v := ix 0 t 0 + n) (by omega) (by omega) (by omega)
    rw [if_pos rfl] at this; exact this
  rw [a]
  refine ⟨by rw [List.length_set, List.length_set]; exact h1, ?_, ?_⟩
  · have := ix_set0 (l := t.set 0 (ix 0 t 0 + n)) (i := 33) (p := 0) (v := ix 0 t 33 + 1) (by omega) (by rw [List.length_set]; omega) (by omega)
    rw [if_neg (by omega), b] at this
    have e : (33 : Int).toNat = 33 := rfl
    rw [e] at this
    rw [this]; omega
  · have := ix_set0 (l := t.set 0 (ix 0 t 0 + n)) (i := 33) (p := 33) (v := ix 0 t 33 + 1) (by omega) (by rw [List.length_set]; omega) (by omega)
    rw [if_pos rfl] at this
    have e : (33 : Int).toNat = 33 := rfl
    rw [e] at this
    rw [this]; omega
theorem tb_more {k : Int} {t : Tab} (h : TbB k t) : TbB (k + 1) t := ⟨h.1, by have := h.2.1; omega, by have := h.2.2; omega⟩
theorem tabK_put {ls : Rws} {k : Int} (k0 : 0 ≤ k) (k1 : k < ls.length) (hn : ¬ ((ix [] ls k).length : Int) = 0) {j : Int} (hj : j = (ix [] ls k).length) {t2 : Tab} (h2 : t2 = tabIn (ix [] ls k) j (tabK ls k)) : (t2.set 0 (ix 0 t2 0 + (ix [] ls k).length)).set 33 (ix 0 (t2.set 0 (ix 0 t2 0 + (ix [] ls k).length)) 33 + 1) = tabK ls (k + 1) := by
  have a : ix 0 (t2.set 0 (ix 0 t2 0 + (ix [] ls k).length)) 33 = ix 0 t2 33 := by
    by_cases hl : 0 < t2.length
    · have := ix_set0 (l := t2) (i := 0) (p := 33) (v := ix 0 t2 0 + (ix [] ls k).length) (by omega) (by omega) (by omega)
      rw [if_neg (by omega)] at this; exact this
    · rw [show t2 = [] from List.length_eq_zero_iff.1 (by omega)]; rfl
  rw [a, tabK_next k0 k1, tabS, if_neg (by omega), h2, hj]; rfl
theorem tabK_skip {ls : Rws} {k : Int} (k0 : 0 ≤ k) (k1 : k < ls.length) (hn : ((ix [] ls k).length : Int) = 0) : tabK ls k = tabK ls (k + 1) := by
  rw [tabK_next k0 k1, tabS, if_pos (by omega)]
end Go.Proofs.YtdpdlplkngggoaaGreatDoor
namespace Go.Proofs.YtdpdlplkngggoaaGreatDoor
open Go.Wk
theorem tb_pts {k e v : Int} {t : Tab} (h : TbB k t) (e0 : 0 ≤ e) (e1 : e < 16) : ix 0 (t.set (1 + e).toNat v) 33 = ix 0 t 33 := by
  have := h.1
  rw [ix_set0 (by omega) (by omega) (by omega), if_neg (by omega)]
theorem tb_pts0 {k v : Int} {t : Tab} (h : TbB k t) : ix 0 (t.set (0 : Int).toNat v) 33 = ix 0 t 33 := by
  have := h.1
  rw [ix_set0 (by omega) (by omega) (by omega), if_neg (by omega)]
theorem tabK_put2 {ls : Rws} {k : Int} (k0 : 0 ≤ k) (k1 : k < ls.length) (hn : ¬ ((ix [] ls k).length : Int) = 0) {j : Int} (hj : j = (ix [] ls k).length) {t2 : Tab} (hb : TbB k t2) (h2 : t2 = tabIn (ix [] ls k) j (tabK ls k)) : (t2.set (0 : Int).toNat (ix 0 t2 0 + (ix [] ls k).length)).set (33 : Int).toNat (ix 0 t2 33 + 1) = tabK ls (k + 1) := by
  have := tabK_put k0 k1 hn hj h2
  have e := tb_pts0 hb (v := ix 0 t2 0 + (ix [] ls k).length)
  have e0 : (0 : Int).toNat = 0 := rfl
  rw [e0] at e
  rw [e] at this
  exact this
theorem tb_up2 {k n : Int} {t : Tab} (h : TbB k t) (hn : 0 ≤ n ∧ n ≤ 1000) : TbB (k + 1) ((t.set (0 : Int).toNat (ix 0 t 0 + n)).set (33 : Int).toNat (ix 0 t 33 + 1)) := by
  have := tb_up h hn
  have e := tb_pts0 h (v := ix 0 t 0 + n)
  have e0 : (0 : Int).toNat = 0 := rfl
  rw [e0] at e
  rw [e] at this
  exact this
end Go.Proofs.YtdpdlplkngggoaaGreatDoor
namespace Go.Proofs.YtdpdlplkngggoaaGreatDoor
open Go.Wk
theorem flat_le {ls : Rws} {k : Int} : ((ls.take k.toNat).flatten.length : Int) ≤ ls.flatten.length := by
  have : ls.flatten = (ls.take k.toNat).flatten ++ (ls.drop k.toNat).flatten := by rw [← List.flatten_append, List.take_append_drop]
  rw [this, List.length_append]; omega
theorem map_cnt {ls : Rws} (h : MapOK ls) : (ls.length : Int) ≤ 16 := by
  have : ∀ m : Rws, (∀ l ∈ m, 0 < l.length) → m.length ≤ m.flatten.length := by
    intro m
    induction m with
    | nil => intro _; exact Nat.le_refl _
    | cons l m ih =>
      intro hm
      have := ih fun l' hl => hm l' (List.mem_cons_of_mem _ hl)
      have := hm l (by simp)
      rw [List.flatten_cons, List.length_append, List.length_cons]; omega
  have := this ls h.n
  have := h.m
  omega
theorem map_rng {ls : Rws} (h : MapOK ls) : ∀ l ∈ ls, ∀ e ∈ l, 0 ≤ e ∧ e < 16 := fun l hl e he => by
  have := h.r e (List.mem_flatten.2 ⟨l, hl, he⟩)
  have := h.m
  omega
theorem map_len {ls : Rws} (h : MapOK ls) : ∀ l ∈ ls, (l.length : Int) ≤ 1000 := fun l hl => by
  obtain ⟨a, b, rfl⟩ := List.append_of_mem hl
  have := h.m
  rw [List.flatten_append, List.flatten_cons, List.length_append, List.length_append] at this
  omega
end Go.Proofs.YtdpdlplkngggoaaGreatDoor
namespace Go.Proofs.YtdpdlplkngggoaaGreatDoor
theorem tabV_len {ls : Rws} : (tabV ls).length = 34 := by
  have := tabK_len (ls := ls) (k := ls.length)
  rw [tabK_end (Int.le_refl _)] at this; exact this
end Go.Proofs.YtdpdlplkngggoaaGreatDoor
namespace Go.Proofs.YtdpdlplkngggoaaGreatDoor
open Go.Wk Go.RowKit
theorem in_small {x : Int} (h : -1000000 ≤ x ∧ x ≤ 1000000) : InK .i64 x := in_i64 (by omega) (by omega)
theorem mem_set_or {l : List Int} {i : Nat} {v : Int} {P : Int → Prop} (h : ∀ x ∈ l, P x) (hv : P v) : ∀ x ∈ l.set i v, P x := fun x hx => by
  rcases List.mem_or_eq_of_mem_set hx with hx | rfl
  · exact h x hx
  · exact hv
theorem tabK_small {ls : Rws} (hr : ∀ l ∈ ls, ∀ e ∈ l, 0 ≤ e ∧ e < 16) (hf16 : ls.flatten.length ≤ 16) (hc16 : (ls.length : Int) ≤ 16) : ∀ k : Nat, k ≤ ls.length → (∀ x ∈ tabK ls (k : Int), -1000 ≤ x ∧ x ≤ 1000) ∧ (0 ≤ teN (tabK ls (k : Int)) ∧ teN (tabK ls (k : Int)) ≤ ((ls.take k).flatten.length : Int)) ∧ (0 ≤ tnN (tabK ls (k : Int)) ∧ tnN (tabK ls (k : Int)) ≤ k)
  | 0, _ => ⟨fun x hx => by
      have : tabK ls ((0 : Nat) : Int) = tab0 := rfl
      rw [this, tab0] at hx
      rw [List.eq_of_mem_replicate hx]; omega, by
      have : tabK ls ((0 : Nat) : Int) = tab0 := rfl
      rw [this]; exact ⟨by decide, Int.natCast_nonneg _⟩, by
      have : tabK ls ((0 : Nat) : Int) = tab0 := rfl
      rw [this]; decide⟩
  | k + 1, hle => by
    obtain ⟨h1, h2, h3⟩ := tabK_small hr hf16 hc16 k (by omega)
    have hlt : (k : Int) < ls.length := by omega
    have hn : tabK ls ((k + 1 : Nat) : Int) = tabS (tabK ls k) (ix [] ls k) := tabK_next (k := (k : Int)) (by omega) hlt
    have hft := flat_take (ls := ls) (k := (k : Int)) (by omega) hlt
    have hf := flat_le (ls := ls) (k := ((k + 1 : Nat) : Int))
    have e1 : ((k : Int) + 1).toNat = k + 1 := by omega
    have e2 : ((k + 1 : Nat) : Int).toNat = k + 1 := by omega
    rw [e1, Int.toNat_natCast] at hft
    rw [e2] at hf
    have hmem : ix [] ls (k : Int) ∈ ls := List.mem_of_getElem? (ix_get hlt (by omega))
    rw [hn, tabS]
    split
    · rename_i h0
      exact ⟨h1, ⟨h2.1, by omega⟩, h3.1, by omega⟩
    · rename_i h0
      have hr := hr _ hmem
      have key : ∀ j : Nat, j ≤ (ix [] ls (k : Int)).length → TbB 16 (tabIn (ix [] ls k) j (tabK ls k)) ∧ (∀ x ∈ tabIn (ix [] ls k) j (tabK ls k), -1000 ≤ x ∧ x ≤ 1000) ∧ teN (tabIn (ix [] ls k) j (tabK ls k)) = teN (tabK ls k) ∧ tnN (tabIn (ix [] ls k) j (tabK ls k)) = tnN (tabK ls k) := by
        intro j
        induction j with
        | zero =>
          intro _
          have z : tabIn (ix [] ls (k : Int)) ((0 : Nat) : Int) (tabK ls k) = tabK ls k := rfl
          rw [z]
          exact ⟨⟨tabK_len, ⟨h2.1, by show teN (tabK ls (k : Int)) ≤ 1000 * 16; omega⟩, ⟨h3.1, by show tnN (tabK ls (k : Int)) ≤ 16; omega⟩⟩, h1, rfl, rfl⟩
        | succ j ih =>
          intro hj
          obtain ⟨i1, i2, i3, i4⟩ := ih (by omega)
          have hjl : (j : Int) < (ix [] ls (k : Int)).length := by omega
          have he := hr _ (ix_inl (by omega : (0 : Int) ≤ j) hjl)
          have hb := tb_set (v := ix 0 (ix [] ls k) (((j : Int) + 1) % (ix [] ls (k : Int)).length)) i1 he.1 he.2
          have hb2 := tb_set (v := tnN (tabIn (ix [] ls k) j (tabK ls k))) hb.1 he.1 he.2
          have hst : tabIn (ix [] ls k) ((j + 1 : Nat) : Int) (tabK ls k) = tabStep (ix [] ls k) (tabIn (ix [] ls k) j (tabK ls k)) j := tabIn_next (k := (j : Int)) (by omega)
          have hmd := Int.emod_nonneg ((j : Int) + 1) (show ((ix [] ls (k : Int)).length : Int) ≠ 0 by omega)
          have hmd2 := Int.emod_lt_of_pos ((j : Int) + 1) (show 0 < ((ix [] ls (k : Int)).length : Int) by omega)
          have hv := hr _ (ix_inl hmd hmd2)
          rw [hst, tabStep]
          refine ⟨hb2.2, mem_set_or (mem_set_or i2 (by omega)) (by rw [i4]; omega), ?_, ?_⟩
          · rw [← i3, teN, teN, ix_set0 (by omega) (by rw [List.length_set, i1.1]; omega) (by omega), if_neg (by omega), ix_set0 (by omega) (by rw [i1.1]; omega) (by omega), if_neg (by omega)]
          · rw [← i4, tnN, tnN, ix_set0 (by omega) (by rw [List.length_set, i1.1]; omega) (by omega), if_neg (by omega), ix_set0 (by omega) (by rw [i1.1]; omega) (by omega), if_neg (by omega)]
      obtain ⟨i1, i2, i3, i4⟩ := key (ix [] ls (k : Int)).length (Nat.le_refl _)
      refine ⟨mem_set_or (mem_set_or i2 (by rw [i3]; omega)) (by rw [i4]; omega), ?_, ?_⟩
      · have a := ix_set0 (l := (tabIn (ix [] ls k) (ix [] ls (k : Int)).length (tabK ls k)).set 0 (teN (tabIn (ix [] ls k) (ix [] ls (k : Int)).length (tabK ls k)) + (ix [] ls (k : Int)).length)) (i := 33) (p := 0) (v := tnN (tabIn (ix [] ls k) (ix [] ls (k : Int)).length (tabK ls k)) + 1) (by omega) (by rw [List.length_set, i1.1]; omega) (by omega)
        have b := ix_set0 (l := tabIn (ix [] ls k) (ix [] ls (k : Int)).length (tabK ls k)) (i := 0) (p := 0) (v := teN (tabIn (ix [] ls k) (ix [] ls (k : Int)).length (tabK ls k)) + (ix [] ls (k : Int)).length) (by omega) (by rw [i1.1]; omega) (by omega)
        rw [if_neg (by omega)] at a
        rw [if_pos rfl] at b
        have e0 : (0 : Int).toNat = 0 := rfl
        have e33 : (33 : Int).toNat = 33 := rfl
        rw [e0] at b
        rw [e33, b] at a
        rw [teN, a, i3]; omega
      · have a := ix_set0 (l := (tabIn (ix [] ls k) (ix [] ls (k : Int)).length (tabK ls k)).set 0 (teN (tabIn (ix [] ls k) (ix [] ls (k : Int)).length (tabK ls k)) + (ix [] ls (k : Int)).length)) (i := 33) (p := 33) (v := tnN (tabIn (ix [] ls k) (ix [] ls (k : Int)).length (tabK ls k)) + 1) (by omega) (by rw [List.length_set, i1.1]; omega) (by omega)
        rw [if_pos rfl] at a
        have e33 : (33 : Int).toNat = 33 := rfl
        rw [e33] at a
        rw [tnN, a, i4]; omega
theorem tab_in {ls : Rws} (hk : MapOK ls) : ∀ z ∈ tabV ls, InK .i64 z := fun z hz => by
  rw [← tabK_end (ls := ls) (k := (ls.length : Int)) (Int.le_refl _)] at hz
  have := (tabK_small (map_rng hk) hk.m.1 (map_cnt hk) ls.length (Nat.le_refl _)).1 z hz
  exact in_small (by omega)
end Go.Proofs.YtdpdlplkngggoaaGreatDoor
namespace Go.Proofs.YtdpdlplkngggoaaGreatDoor
open Go.Wk
theorem cutL_mem {line : Int} {l : List Int} {x : Int} (hl : 0 ≤ line) (h : x ∈ cutL line l) : ∃ e ∈ l, x ≤ e ∧ (0 ≤ e → 0 ≤ x) := by
  rw [cutL, List.mem_flatMap] at h
  obtain ⟨e, he, hx⟩ := h
  split at hx
  · rw [List.mem_singleton] at hx; exact ⟨e, he, by omega, fun _ => by omega⟩
  · split at hx
    · rw [List.mem_singleton] at hx; exact ⟨e, he, by omega, fun _ => by omega⟩
    · cases hx
theorem cut_rng {ls : Rws} {line : Int} (h : MapOK ls) : 0 ≤ line → ∀ l ∈ ls.map (cutL line), ∀ e ∈ l, 0 ≤ e ∧ e < 16 := fun hl l hm e he => by
  obtain ⟨l0, h0, rfl⟩ := List.mem_map.1 hm
  obtain ⟨e0, h1, h2, h3⟩ := cutL_mem hl he
  have := map_rng h l0 h0 e0 h1
  have := h3 this.1
  omega
theorem cutL_len {line : Int} : ∀ {l : List Int}, (cutL line l).length ≤ l.length
  | [] => Nat.le_refl _
  | x :: l => by
    have ih := cutL_len (line := line) (l := l)
    have : cutL line (x :: l) = (if x < 2 * line then [x] else if 2 * line + 1 < x then [x - 2] else []) ++ cutL line l := by rw [cutL, List.flatMap_cons]; rfl
    rw [this, List.length_append, List.length_cons]
    split
    · simp only [List.length_cons, List.length_nil]; omega
    · split <;> simp only [List.length_cons, List.length_nil] <;> omega
theorem cut_len {ls : Rws} {line : Int} (h : MapOK ls) : ∀ l ∈ ls.map (cutL line), (l.length : Int) ≤ 1000 := fun l hm => by
  obtain ⟨l0, h0, rfl⟩ := List.mem_map.1 hm
  have := map_len h l0 h0
  have := cutL_len (line := line) (l := l0)
  omega
end Go.Proofs.YtdpdlplkngggoaaGreatDoor
namespace Go.Proofs.YtdpdlplkngggoaaGreatDoor
open Go.Wk Go.RowKit
theorem tab_in2 {ls : Rws} (hr : ∀ l ∈ ls, ∀ e ∈ l, 0 ≤ e ∧ e < 16) (hf16 : ls.flatten.length ≤ 16) (hc16 : (ls.length : Int) ≤ 16) : ∀ z ∈ tabV ls, InK .i64 z := fun z hz => by
  rw [← tabK_end (ls := ls) (k := (ls.length : Int)) (Int.le_refl _)] at hz
  have := (tabK_small hr hf16 hc16 ls.length (Nat.le_refl _)).1 z hz
  exact in_small (by omega)
theorem cut_flat {line : Int} : ∀ (ls : Rws), (ls.map (cutL line)).flatten.length ≤ ls.flatten.length
  | [] => Nat.le_refl _
  | l :: ls => by
    have h1 := cut_flat (line := line) ls
    have h2 := cutL_len (line := line) (l := l)
    rw [List.map_cons, List.flatten_cons, List.flatten_cons, List.length_append, List.length_append]; omega
end Go.Proofs.YtdpdlplkngggoaaGreatDoor
