/-
  WHAT IS PROVED HERE, TEXT BY TEXT (several texts of one prover, joined to one file; the conditions stand in each statement):
  * WHAT IS PROVED HERE: plain laws of sills that are found place by place, in lists. No program in sight. Conditions stand in each statement.
  * WHAT IS PROVED HERE: plain laws of comparing two rows of numbers. No program in sight.
  * WHAT IS PROVED HERE: strings that are gone through, rune by rune. Conditions stand in each statement; they hold over any program.
  * WHAT IS PROVED HERE: a variable that holds a string and a table of pairs, 13 times 13: what is read from it, what it holds after a pair is written. Conditions stand in each statement; they hold over any program.
  * WHAT IS PROVED HERE: a string's runes as a slice of the call's own, and a string made of a slice of runes. Conditions stand in each statement; they hold over any program.
  * WHAT IS PROVED HERE: a range over a function: the record of the loop and the block for deferred calls are objects of the call; the body is walked once; what an iterator promises. Conditions stand in each statement; they hold over any program.
  * WHAT IS PROVED HERE: an iterator calls the loop's own function. Conditions stand in each statement; they hold over any program.
  * WHAT IS PROVED HERE: objects in another order; an element of an array of numbers, at a number that is not written out. Conditions stand in each statement; they hold over any program.
  * WHAT IS PROVED HERE: a region that draws its order, over whatever class of worlds; a class of worlds that differ from one only in how much was drawn. Nothing here speaks of a program.
  * WHAT IS PROVED HERE: a slice of the call's own is written whole by a callee that sorts it. Nothing here speaks of a program.
  * WHAT IS PROVED HERE: queues: the tail of a slice of the call's own, which is appended to. Nothing here speaks of a program.
  * WHAT IS PROVED HERE: plain laws of places that are gone through from a queue. No program in sight.
  * WHAT IS PROVED HERE: plain laws of the shortest ways to the river, found from the river on, one place after the other. No program in sight.
  * WHAT IS PROVED HERE: plain laws of all joints, in their order. No program in sight.
  * WHAT IS PROVED HERE: plain laws of places that are put together, each under another one; and of the joints that are taken. No program in sight.
  * WHAT IS SAID HERE, WITH PLAIN LAWS: barges that pass a basin. No program in sight.
  * WHAT IS SAID HERE: a function that is told moves, whatever it keeps; and what a pass tells. No program in sight.
  * WHAT IS SAID HERE: an order of barges by numbers, and what happens when moves are carried out. No program in sight.
  * WHAT IS PROVED HERE: an argument that reads as data is, in the world at the start, a value that stands for a plain list, number, or pair (V of Wk2). Conditions: the types' closed facts, as hypotheses.
  * WHAT IS PROVED HERE: pairs of numbers as they are read at the start. Conditions: the types' closed facts, as hypotheses.
  * WHAT IS PROVED HERE: maps of the call's own, made, read and written: a list of keys with values, in the order in which the keys came. Conditions stand in each statement; they hold over any program.
  * WHAT IS PROVED HERE: a region of all orders, where what yields its value in every world that keeps some objects is taken first. Nothing here speaks of a program.
  * WHAT IS PROVED HERE: a region of all orders, with operations that are carried out just if a guard says so. Nothing here speaks of a program.
  * WHAT IS PROVED HERE: maps of the call's own: what is found, and whether; how many entries. Nothing here speaks of a program.
  * WHAT IS PROVED HERE: something is appended to a slice whose room is its length; that may be nothing. Nothing here speaks of a program.
  * WHAT IS PROVED HERE: calls of functions that have no body and write one cell of a variable of the call's own; functions entered as deferred calls; calls through an interface value. Nothing here speaks of a program.
  * WHAT IS PROVED HERE: a string's bytes as a slice whose cells may be written, and a string made of them. Nothing here speaks of a program.
  * WHAT IS SAID HERE: letters for moves: a table of bytes, and a text with other letters. No program in sight.
  * WHAT IS SAID HERE: plain functions: plans of a rim, how many joins a greatest one has, how many greatest ones there are, the first of them. No program in sight.
  * WHAT IS PROVED HERE: plain laws of plans: which lists of joins they are, in which order they stand, how many joins a greatest one has, how many there are, which is the first. No program in sight. Conditions stand in each statement.
  * WHAT IS PROVED HERE: plain laws of plans: a list of joins is among all plans just if its joins fit, ascend, and do not cross; the plans stand in one order. No program in sight. Conditions stand in each statement.
  * WHAT IS SAID HERE: plain functions: the reference's plans of a rim. No program in sight.
  * WHAT IS PROVED HERE: plain laws of plans: the reference's plans are the plans with so many joins, or more, in the one order. No program in sight. Conditions stand in each statement.
  * WHAT IS SAID HERE: plain functions: letters, rims, and whether joins are a plan of a rim, as the program and as the reference ask it. No program in sight.
  * WHAT IS SAID HERE, WITH PLAIN LAWS: lists by their places; whether joins are a plan of a rim, as the program and as the reference ask it. No program in sight.
  * WHAT IS PROVED HERE: plain laws of the table of partners: with which edge each edge is joined. No program in sight. Conditions stand in each statement.
  * WHAT IS PROVED HERE: plain laws of the table of parts: how its numbers are found one after the other, and how great they are. No program in sight. Conditions stand in each statement.
  * WHAT IS SAID HERE: what the program answers of a rim: how many joins, how many plans, the first plan, the joins of all. No program in sight.
  * WHAT IS PROVED HERE: plain laws of the reference's plans: what they are made of, how many there are at most, which are the greatest. No program in sight. Conditions stand in each statement.
  * WHAT IS SAID HERE, WITH PLAIN LAWS: the joins of all greatest plans, as the reference seeks them. No program in sight.
  * WHAT IS SAID HERE, WITH PLAIN LAWS: what is taken away from a rim and what is left, as the program seeks it (from the left to the right) and as the reference does (the first two neighbours that fit, again and again). No program in sight.
  * DERIVED: THE SHELF's CONTRACTS AT THIS DUMP, IN PLAIN WORDS (tools/lay-plain.mjs out of 'TryzShelf.lean', which tools/lay-shelf.mjs wrote): THE SAME DECLARATIONS UNDER THE SAME NAMES: 'import', 'namespace', 'open', 'def', 'theorem' AND NOTHING ELSE: no command of the shelf's: FOR A HAND-IN. Each laying: the table of numbers ('.._ren') and one theorem, a field a fact of the dump's own or the kernel's comparison; each contract: ONE APPLICATION.
  * WHAT IS PROVED HERE: plain laws of shores that are made of numbers. No program in sight.
  * WHAT IS PROVED HERE: plain laws of shores whose columns are in the opposite order. No program in sight.
  * WHAT IS PROVED HERE: plain laws of pools, one after another: where each place is. No program in sight.
  * WHAT IS PROVED HERE: plain laws of ways, basins and distances that are found by going over all neighbours many times. No program in sight.
  * WHAT IS PROVED HERE: plain laws of trees: how many joints they have, the highest joint between two, and the lowest ways found by trying all places in between. No program in sight.
  * WHAT IS PROVED HERE: plain laws of lowest ways between neighbours. No program in sight.
  * WHAT IS SAID HERE, WITH PLAIN LAWS: maps of lines: what comes after each end, rings of ends, parts, maps without a line; and the maps of six small shores. No program in sight.
  * WHAT IS PROVED HERE: a struct that is somebody else's variable, loaded whole. The conditions stand in each statement; they hold over any program.
  * WHAT IS SAID HERE: the package's list of other ends reads as the program's text lays it.
  * WHAT IS PROVED HERE: what the library's functions hand back, out of the shelf's contracts, where its tables read as the program's text lays them. Conditions stand in each statement.
  * WHAT IS PROVED HERE: what functions hand back, each out of its own code; the conditions stand in each statement.
  * WHAT IS PROVED HERE: strings.ContainsRune over a string of letters alone: a letter is found just if it stands there; no other rune is. Conditions stand in the statement.
  * WHAT IS PROVED HERE: strings.Builder of the call's own, written byte by byte, beside a list of numbers of the call's own; strings made of a rim's bytes. Conditions stand in each statement. From the shelf's contracts.
  * WHAT IS SAID HERE, WITH PLAIN LAWS: the answers on steps, rests, cores, rims that are turned. No program in sight.
  * WHAT IS PROVED HERE: plain laws of plans whose edges get other numbers: as many plans of each length, if the numbers go back. No program in sight. Conditions stand in each statement.
  * WHAT IS PROVED HERE: plain laws of plans of a rim that is turned, written backwards, or has an edge more. No program in sight. Conditions stand in each statement.
  * WHAT IS PROVED HERE: as many plans have a join as what is inside of it, and what is outside, have together. No program in sight. Conditions stand in each statement.
  * WHAT IS PROVED HERE: plain laws of words of numbers from which neighbours whose sum is 0 are taken away; there is a full plan just if nothing is left. No program in sight. Conditions stand in each statement.
  * WHAT IS PROVED HERE: plain laws of the core of a word: a word that is turned has a core that is turned. No program in sight. Conditions stand in each statement.
-/
import Derived.Test.YtodcppoglpfodaaGreatDoorU1
import Derived.Lib.OthersKept
import Derived.Scope
import Derived.Laws.Cover4
import Derived.Laws.IdiomStrings
import Derived.RangeFuncRecord
import Derived.RangeFuncSeq
import Derived.Sort.Grow
import Derived.Deep.Draws
import Derived.Sort.Row
import Derived.Shelf.GgSortFunc.InsertionK
import Derived.Deep.Slices
import Derived.Deep.Strs
import Derived.Lib.SmallJoins
import Derived.OpenShut
import Derived.Carry
import Derived.ProofKit
import Derived.ChangeMaps5
import Derived.MapKept
import Derived.ChangeMaps4
import Derived.Laws.LoneSync
import Derived.Defers
import Derived.Laws.BytesArg
import Derived.Shelf.Strings.Builder1
import Derived.Shelf.Strings.Trim
import Derived.Shelf.Small.Utf8
import Derived.Shelf.Small.Strs
import Derived.Shelf.Strings.BuilderF
import Derived.Shelf.Strings.BuilderK
import Derived.Shelf.Strings.Search1
import Derived.Shelf.Strings.Search2
import Derived.Shelf.Strings.Search3
import Derived.Shelf.Strings.Count
import Derived.Shelf.LaysM
import Derived.Shelf.Strings.Shaped
import Derived.Shelf.Unicode.Latin
import Derived.Shelf.Unicode.Props
import Derived.Shelf.Strings.Runes
import Derived.Shelf.Strings.AsciiSet
import Derived.Shelf.Bits.Mul64
import Derived.Shelf.Unicode.DecodeSlow
import Derived.Shelf.Unicode.DecodeAny
import Derived.Shelf.Unicode.Is16White
import Derived.Shelf.Unicode.IsSpaceAny
import Derived.Shelf.Unicode.DecodeLast
import Derived.Shelf.Unicode.CaseLookup
import Derived.Shelf.Unicode.CaseConvert
import Derived.Shelf.Unicode.CaseTo
import Derived.Shelf.Unicode.CaseLaid
import Derived.Shelf.Unicode.Is16Any
import Derived.Shelf.Unicode.Is32Any
import Derived.Shelf.Unicode.ExclAny
import Derived.Shelf.Unicode.PredsAny
import Derived.Shelf.Unicode.PredsPay
import Derived.Test.YtodcppoglpfodaaGreatDoorProg

set_option linter.unusedVariables false
set_option linter.unusedSimpArgs false

namespace Go.Proofs.YtodcppoglpfodaaGreatDoor
open Go.Wk
set_option linter.unusedVariables false
def DB (dn : List Bool) (x : Int) : Bool := ix false dn x
theorem ix_setB {l : List Bool} {i p : Int} {v : Bool} (h0 : 0 ≤ i) (h1 : i < l.length) (hp : 0 ≤ p) : ix false (l.set i.toNat v) p = if p = i then v else ix false l p := by
  simp only [ix, List.getD_eq_getElem?_getD, List.getElem?_set]
  by_cases e : p = i
  · subst e; rw [if_pos rfl, if_pos rfl, if_pos (by omega)]; rfl
  · rw [if_neg (by omega), if_neg e]
section
variable {C : Int} {H : List Int} {dn : List Bool} {y : List Int}
theorem db_zero {m : Nat} {x : Int} : DB (List.replicate m false) x = false := by
  rw [DB, ix, List.getD_eq_getElem?_getD, List.getElem?_replicate]; split <;> rfl
def iniV (C : Int) (H : List Int) (x : Int) : Int := if lastB C H x = true then ix 0 H x else 31
def IniI (C : Int) (H : List Int) (k : Int) (y : List Int) : Prop := ∀ x, 0 ≤ x → x < k → ix 0 y x = iniV C H x
theorem ini_step {k : Int} {v : Int} (h : IniI C H k y) (h0 : 0 ≤ k) (h1 : k < y.length) (hv : v = iniV C H k) : IniI C H (k + 1) (y.set k.toNat v) := fun x x0 x1 => by
  rw [ix_set0 h0 h1 x0]
  by_cases e : x = k
  · rw [if_pos e, e]; exact hv
  · rw [if_neg e]; exact h x x0 (by omega)
theorem ini_step2 {k : Int} {v u : Int} (h : IniI C H k y) (h0 : 0 ≤ k) (h1 : k < y.length) (hv : v = iniV C H k) : IniI C H (k + 1) ((y.set k.toNat u).set k.toNat v) := by
  rw [List.set_set]; exact ini_step h h0 h1 hv
theorem dj_ini (hok : ShoreOK C H) (h : IniI C H H.length y) (hd : ∀ x, DB dn x = false) : DjI C H (DB dn) (ix 0 y) := dj_start hok (fun x _ => hd x) (fun x hx => h x hx.1 hx.2)
def cntD (H : List Int) (dn : List Bool) : Nat := (rng 0 H.length).countP (DB dn)
theorem cnt_zero (h : ∀ x, DB dn x = false) : cntD H dn = 0 := by
  rw [cntD, List.countP_eq_zero]; intro x _; rw [h x]; decide
theorem cnt_all (h : (H.length : Int) ≤ (cntD H dn : Int)) : ∀ x, inR H x → DB dn x = true := by
  have hl := rng_length (i := 0) (n := H.length) (by omega)
  have he : (rng 0 H.length).countP (DB dn) = (rng 0 H.length).length := by
    have := List.countP_le_length (p := DB dn) (l := rng 0 H.length)
    rw [cntD] at h
    omega
  intro x hx
  exact List.countP_eq_length.1 he x (rng_mem.2 hx)
theorem cnt_some (h : (cntD H dn : Int) < H.length) : ∃ x, inR H x ∧ DB dn x = false := by
  refine Classical.byContradiction fun hn => ?_
  have : (rng 0 H.length).countP (DB dn) = (rng 0 H.length).length := List.countP_eq_length.2 fun x hx => by
    cases hq : DB dn x with
    | true => rfl
    | false => exact absurd ⟨x, rng_mem.1 hx, hq⟩ hn
  have hl := rng_length (i := 0) (n := H.length) (by omega)
  rw [cntD] at h
  omega
theorem db_set {z : Int} (hz : 0 ≤ z ∧ z < (dn.length : Int)) {x : Int} (hx : 0 ≤ x) : DB (dn.set z.toNat true) x = (DB dn x || decide (x = z)) := by
  rw [DB, ix_setB hz.1 hz.2 hx]
  by_cases e : x = z
  · rw [if_pos e, decide_eq_true e, Bool.or_true]
  · rw [if_neg e, decide_eq_false e, Bool.or_false]; rfl
theorem cnt_set {z : Int} (hz : inR H z) (hl : (dn.length : Int) = H.length) (hd : DB dn z = false) : cntD H (dn.set z.toNat true) = cntD H dn + 1 := by
  have key : ∀ (l : List Int), l.Pairwise (· < ·) → (∀ x ∈ l, 0 ≤ x) → l.countP (DB (dn.set z.toNat true)) = l.countP (DB dn) + if z ∈ l then 1 else 0 := by
    intro l
    induction l with
    | nil => intro _ _; rfl
    | cons a l ih =>
      intro hs h0
      obtain ⟨h1, h2⟩ := List.pairwise_cons.1 hs
      have ih := ih h2 fun x hx => h0 x (List.mem_cons_of_mem _ hx)
      rw [List.countP_cons, List.countP_cons, ih, db_set ⟨hz.1, by rw [hl]; exact hz.2⟩ (h0 a (by simp))]
      by_cases e : a = z
      · subst e
        have hnm : ¬ a ∈ l := fun hm => by have := h1 a hm; omega
        rw [hd, decide_eq_true rfl, if_neg hnm, if_pos (List.mem_cons_self)]; simp
      · rw [decide_eq_false e, Bool.or_false]
        by_cases hm : z ∈ l
        · rw [if_pos hm, if_pos (List.mem_cons_of_mem _ hm)]; omega
        · rw [if_neg hm, if_neg (fun q => (List.mem_cons.1 q).elim (fun q => e q.symm) hm)]; omega
  have := key (rng 0 H.length) (rng_asc _ _) fun x hx => (rng_mem.1 hx).1
  rw [if_pos (rng_mem.2 hz)] at this
  exact this
def NxI (dn : List Bool) (y : List Int) (k nx : Int) : Prop := (nx = -1 ∧ ∀ x, 0 ≤ x → x < k → DB dn x = true) ∨ ((0 ≤ nx ∧ nx < k) ∧ DB dn nx = false ∧ ∀ x, 0 ≤ x → x < k → DB dn x = false → ix 0 y nx ≤ ix 0 y x)
theorem nx_start : NxI dn y 0 (-1) := .inl ⟨rfl, fun x x0 x1 => by omega⟩
theorem nx_new {k nx : Int} (h : NxI dn y k nx) (h0 : 0 ≤ k) (hd : DB dn k = false) (hc : nx < 0 ∨ ix 0 y k < ix 0 y nx) : NxI dn y (k + 1) k := by
  refine .inr ⟨⟨h0, by omega⟩, hd, fun x x0 x1 hx => ?_⟩
  by_cases e : x = k
  · rw [e]; exact Int.le_refl _
  · rcases h with ⟨_, h⟩ | ⟨h1, _, h2⟩
    · have := h x x0 (by omega); rw [hx] at this; cases this
    · have := h2 x x0 (by omega) hx
      rcases hc with hc | hc <;> omega
theorem nx_old {k nx : Int} (h : NxI dn y k nx) (h0 : 0 ≤ k) (hc : DB dn k = true ∨ ¬ (nx < 0 ∨ ix 0 y k < ix 0 y nx)) : NxI dn y (k + 1) nx := by
  rcases h with ⟨h1, h2⟩ | ⟨h1, h2, h3⟩
  · refine .inl ⟨h1, fun x x0 x1 => ?_⟩
    by_cases e : x = k
    · rw [e]; rcases hc with hc | hc
      · exact hc
      · omega
    · exact h2 x x0 (by omega)
  · refine .inr ⟨⟨h1.1, by omega⟩, h2, fun x x0 x1 hx => ?_⟩
    by_cases e : x = k
    · subst e
      rcases hc with hc | hc
      · rw [hx] at hc; cases hc
      · omega
    · exact h3 x x0 (by omega) hx
theorem nx_end {nx : Int} (h : NxI dn y H.length nx) (hex : ∃ x, inR H x ∧ DB dn x = false) : inR H nx ∧ DB dn nx = false ∧ ∀ x, inR H x → DB dn x = false → ix 0 y nx ≤ ix 0 y x := by
  rcases h with ⟨_, h⟩ | ⟨h1, h2, h3⟩
  · obtain ⟨x, hx, hd⟩ := hex
    rw [h x hx.1 hx.2] at hd; cases hd
  · exact ⟨h1, h2, fun x hx hd => h3 x hx.1 hx.2 hd⟩
theorem djl_look (hok : ShoreOK C H) {D : Int → Bool} {z m : Int} {ls : List Int} (hz : inR H z) (hI : DjP C H D z (fun x => x ∈ ls) (ix 0 y)) (hl : (H.length : Int) ≤ y.length) (hm : inR H m) (hadj : adjB C z m = true) :
    DjP C H D z (fun x => x ∈ ls ++ [m]) (ix 0 (y.set m.toNat (min (ix 0 y m) (max (ix 0 y z) (ix 0 H m))))) := by
  have := dj_look hok hz hI hm (by rw [adj_symm]; exact hadj) (o' := ix 0 (y.set m.toNat (min (ix 0 y m) (max (ix 0 y z) (ix 0 H m))))) (fun x hx => by rw [ix_set0 hm.1 (by have := hm.2; omega) hx.1])
  obtain ⟨i1, i2, i3, i4, i5⟩ := this
  exact ⟨i1, i2, i3, i4, fun x hx hd hne hxz hp => i5 x hx hd hne hxz (by rcases List.mem_append.1 hp with q | q; exact .inl q; exact .inr (List.mem_singleton.1 q))⟩
theorem djl_river {D : Int → Bool} {z m : Int} {ls : List Int} (hI : DjP C H D z (fun x => x ∈ ls) (ix 0 y)) (hm : (H.length : Int) ≤ m) : DjP C H D z (fun x => x ∈ ls ++ [m]) (ix 0 y) := by
  obtain ⟨i1, i2, i3, i4, i5⟩ := hI
  exact ⟨i1, i2, i3, i4, fun x hx hd hne hxz hp => i5 x hx hd hne hxz (by
    rcases List.mem_append.1 hp with q | q
    · exact q
    · have := hx.2; rw [List.mem_singleton.1 q] at this; omega)⟩
theorem djl_open (hok : ShoreOK C H) (hI : DjI C H (DB dn) (ix 0 y)) {z : Int} (hz : inR H z) (hd : DB dn z = false) (hmin : ∀ x, inR H x → DB dn x = false → ix 0 y z ≤ ix 0 y x) : DjP C H (DB dn) z (fun x => x ∈ ([] : List Int)) (ix 0 y) := by
  obtain ⟨i1, i2, i3, i4, i5⟩ := dj_open hok hI hz hd hmin
  exact ⟨i1, i2, i3, i4, fun x _ _ _ _ hp => nomatch hp⟩
theorem djl_close {z : Int} (hz : inR H z) (hl : (dn.length : Int) = H.length) (hI : DjP C H (DB dn) z (fun x => x ∈ nbW C H.length z) (ix 0 y)) : DjI C H (DB (dn.set z.toNat true)) (ix 0 y) :=
  dj_close hz hI (fun x hx hxz => mem_nbW.2 (.inl ⟨hx, by rw [adj_symm]; exact hxz⟩)) (fun x hx => db_set ⟨hz.1, by rw [hl]; exact hz.2⟩ hx.1)
theorem mem_pre {ls L : List Int} {m : Int} (h : (ls ++ [m]) <+: L) : m ∈ L := by
  obtain ⟨t, rfl⟩ := h; simp
theorem take_map {f : Int → Int} {y : List Int} {n : Int} (h0 : 0 ≤ n) (hl : n ≤ y.length) (h : ∀ x, 0 ≤ x → x < n → ix 0 y x = f x) : y.take n.toNat = (rng 0 n).map f := by
  refine List.ext_getElem (by have := rng_length h0; simp; omega) fun i h1 h2 => ?_
  have hi : (i : Int) < n := by simp at h1; omega
  have hyl : i < y.length := by omega
  have e := h i (by omega) hi
  have hr := ix_rng (n := n) (x := (i : Int)) ⟨by omega, hi⟩
  rw [ix, Int.toNat_natCast, List.getD_eq_getElem?_getD, List.getElem?_eq_getElem (show i < y.length by omega)] at e
  rw [ix, Int.toNat_natCast, List.getD_eq_getElem?_getD, List.getElem?_eq_getElem (show i < (rng 0 n).length by simpa using h2)] at hr
  rw [List.getElem_take, List.getElem_map]
  have e' : y[i] = f i := e
  have hlr : i < (rng 0 n).length := by simpa using h2
  have hr' : (rng 0 n)[i]'hlr = (i : Int) := hr
  rw [hr', e']
theorem kn_in {f : Int → Int} {y : List Int} {n : Int} (hl : n ≤ y.length) (h : ∀ x, 0 ≤ x → x < n → ix 0 y x = f x) (hb : ∀ x, 0 ≤ x → x < n → 0 ≤ f x ∧ f x ≤ 1000) : ∀ x ∈ y.take n.toNat, InK .i64 x := by
  intro x hx
  obtain ⟨i, hi, e⟩ := List.mem_iff_getElem.1 hx
  rw [List.getElem_take] at e
  have hi' : (i : Int) < n := by simp at hi; omega
  have e2 := h i (by omega) hi'
  rw [ix, Int.toNat_natCast, List.getD_eq_getElem?_getD, List.getElem?_eq_getElem (show i < y.length by omega)] at e2
  have e3 : y[i] = f i := e2
  have := hb i (by omega) hi'
  exact in_i64 (by omega) (by omega)
end
end Go.Proofs.YtodcppoglpfodaaGreatDoor
namespace Go.Proofs.YtodcppoglpfodaaGreatDoor
open Go.Wk
def ZT (n : Int) (y : List Int) : Prop := ∀ x, n ≤ x → ix 0 y x = 0
theorem zt_zero {n : Int} {m : Nat} : ZT n (List.replicate m 0) := fun x _ => by
  rw [ix, List.getD_eq_getElem?_getD, List.getElem?_replicate]; split <;> rfl
theorem zt_set {n i v : Int} {y : List Int} (h : ZT n y) (h0 : 0 ≤ i) (h1 : i < n) : ZT n (y.set i.toNat v) := fun x hx => by
  have := h x hx
  rw [ix, List.getD_eq_getElem?_getD, List.getElem?_set, if_neg (by omega)]
  rwa [ix, List.getD_eq_getElem?_getD] at this
theorem rng_get {i : Int} (h0 : 0 ≤ i) {n : Int} (h1 : i < n) : (rng 0 n)[i.toNat]? = some i := by
  rw [rng, List.getElem?_map, List.getElem?_range (by omega)]; simp; omega
end Go.Proofs.YtodcppoglpfodaaGreatDoor

namespace Go.Proofs.YtodcppoglpfodaaGreatDoor
open Go.Wk
set_option linter.unusedVariables false
section
variable {xs ys : List Int} {k : Int}
end
end Go.Proofs.YtodcppoglpfodaaGreatDoor
namespace Go.Proofs.YtodcppoglpfodaaGreatDoor
end Go.Proofs.YtodcppoglpfodaaGreatDoor

namespace Go.Wk
open Go.RowKit Go.Lib

theorem wpIn_scope_straight {F : Fence} {m : Nat} {P : Program} {Q : Exit → Act → World → Prop} {a : Act} {w : World} {c : Code} (h : c.wpIn F m P (Exit.noGoto Q) a w) : (Code.scope c).wpIn F m P Q a w := by
  intro b k cs hro hb hr
  have s0 : StepsIn (Machine.fenced P F) P (lone (b.atR a (.code (.scope c) :: k)) cs w) (lone (b.atR a (.code c :: .inScope c :: k)) cs w) := .one (fenced_calm hb hr rfl) (step_lone_go (by simp [stepG, stepG.exec, Frame.atR]))
  obtain ⟨e, a₁, w₁, hq, harr⟩ := h b (.inScope c :: k) cs hro hb hr
  cases e with
  | normal => exact ⟨.normal, a₁, w₁, hq, StepsIn.trans s0 (StepsIn.trans harr (.one (fenced_calm hb hr rfl) (step_lone_go (by simp [stepG, stepG.exec, Frame.atR]))))⟩
  | exit id => exact ⟨.exit id, a₁, w₁, hq, fun k' hk => StepsIn.trans s0 (harr.1 k' (by simp [exitTo, hk])), fun hro hk => let ⟨k₁, h1, h2⟩ := harr.2 hro (by simp [exitTo, hk]); ⟨k₁, h1, StepsIn.trans s0 h2⟩⟩
  | goto l => exact hq.elim
  | ret => exact ⟨_, a₁, w₁, hq, .of_steps s0 harr⟩
  | panic ch => exact ⟨_, a₁, w₁, hq, .of_steps s0 harr⟩
  | outgrown => exact ⟨_, a₁, w₁, hq, .of_steps s0 harr⟩
theorem W.scope {P : Program} {n : Nat} {kn kr : Cont} {ke : List (Nat × Cont)} {σ : Fr} {w : World} {c : Code} (h : W P n c kn kr ke σ w) : W P n (.scope c) kn kr ke σ w :=
  fun T hT r ds m => wpIn_scope_straight (wpIn_mono (h T hT r ds m) fun e _ _ q => by cases e <;> exact q)

def runeAt (s : ByteArray) (p : Int) : Int := ((Utf8.decode s p.toNat).1 : Nat)
def runeW (s : ByteArray) (p : Int) : Int := ((Utf8.decode s p.toNat).2 : Nat)

theorem get_tab (s : ByteArray) (i : Nat) : (((s.get! i).toNat : Nat) : Int) = tabAt s (i : Int) := by
  rw [tabAt]
  simp only [Int.toNat_natCast, ByteArray.get!, List.getD_eq_getElem?_getD]
  congr 2
  by_cases h : i < s.data.size
  · rw [getElem!_pos s.data i h, Array.getElem?_toList, Array.getElem?_eq_getElem h]; rfl
  · rw [getElem!_neg s.data i h, Array.getElem?_toList, Array.getElem?_eq_none (by omega)]; rfl
theorem tab_le (s : ByteArray) (p : Int) : 0 ≤ tabAt s p ∧ tabAt s p ≤ 255 := tabAt_bd s p
def dec5 (b0 b1 b2 b3 : Nat) (c1 c2 c3 : Bool) : Nat × Nat :=
  if b0 < 128 then (b0, 1)
  else if (b0 / 32 == 6 && c1) = true then (if 128 ≤ (b0 % 32) * 64 + b1 % 64 then ((b0 % 32) * 64 + b1 % 64, 2) else (65533, 1))
  else if (b0 / 16 == 14 && c1 && c2) = true then (if (2048 ≤ (b0 % 16) * 4096 + (b1 % 64) * 64 + b2 % 64) ∧ Utf8.valid ((b0 % 16) * 4096 + (b1 % 64) * 64 + b2 % 64 : Nat) = true then ((b0 % 16) * 4096 + (b1 % 64) * 64 + b2 % 64, 3) else (65533, 1))
  else if (b0 / 8 == 30 && c1 && c2 && c3) = true then (if (65536 ≤ (b0 % 8) * 262144 + (b1 % 64) * 4096 + (b2 % 64) * 64 + b3 % 64) ∧ Utf8.valid ((b0 % 8) * 262144 + (b1 % 64) * 4096 + (b2 % 64) * 64 + b3 % 64 : Nat) = true then ((b0 % 8) * 262144 + (b1 % 64) * 4096 + (b2 % 64) * 64 + b3 % 64, 4) else (65533, 1))
  else (65533, 1)
theorem dec5_cases (b0 b1 b2 b3 : Nat) (c1 c2 c3 : Bool) (h0 : b0 < 256) : (b0 < 128 ∧ dec5 b0 b1 b2 b3 c1 c2 c3 = (b0, 1)) ∨ (128 ≤ b0 ∧ 128 ≤ (dec5 b0 b1 b2 b3 c1 c2 c3).1 ∧ (dec5 b0 b1 b2 b3 c1 c2 c3).1 ≤ 1114111 ∧ (dec5 b0 b1 b2 b3 c1 c2 c3).2 ≤ 4) := by
  have hv : ∀ c : Nat, Utf8.valid (c : Int) = true → c ≤ 1114111 := fun c hc => by
    simp only [Utf8.valid, Bool.and_eq_true, Bool.or_eq_true, decide_eq_true_eq] at hc
    omega
  have hr : (128 ≤ 65533 ∧ 65533 ≤ 1114111 ∧ 1 ≤ 4) := by decide
  by_cases h : b0 < 128
  · left; exact ⟨h, by rw [dec5, if_pos h]⟩
  · right
    refine ⟨by omega, ?_⟩
    rw [dec5, if_neg h]
    by_cases h1 : (b0 / 32 == 6 && c1) = true
    · rw [if_pos h1]
      by_cases g : 128 ≤ (b0 % 32) * 64 + b1 % 64
      · rw [if_pos g]
        exact ⟨g, by show _ ≤ 1114111; omega, by show 2 ≤ 4; omega⟩
      · rw [if_neg g]; exact hr
    · rw [if_neg h1]
      by_cases h2 : (b0 / 16 == 14 && c1 && c2) = true
      · rw [if_pos h2]
        by_cases g : (2048 ≤ (b0 % 16) * 4096 + (b1 % 64) * 64 + b2 % 64) ∧ Utf8.valid ((b0 % 16) * 4096 + (b1 % 64) * 64 + b2 % 64 : Nat) = true
        · rw [if_pos g]
          exact ⟨by show 128 ≤ _; omega, hv _ g.2, by show 3 ≤ 4; omega⟩
        · rw [if_neg g]; exact hr
      · rw [if_neg h2]
        by_cases h3 : (b0 / 8 == 30 && c1 && c2 && c3) = true
        · rw [if_pos h3]
          by_cases g : (65536 ≤ (b0 % 8) * 262144 + (b1 % 64) * 4096 + (b2 % 64) * 64 + b3 % 64) ∧ Utf8.valid ((b0 % 8) * 262144 + (b1 % 64) * 4096 + (b2 % 64) * 64 + b3 % 64 : Nat) = true
          · rw [if_pos g]
            exact ⟨by show 128 ≤ _; omega, hv _ g.2, by show 4 ≤ 4; omega⟩
          · rw [if_neg g]; exact hr
        · rw [if_neg h3]; exact hr
theorem decode_dec5 (s : ByteArray) (i : Nat) : Utf8.decode s i = dec5 (s.get! i).toNat (s.get! (i + 1)).toNat (s.get! (i + 2)).toNat (s.get! (i + 3)).toNat (decide (i + 1 < s.size) && (s.get! (i + 1)).toNat / 64 == 2) (decide (i + 2 < s.size) && (s.get! (i + 2)).toNat / 64 == 2) (decide (i + 3 < s.size) && (s.get! (i + 3)).toNat / 64 == 2) := by
  simp only [Utf8.decode, dec5, Utf8.runeError, Bool.and_eq_true, decide_eq_true_eq, ge_iff_le, Nat.add_zero]
theorem decode_cases (s : ByteArray) (i : Nat) : (tabAt s i < 128 ∧ Utf8.decode s i = ((tabAt s i).toNat, 1)) ∨ (128 ≤ tabAt s i ∧ 128 ≤ (Utf8.decode s i).1 ∧ (Utf8.decode s i).1 ≤ 1114111 ∧ (Utf8.decode s i).2 ≤ 4) := by
  have h0 := get_tab s i
  have hb := tab_le s i
  rw [decode_dec5]
  rcases dec5_cases (s.get! i).toNat (s.get! (i + 1)).toNat (s.get! (i + 2)).toNat (s.get! (i + 3)).toNat (decide (i + 1 < s.size) && (s.get! (i + 1)).toNat / 64 == 2) (decide (i + 2 < s.size) && (s.get! (i + 2)).toNat / 64 == 2) (decide (i + 3 < s.size) && (s.get! (i + 3)).toNat / 64 == 2) (by omega) with ⟨h1, h2⟩ | ⟨h1, h2⟩
  · left; exact ⟨by omega, by rw [h2, ← h0]; rfl⟩
  · right; exact ⟨by omega, h2⟩
theorem runeAt_ascii {s : ByteArray} {p : Int} (h0 : 0 ≤ p) (h : tabAt s p < 128) : runeAt s p = tabAt s p ∧ runeW s p = 1 := by
  have e : ((p.toNat : Nat) : Int) = p := Int.toNat_of_nonneg h0
  have := decode_cases s p.toNat
  have hb := tab_le s p
  rw [e] at this
  rcases this with ⟨_, h2⟩ | ⟨h1, _⟩
  · rw [runeAt, runeW, h2]; exact ⟨by omega, rfl⟩
  · omega
theorem runeAt_other {s : ByteArray} {p : Int} (h0 : 0 ≤ p) (h : 128 ≤ tabAt s p) : 128 ≤ runeAt s p := by
  have e : ((p.toNat : Nat) : Int) = p := Int.toNat_of_nonneg h0
  have := decode_cases s p.toNat
  rw [e] at this
  rcases this with ⟨h1, _⟩ | ⟨_, h1, _⟩
  · omega
  · rw [runeAt]; omega
theorem runeAt_bd (s : ByteArray) (p : Int) : 0 ≤ runeAt s p ∧ runeAt s p ≤ 1114111 := by
  have := decode_cases s p.toNat
  have hb := tab_le s (p.toNat : Int)
  rw [runeAt]
  rcases this with ⟨h1, h2⟩ | ⟨_, _, h1, _⟩
  · rw [h2]; show 0 ≤ (((tabAt s p.toNat).toNat : Nat) : Int) ∧ _; omega
  · omega
theorem encode_last {r : Int} (h : 128 ≤ r) : 2 ≤ (Utf8.encode r).size ∧ (Utf8.encode r).size ≤ 4 ∧ 128 ≤ tabAt (Utf8.encode r) ((Utf8.encode r).size - 1 : Int) := by
  have hc : ∀ c : Nat, 128 ≤ c → c < 2097152 → 2 ≤ (if c < 0x80 then (⟨#[UInt8.ofNat c]⟩ : ByteArray) else if c < 0x800 then ⟨#[UInt8.ofNat (0xC0 + c / 64), UInt8.ofNat (0x80 + c % 64)]⟩ else if c < 0x10000 then ⟨#[UInt8.ofNat (0xE0 + c / 4096), UInt8.ofNat (0x80 + c / 64 % 64), UInt8.ofNat (0x80 + c % 64)]⟩ else ⟨#[UInt8.ofNat (0xF0 + c / 262144), UInt8.ofNat (0x80 + c / 4096 % 64), UInt8.ofNat (0x80 + c / 64 % 64), UInt8.ofNat (0x80 + c % 64)]⟩).size ∧ (if c < 0x80 then (⟨#[UInt8.ofNat c]⟩ : ByteArray) else if c < 0x800 then ⟨#[UInt8.ofNat (0xC0 + c / 64), UInt8.ofNat (0x80 + c % 64)]⟩ else if c < 0x10000 then ⟨#[UInt8.ofNat (0xE0 + c / 4096), UInt8.ofNat (0x80 + c / 64 % 64), UInt8.ofNat (0x80 + c % 64)]⟩ else ⟨#[UInt8.ofNat (0xF0 + c / 262144), UInt8.ofNat (0x80 + c / 4096 % 64), UInt8.ofNat (0x80 + c / 64 % 64), UInt8.ofNat (0x80 + c % 64)]⟩).size ≤ 4 ∧
      128 ≤ tabAt (if c < 0x80 then (⟨#[UInt8.ofNat c]⟩ : ByteArray) else if c < 0x800 then ⟨#[UInt8.ofNat (0xC0 + c / 64), UInt8.ofNat (0x80 + c % 64)]⟩ else if c < 0x10000 then ⟨#[UInt8.ofNat (0xE0 + c / 4096), UInt8.ofNat (0x80 + c / 64 % 64), UInt8.ofNat (0x80 + c % 64)]⟩ else ⟨#[UInt8.ofNat (0xF0 + c / 262144), UInt8.ofNat (0x80 + c / 4096 % 64), UInt8.ofNat (0x80 + c / 64 % 64), UInt8.ofNat (0x80 + c % 64)]⟩) (((if c < 0x80 then (⟨#[UInt8.ofNat c]⟩ : ByteArray) else if c < 0x800 then ⟨#[UInt8.ofNat (0xC0 + c / 64), UInt8.ofNat (0x80 + c % 64)]⟩ else if c < 0x10000 then ⟨#[UInt8.ofNat (0xE0 + c / 4096), UInt8.ofNat (0x80 + c / 64 % 64), UInt8.ofNat (0x80 + c % 64)]⟩ else ⟨#[UInt8.ofNat (0xF0 + c / 262144), UInt8.ofNat (0x80 + c / 4096 % 64), UInt8.ofNat (0x80 + c / 64 % 64), UInt8.ofNat (0x80 + c % 64)]⟩).size : Nat) - 1 : Int) := by
    intro c h1 h2
    have hm : ∀ u : Nat, 128 ≤ u → u < 256 → (128 : Int) ≤ ((UInt8.ofNat u).toNat : Nat) := fun u h3 h4 => by
      rw [UInt8.toNat_ofNat']; omega
    have hb := hm (0x80 + c % 64) (by omega) (by omega)
    rw [if_neg (by omega)]
    split
    · exact ⟨Nat.le_refl 2, Nat.le_add_right 2 2, hb⟩
    · split
      · exact ⟨Nat.le_add_right 2 1, Nat.le_add_right 3 1, hb⟩
      · exact ⟨Nat.le_add_right 2 2, Nat.le_refl 4, hb⟩
  simp only [Utf8.encode]
  refine hc _ ?_ ?_
  · split <;> first | omega | decide
  · split
    · rename_i hv
      simp only [Utf8.valid, Bool.and_eq_true, Bool.or_eq_true, decide_eq_true_eq] at hv
      omega
    · decide

section
variable {P : Program} {n : Nat} {w w0 w' : World} {O : List (Option Nat)} {obs : List Ob} {ops : Array Oper} {rest : List Oper} {k : Cont} {d : Tmp} {ty : TypeId} {pos : String} {af : Array Edge}
  {l : List (Nat × Value)} {σ0 σ : Fr} {T T' : TypeId} {x y z lo hi mx : Operand}

theorem rd_convRS {s dd : TypeId} {r : Int} (hx : ev σ x = .int .i32 r) (hs : P.underlying s = some (.int .i32)) (hd : P.underlying dd = some .string) :
    Rd P σ (.convert s dd x) ty w (.string (Utf8.encode r)) :=
  Rd.of fun w' => by
    simp [xop, execOp, hx, convert, run_underlying hs, run_underlying hd, Conv.intToString]
theorem Wx.rangeS {s : ByteArray} (hS : St w0 O w obs) (hx : ev (look l σ0) x = .string s) (hu : P.underlying T = some .string) (hd : Nat.ble (d + 1) n = true)
    (h : ∀ g w', Ext w w' → St w0 O w' (.raw g (.stringIter s 0) :: obs) → Wx P n ops false rest k (look ((d, .pointer (some ⟨g, 0, none⟩)) :: l) σ0) w') :
    Wx P n ops false (⟨some d, .range T x, ty, pos, af, none⟩ :: rest) k (look l σ0) w := by
  have he : Ext w (w.iter s 0) := (Below.refl _ _).alloc (Nat.le_refl _) _
  refine Wx.val (v := .pointer (some ⟨w.heap.size, 0, none⟩)) (w' := w.iter s 0) ?_ hd (h w.heap.size _ he (hS.push he _ (fun b hb => by simp [Ob.blk] at hb; omega) (fun F _ => ⟨hS.bel.size, World.iter_heap w s 0⟩)))
  simp [xop, execOp, hx, run_range_string w T s hu]
theorem Wx.nextS {s : ByteArray} {g : Nat} {p : Nat} (hS : St w0 O w obs) (i : Nat) (hi : obs[i]? = some (.raw g (.stringIter s p))) (hx : ev (look l σ0) x = .pointer (some ⟨g, 0, none⟩)) (hd : Nat.ble (d + 1) n = true)
    (h1 : (p : Int) < s.size → ∀ w', w.heap.size ≤ w'.heap.size → St w0 O w' (obs.set i (.raw g (.stringIter s (p + (Utf8.decode s p).2)))) → Wx P n ops false rest k (look ((d, .tuple #[.bool true, .int .i64 p, .int .i32 (Utf8.decode s p).1]) :: l) σ0) w')
    (h2 : ¬ (p : Int) < s.size → Wx P n ops false rest k (look ((d, .tuple #[.bool false]) :: l) σ0) w) :
    Wx P n ops false (⟨some d, .next x true, ty, pos, af, none⟩ :: rest) k (look l σ0) w := by
  have hb := hS.get i hi
  by_cases hp : p < s.size
  · refine Wx.val (v := .tuple #[.bool true, .int .i64 p, .int .i32 (Utf8.decode s p).1]) (w' := w.iterAt g s (p + (Utf8.decode s p).2)) ?_ hd (h1 (by omega) _ (by rw [iterAt_size]; exact Nat.le_refl _) ?_)
    · simp [xop, execOp, hx, run_next_any_at w g s p ty hb.2 hp]
    · refine hS.turn i hi rfl rfl rfl (by rw [iterAt_size]; exact Nat.le_refl _) (fun b _ hb' => iterAt_other w g b s _ (fun e => hb' (by rw [e]; rfl))) (fun b hb' => .inl hb') (fun b hb' => by rw [iterAt_size]; exact (Ob.ok_lt hb hb').2) (fun F _ => ⟨hb.1, iterAt_heap w g s p _ hb.2⟩)
  · refine Wx.val (v := .tuple #[.bool false]) (w' := w) ?_ hd (h2 (by omega))
    simp [xop, execOp, hx, run_next_end_at w g s p ty hb.2 hp]
end
end Go.Wk

namespace Go.Wk
open Go.RowKit Go.Lib
set_option linter.unusedVariables false

abbrev Tab := Int → Int → Int × Int
def cellT (T : Tab) (m : Nat) : Int := if m % 2 = 0 then (T (m / 26 : Nat) (m / 2 % 13 : Nat)).1 else (T (m / 26 : Nat) (m / 2 % 13 : Nat)).2
def tabC (s : ByteArray) (T : Tab) : List Value := .string s :: (List.range 338).map fun m => .int .i64 (cellT T m)
def updT (T : Tab) (i n : Int) (p : Int × Int) : Tab := fun a b => if a = i ∧ b = n then p else T a b
theorem tabC_len (s : ByteArray) (T : Tab) : (tabC s T).length = 339 := by simp [tabC]
theorem tabC_get (s : ByteArray) (T : Tab) {m : Nat} (h : m < 338) : (tabC s T)[m + 1]? = some (.int .i64 (cellT T m)) := by
  rw [tabC, List.getElem?_cons_succ, List.getElem?_map, List.getElem?_range h]; rfl
theorem cellT_1 (T : Tab) {i n : Int} (i0 : 0 ≤ i) (n0 : 0 ≤ n) (n1 : n < 13) : cellT T (i.toNat * 26 + n.toNat * 2) = (T i n).1 := by
  have h1 : ((i.toNat * 26 + n.toNat * 2) / 26 : Nat) = i.toNat := by omega
  have h2 : ((i.toNat * 26 + n.toNat * 2) / 2 % 13 : Nat) = n.toNat := by omega
  rw [cellT, if_pos (by omega), h1, h2, Int.toNat_of_nonneg i0, Int.toNat_of_nonneg n0]
theorem cellT_2 (T : Tab) {i n : Int} (i0 : 0 ≤ i) (n0 : 0 ≤ n) (n1 : n < 13) : cellT T (i.toNat * 26 + n.toNat * 2 + 1) = (T i n).2 := by
  have h1 : ((i.toNat * 26 + n.toNat * 2 + 1) / 26 : Nat) = i.toNat := by omega
  have h2 : ((i.toNat * 26 + n.toNat * 2 + 1) / 2 % 13 : Nat) = n.toNat := by omega
  rw [cellT, if_neg (by omega), h1, h2, Int.toNat_of_nonneg i0, Int.toNat_of_nonneg n0]
theorem tabC_0 (s : ByteArray) (T : Tab) : (tabC s T)[0]? = some (.string s) := rfl
section
variable (s : ByteArray) (T : Tab) {i n : Int} (i0 : 0 ≤ i) (i1 : i < 13) (n0 : 0 ≤ n) (n1 : n < 13)
include i0 i1 n0 n1
theorem tabC_1 : (tabC s T)[1 + i.toNat * 26 + n.toNat * 2]? = some (.int .i64 (T i n).1) := by
  rw [show 1 + i.toNat * 26 + n.toNat * 2 = (i.toNat * 26 + n.toNat * 2) + 1 by omega, tabC_get s T (by omega), cellT_1 T i0 n0 n1]
theorem tabC_2 : (tabC s T)[1 + i.toNat * 26 + n.toNat * 2 + 1]? = some (.int .i64 (T i n).2) := by
  rw [show 1 + i.toNat * 26 + n.toNat * 2 + 1 = (i.toNat * 26 + n.toNat * 2 + 1) + 1 by omega, tabC_get s T (by omega), cellT_2 T i0 n0 n1]
theorem tabC_at : ((tabC s T).drop (1 + i.toNat * 26 + n.toNat * 2)).take 2 = [.int .i64 (T i n).1, .int .i64 (T i n).2] := by
  have h1 := tabC_1 s T i0 i1 n0 n1
  have h2 := tabC_2 s T i0 i1 n0 n1
  refine List.ext_getElem? fun k => ?_
  rw [List.getElem?_take]
  split
  · rw [List.getElem?_drop]
    rcases (by omega : k = 0 ∨ k = 1) with rfl | rfl
    · exact h1
    · exact h2
  · rename_i hk
    rw [List.getElem?_eq_none (by simp only [List.length_cons, List.length_nil]; omega)]
theorem cellT_upd (a b : Int) (m : Nat) (h : m < 338) : cellT (updT T i n (a, b)) m = if m = i.toNat * 26 + n.toNat * 2 then a else if m = i.toNat * 26 + n.toNat * 2 + 1 then b else cellT T m := by
  by_cases he : ((m / 26 : Nat) : Int) = i ∧ ((m / 2 % 13 : Nat) : Int) = n
  · rw [cellT, updT, if_pos he]
    by_cases hm : m % 2 = 0
    · rw [if_pos hm, if_pos (by omega)]
    · rw [if_neg hm, if_neg (by omega), if_pos (by omega)]
  · rw [if_neg (by omega), if_neg (by omega), cellT, cellT, updT, if_neg he]
theorem tabC_set (a b : Int) : (tabC s T).take (1 + i.toNat * 26 + n.toNat * 2) ++ [.int .i64 a, .int .i64 b] ++ (tabC s T).drop (1 + i.toNat * 26 + n.toNat * 2 + 2) = tabC s (updT T i n (a, b)) := by
  have hl := tabC_len s T
  have hl2 := tabC_len s (updT T i n (a, b))
  refine List.ext_getElem? fun k => ?_
  by_cases hk : 339 ≤ k
  · rw [List.getElem?_eq_none (by simp only [List.length_append, List.length_take, List.length_drop, List.length_cons, List.length_nil]; omega), List.getElem?_eq_none (by omega)]
  · have hlt : (List.take (1 + i.toNat * 26 + n.toNat * 2) (tabC s T)).length = 1 + i.toNat * 26 + n.toNat * 2 := by rw [List.length_take]; omega
    rcases (by cases k with | zero => exact .inl rfl | succ m => exact .inr ⟨m, rfl, by omega⟩ : k = 0 ∨ ∃ m, k = m + 1 ∧ m < 338) with rfl | ⟨m, rfl, hm⟩
    · rw [List.append_assoc, List.getElem?_append_left (by omega), List.getElem?_take, if_pos (by omega)]; rfl
    · rw [tabC_get _ _ hm, cellT_upd T i0 i1 n0 n1 a b m hm]
      by_cases h1 : m < i.toNat * 26 + n.toNat * 2
      · rw [List.append_assoc, List.getElem?_append_left (by omega), List.getElem?_take, if_pos (by omega), tabC_get _ _ hm, if_neg (by omega), if_neg (by omega)]
      · by_cases h2 : m = i.toNat * 26 + n.toNat * 2
        · rw [List.append_assoc, List.getElem?_append_right (by omega), hlt, if_pos h2, show m + 1 - (1 + i.toNat * 26 + n.toNat * 2) = 0 by omega]; rfl
        · by_cases h3 : m = i.toNat * 26 + n.toNat * 2 + 1
          · rw [List.append_assoc, List.getElem?_append_right (by omega), hlt, if_neg h2, if_pos h3, show m + 1 - (1 + i.toNat * 26 + n.toNat * 2) = 1 by omega]; rfl
          · rw [List.getElem?_append_right (by simp only [List.length_append, List.length_cons, List.length_nil]; omega), List.length_append, hlt, List.getElem?_drop, if_neg h2, if_neg h3]
            rw [show 1 + i.toNat * 26 + n.toNat * 2 + 2 + (m + 1 - (1 + i.toNat * 26 + n.toNat * 2 + [Value.int .i64 a, Value.int .i64 b].length)) = m + 1 by simp only [List.length_cons, List.length_nil]; omega]
            exact tabC_get s T hm
end

section
variable {P : Program} {n : Nat} {σ : Fr} {w w0 : World} {O : List (Option Nat)} {obs : List Ob} {x : Operand} {ty T' : TypeId} {g : Nat} {e : TypeId} {s : ByteArray} {T : Tab} {i m : Int}
  (hb : ∀ w', Ext w w' → w'.heap[g]? = some (.cells (tabC s T).toArray e (0, 0)))
include hb
theorem rd_tabS (hx : ev σ x = .pointer (some ⟨g, 0, none⟩)) (hag : ∀ w', (isAgg T').run P w' = .ok false w') : Rd P σ (.load T' x) ty w (.string s) :=
  rd_loadO (hb w (Ext.refl w)) (Ext.refl w) hx (by rw [List.getElem?_toArray]; exact tabC_0 s T) hag
theorem rd_tabP (hx : ev σ x = .pointer (some ⟨g, 1 + i.toNat * 26 + m.toNat * 2, none⟩)) (i0 : 0 ≤ i) (i1 : i < 13) (m0 : 0 ≤ m) (m1 : m < 13) (hag : ∀ w', (isAgg T').run P w' = .ok true w') (hsz : ∀ w', (sizeOf T').run P w' = .ok 2 w') :
    Rd P σ (.load T' x) ty w (.agg #[.int .i64 (T i m).1, .int .i64 (T i m).2]) := by
  intro w' hw'
  have hat := tabC_at s T i0 i1 m0 m1
  have hl : (loadVar T' ⟨g, 1 + i.toNat * 26 + m.toNat * 2, none⟩).run P w' = .ok (.agg #[.int .i64 (T i m).1, .int .i64 (T i m).2]) w' := run_loadN hag hsz (fun j u hu => by
    rw [Addr.add_lit, cell_of_row w' g (1 + i.toNat * 26 + m.toNat * 2 + j) _ e (0, 0) (hb w' hw')]
    have hu' : ([Value.int .i64 (T i m).1, .int .i64 (T i m).2])[j]? = some u := by simpa using hu
    rw [← hat, List.getElem?_take] at hu'
    split at hu'
    · rw [List.getElem?_drop] at hu'
      simpa using hu'
    · cases hu')
  simp [xop, execOp, hx, Instr.loadAt, Instr.sureAddr, hl]
end

def fldTy (P : Program) (s : TypeId) (f : Nat) : Option (TypeId × Nat) :=
  match P.underlying s with
  | some (.struct fs) => (fs[f]?).map fun fd => (fd.type, fd.offset)
  | _ => none
theorem rd_fieldV {P : Program} {σ : Fr} {w : World} {x : Operand} {ty s ft : TypeId} {f j : Nat} {cs : Array Value} {v : Value} (hx : ev σ x = .agg cs) (hf : fldTy P s f = some (ft, j)) (hag : ∀ w', (isAgg ft).run P w' = .ok false w') (hc : cs[j]? = some v) : Rd P σ (.field s x f) ty w v :=
  Rd.of fun w' => by
    unfold fldTy at hf
    split at hf
    · rename_i fs hu
      cases hfd : fs[f]? with
      | none => rw [hfd] at hf; cases hf
      | some fd =>
        rw [hfd] at hf
        simp only [Option.map_some, Option.some.injEq, Prod.mk.injEq] at hf
        obtain ⟨rfl, rfl⟩ := hf
        simp [xop, execOp, hx, Instr.field, run_underlying hu, hfd, asAgg, part, hag, hc]
    · cases hf

theorem St.shrink {w0 w : World} {O : List (Option Nat)} {obs : List Ob} {α : Type} {t : Ty α} {e : TypeId} {ys : List α} {g len c m : Nat} (hS : St w0 O w obs) (i : Nat) (hi : obs[i]? = some (.row t e (.slice (some ⟨g, 0, none⟩) len c) ys)) (hm : m ≤ ys.length) :
    St w0 O w (obs.set i (.row t e (.slice (some ⟨g, 0, none⟩) m c) (ys.take m))) := by
  obtain ⟨cs, hr, hR⟩ := hS.get i hi
  rcases hr.2 with ⟨h0, _⟩ | ⟨g', cap, cur, hv, q1, q2, q3, q4, q5, q6⟩
  · cases h0
  · simp only [Value.slice.injEq, Option.some.injEq, Addr.mk.injEq, and_true] at hv
    obtain ⟨rfl, rfl, rfl⟩ := hv
    have hcl : cs.length = ys.length * t.n := hr.1
    have hmn : m * t.n ≤ ys.length * t.n := Nat.mul_le_mul_right _ hm
    have hl : (ys.take m).length = m := by rw [List.length_take]; omega
    refine hS.turn (w' := w) i hi rfl rfl rfl (Nat.le_refl _) (fun _ _ _ => rfl) (fun b hb' => .inl hb') (fun b hb' => (Ob.ok_lt (hS.get i hi) hb').2) (fun F hM => ?_)
    refine ⟨cs.take (m * t.n), ⟨by rw [hl, List.length_take]; omega, .inr ⟨g, c, cur, by rw [hl], q1, q2, by rw [hl]; omega, q4, q5, ?_⟩⟩, (hR.mv hM).take m⟩
    rw [hl, ← q6, List.take_take, Nat.min_eq_left hmn]

theorem St.pushBox {w0 w w' : World} {O : List (Option Nat)} {obs : List Ob} {g : Nat} {e : TypeId} {cs : List Value} (hS : St w0 O w obs) (hx : Ext w w') (hg : w.heap.size ≤ g) (h : w'.heap[g]? = some (.cells cs.toArray e (0, 0))) : St w0 O w' (.box g e cs :: obs) :=
  hS.push hx _ (fun b hb => by simp only [Ob.blk, Option.some.injEq] at hb; omega) (fun _ _ => ⟨Nat.le_trans hS.bel.size hg, h⟩)
end Go.Wk

namespace Go.Wk
open Go.RowKit Go.Lib
set_option linter.unusedVariables false

theorem reps_int {k : IntKind} {F : List (Option Nat)} {w : World} {ys : List Int} {cs : List Value} (h : Reps (tI k) F w ys cs) : cs = ys.map (Value.int k) := by
  have hl : cs.length = ys.length * 1 := h.1
  refine List.ext_getElem? fun i => ?_
  by_cases hi : i < ys.length
  · obtain ⟨h1, _⟩ := h.2 i _ (List.getElem?_eq_getElem hi)
    have h2 : (cs.drop (i * 1)).take 1 = [.int k ys[i]] := h1
    rw [Nat.mul_one] at h2
    have h3 : ((cs.drop i).take 1)[0]? = some (.int k ys[i]) := by rw [h2]; rfl
    rw [List.getElem?_take, if_pos (by decide), List.getElem?_drop, Nat.add_zero] at h3
    rw [h3, List.getElem?_map, List.getElem?_eq_getElem hi]; rfl
  · rw [List.getElem?_eq_none (by omega), List.getElem?_eq_none (by rw [List.length_map]; omega)]

section
variable {P : Program} {n : Nat} {k : Cont} {σ σ0 : Fr} {w w0 : World} {O : List (Option Nat)} {obs : List Ob} {x : Operand} {ty T : TypeId} {l : List (Nat × Value)} {d : Tmp} {pos : String} {af : Array Edge} {ops : Array Oper} {rest : List Oper}

end
end Go.Wk

namespace Go.Wk
open Go.RowKit

abbrev ContD := List Nat → Cont
def mkD (D : Nat) : Deferred := { target := .collected D, args := #[] }
def marks (Ds : List Nat) : List Deferred := Ds.map mkD
def DOb (Ds : List Nat) : List Ob := Ds.map fun D => .raw D (.deferred (some []))
def findX (id : Nat) : List (Nat × ContD) → Option ContD
  | [] => none
  | (i, k) :: l => bif Nat.beq id i then some k else findX id l
def postM (n : Nat) (kn kr : ContD) (ke : List (Nat × ContD)) : Exit → Act → World → Prop
  | .normal, a, w => a.tmps.size = n ∧ ∃ Ds, a.defers = marks Ds ∧ kn Ds (fun i => a.tmps.getD i undef) w
  | .ret, a, w => a.tmps.size = n ∧ ∃ Ds, a.defers = marks Ds ∧ kr Ds (fun i => a.tmps.getD i undef) w
  | .exit id, a, w => a.tmps.size = n ∧ ∃ Ds, a.defers = marks Ds ∧ match findX id ke with
    | some k => k Ds (fun i => a.tmps.getD i undef) w
    | none => False
  | _, _, _ => False
def WD (P : Program) (n : Nat) (c : Code) (kn kr : ContD) (ke : List (Nat × ContD)) (Ds : List Nat) (σ : Fr) (w : World) : Prop :=
  ∀ T, AtF n σ T → ∀ m, c.wpIn Fence.wide m P (postM n kn kr ke) ⟨T, marks Ds⟩ w
theorem findX_map (Ds : List Nat) (id : Nat) : ∀ (ke : List (Nat × ContD)), findEx id (ke.map fun x => (x.1, x.2 Ds)) = (findX id ke).map fun k => k Ds
  | [] => rfl
  | (i, k) :: l => by
    simp only [List.map_cons, findEx, findX]
    cases Nat.beq id i with
    | true => rfl
    | false => exact findX_map Ds id l
section
variable {P : Program} {n : Nat} {kn kr : ContD} {ke : List (Nat × ContD)} {Ds : List Nat} {σ : Fr} {w : World}
theorem WD.ofW {c : Code} (h : W P n c (kn Ds) (kr Ds) (ke.map fun x => (x.1, x.2 Ds)) σ w) : WD P n c kn kr ke Ds σ w := by
  intro T hT m
  refine wpIn_mono (F := Fence.wide) (h T hT none (marks Ds) m) ?_
  intro e a w hq
  cases e with
  | normal => exact ⟨hq.1, Ds, hq.2.1, hq.2.2⟩
  | ret => exact ⟨hq.1, Ds, hq.2.1, hq.2.2⟩
  | exit id =>
    obtain ⟨h1, h2, h3⟩ := hq
    refine ⟨h1, Ds, h2, ?_⟩
    rw [findX_map] at h3
    cases hf : findX id ke with
    | none => rw [hf] at h3; exact h3
    | some k => rw [hf] at h3; exact h3
  | goto l => exact hq
  | panic ch => exact hq
  | outgrown => exact hq
theorem WD.seq {a b : Code} (h : WD P n a (fun Ds σ w => WD P n b kn kr ke Ds σ w) kr ke Ds σ w) : WD P n (.seq a b) kn kr ke Ds σ w := by
  intro T hT m
  refine wpIn_seq (wpIn_mono (h T hT m) ?_)
  intro e a' w' hq
  cases e with
  | normal =>
    obtain ⟨h1, Ds', h2, h3⟩ := hq
    have := h3 a'.tmps (AtF.self h1) m
    cases a'
    simp only at h2
    subst h2
    exact this
  | exit id => exact hq
  | goto l => exact hq
  | ret => exact hq
  | panic ch => exact hq
  | outgrown => exact hq
theorem WD.block {id : Nat} {c : Code} (h : WD P n c kn kr ((id, kn) :: ke) Ds σ w) : WD P n (.block id c) kn kr ke Ds σ w := by
  intro T hT m
  refine wpIn_block (wpIn_mono (h T hT m) ?_)
  intro e a' w' hq
  cases e with
  | exit id' =>
    simp only [postM, findX] at hq
    simp only [Exit.inBlock]
    by_cases hid : id' = id
    · subst hid
      have hb : Nat.beq id' id' = true := Nat.beq_refl id'
      rw [if_pos rfl]
      rw [hb] at hq
      exact hq
    · have hb : Nat.beq id' id = false := by
        cases hq' : Nat.beq id' id with
        | false => rfl
        | true => exact absurd (Nat.eq_of_beq_eq_true hq') hid
      rw [if_neg hid]
      rw [hb] at hq
      exact hq
  | normal => exact hq
  | goto l => exact hq
  | ret => exact hq
  | panic ch => exact hq
  | outgrown => exact hq
theorem WD.loop {X : Type _} (D : List Nat) (f : X → List (Nat × Value)) (I : X → World → Prop) (m : X → Nat) (dso : X → List Nat) (x0 : X) {c : Code} (h0 : Has (f x0) σ) (hDs : dso x0 = Ds) (hI : I x0 w)
    (round : ∀ (x : X) (u : Fr) (w : World), I x w → WD P n c (fun Ds' σ' w' => ∃ x', m x' < m x ∧ dso x' = Ds' ∧ I x' w' ∧ Agr D (f x') σ σ') kr ke (dso x) (look (f x) (hav D u σ)) w) :
    WD P n (.loop c) kn kr ke Ds σ w := by
  intro T hT rm
  subst hDs
  refine wpIn_loop_ghost (fun k a w => ∃ x, m x = k ∧ I x w ∧ a.tmps.size = n ∧ a.defers = marks (dso x) ∧ Agr D (f x) σ (fun i => a.tmps.getD i undef)) (m x0) ?_ ?_
  · exact ⟨x0, rfl, hI, hT.1, rfl, by simp only; rw [hT.fun_eq]; exact Agr.start h0⟩
  · rintro k a w ⟨x, rfl, hI, h1, h2, hA⟩
    have hr := round x (fun i => a.tmps.getD i undef) w hI
    have hF : AtF n (look (f x) (hav D (fun i => a.tmps.getD i undef) σ)) a.tmps := ⟨h1, fun i => congrFun hA.eq i⟩
    have := hr a.tmps hF rm
    cases a
    simp only at h2
    subst h2
    refine wpIn_mono this ?_
    intro e a' w' hq
    cases e with
    | normal =>
      obtain ⟨g1, Ds', g2, x', g3, rfl, g4, g5⟩ := hq
      exact ⟨m x', g3, x', rfl, g4, g1, g2, g5⟩
    | exit id => exact hq
    | goto l => exact hq
    | ret => exact hq
    | panic ch => exact hq
    | outgrown => exact hq
end

/-! ### Blocks that hold no cells -/
section
variable {w0 w : World} {O : List (Option Nat)} {obs a b : List Ob}
theorem ext_alloc (w : World) (o : Obj) : Ext w (w.alloc o) := (Below.refl _ _).alloc (Nat.le_refl _) _
theorem St.newRaw (h : St w0 O w obs) (o : Obj) : St w0 O (w.alloc o) (.raw w.heap.size o :: obs) := by
  have hx := ext_alloc w o
  have hM : Mv (fb obs O) (fb (.raw w.heap.size o :: obs) O) w (w.alloc o) := by
    refine ⟨hx.size, fun b hb hO => ⟨hx.block b hb, fun hm => ?_⟩⟩
    simp only [fb, List.map_cons, List.cons_append, Ob.blk] at hm
    rcases List.mem_cons.1 hm with hm | hm
    · injection hm with hm
      omega
    · exact hO hm
  refine ⟨Ext.trans h.bel hx, h.olt, fun ob ho => ?_, List.Pairwise.cons (fun ob ho => ?_) h.sep⟩
  · rcases List.mem_cons.1 ho with rfl | ho
    · exact ⟨h.bel.size, World.alloc_heap_new w o⟩
    · exact Ob.ok_ext (h.ok ob ho) hx hM
  · right
    intro hb
    have := (Ob.ok_lt (h.ok ob ho) (b := w.heap.size) hb.symm).2
    omega
theorem St.putRaw {g : Nat} {o : Obj} (h : St w0 O w obs) (i : Nat) (hi : obs[i]? = some (.raw g o)) (o' : Obj) : St w0 O (w.putObj g o') (obs.set i (.raw g o')) := by
  have hob := h.get i hi
  have hlt := (Array.getElem?_eq_some_iff.1 hob.2).1
  refine h.turn (ob' := .raw g o') i hi rfl rfl rfl (by rw [World.putObj_size]; exact Nat.le_refl _) (fun b hb hne => World.putObj_heap_other (fun e => hne (by rw [e]; rfl))) (fun b hb => .inl hb) (fun b hb => ?_) (fun F hM => ⟨hob.1, World.putObj_heap_same hlt⟩)
  rw [World.putObj_size]
  simp only [Ob.blk, Option.some.injEq] at hb
  subst hb
  exact hlt
theorem St.putMid {g : Nat} {o : Obj} (h : St w0 O w (a ++ .raw g o :: b)) (o' : Obj) : St w0 O (w.putObj g o') (a ++ .raw g o' :: b) := by
  have := h.putRaw (g := g) (o := o) a.length (by simp) o'
  rwa [List.set_append_right _ _ (Nat.le_refl _), Nat.sub_self, List.set_cons_zero] at this
theorem St.getMid {ob : Ob} (h : St w0 O w (a ++ ob :: b)) : ob.ok w0.heap.size (fb (a ++ ob :: b) O) w := h.ok ob (by simp)
theorem St.dropMid {ob : Ob} (h : St w0 O w (a ++ ob :: b)) : St w0 O w (a ++ b) := h.sub (List.Sublist.append (List.Sublist.refl a) (List.sublist_cons_self ob b))
end

/-! ### The function's end -/
theorem leaves_marks {P : Program} {fn : Func} {tmps : Array Value} {R : Ending → World → Prop} {m : Nat} {w0 : World} {O : List (Option Nat)} {obs : List Ob}
    (hR : ∀ w2, St w0 O w2 obs → ∃ v, (results fn tmps).run P w2 = .ok v w2 ∧ R (.returned v) w2) : ∀ (Ds : List Nat) (w : World), St w0 O w (obs ++ DOb Ds) → LeavesInM Fence.wide m P fn tmps R (marks Ds) .returning w
  | [], w, h => by
    rw [show DOb [] = [] from rfl, List.append_nil] at h
    exact hR w h
  | D :: Ds, w, h => by
    have hD := (h.getMid (ob := .raw D (.deferred (some [])))).2
    refine ⟨fun e => (nomatch e), .inl ⟨D, _, rfl, run_takeDeferred hD, leaves_marks hR Ds _ ?_⟩⟩
    exact (h.putMid (.deferred none)).dropMid
abbrev EndM (P : Program) (rs : Array ResultVar) (w0 : World) (O : List (Option Nat)) (Q : Value → World → Prop) : ContD := fun Ds σ w' =>
  ∃ obs, St w0 O w' (obs ++ DOb Ds) ∧ ∀ w2, St w0 O w2 obs → ∃ v, ResIs P rs σ w2 v ∧ Q v w2
theorem enterM {P : Program} {n : Nat} {w : World} {f : FuncId} {fn : Func} {c : Code} {vs : List Value} {rs : Array ResultVar} {Q : Value → World → Prop} (w0 : World) (O : List (Option Nat)) (hf : P.funcs[f]? = some fn) (hb : fn.body = some c) (hn : fn.ntmps = n) (hrs : fn.results = rs)
    (hle : Nat.ble vs.length n = true) (h : WD P n c (EndM P rs w0 O Q) (EndM P rs w0 O Q) [] [] (look (argl 0 vs) und) w) : Calls P f vs.toArray w (Bk Q) := by
  have hle' := Nat.le_of_ble_eq_true hle
  refine (callsIn_wide (n := 0)).1 (callsIn_of_wp_marks hf hb trivial ?_ rfl)
  have hF : AtF n (look (argl 0 vs) und) (vs.toArray ++ Array.replicate (fn.ntmps - vs.toArray.size) undef) := by
    refine ⟨by simp; omega, fun i => ?_⟩
    rw [look_argl]
    simp only [Nat.zero_le, if_true, Nat.sub_zero]
    simp only [Array.getD_eq_getD_getElem?, Array.getElem?_append]
    split
    · simp
    · rename_i hi
      simp only [List.size_toArray] at hi ⊢
      rw [Array.getElem?_replicate]
      rw [List.getElem?_eq_none (by omega)]
      split <;> rfl
  refine wpIn_mono (h _ hF 0) ?_
  have key : ∀ (a : Act) (w' : World), (a.tmps.size = n ∧ ∃ Ds, a.defers = marks Ds ∧ EndM P rs w0 O Q Ds (fun i => a.tmps.getD i undef) w') → LeavesInM Fence.wide 0 P fn a.tmps (Bk Q) a.defers .returning w' := by
    rintro a w' ⟨h1, Ds, h2, obs, hS, h3⟩
    rw [h2]
    refine leaves_marks (fun w2 hS2 => ?_) Ds w' hS
    obtain ⟨v, hr, hQ⟩ := h3 w2 hS2
    exact ⟨v, hr fn hrs _ _ (AtF.self h1), v, rfl, hQ⟩
  intro e a w' hq
  cases e with
  | normal => exact key a w' hq
  | ret => exact key a w' hq
  | exit id => obtain ⟨_, _, _, hq⟩ := hq; exact hq.elim
  | goto l => exact hq.elim
  | panic ch => exact hq.elim
  | outgrown => exact hq.elim
theorem enterMR {P : Program} {n : Nat} {w : World} {O : List (Option Nat)} {f : FuncId} {fn : Func} {c : Code} {vs : List Value} {rs : Array ResultVar} {Q : Value → World → Prop} (hf : P.funcs[f]? = some fn) (hb : fn.body = some c) (hn : fn.ntmps = n) (hrs : fn.results = rs)
    (hle : Nat.ble vs.length n = true) (h : WD P n c (EndM P rs w O (fun v w' => Ext w w' ∧ Q v w')) (EndM P rs w O (fun v w' => Ext w w' ∧ Q v w')) [] [] (look (argl 0 vs) und) w) : Calls P f vs.toArray w (Ret w Q) := enterM (Q := fun v w' => Ext w w' ∧ Q v w') w O hf hb hn hrs hle h

/-! ### What an iterator promises -/
def YieldR (P : Program) (l : Nat) (m : Int) (w : World) (R : Bool → World → Prop) : Prop :=
  ∃ fn tmps assign body, (Instr.yield l #[.int .i64 m]).run P w = .ok (.round l fn tmps assign body) w ∧ ∀ k, RoundIn Fence.wide k P l fn tmps assign body w fun e w' => ∃ b, e = .returned (.bool b) ∧ R b w'
def EachY (P : Program) (l : Nat) (L : List Int) (Tl Tx : List Int → List Ob → Prop) (w0 : World) (O : List (Option Nat)) : Prop :=
  ∀ (ls : List Int) (m : Int) (pre ob : List Ob) (w : World), (ls ++ [m]) <+: L → Tl ls ob → St w0 O w (ob ++ pre) →
    YieldR P l m w fun b w' => ∃ ob', (b = true → Tl (ls ++ [m]) ob') ∧ (b = false → Tx (ls ++ [m]) ob') ∧ St w0 O w' (ob' ++ pre)
def Iter (P : Program) (gf : FuncId) (cs : List Value) (A : List Ob) (L : List Int) (w0 : World) (O : List (Option Nat)) : Prop :=
  ∀ (l : Nat) (Tl Tx : List Int → List Ob → Prop) (ob : List Ob) (w : World), EachY P l L Tl Tx w0 O → Tl [] ob → St w0 O w (A ++ ob) →
    Calls P gf (.func (.yield l) #[] #[] :: cs).toArray w (Bk fun _ w' => ∃ ob', (Tl L ob' ∨ ∃ ls, ls <+: L ∧ Tx ls ob') ∧ St w0 O w' (A ++ ob'))

def jumpC : Option Nat → Code
  | none => .ret
  | some id => .exit id

section
variable {P : Program} {n : Nat} {kn kr : ContD} {ke : List (Nat × ContD)} {Ds : List Nat} {σ : Fr} {w w0 : World} {O : List (Option Nat)}

theorem WD.range {tg p d idA : Nat} {ty : TypeId} {pos : String} {af : Array Edge} {body : Code} {gf : FuncId} {cs : List Value} {A ob : List Ob} (L : List Int) (Tl : List Int → List Ob → Prop) (Tx : Option Nat → List Int → List Ob → Prop) (ids : List Nat)
    (hg : σ tg = .func (.func gf) #[] cs.toArray) (hc : ∀ args w, (callFunc gf args).run P w = .ok (.enter gf args) w) (hp : Nat.ble (p + 1) n = true) (hd : Nat.ble (d + 1) n = true)
    (hIt : Iter P gf cs A L w0 O) (hS : St w0 O w (A ++ (ob ++ DOb Ds))) (h0 : Tl [] ob)
    (hbody : ∀ (ls : List Int) (m : Int) (pre ob : List Ob) (w : World), (ls ++ [m]) <+: L → Tl ls ob → St w0 O w (ob ++ pre) →
      W P n body (fun _ w' => ∃ ob', Tl (ls ++ [m]) ob' ∧ St w0 O w' (ob' ++ pre)) (fun _ w' => ∃ ob', Tx none (ls ++ [m]) ob' ∧ St w0 O w' (ob' ++ pre))
        (ids.map fun id => (id, fun _ w' => ∃ ob', Tx (some id) (ls ++ [m]) ob' ∧ St w0 O w' (ob' ++ pre))) (look [(d, .int .i64 m), (p, .int .i64 m)] σ) w)
    (hdone : ∀ ob' D w', Tl L ob' → St w0 O w' (ob' ++ DOb (D :: Ds)) → kn (D :: Ds) σ w')
    (hstop : ∀ x ls ob' D w', Tx x ls ob' → ls <+: L → St w0 O w' (ob' ++ DOb (D :: Ds)) → match x with
      | none => kr (D :: Ds) σ w'
      | some id => ∃ k, findX id ke = some k ∧ k (D :: Ds) σ w') :
    WD P n (.rangeFunc (.tmp tg) #[p] (.region idA #[⟨some d, .assign (.tmp p), ty, pos, af, none⟩] false) body) kn kr ke Ds σ w := by
  intro T hT m
  refine wpIn_rangeFunc ?_
  intro fn hfn
  obtain ⟨rec, hrec⟩ : ∃ rec : LoopState → Option Code → Loop, rec = fun st pe => { state := st, pending := pe, fn, tmps := T, params := #[p], assign := .region idA #[⟨some d, .assign (.tmp p), ty, pos, af, none⟩] false, body, defers := w.heap.size } := ⟨_, rfl⟩
  have hgT : (Act.mk T (marks Ds)).eval (.tmp tg) = .func (.func gf) #[] cs.toArray := by rw [hT.eval]; exact hg
  refine ⟨w.heap.size + 1, [{ target := .collected w.heap.size, args := #[] }], (w.alloc (.deferred (some []))).alloc (.loop (rec .ready none)), { target := .fn (.func gf) cs.toArray, args := #[.func (.yield (w.heap.size + 1)) #[] #[]] }, (w.alloc (.deferred (some []))).alloc (.loop (rec .ready none)), gf,
    #[.func (.yield (w.heap.size + 1)) #[] #[]] ++ cs.toArray, (w.alloc (.deferred (some []))).alloc (.loop (rec .ready none)), ?_, ?_, fun _ _ => trivial, ?_, fun hh => (nomatch hh), ?_⟩
  · rw [hrec]; exact run_enterLoop_outer _ _ _ _ _
  · simp only [resolve, hgT]
    simp [go_sem]
  · simp [invoke, go_sem, hc]
  obtain ⟨Tl', hTl'⟩ : ∃ T' : List Int → List Ob → Prop, T' = fun ls ob' => ∃ ob0, Tl ls ob0 ∧ ob' = ob0 ++ (.raw (w.heap.size + 1) (.loop (rec .ready none)) :: DOb (w.heap.size :: Ds)) := ⟨_, rfl⟩
  obtain ⟨Tx', hTx'⟩ : ∃ T' : List Int → List Ob → Prop, T' = fun ls ob' => ∃ x ob0, (Tx x ls ob0) ∧ ob' = ob0 ++ (.raw (w.heap.size + 1) (.loop (rec .done (some (jumpC x)))) :: DOb (w.heap.size :: Ds)) := ⟨_, rfl⟩
  have hS1 : St w0 O ((w.alloc (.deferred (some []))).alloc (.loop (rec .ready none))) (A ++ (ob ++ (.raw (w.heap.size + 1) (.loop (rec .ready none)) :: DOb (w.heap.size :: Ds)))) := by
    have h1 := (hS.newRaw (.deferred (some []))).newRaw (.loop (rec .ready none))
    rw [World.size_alloc] at h1
    refine h1.perm ?_
    have e : A ++ (ob ++ (Ob.raw (w.heap.size + 1) (.loop (rec .ready none)) :: DOb (w.heap.size :: Ds))) = (A ++ ob) ++ ([.raw (w.heap.size + 1) (.loop (rec .ready none)), .raw w.heap.size (.deferred (some []))] ++ DOb Ds) := by simp [DOb]
    rw [e, show Ob.raw (w.heap.size + 1) (.loop (rec .ready none)) :: Ob.raw w.heap.size (.deferred (some [])) :: (A ++ (ob ++ DOb Ds)) = [.raw (w.heap.size + 1) (.loop (rec .ready none)), .raw w.heap.size (.deferred (some []))] ++ ((A ++ ob) ++ DOb Ds) by simp]
    rw [← List.append_assoc, ← List.append_assoc]
    exact List.perm_append_comm.append_right _
  have hE : EachY P (w.heap.size + 1) L Tl' Tx' w0 O := by
    subst hTl' hTx'
    rintro ls x pre ob' w1 hpx ⟨ob0, hT0, rfl⟩ hS0
    rw [List.append_assoc, List.cons_append] at hS0
    have hl := (hS0.getMid (ob := .raw (w.heap.size + 1) (.loop (rec .ready none)))).2
    have hy := run_yield (P := P) (args := #[.int .i64 x]) hl (by rw [hrec]; rfl)
    refine ⟨_, _, _, _, hy, fun k => ?_⟩
    rw [hrec]
    refine roundIn_of_wpIn trivial ?_
    have hp' := Nat.le_of_ble_eq_true hp
    obtain ⟨T', hT', hF'⟩ := hT.put (some p) (.int .i64 x) hp []
    have hfold : (#[p].zip #[Value.int .i64 x]).foldl (fun tmps (q : Tmp × Value) => tmps.setIfInBounds q.1 q.2) T = T' := by
      have := congrArg Act.tmps hT'
      simpa [Act.put] using this
    have hfold2 : ((rec .ready none).params.zip #[Value.int .i64 x]).foldl (fun tmps (x : Tmp × Value) => match x with | (t, a) => tmps.setIfInBounds t a) (rec .ready none).tmps = T' := by
      rw [hrec]; exact hfold
    rw [hrec] at hfold2
    rw [hfold2]
    have hA : W P n (.region idA [⟨some d, .assign (.tmp p), ty, pos, af, none⟩].toArray false) (fun σ' w' => σ' = look [(d, .int .i64 x), (p, .int .i64 x)] σ ∧ w' = w1) (fun _ _ => False) [] (look [(p, .int .i64 x)] σ) w1 := by
      refine W.reg ?_ rfl
      refine Wx.rd (v := .int .i64 x) (fun w' _ => ?_) hd ?_
      · show (xop _ _ _).run P w' = _
        simp [xop, execOp, ev, look, Nat.beq_refl]
      · exact Wx.nil ⟨rfl, rfl⟩
    have hA2 := hA T' hF' (some (w.heap.size + 1)) [] k
    refine wpIn_mono hA2 ?_
    intro e a1 w1' hq
    cases e with
    | normal =>
      obtain ⟨q1, q2, q3, rfl⟩ := hq
      refine ⟨_, run_beginRound hl (by rw [hrec]), ?_⟩
      have hS2 := hS0.putMid (.loop { rec .ready none with state := .busy })
      have hB := hbody ls x _ ob0 _ hpx hT0 hS2
      have hB2 := hB a1.tmps ⟨q1, fun i => congrFun q3 i⟩ (some (w.heap.size + 1)) [] k
      obtain ⟨at1, ad1⟩ := a1
      simp only at q2
      subst q2
      refine wpIn_mono hB2 ?_
      have fin : ∀ (jump : Option Code) (ob3 : List Ob) (w3 : World), St w0 O w3 (ob3 ++ (.raw (w.heap.size + 1) (.loop { rec .ready none with state := .busy }) :: (DOb (w.heap.size :: Ds) ++ pre))) →
          ∃ w4, (Instr.endRound (w.heap.size + 1) jump).run P w3 = .ok (.bool jump.isNone) w4 ∧ St w0 O w4 (ob3 ++ (.raw (w.heap.size + 1) (.loop (rec (if jump.isNone then .ready else .done) jump)) :: (DOb (w.heap.size :: Ds) ++ pre))) := fun jump ob3 w3 h3 => by
        have hl3 := (h3.getMid (ob := .raw (w.heap.size + 1) (.loop { rec .ready none with state := .busy }))).2
        have := run_endRound (P := P) jump hl3
        refine ⟨_, this, ?_⟩
        have h4 := h3.putMid (.loop (rec (if jump.isNone then .ready else .done) jump))
        rw [hrec] at h4 ⊢
        exact h4
      intro e a3 w3 hp3
      cases e with
      | normal =>
        obtain ⟨_, _, ob3, g1, g2⟩ := hp3
        obtain ⟨w4, g3, g4⟩ := fin none ob3 w3 g2
        exact ⟨_, w4, g3, true, rfl, _, fun _ => ⟨ob3, g1, rfl⟩, fun h => (nomatch h), by rw [hrec] at g4; rw [List.append_assoc]; exact g4⟩
      | ret =>
        obtain ⟨_, _, ob3, g1, g2⟩ := hp3
        obtain ⟨w4, g3, g4⟩ := fin (some .ret) ob3 w3 g2
        exact ⟨_, w4, g3, false, rfl, _, fun h => (nomatch h), fun _ => ⟨none, ob3, g1, rfl⟩, by rw [hrec] at g4; rw [List.append_assoc]; exact g4⟩
      | exit id =>
        obtain ⟨_, _, g0⟩ := hp3
        have hfind : ∀ (ids : List Nat), findEx id (ids.map fun id => (id, fun (_ : Fr) w' => ∃ ob', Tx (some id) (ls ++ [x]) ob' ∧ St w0 O w' (ob' ++ (.raw (w.heap.size + 1) (.loop { rec .ready none with state := .busy }) :: (DOb (w.heap.size :: Ds) ++ pre))))) = none ∨
            findEx id (ids.map fun id => (id, fun (_ : Fr) w' => ∃ ob', Tx (some id) (ls ++ [x]) ob' ∧ St w0 O w' (ob' ++ (.raw (w.heap.size + 1) (.loop { rec .ready none with state := .busy }) :: (DOb (w.heap.size :: Ds) ++ pre))))) = some (fun _ w' => ∃ ob', Tx (some id) (ls ++ [x]) ob' ∧ St w0 O w' (ob' ++ (.raw (w.heap.size + 1) (.loop { rec .ready none with state := .busy }) :: (DOb (w.heap.size :: Ds) ++ pre)))) := by
          intro ids
          induction ids with
          | nil => exact .inl rfl
          | cons i ids ih =>
            simp only [List.map_cons, findEx]
            cases hb : Nat.beq id i with
            | true => rw [Nat.eq_of_beq_eq_true hb]; exact .inr rfl
            | false => exact ih
        rcases hfind ids with hf | hf
        · rw [hf] at g0; exact g0.elim
        · rw [hf] at g0
          obtain ⟨ob3, g1, g2⟩ := g0
          obtain ⟨w4, g3, g4⟩ := fin (some (.exit id)) ob3 w3 g2
          exact ⟨_, w4, g3, false, rfl, _, fun h => (nomatch h), fun _ => ⟨some id, ob3, g1, rfl⟩, by rw [hrec] at g4; rw [List.append_assoc]; exact g4⟩
      | goto t => exact hp3.elim
      | panic ch => exact hp3.elim
      | outgrown => exact hp3.elim
    | exit id => obtain ⟨_, _, hq⟩ := hq; exact hq.elim
    | ret => exact hq.2.2.elim
    | goto t => exact hq.elim
    | panic ch => exact hq.elim
    | outgrown => exact hq.elim
  have hcall := hIt (w.heap.size + 1) Tl' Tx' _ _ hE (by rw [hTl']; exact ⟨ob, h0, rfl⟩) hS1
  have hargs : #[Value.func (.yield (w.heap.size + 1)) #[] #[]] ++ cs.toArray = (Value.func (.yield (w.heap.size + 1)) #[] #[] :: cs).toArray := by simp
  rw [hargs]
  refine callsIn_wide.2 (Calls.mono hcall ?_)
  subst hTl' hTx'
  rintro e w3 ⟨v, rfl, ob', hob, hS3⟩
  have hnoA : ∀ {t : List Ob} {w3 : World}, St w0 O w3 (A ++ t) → St w0 O w3 t := fun h => h.sub (List.sublist_append_right _ _)
  rcases hob with ⟨ob0, hT0, rfl⟩ | ⟨ls, hpre, x, ob0, hT0, rfl⟩
  · have hS4 := hnoA hS3
    have hl := (hS4.getMid (ob := .raw (w.heap.size + 1) (.loop (rec .ready none)))).2
    have hr := run_endLoop (P := P) hl (by rw [hrec]; simp)
    refine ⟨none, _, by rw [hr, hrec], ?_⟩
    have hS5 := (hS4.putMid (.loop { rec .ready none with state := .exhausted })).dropMid
    rw [hrec] at hS5
    exact ⟨hT.1, w.heap.size :: Ds, rfl, by simp only; rw [hT.fun_eq]; exact hdone ob0 _ _ hT0 hS5⟩
  · have hS4 := hnoA hS3
    have hl := (hS4.getMid (ob := .raw (w.heap.size + 1) (.loop (rec .done (some (jumpC x)))))).2
    have hr := run_endLoop (P := P) hl (by rw [hrec]; simp)
    refine ⟨some (jumpC x), _, by rw [hr, hrec], ?_⟩
    have hS5 := (hS4.putMid (.loop { rec .done (some (jumpC x)) with state := .exhausted })).dropMid
    rw [hrec] at hS5
    have hst := hstop x ls ob0 _ _ hT0 hpre hS5
    cases x with
    | none => exact wpIn_ret ⟨hT.1, w.heap.size :: Ds, rfl, by simp only; rw [hT.fun_eq]; exact hst⟩
    | some id =>
      obtain ⟨k, hk, hst⟩ := hst
      exact wpIn_exit ⟨hT.1, w.heap.size :: Ds, rfl, by rw [hk]; simp only; rw [hT.fun_eq]; exact hst⟩
end
end Go.Wk

namespace Go.Wk
open Go.RowKit
section
variable {P : Program} {ops : Array Oper} {Q Q' : Exit → Act → World → Prop} {r : Option Nat} {m : Nat} {ds : List Deferred}
theorem wpList_ringA {r' : List Oper} (hQ : ∀ a w, Q .normal a w → wpListIn (ringF r) m P ops Q' r' (withD ds a) w) (hp : ∀ c a w, ¬ Q (.panic c) a w) (ho : ∀ a w, ¬ Q .outgrown a w) :
    ∀ (l : List Oper) (a : Act) (w : World), noDefer l = true → wpList P ops Q l a w → wpListIn (ringF r) m P ops Q' (l ++ r') (withD ds a) w := by
  intro l
  induction l with
  | nil => intro a w _ h; exact hQ a w h
  | cons o l ih =>
    intro a w hd h
    have hdo := noDefer_mem hd o (by simp)
    have hdl : noDefer l = true := by simp only [noDefer, Bool.and_eq_true] at hd; exact hd.2
    unfold wpList at h
    rw [List.cons_append]
    unfold wpListIn
    show if Region.wanted o (yielded ops a.tmps) = true then _ else _
    split
    · rename_i hw
      rw [if_pos hw] at h
      exact oper_ring hdo hp ho (fun a w hk => ih a w hdl hk) h
    · rename_i hw
      rw [if_neg hw] at h
      refine ⟨fun _ _ => trivial, ?_⟩
      rw [withD_put]
      exact ih _ _ hdl h
end
theorem W.regY {P : Program} {n : Nat} {kn kr : Cont} {ke : List (Nat × Cont)} {σ : Fr} {w : World} {id : Nat} (l1 : List Oper) {d t : Tmp} {x : Operand} {ats : Array TypeId} {ty : TypeId} {pos : String} {af : Array Edge} {l2 : List Oper}
    (hd : Nat.ble (d + 1) n = true)
    (h : Wx P n (l1 ++ ⟨some d, .call { callee := .value (.tmp t), args := #[x], argTypes := ats }, ty, pos, af, none⟩ :: l2).toArray false l1 (fun σ' w' => ∃ l i, σ' t = .func (.yield l) #[] #[] ∧ ev σ' x = .int .i64 i ∧
      YieldR P l i w' fun b w'' => Wx P n (l1 ++ ⟨some d, .call { callee := .value (.tmp t), args := #[x], argTypes := ats }, ty, pos, af, none⟩ :: l2).toArray false l2 kn (look [(d, .bool b)] σ') w'') σ w)
    (h1 : noDefer l1 = true := by rfl) (h2 : noDefer l2 = true := by rfl) :
    W P n (.region id (l1 ++ ⟨some d, .call { callee := .value (.tmp t), args := #[x], argTypes := ats }, ty, pos, af, none⟩ :: l2).toArray false) kn kr ke σ w := by
  intro T hT r ds m
  refine wpIn_region_lit ?_
  refine wpList_ringA (ds := ds) (fun a w' hq => ?_) post_panic post_out l1 ⟨T, []⟩ w h1 (h T hT)
  obtain ⟨g1, g2, l, i, e1, e2, fn, tmps, assign, body, hy, hR⟩ := hq
  obtain ⟨at1, ad1⟩ := a
  simp only at g2
  subst g2
  have hev : (withD ds (Act.mk at1 [])).eval = ev (fun i => at1.getD i undef) := by rw [withD_eval]; exact (AtF.self g1).eval []
  unfold wpListIn
  show if Region.wanted _ _ = true then _ else _
  rw [if_pos (show Region.wanted _ _ = true from rfl)]
  refine ⟨fun _ _ => trivial, ?_⟩
  rw [Oper.semAt_eq _ _ _ (fun c e => by cases e), hev, execOp_xop]
  have hrun : ∀ σ1 : Fr, ev σ1 (.tmp t) = .func (.yield l) #[] #[] → ev σ1 x = .int .i64 i → (xop (ev σ1) (.call { callee := .value (.tmp t), args := #[x], argTypes := ats }) ty).run P w' = .ok (.round l fn tmps assign body) w' := fun σ1 e1' e2' => by
    simp [xop, execOp, resolve, Deferred.ofValue, e1', e2', invoke, hy]
  dsimp only
  rw [hrun (fun i => at1.getD i undef) e1 e2]
  refine ⟨fun hh => (nomatch hh), ?_⟩
  refine RoundIn.mono (show RoundIn (ringF r) (m - 1) P l fn tmps assign body w' _ from hR (m - 1)) ?_
  rintro e w'' ⟨b, rfl, hb⟩
  obtain ⟨T', hT', hF⟩ := (AtF.self g1).put (some d) (.bool b) hd []
  have := hb T' hF
  show wpListIn _ _ _ _ _ l2 ((withD ds ⟨at1, []⟩).put (some d) (.bool b)) w''
  rw [withD_put, hT']
  exact wpList_ring (ds := ds) post_ring post_panic post_out l2 ⟨T', []⟩ w'' h2 this
theorem W.regYi {P : Program} {n : Nat} {kn kr : Cont} {ke : List (Nat × Cont)} {σ : Fr} {w : World} {id : Nat} {l : List Oper} (i : Nat) {d t : Tmp} {x : Operand} {ats : Array TypeId} {ty : TypeId} {pos : String} {af : Array Edge}
    (hi : l[i]? = some ⟨some d, .call { callee := .value (.tmp t), args := #[x], argTypes := ats }, ty, pos, af, none⟩) (hd : Nat.ble (d + 1) n = true)
    (h : Wx P n l.toArray false (l.take i) (fun σ' w' => ∃ y j, σ' t = .func (.yield y) #[] #[] ∧ ev σ' x = .int .i64 j ∧ YieldR P y j w' fun b w'' => Wx P n l.toArray false (l.drop (i + 1)) kn (look [(d, .bool b)] σ') w'') σ w)
    (h1 : noDefer l = true := by rfl) : W P n (.region id l.toArray false) kn kr ke σ w := by
  obtain ⟨hlt, he⟩ := List.getElem?_eq_some_iff.1 hi
  have e : l = l.take i ++ ⟨some d, .call { callee := .value (.tmp t), args := #[x], argTypes := ats }, ty, pos, af, none⟩ :: l.drop (i + 1) := by
    rw [← he, ← List.drop_eq_getElem_cons hlt, List.take_append_drop]
  have hnd : ∀ l' : List Oper, l'.Sublist l → noDefer l' = true := by
    intro l' hs
    have hm := noDefer_mem h1
    clear h e h1 he
    induction l' with
    | nil => rfl
    | cons o l' ih =>
      simp only [noDefer, Bool.and_eq_true]
      refine ⟨?_, ih ((List.sublist_cons_self o l').trans hs)⟩
      have := hm o (hs.subset (by simp))
      split
      · rename_i c hc; exact absurd hc (this c)
      · rfl
  have h2 := W.regY (id := id) (kr := kr) (ke := ke) (kn := kn) (l.take i) (l2 := l.drop (i + 1)) (t := t) (x := x) (ats := ats) (ty := ty) (pos := pos) (af := af) hd (by rw [← e]; exact h) (hnd _ (List.take_sublist i l)) (hnd _ (List.drop_sublist (i + 1) l))
  rw [← e] at h2
  exact h2
theorem YieldR.mono {P : Program} {l : Nat} {m : Int} {w : World} {R R' : Bool → World → Prop} (h : YieldR P l m w R) (hr : ∀ b w', R b w' → R' b w') : YieldR P l m w R' := by
  obtain ⟨fn, tmps, assign, body, h1, h2⟩ := h
  exact ⟨fn, tmps, assign, body, h1, fun k => (h2 k).mono fun e w' ⟨b, e1, hb⟩ => ⟨b, e1, hr b w' hb⟩⟩
end Go.Wk

namespace Go.Wk
open Go.RowKit
theorem St.swap {w0 w : World} {O : List (Option Nat)} {a b : List Ob} (h : St w0 O w (a ++ b)) : St w0 O w (b ++ a) := h.perm List.perm_append_comm
end Go.Wk

namespace Go.Wk
open Go.RowKit Go.Lib Go.Sort
set_option linter.unusedVariables false
variable {P : Program} {n : Nat} {kn kr : Cont} {ke : List (Nat × Cont)} {σ : Fr} {w : World}

end Go.Wk

namespace Go.Wk
open Go.RowKit Go.Lib Go.Sort
set_option linter.unusedVariables false
variable {w w' w0 : World} {O : List (Option Nat)} {obs : List Ob} {α : Type} {t : Ty α} {e : TypeId} {v : Value} {ys ys' : List α}

end Go.Wk
namespace Go.Wk
open Go.RowKit Go.Lib Go.Sort
set_option linter.unusedVariables false
section
variable {w w' w0 : World} {O : List (Option Nat)} {obs : List Ob} {α : Type} {t : Ty α} {e : TypeId} {v : Value} {ys ys' : List α} {F : List (Option Nat)}
end
end Go.Wk

namespace Go.Wk
open Go.RowKit Go.Lib
set_option linter.unusedVariables false
variable {P : Program} {n : Nat} {w w0 : World} {O : List (Option Nat)} {obs : List Ob} {ops : Array Oper} {rest : List Oper} {kc : Cont} {d : Tmp} {ty : TypeId} {pos : String} {af : Array Edge}
  {l : List (Nat × Value)} {σ0 σ : Fr} {T : TypeId} {x y z lo : Operand} {k : IntKind}

structure MayF (P : Program) (gm : Nat) (cm : List Value) (f : Int → Bool) (m : Int) (w : World) : Prop where
  ent : ∀ args w', (callFunc gm args).run P w' = .ok (.enter gm args) w'
  call : ∀ x w', 0 ≤ x → x < m → Ext w w' → Calls P gm (.int .i64 x :: cm).toArray w' (Ret w' fun r _ => r = .bool (f x))
end Go.Wk
namespace Go.Wk
open Go.RowKit Go.Lib
set_option linter.unusedVariables false
theorem rd_loadOA {P : Program} {w w0 : World} {σ : Fr} {T e ty : TypeId} {x : Operand} {k : IntKind} {ys : List Int} {g : Nat} {fz : Nat × Nat} {i : Int} (hh : w0.heap[g]? = some (.cells (ys.map (Value.int k)).toArray e fz)) (hb : Ext w0 w) (hx : ev σ x = .pointer (some ⟨g, 0 + i.toNat * 1, none⟩))
    (h0 : 0 ≤ i) (h1 : i < ys.length) (hag : ∀ w', (isAgg T).run P w' = .ok false w') : Rd P σ (.load T x) ty w (.int k (ix 0 ys i)) := by
  refine rd_loadO hh hb hx ?_ hag
  have := ix_get (d := (0 : Int)) h1 h0
  simp [this]
end Go.Wk
namespace Go.Wk
open Go.RowKit Go.Lib
end Go.Wk

namespace Go.Proofs.YtodcppoglpfodaaGreatDoor
open Go.Wk
set_option linter.unusedVariables false
section
variable {A : RelE} {n : Int} {f : Int → Bool}
end
end Go.Proofs.YtodcppoglpfodaaGreatDoor
namespace Go.Proofs.YtodcppoglpfodaaGreatDoor
open Go.Wk
end Go.Proofs.YtodcppoglpfodaaGreatDoor
namespace Go.Proofs.YtodcppoglpfodaaGreatDoor
open Go.Wk
end Go.Proofs.YtodcppoglpfodaaGreatDoor

namespace Go.Proofs.YtodcppoglpfodaaGreatDoor
open Go.Wk
set_option linter.unusedVariables false
section
variable {C : Int} {H : List Int} {h : Int}
structure QI (C : Int) (H : List Int) (h b : Int) (far todo : List Int) : Prop where
  len : far.length = 37
  nd : todo.Nodup
  mem : ∀ x ∈ todo, (0 ≤ x ∧ x < (H.length : Int)) ∧ ix 0 H x ≤ h ∧ (0 < ix 0 far x ∧ ix 0 far x ≤ b + 1) ∧ rW C H h (ix 0 far x - 1).toNat x = true
  out : ∀ x, 0 ≤ x → x < (H.length : Int) → x ∉ todo → ix 0 far x = 0
  mono : todo.Pairwise fun x y => ix 0 far x ≤ ix 0 far y
  bd : b ≤ todo.length ∧ ∀ x ∈ todo, ix 0 far x ≤ todo.length
end
end Go.Proofs.YtodcppoglpfodaaGreatDoor

namespace Go.Proofs.YtodcppoglpfodaaGreatDoor
open Go.Wk
set_option linter.unusedVariables false
abbrev J3 := (Int × Int) × Int
def Jt.t (j : Jt) : J3 := ((j.a, j.b), j.h)
section
variable {C : Int} {H : List Int}
end
end Go.Proofs.YtodcppoglpfodaaGreatDoor

namespace Go.Proofs.YtodcppoglpfodaaGreatDoor
open Go.Wk
set_option linter.unusedVariables false
def upK (ys : List Int) : Nat → Int → Int
  | 0, x => x
  | d + 1, x => upK ys d (ix 0 ys x)
def topV (ys : List Int) (x : Int) : Int := upK ys 1000 x
structure UF (m : Nat) (ys : List Int) : Prop where
  len : ys.length = 37
  rng : ∀ x, (0 ≤ x ∧ x < 37) → 0 ≤ ix 0 ys x ∧ ix 0 ys x < 37
  rk : ∃ rk : Int → Nat, ∀ x, (0 ≤ x ∧ x < 37) → rk x ≤ m ∧ (ix 0 ys x = x → rk x = 0) ∧ (ix 0 ys x ≠ x → rk (ix 0 ys x) < rk x)
section
variable {ys : List Int} {m : Nat}
def tops (n : Int) (ys : List Int) : List Int := (rng 0 (n + 1)).map (topV ys)
end
/-! ### all is connected -/
section
variable {R C : Int} {H : List Int}
/-! ### the joints that are taken -/
def kruP (C : Int) (H : List Int) (k : Int) : List Jt := kru ((jAll C H 0).take k.toNat)
structure TrI (C : Int) (H : List Int) (a b k : Int) (ys : List Int) (out : List J3) (high : Int) : Prop where
  o : out = (kruP C H k).map Jt.t
  uf : UF out.length ys
  lab : LabI H.length (tops H.length ys) ((kruP C H k).map Jt.e)
  hi : conF ((kruP C H k).map Jt.e) a b = true → high = betwV C H a b
  bd : 0 ≤ high ∧ high ≤ 100
end
end Go.Proofs.YtodcppoglpfodaaGreatDoor
namespace Go.Proofs.YtodcppoglpfodaaGreatDoor
open Go.Wk
end Go.Proofs.YtodcppoglpfodaaGreatDoor
namespace Go.Proofs.YtodcppoglpfodaaGreatDoor
end Go.Proofs.YtodcppoglpfodaaGreatDoor

namespace Go.Proofs.YtodcppoglpfodaaGreatDoor
open Go.Wk Go.RowKit
set_option linter.unusedVariables false
def topB (ys : List Int) : Int := if ys.length = 0 then 0 else ix 0 ys (ys.length - 1)
abbrev popB (ys : List Int) : List Int := ys.take ((ys.length : Int) - 1).toNat
theorem popB_len {ys : List Int} (h : 0 < ys.length) : (popB ys).length + 1 = ys.length := by rw [popB, List.length_take]; omega
def popL (k : Int) : Nat → List Int → List Int → List Int × List Int
  | 0, ys, os => (ys, os)
  | n + 1, ys, os => if topB ys < k ∧ 0 < ys.length then popL k n (popB ys) (os ++ [topB ys]) else (ys, os)
theorem pop_next {k : Int} {ys os : List Int} (h : topB ys < k) (hn : 0 < ys.length) : popL k ys.length ys os = popL k (popB ys).length (popB ys) (os ++ [topB ys]) := by
  have e := popB_len hn
  rw [← e, popL, if_pos ⟨h, hn⟩]
theorem pop_end {k : Int} {ys os : List Int} (h : ¬ (topB ys < k ∧ 0 < ys.length)) : popL k ys.length ys os = (ys, os) := by
  cases hl : ys.length with
  | zero => rfl
  | succ n => rw [popL, if_neg h]
end Go.Proofs.YtodcppoglpfodaaGreatDoor

namespace Go.Proofs.YtodcppoglpfodaaGreatDoor
open Go.Wk Go.RowKit
set_option linter.unusedVariables false
def TellIn (P : Go.Program) (fe : Go.FuncId) (cs : List Go.Value) (Tl : List (Int × Int) → List Ob → Prop) : Prop :=
  ∀ (ls : List (Int × Int)) (mv x : Int) (pre ob : List Ob) (w0 w : Go.World) (O : List (Option Nat)), (ls.length : Int) ≤ 100 → InK .u8 mv → InK .i64 x → Tl ls ob → St w0 O w (pre ++ ob) →
    Go.Calls P fe (.int .u8 mv :: .int .i64 x :: cs).toArray w (Bk fun r w' => r = .tuple #[] ∧ ∃ ob', Tl (ls ++ [(mv, x)]) ob' ∧ St w0 O w' (pre ++ ob'))
theorem tellIn_pre {P : Go.Program} {fe : Go.FuncId} {cs : List Go.Value} {Tl : List (Int × Int) → List Ob → Prop} (h : TellIn P fe cs Tl) (A : List Ob) : TellIn P fe cs (fun ls ob => ∃ ob', ob = A ++ ob' ∧ Tl ls ob') := by
  rintro ls mv x pre ob w0 w O hl hm hx ⟨ob', rfl, hT⟩ hS
  rw [← List.append_assoc] at hS
  refine (h ls mv x (pre ++ A) ob' w0 w O hl hm hx hT hS).mono ?_
  rintro e w' ⟨r, he, hr, ob2, hT2, hS2⟩
  exact ⟨r, he, hr, A ++ ob2, ⟨ob2, rfl, hT2⟩, by rw [← List.append_assoc]; exact hS2⟩
theorem top_in {w0 w : Go.World} {O : List (Option Nat)} {obs : List Ob} {v : Go.Value} {ys : List Int} {e : Go.TypeId} (hS : St w0 O w obs) (i : Nat) (hi : obs[i]? = some (.row (tI .i64) e v ys)) : InK .i64 (topB ys) := by
  rw [topB]
  split
  · exact ⟨by decide, by decide⟩
  · exact hS.rowInK' i hi (by omega) (by omega)
def outO (os : List Int) : List (Int × Int) := os.map fun x => (111, x)
def pasS (s : List Int × List (Int × Int)) (x : Int) : List Int × List (Int × Int) := ((popL x s.1.length s.1 []).1 ++ [x], s.2 ++ outO (popL x s.1.length s.1 []).2 ++ [(105, x)])
def pasK (xs : List Int) (k : Int) : List Int × List (Int × Int) := (xs.take k.toNat).foldl pasS ([], [])
def pasV (xs : List Int) : List (Int × Int) := (xs.foldl pasS ([], [])).2 ++ outO (popL xs.length (xs.foldl pasS ([], [])).1.length (xs.foldl pasS ([], [])).1 []).2
def outV (ls : List (Int × Int)) : List Int := (ls.filter fun p => decide (p.1 = 111)).map (·.2)
theorem pas_next {xs : List Int} {k : Int} (h0 : 0 ≤ k) (h1 : k < xs.length) : pasK xs (k + 1) = pasS (pasK xs k) (ix 0 xs k) := by
  rw [pasK, take_ix (d := (0 : Int)) h0 h1, List.foldl_append]; rfl
theorem pas_end {xs : List Int} {k : Int} (h : (xs.length : Int) ≤ k) : pasK xs k = xs.foldl pasS ([], []) := by rw [pasK, List.take_of_length_le (by omega)]
theorem outO_snoc (os : List Int) (x : Int) : outO (os ++ [x]) = outO os ++ [(111, x)] := by rw [outO, List.map_append]; rfl
theorem outV_snoc (ls : List (Int × Int)) (mv x : Int) : outV (ls ++ [(mv, x)]) = if mv = 111 then outV ls ++ [x] else outV ls := by
  rw [outV, List.filter_append, List.map_append]
  by_cases h : mv = 111
  · rw [if_pos h]; simp [outV, h]
  · rw [if_neg h]; simp [outV, h]
theorem outV_len (ls : List (Int × Int)) : (outV ls).length ≤ ls.length := by rw [outV, List.length_map]; exact List.length_filter_le _ _
theorem pop_len (k : Int) : ∀ (n : Nat) (ys os : List Int), n ≤ ys.length → (popL k n ys os).1.length + (popL k n ys os).2.length = ys.length + os.length
  | 0, ys, os, _ => rfl
  | n + 1, ys, os, h => by
    rw [popL]
    split
    · rename_i hc
      have hp := popB_len hc.2
      rw [pop_len k n (popB ys) _ (by omega), List.length_append]
      simp only [List.length_cons, List.length_nil]
      omega
    · rfl
theorem pas_len (xs : List Int) : ∀ (s : List Int × List (Int × Int)), (xs.foldl pasS s).1.length + (xs.foldl pasS s).2.length ≤ s.1.length + s.2.length + 2 * xs.length := by
  induction xs with
  | nil => intro s; simp
  | cons x xs ih =>
    intro s
    have h1 := ih (pasS s x)
    have h2 := pop_len x s.1.length s.1 [] (Nat.le_refl _)
    rw [List.foldl_cons, List.length_cons]
    have h3 : (pasS s x).1.length = (popL x s.1.length s.1 []).1.length + 1 := by rw [pasS, List.length_append]; rfl
    have h4 : (pasS s x).2.length = s.2.length + (popL x s.1.length s.1 []).2.length + 1 := by
      simp only [pasS, List.length_append, outO, List.length_map, List.length_cons, List.length_nil]
    simp only [List.length_nil] at h2
    omega
theorem pask_len (xs : List Int) (k : Int) : (pasK xs k).1.length + (pasK xs k).2.length ≤ 2 * xs.length := by
  have := pas_len (xs.take k.toNat) ([], [])
  rw [List.length_take] at this
  simp only [List.length_nil] at this
  rw [pasK]
  omega
end Go.Proofs.YtodcppoglpfodaaGreatDoor
namespace Go.Proofs.YtodcppoglpfodaaGreatDoor
open Go.Wk Go.RowKit
structure PmOK (xs : List Int) : Prop where
  n : 1 ≤ (xs.length : Int) ∧ (xs.length : Int) ≤ 7
  r : ∀ x ∈ xs, 0 ≤ x ∧ x < (xs.length : Int)
  d : xs.Nodup
def PmI (xs : List Int) (k : Int) (met : List Bool) : Prop := met.length = 7 ∧ ∀ y : Int, 0 ≤ y → y < 7 → met.getD y.toNat false = hasL (xs.take k.toNat) y
theorem pm_start {xs : List Int} : PmI xs 0 (List.replicate 7 false) := ⟨rfl, fun y y0 y1 => by
  rw [List.getD_eq_getElem?_getD, List.getElem?_replicate]; split <;> rfl⟩
theorem hasL_mem {l : List Int} {x : Int} : hasL l x = true ↔ x ∈ l := by
  rw [hasL, List.any_eq_true]
  exact ⟨fun ⟨y, hy, h⟩ => by rw [← of_decide_eq_true h]; exact hy, fun h => ⟨x, h, decide_eq_true rfl⟩⟩
theorem pm_free {xs : List Int} {k : Int} {met : List Bool} (hk : PmOK xs) (h : PmI xs k met) (h0 : 0 ≤ k) (h1 : k < xs.length) : met.getD (ix 0 xs k).toNat false = false := by
  have hx := hk.r _ (List.mem_of_getElem? (ix_get (d := (0 : Int)) h1 h0))
  have hn := hk.n
  rw [h.2 _ hx.1 (by omega), ← Bool.not_eq_true, hasL_mem]
  intro hm
  obtain ⟨q, hq, e⟩ := List.mem_iff_getElem.1 hm
  have hq' : q < k.toNat := by rw [List.length_take] at hq; omega
  rw [List.getElem_take] at e
  have hd := List.pairwise_iff_getElem.1 hk.d q k.toNat (by omega) (by omega) hq'
  obtain ⟨g1, g2⟩ := List.getElem?_eq_some_iff.1 (ix_get (d := (0 : Int)) h1 h0)
  rw [g2] at hd
  exact hd e
theorem pm_next {xs : List Int} {k : Int} {met : List Bool} (hk : PmOK xs) (h : PmI xs k met) (h0 : 0 ≤ k) (h1 : k < xs.length) : PmI xs (k + 1) (met.set (ix 0 xs k).toNat true) := by
  have hx := hk.r _ (List.mem_of_getElem? (ix_get (d := (0 : Int)) h1 h0))
  have hn := hk.n
  refine ⟨by rw [List.length_set]; exact h.1, fun y y0 y1 => ?_⟩
  have ht := take_ix (d := (0 : Int)) h0 h1
  rw [ht, List.getD_eq_getElem?_getD, List.getElem?_set, hasL, List.any_append]
  by_cases e : (ix 0 xs k).toNat = y.toNat
  · have e2 : ix 0 xs k = y := by omega
    rw [if_pos e, if_pos (by rw [h.1]; omega), e2]; simp
  · have e2 : ix 0 xs k ≠ y := by omega
    rw [if_neg e]
    have := h.2 y y0 y1
    rw [List.getD_eq_getElem?_getD] at this
    rw [this, hasL]; simp [e2]
theorem pm_120 : PmOK [1, 2, 0] := ⟨by decide, by decide, by decide⟩
end Go.Proofs.YtodcppoglpfodaaGreatDoor
namespace Go.Proofs.YtodcppoglpfodaaGreatDoor
open Go.Wk Go.RowKit
def mvB (xs : List Int) : List UInt8 := (pasV xs).map fun p => p.1.toNat.toUInt8
def mvS (xs : List Int) : ByteArray := ⟨(mvB xs).toArray⟩
theorem pas_mv (xs : List Int) : ∀ (s : List Int × List (Int × Int)), (∀ p ∈ s.2, p.1 = 105 ∨ p.1 = 111) → ∀ p ∈ (xs.foldl pasS s).2, p.1 = 105 ∨ p.1 = 111 := by
  induction xs with
  | nil => intro s h; exact h
  | cons x xs ih =>
    intro s h
    rw [List.foldl_cons]
    refine ih _ fun p hp => ?_
    rw [pasS] at hp
    simp only [List.mem_append, outO, List.mem_map, List.mem_cons, List.not_mem_nil, or_false] at hp
    rcases hp with (hp | ⟨y, _, rfl⟩) | rfl
    · exact h p hp
    · exact .inr rfl
    · exact .inl rfl
theorem pasv_mv {xs : List Int} {p : Int × Int} (hp : p ∈ pasV xs) : p.1 = 105 ∨ p.1 = 111 := by
  rw [pasV] at hp
  rcases List.mem_append.1 hp with hp | hp
  · exact pas_mv xs ([], []) (fun p hp => by cases hp) p hp
  · rw [outO, List.mem_map] at hp
    obtain ⟨y, _, rfl⟩ := hp
    exact .inr rfl
theorem mvB_eq (xs : List Int) : (pasV xs).map (·.1) = (mvB xs).map fun b => (b.toNat : Int) := by
  rw [mvB, List.map_map]
  refine List.map_congr_left fun p hp => ?_
  rcases pasv_mv hp with h | h <;> (simp only [Function.comp]; rw [h]; rfl)
theorem pasv_len (xs : List Int) : (pasV xs).length ≤ 2 * xs.length := by
  have h1 := pas_len xs ([], [])
  have h2 := pop_len xs.length (xs.foldl pasS ([], [])).1.length (xs.foldl pasS ([], [])).1 [] (Nat.le_refl _)
  rw [pasV, List.length_append, outO, List.length_map]
  simp only [List.length_nil] at h1 h2
  omega
end Go.Proofs.YtodcppoglpfodaaGreatDoor

namespace Go.Proofs.YtodcppoglpfodaaGreatDoor
open Go.Wk Go.RowKit
set_option linter.unusedVariables false
def upL (n : Int) : List Int := (List.range n.toNat).map fun (q : Nat) => (q : Int)
theorem upL_len (n : Int) (h : 0 ≤ n) : ((upL n).length : Int) = n := by rw [upL, List.length_map, List.length_range]; omega
theorem upL_suc {n : Int} (h : 0 ≤ n) : upL (n + 1) = upL n ++ [n] := by
  rw [upL, show (n + 1).toNat = n.toNat + 1 by omega, List.range_succ, List.map_append, upL, List.map_cons, List.map_nil, Int.toNat_of_nonneg h]
def comS (s : List Int × List Int) (c : Int) : List Int × List Int :=
  (s.1.take (c % s.1.length).toNat ++ s.1.drop (c % s.1.length + 1).toNat, s.2 ++ [ix 0 s.1 (c % s.1.length)])
def comK (n : Int) (bs : List Int) (i : Int) : List Int × List Int := (bs.take i.toNat).foldl comS (upL n, [])
theorem comk_next {n : Int} {bs : List Int} {i : Int} (h0 : 0 ≤ i) (h1 : i < bs.length) : comK n bs (i + 1) = comS (comK n bs i) (ix 0 bs i) := by
  rw [comK, take_ix (d := (0 : Int)) h0 h1, List.foldl_append]; rfl
theorem coms_len {s : List Int × List Int} {c : Int} (h : 0 < s.1.length) : (comS s c).1.length + 1 = s.1.length := by
  have h1 := Int.emod_nonneg c (show (s.1.length : Int) ≠ 0 by omega)
  have h2 := Int.emod_lt_of_pos c (show (0 : Int) < s.1.length by omega)
  rw [comS, List.length_append, List.length_take, List.length_drop]
  omega
def comN (b m : Int) : Int := 1 + b % m
def comV (b : Int) (bs : List Int) (m : Int) : List Int := (comK (comN b m) bs (comN b m)).2
def rnS (xs : List Int) (s : List Int × Int × List Int) (b : Int) : List Int × Int × List Int :=
  if b = 105 then (s.1 ++ [ix 0 xs s.2.1], s.2.1 + 1, s.2.2) else (popB s.1, s.2.1, s.2.2 ++ [topB s.1])
def rnG (xs : List Int) (s : List Int × Int × List Int) (b : Int) : Bool :=
  (decide (b = 105) && decide (0 ≤ s.2.1) && decide (s.2.1 < xs.length)) || (decide (b = 111) && decide (0 < s.1.length))
def mvL (xs : List Int) : List Int := (pasV xs).map (·.1)
def rnK (xs : List Int) (i : Int) : List Int × Int × List Int := ((mvL xs).take i.toNat).foldl (rnS xs) ([], 0, [])
def rnV (xs : List Int) : List Int := ((mvL xs).foldl (rnS xs) ([], 0, [])).2.2
def rnA (xs : List Int) : List Int → List Int × Int × List Int → Bool
  | [], s => decide ((xs.length : Int) ≤ s.2.2.length)
  | b :: bs, s => rnG xs s b && rnA xs bs (rnS xs s b)
def rnOK (xs : List Int) : Bool := rnA xs (mvL xs) ([], 0, [])
theorem mvL_len (xs : List Int) : ((mvL xs).length : Int) = (mvS xs).size := by rw [mvL, mvB_eq, List.length_map]; rfl
theorem rnk_next {xs : List Int} {i : Int} (h0 : 0 ≤ i) (h1 : i < (mvS xs).size) : rnK xs (i + 1) = rnS xs (rnK xs i) (ix 0 (mvL xs) i) := by
  rw [rnK, take_ix (d := (0 : Int)) h0 (by rw [mvL_len]; exact h1), List.foldl_append]; rfl
theorem rna_split {xs : List Int} : ∀ {es bs : List Int} {s : List Int × Int × List Int}, rnA xs (es ++ bs) s = true → rnA xs bs (es.foldl (rnS xs) s) = true
  | [], _, _, h => h
  | a :: es, bs, s, h => by
    rw [List.cons_append, rnA, Bool.and_eq_true] at h
    exact rna_split (es := es) (s := rnS xs s a) h.2
theorem rnk_ok {xs : List Int} {i : Int} (hr : rnOK xs = true) (h0 : 0 ≤ i) (h1 : i < (mvS xs).size) : rnG xs (rnK xs i) (ix 0 (mvL xs) i) = true := by
  have hl := mvL_len xs
  have h := rna_split (es := (mvL xs).take i.toNat) (bs := (mvL xs).drop i.toNat) (by rw [List.take_append_drop]; exact hr)
  rw [List.drop_eq_getElem_cons (by omega), rnA, Bool.and_eq_true] at h
  rw [show ix 0 (mvL xs) i = (mvL xs)[i.toNat] by rw [ix, List.getD_eq_getElem?_getD, List.getElem?_eq_getElem (by omega)]; rfl]
  exact h.1
theorem rnk_end {xs : List Int} {i : Int} (hr : rnOK xs = true) (h1 : (mvS xs).size ≤ i) : (rnK xs i).2.2 = rnV xs ∧ (xs.length : Int) ≤ (rnV xs).length := by
  have hl := mvL_len xs
  have h := rna_split (es := mvL xs) (bs := []) (by rw [List.append_nil]; exact hr)
  rw [rnA] at h
  exact ⟨by rw [rnK, List.take_of_length_le (by omega), rnV], of_decide_eq_true h⟩
theorem tab_mv {xs : List Int} {i : Int} (h0 : 0 ≤ i) (h1 : i < (mvS xs).size) : tabAt (mvS xs) i = ix 0 (mvL xs) i := by
  have hl := mvL_len xs
  rw [tabAt, ix, mvL, mvB_eq, List.getD_eq_getElem?_getD, List.getD_eq_getElem?_getD, List.getElem?_map, mvS]
  have h2 : i.toNat < (mvB xs).length := by have : (mvB xs).length = (mvS xs).size := rfl; omega
  rw [List.getElem?_eq_getElem h2]; rfl
theorem ix_drop0 {xs : List Int} {c : Int} (h0 : 0 ≤ c) : ix 0 (List.drop c.toNat xs) 0 = ix 0 xs c := by
  rw [ix, ix, List.getD_eq_getElem?_getD, List.getD_eq_getElem?_getD, List.getElem?_drop]; rfl
end Go.Proofs.YtodcppoglpfodaaGreatDoor

namespace Go.Wk
open Go.RowKit Go.ChangeShapes

section
variable {H : Type} {enc : TypeId × Value → H} {P : Program} {W : World}

theorem inK_of_wf {k : IntKind} {n : Int} (h : (Lit.int k n).wf = true) : InK k n := by
  cases k <;> simp [Lit.wf, IntKind.min, IntKind.max, IntKind.bits, IntKind.signed] at h <;> simp only [InK, lo, hi] <;> omega

structure Rds {α : Type} (enc : TypeId × Value → H) (P : Program) (W : World) (t : Ty α) (e : TypeId) : Prop where
  n : P.cellsOf e = t.n
  pos : 0 < t.n
  get : ∀ fuel cs x, DataW.trod enc P W 0 (fun _ => true) true fuel e cs = some x → ∃ y, t.rep [] W y cs

theorem list_of {α : Type} {p : Nat → α → Prop} : ∀ n : Nat, (∀ i, i < n → ∃ y, p i y) → ∃ ys : List α, ys.length = n ∧ ∀ i y, ys[i]? = some y → p i y
  | 0, _ => ⟨[], rfl, by simp⟩
  | n + 1, h => by
    obtain ⟨ys, h1, h2⟩ := list_of n (fun i hi => h i (by omega))
    obtain ⟨y, hy⟩ := h n (by omega)
    refine ⟨ys ++ [y], by simp [h1], fun i z hz => ?_⟩
    by_cases hi : i < ys.length
    · rw [List.getElem?_append_left hi] at hz; exact h2 i z hz
    · rw [List.getElem?_append_right (by omega)] at hz
      have : i - ys.length = 0 := by
        rcases Nat.eq_zero_or_pos (i - ys.length) with h | h
        · exact h
        · rw [List.getElem?_eq_none (by simp; omega)] at hz; cases hz
      rw [this] at hz
      simp at hz
      subst hz
      have : i = n := by omega
      rw [this]; exact hy

def RdI (enc : TypeId × Value → H) (P : Program) (W : World) (k : IntKind) (m : Nat) (e : TypeId) : Prop :=
  ∀ fuel cs x, DataW.trod enc P W 0 (fun _ => true) true fuel e cs = some x → ∃ zs : List Int, zs.length = m ∧ cs = zs.map (Value.int k) ∧ ∀ z ∈ zs, InK k z
theorem RdI.array {k : IntKind} {n : Nat} {e t : TypeId} (hu : P.underlying t = some (.array n e)) (he : P.underlying e = some (.int k)) (hc : P.cellsOf e = 1) (hn : P.cellsOf t = n) : RdI enc P W k n t := by
  intro fuel cs x h
  obtain ⟨xs, m, _, _, hl, hx, hel⟩ := DataW.trod_array hu h
  rw [hc] at hel
  rw [hn] at hl
  have h1 : ∀ i, i < n → ∃ z, cs[i]? = some (.int k z) ∧ InK k z := by
    intro i hi
    have := hel i hi
    cases hxi : xs[i]? with
    | none => rw [List.getElem?_eq_none_iff] at hxi; omega
    | some y =>
      rw [hxi] at this
      obtain ⟨z, hz, _, hw⟩ := DataW.trod_int he this
      refine ⟨z, ?_, inK_of_wf hw⟩
      have h2 := congrArg (fun l : List Value => l[0]?) hz
      simp only [List.getElem?_take, List.getElem?_drop] at h2
      simpa using h2
  obtain ⟨zs, z1, z2⟩ := list_of (p := fun i z => cs[i]? = some (.int k z) ∧ InK k z) n h1
  refine ⟨zs, z1, List.ext_getElem? fun i => ?_, fun z hz => ?_⟩
  · rw [List.getElem?_map]
    by_cases hi : i < n
    · have hzi : zs[i]? = some zs[i] := List.getElem?_eq_getElem (by omega)
      rw [hzi, (z2 i _ hzi).1]; rfl
    · rw [List.getElem?_eq_none (by omega), List.getElem?_eq_none (by omega)]; rfl
  · obtain ⟨i, hi⟩ := List.getElem?_of_mem hz
    exact (z2 i z hi).2
theorem RdI.v {k : IntKind} {t : TypeId} {m : Nat} {cs : Array Value} {d : DataW H} {p : List MemPlace} (h : RdI enc P W k m t) (hx : DataW.Trod enc P W 0 (fun _ => true) true t (.agg cs) d p) : ∃ zs : List Int, zs.length = m ∧ cs = (zs.map (Value.int k)).toArray ∧ ∀ z ∈ zs, InK k z := by
  obtain ⟨fuel, hf⟩ := hx
  obtain ⟨zs, h1, h2, h3⟩ := h _ _ _ hf
  refine ⟨zs, h1, ?_, h3⟩
  rw [← h2]
  simp [Value.cells]
end
end Go.Wk

namespace Go.Wk
open Go.RowKit Go.ChangeShapes
section
variable {H : Type} {enc : TypeId × Value → H} {P : Program} {W : World}
end
section
variable {P : Program} {σ : Fr} {w : World} {x y : Operand} {ty T T' : TypeId}
end
end Go.Wk

namespace Go.Wk
open Go.RowKit Go.Lib Go.ChangeMaps
set_option linter.unusedVariables false
set_option linter.unusedSimpArgs false
set_option linter.unusedSectionVars false

section
variable {κ ν : Type} [DecidableEq κ]
def mE (f : κ → Value) (g : ν → Value) : List (κ × ν) → Nat → List MapEntry
  | [], _ => []
  | p :: m, i => ⟨f p.1, g p.2, i⟩ :: mE f g m (i + 1)
def mget (z : ν) : List (κ × ν) → κ → ν
  | [], _ => z
  | p :: m, k => if p.1 = k then p.2 else mget z m k
def mput : List (κ × ν) → κ → ν → List (κ × ν)
  | [], k, v => [(k, v)]
  | p :: m, k, v => if p.1 = k then (p.1, v) :: m else p :: mput m k v
def mfind : List (κ × ν) → κ → Nat → Option (Nat × ν)
  | [], _, _ => none
  | p :: m, k, i => if p.1 = k then some (i, p.2) else mfind m k (i + 1)
theorem mget_mput (z : ν) : ∀ (m : List (κ × ν)) (k : κ) (v : ν) (q : κ), mget z (mput m k v) q = if q = k then v else mget z m q
  | [], k, v, q => by
    simp only [mput, mget]
    by_cases h : k = q
    · rw [if_pos h, if_pos h.symm]
    · rw [if_neg h, if_neg fun e => h e.symm]
  | p :: m, k, v, q => by
    rw [mput]
    by_cases h : p.1 = k
    · rw [if_pos h, mget, mget]
      by_cases hq : p.1 = q
      · rw [if_pos hq, if_pos (by rw [← hq]; exact h)]
      · rw [if_neg hq, if_neg (fun e => hq (by rw [e]; exact h)), if_neg hq]
    · rw [if_neg h, mget, mget, mget_mput z m k v q]
      by_cases hq : p.1 = q
      · rw [if_pos hq, if_neg (fun e => h (by rw [← e]; exact hq)), if_pos hq]
      · rw [if_neg hq, if_neg hq]
theorem mfind_get (z : ν) : ∀ (m : List (κ × ν)) (k : κ) (i : Nat), mget z m k = ((mfind m k i).map (·.2)).getD z
  | [], _, _ => rfl
  | p :: m, k, i => by
    rw [mget, mfind]
    split
    · rfl
    · exact mfind_get z m k (i + 1)
theorem mfind_ge : ∀ (m : List (κ × ν)) (k : κ) (i : Nat) (x : Nat × ν), mfind m k i = some x → i ≤ x.1
  | [], _, _, _, h => by cases h
  | p :: m, k, i, x, h => by
    rw [mfind] at h
    split at h
    · cases h; exact Nat.le_refl _
    · have := mfind_ge m k (i + 1) x h; omega
theorem mE_found (f : κ → Value) (g : ν → Value) : ∀ (m : List (κ × ν)) (k : κ) (v : ν) (i j : Nat) (x : Nat × ν), mfind m k j = some x →
    (mE f g m i)[x.1 - j]? = some ⟨f k, g x.2, i + (x.1 - j)⟩ ∧ mE f g (mput m k v) i = (mE f g m i).modify (x.1 - j) (fun e => { e with key := f k, val := g v })
  | [], _, _, _, _, _, h => by cases h
  | p :: m, k, v, i, j, x, h => by
    rw [mfind] at h
    by_cases hp : p.1 = k
    · rw [if_pos hp] at h
      cases h
      rw [mput, if_pos hp, Nat.sub_self, ← hp]
      exact ⟨rfl, by simp [mE]⟩
    · rw [if_neg hp] at h
      have hge := mfind_ge m k (j + 1) x h
      obtain ⟨h1, h2⟩ := mE_found f g m k v (i + 1) (j + 1) x h
      obtain ⟨q, hq⟩ : ∃ q, x.1 = j + 1 + q := ⟨x.1 - (j + 1), by omega⟩
      rw [hq] at h1 h2 ⊢
      rw [show j + 1 + q - j = q + 1 by omega]
      rw [show j + 1 + q - (j + 1) = q by omega] at h1 h2
      refine ⟨?_, ?_⟩
      · rw [mE, List.getElem?_cons_succ, h1, show i + 1 + q = i + (q + 1) by omega]
      · rw [mput, if_neg hp, mE, mE, List.modify_succ_cons, h2]
theorem mE_new (f : κ → Value) (g : ν → Value) : ∀ (m : List (κ × ν)) (k : κ) (v : ν) (i j : Nat), mfind m k j = none →
    mE f g (mput m k v) i = mE f g m i ++ [⟨f k, g v, i + m.length⟩] ∧ (mput m k v).length = m.length + 1
  | [], k, v, i, j, _ => ⟨rfl, rfl⟩
  | p :: m, k, v, i, j, h => by
    rw [mfind] at h
    by_cases hp : p.1 = k
    · rw [if_pos hp] at h; cases h
    · rw [if_neg hp] at h
      obtain ⟨h1, h2⟩ := mE_new f g m k v (i + 1) (j + 1) h
      rw [mput, if_neg hp, mE, mE, h1, List.length_cons, List.length_cons, h2]
      exact ⟨by rw [List.cons_append, show i + (m.length + 1) = i + 1 + m.length by omega], rfl⟩
theorem mput_len : ∀ (m : List (κ × ν)) (k : κ) (v : ν) (j : Nat) (x : Nat × ν), mfind m k j = some x → (mput m k v).length = m.length
  | [], _, _, _, _, h => by cases h
  | p :: m, k, v, j, x, h => by
    rw [mfind] at h
    by_cases hp : p.1 = k
    · rw [mput, if_pos hp]; rfl
    · rw [if_neg hp] at h
      rw [mput, if_neg hp, List.length_cons, List.length_cons, mput_len m k v (j + 1) x h]
structure KeyD (P : Program) (kt : TypeId) (f : κ → Value) : Prop where
  check : ∀ (b : Bool) (k : κ) (w : World), (Instr.checkKey b 10000 kt (f k)).run P w = .ok () w
  find : ∀ {ν : Type} (g : ν → Value) (m : List (κ × ν)) (k : κ) (i : Nat) (w : World), (Instr.findKey kt (f k) (mE f g m i)).run P w = .ok ((mfind m k 0).map fun x => (x.1, g x.2)) w
  stays : ∀ (k : κ) (w : World), (Instr.keyThatStays (f k) (f k)).run P w = .ok (f k) w
end

theorem findNow_int {ν : Type} {q : IntKind} (g : ν → Value) : ∀ (m : List (Int × ν)) (k : Int) (i j : Nat), Instr.findNow (.int q) (.int q k) (mE (Value.int q) g m i) j = some ((mfind m k j).map fun x => (x.1, g x.2))
  | [], _, _, _ => rfl
  | p :: m, k, i, j => by
    rw [mE, Instr.findNow, mfind]
    simp only [Instr.sameNow, if_true]
    by_cases h : p.1 = k
    · rw [if_pos h, show (k == p.1) = true from beq_iff_eq.2 h.symm]; rfl
    · rw [if_neg h, show (k == p.1) = false from by simpa using fun e => h e.symm]
      exact findNow_int g m k (i + 1) (j + 1)
theorem KeyD.int {P : Program} {kt : TypeId} {q : IntKind} (hd : P.underlying kt = some (.int q)) : KeyD P kt (Value.int q) where
  check := fun b k w => MapKept.run_checkKey (d := .int q) (k := .int q k) hd rfl b 9999
  find := fun g m k i w => MapKept.run_findKey hd (findNow_int g m k i 0)
  stays := fun k w => MapKept.run_keyThatStays (d := .int q) (hk := (rfl : MapKept.IsKey (.int q) (.int q k)))
section
variable {P : Program} {n : Nat} {kc : Cont} {σ σ0 : Fr} {w w0 : World} {O : List (Option Nat)} {obs : List Ob} {x y z : Operand} {ty T : TypeId} {l : List (Nat × Value)} {d : Tmp} {pos : String} {af : Array Edge} {ops : Array Oper} {rest : List Oper}
variable {κ ν : Type} [DecidableEq κ] {f : κ → Value} {g : ν → Value} {kt et : TypeId}

theorem Wx.makeMap (hS : St w0 O w obs) (hd : Nat.ble (d + 1) n = true) (h : ∀ b w', Ext w w' → St w0 O w' (.raw b (.map #[] 0) :: obs) → Wx P n ops false rest kc (look ((d, .map (some b)) :: l) σ0) w') :
    Wx P n ops false (⟨some d, .makeMap T none, ty, pos, af, none⟩ :: rest) kc (look l σ0) w := by
  have he : Ext w (w.alloc (.map #[] 0)) := (Below.refl _ _).alloc (Nat.le_refl _) _
  refine Wx.val (v := .map (some w.heap.size)) (w' := w.alloc (.map #[] 0)) ?_ hd (h w.heap.size _ he (hS.push he _ (fun b hb => by simp [Ob.blk] at hb; omega) (fun F _ => ⟨hS.bel.size, heap_alloc_new w _⟩)))
  simp [xop, execOp, Instr.makeMap]
theorem rd_lookup {b c : Nat} {m : List (κ × ν)} {zv : ν} {k : κ} (hS : St w0 O w obs) (i : Nat) (hi : obs[i]? = some (.raw b (.map (mE f g m 0).toArray c))) (hx : ev σ x = .map (some b)) (hy : ev σ y = f k)
    (hu : P.underlying T = some (.map kt et)) (K : KeyD P kt f) (hz : ∀ w', (zeroValue et).run P w' = .ok (g zv) w') : Rd P σ (.lookup T x y false) ty w (g (mget zv m k)) := by
  intro w' hw'
  have hb := (hS.get i hi).2
  have hb' : w'.heap[b]? = some (.map (mE f g m 0).toArray c) := (hw'.block b (Array.getElem?_eq_some_iff.1 hb).1).trans hb
  have hf := K.find g m k 0 w'
  rw [mfind_get zv m k 0]
  simp only [xop, execOp, hx, hy, Instr.lookup, Sem.run_bind, run_underlying hu, MapKept.run_getObj_map hb', Result.andThen_ok, K.check, hf, Sem.run_pure]
  cases mfind m k 0 <;> simp [hz]
theorem Wx.mapUpdate {b : Nat} {m : List (κ × ν)} {k : κ} {v : ν} (hS : St w0 O w obs) (i : Nat) (hi : obs[i]? = some (.raw b (.map (mE f g m 0).toArray m.length))) (hx : ev (look l σ0) x = .map (some b)) (hy : ev (look l σ0) y = f k) (hv : ev (look l σ0) z = g v)
    (hu : P.underlying T = some (.map kt et)) (K : KeyD P kt f)
    (h : ∀ w', w.heap.size ≤ w'.heap.size → St w0 O w' (obs.set i (.raw b (.map (mE f g (mput m k v) 0).toArray (mput m k v).length))) → Wx P n ops false rest kc (look l σ0) w') :
    Wx P n ops false (⟨none, .mapUpdate T x y z, ty, pos, af, none⟩ :: rest) kc (look l σ0) w := by
  have hb := (hS.get i hi).2
  have hbase := (hS.get i hi).1
  have hf := K.find g m k 0 w
  have hrun : (Instr.mapUpdate T (.map (some b)) (f k) (g v)).run P w = .ok () (setBlock w b (.map (mE f g (mput m k v) 0).toArray (mput m k v).length)) := by
    cases hm : mfind m k 0 with
    | none =>
      rw [hm] at hf
      obtain ⟨e1, e2⟩ := mE_new f g m k v 0 0 hm
      rw [e1, e2]
      simp [Instr.mapUpdate, run_underlying hu, MapKept.run_getObj_map hb, K.check, hf, MapKept.run_setObj_map _ hb, Result.andThen, setBlock]
    | some q =>
      rw [hm] at hf
      obtain ⟨e1, e2⟩ := mE_found f g m k v 0 0 q hm
      rw [Nat.sub_zero] at e1 e2
      rw [e2, mput_len m k v 0 q hm]
      simp [Instr.mapUpdate, run_underlying hu, MapKept.run_getObj_map hb, K.check, hf, e1, K.stays, MapKept.run_setObj_map _ hb, Result.andThen, setBlock]
  refine Wx.unit (w' := setBlock w b (.map (mE f g (mput m k v) 0).toArray (mput m k v).length)) ?_ (h _ (by simp [setBlock]) ?_)
  · simp [xop, execOp, hx, hy, hv, hrun]
  · exact hS.turn i hi rfl rfl rfl (by simp [setBlock]) (fun b' _ hb' => heap_setBlock_other hb _ (fun e => hb' (by rw [e]; rfl))) (fun b' hb' => .inl hb') (fun b' hb' => by simpa [setBlock] using (Ob.ok_lt (hS.get i hi) hb').2) (fun F _ => ⟨hbase, heap_setBlock_same hb _⟩)
end
end Go.Wk

namespace Go.Wk
open Go.RowKit Go.Lib
set_option linter.unusedVariables false
variable {P : Program} {n : Nat} {kn kr k : Cont} {ke : List (Nat × Cont)} {σ : Fr} {w : World} {ops : Array Oper} {S : World → Prop}

end Go.Wk
namespace Go.Wk
end Go.Wk

namespace Go.Wk
open Go.RowKit Go.Lib
set_option linter.unusedVariables false
variable {P : Program} {n : Nat} {kn kr k : Cont} {ke : List (Nat × Cont)} {σ : Fr} {w : World} {ops : Array Oper} {S : World → Prop}

end Go.Wk

namespace Go.Wk
open Go.RowKit Go.Lib Go.Maps
set_option linter.unusedVariables false
section
variable {P : Program} {n : Nat} {kc : Cont} {σ σ0 : Fr} {w w0 : World} {O : List (Option Nat)} {obs : List Ob} {x y z : Operand} {ty T : TypeId}
variable {κ ν : Type} [DecidableEq κ] {f : κ → Value} {g : ν → Value} {kt et : TypeId}
end
end Go.Wk

namespace Go.Wk
open Go.RowKit Go.Lib
set_option linter.unusedVariables false
section
variable {P : Program} {n : Nat} {w w0 : World} {O : List (Option Nat)} {obs : List Ob} {ops : Array Oper} {rest : List Oper} {k : Cont} {d : Tmp} {ty : TypeId} {pos : String} {af : Array Edge}
variable {l : List (Nat × Value)} {σ0 : Fr} {T : TypeId} {x y : Operand}
theorem appendNone {n0 : Nat} {ad : Option Addr} {T ty e : TypeId} {ti : TypeInfo} (hu : P.underlying T = some (.slice e)) (hti : P.info? e = some ti) (a : Option Addr) (c : Nat) :
    (Builtin.append_ #[T, T] ty #[.slice ad n0 n0, .slice a 0 c]).run P w = .ok (.slice ad n0 n0) w := by
  cases a with
  | none => cases ad <;> simp [Builtin.append_, run_underlying hu, sizeOf, typeInfo, hti, Builtin.lenOf, Builtin.firstCells, storeCells]
  | some b => cases ad <;> simp [Builtin.append_, run_underlying hu, sizeOf, typeInfo, hti, Builtin.lenOf, run_firstCells_some (P := P) w ti.size 0 b 0 c [] (by simp) (by simp), storeCells]
theorem Wx.appendClip {α : Type} {t : Ty α} {e : TypeId} {u : Value} {ys zs : List α} {z : Value} {bytes : Nat} {ad : Option Addr} (hE : ElemI P T e z t.n bytes) (hS : St w0 O w obs)
    (hx : ev (look l σ0) x = .slice ad ys.length ys.length) (hv : V (tSl t) ys (.slice ad ys.length ys.length) (fb obs O) w) (hy : ev (look l σ0) y = u) (hu : Src t zs u (fb obs O) w)
    (h63 : ys.length + zs.length ≤ maxLen) (hb : (ys.length + zs.length) * bytes ≤ 140737488355328) (hd : Nat.ble (d + 1) n = true)
    (h : ∀ v' w', Ext w w' → St w0 O w' (Ob.v (tSl t) (ys ++ zs) v' :: obs) → Wx P n ops false rest k (look ((d, v') :: l) σ0) w') :
    Wx P n ops false (⟨some d, .call { callee := .builtin .append, args := #[x, y], argTypes := #[T, T] }, ty, pos, af, none⟩ :: rest) k (look l σ0) w := by
  by_cases hz : zs = []
  · subst hz
    obtain ⟨a, c, ds, rfl, g1, g2, g3, g4⟩ := hu
    obtain ⟨ti, hti, _⟩ := hE.info
    have hr := appendNone (P := P) (w := w) (ty := ty) (n0 := ys.length) (ad := ad) hE.und hti a c
    refine Wx.val (v := .slice ad ys.length ys.length) (w' := w) ?_ hd (h _ _ (Below.refl _ _) (hS.add (by rw [List.append_nil]; exact hv)))
    simp [xop, execOp, resolve, invoke, builtin, hx, hy, hr]
  · exact Wx.appendNew hE hS hx hv hy hu hz h63 hb hd fun v' w' hX hS' => h v' w' hX (hS'.freeze 0 rfl)
theorem rd_clipK {α : Type} {t : Ty α} {e : TypeId} {v : Value} {xs : List α} {F : List (Option Nat)} {k1 k2 : IntKind} {j : Int} {σ : Fr} {z : Operand} (hv : V (tSl t) xs v F w) (hu : P.underlying T = some (.slice e)) (hsz : ∀ w', (sizeOf e).run P w' = .ok t.n w')
    (hx : ev σ x = v) (hy : ev σ y = .int k1 j) (hz : ev σ z = .int k2 j) (h0 : 0 ≤ j) (h1 : j ≤ xs.length) :
    ∃ u, Rd P σ (.slice T x none (some y) (some z)) ty w u ∧ ∃ ad, u = .slice ad (xs.take j.toNat).length (xs.take j.toNat).length ∧ V (tSl t) (xs.take j.toNat) u F w := by
  obtain ⟨ad, h1', h2⟩ := rd_sliceHM (ty := ty) hv hu hsz hx hy hz h0 (Int.le_refl _) h1
  have hl : (xs.take j.toNat).length = j.toNat := by rw [List.length_take]; omega
  exact ⟨_, h1', ad, by rw [hl], h2⟩
end
end Go.Wk

namespace Go.Wk
open Go.RowKit Go.Lib
set_option linter.unusedVariables false
section
variable {P : Program} {n : Nat} {w w0 w1 : World} {O : List (Option Nat)} {obs : List Ob} {ops : Array Oper} {rest : List Oper} {k kn kr : Cont} {d : Tmp} {ty : TypeId} {pos : String} {af : Array Edge}
variable {l : List (Nat × Value)} {σ σ0 : Fr} {T : TypeId} {x y : Operand} {g o : Nat} {e : TypeId} {cs : List Value} {v u : Value}
theorem St.boxCell (hS : St w0 O w obs) (i : Nat) (hi : obs[i]? = some (.box g e cs)) (hv : cs[o]? = some v) : w.cell? ⟨g, o, none⟩ = some v := by
  have hb := hS.get i hi
  simp only [World.cell?, hb.2]
  simpa using hv
theorem St.boxFree (hS : St w0 O w obs) (i : Nat) (hi : obs[i]? = some (.box g e cs)) : w.frozen? ⟨g, o, none⟩ = false := by
  have hb := hS.get i hi
  simp [World.frozen?, hb.2]
theorem St.setCell (hS : St w0 O w obs) (i : Nat) (hi : obs[i]? = some (.box g e cs)) (v : Value) {cs' : List Value} (hcs : cs.set o v = cs') : St w0 O (w.setCell ⟨g, o, none⟩ v) (obs.set i (.box g e cs')) := by
  subst hcs
  have hb := hS.get i hi
  have hlt : g < w.heap.size := (Array.getElem?_eq_some_iff.1 hb.2).1
  refine hS.turn i hi rfl rfl rfl (by simp [World.setCell]) (fun b _ hb' => ?_) (fun b hb' => .inl hb') (fun b hb' => by
    have : g = b := by injection hb'
    subst this; simpa [World.setCell] using hlt) (fun F _ => ?_)
  · have hne : g ≠ b := fun hq => hb' (by rw [hq]; rfl)
    simp [World.setCell, Array.getElem?_modify, hne]
  · refine ⟨hb.1, ?_⟩
    simp [World.setCell, Array.getElem?_modify, hb.2]
theorem run_callX {f : FuncId} {aas : List Operand} {vs : List Value} {ats : Array TypeId} {w' : World} (h : (callFunc f vs.toArray).run P w = .ok (.value v) w') (hv : aas.map (ev σ) = vs) :
    (xop (ev σ) (.call { callee := .value (.func f), args := aas.toArray, argTypes := ats }) ty).run P w = .ok (.value v) w' := by
  subst hv
  simp [xop, execOp, resolve, Deferred.ofValue, ev, invoke, h]
theorem rd_mkI {T : TypeId} (hx : ev σ x = v) (h : P.concrete T = true) : Rd P σ (.makeInterface T x) ty w (.iface T v) :=
  Rd.of fun w' => by simp [xop, execOp, hx, run_makeInterface w' T v h]
theorem run_convU {src dst : TypeId} {p v : Value} (hx : ev σ x = p) (h : (convert src dst p).run P w = .ok v w) : (xop (ev σ) (.convert src dst x) ty).run P w = .ok (.value v) w := by
  simp [xop, execOp, hx, h]
theorem run_callI {f : FuncId} {z : Operand} {name : String} {t : TypeId} {aas : List Operand} {vs : List Value} {ats : Array TypeId} (hz : ev σ z = .iface t v) (hm : ∀ w, (method (P.types.size + Made.depth) t v name).run P w = .ok (f, u) w)
    (hc : ∀ args w, (callFunc f args).run P w = .ok (.enter f args) w) (hv : aas.map (ev σ) = vs) (w' : World) :
    (xop (ev σ) (.call { callee := .invoke z name, args := aas.toArray, argTypes := ats }) ty).run P w' = .ok (.enter f (u :: vs).toArray) w' := by
  subst hv
  have hp : (program).run P w' = .ok P w' := rfl
  simp [xop, execOp, resolve, hz, invoke, callMethod, hp, hm, hc]
  exact List.take_of_length_le (by simp)
theorem enterBD {f : FuncId} {fn : Func} {c : Code} {vs : List Value} {rs : Array ResultVar} {Q : Value → World → Prop} {fm : FrameMode} (hf : P.funcs[f]? = some fn) (hb : fn.body = some c) (hn : fn.ntmps = n) (hrs : fn.results = rs)
    (hle : Nat.ble vs.length n = true)
    (h : W P n c (fun σ w' => ∃ v, ResIs P rs σ w' v ∧ Q v w') (fun σ w' => ∃ v, ResIs P rs σ w' v ∧ Q v w') [] (look (argl 0 vs) und) w) :
    CallsD P f vs.toArray fm w (fun e u' w' => u' = fm ∧ Bk Q e w') := by
  have hle' := Nat.le_of_ble_eq_true hle
  refine callsD_of_wp hf hb (wpIn_wide (n := 0).1 ?_)
  have hF : AtF n (look (argl 0 vs) und) (vs.toArray ++ Array.replicate (fn.ntmps - vs.toArray.size) undef) := by
    refine ⟨by simp; omega, fun i => ?_⟩
    rw [look_argl]
    simp only [Nat.zero_le, if_true, Nat.sub_zero]
    simp only [Array.getD_eq_getD_getElem?, Array.getElem?_append]
    split
    · simp
    · rename_i hi
      simp only [List.size_toArray] at hi ⊢
      rw [Array.getElem?_replicate]
      rw [List.getElem?_eq_none (by omega)]
      split <;> rfl
  refine wpIn_mono (h _ hF none [] 0) ?_
  intro e a w' hq
  cases e with
  | normal =>
    obtain ⟨h1, h2, v, hr, hQ⟩ := hq
    exact ⟨h2, v, hr fn hrs _ _ (AtF.self h1), v, rfl, hQ⟩
  | ret =>
    obtain ⟨h1, h2, v, hr, hQ⟩ := hq
    exact ⟨h2, v, hr fn hrs _ _ (AtF.self h1), v, rfl, hQ⟩
  | exit id => exact hq.2.2.elim
  | goto l => exact hq.elim
  | panic ch => exact hq.elim
  | outgrown => exact hq.elim
end
end Go.Wk

namespace Go.Wk
open Go.RowKit Go.Lib
set_option linter.unusedVariables false
section
variable {P : Program} {n : Nat} {w w0 w1 : World} {O : List (Option Nat)} {obs : List Ob} {ops : Array Oper} {rest : List Oper} {k : Cont} {d : Tmp} {ty : TypeId} {pos : String} {af : Array Edge}
variable {l : List (Nat × Value)} {σ σ0 : Fr} {T : TypeId} {x y : Operand} {g o : Nat} {e : TypeId} {v u : Value}
def strL (s : ByteArray) : List Int := s.data.toList.map fun b => (b.toNat : Int)
theorem strL_len (s : ByteArray) : (strL s).length = s.size := by rw [strL, List.length_map]; exact Array.length_toList
def bufC (xs : List Int) (z : Nat) : Array Value := (xs.map (Value.int .u8) ++ List.replicate z (Value.int .u8 0)).toArray
abbrev bufO (g : Nat) (e : TypeId) (xs : List Int) (z : Nat) : Ob := .raw g (.cells (bufC xs z) e (xs.length + z, xs.length + z + 1))
theorem Wx.bytesOf {src dst : TypeId} {s : ByteArray} (hS : St w0 O w obs) (hx : ev (look l σ0) x = .string s) (hs : P.underlying src = some .string) (hd' : P.underlying dst = some (.slice e)) (he : P.underlying e = some (.int .u8)) (hd : Nat.ble (d + 1) n = true)
    (h : ∀ g w' z, Ext w w' → St w0 O w' (bufO g e (strL s) z :: obs) → Wx P n ops false rest k (look ((d, .slice (some ⟨g, 0, none⟩) s.size (s.size + z)) :: l) σ0) w') :
    Wx P n ops false (⟨some d, .convert src dst x, ty, pos, af, none⟩ :: rest) k (look l σ0) w := by
  have hrun := run_bytes_of_string (P := P) w src dst e s hs hd' he
  have hge : s.size ≤ grownCap w s.size 0 e := by have := grownCap_ge w s.size 0 e; omega
  obtain ⟨z, hz⟩ : ∃ z, grownCap w s.size 0 e = s.size + z := ⟨grownCap w s.size 0 e - s.size, by omega⟩
  rw [hz] at hrun
  have hb : bytesRow s (s.size + z) = bufC (strL s) z := by
    rw [bytesRow, bufC, strL, show s.size + z - s.size = z by omega]
    apply Array.ext'
    simp
  have hsz : (bufC (strL s) z).size = (strL s).length + z := by simp [bufC]
  rw [hb, hsz] at hrun
  have hx2 : ∀ c, Ext w (w.drew.alloc c) := fun c => ((Below.refl w.heap.size w).drew).alloc (by simp) _
  refine Wx.val (v := .slice (some ⟨w.heap.size, 0, none⟩) s.size (s.size + z)) ?_ hd (h _ _ z (hx2 _) (hS.push (hx2 _) _ (fun b hb => ?_) (fun F hM => ⟨hS.bel.size, heap_alloc_new w.drew _⟩)))
  · simp [xop, execOp, hx, hrun]
  · injection hb with hb; omega
theorem bufC_get {xs : List Int} {z j : Nat} (h : j < xs.length) : (bufC xs z)[j]? = some (.int .u8 (xs.getD j 0)) := by
  rw [bufC, List.getElem?_toArray, List.getElem?_append_left (by simpa using h), List.getElem?_map, List.getD_eq_getElem?_getD, List.getElem?_eq_getElem h]; rfl
theorem bufC_set {xs : List Int} {z j : Nat} {b : Int} (h : j < xs.length) : (bufC xs z).setIfInBounds j (.int .u8 b) = bufC (xs.set j b) z := by
  apply Array.ext'
  rw [Array.toList_setIfInBounds, bufC, bufC]
  simp only
  rw [List.set_append_left _ _ (by simpa using h), List.map_set]
theorem Wx.storeBuf {xs : List Int} {z : Nat} {b : Int} (hS : St w0 O w obs) (i : Nat) (hi : obs[i]? = some (bufO g e xs z)) (hx : ev (look l σ0) x = .pointer (some ⟨g, o, none⟩)) (hy : ev (look l σ0) y = .int .u8 b) (hsz : ∀ w', (sizeOf T).run P w' = .ok 1 w') (ho : o < xs.length)
    (h : ∀ w', w.heap.size ≤ w'.heap.size → St w0 O w' (obs.set i (bufO g e (xs.set o b) z)) → Wx P n ops false rest k (look l σ0) w') :
    Wx P n ops false (⟨none, .store T x y, ty, pos, af, none⟩ :: rest) k (look l σ0) w := by
  have hb := hS.get i hi
  have hlt : g < w.heap.size := (Array.getElem?_eq_some_iff.1 hb.2).1
  have hcell : w.cell? ⟨g, o, none⟩ = some (.int .u8 (xs.getD o 0)) := by
    simp only [World.cell?, hb.2]
    simpa using bufC_get (z := z) ho
  have hfree : w.frozen? ⟨g, o, none⟩ = false := by
    simp only [World.frozen?, hb.2]
    have : ¬ (xs.length + z ≤ o) := by omega
    simp [this]
  refine Wx.unit (w' := w.setCell ⟨g, o, none⟩ (.int .u8 b)) ?_ (h _ (by simp [World.setCell]) ?_)
  · have hst := run_store P w ⟨g, o, none⟩ (.int .u8 b) .plain rfl
    rw [hcell, hfree] at hst
    have hst' : (storeCells ⟨g, o, none⟩ [Value.int .u8 b]).run P w = .ok () (w.setCell ⟨g, o, none⟩ (.int .u8 b)) := by
      have hst2 : (store ⟨g, o, none⟩ (.int .u8 b)).run P w = .ok () (w.setCell ⟨g, o, none⟩ (.int .u8 b)) := by simpa using hst
      simp only [storeCells, Addr.add_lit, Nat.add_zero, Sem.run_bind, hst2, Result.andThen_ok]
      rfl
    have : (Instr.storeAt T (.pointer (some ⟨g, o, none⟩)) (.int .u8 b)).run P w = .ok () (w.setCell ⟨g, o, none⟩ (.int .u8 b)) := by
      simp [Instr.storeAt, Instr.sureAddr, storeVar, hsz, Value.cells, hst']
    simp [xop, execOp, hx, hy, this]
  · refine hS.turn i hi rfl rfl rfl (by simp [World.setCell]) (fun b' _ hb' => ?_) (fun b' hb' => .inl hb') (fun b' hb' => by
      have : g = b' := by injection hb'
      subst this; simpa [World.setCell] using hlt) (fun F _ => ?_)
    · have hne : g ≠ b' := fun hq => hb' (by rw [hq]; rfl)
      simp [World.setCell, Array.getElem?_modify, hne]
    · refine ⟨hb.1, ?_⟩
      simp [World.setCell, Array.getElem?_modify, hb.2, bufC_set ho]
theorem rd_bufStr {src dst : TypeId} {xs : List Int} {z : Nat} {s : ByteArray} (hS : St w0 O w obs) (i : Nat) (hi : obs[i]? = some (bufO g e xs z)) {c : Nat} (hx : ev σ x = .slice (some ⟨g, 0, none⟩) xs.length c)
    (hs : P.underlying src = some (.slice e)) (he : P.underlying e = some (.int .u8)) (hd : P.underlying dst = some .string) (hq : strOfNums xs = s) :
    Rd P σ (.convert src dst x) ty w (.string s) := by
  subst hq
  intro w' hw'
  have hb := hS.get i hi
  have hg : w'.heap[g]? = some (.cells (bufC xs z) e (xs.length + z, xs.length + z + 1)) := (hw'.block g (Array.getElem?_eq_some_iff.1 hb.2).1).trans hb.2
  have hc := run_convert_bytes_arg (P := P) w' src e hs he g 0 xs.length c xs rfl (fun j hj => by
    simp only [World.cell?, hg]
    simpa using bufC_get (z := z) hj) dst hd
  simp only [xop, execOp, hx, Sem.run_bind, hc]
  rfl
theorem rd_bufNil {i : Int} {v : Value} {c0 : Bool} (hx : ev σ x = v) (hy : ev σ y = .slice none 0 0) (hu : P.underlying T = some (.slice e)) (hv : (c0 = true ∧ v = .slice none 0 0) ∨ (c0 = false ∧ ∃ g n c, v = .slice (some ⟨g, 0, none⟩) n c)) {T' : TypeId} :
    Rd P σ (.binOp .eql T x y T') ty w (.bool c0) :=
  Rd.of fun w' => by
    rcases hv with ⟨rfl, rfl⟩ | ⟨rfl, g, n, c, rfl⟩
    · have hq := Lib.run_eql_slice_nil (P := P) w' T e none 0 0 0 0 hu
      simp [xop, execOp, hx, hy, eqGuard_at_slice, hq]
    · have hq := Lib.run_eql_slice_nil (P := P) w' T e (some ⟨g, 0, none⟩) n c 0 0 hu
      simp [xop, execOp, hx, hy, eqGuard_at_slice, hq]
end
end Go.Wk

namespace Go.Proofs.YtodcppoglpfodaaGreatDoor
open Go.Wk Go.RowKit Go.Lib
set_option linter.unusedVariables false
def stI : ByteArray := { data := #[105] }
def stA : ByteArray := { data := #[97] }
def stO : ByteArray := { data := #[111] }
def stAA : ByteArray := { data := #[65] }
def RPS : List ByteArray := [stI, stA, stO, stAA]
theorem rps_size {k : Int} (h0 : 0 ≤ k) (h1 : k < 4) : (ix ByteArray.empty RPS k).size = 1 := by
  obtain rfl | rfl | rfl | rfl : k = 0 ∨ k = 1 ∨ k = 2 ∨ k = 3 := by omega
  all_goals rfl
def idT (k : Int) : List Int := upL k ++ List.replicate (256 - k).toNat 0
theorem idT_len {k : Int} (h0 : 0 ≤ k) (h1 : k ≤ 256) : (idT k).length = 256 := by rw [idT, List.length_append, upL, List.length_map, List.length_range, List.length_replicate]; omega
theorem idT_next {k : Int} (h0 : 0 ≤ k) (h1 : k < 256) : (idT k).set k.toNat k = idT (k + 1) := by
  have hl : (upL k).length = k.toNat := by rw [upL, List.length_map, List.length_range]
  rw [idT, idT, upL_suc h0, show (256 - k).toNat = (256 - (k + 1)).toNat + 1 by omega, List.replicate_succ, List.set_append_right _ _ (by omega), hl, Nat.sub_self, List.set_cons_zero, List.append_assoc]; rfl
def tbK (i : Int) : List Int := if i = 2 then idT 256 else if i = 0 then (idT 256).set 111 65 else ((idT 256).set 111 65).set 105 97
def TBR : List Int := ((idT 256).set 111 65).set 105 97
theorem tbK_len (i : Int) : (tbK i).length = 256 := by
  have h := idT_len (k := 256) (by omega) (by omega)
  rw [tbK]
  split
  · exact h
  · split
    · rw [List.length_set]; exact h
    · rw [List.length_set, List.length_set]; exact h
theorem tbK_next {i : Int} (h : i = 2 ∨ i = 0) : (tbK i).set (tabAt (ix ByteArray.empty RPS i) 0).toNat (tabAt (ix ByteArray.empty RPS (i + 1)) 0) = tbK (i - 2) := by
  obtain rfl | rfl := h
  · rfl
  · rfl
theorem tbK_end : tbK (-2) = TBR := rfl
theorem upL_get {j : Nat} {n : Int} (h : (j : Int) < n) : (upL n)[j]? = some (j : Int) := by
  rw [upL, List.getElem?_map, List.getElem?_range (by omega)]; rfl
theorem idT_get {c : Int} (h0 : 0 ≤ c) (h1 : c < 256) : (idT 256)[c.toNat]? = some c := by
  rw [idT, List.getElem?_append_left (by rw [upL, List.length_map, List.length_range]; omega), upL_get (by omega), Int.toNat_of_nonneg h0]
def rpC (c : Int) : Int := if c = 105 then 97 else if c = 111 then 65 else c
theorem TBR_len : TBR.length = 256 := by rw [← tbK_end]; exact tbK_len (-2)
theorem tbr_ix {c : Int} (h0 : 0 ≤ c) (h1 : c < 256) : ix 0 TBR c = rpC c := by
  have hl := idT_len (k := 256) (by omega) (by omega)
  rw [ix, TBR, List.getD_eq_getElem?_getD, List.getElem?_set, List.length_set, List.getElem?_set, rpC]
  by_cases e1 : c = 105
  · subst e1; rw [if_pos rfl, if_pos (show 105 = Int.toNat 105 from rfl), if_pos (by omega)]; rfl
  · rw [if_neg (by omega), if_neg e1]
    by_cases e2 : c = 111
    · subst e2; rw [if_pos rfl, if_pos (show 111 = Int.toNat 111 from rfl), if_pos (by omega)]; rfl
    · rw [if_neg (by omega), if_neg e2, idT_get h0 h1]; rfl
def rpK (s : ByteArray) (i : Int) : List Int := ((strL s).take i.toNat).map rpC ++ (strL s).drop i.toNat
def rpS (s : ByteArray) : ByteArray := strOfNums ((strL s).map rpC)
theorem tab_strL {s : ByteArray} {i : Int} (h0 : 0 ≤ i) (h1 : i < s.size) : tabAt s i = ix 0 (strL s) i := by
  have hl := strL_len s
  rw [tabAt, ix, strL, List.getD_eq_getElem?_getD, List.getD_eq_getElem?_getD, List.getElem?_map]
  rw [List.getElem?_eq_getElem (by rw [strL, List.length_map] at hl; omega)]; rfl
theorem rpK_len {s : ByteArray} (i : Int) : (rpK s i).length = s.size := by
  have hl := strL_len s
  rw [rpK, List.length_append, List.length_map, List.length_take, List.length_drop]; omega
theorem rpK_next {s : ByteArray} {i : Int} (h0 : 0 ≤ i) (h1 : i < s.size) : (rpK s i).set i.toNat (rpC (tabAt s i)) = rpK s (i + 1) := by
  have hl := strL_len s
  have hm : (((strL s).take i.toNat).map rpC).length = i.toNat := by rw [List.length_map, List.length_take]; omega
  rw [rpK, List.set_append_right _ _ (by omega), hm, Nat.sub_self, List.drop_eq_getElem_cons (by omega), List.set_cons_zero, rpK, take_ix (d := (0 : Int)) h0 (by omega), List.map_append, tab_strL h0 h1, List.append_assoc, show (i + 1).toNat = i.toNat + 1 by omega]; rfl
theorem rpK_end {s : ByteArray} {i : Int} (h : (s.size : Int) ≤ i) : strOfNums (rpK s i) = rpS s := by
  have hl := strL_len s
  rw [rpK, rpS, List.take_of_length_le (by omega), List.drop_of_length_le (by omega), List.append_nil]
def BufI (s : ByteArray) (e : Go.TypeId) (ob : List Ob) (i : Int) (v : Go.Value) (ot : List Ob) : Prop :=
  (i = 0 ∧ v = .slice none 0 0 ∧ ot = ob) ∨ (0 < i ∧ ∃ g z, v = .slice (some ⟨g, 0, none⟩) s.size (s.size + z) ∧ ot = bufO g e (rpK s i) z :: ob)
theorem BufI.nil {s : ByteArray} {e : Go.TypeId} {ob ot : List Ob} {i : Int} {v : Go.Value} (h : BufI s e ob i v ot) (hi : 0 ≤ i) : (decide (i = 0) = true ∧ v = .slice none 0 0) ∨ (decide (i = 0) = false ∧ ∃ g n c, v = .slice (some ⟨g, 0, none⟩) n c) := by
  rcases h with ⟨h1, h2, _⟩ | ⟨h1, g, z, h2, _⟩
  · exact .inl ⟨decide_eq_true h1, h2⟩
  · exact .inr ⟨decide_eq_false (by omega), g, _, _, h2⟩
theorem BufI.z {s : ByteArray} {e : Go.TypeId} {ob ot : List Ob} {i : Int} {v : Go.Value} (h : BufI s e ob i v ot) (hi : i = 0) : ot = ob := by
  rcases h with ⟨_, _, h3⟩ | ⟨h1, _⟩
  · exact h3
  · omega
theorem BufI.s {s : ByteArray} {e : Go.TypeId} {ob ot : List Ob} {i : Int} {v : Go.Value} (h : BufI s e ob i v ot) (hi : ¬ i = 0) : ∃ g z, v = .slice (some ⟨g, 0, none⟩) s.size (s.size + z) ∧ ot = bufO g e (rpK s i) z :: ob := by
  rcases h with ⟨h1, _⟩ | ⟨_, h2⟩
  · exact absurd h1 hi
  · exact h2
end Go.Proofs.YtodcppoglpfodaaGreatDoor

namespace Go.Proofs.YtodcppoglpfodaaGreatDoor.C5
open Go.Wk

def rng (i n : Int) : List Int := (List.range (n - i).toNat).map fun (k : Nat) => i + k
theorem rng_mem {i n x : Int} : x ∈ rng i n ↔ i ≤ x ∧ x < n := by
  rw [rng, List.mem_map]
  constructor
  · rintro ⟨k, hk, rfl⟩
    rw [List.mem_range] at hk
    omega
  · intro h
    exact ⟨(x - i).toNat, List.mem_range.2 (by omega), by omega⟩
theorem rng_nil {i n : Int} (h : n ≤ i) : rng i n = [] := by rw [rng, show (n - i).toNat = 0 by omega]; rfl
theorem rng_cons {i n : Int} (h : i < n) : rng i n = i :: rng (i + 1) n := by
  rw [rng, show (n - i).toNat = (n - (i + 1)).toNat + 1 by omega, List.range_succ_eq_map, List.map_cons, List.map_map, rng]
  simp only [List.cons.injEq]
  refine ⟨by omega, List.map_congr_left fun k _ => ?_⟩
  show i + ((k + 1 : Nat) : Int) = i + 1 + (k : Int)
  omega
theorem rng_snoc {i n : Int} (h : i ≤ n) : rng i (n + 1) = rng i n ++ [n] := by
  rw [rng, show (n + 1 - i).toNat = (n - i).toNat + 1 by omega, List.range_succ, List.map_append, rng]
  simp only [List.map_cons, List.map_nil, List.append_cancel_left_eq, List.cons.injEq, and_true]
  omega
theorem rng_asc (i n : Int) : (rng i n).Pairwise (· < ·) := by
  rw [rng, List.pairwise_map]
  exact List.pairwise_lt_range.imp fun h => by omega

abbrev Join := Int × Int
def allP (F : Int → Int → Bool) : Nat → Int → Int → List (List Join)
  | 0, _, _ => [[]]
  | m + 1, i, n => if n ≤ i then [[]] else
    ((rng (i + 1) n).flatMap fun j => if F i j = true then (allP F m (i + 1) j).flatMap fun p => (allP F m (j + 1) n).map fun q => (i, j) :: (p ++ q) else []) ++ allP F m (i + 1) n
def cmb (x y : Int × Int) : Int × Int := if x.1 < y.1 then y else if y.1 = x.1 then (x.1, x.2 + y.2) else x
def joinP (a b : Int × Int) : Int × Int := (a.1 + b.1 + 1, a.2 * b.2)
def partT (F : Int → Int → Bool) : Nat → Int → Int → Int × Int
  | 0, _, _ => (0, 1)
  | m + 1, i, n => if n ≤ i then (0, 1) else (rng (i + 1) n).foldl (fun best j => if F i j = true then cmb best (joinP (partT F m (i + 1) j) (partT F m (j + 1) n)) else best) (partT F m (i + 1) n)
def partP (F : Int → Int → Bool) (i n : Int) : Int × Int := partT F (n - i).toNat i n
def plansP (F : Int → Int → Bool) (i n : Int) : List (List Join) := allP F (n - i).toNat i n
end Go.Proofs.YtodcppoglpfodaaGreatDoor.C5

namespace Go.Proofs.YtodcppoglpfodaaGreatDoor.C5
open Go.Wk

variable {F : Int → Int → Bool}

/-! ### how deep a recursion goes does not matter -/
theorem flatMap_congr' {α β : Type} {f g : α → List β} {l : List α} (h : ∀ x ∈ l, f x = g x) : l.flatMap f = l.flatMap g := by
  rw [List.flatMap_def, List.flatMap_def, List.map_congr_left h]
theorem allP_fuel (F : Int → Int → Bool) : ∀ (m k : Nat) (i n : Int), (n - i).toNat ≤ m → (n - i).toNat ≤ k → allP F m i n = allP F k i n
  | 0, 0, _, _, _, _ => rfl
  | 0, k + 1, i, n, h, _ => by rw [allP, allP, if_pos (by omega)]
  | m + 1, 0, i, n, _, h => by rw [allP, allP, if_pos (by omega)]
  | m + 1, k + 1, i, n, h1, h2 => by
    rw [allP, allP]
    split
    · rfl
    · rw [allP_fuel F m k (i + 1) n (by omega) (by omega)]
      congr 1
      refine flatMap_congr' fun j hj => ?_
      rw [rng_mem] at hj
      rw [allP_fuel F m k (i + 1) j (by omega) (by omega), allP_fuel F m k (j + 1) n (by omega) (by omega)]
theorem foldl_congr' {α β : Type} {f g : β → α → β} : ∀ {l : List α} {b : β}, (∀ b, ∀ x ∈ l, f b x = g b x) → l.foldl f b = l.foldl g b
  | [], _, _ => rfl
  | a :: l, b, h => by
    rw [List.foldl_cons, List.foldl_cons, h b a (List.mem_cons_self ..)]
    exact foldl_congr' fun b x hx => h b x (List.mem_cons_of_mem _ hx)
theorem partT_fuel (F : Int → Int → Bool) : ∀ (m k : Nat) (i n : Int), (n - i).toNat ≤ m → (n - i).toNat ≤ k → partT F m i n = partT F k i n
  | 0, 0, _, _, _, _ => rfl
  | 0, k + 1, i, n, h, _ => by rw [partT, partT, if_pos (by omega)]
  | m + 1, 0, i, n, _, h => by rw [partT, partT, if_pos (by omega)]
  | m + 1, k + 1, i, n, h1, h2 => by
    rw [partT, partT]
    split
    · rfl
    · rw [partT_fuel F m k (i + 1) n (by omega) (by omega)]
      refine foldl_congr' fun b j hj => ?_
      rw [rng_mem] at hj
      rw [partT_fuel F m k (i + 1) j (by omega) (by omega), partT_fuel F m k (j + 1) n (by omega) (by omega)]
theorem plansP_nil {i n : Int} (h : n ≤ i) : plansP F i n = [[]] := by rw [plansP, show (n - i).toNat = 0 by omega]; rfl
theorem plansP_eq {i n : Int} (h : i < n) : plansP F i n =
    ((rng (i + 1) n).flatMap fun j => if F i j = true then (plansP F (i + 1) j).flatMap fun p => (plansP F (j + 1) n).map fun q => (i, j) :: (p ++ q) else []) ++ plansP F (i + 1) n := by
  rw [plansP, show (n - i).toNat = (n - (i + 1)).toNat + 1 by omega, allP, if_neg (by omega)]
  congr 1
  refine flatMap_congr' fun j hj => ?_
  rw [rng_mem] at hj
  rw [plansP, plansP, allP_fuel F (n - (i + 1)).toNat (j - (i + 1)).toNat (i + 1) j (by omega) (by omega), allP_fuel F (n - (i + 1)).toNat (n - (j + 1)).toNat (j + 1) n (by omega) (by omega)]
theorem partP_nil {i n : Int} (h : n ≤ i) : partP F i n = (0, 1) := by rw [partP, show (n - i).toNat = 0 by omega]; rfl
theorem partP_eq {i n : Int} (h : i < n) : partP F i n = (rng (i + 1) n).foldl (fun best j => if F i j = true then cmb best (joinP (partP F (i + 1) j) (partP F (j + 1) n)) else best) (partP F (i + 1) n) := by
  rw [partP, show (n - i).toNat = (n - (i + 1)).toNat + 1 by omega, partT, if_neg (by omega)]
  refine foldl_congr' fun b j hj => ?_
  rw [rng_mem] at hj
  rw [partP, partP, partT_fuel F (n - (i + 1)).toNat (j - (i + 1)).toNat (i + 1) j (by omega) (by omega), partT_fuel F (n - (i + 1)).toNat (n - (j + 1)).toNat (j + 1) n (by omega) (by omega)]
/-! ### how many joins, and how many plans -/
def Best (ps : List (List Join)) (x : Int × Int) : Prop := (∃ p ∈ ps, (p.length : Int) = x.1) ∧ (∀ p ∈ ps, (p.length : Int) ≤ x.1) ∧ x.2 = ps.countP fun p => decide ((p.length : Int) = x.1)
theorem Best.nil : Best [[]] (0, 1) := ⟨⟨[], by simp, rfl⟩, by simp, rfl⟩
theorem Best.perm {ps qs : List (List Join)} {x : Int × Int} (h : Best ps x) (hp : ps.Perm qs) : Best qs x := by
  obtain ⟨⟨p, h1, h2⟩, h3, h4⟩ := h
  exact ⟨⟨p, hp.mem_iff.1 h1, h2⟩, fun q hq => h3 q (hp.mem_iff.2 hq), by rw [h4, hp.countP_eq]⟩
theorem countP_zero {ps : List (List Join)} {a : Int} (h : ∀ p ∈ ps, (p.length : Int) < a) : (ps.countP fun p => decide ((p.length : Int) = a)) = 0 := by
  rw [List.countP_eq_zero]
  intro p hp
  have := h p hp
  simp; omega
theorem Best.cmb {ps qs : List (List Join)} {x y : Int × Int} (h : Best ps x) (k : Best qs y) : Best (ps ++ qs) (cmb x y) := by
  obtain ⟨⟨p, h1, h2⟩, h3, h4⟩ := h
  obtain ⟨⟨q, k1, k2⟩, k3, k4⟩ := k
  rw [Go.Proofs.YtodcppoglpfodaaGreatDoor.C5.cmb]
  by_cases hc : x.1 < y.1
  · rw [if_pos hc]
    refine ⟨⟨q, List.mem_append.2 (.inr k1), k2⟩, fun r hr => ?_, ?_⟩
    · rcases List.mem_append.1 hr with hr | hr
      · have := h3 r hr; omega
      · exact k3 r hr
    · rw [List.countP_append, countP_zero (a := y.1) (fun r hr => by have := h3 r hr; omega), Nat.zero_add, k4]
  · rw [if_neg hc]
    by_cases he : y.1 = x.1
    · rw [if_pos he]
      refine ⟨⟨p, List.mem_append.2 (.inl h1), h2⟩, fun r hr => ?_, ?_⟩
      · rcases List.mem_append.1 hr with hr | hr
        · exact h3 r hr
        · have := k3 r hr; show _ ≤ x.1; omega
      · show x.2 + y.2 = _
        rw [List.countP_append, h4, k4, he]; rfl
    · rw [if_neg he]
      refine ⟨⟨p, List.mem_append.2 (.inl h1), h2⟩, fun r hr => ?_, ?_⟩
      · rcases List.mem_append.1 hr with hr | hr
        · exact h3 r hr
        · have := k3 r hr; omega
      · rw [List.countP_append, countP_zero (ps := qs) (a := x.1) (fun r hr => by have := k3 r hr; omega), Nat.add_zero, h4]
theorem count_prod {A B : List (List Join)} {x y : Int × Int} {h : Join} (hA : ∀ p ∈ A, (p.length : Int) ≤ x.1) (hB : ∀ q ∈ B, (q.length : Int) ≤ y.1) :
    ((A.flatMap fun p => B.map fun q => h :: (p ++ q)).countP fun r => decide ((r.length : Int) = x.1 + y.1 + 1)) = (A.countP fun p => decide ((p.length : Int) = x.1)) * (B.countP fun q => decide ((q.length : Int) = y.1)) := by
  induction A with
  | nil => simp
  | cons p A ih =>
    have h1 := hA p (List.mem_cons_self ..)
    rw [List.flatMap_cons, List.countP_append, ih (fun r hr => hA r (List.mem_cons_of_mem _ hr)), List.countP_map, List.countP_cons]
    by_cases hc : (p.length : Int) = x.1
    · have e : (B.countP ((fun r : List Join => decide ((r.length : Int) = x.1 + y.1 + 1)) ∘ fun q => h :: (p ++ q))) = B.countP fun q => decide ((q.length : Int) = y.1) := by
        refine List.countP_congr fun q _ => ?_
        simp only [Function.comp, decide_eq_true_eq, List.length_cons, List.length_append]
        omega
      rw [e, if_pos (decide_eq_true hc), Nat.add_mul, Nat.one_mul, Nat.add_comm]
    · have e : (B.countP ((fun r : List Join => decide ((r.length : Int) = x.1 + y.1 + 1)) ∘ fun q => h :: (p ++ q))) = 0 := by
        rw [List.countP_eq_zero]
        intro q hq
        have := hB q hq
        simp only [Function.comp, decide_eq_true_eq, List.length_cons, List.length_append]
        omega
      rw [e, if_neg (by rw [decide_eq_true_eq]; exact hc), Nat.add_zero, Nat.zero_add]
theorem Best.join {A B : List (List Join)} {x y : Int × Int} (h : Join) (hA : Best A x) (hB : Best B y) : Best (A.flatMap fun p => B.map fun q => h :: (p ++ q)) (joinP x y) := by
  obtain ⟨⟨p, a1, a2⟩, a3, a4⟩ := hA
  obtain ⟨⟨q, b1, b2⟩, b3, b4⟩ := hB
  refine ⟨⟨h :: (p ++ q), List.mem_flatMap.2 ⟨p, a1, List.mem_map.2 ⟨q, b1, rfl⟩⟩, ?_⟩, fun r hr => ?_, ?_⟩
  · show ((h :: (p ++ q)).length : Int) = x.1 + y.1 + 1
    simp only [List.length_cons, List.length_append]; omega
  · obtain ⟨p', hp', hr⟩ := List.mem_flatMap.1 hr
    obtain ⟨q', hq', rfl⟩ := List.mem_map.1 hr
    have h1 := a3 p' hp'
    have h2 := b3 q' hq'
    show ((h :: (p' ++ q')).length : Int) ≤ x.1 + y.1 + 1
    simp only [List.length_cons, List.length_append]; omega
  · show x.2 * y.2 = _
    have := count_prod (h := h) a3 b3
    rw [show (joinP x y).1 = x.1 + y.1 + 1 from rfl, this, a4, b4]
    simp
theorem best_fold {g : Int → Bool} {f : Int → List (List Join)} {y : Int → Int × Int} : ∀ (js : List Int) (ps : List (List Join)) (x : Int × Int), Best ps x → (∀ j ∈ js, g j = true → Best (f j) (y j)) →
    Best (ps ++ js.flatMap fun j => if g j = true then f j else []) (js.foldl (fun best j => if g j = true then cmb best (y j) else best) x)
  | [], ps, x, h, _ => by simpa using h
  | j :: js, ps, x, h, hj => by
    rw [List.flatMap_cons, List.foldl_cons, ← List.append_assoc]
    by_cases hg : g j = true
    · rw [if_pos hg, if_pos hg]
      exact best_fold js _ _ (h.cmb (hj j (List.mem_cons_self ..) hg)) fun i hi => hj i (List.mem_cons_of_mem _ hi)
    · rw [if_neg hg, if_neg hg, List.append_nil]
      exact best_fold js _ _ h fun i hi => hj i (List.mem_cons_of_mem _ hi)
theorem best_plans (F : Int → Int → Bool) : ∀ (m : Nat) (i n : Int), (n - i).toNat ≤ m → Best (plansP F i n) (partP F i n)
  | 0, i, n, h => by rw [plansP_nil (by omega), partP_nil (by omega)]; exact Best.nil
  | m + 1, i, n, h => by
    by_cases hn : n ≤ i
    · rw [plansP_nil hn, partP_nil hn]; exact Best.nil
    · rw [plansP_eq (by omega), partP_eq (by omega)]
      refine Best.perm (best_fold (g := fun j => F i j) (rng (i + 1) n) _ _ (best_plans F m (i + 1) n (by omega)) fun j hj _ => ?_) List.perm_append_comm
      rw [rng_mem] at hj
      exact Best.join (i, j) (best_plans F m (i + 1) j (by omega)) (best_plans F m (j + 1) n (by omega))
theorem best_all (F : Int → Int → Bool) (i n : Int) : Best (plansP F i n) (partP F i n) := best_plans F _ i n (Nat.le_refl _)

/-! ### the first greatest plan -/
end Go.Proofs.YtodcppoglpfodaaGreatDoor.C5

namespace Go.Proofs.YtodcppoglpfodaaGreatDoor.C5
open Go.Wk

variable {F : Int → Int → Bool}

def apartJ (x y : Join) : Prop := x.1 < y.1 ∧ (x.2 < y.1 ∨ y.2 < x.2)
def Plan (F : Int → Int → Bool) (lo hi : Int) (p : List Join) : Prop := (∀ x ∈ p, lo ≤ x.1 ∧ x.1 < x.2 ∧ x.2 < hi ∧ F x.1 x.2 = true) ∧ p.Pairwise apartJ
theorem Plan.nil {lo hi : Int} : Plan F lo hi [] := ⟨by simp, List.Pairwise.nil⟩
theorem Plan.wide {lo hi lo' hi' : Int} {p : List Join} (h : Plan F lo hi p) (h1 : lo' ≤ lo) (h2 : hi ≤ hi') : Plan F lo' hi' p :=
  ⟨fun x hx => by obtain ⟨a, b, c, d⟩ := h.1 x hx; exact ⟨by omega, b, by omega, d⟩, h.2⟩
theorem plan_cons {i j n : Int} {p q : List Join} (hij : i < j) (hj : j < n) (hF : F i j = true) (hp : Plan F (i + 1) j p) (hq : Plan F (j + 1) n q) : Plan F i n ((i, j) :: (p ++ q)) := by
  refine ⟨fun x hx => ?_, List.Pairwise.cons (fun x hx => ?_) (List.pairwise_append.2 ⟨hp.2, hq.2, fun x hx y hy => ?_⟩)⟩
  · rcases List.mem_cons.1 hx with rfl | hx
    · exact ⟨Int.le_refl _, hij, hj, hF⟩
    · rcases List.mem_append.1 hx with hx | hx
      · obtain ⟨a, b, c, d⟩ := hp.1 x hx; exact ⟨by omega, b, by omega, d⟩
      · obtain ⟨a, b, c, d⟩ := hq.1 x hx; exact ⟨by omega, b, c, d⟩
  · rcases List.mem_append.1 hx with hx | hx
    · obtain ⟨a, b, c, d⟩ := hp.1 x hx; exact ⟨by show i < x.1; omega, .inr c⟩
    · obtain ⟨a, b, c, d⟩ := hq.1 x hx; exact ⟨by show i < x.1; omega, .inl (by show j < x.1; omega)⟩
  · obtain ⟨a, b, c, d⟩ := hp.1 x hx
    obtain ⟨a', b', c', d'⟩ := hq.1 y hy
    exact ⟨by omega, .inl (by omega)⟩
theorem plans_plan (F : Int → Int → Bool) : ∀ (m : Nat) (i n : Int), (n - i).toNat ≤ m → ∀ p ∈ plansP F i n, Plan F i n p
  | 0, i, n, h, p, hp => by
    rw [plansP_nil (by omega)] at hp
    simp only [List.mem_singleton] at hp
    subst hp; exact Plan.nil
  | m + 1, i, n, h, p, hp => by
    by_cases hn : n ≤ i
    · rw [plansP_nil hn] at hp
      simp only [List.mem_singleton] at hp
      subst hp; exact Plan.nil
    · rw [plansP_eq (by omega)] at hp
      rcases List.mem_append.1 hp with hp | hp
      · obtain ⟨j, hj, hpj⟩ := List.mem_flatMap.1 hp
        rw [rng_mem] at hj
        by_cases hg : F i j = true
        · rw [if_pos hg] at hpj
          obtain ⟨a, ha, hpj⟩ := List.mem_flatMap.1 hpj
          obtain ⟨b, hb, rfl⟩ := List.mem_map.1 hpj
          exact plan_cons (by omega) (by omega) hg (plans_plan F m (i + 1) j (by omega) a ha) (plans_plan F m (j + 1) n (by omega) b hb)
        · rw [if_neg hg] at hpj; simp at hpj
      · exact (plans_plan F m (i + 1) n (by omega) p hp).wide (by omega) (Int.le_refl _)
theorem plan_split {i j n : Int} : ∀ {r : List Join}, Plan F (i + 1) n r → (∀ x ∈ r, apartJ (i, j) x) → ∃ p q, r = p ++ q ∧ Plan F (i + 1) j p ∧ Plan F (j + 1) n q
  | [], _, _ => ⟨[], [], rfl, Plan.nil, Plan.nil⟩
  | x :: r, h, ha => by
    have hx := ha x (List.mem_cons_self ..)
    obtain ⟨a, b, c, d⟩ := h.1 x (List.mem_cons_self ..)
    have hp := List.pairwise_cons.1 h.2
    have hr : Plan F (i + 1) n r := ⟨fun y hy => h.1 y (List.mem_cons_of_mem _ hy), hp.2⟩
    by_cases hc : x.2 < j
    · obtain ⟨p, q, rfl, h1, h2⟩ := plan_split hr fun y hy => ha y (List.mem_cons_of_mem _ hy)
      refine ⟨x :: p, q, rfl, ⟨fun y hy => ?_, List.Pairwise.cons (fun y hy => hp.1 y (List.mem_append.2 (.inl hy))) h1.2⟩, h2⟩
      rcases List.mem_cons.1 hy with rfl | hy
      · exact ⟨a, b, hc, d⟩
      · exact h1.1 y hy
    · have hj : j < x.1 := by
        rcases hx.2 with h | h
        · exact h
        · exact absurd h hc
      refine ⟨[], x :: r, rfl, Plan.nil, ⟨fun y hy => ?_, h.2⟩⟩
      rcases List.mem_cons.1 hy with rfl | hy
      · exact ⟨by omega, b, c, d⟩
      · obtain ⟨a', b', c', d'⟩ := h.1 y (List.mem_cons_of_mem _ hy)
        have := (hp.1 y hy).1
        exact ⟨by omega, b', c', d'⟩
theorem plan_plans (F : Int → Int → Bool) : ∀ (m : Nat) (i n : Int), (n - i).toNat ≤ m → ∀ p, Plan F i n p → p ∈ plansP F i n
  | 0, i, n, h, p, hp => by
    rw [plansP_nil (by omega)]
    cases p with
    | nil => simp
    | cons x p =>
      obtain ⟨a, b, c, d⟩ := hp.1 x (List.mem_cons_self ..)
      omega
  | m + 1, i, n, h, p, hp => by
    by_cases hn : n ≤ i
    · rw [plansP_nil hn]
      cases p with
      | nil => simp
      | cons x p =>
        obtain ⟨a, b, c, d⟩ := hp.1 x (List.mem_cons_self ..)
        omega
    · rw [plansP_eq (by omega), List.mem_append]
      cases p with
      | nil => exact .inr (plan_plans F m (i + 1) n (by omega) [] Plan.nil)
      | cons x p =>
        obtain ⟨a, b, c, d⟩ := hp.1 x (List.mem_cons_self ..)
        have hpc := List.pairwise_cons.1 hp.2
        by_cases hx : x.1 = i
        · left
          have hr : Plan F (i + 1) n p := ⟨fun y hy => by
            obtain ⟨a', b', c', d'⟩ := hp.1 y (List.mem_cons_of_mem _ hy)
            have := (hpc.1 y hy).1
            exact ⟨by omega, b', c', d'⟩, hpc.2⟩
          obtain ⟨x1, x2⟩ := x
          simp only at hx a b c d
          subst hx
          obtain ⟨u, v, rfl, h1, h2⟩ := plan_split hr hpc.1
          refine List.mem_flatMap.2 ⟨x2, rng_mem.2 (by omega), ?_⟩
          rw [if_pos d]
          exact List.mem_flatMap.2 ⟨u, plan_plans F m (x1 + 1) x2 (by omega) u h1, List.mem_map.2 ⟨v, plan_plans F m (x2 + 1) n (by omega) v h2, rfl⟩⟩
        · right
          refine plan_plans F m (i + 1) n (by omega) (x :: p) ⟨fun y hy => ?_, hp.2⟩
          obtain ⟨a', b', c', d'⟩ := hp.1 y hy
          rcases List.mem_cons.1 hy with rfl | hy
          · exact ⟨by omega, b', c', d'⟩
          · have := (hpc.1 y hy).1
            exact ⟨by omega, b', c', d'⟩
theorem mem_plans {i n : Int} {p : List Join} : p ∈ plansP F i n ↔ Plan F i n p := ⟨plans_plan F _ i n (Nat.le_refl _) p, plan_plans F _ i n (Nat.le_refl _) p⟩
theorem plan_two (F : Int → Int → Bool) : ∀ (m : Nat) (i n : Int), (n - i).toNat ≤ m → i ≤ n → ∀ p ∈ plansP F i n, 2 * (p.length : Int) ≤ n - i
  | 0, i, n, h, hi, p, hp => by
    rw [plansP_nil (by omega)] at hp
    simp only [List.mem_singleton] at hp
    subst hp; simp; omega
  | m + 1, i, n, h, hi, p, hp => by
    by_cases hn : n ≤ i
    · rw [plansP_nil hn] at hp
      simp only [List.mem_singleton] at hp
      subst hp; simp; omega
    · rw [plansP_eq (by omega)] at hp
      rcases List.mem_append.1 hp with hp | hp
      · obtain ⟨j, hj, hpj⟩ := List.mem_flatMap.1 hp
        rw [rng_mem] at hj
        by_cases hg : F i j = true
        · rw [if_pos hg] at hpj
          obtain ⟨a, ha, hpj⟩ := List.mem_flatMap.1 hpj
          obtain ⟨b, hb, rfl⟩ := List.mem_map.1 hpj
          have h1 := plan_two F m (i + 1) j (by omega) (by omega) a ha
          have h2 := plan_two F m (j + 1) n (by omega) (by omega) b hb
          simp only [List.length_cons, List.length_append]
          omega
        · rw [if_neg hg] at hpj; simp at hpj
      · have := plan_two F m (i + 1) n (by omega) (by omega) p hp
        omega
theorem plan_len {i n : Int} (hi : i ≤ n) {p : List Join} (h : Plan F i n p) : 2 * (p.length : Int) ≤ n - i := plan_two F _ i n (Nat.le_refl _) hi p (mem_plans.2 h)

/-! ### the order of plans -/
end Go.Proofs.YtodcppoglpfodaaGreatDoor.C5

namespace Go.Proofs.YtodcppoglpfodaaGreatDoor.C5
open Go.Wk

def usedB (l : List Join) (i : Int) : Bool := l.any fun x => decide (x.1 = i) || decide (x.2 = i)
def crossB (y x : Join) : Bool := ((decide (x.1 < y.1) && decide (y.1 < x.2)) && decide (x.2 < y.2)) || ((decide (y.1 < x.1) && decide (x.1 < y.2)) && decide (y.2 < x.2))
def crossesB (l : List Join) (x : Join) : Bool := l.any fun y => crossB y x
def goesB (F : Int → Int → Bool) (l : List Join) (i j : Int) : Bool := (F i j && !usedB l j) && !crossesB l (i, j)
def plansR (F : Int → Int → Bool) (n least : Int) : Nat → List Join → Int → List (List Join)
  | 0, begun, frm => if (begun.length : Int) + (n - frm) / 2 < least then [] else if least ≤ begun.length then [begun] else []
  | m + 1, begun, frm => if (begun.length : Int) + (n - frm) / 2 < least then [] else
    ((rng frm n).flatMap fun i => if usedB begun i = true then [] else (rng (i + 1) n).flatMap fun j => if goesB F begun i j = true then plansR F n least m (begun ++ [(i, j)]) (i + 1) else []) ++ (if least ≤ begun.length then [begun] else [])
end Go.Proofs.YtodcppoglpfodaaGreatDoor.C5

namespace Go.Proofs.YtodcppoglpfodaaGreatDoor.C5
open Go.Wk

variable {F : Int → Int → Bool}

end Go.Proofs.YtodcppoglpfodaaGreatDoor.C5

namespace Go.Proofs.YtodcppoglpfodaaGreatDoor.C5
open Go.Wk

/-! ### letters -/
def isLet (c : Int) : Bool := decide (97 ≤ c ∧ c ≤ 106) || decide (65 ≤ c ∧ c ≤ 74)
def letS : ByteArray := { data := #[97, 98, 99, 100, 101, 102, 103, 104, 105, 106, 65, 66, 67, 68, 69, 70, 71, 72, 73, 74] }
def letsB (s : ByteArray) : Bool := (List.range s.size).all fun (p : Nat) => isLet (tabAt s p)
def rimE (s : ByteArray) : Int := if 12 < (s.size : Int) then 3 else if letsB s = true then 0 else 10
def Lets (s : ByteArray) : Prop := ∀ p : Int, 0 ≤ p → p < s.size → isLet (tabAt s p) = true
theorem letsB_iff {s : ByteArray} : letsB s = true ↔ Lets s := by
  rw [letsB, List.all_eq_true]
  constructor
  · intro h p h0 h1
    have := h p.toNat (List.mem_range.2 (by omega))
    rwa [Int.toNat_of_nonneg h0] at this
  · intro h p hp
    exact h p (by omega) (by have := List.mem_range.1 hp; omega)
theorem rimE_ok {s : ByteArray} (h : rimE s = 0) : (s.size : Int) ≤ 12 ∧ Lets s := by
  rw [rimE] at h
  split at h
  · cases h
  · split at h
    · rename_i h1 h2; exact ⟨by omega, letsB_iff.1 h2⟩
    · cases h
theorem isLet_bd {c : Int} (h : isLet c = true) : 65 ≤ c ∧ c ≤ 106 := by
  simp only [isLet, Bool.or_eq_true, decide_eq_true_eq] at h; omega
def fitC (x y : Int) : Bool := decide (x = y + 32 ∨ y = x + 32)
def fitR (s : ByteArray) (i j : Int) : Bool := fitC (tabAt s i) (tabAt s j)
def numC (c : Int) : Int := if 97 ≤ c ∧ c ≤ 106 then c - 97 + 1 else if 65 ≤ c ∧ c ≤ 74 then 65 - c - 1 else 0
theorem numC_fit {x y : Int} (hx : isLet x = true) (hy : isLet y = true) : decide (numC x + numC y = 0) = fitC x y := by
  simp only [isLet, Bool.or_eq_true, decide_eq_true_eq] at hx hy
  rw [fitC, numC, numC]
  congr 1
  simp only [eq_iff_iff]
  repeat' split
  all_goals omega
theorem rimE_bad {s : ByteArray} {p : Int} (hs : (s.size : Int) ≤ 12) (h0 : 0 ≤ p) (h1 : p < s.size) (h : isLet (tabAt s p) = false) : rimE s = 10 := by
  rw [rimE, if_neg (by omega), if_neg]
  intro hb
  rw [letsB_iff.1 hb p h0 h1] at h
  cases h
theorem rimE_good {s : ByteArray} (hs : (s.size : Int) ≤ 12) (h : Lets s) : rimE s = 0 := by
  rw [rimE, if_neg (by omega), if_pos (letsB_iff.2 h)]
end Go.Proofs.YtodcppoglpfodaaGreatDoor.C5

namespace Go.Proofs.YtodcppoglpfodaaGreatDoor.C5
open Go.Wk

/-! ### lists by their places -/
theorem ix_mem {α : Type} {d : α} {xs : List α} {j : Int} (h0 : 0 ≤ j) (h : j < xs.length) : ix d xs j ∈ xs := List.mem_of_getElem? (ix_get h h0)
theorem ix_set {α : Type} {d : α} {xs : List α} {j q : Int} {x : α} (h0 : 0 ≤ j) (h1 : j < xs.length) (q0 : 0 ≤ q) : ix d (xs.set j.toNat x) q = if q = j then x else ix d xs q := by
  rw [ix, ix, List.getD_eq_getElem?_getD, List.getD_eq_getElem?_getD, List.getElem?_set]
  by_cases h : q = j
  · rw [if_pos (by rw [h]), if_pos (by omega), if_pos h]; rfl
  · rw [if_neg (by omega), if_neg h]
theorem take_ix {α : Type} {d : α} {xs : List α} {j : Int} (h0 : 0 ≤ j) (h : j < xs.length) : xs.take (j + 1).toNat = xs.take j.toNat ++ [ix d xs j] := by
  rw [show (j + 1).toNat = j.toNat + 1 by omega, List.take_add_one, ix_get h h0 (d := d)]; rfl

/-! ### joins in use, joins that cross -/
theorem crossB_iff {y x : Join} : crossB y x = true ↔ ((x.1 < y.1 ∧ y.1 < x.2) ∧ x.2 < y.2) ∨ ((y.1 < x.1 ∧ x.1 < y.2) ∧ y.2 < x.2) := by
  simp only [crossB, Bool.or_eq_true, Bool.and_eq_true, decide_eq_true_eq]
/-! ### is it a plan? -/
def lastI (l : List Join) : Int := match l.getLast? with
  | some y => y.1
  | none => -1
def badX (s : ByteArray) (pre : List Join) (x : Join) : Int :=
  if ¬ ((0 ≤ x.1 ∧ x.1 ≤ (s.size : Int) - 1) ∧ (0 ≤ x.2 ∧ x.2 ≤ (s.size : Int) - 1)) then 2
  else if x.2 ≤ x.1 then 7
  else if (usedB pre x.1 || usedB pre x.2) = true then 6
  else if fitR s x.1 x.2 = false then 13
  else if crossesB pre x = true then 5
  else if x.1 < lastI pre then 7
  else 0
def validT (s : ByteArray) : List Join → List Join → Int
  | _, [] => 0
  | pre, x :: l => if badX s pre x = 0 then validT s (pre ++ [x]) l else badX s pre x
def validE (s : ByteArray) (l : List Join) : Int := if rimE s = 0 then validT s [] l else rimE s
theorem lastI_take {l : List Join} {k : Int} (h0 : 0 < k) (h1 : k ≤ l.length) : lastI (l.take k.toNat) = (ix (0, 0) l (k - 1)).1 := by
  have := take_ix (d := ((0, 0) : Join)) (xs := l) (j := k - 1) (by omega) (by omega)
  rw [show k - 1 + 1 = k by omega] at this
  rw [this, lastI, List.getLast?_concat]
theorem lastI_next {l : List Join} {k : Int} (h0 : 0 ≤ k) (h1 : k < l.length) : lastI (l.take (k + 1).toNat) = (ix (0, 0) l k).1 := by
  rw [lastI_take (by omega) (by omega), show k + 1 - 1 = k by omega]
theorem validT_bad {s : ByteArray} {l : List Join} {k e : Int} (h0 : 0 ≤ k) (h1 : k < l.length) (h2 : validT s (l.take k.toNat) (l.drop k.toNat) = validT s [] l) (h : badX s (l.take k.toNat) (ix (0, 0) l k) = e) (he : e ≠ 0) (hr : rimE s = 0) : validE s l = e := by
  rw [validE, if_pos hr, ← h2, drop_ix (d := (0, 0)) h0 h1, validT, h, if_neg he]
theorem validT_good {s : ByteArray} {l : List Join} {k : Int} (h0 : 0 ≤ k) (h1 : k < l.length) (h2 : validT s (l.take k.toNat) (l.drop k.toNat) = validT s [] l) (h : badX s (l.take k.toNat) (ix (0, 0) l k) = 0) : validT s (l.take (k + 1).toNat) (l.drop (k + 1).toNat) = validT s [] l := by
  rw [← h2, drop_ix (d := (0, 0)) h0 h1, validT, if_pos h, take_ix (d := (0, 0)) h0 h1]
theorem validT_end {s : ByteArray} {l : List Join} {k : Int} (h1 : (l.length : Int) ≤ k) (h2 : validT s (l.take k.toNat) (l.drop k.toNat) = validT s [] l) (hr : rimE s = 0) : validE s l = 0 := by
  rw [validE, if_pos hr, ← h2, drop_end h1]; rfl
theorem badX_none {s : ByteArray} {pre : List Join} {x : Join} (h : ¬ ((0 ≤ x.1 ∧ x.1 ≤ (s.size : Int) - 1) ∧ (0 ≤ x.2 ∧ x.2 ≤ (s.size : Int) - 1))) : badX s pre x = 2 := if_pos h
variable {s : ByteArray} {pre : List Join} {x : Join} (hin : (0 ≤ x.1 ∧ x.1 ≤ (s.size : Int) - 1) ∧ (0 ≤ x.2 ∧ x.2 ≤ (s.size : Int) - 1))
include hin
theorem badX_order (h : x.2 ≤ x.1) : badX s pre x = 7 := by rw [badX, if_neg (not_not_intro hin), if_pos h]
theorem badX_twice (h : x.1 < x.2) (h2 : usedB pre x.1 = true ∨ usedB pre x.2 = true) : badX s pre x = 6 := by
  rw [badX, if_neg (not_not_intro hin), if_neg (by omega), if_pos (by rcases h2 with h2 | h2 <;> simp [h2])]
variable (h1 : x.1 < x.2) (h2 : usedB pre x.1 = false) (h3 : usedB pre x.2 = false)
include h1 h2 h3
theorem badX_clash (h : fitR s x.1 x.2 = false) : badX s pre x = 13 := by
  rw [badX, if_neg (not_not_intro hin), if_neg (by omega), if_neg (by rw [h2, h3]; decide), if_pos h]
variable (h4 : fitR s x.1 x.2 = true)
include h4
theorem badX_shape (h : crossesB pre x = true) : badX s pre x = 5 := by
  rw [badX, if_neg (not_not_intro hin), if_neg (by omega), if_neg (by rw [h2, h3]; decide), if_neg (by rw [h4]; decide), if_pos h]
variable (h5 : crossesB pre x = false)
include h5
theorem badX_late (h : x.1 < lastI pre) : badX s pre x = 7 := by
  rw [badX, if_neg (not_not_intro hin), if_neg (by omega), if_neg (by rw [h2, h3]; decide), if_neg (by rw [h4]; decide), if_neg (by rw [h5]; decide), if_pos h]
theorem badX_good (h : ¬ x.1 < lastI pre) : badX s pre x = 0 := by
  rw [badX, if_neg (not_not_intro hin), if_neg (by omega), if_neg (by rw [h2, h3]; decide), if_neg (by rw [h4]; decide), if_neg (by rw [h5]; decide), if_neg h]
end Go.Proofs.YtodcppoglpfodaaGreatDoor.C5

namespace Go.Proofs.YtodcppoglpfodaaGreatDoor.C5
open Go.Wk
set_option linter.unusedVariables false

structure ToOK (pre : List Join) (tq : List Int) : Prop where
  len : tq.length = 12
  bd : ∀ q, 0 ≤ q → q < 12 → 0 ≤ ix 0 tq q ∧ ix 0 tq q ≤ 12
  at1 : ∀ x ∈ pre, 0 ≤ x.1 ∧ x.1 < x.2 ∧ x.2 < 12 ∧ ix 0 tq x.1 = x.2 + 1 ∧ ix 0 tq x.2 = x.1 + 1
  of : ∀ q, 0 ≤ q → q < 12 → 0 < ix 0 tq q → ∃ x ∈ pre, x.1 = q ∨ x.2 = q
theorem ToOK.nil : ToOK [] (List.replicate 12 0) := by
  have hz : ∀ q, 0 ≤ q → q < 12 → ix 0 (List.replicate 12 (0 : Int)) q = 0 := by
    intro q h0 h1
    rw [ix, List.getD_eq_getElem?_getD, List.getElem?_replicate, if_pos (by omega)]; rfl
  exact ⟨by simp, fun q h0 h1 => by rw [hz q h0 h1]; omega, by simp, fun q h0 h1 h => by rw [hz q h0 h1] at h; omega⟩
variable {pre : List Join} {tq : List Int}
theorem usedB_iff {l : List Join} {i : Int} : usedB l i = true ↔ ∃ x ∈ l, x.1 = i ∨ x.2 = i := by
  simp only [usedB, List.any_eq_true, Bool.or_eq_true, decide_eq_true_eq]
theorem ToOK.used (h : ToOK pre tq) {q : Int} (h0 : 0 ≤ q) (h1 : q < 12) : 0 < ix 0 tq q ↔ usedB pre q = true := by
  rw [usedB_iff]
  constructor
  · exact h.of q h0 h1
  · rintro ⟨x, hx, hq⟩
    obtain ⟨a, b, c, d, e⟩ := h.at1 x hx
    rcases hq with rfl | rfl <;> omega
theorem ToOK.free (h : ToOK pre tq) {q : Int} (h0 : 0 ≤ q) (h1 : q < 12) : usedB pre q = false ↔ ¬ 0 < ix 0 tq q := by rw [h.used h0 h1, Bool.not_eq_true]
def badQ (tq : List Int) (i j q : Int) : Prop := 0 < ix 0 tq q ∧ (ix 0 tq q - 1 < i ∨ j < ix 0 tq q - 1)
theorem ToOK.cross (h : ToOK pre tq) {i j q : Int} (h0 : 0 ≤ i) (h1 : i < q) (h2 : q < j) (h3 : j < 12) (hb : badQ tq i j q) : crossesB pre (i, j) = true := by
  obtain ⟨x, hx, hq⟩ := h.of q (by omega) (by omega) hb.1
  obtain ⟨a, b, c, d, e⟩ := h.at1 x hx
  have hb2 := hb.2
  rw [crossesB, List.any_eq_true]
  refine ⟨x, hx, crossB_iff.2 ?_⟩
  simp only
  rcases hq with rfl | rfl <;> omega
theorem ToOK.apart (h : ToOK pre tq) {i j : Int} (h0 : 0 ≤ i) (h1 : i < j) (h3 : j < 12) (hi : usedB pre i = false) (hj : usedB pre j = false) (hb : ∀ q, i < q → q < j → ¬ badQ tq i j q) : crossesB pre (i, j) = false := by
  rw [crossesB, List.any_eq_false]
  intro x hx hc
  rw [crossB_iff] at hc
  simp only at hc
  obtain ⟨a, b, c, d, e⟩ := h.at1 x hx
  rcases hc with hc | hc
  · exact hb x.1 (by omega) (by omega) ⟨by omega, by omega⟩
  · exact hb x.2 (by omega) (by omega) ⟨by omega, by omega⟩
theorem ToOK.push (h : ToOK pre tq) {i j : Int} (h0 : 0 ≤ i) (h1 : i < j) (h3 : j < 12) (hi : usedB pre i = false) (hj : usedB pre j = false) : ToOK (pre ++ [(i, j)]) ((tq.set i.toNat (j + 1)).set j.toNat (i + 1)) := by
  have hl := h.len
  have hs : ∀ q, 0 ≤ q → ix 0 ((tq.set i.toNat (j + 1)).set j.toNat (i + 1)) q = if q = j then i + 1 else if q = i then j + 1 else ix 0 tq q := by
    intro q q0
    rw [ix_set (by omega) (by rw [List.length_set]; omega) q0, ix_set h0 (by omega) q0]
  refine ⟨by simpa using hl, fun q q0 q1 => ?_, fun x hx => ?_, fun q q0 q1 hq => ?_⟩
  · have := h.bd q q0 q1
    rw [hs q q0]
    split
    · omega
    · split <;> omega
  · rcases List.mem_append.1 hx with hx | hx
    · obtain ⟨a, b, c, d, e⟩ := h.at1 x hx
      have n1 : ∀ z, (x.1 = z ∨ x.2 = z) → usedB pre z = false → False := fun z hz hu => by rw [usedB_iff.2 ⟨x, hx, hz⟩] at hu; cases hu
      rw [hs x.1 a, hs x.2 (by omega), if_neg (fun e => n1 j (.inl e) hj), if_neg (fun e => n1 i (.inl e) hi), if_neg (fun e => n1 j (.inr e) hj), if_neg (fun e => n1 i (.inr e) hi)]
      exact ⟨a, b, c, d, e⟩
    · rw [List.mem_singleton] at hx
      subst hx
      rw [hs i h0, hs j (by omega), if_neg (by omega), if_pos rfl, if_pos rfl]
      exact ⟨h0, h1, h3, rfl, rfl⟩
  · rw [hs q q0] at hq
    by_cases hqj : q = j
    · exact ⟨(i, j), by simp, .inr hqj.symm⟩
    · by_cases hqi : q = i
      · exact ⟨(i, j), by simp, .inl hqi.symm⟩
      · rw [if_neg hqj, if_neg hqi] at hq
        obtain ⟨x, hx, hxq⟩ := h.of q q0 q1 hq
        exact ⟨x, List.mem_append.2 (.inl hx), hxq⟩
end Go.Proofs.YtodcppoglpfodaaGreatDoor.C5

namespace Go.Proofs.YtodcppoglpfodaaGreatDoor.C5
open Go.Wk Go

def TabB (T : Tab) : Prop := ∀ a b, 0 ≤ (T a b).1 ∧ (T a b).1 ≤ 100 ∧ 0 ≤ (T a b).2 ∧ (T a b).2 ≤ 16777216
def TabOK (s : ByteArray) (T : Tab) : Prop := TabB T ∧ ∀ i n : Int, 0 ≤ i → i ≤ n → n ≤ s.size → T i n = partP (fitR s) i n
theorem mul_bd {a b : Int} (a0 : 0 ≤ a) (a1 : a ≤ 16777216) (b0 : 0 ≤ b) (b1 : b ≤ 16777216) : 0 ≤ a * b ∧ a * b ≤ 281474976710656 :=
  ⟨Int.mul_nonneg a0 b0, by have := Int.mul_le_mul a1 b1 b0 (by omega : (0 : Int) ≤ 16777216); omega⟩
theorem TabB.mul {T : Tab} (h : TabB T) (i j n : Int) : 0 ≤ (T (i + 1) j).2 * (T (j + 1) n).2 ∧ (T (i + 1) j).2 * (T (j + 1) n).2 ≤ 281474976710656 :=
  mul_bd (h _ _).2.2.1 (h _ _).2.2.2 (h _ _).2.2.1 (h _ _).2.2.2
theorem TabB.zero : TabB fun _ _ => (0, 0) := fun _ _ => ⟨Int.le_refl 0, by show (0 : Int) ≤ 100; decide, Int.le_refl 0, by show (0 : Int) ≤ 16777216; decide⟩
theorem TabB.upd {T : Tab} (h : TabB T) {i n : Int} {p : Int × Int} (h1 : 0 ≤ p.1 ∧ p.1 ≤ 100 ∧ 0 ≤ p.2 ∧ p.2 ≤ 16777216) : TabB (updT T i n p) := by
  intro a b
  rw [updT]
  split
  · exact h1
  · exact h a b
theorem updT_at {T : Tab} {i n : Int} {p : Int × Int} : updT T i n p i n = p := if_pos ⟨rfl, rfl⟩
theorem updT_ne {T : Tab} {i n a b : Int} {p : Int × Int} (h : ¬ (a = i ∧ b = n)) : updT T i n p a b = T a b := if_neg h

variable {F : Int → Int → Bool}
def stepP (F : Int → Int → Bool) (i n : Int) (best : Int × Int) (j : Int) : Int × Int := if F i j = true then cmb best (joinP (partP F (i + 1) j) (partP F (j + 1) n)) else best
def foldP (F : Int → Int → Bool) (i n j : Int) : Int × Int := (rng (i + 1) j).foldl (stepP F i n) (partP F (i + 1) n)
theorem foldP_start (i n : Int) : foldP F i n (i + 1) = partP F (i + 1) n := by rw [foldP, rng_nil (by omega)]; rfl
theorem foldP_next {i n j : Int} (h : i + 1 ≤ j) : foldP F i n (j + 1) = stepP F i n (foldP F i n j) j := by
  rw [foldP, rng_snoc h, List.foldl_append]; rfl
theorem foldP_end {i n : Int} (h : i < n) : foldP F i n n = partP F i n := (partP_eq h).symm

def Bd (M C : Int) (x : Int × Int) : Prop := 0 ≤ x.1 ∧ x.1 ≤ M ∧ 0 ≤ x.2 ∧ x.2 ≤ C
theorem cmb_bd {M C D : Int} {x y : Int × Int} (hx : Bd M C x) (hy : Bd M D y) : Bd M (C + D) (cmb x y) := by
  obtain ⟨a, b, c, d⟩ := hx
  obtain ⟨a', b', c', d'⟩ := hy
  rw [cmb]
  split
  · exact ⟨a', b', c', by omega⟩
  · split
    · exact ⟨a, b, by show 0 ≤ x.2 + y.2; omega, by show x.2 + y.2 ≤ _; omega⟩
    · exact ⟨a, b, c, by omega⟩
theorem fold_bd {M D : Int} {i n : Int} (hD : 0 ≤ D) : ∀ (js : List Int) (x : Int × Int) (C : Int), Bd M C x → (∀ j ∈ js, Bd M D (joinP (partP F (i + 1) j) (partP F (j + 1) n))) → Bd M (C + js.length * D) (js.foldl (stepP F i n) x)
  | [], x, C, h, _ => by simpa using h
  | j :: js, x, C, h, hj => by
    rw [List.foldl_cons]
    have h1 : Bd M (C + D) (stepP F i n x j) := by
      rw [stepP]
      split
      · exact cmb_bd h (hj j (List.mem_cons_self ..))
      · exact ⟨h.1, h.2.1, h.2.2.1, by have := h.2.2.2; omega⟩
    have h2 := fold_bd hD js _ _ h1 fun k hk => hj k (List.mem_cons_of_mem _ hk)
    have e : C + D + (js.length : Int) * D = C + ((j :: js).length : Int) * D := by
      rw [List.length_cons, Int.natCast_add, Int.add_mul]
      omega
    rw [← e]; exact h2
theorem part_bd' : ∀ (M m : Nat) (i n : Int), m ≤ M → (n - i).toNat = m → m ≤ 12 → Bd m (4 ^ m) (partP F i n) ∧ ∀ j, i + 1 ≤ j → j ≤ n → Bd m (4 ^ m) (foldP F i n j)
  | _, 0, i, n, _, h, _ => by
    refine ⟨by rw [partP_nil (by omega)]; exact ⟨by decide, by decide, by decide, by decide⟩, fun j h1 h2 => by omega⟩
  | 0, m + 1, i, n, hM, h, hm => by omega
  | M + 1, m + 1, i, n, hM, h, hm => by
    have ih1 := (part_bd' M m (i + 1) n (by omega) (by omega) (by omega)).1
    have hf : ∀ j, i + 1 ≤ j → j ≤ n → Bd (m + 1 : Nat) (4 ^ (m + 1)) (foldP F i n j) := by
      intro j h1 h2
      cases m with
      | zero =>
        rw [show j = i + 1 by omega, foldP_start]
        exact ⟨ih1.1, by have := ih1.2.1; omega, ih1.2.2.1, by have := ih1.2.2.2; have e : (4 : Int) ^ 0 = 1 := rfl; have e1 : (4 : Int) ^ (0 + 1) = 4 := rfl; omega⟩
      | succ m =>
        have hpos : (0 : Int) < 4 ^ m := Int.pow_pos (by decide)
        have hb := fold_bd (F := F) (M := (m + 2 : Nat)) (D := 4 ^ m) (i := i) (n := n) (by omega) (rng (i + 1) j) (partP F (i + 1) n) (4 ^ (m + 1)) ⟨ih1.1, by have := ih1.2.1; omega, ih1.2.2⟩ (fun k hk => by
          rw [rng_mem] at hk
          have a := (part_bd' M (k - (i + 1)).toNat (i + 1) k (by omega) rfl (by omega)).1
          have b := (part_bd' M (n - (k + 1)).toNat (k + 1) n (by omega) rfl (by omega)).1
          obtain ⟨a1, a2, a3, a4⟩ := a
          obtain ⟨b1, b2, b3, b4⟩ := b
          refine ⟨?_, ?_, Int.mul_nonneg a3 b3, ?_⟩
          · show 0 ≤ _ + _ + 1; omega
          · show _ + _ + 1 ≤ _; omega
          · show _ * _ ≤ _
            have hp : (4 : Int) ^ m = 4 ^ (k - (i + 1)).toNat * 4 ^ (n - (k + 1)).toNat := by rw [← Int.pow_add]; congr 1; omega
            rw [hp]
            exact Int.mul_le_mul a4 b4 b3 (Int.le_of_lt (Int.pow_pos (by decide))))
        have hl : ((rng (i + 1) j).length : Int) ≤ 12 := by rw [rng, List.length_map, List.length_range]; omega
        obtain ⟨c1, c2, c3, c4⟩ := hb
        refine ⟨c1, c2, c3, Int.le_trans c4 ?_⟩
        have e1 : (4 : Int) ^ (m + 1) = 4 ^ m * 4 := rfl
        have e2 : (4 : Int) ^ (m + 1 + 1) = 4 ^ m * 4 * 4 := rfl
        have hm := Int.mul_le_mul_of_nonneg_right hl (Int.le_of_lt hpos)
        omega
    refine ⟨?_, hf⟩
    rw [← foldP_end (by omega)]
    exact hf n (by omega) (Int.le_refl _)
theorem pow_bd {m : Nat} (h : m ≤ 12) : (4 : Int) ^ m ≤ 16777216 := by
  have : ∀ k ≤ 12, (4 : Int) ^ k ≤ 16777216 := by decide
  exact this m h
theorem foldP_bd {i n j : Int} (h0 : 0 ≤ i) (h : n ≤ 12) (h1 : i + 1 ≤ j) (h2 : j ≤ n) : 0 ≤ (foldP F i n j).1 ∧ (foldP F i n j).1 ≤ 100 ∧ 0 ≤ (foldP F i n j).2 ∧ (foldP F i n j).2 ≤ 16777216 := by
  obtain ⟨a, b, c, d⟩ := (part_bd' (F := F) _ (n - i).toNat i n (Nat.le_refl _) rfl (by omega)).2 j h1 h2
  have := pow_bd (m := (n - i).toNat) (by omega)
  exact ⟨a, by omega, c, by omega⟩
section
variable {i n j bm bc A B : Int} (k0 : i + 1 ≤ j) (k2 : bm = (foldP F i n j).1) (k3 : bc = (foldP F i n j).2)
include k0 k2 k3
theorem step_no (h : F i j = false) : bm = (foldP F i n (j + 1)).1 ∧ bc = (foldP F i n (j + 1)).2 := by
  rw [foldP_next k0, stepP, if_neg (by rw [h]; decide)]; exact ⟨k2, k3⟩
variable (h : F i j = true) (hj : joinP (partP F (i + 1) j) (partP F (j + 1) n) = (A, B))
include h hj
omit k3 in
theorem step_gt (h4 : bm < A) : A = (foldP F i n (j + 1)).1 ∧ B = (foldP F i n (j + 1)).2 := by
  rw [foldP_next k0, stepP, if_pos h, hj, cmb, if_pos (by rw [← k2]; exact h4)]; exact ⟨rfl, rfl⟩
theorem step_eq (h4 : ¬ bm < A) (h5 : A = bm) : bm = (foldP F i n (j + 1)).1 ∧ bc + B = (foldP F i n (j + 1)).2 := by
  rw [foldP_next k0, stepP, if_pos h, hj, cmb, if_neg (by rw [← k2]; exact h4), if_pos (by rw [← k2]; exact h5), ← k2, ← k3]; exact ⟨rfl, rfl⟩
theorem step_lt (h4 : ¬ bm < A) (h5 : ¬ A = bm) : bm = (foldP F i n (j + 1)).1 ∧ bc = (foldP F i n (j + 1)).2 := by
  rw [foldP_next k0, stepP, if_pos h, hj, cmb, if_neg (by rw [← k2]; exact h4), if_neg (by rw [← k2]; exact h5)]; exact ⟨k2, k3⟩
end

/-! ### the first greatest plan, as it is sought -/
theorem find_rng {p : Int → Bool} {j : Int} : ∀ (m : Nat) (i n : Int), (n - i).toNat = m → i ≤ j → j < n → (∀ q, i ≤ q → q < j → p q = false) → p j = true → (rng i n).find? p = some j
  | 0, i, n, h, h1, h2, _, _ => by omega
  | m + 1, i, n, h, h1, h2, hq, hj => by
    rw [rng_cons (by omega), List.find?_cons]
    by_cases e : i = j
    · subst e; rw [hj]
    · rw [hq i (Int.le_refl _) (by omega)]
      exact find_rng m (i + 1) n (by omega) (by omega) h2 (fun q q1 q2 => hq q (by omega) q2) hj
end Go.Proofs.YtodcppoglpfodaaGreatDoor.C5

namespace Go.Proofs.YtodcppoglpfodaaGreatDoor.C5
open Go.Wk Go

def allV (s : ByteArray) : Int × Int := partP (fitR s) 0 s.size
def mostV (s : ByteArray) : Int := if rimE s = 0 then (allV s).1 else 0
theorem TabOK.all {s : ByteArray} {T : Tab} (h : TabOK s T) : T 0 s.size = allV s := h.2 0 s.size (Int.le_refl _) (by omega) (Int.le_refl _)
end Go.Proofs.YtodcppoglpfodaaGreatDoor.C5

namespace Go.Proofs.YtodcppoglpfodaaGreatDoor.C5
open Go.Wk Go

variable {F : Int → Int → Bool}
def PR (F : Int → Int → Bool) (n least : Int) (begun : List Join) (frm : Int) : List (List Join) := plansR F n least (n - frm).toNat begun frm
def inR (F : Int → Int → Bool) (n least : Int) (begun : List Join) (i j0 : Int) : List (List Join) := (rng j0 n).flatMap fun j => if goesB F begun i j = true then PR F n least (begun ++ [(i, j)]) (i + 1) else []
section
variable {n least : Int} {begun : List Join}
end
/-! ### the greatest ones -/
end Go.Proofs.YtodcppoglpfodaaGreatDoor.C5

namespace Go.Proofs.YtodcppoglpfodaaGreatDoor.C5
open Go.Wk Go

section
variable {l : List Join} {k : Int} {x : Join} (h0 : 0 ≤ k)
include h0
end
end Go.Proofs.YtodcppoglpfodaaGreatDoor.C5

namespace Go.Proofs.YtodcppoglpfodaaGreatDoor.C5
open Go.Wk Go

abbrev Tk := List Join × List Int
def topI (l : List Int) : Int := ix 0 l (l.length - 1)
def stepS (s : ByteArray) (a : Tk) (j : Int) : Tk := if 0 < a.2.length ∧ fitR s (topI a.2) j = true then (a.1 ++ [(topI a.2, j)], a.2.take ((a.2.length : Int) - 1).toNat) else (a.1, a.2 ++ [j])
def runS (s : ByteArray) (a : Tk) (rest : List Int) : Tk := rest.foldl (stepS s) a
def takS (s : ByteArray) : Tk := runS s ([], []) (rng 0 s.size)
variable {s : ByteArray} {st : List Join} {lf : List Int}
theorem runS_cons {a : Tk} {j : Int} {r : List Int} : runS s a (j :: r) = runS s (stepS s a j) r := rfl
theorem stepS_yes {j : Int} (h : 0 < (lf.length : Int)) (hf : fitR s (ix 0 lf ((lf.length : Int) - 1)) j = true) : stepS s (st, lf) j = (st ++ [(ix 0 lf ((lf.length : Int) - 1), j)], lf.take ((lf.length : Int) - 1).toNat) :=
  if_pos ⟨by show 0 < lf.length; omega, hf⟩
theorem stepS_no {j : Int} (h : ¬ 0 < (lf.length : Int) ∨ fitR s (ix 0 lf ((lf.length : Int) - 1)) j = false) : stepS s (st, lf) j = (st, lf ++ [j]) := by
  refine if_neg ?_
  rintro ⟨h1, h2⟩
  rcases h with h | h
  · have : 0 < lf.length := h1; omega
  · have h2 : fitR s (ix 0 lf ((lf.length : Int) - 1)) j = true := h2
    rw [h2] at h; cases h

/-! ### the reference's way -/
theorem ix_app {α : Type} {d : α} {p q : List α} {k : Int} (h : k = p.length) {x : α} : ix d (p ++ x :: q) k = x := by
  subst h
  rw [ix, Int.toNat_natCast, List.getD_eq_getElem?_getD, List.getElem?_append_right (Nat.le_refl _), Nat.sub_self]; rfl
theorem runS_bd {s : ByteArray} {n : Int} : ∀ (rest : List Int) (st : List Join) (lf : List Int), (∀ x ∈ lf, 0 ≤ x ∧ x < n) → (∀ x ∈ rest, 0 ≤ x ∧ x < n) →
    (∀ x ∈ (runS s (st, lf) rest).2, 0 ≤ x ∧ x < n) ∧ 2 * ((runS s (st, lf) rest).1.length : Int) + (runS s (st, lf) rest).2.length = 2 * (st.length : Int) + lf.length + rest.length
  | [], st, lf, h, _ => ⟨h, by show 2 * (st.length : Int) + lf.length = 2 * (st.length : Int) + lf.length + ((0 : Nat) : Int); omega⟩
  | j :: r, st, lf, h, hr => by
    have hj := hr j (List.mem_cons_self ..)
    have hr2 : ∀ x ∈ r, 0 ≤ x ∧ x < n := fun x hx => hr x (List.mem_cons_of_mem _ hx)
    rw [runS_cons]
    by_cases hc : 0 < lf.length ∧ fitR s (topI lf) j = true
    · rw [stepS, if_pos hc]
      have := runS_bd (s := s) r (st ++ [(topI lf, j)]) (lf.take ((lf.length : Int) - 1).toNat) (fun x hx => h x (List.mem_of_mem_take hx)) hr2
      refine ⟨this.1, this.2.trans ?_⟩
      have h0 := hc.1
      simp only [List.length_append, List.length_take, List.length_cons, List.length_nil]
      omega
    · rw [stepS, if_neg hc]
      have := runS_bd (s := s) r st (lf ++ [j]) (fun x hx => by
        rcases List.mem_append.1 hx with hx | hx
        · exact h x hx
        · rw [List.mem_singleton] at hx; subst hx; exact hj) hr2
      refine ⟨this.1, this.2.trans ?_⟩
      simp only [List.length_append, List.length_cons, List.length_nil]
      omega
theorem rng_len {i n : Int} (h : i ≤ n) : ((rng i n).length : Int) = n - i := by rw [rng, List.length_map, List.length_range]; omega
theorem takS_bd {s : ByteArray} : (∀ x ∈ (takS s).2, 0 ≤ x ∧ x < s.size) ∧ 2 * ((takS s).1.length : Int) + (takS s).2.length = s.size := by
  have := runS_bd (s := s) (n := s.size) (rng 0 s.size) [] [] (by simp) (fun x hx => by rw [rng_mem] at hx; exact hx)
  refine ⟨this.1, this.2.trans ?_⟩
  rw [rng_len (by omega)]
  simp
end Go.Proofs.YtodcppoglpfodaaGreatDoor.C5

namespace Go.Proofs
open Go.Shelf
def Tryz.lays169_ren : Go.Shelf.Ren := ⟨fun | 169 => 18 | n => n, fun | 70 => 45 | 9 => 9 | 0 => 0 | 72 => 48 | 37 => 46 | 127 => 99 | 3 => 3 | 5 => 5 | n => n, fun | n => n⟩
theorem Tryz.lays169 : Go.Proofs.Lays.n169 Tryz.prog Tryz.lays169_ren := {
  mixed := by kernel_rfl
  f169 := Tryz.func18.trans (congrArg some (by kernel_rfl))
  t0 := Tryz.underlying0
  a0 := Tryz.isAgg0
  z0 := Tryz.sizeOf0
  v0 := Tryz.zeroValue0
  t3 := Tryz.underlying3
  a3 := Tryz.isAgg3
  z3 := Tryz.sizeOf3
  v3 := Tryz.zeroValue3
  t9 := Tryz.underlying9
  a9 := Tryz.isAgg9
  z9 := Tryz.sizeOf9
  v9 := Tryz.zeroValue9
  t37 := Tryz.underlying46
  a37 := Tryz.isAgg46
  z37 := Tryz.sizeOf46
  v37 := Tryz.zeroValue46
  t70 := Tryz.underlying45
  a70 := Tryz.isAgg45
  z70 := Tryz.sizeOf45
  v70 := Tryz.zeroValue45
  t72 := Tryz.underlying48
  a72 := Tryz.isAgg48
  z72 := Tryz.sizeOf48
  v72 := Tryz.zeroValue48
  t127 := Tryz.underlying99
  a127 := Tryz.isAgg99
  z127 := Tryz.sizeOf99
  v127 := Tryz.zeroValue99 }
theorem Tryz.Builder_Extra_169 : Builder.Extra Tryz.prog Tryz.lays169_ren := {
  sizeBuilder := by kernel_rfl
  liesBuilder := by kernel_rfl
  t5 := Tryz.underlying5
  a5 := Tryz.isAgg5
  z5 := Tryz.sizeOf5
  v5 := Tryz.zeroValue5
  infoByte := by kernel_rfl
  cellsByte := by kernel_rfl
  sizeByte := by kernel_rfl
  neB5 := by decide }
def Tryz.lays160_ren : Go.Shelf.Ren := ⟨fun | 160 => 7 | 232 => 23 | 231 => 22 | 227 => 24 | 234 => 26 | 233 => 25 | 236 => 28 | 235 => 27 | 228 => 43 | 271 => 46 | 151 => 45 | 197 => 44 | 120 => 59 | 152 => 58 | 260 => 57 | 137 => 77 | 119 => 78 | 224 => 79 | 225 => 80 | 217 => 95 | 266 => 118 | n => n, fun | 9 => 9 | 4 => 4 | 3 => 3 | 5 => 5 | 117 => 63 | 116 => 62 | 0 => 0 | 124 => 66 | 21 => 21 | 105 => 102 | 46 => 149 | 119 => 129 | 139 => 152 | 138 => 151 | n => n, fun | 3 => 0 | 4 => 1 | n => n⟩
theorem Tryz.lays160 : Go.Proofs.Lays.n160 Tryz.prog Tryz.lays160_ren := {
  mixed := by kernel_rfl
  f119 := Tryz.func78.trans (congrArg some (by kernel_rfl))
  f120 := Tryz.func59.trans (congrArg some (by kernel_rfl))
  f137 := Tryz.func77.trans (congrArg some (by kernel_rfl))
  f151 := Tryz.func45.trans (congrArg some (by kernel_rfl))
  f152 := Tryz.func58.trans (congrArg some (by kernel_rfl))
  f160 := Tryz.func7.trans (congrArg some (by kernel_rfl))
  f197 := Tryz.func44.trans (congrArg some (by kernel_rfl))
  f217 := Tryz.func95.trans (congrArg some (by kernel_rfl))
  f224 := Tryz.func79.trans (congrArg some (by kernel_rfl))
  f225 := Tryz.func80.trans (congrArg some (by kernel_rfl))
  f227 := Tryz.func24.trans (congrArg some (by kernel_rfl))
  f228 := Tryz.func43.trans (congrArg some (by kernel_rfl))
  f231 := Tryz.func22.trans (congrArg some (by kernel_rfl))
  f232 := Tryz.func23.trans (congrArg some (by kernel_rfl))
  f233 := Tryz.func25.trans (congrArg some (by kernel_rfl))
  f234 := Tryz.func26.trans (congrArg some (by kernel_rfl))
  f235 := Tryz.func27.trans (congrArg some (by kernel_rfl))
  f236 := Tryz.func28.trans (congrArg some (by kernel_rfl))
  f260 := Tryz.func57.trans (congrArg some (by kernel_rfl))
  f266 := Tryz.func118.trans (congrArg some (by kernel_rfl))
  f271 := Tryz.func46.trans (congrArg some (by kernel_rfl))
  t0 := Tryz.underlying0
  a0 := Tryz.isAgg0
  z0 := Tryz.sizeOf0
  v0 := Tryz.zeroValue0
  t3 := Tryz.underlying3
  a3 := Tryz.isAgg3
  z3 := Tryz.sizeOf3
  v3 := Tryz.zeroValue3
  t4 := Tryz.underlying4
  a4 := Tryz.isAgg4
  z4 := Tryz.sizeOf4
  v4 := Tryz.zeroValue4
  t5 := Tryz.underlying5
  a5 := Tryz.isAgg5
  z5 := Tryz.sizeOf5
  v5 := Tryz.zeroValue5
  t9 := Tryz.underlying9
  a9 := Tryz.isAgg9
  z9 := Tryz.sizeOf9
  v9 := Tryz.zeroValue9
  t21 := Tryz.underlying21
  a21 := Tryz.isAgg21
  z21 := Tryz.sizeOf21
  v21 := Tryz.zeroValue21
  t46 := Tryz.underlying149
  a46 := Tryz.isAgg149
  z46 := Tryz.sizeOf149
  v46 := Tryz.zeroValue149
  t105 := Tryz.underlying102
  a105 := Tryz.isAgg102
  z105 := Tryz.sizeOf102
  v105 := Tryz.zeroValue102
  t116 := Tryz.underlying62
  a116 := Tryz.isAgg62
  z116 := Tryz.sizeOf62
  t117 := Tryz.underlying63
  a117 := Tryz.isAgg63
  z117 := Tryz.sizeOf63
  v117 := Tryz.zeroValue63
  t119 := Tryz.underlying129
  a119 := Tryz.isAgg129
  z119 := Tryz.sizeOf129
  t124 := Tryz.underlying66
  a124 := Tryz.isAgg66
  z124 := Tryz.sizeOf66
  v124 := Tryz.zeroValue66
  t138 := Tryz.underlying151
  a138 := Tryz.isAgg151
  z138 := Tryz.sizeOf151
  v138 := Tryz.zeroValue151
  t139 := Tryz.underlying152
  a139 := Tryz.isAgg152
  z139 := Tryz.sizeOf152
  v139 := Tryz.zeroValue152
  g3 := by kernel_rfl
  g4 := by kernel_rfl }
def Tryz.lays119_ren : Go.Shelf.Ren := ⟨fun | 119 => 78 | n => n, fun | 21 => 21 | 4 => 4 | n => n, fun | n => n⟩
theorem Tryz.lays119 : Go.Proofs.Lays.n119 Tryz.prog Tryz.lays119_ren := {
  mixed := by kernel_rfl
  f119 := Tryz.func78.trans (congrArg some (by kernel_rfl))
  t4 := Tryz.underlying4
  a4 := Tryz.isAgg4
  z4 := Tryz.sizeOf4
  v4 := Tryz.zeroValue4
  t21 := Tryz.underlying21
  a21 := Tryz.isAgg21
  z21 := Tryz.sizeOf21
  v21 := Tryz.zeroValue21 }
theorem Tryz.utf8_ValidRune (r : Int) (w : World) :
    Calls Tryz.prog 78 #[.int .i32 r] w fun e w' => e = .returned (.bool (Lib.validRune r)) ∧ w' = w := Any.utf8_ValidRune Tryz.lays119 r w
def Tryz.lays137_ren : Go.Shelf.Ren := ⟨fun | 137 => 77 | 217 => 95 | 266 => 118 | n => n, fun | 9 => 9 | 5 => 5 | 3 => 3 | n => n, fun | n => n⟩
theorem Tryz.lays137 : Go.Proofs.Lays.n137 Tryz.prog Tryz.lays137_ren := {
  mixed := by kernel_rfl
  f137 := Tryz.func77.trans (congrArg some (by kernel_rfl))
  f217 := Tryz.func95.trans (congrArg some (by kernel_rfl))
  f266 := Tryz.func118.trans (congrArg some (by kernel_rfl))
  t3 := Tryz.underlying3
  a3 := Tryz.isAgg3
  z3 := Tryz.sizeOf3
  v3 := Tryz.zeroValue3
  t5 := Tryz.underlying5
  a5 := Tryz.isAgg5
  z5 := Tryz.sizeOf5
  v5 := Tryz.zeroValue5
  t9 := Tryz.underlying9
  a9 := Tryz.isAgg9
  z9 := Tryz.sizeOf9
  v9 := Tryz.zeroValue9 }
open Go.RowKit in
theorem Tryz.strings_IndexByte (s : ByteArray) (c : Int) (w : World) :
    Calls Tryz.prog 77 #[.string s, .int .u8 c] w fun e w' => e = .returned (.int .i64 (Lib.indexByte s.data.toList c.toNat.toUInt8)) ∧ w' = w := Any.strings_IndexByte Tryz.lays137 s c w
open Go.RowKit in
theorem Tryz.Builder_String_any_f (B b : Nat) (l : List UInt8) (w : World) (h : Lib.IsBuilderF 48 5 B b (Lib.byteCells l) w) (hBw : B ≤ w.heap.size) :
    Calls Tryz.prog 18 #[.pointer (some ⟨b, 0, none⟩)] w fun e w' => e = .returned (.string ⟨l.toArray⟩) ∧ (Lib.IsBuilderF 48 5 B b (Lib.byteCells l) w' ∧ Below B w w') := Any.Builder_String_any_f Tryz.lays169 Tryz.Builder_Extra_169 B b l w h hBw
def Tryz.lays203_ren : Go.Shelf.Ren := ⟨fun | 203 => 69 | 262 => 88 | 313 => 108 | 274 => 127 | 275 => 128 | n => n, fun | 21 => 21 | 4 => 4 | 3 => 3 | 162 => 201 | 203 => 199 | 160 => 219 | 46 => 149 | 0 => 0 | 208 => 242 | 51 => 71 | 206 => 240 | n => n, fun | 13 => 6 | n => n⟩
theorem Tryz.lays203 : Go.Proofs.Lays.n203 Tryz.prog Tryz.lays203_ren := {
  mixed := by kernel_rfl
  f203 := Tryz.func69.trans (congrArg some (by kernel_rfl))
  f262 := Tryz.func88.trans (congrArg some (by kernel_rfl))
  f274 := Tryz.func127.trans (congrArg some (by kernel_rfl))
  f275 := Tryz.func128.trans (congrArg some (by kernel_rfl))
  f313 := Tryz.func108.trans (congrArg some (by kernel_rfl))
  t0 := Tryz.underlying0
  a0 := Tryz.isAgg0
  z0 := Tryz.sizeOf0
  v0 := Tryz.zeroValue0
  t3 := Tryz.underlying3
  a3 := Tryz.isAgg3
  z3 := Tryz.sizeOf3
  v3 := Tryz.zeroValue3
  t4 := Tryz.underlying4
  a4 := Tryz.isAgg4
  z4 := Tryz.sizeOf4
  v4 := Tryz.zeroValue4
  t21 := Tryz.underlying21
  a21 := Tryz.isAgg21
  z21 := Tryz.sizeOf21
  v21 := Tryz.zeroValue21
  t46 := Tryz.underlying149
  a46 := Tryz.isAgg149
  z46 := Tryz.sizeOf149
  v46 := Tryz.zeroValue149
  t51 := Tryz.underlying71
  a51 := Tryz.isAgg71
  z51 := Tryz.sizeOf71
  v51 := Tryz.zeroValue71
  t160 := Tryz.underlying219
  a160 := Tryz.isAgg219
  z160 := Tryz.sizeOf219
  v160 := Tryz.zeroValue219
  t162 := Tryz.underlying201
  a162 := Tryz.isAgg201
  z162 := Tryz.sizeOf201
  v162 := Tryz.zeroValue201
  t203 := Tryz.underlying199
  a203 := Tryz.isAgg199
  z203 := Tryz.sizeOf199
  v203 := Tryz.zeroValue199
  t206 := Tryz.underlying240
  a206 := Tryz.isAgg240
  z206 := Tryz.sizeOf240
  v206 := Tryz.zeroValue240
  t208 := Tryz.underlying242
  a208 := Tryz.isAgg242
  z208 := Tryz.sizeOf242
  v208 := Tryz.zeroValue242
  g13 := by kernel_rfl }
def Tryz.lays204_ren : Go.Shelf.Ren := ⟨fun | 204 => 68 | 262 => 88 | 313 => 108 | 274 => 127 | 275 => 128 | n => n, fun | 21 => 21 | 4 => 4 | 3 => 3 | 162 => 201 | 203 => 199 | 160 => 219 | 46 => 149 | 0 => 0 | 208 => 242 | 51 => 71 | 206 => 240 | n => n, fun | 13 => 6 | n => n⟩
theorem Tryz.lays204 : Go.Proofs.Lays.n204 Tryz.prog Tryz.lays204_ren := {
  mixed := by kernel_rfl
  f204 := Tryz.func68.trans (congrArg some (by kernel_rfl))
  f262 := Tryz.func88.trans (congrArg some (by kernel_rfl))
  f274 := Tryz.func127.trans (congrArg some (by kernel_rfl))
  f275 := Tryz.func128.trans (congrArg some (by kernel_rfl))
  f313 := Tryz.func108.trans (congrArg some (by kernel_rfl))
  t0 := Tryz.underlying0
  a0 := Tryz.isAgg0
  z0 := Tryz.sizeOf0
  v0 := Tryz.zeroValue0
  t3 := Tryz.underlying3
  a3 := Tryz.isAgg3
  z3 := Tryz.sizeOf3
  v3 := Tryz.zeroValue3
  t4 := Tryz.underlying4
  a4 := Tryz.isAgg4
  z4 := Tryz.sizeOf4
  v4 := Tryz.zeroValue4
  t21 := Tryz.underlying21
  a21 := Tryz.isAgg21
  z21 := Tryz.sizeOf21
  v21 := Tryz.zeroValue21
  t46 := Tryz.underlying149
  a46 := Tryz.isAgg149
  z46 := Tryz.sizeOf149
  v46 := Tryz.zeroValue149
  t51 := Tryz.underlying71
  a51 := Tryz.isAgg71
  z51 := Tryz.sizeOf71
  v51 := Tryz.zeroValue71
  t160 := Tryz.underlying219
  a160 := Tryz.isAgg219
  z160 := Tryz.sizeOf219
  v160 := Tryz.zeroValue219
  t162 := Tryz.underlying201
  a162 := Tryz.isAgg201
  z162 := Tryz.sizeOf201
  v162 := Tryz.zeroValue201
  t203 := Tryz.underlying199
  a203 := Tryz.isAgg199
  z203 := Tryz.sizeOf199
  v203 := Tryz.zeroValue199
  t206 := Tryz.underlying240
  a206 := Tryz.isAgg240
  z206 := Tryz.sizeOf240
  v206 := Tryz.zeroValue240
  t208 := Tryz.underlying242
  a208 := Tryz.isAgg242
  z208 := Tryz.sizeOf242
  v208 := Tryz.zeroValue242
  g13 := by kernel_rfl }
def Tryz.lays201_ren : Go.Shelf.Ren := ⟨fun | 201 => 67 | 261 => 87 | 311 => 106 | 312 => 107 | n => n, fun | 21 => 21 | 4 => 4 | 51 => 71 | 5 => 5 | 119 => 129 | 0 => 0 | 141 => 170 | 196 => 191 | 193 => 188 | 3 => 3 | 198 => 194 | 49 => 192 | 194 => 189 | 201 => 197 | 226 => 217 | 46 => 149 | 227 => 218 | n => n, fun | 7 => 2 | 9 => 3 | n => n⟩
theorem Tryz.lays201 : Go.Proofs.Lays.n201 Tryz.prog Tryz.lays201_ren := {
  mixed := by kernel_rfl
  f201 := Tryz.func67.trans (congrArg some (by kernel_rfl))
  f261 := Tryz.func87.trans (congrArg some (by kernel_rfl))
  f311 := Tryz.func106.trans (congrArg some (by kernel_rfl))
  f312 := Tryz.func107.trans (congrArg some (by kernel_rfl))
  t0 := Tryz.underlying0
  a0 := Tryz.isAgg0
  z0 := Tryz.sizeOf0
  v0 := Tryz.zeroValue0
  t3 := Tryz.underlying3
  a3 := Tryz.isAgg3
  z3 := Tryz.sizeOf3
  v3 := Tryz.zeroValue3
  t4 := Tryz.underlying4
  a4 := Tryz.isAgg4
  z4 := Tryz.sizeOf4
  v4 := Tryz.zeroValue4
  t5 := Tryz.underlying5
  a5 := Tryz.isAgg5
  z5 := Tryz.sizeOf5
  v5 := Tryz.zeroValue5
  t21 := Tryz.underlying21
  a21 := Tryz.isAgg21
  z21 := Tryz.sizeOf21
  v21 := Tryz.zeroValue21
  t46 := Tryz.underlying149
  a46 := Tryz.isAgg149
  z46 := Tryz.sizeOf149
  v46 := Tryz.zeroValue149
  t49 := Tryz.underlying192
  a49 := Tryz.isAgg192
  z49 := Tryz.sizeOf192
  v49 := Tryz.zeroValue192
  t51 := Tryz.underlying71
  a51 := Tryz.isAgg71
  z51 := Tryz.sizeOf71
  v51 := Tryz.zeroValue71
  t119 := Tryz.underlying129
  a119 := Tryz.isAgg129
  z119 := Tryz.sizeOf129
  t141 := Tryz.underlying170
  a141 := Tryz.isAgg170
  z141 := Tryz.sizeOf170
  v141 := Tryz.zeroValue170
  t193 := Tryz.underlying188
  a193 := Tryz.isAgg188
  z193 := Tryz.sizeOf188
  v193 := Tryz.zeroValue188
  t194 := Tryz.underlying189
  a194 := Tryz.isAgg189
  z194 := Tryz.sizeOf189
  v194 := Tryz.zeroValue189
  t196 := Tryz.underlying191
  a196 := Tryz.isAgg191
  z196 := Tryz.sizeOf191
  v196 := Tryz.zeroValue191
  t198 := Tryz.underlying194
  a198 := Tryz.isAgg194
  z198 := Tryz.sizeOf194
  v198 := Tryz.zeroValue194
  t201 := Tryz.underlying197
  a201 := Tryz.isAgg197
  z201 := Tryz.sizeOf197
  v201 := Tryz.zeroValue197
  t226 := Tryz.underlying217
  a226 := Tryz.isAgg217
  z226 := Tryz.sizeOf217
  v226 := Tryz.zeroValue217
  t227 := Tryz.underlying218
  a227 := Tryz.isAgg218
  z227 := Tryz.sizeOf218
  v227 := Tryz.zeroValue218
  g7 := by kernel_rfl
  g9 := by kernel_rfl }
def Tryz.lays151_ren : Go.Shelf.Ren := ⟨fun | 151 => 45 | 152 => 58 | 137 => 77 | 119 => 78 | 224 => 79 | 225 => 80 | 217 => 95 | 266 => 118 | n => n, fun | 9 => 9 | 21 => 21 | 4 => 4 | 3 => 3 | 5 => 5 | 0 => 0 | 46 => 149 | n => n, fun | n => n⟩
theorem Tryz.lays151 : Go.Proofs.Lays.n151 Tryz.prog Tryz.lays151_ren := {
  mixed := by kernel_rfl
  f119 := Tryz.func78.trans (congrArg some (by kernel_rfl))
  f137 := Tryz.func77.trans (congrArg some (by kernel_rfl))
  f151 := Tryz.func45.trans (congrArg some (by kernel_rfl))
  f152 := Tryz.func58.trans (congrArg some (by kernel_rfl))
  f217 := Tryz.func95.trans (congrArg some (by kernel_rfl))
  f224 := Tryz.func79.trans (congrArg some (by kernel_rfl))
  f225 := Tryz.func80.trans (congrArg some (by kernel_rfl))
  f266 := Tryz.func118.trans (congrArg some (by kernel_rfl))
  t0 := Tryz.underlying0
  a0 := Tryz.isAgg0
  z0 := Tryz.sizeOf0
  v0 := Tryz.zeroValue0
  t3 := Tryz.underlying3
  a3 := Tryz.isAgg3
  z3 := Tryz.sizeOf3
  v3 := Tryz.zeroValue3
  t4 := Tryz.underlying4
  a4 := Tryz.isAgg4
  z4 := Tryz.sizeOf4
  v4 := Tryz.zeroValue4
  t5 := Tryz.underlying5
  a5 := Tryz.isAgg5
  z5 := Tryz.sizeOf5
  v5 := Tryz.zeroValue5
  t9 := Tryz.underlying9
  a9 := Tryz.isAgg9
  z9 := Tryz.sizeOf9
  v9 := Tryz.zeroValue9
  t21 := Tryz.underlying21
  a21 := Tryz.isAgg21
  z21 := Tryz.sizeOf21
  v21 := Tryz.zeroValue21
  t46 := Tryz.underlying149
  a46 := Tryz.isAgg149
  z46 := Tryz.sizeOf149
  v46 := Tryz.zeroValue149 }
open Go.RowKit Go.Lib in
theorem Tryz.strings_ContainsRune_ascii (s : ByteArray) (r : Int) (w : World) (h0 : 0 ≤ r) (h1 : r < 128) :
    Calls Tryz.prog 45 #[.string s, .int .i32 r] w fun e w' => e = .returned (.bool (decide (0 ≤ Lib.indexByte s.data.toList r.toNat.toUInt8))) ∧ w' = w := Any.strings_ContainsRune_ascii Tryz.lays151 s r w h0 h1
def Tryz.lays261_ren : Go.Shelf.Ren := ⟨fun | 261 => 87 | 311 => 106 | 312 => 107 | n => n, fun | 141 => 170 | 21 => 21 | 4 => 4 | 0 => 0 | 196 => 191 | 193 => 188 | 3 => 3 | 51 => 71 | 198 => 194 | 49 => 192 | 194 => 189 | 201 => 197 | 226 => 217 | 46 => 149 | 227 => 218 | n => n, fun | n => n⟩
theorem Tryz.lays261 : Go.Proofs.Lays.n261 Tryz.prog Tryz.lays261_ren := {
  mixed := by kernel_rfl
  f261 := Tryz.func87.trans (congrArg some (by kernel_rfl))
  f311 := Tryz.func106.trans (congrArg some (by kernel_rfl))
  f312 := Tryz.func107.trans (congrArg some (by kernel_rfl))
  t0 := Tryz.underlying0
  a0 := Tryz.isAgg0
  z0 := Tryz.sizeOf0
  v0 := Tryz.zeroValue0
  t3 := Tryz.underlying3
  a3 := Tryz.isAgg3
  z3 := Tryz.sizeOf3
  v3 := Tryz.zeroValue3
  t4 := Tryz.underlying4
  a4 := Tryz.isAgg4
  z4 := Tryz.sizeOf4
  v4 := Tryz.zeroValue4
  t21 := Tryz.underlying21
  a21 := Tryz.isAgg21
  z21 := Tryz.sizeOf21
  v21 := Tryz.zeroValue21
  t46 := Tryz.underlying149
  a46 := Tryz.isAgg149
  z46 := Tryz.sizeOf149
  v46 := Tryz.zeroValue149
  t49 := Tryz.underlying192
  a49 := Tryz.isAgg192
  z49 := Tryz.sizeOf192
  v49 := Tryz.zeroValue192
  t51 := Tryz.underlying71
  a51 := Tryz.isAgg71
  z51 := Tryz.sizeOf71
  v51 := Tryz.zeroValue71
  t141 := Tryz.underlying170
  a141 := Tryz.isAgg170
  z141 := Tryz.sizeOf170
  v141 := Tryz.zeroValue170
  t193 := Tryz.underlying188
  a193 := Tryz.isAgg188
  z193 := Tryz.sizeOf188
  v193 := Tryz.zeroValue188
  t194 := Tryz.underlying189
  a194 := Tryz.isAgg189
  z194 := Tryz.sizeOf189
  v194 := Tryz.zeroValue189
  t196 := Tryz.underlying191
  a196 := Tryz.isAgg191
  z196 := Tryz.sizeOf191
  v196 := Tryz.zeroValue191
  t198 := Tryz.underlying194
  a198 := Tryz.isAgg194
  z198 := Tryz.sizeOf194
  v198 := Tryz.zeroValue194
  t201 := Tryz.underlying197
  a201 := Tryz.isAgg197
  z201 := Tryz.sizeOf197
  v201 := Tryz.zeroValue197
  t226 := Tryz.underlying217
  a226 := Tryz.isAgg217
  z226 := Tryz.sizeOf217
  v226 := Tryz.zeroValue217
  t227 := Tryz.underlying218
  a227 := Tryz.isAgg218
  z227 := Tryz.sizeOf218
  v227 := Tryz.zeroValue218 }
def Tryz.lays262_ren : Go.Shelf.Ren := ⟨fun | 262 => 88 | 313 => 108 | 274 => 127 | 275 => 128 | n => n, fun | 3 => 3 | 21 => 21 | 162 => 201 | 203 => 199 | 4 => 4 | 160 => 219 | 46 => 149 | 0 => 0 | 208 => 242 | 51 => 71 | 206 => 240 | n => n, fun | 13 => 6 | n => n⟩
theorem Tryz.lays262 : Go.Proofs.Lays.n262 Tryz.prog Tryz.lays262_ren := {
  mixed := by kernel_rfl
  f262 := Tryz.func88.trans (congrArg some (by kernel_rfl))
  f274 := Tryz.func127.trans (congrArg some (by kernel_rfl))
  f275 := Tryz.func128.trans (congrArg some (by kernel_rfl))
  f313 := Tryz.func108.trans (congrArg some (by kernel_rfl))
  t0 := Tryz.underlying0
  a0 := Tryz.isAgg0
  z0 := Tryz.sizeOf0
  v0 := Tryz.zeroValue0
  t3 := Tryz.underlying3
  a3 := Tryz.isAgg3
  z3 := Tryz.sizeOf3
  v3 := Tryz.zeroValue3
  t4 := Tryz.underlying4
  a4 := Tryz.isAgg4
  z4 := Tryz.sizeOf4
  v4 := Tryz.zeroValue4
  t21 := Tryz.underlying21
  a21 := Tryz.isAgg21
  z21 := Tryz.sizeOf21
  v21 := Tryz.zeroValue21
  t46 := Tryz.underlying149
  a46 := Tryz.isAgg149
  z46 := Tryz.sizeOf149
  v46 := Tryz.zeroValue149
  t51 := Tryz.underlying71
  a51 := Tryz.isAgg71
  z51 := Tryz.sizeOf71
  v51 := Tryz.zeroValue71
  t160 := Tryz.underlying219
  a160 := Tryz.isAgg219
  z160 := Tryz.sizeOf219
  v160 := Tryz.zeroValue219
  t162 := Tryz.underlying201
  a162 := Tryz.isAgg201
  z162 := Tryz.sizeOf201
  v162 := Tryz.zeroValue201
  t203 := Tryz.underlying199
  a203 := Tryz.isAgg199
  z203 := Tryz.sizeOf199
  v203 := Tryz.zeroValue199
  t206 := Tryz.underlying240
  a206 := Tryz.isAgg240
  z206 := Tryz.sizeOf240
  v206 := Tryz.zeroValue240
  t208 := Tryz.underlying242
  a208 := Tryz.isAgg242
  z208 := Tryz.sizeOf242
  v208 := Tryz.zeroValue242
  g13 := by kernel_rfl }
open Go.RowKit Go.Lib in
theorem Tryz.unicode_ToLower_laid (r : Int) (w : World) (hV : CaseVar 6 caseA w) :
    Calls Tryz.prog 68 #[.int .i32 r] w fun e w' => e = .returned (.int .i32 (toLowerU r)) ∧ ∃ q, w' = w.drewN q := Any.unicode_ToLower_laid Tryz.lays204 r w hV
open Go.RowKit Go.Lib in
theorem Tryz.unicode_ToUpper_laid (r : Int) (w : World) (hV : CaseVar 6 caseA w) :
    Calls Tryz.prog 69 #[.int .i32 r] w fun e w' => e = .returned (.int .i32 (toUpperU r)) ∧ ∃ q, w' = w.drewN q := Any.unicode_ToUpper_laid Tryz.lays203 r w hV
open Go.RowKit Go.Lib in
theorem Tryz.unicode_IsUpper_all (r : Int) (w : World) (hlo : -2147483648 ≤ r) (hhi : r ≤ 2147483647) (htab : Lib.TabIs Tryz.prog w "unicode.properties" .u8 Lib.propertiesTab) (hV : RVar 3 upperT w) :
    Calls Tryz.prog 67 #[.int .i32 r] w fun e w' => e = .returned (.bool (isUpperU r)) ∧ Below w.heap.size w w' := Any.unicode_IsUpper_all Tryz.lays201 (by kernel_rfl) r w hlo hhi htab hV
def Tryz.lays167_ren : Go.Shelf.Ren := ⟨fun | 167 => 17 | 240 => 42 | 276 => 56 | n => n, fun | 0 => 0 | 4 => 4 | 5 => 5 | 9 => 9 | 20 => 20 | 37 => 46 | 70 => 45 | 72 => 48 | 75 => 51 | 80 => 54 | 164 => 118 | n => n, fun | n => n⟩
theorem Tryz.lays167 : Go.Proofs.Lays.n167 Tryz.prog Tryz.lays167_ren := {
  mixed := by kernel_rfl
  f167 := Tryz.func17.trans (congrArg some (by kernel_rfl))
  f240 := Tryz.func42.trans (congrArg some (by kernel_rfl))
  f276 := Tryz.func56.trans (congrArg some (by kernel_rfl))
  t0 := Tryz.underlying0
  a0 := Tryz.isAgg0
  z0 := Tryz.sizeOf0
  v0 := Tryz.zeroValue0
  t4 := Tryz.underlying4
  a4 := Tryz.isAgg4
  z4 := Tryz.sizeOf4
  v4 := Tryz.zeroValue4
  t5 := Tryz.underlying5
  a5 := Tryz.isAgg5
  z5 := Tryz.sizeOf5
  v5 := Tryz.zeroValue5
  t9 := Tryz.underlying9
  a9 := Tryz.isAgg9
  z9 := Tryz.sizeOf9
  v9 := Tryz.zeroValue9
  t20 := Tryz.underlying20
  a20 := Tryz.isAgg20
  z20 := Tryz.sizeOf20
  v20 := Tryz.zeroValue20
  t37 := Tryz.underlying46
  a37 := Tryz.isAgg46
  z37 := Tryz.sizeOf46
  v37 := Tryz.zeroValue46
  t70 := Tryz.underlying45
  a70 := Tryz.isAgg45
  z70 := Tryz.sizeOf45
  v70 := Tryz.zeroValue45
  t72 := Tryz.underlying48
  a72 := Tryz.isAgg48
  z72 := Tryz.sizeOf48
  v72 := Tryz.zeroValue48
  t75 := Tryz.underlying51
  a75 := Tryz.isAgg51
  z75 := Tryz.sizeOf51
  v75 := Tryz.zeroValue51
  t164 := Tryz.underlying118
  a164 := Tryz.isAgg118
  z164 := Tryz.sizeOf118
  v164 := Tryz.zeroValue118 }

theorem Tryz.Builder_Extra_167 : Builder.Extra Tryz.prog Tryz.lays167_ren := {
  sizeBuilder := by kernel_rfl
  liesBuilder := by kernel_rfl
  t5 := Tryz.underlying5
  a5 := Tryz.isAgg5
  z5 := Tryz.sizeOf5
  v5 := Tryz.zeroValue5
  infoByte := by kernel_rfl
  cellsByte := by kernel_rfl
  sizeByte := by kernel_rfl
  neB5 := by decide }
open Go.RowKit in
theorem Tryz.Builder_WriteByte_k (B b : Nat) (bs : List Value) (c : Int) (w : World) (h : Lib.IsBuilderF 48 5 B b bs w) (hlen : bs.length + 1 ≤ 140737488355328) (hBw : B ≤ w.heap.size) :
    Calls Tryz.prog 17 #[.pointer (some ⟨b, 0, none⟩), .int .u8 c] w fun e w' => e = .returned .nilIface ∧ (Lib.BuilderAtF 48 5 B b (.pointer (some ⟨b, 0, none⟩)) (bs ++ [.int .u8 c]) w' ∧ Below B w w' ∧ Lib.OthersKept 5 (some b) w w') := Any.Builder_WriteByte_k Tryz.lays167 Tryz.Builder_Extra_167 B b bs c w h hlen hBw

end Go.Proofs

namespace Go.Proofs.YtodcppoglpfodaaGreatDoor
open Go.Wk
set_option linter.unusedVariables false
section
variable {most : Int} {zs : List Int}
end
end Go.Proofs.YtodcppoglpfodaaGreatDoor
namespace Go.Proofs.YtodcppoglpfodaaGreatDoor
open Go.Wk Go.RowKit
theorem ix_u8 {zs : List Int} (h : ∀ z ∈ zs, InK .u8 z) (j : Int) : 0 ≤ ix 0 zs j ∧ ix 0 zs j ≤ 255 := by
  unfold ix
  cases hz : zs[j.toNat]? with
  | none => rw [List.getD_eq_getElem?_getD, hz]; simp
  | some z =>
    have := bd_u8 (h z (List.mem_of_getElem? hz))
    rw [List.getD_eq_getElem?_getD, hz]; exact this
end Go.Proofs.YtodcppoglpfodaaGreatDoor
namespace Go.Proofs.YtodcppoglpfodaaGreatDoor
open Go.Wk
end Go.Proofs.YtodcppoglpfodaaGreatDoor
namespace Go.Proofs.YtodcppoglpfodaaGreatDoor
open Go.Wk
set_option linter.unusedVariables false
section
variable {R C : Int} {H ps : List Int} {h : Int}
end
end Go.Proofs.YtodcppoglpfodaaGreatDoor
namespace Go.Proofs.YtodcppoglpfodaaGreatDoor
open Go.Wk
set_option linter.unusedVariables false
section
variable {R C : Int} {H ws : List Int} {p : Int}
end
end Go.Proofs.YtodcppoglpfodaaGreatDoor
namespace Go.Proofs.YtodcppoglpfodaaGreatDoor
open Go.Wk
set_option linter.unusedVariables false
section
variable {R C : Int} {H H2 : List Int}
end
end Go.Proofs.YtodcppoglpfodaaGreatDoor

namespace Go.Proofs.YtodcppoglpfodaaGreatDoor
open Go.Wk
set_option linter.unusedVariables false
section
variable {C n : Int}
end
section
variable {R C : Int} {H H2 : List Int}
end
section
variable {A : RelE} {n : Int} {f : Int → Bool}
end
section
variable {R C : Int} {H H2 : List Int}
end
end Go.Proofs.YtodcppoglpfodaaGreatDoor

namespace Go.Proofs.YtodcppoglpfodaaGreatDoor
open Go.Wk Go.RowKit
set_option linter.unusedVariables false
theorem and_mask {y : Int} (h0 : 1 ≤ y) (h1 : y ≤ 40) : bits .and .u64 y 4294967295 = y ∧ y / 2 ^ min (32 : Int).toNat IntKind.u64.bits = 0 := by
  have key : ∀ k : Fin 41, bits .and .u64 ((k.val : Nat) : Int) 4294967295 = ((k.val : Nat) : Int) ∧ ((k.val : Nat) : Int) / 2 ^ min (32 : Int).toNat IntKind.u64.bits = 0 := by decide +kernel
  have := key ⟨y.toNat, by omega⟩
  rw [show ((y.toNat : Nat) : Int) = y by omega] at this
  exact this
theorem rep_first {a : Int} {n : Nat} (h : 1 ≤ n) : List.take (List.replicate n (0 : Int)).length [a] ++ List.drop (min [a].length (List.replicate n (0 : Int)).length) (List.replicate n 0) = List.replicate 1 a ++ List.replicate (n - 1) 0 := by
  obtain ⟨m, rfl⟩ : ∃ m, n = m + 1 := ⟨n - 1, by omega⟩
  simp [List.replicate_succ]
theorem rep_next {a b n : Int} (h1 : 1 ≤ b) (h2 : b < n) :
    List.take (b.toNat * 1) (List.replicate b.toNat a ++ List.replicate (n.toNat - b.toNat) 0) ++
      List.take ((List.replicate b.toNat a ++ List.replicate (n.toNat - b.toNat) 0).length - b.toNat) (List.take b.toNat (List.replicate b.toNat a ++ List.replicate (n.toNat - b.toNat) 0)) ++
      List.drop (b.toNat * 1 + min (List.take b.toNat (List.replicate b.toNat a ++ List.replicate (n.toNat - b.toNat) 0)).length ((List.replicate b.toNat a ++ List.replicate (n.toNat - b.toNat) 0).length - b.toNat)) (List.replicate b.toNat a ++ List.replicate (n.toNat - b.toNat) 0) =
    List.replicate (min (b + b) n).toNat a ++ List.replicate (n.toNat - (min (b + b) n).toNat) 0 := by
  have e1 : List.take b.toNat (List.replicate b.toNat a ++ List.replicate (n.toNat - b.toNat) 0) = List.replicate b.toNat a := by
    rw [List.take_append_of_le_length (by simp)]; simp
  have e2 : (List.replicate b.toNat a ++ List.replicate (n.toNat - b.toNat) (0 : Int)).length = n.toNat := by simp; omega
  rw [Nat.mul_one, e1, e2, List.take_replicate, List.length_replicate, List.replicate_append_replicate]
  rw [List.drop_append, List.drop_eq_nil_of_le (by simp), List.nil_append, List.drop_replicate, List.length_replicate]
  congr 2 <;> omega
section
variable {R C : Int} {H : List Int} {w : Int}
end
end Go.Proofs.YtodcppoglpfodaaGreatDoor

namespace Go.Proofs.YtodcppoglpfodaaGreatDoor
open Go.Wk
set_option linter.unusedVariables false
section
variable {R C : Int} {H : List Int} {h p : Int}
/-! ### basins -/
/-! ### distances, found by going over all neighbours many times -/
variable {r u y : Int} {far : List Int}
end
end Go.Proofs.YtodcppoglpfodaaGreatDoor

namespace Go.Proofs.YtodcppoglpfodaaGreatDoor
open Go.Wk
set_option linter.unusedVariables false
/-! ### slices of slices -/
def mx (yss : List (List Int)) (x y : Int) : Int := ix 0 (ix [] yss x) y
section
variable {N : Int} {yss : List (List Int)}
end
/-! ### the heights of places, and of the river -/
section
variable {R C : Int} {H : List Int}
end
/-! ### how many joints a tree has -/
section
variable {out : List Ends}
end
section
variable {R C : Int} {H : List Int}
end
/-! ### the highest joint between two -/
section
variable {R C : Int} {H : List Int} {k : Int}
variable {ys0 yss : List (List Int)} {p q : Int}
end
/-! ### the lowest ways, found by trying all places in between -/
section
variable {R C : Int} {H : List Int} {yss : List (List Int)} {M p q : Int}
end
end Go.Proofs.YtodcppoglpfodaaGreatDoor

namespace Go.Proofs.YtodcppoglpfodaaGreatDoor
open Go.Wk
set_option linter.unusedVariables false
section
variable {R C : Int} {H : List Int}
end
end Go.Proofs.YtodcppoglpfodaaGreatDoor

namespace Go.Proofs.YtodcppoglpfodaaGreatDoor
open Go.Wk
set_option linter.unusedVariables false
abbrev Rws := List (List Int)
abbrev Tab := List Int
def teN (t : Tab) : Int := ix 0 t 0
def taF (t : Tab) (e : Int) : Int := ix 0 t (1 + e)
def tpF (t : Tab) (e : Int) : Int := ix 0 t (17 + e)
def tnN (t : Tab) : Int := ix 0 t 33
def tabStep (l : List Int) (t : Tab) (j : Int) : Tab := (t.set (1 + ix 0 l j).toNat (ix 0 l ((j + 1) % l.length))).set (17 + ix 0 l j).toNat (tnN t)
def tabIn (l : List Int) (k : Int) (t : Tab) : Tab := (rng 0 k).foldl (tabStep l) t
def tabS (t : Tab) (l : List Int) : Tab := if l.length = 0 then t else ((tabIn l l.length t).set 0 (teN (tabIn l l.length t) + l.length)).set 33 (tnN (tabIn l l.length t) + 1)
def tab0 : Tab := List.replicate 34 0
def tabV (ls : Rws) : Tab := ls.foldl tabS tab0
def itF (f : Int → Int) : Nat → Int → Int
  | 0, x => x
  | k + 1, x => f (itF f k x)
def perF (f : Int → Int) (x : Int) : Nat := ((List.range 17).find? fun k => decide (1 ≤ k) && decide (itF f k x = x)).getD 1
def orbF (f : Int → Int) (x : Int) (k : Nat) : List Int := (List.range k).map fun i => itF f i x
def cycS (f : Int → Int) (s : Rws) (x : Int) : Rws := if s.any (fun l => hasL l x) = true then s else s ++ [orbF f x (perF f x)]
def cycV (ends : Int) (f : Int → Int) : Rws := (rng 0 ends).foldl (cycS f) []
def othL : List Int := [1, 0, 3, 2, 5, 4, 7, 6, 9, 8, 11, 10, 13, 12, 15, 14]
def arndF (t : Tab) (e : Int) : Int := taF t e
def alngF (t : Tab) (e : Int) : Int := taF t (ix 0 othL e)
def labS (s : List Int × Int) (e : Ends) : List Int × Int := if ix 0 s.1 e.1 = ix 0 s.1 e.2 then s else (s.1.map fun x => if x = ix 0 s.1 e.1 then ix 0 s.1 e.2 else x, s.2 - 1)
def labV (n : Int) (es : List Ends) : List Int × Int := es.foldl labS (rng 0 n, n)
def edgT (t : Tab) : List Ends := (rng 0 (teN t / 2)).map fun i => (tpF t (2 * i), tpF t (2 * i + 1))
def partT (t : Tab) : Int := (labV (tnN t) (edgT t)).2
def genT (t : Tab) : Int := partT t - (tnN t - teN t / 2 + (cycV (teN t) (alngF t)).length) / 2
/-! ### six small shores -/
end Go.Proofs.YtodcppoglpfodaaGreatDoor

namespace Go.Wk
open Go.RowKit
set_option linter.unusedVariables false
end Go.Wk

namespace Go.Proofs.YtodcppoglpfodaaGreatDoor
open Go.Wk Go.RowKit Go.Lib Go.Proofs
set_option linter.unusedVariables false
structure Laid (w : World) : Prop where
  oth : ∃ e fz, w.heap[4]? = some (.cells (othL.map (Value.int .i64)).toArray e fz)
  props : TabIs Tryz.prog w "unicode.properties" .u8 propertiesTab
  upper : RVar 3 upperT w
  cases : CaseVar 6 caseA w
theorem cell_ext {w w' : World} (h : Ext w w') {a : Addr} {v : Value} (hc : w.cell? a = some v) : w'.cell? a = some v :=
  (World.cell?_of_block (h.block a.block (World.block_lt_of_cell? w a hc))).trans hc
theorem rgTab_ext {w w' : World} (h : Ext w w') {k : IntKind} {R o : Nat} {T : Array Rg} (ht : RgTab k R o T w) : RgTab k R o T w' := fun i hi => by
  have := ht i hi
  exact ⟨cell_ext h this.1, cell_ext h this.2.1, cell_ext h this.2.2⟩
theorem Laid.ext {w w' : World} (hG : Laid w) (h : Ext w w') : Laid w' := by
  obtain ⟨e, fz, hh⟩ := hG.oth
  refine ⟨⟨e, fz, by rw [h.block 4 (Array.getElem?_eq_some_iff.1 hh).1]; exact hh⟩, ?_, ?_, ?_⟩
  · have hp := hG.props
    unfold TabIs World.var? at hp ⊢
    cases hg : Tryz.prog.globalNamed "unicode.properties" with
    | none => rw [hg] at hp; cases hp
    | some g =>
      rw [hg] at hp
      simp only [Option.bind_some] at hp ⊢
      cases hq : w.heap[g]? with
      | none => rw [hq] at hp; cases hp
      | some o => rw [hq] at hp; rw [h.block g (Array.getElem?_eq_some_iff.1 hq).1, hq]; exact hp
  · obtain ⟨Tb, oT, h1, a16, a32, R16, o16, c16, R32, o32, c32, g1, g2, g3, g4, g5, g6, g7, g8⟩ := hG.upper
    exact ⟨Tb, oT, cell_ext h h1, a16, a32, R16, o16, c16, R32, o32, c32, cell_ext h g1, cell_ext h g2, cell_ext h g3, g4, g5, rgTab_ext h g6, rgTab_ext h g7, g8⟩
  · obtain ⟨R, oR, cap, h1, h2⟩ := hG.cases
    exact ⟨R, oR, cap, cell_ext h h1, fun i hi => by
      have := h2 i hi
      exact ⟨cell_ext h this.1, cell_ext h this.2.1, cell_ext h this.2.2.1, cell_ext h this.2.2.2.1, cell_ext h this.2.2.2.2⟩⟩
theorem oth_bd {e : Int} (h0 : 0 ≤ e) (h1 : e < 16) : 0 ≤ ix 0 othL e ∧ ix 0 othL e < 16 := by
  have h : ∀ k < 16, 0 ≤ ix 0 othL (k : Nat) ∧ ix 0 othL (k : Nat) < 16 := by decide
  have := h e.toNat (by omega)
  rwa [Int.toNat_of_nonneg h0] at this
theorem cyc_len (f : Int → Int) : ∀ (l : List Int) (s : Rws), (l.foldl (cycS f) s).length ≤ s.length + l.length
  | [], s => by simp
  | x :: l, s => by
    have h := cyc_len f l (cycS f s x)
    rw [List.foldl_cons, List.length_cons]
    have : (cycS f s x).length ≤ s.length + 1 := by
      rw [cycS]; split
      · omega
      · rw [List.length_append]; simp
    omega
theorem cycV_len {n : Int} (h : 0 ≤ n) (f : Int → Int) : ((cycV n f).length : Int) ≤ n := by
  have := cyc_len f (rng 0 n) []
  have hr := rng_length h
  simp only [List.length_nil] at this
  show ((List.foldl (cycS f) [] (rng 0 n)).length : Int) ≤ n
  omega
theorem oth_len : (othL.length : Int) = 16 := rfl
end Go.Proofs.YtodcppoglpfodaaGreatDoor

namespace Go.Proofs.YtodcppoglpfodaaGreatDoor.C5
set_option linter.unusedVariables false
open Go.Wk Go.RowKit Go.Lib

def otherU (r : Int) : Int := if isUpperU r = true then toLowerU r else toUpperU r
theorem ret_of_same {P : Program} {f : FuncId} {args : Array Value} {w : World} {v : Value} (h : Calls P f args w fun e w' => e = .returned v ∧ w' = w) : Calls P f args w (Ret w fun r _ => r = v) :=
  h.mono fun e w' ⟨he, hw⟩ => ⟨v, he, by rw [hw]; exact Ext.refl _, rfl⟩
theorem ret_of_below {P : Program} {f : FuncId} {args : Array Value} {w : World} {v : Value} (h : Calls P f args w fun e w' => e = .returned v ∧ Below w.heap.size w w') : Calls P f args w (Ret w fun r _ => r = v) :=
  h.mono fun e w' ⟨he, hw⟩ => ⟨v, he, hw, rfl⟩
theorem F67 {r : Int} {w : World} (i_r : InK .i32 r) (hG : Laid w) : Calls Tryz.prog 67 #[.int .i32 r] w (Ret w fun q _ => q = .bool (isUpperU r)) :=
  ret_of_below (Tryz.unicode_IsUpper_all r w i_r.1 i_r.2 hG.props hG.upper)
theorem F68 {r : Int} {w : World} (_ : InK .i32 r) (hG : Laid w) : Calls Tryz.prog 68 #[.int .i32 r] w (Ret w fun q _ => q = .int .i32 (toLowerU r)) :=
  (Tryz.unicode_ToLower_laid r w hG.cases).mono fun e w' hh => by
    obtain ⟨he, hw⟩ := hh
    exact ⟨_, he, by first | exact hw | (rw [hw]; exact Ext.refl _) | (obtain ⟨q, hq⟩ := hw; rw [hq]; exact below_drewNs w q), rfl⟩
theorem F69 {r : Int} {w : World} (_ : InK .i32 r) (hG : Laid w) : Calls Tryz.prog 69 #[.int .i32 r] w (Ret w fun q _ => q = .int .i32 (toUpperU r)) :=
  (Tryz.unicode_ToUpper_laid r w hG.cases).mono fun e w' hh => by
    obtain ⟨he, hw⟩ := hh
    exact ⟨_, he, by first | exact hw | (rw [hw]; exact Ext.refl _) | (obtain ⟨q, hq⟩ := hw; rw [hq]; exact below_drewNs w q), rfl⟩
theorem F77 {s : ByteArray} {c : Int} {w : World} (_ : s.size ≤ maxLen) (_ : InK .u8 c) : Calls Tryz.prog 77 #[.string s, .int .u8 c] w (Ret w fun q _ => q = .int .i64 (indexByte s.data.toList c.toNat.toUInt8)) :=
  ret_of_same (Tryz.strings_IndexByte s c w)
theorem F78 {r : Int} {w : World} (_ : InK .i32 r) : Calls Tryz.prog 78 #[.int .i32 r] w (Ret w fun q _ => q = .bool (validRune r)) := ret_of_same (Tryz.utf8_ValidRune r w)
/-! ### letters, by the library -/
theorem otherU_let {y : Int} (h : isLet y = true) : otherU y = if y ≤ 90 then y + 32 else y - 32 := by
  simp only [isLet, Bool.or_eq_true, decide_eq_true_eq] at h
  have hl : latin1 y = true := by rw [latin1]; exact decide_eq_true (by omega)
  rw [otherU, isUpperU, if_pos hl, isUpperL]
  by_cases hu : y ≤ 90
  · rw [if_pos (decide_eq_true (by omega)), if_pos hu, toLowerU, if_pos (by omega), if_pos (by omega)]
  · rw [if_neg (by rw [decide_eq_true_eq]; omega), if_neg hu, toUpperU, if_pos (by omega), if_pos (by omega)]
theorem fit_other {x y : Int} (hx : isLet x = true) (hy : isLet y = true) : decide (x = otherU y) = fitC x y := by
  rw [otherU_let hy, fitC]
  simp only [isLet, Bool.or_eq_true, decide_eq_true_eq] at hx hy
  congr 1
  simp only [eq_iff_iff]
  split <;> omega
def hasRune (s : ByteArray) (r : Int) : Bool := decide (0 ≤ r ∧ r < 128) && decide (0 ≤ indexByte s.data.toList r.toNat.toUInt8)
theorem letS_table : ∀ c < 128, decide (0 ≤ indexByte letS.data.toList (c : Nat).toUInt8) = isLet (c : Nat) := by decide +kernel
theorem hasRune_let {r : Int} (h0 : 0 ≤ r) : hasRune letS r = isLet r := by
  rw [hasRune]
  by_cases h : r < 128
  · rw [decide_eq_true ⟨h0, h⟩, Bool.true_and]
    have := letS_table r.toNat (by omega)
    rwa [Int.toNat_of_nonneg h0] at this
  · rw [decide_eq_false (by omega), Bool.false_and]
    symm
    rw [isLet, Bool.or_eq_false_iff, decide_eq_false_iff_not, decide_eq_false_iff_not]
    omega
theorem rune_let {s : ByteArray} {p : Int} (h0 : 0 ≤ p) (h : hasRune letS (runeAt s p) = true) : runeW s p = 1 ∧ isLet (tabAt s p) = true := by
  rw [hasRune_let (runeAt_bd s p).1] at h
  have hb := isLet_bd h
  by_cases ha : tabAt s p < 128
  · have := runeAt_ascii h0 ha
    rw [this.1] at h
    exact ⟨this.2, h⟩
  · have := runeAt_other h0 (by omega : 128 ≤ tabAt s p)
    omega
theorem rune_not {s : ByteArray} {p : Int} (h0 : 0 ≤ p) (h : hasRune letS (runeAt s p) = false) : isLet (tabAt s p) = false := by
  rw [hasRune_let (runeAt_bd s p).1] at h
  cases hl : isLet (tabAt s p) with
  | false => rfl
  | true =>
    have hb := isLet_bd hl
    rw [(runeAt_ascii h0 (by omega)).1, hl] at h
    exact h
theorem index_not : ∀ (l : List UInt8) (c : UInt8), (∀ b ∈ l, b.toNat < 128) → 128 ≤ c.toNat → indexByte l c = -1
  | [], _, _, _ => rfl
  | b :: l, c, h, hc => by
    have hb := h b (List.mem_cons_self ..)
    have hne : (b == c) = false := by
      cases hq : b == c with
      | false => rfl
      | true => rw [eq_of_beq hq] at hb; omega
    rw [indexByte, hne, index_not l c (fun x hx => h x (List.mem_cons_of_mem _ hx)) hc]; rfl
theorem letS_asc : ∀ q : Int, 0 ≤ q → q < letS.size → tabAt letS q < 128 := by
  intro q h0 h1
  have h : ∀ k < 20, tabAt letS (k : Nat) < 128 := by decide +kernel
  have hs : letS.size = 20 := by decide
  have := h q.toNat (by omega)
  rwa [Int.toNat_of_nonneg h0] at this
theorem index_asc {s : ByteArray} {a b : Nat} {c : Int} (h : ∀ q : Int, 0 ≤ q → q < s.size → tabAt s q < 128) (h1 : 128 ≤ c) (h2 : c ≤ 255) : indexByte (s.extract a b).data.toList c.toNat.toUInt8 = -1 := by
  refine index_not _ _ (fun x hx => ?_) ?_
  · have hx2 : x ∈ s.data.toList := by
      rw [ByteArray.data_extract, Array.toList_extract] at hx
      exact List.mem_of_mem_drop (List.mem_of_mem_take hx)
    obtain ⟨k, hk, rfl⟩ := List.mem_iff_getElem.1 hx2
    have := h (k : Int) (by omega) (by have e : s.size = s.data.toList.length := (by simp); omega)
    rw [tabAt, Int.toNat_natCast, List.getD_eq_getElem?_getD, List.getElem?_eq_getElem hk] at this
    simp only [Option.getD_some] at this
    omega
  · rw [Nat.toUInt8, UInt8.toNat_ofNat']; omega
end Go.Proofs.YtodcppoglpfodaaGreatDoor.C5

namespace Go.Proofs.YtodcppoglpfodaaGreatDoor
open Go.Wk Go.RowKit Go.Lib
set_option linter.unusedVariables false
set_option linter.unusedSimpArgs false
theorem mixedHa_ : Tryz.prog.follows .mixedOrders = true := by kernel_rfl

theorem C5.F52 {c : Int} {w : World} (i_c : InK .i32 c) (hG : Laid w) : Calls Tryz.prog 52 #[.int .i32 c] w (Ret w (fun r _ => r = .int .i32 (otherU c))) := by
  have b_c := bd_i32 i_c
  have hS := St.start0 w
  refine enterR Tryz.func52 rfl Tryz.ntmps52 Tryz.results52 rfl ?_
  refine W.seq ?_
  refine W.reg ?_
  refine Wx.rd (v := .int .i32 0) (rd_assign rfl) rfl ?_
  refine Wx.nil ?_
  refine W.seq ?_
  refine W.seq ?_
  refine W.reg ?_
  refine Wx.rd (v := .int .i32 c) (rd_move rfl) rfl ?_
  refine Wx.callF (run_callF Tryz.call67 rfl) (C5.F67 i_c (hG.ext hS.bel)) rfl ?_
  rintro r_1 w_2 hx_3 rfl
  have hS := hS.ext hx_3
  refine Wx.nil ?_
  refine W.cond rfl (fun c0 => ?_) (fun c0 => ?_)
  · -- yes
    try simp only [Bool.and_eq_true, Bool.or_eq_true, Bool.not_eq_true', Bool.and_eq_false_iff, Bool.or_eq_false_iff, Bool.not_eq_false', decide_eq_true_eq, decide_eq_false_iff_not, not_or, Bool.false_eq_true, Bool.true_eq_false, false_or, or_false, not_false_eq_true] at c0
    refine W.seq ?_
    refine W.reg ?_
    refine Wx.rd (v := .int .i32 c) (rd_move rfl) rfl ?_
    refine Wx.callF (run_callF Tryz.call68 rfl) (C5.F68 i_c (hG.ext hS.bel)) rfl ?_
    rintro r_4 w_5 hx_6 rfl
    have hS := hS.ext hx_6
    refine Wx.rd (v := .int .i32 (toLowerU c)) (rd_assign rfl) rfl ?_
    refine Wx.nil ?_
    have e0_0 : (otherU c) = (toLowerU c : Int) := by rw [otherU, if_pos c0]
    exact W.ret ⟨.int .i32 (toLowerU c), ResIs.one, hS.bel, (by rw [e0_0])⟩
  · -- no
    try simp only [Bool.and_eq_true, Bool.or_eq_true, Bool.not_eq_true', Bool.and_eq_false_iff, Bool.or_eq_false_iff, Bool.not_eq_false', decide_eq_true_eq, decide_eq_false_iff_not, not_or, Bool.false_eq_true, Bool.true_eq_false, false_or, or_false, not_false_eq_true] at c0
    refine W.skip ?_
    refine W.seq ?_
    refine W.reg ?_
    refine Wx.rd (v := .int .i32 c) (rd_move rfl) rfl ?_
    refine Wx.callF (run_callF Tryz.call69 rfl) (C5.F69 i_c (hG.ext hS.bel)) rfl ?_
    rintro r_7 w_8 hx_9 rfl
    have hS := hS.ext hx_9
    refine Wx.rd (v := .int .i32 (toUpperU c)) (rd_assign rfl) rfl ?_
    refine Wx.nil ?_
    have e1_0 : (otherU c) = (toUpperU c : Int) := by rw [otherU, if_neg (by rw [c0]; decide)]
    exact W.ret ⟨.int .i32 (toUpperU c), ResIs.one, hS.bel, (by rw [e1_0])⟩

theorem C5.F35 {rim : ByteArray} {i : Int} {j : Int} {w : World} (s_rim : rim.size ≤ maxLen) (i_i : InK .i64 i) (i_j : InK .i64 j) (p_i : 0 ≤ i) (p_i2 : i < rim.size) (p_j : 0 ≤ j) (p_j2 : j < rim.size) (p_l : Lets rim) (hG : Laid w) : Calls Tryz.prog 35 #[.string rim, .int .i64 i, .int .i64 j] w (Ret w (fun r _ => r = .bool (fitR rim i j))) := by
  have b_j := bd_i64 i_j
  have b_i := bd_i64 i_i
  have hS := St.start0 w
  refine enterR Tryz.func35 rfl Tryz.ntmps35 Tryz.results35 rfl ?_
  refine W.seq ?_
  refine W.reg ?_
  refine Wx.rd (v := .bool false) (rd_assign rfl) rfl ?_
  refine Wx.nil ?_
  refine W.seq ?_
  refine W.regQ mixedHa_ (by kernel_rfl) ?_
  refine Wx.rd (v := .string rim) (rd_move rfl) rfl ?_
  refine Wx.rd (v := .int .i64 i) (rd_move rfl) rfl ?_
  refine Wx.rd (v := .int .u8 (tabAt rim i)) (rd_indexS' (by kernel_rfl) rfl Tryz.underlying9 (by omega) (by omega)) rfl ?_
  have bd_1 := tabAt_bd rim i
  refine Wx.rd (v := .int .i32 (tabAt rim i)) (rd_convIn rfl Tryz.underlying5 Tryz.underlying21 (in_i32 (by omega) (by omega))) rfl ?_
  refine Wx.rd (v := .string rim) (rd_move rfl) rfl ?_
  refine Wx.rd (v := .int .i64 j) (rd_move rfl) rfl ?_
  refine Wx.rd (v := .int .u8 (tabAt rim j)) (rd_indexS' (by kernel_rfl) rfl Tryz.underlying9 (by omega) (by omega)) rfl ?_
  have bd_2 := tabAt_bd rim j
  refine Wx.rd (v := .int .i32 (tabAt rim j)) (rd_convIn rfl Tryz.underlying5 Tryz.underlying21 (in_i32 (by omega) (by omega))) rfl ?_
  refine Wx.callV (v := .int .i32 (otherU (tabAt rim j))) (run_callF Tryz.call52 rfl) (fun w_3 hw_4 => (C5.F52 (in_i32 (by omega) (by omega)) (hG.ext (Ext.trans hS.bel hw_4)))) rfl ?_
  refine Wx.rd (v := .bool (decide ((tabAt rim i) = (otherU (tabAt rim j))))) (rd_eql rfl rfl) rfl ?_
  refine Wx.rd (v := .bool (decide ((tabAt rim i) = (otherU (tabAt rim j))))) (rd_assign rfl) rfl ?_
  refine Wx.nilQ (fun w_5 hx_6 => ?_)
  have hS := hS.ext hx_6
  have e0_0 : (fitR rim i j) = (decide ((tabAt rim i) = (otherU (tabAt rim j)))) := by exact (fit_other (p_l i p_i p_i2) (p_l j p_j p_j2)).symm
  exact W.ret ⟨.bool (decide ((tabAt rim i) = (otherU (tabAt rim j)))), ResIs.one, hS.bel, (by rw [e0_0])⟩

theorem C5.F58w {s : ByteArray} {r : Int} {w : World} (s_s : s.size ≤ maxLen) (i_r : InK .i32 r) (p_a : ∀ q : Int, 0 ≤ q → q < s.size → tabAt s q < 128) (p_4 : 4 ≤ s.size) (p_r : 128 ≤ r) : Calls Tryz.prog 58 #[.string s, .int .i32 r] w (Ret w (fun r _ => r = .int .i64 (-1))) := by
  have b_r := bd_i32 i_r
  have hen := encode_last p_r
  have hS := St.start0 w
  refine enterR Tryz.func58 rfl Tryz.ntmps58 Tryz.results58 rfl ?_
  refine W.seq ?_
  refine W.reg ?_
  refine Wx.rd (v := .int .i64 0) (rd_assign rfl) rfl ?_
  refine Wx.nil ?_
  refine W.block ?_
  refine W.seq ?_
  refine W.reg ?_
  refine Wx.rd (v := .int .i32 r) (rd_move rfl) rfl ?_
  refine Wx.rd (v := .bool (decide (0 ≤ r))) (rd_leq rfl rfl) rfl ?_
  refine Wx.rd (v := .bool (decide (0 ≤ r))) (rd_move rfl) rfl ?_
  refine Wx.cut (X := Unit) 3 [164, 165, 166] (fun _ => [(166, .bool (decide (0 ≤ r) && decide (r < 128)))]) (fun _ w' => St w [] w' []) ?_ ?_
  · rcases Bool.eq_false_or_eq_true (decide (0 ≤ r)) with g_1 | g_1
    · -- True
      have gp_2 := of_decide_eq_true g_1
      refine Wx.gyes rfl rfl (congrArg Value.bool g_1) ?_
      refine Wx.rd (v := .int .i32 r) (rd_move rfl) rfl ?_
      refine Wx.gyes rfl rfl (congrArg Value.bool g_1) ?_
      refine Wx.rd (v := .bool (decide (r < 128))) (rd_lss rfl rfl) rfl ?_
      refine Wx.rd (v := .bool (decide (r < 128))) (rd_pickT (congrArg Value.bool g_1) rfl) rfl ?_
      refine Wx.nil ⟨(), hS, ⟨?_, trivial⟩, Out.look rfl Out.refl⟩
      show Value.bool (decide (r < 128)) = Value.bool (decide (0 ≤ r) && decide (r < 128))
      first | rw [g_1, Bool.true_and] | (rw [g_1]; rfl)
    · -- False
      have gp_3 := of_decide_eq_false g_1
      refine Wx.gnoB rfl rfl (congrArg Value.bool g_1) rfl rfl ?_
      refine Wx.gnoB rfl rfl (congrArg Value.bool g_1) rfl rfl ?_
      refine Wx.rd (v := .bool false) (rd_pickF (congrArg Value.bool g_1) rfl) rfl ?_
      refine Wx.nil ⟨(), hS, ⟨?_, trivial⟩, Out.look rfl Out.refl⟩
      show Value.bool false = Value.bool (decide (0 ≤ r) && decide (r < 128))
      first | rw [g_1, Bool.false_and] | (rw [g_1]; rfl)
  rintro ⟨⟩ u_5 w_4 hS
  refine Wx.rd (v := .bool (decide (0 ≤ r) && decide (r < 128))) (rd_assign rfl) rfl ?_
  refine Wx.nil ?_
  refine W.condF rfl (by rw [decide_eq_false (show ¬ r < 128 by omega), Bool.and_false]) ?_
  refine W.seq ?_
  refine W.reg ?_
  refine Wx.rd (v := .int .i32 r) (rd_move rfl) rfl ?_
  refine Wx.rd (v := .bool (decide (r = 65533))) (rd_eql rfl rfl) rfl ?_
  refine Wx.rd (v := .bool (decide (r = 65533))) (rd_assign rfl) rfl ?_
  refine Wx.nil ?_
  refine W.condD rfl (fun c1 => ?_) (fun c1 => ?_)
  · -- yes
    refine W.seq ?_
    refine W.seq ?_
    refine W.reg ?_
    refine Wx.rd (v := .string s) (rd_move rfl) rfl ?_
    refine Wx.rangeS (s := s) hS rfl Tryz.underlying9 rfl (fun g_6 w_7 hx_8 hS => ?_)
    refine Wx.nil ?_
    refine W.block ?_
    refine W.loop [4, 5, 6, 176, 177, 178, 179, 180, 181, 182] (fun (q : Nat) => []) (fun (q : Nat) w' => St w [] w' [.raw g_6 (.stringIter s q)]) (fun (q : Nat) => s.size - q) 0 trivial hS ?_
    rintro q u_10 w_9 hS
    refine W.seq ?_
    refine W.reg ?_
    refine Wx.nextS hS 0 rfl rfl rfl (fun hn w_11 hz_12 hS => ?_) (fun hn => ?_)
    · -- a rune
      have hS : St _ _ w_11 [.raw g_6 (.stringIter s (q + (runeW s (q : Int)).toNat))] := hS
      have hq := p_a (q : Int) (by omega) hn
      refine Wx.rd (v := .bool true) (rd_extract rfl rfl) rfl ?_
      refine Wx.nil ?_
      refine W.seq ?_
      refine W.condT rfl rfl ?_
      refine W.skip ?_
      refine W.block ?_
      refine W.seq ?_
      refine W.reg ?_
      refine Wx.rd (v := .int .i64 (q : Int)) (rd_extract rfl rfl) rfl ?_
      refine Wx.rd (v := .int .i32 (runeAt s (q : Int))) (rd_extract rfl rfl) rfl ?_
      refine Wx.rd (v := .int .i64 (q : Int)) (rd_assign rfl) rfl ?_
      refine Wx.rd (v := .int .i32 (runeAt s (q : Int))) (rd_assign rfl) rfl ?_
      refine Wx.nil ?_
      refine W.seq ?_
      refine W.reg ?_
      refine Wx.rd (v := .int .i32 (runeAt s (q : Int))) (rd_move rfl) rfl ?_
      refine Wx.rd (v := .bool (decide ((runeAt s (q : Int)) = 65533))) (rd_eql rfl rfl) rfl ?_
      refine Wx.nil ?_
      refine W.condF rfl (decide_eq_false (by rw [(runeAt_ascii (by omega) hq).1]; omega)) ?_
      refine W.skip ?_
      refine ⟨q + (runeW s (q : Int)).toNat, (by show s.size - (q + (runeW s (q : Int)).toNat) < s.size - q; have := (runeAt_ascii (by omega) hq).2; omega), ?_, ?_, Out.look rfl Out.self⟩
      · exact hS
      · exact trivial
    · -- the end
      refine Wx.rd (v := .bool false) (rd_extract rfl rfl) rfl ?_
      refine Wx.nil ?_
      refine W.seq ?_
      refine W.condF rfl rfl ?_
      refine W.exit rfl ?_
      refine W.seq ?_
      refine W.reg ?_
      refine Wx.rd (v := .int .i64 (-1)) (rd_assign rfl) rfl ?_
      refine Wx.nil ?_
      exact W.ret ⟨.int .i64 (-1), ResIs.one, hS.bel, rfl⟩
  · -- no
    refine W.seq ?_
    refine W.reg ?_
    refine Wx.rd (v := .int .i32 r) (rd_move rfl) rfl ?_
    refine Wx.callF (run_callF Tryz.call78 rfl) (C5.F78 i_r) rfl ?_
    rintro r_14 w_15 hx_16 rfl
    have hS := hS.ext hx_16
    refine Wx.rd (v := .bool (!(validRune r))) (rd_not rfl) rfl ?_
    refine Wx.rd (v := .bool (!(validRune r))) (rd_assign rfl) rfl ?_
    refine Wx.nil ?_
    refine W.cond rfl (fun c4 => ?_) (fun c4 => ?_)
    · -- yes
      try simp only [Bool.and_eq_true, Bool.or_eq_true, Bool.not_eq_true', Bool.and_eq_false_iff, Bool.or_eq_false_iff, Bool.not_eq_false', decide_eq_true_eq, decide_eq_false_iff_not, not_or, Bool.false_eq_true, Bool.true_eq_false, false_or, or_false, not_false_eq_true] at c4
      refine W.seq ?_
      refine W.reg ?_
      refine Wx.rd (v := .int .i64 (-1)) (rd_assign rfl) rfl ?_
      refine Wx.nil ?_
      exact W.ret ⟨.int .i64 (-1), ResIs.one, hS.bel, rfl⟩
    · -- no
      try simp only [Bool.and_eq_true, Bool.or_eq_true, Bool.not_eq_true', Bool.and_eq_false_iff, Bool.or_eq_false_iff, Bool.not_eq_false', decide_eq_true_eq, decide_eq_false_iff_not, not_or, Bool.false_eq_true, Bool.true_eq_false, false_or, or_false, not_false_eq_true] at c4
      refine W.scope ?_
      refine W.seq ?_
      refine W.reg ?_
      refine Wx.rd (v := .int .i32 r) (rd_move rfl) rfl ?_
      refine Wx.rd (v := .string (Utf8.encode r)) (rd_convRS rfl Tryz.underlying21 Tryz.underlying9) rfl ?_
      refine Wx.rd (v := .string (Utf8.encode r)) (rd_assign rfl) rfl ?_
      refine Wx.nil ?_
      refine W.seq ?_
      refine W.reg ?_
      refine Wx.rd (v := .string (Utf8.encode r)) (rd_move rfl) rfl ?_
      refine Wx.rd (v := .int .i64 ((Utf8.encode r).size : Int)) (rd_lenS rfl Tryz.underlying9) rfl ?_
      refine Wx.rd (v := .int .i64 (((Utf8.encode r).size : Int) - 1)) (rd_sub rfl rfl (in_i64 (by omega) (by omega))) rfl ?_
      refine Wx.rd (v := .int .i64 (((Utf8.encode r).size : Int) - 1)) (rd_assign rfl) rfl ?_
      refine Wx.nil ?_
      refine W.seq ?_
      refine W.reg ?_
      refine Wx.rd (v := .int .i64 (((Utf8.encode r).size : Int) - 1)) (rd_move rfl) rfl ?_
      refine Wx.rd (v := .int .i64 (((Utf8.encode r).size : Int) - 1)) (rd_assign rfl) rfl ?_
      refine Wx.nil ?_
      refine W.seq ?_
      refine W.reg ?_
      refine Wx.rd (v := .int .i64 0) (rd_assign rfl) rfl ?_
      refine Wx.nil ?_
      refine W.seq ?_
      refine W.block ?_
      refine W.loop [4, 9, 10, 11, 12, 23, 24, 25, 26, 27, 28, 29, 30, 31, 32, 33, 34, 35, 36, 37, 38, 39, 40, 41, 42, 43, 44, 45, 46, 47, 48, 49, 50, 51, 52, 53, 54, 55, 56, 57, 58, 59, 60, 61, 62, 63, 64, 65, 66, 67, 68, 69, 70, 71, 72, 73, 74, 75, 76, 77, 78, 79, 80, 81, 82, 83, 84, 85, 86, 87, 88, 89, 90, 91, 92, 93, 94, 95, 96, 97, 98] (fun x : Int × Int => match x with | (i, fails) => [(9, .int .i64 i), (10, .int .i64 fails)]) (fun (x : Int × Int) w' => match x with | (i, fails) => St w [] w' [] ∧ i = (Utf8.encode r).size - 1) (fun x : Int × Int => match x with | (i, fails) => 0) (((Utf8.encode r).size : Int) - 1, 0) ⟨rfl, rfl, trivial⟩ ⟨hS, (by first | omega | simp)⟩ ?_
      rintro ⟨i, fails⟩ u_18 w_17 ⟨hS, h0⟩
      refine W.seq ?_
      refine W.seq ?_
      refine W.reg ?_
      refine Wx.rd (v := .int .i64 i) (rd_move rfl) rfl ?_
      refine Wx.rd (v := .string s) (rd_move rfl) rfl ?_
      refine Wx.rd (v := .int .i64 (s.size : Int)) (rd_lenS rfl Tryz.underlying9) rfl ?_
      refine Wx.rd (v := .bool (decide (i < (s.size : Int)))) (rd_lss rfl rfl) rfl ?_
      refine Wx.nil ?_
      refine W.condT rfl (decide_eq_true (by omega)) ?_
      refine W.skip ?_
      refine W.block ?_
      refine W.scope ?_
      refine W.seq ?_
      refine W.seq ?_
      refine W.regQ mixedHa_ (by kernel_rfl) ?_
      refine Wx.rd (v := .string s) (rd_move rfl) rfl ?_
      refine Wx.rd (v := .int .i64 i) (rd_move rfl) rfl ?_
      refine Wx.rd (v := .int .u8 (tabAt s i)) (rd_indexS' (by kernel_rfl) rfl Tryz.underlying9 (by omega) (by omega)) rfl ?_
      have bd_19 := tabAt_bd s i
      refine Wx.rd (v := .string (Utf8.encode r)) (rd_move rfl) rfl ?_
      refine Wx.rd (v := .int .i64 (((Utf8.encode r).size : Int) - 1)) (rd_move rfl) rfl ?_
      refine Wx.rd (v := .int .u8 (tabAt (Utf8.encode r) (((Utf8.encode r).size : Int) - 1))) (rd_indexS' (by kernel_rfl) rfl Tryz.underlying9 (by omega) (by omega)) rfl ?_
      have bd_20 := tabAt_bd (Utf8.encode r) (((Utf8.encode r).size : Int) - 1)
      refine Wx.rd (v := .bool (decide ((tabAt s i) ≠ (tabAt (Utf8.encode r) (((Utf8.encode r).size : Int) - 1))))) (rd_neq rfl rfl) rfl ?_
      refine Wx.nilQ (fun w_21 hx_22 => ?_)
      have hS := hS.ext hx_22
      refine W.condT rfl (decide_eq_true (by have := p_a i (by omega) (by omega); omega)) ?_
      refine W.seq ?_
      refine W.regQ mixedHa_ (by kernel_rfl) ?_
      refine Wx.rd (v := .string s) (rd_move rfl) rfl ?_
      refine Wx.rd (v := .int .i64 i) (rd_move rfl) rfl ?_
      refine Wx.rd (v := .int .i64 (i + 1)) (rd_add rfl rfl (in_i64 (by omega) (by omega))) rfl ?_
      refine Wx.rd (v := .string ((s).extract (i + 1).toNat s.size)) (rd_sliceS_L Tryz.underlying9 rfl rfl (by omega) (by omega)) rfl ?_
      refine Wx.rd (v := .string (Utf8.encode r)) (rd_move rfl) rfl ?_
      refine Wx.rd (v := .int .i64 (((Utf8.encode r).size : Int) - 1)) (rd_move rfl) rfl ?_
      refine Wx.rd (v := .int .u8 (tabAt (Utf8.encode r) (((Utf8.encode r).size : Int) - 1))) (rd_indexS' (by kernel_rfl) rfl Tryz.underlying9 (by omega) (by omega)) rfl ?_
      have bd_23 := tabAt_bd (Utf8.encode r) (((Utf8.encode r).size : Int) - 1)
      refine Wx.callV (v := .int .i64 (indexByte ((s).extract (i + 1).toNat s.size).data.toList (tabAt (Utf8.encode r) (((Utf8.encode r).size : Int) - 1)).toNat.toUInt8)) (run_callF Tryz.call77 rfl) (fun w_24 hw_25 => (C5.F77 (by first | assumption | (simp only [maxLen]; omega) | (simp only [ByteArray.size_extract, ByteArray.size_append, maxLen] at *; omega) | decide) (in_u8 (by omega) (by omega)))) rfl ?_
      refine Wx.rd (v := .int .i64 (indexByte ((s).extract (i + 1).toNat s.size).data.toList (tabAt (Utf8.encode r) (((Utf8.encode r).size : Int) - 1)).toNat.toUInt8)) (rd_assign rfl) rfl ?_
      refine Wx.nilQ (fun w_26 hx_27 => ?_)
      have hS := hS.ext hx_27
      refine W.seq ?_
      refine W.seq ?_
      refine W.reg ?_
      refine Wx.rd (v := .int .i64 (indexByte ((s).extract (i + 1).toNat s.size).data.toList (tabAt (Utf8.encode r) (((Utf8.encode r).size : Int) - 1)).toNat.toUInt8)) (rd_move rfl) rfl ?_
      refine Wx.rd (v := .bool (decide ((indexByte ((s).extract (i + 1).toNat s.size).data.toList (tabAt (Utf8.encode r) (((Utf8.encode r).size : Int) - 1)).toNat.toUInt8) < 0))) (rd_lss rfl rfl) rfl ?_
      refine Wx.nil ?_
      refine W.condT rfl (decide_eq_true (by rw [index_asc p_a hen.2.2 (tab_le _ _).2]; decide)) ?_
      refine W.seq ?_
      refine W.reg ?_
      refine Wx.rd (v := .int .i64 (-1)) (rd_assign rfl) rfl ?_
      refine Wx.nil ?_
      exact W.ret ⟨.int .i64 (-1), ResIs.one, hS.bel, rfl⟩

theorem C5.F45w {s : ByteArray} {r : Int} {w : World} (s_s : s.size ≤ maxLen) (i_r : InK .i32 r) (p_a : ∀ q : Int, 0 ≤ q → q < s.size → tabAt s q < 128) (p_4 : 4 ≤ s.size) (p_r : 128 ≤ r) : Calls Tryz.prog 45 #[.string s, .int .i32 r] w (Ret w (fun r _ => r = .bool false)) := by
  have b_r := bd_i32 i_r
  have hS := St.start0 w
  refine enterR Tryz.func45 rfl Tryz.ntmps45 Tryz.results45 rfl ?_
  refine W.seq ?_
  refine W.reg ?_
  refine Wx.rd (v := .bool false) (rd_assign rfl) rfl ?_
  refine Wx.nil ?_
  refine W.seq ?_
  refine W.reg ?_
  refine Wx.rd (v := .string s) (rd_move rfl) rfl ?_
  refine Wx.rd (v := .int .i32 r) (rd_move rfl) rfl ?_
  refine Wx.callF (run_callF Tryz.call58 rfl) (C5.F58w (by first | assumption | (simp only [maxLen]; omega) | (simp only [ByteArray.size_extract, ByteArray.size_append, maxLen] at *; omega) | decide) i_r (by omega) (by omega) (by omega)) rfl ?_
  rintro r_1 w_2 hx_3 rfl
  have hS := hS.ext hx_3
  refine Wx.rd (v := .bool false) (Rd.to (v := .bool (decide (0 ≤ ((-1 : Int))))) (rd_geq rfl rfl) rfl) rfl ?_
  refine Wx.rd (v := .bool false) (rd_assign rfl) rfl ?_
  refine Wx.nil ?_
  exact W.ret ⟨.bool false, ResIs.one, hS.bel, rfl⟩
end Go.Proofs.YtodcppoglpfodaaGreatDoor

namespace Go.Proofs.YtodcppoglpfodaaGreatDoor.C5
open Go.Wk Go.RowKit Go.Lib

theorem F45 {s : ByteArray} {r : Int} {w : World} (h1 : s.size ≤ maxLen) (h2 : InK .i32 r) (p_a : ∀ q : Int, 0 ≤ q → q < s.size → tabAt s q < 128) (p_4 : 4 ≤ s.size) (p_0 : 0 ≤ r) :
    Calls Tryz.prog 45 #[.string s, .int .i32 r] w (Ret w fun q _ => q = .bool (hasRune s r)) := by
  by_cases h : r < 128
  · have := ret_of_same (Tryz.strings_ContainsRune_ascii s r w p_0 h)
    rw [hasRune, decide_eq_true (And.intro p_0 h), Bool.true_and]
    exact this
  · have := F45w (w := w) h1 h2 p_a p_4 (by omega)
    rw [hasRune, decide_eq_false (fun q => h q.2), Bool.false_and]
    exact this
end Go.Proofs.YtodcppoglpfodaaGreatDoor.C5

namespace Go.Proofs.YtodcppoglpfodaaGreatDoor.C5
open Go.Wk Go.RowKit Go.Lib Go
set_option linter.unusedVariables false

/-! ### strings by their bytes -/
def byteAt (s : ByteArray) (i : Int) : UInt8 := s.data.toList.getD i.toNat 0
def mkB (l : List UInt8) : ByteArray := ⟨l.toArray⟩
def restV (s : ByteArray) : ByteArray := mkB ((takS s).2.map (byteAt s))
/-! ### the builder -/
theorem bld_start {w0 w : World} {O : List (Option Nat)} {obs : List Ob} {g : Nat} (hS : St w0 O w obs) (i : Nat) (hi : obs[i]? = some (.box g 48 [.pointer none, .slice none 0 0])) : IsBuilderF 48 5 w0.heap.size g (byteCells []) w :=
  .inl ⟨(hS.get i hi).1, .slice none 0 0, (hS.get i hi).2, ⟨rfl, .inl ⟨rfl, rfl⟩⟩, by simp [Value.ownBlock]⟩
theorem bld_block {B b : Nat} {bs : List Value} {w : World} (h : IsBuilderF 48 5 B b bs w) : ∃ cs, w.heap[b]? = some (.cells cs 48 (0, 0)) := by
  rcases h with ⟨_, v, h, _⟩ | ⟨_, v, h, _⟩ <;> exact ⟨_, h⟩
theorem bld_keep {w0 w w' : World} {O : List (Option Nat)} {b : Nat} {bs : List Value} {v : Value} {ys : List Int} (hS : St w0 O w [.row (tI .i64) 3 v ys]) (h : IsBuilderF 48 5 w0.heap.size b bs w) (hB : Below w0.heap.size w w') (hK : OthersKept 5 (some b) w w') : St w0 O w' [.row (tI .i64) 3 v ys] := by
  obtain ⟨cb, hcb⟩ := bld_block h
  obtain ⟨cs, h1, h2⟩ := hS.get 0 rfl
  refine ⟨Below.trans hS.bel hB, hS.olt, fun ob ho => ?_, hS.sep⟩
  rw [List.mem_singleton] at ho
  subst ho
  refine ⟨cs, ⟨h1.1, ?_⟩, h2⟩
  rcases h1.2 with hn | ⟨g, cap, cur, e1, e2, e3, e4⟩
  · exact .inl hn
  · refine .inr ⟨g, cap, cur, e1, e2, hK g _ e3 ?_ ?_, e4⟩
    · intro e
      injection e with e
      rw [e, hcb] at e3
      simp at e3
    · intro c fz e
      simp at e
theorem F17 {B b : Nat} {l : List UInt8} {c : Int} {u : UInt8} {w : World} (h : IsBuilderF 48 5 B b (byteCells l) w) (hc : c = (u.toNat : Int)) (hl : (l.length : Int) ≤ 1000) (hB : B ≤ w.heap.size) :
    Calls Tryz.prog 17 #[.pointer (some ⟨b, 0, none⟩), .int .u8 c] w (Bk fun r w' => r = .nilIface ∧ IsBuilderF 48 5 B b (byteCells (l ++ [u])) w' ∧ Below B w w' ∧ OthersKept 5 (some b) w w') := by
  have := Tryz.Builder_WriteByte_k B b (byteCells l) c w h (by rw [byteCells, List.length_map]; omega) hB
  refine this.mono fun e w' hh => ?_
  obtain ⟨he, h1, h2, h3⟩ := hh
  refine ⟨_, he, rfl, .inr ?_, h2, h3⟩
  subst hc
  have e : byteCells (l ++ [u]) = byteCells l ++ [.int .u8 (u.toNat : Int)] := by simp [byteCells]
  rw [e]; exact h1
theorem F18 {B b : Nat} {l : List UInt8} {w : World} (h : IsBuilderF 48 5 B b (byteCells l) w) (hB : B ≤ w.heap.size) :
    Calls Tryz.prog 18 #[.pointer (some ⟨b, 0, none⟩)] w (Bk fun r w' => r = .string (mkB l) ∧ Below B w w') :=
  (Tryz.Builder_String_any_f B b l w h hB).mono fun e w' hh => ⟨_, hh.1, rfl, hh.2.2⟩
end Go.Proofs.YtodcppoglpfodaaGreatDoor.C5

namespace Go.Proofs.YtodcppoglpfodaaGreatDoor.C5
open Go.Wk Go

def restE (s : ByteArray) : ByteArray := if rimE s = 0 then restV s else ByteArray.empty
def fullP (s : ByteArray) : Bool := decide (rimE s = 0) && (restV s == ByteArray.empty)
def fullR (s : ByteArray) : Bool := if rimE s = 0 then decide (2 * (allV s).1 = s.size) else false
end Go.Proofs.YtodcppoglpfodaaGreatDoor.C5

namespace Go.Proofs.YtodcppoglpfodaaGreatDoor.C5
set_option linter.unusedVariables false

variable {F G : Int → Int → Bool}

end Go.Proofs.YtodcppoglpfodaaGreatDoor.C5

namespace Go.Proofs.YtodcppoglpfodaaGreatDoor.C5
set_option linter.unusedVariables false

variable {F G : Int → Int → Bool}

end Go.Proofs.YtodcppoglpfodaaGreatDoor.C5

namespace Go.Proofs.YtodcppoglpfodaaGreatDoor.C5
set_option linter.unusedVariables false

variable {F G : Int → Int → Bool} {a b n : Int}

def upC (a b q : Int) : Int := if q < a then q else q + (b - a + 1)
def outB (a b : Int) (x : Join) : Bool := decide (x.2 < a) || decide (b < x.1) || (decide (x.1 < a) && decide (b < x.2))
structure Cut (F G : Int → Int → Bool) (a b n : Int) : Prop where
  a0 : 0 ≤ a
  ab : a < b
  bn : b < n
  fit : F a b = true
  eq : ∀ i j, 0 ≤ i → i < n - (b - a + 1) → 0 ≤ j → j < n - (b - a + 1) → G i j = F (upC a b i) (upC a b j)
end Go.Proofs.YtodcppoglpfodaaGreatDoor.C5

namespace Go.Proofs.YtodcppoglpfodaaGreatDoor.C5
set_option linter.unusedVariables false

def stk : List Int → Int → List Int
  | [], c => [c]
  | t :: r, c => if t + c = 0 then r else c :: t :: r
def runK (st w : List Int) : List Int := w.foldl stk st
def redK (w : List Int) : List Int := runK [] w
def Irr : List Int → Prop
  | t :: u :: r => t + u ≠ 0 ∧ Irr (u :: r)
  | _ => True
theorem Irr.tl {t : Int} {r : List Int} (h : Irr (t :: r)) : Irr r := by
  cases r with
  | nil => trivial
  | cons u r => exact h.2
theorem stk_irr {st : List Int} {c : Int} (h : Irr st) : Irr (stk st c) := by
  cases st with
  | nil => trivial
  | cons t r =>
    rw [stk]; split
    · exact h.tl
    · next hn => exact ⟨by omega, h⟩
theorem stk_two {st : List Int} {a b : Int} (h : Irr st) (hab : a + b = 0) : stk (stk st a) b = st := by
  cases st with
  | nil => rw [stk, stk, if_pos hab]
  | cons t r =>
    rw [stk]; split
    · next ht =>
      have e : b = t := by omega
      subst e
      cases r with
      | nil => rfl
      | cons u r => rw [stk, if_neg (by have := h.1; omega)]
    · rw [stk, if_pos hab]
theorem runK_app (st u v : List Int) : runK st (u ++ v) = runK (runK st u) v := List.foldl_append
theorem runK_cons (st : List Int) (c : Int) (v : List Int) : runK st (c :: v) = runK (stk st c) v := rfl
theorem runK_bottom {c : Int} : ∀ {w t : List Int}, runK (t ++ [c]) w = [] → ∃ u d v, w = u ++ d :: v ∧ runK t u = [] ∧ c + d = 0 ∧ redK v = []
  | [], t, h => by
    have h : t ++ [c] = [] := h
    simp at h
  | d :: w, [], h => by
    rw [List.nil_append, runK_cons, stk] at h
    by_cases hc : c + d = 0
    · rw [if_pos hc] at h
      exact ⟨[], d, w, rfl, rfl, hc, h⟩
    · rw [if_neg hc] at h
      obtain ⟨u, e, v, h1, h2, h3, h4⟩ := runK_bottom (c := c) (w := w) (t := [d]) h
      exact ⟨d :: u, e, v, by rw [h1]; rfl, h2, h3, h4⟩
  | d :: w, t0 :: t, h => by
    rw [List.cons_append, runK_cons, stk] at h
    by_cases hc : t0 + d = 0
    · rw [if_pos hc] at h
      obtain ⟨u, e, v, h1, h2, h3, h4⟩ := runK_bottom (c := c) (w := w) (t := t) h
      exact ⟨d :: u, e, v, by rw [h1]; rfl, by rw [runK_cons, stk, if_pos hc]; exact h2, h3, h4⟩
    · rw [if_neg hc] at h
      obtain ⟨u, e, v, h1, h2, h3, h4⟩ := runK_bottom (c := c) (w := w) (t := d :: t0 :: t) h
      exact ⟨d :: u, e, v, by rw [h1]; rfl, by rw [runK_cons, stk, if_neg hc]; exact h2, h3, h4⟩
theorem red_split {c : Int} {w : List Int} (h : redK (c :: w) = []) : ∃ u d v, w = u ++ d :: v ∧ redK u = [] ∧ c + d = 0 ∧ redK v = [] := runK_bottom (t := []) h
theorem runK_nil : ∀ (m : Nat) {u st : List Int}, u.length ≤ m → redK u = [] → Irr st → runK st u = st
  | _, [], _, _, _, _ => rfl
  | 0, _ :: _, _, hm, _, _ => by simp at hm
  | m + 1, c :: w, st, hm, h, hi => by
    obtain ⟨u, d, v, rfl, h1, h2, h3⟩ := red_split h
    simp only [List.length_cons, List.length_append] at hm
    rw [runK_cons, runK_app, runK_nil m (by omega) h1 (stk_irr hi), runK_cons, stk_two hi h2, runK_nil m (by omega) h3 hi]
theorem redK_wrap {c d : Int} {u v : List Int} (h : redK u = []) (hcd : c + d = 0) (k : redK v = []) : redK (c :: (u ++ d :: v)) = [] := by
  rw [redK, runK_cons, runK_app, runK_nil _ (Nat.le_refl _) h (show Irr (stk [] c) from trivial), runK_cons, stk_two (st := []) trivial hcd]; exact k
/-! ### plans and words -/
variable {F : Int → Int → Bool} {wt : Int → Int} {N : Int}
def Fits (F : Int → Int → Bool) (wt : Int → Int) (N : Int) : Prop := ∀ i j, 0 ≤ i → i < N → 0 ≤ j → j < N → F i j = decide (wt i + wt j = 0)
theorem plan_of_red (hF : Fits F wt N) : ∀ (m : Nat) {L : List Int} {lo hi : Int}, L.length ≤ m → 0 ≤ lo → hi ≤ N → L.Pairwise (· < ·) → (∀ x ∈ L, lo ≤ x ∧ x < hi) → redK (L.map wt) = [] → ∃ p, Plan F lo hi p ∧ 2 * p.length = L.length
  | _, [], _, _, _, _, _, _, _, _ => ⟨[], Plan.nil, rfl⟩
  | 0, _ :: _, _, _, hm, _, _, _, _, _ => by simp at hm
  | m + 1, i :: L, lo, hi, hm, n0, n1, ha, hb, h => by
    obtain ⟨u, d, v, e, h1, h2, h3⟩ := red_split (w := L.map wt) h
    obtain ⟨L1, L', rfl, rfl, e2⟩ := List.map_eq_append_iff.1 e
    obtain ⟨j, L2, rfl, rfl, rfl⟩ := List.map_eq_cons_iff.1 e2
    obtain ⟨a1, a2⟩ := List.pairwise_cons.1 ha
    obtain ⟨a3, a4, a5⟩ := List.pairwise_append.1 a2
    obtain ⟨a6, a7⟩ := List.pairwise_cons.1 a4
    simp only [List.length_cons, List.length_append] at hm
    have hi0 := hb i List.mem_cons_self
    have hj0 := hb j (by simp)
    obtain ⟨p, hp, lp⟩ := plan_of_red hF m (L := L1) (lo := i + 1) (hi := j) (by omega) (by omega) (by omega) a3 (fun x hx => ⟨by have := a1 x (List.mem_append_left _ hx); omega, a5 x hx j List.mem_cons_self⟩) h1
    obtain ⟨q, hq, lq⟩ := plan_of_red hF m (L := L2) (lo := j + 1) (hi := hi) (by omega) (by omega) (by omega) a7 (fun x hx => ⟨by have := a6 x hx; omega, (hb x (by simp [hx])).2⟩) h3
    refine ⟨(i, j) :: (p ++ q), (plan_cons (a1 j (by simp)) hj0.2 (by rw [hF i j (by omega) (by omega) (by omega) (by omega)]; exact decide_eq_true h2) hp hq).wide hi0.1 (Int.le_refl _), ?_⟩
    simp only [List.length_cons, List.length_append]; omega
theorem rng_split {i j n : Int} (h1 : i ≤ j) (h2 : j ≤ n) : rng i n = rng i j ++ rng j n := by
  have : ∀ (m : Nat) (i : Int), (j - i).toNat = m → i ≤ j → rng i n = rng i j ++ rng j n := by
    intro m
    induction m with
    | zero => intro i hm hi; rw [show i = j by omega, rng_nil (Int.le_refl j)]; rfl
    | succ m ih => intro i hm hi; rw [rng_cons (i := i) (n := n) (by omega), rng_cons (i := i) (n := j) (by omega), ih (i + 1) (by omega) (by omega)]; rfl
  exact this _ i rfl h1
theorem used_mem {l : List Join} {i : Int} : usedB l i = true ↔ ∃ x ∈ l, x.1 = i ∨ x.2 = i := by
  simp only [usedB, List.any_eq_true, Bool.or_eq_true, decide_eq_true_eq]
theorem filter_congr' {α : Type} {f g : α → Bool} {l : List α} (h : ∀ x ∈ l, f x = g x) : l.filter f = l.filter g := List.filter_congr h
theorem bool_iff {a b : Bool} (h : a = true ↔ b = true) : a = b := by cases a <;> cases b <;> simp_all
theorem red_of_plan (hF : Fits F wt N) : ∀ (m : Nat) {lo hi : Int} {p : List Join}, (hi - lo).toNat ≤ m → 0 ≤ lo → hi ≤ N → p ∈ plansP F lo hi → redK (((rng lo hi).filter (usedB p)).map wt) = [] ∧ ((rng lo hi).filter (usedB p)).length = 2 * p.length
  | m, lo, hi, p, hm, n0, n1, hp => by
    by_cases hle : hi ≤ lo
    · rw [plansP_nil hle, List.mem_singleton] at hp
      subst hp
      rw [rng_nil hle]; exact ⟨rfl, rfl⟩
    · cases m with
      | zero => omega
      | succ m =>
        rw [plansP_eq (by omega), List.mem_append] at hp
        rcases hp with hp | hp
        · obtain ⟨j, hj, hp⟩ := List.mem_flatMap.1 hp
          rw [rng_mem] at hj
          split at hp
          · next hf =>
            obtain ⟨p1, h1, hp⟩ := List.mem_flatMap.1 hp
            obtain ⟨p2, h2, rfl⟩ := List.mem_map.1 hp
            have b1 := (mem_plans.1 h1).1
            have b2 := (mem_plans.1 h2).1
            obtain ⟨r1, l1⟩ := red_of_plan hF m (by omega) (by omega) (by omega) h1
            obtain ⟨r2, l2⟩ := red_of_plan hF m (by omega) (by omega) (by omega) h2
            have hu0 : usedB ((lo, j) :: (p1 ++ p2)) lo = true := used_mem.2 ⟨(lo, j), by simp, .inl rfl⟩
            have hu1 : usedB ((lo, j) :: (p1 ++ p2)) j = true := used_mem.2 ⟨(lo, j), by simp, .inr rfl⟩
            have e1 : (rng (lo + 1) j).filter (usedB ((lo, j) :: (p1 ++ p2))) = (rng (lo + 1) j).filter (usedB p1) := filter_congr' fun q hq => by
              rw [rng_mem] at hq
              refine bool_iff ?_
              rw [used_mem, used_mem]
              constructor
              · rintro ⟨x, hx, hxq⟩
                rcases List.mem_cons.1 hx with rfl | hx
                · exfalso; rcases hxq with h | h <;> (simp only at h; omega)
                · rcases List.mem_append.1 hx with hx | hx
                  · exact ⟨x, hx, hxq⟩
                  · have := b2 x hx; omega
              · rintro ⟨x, hx, hxq⟩; exact ⟨x, by simp [hx], hxq⟩
            have e2 : (rng (j + 1) hi).filter (usedB ((lo, j) :: (p1 ++ p2))) = (rng (j + 1) hi).filter (usedB p2) := filter_congr' fun q hq => by
              rw [rng_mem] at hq
              refine bool_iff ?_
              rw [used_mem, used_mem]
              constructor
              · rintro ⟨x, hx, hxq⟩
                rcases List.mem_cons.1 hx with rfl | hx
                · exfalso; rcases hxq with h | h <;> (simp only at h; omega)
                · rcases List.mem_append.1 hx with hx | hx
                  · have := b1 x hx; omega
                  · exact ⟨x, hx, hxq⟩
              · rintro ⟨x, hx, hxq⟩; exact ⟨x, by simp [hx], hxq⟩
            rw [rng_cons (by omega), rng_split (i := lo + 1) (j := j) (by omega) (by omega), rng_cons (i := j) (by omega), List.filter_cons, if_pos hu0, List.filter_append, List.filter_cons, if_pos hu1, e1, e2]
            rw [hF lo j (by omega) (by omega) (by omega) (by omega), decide_eq_true_eq] at hf
            constructor
            · rw [List.map_cons, List.map_append, List.map_cons]; exact redK_wrap r1 hf r2
            · simp only [List.length_cons, List.length_append]; omega
          · cases hp
        · obtain ⟨r1, l1⟩ := red_of_plan hF m (by omega) (by omega) (by omega) hp
          have b1 := (mem_plans.1 hp).1
          have hu : ¬ usedB p lo = true := fun h => by
            obtain ⟨x, hx, hxq⟩ := used_mem.1 h
            have := b1 x hx; omega
          rw [rng_cons (by omega), List.filter_cons, if_neg hu]
          exact ⟨r1, l1⟩
theorem rng_length {i n : Int} (h : i ≤ n) : ((rng i n).length : Int) = n - i := by rw [rng, List.length_map, List.length_range]; omega
theorem full_iff (hF : Fits F wt N) {lo hi : Int} (n0 : 0 ≤ lo) (h : lo ≤ hi) (n1 : hi ≤ N) : 2 * (partP F lo hi).1 = hi - lo ↔ redK ((rng lo hi).map wt) = [] := by
  have hb := best_all F lo hi
  constructor
  · intro e
    obtain ⟨p, hp, lp⟩ := hb.1
    obtain ⟨r, l⟩ := red_of_plan hF _ (Nat.le_refl _) n0 n1 hp
    have hl := rng_length h
    have : (rng lo hi).filter (usedB p) = rng lo hi := List.filter_eq_self.2 (List.length_filter_eq_length_iff.1 (by omega))
    rw [← this]; exact r
  · intro e
    obtain ⟨p, hp, lp⟩ := plan_of_red hF _ (Nat.le_refl _) n0 n1 (rng_asc lo hi) (fun x hx => rng_mem.1 hx) e
    have h1 := hb.2.1 p (mem_plans.2 hp)
    have hl := rng_length h
    obtain ⟨q, hq, lq⟩ := hb.1
    have := plan_len h (mem_plans.1 hq)
    omega
end Go.Proofs.YtodcppoglpfodaaGreatDoor.C5

namespace Go.Proofs.YtodcppoglpfodaaGreatDoor.C5
set_option linter.unusedVariables false

def redW (w : List Int) : List Int := (redK w).reverse
end Go.Proofs.YtodcppoglpfodaaGreatDoor.C5
