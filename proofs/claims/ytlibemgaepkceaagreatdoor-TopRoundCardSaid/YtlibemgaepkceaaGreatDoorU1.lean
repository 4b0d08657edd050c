/-
  WHAT IS PROVED HERE, TEXT BY TEXT (several texts of one prover, joined to one file; the conditions stand in each statement):
  * WHAT IS PROVED HERE: the rules of a walk over a function's code whose frame is a plain function from slots to values: entering, sequences, tests, blocks, loops, regions. Conditions: none; they hold over any program.
  * WHAT IS PROVED HERE: what values stand for in memory (numbers, truth values, strings, slices, structs), the memory that a call owns, and how both are kept when memory grows or is written. Conditions: none; they hold over any program.
  * WHAT IS PROVED HERE: what each operation that leaves memory alone yields: numbers, tests, loads, addresses, lengths, slices of slices. Conditions stand in each statement; they hold over any program.
  * WHAT IS PROVED HERE: what each operation that makes or writes memory leaves behind: new variables, stores, literals of slices, make, append, copy. Conditions stand in each statement (bounds on sizes); they hold over any program.
  * WHAT IS PROVED HERE: regions that draw their order: quiet operations first, and behind them a tail that has one order (a store, a copy); or operations that make memory, whose orders are walked one by one. Conditions: Bools over the region's text, computed; they hold over any program.
  * WHAT IS PROVED HERE: calls that write variables, or slices, of the caller's own, which are lent to them: the state of the caller goes in and comes back. Conditions stand in each statement; they hold over any program.
  * WHAT IS PROVED HERE: more operations: part of an array that lies in a variable, as a slice; a slice compared with nil. Conditions stand in each statement; they hold over any program.
  * WHAT IS PROVED HERE: more operations: an element of an array of numbers at a number that is not written out; slices that do not change, compared with nil. Conditions stand in each statement; they hold over any program.
  * WHAT IS PROVED HERE: rows that a call makes and hands back, whose elements may be slices; elements taken out of a row in its own place; zeroes put behind a row. Conditions stand in each statement; they hold over any program.
  * WHAT IS PROVED HERE: one half of a pair in a row of the call's own; a table of values in a variable, read and written at a number that is not written out. Conditions stand in each statement; they hold over any program.
  * WHAT IS PROVED HERE: strings that are gone through, rune by rune. Conditions stand in each statement; they hold over any program.
  * WHAT IS PROVED HERE: a variable that holds a string and a table of pairs, 13 times 13: what is read from it, what it holds after a pair is written. Conditions stand in each statement; they hold over any program.
  * WHAT IS PROVED HERE: a string's runes as a slice of the call's own, and a string made of a slice of runes. Conditions stand in each statement; they hold over any program.
  * WHAT IS PROVED HERE: a range over a function: the record of the loop and the block for deferred calls are objects of the call; the body is walked once; what an iterator promises. Conditions stand in each statement; they hold over any program.
  * WHAT IS PROVED HERE: an iterator calls the loop's own function. Conditions stand in each statement; they hold over any program.
  * WHAT IS PROVED HERE: objects in another order; an element of an array of numbers, at a number that is not written out. Conditions stand in each statement; they hold over any program.
  * WHAT IS PROVED HERE: a region that draws its order, over whatever class of worlds; a class of worlds that differ from one only in how much was drawn. Nothing here speaks of a program.
  * WHAT IS PROVED HERE: a slice of the call's own is written whole by a callee that sorts it. Nothing here speaks of a program.
  * WHAT IS PROVED HERE: the tail of a slice of the call's own, elements of one cell, is put in another order by a callee. Nothing here speaks of a program.
-/
import Derived.Tactics
import Derived.Deep.Quiet
import Derived.Deep.LoopGhost
import Derived.StillTail
import Derived.Below
import Derived.OrdersIn
import Derived.TacticsIn
import Derived.RangeFuncCalls
import Derived.Sort.LoopGhostIn
import Derived.Laws.AppendOwn
import Derived.Laws.OwnMore
import Derived.Maps.AppendAt
import Derived.WalkKit
import Derived.Laws.StructEq
import Derived.Laws.Shifts
import Derived.OrdersHeld
import Derived.Deep.Onto
import Derived.WalkSpells
import Derived.Laws.Cover3
import Derived.Lib.OthersKept
import Derived.Scope
import Derived.Laws.Cover4
import Derived.Laws.IdiomStrings
import Derived.RangeFuncRecord
import Derived.RangeFuncSeq
import Derived.Sort.Grow
import Derived.Deep.Draws
import Derived.Sort.Row
import Derived.Shelf.GgSortFunc.InsertionK
import Derived.Shelf.SlSortCmp.Whole1

set_option linter.unusedVariables false
set_option linter.unusedSimpArgs false

namespace Go.Wk
open Go.RowKit

abbrev Fr := Nat → Value
abbrev Cont := Fr → World → Prop

def look : List (Nat × Value) → Fr → Fr
  | [], σ, i => σ i
  | (d, v) :: l, σ, i => bif Nat.beq i d then v else look l σ i

def ev (σ : Fr) : Operand → Value
  | .tmp t => σ t
  | .const v => v
  | .global g => .pointer (some ⟨g, 0, none⟩)
  | .func f => .func (.func f) #[] #[]

def put (σ : Fr) : Option Tmp → Value → Fr
  | none, _ => σ
  | some d, v => look [(d, v)] σ

theorem look_cons (d : Nat) (v : Value) (l : List (Nat × Value)) (σ : Fr) : look ((d, v) :: l) σ = look [(d, v)] (look l σ) := by
  funext i
  simp [look]

def AtF (n : Nat) (σ : Fr) (T : Array Value) : Prop := T.size = n ∧ ∀ i, T.getD i undef = σ i

theorem AtF.eval {n : Nat} {σ : Fr} {T : Array Value} (h : AtF n σ T) (ds : List Deferred) : (Act.mk T ds).eval = ev σ := by
  funext x
  cases x with
  | tmp t => exact h.2 t
  | const v => rfl
  | global g => rfl
  | func f => rfl

def dstIn (n : Nat) : Option Tmp → Bool
  | none => true
  | some d => Nat.ble (d + 1) n

theorem AtF.put {n : Nat} {σ : Fr} {T : Array Value} (h : AtF n σ T) (dst : Option Tmp) (v : Value) (hd : dstIn n dst = true) (ds : List Deferred) :
    ∃ T', (Act.mk T ds).put dst v = ⟨T', ds⟩ ∧ AtF n (Wk.put σ dst v) T' := by
  cases dst with
  | none => exact ⟨T, rfl, h⟩
  | some d =>
    refine ⟨T.setIfInBounds d v, rfl, by simpa using h.1, fun i => ?_⟩
    have hdn : d < T.size := by
      have : d + 1 ≤ n := Nat.le_of_ble_eq_true hd
      rw [h.1]; exact this
    simp only [Wk.put, look]
    by_cases hi : i = d
    · subst hi
      simp [Array.getD, hdn]
    · have hb : Nat.beq i d = false := by
        cases hq : Nat.beq i d with
        | false => rfl
        | true => exact absurd (Nat.eq_of_beq_eq_true hq) hi
      rw [hb]
      have := h.2 i
      simp only [cond_false]
      rw [← this]
      simp only [Array.getD_eq_getD_getElem?]
      rw [Array.getElem?_setIfInBounds_ne (Ne.symm hi)]

def findEx (id : Nat) : List (Nat × Cont) → Option Cont
  | [] => none
  | (i, k) :: l => bif Nat.beq id i then some k else findEx id l

def post (n : Nat) (kn kr : Cont) (ke : List (Nat × Cont)) : Exit → Act → World → Prop
  | .normal, a, w => a.tmps.size = n ∧ a.defers = [] ∧ kn (fun i => a.tmps.getD i undef) w
  | .ret, a, w => a.tmps.size = n ∧ a.defers = [] ∧ kr (fun i => a.tmps.getD i undef) w
  | .exit id, a, w => a.tmps.size = n ∧ a.defers = [] ∧ match findEx id ke with
    | some k => k (fun i => a.tmps.getD i undef) w
    | none => False
  | _, _, _ => False

def postD (n : Nat) (ds : List Deferred) (kn kr : Cont) (ke : List (Nat × Cont)) : Exit → Act → World → Prop
  | .normal, a, w => a.tmps.size = n ∧ a.defers = ds ∧ kn (fun i => a.tmps.getD i undef) w
  | .ret, a, w => a.tmps.size = n ∧ a.defers = ds ∧ kr (fun i => a.tmps.getD i undef) w
  | .exit id, a, w => a.tmps.size = n ∧ a.defers = ds ∧ match findEx id ke with
    | some k => k (fun i => a.tmps.getD i undef) w
    | none => False
  | _, _, _ => False

def ringF (r : Option Nat) : Fence := { Fence.wide with round := r }

def W (P : Program) (n : Nat) (c : Code) (kn kr : Cont) (ke : List (Nat × Cont)) (σ : Fr) (w : World) : Prop :=
  ∀ T, AtF n σ T → ∀ (r : Option Nat) (ds : List Deferred) (m : Nat), c.wpIn (ringF r) m P (postD n ds kn kr ke) ⟨T, ds⟩ w

/-! ### From a walk out of rounds to one in a round -/
theorem callsIn_ring {r : Option Nat} {m : Nat} {P : Program} {f : FuncId} {args : Array Value} {w : World} {R : Ending → World → Prop} (h : Calls P f args w R) : CallsIn (ringF r) m P f args w R := by
  cases r with
  | none => exact callsIn_wide.2 h
  | some l => exact CallsIn.inRound l (callsIn_wide.2 h)
theorem rowsIn_ring {r : Option Nat} {m : Nat} {P : Program} {row : String} {args : Array Value} {w : World} {R : Value → World → Prop} (h : Rows P row args w R) : RowsIn (ringF r) m P row args w R :=
  fun c cs _ => let ⟨v, w', hR, s⟩ := h c cs; ⟨v, w', hR, (StepsIn.of_steps s).mono fun mm _ g hg => (fenced_wide P mm) g hg⟩
def noDefer : List Oper → Bool
  | [] => true
  | o :: l => (match o.op with | .defer _ => false | _ => true) && noDefer l
theorem noDefer_mem : ∀ {l : List Oper}, noDefer l = true → ∀ o ∈ l, ∀ c, o.op ≠ .defer c
  | [], _, _, ho => nomatch ho
  | x :: l, h, o, ho => by
    simp only [noDefer, Bool.and_eq_true] at h
    rcases List.mem_cons.1 ho with rfl | ho
    · intro c e; rw [e] at h; exact Bool.noConfusion h.1
    · exact noDefer_mem h.2 o ho
def withD (ds : List Deferred) (a : Act) : Act := { a with defers := a.defers ++ ds }
theorem withD_eval (ds : List Deferred) (a : Act) : (withD ds a).eval = a.eval := by funext x; cases x <;> rfl
theorem withD_put (ds : List Deferred) (a : Act) (d : Option Tmp) (v : Value) : (withD ds a).put d v = withD ds (a.put d v) := by cases d <;> rfl
section
variable {P : Program} {ops : Array Oper} {Q Q' : Exit → Act → World → Prop} {r : Option Nat} {m : Nat} {ds : List Deferred}
theorem oper_ring {o : Oper} (hnd : ∀ c, o.op ≠ .defer c) (hp : ∀ c a w, ¬ Q (.panic c) a w) (ho : ∀ a w, ¬ Q .outgrown a w) {K K' : Act → World → Prop} (hK : ∀ a w, K a w → K' (withD ds a) w) {a : Act} {w : World}
    (h : o.wp P a w K Q ∨ (o.asks P a w ∧ LetsOut Q)) : o.wpIn (ringF r) m P (withD ds a) w K' Q' := by
  have h := h.resolve_right fun ⟨_, a, w, h⟩ => ho a w h
  refine ⟨fun _ _ => trivial, ?_⟩
  rw [Oper.semAt_eq _ _ _ hnd, withD_eval]
  unfold Oper.wp at h
  generalize (execOp a.eval o).run P w = res at h ⊢
  cases res with
  | ok nx w' =>
    cases nx <;> simp only [Oper.upon, Oper.uponIn] at h ⊢
    case value u => rw [withD_put]; exact hK _ _ h
    case skip => rw [withD_put]; exact hK _ _ h
    case defer d =>
      have := hK _ _ h
      rw [← withD_put] at this
      exact this
    case enter f args =>
      refine ⟨fun hh => (nomatch hh), callsIn_ring (Calls.mono h fun e w'' he => ?_)⟩
      cases e with
      | returned u => show K' ((withD ds a).put o.dst u) w''; rw [withD_put]; exact hK _ _ he
      | panicked c => exact (hp _ _ _ he).elim
      | outgrown => obtain ⟨_, _, he⟩ := he; exact (ho _ _ he).elim
    case row row args => exact ⟨fun hh => (nomatch hh), rowsIn_ring (Rows.mono h fun u w'' he => by rw [withD_put]; exact hK _ _ he)⟩
  | halt x w' =>
    cases x <;> simp only [Oper.upon, Oper.uponIn] at h ⊢
    case panic u => exact (hp _ _ _ h).elim
theorem wpList_ring (hQ : ∀ a w, Q .normal a w → Q' .normal (withD ds a) w) (hp : ∀ c a w, ¬ Q (.panic c) a w) (ho : ∀ a w, ¬ Q .outgrown a w) :
    ∀ (l : List Oper) (a : Act) (w : World), noDefer l = true → wpList P ops Q l a w → wpListIn (ringF r) m P ops Q' l (withD ds a) w := by
  intro l
  induction l with
  | nil => intro a w _ h; exact hQ a w h
  | cons o l ih =>
    intro a w hd h
    have hdo := noDefer_mem hd o (by simp)
    have hdl : noDefer l = true := by simp only [noDefer, Bool.and_eq_true] at hd; exact hd.2
    unfold wpList at h
    unfold wpListIn
    show if Region.wanted o (yielded ops a.tmps) = true then _ else _
    split
    · rename_i hw
      rw [if_pos hw] at h
      exact oper_ring hdo hp ho (fun a w hk => ih a w hdl hk) h
    · rename_i hw
      rw [if_neg hw] at h
      refine ⟨fun _ _ => trivial, ?_⟩
      rw [withD_put]
      exact ih _ _ hdl h
theorem wpAny_ring {md : Region.Mode} (hd : noDefer ops.toList = true) (hQ : ∀ a w, Q .normal a w → Q' .normal (withD ds a) w) (hp : ∀ c a w, ¬ Q (.panic c) a w) (ho : ∀ a w, ¬ Q .outgrown a w) :
    ∀ (f : Nat) (listed : Array Bool) (a : Act) (w : World), wpAny P md ops Q f listed a w → wpAnyIn (ringF r) m P md ops Q' f listed (withD ds a) w := by
  intro f
  induction f with
  | zero => intro listed a w h; exact ⟨h.1, hQ _ _ h.2⟩
  | succ f ih =>
    intro listed a w h
    refine ⟨fun hr => hQ _ _ (h.1 hr), fun i hi => ?_⟩
    have h2 := h.2 i hi
    unfold wpOp at h2
    unfold wpOpIn
    cases hoi : ops[i]? with
    | none => rw [hoi] at h2; exact ih _ _ _ h2
    | some o =>
      rw [hoi] at h2
      have hdo := noDefer_mem hd o (by
        obtain ⟨hlt, he⟩ := Array.getElem?_eq_some_iff.1 hoi
        rw [← he]; simp)
      simp only at h2 ⊢
      show if Region.wanted o (yielded ops a.tmps) = true then _ else _
      split
      · rename_i hw
        rw [if_pos hw] at h2
        exact oper_ring hdo hp ho (fun a w hk => ih _ a w hk) h2
      · rename_i hw
        rw [if_neg hw] at h2
        refine ⟨fun _ _ => trivial, ?_⟩
        rw [withD_put]
        exact ih _ _ _ h2
end

def Wo (P : Program) (n : Nat) (ops : Array Oper) (rest : List Oper) (k : Cont) (σ : Fr) (w : World) : Prop :=
  ∀ T, AtF n σ T → wpList P ops (post n k (fun _ _ => False) []) rest ⟨T, []⟩ w

abbrev Ext (w w' : World) : Prop := Below w.heap.size w w'
theorem Ext.refl (w : World) : Ext w w := Below.refl _ _
theorem Ext.trans {a b c : World} (h : Ext a b) (k : Ext b c) : Ext a c := Below.trans h (k.mono h.size)

def Wq (P : Program) (n : Nat) (ops : Array Oper) (w0 : World) (rest : List Oper) (k : Cont) (σ : Fr) : Prop :=
  ∀ T, AtF n σ T → wpQuiet P ops (Ext w0) (fun a' => a'.tmps.size = n ∧ a'.defers = [] ∧ ∀ w', Ext w0 w' → k (fun i => a'.tmps.getD i undef) w') rest ⟨T, []⟩

section
variable {P : Program} {n : Nat} {kn kr : Cont} {ke : List (Nat × Cont)} {σ : Fr} {w : World}

theorem AtF.fun_eq {T : Array Value} (h : AtF n σ T) : (fun i => T.getD i undef) = σ := funext h.2
theorem AtF.self {T : Array Value} (h : T.size = n) : AtF n (fun i => T.getD i undef) T := ⟨h, fun _ => rfl⟩

theorem postD_mono {ds : List Deferred} {kn' : Cont} (hk : ∀ σ w, kn σ w → kn' σ w) : ∀ e a w, postD n ds kn kr ke e a w → postD n ds kn' kr ke e a w := by
  intro e a w h
  cases e <;> first | exact h | exact ⟨h.1, h.2.1, hk _ _ h.2.2⟩

theorem W.mono {c : Code} {kn' : Cont} (h : W P n c kn kr ke σ w) (hk : ∀ σ w, kn σ w → kn' σ w) : W P n c kn' kr ke σ w :=
  fun T hT r ds m => wpIn_mono (h T hT r ds m) (postD_mono hk)

theorem W.seq {a b : Code} (h : W P n a (fun σ w => W P n b kn kr ke σ w) kr ke σ w) : W P n (.seq a b) kn kr ke σ w := by
  intro T hT r ds m
  refine wpIn_seq (wpIn_mono (h T hT r ds m) ?_)
  intro e a' w' hq
  cases e with
  | normal =>
    obtain ⟨h1, h2, h3⟩ := hq
    have := h3 a'.tmps (AtF.self h1) r ds m
    cases a'
    simp only at h2
    subst h2
    exact this
  | exit id => exact hq
  | goto l => exact hq
  | ret => exact hq
  | panic ch => exact hq
  | outgrown => exact hq

theorem W.skip (h : kn σ w) : W P n .skip kn kr ke σ w :=
  fun T hT _ _ _ => wpIn_skip ⟨hT.1, rfl, by rw [hT.fun_eq]; exact h⟩

theorem W.ret (h : kr σ w) : W P n .ret kn kr ke σ w :=
  fun T hT _ _ _ => wpIn_ret ⟨hT.1, rfl, by rw [hT.fun_eq]; exact h⟩

theorem W.exit {id : Nat} {k : Cont} (hk : findEx id ke = some k) (h : k σ w) : W P n (.exit id) kn kr ke σ w :=
  fun T hT _ _ _ => wpIn_exit ⟨hT.1, rfl, by rw [hk]; simp only; rw [hT.fun_eq]; exact h⟩

theorem W.block {id : Nat} {c : Code} (h : W P n c kn kr ((id, kn) :: ke) σ w) : W P n (.block id c) kn kr ke σ w := by
  intro T hT r ds m
  refine wpIn_block (wpIn_mono (h T hT r ds m) ?_)
  intro e a' w' hq
  cases e with
  | exit id' =>
    simp only [postD, findEx] at hq
    simp only [Exit.inBlock]
    by_cases hid : id' = id
    · subst hid
      have hb : Nat.beq id' id' = true := Nat.beq_refl id'
      rw [if_pos rfl]
      rw [hb] at hq
      exact hq
    · have hb : Nat.beq id' id = false := by
        cases hq' : Nat.beq id' id with
        | false => rfl
        | true => exact absurd (Nat.eq_of_beq_eq_true hq') hid
      rw [if_neg hid]
      rw [hb] at hq
      exact hq
  | normal => exact hq
  | goto l => exact hq
  | ret => exact hq
  | panic ch => exact hq
  | outgrown => exact hq

theorem W.cond {c : Operand} {x y : Code} {t : Bool} (hc : ev σ c = .bool t) (hx : t = true → W P n x kn kr ke σ w) (hy : t = false → W P n y kn kr ke σ w) :
    W P n (.cond c x y) kn kr ke σ w := by
  intro T hT r ds m
  have hc' : (Act.mk T ds).eval c = .bool t := by rw [hT.eval]; exact hc
  cases t with
  | true => exact wpIn_cond_true hc' (hx rfl T hT r ds m)
  | false => exact wpIn_cond_false hc' (hy rfl T hT r ds m)

theorem W.condD {c : Operand} {x y : Code} {p : Prop} [Decidable p] (hc : ev σ c = .bool (decide p)) (hx : p → W P n x kn kr ke σ w) (hy : ¬ p → W P n y kn kr ke σ w) :
    W P n (.cond c x y) kn kr ke σ w :=
  W.cond hc (fun h => hx (of_decide_eq_true h)) (fun h => hy (of_decide_eq_false h))

theorem W.condT {c : Operand} {x y : Code} {t : Bool} (hc : ev σ c = .bool t) (ht : t = true) (hx : W P n x kn kr ke σ w) : W P n (.cond c x y) kn kr ke σ w :=
  W.cond hc (fun _ => hx) (fun h => by rw [ht] at h; cases h)
theorem W.condF {c : Operand} {x y : Code} {t : Bool} (hc : ev σ c = .bool t) (ht : t = false) (hy : W P n y kn kr ke σ w) : W P n (.cond c x y) kn kr ke σ w :=
  W.cond hc (fun h => by rw [ht] at h; cases h) (fun _ => hy)

theorem post_panic {k : Cont} : ∀ c a w, ¬ post n k (fun _ _ => False) [] (.panic c) a w := fun _ _ _ h => h
theorem post_out {k : Cont} : ∀ a w, ¬ post n k (fun _ _ => False) [] .outgrown a w := fun _ _ h => h
theorem post_ring {ds : List Deferred} : ∀ a w, post n kn (fun _ _ => False) [] .normal a w → postD n ds kn kr ke .normal (withD ds a) w := by
  rintro ⟨T, d⟩ w ⟨h1, h2, h3⟩
  simp only at h2
  subst h2
  exact ⟨h1, rfl, h3⟩
theorem W.region {id : Nat} {l : List Oper} (hd : noDefer l = true) (h : Wo P n l.toArray l kn σ w) : W P n (.region id l.toArray false) kn kr ke σ w := by
  intro T hT r ds m
  exact wpIn_region_lit (wpList_ring (ds := ds) post_ring post_panic post_out l ⟨T, []⟩ w hd (h T hT))
theorem W.ofAny {id : Nat} {l : List Oper} (hm : P.follows .mixedOrders = true) (hd : noDefer l = true)
    (h : ∀ T, AtF n σ T → wpAny P .any l.toArray (post n kn (fun _ _ => False) []) l.toArray.size (Array.replicate l.toArray.size false) ⟨T, []⟩ { w with drawn := w.drawn + 1 }) : W P n (.region id l.toArray true) kn kr ke σ w := by
  intro T hT r ds m
  exact wpIn_region_any hm (wpAny_ring (ds := ds) (by simpa using hd) post_ring post_panic post_out _ _ ⟨T, []⟩ _ (h T hT))

theorem ext_drawn (w : World) : Ext w { w with drawn := w.drawn + 1 } := ⟨rfl, rfl, rfl, Nat.le_refl _, fun _ _ => rfl⟩

theorem W.regionQ {id : Nat} {l : List Oper} (hm : P.follows .mixedOrders = true) (hd : noDefer l = true) (hB : Region.lexB .any l.toArray = true) (h : Wq P n l.toArray w l kn σ) :
    W P n (.region id l.toArray true) kn kr ke σ w := by
  refine W.ofAny hm hd fun T hT => ?_
  simp only [Region.lexB, Bool.and_eq_true] at hB
  have hgo : wpQuiet P l.toArray (Ext w) (fun a' => ∀ w', Ext w w' → post n kn (fun _ _ => False) [] .normal a' w') l ⟨T, []⟩ → wpAny P .any l.toArray (post n kn (fun _ _ => False) []) l.toArray.size (Array.replicate l.toArray.size false) ⟨T, []⟩ { w with drawn := w.drawn + 1 } := fun hq => by
    refine wpAny_of_quiet (Q := fun a' => ∀ w', Ext w w' → post n kn (fun _ _ => False) [] .normal a' w') (fun _ w' hw' h => h w' hw') _ _ _ _ (ext_drawn w) ?_
    have := wpAnyQ_lex (C := Ext w) (md := .any) hB.1 l 0 (Array.replicate l.toArray.size false) ⟨T, []⟩ (by simp) (by simpa using hB.2) hq
    simpa using this
  refine hgo ?_
  clear hgo
  have := h T hT
  generalize hQ : (fun a' : Act => a'.tmps.size = n ∧ a'.defers = [] ∧ ∀ w', Ext w w' → kn (fun i => a'.tmps.getD i undef) w') = Q at this
  have hQ' : ∀ a', Q a' → ∀ w', Ext w w' → post n kn (fun _ _ => False) [] .normal a' w' := by
    subst hQ
    exact fun a' h w' hw' => ⟨h.1, h.2.1, h.2.2 w' hw'⟩
  clear hQ h
  show wpQuiet P l.toArray (Ext w) _ l ⟨T, []⟩
  revert this
  generalize hops : l.toArray = ops
  clear hops hB hd
  generalize (Act.mk T []) = a
  clear hT T
  revert a
  induction l with
  | nil => intro a h; exact hQ' a h
  | cons o l ih =>
    intro a h
    simp only [wpQuiet] at h ⊢
    split
    · rename_i hw
      rw [if_pos hw] at h
      exact Oper.quiet_mono (fun a h => ih a h) h
    · rename_i hw
      rw [if_neg hw] at h
      exact ih _ h

/-! ### Operations -/

theorem Wo.nil {ops : Array Oper} {k : Cont} (h : k σ w) : Wo P n ops [] k σ w :=
  fun T hT => wpList_nil ⟨hT.1, rfl, by rw [hT.fun_eq]; exact h⟩

theorem Wq.nil {ops : Array Oper} {w0 : World} {k : Cont} (h : ∀ w', Ext w0 w' → k σ w') : Wq P n ops w0 [] k σ :=
  fun T hT => wpQuiet_nil ⟨hT.1, rfl, fun w' hw' => by rw [hT.fun_eq]; exact h w' hw'⟩

def xop (ρ : Operand → Value) (op : Op) (ty : TypeId) : Sem Next := execOp ρ ⟨none, op, ty, "", #[], none⟩
theorem execOp_xop (ρ : Operand → Value) (o : Oper) : execOp ρ o = xop ρ o.op o.type := by
  cases o with
  | mk dst op ty pos af g => cases op <;> rfl

theorem Wo.val {ops : Array Oper} {rest : List Oper} {k : Cont} {dst : Option Tmp} {op : Op} {ty : TypeId} {pos : String} {af : Array Edge} {v : Value} {w' : World}
    (hrun : (xop (ev σ) op ty).run P w = .ok (.value v) w') (hd : dstIn n dst = true) (h : Wo P n ops rest k (put σ dst v) w') :
    Wo P n ops (⟨dst, op, ty, pos, af, none⟩ :: rest) k σ w := by
  intro T hT
  refine wpList_plain rfl fun K hK => ?_
  obtain ⟨T', hT', hF⟩ := hT.put dst v hd []
  have := h T' hF
  unfold Oper.wp
  rw [hT.eval, execOp_xop]
  dsimp only
  rw [hrun]
  show K ((Act.mk T []).put dst v) w'
  rw [hT']
  exact hK _ _ this

theorem Wo.unit {ops : Array Oper} {rest : List Oper} {k : Cont} {dst : Option Tmp} {op : Op} {ty : TypeId} {pos : String} {af : Array Edge} {w' : World}
    (hrun : (xop (ev σ) op ty).run P w = .ok .skip w') (hd : dstIn n dst = true) (h : Wo P n ops rest k (put σ dst undef) w') :
    Wo P n ops (⟨dst, op, ty, pos, af, none⟩ :: rest) k σ w := by
  intro T hT
  refine wpList_plain rfl fun K hK => ?_
  obtain ⟨T', hT', hF⟩ := hT.put dst undef hd []
  have := h T' hF
  unfold Oper.wp
  rw [hT.eval, execOp_xop]
  dsimp only
  rw [hrun]
  show K ((Act.mk T []).put dst undef) w'
  rw [hT']
  exact hK _ _ this

def Rd (P : Program) (σ : Fr) (op : Op) (ty : TypeId) (w : World) (v : Value) : Prop :=
  ∀ w', Ext w w' → (xop (ev σ) op ty).run P w' = .ok (.value v) w'

theorem Rd.to {op : Op} {ty : TypeId} {v v' : Value} (h : Rd P σ op ty w v) (e : v = v') : Rd P σ op ty w v' := e ▸ h

theorem Wo.rd {ops : Array Oper} {rest : List Oper} {k : Cont} {d : Tmp} {op : Op} {ty : TypeId} {pos : String} {af : Array Edge} {v : Value} {l : List (Nat × Value)} {σ0 : Fr}
    (hr : Rd P (look l σ0) op ty w v) (hd : Nat.ble (d + 1) n = true) (h : Wo P n ops rest k (look ((d, v) :: l) σ0) w) :
    Wo P n ops (⟨some d, op, ty, pos, af, none⟩ :: rest) k (look l σ0) w :=
  Wo.val (hr w (Ext.refl w)) hd (by rw [look_cons] at h; exact h)

theorem Wq.rd {ops : Array Oper} {rest : List Oper} {k : Cont} {d : Tmp} {op : Op} {ty : TypeId} {pos : String} {af : Array Edge} {v : Value} {l : List (Nat × Value)} {σ0 : Fr} {w0 : World}
    (hr : Rd P (look l σ0) op ty w0 v) (hd : Nat.ble (d + 1) n = true) (h : Wq P n ops w0 rest k (look ((d, v) :: l) σ0)) :
    Wq P n ops w0 (⟨some d, op, ty, pos, af, none⟩ :: rest) k (look l σ0) := by
  intro T hT
  have hw : Region.wanted (⟨some d, op, ty, pos, af, none⟩ : Oper) (yielded ops (Act.mk T []).tmps) = true := rfl
  obtain ⟨T', hT', hF⟩ := hT.put (some d) v hd []
  rw [look_cons] at h
  refine wpQuiet_step fun K hK => ?_
  rw [if_pos hw]
  refine ⟨v, fun w' hw' => ?_, ?_⟩
  · unfold Oper.quietAt
    rw [hT.eval, execOp_xop]
    rw [hr w' hw']
    exact ⟨rfl, rfl⟩
  · rw [hT']
    exact hK _ (h T' hF)

def Wx (P : Program) (n : Nat) (ops : Array Oper) (q : Bool) (rest : List Oper) (k : Cont) (σ : Fr) (w : World) : Prop :=
  match q with
  | false => Wo P n ops rest k σ w
  | true => Wq P n ops w rest k σ

theorem W.reg {id : Nat} {l : List Oper} (h : Wx P n l.toArray false l kn σ w) (hd : noDefer l = true := by rfl) : W P n (.region id l.toArray false) kn kr ke σ w := W.region hd h
theorem W.regQ {id : Nat} {l : List Oper} (hm : P.follows .mixedOrders = true) (hB : Region.lexB .any l.toArray = true) (h : Wx P n l.toArray true l kn σ w) (hd : noDefer l = true := by rfl) :
    W P n (.region id l.toArray true) kn kr ke σ w := W.regionQ hm hd hB h
theorem Wx.nil {ops : Array Oper} {k : Cont} (h : k σ w) : Wx P n ops false [] k σ w := Wo.nil h
theorem Wx.nilQ {ops : Array Oper} {k : Cont} (h : ∀ w', Ext w w' → k σ w') : Wx P n ops true [] k σ w := Wq.nil h

theorem Wx.rd {ops : Array Oper} {q : Bool} {rest : List Oper} {k : Cont} {d : Tmp} {op : Op} {ty : TypeId} {pos : String} {af : Array Edge} {v : Value} {l : List (Nat × Value)} {σ0 : Fr}
    (hr : Rd P (look l σ0) op ty w v) (hd : Nat.ble (d + 1) n = true) (h : Wx P n ops q rest k (look ((d, v) :: l) σ0) w) :
    Wx P n ops q (⟨some d, op, ty, pos, af, none⟩ :: rest) k (look l σ0) w := by
  cases q with
  | false => exact Wo.rd hr hd h
  | true => exact Wq.rd hr hd h

/-! ### Guards -/
def isB : Value → Bool → Bool
  | .bool true, true => true
  | .bool false, false => true
  | _, _ => false

def gdst (ops : Array Oper) (j : Nat) : Option Tmp := (ops[j]?).bind (·.dst)

theorem wanted_of {ops : Array Oper} {T : Array Value} {o : Oper} {j dj : Nat} {b : Bool} (hT : AtF n σ T) (hg : o.guard = some (j, b)) (hj : gdst ops j = some dj) (hn : Nat.ble (dj + 1) n = true) :
    Region.wanted o (yielded ops T) = isB (σ dj) b := by
  have hlt : dj < T.size := by
    have := Nat.le_of_ble_eq_true hn
    rw [hT.1]; omega
  have hv : T[dj]? = some (σ dj) := by
    have := hT.2 dj
    rw [← this]
    simp [hlt]
  unfold gdst at hj
  simp only [Region.wanted, hg, yielded, hj, Option.bind_some, hv]
  cases hs : σ dj <;> try (simp [isB]; done)
  rename_i c
  cases c <;> cases b <;> rfl

theorem Wo.gyes {ops : Array Oper} {rest : List Oper} {k : Cont} {dst : Option Tmp} {op : Op} {ty : TypeId} {pos : String} {af : Array Edge} {j dj : Nat} {b : Bool}
    (hj : gdst ops j = some dj) (hn : Nat.ble (dj + 1) n = true) (hv : σ dj = .bool b) (h : Wo P n ops (⟨dst, op, ty, pos, af, none⟩ :: rest) k σ w) :
    Wo P n ops (⟨dst, op, ty, pos, af, some (j, b)⟩ :: rest) k σ w := by
  intro T hT
  have h' := h T hT
  have hw := wanted_of (o := ⟨dst, op, ty, pos, af, some (j, b)⟩) hT rfl hj hn
  have hb : isB (σ dj) b = true := by rw [hv]; cases b <;> rfl
  rw [hb] at hw
  unfold wpList at h' ⊢
  rw [if_pos hw]
  rw [if_pos (show Region.wanted _ _ = true from rfl)] at h'
  rcases h' with h' | ⟨_, h'⟩
  · refine .inl ?_
    unfold Oper.wp at h' ⊢
    rw [execOp_xop] at h' ⊢
    exact h'
  · obtain ⟨_, _, h'⟩ := h'
    exact h'.elim

theorem Wo.gno {ops : Array Oper} {rest : List Oper} {k : Cont} {d : Tmp} {op : Op} {ty : TypeId} {pos : String} {af : Array Edge} {j dj : Nat} {b : Bool} {l : List (Nat × Value)} {σ0 : Fr}
    (hj : gdst ops j = some dj) (hn : Nat.ble (dj + 1) n = true) (hv : isB (look l σ0 dj) b = false) (hd : Nat.ble (d + 1) n = true)
    (h : Wo P n ops rest k (look ((d, undef) :: l) σ0) w) : Wo P n ops (⟨some d, op, ty, pos, af, some (j, b)⟩ :: rest) k (look l σ0) w := by
  intro T hT
  have hw := wanted_of (o := ⟨some d, op, ty, pos, af, some (j, b)⟩) hT rfl hj hn
  rw [hv] at hw
  obtain ⟨T', hT', hF⟩ := hT.put (some d) undef hd []
  rw [look_cons] at h
  unfold wpList
  rw [if_neg (by rw [hw]; decide)]
  rw [hT']
  exact h T' hF

theorem isB_ne {c b : Bool} (h : (c == b) = false) : isB (.bool c) b = false := by cases c <;> cases b <;> first | rfl | cases h

theorem Wq.gyes {ops : Array Oper} {rest : List Oper} {k : Cont} {dst : Option Tmp} {op : Op} {ty : TypeId} {pos : String} {af : Array Edge} {j dj : Nat} {b : Bool} {w0 : World}
    (hj : gdst ops j = some dj) (hn : Nat.ble (dj + 1) n = true) (hv : σ dj = .bool b) (h : Wq P n ops w0 (⟨dst, op, ty, pos, af, none⟩ :: rest) k σ) :
    Wq P n ops w0 (⟨dst, op, ty, pos, af, some (j, b)⟩ :: rest) k σ := by
  intro T hT
  have h' := h T hT
  have hw := wanted_of (o := ⟨dst, op, ty, pos, af, some (j, b)⟩) hT rfl hj hn
  have hb : isB (σ dj) b = true := by rw [hv]; cases b <;> rfl
  rw [hb] at hw
  unfold wpQuiet at h' ⊢
  rw [if_pos hw]
  rw [if_pos (show Region.wanted _ _ = true from rfl)] at h'
  obtain ⟨v, h1, h2⟩ := h'
  refine ⟨v, fun w' hw' => ?_, h2⟩
  have := h1 w' hw'
  unfold Oper.quietAt at this ⊢
  rw [execOp_xop] at this ⊢
  exact this

theorem Wq.gno {ops : Array Oper} {rest : List Oper} {k : Cont} {d : Tmp} {op : Op} {ty : TypeId} {pos : String} {af : Array Edge} {j dj : Nat} {b : Bool} {l : List (Nat × Value)} {σ0 : Fr} {w0 : World}
    (hj : gdst ops j = some dj) (hn : Nat.ble (dj + 1) n = true) (hv : isB (look l σ0 dj) b = false) (hd : Nat.ble (d + 1) n = true)
    (h : Wq P n ops w0 rest k (look ((d, undef) :: l) σ0)) : Wq P n ops w0 (⟨some d, op, ty, pos, af, some (j, b)⟩ :: rest) k (look l σ0) := by
  intro T hT
  have hw := wanted_of (o := ⟨some d, op, ty, pos, af, some (j, b)⟩) hT rfl hj hn
  rw [hv] at hw
  obtain ⟨T', hT', hF⟩ := hT.put (some d) undef hd []
  rw [look_cons] at h
  unfold wpQuiet
  rw [if_neg (by rw [hw]; decide)]
  rw [hT']
  exact h T' hF

theorem Wx.gyes {ops : Array Oper} {q : Bool} {rest : List Oper} {k : Cont} {dst : Option Tmp} {op : Op} {ty : TypeId} {pos : String} {af : Array Edge} {j dj : Nat} {b : Bool}
    (hj : gdst ops j = some dj) (hn : Nat.ble (dj + 1) n = true) (hv : σ dj = .bool b) (h : Wx P n ops q (⟨dst, op, ty, pos, af, none⟩ :: rest) k σ w) :
    Wx P n ops q (⟨dst, op, ty, pos, af, some (j, b)⟩ :: rest) k σ w := by
  cases q with
  | false => exact Wo.gyes hj hn hv h
  | true => exact Wq.gyes hj hn hv h

theorem Wx.gno {ops : Array Oper} {q : Bool} {rest : List Oper} {k : Cont} {d : Tmp} {op : Op} {ty : TypeId} {pos : String} {af : Array Edge} {j dj : Nat} {b : Bool} {l : List (Nat × Value)} {σ0 : Fr}
    (hj : gdst ops j = some dj) (hn : Nat.ble (dj + 1) n = true) (hv : isB (look l σ0 dj) b = false) (hd : Nat.ble (d + 1) n = true)
    (h : Wx P n ops q rest k (look ((d, undef) :: l) σ0) w) : Wx P n ops q (⟨some d, op, ty, pos, af, some (j, b)⟩ :: rest) k (look l σ0) w := by
  cases q with
  | false => exact Wo.gno hj hn hv hd h
  | true => exact Wq.gno hj hn hv hd h

theorem Wx.gnoB {ops : Array Oper} {q : Bool} {rest : List Oper} {k : Cont} {d : Tmp} {op : Op} {ty : TypeId} {pos : String} {af : Array Edge} {j dj : Nat} {b c : Bool} {l : List (Nat × Value)} {σ0 : Fr}
    (hj : gdst ops j = some dj) (hn : Nat.ble (dj + 1) n = true) (hv : look l σ0 dj = .bool c) (hc : (c == b) = false) (hd : Nat.ble (d + 1) n = true)
    (h : Wx P n ops q rest k (look ((d, undef) :: l) σ0) w) : Wx P n ops q (⟨some d, op, ty, pos, af, some (j, b)⟩ :: rest) k (look l σ0) w :=
  Wx.gno hj hn (by rw [hv]; exact isB_ne hc) hd h

/-! ### Calls -/
def Ret (w : World) (Q : Value → World → Prop) : Ending → World → Prop := fun e w' => ∃ r, e = .returned r ∧ Ext w w' ∧ Q r w'

def Bk (Q : Value → World → Prop) : Ending → World → Prop := fun e w' => ∃ r, e = .returned r ∧ Q r w'

theorem Wo.callB {ops : Array Oper} {rest : List Oper} {k : Cont} {dst : Option Tmp} {op : Op} {ty : TypeId} {pos : String} {af : Array Edge} {f : FuncId} {args : Array Value} {Q : Value → World → Prop}
    (hrun : (xop (ev σ) op ty).run P w = .ok (.enter f args) w) (hc : Calls P f args w (Bk Q)) (hd : dstIn n dst = true)
    (h : ∀ r w', Q r w' → Wo P n ops rest k (put σ dst r) w') : Wo P n ops (⟨dst, op, ty, pos, af, none⟩ :: rest) k σ w := by
  intro T hT
  refine wpList_plain rfl fun K hK => ?_
  unfold Oper.wp
  rw [hT.eval, execOp_xop]
  dsimp only
  rw [hrun]
  refine Calls.mono hc ?_
  rintro e w' ⟨r, rfl, hq⟩
  obtain ⟨T', hT', hF⟩ := hT.put dst r hd []
  have := h r w' hq T' hF
  show K ((Act.mk T []).put dst r) w'
  rw [hT']
  exact hK _ _ this

theorem Wq.callB {ops : Array Oper} {rest : List Oper} {k : Cont} {dst : Option Tmp} {op : Op} {ty : TypeId} {pos : String} {af : Array Edge} {f : FuncId} {args : Array Value} {v : Value} {w0 : World}
    (hrun : ∀ w', (xop (ev σ) op ty).run P w' = .ok (.enter f args) w') (hc : ∀ w', Ext w0 w' → Calls P f args w' (Ret w' (fun r _ => r = v))) (hd : dstIn n dst = true)
    (h : Wq P n ops w0 rest k (put σ dst v)) : Wq P n ops w0 (⟨dst, op, ty, pos, af, none⟩ :: rest) k σ := by
  intro T hT
  have hw : Region.wanted (⟨dst, op, ty, pos, af, none⟩ : Oper) (yielded ops (Act.mk T []).tmps) = true := rfl
  obtain ⟨T', hT', hF⟩ := hT.put dst v hd []
  refine wpQuiet_step fun K hK => ?_
  rw [if_pos hw]
  refine ⟨v, fun w' hw' => ?_, ?_⟩
  · unfold Oper.quietAt
    rw [hT.eval, execOp_xop]
    dsimp only
    rw [hrun w']
    refine ⟨rfl, Calls.mono (hc w' hw') ?_⟩
    rintro e w2 ⟨r, rfl, he, rfl⟩
    exact ⟨rfl, Ext.trans hw' he⟩
  · rw [hT']
    exact hK _ (h T' hF)

theorem Wx.callF {ops : Array Oper} {rest : List Oper} {k : Cont} {d : Tmp} {c : Call} {ty : TypeId} {pos : String} {af : Array Edge} {f : FuncId} {args : Array Value} {Q : Value → World → Prop} {l : List (Nat × Value)} {σ0 : Fr}
    (hrun : ∀ w', (xop (ev (look l σ0)) (.call c) ty).run P w' = .ok (.enter f args) w') (hc : Calls P f args w (Ret w Q)) (hd : Nat.ble (d + 1) n = true)
    (h : ∀ r w', Ext w w' → Q r w' → Wx P n ops false rest k (look ((d, r) :: l) σ0) w') : Wx P n ops false (⟨some d, .call c, ty, pos, af, none⟩ :: rest) k (look l σ0) w :=
  Wo.callB (Q := fun r w' => Ext w w' ∧ Q r w') (hrun w) hc hd fun r w' hq => by
    have := h r w' hq.1 hq.2
    rw [look_cons] at this
    exact this

theorem Wx.callV {ops : Array Oper} {rest : List Oper} {k : Cont} {d : Tmp} {c : Call} {ty : TypeId} {pos : String} {af : Array Edge} {f : FuncId} {args : Array Value} {v : Value} {l : List (Nat × Value)} {σ0 : Fr}
    (hrun : ∀ w', (xop (ev (look l σ0)) (.call c) ty).run P w' = .ok (.enter f args) w') (hc : ∀ w', Ext w w' → Calls P f args w' (Ret w' (fun r _ => r = v))) (hd : Nat.ble (d + 1) n = true)
    (h : Wx P n ops true rest k (look ((d, v) :: l) σ0) w) : Wx P n ops true (⟨some d, .call c, ty, pos, af, none⟩ :: rest) k (look l σ0) w :=
  Wq.callB hrun hc hd (by rw [look_cons] at h; exact h)

/-! ### Entering -/
def argl : Nat → List Value → List (Nat × Value)
  | _, [] => []
  | i, v :: vs => (i, v) :: argl (i + 1) vs

def und : Fr := fun _ => undef

theorem look_argl : ∀ (vs : List Value) (j i : Nat), look (argl j vs) und i = if j ≤ i then (vs[i - j]?).getD undef else undef
  | [], j, i => by simp [argl, look, und]
  | v :: vs, j, i => by
    have ih := look_argl vs (j + 1) i
    simp only [argl, look]
    by_cases h : i = j
    · subst h
      have hb : Nat.beq i i = true := Nat.beq_refl i
      rw [hb]; simp
    · have hb : Nat.beq i j = false := by
        cases hq : Nat.beq i j with
        | false => rfl
        | true => exact absurd (Nat.eq_of_beq_eq_true hq) h
      rw [hb, cond_false, ih]
      by_cases h2 : j ≤ i
      · rw [if_pos h2, if_pos (by omega)]
        rw [show i - j = (i - (j + 1)) + 1 by omega]
        simp
      · rw [if_neg h2, if_neg (by omega)]

def ResIs (P : Program) (rs : Array ResultVar) (σ : Fr) (w : World) (v : Value) : Prop :=
  ∀ fn : Func, fn.results = rs → ∀ T n, AtF n σ T → (results fn T).run P w = .ok v w

theorem ResIs.one {t : Tmp} : ResIs P #[.tmp t] σ w (σ t) := by
  intro fn hf T n hT
  rw [results_tmp hf]
  rw [hT.2 t]
theorem ResIs.two {t u : Tmp} : ResIs P #[.tmp t, .tmp u] σ w (.tuple #[σ t, σ u]) := by
  intro fn hf T n hT
  rw [results_tmp2 hf]
  rw [hT.2 t, hT.2 u]
theorem ResIs.zero : ResIs P #[] σ w (.tuple #[]) := by
  intro fn hf T n hT
  rw [results_none hf]
theorem enterB {f : FuncId} {fn : Func} {c : Code} {vs : List Value} {rs : Array ResultVar} {Q : Value → World → Prop} (hf : P.funcs[f]? = some fn) (hb : fn.body = some c) (hn : fn.ntmps = n) (hrs : fn.results = rs)
    (hle : Nat.ble vs.length n = true)
    (h : W P n c (fun σ w' => ∃ v, ResIs P rs σ w' v ∧ Q v w') (fun σ w' => ∃ v, ResIs P rs σ w' v ∧ Q v w') [] (look (argl 0 vs) und) w) :
    Calls P f vs.toArray w (Bk Q) := by
  have hle' := Nat.le_of_ble_eq_true hle
  refine calls_of_wp hf hb (wpIn_wide (n := 0).1 ?_)
  have hF : AtF n (look (argl 0 vs) und) (vs.toArray ++ Array.replicate (fn.ntmps - vs.toArray.size) undef) := by
    refine ⟨by simp; omega, fun i => ?_⟩
    rw [look_argl]
    simp only [Nat.zero_le, if_true, Nat.sub_zero]
    simp only [Array.getD_eq_getD_getElem?, Array.getElem?_append]
    split
    · simp
    · rename_i hi
      simp only [List.size_toArray] at hi ⊢
      rw [Array.getElem?_replicate]
      rw [List.getElem?_eq_none (by omega)]
      split <;> rfl
  refine wpIn_mono (h _ hF none [] 0) ?_
  intro e a w' hq
  cases e with
  | normal =>
    obtain ⟨h1, h2, v, hr, hQ⟩ := hq
    exact ⟨h2, v, hr fn hrs _ _ (AtF.self h1), v, rfl, hQ⟩
  | ret =>
    obtain ⟨h1, h2, v, hr, hQ⟩ := hq
    exact ⟨h2, v, hr fn hrs _ _ (AtF.self h1), v, rfl, hQ⟩
  | exit id => exact hq.2.2.elim
  | goto l => exact hq.elim
  | panic ch => exact hq.elim
  | outgrown => exact hq.elim

theorem enterR {f : FuncId} {fn : Func} {c : Code} {vs : List Value} {rs : Array ResultVar} {Q : Value → World → Prop} (hf : P.funcs[f]? = some fn) (hb : fn.body = some c) (hn : fn.ntmps = n) (hrs : fn.results = rs)
    (hle : Nat.ble vs.length n = true)
    (h : W P n c (fun σ w' => ∃ v, ResIs P rs σ w' v ∧ Ext w w' ∧ Q v w') (fun σ w' => ∃ v, ResIs P rs σ w' v ∧ Ext w w' ∧ Q v w') [] (look (argl 0 vs) und) w) :
    Calls P f vs.toArray w (Ret w Q) := enterB (Q := fun v w' => Ext w w' ∧ Q v w') hf hb hn hrs hle h

theorem run_callF {f : FuncId} {aas : List Operand} {vs : List Value} {ats : Array TypeId} {ty : TypeId} (hc : ∀ args w, (callFunc f args).run P w = .ok (.enter f args) w) (hv : aas.map (ev σ) = vs) (w' : World) :
    (xop (ev σ) (.call { callee := .value (.func f), args := aas.toArray, argTypes := ats }) ty).run P w' = .ok (.enter f vs.toArray) w' := by
  subst hv
  simp [xop, execOp, resolve, Deferred.ofValue, ev, invoke, hc]
theorem run_callC {f : FuncId} {g : Operand} {aas : List Operand} {vs fs cs : List Value} {ats : Array TypeId} {ty : TypeId} (hc : ∀ args w, (callFunc f args).run P w = .ok (.enter f args) w) (hg : ev σ g = .func (.func f) fs.toArray cs.toArray)
    (hv : fs ++ aas.map (ev σ) ++ cs = vs) (w' : World) :
    (xop (ev σ) (.call { callee := .value g, args := aas.toArray, argTypes := ats }) ty).run P w' = .ok (.enter f vs.toArray) w' := by
  subst hv
  simp [xop, execOp, resolve, Deferred.ofValue, hg, invoke, hc]

/-! ### Loops -/
def memb (i : Nat) : List Nat → Bool
  | [] => false
  | j :: l => bif Nat.beq i j then true else memb i l

def hav (D : List Nat) (u σ : Fr) : Fr := fun i => bif memb i D then u i else σ i

def allin (D : List Nat) : List (Nat × Value) → Bool
  | [] => true
  | (d, _) :: l => bif memb d D then allin D l else false

def Has : List (Nat × Value) → Fr → Prop
  | [], _ => True
  | (d, v) :: l, σ => σ d = v ∧ Has l σ

def Out (D : List Nat) (σ σ' : Fr) : Prop := ∀ i, memb i D = false → σ' i = σ i

def Agr (D : List Nat) (f : List (Nat × Value)) (σ σ' : Fr) : Prop := Has f σ' ∧ Out D σ σ'

def subD (D : List Nat) : List Nat → Bool
  | [] => true
  | d :: l => bif memb d D then subD D l else false
theorem subD_mem {D : List Nat} : ∀ {E : List Nat} (_ : subD D E = true) (i : Nat), memb i D = false → memb i E = false
  | [], _, _, _ => rfl
  | d :: E, h, i, hi => by
    simp only [subD] at h
    cases hd : memb d D with
    | false => rw [hd] at h; cases h
    | true =>
      rw [hd] at h
      simp only [memb]
      have hb : Nat.beq i d = false := by
        cases hq : Nat.beq i d with
        | false => rfl
        | true =>
          have := Nat.eq_of_beq_eq_true hq
          subst this
          rw [hi] at hd; cases hd
      rw [hb]
      exact subD_mem h i hi
theorem Out.refl {D : List Nat} {σ : Fr} : Out D σ σ := fun _ _ => rfl
theorem Out.self {D : List Nat} {u σ : Fr} : Out D σ (hav D u σ) := fun i hi => by simp [hav, hi]
theorem Out.hav {D E : List Nat} {u σ τ : Fr} (hE : subD D E = true) (h : Out D σ τ) : Out D σ (hav E u τ) := fun i hi => by
  simp only [Wk.hav, subD_mem hE i hi]
  exact h i hi

theorem look_out {D : List Nat} : ∀ {l : List (Nat × Value)} {σ : Fr} (_ : allin D l = true) (i : Nat), memb i D = false → look l σ i = σ i
  | [], _, _, _, _ => rfl
  | (d, v) :: l, σ, h, i, hi => by
    simp only [allin] at h
    cases hd : memb d D with
    | false => rw [hd] at h; cases h
    | true =>
      rw [hd] at h
      simp only [look]
      have hb : Nat.beq i d = false := by
        cases hq : Nat.beq i d with
        | false => rfl
        | true =>
          have := Nat.eq_of_beq_eq_true hq
          subst this
          rw [hi] at hd; cases hd
      rw [hb]
      exact look_out h i hi

theorem Out.look {D : List Nat} {l : List (Nat × Value)} {σ τ : Fr} (hD : allin D l = true) (h : Out D σ τ) : Out D σ (look l τ) := fun i hi => by rw [look_out hD i hi]; exact h i hi

theorem Agr.start {D : List Nat} {f : List (Nat × Value)} {σ : Fr} (hH : Has f σ) : Agr D f σ σ := ⟨hH, fun _ _ => rfl⟩

theorem look_has : ∀ {f : List (Nat × Value)} {τ σ : Fr} (_ : Has f σ) (i : Nat), τ i = σ i → look f τ i = σ i
  | [], _, _, _, _, h => h
  | (d, v) :: f, τ, σ, hH, i, h => by
    simp only [look]
    cases hq : Nat.beq i d with
    | true => rw [Nat.eq_of_beq_eq_true hq]; exact hH.1.symm
    | false => exact look_has hH.2 i h

theorem Agr.eq {D : List Nat} {f : List (Nat × Value)} {σ σ' : Fr} (h : Agr D f σ σ') : σ' = look f (hav D σ' σ) := by
  funext i
  refine (look_has h.1 i ?_).symm
  simp only [hav]
  cases hm : memb i D with
  | true => rfl
  | false => exact (h.2 i hm).symm

theorem W.loop {X : Type _} (D : List Nat) (f : X → List (Nat × Value)) (I : X → World → Prop) (m : X → Nat) (x0 : X) {c : Code} (h0 : Has (f x0) σ) (hI : I x0 w)
    (round : ∀ (x : X) (u : Fr) (w : World), I x w → W P n c (fun σ' w' => ∃ x', m x' < m x ∧ I x' w' ∧ Agr D (f x') σ σ') kr ke (look (f x) (hav D u σ)) w) :
    W P n (.loop c) kn kr ke σ w := by
  intro T hT r ds rm
  refine wpIn_loop_ghost (fun k a w => ∃ x, m x = k ∧ I x w ∧ a.tmps.size = n ∧ a.defers = ds ∧ Agr D (f x) σ (fun i => a.tmps.getD i undef)) (m x0) ?_ ?_
  · exact ⟨x0, rfl, hI, hT.1, rfl, by simp only; rw [hT.fun_eq]; exact Agr.start h0⟩
  · rintro k a w ⟨x, rfl, hI, h1, h2, hA⟩
    have hr := round x (fun i => a.tmps.getD i undef) w hI
    have hF : AtF n (look (f x) (hav D (fun i => a.tmps.getD i undef) σ)) a.tmps := ⟨h1, fun i => congrFun hA.eq i⟩
    have := hr a.tmps hF r ds rm
    cases a
    simp only at h2
    subst h2
    refine wpIn_mono this ?_
    intro e a' w' hq
    cases e with
    | normal =>
      obtain ⟨g1, g2, x', g3, g4, g5⟩ := hq
      exact ⟨m x', g3, x', rfl, g4, g1, g2, g5⟩
    | exit id => exact hq
    | goto l => exact hq
    | ret => exact hq
    | panic ch => exact hq
    | outgrown => exact hq

theorem W.cutK {X : Type _} (D : List Nat) (f : X → List (Nat × Value)) (I : X → World → Prop) {c : Code}
    (h1 : W P n c (fun σ' w' => ∃ x, I x w' ∧ Agr D (f x) σ σ') kr ke (look [] σ) w)
    (h2 : ∀ (x : X) (u : Fr) (w : World), I x w → kn (look (f x) (hav D u σ)) w) : W P n c kn kr ke σ w := by
  refine W.mono h1 ?_
  rintro σ' w' ⟨x, hI, hA⟩
  have := h2 x σ' w' hI
  rw [← hA.eq] at this
  exact this

theorem Wo.app {ops : Array Oper} {l r : List Oper} {k k1 : Cont} (hk : ∀ σ w, k1 σ w → Wo P n ops r k σ w) (h : Wo P n ops l k1 σ w) : Wo P n ops (l ++ r) k σ w := by
  intro T hT
  have := h T hT
  revert this
  have gen : ∀ (l : List Oper) (a : Act) (w : World), wpList P ops (post n k1 (fun _ _ => False) []) l a w → wpList P ops (post n k (fun _ _ => False) []) (l ++ r) a w := by
    intro l
    induction l with
    | nil =>
      intro a w h
      obtain ⟨g1, g2, g3⟩ := h
      have := hk _ _ g3 a.tmps (AtF.self g1)
      cases a
      simp only at g2
      subst g2
      exact this
    | cons o l ih =>
      intro a w h
      simp only [List.cons_append]
      unfold wpList at h ⊢
      split
      · rename_i hw
        rw [if_pos hw] at h
        rcases h with h | ⟨_, _, _, h⟩
        · refine .inl ?_
          unfold Oper.wp at h ⊢
          revert h
          generalize (execOp a.eval o).run P w = r'
          intro h
          cases r' with
          | ok nx w' =>
            cases nx <;> simp only [Oper.upon] at h ⊢ <;> first
              | exact ih _ _ h
              | (refine Calls.mono h ?_
                 intro e w'' he
                 cases e with
                 | returned v => exact ih _ _ he
                 | panicked ch => exact he
                 | outgrown => obtain ⟨_, _, he⟩ := he; exact he.elim)
              | exact Rows.mono h (fun _ _ he => ih _ _ he)
          | halt x w' => cases x <;> simp only [Oper.upon] at h ⊢ <;> exact h
        · exact h.elim
      · rename_i hw
        rw [if_neg hw] at h
        exact ih _ _ h
  exact gen l _ _

theorem Wq.app {ops : Array Oper} {l r : List Oper} {k k1 : Cont} {w0 : World} (hk : ∀ σ, (∀ w', Ext w0 w' → k1 σ w') → Wq P n ops w0 r k σ) (h : Wq P n ops w0 l k1 σ) : Wq P n ops w0 (l ++ r) k σ := by
  intro T hT
  have := h T hT
  revert this
  have gen : ∀ (l : List Oper) (a : Act), wpQuiet P ops (Ext w0) (fun a' => a'.tmps.size = n ∧ a'.defers = [] ∧ ∀ w', Ext w0 w' → k1 (fun i => a'.tmps.getD i undef) w') l a →
      wpQuiet P ops (Ext w0) (fun a' => a'.tmps.size = n ∧ a'.defers = [] ∧ ∀ w', Ext w0 w' → k (fun i => a'.tmps.getD i undef) w') (l ++ r) a := by
    intro l
    induction l with
    | nil =>
      intro a h
      obtain ⟨g1, g2, g3⟩ := h
      have := hk _ g3 a.tmps (AtF.self g1)
      cases a
      simp only at g2
      subst g2
      exact this
    | cons o l ih =>
      intro a h
      simp only [List.cons_append]
      unfold wpQuiet at h ⊢
      split
      · rename_i hw
        rw [if_pos hw] at h
        exact Oper.quiet_mono (fun a h => ih a h) h
      · rename_i hw
        rw [if_neg hw] at h
        exact ih _ h
  exact gen l _

theorem Wx.cut {X : Type} (i : Nat) (D : List Nat) (f : X → List (Nat × Value)) (I : X → World → Prop) {ops : Array Oper} {rest : List Oper} {k : Cont}
    (h1 : Wx P n ops false (rest.take i) (fun σ' w' => ∃ x, I x w' ∧ Agr D (f x) σ σ') (look [] σ) w)
    (h2 : ∀ (x : X) (u : Fr) (w : World), I x w → Wx P n ops false (rest.drop i) k (look (f x) (hav D u σ)) w) : Wx P n ops false rest k σ w := by
  have := Wo.app (k := k) (r := rest.drop i) (by
    rintro σ' w' ⟨x, hI, hA⟩
    have := h2 x σ' w' hI
    rw [← hA.eq] at this
    exact this) h1
  rwa [List.take_append_drop] at this

theorem Wx.cutQ {X : Type} (i : Nat) (D : List Nat) (f : X → List (Nat × Value)) (I : X → Prop) {ops : Array Oper} {rest : List Oper} {k : Cont}
    (h1 : Wx P n ops true (rest.take i) (fun σ' _ => ∃ x, I x ∧ Agr D (f x) σ σ') (look [] σ) w)
    (h2 : ∀ (x : X) (u : Fr), I x → Wx P n ops true (rest.drop i) k (look (f x) (hav D u σ)) w) : Wx P n ops true rest k σ w := by
  have h1' : Wq P n ops w (rest.take i) (fun σ' _ => ∃ x, I x ∧ Agr D (f x) σ σ') (look [] σ) := h1
  have : Wq P n ops w (rest.take i ++ rest.drop i) k (look [] σ) := Wq.app (k := k) (r := rest.drop i) (w0 := w) (by
    intro σ' h
    obtain ⟨x, hI, hA⟩ := h w (Ext.refl w)
    have := h2 x σ' hI
    rw [← hA.eq] at this
    exact this) h1'
  rwa [List.take_append_drop] at this

end
end Go.Wk

namespace Go.Wk
open Go.RowKit

def Mv (O O' : List (Option Nat)) (w w' : World) : Prop :=
  w.heap.size ≤ w'.heap.size ∧ ∀ b, b < w.heap.size → some b ∉ O → w'.heap[b]? = w.heap[b]? ∧ some b ∉ O'

theorem Mv.refl (O : List (Option Nat)) (w : World) : Mv O O w w := ⟨Nat.le_refl _, fun _ _ h => ⟨rfl, h⟩⟩
theorem Mv.trans {O O' O'' : List (Option Nat)} {a b c : World} (h : Mv O O' a b) (k : Mv O' O'' b c) : Mv O O'' a c :=
  ⟨Nat.le_trans h.1 k.1, fun i hi hO => by
    obtain ⟨h1, h2⟩ := h.2 i hi hO
    obtain ⟨k1, k2⟩ := k.2 i (Nat.lt_of_lt_of_le hi h.1) h2
    exact ⟨k1.trans h1, k2⟩⟩
theorem Mv.of_ext {O : List (Option Nat)} {w w' : World} (h : Ext w w') : Mv O O w w' := ⟨h.size, fun b hb hO => ⟨h.block b hb, hO⟩⟩
theorem Mv.less {O O' : List (Option Nat)} {w : World} (h : ∀ b, some b ∈ O' → some b ∈ O) : Mv O O' w w := ⟨Nat.le_refl _, fun b _ hO => ⟨rfl, fun h' => hO (h b h')⟩⟩

def lo : IntKind → Int
  | .i8 => -128 | .i16 => -32768 | .i32 => -2147483648 | .i64 => -9223372036854775808 | _ => 0
def hi : IntKind → Int
  | .i8 => 127 | .i16 => 32767 | .i32 => 2147483647 | .i64 => 9223372036854775807 | .u8 => 255 | .u16 => 65535 | .u32 => 4294967295 | .u64 => 18446744073709551615

def InK (k : IntKind) (x : Int) : Prop := lo k ≤ x ∧ x ≤ hi k

theorem wrap_in {k : IntKind} {x : Int} (h : InK k x) : k.wrap x = x := by
  obtain ⟨h1, h2⟩ := h
  cases k <;> simp only [lo, hi] at h1 h2 <;> simp only [IntKind.wrap, IntKind.bits, IntKind.signed] <;> simp <;> omega

theorem wrap_inK (k : IntKind) (x : Int) : InK k (k.wrap x) := by
  cases k <;> simp only [InK, lo, hi] <;> simp only [IntKind.wrap, IntKind.bits, IntKind.signed] <;> simp <;> omega

structure Ty (α : Type) where
  n : Nat
  agg : Bool
  rep : List (Option Nat) → World → α → List Value → Prop
  len : ∀ {O w x cs}, rep O w x cs → cs.length = n
  one : ∀ {O w x cs}, rep O w x cs → ∀ u ∈ cs, u.oneCell' = true
  mv : ∀ {O O' w w' x cs}, Mv O O' w w' → rep O w x cs → rep O' w' x cs
  flat : agg = false → n = 1

def Ty.val {α : Type} (t : Ty α) (cs : List Value) : Value := if t.agg then .agg cs.toArray else cs.headD undef

def V {α : Type} (t : Ty α) (x : α) (v : Value) (O : List (Option Nat)) (w : World) : Prop := ∃ cs, v = t.val cs ∧ t.rep O w x cs

theorem V.mv {α : Type} {t : Ty α} {x : α} {v : Value} {O O' : List (Option Nat)} {w w' : World} (h : V t x v O w) (hm : Mv O O' w w') : V t x v O' w' :=
  let ⟨cs, h1, h2⟩ := h
  ⟨cs, h1, t.mv hm h2⟩
theorem V.ext {α : Type} {t : Ty α} {x : α} {v : Value} {O : List (Option Nat)} {w w' : World} (h : V t x v O w) (hm : Ext w w') : V t x v O w' := h.mv (.of_ext hm)
theorem V.any {α : Type} {t : Ty α} {x : α} {v : Value} {O : List (Option Nat)} {w : World} (h : V t x v O w) : V t x v [] w := h.mv (.less (by simp))

def tI (k : IntKind) : Ty Int where
  n := 1
  agg := false
  rep := fun _ _ x cs => cs = [.int k x] ∧ InK k x
  len := by rintro _ _ _ _ ⟨rfl, _⟩; rfl
  one := by rintro _ _ _ _ ⟨rfl, _⟩ u hu; simp at hu; subst hu; rfl
  mv := fun _ h => h
  flat := fun _ => rfl
abbrev tInt : Ty Int := tI .i64

def tBool : Ty Bool where
  n := 1
  agg := false
  rep := fun _ _ x cs => cs = [.bool x]
  len := by rintro _ _ _ _ rfl; rfl
  one := by rintro _ _ _ _ rfl u hu; simp at hu; subst hu; rfl
  mv := fun _ h => h
  flat := fun _ => rfl

def Els {α : Type} (t : Ty α) (O : List (Option Nat)) (w : World) (xs : List α) (b o : Nat) : Prop :=
  ∀ i x, xs[i]? = some x → ∃ es, t.rep O w x es ∧ ∀ j u, es[j]? = some u → w.cell? ⟨b, o + i * t.n + j, none⟩ = some u

def tSl {α : Type} (t : Ty α) : Ty (List α) where
  n := 1
  agg := false
  rep := fun O w xs cs => ∃ a cap, cs = [.slice a xs.length cap] ∧ xs.length ≤ cap ∧ cap ≤ maxLen ∧
    (xs ≠ [] → ∃ b o, a = some ⟨b, o, none⟩ ∧ some b ∉ O ∧ b < w.heap.size ∧ Els t O w xs b o)
  len := by rintro _ _ _ _ ⟨a, cap, rfl, _⟩; rfl
  one := by rintro _ _ _ _ ⟨a, cap, rfl, _⟩ u hu; simp at hu; subst hu; rfl
  mv := by
    rintro O O' w w' xs cs hm ⟨a, cap, rfl, h1, h2, h3⟩
    refine ⟨a, cap, rfl, h1, h2, fun hn => ?_⟩
    obtain ⟨b, o, h4, h5, h6, h7⟩ := h3 hn
    obtain ⟨k1, k2⟩ := hm.2 b h6 h5
    refine ⟨b, o, h4, k2, Nat.lt_of_lt_of_le h6 hm.1, fun i x hx => ?_⟩
    obtain ⟨es, g1, g2⟩ := h7 i x hx
    exact ⟨es, t.mv hm g1, fun j u hu => (World.cell?_of_block k1).trans (g2 j u hu)⟩
  flat := fun _ => rfl

def tP {α β : Type} (t : Ty α) (u : Ty β) : Ty (α × β) where
  n := t.n + u.n
  agg := true
  rep := fun O w x cs => ∃ c d, cs = c ++ d ∧ t.rep O w x.1 c ∧ u.rep O w x.2 d
  len := by rintro _ _ _ _ ⟨c, d, rfl, h1, h2⟩; rw [List.length_append, t.len h1, u.len h2]
  one := by
    rintro _ _ _ _ ⟨c, d, rfl, h1, h2⟩ v hv
    rcases List.mem_append.1 hv with hv | hv
    · exact t.one h1 v hv
    · exact u.one h2 v hv
  mv := by
    rintro O O' w w' x cs hm ⟨c, d, rfl, h1, h2⟩
    exact ⟨c, d, rfl, t.mv hm h1, u.mv hm h2⟩
  flat := fun h => by cases h

theorem V.int {k : IntKind} {x : Int} {v : Value} {O : List (Option Nat)} {w : World} (h : V (tI k) x v O w) : v = .int k x ∧ InK k x := by
  obtain ⟨cs, rfl, rfl, h⟩ := h
  exact ⟨rfl, h⟩
theorem V.mkInt {k : IntKind} {x : Int} {O : List (Option Nat)} {w : World} (h : InK k x) : V (tI k) x (.int k x) O w := ⟨[.int k x], rfl, rfl, h⟩
theorem V.bool {x : Bool} {v : Value} {O : List (Option Nat)} {w : World} (h : V tBool x v O w) : v = .bool x := by
  obtain ⟨cs, rfl, rfl⟩ := h
  rfl
section slices
variable {α : Type} {t : Ty α} {xs : List α} {v : Value} {O : List (Option Nat)} {w : World}

theorem V.form (h : V (tSl t) xs v O w) : ∃ a cap, v = .slice a xs.length cap ∧ xs.length ≤ cap ∧ cap ≤ maxLen ∧ (xs ≠ [] → ∃ b o, a = some ⟨b, o, none⟩ ∧ some b ∉ O ∧ b < w.heap.size ∧ Els t O w xs b o) := by
  obtain ⟨cs, rfl, a, cap, rfl, h⟩ := h
  exact ⟨a, cap, rfl, h⟩

theorem V.of_form {a : Option Addr} {cap : Nat} (h1 : xs.length ≤ cap) (h2 : cap ≤ maxLen) (h3 : xs ≠ [] → ∃ b o, a = some ⟨b, o, none⟩ ∧ some b ∉ O ∧ b < w.heap.size ∧ Els t O w xs b o) :
    V (tSl t) xs (.slice a xs.length cap) O w := ⟨[.slice a xs.length cap], rfl, a, cap, rfl, h1, h2, h3⟩

theorem V.lenLe (h : V (tSl t) xs v O w) : xs.length ≤ maxLen := by
  obtain ⟨a, cap, _, h1, h2, _⟩ := h.form
  omega

theorem V.nil : V (tSl t) [] (.slice none 0 0) O w := ⟨[.slice none 0 0], rfl, none, 0, rfl, Nat.le_refl _, Nat.zero_le _, fun h => (h rfl).elim⟩
end slices

def PtE {α : Type} (t : Ty α) (x : α) (p : Value) (O : List (Option Nat)) (w : World) : Prop :=
  ∃ b o es, p = .pointer (some ⟨b, o, none⟩) ∧ t.rep O w x es ∧ b < w.heap.size ∧ some b ∉ O ∧ ∀ j u, es[j]? = some u → w.cell? ⟨b, o + j, none⟩ = some u

def Reps {α : Type} (t : Ty α) (F : List (Option Nat)) (w : World) (ys : List α) (cs : List Value) : Prop :=
  cs.length = ys.length * t.n ∧ ∀ i y, ys[i]? = some y → t.rep F w y ((cs.drop (i * t.n)).take t.n)

theorem Reps.mv {α : Type} {t : Ty α} {F F' : List (Option Nat)} {w w' : World} {ys : List α} {cs : List Value} (h : Reps t F w ys cs) (hm : Mv F F' w w') : Reps t F' w' ys cs :=
  ⟨h.1, fun i y hy => t.mv hm (h.2 i y hy)⟩
theorem Reps.nil {α : Type} {t : Ty α} {F : List (Option Nat)} {w : World} : Reps t F w [] [] := ⟨by simp, by simp⟩

/-! ### What a call owns -/

inductive Ob : Type 1 where
  /-- a variable in a block of its own -/
  | box (g : Nat) (e : TypeId) (cs : List Value)
  /-- a slice of the call's own: what its elements are, its value, its elements -/
  | row {α : Type} (t : Ty α) (e : TypeId) (v : Value) (ys : List α)
  /-- a block of the call's own that holds no cells: a string that is gone through, a map -/
  | raw (g : Nat) (o : Obj)
  /-- something that holds of memory that is not written -/
  | imm (S : List (Option Nat) → World → Prop) (mono : ∀ O O' w w', Mv O O' w w' → S O w → S O' w')

def Ob.blk : Ob → Option Nat
  | .box g _ _ => some g
  | .row _ _ v _ => v.ownBlock
  | .raw g _ => some g
  | .imm _ _ => none

def Ob.ok (base : Nat) (F : List (Option Nat)) (w : World) : Ob → Prop
  | .box g e cs => base ≤ g ∧ w.heap[g]? = some (.cells cs.toArray e (0, 0))
  | .row t e v ys => ∃ cs, w.ownsRow base e t.n v ys.length cs ∧ Reps t F w ys cs
  | .raw g o => base ≤ g ∧ w.heap[g]? = some o
  | .imm S _ => S F w

abbrev Ob.v {α : Type} (t : Ty α) (x : α) (v : Value) : Ob := .imm (V t x v) fun _ _ _ _ hm h => h.mv hm
def fb (obs : List Ob) (O : List (Option Nat)) : List (Option Nat) := obs.map Ob.blk ++ O

structure St (w0 : World) (O : List (Option Nat)) (w : World) (obs : List Ob) : Prop where
  bel : Ext w0 w
  olt : ∀ b, some b ∈ O → b < w0.heap.size
  ok : ∀ ob ∈ obs, ob.ok w0.heap.size (fb obs O) w
  sep : obs.Pairwise fun a b => a.blk = none ∨ a.blk ≠ b.blk

section
variable {w0 w w' : World} {O : List (Option Nat)} {obs : List Ob}

theorem Ob.ok_lt {ob : Ob} {base : Nat} {F : List (Option Nat)} (h : ob.ok base F w) {b : Nat} (hb : ob.blk = some b) : base ≤ b ∧ b < w.heap.size := by
  cases ob with
  | box g e cs =>
    simp only [Ob.blk, Option.some.injEq] at hb
    subst hb
    exact ⟨h.1, (Array.getElem?_eq_some_iff.1 h.2).1⟩
  | row t e v ys =>
    obtain ⟨cs, h, _⟩ := h
    exact World.ownsRow.lt h b hb
  | raw g o =>
    simp only [Ob.blk, Option.some.injEq] at hb
    subst hb
    exact ⟨h.1, (Array.getElem?_eq_some_iff.1 h.2).1⟩
  | imm S m => simp [Ob.blk] at hb

theorem St.fb_lt (h : St w0 O w obs) : ∀ b, some b ∈ fb obs O → b < w.heap.size := by
  intro b hb
  rcases List.mem_append.1 hb with hb | hb
  · obtain ⟨ob, ho, hb⟩ := List.mem_map.1 hb
    exact (Ob.ok_lt (h.ok ob ho) hb).2
  · exact Nat.lt_of_lt_of_le (h.olt b hb) h.bel.size

theorem St.mv0 (h : St w0 O w obs) : Mv O (fb obs O) w0 w := by
  refine ⟨h.bel.size, fun b hb hO => ⟨h.bel.block b hb, fun hm => ?_⟩⟩
  rcases List.mem_append.1 hm with hm | hm
  · obtain ⟨ob, ho, hm⟩ := List.mem_map.1 hm
    have := (Ob.ok_lt (h.ok ob ho) hm).1
    omega
  · exact hO hm

theorem St.arg {α : Type} {t : Ty α} {x : α} {v : Value} (h : St w0 O w obs) (hv : V t x v O w0) : V t x v (fb obs O) w := hv.mv h.mv0

theorem St.start (w0 : World) (O : List (Option Nat)) (hO : ∀ b, some b ∈ O → b < w0.heap.size) : St w0 O w0 [] :=
  ⟨Ext.refl _, hO, by simp, List.Pairwise.nil⟩
theorem St.start0 (w0 : World) : St w0 [] w0 [] := St.start w0 [] (by simp)

theorem St.get (h : St w0 O w obs) {ob : Ob} (i : Nat) (hi : obs[i]? = some ob) : ob.ok w0.heap.size (fb obs O) w := h.ok ob (List.mem_of_getElem? hi)

theorem St.v {α : Type} {t : Ty α} {x : α} {v : Value} (h : St w0 O w obs) (i : Nat) (hi : obs[i]? = some (Ob.v t x v)) : V t x v (fb obs O) w := h.get i hi
theorem Ob.ok_ext {ob : Ob} {base : Nat} {F F' : List (Option Nat)} (h : ob.ok base F w) (hx : Ext w w') (hF : Mv F F' w w') : ob.ok base F' w' := by
  cases ob with
  | box g e cs => exact ⟨h.1, (hx.block g (Array.getElem?_eq_some_iff.1 h.2).1).trans h.2⟩
  | row t e v ys =>
    obtain ⟨cs, h, hr⟩ := h
    exact ⟨cs, World.ownsRow.kept (row := none) h ⟨hx.os, hx.tape, hx.output, hx.size, fun k hk _ => hx.block k hk⟩ (by cases hv : v.ownBlock <;> simp), hr.mv hF⟩
  | raw g o => exact ⟨h.1, (hx.block g (Array.getElem?_eq_some_iff.1 h.2).1).trans h.2⟩
  | imm S m => exact m _ _ _ _ hF h

theorem St.ext (h : St w0 O w obs) (hx : Ext w w') : St w0 O w' obs :=
  ⟨Ext.trans h.bel hx, h.olt, fun ob ho => Ob.ok_ext (h.ok ob ho) hx (.of_ext hx), h.sep⟩

theorem St.addS {S : List (Option Nat) → World → Prop} {m : ∀ O O' w w', Mv O O' w w' → S O w → S O' w'} (h : St w0 O w obs) (hv : S (fb obs O) w) : St w0 O w (.imm S m :: obs) := by
  have hM : Mv (fb obs O) (fb (.imm S m :: obs) O) w w := ⟨Nat.le_refl _, fun b _ hb => ⟨rfl, fun hb' => hb (by simpa [fb, Ob.blk] using hb')⟩⟩
  refine ⟨h.bel, h.olt, fun ob ho => ?_, List.Pairwise.cons (fun _ _ => .inl rfl) h.sep⟩
  rcases List.mem_cons.1 ho with rfl | ho
  · exact m _ _ _ _ hM hv
  · exact Ob.ok_ext (h.ok ob ho) (Ext.refl _) hM

theorem St.add {α : Type} {t : Ty α} {x : α} {v : Value} (h : St w0 O w obs) (hv : V t x v (fb obs O) w) : St w0 O w (Ob.v t x v :: obs) := h.addS hv

theorem St.sub {obs' : List Ob} (h : St w0 O w obs) (hs : obs'.Sublist obs) : St w0 O w obs' := by
  have hM : Mv (fb obs O) (fb obs' O) w w := .less fun b hb => by
    rcases List.mem_append.1 hb with hb | hb
    · exact List.mem_append.2 (.inl ((hs.map Ob.blk).subset hb))
    · exact List.mem_append.2 (.inr hb)
  exact ⟨h.bel, h.olt, fun ob ho => Ob.ok_ext (h.ok ob (hs.subset ho)) (Ext.refl _) hM, h.sep.sublist hs⟩

theorem St.drop (h : St w0 O w obs) (i : Nat) : St w0 O w (obs.eraseIdx i) := h.sub (List.eraseIdx_sublist obs i)

theorem St.tl {a : Ob} (h : St w0 O w (a :: obs)) : St w0 O w obs := h.sub (List.sublist_cons_self _ _)

theorem St.new (h : St w0 O w obs) (e : TypeId) (cs : List Value) : St w0 O (w.alloc (.cells cs.toArray e)) (.box w.heap.size e cs :: obs) := by
  have hx : Ext w (w.alloc (.cells cs.toArray e)) := (Below.refl _ _).alloc (Nat.le_refl _) _
  have hM : Mv (fb obs O) (fb (.box w.heap.size e cs :: obs) O) w (w.alloc (.cells cs.toArray e)) := by
    refine ⟨hx.size, fun b hb hO => ⟨hx.block b hb, fun hm => ?_⟩⟩
    simp only [fb, List.map_cons, List.cons_append, Ob.blk] at hm
    rcases List.mem_cons.1 hm with hm | hm
    · injection hm with hm
      omega
    · exact hO hm
  refine ⟨Ext.trans h.bel hx, h.olt, fun ob ho => ?_, List.Pairwise.cons (fun ob ho => ?_) h.sep⟩
  · rcases List.mem_cons.1 ho with rfl | ho
    · exact ⟨h.bel.size, heap_alloc_new w _⟩
    · exact Ob.ok_ext (h.ok ob ho) hx hM
  · right
    intro hb
    have := (Ob.ok_lt (h.ok ob ho) (b := w.heap.size) hb.symm).2
    omega

theorem St.turn (h : St w0 O w obs) (i : Nat) {ob ob' : Ob} (hi : obs[i]? = some ob) (hos : w'.os = w.os) (htape : w'.tape = w.tape) (hout : w'.output = w.output) (hsz : w.heap.size ≤ w'.heap.size)
    (hbl : ∀ b, b < w.heap.size → some b ≠ ob.blk → w'.heap[b]? = w.heap[b]?) (hnew : ∀ b, ob'.blk = some b → ob.blk = some b ∨ w.heap.size ≤ b) (hlt : ∀ b, ob'.blk = some b → b < w'.heap.size)
    (hok : ∀ F, Mv (fb obs O) F w w' → ob'.ok w0.heap.size F w') : St w0 O w' (obs.set i ob') := by
  have hil : i < obs.length := (List.getElem?_eq_some_iff.1 hi).1
  have hmem : ob ∈ obs := List.mem_of_getElem? hi
  have hob := h.ok ob hmem
  have hx0 : Ext w0 w' := by
    refine Below.trans h.bel ⟨hos, htape, hout, hsz, fun k hk => ?_⟩
    refine hbl k (Nat.lt_of_lt_of_le hk h.bel.size) fun hb => ?_
    have := (Ob.ok_lt hob hb.symm).1
    omega
  have hM : Mv (fb obs O) (fb (obs.set i ob') O) w w' := by
    refine ⟨hsz, fun b hb hO => ⟨hbl b hb fun hb' => hO ?_, fun hm => ?_⟩⟩
    · exact List.mem_append.2 (.inl (List.mem_map.2 ⟨ob, hmem, hb'.symm⟩))
    · rcases List.mem_append.1 hm with hm | hm
      · obtain ⟨o2, ho2, hb2⟩ := List.mem_map.1 hm
        rcases List.mem_or_eq_of_mem_set ho2 with ho2 | rfl
        · exact hO (List.mem_append.2 (.inl (List.mem_map.2 ⟨o2, ho2, hb2⟩)))
        · rcases hnew b hb2 with h1 | h1
          · exact hO (List.mem_append.2 (.inl (List.mem_map.2 ⟨ob, hmem, h1⟩)))
          · omega
      · exact hO (List.mem_append.2 (.inr hm))
  have hsep := List.pairwise_iff_getElem.1 h.sep
  refine ⟨hx0, h.olt, fun o2 ho2 => ?_, ?_⟩
  · obtain ⟨j, hj, hje⟩ := List.mem_iff_getElem.1 ho2
    have hjl : j < obs.length := by simpa using hj
    rw [List.getElem_set] at hje
    by_cases hij : i = j
    · subst hij
      simp only [if_true] at hje
      subst hje
      exact hok _ hM
    · rw [if_neg hij] at hje
      subst hje
      have hob2 := h.ok obs[j] (List.getElem_mem hjl)
      have hne : obs[j].blk = none ∨ obs[j].blk ≠ ob.blk := by
        have hie : obs[i] = ob := (List.getElem?_eq_some_iff.1 hi).2
        rcases Nat.lt_or_gt_of_ne hij with hlt | hgt
        · rcases hsep i j hil hjl hlt with h0 | h0
          · rw [hie] at h0
            cases hb : obs[j].blk with
            | none => exact .inl rfl
            | some b => rw [h0]; exact .inr (by simp)
          · rw [hie] at h0
            exact .inr (Ne.symm h0)
        · rcases hsep j i hjl hil hgt with h0 | h0
          · exact .inl h0
          · rw [hie] at h0
            exact .inr h0
      have keep : ∀ b, obs[j].blk = some b → w'.heap[b]? = w.heap[b]? := fun b hb =>
        hbl b (Ob.ok_lt hob2 hb).2 (by
          intro hb'
          rcases hne with h0 | h0
          · rw [h0] at hb; cases hb
          · exact h0 (hb.trans hb'))
      revert hob2 keep
      generalize obs[j] = o3
      intro hob2 keep
      cases o3 with
      | box g e cs => exact ⟨hob2.1, (keep g rfl).trans hob2.2⟩
      | row t e v ys =>
        obtain ⟨cs, hw, hr⟩ := hob2
        refine ⟨cs, ⟨hw.1, ?_⟩, hr.mv hM⟩
        rcases hw.2 with hn | ⟨g, cap, cur, rfl, h1, h2, h3⟩
        · exact .inl hn
        · exact .inr ⟨g, cap, cur, rfl, h1, (keep g rfl).trans h2, h3⟩
      | raw g o => exact ⟨hob2.1, (keep g rfl).trans hob2.2⟩
      | imm S m => exact m _ _ _ _ hM hob2
  · rw [List.pairwise_iff_getElem]
    intro a b ha hb hab
    have ha' : a < obs.length := by simpa using ha
    have hb' : b < obs.length := by simpa using hb
    have old := hsep a b ha' hb' hab
    have hie : obs[i] = ob := (List.getElem?_eq_some_iff.1 hi).2
    rw [List.getElem_set, List.getElem_set]
    by_cases h1 : i = a
    · subst h1
      rw [if_pos rfl, if_neg (by omega)]
      cases hq : ob'.blk with
      | none => exact .inl rfl
      | some x =>
        right
        intro hx
        rcases hnew x hq with h2 | h2
        · rcases old with h3 | h3
          · rw [hie, h2] at h3; cases h3
          · rw [hie] at h3
            exact h3 (h2.trans hx)
        · have := (Ob.ok_lt (h.ok obs[b] (List.getElem_mem hb')) hx.symm).2
          omega
    · rw [if_neg h1]
      by_cases h2 : i = b
      · subst h2
        rw [if_pos rfl]
        cases hq : obs[a].blk with
        | none => exact .inl rfl
        | some x =>
          right
          intro hx
          rcases hnew x hx.symm with h3 | h3
          · rcases old with h4 | h4
            · rw [hq] at h4; cases h4
            · rw [hie, hq] at h4
              exact h4 h3.symm
          · have := (Ob.ok_lt (h.ok obs[a] (List.getElem_mem ha')) hq).2
            omega
      · rw [if_neg h2]
        exact old

theorem St.addNil {α : Type} (h : St w0 O w obs) (t : Ty α) (e : TypeId) : St w0 O w (.row t e (.slice none 0 0) ([] : List α) :: obs) := by
  have hM : Mv (fb obs O) (fb (.row t e (.slice none 0 0) ([] : List α) :: obs) O) w w := ⟨Nat.le_refl _, fun b _ hb => ⟨rfl, fun hb' => hb (by simpa [fb, Ob.blk, Value.ownBlock] using hb')⟩⟩
  refine ⟨h.bel, h.olt, fun ob ho => ?_, List.Pairwise.cons (fun _ _ => .inl rfl) h.sep⟩
  rcases List.mem_cons.1 ho with rfl | ho
  · exact ⟨[], World.ownsRow_nil w _ e t.n, Reps.nil⟩
  · exact Ob.ok_ext (h.ok ob ho) (Ext.refl _) hM

theorem St.push (h : St w0 O w obs) (hx : Ext w w') (ob : Ob) (hb : ∀ b, ob.blk = some b → w.heap.size ≤ b) (hok : ∀ F, Mv (fb obs O) F w w' → ob.ok w0.heap.size F w') : St w0 O w' (ob :: obs) := by
  have hM : Mv (fb obs O) (fb (ob :: obs) O) w w' := by
    refine ⟨hx.size, fun b hbl hO => ⟨hx.block b hbl, fun hm => ?_⟩⟩
    simp only [fb, List.map_cons, List.cons_append] at hm
    rcases List.mem_cons.1 hm with hm | hm
    · have := hb b hm.symm
      omega
    · exact hO hm
  refine ⟨Ext.trans h.bel hx, h.olt, fun o2 ho => ?_, List.Pairwise.cons (fun o2 ho => ?_) h.sep⟩
  · rcases List.mem_cons.1 ho with rfl | ho
    · exact hok _ hM
    · exact Ob.ok_ext (h.ok o2 ho) hx hM
  · cases hq : ob.blk with
    | none => exact .inl rfl
    | some b =>
      right
      intro he
      have h1 := hb b hq
      have h2 := (Ob.ok_lt (h.ok o2 ho) he.symm).2
      omega

theorem row_els {α : Type} {t : Ty α} {base : Nat} {e : TypeId} {v : Value} {ys : List α} {F F' : List (Option Nat)} {cs : List Value} {g : Nat} (hr : w.ownsRow base e t.n v ys.length cs) (hR : Reps t F w ys cs) (hm : Mv F F' w w)
    (hg : v.ownBlock = some g) : Els t F' w ys g 0 := by
  intro i y hy
  refine ⟨_, t.mv hm (hR.2 i y hy), fun j u hu => ?_⟩
  rw [List.getElem?_take] at hu
  split at hu
  · rw [List.getElem?_drop] at hu
    have := hr.cells hg (i * t.n + j) u hu
    rw [Addr.add_lit, Nat.zero_add] at this
    rw [show 0 + i * t.n + j = i * t.n + j by omega]
    exact this
  · cases hu

theorem St.lend {α : Type} {t : Ty α} {e : TypeId} {v : Value} {ys : List α} (h : St w0 O w obs) (i : Nat) (hi : obs[i]? = some (.row t e v ys)) : V (tSl t) ys v (fb (obs.eraseIdx i) O) w := by
  have hil : i < obs.length := (List.getElem?_eq_some_iff.1 hi).1
  have hie : obs[i] = .row t e v ys := (List.getElem?_eq_some_iff.1 hi).2
  obtain ⟨cs, hr, hR⟩ := h.get i hi
  have hsub : ∀ b, some b ∈ fb (obs.eraseIdx i) O → some b ∈ fb obs O := fun b hb => by
    rcases List.mem_append.1 hb with hb | hb
    · exact List.mem_append.2 (.inl (((List.eraseIdx_sublist obs i).map Ob.blk).subset hb))
    · exact List.mem_append.2 (.inr hb)
  rcases hr.2 with ⟨rfl, hn⟩ | ⟨g, cap, cur, rfl, h1, h2, h3, h4, h5⟩
  · have : ys = [] := List.eq_nil_of_length_eq_zero hn
    subst this
    exact V.nil
  · refine V.of_form h3 h4 fun _ => ⟨g, 0, rfl, fun hm => ?_, (Array.getElem?_eq_some_iff.1 h2).1, row_els hr hR (.less hsub) rfl⟩
    have hsep := List.pairwise_iff_getElem.1 h.sep
    rcases List.mem_append.1 hm with hm | hm
    · obtain ⟨o2, ho2, hb2⟩ := List.mem_map.1 hm
      obtain ⟨j, hj, hje⟩ := List.mem_iff_getElem.1 ho2
      rw [List.getElem_eraseIdx] at hje
      have hbr : (Ob.row t e (.slice (some ⟨g, 0, none⟩) ys.length cap) ys).blk = some g := rfl
      split at hje
      · rename_i hlt
        have := hsep j i (by omega) hil hlt
        rw [hje, hie, hbr, hb2] at this
        simp at this
      · rename_i hge
        have hj' : j + 1 < obs.length := by
          have := hj
          rw [List.length_eraseIdx_of_lt hil] at this
          omega
        have := hsep i (j + 1) hil hj' (by omega)
        rw [hje, hie, hbr, hb2] at this
        simp at this
    · have := h.olt g hm
      omega

theorem St.freeze {α : Type} {t : Ty α} {e : TypeId} {v : Value} {ys : List α} (h : St w0 O w obs) (i : Nat) (hi : obs[i]? = some (.row t e v ys)) : St w0 O w (Ob.v (tSl t) ys v :: obs.eraseIdx i) :=
  (h.drop i).add (h.lend i hi)

end
end Go.Wk

namespace Go.Wk
open Go.RowKit

theorem in_i64 {x : Int} (h1 : -9223372036854775808 ≤ x) (h2 : x ≤ 9223372036854775807) : InK .i64 x := ⟨h1, h2⟩
theorem in_u8 {x : Int} (h1 : 0 ≤ x) (h2 : x ≤ 255) : InK .u8 x := ⟨h1, h2⟩
theorem in_u64 {x : Int} (h1 : 0 ≤ x) (h2 : x ≤ 18446744073709551615) : InK .u64 x := ⟨h1, h2⟩
theorem in_i32 {x : Int} (h1 : -2147483648 ≤ x) (h2 : x ≤ 2147483647) : InK .i32 x := ⟨h1, h2⟩
theorem bd_i64 {x : Int} (h : InK .i64 x) : -9223372036854775808 ≤ x ∧ x ≤ 9223372036854775807 := h
theorem bits_in (op : BinOp) (k : IntKind) (a b : Int) : InK k (bits op k a b) := by simp only [bits]; split <;> exact wrap_inK _ _
theorem bd_u8 {x : Int} (h : InK .u8 x) : 0 ≤ x ∧ x ≤ 255 := h
theorem bd_u64 {x : Int} (h : InK .u64 x) : 0 ≤ x ∧ x ≤ 18446744073709551615 := h
theorem bd_i32 {x : Int} (h : InK .i32 x) : -2147483648 ≤ x ∧ x ≤ 2147483647 := h

section
variable {P : Program} {σ : Fr} {w w0 : World} {ty : TypeId} {x y : Operand} {k : IntKind} {a b : Int} {T T' : TypeId} {O : List (Option Nat)} {obs : List Ob}

theorem Rd.of {op : Op} {v : Value} (h : ∀ w', (xop (ev σ) op ty).run P w' = .ok (.value v) w') : Rd P σ op ty w v := fun w' _ => h w'

theorem rd_move {v : Value} (hx : ev σ x = v) : Rd P σ (.move x) ty w v := Rd.of fun w' => by subst hx; rfl
theorem rd_assign {v : Value} (hx : ev σ x = v) : Rd P σ (.assign x) ty w v := Rd.of fun w' => by subst hx; rfl
theorem rd_pickT {c : Operand} {v : Value} (hc : ev σ c = .bool true) (hx : ev σ x = v) : Rd P σ (.pick c x y) ty w v :=
  Rd.of fun w' => by subst hx; simp [xop, execOp, hc, asBool]
theorem rd_pickF {c : Operand} {v : Value} (hc : ev σ c = .bool false) (hy : ev σ y = v) : Rd P σ (.pick c x y) ty w v :=
  Rd.of fun w' => by subst hy; simp [xop, execOp, hc, asBool]
theorem rd_not {c : Bool} (hx : ev σ x = .bool c) : Rd P σ (.unOp .not T x) ty w (.bool (!c)) :=
  Rd.of fun w' => by simp [xop, execOp, hx, Op.unary]
section
variable (hx : ev σ x = .int k a) (hy : ev σ y = .int k b)
include hx hy
theorem rd_add (hr : InK k (a + b)) : Rd P σ (.binOp .add T x y T') ty w (.int k (a + b)) :=
  Rd.of fun w' => by simp [xop, execOp, hx, hy, eqGuard_at_int, binOp_add, Op.intArith, wrap_in hr]
theorem rd_sub (hr : InK k (a - b)) : Rd P σ (.binOp .sub T x y T') ty w (.int k (a - b)) :=
  Rd.of fun w' => by simp [xop, execOp, hx, hy, eqGuard_at_int, binOp_sub, Op.intArith, wrap_in hr]
theorem rd_mul (hr : InK k (a * b)) : Rd P σ (.binOp .mul T x y T') ty w (.int k (a * b)) :=
  Rd.of fun w' => by simp [xop, execOp, hx, hy, eqGuard_at_int, binOp_mul, Op.intArith, wrap_in hr]
theorem rd_quo (ha : 0 ≤ a) (hb : 1 ≤ b) (hr : InK k (a / b)) : Rd P σ (.binOp .quo T x y T') ty w (.int k (a / b)) :=
  Rd.of fun w' => by
    have hb0 : b ≠ 0 := by omega
    simp [xop, execOp, hx, hy, eqGuard_at_int, binOp_quo, Op.intDiv, hb0, Int.tdiv_eq_ediv_of_nonneg ha, wrap_in hr]
theorem rd_rem (ha : 0 ≤ a) (hb : b ≠ 0) : Rd P σ (.binOp .rem T x y T') ty w (.int k (a % b)) :=
  Rd.of fun w' => by
    simp [xop, execOp, hx, hy, eqGuard_at_int, binOp_rem, Op.intDiv, hb, Int.tmod_eq_emod_of_nonneg ha]
theorem rd_lss : Rd P σ (.binOp .lss T x y T') ty w (.bool (decide (a < b))) :=
  Rd.of fun w' => by simp [xop, execOp, hx, hy, eqGuard_at_int, binOp_lss]
theorem rd_leq : Rd P σ (.binOp .leq T x y T') ty w (.bool (decide (a ≤ b))) :=
  Rd.of fun w' => by simp [xop, execOp, hx, hy, eqGuard_at_int, binOp_leq]
theorem rd_gtr : Rd P σ (.binOp .gtr T x y T') ty w (.bool (decide (b < a))) :=
  Rd.of fun w' => by simp [xop, execOp, hx, hy, eqGuard_at_int, binOp_gtr]
theorem rd_geq : Rd P σ (.binOp .geq T x y T') ty w (.bool (decide (b ≤ a))) :=
  Rd.of fun w' => by simp [xop, execOp, hx, hy, eqGuard_at_int, binOp_geq]
theorem rd_eql : Rd P σ (.binOp .eql T x y T') ty w (.bool (decide (a = b))) :=
  Rd.of fun w' => by
    by_cases h : a = b <;> simp [xop, execOp, hx, hy, eqGuard_at_int, binOp_eql, h]
theorem rd_neq : Rd P σ (.binOp .neq T x y T') ty w (.bool (decide (a ≠ b))) :=
  Rd.of fun w' => by
    simp [xop, execOp, hx, hy, eqGuard_at_int, binOp_neq, bne, Bool.beq_eq_decide_eq]
theorem rd_and : Rd P σ (.binOp .and T x y T') ty w (.int k (bits .and k a b)) :=
  Rd.of fun w' => by simp [xop, execOp, hx, hy, eqGuard_at_int, binOp_and, intBits_and]
theorem rd_or : Rd P σ (.binOp .or T x y T') ty w (.int k (bits .or k a b)) :=
  Rd.of fun w' => by simp [xop, execOp, hx, hy, eqGuard_at_int, binOp_or, intBits_or]
theorem rd_andNot : Rd P σ (.binOp .andNot T x y T') ty w (.int k (bits .andNot k a b)) :=
  Rd.of fun w' => by simp [xop, execOp, hx, hy, eqGuard_at_int, binOp_andNot, intBits_andNot]
end

theorem rd_shl {k' : IntKind} (hx : ev σ x = .int k a) (hy : ev σ y = .int k' b) (hb : 0 ≤ b) : Rd P σ (.binOp .shl T x y T') ty w (.int k (k.wrap (a * 2 ^ min b.toNat k.bits))) :=
  Rd.of fun w' => by simp [xop, execOp, hx, hy, eqGuard_at_int, binOp_shl, shift_shl_any k k' a b hb]
theorem rd_shr {k' : IntKind} (hx : ev σ x = .int k a) (hy : ev σ y = .int k' b) (hb : 0 ≤ b) : Rd P σ (.binOp .shr T x y T') ty w (.int k (a / 2 ^ min b.toNat k.bits)) :=
  Rd.of fun w' => by simp [xop, execOp, hx, hy, eqGuard_at_int, binOp_shr, shift_shr_any k k' a b hb]

theorem rd_eqlS {s t : ByteArray} (hx : ev σ x = .string s) (hy : ev σ y = .string t) : Rd P σ (.binOp .eql T x y T') ty w (.bool (s == t)) :=
  Rd.of fun w' => by simp [xop, execOp, hx, hy, eqGuard_at_string, binOp, Op.stringOp, beq_toListBytes]
theorem rd_conv {s d : TypeId} {k' : IntKind} (hx : ev σ x = .int k a) (hs : P.underlying s = some (.int k)) (hd : P.underlying d = some (.int k')) :
    Rd P σ (.convert s d x) ty w (.int k' (k'.wrap a)) :=
  Rd.of fun w' => by
    simp [xop, execOp, hx, convert, run_underlying hs, run_underlying hd, Conv.intToInt]
theorem rd_convIn {s d : TypeId} {k' : IntKind} (hx : ev σ x = .int k a) (hs : P.underlying s = some (.int k)) (hd : P.underlying d = some (.int k')) (hr : InK k' a) :
    Rd P σ (.convert s d x) ty w (.int k' a) := by
  have := rd_conv (P := P) (w := w) (ty := ty) hx hs hd
  rwa [wrap_in hr] at this

theorem rd_extract {vs : Array Value} {i : Nat} {v : Value} (hx : ev σ x = .tuple vs) (hi : vs[i]? = some v) : Rd P σ (.extract x i) ty w v :=
  Rd.of fun w' => by simp [xop, execOp, hx, Instr.extract, hi]

theorem rd_nilCheck {p : Option Addr} {ad : Addr} (hx : ev σ x = .pointer p) (hp : p = some ad) : Rd P σ (.nilCheck x) ty w (.pointer (some ad)) :=
  Rd.of fun w' => by subst hp; simp [xop, execOp, hx]

theorem rd_makeFunc {fn : Fn} {fs cs : List Operand} {vs us : List Value} (h1 : fs.map (ev σ) = vs) (h2 : cs.map (ev σ) = us) : Rd P σ (.makeFunc fn fs.toArray cs.toArray) ty w (.func fn vs.toArray us.toArray) :=
  Rd.of fun w' => by
    subst h1 h2
    simp [xop, execOp, Instr.makeFunc]

theorem rd_len {t : TypeId} {e : TypeId} {ad : Option Addr} {n c : Nat} (hx : ev σ x = .slice ad n c) (hu : P.underlying t = some (.slice e)) :
    Rd P σ (.call { callee := .builtin .len, args := #[x], argTypes := #[t] }) ty w (.int .i64 n) :=
  Rd.of fun w' => by
    simp [xop, execOp, resolve, invoke, builtin, hx, Builtin.len_, run_underlying hu, goInt]

theorem rd_lenV {α : Type} {t : Ty α} {xs : List α} {v : Value} {tt e : TypeId} {F : List (Option Nat)} {wv : World} (hx : ev σ x = v) (hv : V (tSl t) xs v F wv) (hu : P.underlying tt = some (.slice e)) :
    Rd P σ (.call { callee := .builtin .len, args := #[x], argTypes := #[tt] }) ty w (.int .i64 xs.length) := by
  obtain ⟨ad, cap, rfl, _⟩ := hv.form
  exact rd_len hx hu

theorem ownsRow_form {base : Nat} {e : TypeId} {size : Nat} {v : Value} {n : Nat} {xs : List Value} (h : w.ownsRow base e size v n xs) : ∃ ad c, v = .slice ad n c ∧ n ≤ c ∧ c ≤ maxLen := by
  rcases h.2 with ⟨rfl, rfl⟩ | ⟨g, cap, cur, rfl, _, _, h1, h2, _⟩
  · exact ⟨_, _, rfl, Nat.le_refl _, Nat.zero_le _⟩
  · exact ⟨_, _, rfl, h1, h2⟩

theorem rd_lenR {α : Type} {t : Ty α} {tt e et : TypeId} {v : Value} {ys : List α} (hS : St w0 O w obs) (i : Nat) (hi : obs[i]? = some (.row t et v ys)) (hx : ev σ x = v)
    (hu : P.underlying tt = some (.slice e)) : Rd P σ (.call { callee := .builtin .len, args := #[x], argTypes := #[tt] }) ty w (.int .i64 ys.length) := by
  obtain ⟨cs, hr, _⟩ := hS.get i hi
  obtain ⟨ad, c, rfl, _⟩ := ownsRow_form hr
  exact rd_len hx hu

theorem rd_lenS {tt : TypeId} {s : ByteArray} (hx : ev σ x = .string s) (hu : P.underlying tt = some .string) :
    Rd P σ (.call { callee := .builtin .len, args := #[x], argTypes := #[tt] }) ty w (.int .i64 s.size) :=
  Rd.of fun w' => by
    simp [xop, execOp, resolve, invoke, builtin, hx, Builtin.len_, run_underlying hu, goInt]

theorem rd_min {k' : IntKind} {ts : Array TypeId} (hx : ev σ x = .int k a) (hy : ev σ y = .int k' b) : Rd P σ (.call { callee := .builtin .min, args := #[x, y], argTypes := ts }) ty w (.int k (min a b)) :=
  Rd.of fun w' => by
    have : (if b < a then b else a) = min a b := by rw [Int.min_def]; split <;> split <;> omega
    simp [xop, execOp, resolve, invoke, builtin, hx, hy, run_min_int2, this]
theorem rd_max {k' : IntKind} {ts : Array TypeId} (hx : ev σ x = .int k a) (hy : ev σ y = .int k' b) : Rd P σ (.call { callee := .builtin .max, args := #[x, y], argTypes := ts }) ty w (.int k (max a b)) :=
  Rd.of fun w' => by
    have : (if a < b then b else a) = max a b := by rw [Int.max_def]; split <;> split <;> omega
    simp [xop, execOp, resolve, invoke, builtin, hx, hy, run_max_int2, this]

/-! ### Addresses -/
def fldOff (P : Program) (s : TypeId) (f : Nat) : Option Nat :=
  match P.underlying s with
  | some (.struct fs) => match fs[f]? with
    | some fd => match P.info? fd.type with
      | some i => if i.size = 0 then none else some fd.offset
      | none => none
    | none => none
  | _ => none

theorem rd_fieldAddr {s : TypeId} {f g o j : Nat} (hx : ev σ x = .pointer (some ⟨g, o, none⟩)) (hf : fldOff P s f = some j) : Rd P σ (.fieldAddr s x f) ty w (.pointer (some ⟨g, o + j, none⟩)) :=
  Rd.of fun w' => by
    unfold fldOff at hf
    split at hf
    · rename_i fs hu
      split at hf
      · rename_i fd hfd
        split at hf
        · rename_i i hi
          split at hf
          · cases hf
          · rename_i hz
            injection hf with hf
            subst hf
            simp [xop, execOp, hx, Instr.fieldAt, run_underlying hu, hfd, Instr.sureAddr, fieldPlace, sizeOf, typeInfo, hi, hz, Addr.add_lit]
        · cases hf
      · cases hf
    · cases hf

theorem rd_indexArr {s e : TypeId} {len : Nat} {g o sz : Nat} {n : Int} {k : IntKind} (hx : ev σ x = .pointer (some ⟨g, o, none⟩)) (hi : ev σ y = .int k n) (hu : P.underlying s = some (.array len e))
    (hsz : ∀ w', (sizeOf e).run P w' = .ok sz w') (h0 : 0 ≤ n) (h1 : n < len) : Rd P σ (.indexAddr s x y) ty w (.pointer (some ⟨g, o + n.toNat * sz, none⟩)) :=
  Rd.of fun w' => by
    simp [xop, execOp, hx, hi, Instr.indexAt, run_underlying hu, Instr.sureAddr, asIntOf, h0, h1, hsz, Addr.add_lit]

theorem run_indexSl {s e : TypeId} {ad : Addr} {len c sz : Nat} {n : Int} {k : IntKind} (hx : ev σ x = .slice (some ad) len c) (hi : ev σ y = .int k n) (hu : P.underlying s = some (.slice e))
    (hsz : ∀ w', (sizeOf e).run P w' = .ok sz w') (h0 : 0 ≤ n) (h1 : n < len) : Rd P σ (.indexAddr s x y) ty w (.pointer (some (ad.add (n.toNat * sz)))) :=
  Rd.of fun w' => by
    simp [xop, execOp, hx, hi, Instr.indexAt, run_underlying hu, asIntOf, h0, h1, hsz]

def ix {α : Type} (d : α) (xs : List α) (n : Int) : α := xs.getD n.toNat d
theorem ix_get {α : Type} {d : α} {xs : List α} {n : Int} (h1 : n < xs.length) (h0 : 0 ≤ n) : xs[n.toNat]? = some (ix d xs n) := by
  have : n.toNat < xs.length := by omega
  simp [ix, this]

theorem rd_index {α : Type} {t : Ty α} {xs : List α} {v : Value} {s e : TypeId} {n : Int} {k : IntKind} {F : List (Option Nat)} (dz : α) (hv : V (tSl t) xs v F w) (hx : ev σ x = v) (hi : ev σ y = .int k n)
    (hu : P.underlying s = some (.slice e)) (hsz : ∀ w', (sizeOf e).run P w' = .ok t.n w') (h0 : 0 ≤ n) (h1 : n < xs.length) :
    ∃ p, Rd P σ (.indexAddr s x y) ty w p ∧ PtE t (ix dz xs n) p F w := by
  have hz := ix_get (d := dz) h1 h0
  obtain ⟨ad, cap, rfl, h1, h2, h3⟩ := hv.form
  have hlt : n.toNat < xs.length := (List.getElem?_eq_some_iff.1 hz).1
  obtain ⟨b, o, rfl, h4, h5, h6⟩ := h3 (by intro h; subst h; simp at hlt)
  obtain ⟨es, g1, g2⟩ := h6 _ _ hz
  refine ⟨_, run_indexSl hx hi hu hsz h0 (by omega), b, o + n.toNat * t.n, es, by rw [Addr.add_lit], g1, h5, h4, g2⟩

theorem rd_indexR {α : Type} {t : Ty α} {et : TypeId} {v : Value} {ys : List α} {s e : TypeId} {n : Int} {k : IntKind} (hS : St w0 O w obs) (i : Nat) (hi : obs[i]? = some (.row t et v ys)) (hx : ev σ x = v)
    (hy : ev σ y = .int k n) (hu : P.underlying s = some (.slice e)) (hsz : ∀ w', (sizeOf e).run P w' = .ok t.n w') (h0 : 0 ≤ n) (h1 : n < ys.length) :
    ∃ g, v.ownBlock = some g ∧ Rd P σ (.indexAddr s x y) ty w (.pointer (some ⟨g, n.toNat * t.n, none⟩)) := by
  obtain ⟨cs, hr, _⟩ := hS.get i hi
  rcases hr.2 with ⟨rfl, hl⟩ | ⟨g, cap, cur, rfl, _⟩
  · omega
  · refine ⟨g, rfl, ?_⟩
    have := run_indexSl (P := P) (w := w) (ty := ty) hx hy hu hsz h0 h1
    rwa [Addr.add_lit, Nat.zero_add] at this

/-! ### Loads -/
theorem run_load1 {P : Program} {w' : World} {T : TypeId} {ad : Addr} {v : Value} (hag : ∀ w', (isAgg T).run P w' = .ok false w') (hc : w'.cell? ad = some v) : (loadVar T ad).run P w' = .ok v w' := by
  simp [loadVar, hag, hc]

theorem run_loadN {P : Program} {w' : World} {T : TypeId} {ad : Addr} {cs : List Value} (hag : ∀ w', (isAgg T).run P w' = .ok true w') (hsz : ∀ w', (sizeOf T).run P w' = .ok cs.length w')
    (hc : ∀ j u, cs[j]? = some u → w'.cell? (ad.add j) = some u) : (loadVar T ad).run P w' = .ok (.agg cs.toArray) w' := by
  simp [loadVar, hag, hsz, run_loadCells_list w' ad cs hc]

theorem rd_load {α : Type} {t : Ty α} {z : α} {p : Value} {F : List (Option Nat)} (hp : PtE t z p F w) (hx : ev σ x = p) (hag : ∀ w', (isAgg T).run P w' = .ok t.agg w') (hsz : ∀ w', (sizeOf T).run P w' = .ok t.n w') :
    ∃ v, Rd P σ (.load T x) ty w v ∧ V t z v F w := by
  obtain ⟨b, o, es, rfl, h1, h2, h3, h4⟩ := hp
  have hlen := t.len h1
  refine ⟨t.val es, fun w' hw' => ?_, es, rfl, h1⟩
  have hc : ∀ j u, es[j]? = some u → w'.cell? ⟨b, o + j, none⟩ = some u := fun j u hu => (World.cell?_of_block (hw'.block b h2)).trans (h4 j u hu)
  cases hg : t.agg with
  | false =>
    have hn := t.flat hg
    match es, hlen, hc with
    | [u], _, hc =>
      have := hc 0 u rfl
      have hl := run_load1 (P := P) (T := T) (w' := w') (ad := ⟨b, o, none⟩) (by rw [← hg]; exact hag) (by simpa using this)
      simp [xop, execOp, hx, Instr.loadAt, Instr.sureAddr, hl, Ty.val, hg]
    | [], hl, _ => simp [hn] at hl
    | _ :: _ :: _, hl, _ => simp [hn] at hl
  | true =>
    have hl := run_loadN (P := P) (T := T) (w' := w') (ad := ⟨b, o, none⟩) (cs := es) (by rw [← hg]; exact hag) (by rw [hlen]; exact hsz) (fun j u hu => by rw [Addr.add_lit]; exact hc j u hu)
    simp [xop, execOp, hx, Instr.loadAt, Instr.sureAddr, hl, Ty.val, hg]

theorem rd_loadI {z : Int} {p : Value} {F : List (Option Nat)} (hp : PtE (tI k) z p F w) (hx : ev σ x = p) (hag : ∀ w', (isAgg T).run P w' = .ok false w') (hsz : ∀ w', (sizeOf T).run P w' = .ok 1 w') :
    Rd P σ (.load T x) ty w (.int k z) := by
  obtain ⟨v, h1, h2⟩ := rd_load (P := P) (σ := σ) (ty := ty) (T := T) hp hx hag hsz
  rw [h2.int.1] at h1
  exact h1
theorem PtE.inK {z : Int} {p : Value} {F : List (Option Nat)} (hp : PtE (tI k) z p F w) : InK k z := by
  obtain ⟨b, o, es, _, h, _⟩ := hp
  exact h.2
theorem rd_loadX {g : Nat} {e : TypeId} {cs : List Value} {o : Nat} {v : Value} (hS : St w0 O w obs) (i : Nat) (hi : obs[i]? = some (.box g e cs)) (hx : ev σ x = .pointer (some ⟨g, o, none⟩)) (hc : cs[o]? = some v)
    (hag : ∀ w', (isAgg T).run P w' = .ok false w') : Rd P σ (.load T x) ty w v := by
  intro w' hw'
  have hb := hS.get i hi
  have hl : (loadVar T ⟨g, o, none⟩).run P w' = .ok v w' := run_load1 hag (by
    rw [cell_of_row w' g o _ e (0, 0) ((hw'.block g (Array.getElem?_eq_some_iff.1 hb.2).1).trans hb.2)]
    simpa using hc)
  simp [xop, execOp, hx, Instr.loadAt, Instr.sureAddr, hl]

theorem rd_loadXs {g : Nat} {e : TypeId} {cs : List Value} {o sz : Nat} {ds : List Value} (hS : St w0 O w obs) (i : Nat) (hi : obs[i]? = some (.box g e cs)) (hx : ev σ x = .pointer (some ⟨g, o, none⟩))
    (hc : (cs.drop o).take sz = ds) (hl : ds.length = sz) (hag : ∀ w', (isAgg T).run P w' = .ok true w') (hsz : ∀ w', (sizeOf T).run P w' = .ok sz w') : Rd P σ (.load T x) ty w (.agg ds.toArray) := by
  intro w' hw'
  have hb := hS.get i hi
  have hl : (loadVar T ⟨g, o, none⟩).run P w' = .ok (.agg ds.toArray) w' := run_loadN hag (by rw [hl]; exact hsz) (fun j u hu => by
    rw [Addr.add_lit, cell_of_row w' g (o + j) _ e (0, 0) ((hw'.block g (Array.getElem?_eq_some_iff.1 hb.2).1).trans hb.2)]
    rw [← hc, List.getElem?_take] at hu
    split at hu
    · rw [List.getElem?_drop] at hu
      simpa using hu
    · cases hu)
  simp [xop, execOp, hx, Instr.loadAt, Instr.sureAddr, hl]

theorem PtE.row {α : Type} {t : Ty α} {e : TypeId} {v : Value} {ys : List α} {z : α} {g j : Nat} (hS : St w0 O w obs) (i : Nat) (hi : obs[i]? = some (.row t e v ys)) (hg : v.ownBlock = some g) (hz : ys[j]? = some z) :
    ∃ es, t.rep (fb obs O) w z es ∧ g < w.heap.size ∧ ∀ q u, es[q]? = some u → w.cell? ⟨g, j * t.n + q, none⟩ = some u := by
  obtain ⟨cs, hr, hR⟩ := hS.get i hi
  obtain ⟨es, h1, h2⟩ := row_els hr hR (Mv.refl _ _) hg j z hz
  exact ⟨es, h1, (hr.lt g hg).2, fun q u hu => by have := h2 q u hu; rwa [Nat.zero_add] at this⟩

theorem rd_loadR {α : Type} {t : Ty α} {e : TypeId} {v : Value} {ys : List α} {z : α} {g j : Nat} (hS : St w0 O w obs) (i : Nat) (hi : obs[i]? = some (.row t e v ys)) (hg : v.ownBlock = some g)
    (hx : ev σ x = .pointer (some ⟨g, j * t.n, none⟩)) (hz : ys[j]? = some z) (hag : ∀ w', (isAgg T).run P w' = .ok t.agg w') (hsz : ∀ w', (sizeOf T).run P w' = .ok t.n w') :
    ∃ u, Rd P σ (.load T x) ty w u ∧ V t z u (fb obs O) w := by
  obtain ⟨es, h1, h2, h4⟩ := PtE.row hS i hi hg hz
  have hlen := t.len h1
  refine ⟨t.val es, fun w' hw' => ?_, es, rfl, h1⟩
  have hc : ∀ q u, es[q]? = some u → w'.cell? ⟨g, j * t.n + q, none⟩ = some u := fun q u hu => (World.cell?_of_block (hw'.block g h2)).trans (h4 q u hu)
  cases hgg : t.agg with
  | false =>
    have hn := t.flat hgg
    match es, hlen, hc with
    | [u], _, hc =>
      have := hc 0 u rfl
      have hl := run_load1 (P := P) (T := T) (w' := w') (ad := ⟨g, j * t.n, none⟩) (by rw [← hgg]; exact hag) (by simpa using this)
      simp [xop, execOp, hx, Instr.loadAt, Instr.sureAddr, hl, Ty.val, hgg]
    | [], hl, _ => simp [hn] at hl
    | _ :: _ :: _, hl, _ => simp [hn] at hl
  | true =>
    have hl := run_loadN (P := P) (T := T) (w' := w') (ad := ⟨g, j * t.n, none⟩) (cs := es) (by rw [← hgg]; exact hag) (by rw [hlen]; exact hsz) (fun q u hu => by rw [Addr.add_lit]; exact hc q u hu)
    simp [xop, execOp, hx, Instr.loadAt, Instr.sureAddr, hl, Ty.val, hgg]
theorem rd_loadRI {e : TypeId} {v : Value} {ys : List Int} {z : Int} {g j : Nat} (hS : St w0 O w obs) (i : Nat) (hi : obs[i]? = some (.row (tI k) e v ys)) (hg : v.ownBlock = some g)
    (hx : ev σ x = .pointer (some ⟨g, j * 1, none⟩)) (hz : ys[j]? = some z) (hag : ∀ w', (isAgg T).run P w' = .ok false w') (hsz : ∀ w', (sizeOf T).run P w' = .ok 1 w') : Rd P σ (.load T x) ty w (.int k z) := by
  obtain ⟨u, h1, h2⟩ := rd_loadR (P := P) (σ := σ) (ty := ty) (T := T) hS i hi hg hx hz hag hsz
  rw [h2.int.1] at h1
  exact h1
theorem St.rowInK {e : TypeId} {v : Value} {ys : List Int} {z : Int} {j : Nat} (hS : St w0 O w obs) (i : Nat) (hi : obs[i]? = some (.row (tI k) e v ys)) (hz : ys[j]? = some z) : InK k z := by
  obtain ⟨cs, hr, hR⟩ := hS.get i hi
  exact (hR.2 j z hz).2
theorem St.rowOne {α : Type} {t : Ty α} {e : TypeId} {v : Value} {ys : List α} (hS : St w0 O w obs) (i : Nat) (hi : obs[i]? = some (.row t e v ys)) : v.oneCell' = true := by
  obtain ⟨cs, hr, hR⟩ := hS.get i hi
  obtain ⟨_, _, rfl, h1, h2⟩ := ownsRow_form hr
  rfl
theorem V.oneC {α : Type} {t : Ty α} {xs : List α} {v : Value} {F : List (Option Nat)} (hv : V (tSl t) xs v F w) : v.oneCell' = true := by
  obtain ⟨ad, cap, rfl, _⟩ := hv.form
  rfl
theorem V.len63 {α : Type} {t : Ty α} {xs : List α} {v : Value} {F : List (Option Nat)} (hv : V (tSl t) xs v F w) : xs.length ≤ 9223372036854775807 := by
  have := hv.lenLe
  simpa only [maxLen] using this
theorem cells_one {v : Value} (h : v.oneCell' = true) : v.cells = #[v] := by
  cases v <;> first | rfl | (simp [Value.oneCell'] at h)
theorem boxAt {g : Nat} {e : TypeId} {cs : List Value} {w' : World} (hS : St w0 O w obs) (i : Nat) (hi : obs[i]? = some (.box g e cs)) (hx : Ext w w') : w'.heap[g]? = some (.cells cs.toArray e (0, 0)) := by
  have hb := hS.get i hi
  exact (hx.block g (Array.getElem?_eq_some_iff.1 hb.2).1).trans hb.2
theorem extAt {g : Nat} {e : TypeId} {cs : Array Value} {w' : World} (hb : w.heap[g]? = some (.cells cs e (0, 0))) (hx : Ext w w') : w'.heap[g]? = some (.cells cs e (0, 0)) :=
  (hx.block g (Array.getElem?_eq_some_iff.1 hb).1).trans hb
theorem one_nil : ∀ u ∈ ([] : List Value), u.oneCell' = true := by simp
theorem one_cons {v : Value} {cs : List Value} (h : v.oneCell' = true) (hs : ∀ u ∈ cs, u.oneCell' = true) : ∀ u ∈ v :: cs, u.oneCell' = true := by
  intro u hu
  rcases List.mem_cons.1 hu with rfl | hu
  · exact h
  · exact hs u hu
theorem St.rowLen {α : Type} {t : Ty α} {e : TypeId} {v : Value} {ys : List α} (hS : St w0 O w obs) (i : Nat) (hi : obs[i]? = some (.row t e v ys)) : ys.length ≤ maxLen := by
  obtain ⟨cs, hr, hR⟩ := hS.get i hi
  obtain ⟨_, _, _, h1, h2⟩ := ownsRow_form hr
  omega

theorem rd_loadO {g : Nat} {e : TypeId} {cs : Array Value} {fr : Nat × Nat} {o : Nat} {v : Value} {wb : World} (hb : wb.heap[g]? = some (.cells cs e fr)) (hbw : Ext wb w) (hx : ev σ x = .pointer (some ⟨g, o, none⟩))
    (hc : cs[o]? = some v) (hag : ∀ w', (isAgg T).run P w' = .ok false w') : Rd P σ (.load T x) ty w v := by
  intro w' hw'
  have hlt := (Array.getElem?_eq_some_iff.1 hb).1
  have hb' := ((Ext.trans hbw hw').block g hlt).trans hb
  have hl : (loadVar T ⟨g, o, none⟩).run P w' = .ok v w' := run_load1 hag (by rw [cell_of_row w' g o _ e fr hb']; exact hc)
  simp [xop, execOp, hx, Instr.loadAt, Instr.sureAddr, hl]

theorem rd_indexV {s e : TypeId} {len : Nat} {cs : Array Value} {n : Int} {v : Value} (hx : ev σ x = .agg cs) (hi : ev σ y = .int k n) (hu : P.underlying s = some (.array len e)) (hsz : ∀ w', (sizeOf e).run P w' = .ok 1 w')
    (hag : ∀ w', (isAgg e).run P w' = .ok false w') (h0 : 0 ≤ n) (h1 : n < len) (hc : cs[n.toNat]? = some v) : Rd P σ (.index s x y) ty w v :=
  Rd.of fun w' => by
    simp [xop, execOp, hx, hi, Instr.index, run_underlying hu, asIntOf, h0, h1, hsz, part, hag, hc]

theorem rd_build {t : TypeId} {ps : List (Nat × Operand)} {vs : List (Nat × Value)} {cs : Array Value} (hp : ps.map (fun p => (p.1, ev σ p.2)) = vs) (hb : P.built t vs = some cs) : Rd P σ (.build t ps.toArray) ty w (.agg cs) :=
  Rd.of fun w' => by
    have := run_build (P := P) w' t vs.toArray cs (by simpa using hb)
    show (do let v ← Instr.build t (ps.toArray.map fun (i, x) => (i, ev σ x)); pure (Next.value v) : Sem Next).run P w' = _
    rw [show (ps.toArray.map fun (i, x) => (i, ev σ x)) = vs.toArray by rw [← hp]; simp]
    simp [this]

def tabAt (t : ByteArray) (x : Int) : Int := ((t.data.toList.getD x.toNat 0).toNat : Int)
theorem tabAt_bd (t : ByteArray) (x : Int) : 0 ≤ tabAt t x ∧ tabAt t x ≤ 255 := by
  unfold tabAt
  have := UInt8.toNat_lt (t.data.toList.getD x.toNat 0)
  omega

theorem rd_indexS' {s : TypeId} {z : ByteArray} {n : Int} (hx : ev σ x = .string z) (hi : ev σ y = .int k n) (hu : P.underlying s = some .string) (h0 : 0 ≤ n) (h1 : n < z.size) :
    Rd P σ (.index s x y) ty w (.int .u8 (tabAt z n)) := by
  show Rd P σ (.index s x y) ty w (.int .u8 ((z.data.toList.getD n.toNat 0).toNat : Int))
  have hlt : n.toNat < z.size := by omega
  have hc : z[n.toNat]? = some (z.data.toList.getD n.toNat 0) := by
    have h2 : n.toNat < z.data.size := hlt
    show (if h : n.toNat < z.size then some z[n.toNat] else none) = _
    rw [dif_pos hlt]
    have h3 : z.data.toList.getD n.toNat 0 = z.data[n.toNat]'h2 := by
      rw [List.getD_eq_getElem?_getD, Array.getElem?_toList, Array.getElem?_eq_getElem h2]; rfl
    rw [h3]
    rfl
  exact Rd.of fun w' => by
    simp only [xop, execOp, hx, hi, Instr.index, Sem.run_bind, run_underlying hu, asIntOf, Result.andThen_ok, Sem.run_pure]
    rw [if_pos h0, hc]
    rfl

def Fresh {α : Type} (t : Ty α) (e : TypeId) (ys : List α) (v : Value) (base : Nat) (w : World) : Prop := ∃ cs, w.ownsRow base e t.n v ys.length cs ∧ ∀ F, Reps t F w ys cs
theorem flat_int {k : IntKind} {F F' : List (Option Nat)} {x : Int} {cs : List Value} (h : (tI k).rep F w x cs) : (tI k).rep F' w x cs := h
theorem St.fr {α : Type} {t : Ty α} {e : TypeId} {v : Value} {ys : List α} (hS : St w0 O w obs) (i : Nat) (hi : obs[i]? = some (.row t e v ys)) (hf : ∀ {F F' x cs}, t.rep F w x cs → t.rep F' w x cs) : Fresh t e ys v w0.heap.size w := by
  obtain ⟨cs, h1, h2⟩ := hS.get i hi
  exact ⟨cs, h1, fun F => ⟨h2.1, fun i y hy => hf (h2.2 i y hy)⟩⟩
theorem St.pushFr {α : Type} {t : Ty α} {e : TypeId} {v : Value} {ys : List α} {w' : World} (hS : St w0 O w obs) (hx : Ext w w') (h : Fresh t e ys v w.heap.size w') : St w0 O w' (.row t e v ys :: obs) := by
  obtain ⟨cs, h1, h2⟩ := h
  refine hS.push hx _ (fun b hb => (h1.lt b hb).1) (fun F _ => ⟨cs, ⟨h1.1, ?_⟩, h2 F⟩)
  rcases h1.2 with hn | ⟨g, cap, cur, e1, e2, e3⟩
  · exact .inl hn
  · exact .inr ⟨g, cap, cur, e1, Nat.le_trans hS.bel.size e2, e3⟩

/-! ### Slices of slices -/
theorem V.sub {α : Type} {t : Ty α} {xs : List α} {ad : Option Addr} {cap : Nat} {F : List (Option Nat)} (hv : V (tSl t) xs (.slice ad xs.length cap) F w) {l h m : Nat} (h1 : l ≤ h) (h2 : h ≤ xs.length) (h3 : h ≤ m) (h4 : m ≤ cap) :
    V (tSl t) ((xs.drop l).take (h - l)) (sliced ad l h m t.n) F w := by
  obtain ⟨a', cap', he, g1, g2, g3⟩ := hv.form
  injection he with e1 _ e2
  subst e1 e2
  have hlen : ((xs.drop l).take (h - l)).length = h - l := by simp; omega
  unfold sliced
  have key : V (tSl t) ((xs.drop l).take (h - l)) (.slice (if m = l then ad else ad.map (·.add (l * t.n))) ((xs.drop l).take (h - l)).length (m - l)) F w := by
    refine V.of_form (by omega) (by omega) fun hne => ?_
    have hlh : l < h := by
      rcases Nat.lt_or_ge l h with hq | hq
      · exact hq
      · exact (hne (List.eq_nil_of_length_eq_zero (by omega))).elim
    obtain ⟨b, o, rfl, k1, k2, k3⟩ := g3 (by intro hq; subst hq; simp at h2; omega)
    rw [if_neg (by omega)]
    refine ⟨b, o + l * t.n, by simp [Addr.add_lit], k1, k2, fun i z hz => ?_⟩
    rw [List.getElem?_take] at hz
    split at hz
    · rw [List.getElem?_drop] at hz
      obtain ⟨es, q1, q2⟩ := k3 _ _ hz
      refine ⟨es, q1, fun j u hu => ?_⟩
      have := q2 j u hu
      rwa [show o + (l + i) * t.n + j = o + l * t.n + i * t.n + j by rw [Nat.add_mul]; omega] at this
    · cases hz
  rw [hlen] at key
  exact key

theorem run_sliceV {T e : TypeId} {ad : Option Addr} {len cap sz : Nat} {lo hi mx : Option Value} {l h m : Nat} (hu : P.underlying T = some (.slice e)) (hsz : ∀ w', (sizeOf e).run P w' = .ok sz w')
    (hb : ∀ w', (Instr.sliceBounds true len cap lo hi mx).run P w' = .ok (l, h, m) w') (w' : World) : (Instr.sliceAt T (.slice ad len cap) lo hi mx).run P w' = .ok (sliced ad l h m sz) w' := by
  simp [Instr.sliceAt, run_underlying hu, Instr.slice, hb, hsz, sliced]

theorem bounds_lh {len cap : Nat} {k1 k2 : IntKind} {l h : Int} (h0 : 0 ≤ l) (h1 : l ≤ h) (h2 : h ≤ cap) (w' : World) :
    (Instr.sliceBounds true len cap (some (.int k1 l)) (some (.int k2 h)) none).run P w' = .ok (l.toNat, h.toNat, cap) w' := by
  have eh : (h.toNat : Int) = h := Int.toNat_of_nonneg (by omega)
  simp [Instr.sliceBounds, run_sliceBound, eh, h0, h1, h2, (by omega : 0 ≤ h)]
theorem bounds_h {len cap : Nat} {k2 : IntKind} {h : Int} (h1 : 0 ≤ h) (h2 : h ≤ cap) (w' : World) :
    (Instr.sliceBounds true len cap none (some (.int k2 h)) none).run P w' = .ok (0, h.toNat, cap) w' := by
  simp [Instr.sliceBounds, run_sliceBound, h1, h2]
theorem bounds_l {len cap : Nat} {k1 : IntKind} {l : Int} (h0 : 0 ≤ l) (h1 : l ≤ len) (w' : World) :
    (Instr.sliceBounds true len cap (some (.int k1 l)) none none).run P w' = .ok (l.toNat, len, cap) w' := by
  simp [Instr.sliceBounds, run_sliceBound, h0, h1]
theorem bounds_hm {len cap : Nat} {k2 k3 : IntKind} {h m : Int} (h1 : 0 ≤ h) (h2 : h ≤ m) (h3 : m ≤ cap) (w' : World) :
    (Instr.sliceBounds true len cap none (some (.int k2 h)) (some (.int k3 m))).run P w' = .ok (0, h.toNat, m.toNat) w' := by
  have em : (m.toNat : Int) = m := Int.toNat_of_nonneg (by omega)
  simp [Instr.sliceBounds, run_sliceBound, em, h1, h2, h3, (by omega : 0 ≤ m)]

section
variable {α : Type} {t : Ty α} {xs : List α} {v : Value} {F : List (Option Nat)} {e : TypeId} (hv : V (tSl t) xs v F w) (hu : P.underlying T = some (.slice e)) (hsz : ∀ w', (sizeOf e).run P w' = .ok t.n w') {z l h m : Operand} {i j q : Int} {k1 k2 k3 : IntKind}
include hv hu hsz

theorem rd_sliceLH (hx : ev σ z = v) (hl : ev σ l = .int k1 i) (hh : ev σ h = .int k2 j) (h0 : 0 ≤ i) (h1 : i ≤ j) (h2 : j ≤ xs.length) :
    ∃ u, Rd P σ (.slice T z (some l) (some h) none) ty w u ∧ V (tSl t) ((xs.drop i.toNat).take (j.toNat - i.toNat)) u F w := by
  obtain ⟨ad, cap, rfl, g1, g2, _⟩ := hv.form
  refine ⟨_, Rd.of fun w' => ?_, hv.sub (l := i.toNat) (h := j.toNat) (m := cap) (by omega) (by omega) (by omega) (Nat.le_refl _)⟩
  simp only [xop, execOp, hx, Option.map_some, Option.map_none, hl, hh, Sem.run_bind, run_sliceV hu hsz (bounds_lh (P := P) h0 h1 (by omega : j ≤ (cap : Int)))]
  rfl
theorem rd_sliceH (hx : ev σ z = v) (hh : ev σ h = .int k2 j) (h1 : 0 ≤ j) (h2 : j ≤ xs.length) :
    ∃ u, Rd P σ (.slice T z none (some h) none) ty w u ∧ V (tSl t) (xs.take j.toNat) u F w := by
  obtain ⟨ad, cap, rfl, g1, g2, _⟩ := hv.form
  refine ⟨_, Rd.of fun w' => ?_, by simpa using hv.sub (l := 0) (h := j.toNat) (m := cap) (by omega) (by omega) (by omega) (Nat.le_refl _)⟩
  simp only [xop, execOp, hx, Option.map_some, Option.map_none, hh, Sem.run_bind, run_sliceV hu hsz (bounds_h (P := P) h1 (by omega : j ≤ (cap : Int)))]
  rfl
theorem rd_sliceL (hx : ev σ z = v) (hl : ev σ l = .int k1 i) (h0 : 0 ≤ i) (h1 : i ≤ xs.length) :
    ∃ u, Rd P σ (.slice T z (some l) none none) ty w u ∧ V (tSl t) (xs.drop i.toNat) u F w := by
  obtain ⟨ad, cap, rfl, g1, g2, _⟩ := hv.form
  have := hv.sub (l := i.toNat) (h := xs.length) (m := cap) (by omega) (by omega) (by omega) (Nat.le_refl _)
  rw [List.take_of_length_le (by simp)] at this
  refine ⟨_, Rd.of fun w' => ?_, this⟩
  simp only [xop, execOp, hx, Option.map_some, Option.map_none, hl, Sem.run_bind, run_sliceV hu hsz (bounds_l (P := P) (cap := cap) h0 h1)]
  rfl
theorem rd_sliceHM (hx : ev σ z = v) (hh : ev σ h = .int k2 j) (hm : ev σ m = .int k3 q) (h1 : 0 ≤ j) (h2 : j ≤ q) (h3 : q ≤ xs.length) :
    ∃ ad, Rd P σ (.slice T z none (some h) (some m)) ty w (.slice ad j.toNat q.toNat) ∧ V (tSl t) (xs.take j.toNat) (.slice ad j.toNat q.toNat) F w := by
  obtain ⟨ad, cap, rfl, g1, g2, _⟩ := hv.form
  refine ⟨(if q.toNat = 0 then ad else ad.map (·.add (0 * t.n))), Rd.of fun w' => ?_, by simpa [sliced] using hv.sub (l := 0) (h := j.toNat) (m := q.toNat) (by omega) (by omega) (by omega) (by omega)⟩
  simp only [xop, execOp, hx, Option.map_some, Option.map_none, hh, hm, Sem.run_bind, run_sliceV hu hsz (bounds_hm (P := P) h1 h2 (by omega : q ≤ (cap : Int)))]
  rfl
end

theorem rd_sliceS_L {s : ByteArray} {z l : Operand} {i : Int} {k1 : IntKind} (hu : P.underlying T = some .string) (hx : ev σ z = .string s) (hl : ev σ l = .int k1 i) (h0 : 0 ≤ i) (h1 : i ≤ s.size) :
    Rd P σ (.slice T z (some l) none none) ty w (.string (s.extract i.toNat s.size)) :=
  Rd.of fun w' => by
    simp [xop, execOp, hx, hl, Instr.sliceAt, run_underlying hu, Instr.slice, Instr.sliceBounds, run_sliceBound, h0, h1]

theorem drop_ix {α : Type} {d : α} {xs : List α} {n : Int} (h0 : 0 ≤ n) (h1 : n < xs.length) : xs.drop n.toNat = ix d xs n :: xs.drop (n + 1).toNat := by
  have hlt : n.toNat < xs.length := by omega
  rw [List.drop_eq_getElem_cons hlt, show (n + 1).toNat = n.toNat + 1 by omega]
  simp [ix, hlt]
theorem drop_end {α : Type} {xs : List α} {n : Int} (h1 : (xs.length : Int) ≤ n) : xs.drop n.toNat = [] := List.drop_eq_nil_of_le (by omega)
theorem take_ix {α : Type} {d : α} {xs : List α} {n : Int} (h0 : 0 ≤ n) (h1 : n < xs.length) : xs.take (n + 1).toNat = xs.take n.toNat ++ [ix d xs n] := by
  have hlt : n.toNat < xs.length := by omega
  rw [show (n + 1).toNat = n.toNat + 1 by omega, List.take_succ_eq_append_getElem hlt]
  simp [ix, hlt]
theorem take_end {α : Type} {xs : List α} {n : Int} (h1 : (xs.length : Int) ≤ n) : xs.take n.toNat = xs := List.take_of_length_le (by omega)

theorem Wx.ex {n : Nat} {ops : Array Oper} {q : Bool} {rest : List Oper} {kc : Cont} {d : Tmp} {pos : String} {af : Array Edge} {l : List (Nat × Value)} {σ0 : Fr} {op : Op} {Q : Value → Prop}
    (hr : ∃ u, Rd P (look l σ0) op ty w u ∧ Q u) (hd : Nat.ble (d + 1) n = true) (h : ∀ u, Q u → Wx P n ops q rest kc (look ((d, u) :: l) σ0) w) : Wx P n ops q (⟨some d, op, ty, pos, af, none⟩ :: rest) kc (look l σ0) w := by
  obtain ⟨u, g1, g2⟩ := hr
  exact Wx.rd g1 hd (h u g2)
theorem Wx.indexR {n : Nat} {ops : Array Oper} {q : Bool} {rest : List Oper} {kc : Cont} {d : Tmp} {pos : String} {af : Array Edge} {l : List (Nat × Value)} {σ0 : Fr}
    {α : Type} {t : Ty α} {et : TypeId} {v : Value} {ys : List α} {s e : TypeId} {m : Int} {k : IntKind} (hS : St w0 O w obs) (i : Nat) (hi : obs[i]? = some (.row t et v ys)) (hx : ev (look l σ0) x = v)
    (hy : ev (look l σ0) y = .int k m) (hu : P.underlying s = some (.slice e)) (hsz : ∀ w', (sizeOf e).run P w' = .ok t.n w') (h0 : 0 ≤ m) (h1 : m < ys.length) (hd : Nat.ble (d + 1) n = true)
    (h : ∀ g, v.ownBlock = some g → Wx P n ops q rest kc (look ((d, .pointer (some ⟨g, m.toNat * t.n, none⟩)) :: l) σ0) w) :
    Wx P n ops q (⟨some d, .indexAddr s x y, ty, pos, af, none⟩ :: rest) kc (look l σ0) w := by
  obtain ⟨g, g1, g2⟩ := rd_indexR (P := P) (σ := look l σ0) (ty := ty) hS i hi hx hy hu hsz h0 h1
  exact Wx.rd g2 hd (h g g1)
theorem rd_loadR' {α : Type} {t : Ty α} {e : TypeId} {v : Value} {ys : List α} {g : Nat} {m : Int} (dz : α) (hS : St w0 O w obs) (i : Nat) (hi : obs[i]? = some (.row t e v ys)) (hg : v.ownBlock = some g)
    (hx : ev σ x = .pointer (some ⟨g, m.toNat * t.n, none⟩)) (h0 : 0 ≤ m) (h1 : m < ys.length) (hag : ∀ w', (isAgg T).run P w' = .ok t.agg w') (hsz : ∀ w', (sizeOf T).run P w' = .ok t.n w') :
    ∃ u, Rd P σ (.load T x) ty w u ∧ V t (ix dz ys m) u (fb obs O) w := rd_loadR hS i hi hg hx (ix_get (d := dz) h1 h0) hag hsz
theorem St.rowInK' {e : TypeId} {v : Value} {ys : List Int} {m : Int} (hS : St w0 O w obs) (i : Nat) (hi : obs[i]? = some (.row (tI k) e v ys)) (h0 : 0 ≤ m) (h1 : m < ys.length) : InK k (ix 0 ys m) := hS.rowInK i hi (ix_get (d := 0) h1 h0)
theorem rd_loadRI' {e : TypeId} {v : Value} {ys : List Int} {g : Nat} {m : Int} (hS : St w0 O w obs) (i : Nat) (hi : obs[i]? = some (.row (tI k) e v ys)) (hg : v.ownBlock = some g)
    (hx : ev σ x = .pointer (some ⟨g, m.toNat * 1, none⟩)) (h0 : 0 ≤ m) (h1 : m < ys.length) (hag : ∀ w', (isAgg T).run P w' = .ok false w') (hsz : ∀ w', (sizeOf T).run P w' = .ok 1 w') : Rd P σ (.load T x) ty w (.int k (ix 0 ys m)) :=
  rd_loadRI hS i hi hg hx (ix_get (d := 0) h1 h0) hag hsz

theorem ResIs.cell2 {g : Nat} {e : TypeId} {cs : List Value} {s t : Tmp} {σ : Fr} (hS : St w0 O w obs) (i : Nat) (hi : obs[i]? = some (.box g e cs)) (hs : σ s = .pointer (some ⟨g, 0, none⟩))
    (hag : ∀ w', (isAgg T).run P w' = .ok true w') (hsz : ∀ w', (sizeOf T).run P w' = .ok cs.length w') : ResIs P #[.cell s T, .tmp t] σ w (.tuple #[.agg cs.toArray, σ t]) := by
  intro fn hf F n hT
  have hb := hS.get i hi
  have hl : (loadVar T ⟨g, 0, none⟩).run P w = .ok (.agg cs.toArray) w := run_loadN hag hsz (fun j u hu => by
    rw [Addr.add_lit, cell_of_row w g (0 + j) _ e (0, 0) hb.2]
    simpa using hu)
  have h1 := hT.2 s; have h2 := hT.2 t
  rw [hs] at h1
  simp only [Array.getD_eq_getD_getElem?] at h1 h2
  simp [results, hf, h1, h2, asAddr, hl]
theorem ResIs.cell1 {g : Nat} {e : TypeId} {cs : List Value} {s : Tmp} {σ : Fr} (hS : St w0 O w obs) (i : Nat) (hi : obs[i]? = some (.box g e cs)) (hs : σ s = .pointer (some ⟨g, 0, none⟩))
    (hag : ∀ w', (isAgg T).run P w' = .ok true w') (hsz : ∀ w', (sizeOf T).run P w' = .ok cs.length w') : ResIs P #[.cell s T] σ w (.agg cs.toArray) := by
  intro fn hf F n hT
  have hb := hS.get i hi
  have hl : (loadVar T ⟨g, 0, none⟩).run P w = .ok (.agg cs.toArray) w := run_loadN hag hsz (fun j u hu => by
    rw [Addr.add_lit, cell_of_row w g (0 + j) _ e (0, 0) hb.2]
    simpa using hu)
  have h1 := hT.2 s
  rw [hs] at h1
  simp only [Array.getD_eq_getD_getElem?] at h1
  simp [results, hf, h1, asAddr, hl]

theorem V.mk2 {k k' : IntKind} {a b : Int} {F : List (Option Nat)} (h1 : InK k a) (h2 : InK k' b) : V (tP (tI k) (tI k')) (a, b) (.agg #[.int k a, .int k' b]) F w :=
  ⟨[.int k a, .int k' b], rfl, [.int k a], [.int k' b], rfl, ⟨rfl, h1⟩, ⟨rfl, h2⟩⟩
end
end Go.Wk

namespace Go.Wk
open Go.RowKit

structure ElemI (P : Program) (T e : TypeId) (z : Value) (n bytes : Nat) : Prop where
  und : P.underlying T = some (.slice e)
  info : ∃ i, P.info? e = some i ∧ i.zero = some z ∧ i.size = n ∧ i.bytes = bytes
  zn : z.cells.size = n
  pos : 0 < n

theorem ElemI.of {P : Program} {T e : TypeId} {z : Value} {n bytes : Nat} (hu : P.underlying T = some (.slice e)) (hi : ((P.info? e).map fun i => (i.zero, i.size, i.bytes)) = some (some z, n, bytes)) (hz : z.cells.size = n) (hp : 0 < n) :
    ElemI P T e z n bytes := by
  refine ⟨hu, ?_, hz, hp⟩
  match hq : P.info? e, hi with
  | none, hi => cases hi
  | some i, hi => injection hi with hi; injection hi with h1 h2; injection h2 with h2 h3; exact ⟨i, rfl, h1, h2, h3⟩

theorem ElemI.size {P : Program} {T e : TypeId} {z : Value} {n bytes : Nat} (h : ElemI P T e z n bytes) (w : World) : (sizeOf e).run P w = .ok n w := by
  obtain ⟨i, h1, h2, h3, h4⟩ := h.info
  simp [sizeOf, typeInfo, h1, h3]

section
variable {P : Program} {n : Nat} {w w0 : World} {O : List (Option Nat)} {obs : List Ob} {ops : Array Oper} {rest : List Oper} {k : Cont} {d : Tmp} {ty : TypeId} {pos : String} {af : Array Edge}
  {l : List (Nat × Value)} {σ0 : Fr} {T : TypeId} {x y : Operand}

theorem Wx.val {op : Op} {v : Value} {w' : World} (hrun : (xop (ev (look l σ0)) op ty).run P w = .ok (.value v) w') (hd : Nat.ble (d + 1) n = true) (h : Wx P n ops false rest k (look ((d, v) :: l) σ0) w') :
    Wx P n ops false (⟨some d, op, ty, pos, af, none⟩ :: rest) k (look l σ0) w :=
  Wo.val hrun hd (by rw [look_cons] at h; exact h)
theorem Wx.unit {op : Op} {w' : World} (hrun : (xop (ev (look l σ0)) op ty).run P w = .ok .skip w') (h : Wx P n ops false rest k (look l σ0) w') :
    Wx P n ops false (⟨none, op, ty, pos, af, none⟩ :: rest) k (look l σ0) w :=
  Wo.unit hrun rfl h

theorem Wx.box {v : Value} {cs : List Value} (hS : St w0 O w obs) (hx : ev (look l σ0) x = v) (hc : v.cells = cs.toArray) (hd : Nat.ble (d + 1) n = true)
    (h : ∀ g w', Ext w w' → w.heap.size ≤ g → St w0 O w' (.box g T cs :: obs) → Wx P n ops false rest k (look ((d, .pointer (some ⟨g, 0, none⟩)) :: l) σ0) w') :
    Wx P n ops false (⟨some d, .box T x, ty, pos, af, none⟩ :: rest) k (look l σ0) w := by
  refine Wx.val (v := .pointer (some ⟨w.heap.size, 0, none⟩)) (w' := w.alloc (.cells cs.toArray T)) ?_ hd (h _ _ ((Below.refl _ _).alloc (Nat.le_refl _) _) (Nat.le_refl _) (hS.new T cs))
  simp [xop, execOp, Instr.box, newVar, newRow, hx, hc]

theorem Wx.alloc {z : Value} {cs : List Value} (hS : St w0 O w obs) (hz : ∀ w', (zeroValue T).run P w' = .ok z w') (hc : z.cells = cs.toArray) (hd : Nat.ble (d + 1) n = true)
    (h : ∀ g w', Ext w w' → w.heap.size ≤ g → St w0 O w' (.box g T cs :: obs) → Wx P n ops false rest k (look ((d, .pointer (some ⟨g, 0, none⟩)) :: l) σ0) w') :
    Wx P n ops false (⟨some d, .alloc T, ty, pos, af, none⟩ :: rest) k (look l σ0) w := by
  refine Wx.val (v := .pointer (some ⟨w.heap.size, 0, none⟩)) (w' := w.alloc (.cells cs.toArray T)) ?_ hd (h _ _ ((Below.refl _ _).alloc (Nat.le_refl _) _) (Nat.le_refl _) (hS.new T cs))
  simp [xop, execOp, Instr.alloc, hz, newVar, newRow, hc]

theorem run_storeAt {P : Program} {w : World} {T : TypeId} {g o : Nat} {cur : Array Value} {e : TypeId} {v : Value} {ds : List Value} (hg : w.heap[g]? = some (.cells cur e (0, 0))) (hv : v.cells = ds.toArray)
    (hsz : ∀ w', (sizeOf T).run P w' = .ok ds.length w') (hfit : o + ds.length ≤ cur.size) (h1 : ∀ u ∈ ds, u.oneCell' = true) :
    (Instr.storeAt T (.pointer (some ⟨g, o, none⟩)) v).run P w = .ok () (w.setRow g (cur.toList.take o ++ ds ++ cur.toList.drop (o + ds.length)).toArray) := by
  have hst := run_storeCells_at P g o e ds 0 cur w hg (by simpa using hfit) h1
  simp only [Nat.add_zero] at hst
  simp [Instr.storeAt, Instr.sureAddr, storeVar, hv, hsz, hst]

theorem Wx.storeX {g : Nat} {e : TypeId} {cs cs' ds : List Value} {o : Nat} {v : Value} (hS : St w0 O w obs) (i : Nat) (hi : obs[i]? = some (.box g e cs)) (hx : ev (look l σ0) x = .pointer (some ⟨g, o, none⟩))
    (hy : ev (look l σ0) y = v) (hv : v.cells = ds.toArray) (hsz : ∀ w', (sizeOf T).run P w' = .ok ds.length w') (hfit : o + ds.length ≤ cs.length) (h1 : ∀ u ∈ ds, u.oneCell' = true)
    (hcs : cs.take o ++ ds ++ cs.drop (o + ds.length) = cs') (h : ∀ w', w.heap.size ≤ w'.heap.size → St w0 O w' (obs.set i (.box g e cs')) → Wx P n ops false rest k (look l σ0) w') :
    Wx P n ops false (⟨none, .store T x y, ty, pos, af, none⟩ :: rest) k (look l σ0) w := by
  have hb := hS.get i hi
  refine Wx.unit (w' := w.setRow g cs'.toArray) ?_ (h _ (by simp) ?_)
  · have := run_storeAt (P := P) (T := T) (o := o) hb.2 hv hsz (by simpa using hfit) h1
    rw [show cs.toArray.toList = cs from rfl, hcs] at this
    simp [xop, execOp, hx, hy, this]
  · refine hS.turn i hi rfl rfl rfl (by simp) (fun b _ hb' => setRow_other w g b _ (fun hq => hb' (by rw [hq]; rfl))) (fun b hb' => .inl hb') (fun b hb' => by simpa using (Ob.ok_lt hb hb').2) (fun F _ => ?_)
    exact ⟨hb.1, setRow_heap w g _ _ e _ hb.2⟩

theorem mul_lt_seg {i j m : Nat} (h : i < j) : i * m + m ≤ j * m := by
  have := Nat.mul_le_mul_right m (Nat.succ_le_of_lt h)
  rwa [Nat.succ_mul] at this

theorem Reps.set {α : Type} {t : Ty α} {F : List (Option Nat)} {ys : List α} {cs ds : List Value} {j : Nat} {y : α} (h : Reps t F w ys cs) (hj : j < ys.length) (hd : t.rep F w y ds) :
    Reps t F w (ys.set j y) (cs.take (j * t.n) ++ ds ++ cs.drop (j * t.n + ds.length)) := by
  have hdl := t.len hd
  have hjn := mul_lt_seg (m := t.n) hj
  have htl : (cs.take (j * t.n)).length = j * t.n := by rw [List.length_take, h.1]; omega
  refine ⟨by simp only [List.length_append, List.length_take, List.length_drop, List.length_set, h.1, hdl]; omega, fun i z hz => ?_⟩
  rw [List.getElem?_set] at hz
  split at hz
  · rename_i hij
    subst hij
    injection hz with hz
    subst hz
    rw [List.append_assoc, List.drop_append, List.drop_of_length_le (by omega), List.nil_append, htl, Nat.sub_self, List.drop_zero, List.take_append, List.take_of_length_le (by omega), hdl, Nat.sub_self, List.take_zero, List.append_nil]
    exact hd
  · rename_i hij
    have hil : i < ys.length := (List.getElem?_eq_some_iff.1 hz).1
    have hin := mul_lt_seg (m := t.n) hil
    have e : ((cs.take (j * t.n) ++ ds ++ cs.drop (j * t.n + ds.length)).drop (i * t.n)).take t.n = (cs.drop (i * t.n)).take t.n := by
      apply List.ext_getElem?
      intro q
      rw [List.getElem?_take, List.getElem?_take]
      by_cases hq : q < t.n
      · rw [if_pos hq, if_pos hq, List.getElem?_drop, List.getElem?_drop]
        rcases Nat.lt_or_gt_of_ne hij with hlt | hlt
        · have := mul_lt_seg (m := t.n) hlt
          rw [List.getElem?_append_right (by simp only [List.length_append, htl, hdl]; omega)]
          rw [List.getElem?_drop]
          congr 1
          simp only [List.length_append, htl, hdl]
          omega
        · have := mul_lt_seg (m := t.n) hlt
          rw [List.append_assoc, List.getElem?_append_left (by omega), List.getElem?_take_of_lt (by omega)]
      · rw [if_neg hq, if_neg hq]
    rw [e]
    exact h.2 i z hz

theorem take_splice (l ds : List Value) (o m : Nat) (h : o + ds.length ≤ m) (hm : m ≤ l.length) :
    (l.take o ++ ds ++ l.drop (o + ds.length)).take m = (l.take m).take o ++ ds ++ (l.take m).drop (o + ds.length) := by
  have hl : (l.take o ++ ds).length = o + ds.length := by rw [List.length_append, List.length_take]; omega
  rw [List.take_append, List.take_of_length_le (by omega), hl, List.take_take, Nat.min_eq_left (by omega), List.drop_take]

theorem Wx.storeR {α : Type} {t : Ty α} {e : TypeId} {v u : Value} {ys : List α} {z : α} {g j : Nat} (hS : St w0 O w obs) (i : Nat) (hi : obs[i]? = some (.row t e v ys)) (hg : v.ownBlock = some g)
    (hx : ev (look l σ0) x = .pointer (some ⟨g, j * t.n, none⟩)) (hj : j < ys.length) (hy : ev (look l σ0) y = u) (hu : V t z u (fb obs O) w) (hsz : ∀ w', (sizeOf T).run P w' = .ok t.n w')
    (h : ∀ w', w.heap.size ≤ w'.heap.size → St w0 O w' (obs.set i (.row t e v (ys.set j z))) → Wx P n ops false rest k (look l σ0) w') :
    Wx P n ops false (⟨none, .store T x y, ty, pos, af, none⟩ :: rest) k (look l σ0) w := by
  obtain ⟨cs, hr, hR⟩ := hS.get i hi
  obtain ⟨ds, rfl, hd⟩ := hu
  have hdl := t.len hd
  have hjn := mul_lt_seg (m := t.n) hj
  have hcells : (t.val ds).cells = ds.toArray := by
    unfold Ty.val
    cases hag : t.agg with
    | true => rfl
    | false =>
      have hn := t.flat hag
      match ds, hdl, t.one hd with
      | [q], _, ho =>
        have := ho q (by simp)
        simp only [Bool.false_eq_true, if_false, List.headD_cons]
        cases q <;> first | rfl | (simp [Value.oneCell'] at this)
      | [], hl, _ => simp [hn] at hl
      | _ :: _ :: _, hl, _ => simp [hn] at hl
  rcases hr.2 with ⟨rfl, _⟩ | ⟨g', cap, cur, rfl, h1, h2, h3, h4, h5, h6⟩
  · simp [Value.ownBlock] at hg
  · have : g' = g := by simpa [Value.ownBlock] using hg
    subst this
    have hfit : j * t.n + ds.length ≤ cur.size := by
      rw [h5, hdl]
      exact Nat.le_trans hjn (Nat.mul_le_mul_right _ h3)
    refine Wx.unit (w' := w.setRow g' (cur.toList.take (j * t.n) ++ ds ++ cur.toList.drop (j * t.n + ds.length)).toArray) ?_ (h _ (by simp) ?_)
    · have := run_storeAt (P := P) (T := T) (o := j * t.n) h2 hcells (by rw [hdl]; exact hsz) hfit (t.one hd)
      simp [xop, execOp, hx, hy, this]
    · refine hS.turn i hi rfl rfl rfl (by simp) (fun b _ hb' => setRow_other w g' b _ (fun hq => hb' (by rw [hq]; rfl))) (fun b hb' => .inl hb') (fun b hb' => by simpa using (Ob.ok_lt (hS.get i hi) hb').2) (fun F hM => ?_)
      refine ⟨cs.take (j * t.n) ++ ds ++ cs.drop (j * t.n + ds.length), ⟨?_, .inr ⟨g', cap, _, by rw [List.length_set], h1, setRow_heap w g' _ _ e _ h2, by rw [List.length_set]; exact h3, h4, ?_, ?_⟩⟩, (hR.set hj hd).mv hM⟩
      · simp only [List.length_append, List.length_take, List.length_drop, List.length_set, hdl, hR.1]
        omega
      · simp only [List.size_toArray, List.length_append, List.length_take, List.length_drop, Array.length_toList, hdl]
        omega
      · rw [List.length_set, ← h6]
        exact take_splice _ _ _ _ (by rw [hdl]; exact hjn) (by show ys.length * t.n ≤ cur.size; rw [h5]; exact Nat.mul_le_mul_right _ h3)

theorem Reps.append {α : Type} {t : Ty α} {F : List (Option Nat)} {ys zs : List α} {cs ds : List Value} (h : Reps t F w ys cs) (hd : Reps t F w zs ds) : Reps t F w (ys ++ zs) (cs ++ ds) := by
  refine ⟨by rw [List.length_append, List.length_append, h.1, hd.1, Nat.add_mul], fun i z hz => ?_⟩
  rw [List.getElem?_append] at hz
  split at hz
  · rename_i hi
    have := mul_lt_seg (m := t.n) hi
    rw [List.drop_append_of_le_length (by rw [h.1]; omega), List.take_append_of_le_length (by rw [List.length_drop, h.1]; omega)]
    exact h.2 i z hz
  · rename_i hi
    have hi' : ys.length ≤ i := by omega
    have e : i * t.n = cs.length + (i - ys.length) * t.n := by
      rw [h.1, ← Nat.add_mul]; congr 1; omega
    rw [e, ← List.drop_drop, List.drop_left]
    exact hd.2 _ z hz

def Src {α : Type} (t : Ty α) (zs : List α) (u : Value) (F : List (Option Nat)) (w : World) : Prop :=
  ∃ a c ds, u = .slice a zs.length c ∧ Reps t F w zs ds ∧ (∀ q ∈ ds, q.oneCell' = true) ∧ (zs ≠ [] → ∃ ad, a = some ad) ∧ ∀ ad, a = some ad → ∀ j q, ds[j]? = some q → w.cell? (ad.add j) = some q

theorem flat_cells {α : Type} {t : Ty α} {F : List (Option Nat)} {b : Nat} : ∀ (zs : List α) (o : Nat), Els t F w zs b o → ∃ ds, Reps t F w zs ds ∧ (∀ q ∈ ds, q.oneCell' = true) ∧ ∀ j q, ds[j]? = some q → w.cell? ⟨b, o + j, none⟩ = some q
  | [], _, _ => ⟨[], Reps.nil, by simp, by simp⟩
  | z :: zs, o, h => by
    obtain ⟨es, h1, h2⟩ := h 0 z rfl
    have hl := t.len h1
    obtain ⟨ds, g1, g2, g3⟩ := flat_cells zs (o + t.n) (fun i x hx => by
      obtain ⟨fs, q1, q2⟩ := h (i + 1) x (by simpa using hx)
      refine ⟨fs, q1, fun j u hu => ?_⟩
      have := q2 j u hu
      rwa [Nat.succ_mul, show o + (i * t.n + t.n) + j = o + t.n + i * t.n + j by omega] at this)
    refine ⟨es ++ ds, ?_, ?_, ?_⟩
    · have := Reps.append (ys := [z]) (cs := es) ⟨by simp [hl], fun i y hy => by
        match i, hy with
        | 0, hy =>
          simp at hy; subst hy
          simp only [Nat.zero_mul, List.drop_zero]
          rw [List.take_of_length_le (by omega)]
          exact h1⟩ g1
      simpa using this
    · intro q hq
      rcases List.mem_append.1 hq with hq | hq
      · exact t.one h1 q hq
      · exact g2 q hq
    · intro j q hq
      rw [List.getElem?_append] at hq
      split at hq
      · have := h2 j q hq
        rwa [Nat.zero_mul, Nat.add_zero] at this
      · rename_i hj
        have := g3 _ q hq
        rwa [hl, show o + t.n + (j - t.n) = o + j by omega] at this

theorem Src.ofV {α : Type} {t : Ty α} {zs : List α} {u : Value} {F : List (Option Nat)} (h : V (tSl t) zs u F w) : Src t zs u F w := by
  obtain ⟨a, cap, rfl, h1, h2, h3⟩ := h.form
  by_cases hz : zs = []
  · subst hz
    exact ⟨a, cap, [], rfl, Reps.nil, by simp, by simp, by simp⟩
  · obtain ⟨b, o, rfl, h4, h5, h6⟩ := h3 hz
    obtain ⟨ds, g1, g2, g3⟩ := flat_cells zs o h6
    refine ⟨_, cap, ds, rfl, g1, g2, fun _ => ⟨_, rfl⟩, fun ad had j q hq => ?_⟩
    injection had with had
    subst had
    rw [Addr.add_lit]
    exact g3 j q hq

theorem Src.ofR {α : Type} {t : Ty α} {e : TypeId} {zs : List α} {u : Value} (hS : St w0 O w obs) (j : Nat) (hj : obs[j]? = some (.row t e u zs)) : Src t zs u (fb obs O) w := by
  obtain ⟨cs, hr, hR⟩ := hS.get j hj
  by_cases hz : zs = []
  · subst hz
    obtain ⟨a, c, rfl, _⟩ := ownsRow_form hr
    exact ⟨a, c, [], rfl, Reps.nil, by simp, by simp, by simp⟩
  · rcases hr.2 with ⟨rfl, hn⟩ | ⟨g, cap, cur, rfl, h1, h2, h3, h4, h5, h6⟩
    · exact (hz (List.eq_nil_of_length_eq_zero hn)).elim
    · obtain ⟨ds, g1, g2, g3⟩ := flat_cells zs 0 (row_els hr hR (Mv.refl _ _) rfl)
      refine ⟨_, cap, ds, rfl, g1, g2, fun _ => ⟨_, rfl⟩, fun ad had j q hq => ?_⟩
      injection had with had
      subst had
      rw [Addr.add_lit]
      exact g3 j q hq

theorem Wx.append {α : Type} {t : Ty α} {e : TypeId} {v u : Value} {ys zs : List α} {z : Value} {bytes : Nat} (hE : ElemI P T e z t.n bytes) (hS : St w0 O w obs) (i : Nat) (hi : obs[i]? = some (.row t e v ys))
    (hx : ev (look l σ0) x = v) (hy : ev (look l σ0) y = u) (hu : Src t zs u (fb obs O) w) (h63 : ys.length + zs.length ≤ maxLen) (hb : (ys.length + zs.length) * bytes ≤ 140737488355328) (hd : Nat.ble (d + 1) n = true)
    (h : ∀ v' w', w.heap.size ≤ w'.heap.size → St w0 O w' (obs.set i (.row t e v' (ys ++ zs))) → Wx P n ops false rest k (look ((d, v') :: l) σ0) w') :
    Wx P n ops false (⟨some d, .call { callee := .builtin .append, args := #[x, y], argTypes := #[T, T] }, ty, pos, af, none⟩ :: rest) k (look l σ0) w := by
  obtain ⟨cs, hr, hR⟩ := hS.get i hi
  obtain ⟨a, c, ds, rfl, g1, g2, g3, g4⟩ := hu
  obtain ⟨ti, hti, hz, hsz, hby⟩ := hE.info
  have hrun : ∃ v' w', (Builtin.append_ #[T, T] ty #[v, .slice a zs.length c]).run P w = .ok v' w' ∧ w'.ownsRow w0.heap.size e t.n v' (ys.length + zs.length) (cs ++ ds) ∧ w.grownBy w' v.ownBlock ∧
      (v'.ownBlock = v.ownBlock ∨ v'.ownBlock = some w.heap.size) := by
    cases a with
    | some ad =>
      obtain ⟨v', w', q1, q2, q3, _, q5⟩ := run_append_own_at (P := P) w w0.heap.size T ty e ti z t.n bytes hE.und hti hz hsz hby hE.zn hE.pos v ys.length cs hr ad zs.length c ds g1.1 (g4 ad rfl) g2 h63 hb hS.bel.size
      exact ⟨v', w', q1, q2, q3, q5⟩
    | none =>
      have hzs : zs = [] := by
        cases zs with
        | nil => rfl
        | cons q qs =>
          obtain ⟨ad, h⟩ := g3 (by simp)
          cases h
      subst hzs
      have hds : ds = [] := List.eq_nil_of_length_eq_zero (by simpa using g1.1)
      subst hds
      refine ⟨v, w, ?_, by simpa using hr, ⟨rfl, rfl, rfl, Nat.le_refl _, fun _ _ _ => rfl⟩, .inl rfl⟩
      rcases hr.2 with ⟨rfl, hn⟩ | ⟨g, cap, cur, rfl, h1, h2, h3, h4, h5, h6⟩
      · simp [Builtin.append_, run_underlying hE.und, sizeOf, typeInfo, hti, Builtin.lenOf, Builtin.firstCells]
      · simp [Builtin.append_, run_underlying hE.und, sizeOf, typeInfo, hti, Builtin.lenOf, Builtin.firstCells, h3, storeCells]
  obtain ⟨v', w', q1, q2, q3, q4⟩ := hrun
  refine Wx.val (v := v') (w' := w') ?_ hd (h v' w' q3.size ?_)
  · simp [xop, execOp, resolve, invoke, builtin, hx, hy, q1]
  · refine hS.turn i hi q3.os q3.tape q3.output q3.size (fun b hb' hne => q3.block b hb' hne) (fun b hb' => ?_) (fun b hb' => (q2.lt b hb').2) (fun F hM => ⟨cs ++ ds, by rw [List.length_append]; exact q2, (hR.mv hM).append (g1.mv hM)⟩)
    have hb'' : v'.ownBlock = some b := hb'
    rcases q4 with q4 | q4
    · exact .inl (by rw [← hb'', q4]; rfl)
    · rw [q4] at hb''
      injection hb'' with hb''
      exact .inr (by omega)

theorem Wx.appendNew {α : Type} {t : Ty α} {e : TypeId} {u : Value} {ys zs : List α} {z : Value} {bytes : Nat} {ad : Option Addr} (hE : ElemI P T e z t.n bytes) (hS : St w0 O w obs)
    (hx : ev (look l σ0) x = .slice ad ys.length ys.length) (hv : V (tSl t) ys (.slice ad ys.length ys.length) (fb obs O) w) (hy : ev (look l σ0) y = u) (hu : Src t zs u (fb obs O) w) (hne : zs ≠ [])
    (h63 : ys.length + zs.length ≤ maxLen) (hb : (ys.length + zs.length) * bytes ≤ 140737488355328) (hd : Nat.ble (d + 1) n = true)
    (h : ∀ v' w', Ext w w' → St w0 O w' (.row t e v' (ys ++ zs) :: obs) → Wx P n ops false rest k (look ((d, v') :: l) σ0) w') :
    Wx P n ops false (⟨some d, .call { callee := .builtin .append, args := #[x, y], argTypes := #[T, T] }, ty, pos, af, none⟩ :: rest) k (look l σ0) w := by
  obtain ⟨a0, c0, cs, he0, f1, f2, f3, f4⟩ := Src.ofV hv
  injection he0 with e1 _ e2
  subst e1 e2
  obtain ⟨a, c, ds, rfl, g1, g2, g3, g4⟩ := hu
  obtain ⟨ti, hti, hz, hsz, hby⟩ := hE.info
  obtain ⟨ad', rfl⟩ := g3 hne
  have hzl : 0 < zs.length := List.length_pos_iff.2 hne
  subst hby
  have hsmall : ys.length + zs.length ≤ 9223372036854775807 := by simp only [maxLen] at h63; omega
  have hlen : (cs ++ ds).length = (ys ++ zs).length * t.n := by rw [List.length_append, f1.1, g1.1, List.length_append, Nat.add_mul]
  have key : ∀ (cap : Nat), ys.length + zs.length ≤ cap → cap ≤ maxLen → ∀ (cells : Array Value), cells.toList = cs ++ ds ++ (Builtin.zeroCells z.cells (cap - (ys.length + zs.length))).toList →
      Ext w (w.drew.alloc (.cells cells e)) ∧ St w0 O (w.drew.alloc (.cells cells e)) (.row t e (.slice (some ⟨w.heap.size, 0, none⟩) (ys.length + zs.length) cap) (ys ++ zs) :: obs) := by
    intro cap hc1 hc2 cells hcells
    have hx : Ext w (w.drew.alloc (.cells cells e)) := (((Below.refl w.heap.size w).drew).alloc (by simp) _)
    refine ⟨hx, hS.push hx _ (fun b hb => by simp [Ob.blk, Value.ownBlock] at hb; omega) (fun F hM => ⟨cs ++ ds, ⟨?_, .inr ⟨w.heap.size, cap, cells, by rw [List.length_append], hS.bel.size, heap_alloc_new w.drew _, by rw [List.length_append]; exact hc1, hc2, ?_, ?_⟩⟩, (f1.mv hM).append (g1.mv hM)⟩)⟩
    · exact hlen
    · rw [← Array.length_toList, hcells]
      simp only [List.length_append, f1.1, g1.1, Array.length_toList, size_zeroCells, hE.zn, ← Nat.add_mul]
      congr 1
      omega
    · rw [hcells, List.take_append_of_le_length (Nat.le_of_eq hlen.symm), List.take_of_length_le (Nat.le_of_eq hlen)]
  cases ad with
  | some b =>
    have hr := run_append_grow (P := P) w T ty e ti z hE.und hti hz b ys.length ys.length cs (by rw [hsz]; exact f1.1) (f4 b rfl) ad' zs.length c ds (by rw [hsz]; exact g1.1) (g4 ad' rfl) (by omega) (by omega) (growslice_fits (by omega) hb)
    refine Wx.val (v := .slice (some ⟨w.heap.size, 0, none⟩) (ys.length + zs.length) (grownCap w (ys.length + zs.length) ys.length e))
      (w' := w.drew.alloc (.cells (cs.toArray ++ ds.toArray ++ Builtin.zeroCells z.cells (grownCap w (ys.length + zs.length) ys.length e - (ys.length + zs.length))) e)) ?_ hd (h _ _ ?_ ?_)
    · simp [xop, execOp, resolve, invoke, builtin, hx, hy, hr]
    · exact (((Below.refl w.heap.size w).drew).alloc (by simp) _)
    · exact (key _ (grownCap_ge w (ys.length + zs.length) ys.length e) (grownCap_le_maxLen w (ys.length + zs.length) ys.length e h63) _ (by simp)).2
  | none =>
    have hys : ys = [] := by
      cases ys with
      | nil => rfl
      | cons q qs =>
        obtain ⟨_, h⟩ := f3 (by simp)
        cases h
    subst hys
    have hcs : cs = [] := List.eq_nil_of_length_eq_zero (by simpa using f1.1)
    subst hcs
    have hr := run_append_nil (P := P) w T ty e ti z hE.und hti hz ad' zs.length c ds (by rw [hsz]; exact g1.1) (g4 ad' rfl) hzl (by simp at hsmall; omega) (by simp at hb; omega)
    refine Wx.val (v := .slice (some ⟨w.heap.size, 0, none⟩) zs.length (grownCap w zs.length 0 e)) (w' := w.drew.alloc (.cells (ds.toArray ++ Builtin.zeroCells z.cells (grownCap w zs.length 0 e - zs.length)) e)) ?_ hd (h _ _ ?_ ?_)
    · simp only [xop, execOp, resolve, invoke, builtin, Sem.run_bind, Sem.run_pure, Result.andThen_ok, List.map_toArray, List.map_cons, List.map_nil, hx, hy]
      rw [show (List.length ([] : List α)) = 0 from rfl, hr]
      rfl
    · exact (((Below.refl w.heap.size w).drew).alloc (by simp) _)
    · have := (key (grownCap w zs.length 0 e) (by simpa using grownCap_ge w zs.length 0 e) (grownCap_le_maxLen w zs.length 0 e (by simp at h63; omega)) (ds.toArray ++ Builtin.zeroCells z.cells (grownCap w zs.length 0 e - zs.length)) (by simp)).2
      simpa using this

/-! ### Literals of slices, make, copy -/

theorem fold_cells (off : Nat) : ∀ (vs : List Value) (j : Nat) (cs : Array Value), off + j + vs.length ≤ cs.size →
    ((vs.zipIdx j).foldl (fun cs p => cs.setIfInBounds (off + p.2) p.1) cs).toList = cs.toList.take (off + j) ++ vs ++ cs.toList.drop (off + j + vs.length)
  | [], j, cs, _ => by simp
  | v :: vs, j, cs, h => by
    simp only [List.length_cons] at h
    simp only [List.zipIdx_cons, List.foldl_cons]
    rw [fold_cells off vs (j + 1) (cs.setIfInBounds (off + j) v) (by simp; omega)]
    have := list_seg_step cs.toList (off + j) v vs (by simp; omega)
    simp only [Array.toList_setIfInBounds, List.length_cons]
    rw [show off + (j + 1) = off + j + 1 by omega]
    exact this

def nums : Nat → List Value → List (Nat × Value)
  | _, [] => []
  | i, v :: vs => (i, v) :: nums (i + 1) vs

theorem fill_nums {size : Nat} : ∀ (vs : List Value) (s : Nat) (cells : Array Value), (∀ v ∈ vs, v.cells.size = size) → cells.size = (s + vs.length) * size →
    ∃ out, Instr.fill (fun i => some (i * size, size)) cells (nums s vs) = some out ∧ out.toList = cells.toList.take (s * size) ++ vs.flatMap (fun v => v.cells.toList)
  | [], s, cells, _, hc => ⟨cells, rfl, by simp only [List.flatMap_nil, List.append_nil]; rw [List.take_of_length_le (by rw [Array.length_toList, hc]; simp)]⟩
  | v :: vs, s, cells, hv, hc => by
    have hvs := hv v (by simp)
    have hlen : s * size + size ≤ cells.size := by
      rw [hc, List.length_cons, Nat.add_mul, Nat.succ_mul]
      omega
    have hfold := fold_cells (s * size) v.cells.toList 0 cells (by rw [Array.length_toList, hvs]; omega)
    generalize hcells' : ((v.cells.toList.zipIdx 0).foldl (fun cs p => cs.setIfInBounds (s * size + p.2) p.1) cells) = cells' at hfold
    have hsz : cells'.size = cells.size := by
      rw [← Array.length_toList, hfold]
      simp only [List.length_append, List.length_take, List.length_drop, Array.length_toList, hvs]
      omega
    obtain ⟨out, h1, h2⟩ := fill_nums vs (s + 1) cells' (fun u hu => hv u (by simp [hu])) (by rw [hsz, hc, List.length_cons]; congr 1; omega)
    refine ⟨out, ?_, ?_⟩
    · simp only [nums, Instr.fill]
      rw [if_neg (by simp [hvs]; omega)]
      rw [← h1]
      congr 1
      rw [← hcells', ← Array.foldl_toList]
      congr 1
      simp
    · rw [h2, hfold]
      simp only [Nat.add_zero, List.flatMap_cons]
      have htl : (cells.toList.take (s * size)).length = s * size := by rw [List.length_take, Array.length_toList]; omega
      rw [List.take_left' (by rw [List.length_append, htl, Array.length_toList, hvs, Nat.succ_mul]), List.append_assoc]

theorem val_cells {α : Type} {t : Ty α} {y : α} {F : List (Option Nat)} {cs : List Value} (h : t.rep F w y cs) : (t.val cs).cells = cs.toArray := by
  have hdl := t.len h
  unfold Ty.val
  cases hag : t.agg with
  | true => rfl
  | false =>
    have hn := t.flat hag
    match cs, hdl, t.one h with
    | [q], _, ho =>
      have := ho q (by simp)
      simp only [Bool.false_eq_true, if_false, List.headD_cons]
      cases q <;> first | rfl | (simp [Value.oneCell'] at this)
    | [], hl, _ => simp [hn] at hl
    | _ :: _ :: _, hl, _ => simp [hn] at hl

def VL {α : Type} (t : Ty α) : List α → List Value → List (Option Nat) → World → Prop
  | [], [], _, _ => True
  | y :: ys, v :: vs, F, w => V t y v F w ∧ VL t ys vs F w
  | _, _, _, _ => False

theorem VL.reps {α : Type} {t : Ty α} {F : List (Option Nat)} : ∀ {ys : List α} {vs : List Value}, VL t ys vs F w →
    Reps t F w ys (vs.flatMap (fun v => v.cells.toList)) ∧ (∀ q ∈ vs.flatMap (fun v => v.cells.toList), q.oneCell' = true) ∧ (∀ v ∈ vs, v.cells.size = t.n) ∧ vs.length = ys.length
  | [], [], _ => ⟨Reps.nil, by simp, by simp, rfl⟩
  | y :: ys, v :: vs, ⟨⟨es, hv, h1⟩, h2⟩ => by
    obtain ⟨g1, g2, g3, g4⟩ := VL.reps h2
    have hc := val_cells h1
    rw [← hv] at hc
    have hl := t.len h1
    refine ⟨?_, ?_, ?_, by simp [g4]⟩
    · have := Reps.append (ys := [y]) (cs := es) ⟨by simp [hl], fun i z hz => by
        match i, hz with
        | 0, hz =>
          simp at hz; subst hz
          simp only [Nat.zero_mul, List.drop_zero]
          rw [List.take_of_length_le (by omega)]
          exact h1⟩ g1
      simpa [hc] using this
    · intro q hq
      simp only [List.flatMap_cons, hc, List.mem_append] at hq
      rcases hq with hq | hq
      · exact t.one h1 q hq
      · exact g2 q hq
    · intro u hu
      rcases List.mem_cons.1 hu with rfl | hu
      · rw [hc]; simp [hl]
      · exact g3 u hu
  | [], _ :: _, h => h.elim
  | _ :: _, [], h => h.elim

theorem Wx.lit {α : Type} {t : Ty α} {e : TypeId} {ys : List α} {vs : List Value} {z : Value} {bytes m : Nat} {ps : List (Nat × Operand)} (hE : ElemI P T e z t.n bytes) (hS : St w0 O w obs)
    (hp : ps.map (fun p => (p.1, ev (look l σ0) p.2)) = nums 0 vs) (hm : m = ys.length) (hv : VL t ys vs (fb obs O) w) (hlim : m * t.n ≤ 16777216) (hd : Nat.ble (d + 1) n = true)
    (h : ∀ v w', Ext w w' → St w0 O w' (.row t e v ys :: obs) → Wx P n ops false rest k (look ((d, v) :: l) σ0) w') :
    Wx P n ops false (⟨some d, .buildSlice T m ps.toArray, ty, pos, af, none⟩ :: rest) k (look l σ0) w := by
  obtain ⟨g1, g2, g3, g4⟩ := hv.reps
  obtain ⟨ti, hti, hz, hsz, hby⟩ := hE.info
  obtain ⟨out, f1, f2⟩ := fill_nums (size := t.n) vs 0 ((Array.range (m * t.n)).map ((if m * t.n = 0 then #[] else z.cells)[· % (if m * t.n = 0 then (#[] : Array Value) else z.cells).size]!)) g3 (by simp [g4, hm])
  simp only [Nat.zero_mul, List.take_zero, List.nil_append] at f2
  have hx : Ext w (w.alloc (.cells out e)) := (Below.refl _ _).alloc (Nat.le_refl _) _
  refine Wx.val (v := .slice (some ⟨w.heap.size, 0, none⟩) m m) (w' := w.alloc (.cells out e)) ?_ hd (h _ _ hx (hS.push hx _ (fun b hb => by simp [Ob.blk, Value.ownBlock] at hb; omega) (fun F hM => ⟨_, ⟨g1.1, .inr ⟨w.heap.size, ys.length, out, by rw [hm], hS.bel.size, heap_alloc_new w _, Nat.le_refl _, ?_, ?_, ?_⟩⟩, g1.mv hM⟩)))
  · show (do let v ← Instr.buildSlice T m (ps.toArray.map fun (i, x) => (i, ev (look l σ0) x)); pure (Next.value v) : Sem Next).run P w = _
    rw [show (ps.toArray.map fun (i, x) => (i, ev (look l σ0) x)) = (nums 0 vs).toArray by rw [← hp]; simp]
    have hnlim : ¬ (16777216 < m * t.n) := by omega
    by_cases h0 : m * t.n = 0
    · have hvs : vs = [] := by
        rcases Nat.mul_eq_zero.1 h0 with h1 | h1
        · exact List.eq_nil_of_length_eq_zero (by omega)
        · have := hE.pos; omega
      subst hvs
      have ho : out = #[] := Array.ext' (by simpa using f2)
      subst ho
      simp [Instr.buildSlice, run_underlying hE.und, hE.size, h0, newRow, nums, Instr.fill, Array.range_zero']
    · simp only [h0, if_false] at f1
      simp [Instr.buildSlice, run_underlying hE.und, hE.size, h0, hnlim, newRow, zeroValue, typeInfo, hti, hz, f1]
  · have := hE.pos
    have h1 : ys.length ≤ ys.length * t.n := Nat.le_mul_of_pos_right _ hE.pos
    rw [← hm] at h1 ⊢
    simp only [maxLen]; omega
  · rw [← Array.length_toList, f2]; exact g1.1
  · rw [f2, List.take_of_length_le (Nat.le_of_eq g1.1)]

theorem Wx.make {α : Type} {t : Ty α} {e : TypeId} {zv : Value} {zy : α} {bytes m : Nat} {kl kc : IntKind} (hE : ElemI P T e zv 1 bytes) (hn : t.n = 1) (hzc : zv.cells = #[zv]) (hzr : ∀ F w, t.rep F w zy [zv]) (hS : St w0 O w obs)
    (hx : ev (look l σ0) x = .int kl (m : Int)) (hy : ev (look l σ0) y = .int kc (m : Int)) (hb : bytes * m ≤ 281474976710656) (h63 : m ≤ maxLen) (hd : Nat.ble (d + 1) n = true)
    (h : ∀ v w', Ext w w' → St w0 O w' (.row t e v (List.replicate m zy) :: obs) → Wx P n ops false rest k (look ((d, v) :: l) σ0) w') :
    Wx P n ops false (⟨some d, .makeSlice T x y, ty, pos, af, none⟩ :: rest) k (look l σ0) w := by
  obtain ⟨ti, hti, hz, hsz, hby⟩ := hE.info
  subst hby
  have hb' : (ti.bytes : Int) * (m : Int) ≤ 281474976710656 := by
    have h' : ((ti.bytes * m : Nat) : Int) ≤ 281474976710656 := by omega
    rwa [Int.natCast_mul] at h'
  have hr := run_make (P := P) w T e ti zv hE.und hti hz kl kc (m : Int) (m : Int) (by omega) (by omega) hb' (by simp only [maxLen] at h63; omega)
  simp only [Int.toNat_natCast, hsz, Nat.mul_one] at hr
  have hcells : (madeCells zv.cells m).toList = List.replicate m zv := by
    rw [hzc]
    apply List.ext_getElem?
    intro j
    simp only [madeCells, Array.toList_map, List.getElem?_map, List.getElem?_replicate, Array.toList_range]
    by_cases hj : j < m
    · simp [hj, Nat.mod_one]
    · simp [hj]
  have hx' : Ext w (w.alloc (.cells (madeCells zv.cells m) e)) := (Below.refl _ _).alloc (Nat.le_refl _) _
  refine Wx.val (v := .slice (some ⟨w.heap.size, 0, none⟩) m m) (w' := w.alloc (.cells (madeCells zv.cells m) e)) (by simp [xop, execOp, hx, hy, hr]) hd (h _ _ hx' (hS.push hx' _ (fun b hb => by simp [Ob.blk, Value.ownBlock] at hb; omega)
    (fun F hM => ⟨List.replicate m zv, ⟨by simp [hn], .inr ⟨w.heap.size, m, madeCells zv.cells m, by simp, hS.bel.size, heap_alloc_new w _, by simp, h63, by simp [size_madeCells, hn], ?_⟩⟩, by simp [hn], fun i q hq => ?_⟩)))
  · rw [hcells, List.length_replicate, hn, Nat.mul_one, List.take_of_length_le (by simp)]
  · obtain ⟨hi, hq⟩ := List.getElem?_eq_some_iff.1 hq
    simp only [List.getElem_replicate] at hq
    subst hq
    simp only [List.length_replicate] at hi
    rw [hn, Nat.mul_one, List.drop_replicate, List.take_replicate, Nat.min_eq_left (by omega)]
    exact hzr F _

theorem Wx.make0 {α : Type} {t : Ty α} {e : TypeId} {z : Value} {bytes m : Nat} {kl kc : IntKind} (hE : ElemI P T e z t.n bytes) (hS : St w0 O w obs)
    (hx : ev (look l σ0) x = .int kl 0) (hy : ev (look l σ0) y = .int kc (m : Int)) (hb : bytes * m ≤ 281474976710656) (h63 : m ≤ maxLen) (hd : Nat.ble (d + 1) n = true)
    (h : ∀ v w', Ext w w' → St w0 O w' (.row t e v ([] : List α) :: obs) → Wx P n ops false rest k (look ((d, v) :: l) σ0) w') :
    Wx P n ops false (⟨some d, .makeSlice T x y, ty, pos, af, none⟩ :: rest) k (look l σ0) w := by
  obtain ⟨ti, hti, hz, hsz, hby⟩ := hE.info
  subst hby
  have hb' : (ti.bytes : Int) * (m : Int) ≤ 281474976710656 := by
    have h' : ((ti.bytes * m : Nat) : Int) ≤ 281474976710656 := by omega
    rwa [Int.natCast_mul] at h'
  have hr := run_make (P := P) w T e ti z hE.und hti hz kl kc 0 (m : Int) (by omega) (by omega) hb' (by simp only [maxLen] at h63; omega)
  simp only [Int.toNat_natCast, hsz, Int.toNat_zero] at hr
  have hx' : Ext w (w.alloc (.cells (madeCells z.cells (m * t.n)) e)) := (Below.refl _ _).alloc (Nat.le_refl _) _
  refine Wx.val (v := .slice (some ⟨w.heap.size, 0, none⟩) 0 m) (w' := w.alloc (.cells (madeCells z.cells (m * t.n)) e)) (by simp [xop, execOp, hx, hy, hr]) hd (h _ _ hx' (hS.push hx' _ (fun b hb => by simp [Ob.blk, Value.ownBlock] at hb; omega)
    (fun F hM => ⟨[], ⟨by simp, .inr ⟨w.heap.size, m, madeCells z.cells (m * t.n), rfl, hS.bel.size, heap_alloc_new w _, Nat.zero_le _, h63, by simp [size_madeCells], by simp⟩⟩, Reps.nil⟩)))

end
end Go.Wk

namespace Go.Wk
open Go.RowKit

section
variable {P : Program} {ops : Array Oper} {md : Region.Mode} {C : World → Prop}

def anyT (P : Program) (md : Region.Mode) (ops : Array Oper) (C : World → Prop) (n : Nat) (L : Array Bool → Act → Prop) : Nat → Array Bool → Act → Prop
  | 0, listed, a => L listed a
  | f + 1, listed, a => Region.ready md ops listed ≠ [] ∧ ∀ i ∈ Region.ready md ops listed, i < n ∧ qOp P ops C i (anyT P md ops C n L f (listed.setIfInBounds i true)) a

theorem any_of_anyT {n g : Nat} {L : Array Bool → Act → Prop} {Q' : Exit → Act → World → Prop} (hL : ∀ listed a, L listed a → ∀ w, C w → wpAny P md ops Q' g listed a w) :
    ∀ (f : Nat) (listed : Array Bool) (a : Act), anyT P md ops C n L f listed a → ∀ w, C w → wpAny P md ops Q' (f + g) listed a w := by
  intro f
  induction f with
  | zero => intro listed a h w hw; rw [Nat.zero_add]; exact hL _ _ h w hw
  | succ f ih =>
    intro listed a h w hw
    rw [show f + 1 + g = (f + g) + 1 by omega]
    exact ⟨fun h0 => absurd h0 h.1, fun i hi => wpOp_of_qOp hw (fun a' w' hw' h' => ih _ a' h' w' hw') (h.2 i hi).2⟩

theorem anyT_first {n i : Nat} {oi : Oper} {v : Value} {L : Array Bool → Act → Prop} (hi : ops[i]? = some oi) (hsel : ∀ (j : Nat) (o : Oper) cs b, ops[j]? = some o → o.op ≠ .select cs b)
    (hs : Region.sinkB md ops n = true) (hc : Region.chainB md ops n = true) (hn : n < ops.size) (hin : i < n) (hdone : ∀ listed a, L listed a → ∀ j ∈ Region.ready md ops listed, n ≤ j) :
    ∀ (f : Nat) (listed : Array Bool) (a : Act), HeadInv md ops n listed →
      (∀ j oj, ops[j]? = some oj → j ≠ i → listed.getD j true = false → (∀ e ∈ oj.after, Region.binds md e = true → e.on ≠ i) → oi.apart ops oj = true) →
      i ∈ Region.ready md ops listed → YieldsIn P ops C oi v a →
      anyT P md ops C n L f (listed.setIfInBounds i true) (a.put oi.dst v) → anyT P md ops C n L (f + 1) listed a := by
  intro f
  induction f with
  | zero =>
    intro listed a inv _ hr hy H
    have hun := (mem_ready.1 hr).1
    have low : ∀ j ∈ Region.ready md ops listed, j < n := fun j hj => by
      rcases Nat.lt_or_ge j n with h | h
      · exact h
      · exact absurd hj (tail_waits hs hc hn inv _ i rfl hin hun j h)
    refine ⟨fun h => (by rw [h] at hr; cases hr), fun j hj => ⟨low j hj, ?_⟩⟩
    by_cases hji : j = i
    · subst hji; exact hy.qOp hi H
    · have h1 := hdone _ _ H j (ready_mono hj hji)
      have h2 := low j hj
      omega
  | succ f ih =>
    intro listed a inv hfree hr hy H
    have hun := (mem_ready.1 hr).1
    have low : ∀ j ∈ Region.ready md ops listed, j < n := fun j hj => by
      rcases Nat.lt_or_ge j n with h | h
      · exact h
      · exact absurd hj (tail_waits hs hc hn inv _ i rfl hin hun j h)
    refine ⟨fun h => (by rw [h] at hr; cases hr), fun j hj => ⟨low j hj, ?_⟩⟩
    by_cases hji : j = i
    · subst hji; exact hy.qOp hi H
    · have h1 := (H.2 j (ready_mono hj hji)).2
      obtain ⟨hjun, oj, hoj, hall⟩ := mem_ready.1 hj
      have hnot : ∀ e ∈ oj.after, Region.binds md e = true → e.on ≠ i := fun e he hb heq => by
        have h1 := hall e he hb
        rw [heq, getD_both hun] at h1
        cases h1
      have h2 := qOp_put hoj (hfree j oj hoj hji hjun hnot) (fun cs b => hsel i oi cs b hi) (fun cs b => hsel j oj cs b hoj) hy h1
      have hfree' : ∀ k ok, ops[k]? = some ok → k ≠ i → (listed.setIfInBounds j true).getD k true = false →
          (∀ e ∈ ok.after, Region.binds md e = true → e.on ≠ i) → oi.apart ops ok = true := fun k ok hk hki hun hno => by
        refine hfree k ok hk hki ?_ hno
        by_cases hjk : j = k
        · subst hjk; exact hjun
        · rw [getD_set_ne true hjk] at hun; exact hun
      refine qOp_mono (fun a' h3 => ih (listed.setIfInBounds j true) a' (inv.set hj (low j hj)) hfree' (ready_mono hr (Ne.symm hji)) h3.1 ?_) h2
      rw [Array.setIfInBounds_comm _ _ hji]
      exact h3.2

theorem anyT_lex {n g : Nat} {Lq : Act → Prop} (hsel : Region.noSelect ops = true) (hs : Region.sinkB md ops n = true) (hc : Region.chainB md ops n = true) (hn : n < ops.size) :
    ∀ (l : List Oper) (k : Nat) (listed : Array Bool) (a : Act), (∀ j, j < l.length → l[j]? = ops[k + j]?) → k + l.length = n → HeadInv md ops n listed →
    Region.lexHead md ops g l.length k listed = true → wpQuiet P ops C Lq l a →
    anyT P md ops C n (fun listed' a' => Region.seqB md ops g n listed' = true ∧ Lq a') l.length listed a := by
  intro l
  induction l with
  | nil =>
    intro k listed a _ hk _ hB h
    have hkn : k = n := by simpa using hk
    subst hkn
    exact ⟨by simpa [Region.lexHead] using hB, h⟩
  | cons o l ih =>
    intro k listed a hl hk inv hB h
    have h0 : ops[k]? = some o := by simpa using (hl 0 (by simp)).symm
    simp only [List.length_cons, Region.lexHead, Bool.and_eq_true] at hB
    obtain ⟨⟨hr, hf⟩, hB'⟩ := hB
    have hkn : k < n := by simp only [List.length_cons] at hk; omega
    have hr' : k ∈ Region.ready md ops listed := by simpa using hr
    have hst : qOp P ops C k (wpQuiet P ops C Lq l) a := by unfold qOp; simp only [h0]; exact h
    obtain ⟨v, hy, hK⟩ := yieldsIn_of_qOp h0 hst
    exact anyT_first h0 (Region.noSelect_spec hsel) hs hc hn hkn (fun listed' a' hL => seqB_ready hL.1) l.length listed a inv (Region.free_spec h0 hf) hr' hy
      (ih (k + 1) _ _ (fun j hj => by have := hl (j + 1) (by simp; omega); simpa [Nat.add_assoc, Nat.add_comm 1 j] using this) (by simp only [List.length_cons] at hk; omega) (inv.set hr' hkn) hB' hK)

theorem wp_region_quiet_tail {Q : Exit → Act → World → Prop} {a : Act} {w : World} {l : List Oper} (n : Nat) (hB : Region.lexTailB .any l.toArray n = true)
    (hC : C { w with drawn := w.drawn + 1 }) (h : wpQuiet P l.toArray C (fun a' => ∀ w', C w' → wpList P l.toArray Q (l.drop n) a' w') (l.take n) a) : wpAny P .any l.toArray Q l.toArray.size (Array.replicate l.toArray.size false) a { w with drawn := w.drawn + 1 } := by
  simp only [Region.lexTailB, Bool.and_eq_true, decide_eq_true_eq] at hB
  obtain ⟨⟨⟨⟨hsel, hn⟩, hs⟩, hc⟩, hlex⟩ := hB
  have hn' : n < l.length := by simpa using hn
  have htl : (l.take n).length = n := by simp; omega
  have hdl : (l.drop n).length = l.toArray.size - n := by simp
  have inv0 : HeadInv .any l.toArray n (Array.replicate l.toArray.size false) :=
    ⟨by simp, fun j oj _ hl => (by rw [getD_replicate_false] at hl; cases hl), fun t _ ht => getD_in (by simpa using ht) (getD_replicate_false _ _)⟩
  have H := anyT_lex (md := .any) (g := l.toArray.size - n) hsel hs hc hn (l.take n) 0 _ a (fun j hj => by
    have hj' : j < n := by rw [htl] at hj; exact hj
    simp [hj']) (by simpa using htl) inv0 (by rw [htl]; exact hlex) h
  have := any_of_anyT (Q' := Q) (g := l.toArray.size - n) (fun listed a' hL w' hw' => by
    have := wpAny_of_seq (md := .any) (Q' := Q) (l.drop n) n listed a' w' (fun j => by simp [List.getElem?_drop]) (by rw [hdl]; exact hL.1) (hL.2 w' hw')
    rwa [hdl] at this) _ _ _ H _ hC
  rw [htl, show n + (l.toArray.size - n) = l.toArray.size by omega] at this
  exact this
end

section
variable {P : Program} {n : Nat} {kn kr : Cont} {ke : List (Nat × Cont)} {σ : Fr} {w : World}

theorem W.regT {id : Nat} {l : List Oper} (m : Nat) (hm : P.follows .mixedOrders = true) (hB : Region.lexTailB .any l.toArray m = true)
    (h : Wx P n l.toArray true (l.take m) (fun σ' w' => Wx P n l.toArray false (l.drop m) kn σ' w') σ w) (hd : noDefer l = true := by rfl) : W P n (.region id l.toArray true) kn kr ke σ w := by
  refine W.ofAny hm hd fun T hT => ?_
  refine wp_region_quiet_tail (C := Ext w) (Q := post n kn (fun _ _ => False) []) m hB (ext_drawn w) ?_
  · have h' : Wq P n l.toArray w (l.take m) (fun σ' w' => Wo P n l.toArray (l.drop m) kn σ' w') σ := h
    have := h' T hT
    revert this
    have gen : ∀ (r : List Oper) (a : Act), wpQuiet P l.toArray (Ext w) (fun a' => a'.tmps.size = n ∧ a'.defers = [] ∧ ∀ w', Ext w w' → Wo P n l.toArray (l.drop m) kn (fun i => a'.tmps.getD i undef) w') r a →
        wpQuiet P l.toArray (Ext w) (fun a' => ∀ w', Ext w w' → wpList P l.toArray (post n kn (fun _ _ => False) []) (l.drop m) a' w') r a := by
      intro r
      induction r with
      | nil =>
        intro a ⟨g1, g2, g3⟩ w' hw'
        have := g3 w' hw' a.tmps (AtF.self g1)
        cases a
        simp only at g2
        subst g2
        exact this
      | cons o r ih =>
        intro a h
        unfold wpQuiet at h ⊢
        split
        · rename_i hw
          rw [if_pos hw] at h
          exact Oper.quiet_mono (fun a h => ih a h) h
        · rename_i hw
          rw [if_neg hw] at h
          exact ih _ h
    exact gen _ _
end

/-! ### Operations that make memory, in a region that draws: all orders -/
section
variable {P : Program} {n : Nat} {kn kr : Cont} {ke : List (Nat × Cont)} {σ : Fr} {w w0 : World} {ops : Array Oper} {k : Cont}

def Wh (P : Program) (n : Nat) (ops : Array Oper) (w0 : World) (fuel : Nat) (listed : Array Bool) (k : Cont) (σ : Fr) (w : World) : Prop :=
  ∀ T, AtF n σ T → wpAnyH P .any ops (post n k (fun _ _ => False) []) (Ext w0) fuel listed ⟨T, []⟩ w

theorem W.regH {id : Nat} {l : List Oper} (hm : P.follows .mixedOrders = true) (h : ∀ w', Ext w w' → Wh P n l.toArray w l.length (Array.replicate l.length false) kn σ w') (hd : noDefer l = true := by rfl) : W P n (.region id l.toArray true) kn kr ke σ w := by
  refine W.ofAny hm hd fun T hT => ?_
  have h2 := h _ (ext_drawn w) T hT
  exact wpAny_of_held (S := Ext w) _ _ _ _ (by simpa using h2)

theorem Wh.rd (i : Nat) {f : Nat} {listed : Array Bool} {d : Tmp} {op : Op} {ty : TypeId} {pos : String} {af : Array Edge} {v : Value} {l : List (Nat × Value)} {σ0 : Fr}
    (hi : ops[i]? = some ⟨some d, op, ty, pos, af, none⟩) (hB : (Region.noSelect ops && Region.free .any ops listed i && (Region.ready .any ops listed).contains i) = true)
    (hw : Ext w0 w) (hr : Rd P (look l σ0) op ty w0 v) (hd : Nat.ble (d + 1) n = true) (h : Wh P n ops w0 f (listed.setIfInBounds i true) k (look ((d, v) :: l) σ0) w) : Wh P n ops w0 (f + 1) listed k (look l σ0) w := by
  intro T hT
  simp only [Bool.and_eq_true] at hB
  obtain ⟨T', hT', hF⟩ := hT.put (some d) v hd []
  rw [look_cons] at h
  refine wpAnyH_take (v := v) hi hB.1.1 hB.1.2 hB.2 (fun c a w h => h.elim) (.inl ⟨rfl, fun w' hw' => ?_⟩) hw ?_
  · rw [hT.eval, execOp_xop]
    exact hr w' hw'
  · rw [hT']
    exact h T' hF

def AllI (f : Nat → Prop) : List Nat → Prop
  | [] => True
  | i :: r => f i ∧ AllI f r
theorem AllI.mem {f : Nat → Prop} : ∀ {l : List Nat}, AllI f l → ∀ i ∈ l, f i
  | _ :: _, h, _, hi => by
    rcases List.mem_cons.1 hi with rfl | hi
    · exact h.1
    · exact AllI.mem h.2 _ hi

theorem Wh.br (rs : List Nat) {f : Nat} {listed : Array Bool} (hr : Region.ready .any ops listed = rs) (hne : rs ≠ [])
    (h : AllI (fun i => ∃ o, ops[i]? = some o ∧ Wx P n ops false [o] (fun σ' w' => Ext w0 w' ∧ Wh P n ops w0 f (listed.setIfInBounds i true) k σ' w') σ w) rs) : Wh P n ops w0 (f + 1) listed k σ w := by
  intro T hT
  refine wpAnyH_all hr hne fun i hi => ?_
  obtain ⟨o, ho, h⟩ := h.mem i hi
  have h2 : wpList P ops (post n (fun σ' w' => Ext w0 w' ∧ Wh P n ops w0 f (listed.setIfInBounds i true) k σ' w') (fun _ _ => False) []) [o] ⟨T, []⟩ w := h T hT
  have key : ∀ a' w', post n (fun σ' w' => Ext w0 w' ∧ Wh P n ops w0 f (listed.setIfInBounds i true) k σ' w') (fun _ _ => False) [] .normal a' w' →
      (fun a' w' => Ext w0 w' ∧ wpAnyH P .any ops (post n k (fun _ _ => False) []) (Ext w0) f (listed.setIfInBounds i true) a' w') a' w' := by
    intro a' w' ⟨g1, g2, g3, g4⟩
    refine ⟨g3, ?_⟩
    have := g4 a'.tmps (AtF.self g1)
    cases a'
    simp only at g2
    subst g2
    exact this
  unfold wpOp
  simp only [ho]
  unfold wpList at h2
  split
  · rename_i hw
    rw [if_pos hw] at h2
    rcases h2 with h2 | h2
    · refine .inl ?_
      unfold Oper.wp at h2 ⊢
      generalize (execOp (Act.eval ⟨T, []⟩) o).run P w = r at h2 ⊢
      cases r with
      | ok nx w' =>
        cases nx <;> simp only [Oper.upon] at h2 ⊢
        case value u => exact key _ _ h2
        case skip => exact key _ _ h2
        case defer d => exact key _ _ h2
        case enter f args =>
          refine Calls.mono h2 fun e w'' he => ?_
          cases e with
          | returned u => exact key _ _ he
          | panicked c => exact he
          | outgrown => exact he
        case row row args => exact Rows.mono h2 fun u w'' he => key _ _ he
      | halt x w' =>
        cases x <;> simp only [Oper.upon] at h2 ⊢
        case panic u => exact h2
    · exact .inr h2
  · rename_i hw
    rw [if_neg hw] at h2
    exact key _ _ h2

theorem Wh.done {f : Nat} {listed : Array Bool} (hr : Region.ready .any ops listed = []) (h : k σ w) : Wh P n ops w0 f listed k σ w :=
  fun T hT => wpAnyH_done hr ⟨hT.1, rfl, by rw [hT.fun_eq]; exact h⟩ f

theorem Wh.ex (i : Nat) {f : Nat} {listed : Array Bool} {d : Tmp} {op : Op} {ty : TypeId} {pos : String} {af : Array Edge} {A : Value → Prop} {l : List (Nat × Value)} {σ0 : Fr}
    (hi : ops[i]? = some ⟨some d, op, ty, pos, af, none⟩) (hB : (Region.noSelect ops && Region.free .any ops listed i && (Region.ready .any ops listed).contains i) = true)
    (hw : Ext w0 w) (hr : ∃ v, Rd P (look l σ0) op ty w0 v ∧ A v) (hd : Nat.ble (d + 1) n = true)
    (h : ∀ v, A v → Wh P n ops w0 f (listed.setIfInBounds i true) k (look ((d, v) :: l) σ0) w) : Wh P n ops w0 (f + 1) listed k (look l σ0) w := by
  obtain ⟨v, h1, h2⟩ := hr
  exact Wh.rd i hi hB hw h1 hd (h v h2)

theorem St.merge {O : List (Option Nat)} {obs obsR : List Ob} {w1 w2 : World} (h0 : St w0 O w1 obs) (h : St w1 (fb obs O) w2 obsR) : St w0 O w2 (obsR ++ obs) := by
  have hM : Mv (fb obsR (fb obs O)) (fb (obsR ++ obs) O) w2 w2 := .less fun b hb => by
    simp only [fb, List.map_append, List.append_assoc] at hb ⊢
    exact hb
  have hM2 : Mv (fb obs O) (fb (obsR ++ obs) O) w1 w2 := h.mv0.trans hM
  refine ⟨Ext.trans h0.bel h.bel, h0.olt, fun ob ho => ?_, List.pairwise_append.2 ⟨h.sep, h0.sep, fun a ha b hb => ?_⟩⟩
  · rcases List.mem_append.1 ho with ho | ho
    · have h1 := Ob.ok_ext (h.ok ob ho) (Ext.refl _) hM
      cases ob with
      | box g e cs => exact ⟨Nat.le_trans h0.bel.size h1.1, h1.2⟩
      | row t e v ys => obtain ⟨cs, h1, h2⟩ := h1; exact ⟨cs, h1.mono h0.bel.size, h2⟩
      | raw g o => exact ⟨Nat.le_trans h0.bel.size h1.1, h1.2⟩
      | imm S m => exact h1
    · exact Ob.ok_ext (h0.ok ob ho) h.bel hM2
  · cases hq : a.blk with
    | none => exact .inl rfl
    | some x =>
      right
      intro he
      have h1 := (Ob.ok_lt (h.ok a ha) hq).1
      have h2 := (Ob.ok_lt (h0.ok b hb) he.symm).2
      omega

/-! The same where what was there may be written: then only what yields its value in whatever world is taken first. -/
def Wp (P : Program) (n : Nat) (ops : Array Oper) (fuel : Nat) (listed : Array Bool) (k : Cont) (σ : Fr) (w : World) : Prop :=
  ∀ T, AtF n σ T → wpAnyH P .any ops (post n k (fun _ _ => False) []) (fun _ => True) fuel listed ⟨T, []⟩ w

theorem W.regP {id : Nat} {l : List Oper} (hm : P.follows .mixedOrders = true) (h : ∀ w', Ext w w' → Wp P n l.toArray l.length (Array.replicate l.length false) kn σ w') (hd : noDefer l = true := by rfl) : W P n (.region id l.toArray true) kn kr ke σ w := by
  refine W.ofAny hm hd fun T hT => ?_
  have h2 := h _ (ext_drawn w) T hT
  exact wpAny_of_held (S := fun _ => True) _ _ _ _ (by simpa using h2)

theorem Wp.rd (i : Nat) {f : Nat} {listed : Array Bool} {d : Tmp} {op : Op} {ty : TypeId} {pos : String} {af : Array Edge} {v : Value} {l : List (Nat × Value)} {σ0 : Fr}
    (hi : ops[i]? = some ⟨some d, op, ty, pos, af, none⟩) (hB : (Region.noSelect ops && Region.free .any ops listed i && (Region.ready .any ops listed).contains i) = true)
    (hr : ∀ w', Rd P (look l σ0) op ty w' v) (hd : Nat.ble (d + 1) n = true) (h : Wp P n ops f (listed.setIfInBounds i true) k (look ((d, v) :: l) σ0) w) : Wp P n ops (f + 1) listed k (look l σ0) w := by
  intro T hT
  simp only [Bool.and_eq_true] at hB
  obtain ⟨T', hT', hF⟩ := hT.put (some d) v hd []
  rw [look_cons] at h
  refine wpAnyH_take (v := v) hi hB.1.1 hB.1.2 hB.2 (fun c a w h => h.elim) (.inl ⟨rfl, fun w' hw' => ?_⟩) trivial ?_
  · rw [hT.eval, execOp_xop]
    exact hr w' w' (Ext.refl _)
  · rw [hT']
    exact h T' hF

theorem Wp.br (rs : List Nat) {f : Nat} {listed : Array Bool} (hr : Region.ready .any ops listed = rs) (hne : rs ≠ [])
    (h : AllI (fun i => ∃ o, ops[i]? = some o ∧ Wx P n ops false [o] (fun σ' w' => Wp P n ops f (listed.setIfInBounds i true) k σ' w') σ w) rs) : Wp P n ops (f + 1) listed k σ w := by
  intro T hT
  refine wpAnyH_all hr hne fun i hi => ?_
  obtain ⟨o, ho, h⟩ := h.mem i hi
  have h2 : wpList P ops (post n (fun σ' w' => Wp P n ops f (listed.setIfInBounds i true) k σ' w') (fun _ _ => False) []) [o] ⟨T, []⟩ w := h T hT
  have key : ∀ a' w', post n (fun σ' w' => Wp P n ops f (listed.setIfInBounds i true) k σ' w') (fun _ _ => False) [] .normal a' w' →
      (fun a' w' => True ∧ wpAnyH P .any ops (post n k (fun _ _ => False) []) (fun _ => True) f (listed.setIfInBounds i true) a' w') a' w' := by
    intro a' w' ⟨g1, g2, g4⟩
    refine ⟨trivial, ?_⟩
    have := g4 a'.tmps (AtF.self g1)
    cases a'
    simp only at g2
    subst g2
    exact this
  unfold wpOp
  simp only [ho]
  unfold wpList at h2
  split
  · rename_i hw
    rw [if_pos hw] at h2
    rcases h2 with h2 | h2
    · refine .inl ?_
      unfold Oper.wp at h2 ⊢
      generalize (execOp (Act.eval ⟨T, []⟩) o).run P w = r at h2 ⊢
      cases r with
      | ok nx w' =>
        cases nx <;> simp only [Oper.upon] at h2 ⊢
        case value u => exact key _ _ h2
        case skip => exact key _ _ h2
        case defer d => exact key _ _ h2
        case enter f args =>
          refine Calls.mono h2 fun e w'' he => ?_
          cases e with
          | returned u => exact key _ _ he
          | panicked c => exact he
          | outgrown => exact he
        case row row args => exact Rows.mono h2 fun u w'' he => key _ _ he
      | halt x w' =>
        cases x <;> simp only [Oper.upon] at h2 ⊢
        case panic u => exact h2
    · exact .inr h2
  · rename_i hw
    rw [if_neg hw] at h2
    exact key _ _ h2

theorem Wp.done {f : Nat} {listed : Array Bool} (hr : Region.ready .any ops listed = []) (h : k σ w) : Wp P n ops f listed k σ w :=
  fun T hT => wpAnyH_done hr ⟨hT.1, rfl, by rw [hT.fun_eq]; exact h⟩ f
end

/-! ### copy, into a slice of the call's own -/
section
variable {P : Program} {n : Nat} {w w0 : World} {O : List (Option Nat)} {obs : List Ob} {ops : Array Oper} {rest : List Oper} {k : Cont} {d : Tmp} {ty : TypeId} {pos : String} {af : Array Edge}
  {l : List (Nat × Value)} {σ0 σ : Fr} {T T' : TypeId} {x y z lo hi : Operand}

theorem rd_tailR {α : Type} {t : Ty α} {et : TypeId} {v : Value} {ys : List α} {e : TypeId} {m : Int} {kk : IntKind} (hS : St w0 O w obs) (i : Nat) (hi : obs[i]? = some (.row t et v ys)) (hu : P.underlying T = some (.slice e))
    (hsz : ∀ w', (sizeOf e).run P w' = .ok t.n w') (hx : ev σ z = v) (hl : ev σ lo = .int kk m) (h0 : 0 ≤ m) (h1 : m < ys.length) :
    ∃ g c, v.ownBlock = some g ∧ ∀ w', Rd P σ (.slice T z (some lo) none none) ty w' (.slice (some ⟨g, m.toNat * t.n, none⟩) (ys.length - m.toNat) c) := by
  obtain ⟨cs, hr, hR⟩ := hS.get i hi
  rcases hr.2 with ⟨rfl, hn⟩ | ⟨g, cap, cur, rfl, q1, q2, q3, q4, q5, q6⟩
  · omega
  · refine ⟨g, cap - m.toNat, rfl, fun w1 => Rd.of fun w' => ?_⟩
    simp only [xop, execOp, hx, Option.map_some, Option.map_none, hl, Sem.run_bind, run_sliceV hu hsz (bounds_l (P := P) (len := ys.length) (cap := cap) h0 (by omega))]
    have : ¬ cap = m.toNat := by omega
    simp [sliced, this, Addr.add_lit]

theorem rd_headR {α : Type} {t : Ty α} {et : TypeId} {v : Value} {ys : List α} {e : TypeId} {m : Int} {kk : IntKind} (hS : St w0 O w obs) (i : Nat) (hi : obs[i]? = some (.row t et v ys)) (hu : P.underlying T = some (.slice e))
    (hsz : ∀ w', (sizeOf e).run P w' = .ok t.n w') (hx : ev σ z = v) (hl : ev σ lo = .int kk m) (h0 : 0 < m) (h1 : m ≤ ys.length) :
    ∃ g c, v.ownBlock = some g ∧ ∀ w', Rd P σ (.slice T z none (some lo) none) ty w' (.slice (some ⟨g, 0, none⟩) m.toNat c) := by
  obtain ⟨cs, hr, hR⟩ := hS.get i hi
  rcases hr.2 with ⟨rfl, hn⟩ | ⟨g, cap, cur, rfl, q1, q2, q3, q4, q5, q6⟩
  · omega
  · refine ⟨g, cap, rfl, fun w1 => Rd.of fun w' => ?_⟩
    simp only [xop, execOp, hx, Option.map_some, Option.map_none, hl, Sem.run_bind, run_sliceV hu hsz (bounds_h (P := P) (by omega : 0 ≤ m) (by omega : m ≤ (cap : Int)))]
    have : ¬ cap = 0 := by omega
    simp [sliced, this, Addr.add_lit]

theorem Src.headR {α : Type} {t : Ty α} {e : TypeId} {zs : List α} {u : Value} {g m c : Nat} (hS : St w0 O w obs) (j : Nat) (hj : obs[j]? = some (.row t e u zs)) (hg : u.ownBlock = some g) (hm : m ≤ zs.length) :
    Src t (zs.take m) (.slice (some ⟨g, 0, none⟩) m c) (fb obs O) w := by
  obtain ⟨cs, hr, hR⟩ := hS.get j hj
  obtain ⟨ds, g1, g2, g3⟩ := flat_cells (zs.take m) 0 (fun i z hz => by
    rw [List.getElem?_take] at hz
    split at hz
    · exact row_els hr hR (Mv.refl _ _) hg i z hz
    · cases hz)
  refine ⟨_, c, ds, by rw [List.length_take, Nat.min_eq_left hm], g1, g2, fun _ => ⟨_, rfl⟩, fun ad had j q hq => ?_⟩
  injection had with had
  subst had
  rw [Addr.add_lit]
  exact g3 j q hq

theorem Reps.splice {α : Type} {t : Ty α} {F : List (Option Nat)} {W : World} {ys zs : List α} {cs ds : List Value} {p dl : Nat} (hn : t.n = 1) (h : Reps t F W ys cs) (hd : Reps t F W zs ds) (hp : p + min zs.length dl ≤ ys.length) :
    Reps t F W (ys.take p ++ zs.take dl ++ ys.drop (p + min zs.length dl)) (cs.take p ++ ds.take dl ++ cs.drop (p + min zs.length dl)) := by
  have hcl : cs.length = ys.length := by have := h.1; rw [hn, Nat.mul_one] at this; exact this
  have hdl : ds.length = zs.length := by have := hd.1; rw [hn, Nat.mul_one] at this; exact this
  have b1 : ∀ (j : Nat) q, ys[j]? = some q → t.rep F W q ((cs.drop j).take 1) := fun j q hq => by have := h.2 j q hq; rwa [hn, Nat.mul_one] at this
  have b2 : ∀ (j : Nat) q, zs[j]? = some q → t.rep F W q ((ds.drop j).take 1) := fun j q hq => by have := hd.2 j q hq; rwa [hn, Nat.mul_one] at this
  have a1 : ∀ (asx : List α) (bs : List Value), (∀ (j : Nat) q, asx[j]? = some q → t.rep F W q ((bs.drop j).take 1)) → ∀ (j m : Nat) q, (asx.take m)[j]? = some q → t.rep F W q (((bs.take m).drop j).take 1) := by
    intro asx bs hab j m q hq
    rw [List.getElem?_take] at hq
    split at hq
    · rename_i hlt
      rw [List.drop_take, List.take_take, Nat.min_eq_left (show 1 ≤ m - j by omega)]
      exact hab j q hq
    · cases hq
  have e1 : (ys.take p).length = p := by rw [List.length_take]; omega
  have e2 : (cs.take p).length = p := by rw [List.length_take]; omega
  have e3 : (zs.take dl).length = min zs.length dl := by rw [List.length_take, Nat.min_comm]
  have e4 : (ds.take dl).length = min zs.length dl := by rw [List.length_take, hdl, Nat.min_comm]
  refine ⟨by rw [hn]; simp only [List.length_append, List.length_drop, e1, e2, e3, e4, hcl]; omega, fun j q hq => ?_⟩
  rw [hn, Nat.mul_one, List.append_assoc]
  rw [List.append_assoc, List.getElem?_append] at hq
  split at hq
  · rename_i hj
    rw [e1] at hj
    rw [List.drop_append_of_le_length (by omega), List.take_append_of_le_length (by rw [List.length_drop]; omega)]
    exact a1 ys cs b1 j p q hq
  · rename_i hj
    rw [e1] at hj hq
    rw [show j = (cs.take p).length + (j - p) by omega, ← List.drop_drop, List.drop_left]
    rw [List.getElem?_append] at hq
    split at hq
    · rename_i hj2
      rw [e3] at hj2
      rw [List.drop_append_of_le_length (by omega), List.take_append_of_le_length (by rw [List.length_drop]; omega)]
      exact a1 zs ds b2 (j - p) dl q hq
    · rename_i hj2
      rw [e3] at hj2 hq
      rw [show j - p = (ds.take dl).length + (j - p - min zs.length dl) by omega, ← List.drop_drop, List.drop_left, List.drop_drop]
      rw [List.getElem?_drop] at hq
      exact b1 _ q hq

theorem List.set_getElem?_self' {α : Type 1} {l : List α} {i : Nat} {a : α} (h : l[i]? = some a) : l.set i a = l := by
  obtain ⟨hl, he⟩ := List.getElem?_eq_some_iff.1 h
  rw [← he]; exact List.set_getElem_self hl
theorem Wx.copyR {α : Type} {t : Ty α} {e elem : TypeId} {v u : Value} {ys zs : List α} {g p dl dc : Nat} (hn : t.n = 1) (hu : P.underlying T = some (.slice elem)) (hsz : ∀ w', (sizeOf elem).run P w' = .ok 1 w') (hS : St w0 O w obs) (i : Nat)
    (hi : obs[i]? = some (.row t e v ys)) (hg : v.ownBlock = some g) (hx : ev (look l σ0) x = .slice (some ⟨g, p, none⟩) dl dc) (hp : p + dl ≤ ys.length) (hy : ev (look l σ0) y = u) (hs : Src t zs u (fb obs O) w)
    (hd : Nat.ble (d + 1) n = true) {c : Int} {yn : List α} (hc : ((min zs.length dl : Nat) : Int) = c) (hyn : ys.take p ++ zs.take dl ++ ys.drop (p + min zs.length dl) = yn)
    (h : ∀ w', w.heap.size ≤ w'.heap.size → St w0 O w' (obs.set i (.row t e v yn)) → Wx P n ops false rest k (look ((d, .int .i64 c) :: l) σ0) w') :
    Wx P n ops false (⟨some d, .call { callee := .builtin .copy, args := #[x, y], argTypes := #[T, T'] }, ty, pos, af, none⟩ :: rest) k (look l σ0) w := by
  subst hc hyn
  obtain ⟨cs, hr, hR⟩ := hS.get i hi
  obtain ⟨a, c, ds, rfl, g1, g2, g3, g4⟩ := hs
  by_cases hne : zs = []
  · subst hne
    have hrun : (Builtin.copy_ #[T, T'] ty #[.slice (some ⟨g, p, none⟩) dl dc, .slice a 0 c]).run P w = .ok (goInt 0) w := by
      have hinf : ∃ i, P.info? elem = some i ∧ i.size = 1 := by
        have := hsz w
        simp only [sizeOf, typeInfo] at this
        cases hq : P.info? elem with
        | none => simp [hq] at this
        | some i => simp [hq] at this; exact ⟨i, rfl, by simp [this]⟩
      obtain ⟨i, hq, hi⟩ := hinf
      cases a <;> simp [Builtin.copy_, run_underlying hu, Builtin.lenOf, Builtin.firstCells, sizeOf, typeInfo, hq, loadCells, loadCellsFrom, storeCells]
    refine Wx.val (v := .int .i64 ((min 0 dl : Nat) : Int)) (w' := w) ?_ hd (h _ (Nat.le_refl _) ?_)
    · simp [xop, execOp, resolve, invoke, builtin, hx, hy, hrun, goInt]
    · have : ys = List.take p ys ++ List.take dl [] ++ List.drop (p + min ([] : List α).length dl) ys := by simp
      rw [← this, List.set_getElem?_self' hi]; exact hS
  obtain ⟨ad, rfl⟩ := g3 hne
  have hdl : ds.length = zs.length := by have := g1.1; rw [hn, Nat.mul_one] at this; exact this
  have hcl : cs.length = ys.length := by have := hR.1; rw [hn, Nat.mul_one] at this; exact this
  rcases hr.2 with ⟨rfl, _⟩ | ⟨g', cap, cur, rfl, h1, h2, h3, h4, h5, h6⟩
  · simp [Value.ownBlock] at hg
  · have hgg : g' = g := by simpa [Value.ownBlock] using hg
    subst hgg
    rw [hn] at h5 h6
    simp only [Nat.mul_one] at h5 h6
    have htl : (ds.take dl).length = min zs.length dl := by rw [List.length_take, hdl, Nat.min_comm]
    have hmin : min zs.length dl ≤ dl := Nat.min_le_right _ _
    have hinf : (P.info? elem).map (·.size) = some 1 := by
      have := hsz w
      simp only [sizeOf, typeInfo] at this
      cases hq : P.info? elem with
      | none => simp [hq] at this
      | some i => simp [hq] at this; simp [this]
    have hrun := run_copy_row (P := P) w T T' ty elem g' p dl dc ad zs.length c cur e (ds.take dl) hu hinf h2 htl (fun j q hq => by
      rw [List.getElem?_take] at hq
      split at hq
      · exact g4 ad rfl j q hq
      · cases hq) (by rw [htl]; omega) (fun q hq => g2 q (List.mem_of_mem_take hq))
    rw [htl] at hrun
    refine Wx.val (v := .int .i64 (min zs.length dl : Nat)) (w' := w.setRow g' (cur.toList.take p ++ ds.take dl ++ cur.toList.drop (p + min zs.length dl)).toArray) ?_ hd (h _ (by simp) ?_)
    · simp [xop, execOp, resolve, invoke, builtin, hx, hy, hrun, goInt]
    · have hcurl : cur.toList.length = cap := by simpa using h5
      refine hS.turn i hi rfl rfl rfl (by simp) (fun b _ hb' => setRow_other w g' b _ (fun hq => hb' (by rw [hq]; rfl))) (fun b hb' => .inl hb') (fun b hb' => by simpa using (Ob.ok_lt (hS.get i hi) hb').2) (fun F hM => ?_)
      have hlen : (ys.take p ++ zs.take dl ++ ys.drop (p + min zs.length dl)).length = ys.length := by simp; omega
      refine ⟨cs.take p ++ ds.take dl ++ cs.drop (p + min zs.length dl), ?_, ?_⟩
      · refine ⟨by simp [hn]; omega, .inr ⟨g', cap, _, by rw [hlen], h1, setRow_heap w g' cur _ e _ h2, by rw [hlen]; exact h3, h4, by simp [hn]; omega, ?_⟩⟩
        rw [hlen, hn, Nat.mul_one, ← h6]
        have := take_splice cur.toList (ds.take dl) p ys.length (by rw [htl]; omega) (by omega)
        rw [htl] at this
        exact this
      · exact Reps.splice hn (hR.mv hM) (g1.mv hM) (by omega)

theorem Wx.copyW {α : Type} {t : Ty α} {e elem : TypeId} {v u : Value} {ys zs : List α} (hn : t.n = 1) (hu : P.underlying T = some (.slice elem)) (hsz : ∀ w', (sizeOf elem).run P w' = .ok 1 w') (hS : St w0 O w obs) (i : Nat)
    (hi : obs[i]? = some (.row t e v ys)) (hx : ev (look l σ0) x = v) (hy0 : 0 < ys.length) (hy : ev (look l σ0) y = u) (hs : Src t zs u (fb obs O) w) (hd : Nat.ble (d + 1) n = true) {c : Int} {yn : List α} (hc : ((min zs.length ys.length : Nat) : Int) = c) (hyn : zs.take ys.length ++ ys.drop (min zs.length ys.length) = yn)
    (h : ∀ w', w.heap.size ≤ w'.heap.size → St w0 O w' (obs.set i (.row t e v yn)) → Wx P n ops false rest k (look ((d, .int .i64 c) :: l) σ0) w') :
    Wx P n ops false (⟨some d, .call { callee := .builtin .copy, args := #[x, y], argTypes := #[T, T'] }, ty, pos, af, none⟩ :: rest) k (look l σ0) w := by
  obtain ⟨cs, hr, hR⟩ := hS.get i hi
  rcases hr.2 with ⟨rfl, hz⟩ | ⟨g, cap, cur, rfl, h1, h2, h3, h4, h5, h6⟩
  · omega
  · exact Wx.copyR (p := 0) (dl := ys.length) (dc := cap) hn hu hsz hS i hi rfl hx (by omega) hy hs hd hc (by simpa using hyn) h

theorem Wp.ex2 (i : Nat) {f : Nat} {listed : Array Bool} {op : Op} {v : Value} {u : Nat → Nat → Value}
    (hi : ops[i]? = some ⟨some d, op, ty, pos, af, none⟩) (hB : (Region.noSelect ops && Region.free .any ops listed i && (Region.ready .any ops listed).contains i) = true)
    (hr : ∃ g c, v.ownBlock = some g ∧ ∀ w', Rd P (look l σ0) op ty w' (u g c)) (hd : Nat.ble (d + 1) n = true)
    (h : ∀ g c, v.ownBlock = some g → Wp P n ops f (listed.setIfInBounds i true) k (look ((d, u g c) :: l) σ0) w) : Wp P n ops (f + 1) listed k (look l σ0) w := by
  obtain ⟨g, c, h1, h2⟩ := hr
  exact Wp.rd i hi hB h2 hd (h g c h1)

theorem St.spell {α : Type} {t : Ty α} {e : TypeId} {v : Value} {ys ys' : List α} (hS : St w0 O w obs) (i : Nat) (hi : obs[i]? = some (.row t e v ys)) (h : ys = ys') : St w0 O w (obs.set i (.row t e v ys')) := by
  subst h
  have : obs.set i (.row t e v ys) = obs := by
    obtain ⟨hl, he⟩ := List.getElem?_eq_some_iff.1 hi
    rw [← he]; exact List.set_getElem_self hl
  rw [this]; exact hS

theorem V.tlF {α : Type} {t : Ty α} {x : α} {v : Value} {a : Ob} {W : World} (h : V t x v (fb (a :: obs) O) W) : V t x v (fb obs O) W :=
  h.mv (.less fun b hb => by
    rcases List.mem_append.1 hb with hb | hb
    · exact List.mem_append.2 (.inl (List.mem_cons_of_mem _ hb))
    · exact List.mem_append.2 (.inr hb))
theorem V.upF {α β : Type} {t : Ty α} {x : α} {v : Value} {u : Ty β} {y : β} {z : Value} {W : World} (h : V t x v (fb obs O) W) : V t x v (fb (Ob.v u y z :: obs) O) W :=
  h.mv (.less fun b hb => by
    rcases List.mem_append.1 hb with hb | hb
    · rcases List.mem_cons.1 hb with hb | hb
      · simp [Ob.blk] at hb
      · exact List.mem_append.2 (.inl hb)
    · exact List.mem_append.2 (.inr hb))
theorem fill_cells (f : Nat → Option (Nat × Nat)) : ∀ (vs us : List (Nat × Value)) (z : Array Value), vs.map (fun p => (p.1, Value.agg p.2.cells)) = us → Instr.fill f z vs = Instr.fill f z us
  | [], _, _, h => by subst h; rfl
  | (i, v) :: vs, _, z, h => by
    subst h
    simp only [List.map_cons, Instr.fill]
    cases f i with
    | none => rfl
    | some p =>
      obtain ⟨off, size⟩ := p
      have e : ∀ c : Array Value, (Value.agg c).cells = c := fun _ => rfl
      simp only [e]
      split
      · rfl
      · exact fill_cells f vs _ _ rfl
theorem built_cells {t : TypeId} {vs us : List (Nat × Value)} (h : vs.map (fun p => (p.1, Value.agg p.2.cells)) = us) : P.built t vs = P.built t us := by
  unfold Program.built
  simp only [fill_cells _ vs us _ h]
theorem parts_nil : ([] : List (Nat × Value)).map (fun p => (p.1, Value.agg p.2.cells)) = [] := rfl
theorem parts_cons {i : Nat} {v : Value} {c : Array Value} {vs us : List (Nat × Value)} (h : v.cells = c) (hs : vs.map (fun p => (p.1, Value.agg p.2.cells)) = us) : ((i, v) :: vs).map (fun p => (p.1, Value.agg p.2.cells)) = (i, .agg c) :: us := by rw [List.map_cons, hs, h]
theorem rd_buildC {t : TypeId} {σ : Fr} {ty : TypeId} {ps : List (Nat × Operand)} {vs us : List (Nat × Value)} {cs : Array Value} (hp : ps.map (fun p => (p.1, ev σ p.2)) = vs) (hv : vs.map (fun p => (p.1, Value.agg p.2.cells)) = us) (hb : P.built t us = some cs) : Rd P σ (.build t ps.toArray) ty w (.agg cs) :=
  rd_build hp ((built_cells hv).trans hb)
end
end Go.Wk

namespace Go.Wk
open Go.RowKit

section
variable {P : Program} {n : Nat} {w w0 w' : World} {O : List (Option Nat)} {obs : List Ob} {ops : Array Oper} {rest : List Oper} {k : Cont} {ty : TypeId} {pos : String} {af : Array Edge}
  {l : List (Nat × Value)} {σ0 : Fr}

theorem Wx.callB {d : Tmp} {c : Call} {f : FuncId} {args : Array Value} {Q : Value → World → Prop}
    (hrun : ∀ w', (xop (ev (look l σ0)) (.call c) ty).run P w' = .ok (.enter f args) w') (hc : Calls P f args w (Bk Q)) (hd : Nat.ble (d + 1) n = true)
    (h : ∀ r w', Q r w' → Wx P n ops false rest k (look ((d, r) :: l) σ0) w') : Wx P n ops false (⟨some d, .call c, ty, pos, af, none⟩ :: rest) k (look l σ0) w :=
  Wo.callB (hrun w) hc hd fun r w' hq => by
    have := h r w' hq
    rw [look_cons] at this
    exact this
theorem fb_perm {obs' : List Ob} (h : obs'.Perm obs) (x : Option Nat) : x ∈ fb obs' O ↔ x ∈ fb obs O := by
  simp only [fb, List.mem_append]
  rw [(h.map Ob.blk).mem_iff]

theorem St.perm {obs' : List Ob} (h : St w0 O w obs) (hp : obs'.Perm obs) : St w0 O w obs' := by
  have hM : Mv (fb obs O) (fb obs' O) w w := .less fun _ hb => (fb_perm hp _).1 hb
  refine ⟨h.bel, h.olt, fun ob ho => Ob.ok_ext (h.ok ob (hp.mem_iff.1 ho)) (Ext.refl _) hM, h.sep.perm hp.symm ?_⟩
  intro a b hab
  rcases hab with hab | hab
  · cases hb : b.blk with
    | none => exact .inl rfl
    | some x => exact .inr (by rw [hab]; simp)
  · exact .inr (fun e => hab e.symm)

theorem St.pull {A R pre : List Ob} (h : St w0 O w (pre ++ (A ++ R))) : St w0 O w (A ++ (pre ++ R)) :=
  h.perm (by rw [← List.append_assoc, ← List.append_assoc]; exact List.perm_append_comm.append_right R)
theorem erase_perm {α : Type 1} : ∀ (l : List α) (i : Nat) (a : α), l[i]? = some a → (a :: l.eraseIdx i).Perm l
  | [], i, a, h => by simp at h
  | x :: l, 0, a, h => by
    simp only [List.getElem?_cons_zero, Option.some.injEq] at h
    subst h; exact List.Perm.refl _
  | x :: l, i + 1, a, h => by
    simp only [List.getElem?_cons_succ] at h
    rw [List.eraseIdx_cons_succ]
    exact (List.Perm.swap x a _).trans ((erase_perm l i a h).cons x)
theorem St.front {a : Ob} (h : St w0 O w obs) (i : Nat) (hi : obs[i]? = some a) : St w0 O w (a :: obs.eraseIdx i) := by
  exact h.perm (erase_perm obs i a hi)
end
end Go.Wk

namespace Go.Wk
open Go.RowKit

section
variable {P : Program} {n : Nat} {w w0 : World} {O : List (Option Nat)} {obs : List Ob} {ty : TypeId} {σ : Fr} {T T' : TypeId} {x y z : Operand}

theorem rd_sliceArrH {g o m : Nat} {e : TypeId} {sz : Nat} {h : Int} {k : IntKind} (hu : P.underlying T = some (.array m e)) (hsz : ∀ w', (sizeOf e).run P w' = .ok sz w') (hx : ev σ x = .pointer (some ⟨g, o, none⟩)) (hh : ev σ y = .int k h) (h0 : 0 ≤ h) (h1 : h ≤ m) :
    Rd P σ (.slice T x none (some y) none) ty w (.slice (some ⟨g, o, none⟩) h.toNat m) :=
  Rd.of fun w' => by
    have hr : (Instr.sliceAt T (.pointer (some ⟨g, o, none⟩)) none (some (.int k h)) none).run P w' = .ok (.slice (some ⟨g, o, none⟩) h.toNat m) w' := by
      simp [Instr.sliceAt, Instr.sureAddr, run_underlying hu, Instr.sliceBounds, run_sliceBound, h0, h1, hsz, Addr.add]
    simp only [xop, execOp, hx, hh, Option.map_some, Option.map_none, Sem.run_bind, hr]
    rfl

theorem take_map_take {α β : Type} (f : α → β) (l : List α) (m : Nat) : (l.map f).take (l.take m).length = (l.take m).map f := by
  rw [List.map_take, List.length_take]
  rcases Nat.le_total m l.length with h | h
  · rw [Nat.min_eq_left h]
  · rw [Nat.min_eq_right h, List.take_of_length_le (by simp), List.take_of_length_le (by simpa using h)]
theorem St.sliceBox {g o : Nat} {e : TypeId} {cs : List Value} {k : IntKind} {xs : List Int} {cap m : Nat} (h : St w0 O w obs) (i : Nat) (hi : obs[i]? = some (.box g e cs)) (hc : (cs.drop o).take xs.length = xs.map (Value.int k)) (hin : ∀ x ∈ xs, InK k x)
    (hlen : xs.length = m) (h1 : m ≤ cap) (h2 : cap ≤ maxLen) : St w0 O w (Ob.v (tSl (tI k)) xs (.slice (some ⟨g, o, none⟩) m cap) :: obs.eraseIdx i) := by
  subst hlen
  have hb := h.get i hi
  have hs : St w0 O w (obs.eraseIdx i) := h.drop i
  refine hs.add (V.of_form h1 h2 fun hne => ⟨g, o, rfl, ?_, (Array.getElem?_eq_some_iff.1 hb.2).1, fun j x hj => ⟨[.int k x], ⟨rfl, hin x (List.mem_of_getElem? hj)⟩, fun q u hq => ?_⟩⟩)
  · intro hm
    rcases List.mem_append.1 hm with hm | hm
    · obtain ⟨ob, ho, he⟩ := List.mem_map.1 hm
      have hp := h.front i hi
      have hsep := (List.pairwise_cons.1 hp.sep).1 ob ho
      rcases hsep with hsep | hsep
      · cases hsep
      · exact hsep he.symm
    · have := h.olt g hm
      have hbb := hb.1
      omega
  · cases q with
    | succ q => simp at hq
    | zero =>
      simp only [List.getElem?_cons_zero, Option.some.injEq] at hq
      subst hq
      have hx : ((cs.drop o).take xs.length)[j]? = some (.int k x) := by rw [hc, List.getElem?_map, hj]; rfl
      rw [List.getElem?_take] at hx
      split at hx
      · rw [List.getElem?_drop] at hx
        have : (tI k).n = 1 := rfl
        rw [this, Nat.mul_one, Nat.add_zero]
        simp only [World.cell?, hb.2]
        simpa using hx
      · cases hx

theorem rd_eqlNilV {α : Type} {t : Ty α} {e : TypeId} {v : Value} {xs : List α} {F : List (Option Nat)} {W : World} (hv : V (tSl t) xs v F W) (hx : ev σ x = v) (hy : ev σ y = .slice none 0 0) (hu : P.underlying T = some (.slice e)) :
    ∃ u, Rd P σ (.binOp .eql T x y T') ty w u ∧ ∃ b, u = .bool b ∧ (b = true → xs = []) := by
  obtain ⟨a, cap, rfl, h1, h2, h3⟩ := hv.form
  refine ⟨.bool a.isNone, Rd.of fun w' => ?_, _, rfl, fun hb => ?_⟩
  · have hq := Lib.run_eql_slice_nil (P := P) w' T e a xs.length cap 0 0 hu
    simp [xop, execOp, hx, hy, eqGuard_at_slice, hq]
  · by_cases hne : xs = []
    · exact hne
    · obtain ⟨b, o, rfl, _⟩ := h3 hne
      cases hb
end
end Go.Wk

namespace Go.Wk
open Go.RowKit

section
variable {P : Program} {n : Nat} {w w0 : World} {O : List (Option Nat)} {obs : List Ob} {ty : TypeId} {σ : Fr} {T T' : TypeId} {x y z : Operand}

theorem map_ix {α : Type} {d : α} (f : α → Value) {xs : List α} {j : Int} (h0 : 0 ≤ j) (h1 : j < xs.length) : (xs.map f)[j.toNat]? = some (f (ix d xs j)) := by
  rw [List.getElem?_map, ix_get (d := d) h1 h0]; rfl
theorem rd_indexVi {s e : TypeId} {len : Nat} {cs : Array Value} {α : Type} {d : α} {f : α → Value} {xs : List α} {j : Int} {k : IntKind} (hx : ev σ x = .agg cs) (hi : ev σ y = .int k j) (hu : P.underlying s = some (.array len e)) (hsz : ∀ w', (sizeOf e).run P w' = .ok 1 w')
    (hag : ∀ w', (isAgg e).run P w' = .ok false w') (hc : cs = (xs.map f).toArray) (hl : len = xs.length) (h0 : 0 ≤ j) (h1 : j < xs.length) : Rd P σ (.index s x y) ty w (f (ix d xs j)) :=
  rd_indexV hx hi hu hsz hag h0 (by omega) (by rw [hc]; simpa using map_ix (d := d) f h0 h1)
theorem rd_neqlNilI {α : Type} {t : Ty α} {e : TypeId} {v : Value} {xs : List α} {F : List (Option Nat)} {W : World} (hv : V (tSl t) xs v F W) (hx : ev σ x = v) (hy : ev σ y = .slice none 0 0) (hu : P.underlying T = some (.slice e)) (hn : xs = [] → v = .slice none 0 0) :
    Rd P σ (.binOp .neq T x y T') ty w (.bool (!decide (xs = []))) :=
  Rd.of fun w' => by
    obtain ⟨a, cap, rfl, h1, h2, h3⟩ := hv.form
    by_cases hne : xs = []
    · subst hne
      have h4 := hn rfl
      simp only [Value.slice.injEq] at h4
      obtain ⟨rfl, h4, rfl⟩ := h4
      have hq := run_neq_slice_nil (P := P) w' T e none 0 0 hu
      simp [xop, execOp, hx, hy, eqGuard_at_slice, hq]
    · obtain ⟨b, o, rfl, _⟩ := h3 hne
      have hq := run_neq_slice_nil (P := P) w' T e (some ⟨b, o, none⟩) xs.length cap hu
      simp [xop, execOp, hx, hy, eqGuard_at_slice, hq, hne]
end
end Go.Wk

namespace Go.Wk
open Go.RowKit

section
variable {P : Program} {n : Nat} {w w0 w' : World} {O : List (Option Nat)} {obs : List Ob} {ops : Array Oper} {rest : List Oper} {k : Cont} {d : Tmp} {ty : TypeId} {pos : String} {af : Array Edge}
  {l : List (Nat × Value)} {σ0 σ : Fr} {T T' : TypeId} {x y z lo hi mx : Operand}

def FreshO {α : Type} (t : Ty α) (e : TypeId) (ys : List α) (v : Value) (O : List (Option Nat)) (base : Nat) (w : World) : Prop := ∃ cs, w.ownsRow base e t.n v ys.length cs ∧ Reps t (v.ownBlock :: O) w ys cs
theorem St.frO {α : Type} {t : Ty α} {e : TypeId} {v : Value} {ys : List α} (hS : St w0 O w obs) (i : Nat) (hi : obs[i]? = some (.row t e v ys)) : FreshO t e ys v O w0.heap.size w := by
  obtain ⟨cs, h1, h2⟩ := hS.get i hi
  refine ⟨cs, h1, h2.mv (.less fun b hb => ?_)⟩
  rcases List.mem_cons.1 hb with hb | hb
  · exact List.mem_append.2 (.inl (List.mem_map.2 ⟨_, List.mem_of_getElem? hi, hb.symm⟩))
  · exact List.mem_append.2 (.inr hb)
theorem St.pushAt (h : St w0 O w obs) (hx : Ext w w') (ob : Ob) (hb : ∀ b, ob.blk = some b → w.heap.size ≤ b) (hok : ob.ok w0.heap.size (fb (ob :: obs) O) w') : St w0 O w' (ob :: obs) := by
  have hM : Mv (fb obs O) (fb (ob :: obs) O) w w' := by
    refine ⟨hx.size, fun b hbl hO => ⟨hx.block b hbl, fun hm => ?_⟩⟩
    simp only [fb, List.map_cons, List.cons_append] at hm
    rcases List.mem_cons.1 hm with hm | hm
    · have := hb b hm.symm
      omega
    · exact hO hm
  refine ⟨Ext.trans h.bel hx, h.olt, fun o2 ho => ?_, List.Pairwise.cons (fun o2 ho => ?_) h.sep⟩
  · rcases List.mem_cons.1 ho with rfl | ho
    · exact hok
    · exact Ob.ok_ext (h.ok o2 ho) hx hM
  · cases hq : ob.blk with
    | none => exact .inl rfl
    | some b =>
      right
      intro he
      have h1 := hb b hq
      have h2 := (Ob.ok_lt (h.ok o2 ho) he.symm).2
      omega
theorem St.pushFrO {α : Type} {t : Ty α} {e : TypeId} {v : Value} {ys : List α} (hS : St w0 O w obs) (hx : Ext w w') (h : FreshO t e ys v (fb obs O) w.heap.size w') : St w0 O w' (.row t e v ys :: obs) := by
  obtain ⟨cs, h1, h2⟩ := h
  refine hS.pushAt hx _ (fun b hb => (h1.lt b hb).1) ⟨cs, ⟨h1.1, ?_⟩, h2⟩
  rcases h1.2 with hn | ⟨g, cap, cur, e1, e2, e3⟩
  · exact .inl hn
  · exact .inr ⟨g, cap, cur, e1, Nat.le_trans hS.bel.size e2, e3⟩

/-! ### in its own place -/
theorem Reps.take {α : Type} {t : Ty α} {F : List (Option Nat)} {ys : List α} {cs : List Value} (h : Reps t F w ys cs) (m : Nat) : Reps t F w (ys.take m) (cs.take (m * t.n)) := by
  refine ⟨by rw [List.length_take, List.length_take, h.1, Nat.mul_min_mul_right], fun i y hy => ?_⟩
  rw [List.getElem?_take] at hy
  split at hy
  · rename_i hlt
    have : (i + 1) * t.n ≤ m * t.n := Nat.mul_le_mul_right _ hlt
    rw [Nat.add_mul, Nat.one_mul] at this
    rw [List.drop_take, List.take_take, Nat.min_eq_left (by omega)]
    exact h.2 i y hy
  · cases hy
theorem Reps.drop {α : Type} {t : Ty α} {F : List (Option Nat)} {ys : List α} {cs : List Value} (h : Reps t F w ys cs) (m : Nat) : Reps t F w (ys.drop m) (cs.drop (m * t.n)) := by
  refine ⟨by rw [List.length_drop, List.length_drop, h.1, Nat.sub_mul], fun i y hy => ?_⟩
  rw [List.getElem?_drop] at hy
  rw [List.drop_drop, ← Nat.add_mul]
  exact h.2 _ y hy
theorem St.rowForm {α : Type} {t : Ty α} {e : TypeId} {v : Value} {ys : List α} (hS : St w0 O w obs) (i : Nat) (hi : obs[i]? = some (.row t e v ys)) (h : 0 < ys.length) : ∃ g c, v = .slice (some ⟨g, 0, none⟩) ys.length c ∧ ys.length ≤ c := by
  obtain ⟨cs, hr, hR⟩ := hS.get i hi
  rcases hr.2 with ⟨rfl, hn⟩ | ⟨g, cap, cur, rfl, q1, q2, q3, q4, q5, q6⟩
  · omega
  · exact ⟨g, cap, rfl, q3⟩

theorem rd_headO {g len c sz : Nat} {e : TypeId} {m : Int} {kk : IntKind} (hu : P.underlying T = some (.slice e)) (hsz : ∀ w', (sizeOf e).run P w' = .ok sz w') (hx : ev σ z = .slice (some ⟨g, 0, none⟩) len c) (hl : ev σ hi = .int kk m) (h0 : 0 ≤ m) (h1 : m ≤ c) :
    Rd P σ (.slice T z none (some hi) none) ty w (.slice (some ⟨g, 0, none⟩) m.toNat c) :=
  Rd.of fun w' => by
    simp only [xop, execOp, hx, Option.map_some, Option.map_none, hl, Sem.run_bind, run_sliceV hu hsz (bounds_h (P := P) h0 h1)]
    simp [sliced, Addr.add_lit]
theorem rd_tailO {g len c sz : Nat} {e : TypeId} {m : Int} {kk : IntKind} (hu : P.underlying T = some (.slice e)) (hsz : ∀ w', (sizeOf e).run P w' = .ok sz w') (hx : ev σ z = .slice (some ⟨g, 0, none⟩) len c) (hl : ev σ lo = .int kk m) (h0 : 0 ≤ m) (h1 : m ≤ len) (h2 : len ≤ c) :
    Rd P σ (.slice T z (some lo) none none) ty w (.slice (some (if c = m.toNat then ⟨g, 0, none⟩ else ⟨g, m.toNat * sz, none⟩)) (len - m.toNat) (c - m.toNat)) :=
  Rd.of fun w' => by
    simp only [xop, execOp, hx, Option.map_some, Option.map_none, hl, Sem.run_bind, run_sliceV hu hsz (bounds_l (P := P) (cap := c) h0 h1)]
    by_cases hc : c = m.toNat
    · simp [sliced, Addr.add_lit, hc]
    · have : ¬ c - m.toNat = 0 := by omega
      simp [sliced, Addr.add_lit, hc, this]
end
end Go.Wk

namespace Go.Wk
open Go.RowKit

section
variable {P : Program} {n : Nat} {w w0 w' : World} {O : List (Option Nat)} {obs : List Ob} {ops : Array Oper} {rest : List Oper} {k : Cont} {d : Tmp} {ty : TypeId} {pos : String} {af : Array Edge}
  {l : List (Nat × Value)} {σ0 σ : Fr} {T T' : TypeId} {x y z lo hi mx : Operand} {k1 k2 : IntKind}

theorem rd_indexO {s e : TypeId} {g len c sz : Nat} {m : Int} {k : IntKind} (hu : P.underlying s = some (.slice e)) (hsz : ∀ w', (sizeOf e).run P w' = .ok sz w') (hx : ev σ x = .slice (some ⟨g, 0, none⟩) len c) (hi : ev σ y = .int k m) (h0 : 0 ≤ m) (h1 : m < len) :
    Rd P σ (.indexAddr s x y) ty w (.pointer (some ⟨g, m.toNat * sz, none⟩)) := by
  have := run_indexSl (P := P) (w := w) (ty := ty) hx hi hu hsz h0 h1
  rwa [Addr.add_lit, Nat.zero_add] at this

/-! ### tables -/
theorem rd_loadXa {g o : Nat} {e : TypeId} {α : Type} {d : α} {f : α → Value} {xs : List α} {j : Int} (hS : St w0 O w obs) (i : Nat) (hi : obs[i]? = some (.box g e (xs.map f))) (hx : ev σ x = .pointer (some ⟨g, o, none⟩)) (ho : o = j.toNat)
    (h0 : 0 ≤ j) (h1 : j < xs.length) (hag : ∀ w', (isAgg T).run P w' = .ok false w') : Rd P σ (.load T x) ty w (f (ix d xs j)) :=
  rd_loadX hS i hi hx (by rw [ho]; exact map_ix f h0 h1) hag
theorem set_splice {α : Type} (l : List α) (o : Nat) (v : α) (h : o < l.length) : l.take o ++ [v] ++ l.drop (o + 1) = l.set o v := by
  rw [List.set_eq_take_append_cons_drop, if_pos h, List.append_assoc]; rfl
theorem Wx.storeXa {g o : Nat} {e : TypeId} {α : Type} {f : α → Value} {xs : List α} {j : Int} {u : α} (hS : St w0 O w obs) (i : Nat) (hi : obs[i]? = some (.box g e (xs.map f))) (hx : ev (look l σ0) x = .pointer (some ⟨g, o, none⟩)) (ho : o = j.toNat)
    (hy : ev (look l σ0) y = f u) (hv : (f u).cells = #[f u]) (h1 : (f u).oneCell' = true) (hsz : ∀ w', (sizeOf T).run P w' = .ok 1 w') (h0 : 0 ≤ j) (hj : j < xs.length)
    (h : ∀ w', w.heap.size ≤ w'.heap.size → St w0 O w' (obs.set i (.box g e ((xs.set j.toNat u).map f))) → Wx P n ops false rest k (look l σ0) w') :
    Wx P n ops false (⟨none, .store T x y, ty, pos, af, none⟩ :: rest) k (look l σ0) w := by
  have hlt : o < (xs.map f).length := by rw [List.length_map]; omega
  refine Wx.storeX (ds := [f u]) hS i hi hx hy hv hsz (by simp only [List.length_cons, List.length_nil]; omega) (by intro q hq; rw [List.mem_singleton] at hq; rw [hq]; exact h1) (set_splice _ _ _ hlt) (fun w' hw hS' => h w' hw ?_)
  rw [ho] at hS'
  rw [List.map_set]
  exact hS'
end
end Go.Wk

namespace Go.Wk
open Go.RowKit Go.Lib

theorem wpIn_scope_straight {F : Fence} {m : Nat} {P : Program} {Q : Exit → Act → World → Prop} {a : Act} {w : World} {c : Code} (h : c.wpIn F m P (Exit.noGoto Q) a w) : (Code.scope c).wpIn F m P Q a w := by
  intro b k cs hro hb hr
  have s0 : StepsIn (Machine.fenced P F) P (lone (b.atR a (.code (.scope c) :: k)) cs w) (lone (b.atR a (.code c :: .inScope c :: k)) cs w) := .one (fenced_calm hb hr rfl) (step_lone_go (by simp [stepG, stepG.exec, Frame.atR]))
  obtain ⟨e, a₁, w₁, hq, harr⟩ := h b (.inScope c :: k) cs hro hb hr
  cases e with
  | normal => exact ⟨.normal, a₁, w₁, hq, StepsIn.trans s0 (StepsIn.trans harr (.one (fenced_calm hb hr rfl) (step_lone_go (by simp [stepG, stepG.exec, Frame.atR]))))⟩
  | exit id => exact ⟨.exit id, a₁, w₁, hq, fun k' hk => StepsIn.trans s0 (harr.1 k' (by simp [exitTo, hk])), fun hro hk => let ⟨k₁, h1, h2⟩ := harr.2 hro (by simp [exitTo, hk]); ⟨k₁, h1, StepsIn.trans s0 h2⟩⟩
  | goto l => exact hq.elim
  | ret => exact ⟨_, a₁, w₁, hq, .of_steps s0 harr⟩
  | panic ch => exact ⟨_, a₁, w₁, hq, .of_steps s0 harr⟩
  | outgrown => exact ⟨_, a₁, w₁, hq, .of_steps s0 harr⟩
theorem W.scope {P : Program} {n : Nat} {kn kr : Cont} {ke : List (Nat × Cont)} {σ : Fr} {w : World} {c : Code} (h : W P n c kn kr ke σ w) : W P n (.scope c) kn kr ke σ w :=
  fun T hT r ds m => wpIn_scope_straight (wpIn_mono (h T hT r ds m) fun e _ _ q => by cases e <;> exact q)

def runeAt (s : ByteArray) (p : Int) : Int := ((Utf8.decode s p.toNat).1 : Nat)
def runeW (s : ByteArray) (p : Int) : Int := ((Utf8.decode s p.toNat).2 : Nat)

theorem get_tab (s : ByteArray) (i : Nat) : (((s.get! i).toNat : Nat) : Int) = tabAt s (i : Int) := by
  rw [tabAt]
  simp only [Int.toNat_natCast, ByteArray.get!, List.getD_eq_getElem?_getD]
  congr 2
  by_cases h : i < s.data.size
  · rw [getElem!_pos s.data i h, Array.getElem?_toList, Array.getElem?_eq_getElem h]; rfl
  · rw [getElem!_neg s.data i h, Array.getElem?_toList, Array.getElem?_eq_none (by omega)]; rfl
theorem tab_le (s : ByteArray) (p : Int) : 0 ≤ tabAt s p ∧ tabAt s p ≤ 255 := tabAt_bd s p
def dec5 (b0 b1 b2 b3 : Nat) (c1 c2 c3 : Bool) : Nat × Nat :=
  if b0 < 128 then (b0, 1)
  else if (b0 / 32 == 6 && c1) = true then (if 128 ≤ (b0 % 32) * 64 + b1 % 64 then ((b0 % 32) * 64 + b1 % 64, 2) else (65533, 1))
  else if (b0 / 16 == 14 && c1 && c2) = true then (if (2048 ≤ (b0 % 16) * 4096 + (b1 % 64) * 64 + b2 % 64) ∧ Utf8.valid ((b0 % 16) * 4096 + (b1 % 64) * 64 + b2 % 64 : Nat) = true then ((b0 % 16) * 4096 + (b1 % 64) * 64 + b2 % 64, 3) else (65533, 1))
  else if (b0 / 8 == 30 && c1 && c2 && c3) = true then (if (65536 ≤ (b0 % 8) * 262144 + (b1 % 64) * 4096 + (b2 % 64) * 64 + b3 % 64) ∧ Utf8.valid ((b0 % 8) * 262144 + (b1 % 64) * 4096 + (b2 % 64) * 64 + b3 % 64 : Nat) = true then ((b0 % 8) * 262144 + (b1 % 64) * 4096 + (b2 % 64) * 64 + b3 % 64, 4) else (65533, 1))
  else (65533, 1)
theorem dec5_cases (b0 b1 b2 b3 : Nat) (c1 c2 c3 : Bool) (h0 : b0 < 256) : (b0 < 128 ∧ dec5 b0 b1 b2 b3 c1 c2 c3 = (b0, 1)) ∨ (128 ≤ b0 ∧ 128 ≤ (dec5 b0 b1 b2 b3 c1 c2 c3).1 ∧ (dec5 b0 b1 b2 b3 c1 c2 c3).1 ≤ 1114111 ∧ (dec5 b0 b1 b2 b3 c1 c2 c3).2 ≤ 4) := by
  have hv : ∀ c : Nat, Utf8.valid (c : Int) = true → c ≤ 1114111 := fun c hc => by
    simp only [Utf8.valid, Bool.and_eq_true, Bool.or_eq_true, decide_eq_true_eq] at hc
    omega
  have hr : (128 ≤ 65533 ∧ 65533 ≤ 1114111 ∧ 1 ≤ 4) := by decide
  by_cases h : b0 < 128
  · left; exact ⟨h, by rw [dec5, if_pos h]⟩
  · right
    refine ⟨by omega, ?_⟩
    rw [dec5, if_neg h]
    by_cases h1 : (b0 / 32 == 6 && c1) = true
    · rw [if_pos h1]
      by_cases g : 128 ≤ (b0 % 32) * 64 + b1 % 64
      · rw [if_pos g]
        exact ⟨g, by show _ ≤ 1114111; omega, by show 2 ≤ 4; omega⟩
      · rw [if_neg g]; exact hr
    · rw [if_neg h1]
      by_cases h2 : (b0 / 16 == 14 && c1 && c2) = true
      · rw [if_pos h2]
        by_cases g : (2048 ≤ (b0 % 16) * 4096 + (b1 % 64) * 64 + b2 % 64) ∧ Utf8.valid ((b0 % 16) * 4096 + (b1 % 64) * 64 + b2 % 64 : Nat) = true
        · rw [if_pos g]
          exact ⟨by show 128 ≤ _; omega, hv _ g.2, by show 3 ≤ 4; omega⟩
        · rw [if_neg g]; exact hr
      · rw [if_neg h2]
        by_cases h3 : (b0 / 8 == 30 && c1 && c2 && c3) = true
        · rw [if_pos h3]
          by_cases g : (65536 ≤ (b0 % 8) * 262144 + (b1 % 64) * 4096 + (b2 % 64) * 64 + b3 % 64) ∧ Utf8.valid ((b0 % 8) * 262144 + (b1 % 64) * 4096 + (b2 % 64) * 64 + b3 % 64 : Nat) = true
          · rw [if_pos g]
            exact ⟨by show 128 ≤ _; omega, hv _ g.2, by show 4 ≤ 4; omega⟩
          · rw [if_neg g]; exact hr
        · rw [if_neg h3]; exact hr
theorem decode_dec5 (s : ByteArray) (i : Nat) : Utf8.decode s i = dec5 (s.get! i).toNat (s.get! (i + 1)).toNat (s.get! (i + 2)).toNat (s.get! (i + 3)).toNat (decide (i + 1 < s.size) && (s.get! (i + 1)).toNat / 64 == 2) (decide (i + 2 < s.size) && (s.get! (i + 2)).toNat / 64 == 2) (decide (i + 3 < s.size) && (s.get! (i + 3)).toNat / 64 == 2) := by
  simp only [Utf8.decode, dec5, Utf8.runeError, Bool.and_eq_true, decide_eq_true_eq, ge_iff_le, Nat.add_zero]
theorem decode_cases (s : ByteArray) (i : Nat) : (tabAt s i < 128 ∧ Utf8.decode s i = ((tabAt s i).toNat, 1)) ∨ (128 ≤ tabAt s i ∧ 128 ≤ (Utf8.decode s i).1 ∧ (Utf8.decode s i).1 ≤ 1114111 ∧ (Utf8.decode s i).2 ≤ 4) := by
  have h0 := get_tab s i
  have hb := tab_le s i
  rw [decode_dec5]
  rcases dec5_cases (s.get! i).toNat (s.get! (i + 1)).toNat (s.get! (i + 2)).toNat (s.get! (i + 3)).toNat (decide (i + 1 < s.size) && (s.get! (i + 1)).toNat / 64 == 2) (decide (i + 2 < s.size) && (s.get! (i + 2)).toNat / 64 == 2) (decide (i + 3 < s.size) && (s.get! (i + 3)).toNat / 64 == 2) (by omega) with ⟨h1, h2⟩ | ⟨h1, h2⟩
  · left; exact ⟨by omega, by rw [h2, ← h0]; rfl⟩
  · right; exact ⟨by omega, h2⟩
theorem runeAt_ascii {s : ByteArray} {p : Int} (h0 : 0 ≤ p) (h : tabAt s p < 128) : runeAt s p = tabAt s p ∧ runeW s p = 1 := by
  have e : ((p.toNat : Nat) : Int) = p := Int.toNat_of_nonneg h0
  have := decode_cases s p.toNat
  have hb := tab_le s p
  rw [e] at this
  rcases this with ⟨_, h2⟩ | ⟨h1, _⟩
  · rw [runeAt, runeW, h2]; exact ⟨by omega, rfl⟩
  · omega
theorem runeAt_other {s : ByteArray} {p : Int} (h0 : 0 ≤ p) (h : 128 ≤ tabAt s p) : 128 ≤ runeAt s p := by
  have e : ((p.toNat : Nat) : Int) = p := Int.toNat_of_nonneg h0
  have := decode_cases s p.toNat
  rw [e] at this
  rcases this with ⟨h1, _⟩ | ⟨_, h1, _⟩
  · omega
  · rw [runeAt]; omega
theorem runeAt_bd (s : ByteArray) (p : Int) : 0 ≤ runeAt s p ∧ runeAt s p ≤ 1114111 := by
  have := decode_cases s p.toNat
  have hb := tab_le s (p.toNat : Int)
  rw [runeAt]
  rcases this with ⟨h1, h2⟩ | ⟨_, _, h1, _⟩
  · rw [h2]; show 0 ≤ (((tabAt s p.toNat).toNat : Nat) : Int) ∧ _; omega
  · omega
theorem encode_last {r : Int} (h : 128 ≤ r) : 2 ≤ (Utf8.encode r).size ∧ (Utf8.encode r).size ≤ 4 ∧ 128 ≤ tabAt (Utf8.encode r) ((Utf8.encode r).size - 1 : Int) := by
  have hc : ∀ c : Nat, 128 ≤ c → c < 2097152 → 2 ≤ (if c < 0x80 then (⟨#[UInt8.ofNat c]⟩ : ByteArray) else if c < 0x800 then ⟨#[UInt8.ofNat (0xC0 + c / 64), UInt8.ofNat (0x80 + c % 64)]⟩ else if c < 0x10000 then ⟨#[UInt8.ofNat (0xE0 + c / 4096), UInt8.ofNat (0x80 + c / 64 % 64), UInt8.ofNat (0x80 + c % 64)]⟩ else ⟨#[UInt8.ofNat (0xF0 + c / 262144), UInt8.ofNat (0x80 + c / 4096 % 64), UInt8.ofNat (0x80 + c / 64 % 64), UInt8.ofNat (0x80 + c % 64)]⟩).size ∧ (if c < 0x80 then (⟨#[UInt8.ofNat c]⟩ : ByteArray) else if c < 0x800 then ⟨#[UInt8.ofNat (0xC0 + c / 64), UInt8.ofNat (0x80 + c % 64)]⟩ else if c < 0x10000 then ⟨#[UInt8.ofNat (0xE0 + c / 4096), UInt8.ofNat (0x80 + c / 64 % 64), UInt8.ofNat (0x80 + c % 64)]⟩ else ⟨#[UInt8.ofNat (0xF0 + c / 262144), UInt8.ofNat (0x80 + c / 4096 % 64), UInt8.ofNat (0x80 + c / 64 % 64), UInt8.ofNat (0x80 + c % 64)]⟩).size ≤ 4 ∧
      128 ≤ tabAt (if c < 0x80 then (⟨#[UInt8.ofNat c]⟩ : ByteArray) else if c < 0x800 then ⟨#[UInt8.ofNat (0xC0 + c / 64), UInt8.ofNat (0x80 + c % 64)]⟩ else if c < 0x10000 then ⟨#[UInt8.ofNat (0xE0 + c / 4096), UInt8.ofNat (0x80 + c / 64 % 64), UInt8.ofNat (0x80 + c % 64)]⟩ else ⟨#[UInt8.ofNat (0xF0 + c / 262144), UInt8.ofNat (0x80 + c / 4096 % 64), UInt8.ofNat (0x80 + c / 64 % 64), UInt8.ofNat (0x80 + c % 64)]⟩) (((if c < 0x80 then (⟨#[UInt8.ofNat c]⟩ : ByteArray) else if c < 0x800 then ⟨#[UInt8.ofNat (0xC0 + c / 64), UInt8.ofNat (0x80 + c % 64)]⟩ else if c < 0x10000 then ⟨#[UInt8.ofNat (0xE0 + c / 4096), UInt8.ofNat (0x80 + c / 64 % 64), UInt8.ofNat (0x80 + c % 64)]⟩ else ⟨#[UInt8.ofNat (0xF0 + c / 262144), UInt8.ofNat (0x80 + c / 4096 % 64), UInt8.ofNat (0x80 + c / 64 % 64), UInt8.ofNat (0x80 + c % 64)]⟩).size : Nat) - 1 : Int) := by
    intro c h1 h2
    have hm : ∀ u : Nat, 128 ≤ u → u < 256 → (128 : Int) ≤ ((UInt8.ofNat u).toNat : Nat) := fun u h3 h4 => by
      rw [UInt8.toNat_ofNat']; omega
    have hb := hm (0x80 + c % 64) (by omega) (by omega)
    rw [if_neg (by omega)]
    split
    · exact ⟨Nat.le_refl 2, Nat.le_add_right 2 2, hb⟩
    · split
      · exact ⟨Nat.le_add_right 2 1, Nat.le_add_right 3 1, hb⟩
      · exact ⟨Nat.le_add_right 2 2, Nat.le_refl 4, hb⟩
  simp only [Utf8.encode]
  refine hc _ ?_ ?_
  · split <;> first | omega | decide
  · split
    · rename_i hv
      simp only [Utf8.valid, Bool.and_eq_true, Bool.or_eq_true, decide_eq_true_eq] at hv
      omega
    · decide

section
variable {P : Program} {n : Nat} {w w0 w' : World} {O : List (Option Nat)} {obs : List Ob} {ops : Array Oper} {rest : List Oper} {k : Cont} {d : Tmp} {ty : TypeId} {pos : String} {af : Array Edge}
  {l : List (Nat × Value)} {σ0 σ : Fr} {T T' : TypeId} {x y z lo hi mx : Operand}

theorem rd_convRS {s dd : TypeId} {r : Int} (hx : ev σ x = .int .i32 r) (hs : P.underlying s = some (.int .i32)) (hd : P.underlying dd = some .string) :
    Rd P σ (.convert s dd x) ty w (.string (Utf8.encode r)) :=
  Rd.of fun w' => by
    simp [xop, execOp, hx, convert, run_underlying hs, run_underlying hd, Conv.intToString]
theorem Wx.rangeS {s : ByteArray} (hS : St w0 O w obs) (hx : ev (look l σ0) x = .string s) (hu : P.underlying T = some .string) (hd : Nat.ble (d + 1) n = true)
    (h : ∀ g w', Ext w w' → St w0 O w' (.raw g (.stringIter s 0) :: obs) → Wx P n ops false rest k (look ((d, .pointer (some ⟨g, 0, none⟩)) :: l) σ0) w') :
    Wx P n ops false (⟨some d, .range T x, ty, pos, af, none⟩ :: rest) k (look l σ0) w := by
  have he : Ext w (w.iter s 0) := (Below.refl _ _).alloc (Nat.le_refl _) _
  refine Wx.val (v := .pointer (some ⟨w.heap.size, 0, none⟩)) (w' := w.iter s 0) ?_ hd (h w.heap.size _ he (hS.push he _ (fun b hb => by simp [Ob.blk] at hb; omega) (fun F _ => ⟨hS.bel.size, World.iter_heap w s 0⟩)))
  simp [xop, execOp, hx, run_range_string w T s hu]
theorem Wx.nextS {s : ByteArray} {g : Nat} {p : Nat} (hS : St w0 O w obs) (i : Nat) (hi : obs[i]? = some (.raw g (.stringIter s p))) (hx : ev (look l σ0) x = .pointer (some ⟨g, 0, none⟩)) (hd : Nat.ble (d + 1) n = true)
    (h1 : (p : Int) < s.size → ∀ w', w.heap.size ≤ w'.heap.size → St w0 O w' (obs.set i (.raw g (.stringIter s (p + (Utf8.decode s p).2)))) → Wx P n ops false rest k (look ((d, .tuple #[.bool true, .int .i64 p, .int .i32 (Utf8.decode s p).1]) :: l) σ0) w')
    (h2 : ¬ (p : Int) < s.size → Wx P n ops false rest k (look ((d, .tuple #[.bool false]) :: l) σ0) w) :
    Wx P n ops false (⟨some d, .next x true, ty, pos, af, none⟩ :: rest) k (look l σ0) w := by
  have hb := hS.get i hi
  by_cases hp : p < s.size
  · refine Wx.val (v := .tuple #[.bool true, .int .i64 p, .int .i32 (Utf8.decode s p).1]) (w' := w.iterAt g s (p + (Utf8.decode s p).2)) ?_ hd (h1 (by omega) _ (by rw [iterAt_size]; exact Nat.le_refl _) ?_)
    · simp [xop, execOp, hx, run_next_any_at w g s p ty hb.2 hp]
    · refine hS.turn i hi rfl rfl rfl (by rw [iterAt_size]; exact Nat.le_refl _) (fun b _ hb' => iterAt_other w g b s _ (fun e => hb' (by rw [e]; rfl))) (fun b hb' => .inl hb') (fun b hb' => by rw [iterAt_size]; exact (Ob.ok_lt hb hb').2) (fun F _ => ⟨hb.1, iterAt_heap w g s p _ hb.2⟩)
  · refine Wx.val (v := .tuple #[.bool false]) (w' := w) ?_ hd (h2 (by omega))
    simp [xop, execOp, hx, run_next_end_at w g s p ty hb.2 hp]
end
end Go.Wk

namespace Go.Wk
open Go.RowKit Go.Lib
set_option linter.unusedVariables false

abbrev Tab := Int → Int → Int × Int
def cellT (T : Tab) (m : Nat) : Int := if m % 2 = 0 then (T (m / 26 : Nat) (m / 2 % 13 : Nat)).1 else (T (m / 26 : Nat) (m / 2 % 13 : Nat)).2
def tabC (s : ByteArray) (T : Tab) : List Value := .string s :: (List.range 338).map fun m => .int .i64 (cellT T m)
section
variable (s : ByteArray) (T : Tab) {i n : Int} (i0 : 0 ≤ i) (i1 : i < 13) (n0 : 0 ≤ n) (n1 : n < 13)
include i0 i1 n0 n1
end

section
variable {P : Program} {n : Nat} {σ : Fr} {w w0 : World} {O : List (Option Nat)} {obs : List Ob} {x : Operand} {ty T' : TypeId} {g : Nat} {e : TypeId} {s : ByteArray} {T : Tab} {i m : Int}
  (hb : ∀ w', Ext w w' → w'.heap[g]? = some (.cells (tabC s T).toArray e (0, 0)))
include hb
end

theorem St.shrink {w0 w : World} {O : List (Option Nat)} {obs : List Ob} {α : Type} {t : Ty α} {e : TypeId} {ys : List α} {g len c m : Nat} (hS : St w0 O w obs) (i : Nat) (hi : obs[i]? = some (.row t e (.slice (some ⟨g, 0, none⟩) len c) ys)) (hm : m ≤ ys.length) :
    St w0 O w (obs.set i (.row t e (.slice (some ⟨g, 0, none⟩) m c) (ys.take m))) := by
  obtain ⟨cs, hr, hR⟩ := hS.get i hi
  rcases hr.2 with ⟨h0, _⟩ | ⟨g', cap, cur, hv, q1, q2, q3, q4, q5, q6⟩
  · cases h0
  · simp only [Value.slice.injEq, Option.some.injEq, Addr.mk.injEq, and_true] at hv
    obtain ⟨rfl, rfl, rfl⟩ := hv
    have hcl : cs.length = ys.length * t.n := hr.1
    have hmn : m * t.n ≤ ys.length * t.n := Nat.mul_le_mul_right _ hm
    have hl : (ys.take m).length = m := by rw [List.length_take]; omega
    refine hS.turn (w' := w) i hi rfl rfl rfl (Nat.le_refl _) (fun _ _ _ => rfl) (fun b hb' => .inl hb') (fun b hb' => (Ob.ok_lt (hS.get i hi) hb').2) (fun F hM => ?_)
    refine ⟨cs.take (m * t.n), ⟨by rw [hl, List.length_take]; omega, .inr ⟨g, c, cur, by rw [hl], q1, q2, by rw [hl]; omega, q4, q5, ?_⟩⟩, (hR.mv hM).take m⟩
    rw [hl, ← q6, List.take_take, Nat.min_eq_left hmn]

end Go.Wk

namespace Go.Wk
open Go.RowKit Go.Lib
set_option linter.unusedVariables false

section
variable {P : Program} {n : Nat} {k : Cont} {σ σ0 : Fr} {w w0 : World} {O : List (Option Nat)} {obs : List Ob} {x : Operand} {ty T : TypeId} {l : List (Nat × Value)} {d : Tmp} {pos : String} {af : Array Edge} {ops : Array Oper} {rest : List Oper}

end
end Go.Wk

namespace Go.Wk
open Go.RowKit

abbrev ContD := List Nat → Cont
def mkD (D : Nat) : Deferred := { target := .collected D, args := #[] }
def marks (Ds : List Nat) : List Deferred := Ds.map mkD
def DOb (Ds : List Nat) : List Ob := Ds.map fun D => .raw D (.deferred (some []))
def findX (id : Nat) : List (Nat × ContD) → Option ContD
  | [] => none
  | (i, k) :: l => bif Nat.beq id i then some k else findX id l
def postM (n : Nat) (kn kr : ContD) (ke : List (Nat × ContD)) : Exit → Act → World → Prop
  | .normal, a, w => a.tmps.size = n ∧ ∃ Ds, a.defers = marks Ds ∧ kn Ds (fun i => a.tmps.getD i undef) w
  | .ret, a, w => a.tmps.size = n ∧ ∃ Ds, a.defers = marks Ds ∧ kr Ds (fun i => a.tmps.getD i undef) w
  | .exit id, a, w => a.tmps.size = n ∧ ∃ Ds, a.defers = marks Ds ∧ match findX id ke with
    | some k => k Ds (fun i => a.tmps.getD i undef) w
    | none => False
  | _, _, _ => False
def WD (P : Program) (n : Nat) (c : Code) (kn kr : ContD) (ke : List (Nat × ContD)) (Ds : List Nat) (σ : Fr) (w : World) : Prop :=
  ∀ T, AtF n σ T → ∀ m, c.wpIn Fence.wide m P (postM n kn kr ke) ⟨T, marks Ds⟩ w
theorem findX_map (Ds : List Nat) (id : Nat) : ∀ (ke : List (Nat × ContD)), findEx id (ke.map fun x => (x.1, x.2 Ds)) = (findX id ke).map fun k => k Ds
  | [] => rfl
  | (i, k) :: l => by
    simp only [List.map_cons, findEx, findX]
    cases Nat.beq id i with
    | true => rfl
    | false => exact findX_map Ds id l
section
variable {P : Program} {n : Nat} {kn kr : ContD} {ke : List (Nat × ContD)} {Ds : List Nat} {σ : Fr} {w : World}
theorem WD.ofW {c : Code} (h : W P n c (kn Ds) (kr Ds) (ke.map fun x => (x.1, x.2 Ds)) σ w) : WD P n c kn kr ke Ds σ w := by
  intro T hT m
  refine wpIn_mono (F := Fence.wide) (h T hT none (marks Ds) m) ?_
  intro e a w hq
  cases e with
  | normal => exact ⟨hq.1, Ds, hq.2.1, hq.2.2⟩
  | ret => exact ⟨hq.1, Ds, hq.2.1, hq.2.2⟩
  | exit id =>
    obtain ⟨h1, h2, h3⟩ := hq
    refine ⟨h1, Ds, h2, ?_⟩
    rw [findX_map] at h3
    cases hf : findX id ke with
    | none => rw [hf] at h3; exact h3
    | some k => rw [hf] at h3; exact h3
  | goto l => exact hq
  | panic ch => exact hq
  | outgrown => exact hq
theorem WD.seq {a b : Code} (h : WD P n a (fun Ds σ w => WD P n b kn kr ke Ds σ w) kr ke Ds σ w) : WD P n (.seq a b) kn kr ke Ds σ w := by
  intro T hT m
  refine wpIn_seq (wpIn_mono (h T hT m) ?_)
  intro e a' w' hq
  cases e with
  | normal =>
    obtain ⟨h1, Ds', h2, h3⟩ := hq
    have := h3 a'.tmps (AtF.self h1) m
    cases a'
    simp only at h2
    subst h2
    exact this
  | exit id => exact hq
  | goto l => exact hq
  | ret => exact hq
  | panic ch => exact hq
  | outgrown => exact hq
theorem WD.block {id : Nat} {c : Code} (h : WD P n c kn kr ((id, kn) :: ke) Ds σ w) : WD P n (.block id c) kn kr ke Ds σ w := by
  intro T hT m
  refine wpIn_block (wpIn_mono (h T hT m) ?_)
  intro e a' w' hq
  cases e with
  | exit id' =>
    simp only [postM, findX] at hq
    simp only [Exit.inBlock]
    by_cases hid : id' = id
    · subst hid
      have hb : Nat.beq id' id' = true := Nat.beq_refl id'
      rw [if_pos rfl]
      rw [hb] at hq
      exact hq
    · have hb : Nat.beq id' id = false := by
        cases hq' : Nat.beq id' id with
        | false => rfl
        | true => exact absurd (Nat.eq_of_beq_eq_true hq') hid
      rw [if_neg hid]
      rw [hb] at hq
      exact hq
  | normal => exact hq
  | goto l => exact hq
  | ret => exact hq
  | panic ch => exact hq
  | outgrown => exact hq
theorem WD.loop {X : Type _} (D : List Nat) (f : X → List (Nat × Value)) (I : X → World → Prop) (m : X → Nat) (dso : X → List Nat) (x0 : X) {c : Code} (h0 : Has (f x0) σ) (hDs : dso x0 = Ds) (hI : I x0 w)
    (round : ∀ (x : X) (u : Fr) (w : World), I x w → WD P n c (fun Ds' σ' w' => ∃ x', m x' < m x ∧ dso x' = Ds' ∧ I x' w' ∧ Agr D (f x') σ σ') kr ke (dso x) (look (f x) (hav D u σ)) w) :
    WD P n (.loop c) kn kr ke Ds σ w := by
  intro T hT rm
  subst hDs
  refine wpIn_loop_ghost (fun k a w => ∃ x, m x = k ∧ I x w ∧ a.tmps.size = n ∧ a.defers = marks (dso x) ∧ Agr D (f x) σ (fun i => a.tmps.getD i undef)) (m x0) ?_ ?_
  · exact ⟨x0, rfl, hI, hT.1, rfl, by simp only; rw [hT.fun_eq]; exact Agr.start h0⟩
  · rintro k a w ⟨x, rfl, hI, h1, h2, hA⟩
    have hr := round x (fun i => a.tmps.getD i undef) w hI
    have hF : AtF n (look (f x) (hav D (fun i => a.tmps.getD i undef) σ)) a.tmps := ⟨h1, fun i => congrFun hA.eq i⟩
    have := hr a.tmps hF rm
    cases a
    simp only at h2
    subst h2
    refine wpIn_mono this ?_
    intro e a' w' hq
    cases e with
    | normal =>
      obtain ⟨g1, Ds', g2, x', g3, rfl, g4, g5⟩ := hq
      exact ⟨m x', g3, x', rfl, g4, g1, g2, g5⟩
    | exit id => exact hq
    | goto l => exact hq
    | ret => exact hq
    | panic ch => exact hq
    | outgrown => exact hq
end

/-! ### Blocks that hold no cells -/
section
variable {w0 w : World} {O : List (Option Nat)} {obs a b : List Ob}
theorem ext_alloc (w : World) (o : Obj) : Ext w (w.alloc o) := (Below.refl _ _).alloc (Nat.le_refl _) _
theorem St.newRaw (h : St w0 O w obs) (o : Obj) : St w0 O (w.alloc o) (.raw w.heap.size o :: obs) := by
  have hx := ext_alloc w o
  have hM : Mv (fb obs O) (fb (.raw w.heap.size o :: obs) O) w (w.alloc o) := by
    refine ⟨hx.size, fun b hb hO => ⟨hx.block b hb, fun hm => ?_⟩⟩
    simp only [fb, List.map_cons, List.cons_append, Ob.blk] at hm
    rcases List.mem_cons.1 hm with hm | hm
    · injection hm with hm
      omega
    · exact hO hm
  refine ⟨Ext.trans h.bel hx, h.olt, fun ob ho => ?_, List.Pairwise.cons (fun ob ho => ?_) h.sep⟩
  · rcases List.mem_cons.1 ho with rfl | ho
    · exact ⟨h.bel.size, World.alloc_heap_new w o⟩
    · exact Ob.ok_ext (h.ok ob ho) hx hM
  · right
    intro hb
    have := (Ob.ok_lt (h.ok ob ho) (b := w.heap.size) hb.symm).2
    omega
theorem St.putRaw {g : Nat} {o : Obj} (h : St w0 O w obs) (i : Nat) (hi : obs[i]? = some (.raw g o)) (o' : Obj) : St w0 O (w.putObj g o') (obs.set i (.raw g o')) := by
  have hob := h.get i hi
  have hlt := (Array.getElem?_eq_some_iff.1 hob.2).1
  refine h.turn (ob' := .raw g o') i hi rfl rfl rfl (by rw [World.putObj_size]; exact Nat.le_refl _) (fun b hb hne => World.putObj_heap_other (fun e => hne (by rw [e]; rfl))) (fun b hb => .inl hb) (fun b hb => ?_) (fun F hM => ⟨hob.1, World.putObj_heap_same hlt⟩)
  rw [World.putObj_size]
  simp only [Ob.blk, Option.some.injEq] at hb
  subst hb
  exact hlt
theorem St.putMid {g : Nat} {o : Obj} (h : St w0 O w (a ++ .raw g o :: b)) (o' : Obj) : St w0 O (w.putObj g o') (a ++ .raw g o' :: b) := by
  have := h.putRaw (g := g) (o := o) a.length (by simp) o'
  rwa [List.set_append_right _ _ (Nat.le_refl _), Nat.sub_self, List.set_cons_zero] at this
theorem St.getMid {ob : Ob} (h : St w0 O w (a ++ ob :: b)) : ob.ok w0.heap.size (fb (a ++ ob :: b) O) w := h.ok ob (by simp)
theorem St.dropMid {ob : Ob} (h : St w0 O w (a ++ ob :: b)) : St w0 O w (a ++ b) := h.sub (List.Sublist.append (List.Sublist.refl a) (List.sublist_cons_self ob b))
end

/-! ### The function's end -/
theorem leaves_marks {P : Program} {fn : Func} {tmps : Array Value} {R : Ending → World → Prop} {m : Nat} {w0 : World} {O : List (Option Nat)} {obs : List Ob}
    (hR : ∀ w2, St w0 O w2 obs → ∃ v, (results fn tmps).run P w2 = .ok v w2 ∧ R (.returned v) w2) : ∀ (Ds : List Nat) (w : World), St w0 O w (obs ++ DOb Ds) → LeavesInM Fence.wide m P fn tmps R (marks Ds) .returning w
  | [], w, h => by
    rw [show DOb [] = [] from rfl, List.append_nil] at h
    exact hR w h
  | D :: Ds, w, h => by
    have hD := (h.getMid (ob := .raw D (.deferred (some [])))).2
    refine ⟨fun e => (nomatch e), .inl ⟨D, _, rfl, run_takeDeferred hD, leaves_marks hR Ds _ ?_⟩⟩
    exact (h.putMid (.deferred none)).dropMid
abbrev EndM (P : Program) (rs : Array ResultVar) (w0 : World) (O : List (Option Nat)) (Q : Value → World → Prop) : ContD := fun Ds σ w' =>
  ∃ obs, St w0 O w' (obs ++ DOb Ds) ∧ ∀ w2, St w0 O w2 obs → ∃ v, ResIs P rs σ w2 v ∧ Q v w2
theorem enterM {P : Program} {n : Nat} {w : World} {f : FuncId} {fn : Func} {c : Code} {vs : List Value} {rs : Array ResultVar} {Q : Value → World → Prop} (w0 : World) (O : List (Option Nat)) (hf : P.funcs[f]? = some fn) (hb : fn.body = some c) (hn : fn.ntmps = n) (hrs : fn.results = rs)
    (hle : Nat.ble vs.length n = true) (h : WD P n c (EndM P rs w0 O Q) (EndM P rs w0 O Q) [] [] (look (argl 0 vs) und) w) : Calls P f vs.toArray w (Bk Q) := by
  have hle' := Nat.le_of_ble_eq_true hle
  refine (callsIn_wide (n := 0)).1 (callsIn_of_wp_marks hf hb trivial ?_ rfl)
  have hF : AtF n (look (argl 0 vs) und) (vs.toArray ++ Array.replicate (fn.ntmps - vs.toArray.size) undef) := by
    refine ⟨by simp; omega, fun i => ?_⟩
    rw [look_argl]
    simp only [Nat.zero_le, if_true, Nat.sub_zero]
    simp only [Array.getD_eq_getD_getElem?, Array.getElem?_append]
    split
    · simp
    · rename_i hi
      simp only [List.size_toArray] at hi ⊢
      rw [Array.getElem?_replicate]
      rw [List.getElem?_eq_none (by omega)]
      split <;> rfl
  refine wpIn_mono (h _ hF 0) ?_
  have key : ∀ (a : Act) (w' : World), (a.tmps.size = n ∧ ∃ Ds, a.defers = marks Ds ∧ EndM P rs w0 O Q Ds (fun i => a.tmps.getD i undef) w') → LeavesInM Fence.wide 0 P fn a.tmps (Bk Q) a.defers .returning w' := by
    rintro a w' ⟨h1, Ds, h2, obs, hS, h3⟩
    rw [h2]
    refine leaves_marks (fun w2 hS2 => ?_) Ds w' hS
    obtain ⟨v, hr, hQ⟩ := h3 w2 hS2
    exact ⟨v, hr fn hrs _ _ (AtF.self h1), v, rfl, hQ⟩
  intro e a w' hq
  cases e with
  | normal => exact key a w' hq
  | ret => exact key a w' hq
  | exit id => obtain ⟨_, _, _, hq⟩ := hq; exact hq.elim
  | goto l => exact hq.elim
  | panic ch => exact hq.elim
  | outgrown => exact hq.elim
theorem enterMR {P : Program} {n : Nat} {w : World} {O : List (Option Nat)} {f : FuncId} {fn : Func} {c : Code} {vs : List Value} {rs : Array ResultVar} {Q : Value → World → Prop} (hf : P.funcs[f]? = some fn) (hb : fn.body = some c) (hn : fn.ntmps = n) (hrs : fn.results = rs)
    (hle : Nat.ble vs.length n = true) (h : WD P n c (EndM P rs w O (fun v w' => Ext w w' ∧ Q v w')) (EndM P rs w O (fun v w' => Ext w w' ∧ Q v w')) [] [] (look (argl 0 vs) und) w) : Calls P f vs.toArray w (Ret w Q) := enterM (Q := fun v w' => Ext w w' ∧ Q v w') w O hf hb hn hrs hle h

/-! ### What an iterator promises -/
def YieldR (P : Program) (l : Nat) (m : Int) (w : World) (R : Bool → World → Prop) : Prop :=
  ∃ fn tmps assign body, (Instr.yield l #[.int .i64 m]).run P w = .ok (.round l fn tmps assign body) w ∧ ∀ k, RoundIn Fence.wide k P l fn tmps assign body w fun e w' => ∃ b, e = .returned (.bool b) ∧ R b w'
def EachY (P : Program) (l : Nat) (L : List Int) (Tl Tx : List Int → List Ob → Prop) (w0 : World) (O : List (Option Nat)) : Prop :=
  ∀ (ls : List Int) (m : Int) (pre ob : List Ob) (w : World), (ls ++ [m]) <+: L → Tl ls ob → St w0 O w (ob ++ pre) →
    YieldR P l m w fun b w' => ∃ ob', (b = true → Tl (ls ++ [m]) ob') ∧ (b = false → Tx (ls ++ [m]) ob') ∧ St w0 O w' (ob' ++ pre)
def Iter (P : Program) (gf : FuncId) (cs : List Value) (A : List Ob) (L : List Int) (w0 : World) (O : List (Option Nat)) : Prop :=
  ∀ (l : Nat) (Tl Tx : List Int → List Ob → Prop) (ob : List Ob) (w : World), EachY P l L Tl Tx w0 O → Tl [] ob → St w0 O w (A ++ ob) →
    Calls P gf (.func (.yield l) #[] #[] :: cs).toArray w (Bk fun _ w' => ∃ ob', (Tl L ob' ∨ ∃ ls, ls <+: L ∧ Tx ls ob') ∧ St w0 O w' (A ++ ob'))

def jumpC : Option Nat → Code
  | none => .ret
  | some id => .exit id

section
variable {P : Program} {n : Nat} {kn kr : ContD} {ke : List (Nat × ContD)} {Ds : List Nat} {σ : Fr} {w w0 : World} {O : List (Option Nat)}

theorem WD.range {tg p d idA : Nat} {ty : TypeId} {pos : String} {af : Array Edge} {body : Code} {gf : FuncId} {cs : List Value} {A ob : List Ob} (L : List Int) (Tl : List Int → List Ob → Prop) (Tx : Option Nat → List Int → List Ob → Prop) (ids : List Nat)
    (hg : σ tg = .func (.func gf) #[] cs.toArray) (hc : ∀ args w, (callFunc gf args).run P w = .ok (.enter gf args) w) (hp : Nat.ble (p + 1) n = true) (hd : Nat.ble (d + 1) n = true)
    (hIt : Iter P gf cs A L w0 O) (hS : St w0 O w (A ++ (ob ++ DOb Ds))) (h0 : Tl [] ob)
    (hbody : ∀ (ls : List Int) (m : Int) (pre ob : List Ob) (w : World), (ls ++ [m]) <+: L → Tl ls ob → St w0 O w (ob ++ pre) →
      W P n body (fun _ w' => ∃ ob', Tl (ls ++ [m]) ob' ∧ St w0 O w' (ob' ++ pre)) (fun _ w' => ∃ ob', Tx none (ls ++ [m]) ob' ∧ St w0 O w' (ob' ++ pre))
        (ids.map fun id => (id, fun _ w' => ∃ ob', Tx (some id) (ls ++ [m]) ob' ∧ St w0 O w' (ob' ++ pre))) (look [(d, .int .i64 m), (p, .int .i64 m)] σ) w)
    (hdone : ∀ ob' D w', Tl L ob' → St w0 O w' (ob' ++ DOb (D :: Ds)) → kn (D :: Ds) σ w')
    (hstop : ∀ x ls ob' D w', Tx x ls ob' → ls <+: L → St w0 O w' (ob' ++ DOb (D :: Ds)) → match x with
      | none => kr (D :: Ds) σ w'
      | some id => ∃ k, findX id ke = some k ∧ k (D :: Ds) σ w') :
    WD P n (.rangeFunc (.tmp tg) #[p] (.region idA #[⟨some d, .assign (.tmp p), ty, pos, af, none⟩] false) body) kn kr ke Ds σ w := by
  intro T hT m
  refine wpIn_rangeFunc ?_
  intro fn hfn
  obtain ⟨rec, hrec⟩ : ∃ rec : LoopState → Option Code → Loop, rec = fun st pe => { state := st, pending := pe, fn, tmps := T, params := #[p], assign := .region idA #[⟨some d, .assign (.tmp p), ty, pos, af, none⟩] false, body, defers := w.heap.size } := ⟨_, rfl⟩
  have hgT : (Act.mk T (marks Ds)).eval (.tmp tg) = .func (.func gf) #[] cs.toArray := by rw [hT.eval]; exact hg
  refine ⟨w.heap.size + 1, [{ target := .collected w.heap.size, args := #[] }], (w.alloc (.deferred (some []))).alloc (.loop (rec .ready none)), { target := .fn (.func gf) cs.toArray, args := #[.func (.yield (w.heap.size + 1)) #[] #[]] }, (w.alloc (.deferred (some []))).alloc (.loop (rec .ready none)), gf,
    #[.func (.yield (w.heap.size + 1)) #[] #[]] ++ cs.toArray, (w.alloc (.deferred (some []))).alloc (.loop (rec .ready none)), ?_, ?_, fun _ _ => trivial, ?_, fun hh => (nomatch hh), ?_⟩
  · rw [hrec]; exact run_enterLoop_outer _ _ _ _ _
  · simp only [resolve, hgT]
    simp [go_sem]
  · simp [invoke, go_sem, hc]
  obtain ⟨Tl', hTl'⟩ : ∃ T' : List Int → List Ob → Prop, T' = fun ls ob' => ∃ ob0, Tl ls ob0 ∧ ob' = ob0 ++ (.raw (w.heap.size + 1) (.loop (rec .ready none)) :: DOb (w.heap.size :: Ds)) := ⟨_, rfl⟩
  obtain ⟨Tx', hTx'⟩ : ∃ T' : List Int → List Ob → Prop, T' = fun ls ob' => ∃ x ob0, (Tx x ls ob0) ∧ ob' = ob0 ++ (.raw (w.heap.size + 1) (.loop (rec .done (some (jumpC x)))) :: DOb (w.heap.size :: Ds)) := ⟨_, rfl⟩
  have hS1 : St w0 O ((w.alloc (.deferred (some []))).alloc (.loop (rec .ready none))) (A ++ (ob ++ (.raw (w.heap.size + 1) (.loop (rec .ready none)) :: DOb (w.heap.size :: Ds)))) := by
    have h1 := (hS.newRaw (.deferred (some []))).newRaw (.loop (rec .ready none))
    rw [World.size_alloc] at h1
    refine h1.perm ?_
    have e : A ++ (ob ++ (Ob.raw (w.heap.size + 1) (.loop (rec .ready none)) :: DOb (w.heap.size :: Ds))) = (A ++ ob) ++ ([.raw (w.heap.size + 1) (.loop (rec .ready none)), .raw w.heap.size (.deferred (some []))] ++ DOb Ds) := by simp [DOb]
    rw [e, show Ob.raw (w.heap.size + 1) (.loop (rec .ready none)) :: Ob.raw w.heap.size (.deferred (some [])) :: (A ++ (ob ++ DOb Ds)) = [.raw (w.heap.size + 1) (.loop (rec .ready none)), .raw w.heap.size (.deferred (some []))] ++ ((A ++ ob) ++ DOb Ds) by simp]
    rw [← List.append_assoc, ← List.append_assoc]
    exact List.perm_append_comm.append_right _
  have hE : EachY P (w.heap.size + 1) L Tl' Tx' w0 O := by
    subst hTl' hTx'
    rintro ls x pre ob' w1 hpx ⟨ob0, hT0, rfl⟩ hS0
    rw [List.append_assoc, List.cons_append] at hS0
    have hl := (hS0.getMid (ob := .raw (w.heap.size + 1) (.loop (rec .ready none)))).2
    have hy := run_yield (P := P) (args := #[.int .i64 x]) hl (by rw [hrec]; rfl)
    refine ⟨_, _, _, _, hy, fun k => ?_⟩
    rw [hrec]
    refine roundIn_of_wpIn trivial ?_
    have hp' := Nat.le_of_ble_eq_true hp
    obtain ⟨T', hT', hF'⟩ := hT.put (some p) (.int .i64 x) hp []
    have hfold : (#[p].zip #[Value.int .i64 x]).foldl (fun tmps (q : Tmp × Value) => tmps.setIfInBounds q.1 q.2) T = T' := by
      have := congrArg Act.tmps hT'
      simpa [Act.put] using this
    have hfold2 : ((rec .ready none).params.zip #[Value.int .i64 x]).foldl (fun tmps (x : Tmp × Value) => match x with | (t, a) => tmps.setIfInBounds t a) (rec .ready none).tmps = T' := by
      rw [hrec]; exact hfold
    rw [hrec] at hfold2
    rw [hfold2]
    have hA : W P n (.region idA [⟨some d, .assign (.tmp p), ty, pos, af, none⟩].toArray false) (fun σ' w' => σ' = look [(d, .int .i64 x), (p, .int .i64 x)] σ ∧ w' = w1) (fun _ _ => False) [] (look [(p, .int .i64 x)] σ) w1 := by
      refine W.reg ?_ rfl
      refine Wx.rd (v := .int .i64 x) (fun w' _ => ?_) hd ?_
      · show (xop _ _ _).run P w' = _
        simp [xop, execOp, ev, look, Nat.beq_refl]
      · exact Wx.nil ⟨rfl, rfl⟩
    have hA2 := hA T' hF' (some (w.heap.size + 1)) [] k
    refine wpIn_mono hA2 ?_
    intro e a1 w1' hq
    cases e with
    | normal =>
      obtain ⟨q1, q2, q3, rfl⟩ := hq
      refine ⟨_, run_beginRound hl (by rw [hrec]), ?_⟩
      have hS2 := hS0.putMid (.loop { rec .ready none with state := .busy })
      have hB := hbody ls x _ ob0 _ hpx hT0 hS2
      have hB2 := hB a1.tmps ⟨q1, fun i => congrFun q3 i⟩ (some (w.heap.size + 1)) [] k
      obtain ⟨at1, ad1⟩ := a1
      simp only at q2
      subst q2
      refine wpIn_mono hB2 ?_
      have fin : ∀ (jump : Option Code) (ob3 : List Ob) (w3 : World), St w0 O w3 (ob3 ++ (.raw (w.heap.size + 1) (.loop { rec .ready none with state := .busy }) :: (DOb (w.heap.size :: Ds) ++ pre))) →
          ∃ w4, (Instr.endRound (w.heap.size + 1) jump).run P w3 = .ok (.bool jump.isNone) w4 ∧ St w0 O w4 (ob3 ++ (.raw (w.heap.size + 1) (.loop (rec (if jump.isNone then .ready else .done) jump)) :: (DOb (w.heap.size :: Ds) ++ pre))) := fun jump ob3 w3 h3 => by
        have hl3 := (h3.getMid (ob := .raw (w.heap.size + 1) (.loop { rec .ready none with state := .busy }))).2
        have := run_endRound (P := P) jump hl3
        refine ⟨_, this, ?_⟩
        have h4 := h3.putMid (.loop (rec (if jump.isNone then .ready else .done) jump))
        rw [hrec] at h4 ⊢
        exact h4
      intro e a3 w3 hp3
      cases e with
      | normal =>
        obtain ⟨_, _, ob3, g1, g2⟩ := hp3
        obtain ⟨w4, g3, g4⟩ := fin none ob3 w3 g2
        exact ⟨_, w4, g3, true, rfl, _, fun _ => ⟨ob3, g1, rfl⟩, fun h => (nomatch h), by rw [hrec] at g4; rw [List.append_assoc]; exact g4⟩
      | ret =>
        obtain ⟨_, _, ob3, g1, g2⟩ := hp3
        obtain ⟨w4, g3, g4⟩ := fin (some .ret) ob3 w3 g2
        exact ⟨_, w4, g3, false, rfl, _, fun h => (nomatch h), fun _ => ⟨none, ob3, g1, rfl⟩, by rw [hrec] at g4; rw [List.append_assoc]; exact g4⟩
      | exit id =>
        obtain ⟨_, _, g0⟩ := hp3
        have hfind : ∀ (ids : List Nat), findEx id (ids.map fun id => (id, fun (_ : Fr) w' => ∃ ob', Tx (some id) (ls ++ [x]) ob' ∧ St w0 O w' (ob' ++ (.raw (w.heap.size + 1) (.loop { rec .ready none with state := .busy }) :: (DOb (w.heap.size :: Ds) ++ pre))))) = none ∨
            findEx id (ids.map fun id => (id, fun (_ : Fr) w' => ∃ ob', Tx (some id) (ls ++ [x]) ob' ∧ St w0 O w' (ob' ++ (.raw (w.heap.size + 1) (.loop { rec .ready none with state := .busy }) :: (DOb (w.heap.size :: Ds) ++ pre))))) = some (fun _ w' => ∃ ob', Tx (some id) (ls ++ [x]) ob' ∧ St w0 O w' (ob' ++ (.raw (w.heap.size + 1) (.loop { rec .ready none with state := .busy }) :: (DOb (w.heap.size :: Ds) ++ pre)))) := by
          intro ids
          induction ids with
          | nil => exact .inl rfl
          | cons i ids ih =>
            simp only [List.map_cons, findEx]
            cases hb : Nat.beq id i with
            | true => rw [Nat.eq_of_beq_eq_true hb]; exact .inr rfl
            | false => exact ih
        rcases hfind ids with hf | hf
        · rw [hf] at g0; exact g0.elim
        · rw [hf] at g0
          obtain ⟨ob3, g1, g2⟩ := g0
          obtain ⟨w4, g3, g4⟩ := fin (some (.exit id)) ob3 w3 g2
          exact ⟨_, w4, g3, false, rfl, _, fun h => (nomatch h), fun _ => ⟨some id, ob3, g1, rfl⟩, by rw [hrec] at g4; rw [List.append_assoc]; exact g4⟩
      | goto t => exact hp3.elim
      | panic ch => exact hp3.elim
      | outgrown => exact hp3.elim
    | exit id => obtain ⟨_, _, hq⟩ := hq; exact hq.elim
    | ret => exact hq.2.2.elim
    | goto t => exact hq.elim
    | panic ch => exact hq.elim
    | outgrown => exact hq.elim
  have hcall := hIt (w.heap.size + 1) Tl' Tx' _ _ hE (by rw [hTl']; exact ⟨ob, h0, rfl⟩) hS1
  have hargs : #[Value.func (.yield (w.heap.size + 1)) #[] #[]] ++ cs.toArray = (Value.func (.yield (w.heap.size + 1)) #[] #[] :: cs).toArray := by simp
  rw [hargs]
  refine callsIn_wide.2 (Calls.mono hcall ?_)
  subst hTl' hTx'
  rintro e w3 ⟨v, rfl, ob', hob, hS3⟩
  have hnoA : ∀ {t : List Ob} {w3 : World}, St w0 O w3 (A ++ t) → St w0 O w3 t := fun h => h.sub (List.sublist_append_right _ _)
  rcases hob with ⟨ob0, hT0, rfl⟩ | ⟨ls, hpre, x, ob0, hT0, rfl⟩
  · have hS4 := hnoA hS3
    have hl := (hS4.getMid (ob := .raw (w.heap.size + 1) (.loop (rec .ready none)))).2
    have hr := run_endLoop (P := P) hl (by rw [hrec]; simp)
    refine ⟨none, _, by rw [hr, hrec], ?_⟩
    have hS5 := (hS4.putMid (.loop { rec .ready none with state := .exhausted })).dropMid
    rw [hrec] at hS5
    exact ⟨hT.1, w.heap.size :: Ds, rfl, by simp only; rw [hT.fun_eq]; exact hdone ob0 _ _ hT0 hS5⟩
  · have hS4 := hnoA hS3
    have hl := (hS4.getMid (ob := .raw (w.heap.size + 1) (.loop (rec .done (some (jumpC x)))))).2
    have hr := run_endLoop (P := P) hl (by rw [hrec]; simp)
    refine ⟨some (jumpC x), _, by rw [hr, hrec], ?_⟩
    have hS5 := (hS4.putMid (.loop { rec .done (some (jumpC x)) with state := .exhausted })).dropMid
    rw [hrec] at hS5
    have hst := hstop x ls ob0 _ _ hT0 hpre hS5
    cases x with
    | none => exact wpIn_ret ⟨hT.1, w.heap.size :: Ds, rfl, by simp only; rw [hT.fun_eq]; exact hst⟩
    | some id =>
      obtain ⟨k, hk, hst⟩ := hst
      exact wpIn_exit ⟨hT.1, w.heap.size :: Ds, rfl, by rw [hk]; simp only; rw [hT.fun_eq]; exact hst⟩
end
end Go.Wk

namespace Go.Wk
open Go.RowKit
section
variable {P : Program} {ops : Array Oper} {Q Q' : Exit → Act → World → Prop} {r : Option Nat} {m : Nat} {ds : List Deferred}
theorem wpList_ringA {r' : List Oper} (hQ : ∀ a w, Q .normal a w → wpListIn (ringF r) m P ops Q' r' (withD ds a) w) (hp : ∀ c a w, ¬ Q (.panic c) a w) (ho : ∀ a w, ¬ Q .outgrown a w) :
    ∀ (l : List Oper) (a : Act) (w : World), noDefer l = true → wpList P ops Q l a w → wpListIn (ringF r) m P ops Q' (l ++ r') (withD ds a) w := by
  intro l
  induction l with
  | nil => intro a w _ h; exact hQ a w h
  | cons o l ih =>
    intro a w hd h
    have hdo := noDefer_mem hd o (by simp)
    have hdl : noDefer l = true := by simp only [noDefer, Bool.and_eq_true] at hd; exact hd.2
    unfold wpList at h
    rw [List.cons_append]
    unfold wpListIn
    show if Region.wanted o (yielded ops a.tmps) = true then _ else _
    split
    · rename_i hw
      rw [if_pos hw] at h
      exact oper_ring hdo hp ho (fun a w hk => ih a w hdl hk) h
    · rename_i hw
      rw [if_neg hw] at h
      refine ⟨fun _ _ => trivial, ?_⟩
      rw [withD_put]
      exact ih _ _ hdl h
end
theorem W.regY {P : Program} {n : Nat} {kn kr : Cont} {ke : List (Nat × Cont)} {σ : Fr} {w : World} {id : Nat} (l1 : List Oper) {d t : Tmp} {x : Operand} {ats : Array TypeId} {ty : TypeId} {pos : String} {af : Array Edge} {l2 : List Oper}
    (hd : Nat.ble (d + 1) n = true)
    (h : Wx P n (l1 ++ ⟨some d, .call { callee := .value (.tmp t), args := #[x], argTypes := ats }, ty, pos, af, none⟩ :: l2).toArray false l1 (fun σ' w' => ∃ l i, σ' t = .func (.yield l) #[] #[] ∧ ev σ' x = .int .i64 i ∧
      YieldR P l i w' fun b w'' => Wx P n (l1 ++ ⟨some d, .call { callee := .value (.tmp t), args := #[x], argTypes := ats }, ty, pos, af, none⟩ :: l2).toArray false l2 kn (look [(d, .bool b)] σ') w'') σ w)
    (h1 : noDefer l1 = true := by rfl) (h2 : noDefer l2 = true := by rfl) :
    W P n (.region id (l1 ++ ⟨some d, .call { callee := .value (.tmp t), args := #[x], argTypes := ats }, ty, pos, af, none⟩ :: l2).toArray false) kn kr ke σ w := by
  intro T hT r ds m
  refine wpIn_region_lit ?_
  refine wpList_ringA (ds := ds) (fun a w' hq => ?_) post_panic post_out l1 ⟨T, []⟩ w h1 (h T hT)
  obtain ⟨g1, g2, l, i, e1, e2, fn, tmps, assign, body, hy, hR⟩ := hq
  obtain ⟨at1, ad1⟩ := a
  simp only at g2
  subst g2
  have hev : (withD ds (Act.mk at1 [])).eval = ev (fun i => at1.getD i undef) := by rw [withD_eval]; exact (AtF.self g1).eval []
  unfold wpListIn
  show if Region.wanted _ _ = true then _ else _
  rw [if_pos (show Region.wanted _ _ = true from rfl)]
  refine ⟨fun _ _ => trivial, ?_⟩
  rw [Oper.semAt_eq _ _ _ (fun c e => by cases e), hev, execOp_xop]
  have hrun : ∀ σ1 : Fr, ev σ1 (.tmp t) = .func (.yield l) #[] #[] → ev σ1 x = .int .i64 i → (xop (ev σ1) (.call { callee := .value (.tmp t), args := #[x], argTypes := ats }) ty).run P w' = .ok (.round l fn tmps assign body) w' := fun σ1 e1' e2' => by
    simp [xop, execOp, resolve, Deferred.ofValue, e1', e2', invoke, hy]
  dsimp only
  rw [hrun (fun i => at1.getD i undef) e1 e2]
  refine ⟨fun hh => (nomatch hh), ?_⟩
  refine RoundIn.mono (show RoundIn (ringF r) (m - 1) P l fn tmps assign body w' _ from hR (m - 1)) ?_
  rintro e w'' ⟨b, rfl, hb⟩
  obtain ⟨T', hT', hF⟩ := (AtF.self g1).put (some d) (.bool b) hd []
  have := hb T' hF
  show wpListIn _ _ _ _ _ l2 ((withD ds ⟨at1, []⟩).put (some d) (.bool b)) w''
  rw [withD_put, hT']
  exact wpList_ring (ds := ds) post_ring post_panic post_out l2 ⟨T', []⟩ w'' h2 this
theorem W.regYi {P : Program} {n : Nat} {kn kr : Cont} {ke : List (Nat × Cont)} {σ : Fr} {w : World} {id : Nat} {l : List Oper} (i : Nat) {d t : Tmp} {x : Operand} {ats : Array TypeId} {ty : TypeId} {pos : String} {af : Array Edge}
    (hi : l[i]? = some ⟨some d, .call { callee := .value (.tmp t), args := #[x], argTypes := ats }, ty, pos, af, none⟩) (hd : Nat.ble (d + 1) n = true)
    (h : Wx P n l.toArray false (l.take i) (fun σ' w' => ∃ y j, σ' t = .func (.yield y) #[] #[] ∧ ev σ' x = .int .i64 j ∧ YieldR P y j w' fun b w'' => Wx P n l.toArray false (l.drop (i + 1)) kn (look [(d, .bool b)] σ') w'') σ w)
    (h1 : noDefer l = true := by rfl) : W P n (.region id l.toArray false) kn kr ke σ w := by
  obtain ⟨hlt, he⟩ := List.getElem?_eq_some_iff.1 hi
  have e : l = l.take i ++ ⟨some d, .call { callee := .value (.tmp t), args := #[x], argTypes := ats }, ty, pos, af, none⟩ :: l.drop (i + 1) := by
    rw [← he, ← List.drop_eq_getElem_cons hlt, List.take_append_drop]
  have hnd : ∀ l' : List Oper, l'.Sublist l → noDefer l' = true := by
    intro l' hs
    have hm := noDefer_mem h1
    clear h e h1 he
    induction l' with
    | nil => rfl
    | cons o l' ih =>
      simp only [noDefer, Bool.and_eq_true]
      refine ⟨?_, ih ((List.sublist_cons_self o l').trans hs)⟩
      have := hm o (hs.subset (by simp))
      split
      · rename_i c hc; exact absurd hc (this c)
      · rfl
  have h2 := W.regY (id := id) (kr := kr) (ke := ke) (kn := kn) (l.take i) (l2 := l.drop (i + 1)) (t := t) (x := x) (ats := ats) (ty := ty) (pos := pos) (af := af) hd (by rw [← e]; exact h) (hnd _ (List.take_sublist i l)) (hnd _ (List.drop_sublist (i + 1) l))
  rw [← e] at h2
  exact h2
theorem YieldR.mono {P : Program} {l : Nat} {m : Int} {w : World} {R R' : Bool → World → Prop} (h : YieldR P l m w R) (hr : ∀ b w', R b w' → R' b w') : YieldR P l m w R' := by
  obtain ⟨fn, tmps, assign, body, h1, h2⟩ := h
  exact ⟨fn, tmps, assign, body, h1, fun k => (h2 k).mono fun e w' ⟨b, e1, hb⟩ => ⟨b, e1, hr b w' hb⟩⟩
end Go.Wk

namespace Go.Wk
open Go.RowKit
theorem St.swap {w0 w : World} {O : List (Option Nat)} {a b : List Ob} (h : St w0 O w (a ++ b)) : St w0 O w (b ++ a) := h.perm List.perm_append_comm
end Go.Wk

namespace Go.Wk
open Go.RowKit Go.Lib Go.Sort
set_option linter.unusedVariables false
variable {P : Program} {n : Nat} {kn kr : Cont} {ke : List (Nat × Cont)} {σ : Fr} {w : World}

end Go.Wk

namespace Go.Wk
open Go.RowKit Go.Lib Go.Sort
set_option linter.unusedVariables false
variable {w w' w0 : World} {O : List (Option Nat)} {obs : List Ob} {α : Type} {t : Ty α} {e : TypeId} {v : Value} {ys ys' : List α}

theorem St.rowOpen (hS : St w0 O w obs) (i : Nat) (hi : obs[i]? = some (.row t e v ys)) (hne : 0 < ys.length) :
    ∃ g cap cur cs, v = .slice (some ⟨g, 0, none⟩) ys.length cap ∧ w.heap[g]? = some (.cells cur e (0, 0)) ∧ cur.toList.take (ys.length * t.n) = cs ∧ cs.length = ys.length * t.n ∧ Reps t (fb obs O) w ys cs := by
  obtain ⟨cs, hr, hR⟩ := hS.get i hi
  rcases hr.2 with ⟨_, h0⟩ | ⟨g, cap, cur, hv, h1, h2, h3, h4, h5, h6⟩
  · omega
  · exact ⟨g, cap, cur, cs, hv, h2, h6, hr.1, hR⟩

theorem St.putIn {cur cur' : Array Value} {g cap : Nat} {cs' : List Value} (hS : St w0 O w obs) (i : Nat) (hi : obs[i]? = some (.row t e v ys)) (hv : v = .slice (some ⟨g, 0, none⟩) ys.length cap) (hg : w.heap[g]? = some (.cells cur e (0, 0)))
    (hne : 0 < ys.length) (hlen : ys'.length = ys.length) (hos : w'.os = w.os) (htape : w'.tape = w.tape) (hout : w'.output = w.output) (hsz : w.heap.size ≤ w'.heap.size) (hbl : ∀ b, b < w.heap.size → b ≠ g → w'.heap[b]? = w.heap[b]?)
    (hg' : w'.heap[g]? = some (.cells cur' e (0, 0))) (hcs : cur'.size = cur.size) (ht : cur'.toList.take (ys.length * t.n) = cs') (hl : cs'.length = ys.length * t.n) (hR' : Reps t (fb obs O) w ys' cs') :
    St w0 O w' (obs.set i (.row t e v ys')) := by
  obtain ⟨cs, hr, hR⟩ := hS.get i hi
  have hlt : g < w.heap.size := (Array.getElem?_eq_some_iff.1 hg).1
  refine hS.turn i hi hos htape hout hsz (fun b hb hb' => hbl b hb fun hq => hb' (by subst hq; rw [hv]; rfl)) (fun b hb' => .inl hb') (fun b hb' => ?_) (fun F hM => ?_)
  · have : b = g := by rw [show (Ob.row t e v ys').blk = v.ownBlock from rfl, hv] at hb'; simpa [Value.ownBlock] using hb'.symm
    omega
  · rcases hr.2 with ⟨_, h0⟩ | ⟨g2, cap2, cur2, hv2, h1, h2, h3, h4, h5, h6⟩
    · omega
    · rw [hv] at hv2
      simp only [Value.slice.injEq, Option.some.injEq, Addr.mk.injEq, true_and, and_true] at hv2
      obtain ⟨rfl, rfl⟩ := hv2
      rw [hg] at h2
      simp only [Option.some.injEq, Obj.cells.injEq, true_and, and_true] at h2
      subst h2
      exact ⟨cs', ⟨by rw [hl, hlen], .inr ⟨g, cap, cur', by rw [hlen]; exact hv, h1, hg', by rw [hlen]; exact h3, h4, by rw [hcs]; exact h5, by rw [hlen]; exact ht⟩⟩, hR'.mv hM⟩

end Go.Wk
namespace Go.Wk
open Go.RowKit Go.Lib Go.Sort
set_option linter.unusedVariables false
section
variable {w w' w0 : World} {O : List (Option Nat)} {obs : List Ob} {α : Type} {t : Ty α} {e : TypeId} {v : Value} {ys ys' : List α} {F : List (Option Nat)}
end
end Go.Wk

namespace Go.Wk
open Go.RowKit Go.Lib Go.Sort
set_option linter.unusedVariables false
variable {w w' w0 : World} {O F : List (Option Nat)} {obs : List Ob} {α : Type} {t : Ty α} {e : TypeId} {v : Value} {ys ys' : List α}
abbrev CelV (t : Ty α) (F : List (Option Nat)) (w : World) := {p : Value × α // t.rep F w p.2 [p.1]}
theorem reps_list (hn : t.n = 1) : ∀ {ys : List α} {cs : List Value}, Reps t F w ys cs → ∃ d : List (CelV t F w), d.map (·.1.1) = cs ∧ d.map (·.1.2) = ys
  | [], cs, h => ⟨[], by have := h.1; simp at this; exact this.symm, rfl⟩
  | y :: ys, cs, h => by
    have hl := h.1
    rw [hn, Nat.mul_one] at hl
    cases cs with
    | nil => simp at hl
    | cons c cs =>
      have h0 := h.2 0 y rfl
      rw [hn, Nat.zero_mul, List.drop_zero] at h0
      have h1 := h.drop 1
      rw [hn] at h1
      obtain ⟨d, e1, e2⟩ := reps_list hn (ys := ys) (cs := cs) h1
      exact ⟨⟨(c, y), h0⟩ :: d, by rw [List.map_cons, e1], by rw [List.map_cons, e2]⟩
theorem list_reps (hn : t.n = 1) (d : List (CelV t F w)) : Reps t F w (d.map (·.1.2)) (d.map (·.1.1)) := by
  refine ⟨by simp [hn], fun i y hy => ?_⟩
  rw [List.getElem?_map] at hy
  cases hd : d[i]? with
  | none => rw [hd] at hy; cases hy
  | some q =>
    rw [hd] at hy
    obtain rfl := Option.some.inj hy
    have : ((d.map (·.1.1)).drop (i * t.n)).take t.n = [q.1.1] := by
      apply List.ext_getElem?
      intro k
      rw [hn, Nat.mul_one, List.getElem?_take]
      cases k with
      | zero => rw [if_pos (by omega), List.getElem?_drop, List.getElem?_map, Nat.add_zero, hd]; rfl
      | succ k => rw [if_neg (by omega)]; rfl
    rw [this]; exact q.2
theorem putCells_tail {β : Type} [Inhabited β] (enc : β → Value) (lo : Nat) (d : Array β) (c : Array Value) (h : lo + d.size ≤ c.size) : (putCells enc lo d c).toList.take (lo + d.size) = c.toList.take lo ++ d.toList.map enc := by
  apply List.ext_getElem?
  intro k
  rw [List.getElem?_take, List.getElem?_append]
  have hl : (c.toList.take lo).length = lo := by rw [List.length_take]; simp; omega
  rw [hl]
  by_cases hk : k < lo + d.size
  · rw [if_pos hk, Array.getElem?_toList, putCells, Array.getElem?_mapIdx, Array.getElem?_eq_getElem (show k < c.size by omega), Option.map_some]
    by_cases hlo : k < lo
    · rw [if_neg (by omega), if_pos hlo, List.getElem?_take, if_pos hlo, Array.getElem?_toList, Array.getElem?_eq_getElem (show k < c.size by omega)]
    · rw [if_pos ⟨by omega, hk⟩, if_neg hlo, List.getElem?_map, Array.getElem?_toList, Array.getElem?_eq_getElem (show k - lo < d.size by omega), Option.map_some]
      rw [getElem!_pos d (k - lo) (by omega)]
  · rw [if_neg hk, if_neg (by omega), List.getElem?_eq_none (by simp; omega)]
theorem heap_putO {β : Type} [Inhabited β] (enc : β → Value) (lo : Nat) (d : Array β) {g n : Nat} {os : Array Obj} {cur : Array Value} (hg : w.heap[g]? = some (.cells cur e (0, 0))) :
    (grow (putRow enc (Sort.ahead w n) g lo d) os).heap[g]? = some (.cells (putCells enc lo d cur) e (0, 0)) := by
  have hlt : g < w.heap.size := (Array.getElem?_eq_some_iff.1 hg).1
  rw [heap_grow_old _ _ (by simp [putRow, mapBlock, Sort.ahead]; exact hlt)]
  simp only [putRow, mapBlock, Sort.ahead, Array.getElem?_modify, if_true, hg, Option.map_some, onCells]
theorem heap_putO_other {β : Type} [Inhabited β] (enc : β → Value) (lo : Nat) (d : Array β) {g n b : Nat} {os : Array Obj} (hb : b < w.heap.size) (hne : b ≠ g) :
    (grow (putRow enc (Sort.ahead w n) g lo d) os).heap[b]? = w.heap[b]? := by
  rw [heap_grow_old _ _ (by simp [putRow, mapBlock, Sort.ahead]; exact hb)]
  simp [putRow, mapBlock, Sort.ahead, Array.getElem?_modify, Ne.symm hne]
theorem size_putO {β : Type} [Inhabited β] (enc : β → Value) (lo : Nat) (d : Array β) {g n : Nat} {os : Array Obj} : w.heap.size ≤ (grow (putRow enc (Sort.ahead w n) g lo d) os).heap.size := by
  simp [putRow, mapBlock, Sort.ahead, grow]
theorem St.tailRow (hn : t.n = 1) (hS : St w0 O w obs) (i : Nat) (hi : obs[i]? = some (.row t e v ys)) (lo : Nat) (hlo : lo < ys.length) :
    ∃ g cap, v = .slice (some ⟨g, 0, none⟩) ys.length cap ∧ g < w.heap.size ∧ some g ∈ fb obs O ∧ ∃ d : List (CelV t (fb obs O) w), d.map (·.1.2) = ys.drop lo ∧ (∀ [Inhabited (CelV t (fb obs O) w)], Holds (fun x : CelV t (fb obs O) w => x.1.1) w g lo d.toArray) ∧
      ∀ [Inhabited (CelV t (fb obs O) w)] (n : Nat) (os : Array Obj) (d' : List (CelV t (fb obs O) w)), d'.Perm d → St w0 O (grow (putRow (fun x : CelV t (fb obs O) w => x.1.1) (Sort.ahead w n) g lo d'.toArray) os) (obs.set i (.row t e v (ys.take lo ++ d'.map (·.1.2)))) := by
  obtain ⟨g, cap, cur, cs, hv, hg, h6, hl, hR⟩ := hS.rowOpen i hi (by omega)
  rw [hn, Nat.mul_one] at h6 hl
  have hcur : ys.length ≤ cur.size := by
    have := congrArg List.length h6
    rw [List.length_take, hl] at this; simp at this; omega
  have hRd := hR.drop lo
  rw [hn, Nat.mul_one] at hRd
  obtain ⟨d, e1, e2⟩ := reps_list hn hRd
  have hdl : d.length = ys.length - lo := by rw [← List.length_map (f := fun x : CelV t (fb obs O) w => x.1.2), e2, List.length_drop]
  refine ⟨g, cap, hv, (Array.getElem?_eq_some_iff.1 hg).1, List.mem_append.2 (.inl (List.mem_map.2 ⟨_, List.mem_of_getElem? hi, by show v.ownBlock = some g; rw [hv]; rfl⟩)), d, e2, ?_, ?_⟩
  · intro _ j hj
    have hj : j < d.length := by simpa using hj
    have h1 : (d.map fun x : CelV t (fb obs O) w => x.1.1)[j]? = some (d[j]).1.1 := by rw [List.getElem?_map, List.getElem?_eq_getElem hj]; rfl
    rw [e1, List.getElem?_drop, ← h6, List.getElem?_take, if_pos (by omega), Array.getElem?_toList] at h1
    refine ⟨?_, by simp [World.frozen?, hg]⟩
    have h2 : d.toArray[j]! = d[j] := by rw [getElem!_pos d.toArray j (by simpa using hj)]; simp
    rw [h2]
    simp [World.cell?, hg, h1]
  · intro _ n os d' hp
    have hdl' : d'.length = ys.length - lo := by rw [hp.length_eq, hdl]
    refine hS.putIn (cs' := cs.take lo ++ d'.map fun x : CelV t (fb obs O) w => x.1.1) i hi hv hg (by omega) (by rw [List.length_append, List.length_take, List.length_map, hdl']; omega) rfl rfl rfl (size_putO _ _ _) (fun b hb hbg => heap_putO_other _ _ _ hb hbg) (heap_putO _ _ _ hg) (by simp [putCells]) ?_ ?_ ?_
    · rw [hn, Nat.mul_one, show ys.length = lo + d'.toArray.size by simp; omega, putCells_tail _ lo d'.toArray cur (by simp; omega), ← h6, List.take_take, show min lo ys.length = lo by omega]
    · rw [hn, Nat.mul_one, List.length_append, List.length_take, List.length_map, hdl', hl]; omega
    · have hRt := hR.take lo
      rw [hn, Nat.mul_one] at hRt
      exact hRt.append (list_reps hn d')
theorem mv_putO {β : Type} [Inhabited β] (enc : β → Value) (lo : Nat) (d : Array β) {g n : Nat} {os : Array Obj} (hg : some g ∈ F) : Mv F F w (grow (putRow enc (Sort.ahead w n) g lo d) os) :=
  ⟨size_putO _ _ _, fun b hb hF => ⟨heap_putO_other _ _ _ hb (fun q => hF (by subst q; exact hg)), hF⟩⟩
end Go.Wk
