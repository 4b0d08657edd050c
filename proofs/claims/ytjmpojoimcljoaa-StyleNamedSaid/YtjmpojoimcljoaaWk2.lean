/-
  WHAT IS PROVED HERE: what values stand for in memory (numbers, truth values, strings, slices, structs), the memory that a call owns, and how both are kept when memory grows or is written. Conditions: none; they hold over any program.
-/
import Derived.Test.YtjmpojoimcljoaaWk1
import Derived.Laws.AppendOwn
import Derived.Laws.OwnMore
import Derived.Maps.AppendAt
namespace Go.Wk
open Go.RowKit

/-- From w to w' nothing outside O has turned, and what lay outside O lies outside O'. -/
def Mv (O O' : List (Option Nat)) (w w' : World) : Prop :=
  w.heap.size ≤ w'.heap.size ∧ ∀ b, b < w.heap.size → some b ∉ O → w'.heap[b]? = w.heap[b]? ∧ some b ∉ O'

theorem Mv.refl (O : List (Option Nat)) (w : World) : Mv O O w w := ⟨Nat.le_refl _, fun _ _ h => ⟨rfl, h⟩⟩
theorem Mv.trans {O O' O'' : List (Option Nat)} {a b c : World} (h : Mv O O' a b) (k : Mv O' O'' b c) : Mv O O'' a c :=
  ⟨Nat.le_trans h.1 k.1, fun i hi hO => by
    obtain ⟨h1, h2⟩ := h.2 i hi hO
    obtain ⟨k1, k2⟩ := k.2 i (Nat.lt_of_lt_of_le hi h.1) h2
    exact ⟨k1.trans h1, k2⟩⟩
theorem Mv.of_ext {O : List (Option Nat)} {w w' : World} (h : Ext w w') : Mv O O w w' := ⟨h.size, fun b hb hO => ⟨h.block b hb, hO⟩⟩
theorem Mv.less {O O' : List (Option Nat)} {w : World} (h : ∀ b, some b ∈ O' → some b ∈ O) : Mv O O' w w := ⟨Nat.le_refl _, fun b _ hO => ⟨rfl, fun h' => hO (h b h')⟩⟩

def lo : IntKind → Int
  | .i8 => -128 | .i16 => -32768 | .i32 => -2147483648 | .i64 => -9223372036854775808 | _ => 0
def hi : IntKind → Int
  | .i8 => 127 | .i16 => 32767 | .i32 => 2147483647 | .i64 => 9223372036854775807 | .u8 => 255 | .u16 => 65535 | .u32 => 4294967295 | .u64 => 18446744073709551615

/-- The number fits its kind. -/
def InK (k : IntKind) (x : Int) : Prop := lo k ≤ x ∧ x ≤ hi k

theorem wrap_in {k : IntKind} {x : Int} (h : InK k x) : k.wrap x = x := by
  obtain ⟨h1, h2⟩ := h
  cases k <;> simp only [lo, hi] at h1 h2 <;> simp only [IntKind.wrap, IntKind.bits, IntKind.signed] <;> simp <;> omega

theorem wrap_inK (k : IntKind) (x : Int) : InK k (k.wrap x) := by
  cases k <;> simp only [InK, lo, hi] <;> simp only [IntKind.wrap, IntKind.bits, IntKind.signed] <;> simp <;> omega

/-- How data of a type lies in cells. -/
structure Ty (α : Type) where
  n : Nat
  agg : Bool
  rep : List (Option Nat) → World → α → List Value → Prop
  len : ∀ {O w x cs}, rep O w x cs → cs.length = n
  one : ∀ {O w x cs}, rep O w x cs → ∀ u ∈ cs, u.oneCell' = true
  mv : ∀ {O O' w w' x cs}, Mv O O' w w' → rep O w x cs → rep O' w' x cs
  flat : agg = false → n = 1

def Ty.val {α : Type} (t : Ty α) (cs : List Value) : Value := if t.agg then .agg cs.toArray else cs.headD undef

/-- The value stands for x in world w; nothing of it lies in O. -/
def V {α : Type} (t : Ty α) (x : α) (v : Value) (O : List (Option Nat)) (w : World) : Prop := ∃ cs, v = t.val cs ∧ t.rep O w x cs

theorem V.mv {α : Type} {t : Ty α} {x : α} {v : Value} {O O' : List (Option Nat)} {w w' : World} (h : V t x v O w) (hm : Mv O O' w w') : V t x v O' w' :=
  let ⟨cs, h1, h2⟩ := h
  ⟨cs, h1, t.mv hm h2⟩
theorem V.ext {α : Type} {t : Ty α} {x : α} {v : Value} {O : List (Option Nat)} {w w' : World} (h : V t x v O w) (hm : Ext w w') : V t x v O w' := h.mv (.of_ext hm)
theorem V.any {α : Type} {t : Ty α} {x : α} {v : Value} {O : List (Option Nat)} {w : World} (h : V t x v O w) : V t x v [] w := h.mv (.less (by simp))

def tI (k : IntKind) : Ty Int where
  n := 1
  agg := false
  rep := fun _ _ x cs => cs = [.int k x] ∧ InK k x
  len := by rintro _ _ _ _ ⟨rfl, _⟩; rfl
  one := by rintro _ _ _ _ ⟨rfl, _⟩ u hu; simp at hu; subst hu; rfl
  mv := fun _ h => h
  flat := fun _ => rfl
abbrev tInt : Ty Int := tI .i64

def tBool : Ty Bool where
  n := 1
  agg := false
  rep := fun _ _ x cs => cs = [.bool x]
  len := by rintro _ _ _ _ rfl; rfl
  one := by rintro _ _ _ _ rfl u hu; simp at hu; subst hu; rfl
  mv := fun _ h => h
  flat := fun _ => rfl

def tStr : Ty ByteArray where
  n := 1
  agg := false
  rep := fun _ _ x cs => cs = [.string x] ∧ x.size ≤ maxLen
  len := by rintro _ _ _ _ ⟨rfl, _⟩; rfl
  one := by rintro _ _ _ _ ⟨rfl, _⟩ u hu; simp at hu; subst hu; rfl
  mv := fun _ h => h
  flat := fun _ => rfl

/-- The elements xs lie one behind the other from offset o of block b on. -/
def Els {α : Type} (t : Ty α) (O : List (Option Nat)) (w : World) (xs : List α) (b o : Nat) : Prop :=
  ∀ i x, xs[i]? = some x → ∃ es, t.rep O w x es ∧ ∀ j u, es[j]? = some u → w.cell? ⟨b, o + i * t.n + j, none⟩ = some u

def tSl {α : Type} (t : Ty α) : Ty (List α) where
  n := 1
  agg := false
  rep := fun O w xs cs => ∃ a cap, cs = [.slice a xs.length cap] ∧ xs.length ≤ cap ∧ cap ≤ maxLen ∧
    (xs ≠ [] → ∃ b o, a = some ⟨b, o, none⟩ ∧ some b ∉ O ∧ b < w.heap.size ∧ Els t O w xs b o)
  len := by rintro _ _ _ _ ⟨a, cap, rfl, _⟩; rfl
  one := by rintro _ _ _ _ ⟨a, cap, rfl, _⟩ u hu; simp at hu; subst hu; rfl
  mv := by
    rintro O O' w w' xs cs hm ⟨a, cap, rfl, h1, h2, h3⟩
    refine ⟨a, cap, rfl, h1, h2, fun hn => ?_⟩
    obtain ⟨b, o, h4, h5, h6, h7⟩ := h3 hn
    obtain ⟨k1, k2⟩ := hm.2 b h6 h5
    refine ⟨b, o, h4, k2, Nat.lt_of_lt_of_le h6 hm.1, fun i x hx => ?_⟩
    obtain ⟨es, g1, g2⟩ := h7 i x hx
    exact ⟨es, t.mv hm g1, fun j u hu => (World.cell?_of_block k1).trans (g2 j u hu)⟩
  flat := fun _ => rfl

def tP {α β : Type} (t : Ty α) (u : Ty β) : Ty (α × β) where
  n := t.n + u.n
  agg := true
  rep := fun O w x cs => ∃ c d, cs = c ++ d ∧ t.rep O w x.1 c ∧ u.rep O w x.2 d
  len := by rintro _ _ _ _ ⟨c, d, rfl, h1, h2⟩; rw [List.length_append, t.len h1, u.len h2]
  one := by
    rintro _ _ _ _ ⟨c, d, rfl, h1, h2⟩ v hv
    rcases List.mem_append.1 hv with hv | hv
    · exact t.one h1 v hv
    · exact u.one h2 v hv
  mv := by
    rintro O O' w w' x cs hm ⟨c, d, rfl, h1, h2⟩
    exact ⟨c, d, rfl, t.mv hm h1, u.mv hm h2⟩
  flat := fun h => by cases h

theorem V.int {k : IntKind} {x : Int} {v : Value} {O : List (Option Nat)} {w : World} (h : V (tI k) x v O w) : v = .int k x ∧ InK k x := by
  obtain ⟨cs, rfl, rfl, h⟩ := h
  exact ⟨rfl, h⟩
theorem V.mkInt {k : IntKind} {x : Int} {O : List (Option Nat)} {w : World} (h : InK k x) : V (tI k) x (.int k x) O w := ⟨[.int k x], rfl, rfl, h⟩
theorem V.bool {x : Bool} {v : Value} {O : List (Option Nat)} {w : World} (h : V tBool x v O w) : v = .bool x := by
  obtain ⟨cs, rfl, rfl⟩ := h
  rfl
theorem V.str {x : ByteArray} {v : Value} {O : List (Option Nat)} {w : World} (h : V tStr x v O w) : v = .string x ∧ x.size ≤ maxLen := by
  obtain ⟨cs, rfl, rfl, h⟩ := h
  exact ⟨rfl, h⟩

section slices
variable {α : Type} {t : Ty α} {xs : List α} {v : Value} {O : List (Option Nat)} {w : World}

theorem V.form (h : V (tSl t) xs v O w) : ∃ a cap, v = .slice a xs.length cap ∧ xs.length ≤ cap ∧ cap ≤ maxLen ∧ (xs ≠ [] → ∃ b o, a = some ⟨b, o, none⟩ ∧ some b ∉ O ∧ b < w.heap.size ∧ Els t O w xs b o) := by
  obtain ⟨cs, rfl, a, cap, rfl, h⟩ := h
  exact ⟨a, cap, rfl, h⟩

theorem V.of_form {a : Option Addr} {cap : Nat} (h1 : xs.length ≤ cap) (h2 : cap ≤ maxLen) (h3 : xs ≠ [] → ∃ b o, a = some ⟨b, o, none⟩ ∧ some b ∉ O ∧ b < w.heap.size ∧ Els t O w xs b o) :
    V (tSl t) xs (.slice a xs.length cap) O w := ⟨[.slice a xs.length cap], rfl, a, cap, rfl, h1, h2, h3⟩

theorem V.lenLe (h : V (tSl t) xs v O w) : xs.length ≤ maxLen := by
  obtain ⟨a, cap, _, h1, h2, _⟩ := h.form
  omega

theorem V.nil : V (tSl t) [] (.slice none 0 0) O w := ⟨[.slice none 0 0], rfl, none, 0, rfl, Nat.le_refl _, Nat.zero_le _, fun h => (h rfl).elim⟩
end slices

/-- A pointer at which x lies (to be read, not to be written). -/
def PtE {α : Type} (t : Ty α) (x : α) (p : Value) (O : List (Option Nat)) (w : World) : Prop :=
  ∃ b o es, p = .pointer (some ⟨b, o, none⟩) ∧ t.rep O w x es ∧ b < w.heap.size ∧ some b ∉ O ∧ ∀ j u, es[j]? = some u → w.cell? ⟨b, o + j, none⟩ = some u

theorem PtE.mv {α : Type} {t : Ty α} {x : α} {p : Value} {O O' : List (Option Nat)} {w w' : World} (h : PtE t x p O w) (hm : Mv O O' w w') : PtE t x p O' w' := by
  obtain ⟨b, o, es, h1, h2, h3, h4, h5⟩ := h
  obtain ⟨k1, k2⟩ := hm.2 b h3 h4
  exact ⟨b, o, es, h1, t.mv hm h2, Nat.lt_of_lt_of_le h3 hm.1, k2, fun j u hu => (World.cell?_of_block k1).trans (h5 j u hu)⟩

/-- The cells stand for the elements, one behind the other. -/
def Reps {α : Type} (t : Ty α) (F : List (Option Nat)) (w : World) (ys : List α) (cs : List Value) : Prop :=
  cs.length = ys.length * t.n ∧ ∀ i y, ys[i]? = some y → t.rep F w y ((cs.drop (i * t.n)).take t.n)

theorem Reps.mv {α : Type} {t : Ty α} {F F' : List (Option Nat)} {w w' : World} {ys : List α} {cs : List Value} (h : Reps t F w ys cs) (hm : Mv F F' w w') : Reps t F' w' ys cs :=
  ⟨h.1, fun i y hy => t.mv hm (h.2 i y hy)⟩
theorem Reps.nil {α : Type} {t : Ty α} {F : List (Option Nat)} {w : World} : Reps t F w [] [] := ⟨by simp, by simp⟩

/-! ### What a call owns -/

inductive Ob : Type 1 where
  /-- a variable in a block of its own -/
  | box (g : Nat) (e : TypeId) (cs : List Value)
  /-- a slice of the call's own: what its elements are, its value, its elements -/
  | row {α : Type} (t : Ty α) (e : TypeId) (v : Value) (ys : List α)
  /-- something that holds of memory that is not written -/
  | imm (S : List (Option Nat) → World → Prop) (mono : ∀ O O' w w', Mv O O' w w' → S O w → S O' w')

def Ob.blk : Ob → Option Nat
  | .box g _ _ => some g
  | .row _ _ v _ => v.ownBlock
  | .imm _ _ => none

def Ob.ok (base : Nat) (F : List (Option Nat)) (w : World) : Ob → Prop
  | .box g e cs => base ≤ g ∧ w.heap[g]? = some (.cells cs.toArray e (0, 0))
  | .row t e v ys => ∃ cs, w.ownsRow base e t.n v ys.length cs ∧ Reps t F w ys cs
  | .imm S _ => S F w

abbrev Ob.v {α : Type} (t : Ty α) (x : α) (v : Value) : Ob := .imm (V t x v) fun _ _ _ _ hm h => h.mv hm
abbrev Ob.p {α : Type} (t : Ty α) (x : α) (v : Value) : Ob := .imm (PtE t x v) fun _ _ _ _ hm h => h.mv hm

/-- All that must not be met by what is not written. -/
def fb (obs : List Ob) (O : List (Option Nat)) : List (Option Nat) := obs.map Ob.blk ++ O

/-- The state of a call: w0 the world in which it began, w the world now. -/
structure St (w0 : World) (O : List (Option Nat)) (w : World) (obs : List Ob) : Prop where
  bel : Ext w0 w
  olt : ∀ b, some b ∈ O → b < w0.heap.size
  ok : ∀ ob ∈ obs, ob.ok w0.heap.size (fb obs O) w
  sep : obs.Pairwise fun a b => a.blk = none ∨ a.blk ≠ b.blk

section
variable {w0 w w' : World} {O : List (Option Nat)} {obs : List Ob}

theorem Ob.ok_lt {ob : Ob} {base : Nat} {F : List (Option Nat)} (h : ob.ok base F w) {b : Nat} (hb : ob.blk = some b) : base ≤ b ∧ b < w.heap.size := by
  cases ob with
  | box g e cs =>
    simp only [Ob.blk, Option.some.injEq] at hb
    subst hb
    exact ⟨h.1, (Array.getElem?_eq_some_iff.1 h.2).1⟩
  | row t e v ys =>
    obtain ⟨cs, h, _⟩ := h
    exact World.ownsRow.lt h b hb
  | imm S m => simp [Ob.blk] at hb

theorem St.fb_lt (h : St w0 O w obs) : ∀ b, some b ∈ fb obs O → b < w.heap.size := by
  intro b hb
  rcases List.mem_append.1 hb with hb | hb
  · obtain ⟨ob, ho, hb⟩ := List.mem_map.1 hb
    exact (Ob.ok_lt (h.ok ob ho) hb).2
  · exact Nat.lt_of_lt_of_le (h.olt b hb) h.bel.size

/-- What held of the arguments when the call began holds now. -/
theorem St.mv0 (h : St w0 O w obs) : Mv O (fb obs O) w0 w := by
  refine ⟨h.bel.size, fun b hb hO => ⟨h.bel.block b hb, fun hm => ?_⟩⟩
  rcases List.mem_append.1 hm with hm | hm
  · obtain ⟨ob, ho, hm⟩ := List.mem_map.1 hm
    have := (Ob.ok_lt (h.ok ob ho) hm).1
    omega
  · exact hO hm

theorem St.arg {α : Type} {t : Ty α} {x : α} {v : Value} (h : St w0 O w obs) (hv : V t x v O w0) : V t x v (fb obs O) w := hv.mv h.mv0

theorem St.start (w0 : World) (O : List (Option Nat)) (hO : ∀ b, some b ∈ O → b < w0.heap.size) : St w0 O w0 [] :=
  ⟨Ext.refl _, hO, by simp, List.Pairwise.nil⟩
theorem St.start0 (w0 : World) : St w0 [] w0 [] := St.start w0 [] (by simp)

theorem St.get (h : St w0 O w obs) {ob : Ob} (i : Nat) (hi : obs[i]? = some ob) : ob.ok w0.heap.size (fb obs O) w := h.ok ob (List.mem_of_getElem? hi)

/-- A fact of memory that is not written. -/
theorem St.v {α : Type} {t : Ty α} {x : α} {v : Value} (h : St w0 O w obs) (i : Nat) (hi : obs[i]? = some (Ob.v t x v)) : V t x v (fb obs O) w := h.get i hi
theorem St.p {α : Type} {t : Ty α} {x : α} {v : Value} (h : St w0 O w obs) (i : Nat) (hi : obs[i]? = some (Ob.p t x v)) : PtE t x v (fb obs O) w := h.get i hi

theorem Ob.ok_ext {ob : Ob} {base : Nat} {F F' : List (Option Nat)} (h : ob.ok base F w) (hx : Ext w w') (hF : Mv F F' w w') : ob.ok base F' w' := by
  cases ob with
  | box g e cs => exact ⟨h.1, (hx.block g (Array.getElem?_eq_some_iff.1 h.2).1).trans h.2⟩
  | row t e v ys =>
    obtain ⟨cs, h, hr⟩ := h
    exact ⟨cs, World.ownsRow.kept (row := none) h ⟨hx.os, hx.tape, hx.output, hx.size, fun k hk _ => hx.block k hk⟩ (by cases hv : v.ownBlock <;> simp), hr.mv hF⟩
  | imm S m => exact m _ _ _ _ hF h

/-- Memory has grown; nothing that was there has turned. -/
theorem St.ext (h : St w0 O w obs) (hx : Ext w w') : St w0 O w' obs :=
  ⟨Ext.trans h.bel hx, h.olt, fun ob ho => Ob.ok_ext (h.ok ob ho) hx (.of_ext hx), h.sep⟩

/-- A fact more. -/
theorem St.addS {S : List (Option Nat) → World → Prop} {m : ∀ O O' w w', Mv O O' w w' → S O w → S O' w'} (h : St w0 O w obs) (hv : S (fb obs O) w) : St w0 O w (.imm S m :: obs) := by
  have hM : Mv (fb obs O) (fb (.imm S m :: obs) O) w w := ⟨Nat.le_refl _, fun b _ hb => ⟨rfl, fun hb' => hb (by simpa [fb, Ob.blk] using hb')⟩⟩
  refine ⟨h.bel, h.olt, fun ob ho => ?_, List.Pairwise.cons (fun _ _ => .inl rfl) h.sep⟩
  rcases List.mem_cons.1 ho with rfl | ho
  · exact m _ _ _ _ hM hv
  · exact Ob.ok_ext (h.ok ob ho) (Ext.refl _) hM

theorem St.add {α : Type} {t : Ty α} {x : α} {v : Value} (h : St w0 O w obs) (hv : V t x v (fb obs O) w) : St w0 O w (Ob.v t x v :: obs) := h.addS hv

/-- Objects are let go, or put in another order. -/
theorem St.sub {obs' : List Ob} (h : St w0 O w obs) (hs : obs'.Sublist obs) : St w0 O w obs' := by
  have hM : Mv (fb obs O) (fb obs' O) w w := .less fun b hb => by
    rcases List.mem_append.1 hb with hb | hb
    · exact List.mem_append.2 (.inl ((hs.map Ob.blk).subset hb))
    · exact List.mem_append.2 (.inr hb)
  exact ⟨h.bel, h.olt, fun ob ho => Ob.ok_ext (h.ok ob (hs.subset ho)) (Ext.refl _) hM, h.sep.sublist hs⟩

theorem St.drop (h : St w0 O w obs) (i : Nat) : St w0 O w (obs.eraseIdx i) := h.sub (List.eraseIdx_sublist obs i)

theorem St.tl {a : Ob} (h : St w0 O w (a :: obs)) : St w0 O w obs := h.sub (List.sublist_cons_self _ _)

/-- A new block of the call's own. -/
theorem St.new (h : St w0 O w obs) (e : TypeId) (cs : List Value) : St w0 O (w.alloc (.cells cs.toArray e)) (.box w.heap.size e cs :: obs) := by
  have hx : Ext w (w.alloc (.cells cs.toArray e)) := (Below.refl _ _).alloc (Nat.le_refl _) _
  have hM : Mv (fb obs O) (fb (.box w.heap.size e cs :: obs) O) w (w.alloc (.cells cs.toArray e)) := by
    refine ⟨hx.size, fun b hb hO => ⟨hx.block b hb, fun hm => ?_⟩⟩
    simp only [fb, List.map_cons, List.cons_append, Ob.blk] at hm
    rcases List.mem_cons.1 hm with hm | hm
    · injection hm with hm
      omega
    · exact hO hm
  refine ⟨Ext.trans h.bel hx, h.olt, fun ob ho => ?_, List.Pairwise.cons (fun ob ho => ?_) h.sep⟩
  · rcases List.mem_cons.1 ho with rfl | ho
    · exact ⟨h.bel.size, heap_alloc_new w _⟩
    · exact Ob.ok_ext (h.ok ob ho) hx hM
  · right
    intro hb
    have := (Ob.ok_lt (h.ok ob ho) (b := w.heap.size) hb.symm).2
    omega

/-- One object is turned into another one, whose block is the same or new; the rest is as it was. -/
theorem St.turn (h : St w0 O w obs) (i : Nat) {ob ob' : Ob} (hi : obs[i]? = some ob) (hos : w'.os = w.os) (htape : w'.tape = w.tape) (hout : w'.output = w.output) (hsz : w.heap.size ≤ w'.heap.size)
    (hbl : ∀ b, b < w.heap.size → some b ≠ ob.blk → w'.heap[b]? = w.heap[b]?) (hnew : ∀ b, ob'.blk = some b → ob.blk = some b ∨ w.heap.size ≤ b) (hlt : ∀ b, ob'.blk = some b → b < w'.heap.size)
    (hok : ∀ F, Mv (fb obs O) F w w' → ob'.ok w0.heap.size F w') : St w0 O w' (obs.set i ob') := by
  have hil : i < obs.length := (List.getElem?_eq_some_iff.1 hi).1
  have hmem : ob ∈ obs := List.mem_of_getElem? hi
  have hob := h.ok ob hmem
  have hx0 : Ext w0 w' := by
    refine Below.trans h.bel ⟨hos, htape, hout, hsz, fun k hk => ?_⟩
    refine hbl k (Nat.lt_of_lt_of_le hk h.bel.size) fun hb => ?_
    have := (Ob.ok_lt hob hb.symm).1
    omega
  have hM : Mv (fb obs O) (fb (obs.set i ob') O) w w' := by
    refine ⟨hsz, fun b hb hO => ⟨hbl b hb fun hb' => hO ?_, fun hm => ?_⟩⟩
    · exact List.mem_append.2 (.inl (List.mem_map.2 ⟨ob, hmem, hb'.symm⟩))
    · rcases List.mem_append.1 hm with hm | hm
      · obtain ⟨o2, ho2, hb2⟩ := List.mem_map.1 hm
        rcases List.mem_or_eq_of_mem_set ho2 with ho2 | rfl
        · exact hO (List.mem_append.2 (.inl (List.mem_map.2 ⟨o2, ho2, hb2⟩)))
        · rcases hnew b hb2 with h1 | h1
          · exact hO (List.mem_append.2 (.inl (List.mem_map.2 ⟨ob, hmem, h1⟩)))
          · omega
      · exact hO (List.mem_append.2 (.inr hm))
  have hsep := List.pairwise_iff_getElem.1 h.sep
  refine ⟨hx0, h.olt, fun o2 ho2 => ?_, ?_⟩
  · obtain ⟨j, hj, hje⟩ := List.mem_iff_getElem.1 ho2
    have hjl : j < obs.length := by simpa using hj
    rw [List.getElem_set] at hje
    by_cases hij : i = j
    · subst hij
      simp only [if_true] at hje
      subst hje
      exact hok _ hM
    · rw [if_neg hij] at hje
      subst hje
      have hob2 := h.ok obs[j] (List.getElem_mem hjl)
      have hne : obs[j].blk = none ∨ obs[j].blk ≠ ob.blk := by
        have hie : obs[i] = ob := (List.getElem?_eq_some_iff.1 hi).2
        rcases Nat.lt_or_gt_of_ne hij with hlt | hgt
        · rcases hsep i j hil hjl hlt with h0 | h0
          · rw [hie] at h0
            cases hb : obs[j].blk with
            | none => exact .inl rfl
            | some b => rw [h0]; exact .inr (by simp)
          · rw [hie] at h0
            exact .inr (Ne.symm h0)
        · rcases hsep j i hjl hil hgt with h0 | h0
          · exact .inl h0
          · rw [hie] at h0
            exact .inr h0
      have keep : ∀ b, obs[j].blk = some b → w'.heap[b]? = w.heap[b]? := fun b hb =>
        hbl b (Ob.ok_lt hob2 hb).2 (by
          intro hb'
          rcases hne with h0 | h0
          · rw [h0] at hb; cases hb
          · exact h0 (hb.trans hb'))
      revert hob2 keep
      generalize obs[j] = o3
      intro hob2 keep
      cases o3 with
      | box g e cs => exact ⟨hob2.1, (keep g rfl).trans hob2.2⟩
      | row t e v ys =>
        obtain ⟨cs, hw, hr⟩ := hob2
        refine ⟨cs, ⟨hw.1, ?_⟩, hr.mv hM⟩
        rcases hw.2 with hn | ⟨g, cap, cur, rfl, h1, h2, h3⟩
        · exact .inl hn
        · exact .inr ⟨g, cap, cur, rfl, h1, (keep g rfl).trans h2, h3⟩
      | imm S m => exact m _ _ _ _ hM hob2
  · rw [List.pairwise_iff_getElem]
    intro a b ha hb hab
    have ha' : a < obs.length := by simpa using ha
    have hb' : b < obs.length := by simpa using hb
    have old := hsep a b ha' hb' hab
    have hie : obs[i] = ob := (List.getElem?_eq_some_iff.1 hi).2
    rw [List.getElem_set, List.getElem_set]
    by_cases h1 : i = a
    · subst h1
      rw [if_pos rfl, if_neg (by omega)]
      cases hq : ob'.blk with
      | none => exact .inl rfl
      | some x =>
        right
        intro hx
        rcases hnew x hq with h2 | h2
        · rcases old with h3 | h3
          · rw [hie, h2] at h3; cases h3
          · rw [hie] at h3
            exact h3 (h2.trans hx)
        · have := (Ob.ok_lt (h.ok obs[b] (List.getElem_mem hb')) hx.symm).2
          omega
    · rw [if_neg h1]
      by_cases h2 : i = b
      · subst h2
        rw [if_pos rfl]
        cases hq : obs[a].blk with
        | none => exact .inl rfl
        | some x =>
          right
          intro hx
          rcases hnew x hx.symm with h3 | h3
          · rcases old with h4 | h4
            · rw [hq] at h4; cases h4
            · rw [hie, hq] at h4
              exact h4 h3.symm
          · have := (Ob.ok_lt (h.ok obs[a] (List.getElem_mem ha')) hq).2
            omega
      · rw [if_neg h2]
        exact old

/-- A slice that holds nothing yet. -/
theorem St.addNil {α : Type} (h : St w0 O w obs) (t : Ty α) (e : TypeId) : St w0 O w (.row t e (.slice none 0 0) ([] : List α) :: obs) := by
  have hM : Mv (fb obs O) (fb (.row t e (.slice none 0 0) ([] : List α) :: obs) O) w w := ⟨Nat.le_refl _, fun b _ hb => ⟨rfl, fun hb' => hb (by simpa [fb, Ob.blk, Value.ownBlock] using hb')⟩⟩
  refine ⟨h.bel, h.olt, fun ob ho => ?_, List.Pairwise.cons (fun _ _ => .inl rfl) h.sep⟩
  rcases List.mem_cons.1 ho with rfl | ho
  · exact ⟨[], World.ownsRow_nil w _ e t.n, Reps.nil⟩
  · exact Ob.ok_ext (h.ok ob ho) (Ext.refl _) hM

/-- An object more, in new memory. -/
theorem St.push (h : St w0 O w obs) (hx : Ext w w') (ob : Ob) (hb : ∀ b, ob.blk = some b → w.heap.size ≤ b) (hok : ∀ F, Mv (fb obs O) F w w' → ob.ok w0.heap.size F w') : St w0 O w' (ob :: obs) := by
  have hM : Mv (fb obs O) (fb (ob :: obs) O) w w' := by
    refine ⟨hx.size, fun b hbl hO => ⟨hx.block b hbl, fun hm => ?_⟩⟩
    simp only [fb, List.map_cons, List.cons_append] at hm
    rcases List.mem_cons.1 hm with hm | hm
    · have := hb b hm.symm
      omega
    · exact hO hm
  refine ⟨Ext.trans h.bel hx, h.olt, fun o2 ho => ?_, List.Pairwise.cons (fun o2 ho => ?_) h.sep⟩
  · rcases List.mem_cons.1 ho with rfl | ho
    · exact hok _ hM
    · exact Ob.ok_ext (h.ok o2 ho) hx hM
  · cases hq : ob.blk with
    | none => exact .inl rfl
    | some b =>
      right
      intro he
      have h1 := hb b hq
      have h2 := (Ob.ok_lt (h.ok o2 ho) he.symm).2
      omega

theorem row_els {α : Type} {t : Ty α} {base : Nat} {e : TypeId} {v : Value} {ys : List α} {F F' : List (Option Nat)} {cs : List Value} {g : Nat} (hr : w.ownsRow base e t.n v ys.length cs) (hR : Reps t F w ys cs) (hm : Mv F F' w w)
    (hg : v.ownBlock = some g) : Els t F' w ys g 0 := by
  intro i y hy
  refine ⟨_, t.mv hm (hR.2 i y hy), fun j u hu => ?_⟩
  rw [List.getElem?_take] at hu
  split at hu
  · rw [List.getElem?_drop] at hu
    have := hr.cells hg (i * t.n + j) u hu
    rw [Addr.add_lit, Nat.zero_add] at this
    rw [show 0 + i * t.n + j = i * t.n + j by omega]
    exact this
  · cases hu

/-- A slice of the call's own stands for its elements: for whoever only reads it. -/
theorem St.lend {α : Type} {t : Ty α} {e : TypeId} {v : Value} {ys : List α} (h : St w0 O w obs) (i : Nat) (hi : obs[i]? = some (.row t e v ys)) : V (tSl t) ys v (fb (obs.eraseIdx i) O) w := by
  have hil : i < obs.length := (List.getElem?_eq_some_iff.1 hi).1
  have hie : obs[i] = .row t e v ys := (List.getElem?_eq_some_iff.1 hi).2
  obtain ⟨cs, hr, hR⟩ := h.get i hi
  have hsub : ∀ b, some b ∈ fb (obs.eraseIdx i) O → some b ∈ fb obs O := fun b hb => by
    rcases List.mem_append.1 hb with hb | hb
    · exact List.mem_append.2 (.inl (((List.eraseIdx_sublist obs i).map Ob.blk).subset hb))
    · exact List.mem_append.2 (.inr hb)
  rcases hr.2 with ⟨rfl, hn⟩ | ⟨g, cap, cur, rfl, h1, h2, h3, h4, h5⟩
  · have : ys = [] := List.eq_nil_of_length_eq_zero hn
    subst this
    exact V.nil
  · refine V.of_form h3 h4 fun _ => ⟨g, 0, rfl, fun hm => ?_, (Array.getElem?_eq_some_iff.1 h2).1, row_els hr hR (.less hsub) rfl⟩
    have hsep := List.pairwise_iff_getElem.1 h.sep
    rcases List.mem_append.1 hm with hm | hm
    · obtain ⟨o2, ho2, hb2⟩ := List.mem_map.1 hm
      obtain ⟨j, hj, hje⟩ := List.mem_iff_getElem.1 ho2
      rw [List.getElem_eraseIdx] at hje
      have hbr : (Ob.row t e (.slice (some ⟨g, 0, none⟩) ys.length cap) ys).blk = some g := rfl
      split at hje
      · rename_i hlt
        have := hsep j i (by omega) hil hlt
        rw [hje, hie, hbr, hb2] at this
        simp at this
      · rename_i hge
        have hj' : j + 1 < obs.length := by
          have := hj
          rw [List.length_eraseIdx_of_lt hil] at this
          omega
        have := hsep i (j + 1) hil hj' (by omega)
        rw [hje, hie, hbr, hb2] at this
        simp at this
    · have := h.olt g hm
      omega

/-- A slice of the call's own, not written any more. -/
theorem St.freeze {α : Type} {t : Ty α} {e : TypeId} {v : Value} {ys : List α} (h : St w0 O w obs) (i : Nat) (hi : obs[i]? = some (.row t e v ys)) : St w0 O w (Ob.v (tSl t) ys v :: obs.eraseIdx i) :=
  (h.drop i).add (h.lend i hi)

end
end Go.Wk
