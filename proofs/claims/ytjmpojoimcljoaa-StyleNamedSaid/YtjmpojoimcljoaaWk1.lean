/-
  WHAT IS PROVED HERE: the rules of a walk over a function's code whose frame is a plain function from slots to values: entering, sequences, tests, blocks, loops, regions. Conditions: none; they hold over any program.
-/
import Derived.Tactics
import Derived.Deep.Quiet
import Derived.Deep.LoopGhost
import Derived.StillTail
import Derived.Below
namespace Go.Wk
open Go.RowKit

abbrev Fr := Nat → Value
abbrev Cont := Fr → World → Prop

/-- What the slots hold: the latest writes first, then an elder frame. -/
def look : List (Nat × Value) → Fr → Fr
  | [], σ, i => σ i
  | (d, v) :: l, σ, i => bif Nat.beq i d then v else look l σ i

def ev (σ : Fr) : Operand → Value
  | .tmp t => σ t
  | .const v => v
  | .global g => .pointer (some ⟨g, 0, none⟩)
  | .func f => .func (.func f) #[] #[]

def put (σ : Fr) : Option Tmp → Value → Fr
  | none, _ => σ
  | some d, v => look [(d, v)] σ

theorem look_cons (d : Nat) (v : Value) (l : List (Nat × Value)) (σ : Fr) : look ((d, v) :: l) σ = look [(d, v)] (look l σ) := by
  funext i
  simp [look]

/-- The frame's temporaries read as the function says. -/
def AtF (n : Nat) (σ : Fr) (T : Array Value) : Prop := T.size = n ∧ ∀ i, T.getD i undef = σ i

theorem AtF.eval {n : Nat} {σ : Fr} {T : Array Value} (h : AtF n σ T) (ds : List Deferred) : (Act.mk T ds).eval = ev σ := by
  funext x
  cases x with
  | tmp t => exact h.2 t
  | const v => rfl
  | global g => rfl
  | func f => rfl

def dstIn (n : Nat) : Option Tmp → Bool
  | none => true
  | some d => Nat.ble (d + 1) n

theorem AtF.put {n : Nat} {σ : Fr} {T : Array Value} (h : AtF n σ T) (dst : Option Tmp) (v : Value) (hd : dstIn n dst = true) (ds : List Deferred) :
    ∃ T', (Act.mk T ds).put dst v = ⟨T', ds⟩ ∧ AtF n (Wk.put σ dst v) T' := by
  cases dst with
  | none => exact ⟨T, rfl, h⟩
  | some d =>
    refine ⟨T.setIfInBounds d v, rfl, by simpa using h.1, fun i => ?_⟩
    have hdn : d < T.size := by
      have : d + 1 ≤ n := Nat.le_of_ble_eq_true hd
      rw [h.1]; exact this
    simp only [Wk.put, look]
    by_cases hi : i = d
    · subst hi
      simp [Array.getD, hdn]
    · have hb : Nat.beq i d = false := by
        cases hq : Nat.beq i d with
        | false => rfl
        | true => exact absurd (Nat.eq_of_beq_eq_true hq) hi
      rw [hb]
      have := h.2 i
      simp only [cond_false]
      rw [← this]
      simp only [Array.getD_eq_getD_getElem?]
      rw [Array.getElem?_setIfInBounds_ne (Ne.symm hi)]

def findEx (id : Nat) : List (Nat × Cont) → Option Cont
  | [] => none
  | (i, k) :: l => bif Nat.beq id i then some k else findEx id l

def post (n : Nat) (kn kr : Cont) (ke : List (Nat × Cont)) : Exit → Act → World → Prop
  | .normal, a, w => a.tmps.size = n ∧ a.defers = [] ∧ kn (fun i => a.tmps.getD i undef) w
  | .ret, a, w => a.tmps.size = n ∧ a.defers = [] ∧ kr (fun i => a.tmps.getD i undef) w
  | .exit id, a, w => a.tmps.size = n ∧ a.defers = [] ∧ match findEx id ke with
    | some k => k (fun i => a.tmps.getD i undef) w
    | none => False
  | _, _, _ => False

/-- The code, from a frame and a world on, comes to one of the three ends. -/
def W (P : Program) (n : Nat) (c : Code) (kn kr : Cont) (ke : List (Nat × Cont)) (σ : Fr) (w : World) : Prop :=
  ∀ T, AtF n σ T → c.wp P (post n kn kr ke) ⟨T, []⟩ w

/-- The same of a list of operations of a region whose order is the text's. -/
def Wo (P : Program) (n : Nat) (ops : Array Oper) (rest : List Oper) (k : Cont) (σ : Fr) (w : World) : Prop :=
  ∀ T, AtF n σ T → wpList P ops (post n k (fun _ _ => False) []) rest ⟨T, []⟩ w

abbrev Ext (w w' : World) : Prop := Below w.heap.size w w'
theorem Ext.refl (w : World) : Ext w w := Below.refl _ _
theorem Ext.trans {a b c : World} (h : Ext a b) (k : Ext b c) : Ext a c := Below.trans h (k.mono h.size)

/-- The same of a region that draws its order: each operation yields one value in every world that extends the first. -/
def Wq (P : Program) (n : Nat) (ops : Array Oper) (w0 : World) (rest : List Oper) (k : Cont) (σ : Fr) : Prop :=
  ∀ T, AtF n σ T → wpQuiet P ops (Ext w0) (fun a' => a'.tmps.size = n ∧ a'.defers = [] ∧ ∀ w', Ext w0 w' → k (fun i => a'.tmps.getD i undef) w') rest ⟨T, []⟩

section
variable {P : Program} {n : Nat} {kn kr : Cont} {ke : List (Nat × Cont)} {σ : Fr} {w : World}

theorem AtF.fun_eq {T : Array Value} (h : AtF n σ T) : (fun i => T.getD i undef) = σ := funext h.2
theorem AtF.self {T : Array Value} (h : T.size = n) : AtF n (fun i => T.getD i undef) T := ⟨h, fun _ => rfl⟩

theorem post_mono {kn' : Cont} (hk : ∀ σ w, kn σ w → kn' σ w) : ∀ e a w, post n kn kr ke e a w → post n kn' kr ke e a w := by
  intro e a w h
  cases e <;> first | exact h | exact ⟨h.1, h.2.1, hk _ _ h.2.2⟩

theorem W.mono {c : Code} {kn' : Cont} (h : W P n c kn kr ke σ w) (hk : ∀ σ w, kn σ w → kn' σ w) : W P n c kn' kr ke σ w :=
  fun T hT => wp_mono (h T hT) (post_mono hk)

theorem W.seq {a b : Code} (h : W P n a (fun σ w => W P n b kn kr ke σ w) kr ke σ w) : W P n (.seq a b) kn kr ke σ w := by
  intro T hT
  refine wp_seq (wp_mono (h T hT) ?_)
  intro e a' w' hq
  cases e with
  | normal =>
    obtain ⟨h1, h2, h3⟩ := hq
    have := h3 a'.tmps (AtF.self h1)
    cases a'
    simp only at h2
    subst h2
    exact this
  | exit id => exact hq
  | goto l => exact hq
  | ret => exact hq
  | panic ch => exact hq
  | outgrown => exact hq

theorem W.skip (h : kn σ w) : W P n .skip kn kr ke σ w :=
  fun T hT => wp_skip ⟨hT.1, rfl, by rw [hT.fun_eq]; exact h⟩

theorem W.ret (h : kr σ w) : W P n .ret kn kr ke σ w :=
  fun T hT => wp_ret ⟨hT.1, rfl, by rw [hT.fun_eq]; exact h⟩

theorem W.exit {id : Nat} {k : Cont} (hk : findEx id ke = some k) (h : k σ w) : W P n (.exit id) kn kr ke σ w :=
  fun T hT => wp_exit ⟨hT.1, rfl, by rw [hk]; simp only; rw [hT.fun_eq]; exact h⟩

theorem W.block {id : Nat} {c : Code} (h : W P n c kn kr ((id, kn) :: ke) σ w) : W P n (.block id c) kn kr ke σ w := by
  intro T hT
  refine wp_block (wp_mono (h T hT) ?_)
  intro e a' w' hq
  cases e with
  | exit id' =>
    simp only [post, findEx] at hq
    simp only [Exit.inBlock]
    by_cases hid : id' = id
    · subst hid
      have hb : Nat.beq id' id' = true := Nat.beq_refl id'
      rw [if_pos rfl]
      rw [hb] at hq
      exact hq
    · have hb : Nat.beq id' id = false := by
        cases hq' : Nat.beq id' id with
        | false => rfl
        | true => exact absurd (Nat.eq_of_beq_eq_true hq') hid
      rw [if_neg hid]
      rw [hb] at hq
      exact hq
  | normal => exact hq
  | goto l => exact hq
  | ret => exact hq
  | panic ch => exact hq
  | outgrown => exact hq

/-- A test. -/
theorem W.cond {c : Operand} {x y : Code} {t : Bool} (hc : ev σ c = .bool t) (hx : t = true → W P n x kn kr ke σ w) (hy : t = false → W P n y kn kr ke σ w) :
    W P n (.cond c x y) kn kr ke σ w := by
  intro T hT
  have hc' : (Act.mk T []).eval c = .bool t := by rw [hT.eval]; exact hc
  cases t with
  | true => exact wp_cond_true hc' (hx rfl T hT)
  | false => exact wp_cond_false hc' (hy rfl T hT)

theorem W.condD {c : Operand} {x y : Code} {p : Prop} [Decidable p] (hc : ev σ c = .bool (decide p)) (hx : p → W P n x kn kr ke σ w) (hy : ¬ p → W P n y kn kr ke σ w) :
    W P n (.cond c x y) kn kr ke σ w :=
  W.cond hc (fun h => hx (of_decide_eq_true h)) (fun h => hy (of_decide_eq_false h))

theorem W.condT {c : Operand} {x y : Code} {t : Bool} (hc : ev σ c = .bool t) (ht : t = true) (hx : W P n x kn kr ke σ w) : W P n (.cond c x y) kn kr ke σ w :=
  W.cond hc (fun _ => hx) (fun h => by rw [ht] at h; cases h)
theorem W.condF {c : Operand} {x y : Code} {t : Bool} (hc : ev σ c = .bool t) (ht : t = false) (hy : W P n y kn kr ke σ w) : W P n (.cond c x y) kn kr ke σ w :=
  W.cond hc (fun h => by rw [ht] at h; cases h) (fun _ => hy)

/-- A region in the text's order. -/
theorem W.region {id : Nat} {l : List Oper} (h : Wo P n l.toArray l kn σ w) : W P n (.region id l.toArray false) kn kr ke σ w := by
  intro T hT
  refine wp_mono (wp_region_lit (h T hT)) ?_
  intro e a' w' hq
  cases e <;> first | exact hq | exact hq.2.2.elim | skip

theorem ext_drawn (w : World) : Ext w { w with drawn := w.drawn + 1 } := ⟨rfl, rfl, rfl, Nat.le_refl _, fun _ _ => rfl⟩

/-- A region that draws its order, all its operations quiet. -/
theorem W.regionQ {id : Nat} {l : List Oper} (hm : P.follows .mixedOrders = true) (hB : Region.lexB .any l.toArray = true) (h : Wq P n l.toArray w l kn σ) :
    W P n (.region id l.toArray true) kn kr ke σ w := by
  intro T hT
  refine wp_region_quiet (C := Ext w) hm hB (ext_drawn w) ?_
  have := h T hT
  generalize hQ : (fun a' : Act => a'.tmps.size = n ∧ a'.defers = [] ∧ ∀ w', Ext w w' → kn (fun i => a'.tmps.getD i undef) w') = Q at this
  have hQ' : ∀ a', Q a' → ∀ w', Ext w w' → post n kn kr ke .normal a' w' := by
    subst hQ
    exact fun a' h w' hw' => ⟨h.1, h.2.1, h.2.2 w' hw'⟩
  clear hQ h
  show wpQuiet P l.toArray (Ext w) _ l ⟨T, []⟩
  revert this
  generalize hops : l.toArray = ops
  clear hops hB
  generalize (Act.mk T []) = a
  clear hT T
  revert a
  induction l with
  | nil => intro a h; exact hQ' a h
  | cons o l ih =>
    intro a h
    simp only [wpQuiet] at h ⊢
    split
    · rename_i hw
      rw [if_pos hw] at h
      exact Oper.quiet_mono (fun a h => ih a h) h
    · rename_i hw
      rw [if_neg hw] at h
      exact ih _ h

/-! ### Operations -/

theorem Wo.nil {ops : Array Oper} {k : Cont} (h : k σ w) : Wo P n ops [] k σ w :=
  fun T hT => wpList_nil ⟨hT.1, rfl, by rw [hT.fun_eq]; exact h⟩

theorem Wq.nil {ops : Array Oper} {w0 : World} {k : Cont} (h : ∀ w', Ext w0 w' → k σ w') : Wq P n ops w0 [] k σ :=
  fun T hT => wpQuiet_nil ⟨hT.1, rfl, fun w' hw' => by rw [hT.fun_eq]; exact h w' hw'⟩

/-- What an operation comes to does not hang on its slot, place, edges and guard. -/
def xop (ρ : Operand → Value) (op : Op) (ty : TypeId) : Sem Next := execOp ρ ⟨none, op, ty, "", #[], none⟩
theorem execOp_xop (ρ : Operand → Value) (o : Oper) : execOp ρ o = xop ρ o.op o.type := by
  cases o with
  | mk dst op ty pos af g => cases op <;> rfl

/-- One operation that yields a value. -/
theorem Wo.val {ops : Array Oper} {rest : List Oper} {k : Cont} {dst : Option Tmp} {op : Op} {ty : TypeId} {pos : String} {af : Array Edge} {v : Value} {w' : World}
    (hrun : (xop (ev σ) op ty).run P w = .ok (.value v) w') (hd : dstIn n dst = true) (h : Wo P n ops rest k (put σ dst v) w') :
    Wo P n ops (⟨dst, op, ty, pos, af, none⟩ :: rest) k σ w := by
  intro T hT
  refine wpList_plain rfl fun K hK => ?_
  obtain ⟨T', hT', hF⟩ := hT.put dst v hd []
  have := h T' hF
  unfold Oper.wp
  rw [hT.eval, execOp_xop]
  dsimp only
  rw [hrun]
  show K ((Act.mk T []).put dst v) w'
  rw [hT']
  exact hK _ _ this

theorem Wo.unit {ops : Array Oper} {rest : List Oper} {k : Cont} {dst : Option Tmp} {op : Op} {ty : TypeId} {pos : String} {af : Array Edge} {w' : World}
    (hrun : (xop (ev σ) op ty).run P w = .ok .skip w') (hd : dstIn n dst = true) (h : Wo P n ops rest k (put σ dst undef) w') :
    Wo P n ops (⟨dst, op, ty, pos, af, none⟩ :: rest) k σ w := by
  intro T hT
  refine wpList_plain rfl fun K hK => ?_
  obtain ⟨T', hT', hF⟩ := hT.put dst undef hd []
  have := h T' hF
  unfold Oper.wp
  rw [hT.eval, execOp_xop]
  dsimp only
  rw [hrun]
  show K ((Act.mk T []).put dst undef) w'
  rw [hT']
  exact hK _ _ this

/-- A value that an operation yields in this world and in each that extends it, the world left alone. -/
def Rd (P : Program) (σ : Fr) (op : Op) (ty : TypeId) (w : World) (v : Value) : Prop :=
  ∀ w', Ext w w' → (xop (ev σ) op ty).run P w' = .ok (.value v) w'

/-- The value under another spelling. -/
theorem Rd.to {op : Op} {ty : TypeId} {v v' : Value} (h : Rd P σ op ty w v) (e : v = v') : Rd P σ op ty w v' := e ▸ h

theorem Wo.rd {ops : Array Oper} {rest : List Oper} {k : Cont} {d : Tmp} {op : Op} {ty : TypeId} {pos : String} {af : Array Edge} {v : Value} {l : List (Nat × Value)} {σ0 : Fr}
    (hr : Rd P (look l σ0) op ty w v) (hd : Nat.ble (d + 1) n = true) (h : Wo P n ops rest k (look ((d, v) :: l) σ0) w) :
    Wo P n ops (⟨some d, op, ty, pos, af, none⟩ :: rest) k (look l σ0) w :=
  Wo.val (hr w (Ext.refl w)) hd (by rw [look_cons] at h; exact h)

theorem Wq.rd {ops : Array Oper} {rest : List Oper} {k : Cont} {d : Tmp} {op : Op} {ty : TypeId} {pos : String} {af : Array Edge} {v : Value} {l : List (Nat × Value)} {σ0 : Fr} {w0 : World}
    (hr : Rd P (look l σ0) op ty w0 v) (hd : Nat.ble (d + 1) n = true) (h : Wq P n ops w0 rest k (look ((d, v) :: l) σ0)) :
    Wq P n ops w0 (⟨some d, op, ty, pos, af, none⟩ :: rest) k (look l σ0) := by
  intro T hT
  have hw : Region.wanted (⟨some d, op, ty, pos, af, none⟩ : Oper) (yielded ops (Act.mk T []).tmps) = true := rfl
  obtain ⟨T', hT', hF⟩ := hT.put (some d) v hd []
  rw [look_cons] at h
  refine wpQuiet_step fun K hK => ?_
  rw [if_pos hw]
  refine ⟨v, fun w' hw' => ?_, ?_⟩
  · unfold Oper.quietAt
    rw [hT.eval, execOp_xop]
    rw [hr w' hw']
    exact ⟨rfl, rfl⟩
  · rw [hT']
    exact hK _ (h T' hF)

/-- Both kinds of a region under one name: drawn or not. -/
def Wx (P : Program) (n : Nat) (ops : Array Oper) (q : Bool) (rest : List Oper) (k : Cont) (σ : Fr) (w : World) : Prop :=
  match q with
  | false => Wo P n ops rest k σ w
  | true => Wq P n ops w rest k σ

theorem W.reg {id : Nat} {l : List Oper} (h : Wx P n l.toArray false l kn σ w) : W P n (.region id l.toArray false) kn kr ke σ w := W.region h
theorem W.regQ {id : Nat} {l : List Oper} (hm : P.follows .mixedOrders = true) (hB : Region.lexB .any l.toArray = true) (h : Wx P n l.toArray true l kn σ w) :
    W P n (.region id l.toArray true) kn kr ke σ w := W.regionQ hm hB h
theorem Wx.nil {ops : Array Oper} {k : Cont} (h : k σ w) : Wx P n ops false [] k σ w := Wo.nil h
theorem Wx.nilQ {ops : Array Oper} {k : Cont} (h : ∀ w', Ext w w' → k σ w') : Wx P n ops true [] k σ w := Wq.nil h

theorem Wx.rd {ops : Array Oper} {q : Bool} {rest : List Oper} {k : Cont} {d : Tmp} {op : Op} {ty : TypeId} {pos : String} {af : Array Edge} {v : Value} {l : List (Nat × Value)} {σ0 : Fr}
    (hr : Rd P (look l σ0) op ty w v) (hd : Nat.ble (d + 1) n = true) (h : Wx P n ops q rest k (look ((d, v) :: l) σ0) w) :
    Wx P n ops q (⟨some d, op, ty, pos, af, none⟩ :: rest) k (look l σ0) w := by
  cases q with
  | false => exact Wo.rd hr hd h
  | true => exact Wq.rd hr hd h

/-! ### Guards -/
def isB : Value → Bool → Bool
  | .bool true, true => true
  | .bool false, false => true
  | _, _ => false

def gdst (ops : Array Oper) (j : Nat) : Option Tmp := (ops[j]?).bind (·.dst)

theorem wanted_of {ops : Array Oper} {T : Array Value} {o : Oper} {j dj : Nat} {b : Bool} (hT : AtF n σ T) (hg : o.guard = some (j, b)) (hj : gdst ops j = some dj) (hn : Nat.ble (dj + 1) n = true) :
    Region.wanted o (yielded ops T) = isB (σ dj) b := by
  have hlt : dj < T.size := by
    have := Nat.le_of_ble_eq_true hn
    rw [hT.1]; omega
  have hv : T[dj]? = some (σ dj) := by
    have := hT.2 dj
    rw [← this]
    simp [hlt]
  unfold gdst at hj
  simp only [Region.wanted, hg, yielded, hj, Option.bind_some, hv]
  cases hs : σ dj <;> try (simp [isB]; done)
  rename_i c
  cases c <;> cases b <;> rfl

theorem Wo.gyes {ops : Array Oper} {rest : List Oper} {k : Cont} {dst : Option Tmp} {op : Op} {ty : TypeId} {pos : String} {af : Array Edge} {j dj : Nat} {b : Bool}
    (hj : gdst ops j = some dj) (hn : Nat.ble (dj + 1) n = true) (hv : σ dj = .bool b) (h : Wo P n ops (⟨dst, op, ty, pos, af, none⟩ :: rest) k σ w) :
    Wo P n ops (⟨dst, op, ty, pos, af, some (j, b)⟩ :: rest) k σ w := by
  intro T hT
  have h' := h T hT
  have hw := wanted_of (o := ⟨dst, op, ty, pos, af, some (j, b)⟩) hT rfl hj hn
  have hb : isB (σ dj) b = true := by rw [hv]; cases b <;> rfl
  rw [hb] at hw
  unfold wpList at h' ⊢
  rw [if_pos hw]
  rw [if_pos (show Region.wanted _ _ = true from rfl)] at h'
  rcases h' with h' | ⟨_, h'⟩
  · refine .inl ?_
    unfold Oper.wp at h' ⊢
    rw [execOp_xop] at h' ⊢
    exact h'
  · obtain ⟨_, _, h'⟩ := h'
    exact h'.elim

theorem Wo.gno {ops : Array Oper} {rest : List Oper} {k : Cont} {d : Tmp} {op : Op} {ty : TypeId} {pos : String} {af : Array Edge} {j dj : Nat} {b : Bool} {l : List (Nat × Value)} {σ0 : Fr}
    (hj : gdst ops j = some dj) (hn : Nat.ble (dj + 1) n = true) (hv : isB (look l σ0 dj) b = false) (hd : Nat.ble (d + 1) n = true)
    (h : Wo P n ops rest k (look ((d, undef) :: l) σ0) w) : Wo P n ops (⟨some d, op, ty, pos, af, some (j, b)⟩ :: rest) k (look l σ0) w := by
  intro T hT
  have hw := wanted_of (o := ⟨some d, op, ty, pos, af, some (j, b)⟩) hT rfl hj hn
  rw [hv] at hw
  obtain ⟨T', hT', hF⟩ := hT.put (some d) undef hd []
  rw [look_cons] at h
  unfold wpList
  rw [if_neg (by rw [hw]; decide)]
  rw [hT']
  exact h T' hF

theorem isB_ne {c b : Bool} (h : (c == b) = false) : isB (.bool c) b = false := by cases c <;> cases b <;> first | rfl | cases h

theorem Wq.gyes {ops : Array Oper} {rest : List Oper} {k : Cont} {dst : Option Tmp} {op : Op} {ty : TypeId} {pos : String} {af : Array Edge} {j dj : Nat} {b : Bool} {w0 : World}
    (hj : gdst ops j = some dj) (hn : Nat.ble (dj + 1) n = true) (hv : σ dj = .bool b) (h : Wq P n ops w0 (⟨dst, op, ty, pos, af, none⟩ :: rest) k σ) :
    Wq P n ops w0 (⟨dst, op, ty, pos, af, some (j, b)⟩ :: rest) k σ := by
  intro T hT
  have h' := h T hT
  have hw := wanted_of (o := ⟨dst, op, ty, pos, af, some (j, b)⟩) hT rfl hj hn
  have hb : isB (σ dj) b = true := by rw [hv]; cases b <;> rfl
  rw [hb] at hw
  unfold wpQuiet at h' ⊢
  rw [if_pos hw]
  rw [if_pos (show Region.wanted _ _ = true from rfl)] at h'
  obtain ⟨v, h1, h2⟩ := h'
  refine ⟨v, fun w' hw' => ?_, h2⟩
  have := h1 w' hw'
  unfold Oper.quietAt at this ⊢
  rw [execOp_xop] at this ⊢
  exact this

theorem Wq.gno {ops : Array Oper} {rest : List Oper} {k : Cont} {d : Tmp} {op : Op} {ty : TypeId} {pos : String} {af : Array Edge} {j dj : Nat} {b : Bool} {l : List (Nat × Value)} {σ0 : Fr} {w0 : World}
    (hj : gdst ops j = some dj) (hn : Nat.ble (dj + 1) n = true) (hv : isB (look l σ0 dj) b = false) (hd : Nat.ble (d + 1) n = true)
    (h : Wq P n ops w0 rest k (look ((d, undef) :: l) σ0)) : Wq P n ops w0 (⟨some d, op, ty, pos, af, some (j, b)⟩ :: rest) k (look l σ0) := by
  intro T hT
  have hw := wanted_of (o := ⟨some d, op, ty, pos, af, some (j, b)⟩) hT rfl hj hn
  rw [hv] at hw
  obtain ⟨T', hT', hF⟩ := hT.put (some d) undef hd []
  rw [look_cons] at h
  unfold wpQuiet
  rw [if_neg (by rw [hw]; decide)]
  rw [hT']
  exact h T' hF

theorem Wx.gyes {ops : Array Oper} {q : Bool} {rest : List Oper} {k : Cont} {dst : Option Tmp} {op : Op} {ty : TypeId} {pos : String} {af : Array Edge} {j dj : Nat} {b : Bool}
    (hj : gdst ops j = some dj) (hn : Nat.ble (dj + 1) n = true) (hv : σ dj = .bool b) (h : Wx P n ops q (⟨dst, op, ty, pos, af, none⟩ :: rest) k σ w) :
    Wx P n ops q (⟨dst, op, ty, pos, af, some (j, b)⟩ :: rest) k σ w := by
  cases q with
  | false => exact Wo.gyes hj hn hv h
  | true => exact Wq.gyes hj hn hv h

theorem Wx.gno {ops : Array Oper} {q : Bool} {rest : List Oper} {k : Cont} {d : Tmp} {op : Op} {ty : TypeId} {pos : String} {af : Array Edge} {j dj : Nat} {b : Bool} {l : List (Nat × Value)} {σ0 : Fr}
    (hj : gdst ops j = some dj) (hn : Nat.ble (dj + 1) n = true) (hv : isB (look l σ0 dj) b = false) (hd : Nat.ble (d + 1) n = true)
    (h : Wx P n ops q rest k (look ((d, undef) :: l) σ0) w) : Wx P n ops q (⟨some d, op, ty, pos, af, some (j, b)⟩ :: rest) k (look l σ0) w := by
  cases q with
  | false => exact Wo.gno hj hn hv hd h
  | true => exact Wq.gno hj hn hv hd h

/-- The guard's truth value is the other one. -/
theorem Wx.gnoB {ops : Array Oper} {q : Bool} {rest : List Oper} {k : Cont} {d : Tmp} {op : Op} {ty : TypeId} {pos : String} {af : Array Edge} {j dj : Nat} {b c : Bool} {l : List (Nat × Value)} {σ0 : Fr}
    (hj : gdst ops j = some dj) (hn : Nat.ble (dj + 1) n = true) (hv : look l σ0 dj = .bool c) (hc : (c == b) = false) (hd : Nat.ble (d + 1) n = true)
    (h : Wx P n ops q rest k (look ((d, undef) :: l) σ0) w) : Wx P n ops q (⟨some d, op, ty, pos, af, some (j, b)⟩ :: rest) k (look l σ0) w :=
  Wx.gno hj hn (by rw [hv]; exact isB_ne hc) hd h

/-! ### Calls -/
/-- The callee comes back, old memory as it was. -/
def Ret (w : World) (Q : Value → World → Prop) : Ending → World → Prop := fun e w' => ∃ r, e = .returned r ∧ Ext w w' ∧ Q r w'

theorem Ret.mono {w : World} {Q Q' : Value → World → Prop} (h : ∀ r w', Q r w' → Q' r w') : ∀ e w', Ret w Q e w' → Ret w Q' e w' :=
  fun _ _ ⟨r, h1, h2, h3⟩ => ⟨r, h1, h2, h _ _ h3⟩

/-- Any end of a call, with nothing said of old memory. -/
def Bk (Q : Value → World → Prop) : Ending → World → Prop := fun e w' => ∃ r, e = .returned r ∧ Q r w'

theorem Wo.callB {ops : Array Oper} {rest : List Oper} {k : Cont} {dst : Option Tmp} {op : Op} {ty : TypeId} {pos : String} {af : Array Edge} {f : FuncId} {args : Array Value} {Q : Value → World → Prop}
    (hrun : (xop (ev σ) op ty).run P w = .ok (.enter f args) w) (hc : Calls P f args w (Bk Q)) (hd : dstIn n dst = true)
    (h : ∀ r w', Q r w' → Wo P n ops rest k (put σ dst r) w') : Wo P n ops (⟨dst, op, ty, pos, af, none⟩ :: rest) k σ w := by
  intro T hT
  refine wpList_plain rfl fun K hK => ?_
  unfold Oper.wp
  rw [hT.eval, execOp_xop]
  dsimp only
  rw [hrun]
  refine Calls.mono hc ?_
  rintro e w' ⟨r, rfl, hq⟩
  obtain ⟨T', hT', hF⟩ := hT.put dst r hd []
  have := h r w' hq T' hF
  show K ((Act.mk T []).put dst r) w'
  rw [hT']
  exact hK _ _ this

theorem Wq.callB {ops : Array Oper} {rest : List Oper} {k : Cont} {dst : Option Tmp} {op : Op} {ty : TypeId} {pos : String} {af : Array Edge} {f : FuncId} {args : Array Value} {v : Value} {w0 : World}
    (hrun : ∀ w', (xop (ev σ) op ty).run P w' = .ok (.enter f args) w') (hc : ∀ w', Ext w0 w' → Calls P f args w' (Ret w' (fun r _ => r = v))) (hd : dstIn n dst = true)
    (h : Wq P n ops w0 rest k (put σ dst v)) : Wq P n ops w0 (⟨dst, op, ty, pos, af, none⟩ :: rest) k σ := by
  intro T hT
  have hw : Region.wanted (⟨dst, op, ty, pos, af, none⟩ : Oper) (yielded ops (Act.mk T []).tmps) = true := rfl
  obtain ⟨T', hT', hF⟩ := hT.put dst v hd []
  refine wpQuiet_step fun K hK => ?_
  rw [if_pos hw]
  refine ⟨v, fun w' hw' => ?_, ?_⟩
  · unfold Oper.quietAt
    rw [hT.eval, execOp_xop]
    dsimp only
    rw [hrun w']
    refine ⟨rfl, Calls.mono (hc w' hw') ?_⟩
    rintro e w2 ⟨r, rfl, he, rfl⟩
    exact ⟨rfl, Ext.trans hw' he⟩
  · rw [hT']
    exact hK _ (h T' hF)

/-- A call of a function of the program. -/
theorem Wx.callF {ops : Array Oper} {rest : List Oper} {k : Cont} {d : Tmp} {c : Call} {ty : TypeId} {pos : String} {af : Array Edge} {f : FuncId} {args : Array Value} {Q : Value → World → Prop} {l : List (Nat × Value)} {σ0 : Fr}
    (hrun : ∀ w', (xop (ev (look l σ0)) (.call c) ty).run P w' = .ok (.enter f args) w') (hc : Calls P f args w (Ret w Q)) (hd : Nat.ble (d + 1) n = true)
    (h : ∀ r w', Ext w w' → Q r w' → Wx P n ops false rest k (look ((d, r) :: l) σ0) w') : Wx P n ops false (⟨some d, .call c, ty, pos, af, none⟩ :: rest) k (look l σ0) w :=
  Wo.callB (Q := fun r w' => Ext w w' ∧ Q r w') (hrun w) hc hd fun r w' hq => by
    have := h r w' hq.1 hq.2
    rw [look_cons] at this
    exact this

/-- A call that hands back one value, whatever the region. -/
theorem Wx.callV {ops : Array Oper} {rest : List Oper} {k : Cont} {d : Tmp} {c : Call} {ty : TypeId} {pos : String} {af : Array Edge} {f : FuncId} {args : Array Value} {v : Value} {l : List (Nat × Value)} {σ0 : Fr}
    (hrun : ∀ w', (xop (ev (look l σ0)) (.call c) ty).run P w' = .ok (.enter f args) w') (hc : ∀ w', Ext w w' → Calls P f args w' (Ret w' (fun r _ => r = v))) (hd : Nat.ble (d + 1) n = true)
    (h : Wx P n ops true rest k (look ((d, v) :: l) σ0) w) : Wx P n ops true (⟨some d, .call c, ty, pos, af, none⟩ :: rest) k (look l σ0) w :=
  Wq.callB hrun hc hd (by rw [look_cons] at h; exact h)

/-! ### Entering -/
def argl : Nat → List Value → List (Nat × Value)
  | _, [] => []
  | i, v :: vs => (i, v) :: argl (i + 1) vs

def und : Fr := fun _ => undef

theorem look_argl : ∀ (vs : List Value) (j i : Nat), look (argl j vs) und i = if j ≤ i then (vs[i - j]?).getD undef else undef
  | [], j, i => by simp [argl, look, und]
  | v :: vs, j, i => by
    have ih := look_argl vs (j + 1) i
    simp only [argl, look]
    by_cases h : i = j
    · subst h
      have hb : Nat.beq i i = true := Nat.beq_refl i
      rw [hb]; simp
    · have hb : Nat.beq i j = false := by
        cases hq : Nat.beq i j with
        | false => rfl
        | true => exact absurd (Nat.eq_of_beq_eq_true hq) h
      rw [hb, cond_false, ih]
      by_cases h2 : j ≤ i
      · rw [if_pos h2, if_pos (by omega)]
        rw [show i - j = (i - (j + 1)) + 1 by omega]
        simp
      · rw [if_neg h2, if_neg (by omega)]

/-- What a function hands back, out of its frame. -/
def ResIs (P : Program) (rs : Array ResultVar) (σ : Fr) (w : World) (v : Value) : Prop :=
  ∀ fn : Func, fn.results = rs → ∀ T n, AtF n σ T → (results fn T).run P w = .ok v w

theorem ResIs.one {t : Tmp} : ResIs P #[.tmp t] σ w (σ t) := by
  intro fn hf T n hT
  rw [results_tmp hf]
  rw [hT.2 t]
theorem ResIs.two {t u : Tmp} : ResIs P #[.tmp t, .tmp u] σ w (.tuple #[σ t, σ u]) := by
  intro fn hf T n hT
  rw [results_tmp2 hf]
  rw [hT.2 t, hT.2 u]
theorem ResIs.zero : ResIs P #[] σ w (.tuple #[]) := by
  intro fn hf T n hT
  rw [results_none hf]
theorem ResIs.four {t u v x : Tmp} : ResIs P #[.tmp t, .tmp u, .tmp v, .tmp x] σ w (.tuple #[σ t, σ u, σ v, σ x]) := by
  intro fn hf T n hT
  have h1 := hT.2 t; have h2 := hT.2 u; have h3 := hT.2 v; have h4 := hT.2 x
  simp only [Array.getD_eq_getD_getElem?] at h1 h2 h3 h4
  simp [results, hf, h1, h2, h3, h4]
theorem ResIs.three {t u v : Tmp} : ResIs P #[.tmp t, .tmp u, .tmp v] σ w (.tuple #[σ t, σ u, σ v]) := by
  intro fn hf T n hT
  have h1 := hT.2 t; have h2 := hT.2 u; have h3 := hT.2 v
  simp only [Array.getD_eq_getD_getElem?] at h1 h2 h3
  simp [results, hf, h1, h2, h3]

theorem enterB {f : FuncId} {fn : Func} {c : Code} {vs : List Value} {rs : Array ResultVar} {Q : Value → World → Prop} (hf : P.funcs[f]? = some fn) (hb : fn.body = some c) (hn : fn.ntmps = n) (hrs : fn.results = rs)
    (hle : Nat.ble vs.length n = true)
    (h : W P n c (fun σ w' => ∃ v, ResIs P rs σ w' v ∧ Q v w') (fun σ w' => ∃ v, ResIs P rs σ w' v ∧ Q v w') [] (look (argl 0 vs) und) w) :
    Calls P f vs.toArray w (Bk Q) := by
  have hle' := Nat.le_of_ble_eq_true hle
  refine calls_of_wp hf hb ?_
  have hF : AtF n (look (argl 0 vs) und) (vs.toArray ++ Array.replicate (fn.ntmps - vs.toArray.size) undef) := by
    refine ⟨by simp; omega, fun i => ?_⟩
    rw [look_argl]
    simp only [Nat.zero_le, if_true, Nat.sub_zero]
    simp only [Array.getD_eq_getD_getElem?, Array.getElem?_append]
    split
    · simp
    · rename_i hi
      simp only [List.size_toArray] at hi ⊢
      rw [Array.getElem?_replicate]
      rw [List.getElem?_eq_none (by omega)]
      split <;> rfl
  refine wp_mono (h _ hF) ?_
  intro e a w' hq
  cases e with
  | normal =>
    obtain ⟨h1, h2, v, hr, hQ⟩ := hq
    exact ⟨h2, v, hr fn hrs _ _ (AtF.self h1), v, rfl, hQ⟩
  | ret =>
    obtain ⟨h1, h2, v, hr, hQ⟩ := hq
    exact ⟨h2, v, hr fn hrs _ _ (AtF.self h1), v, rfl, hQ⟩
  | exit id => exact hq.2.2.elim
  | goto l => exact hq.elim
  | panic ch => exact hq.elim
  | outgrown => exact hq.elim

theorem enterR {f : FuncId} {fn : Func} {c : Code} {vs : List Value} {rs : Array ResultVar} {Q : Value → World → Prop} (hf : P.funcs[f]? = some fn) (hb : fn.body = some c) (hn : fn.ntmps = n) (hrs : fn.results = rs)
    (hle : Nat.ble vs.length n = true)
    (h : W P n c (fun σ w' => ∃ v, ResIs P rs σ w' v ∧ Ext w w' ∧ Q v w') (fun σ w' => ∃ v, ResIs P rs σ w' v ∧ Ext w w' ∧ Q v w') [] (look (argl 0 vs) und) w) :
    Calls P f vs.toArray w (Ret w Q) := enterB (Q := fun v w' => Ext w w' ∧ Q v w') hf hb hn hrs hle h

/-- A call by a function's name, and by a function value. -/
theorem run_callF {f : FuncId} {as : List Operand} {vs : List Value} {ats : Array TypeId} {ty : TypeId} (hc : ∀ args w, (callFunc f args).run P w = .ok (.enter f args) w) (hv : as.map (ev σ) = vs) (w' : World) :
    (xop (ev σ) (.call { callee := .value (.func f), args := as.toArray, argTypes := ats }) ty).run P w' = .ok (.enter f vs.toArray) w' := by
  subst hv
  simp [xop, execOp, resolve, Deferred.ofValue, ev, invoke, hc]
theorem run_callC {f : FuncId} {g : Operand} {as : List Operand} {vs fs cs : List Value} {ats : Array TypeId} {ty : TypeId} (hc : ∀ args w, (callFunc f args).run P w = .ok (.enter f args) w) (hg : ev σ g = .func (.func f) fs.toArray cs.toArray)
    (hv : fs ++ as.map (ev σ) ++ cs = vs) (w' : World) :
    (xop (ev σ) (.call { callee := .value g, args := as.toArray, argTypes := ats }) ty).run P w' = .ok (.enter f vs.toArray) w' := by
  subst hv
  simp [xop, execOp, resolve, Deferred.ofValue, hg, invoke, hc]

/-! ### Loops -/
def memb (i : Nat) : List Nat → Bool
  | [] => false
  | j :: l => bif Nat.beq i j then true else memb i l

/-- Whatever in the slots of D, the elder frame elsewhere. -/
def hav (D : List Nat) (u σ : Fr) : Fr := fun i => bif memb i D then u i else σ i

def allin (D : List Nat) : List (Nat × Value) → Bool
  | [] => true
  | (d, _) :: l => bif memb d D then allin D l else false

def Has : List (Nat × Value) → Fr → Prop
  | [], _ => True
  | (d, v) :: l, σ => σ d = v ∧ Has l σ

/-- Outside D as the elder frame. -/
def Out (D : List Nat) (σ σ' : Fr) : Prop := ∀ i, memb i D = false → σ' i = σ i

/-- Outside D as the elder frame; in the named slots as named. -/
def Agr (D : List Nat) (f : List (Nat × Value)) (σ σ' : Fr) : Prop := Has f σ' ∧ Out D σ σ'

def subD (D : List Nat) : List Nat → Bool
  | [] => true
  | d :: l => bif memb d D then subD D l else false
theorem subD_mem {D : List Nat} : ∀ {E : List Nat} (_ : subD D E = true) (i : Nat), memb i D = false → memb i E = false
  | [], _, _, _ => rfl
  | d :: E, h, i, hi => by
    simp only [subD] at h
    cases hd : memb d D with
    | false => rw [hd] at h; cases h
    | true =>
      rw [hd] at h
      simp only [memb]
      have hb : Nat.beq i d = false := by
        cases hq : Nat.beq i d with
        | false => rfl
        | true =>
          have := Nat.eq_of_beq_eq_true hq
          subst this
          rw [hi] at hd; cases hd
      rw [hb]
      exact subD_mem h i hi
theorem Out.refl {D : List Nat} {σ : Fr} : Out D σ σ := fun _ _ => rfl
theorem Out.self {D : List Nat} {u σ : Fr} : Out D σ (hav D u σ) := fun i hi => by simp [hav, hi]
theorem Out.hav {D E : List Nat} {u σ τ : Fr} (hE : subD D E = true) (h : Out D σ τ) : Out D σ (hav E u τ) := fun i hi => by
  simp only [Wk.hav, subD_mem hE i hi]
  exact h i hi

theorem look_out {D : List Nat} : ∀ {l : List (Nat × Value)} {σ : Fr} (_ : allin D l = true) (i : Nat), memb i D = false → look l σ i = σ i
  | [], _, _, _, _ => rfl
  | (d, v) :: l, σ, h, i, hi => by
    simp only [allin] at h
    cases hd : memb d D with
    | false => rw [hd] at h; cases h
    | true =>
      rw [hd] at h
      simp only [look]
      have hb : Nat.beq i d = false := by
        cases hq : Nat.beq i d with
        | false => rfl
        | true =>
          have := Nat.eq_of_beq_eq_true hq
          subst this
          rw [hi] at hd; cases hd
      rw [hb]
      exact look_out h i hi

theorem Out.look {D : List Nat} {l : List (Nat × Value)} {σ τ : Fr} (hD : allin D l = true) (h : Out D σ τ) : Out D σ (look l τ) := fun i hi => by rw [look_out hD i hi]; exact h i hi

theorem Agr.of {D : List Nat} {f l : List (Nat × Value)} {u σ : Fr} (hD : allin D l = true) (hH : Has f (look l (hav D u σ))) : Agr D f σ (look l (hav D u σ)) :=
  ⟨hH, fun i hi => by rw [look_out hD i hi]; simp [hav, hi]⟩

theorem Agr.of2 {D : List Nat} {f l : List (Nat × Value)} {σ : Fr} (hD : allin D l = true) (hH : Has f (look l σ)) : Agr D f σ (look l σ) :=
  ⟨hH, fun i hi => look_out hD i hi⟩

theorem Agr.start {D : List Nat} {f : List (Nat × Value)} {σ : Fr} (hH : Has f σ) : Agr D f σ σ := ⟨hH, fun _ _ => rfl⟩

theorem look_has : ∀ {f : List (Nat × Value)} {τ σ : Fr} (_ : Has f σ) (i : Nat), τ i = σ i → look f τ i = σ i
  | [], _, _, _, _, h => h
  | (d, v) :: f, τ, σ, hH, i, h => by
    simp only [look]
    cases hq : Nat.beq i d with
    | true => rw [Nat.eq_of_beq_eq_true hq]; exact hH.1.symm
    | false => exact look_has hH.2 i h

theorem Agr.eq {D : List Nat} {f : List (Nat × Value)} {σ σ' : Fr} (h : Agr D f σ σ') : σ' = look f (hav D σ' σ) := by
  funext i
  refine (look_has h.1 i ?_).symm
  simp only [hav]
  cases hm : memb i D with
  | true => rfl
  | false => exact (h.2 i hm).symm

/-- A loop: what is known at its head is a state x; each round hands on a state of a smaller measure. -/
theorem W.loop {X : Type _} (D : List Nat) (f : X → List (Nat × Value)) (I : X → World → Prop) (m : X → Nat) (x0 : X) {c : Code} (h0 : Has (f x0) σ) (hI : I x0 w)
    (round : ∀ (x : X) (u : Fr) (w : World), I x w → W P n c (fun σ' w' => ∃ x', m x' < m x ∧ I x' w' ∧ Agr D (f x') σ σ') kr ke (look (f x) (hav D u σ)) w) :
    W P n (.loop c) kn kr ke σ w := by
  intro T hT
  refine wp_loop_ghost (fun k a w => ∃ x, m x = k ∧ I x w ∧ a.tmps.size = n ∧ a.defers = [] ∧ Agr D (f x) σ (fun i => a.tmps.getD i undef)) (m x0) ?_ ?_
  · exact ⟨x0, rfl, hI, hT.1, rfl, by simp only; rw [hT.fun_eq]; exact Agr.start h0⟩
  · rintro k a w ⟨x, rfl, hI, h1, h2, hA⟩
    have hr := round x (fun i => a.tmps.getD i undef) w hI
    have hF : AtF n (look (f x) (hav D (fun i => a.tmps.getD i undef) σ)) a.tmps := ⟨h1, fun i => congrFun hA.eq i⟩
    have := hr a.tmps hF
    cases a
    simp only at h2
    subst h2
    refine wp_mono this ?_
    intro e a' w' hq
    cases e with
    | normal =>
      obtain ⟨g1, g2, x', g3, g4, g5⟩ := hq
      exact ⟨m x', g3, x', rfl, g4, g1, g2, g5⟩
    | exit id => exact hq
    | goto l => exact hq
    | ret => exact hq
    | panic ch => exact hq
    | outgrown => exact hq

/-- A cut: what follows is shown once, of whatever frame agrees. -/
theorem W.cut {X : Type _} (D : List Nat) (f : X → List (Nat × Value)) (I : X → World → Prop) {c d : Code}
    (h1 : W P n c (fun σ' w' => ∃ x, I x w' ∧ Agr D (f x) σ σ') kr ke (look [] σ) w)
    (h2 : ∀ (x : X) (u : Fr) (w : World), I x w → W P n d kn kr ke (look (f x) (hav D u σ)) w) : W P n (.seq c d) kn kr ke σ w := by
  refine W.seq (W.mono h1 ?_)
  rintro σ' w' ⟨x, hI, hA⟩
  have := h2 x σ' w' hI
  rw [← hA.eq] at this
  exact this

theorem W.cutK {X : Type _} (D : List Nat) (f : X → List (Nat × Value)) (I : X → World → Prop) {c : Code}
    (h1 : W P n c (fun σ' w' => ∃ x, I x w' ∧ Agr D (f x) σ σ') kr ke (look [] σ) w)
    (h2 : ∀ (x : X) (u : Fr) (w : World), I x w → kn (look (f x) (hav D u σ)) w) : W P n c kn kr ke σ w := by
  refine W.mono h1 ?_
  rintro σ' w' ⟨x, hI, hA⟩
  have := h2 x σ' w' hI
  rw [← hA.eq] at this
  exact this

theorem Wo.app {ops : Array Oper} {l r : List Oper} {k k1 : Cont} (hk : ∀ σ w, k1 σ w → Wo P n ops r k σ w) (h : Wo P n ops l k1 σ w) : Wo P n ops (l ++ r) k σ w := by
  intro T hT
  have := h T hT
  revert this
  have gen : ∀ (l : List Oper) (a : Act) (w : World), wpList P ops (post n k1 (fun _ _ => False) []) l a w → wpList P ops (post n k (fun _ _ => False) []) (l ++ r) a w := by
    intro l
    induction l with
    | nil =>
      intro a w h
      obtain ⟨g1, g2, g3⟩ := h
      have := hk _ _ g3 a.tmps (AtF.self g1)
      cases a
      simp only at g2
      subst g2
      exact this
    | cons o l ih =>
      intro a w h
      simp only [List.cons_append]
      unfold wpList at h ⊢
      split
      · rename_i hw
        rw [if_pos hw] at h
        rcases h with h | ⟨_, _, _, h⟩
        · refine .inl ?_
          unfold Oper.wp at h ⊢
          revert h
          generalize (execOp a.eval o).run P w = r'
          intro h
          cases r' with
          | ok nx w' =>
            cases nx <;> simp only [Oper.upon] at h ⊢ <;> first
              | exact ih _ _ h
              | (refine Calls.mono h ?_
                 intro e w'' he
                 cases e with
                 | returned v => exact ih _ _ he
                 | panicked ch => exact he
                 | outgrown => obtain ⟨_, _, he⟩ := he; exact he.elim)
              | exact Rows.mono h (fun _ _ he => ih _ _ he)
          | halt x w' => cases x <;> simp only [Oper.upon] at h ⊢ <;> exact h
        · exact h.elim
      · rename_i hw
        rw [if_neg hw] at h
        exact ih _ _ h
  exact gen l _ _

theorem Wq.app {ops : Array Oper} {l r : List Oper} {k k1 : Cont} {w0 : World} (hk : ∀ σ, (∀ w', Ext w0 w' → k1 σ w') → Wq P n ops w0 r k σ) (h : Wq P n ops w0 l k1 σ) : Wq P n ops w0 (l ++ r) k σ := by
  intro T hT
  have := h T hT
  revert this
  have gen : ∀ (l : List Oper) (a : Act), wpQuiet P ops (Ext w0) (fun a' => a'.tmps.size = n ∧ a'.defers = [] ∧ ∀ w', Ext w0 w' → k1 (fun i => a'.tmps.getD i undef) w') l a →
      wpQuiet P ops (Ext w0) (fun a' => a'.tmps.size = n ∧ a'.defers = [] ∧ ∀ w', Ext w0 w' → k (fun i => a'.tmps.getD i undef) w') (l ++ r) a := by
    intro l
    induction l with
    | nil =>
      intro a h
      obtain ⟨g1, g2, g3⟩ := h
      have := hk _ g3 a.tmps (AtF.self g1)
      cases a
      simp only at g2
      subst g2
      exact this
    | cons o l ih =>
      intro a h
      simp only [List.cons_append]
      unfold wpQuiet at h ⊢
      split
      · rename_i hw
        rw [if_pos hw] at h
        exact Oper.quiet_mono (fun a h => ih a h) h
      · rename_i hw
        rw [if_neg hw] at h
        exact ih _ h
  exact gen l _

/-- The same within a region, behind so many operations. -/
theorem Wx.cut {X : Type} (i : Nat) (D : List Nat) (f : X → List (Nat × Value)) (I : X → World → Prop) {ops : Array Oper} {rest : List Oper} {k : Cont}
    (h1 : Wx P n ops false (rest.take i) (fun σ' w' => ∃ x, I x w' ∧ Agr D (f x) σ σ') (look [] σ) w)
    (h2 : ∀ (x : X) (u : Fr) (w : World), I x w → Wx P n ops false (rest.drop i) k (look (f x) (hav D u σ)) w) : Wx P n ops false rest k σ w := by
  have := Wo.app (k := k) (r := rest.drop i) (by
    rintro σ' w' ⟨x, hI, hA⟩
    have := h2 x σ' w' hI
    rw [← hA.eq] at this
    exact this) h1
  rwa [List.take_append_drop] at this

theorem Wx.cutQ {X : Type} (i : Nat) (D : List Nat) (f : X → List (Nat × Value)) (I : X → Prop) {ops : Array Oper} {rest : List Oper} {k : Cont}
    (h1 : Wx P n ops true (rest.take i) (fun σ' _ => ∃ x, I x ∧ Agr D (f x) σ σ') (look [] σ) w)
    (h2 : ∀ (x : X) (u : Fr), I x → Wx P n ops true (rest.drop i) k (look (f x) (hav D u σ)) w) : Wx P n ops true rest k σ w := by
  have h1' : Wq P n ops w (rest.take i) (fun σ' _ => ∃ x, I x ∧ Agr D (f x) σ σ') (look [] σ) := h1
  have : Wq P n ops w (rest.take i ++ rest.drop i) k (look [] σ) := Wq.app (k := k) (r := rest.drop i) (w0 := w) (by
    intro σ' h
    obtain ⟨x, hI, hA⟩ := h w (Ext.refl w)
    have := h2 x σ' hI
    rw [← hA.eq] at this
    exact this) h1'
  rwa [List.take_append_drop] at this

end
end Go.Wk
