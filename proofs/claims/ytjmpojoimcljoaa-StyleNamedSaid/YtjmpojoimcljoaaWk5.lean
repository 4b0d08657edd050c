/-
  WHAT IS PROVED HERE: regions that draw their order: quiet operations first, and behind them a tail that has one order (a store, a copy); or operations that make memory, whose orders are walked one by one. Conditions: Bools over the region's text, computed; they hold over any program.
-/
import Derived.Test.YtjmpojoimcljoaaWk4
import Derived.OrdersHeld
import Derived.Deep.Onto
namespace Go.Wk
open Go.RowKit

section
variable {P : Program} {ops : Array Oper} {md : Region.Mode} {C : World → Prop}

/-- So many rounds of quiet operations, all below number n, whatever order is drawn; then L. -/
def anyT (P : Program) (md : Region.Mode) (ops : Array Oper) (C : World → Prop) (n : Nat) (L : Array Bool → Act → Prop) : Nat → Array Bool → Act → Prop
  | 0, listed, a => L listed a
  | f + 1, listed, a => Region.ready md ops listed ≠ [] ∧ ∀ i ∈ Region.ready md ops listed, i < n ∧ qOp P ops C i (anyT P md ops C n L f (listed.setIfInBounds i true)) a

theorem any_of_anyT {n g : Nat} {L : Array Bool → Act → Prop} {Q' : Exit → Act → World → Prop} (hL : ∀ listed a, L listed a → ∀ w, C w → wpAny P md ops Q' g listed a w) :
    ∀ (f : Nat) (listed : Array Bool) (a : Act), anyT P md ops C n L f listed a → ∀ w, C w → wpAny P md ops Q' (f + g) listed a w := by
  intro f
  induction f with
  | zero => intro listed a h w hw; rw [Nat.zero_add]; exact hL _ _ h w hw
  | succ f ih =>
    intro listed a h w hw
    rw [show f + 1 + g = (f + g) + 1 by omega]
    exact ⟨fun h0 => absurd h0 h.1, fun i hi => wpOp_of_qOp hw (fun a' w' hw' h' => ih _ a' h' w' hw') (h.2 i hi).2⟩

theorem anyT_first {n i : Nat} {oi : Oper} {v : Value} {L : Array Bool → Act → Prop} (hi : ops[i]? = some oi) (hsel : ∀ (j : Nat) (o : Oper) cs b, ops[j]? = some o → o.op ≠ .select cs b)
    (hs : Region.sinkB md ops n = true) (hc : Region.chainB md ops n = true) (hn : n < ops.size) (hin : i < n) (hdone : ∀ listed a, L listed a → ∀ j ∈ Region.ready md ops listed, n ≤ j) :
    ∀ (f : Nat) (listed : Array Bool) (a : Act), HeadInv md ops n listed →
      (∀ j oj, ops[j]? = some oj → j ≠ i → listed.getD j true = false → (∀ e ∈ oj.after, Region.binds md e = true → e.on ≠ i) → oi.apart ops oj = true) →
      i ∈ Region.ready md ops listed → YieldsIn P ops C oi v a →
      anyT P md ops C n L f (listed.setIfInBounds i true) (a.put oi.dst v) → anyT P md ops C n L (f + 1) listed a := by
  intro f
  induction f with
  | zero =>
    intro listed a inv _ hr hy H
    have hun := (mem_ready.1 hr).1
    have low : ∀ j ∈ Region.ready md ops listed, j < n := fun j hj => by
      rcases Nat.lt_or_ge j n with h | h
      · exact h
      · exact absurd hj (tail_waits hs hc hn inv _ i rfl hin hun j h)
    refine ⟨fun h => (by rw [h] at hr; cases hr), fun j hj => ⟨low j hj, ?_⟩⟩
    by_cases hji : j = i
    · subst hji; exact hy.qOp hi H
    · have h1 := hdone _ _ H j (ready_mono hj hji)
      have h2 := low j hj
      omega
  | succ f ih =>
    intro listed a inv hfree hr hy H
    have hun := (mem_ready.1 hr).1
    have low : ∀ j ∈ Region.ready md ops listed, j < n := fun j hj => by
      rcases Nat.lt_or_ge j n with h | h
      · exact h
      · exact absurd hj (tail_waits hs hc hn inv _ i rfl hin hun j h)
    refine ⟨fun h => (by rw [h] at hr; cases hr), fun j hj => ⟨low j hj, ?_⟩⟩
    by_cases hji : j = i
    · subst hji; exact hy.qOp hi H
    · have h1 := (H.2 j (ready_mono hj hji)).2
      obtain ⟨hjun, oj, hoj, hall⟩ := mem_ready.1 hj
      have hnot : ∀ e ∈ oj.after, Region.binds md e = true → e.on ≠ i := fun e he hb heq => by
        have h1 := hall e he hb
        rw [heq, getD_both hun] at h1
        cases h1
      have h2 := qOp_put hoj (hfree j oj hoj hji hjun hnot) (fun cs b => hsel i oi cs b hi) (fun cs b => hsel j oj cs b hoj) hy h1
      have hfree' : ∀ k ok, ops[k]? = some ok → k ≠ i → (listed.setIfInBounds j true).getD k true = false →
          (∀ e ∈ ok.after, Region.binds md e = true → e.on ≠ i) → oi.apart ops ok = true := fun k ok hk hki hun hno => by
        refine hfree k ok hk hki ?_ hno
        by_cases hjk : j = k
        · subst hjk; exact hjun
        · rw [getD_set_ne true hjk] at hun; exact hun
      refine qOp_mono (fun a' h3 => ih (listed.setIfInBounds j true) a' (inv.set hj (low j hj)) hfree' (ready_mono hr (Ne.symm hji)) h3.1 ?_) h2
      rw [Array.setIfInBounds_comm _ _ hji]
      exact h3.2

theorem anyT_lex {n g : Nat} {Lq : Act → Prop} (hsel : Region.noSelect ops = true) (hs : Region.sinkB md ops n = true) (hc : Region.chainB md ops n = true) (hn : n < ops.size) :
    ∀ (l : List Oper) (k : Nat) (listed : Array Bool) (a : Act), (∀ j, j < l.length → l[j]? = ops[k + j]?) → k + l.length = n → HeadInv md ops n listed →
    Region.lexHead md ops g l.length k listed = true → wpQuiet P ops C Lq l a →
    anyT P md ops C n (fun listed' a' => Region.seqB md ops g n listed' = true ∧ Lq a') l.length listed a := by
  intro l
  induction l with
  | nil =>
    intro k listed a _ hk _ hB h
    have hkn : k = n := by simpa using hk
    subst hkn
    exact ⟨by simpa [Region.lexHead] using hB, h⟩
  | cons o l ih =>
    intro k listed a hl hk inv hB h
    have h0 : ops[k]? = some o := by simpa using (hl 0 (by simp)).symm
    simp only [List.length_cons, Region.lexHead, Bool.and_eq_true] at hB
    obtain ⟨⟨hr, hf⟩, hB'⟩ := hB
    have hkn : k < n := by simp only [List.length_cons] at hk; omega
    have hr' : k ∈ Region.ready md ops listed := by simpa using hr
    have hst : qOp P ops C k (wpQuiet P ops C Lq l) a := by unfold qOp; simp only [h0]; exact h
    obtain ⟨v, hy, hK⟩ := yieldsIn_of_qOp h0 hst
    exact anyT_first h0 (Region.noSelect_spec hsel) hs hc hn hkn (fun listed' a' hL => seqB_ready hL.1) l.length listed a inv (Region.free_spec h0 hf) hr' hy
      (ih (k + 1) _ _ (fun j hj => by have := hl (j + 1) (by simp; omega); simpa [Nat.add_assoc, Nat.add_comm 1 j] using this) (by simp only [List.length_cons] at hk; omega) (inv.set hr' hkn) hB' hK)

/-- A drawn region: n quiet operations, then a tail of one order, from every world that the head may leave. -/
theorem wp_region_quiet_tail {id : Nat} {Q : Exit → Act → World → Prop} {a : Act} {w : World} {l : List Oper} (n : Nat) (hm : P.follows .mixedOrders = true) (hB : Region.lexTailB .any l.toArray n = true)
    (hC : C { w with drawn := w.drawn + 1 }) (h : wpQuiet P l.toArray C (fun a' => ∀ w', C w' → wpList P l.toArray Q (l.drop n) a' w') (l.take n) a) : (Code.region id l.toArray true).wp P Q a w := by
  simp only [Region.lexTailB, Bool.and_eq_true, decide_eq_true_eq] at hB
  obtain ⟨⟨⟨⟨hsel, hn⟩, hs⟩, hc⟩, hlex⟩ := hB
  have hn' : n < l.length := by simpa using hn
  have htl : (l.take n).length = n := by simp; omega
  have hdl : (l.drop n).length = l.toArray.size - n := by simp
  have inv0 : HeadInv .any l.toArray n (Array.replicate l.toArray.size false) :=
    ⟨by simp, fun j oj _ hl => (by rw [getD_replicate_false] at hl; cases hl), fun t _ ht => getD_in (by simpa using ht) (getD_replicate_false _ _)⟩
  have H := anyT_lex (md := .any) (g := l.toArray.size - n) hsel hs hc hn (l.take n) 0 _ a (fun j hj => by
    have hj' : j < n := by rw [htl] at hj; exact hj
    simp [hj']) (by simpa using htl) inv0 (by rw [htl]; exact hlex) h
  refine wp_region_any hm ?_
  have := any_of_anyT (Q' := Q) (g := l.toArray.size - n) (fun listed a' hL w' hw' => by
    have := wpAny_of_seq (md := .any) (Q' := Q) (l.drop n) n listed a' w' (fun j => by simp [List.getElem?_drop]) (by rw [hdl]; exact hL.1) (hL.2 w' hw')
    rwa [hdl] at this) _ _ _ H _ hC
  rw [htl, show n + (l.toArray.size - n) = l.toArray.size by omega] at this
  exact this
end

section
variable {P : Program} {n : Nat} {kn kr : Cont} {ke : List (Nat × Cont)} {σ : Fr} {w : World}

/-- Over a frame. -/
theorem W.regT {id : Nat} {l : List Oper} (m : Nat) (hm : P.follows .mixedOrders = true) (hB : Region.lexTailB .any l.toArray m = true)
    (h : Wx P n l.toArray true (l.take m) (fun σ' w' => Wx P n l.toArray false (l.drop m) kn σ' w') σ w) : W P n (.region id l.toArray true) kn kr ke σ w := by
  intro T hT
  refine wp_mono (wp_region_quiet_tail (C := Ext w) (Q := post n kn (fun _ _ => False) []) m hm hB (ext_drawn w) ?_) ?_
  · have h' : Wq P n l.toArray w (l.take m) (fun σ' w' => Wo P n l.toArray (l.drop m) kn σ' w') σ := h
    have := h' T hT
    revert this
    have gen : ∀ (r : List Oper) (a : Act), wpQuiet P l.toArray (Ext w) (fun a' => a'.tmps.size = n ∧ a'.defers = [] ∧ ∀ w', Ext w w' → Wo P n l.toArray (l.drop m) kn (fun i => a'.tmps.getD i undef) w') r a →
        wpQuiet P l.toArray (Ext w) (fun a' => ∀ w', Ext w w' → wpList P l.toArray (post n kn (fun _ _ => False) []) (l.drop m) a' w') r a := by
      intro r
      induction r with
      | nil =>
        intro a ⟨g1, g2, g3⟩ w' hw'
        have := g3 w' hw' a.tmps (AtF.self g1)
        cases a
        simp only at g2
        subst g2
        exact this
      | cons o r ih =>
        intro a h
        unfold wpQuiet at h ⊢
        split
        · rename_i hw
          rw [if_pos hw] at h
          exact Oper.quiet_mono (fun a h => ih a h) h
        · rename_i hw
          rw [if_neg hw] at h
          exact ih _ h
    exact gen _ _
  · intro e a' w' hq
    cases e <;> first | exact hq | exact hq.2.2.elim | skip
end

/-! ### Operations that make memory, in a region that draws: all orders -/
section
variable {P : Program} {n : Nat} {kn kr : Cont} {ke : List (Nat × Cont)} {σ : Fr} {w w0 : World} {ops : Array Oper} {k : Cont}

def Wh (P : Program) (n : Nat) (ops : Array Oper) (w0 : World) (fuel : Nat) (listed : Array Bool) (k : Cont) (σ : Fr) (w : World) : Prop :=
  ∀ T, AtF n σ T → wpAnyH P .any ops (post n k (fun _ _ => False) []) (Ext w0) fuel listed ⟨T, []⟩ w

theorem W.regH {id : Nat} {l : List Oper} (hm : P.follows .mixedOrders = true) (h : ∀ w', Ext w w' → Wh P n l.toArray w l.length (Array.replicate l.length false) kn σ w') : W P n (.region id l.toArray true) kn kr ke σ w := by
  intro T hT
  have h2 := h _ (ext_drawn w) T hT
  refine wp_mono (wp_region_held (S := Ext w) (Q := post n kn (fun _ _ => False) []) hm (by simpa using h2)) ?_
  intro e a' w' hq
  cases e <;> first | exact hq | exact hq.2.2.elim | skip

/-- A quiet operation is taken first. -/
theorem Wh.rd (i : Nat) {f : Nat} {listed : Array Bool} {d : Tmp} {op : Op} {ty : TypeId} {pos : String} {af : Array Edge} {v : Value} {l : List (Nat × Value)} {σ0 : Fr}
    (hi : ops[i]? = some ⟨some d, op, ty, pos, af, none⟩) (hB : (Region.noSelect ops && Region.free .any ops listed i && (Region.ready .any ops listed).contains i) = true)
    (hw : Ext w0 w) (hr : Rd P (look l σ0) op ty w0 v) (hd : Nat.ble (d + 1) n = true) (h : Wh P n ops w0 f (listed.setIfInBounds i true) k (look ((d, v) :: l) σ0) w) : Wh P n ops w0 (f + 1) listed k (look l σ0) w := by
  intro T hT
  simp only [Bool.and_eq_true] at hB
  obtain ⟨T', hT', hF⟩ := hT.put (some d) v hd []
  rw [look_cons] at h
  refine wpAnyH_take (v := v) hi hB.1.1 hB.1.2 hB.2 (fun c a w h => h.elim) (.inl ⟨rfl, fun w' hw' => ?_⟩) hw ?_
  · rw [hT.eval, execOp_xop]
    exact hr w' hw'
  · rw [hT']
    exact h T' hF

/-- Whichever comes up. -/
def AllI (f : Nat → Prop) : List Nat → Prop
  | [] => True
  | i :: r => f i ∧ AllI f r
theorem AllI.mem {f : Nat → Prop} : ∀ {l : List Nat}, AllI f l → ∀ i ∈ l, f i
  | _ :: _, h, _, hi => by
    rcases List.mem_cons.1 hi with rfl | hi
    · exact h.1
    · exact AllI.mem h.2 _ hi

theorem Wh.br (rs : List Nat) {f : Nat} {listed : Array Bool} (hr : Region.ready .any ops listed = rs) (hne : rs ≠ [])
    (h : AllI (fun i => ∃ o, ops[i]? = some o ∧ Wx P n ops false [o] (fun σ' w' => Ext w0 w' ∧ Wh P n ops w0 f (listed.setIfInBounds i true) k σ' w') σ w) rs) : Wh P n ops w0 (f + 1) listed k σ w := by
  intro T hT
  refine wpAnyH_all hr hne fun i hi => ?_
  obtain ⟨o, ho, h⟩ := h.mem i hi
  have h2 : wpList P ops (post n (fun σ' w' => Ext w0 w' ∧ Wh P n ops w0 f (listed.setIfInBounds i true) k σ' w') (fun _ _ => False) []) [o] ⟨T, []⟩ w := h T hT
  have key : ∀ a' w', post n (fun σ' w' => Ext w0 w' ∧ Wh P n ops w0 f (listed.setIfInBounds i true) k σ' w') (fun _ _ => False) [] .normal a' w' →
      (fun a' w' => Ext w0 w' ∧ wpAnyH P .any ops (post n k (fun _ _ => False) []) (Ext w0) f (listed.setIfInBounds i true) a' w') a' w' := by
    intro a' w' ⟨g1, g2, g3, g4⟩
    refine ⟨g3, ?_⟩
    have := g4 a'.tmps (AtF.self g1)
    cases a'
    simp only at g2
    subst g2
    exact this
  unfold wpOp
  simp only [ho]
  unfold wpList at h2
  split
  · rename_i hw
    rw [if_pos hw] at h2
    rcases h2 with h2 | h2
    · refine .inl ?_
      unfold Oper.wp at h2 ⊢
      generalize (execOp (Act.eval ⟨T, []⟩) o).run P w = r at h2 ⊢
      cases r with
      | ok nx w' =>
        cases nx <;> simp only [Oper.upon] at h2 ⊢
        case value u => exact key _ _ h2
        case skip => exact key _ _ h2
        case defer d => exact key _ _ h2
        case enter f args =>
          refine Calls.mono h2 fun e w'' he => ?_
          cases e with
          | returned u => exact key _ _ he
          | panicked c => exact he
          | outgrown => exact he
        case row row args => exact Rows.mono h2 fun u w'' he => key _ _ he
      | halt x w' =>
        cases x <;> simp only [Oper.upon] at h2 ⊢
        case panic u => exact h2
    · exact .inr h2
  · rename_i hw
    rw [if_neg hw] at h2
    exact key _ _ h2

theorem Wh.done {f : Nat} {listed : Array Bool} (hr : Region.ready .any ops listed = []) (h : k σ w) : Wh P n ops w0 f listed k σ w :=
  fun T hT => wpAnyH_done hr ⟨hT.1, rfl, by rw [hT.fun_eq]; exact h⟩ f

theorem Wh.ex (i : Nat) {f : Nat} {listed : Array Bool} {d : Tmp} {op : Op} {ty : TypeId} {pos : String} {af : Array Edge} {A : Value → Prop} {l : List (Nat × Value)} {σ0 : Fr}
    (hi : ops[i]? = some ⟨some d, op, ty, pos, af, none⟩) (hB : (Region.noSelect ops && Region.free .any ops listed i && (Region.ready .any ops listed).contains i) = true)
    (hw : Ext w0 w) (hr : ∃ v, Rd P (look l σ0) op ty w0 v ∧ A v) (hd : Nat.ble (d + 1) n = true)
    (h : ∀ v, A v → Wh P n ops w0 f (listed.setIfInBounds i true) k (look ((d, v) :: l) σ0) w) : Wh P n ops w0 (f + 1) listed k (look l σ0) w := by
  obtain ⟨v, h1, h2⟩ := hr
  exact Wh.rd i hi hB hw h1 hd (h v h2)

/-- What a region made, beside what was there. -/
theorem St.merge {O : List (Option Nat)} {obs obsR : List Ob} {w1 w2 : World} (h0 : St w0 O w1 obs) (h : St w1 (fb obs O) w2 obsR) : St w0 O w2 (obsR ++ obs) := by
  have hM : Mv (fb obsR (fb obs O)) (fb (obsR ++ obs) O) w2 w2 := .less fun b hb => by
    simp only [fb, List.map_append, List.append_assoc] at hb ⊢
    exact hb
  have hM2 : Mv (fb obs O) (fb (obsR ++ obs) O) w1 w2 := h.mv0.trans hM
  refine ⟨Ext.trans h0.bel h.bel, h0.olt, fun ob ho => ?_, List.pairwise_append.2 ⟨h.sep, h0.sep, fun a ha b hb => ?_⟩⟩
  · rcases List.mem_append.1 ho with ho | ho
    · have h1 := Ob.ok_ext (h.ok ob ho) (Ext.refl _) hM
      cases ob with
      | box g e cs => exact ⟨Nat.le_trans h0.bel.size h1.1, h1.2⟩
      | row t e v ys => obtain ⟨cs, h1, h2⟩ := h1; exact ⟨cs, h1.mono h0.bel.size, h2⟩
      | imm S m => exact h1
    · exact Ob.ok_ext (h0.ok ob ho) h.bel hM2
  · cases hq : a.blk with
    | none => exact .inl rfl
    | some x =>
      right
      intro he
      have h1 := (Ob.ok_lt (h.ok a ha) hq).1
      have h2 := (Ob.ok_lt (h0.ok b hb) he.symm).2
      omega

/-! The same where what was there may be written: then only what yields its value in whatever world is taken first. -/
def Wp (P : Program) (n : Nat) (ops : Array Oper) (fuel : Nat) (listed : Array Bool) (k : Cont) (σ : Fr) (w : World) : Prop :=
  ∀ T, AtF n σ T → wpAnyH P .any ops (post n k (fun _ _ => False) []) (fun _ => True) fuel listed ⟨T, []⟩ w

theorem W.regP {id : Nat} {l : List Oper} (hm : P.follows .mixedOrders = true) (h : ∀ w', Ext w w' → Wp P n l.toArray l.length (Array.replicate l.length false) kn σ w') : W P n (.region id l.toArray true) kn kr ke σ w := by
  intro T hT
  have h2 := h _ (ext_drawn w) T hT
  refine wp_mono (wp_region_held (S := fun _ => True) (Q := post n kn (fun _ _ => False) []) hm (by simpa using h2)) ?_
  intro e a' w' hq
  cases e <;> first | exact hq | exact hq.2.2.elim | skip

theorem Wp.rd (i : Nat) {f : Nat} {listed : Array Bool} {d : Tmp} {op : Op} {ty : TypeId} {pos : String} {af : Array Edge} {v : Value} {l : List (Nat × Value)} {σ0 : Fr}
    (hi : ops[i]? = some ⟨some d, op, ty, pos, af, none⟩) (hB : (Region.noSelect ops && Region.free .any ops listed i && (Region.ready .any ops listed).contains i) = true)
    (hr : ∀ w', Rd P (look l σ0) op ty w' v) (hd : Nat.ble (d + 1) n = true) (h : Wp P n ops f (listed.setIfInBounds i true) k (look ((d, v) :: l) σ0) w) : Wp P n ops (f + 1) listed k (look l σ0) w := by
  intro T hT
  simp only [Bool.and_eq_true] at hB
  obtain ⟨T', hT', hF⟩ := hT.put (some d) v hd []
  rw [look_cons] at h
  refine wpAnyH_take (v := v) hi hB.1.1 hB.1.2 hB.2 (fun c a w h => h.elim) (.inl ⟨rfl, fun w' hw' => ?_⟩) trivial ?_
  · rw [hT.eval, execOp_xop]
    exact hr w' w' (Ext.refl _)
  · rw [hT']
    exact h T' hF

theorem Wp.br (rs : List Nat) {f : Nat} {listed : Array Bool} (hr : Region.ready .any ops listed = rs) (hne : rs ≠ [])
    (h : AllI (fun i => ∃ o, ops[i]? = some o ∧ Wx P n ops false [o] (fun σ' w' => Wp P n ops f (listed.setIfInBounds i true) k σ' w') σ w) rs) : Wp P n ops (f + 1) listed k σ w := by
  intro T hT
  refine wpAnyH_all hr hne fun i hi => ?_
  obtain ⟨o, ho, h⟩ := h.mem i hi
  have h2 : wpList P ops (post n (fun σ' w' => Wp P n ops f (listed.setIfInBounds i true) k σ' w') (fun _ _ => False) []) [o] ⟨T, []⟩ w := h T hT
  have key : ∀ a' w', post n (fun σ' w' => Wp P n ops f (listed.setIfInBounds i true) k σ' w') (fun _ _ => False) [] .normal a' w' →
      (fun a' w' => True ∧ wpAnyH P .any ops (post n k (fun _ _ => False) []) (fun _ => True) f (listed.setIfInBounds i true) a' w') a' w' := by
    intro a' w' ⟨g1, g2, g4⟩
    refine ⟨trivial, ?_⟩
    have := g4 a'.tmps (AtF.self g1)
    cases a'
    simp only at g2
    subst g2
    exact this
  unfold wpOp
  simp only [ho]
  unfold wpList at h2
  split
  · rename_i hw
    rw [if_pos hw] at h2
    rcases h2 with h2 | h2
    · refine .inl ?_
      unfold Oper.wp at h2 ⊢
      generalize (execOp (Act.eval ⟨T, []⟩) o).run P w = r at h2 ⊢
      cases r with
      | ok nx w' =>
        cases nx <;> simp only [Oper.upon] at h2 ⊢
        case value u => exact key _ _ h2
        case skip => exact key _ _ h2
        case defer d => exact key _ _ h2
        case enter f args =>
          refine Calls.mono h2 fun e w'' he => ?_
          cases e with
          | returned u => exact key _ _ he
          | panicked c => exact he
          | outgrown => exact he
        case row row args => exact Rows.mono h2 fun u w'' he => key _ _ he
      | halt x w' =>
        cases x <;> simp only [Oper.upon] at h2 ⊢
        case panic u => exact h2
    · exact .inr h2
  · rename_i hw
    rw [if_neg hw] at h2
    exact key _ _ h2

theorem Wp.done {f : Nat} {listed : Array Bool} (hr : Region.ready .any ops listed = []) (h : k σ w) : Wp P n ops f listed k σ w :=
  fun T hT => wpAnyH_done hr ⟨hT.1, rfl, by rw [hT.fun_eq]; exact h⟩ f
end

/-! ### copy, into a slice of the call's own -/
section
variable {P : Program} {n : Nat} {w w0 : World} {O : List (Option Nat)} {obs : List Ob} {ops : Array Oper} {rest : List Oper} {k : Cont} {d : Tmp} {ty : TypeId} {pos : String} {af : Array Edge}
  {l : List (Nat × Value)} {σ0 σ : Fr} {T T' : TypeId} {x y z lo hi : Operand}

/-- The tail of a slice of the call's own. -/
theorem rd_tailR {α : Type} {t : Ty α} {et : TypeId} {v : Value} {ys : List α} {e : TypeId} {m : Int} {kk : IntKind} (hS : St w0 O w obs) (i : Nat) (hi : obs[i]? = some (.row t et v ys)) (hu : P.underlying T = some (.slice e))
    (hsz : ∀ w', (sizeOf e).run P w' = .ok t.n w') (hx : ev σ z = v) (hl : ev σ lo = .int kk m) (h0 : 0 ≤ m) (h1 : m < ys.length) :
    ∃ g c, v.ownBlock = some g ∧ ∀ w', Rd P σ (.slice T z (some lo) none none) ty w' (.slice (some ⟨g, m.toNat * t.n, none⟩) (ys.length - m.toNat) c) := by
  obtain ⟨cs, hr, hR⟩ := hS.get i hi
  rcases hr.2 with ⟨rfl, hn⟩ | ⟨g, cap, cur, rfl, q1, q2, q3, q4, q5, q6⟩
  · omega
  · refine ⟨g, cap - m.toNat, rfl, fun w1 => Rd.of fun w' => ?_⟩
    simp only [xop, execOp, hx, Option.map_some, Option.map_none, hl, Sem.run_bind, run_sliceV hu hsz (bounds_l (P := P) (len := ys.length) (cap := cap) h0 (by omega))]
    have : ¬ cap = m.toNat := by omega
    simp [sliced, this, Addr.add_lit]

/-- The head of a slice of the call's own. -/
theorem rd_headR {α : Type} {t : Ty α} {et : TypeId} {v : Value} {ys : List α} {e : TypeId} {m : Int} {kk : IntKind} (hS : St w0 O w obs) (i : Nat) (hi : obs[i]? = some (.row t et v ys)) (hu : P.underlying T = some (.slice e))
    (hsz : ∀ w', (sizeOf e).run P w' = .ok t.n w') (hx : ev σ z = v) (hl : ev σ lo = .int kk m) (h0 : 0 < m) (h1 : m ≤ ys.length) :
    ∃ g c, v.ownBlock = some g ∧ ∀ w', Rd P σ (.slice T z none (some lo) none) ty w' (.slice (some ⟨g, 0, none⟩) m.toNat c) := by
  obtain ⟨cs, hr, hR⟩ := hS.get i hi
  rcases hr.2 with ⟨rfl, hn⟩ | ⟨g, cap, cur, rfl, q1, q2, q3, q4, q5, q6⟩
  · omega
  · refine ⟨g, cap, rfl, fun w1 => Rd.of fun w' => ?_⟩
    simp only [xop, execOp, hx, Option.map_some, Option.map_none, hl, Sem.run_bind, run_sliceV hu hsz (bounds_h (P := P) (by omega : 0 ≤ m) (by omega : m ≤ (cap : Int)))]
    have : ¬ cap = 0 := by omega
    simp [sliced, this, Addr.add_lit]

theorem Src.headR {α : Type} {t : Ty α} {e : TypeId} {zs : List α} {u : Value} {g m c : Nat} (hS : St w0 O w obs) (j : Nat) (hj : obs[j]? = some (.row t e u zs)) (hg : u.ownBlock = some g) (hm : m ≤ zs.length) :
    Src t (zs.take m) (.slice (some ⟨g, 0, none⟩) m c) (fb obs O) w := by
  obtain ⟨cs, hr, hR⟩ := hS.get j hj
  obtain ⟨ds, g1, g2, g3⟩ := flat_cells (zs.take m) 0 (fun i z hz => by
    rw [List.getElem?_take] at hz
    split at hz
    · exact row_els hr hR (Mv.refl _ _) hg i z hz
    · cases hz)
  refine ⟨_, c, ds, by rw [List.length_take, Nat.min_eq_left hm], g1, g2, fun _ => ⟨_, rfl⟩, fun ad had j q hq => ?_⟩
  injection had with had
  subst had
  rw [Addr.add_lit]
  exact g3 j q hq

theorem Reps.splice {α : Type} {t : Ty α} {F : List (Option Nat)} {W : World} {ys zs : List α} {cs ds : List Value} {p dl : Nat} (hn : t.n = 1) (h : Reps t F W ys cs) (hd : Reps t F W zs ds) (hp : p + min zs.length dl ≤ ys.length) :
    Reps t F W (ys.take p ++ zs.take dl ++ ys.drop (p + min zs.length dl)) (cs.take p ++ ds.take dl ++ cs.drop (p + min zs.length dl)) := by
  have hcl : cs.length = ys.length := by have := h.1; rw [hn, Nat.mul_one] at this; exact this
  have hdl : ds.length = zs.length := by have := hd.1; rw [hn, Nat.mul_one] at this; exact this
  have b1 : ∀ (j : Nat) q, ys[j]? = some q → t.rep F W q ((cs.drop j).take 1) := fun j q hq => by have := h.2 j q hq; rwa [hn, Nat.mul_one] at this
  have b2 : ∀ (j : Nat) q, zs[j]? = some q → t.rep F W q ((ds.drop j).take 1) := fun j q hq => by have := hd.2 j q hq; rwa [hn, Nat.mul_one] at this
  have a1 : ∀ (as : List α) (bs : List Value), (∀ (j : Nat) q, as[j]? = some q → t.rep F W q ((bs.drop j).take 1)) → ∀ (j m : Nat) q, (as.take m)[j]? = some q → t.rep F W q (((bs.take m).drop j).take 1) := by
    intro as bs hab j m q hq
    rw [List.getElem?_take] at hq
    split at hq
    · rename_i hlt
      rw [List.drop_take, List.take_take, Nat.min_eq_left (show 1 ≤ m - j by omega)]
      exact hab j q hq
    · cases hq
  have e1 : (ys.take p).length = p := by rw [List.length_take]; omega
  have e2 : (cs.take p).length = p := by rw [List.length_take]; omega
  have e3 : (zs.take dl).length = min zs.length dl := by rw [List.length_take, Nat.min_comm]
  have e4 : (ds.take dl).length = min zs.length dl := by rw [List.length_take, hdl, Nat.min_comm]
  refine ⟨by rw [hn]; simp only [List.length_append, List.length_drop, e1, e2, e3, e4, hcl]; omega, fun j q hq => ?_⟩
  rw [hn, Nat.mul_one, List.append_assoc]
  rw [List.append_assoc, List.getElem?_append] at hq
  split at hq
  · rename_i hj
    rw [e1] at hj
    rw [List.drop_append_of_le_length (by omega), List.take_append_of_le_length (by rw [List.length_drop]; omega)]
    exact a1 ys cs b1 j p q hq
  · rename_i hj
    rw [e1] at hj hq
    rw [show j = (cs.take p).length + (j - p) by omega, ← List.drop_drop, List.drop_left]
    rw [List.getElem?_append] at hq
    split at hq
    · rename_i hj2
      rw [e3] at hj2
      rw [List.drop_append_of_le_length (by omega), List.take_append_of_le_length (by rw [List.length_drop]; omega)]
      exact a1 zs ds b2 (j - p) dl q hq
    · rename_i hj2
      rw [e3] at hj2 hq
      rw [show j - p = (ds.take dl).length + (j - p - min zs.length dl) by omega, ← List.drop_drop, List.drop_left, List.drop_drop]
      rw [List.getElem?_drop] at hq
      exact b1 _ q hq

theorem List.set_getElem?_self' {α : Type 1} {l : List α} {i : Nat} {a : α} (h : l[i]? = some a) : l.set i a = l := by
  obtain ⟨hl, he⟩ := List.getElem?_eq_some_iff.1 h
  rw [← he]; exact List.set_getElem_self hl
theorem Wx.copyR {α : Type} {t : Ty α} {e elem : TypeId} {v u : Value} {ys zs : List α} {g p dl dc : Nat} (hn : t.n = 1) (hu : P.underlying T = some (.slice elem)) (hsz : ∀ w', (sizeOf elem).run P w' = .ok 1 w') (hS : St w0 O w obs) (i : Nat)
    (hi : obs[i]? = some (.row t e v ys)) (hg : v.ownBlock = some g) (hx : ev (look l σ0) x = .slice (some ⟨g, p, none⟩) dl dc) (hp : p + dl ≤ ys.length) (hy : ev (look l σ0) y = u) (hs : Src t zs u (fb obs O) w)
    (hd : Nat.ble (d + 1) n = true) {c : Int} {yn : List α} (hc : ((min zs.length dl : Nat) : Int) = c) (hyn : ys.take p ++ zs.take dl ++ ys.drop (p + min zs.length dl) = yn)
    (h : ∀ w', w.heap.size ≤ w'.heap.size → St w0 O w' (obs.set i (.row t e v yn)) → Wx P n ops false rest k (look ((d, .int .i64 c) :: l) σ0) w') :
    Wx P n ops false (⟨some d, .call { callee := .builtin .copy, args := #[x, y], argTypes := #[T, T'] }, ty, pos, af, none⟩ :: rest) k (look l σ0) w := by
  subst hc hyn
  obtain ⟨cs, hr, hR⟩ := hS.get i hi
  obtain ⟨a, c, ds, rfl, g1, g2, g3, g4⟩ := hs
  by_cases hne : zs = []
  · subst hne
    have hrun : (Builtin.copy_ #[T, T'] ty #[.slice (some ⟨g, p, none⟩) dl dc, .slice a 0 c]).run P w = .ok (goInt 0) w := by
      have hinf : ∃ i, P.info? elem = some i ∧ i.size = 1 := by
        have := hsz w
        simp only [sizeOf, typeInfo] at this
        cases hq : P.info? elem with
        | none => simp [hq] at this
        | some i => simp [hq] at this; exact ⟨i, rfl, by simp [this]⟩
      obtain ⟨i, hq, hi⟩ := hinf
      cases a <;> simp [Builtin.copy_, run_underlying hu, Builtin.lenOf, Builtin.firstCells, sizeOf, typeInfo, hq, loadCells, loadCellsFrom, storeCells]
    refine Wx.val (v := .int .i64 ((min 0 dl : Nat) : Int)) (w' := w) ?_ hd (h _ (Nat.le_refl _) ?_)
    · simp [xop, execOp, resolve, invoke, builtin, hx, hy, hrun, goInt]
    · have : ys = List.take p ys ++ List.take dl [] ++ List.drop (p + min ([] : List α).length dl) ys := by simp
      rw [← this, List.set_getElem?_self' hi]; exact hS
  obtain ⟨ad, rfl⟩ := g3 hne
  have hdl : ds.length = zs.length := by have := g1.1; rw [hn, Nat.mul_one] at this; exact this
  have hcl : cs.length = ys.length := by have := hR.1; rw [hn, Nat.mul_one] at this; exact this
  rcases hr.2 with ⟨rfl, _⟩ | ⟨g', cap, cur, rfl, h1, h2, h3, h4, h5, h6⟩
  · simp [Value.ownBlock] at hg
  · have hgg : g' = g := by simpa [Value.ownBlock] using hg
    subst hgg
    rw [hn] at h5 h6
    simp only [Nat.mul_one] at h5 h6
    have htl : (ds.take dl).length = min zs.length dl := by rw [List.length_take, hdl, Nat.min_comm]
    have hmin : min zs.length dl ≤ dl := Nat.min_le_right _ _
    have hinf : (P.info? elem).map (·.size) = some 1 := by
      have := hsz w
      simp only [sizeOf, typeInfo] at this
      cases hq : P.info? elem with
      | none => simp [hq] at this
      | some i => simp [hq] at this; simp [this]
    have hrun := run_copy_row (P := P) w T T' ty elem g' p dl dc ad zs.length c cur e (ds.take dl) hu hinf h2 htl (fun j q hq => by
      rw [List.getElem?_take] at hq
      split at hq
      · exact g4 ad rfl j q hq
      · cases hq) (by rw [htl]; omega) (fun q hq => g2 q (List.mem_of_mem_take hq))
    rw [htl] at hrun
    refine Wx.val (v := .int .i64 (min zs.length dl : Nat)) (w' := w.setRow g' (cur.toList.take p ++ ds.take dl ++ cur.toList.drop (p + min zs.length dl)).toArray) ?_ hd (h _ (by simp) ?_)
    · simp [xop, execOp, resolve, invoke, builtin, hx, hy, hrun, goInt]
    · have hcurl : cur.toList.length = cap := by simpa using h5
      refine hS.turn i hi rfl rfl rfl (by simp) (fun b _ hb' => setRow_other w g' b _ (fun hq => hb' (by rw [hq]; rfl))) (fun b hb' => .inl hb') (fun b hb' => by simpa using (Ob.ok_lt (hS.get i hi) hb').2) (fun F hM => ?_)
      have hlen : (ys.take p ++ zs.take dl ++ ys.drop (p + min zs.length dl)).length = ys.length := by simp; omega
      refine ⟨cs.take p ++ ds.take dl ++ cs.drop (p + min zs.length dl), ?_, ?_⟩
      · refine ⟨by simp [hn]; omega, .inr ⟨g', cap, _, by rw [hlen], h1, setRow_heap w g' cur _ e _ h2, by rw [hlen]; exact h3, h4, by simp [hn]; omega, ?_⟩⟩
        rw [hlen, hn, Nat.mul_one, ← h6]
        have := take_splice cur.toList (ds.take dl) p ys.length (by rw [htl]; omega) (by omega)
        rw [htl] at this
        exact this
      · exact Reps.splice hn (hR.mv hM) (g1.mv hM) (by omega)

/-- The same into the whole of it. -/
theorem Wx.copyW {α : Type} {t : Ty α} {e elem : TypeId} {v u : Value} {ys zs : List α} (hn : t.n = 1) (hu : P.underlying T = some (.slice elem)) (hsz : ∀ w', (sizeOf elem).run P w' = .ok 1 w') (hS : St w0 O w obs) (i : Nat)
    (hi : obs[i]? = some (.row t e v ys)) (hx : ev (look l σ0) x = v) (hy0 : 0 < ys.length) (hy : ev (look l σ0) y = u) (hs : Src t zs u (fb obs O) w) (hd : Nat.ble (d + 1) n = true) {c : Int} {yn : List α} (hc : ((min zs.length ys.length : Nat) : Int) = c) (hyn : zs.take ys.length ++ ys.drop (min zs.length ys.length) = yn)
    (h : ∀ w', w.heap.size ≤ w'.heap.size → St w0 O w' (obs.set i (.row t e v yn)) → Wx P n ops false rest k (look ((d, .int .i64 c) :: l) σ0) w') :
    Wx P n ops false (⟨some d, .call { callee := .builtin .copy, args := #[x, y], argTypes := #[T, T'] }, ty, pos, af, none⟩ :: rest) k (look l σ0) w := by
  obtain ⟨cs, hr, hR⟩ := hS.get i hi
  rcases hr.2 with ⟨rfl, hz⟩ | ⟨g, cap, cur, rfl, h1, h2, h3, h4, h5, h6⟩
  · omega
  · exact Wx.copyR (p := 0) (dl := ys.length) (dc := cap) hn hu hsz hS i hi rfl hx (by omega) hy hs hd hc (by simpa using hyn) h

theorem Wp.ex2 (i : Nat) {f : Nat} {listed : Array Bool} {op : Op} {v : Value} {u : Nat → Nat → Value}
    (hi : ops[i]? = some ⟨some d, op, ty, pos, af, none⟩) (hB : (Region.noSelect ops && Region.free .any ops listed i && (Region.ready .any ops listed).contains i) = true)
    (hr : ∃ g c, v.ownBlock = some g ∧ ∀ w', Rd P (look l σ0) op ty w' (u g c)) (hd : Nat.ble (d + 1) n = true)
    (h : ∀ g c, v.ownBlock = some g → Wp P n ops f (listed.setIfInBounds i true) k (look ((d, u g c) :: l) σ0) w) : Wp P n ops (f + 1) listed k (look l σ0) w := by
  obtain ⟨g, c, h1, h2⟩ := hr
  exact Wp.rd i hi hB h2 hd (h g c h1)

/-- The elements of a slice of the call's own, spelled in another way. -/
theorem St.spell {α : Type} {t : Ty α} {e : TypeId} {v : Value} {ys ys' : List α} (hS : St w0 O w obs) (i : Nat) (hi : obs[i]? = some (.row t e v ys)) (h : ys = ys') : St w0 O w (obs.set i (.row t e v ys')) := by
  subst h
  have : obs.set i (.row t e v ys) = obs := by
    obtain ⟨hl, he⟩ := List.getElem?_eq_some_iff.1 hi
    rw [← he]; exact List.set_getElem_self hl
  rw [this]; exact hS

/-- A value's reading, as objects are let go, or as one that owns no memory is added. -/
theorem V.tlF {α : Type} {t : Ty α} {x : α} {v : Value} {a : Ob} {W : World} (h : V t x v (fb (a :: obs) O) W) : V t x v (fb obs O) W :=
  h.mv (.less fun b hb => by
    rcases List.mem_append.1 hb with hb | hb
    · exact List.mem_append.2 (.inl (List.mem_cons_of_mem _ hb))
    · exact List.mem_append.2 (.inr hb))
theorem V.upF {α β : Type} {t : Ty α} {x : α} {v : Value} {u : Ty β} {y : β} {z : Value} {W : World} (h : V t x v (fb obs O) W) : V t x v (fb (Ob.v u y z :: obs) O) W :=
  h.mv (.less fun b hb => by
    rcases List.mem_append.1 hb with hb | hb
    · rcases List.mem_cons.1 hb with hb | hb
      · simp [Ob.blk] at hb
      · exact List.mem_append.2 (.inl hb)
    · exact List.mem_append.2 (.inr hb))
theorem V.allIn {kk : IntKind} {xs : List Int} {v : Value} {F : List (Option Nat)} {W : World} (h : V (tSl (tI kk)) xs v F W) : ∀ x ∈ xs, InK kk x := by
  intro x hx
  obtain ⟨a, cap, _, _, _, h3⟩ := h.form
  obtain ⟨b, o, _, _, _, h7⟩ := h3 (List.ne_nil_of_mem hx)
  obtain ⟨i, hi⟩ := List.getElem?_of_mem hx
  obtain ⟨es, h8, _⟩ := h7 i x hi
  exact h8.2
/-- A struct's parts, of which only the cells count. -/
theorem fill_cells (f : Nat → Option (Nat × Nat)) : ∀ (vs us : List (Nat × Value)) (z : Array Value), vs.map (fun p => (p.1, Value.agg p.2.cells)) = us → Instr.fill f z vs = Instr.fill f z us
  | [], _, _, h => by subst h; rfl
  | (i, v) :: vs, _, z, h => by
    subst h
    simp only [List.map_cons, Instr.fill]
    cases f i with
    | none => rfl
    | some p =>
      obtain ⟨off, size⟩ := p
      have e : ∀ c : Array Value, (Value.agg c).cells = c := fun _ => rfl
      simp only [e]
      split
      · rfl
      · exact fill_cells f vs _ _ rfl
theorem built_cells {t : TypeId} {vs us : List (Nat × Value)} (h : vs.map (fun p => (p.1, Value.agg p.2.cells)) = us) : P.built t vs = P.built t us := by
  unfold Program.built
  simp only [fill_cells _ vs us _ h]
theorem parts_nil : ([] : List (Nat × Value)).map (fun p => (p.1, Value.agg p.2.cells)) = [] := rfl
theorem parts_cons {i : Nat} {v : Value} {c : Array Value} {vs us : List (Nat × Value)} (h : v.cells = c) (hs : vs.map (fun p => (p.1, Value.agg p.2.cells)) = us) : ((i, v) :: vs).map (fun p => (p.1, Value.agg p.2.cells)) = (i, .agg c) :: us := by rw [List.map_cons, hs, h]
theorem rd_buildC {t : TypeId} {σ : Fr} {ty : TypeId} {ps : List (Nat × Operand)} {vs us : List (Nat × Value)} {cs : Array Value} (hp : ps.map (fun p => (p.1, ev σ p.2)) = vs) (hv : vs.map (fun p => (p.1, Value.agg p.2.cells)) = us) (hb : P.built t us = some cs) : Rd P σ (.build t ps.toArray) ty w (.agg cs) :=
  rd_build hp ((built_cells hv).trans hb)
theorem rd_min3 {kk k' k'' : IntKind} {x y z : Operand} {a b c : Int} {ty : TypeId} {σ : Fr} {ts : Array TypeId} (hx : ev σ x = .int kk a) (hy : ev σ y = .int k' b) (hz : ev σ z = .int k'' c) : Rd P σ (.call { callee := .builtin .min, args := #[x, y, z], argTypes := ts }) ty w (.int kk (min (min a b) c)) :=
  Rd.of fun w' => by
    have : (if c < (if b < a then b else a) then c else (if b < a then b else a)) = min (min a b) c := by simp only [Int.min_def]; split <;> split <;> split <;> omega
    have h : (Builtin.min_ ts ty #[.int kk a, .int k' b, .int k'' c]).run P w' = .ok (.int kk (min (min a b) c)) w' := by rw [← this]; simp [Builtin.min_, Builtin.min2]
    simp [xop, execOp, resolve, invoke, builtin, hx, hy, hz, h]
theorem rd_max3 {kk k' k'' : IntKind} {x y z : Operand} {a b c : Int} {ty : TypeId} {σ : Fr} {ts : Array TypeId} (hx : ev σ x = .int kk a) (hy : ev σ y = .int k' b) (hz : ev σ z = .int k'' c) : Rd P σ (.call { callee := .builtin .max, args := #[x, y, z], argTypes := ts }) ty w (.int kk (max (max a b) c)) :=
  Rd.of fun w' => by
    have : (if (if a < b then b else a) < c then c else (if a < b then b else a)) = max (max a b) c := by simp only [Int.max_def]; split <;> split <;> split <;> omega
    have h : (Builtin.max_ ts ty #[.int kk a, .int k' b, .int k'' c]).run P w' = .ok (.int kk (max (max a b) c)) w' := by rw [← this]; simp [Builtin.max_, Builtin.max2]
    simp [xop, execOp, resolve, invoke, builtin, hx, hy, hz, h]
end
end Go.Wk
