/-
  WHAT IS PROVED HERE, TEXT BY TEXT (several texts of one prover, joined to one file; the conditions stand in each statement):
  * WHAT IS PROVED HERE: what functions hand back, each out of its own code; the conditions stand in each statement.
  * WHAT IS PROVED HERE: slices of slices of the call's own: the rows are objects of the call as well, and can be written, or turned into other ones. Conditions stand in each statement; they hold over any program.
  * WHAT IS PROVED HERE: scopes in which the run jumps back to one label: what holds at every jump, and a measure that every pass from the label lowers. Nothing here speaks of a program.
  * WHAT IS PROVED HERE: what functions hand back, each out of its own code; the conditions stand in each statement.
  * WHAT IS PROVED HERE: what functions hand back, each out of its own code; the conditions stand in each statement.
  * WHAT IS PROVED HERE: what functions hand back, each out of its own code; the conditions stand in each statement.
  * WHAT IS PROVED HERE: what functions hand back, each out of its own code; the conditions stand in each statement.
  * WHAT IS PROVED HERE: what functions hand back, each out of its own code; the conditions stand in each statement.
  * WHAT IS PROVED HERE: what functions hand back, each out of its own code; the conditions stand in each statement.
  * WHAT IS PROVED HERE: what functions hand back, each out of its own code; the conditions stand in each statement.
  * WHAT IS PROVED HERE: what functions hand back, each out of its own code; the conditions stand in each statement.
  * WHAT IS PROVED HERE: what functions hand back, each out of its own code; the conditions stand in each statement.
  * WHAT IS PROVED HERE: what functions hand back, each out of its own code; the conditions stand in each statement.
  * WHAT IS PROVED HERE: what functions hand back, each out of its own code; the conditions stand in each statement.
  * WHAT IS PROVED HERE: what functions hand back, each out of its own code; the conditions stand in each statement.
  * WHAT IS PROVED HERE: what functions hand back, each out of its own code; the conditions stand in each statement.
  * WHAT IS PROVED HERE: what functions hand back, each out of its own code; the conditions stand in each statement.
  * WHAT IS PROVED HERE: what functions hand back, each out of its own code; the conditions stand in each statement.
  * WHAT IS PROVED HERE: what functions hand back, each out of its own code; the conditions stand in each statement.
  * WHAT IS PROVED HERE: what functions hand back, each out of its own code; the conditions stand in each statement.
-/
import Derived.Test.YtdpdlplkngggoaaGreatDoorProg
import Derived.Test.YtdpdlplkngggoaaGreatDoorU4
import Derived.Test.YtdpdlplkngggoaaGreatDoorU5
import Derived.Test.YtdpdlplkngggoaaGreatDoorU2
import Derived.ScopeJumps

set_option linter.unusedVariables false
set_option linter.unusedSimpArgs false

namespace Go.Proofs.YtdpdlplkngggoaaGreatDoor
open Go.Wk Go.RowKit Go.Lib
set_option linter.unusedVariables false
set_option linter.unusedSimpArgs false
theorem elVd_25 : ElemI Tryz.prog 25 3 (.int .i64 0) 1 8 := ElemI.of Tryz.underlying25 (by kernel_rfl) (by first | rfl | kernel_rfl) (by decide)
theorem elVd_30 : ElemI Tryz.prog 30 25 ((.slice none 0 0)) 1 24 := ElemI.of Tryz.underlying30 (by kernel_rfl) (by first | rfl | kernel_rfl) (by decide)

set_option maxHeartbeats 2000000 in
theorem F25  {w : World} (hG : Laid w) : Calls Tryz.prog 25 #[] w (Ret w (fun r _ => r = .bool true)) := by
  have hS := St.start0 w
  refine enterR Tryz.func25 rfl Tryz.ntmps25 Tryz.results25 rfl ?_
  refine W.seq ?_
  refine W.reg ?_
  refine Wx.rd (v := .bool false) (rd_assign rfl) rfl ?_
  refine Wx.nil ?_
  refine W.seq ?_
  refine W.reg ?_
  refine Wx.lit (t := (tI .i64)) (ys := [1, 5, 2]) (vs := [.int .i64 1, .int .i64 5, .int .i64 2]) elVd_25 hS rfl rfl ⟨(V.mkInt (in_i64 (by omega) (by omega))), ⟨(V.mkInt (in_i64 (by omega) (by omega))), ⟨(V.mkInt (in_i64 (by omega) (by omega))), trivial⟩⟩⟩ (by decide) rfl (fun v_1 w_2 hx_3 hS => ?_)
  refine Wx.lit (t := (tI .i64)) (ys := [5, 1, 2]) (vs := [.int .i64 5, .int .i64 1, .int .i64 2]) elVd_25 hS rfl rfl ⟨(V.mkInt (in_i64 (by omega) (by omega))), ⟨(V.mkInt (in_i64 (by omega) (by omega))), ⟨(V.mkInt (in_i64 (by omega) (by omega))), trivial⟩⟩⟩ (by decide) rfl (fun v_4 w_5 hx_6 hS => ?_)
  have hS := hS.freeze 1 rfl
  have hS := hS.freeze 1 rfl
  refine Wx.lit (t := (tSl (tI .i64))) (ys := [[1, 5, 2], [5, 1, 2]]) (vs := [v_1, v_4]) elVd_30 hS rfl rfl ⟨(hS.v 1 rfl), ⟨(hS.v 0 rfl), trivial⟩⟩ (by decide) rfl (fun v_9 w_10 hx_11 hS => ?_)
  have hS := hS.freeze 0 rfl
  refine Wx.callF (run_callF Tryz.call33 rfl) (F33 (m := 3) (res := ([1, 0, 0] : List Int)) (hS.v 0 rfl) dv_0 (by decide) rg_0 hS.fb_lt) rfl ?_
  rintro r_13 w_14 hx_15 ⟨v_16, rfl, hv_17⟩
  have hS := hS.pushFr hx_15 hv_17
  refine Wx.rd (v := .tuple #[v_16, .int .i64 0]) (rd_move rfl) rfl ?_
  refine Wx.rd (v := v_16) (rd_extract rfl rfl) rfl ?_
  refine Wx.rd (v := .int .i64 0) (rd_extract rfl rfl) rfl ?_
  refine Wx.rd (v := v_16) (rd_assign rfl) rfl ?_
  refine Wx.rd (v := .int .i64 0) (rd_assign rfl) rfl ?_
  refine Wx.nil ?_
  refine W.seq ?_
  refine W.reg ?_
  refine Wx.rd (v := .int .i64 0) (rd_move rfl) rfl ?_
  refine Wx.rd (v := .bool true) (Rd.to (v := .bool (decide ((0 : Int) = 0))) (rd_eql rfl rfl) rfl) rfl ?_
  refine Wx.rd (v := .bool true) (rd_move rfl) rfl ?_
  refine Wx.gyes rfl rfl rfl ?_
  refine Wx.rd (v := v_16) (rd_move rfl) rfl ?_
  refine Wx.gyes rfl rfl rfl ?_
  refine Wx.lit (t := (tI .i64)) (ys := [1, 0, 0]) (vs := [.int .i64 1, .int .i64 0, .int .i64 0]) elVd_25 hS rfl rfl ⟨(V.mkInt (in_i64 (by omega) (by omega))), ⟨(V.mkInt (in_i64 (by omega) (by omega))), ⟨(V.mkInt (in_i64 (by omega) (by omega))), trivial⟩⟩⟩ (by decide) rfl (fun v_19 w_20 hx_21 hS => ?_)
  refine Wx.gyes rfl rfl rfl ?_
  have hS := hS.freeze 0 rfl
  refine Wx.callF (run_callF Tryz.call35 rfl) (F35 (hS.v 0 rfl) hS.fb_lt) rfl ?_
  rintro r_23 w_24 hx_25 ⟨_, rfl, hv_26⟩
  have ln_28 := hv_26.len63
  have hS := hS.ext hx_25
  have hS := hS.add hv_26
  refine Wx.gyes rfl rfl rfl ?_
  refine Wx.callF (run_callF Tryz.call34 rfl) (F34 (hS.lend 2 rfl) (hS.v 0 rfl)) rfl ?_
  rintro r_29 w_30 hx_31 rfl
  have hS := hS.ext hx_31
  rw [show (decide (([1, 0, 0] : List Int) = [1, 0, 0]) : Bool) = true from (by decide +kernel)]
  refine Wx.rd (v := .bool true) (rd_pickT rfl rfl) rfl ?_
  refine Wx.rd (v := .bool true) (rd_move rfl) rfl ?_
  refine Wx.gyes rfl rfl rfl ?_
  refine Wx.callF (run_callF Tryz.call36 rfl) (C5.F36 (hG.ext hS.bel)) rfl ?_
  rintro r_32 w_33 hx_34 rfl
  have hS := hS.ext hx_34
  refine Wx.rd (v := .bool true) (rd_pickT rfl rfl) rfl ?_
  refine Wx.rd (v := .bool true) (rd_assign rfl) rfl ?_
  refine Wx.nil ?_
  exact W.ret ⟨.bool true, ResIs.one, hS.bel, rfl⟩
end Go.Proofs.YtdpdlplkngggoaaGreatDoor

namespace Go.Wk
open Go.RowKit
set_option linter.unusedVariables false
section
variable {w0 w : World} {O : List (Option Nat)} {obs : List Ob} {e1 e2 : TypeId} {g p i : Nat} {vs : List Value} {yss : List (List Int)} {v : Value} {y : List Int}
end
section
variable {P : Program} {n : Nat} {w w0 : World} {O : List (Option Nat)} {obs : List Ob} {ops : Array Oper} {rest : List Oper} {k : Cont} {d : Tmp} {ty : TypeId} {pos : String} {af : Array Edge}
  {l : List (Nat × Value)} {σ0 σ : Fr} {T s : TypeId} {x z : Operand} {e1 e2 : TypeId} {g p i : Nat} {vs : List Value} {yss : List (List Int)} {v : Value} {y : List Int} {ik : IntKind}
theorem rd_indexM {len cap : Nat} {m : Int} {e : TypeId} (hx : ev σ x = .slice (some ⟨g, 0, none⟩) len cap) (hi : ev σ z = .int ik m) (hu : P.underlying s = some (.slice e)) (hsz : ∀ w', (sizeOf e).run P w' = .ok 1 w') (h0 : 0 ≤ m) (h1 : m < len) :
    Rd P σ (.indexAddr s x z) ty w (.pointer (some ⟨g, m.toNat, none⟩)) := by
  have := run_indexSl (P := P) (w := w) (ty := ty) hx hi hu hsz h0 h1
  rw [Addr.add_lit, Nat.mul_one, Nat.zero_add] at this
  exact this
end
end Go.Wk

namespace Go.Wk
open Go.RowKit Go.Lib
set_option linter.unusedVariables false

theorem wpIn_scope_jumps {F : Fence} {m : Nat} {P : Program} {Q : Exit → Act → World → Prop} {a : Act} {w : World} {c rest : Code} (l : Nat) (J : Act → World → Prop) (μ : Act → World → Nat → Prop) (hf : findLabel c l = some rest)
    (first : c.wpIn F m P (Exit.jump l (fun a w => J a w ∧ ∃ n, μ a w n) Q) a w)
    (pass : ∀ a w n, J a w → μ a w n → rest.wpIn F m P (Exit.jump l (fun a' w' => J a' w' ∧ ∃ n', n' < n ∧ μ a' w' n') Q) a w) : (Code.scope c).wpIn F m P Q a w := by
  intro b k cs hro hb hr
  have hg : gotoIn l (.inScope c :: k) = some (.code rest :: .inScope c :: k) := by simp [gotoIn, hf]
  have s0 : ∀ a w, StepsIn (Machine.fenced P F) P (lone (b.atR a (.code (.scope c) :: k)) cs w) (lone (b.atR a (.code c :: .inScope c :: k)) cs w) := fun a w => .one (fenced_calm hb hr rfl) (step_lone_go (by simp [stepG, stepG.exec, Frame.atR]))
  have s1 : ∀ a w, StepsIn (Machine.fenced P F) P (lone (b.atR a (.inScope c :: k)) cs w) (lone (b.atR a k) cs w) := fun a w => .one (fenced_calm hb hr rfl) (step_lone_go (by simp [stepG, stepG.exec, Frame.atR]))
  have key : ∀ n a w, μ a w n → J a w → ∃ e a' w', Q e a' w' ∧ ArrivesIn (Machine.fenced P F) P (lone (b.atR a (.code rest :: .inScope c :: k)) cs w) b k cs e a' w' := by
    intro n
    induction n using Nat.strongRecOn with
    | _ n ih =>
      intro a w hn hJ
      obtain ⟨e, a₁, w₁, hq, harr⟩ := pass a w n hJ hn b (.inScope c :: k) cs hro hb hr
      cases e with
      | normal => exact ⟨.normal, a₁, w₁, hq, StepsIn.trans harr (s1 _ _)⟩
      | exit id => exact ⟨.exit id, a₁, w₁, hq, fun k' hk => harr.1 k' (by simp [exitTo, hk]), fun hro hk => harr.2 hro (by simp [exitTo, hk])⟩
      | goto l' =>
        obtain ⟨rfl, hJ', n', hlt, hm⟩ := hq
        obtain ⟨e₂, a₂, w₂, hq₂, harr₂⟩ := ih n' hlt a₁ w₁ hm hJ'
        exact ⟨e₂, a₂, w₂, hq₂, .of_steps (harr.1 _ hg) harr₂⟩
      | ret => exact ⟨_, a₁, w₁, hq, harr⟩
      | panic ch => exact ⟨_, a₁, w₁, hq, harr⟩
      | outgrown => exact ⟨_, a₁, w₁, hq, harr⟩
  obtain ⟨e, a₁, w₁, hq, harr⟩ := first b (.inScope c :: k) cs hro hb hr
  cases e with
  | normal => exact ⟨.normal, a₁, w₁, hq, StepsIn.trans (s0 _ _) (StepsIn.trans harr (s1 _ _))⟩
  | exit id => exact ⟨.exit id, a₁, w₁, hq, fun k' hk => StepsIn.trans (s0 _ _) (harr.1 k' (by simp [exitTo, hk])), fun hro hk => let ⟨k₁, h1, h2⟩ := harr.2 hro (by simp [exitTo, hk]); ⟨k₁, h1, StepsIn.trans (s0 _ _) h2⟩⟩
  | goto l' =>
    obtain ⟨rfl, hJ', n', hm⟩ := hq
    obtain ⟨e₂, a₂, w₂, hq₂, harr₂⟩ := key n' a₁ w₁ hm hJ'
    exact ⟨e₂, a₂, w₂, hq₂, .of_steps (StepsIn.trans (s0 _ _) (harr.1 _ hg)) harr₂⟩
  | ret => exact ⟨_, a₁, w₁, hq, .of_steps (s0 _ _) harr⟩
  | panic ch => exact ⟨_, a₁, w₁, hq, .of_steps (s0 _ _) harr⟩
  | outgrown => exact ⟨_, a₁, w₁, hq, .of_steps (s0 _ _) harr⟩

def postJ (n : Nat) (ds : List Deferred) (kn kr : Cont) (ke : List (Nat × Cont)) (l : Nat) (J : Cont) : Exit → Act → World → Prop
  | .goto l', a, w => l' = l ∧ a.tmps.size = n ∧ a.defers = ds ∧ J (fun i => a.tmps.getD i undef) w
  | e, a, w => postD n ds kn kr ke e a w
def WJ (P : Program) (n : Nat) (c : Code) (kn kr : Cont) (ke : List (Nat × Cont)) (l : Nat) (J : Cont) (σ : Fr) (w : World) : Prop :=
  ∀ T, AtF n σ T → ∀ (r : Option Nat) (ds : List Deferred) (m : Nat), c.wpIn (ringF r) m P (postJ n ds kn kr ke l J) ⟨T, ds⟩ w
section
variable {P : Program} {n : Nat} {kn kr : Cont} {ke : List (Nat × Cont)} {σ : Fr} {w : World} {l : Nat} {J : Cont}
theorem WJ.of {c : Code} (h : W P n c kn kr ke σ w) : WJ P n c kn kr ke l J σ w := fun T hT r ds m => wpIn_mono (h T hT r ds m) fun e a w q => by
  cases e <;> first | exact q | exact q.elim
theorem WJ.seq {a b : Code} (h : W P n a (fun σ w => WJ P n b kn kr ke l J σ w) kr ke σ w) : WJ P n (.seq a b) kn kr ke l J σ w := by
  intro T hT r ds m
  refine wpIn_seq (wpIn_mono (h T hT r ds m) ?_)
  intro e a' w' hq
  cases e with
  | normal =>
    obtain ⟨h1, h2, h3⟩ := hq
    have := h3 a'.tmps (AtF.self h1) r ds m
    cases a'
    simp only at h2
    subst h2
    exact this
  | exit id => exact hq
  | goto l => exact hq.elim
  | ret => exact hq
  | panic ch => exact hq
  | outgrown => exact hq
theorem WJ.seqJ {a b : Code} (h : WJ P n a (fun σ w => WJ P n b kn kr ke l J σ w) kr ke l J σ w) : WJ P n (.seq a b) kn kr ke l J σ w := by
  intro T hT r ds m
  refine wpIn_seq (wpIn_mono (h T hT r ds m) ?_)
  intro e a' w' hq
  cases e with
  | normal =>
    obtain ⟨h1, h2, h3⟩ := hq
    have := h3 a'.tmps (AtF.self h1) r ds m
    cases a'
    simp only at h2
    subst h2
    exact this
  | exit id => exact hq
  | goto l => exact hq
  | ret => exact hq
  | panic ch => exact hq
  | outgrown => exact hq
theorem WJ.skip (h : kn σ w) : WJ P n .skip kn kr ke l J σ w := WJ.of (W.skip h)
theorem WJ.goto (h : J σ w) : WJ P n (.goto l) kn kr ke l J σ w := fun T hT _ _ _ => wpIn_goto ⟨rfl, hT.1, rfl, by rw [hT.fun_eq]; exact h⟩
theorem WJ.cond {c : Operand} {x y : Code} {t : Bool} (hc : ev σ c = .bool t) (hx : t = true → WJ P n x kn kr ke l J σ w) (hy : t = false → WJ P n y kn kr ke l J σ w) : WJ P n (.cond c x y) kn kr ke l J σ w := by
  intro T hT r ds m
  have hc' : (Act.mk T ds).eval c = .bool t := by rw [hT.eval]; exact hc
  cases t with
  | true => exact wpIn_cond_true hc' (hx rfl T hT r ds m)
  | false => exact wpIn_cond_false hc' (hy rfl T hT r ds m)
theorem WJ.condD {c : Operand} {x y : Code} {p : Prop} [Decidable p] (hc : ev σ c = .bool (decide p)) (hx : p → WJ P n x kn kr ke l J σ w) (hy : ¬ p → WJ P n y kn kr ke l J σ w) : WJ P n (.cond c x y) kn kr ke l J σ w :=
  WJ.cond hc (fun h => hx (of_decide_eq_true h)) (fun h => hy (of_decide_eq_false h))
theorem W.scopeJ {X : Type _} (l : Nat) (D : List Nat) (f : X → List (Nat × Value)) (I : X → World → Prop) (μ : X → Nat) {c rest : Code} (hf : findLabel c l = some rest)
    (first : WJ P n c kn kr ke l (fun σ' w' => ∃ x, I x w' ∧ Agr D (f x) σ σ') σ w)
    (pass : ∀ (x : X) (u : Fr) (w : World), I x w → WJ P n rest kn kr ke l (fun σ' w' => ∃ x', μ x' < μ x ∧ I x' w' ∧ Agr D (f x') σ σ') (look (f x) (hav D u σ)) w) : W P n (.scope c) kn kr ke σ w := by
  intro T hT r ds rm
  refine wpIn_scope_jumps l (fun a w => a.tmps.size = n ∧ a.defers = ds) (fun a w k => ∃ x, μ x = k ∧ I x w ∧ Agr D (f x) σ (fun i => a.tmps.getD i undef)) hf ?_ ?_
  · refine wpIn_mono (first T hT r ds rm) fun e a' w' hq => ?_
    cases e with
    | goto l' =>
      obtain ⟨h1, h2, h3, x, h4, h5⟩ := hq
      exact ⟨h1, ⟨h2, h3⟩, μ x, x, rfl, h4, h5⟩
    | normal => exact hq
    | exit id => exact hq
    | ret => exact hq
    | panic ch => exact hq
    | outgrown => exact hq
  · rintro a w k ⟨h1, h2⟩ ⟨x, rfl, hI, hA⟩
    have hr := pass x (fun i => a.tmps.getD i undef) w hI
    have hF : AtF n (look (f x) (hav D (fun i => a.tmps.getD i undef) σ)) a.tmps := ⟨h1, fun i => congrFun hA.eq i⟩
    have := hr a.tmps hF r ds rm
    cases a
    simp only at h2
    subst h2
    refine wpIn_mono this fun e a' w' hq => ?_
    cases e with
    | goto l' =>
      obtain ⟨g1, g2, g3, x', g4, g5, g6⟩ := hq
      exact ⟨g1, ⟨g2, g3⟩, μ x', g4, x', rfl, g5, g6⟩
    | normal => exact hq
    | exit id => exact hq
    | ret => exact hq
    | panic ch => exact hq
    | outgrown => exact hq
theorem W.label {i : Nat} (h : kn σ w) : W P n (.label i) kn kr ke σ w := fun T hT _ _ _ => wpIn_label ⟨hT.1, rfl, by rw [hT.fun_eq]; exact h⟩
theorem WJ.mono {c : Code} {J' : Cont} (h : WJ P n c kn kr ke l J σ w) (hJ : ∀ σ w, J σ w → J' σ w) : WJ P n c kn kr ke l J' σ w := fun T hT r ds m => wpIn_mono (h T hT r ds m) fun e a w q => by
  cases e <;> first | exact q | exact ⟨q.1, q.2.1, q.2.2.1, hJ _ _ q.2.2.2⟩
theorem W.scopeL {X : Type _} (l : Nat) (D : List Nat) (f : X → List (Nat × Value)) (I : X → World → Prop) (μ : X → Nat) {c B : Code} (hf : findLabel c l = some (.seq .skip B))
    (pass : ∀ (x : X) (u : Fr) (w : World), I x w → WJ P n B kn kr ke l (fun σ' w' => ∃ x', μ x' < μ x ∧ I x' w' ∧ Agr D (f x') σ σ') (look (f x) (hav D u σ)) w)
    (first : ∀ K : Cont, (∀ σ' w', (∃ x, I x w' ∧ Agr D (f x) σ σ') → K σ' w') → (∀ σ' w', K σ' w' → WJ P n B kn kr ke l (fun σ' w' => ∃ x, I x w' ∧ Agr D (f x) σ σ') σ' w') → WJ P n c kn kr ke l (fun σ' w' => ∃ x, I x w' ∧ Agr D (f x) σ σ') (look [] σ) w) : W P n (.scope c) kn kr ke σ w := by
  refine W.scopeJ l D f I μ hf ?_ fun x u w hI => WJ.seq (W.skip (pass x u w hI))
  refine first (fun σ' w' => ∃ x, I x w' ∧ Agr D (f x) σ σ') (fun _ _ q => q) ?_
  rintro σ' w' ⟨x, hI, hA⟩
  have := pass x σ' w' hI
  rw [← hA.eq] at this
  exact this.mono fun σ'' w'' ⟨x', _, h1, h2⟩ => ⟨x', h1, h2⟩
end
end Go.Wk

namespace Go.Proofs.YtdpdlplkngggoaaGreatDoor
open Go.Wk Go.RowKit Go.Lib
set_option linter.unusedVariables false
set_option linter.unusedSimpArgs false
theorem foGa_52_1 : fldOff Tryz.prog 52 1 = some 1 := by kernel_rfl

theorem F24 {ts : List Int} {e : Int} {w : World} (n_ts : ts.length = 34) (i_ts : ∀ z ∈ ts, InK .i64 z) (i_e : InK .i64 e) (p_e : 0 ≤ e ∧ e < 16) : Calls Tryz.prog 24 #[.agg (List.map (Value.int .i64) ts).toArray, .int .i64 e] w (Ret w (fun r _ => r = .int .i64 (taF ts e))) := by
  have b_e := bd_i64 i_e
  have hS := St.start0 w
  refine enterR Tryz.func24 rfl Tryz.ntmps24 Tryz.results24 rfl ?_
  refine W.seq ?_
  refine W.reg ?_
  refine Wx.box (cs := List.map (Value.int .i64) ts) hS rfl rfl rfl (fun g_1 w_2 hx_4 hb_3 hS => ?_)
  refine Wx.rd (v := .int .i64 0) (rd_assign rfl) rfl ?_
  refine Wx.nil ?_
  refine W.seq ?_
  refine W.reg ?_
  refine Wx.rd (v := .int .i64 e) (rd_move rfl) rfl ?_
  refine Wx.rd (v := .pointer (some ⟨g_1, 0 + 1, none⟩)) (rd_fieldAddr (o := 0) rfl foGa_52_1) rfl ?_
  refine Wx.rd (v := .pointer (some ⟨g_1, 0 + 1 + e.toNat * 1, none⟩)) (rd_indexArr rfl rfl Tryz.underlying50 Tryz.sizeOf3 (by omega) (by omega)) rfl ?_
  have bz_5 := ix_i64 i_ts (1 + e)
  refine Wx.rd (v := .int .i64 (ix 0 ts (1 + e))) (rd_loadXa (d := 0) (f := (Value.int .i64)) (j := 1 + e) hS 0 rfl rfl (by omega) (by omega) (by omega) Tryz.isAgg3) rfl ?_
  refine Wx.rd (v := .int .i64 (ix 0 ts (1 + e))) (rd_assign rfl) rfl ?_
  refine Wx.nil ?_
  have e0_0 : (taF ts e) = (ix 0 ts (1 + e) : Int) := by rfl
  exact W.ret ⟨.int .i64 (ix 0 ts (1 + e)), ResIs.one, hS.bel, (by rw [e0_0])⟩
end Go.Proofs.YtdpdlplkngggoaaGreatDoor

namespace Go.Proofs.YtdpdlplkngggoaaGreatDoor
open Go.Wk Go.RowKit Go.Lib
set_option linter.unusedVariables false
set_option linter.unusedSimpArgs false
theorem foGh_52_1 : fldOff Tryz.prog 52 1 = some 1 := by kernel_rfl

theorem F15 {ts : List Int} {e : Int} {w : World} (n_ts : ts.length = 34) (i_ts : ∀ z ∈ ts, InK .i64 z) (i_e : InK .i64 e) (p_e : 0 ≤ e ∧ e < 16) (hG : Laid w) : Calls Tryz.prog 15 #[.agg (List.map (Value.int .i64) ts).toArray, .int .i64 e] w (Ret w (fun r _ => r = .int .i64 (alngF ts e))) := by
  have b_e := bd_i64 i_e
  obtain ⟨_, _, x_0⟩ := hG.oth
  have hob := oth_bd p_e.1 p_e.2
  have hS := St.start0 w
  refine enterR Tryz.func15 rfl Tryz.ntmps15 Tryz.results15 rfl ?_
  refine W.seq ?_
  refine W.reg ?_
  refine Wx.box (cs := List.map (Value.int .i64) ts) hS rfl rfl rfl (fun g_1 w_2 hx_4 hb_3 hS => ?_)
  refine Wx.rd (v := .int .i64 0) (rd_assign rfl) rfl ?_
  refine Wx.nil ?_
  refine W.seq ?_
  refine W.reg ?_
  refine Wx.rd (v := .int .i64 e) (rd_move rfl) rfl ?_
  refine Wx.rd (v := .pointer (some ⟨0, 0 + e.toNat * 1, none⟩)) (rd_indexArr (o := 0) rfl rfl Tryz.underlying49 Tryz.sizeOf3 (by omega) (by omega)) rfl ?_
  refine Wx.rd (v := .int .i64 (ix 0 othL e)) (rd_loadOA x_0 hS.bel rfl (by omega) (by rw [oth_len]; omega) Tryz.isAgg3) rfl ?_
  refine Wx.rd (v := .pointer (some ⟨g_1, 0 + 1, none⟩)) (rd_fieldAddr (o := 0) rfl foGh_52_1) rfl ?_
  refine Wx.rd (v := .pointer (some ⟨g_1, 0 + 1 + (ix 0 othL e).toNat * 1, none⟩)) (rd_indexArr rfl rfl Tryz.underlying50 Tryz.sizeOf3 (by omega) (by omega)) rfl ?_
  have bz_5 := ix_i64 i_ts (1 + (ix 0 othL e))
  refine Wx.rd (v := .int .i64 (ix 0 ts (1 + (ix 0 othL e)))) (rd_loadXa (d := 0) (f := (Value.int .i64)) (j := 1 + (ix 0 othL e)) hS 0 rfl rfl (by omega) (by omega) (by omega) Tryz.isAgg3) rfl ?_
  refine Wx.rd (v := .int .i64 (ix 0 ts (1 + (ix 0 othL e)))) (rd_assign rfl) rfl ?_
  refine Wx.nil ?_
  have e0_0 : (alngF ts e) = (ix 0 ts (1 + (ix 0 othL e)) : Int) := by rfl
  exact W.ret ⟨.int .i64 (ix 0 ts (1 + (ix 0 othL e))), ResIs.one, hS.bel, (by rw [e0_0])⟩
end Go.Proofs.YtdpdlplkngggoaaGreatDoor

namespace Go.Proofs.YtdpdlplkngggoaaGreatDoor
open Go.Wk Go.RowKit Go.Lib
set_option linter.unusedVariables false
set_option linter.unusedSimpArgs false
theorem foGb_52_1 : fldOff Tryz.prog 52 1 = some 1 := by kernel_rfl
theorem foGb_52_3 : fldOff Tryz.prog 52 3 = some 33 := by kernel_rfl
theorem foGb_52_2 : fldOff Tryz.prog 52 2 = some 17 := by kernel_rfl
theorem foGb_52_0 : fldOff Tryz.prog 52 0 = some 0 := by kernel_rfl

set_option maxHeartbeats 2000000 in
theorem F23 {lv : Value} {ls : List (List Int)} {Fr_lv : List (Option Nat)} {w : World} (h_lv : V (tSl (tSl (tI .i64))) ls lv Fr_lv w) (p_r : ∀ l ∈ ls, ∀ e ∈ l, 0 ≤ e ∧ e < 16) (p_n : ∀ l ∈ ls, (l.length : Int) ≤ 1000) (p_l : (ls.length : Int) ≤ 1000) : Calls Tryz.prog 23 #[lv] w (Ret w (fun r _ => r = .agg (List.map (Value.int .i64) (tabV ls)).toArray)) := by
  have a_lv := h_lv.any
  have l_lv := h_lv.len63
  have hS := St.start0 w
  refine enterR Tryz.func23 rfl Tryz.ntmps23 Tryz.results23 rfl ?_
  refine W.seq ?_
  refine W.reg ?_
  refine Wx.alloc (cs := List.map (Value.int .i64) (List.replicate 34 (0 : Int))) hS Tryz.zeroValue52 (by kernel_rfl) rfl (fun g_1 w_2 hx_4 hb_3 hS => ?_)
  have hS : St _ _ w_2 [.box g_1 52 (List.map (Value.int .i64) (List.replicate 34 (0 : Int)))] := hS
  refine Wx.nil ?_
  refine W.seq ?_
  refine W.reg ?_
  refine Wx.alloc (cs := List.map (Value.int .i64) (List.replicate 34 (0 : Int))) hS Tryz.zeroValue52 (by kernel_rfl) rfl (fun g_5 w_6 hx_8 hb_7 hS => ?_)
  have hS : St _ _ w_6 [.box g_5 52 (List.map (Value.int .i64) (List.replicate 34 (0 : Int))), .box g_1 52 (List.map (Value.int .i64) (List.replicate 34 (0 : Int)))] := hS
  refine Wx.nil ?_
  refine W.seq ?_
  refine W.seq ?_
  refine W.reg ?_
  refine Wx.rd (v := lv) (rd_move rfl) rfl ?_
  refine Wx.rd (v := .int .i64 (ls.length : Int)) (rd_lenV rfl (hS.arg a_lv) Tryz.underlying30) rfl ?_
  refine Wx.rd (v := .int .i64 0) (rd_move rfl) rfl ?_
  refine Wx.nil ?_
  refine W.block ?_
  refine W.loop [5, 6, 7, 10, 11, 12, 13, 14, 15, 16, 17, 18, 19, 20, 21, 22, 23, 24, 25, 26, 27, 28, 29, 30, 31, 32, 33, 34, 35, 36, 37, 38, 39, 40, 41, 42, 43, 44, 45, 46, 47, 48, 49, 50, 51] (fun x : Int × (List Int) => match x with | (k, ts) => [(10, .int .i64 k)]) (fun (x : Int × (List Int)) w' => match x with | (k, ts) => St w [] w' [.box g_5 52 (List.map (Value.int .i64) ts), .box g_1 52 (List.map (Value.int .i64) (List.replicate 34 (0 : Int)))] ∧ 0 ≤ k ∧ k ≤ ls.length ∧ ts = tabK ls k ∧ TbB k ts) (fun x : Int × (List Int) => match x with | (k, ts) => (ls.length - k).toNat) (0, (List.replicate 34 (0 : Int))) ⟨rfl, trivial⟩ ⟨hS, (by first | omega | simp), (by first | omega | simp), (rfl), (tb_start)⟩ ?_
  rintro ⟨k, ts⟩ u_10 w_9 ⟨hS, h0, h1, h2, h3⟩
  refine W.seq ?_
  refine W.reg ?_
  refine Wx.rd (v := .bool (decide (k < (ls.length : Int)))) (rd_lss rfl rfl) rfl ?_
  refine Wx.nil ?_
  refine W.seq ?_
  refine W.condD rfl (fun c0 => ?_) (fun c0 => ?_)
  · -- yes
    have htl := h3.1
    have hkm : ix [] ls k ∈ ls := List.mem_of_getElem? (ix_get c0 h0)
    have hkl := p_n _ hkm
    refine W.skip ?_
    refine W.seq ?_
    refine W.block ?_
    refine W.seq ?_
    refine W.reg ?_
    refine Wx.ex (rd_index [] (hS.arg a_lv) rfl rfl Tryz.underlying30 Tryz.sizeOf25 (by first | omega | (simp only [List.length_set, List.length_append, List.length_cons, List.length_nil, List.length_replicate]; omega)) (by first | omega | (simp only [List.length_set, List.length_append, List.length_cons, List.length_nil, List.length_replicate]; omega))) rfl (fun p_11 hp_12 => ?_)
    refine Wx.ex (rd_load hp_12 rfl Tryz.isAgg25 Tryz.sizeOf25) rfl (fun v_13 hv_14 => ?_)
    have ln_15 := hv_14.len63
    have hS := hS.add hv_14
    refine Wx.rd (v := v_13) (rd_assign rfl) rfl ?_
    refine Wx.nil ?_
    refine W.seq ?_
    refine W.seq ?_
    refine W.reg ?_
    refine Wx.rd (v := v_13) (rd_move rfl) rfl ?_
    refine Wx.rd (v := .int .i64 ((ix [] ls k).length : Int)) (rd_lenV rfl (hS.v 0 rfl) Tryz.underlying25) rfl ?_
    refine Wx.rd (v := .bool (decide (((ix [] ls k).length : Int) = 0))) (rd_eql rfl rfl) rfl ?_
    refine Wx.nil ?_
    refine W.condD rfl (fun c1 => ?_) (fun c1 => ?_)
    · -- yes
      refine W.exit rfl ?_
      refine W.reg ?_
      refine Wx.rd (v := .int .i64 (k + 1)) (rd_add rfl rfl (in_i64 (by omega) (by omega))) rfl ?_
      refine Wx.rd (v := .int .i64 (k + 1)) (rd_move rfl) rfl ?_
      refine Wx.nil ?_
      refine ⟨(k + 1, ts), (by show (ls.length - (k + 1)).toNat < (ls.length - k).toNat; omega), ?_, ?_, Out.look rfl Out.self⟩
      · exact ⟨hS.tl, (by first | omega | assumption), (by first | omega | assumption), (by rw [h2]; exact tabK_skip h0 c0 c1), (tb_more h3)⟩
      · exact ⟨rfl, trivial⟩
    · -- no
      have hlp : 0 < ((ix [] ls k).length : Int) := by omega
      refine W.skip ?_
      refine W.seq ?_
      refine W.seq ?_
      refine W.reg ?_
      refine Wx.rd (v := v_13) (rd_move rfl) rfl ?_
      refine Wx.rd (v := .int .i64 ((ix [] ls k).length : Int)) (rd_lenV rfl (hS.v 0 rfl) Tryz.underlying25) rfl ?_
      refine Wx.rd (v := .int .i64 0) (rd_move rfl) rfl ?_
      refine Wx.nil ?_
      refine W.block ?_
      refine W.loop [6, 7, 19, 20, 21, 22, 23, 24, 25, 26, 27, 28, 29, 30, 31, 32, 33, 34, 35, 36, 37, 38, 39, 40] (fun x : Int × (List Int) => match x with | (j, ts2) => [(19, .int .i64 j)]) (fun (x : Int × (List Int)) w' => match x with | (j, ts2) => St w [] w' [Ob.v (tSl (tI .i64)) (ix [] ls k) v_13, .box g_5 52 (List.map (Value.int .i64) ts2), .box g_1 52 (List.map (Value.int .i64) (List.replicate 34 (0 : Int)))] ∧ 0 ≤ j ∧ j ≤ (ix [] ls k).length ∧ ts2 = tabIn (ix [] ls k) j ts ∧ TbB k ts2) (fun x : Int × (List Int) => match x with | (j, ts2) => ((ix [] ls k).length - j).toNat) (0, ts) ⟨rfl, trivial⟩ ⟨hS, (by first | omega | simp), (by first | omega | simp), (rfl), (h3)⟩ ?_
      rintro ⟨j, ts2⟩ u_18 w_17 ⟨hS, j0, j1, j2, j3⟩
      refine W.seq ?_
      refine W.reg ?_
      refine Wx.rd (v := .bool (decide (j < ((ix [] ls k).length : Int)))) (rd_lss rfl rfl) rfl ?_
      refine Wx.nil ?_
      refine W.seq ?_
      refine W.condD rfl (fun c2 => ?_) (fun c2 => ?_)
      · -- yes
        have hej := p_r _ hkm _ (ix_inl j0 c2)
        have hjb := j3
        obtain ⟨hjl, hj1, hj2⟩ := hjb
        have hmd0 := Int.emod_nonneg (j + 1) (show ((ix [] ls k).length : Int) ≠ 0 by omega)
        have hmd1 := Int.emod_lt_of_pos (j + 1) (show 0 < ((ix [] ls k).length : Int) by omega)
        refine W.skip ?_
        refine W.seq ?_
        refine W.block ?_
        refine W.seq ?_
        refine W.reg ?_
        refine Wx.rd (v := .int .i64 j) (rd_move rfl) rfl ?_
        refine Wx.ex (rd_index 0 (hS.v 0 rfl) rfl rfl Tryz.underlying25 Tryz.sizeOf3 (by first | omega | (simp only [List.length_set, List.length_append, List.length_cons, List.length_nil, List.length_replicate]; omega)) (by first | omega | (simp only [List.length_set, List.length_append, List.length_cons, List.length_nil, List.length_replicate]; omega))) rfl (fun p_19 hp_20 => ?_)
        refine Wx.rd (v := .int .i64 (ix 0 (ix [] ls k) j)) (rd_loadI hp_20 rfl Tryz.isAgg3 Tryz.sizeOf3) rfl ?_
        have bd_21 := bd_i64 hp_20.inK
        refine Wx.rd (v := .int .i64 j) (rd_assign rfl) rfl ?_
        refine Wx.rd (v := .int .i64 (ix 0 (ix [] ls k) j)) (rd_assign rfl) rfl ?_
        refine Wx.nil ?_
        refine W.seq ?_
        refine W.reg ?_
        refine Wx.rd (v := .int .i64 (ix 0 (ix [] ls k) j)) (rd_move rfl) rfl ?_
        refine Wx.rd (v := v_13) (rd_move rfl) rfl ?_
        refine Wx.rd (v := .int .i64 j) (rd_move rfl) rfl ?_
        refine Wx.rd (v := .int .i64 (j + 1)) (rd_add rfl rfl (in_i64 (by omega) (by omega))) rfl ?_
        refine Wx.rd (v := v_13) (rd_move rfl) rfl ?_
        refine Wx.rd (v := .int .i64 ((ix [] ls k).length : Int)) (rd_lenV rfl (hS.v 0 rfl) Tryz.underlying25) rfl ?_
        refine Wx.rd (v := .int .i64 ((j + 1) % ((ix [] ls k).length : Int))) (rd_rem rfl rfl (by omega) (by omega)) rfl ?_
        refine Wx.ex (rd_index 0 (hS.v 0 rfl) rfl rfl Tryz.underlying25 Tryz.sizeOf3 (by first | omega | (simp only [List.length_set, List.length_append, List.length_cons, List.length_nil, List.length_replicate]; omega)) (by first | omega | (simp only [List.length_set, List.length_append, List.length_cons, List.length_nil, List.length_replicate]; omega))) rfl (fun p_22 hp_23 => ?_)
        refine Wx.rd (v := .int .i64 (ix 0 (ix [] ls k) ((j + 1) % ((ix [] ls k).length : Int)))) (rd_loadI hp_23 rfl Tryz.isAgg3 Tryz.sizeOf3) rfl ?_
        have bd_24 := bd_i64 hp_23.inK
        refine Wx.rd (v := .pointer (some ⟨g_5, 0 + 1, none⟩)) (rd_fieldAddr (o := 0) rfl foGb_52_1) rfl ?_
        refine Wx.rd (v := .pointer (some ⟨g_5, 0 + 1 + (ix 0 (ix [] ls k) j).toNat * 1, none⟩)) (rd_indexArr rfl rfl Tryz.underlying50 Tryz.sizeOf3 (by omega) (by omega)) rfl ?_
        refine Wx.storeXa (j := 1 + (ix 0 (ix [] ls k) j)) (f := (Value.int .i64)) (u := (ix 0 (ix [] ls k) ((j + 1) % ((ix [] ls k).length : Int)))) hS 1 rfl rfl (by omega) rfl rfl rfl Tryz.sizeOf3 (by omega) (by omega) (fun w_25 hz_26 hS => ?_)
        refine Wx.nil ?_
        refine W.reg ?_
        refine Wx.rd (v := .int .i64 (ix 0 (ix [] ls k) j)) (rd_move rfl) rfl ?_
        refine Wx.rd (v := .pointer (some ⟨g_5, 0 + 33, none⟩)) (rd_fieldAddr (o := 0) rfl foGb_52_3) rfl ?_
        refine Wx.rd (v := .int .i64 (ix 0 ts2 33)) (Rd.to (v := .int .i64 (ix 0 (List.set ts2 (1 + (ix 0 (ix [] ls k) j)).toNat (ix 0 (ix [] ls k) ((j + 1) % ((ix [] ls k).length : Int)))) 33)) (rd_loadXa (d := 0) (f := (Value.int .i64)) (j := 33) hS 1 rfl rfl (by omega) (by omega) (by first | omega | (simp only [List.length_set, List.length_append, List.length_cons, List.length_nil, List.length_replicate]; omega)) Tryz.isAgg3) (congrArg (Value.int .i64) (show (ix 0 ts2 33 : Int) = (ix 0 (List.set ts2 (1 + (ix 0 (ix [] ls k) j)).toNat (ix 0 (ix [] ls k) ((j + 1) % ((ix [] ls k).length : Int)))) 33 : Int) from (tb_pts j3 hej.1 hej.2).symm).symm)) rfl ?_
        refine Wx.rd (v := .pointer (some ⟨g_5, 0 + 17, none⟩)) (rd_fieldAddr (o := 0) rfl foGb_52_2) rfl ?_
        refine Wx.rd (v := .pointer (some ⟨g_5, 0 + 17 + (ix 0 (ix [] ls k) j).toNat * 1, none⟩)) (rd_indexArr rfl rfl Tryz.underlying50 Tryz.sizeOf3 (by omega) (by omega)) rfl ?_
        refine Wx.storeXa (j := 17 + (ix 0 (ix [] ls k) j)) (f := (Value.int .i64)) (u := (ix 0 ts2 33)) hS 1 rfl rfl (by omega) rfl rfl rfl Tryz.sizeOf3 (by omega) (by first | omega | (simp only [List.length_set, List.length_append, List.length_cons, List.length_nil, List.length_replicate]; omega)) (fun w_27 hz_28 hS => ?_)
        refine Wx.nil ?_
        refine W.reg ?_
        refine Wx.rd (v := .int .i64 (j + 1)) (rd_add rfl rfl (in_i64 (by omega) (by omega))) rfl ?_
        refine Wx.rd (v := .int .i64 (j + 1)) (rd_move rfl) rfl ?_
        refine Wx.nil ?_
        refine ⟨(j + 1, List.set (List.set ts2 (1 + (ix 0 (ix [] ls k) j)).toNat (ix 0 (ix [] ls k) ((j + 1) % ((ix [] ls k).length : Int)))) (17 + (ix 0 (ix [] ls k) j)).toNat (ix 0 ts2 33)), (by show ((ix [] ls k).length - (j + 1)).toNat < ((ix [] ls k).length - j).toNat; omega), ?_, ?_, Out.look rfl Out.self⟩
        · exact ⟨hS, (by first | omega | assumption), (by first | omega | assumption), (by rw [j2, tabIn_next j0]; rfl), ((tb_set (tb_set j3 hej.1 hej.2).1 hej.1 hej.2).2)⟩
        · exact ⟨rfl, trivial⟩
      · -- no
        have hjb := j3
        obtain ⟨hjl, hj1, hj2⟩ := hjb
        refine W.exit rfl ?_
        refine W.seq ?_
        refine W.reg ?_
        refine Wx.rd (v := .pointer (some ⟨g_5, 0 + 0, none⟩)) (rd_fieldAddr (o := 0) rfl foGb_52_0) rfl ?_
        refine Wx.rd (v := .int .i64 (ix 0 ts2 0)) (rd_loadXa (d := 0) (f := (Value.int .i64)) (j := 0) hS 1 rfl rfl (by omega) (by omega) (by omega) Tryz.isAgg3) rfl ?_
        refine Wx.rd (v := v_13) (rd_move rfl) rfl ?_
        refine Wx.rd (v := .int .i64 ((ix [] ls k).length : Int)) (rd_lenV rfl (hS.v 0 rfl) Tryz.underlying25) rfl ?_
        refine Wx.rd (v := .int .i64 ((ix 0 ts2 0) + ((ix [] ls k).length : Int))) (rd_add rfl rfl (in_i64 (by omega) (by omega))) rfl ?_
        refine Wx.rd (v := .pointer (some ⟨g_5, 0 + 0, none⟩)) (rd_fieldAddr (o := 0) rfl foGb_52_0) rfl ?_
        refine Wx.storeXa (j := 0) (f := (Value.int .i64)) (u := ((ix 0 ts2 0) + ((ix [] ls k).length : Int))) hS 1 rfl rfl (by omega) rfl rfl rfl Tryz.sizeOf3 (by omega) (by omega) (fun w_29 hz_30 hS => ?_)
        refine Wx.nil ?_
        refine W.reg ?_
        refine Wx.rd (v := .pointer (some ⟨g_5, 0 + 33, none⟩)) (rd_fieldAddr (o := 0) rfl foGb_52_3) rfl ?_
        refine Wx.rd (v := .int .i64 (ix 0 ts2 33)) (Rd.to (v := .int .i64 (ix 0 (List.set ts2 (0 : Int).toNat ((ix 0 ts2 0) + ((ix [] ls k).length : Int))) 33)) (rd_loadXa (d := 0) (f := (Value.int .i64)) (j := 33) hS 1 rfl rfl (by omega) (by omega) (by first | omega | (simp only [List.length_set, List.length_append, List.length_cons, List.length_nil, List.length_replicate]; omega)) Tryz.isAgg3) (congrArg (Value.int .i64) (show (ix 0 ts2 33 : Int) = (ix 0 (List.set ts2 (0 : Int).toNat ((ix 0 ts2 0) + ((ix [] ls k).length : Int))) 33 : Int) from (tb_pts0 j3).symm).symm)) rfl ?_
        refine Wx.rd (v := .int .i64 ((ix 0 ts2 33) + 1)) (rd_add rfl rfl (in_i64 (by omega) (by omega))) rfl ?_
        refine Wx.rd (v := .pointer (some ⟨g_5, 0 + 33, none⟩)) (rd_fieldAddr (o := 0) rfl foGb_52_3) rfl ?_
        refine Wx.storeXa (j := 33) (f := (Value.int .i64)) (u := ((ix 0 ts2 33) + 1)) hS 1 rfl rfl (by omega) rfl rfl rfl Tryz.sizeOf3 (by omega) (by first | omega | (simp only [List.length_set, List.length_append, List.length_cons, List.length_nil, List.length_replicate]; omega)) (fun w_31 hz_32 hS => ?_)
        refine Wx.nil ?_
        refine W.reg ?_
        refine Wx.rd (v := .int .i64 (k + 1)) (rd_add rfl rfl (in_i64 (by omega) (by omega))) rfl ?_
        refine Wx.rd (v := .int .i64 (k + 1)) (rd_move rfl) rfl ?_
        refine Wx.nil ?_
        refine ⟨(k + 1, List.set (List.set ts2 (0 : Int).toNat ((ix 0 ts2 0) + ((ix [] ls k).length : Int))) (33 : Int).toNat ((ix 0 ts2 33) + 1)), (by show (ls.length - (k + 1)).toNat < (ls.length - k).toNat; omega), ?_, ?_, Out.look rfl (Out.hav rfl (Out.look rfl Out.self))⟩
        · exact ⟨hS.tl, (by first | omega | assumption), (by first | omega | assumption), (tabK_put2 h0 c0 c1 (by omega : j = ((ix [] ls k).length : Int)) j3 (by rw [j2, h2])), (tb_up2 j3 ⟨by omega, by omega⟩)⟩
        · exact ⟨rfl, trivial⟩
  · -- no
    have htl := h3.1
    refine W.exit rfl ?_
    refine W.seq ?_
    refine W.reg ?_
    refine Wx.rd (v := .agg (List.map (Value.int .i64) ts).toArray) (rd_loadXs (ds := List.map (Value.int .i64) ts) hS 0 rfl rfl (by rw [List.drop_zero, List.take_of_length_le (by simp; omega)]) (by simp; omega) Tryz.isAgg52 Tryz.sizeOf52) rfl ?_
    refine Wx.storeX (cs' := List.map (Value.int .i64) ts) (ds := List.map (Value.int .i64) ts) hS 1 rfl rfl rfl rfl (fun w' => by rw [List.length_map, show List.length ts = 34 by first | omega | (simp; omega) | simp]; exact Tryz.sizeOf52 w') (by first | (simp; omega) | simp) (by intro u hu; obtain ⟨_, _, rfl⟩ := List.mem_map.1 hu; rfl) (by rw [List.take_zero, List.nil_append, List.drop_of_length_le (by first | (simp; omega) | simp), List.append_nil]) (fun w_33 hz_34 hS => ?_)
    refine Wx.nil ?_
    have e0_0 : (tabV ls) = ts := by rw [h2]; exact (tabK_end (by omega)).symm
    exact W.ret ⟨.agg (List.map (Value.int .i64) ts).toArray, (ResIs.cell1 hS 1 rfl rfl Tryz.isAgg52 (fun w' => by rw [List.length_map, show List.length ts = 34 by first | omega | (simp; omega) | simp]; exact Tryz.sizeOf52 w')), hS.bel, (by rw [e0_0])⟩
end Go.Proofs.YtdpdlplkngggoaaGreatDoor

namespace Go.Proofs.YtdpdlplkngggoaaGreatDoor
open Go.Wk Go.RowKit Go.Lib
set_option linter.unusedVariables false
set_option linter.unusedSimpArgs false
theorem foGc_32_0 : fldOff Tryz.prog 32 0 = some 0 := by kernel_rfl

set_option maxHeartbeats 2000000 in
theorem F12 {mv : Value} {ls : List (List Int)} {Fr_mv : List (Option Nat)} {w : World} (h_mv : V (tSl (tSl (tI .i64))) ls mv Fr_mv w) (p_ok : MapOK ls) : Calls Tryz.prog 12 #[.agg #[mv]] w (Ret w (fun r _ => r = .tuple #[.agg (List.map (Value.int .i64) (tabV ls)).toArray, .int .i64 0])) := by
  have hml := p_ok.m
  have hlc := map_cnt p_ok
  have htv := tabV_len (ls := ls)
  have a_mv := h_mv.any
  have l_mv := h_mv.len63
  have hS := St.start0 w
  refine enterR Tryz.func12 rfl Tryz.ntmps12 Tryz.results12 rfl ?_
  refine W.seq ?_
  refine W.reg ?_
  refine Wx.box (cs := [mv]) hS rfl rfl rfl (fun g_1 w_2 hx_4 hb_3 hS => ?_)
  refine Wx.alloc (cs := List.map (Value.int .i64) (List.replicate 34 (0 : Int))) hS Tryz.zeroValue52 (by kernel_rfl) rfl (fun g_5 w_6 hx_8 hb_7 hS => ?_)
  have hS : St _ _ w_6 [.box g_5 52 (List.map (Value.int .i64) (List.replicate 34 (0 : Int))), .box g_1 32 [mv]] := hS
  refine Wx.rd (v := .int .i64 0) (rd_assign rfl) rfl ?_
  refine Wx.nil ?_
  refine W.seq ?_
  refine W.reg ?_
  refine Wx.rd (v := .int .i64 0) (rd_assign rfl) rfl ?_
  refine Wx.nil ?_
  refine W.seq ?_
  refine W.seq ?_
  refine W.reg ?_
  refine Wx.rd (v := .pointer (some ⟨g_1, 0, none⟩)) (rd_fieldAddr rfl foGc_32_0) rfl ?_
  refine Wx.rd (v := mv) (rd_loadX hS 1 rfl rfl rfl Tryz.isAgg30) rfl ?_
  refine Wx.rd (v := .int .i64 (ls.length : Int)) (rd_lenV rfl (hS.arg a_mv) Tryz.underlying30) rfl ?_
  refine Wx.rd (v := .int .i64 0) (rd_move rfl) rfl ?_
  refine Wx.nil ?_
  refine W.block ?_
  refine W.loop [4, 6, 15, 16, 17, 18, 19, 20, 21, 22, 23] (fun x : Int × Int => match x with | (n, k) => [(4, .int .i64 n), (15, .int .i64 k)]) (fun (x : Int × Int) w' => match x with | (n, k) => St w [] w' [.box g_5 52 (List.map (Value.int .i64) (List.replicate 34 (0 : Int))), .box g_1 32 [mv]] ∧ 0 ≤ k ∧ k ≤ ls.length ∧ n = ((ls.take k.toNat).flatten.length : Int)) (fun x : Int × Int => match x with | (n, k) => (ls.length - k).toNat) (0, 0) ⟨rfl, rfl, trivial⟩ ⟨hS, (by first | omega | simp), (by first | omega | simp), (rfl)⟩ ?_
  rintro ⟨n, k⟩ u_10 w_9 ⟨hS, h0, h1, h2⟩
  refine W.seq ?_
  refine W.reg ?_
  refine Wx.rd (v := .bool (decide (k < (ls.length : Int)))) (rd_lss rfl rfl) rfl ?_
  refine Wx.nil ?_
  refine W.seq ?_
  refine W.condD rfl (fun c0 => ?_) (fun c0 => ?_)
  · -- yes
    have hft := flat_take h0 c0
    have hfl := flat_le (ls := ls) (k := k + 1)
    refine W.skip ?_
    refine W.seq ?_
    refine W.block ?_
    refine W.seq ?_
    refine W.reg ?_
    refine Wx.ex (rd_index [] (hS.arg a_mv) rfl rfl Tryz.underlying30 Tryz.sizeOf25 (by first | omega | (simp only [List.length_set, List.length_append, List.length_cons, List.length_nil, List.length_replicate]; omega)) (by first | omega | (simp only [List.length_set, List.length_append, List.length_cons, List.length_nil, List.length_replicate]; omega))) rfl (fun p_11 hp_12 => ?_)
    refine Wx.ex (rd_load hp_12 rfl Tryz.isAgg25 Tryz.sizeOf25) rfl (fun v_13 hv_14 => ?_)
    have ln_15 := hv_14.len63
    have hS := hS.add hv_14
    refine Wx.rd (v := v_13) (rd_assign rfl) rfl ?_
    refine Wx.nil ?_
    refine W.reg ?_
    refine Wx.rd (v := .int .i64 n) (rd_move rfl) rfl ?_
    refine Wx.rd (v := v_13) (rd_move rfl) rfl ?_
    refine Wx.rd (v := .int .i64 ((ix [] ls k).length : Int)) (rd_lenV rfl (hS.v 0 rfl) Tryz.underlying25) rfl ?_
    refine Wx.rd (v := .int .i64 (n + ((ix [] ls k).length : Int))) (rd_add rfl rfl (in_i64 (by omega) (by omega))) rfl ?_
    refine Wx.rd (v := .int .i64 (n + ((ix [] ls k).length : Int))) (rd_assign rfl) rfl ?_
    refine Wx.nil ?_
    refine W.reg ?_
    refine Wx.rd (v := .int .i64 (k + 1)) (rd_add rfl rfl (in_i64 (by omega) (by omega))) rfl ?_
    refine Wx.rd (v := .int .i64 (k + 1)) (rd_move rfl) rfl ?_
    refine Wx.nil ?_
    refine ⟨(n + ((ix [] ls k).length : Int), k + 1), (by show (ls.length - (k + 1)).toNat < (ls.length - k).toNat; omega), ?_, ?_, Out.look rfl Out.self⟩
    · exact ⟨hS.tl, (by first | omega | assumption), (by first | omega | assumption), (by rw [h2]; exact hft.symm)⟩
    · exact ⟨rfl, rfl, trivial⟩
  · -- no
    have hn : n = (ls.flatten.length : Int) := by rw [h2, List.take_of_length_le (by omega)]
    refine W.exit rfl ?_
    refine W.seq ?_
    refine W.seq ?_
    refine W.reg ?_
    refine Wx.rd (v := .int .i64 n) (rd_move rfl) rfl ?_
    refine Wx.rd (v := .bool (decide (16 < n))) (rd_gtr rfl rfl) rfl ?_
    refine Wx.nil ?_
    refine W.condF rfl (decide_eq_false (by omega)) ?_
    refine W.skip ?_
    refine W.seq ?_
    refine W.reg ?_
    refine Wx.alloc (cs := List.map Value.bool (List.replicate 16 false)) hS Tryz.zeroValue72 (by kernel_rfl) rfl (fun g_17 w_18 hx_20 hb_19 hS => ?_)
    have hS : St _ _ w_18 [.box g_17 72 (List.map Value.bool (List.replicate 16 false)), .box g_5 52 (List.map (Value.int .i64) (List.replicate 34 (0 : Int))), .box g_1 32 [mv]] := hS
    refine Wx.nil ?_
    refine W.seq ?_
    refine W.seq ?_
    refine W.reg ?_
    refine Wx.rd (v := .pointer (some ⟨g_1, 0, none⟩)) (rd_fieldAddr rfl foGc_32_0) rfl ?_
    refine Wx.rd (v := mv) (rd_loadX hS 2 rfl rfl rfl Tryz.isAgg30) rfl ?_
    refine Wx.rd (v := .int .i64 (ls.length : Int)) (rd_lenV rfl (hS.arg a_mv) Tryz.underlying30) rfl ?_
    refine Wx.rd (v := .int .i64 0) (rd_move rfl) rfl ?_
    refine Wx.nil ?_
    refine W.block ?_
    refine W.loop [3, 9, 11, 30, 31, 32, 33, 34, 35, 36, 37, 38, 39, 40, 41, 42, 43, 44, 45, 46, 47, 48, 49, 50, 51, 52, 53, 54, 55, 56, 57, 58, 59, 60, 61] (fun x : Int × (List Bool) => match x with | (k, met) => [(30, .int .i64 k)]) (fun (x : Int × (List Bool)) w' => match x with | (k, met) => St w [] w' [.box g_17 72 (List.map Value.bool met), .box g_5 52 (List.map (Value.int .i64) (List.replicate 34 (0 : Int))), .box g_1 32 [mv]] ∧ 0 ≤ k ∧ k ≤ ls.length ∧ MtI ls k 0 met) (fun x : Int × (List Bool) => match x with | (k, met) => (ls.length - k).toNat) (0, (List.replicate 16 false)) ⟨rfl, trivial⟩ ⟨hS, (by first | omega | simp), (by first | omega | simp), (mt_start)⟩ ?_
    rintro ⟨k, met⟩ u_22 w_21 ⟨hS, g0, g1, g2⟩
    refine W.seq ?_
    refine W.reg ?_
    refine Wx.rd (v := .bool (decide (k < (ls.length : Int)))) (rd_lss rfl rfl) rfl ?_
    refine Wx.nil ?_
    refine W.seq ?_
    refine W.condD rfl (fun c2 => ?_) (fun c2 => ?_)
    · -- yes
      have hkm : ix [] ls k ∈ ls := List.mem_of_getElem? (ix_get c2 g0)
      have hkp := p_ok.n _ hkm
      have hml2 := g2.1
      refine W.skip ?_
      refine W.seq ?_
      refine W.block ?_
      refine W.seq ?_
      refine W.reg ?_
      refine Wx.ex (rd_index [] (hS.arg a_mv) rfl rfl Tryz.underlying30 Tryz.sizeOf25 (by first | omega | (simp only [List.length_set, List.length_append, List.length_cons, List.length_nil, List.length_replicate]; omega)) (by first | omega | (simp only [List.length_set, List.length_append, List.length_cons, List.length_nil, List.length_replicate]; omega))) rfl (fun p_23 hp_24 => ?_)
      refine Wx.ex (rd_load hp_24 rfl Tryz.isAgg25 Tryz.sizeOf25) rfl (fun v_25 hv_26 => ?_)
      have ln_27 := hv_26.len63
      have hS := hS.add hv_26
      refine Wx.rd (v := v_25) (rd_assign rfl) rfl ?_
      refine Wx.nil ?_
      refine W.seq ?_
      refine W.seq ?_
      refine W.reg ?_
      refine Wx.rd (v := v_25) (rd_move rfl) rfl ?_
      refine Wx.rd (v := .int .i64 ((ix [] ls k).length : Int)) (rd_lenV rfl (hS.v 0 rfl) Tryz.underlying25) rfl ?_
      refine Wx.rd (v := .bool (decide (((ix [] ls k).length : Int) = 0))) (rd_eql rfl rfl) rfl ?_
      refine Wx.nil ?_
      refine W.condF rfl (decide_eq_false (by omega)) ?_
      refine W.skip ?_
      refine W.seq ?_
      refine W.reg ?_
      refine Wx.rd (v := v_25) (rd_move rfl) rfl ?_
      refine Wx.rd (v := .int .i64 ((ix [] ls k).length : Int)) (rd_lenV rfl (hS.v 0 rfl) Tryz.underlying25) rfl ?_
      refine Wx.rd (v := .int .i64 0) (rd_move rfl) rfl ?_
      refine Wx.nil ?_
      refine W.block ?_
      refine W.loop [3, 11, 40, 41, 42, 43, 44, 45, 46, 47, 48, 49, 50, 51, 52, 53, 54, 55, 56, 57, 58, 59, 60] (fun x : Int × (List Bool) => match x with | (j, met2) => [(40, .int .i64 j)]) (fun (x : Int × (List Bool)) w' => match x with | (j, met2) => St w [] w' [Ob.v (tSl (tI .i64)) (ix [] ls k) v_25, .box g_17 72 (List.map Value.bool met2), .box g_5 52 (List.map (Value.int .i64) (List.replicate 34 (0 : Int))), .box g_1 32 [mv]] ∧ 0 ≤ j ∧ j ≤ (ix [] ls k).length ∧ MtI ls k j met2) (fun x : Int × (List Bool) => match x with | (j, met2) => ((ix [] ls k).length - j).toNat) (0, met) ⟨rfl, trivial⟩ ⟨hS, (by first | omega | simp), (by first | omega | simp), (g2)⟩ ?_
      rintro ⟨j, met2⟩ u_30 w_29 ⟨hS, j0, j1, j2⟩
      refine W.seq ?_
      refine W.reg ?_
      refine Wx.rd (v := .bool (decide (j < ((ix [] ls k).length : Int)))) (rd_lss rfl rfl) rfl ?_
      refine Wx.nil ?_
      refine W.seq ?_
      refine W.condD rfl (fun c4 => ?_) (fun c4 => ?_)
      · -- yes
        have hej := p_ok.r _ (end_mem g0 c2 j0 c4)
        have hfree := mt_free p_ok j2 g0 c2 j0 c4
        have hml3 := j2.1
        refine W.skip ?_
        refine W.seq ?_
        refine W.block ?_
        refine W.seq ?_
        refine W.reg ?_
        refine Wx.ex (rd_index 0 (hS.v 0 rfl) rfl rfl Tryz.underlying25 Tryz.sizeOf3 (by first | omega | (simp only [List.length_set, List.length_append, List.length_cons, List.length_nil, List.length_replicate]; omega)) (by first | omega | (simp only [List.length_set, List.length_append, List.length_cons, List.length_nil, List.length_replicate]; omega))) rfl (fun p_31 hp_32 => ?_)
        refine Wx.rd (v := .int .i64 (ix 0 (ix [] ls k) j)) (rd_loadI hp_32 rfl Tryz.isAgg3 Tryz.sizeOf3) rfl ?_
        have bd_33 := bd_i64 hp_32.inK
        refine Wx.rd (v := .int .i64 (ix 0 (ix [] ls k) j)) (rd_assign rfl) rfl ?_
        refine Wx.nil ?_
        refine W.seq ?_
        refine W.block ?_
        refine W.seq ?_
        refine W.reg ?_
        refine Wx.rd (v := .int .i64 (ix 0 (ix [] ls k) j)) (rd_move rfl) rfl ?_
        refine Wx.rd (v := .bool (decide ((ix 0 (ix [] ls k) j) < 0))) (rd_lss rfl rfl) rfl ?_
        refine Wx.rd (v := .bool (decide ((ix 0 (ix [] ls k) j) < 0))) (rd_move rfl) rfl ?_
        refine Wx.cut (X := Unit) 4 [48, 49, 50, 51] (fun _ => [(51, .bool (decide ((ix 0 (ix [] ls k) j) < 0) || decide (n ≤ (ix 0 (ix [] ls k) j))))]) (fun _ w' => St w [] w' [Ob.v (tSl (tI .i64)) (ix [] ls k) v_25, .box g_17 72 (List.map Value.bool met2), .box g_5 52 (List.map (Value.int .i64) (List.replicate 34 (0 : Int))), .box g_1 32 [mv]]) ?_ ?_
        · rcases Bool.eq_false_or_eq_true (decide ((ix 0 (ix [] ls k) j) < 0)) with g_34 | g_34
          · -- True
            have gp_35 := of_decide_eq_true g_34
            refine Wx.gnoB rfl rfl (congrArg Value.bool g_34) rfl rfl ?_
            refine Wx.gnoB rfl rfl (congrArg Value.bool g_34) rfl rfl ?_
            refine Wx.gnoB rfl rfl (congrArg Value.bool g_34) rfl rfl ?_
            refine Wx.rd (v := .bool true) (rd_pickT (congrArg Value.bool g_34) rfl) rfl ?_
            refine Wx.nil ⟨(), hS, ⟨?_, trivial⟩, Out.look rfl Out.refl⟩
            show Value.bool true = Value.bool (decide ((ix 0 (ix [] ls k) j) < 0) || decide (n ≤ (ix 0 (ix [] ls k) j)))
            first | rw [g_34, Bool.true_or] | (rw [g_34]; rfl)
          · -- False
            have gp_36 := of_decide_eq_false g_34
            refine Wx.gyes rfl rfl (congrArg Value.bool g_34) ?_
            refine Wx.rd (v := .int .i64 (ix 0 (ix [] ls k) j)) (rd_move rfl) rfl ?_
            refine Wx.gyes rfl rfl (congrArg Value.bool g_34) ?_
            refine Wx.rd (v := .int .i64 n) (rd_move rfl) rfl ?_
            refine Wx.gyes rfl rfl (congrArg Value.bool g_34) ?_
            refine Wx.rd (v := .bool (decide (n ≤ (ix 0 (ix [] ls k) j)))) (rd_geq rfl rfl) rfl ?_
            refine Wx.rd (v := .bool (decide (n ≤ (ix 0 (ix [] ls k) j)))) (rd_pickF (congrArg Value.bool g_34) rfl) rfl ?_
            refine Wx.nil ⟨(), hS, ⟨?_, trivial⟩, Out.look rfl Out.refl⟩
            show Value.bool (decide (n ≤ (ix 0 (ix [] ls k) j))) = Value.bool (decide ((ix 0 (ix [] ls k) j) < 0) || decide (n ≤ (ix 0 (ix [] ls k) j)))
            first | rw [g_34, Bool.false_or] | (rw [g_34]; rfl)
        rintro ⟨⟩ u_38 w_37 hS
        refine Wx.rd (v := .bool (decide ((ix 0 (ix [] ls k) j) < 0) || decide (n ≤ (ix 0 (ix [] ls k) j)))) (rd_assign rfl) rfl ?_
        refine Wx.nil ?_
        refine W.condF rfl (by simp; omega) ?_
        refine W.seq ?_
        refine W.reg ?_
        refine Wx.rd (v := .int .i64 (ix 0 (ix [] ls k) j)) (rd_move rfl) rfl ?_
        refine Wx.rd (v := .pointer (some ⟨g_17, 0 + (ix 0 (ix [] ls k) j).toNat * 1, none⟩)) (rd_indexArr rfl rfl Tryz.underlying72 Tryz.sizeOf4 (by omega) (by omega)) rfl ?_
        refine Wx.rd (v := .bool (ix false met2 (ix 0 (ix [] ls k) j))) (rd_loadXa (d := false) (f := Value.bool) (j := (ix 0 (ix [] ls k) j)) hS 1 rfl rfl (by omega) (by omega) (by omega) Tryz.isAgg4) rfl ?_
        refine Wx.rd (v := .bool (ix false met2 (ix 0 (ix [] ls k) j))) (rd_assign rfl) rfl ?_
        refine Wx.nil ?_
        refine W.condF rfl hfree ?_
        refine W.skip ?_
        refine W.reg ?_
        refine Wx.rd (v := .int .i64 (ix 0 (ix [] ls k) j)) (rd_move rfl) rfl ?_
        refine Wx.rd (v := .pointer (some ⟨g_17, 0 + (ix 0 (ix [] ls k) j).toNat * 1, none⟩)) (rd_indexArr rfl rfl Tryz.underlying72 Tryz.sizeOf4 (by omega) (by omega)) rfl ?_
        refine Wx.storeXa (j := (ix 0 (ix [] ls k) j)) (f := Value.bool) (u := true) hS 1 rfl rfl (by omega) rfl rfl rfl Tryz.sizeOf4 (by omega) (by omega) (fun w_39 hz_40 hS => ?_)
        refine Wx.nil ?_
        refine W.reg ?_
        refine Wx.rd (v := .int .i64 (j + 1)) (rd_add rfl rfl (in_i64 (by omega) (by omega))) rfl ?_
        refine Wx.rd (v := .int .i64 (j + 1)) (rd_move rfl) rfl ?_
        refine Wx.nil ?_
        refine ⟨(j + 1, List.set met2 (ix 0 (ix [] ls k) j).toNat true), (by show ((ix [] ls k).length - (j + 1)).toNat < ((ix [] ls k).length - j).toNat; omega), ?_, ?_, Out.look rfl (Out.hav rfl (Out.look rfl Out.self))⟩
        · exact ⟨hS, (by first | omega | assumption), (by first | omega | assumption), (mt_next p_ok j2 g0 c2 j0 c4)⟩
        · exact ⟨rfl, trivial⟩
      · -- no
        refine W.exit rfl ?_
        refine W.reg ?_
        refine Wx.rd (v := .int .i64 (k + 1)) (rd_add rfl rfl (in_i64 (by omega) (by omega))) rfl ?_
        refine Wx.rd (v := .int .i64 (k + 1)) (rd_move rfl) rfl ?_
        refine Wx.nil ?_
        refine ⟨(k + 1, met2), (by show (ls.length - (k + 1)).toNat < (ls.length - k).toNat; omega), ?_, ?_, Out.look rfl (Out.hav rfl (Out.look rfl Out.self))⟩
        · exact ⟨hS.tl, (by first | omega | assumption), (by first | omega | assumption), (mt_row j2 g0 c2 (by omega))⟩
        · exact ⟨rfl, trivial⟩
    · -- no
      refine W.exit rfl ?_
      refine W.seq ?_
      refine W.seq ?_
      refine W.reg ?_
      refine Wx.rd (v := .int .i64 n) (rd_move rfl) rfl ?_
      refine Wx.rd (v := .int .i64 (n % 2)) (rd_rem rfl rfl (by omega) (by omega)) rfl ?_
      refine Wx.rd (v := .bool (decide ((n % 2) = 1))) (rd_eql rfl rfl) rfl ?_
      refine Wx.nil ?_
      refine W.condF rfl (decide_eq_false (by omega)) ?_
      refine W.skip ?_
      refine W.seq ?_
      refine W.reg ?_
      refine Wx.rd (v := .pointer (some ⟨g_1, 0, none⟩)) (rd_fieldAddr rfl foGc_32_0) rfl ?_
      refine Wx.rd (v := mv) (rd_loadX hS 2 rfl rfl rfl Tryz.isAgg30) rfl ?_
      refine Wx.callF (run_callF Tryz.call23 rfl) (F23 (hS.arg a_mv) (map_rng p_ok) (map_len p_ok) (by omega)) rfl ?_
      rintro r_41 w_42 hx_43 rfl
      have hS := hS.ext hx_43
      refine Wx.storeX (cs' := List.map (Value.int .i64) (tabV ls)) (ds := List.map (Value.int .i64) (tabV ls)) hS 1 rfl rfl rfl rfl (fun w' => by rw [List.length_map, show List.length (tabV ls) = 34 by first | omega | (simp; omega) | simp]; exact Tryz.sizeOf52 w') (by first | (simp; omega) | simp) (by intro u hu; obtain ⟨_, _, rfl⟩ := List.mem_map.1 hu; rfl) (by rw [List.take_zero, List.nil_append, List.drop_of_length_le (by first | (simp; omega) | simp), List.append_nil]) (fun w_44 hz_45 hS => ?_)
      refine Wx.rd (v := .int .i64 0) (rd_assign rfl) rfl ?_
      refine Wx.nil ?_
      exact W.ret ⟨.tuple #[.agg (List.map (Value.int .i64) (tabV ls)).toArray, .int .i64 0], (ResIs.cell2 hS 1 rfl rfl Tryz.isAgg52 (fun w' => by rw [List.length_map, show List.length (tabV ls) = 34 by first | omega | (simp; omega) | simp]; exact Tryz.sizeOf52 w')), hS.bel, rfl⟩
end Go.Proofs.YtdpdlplkngggoaaGreatDoor

namespace Go.Proofs.YtdpdlplkngggoaaGreatDoor
open Go.Wk Go.RowKit Go.Lib
set_option linter.unusedVariables false
set_option linter.unusedSimpArgs false
theorem foGd_52_3 : fldOff Tryz.prog 52 3 = some 33 := by kernel_rfl
theorem foGd_52_0 : fldOff Tryz.prog 52 0 = some 0 := by kernel_rfl
theorem mixedGd_ : Tryz.prog.follows .mixedOrders = true := by kernel_rfl
theorem foGd_52_2 : fldOff Tryz.prog 52 2 = some 17 := by kernel_rfl

set_option maxHeartbeats 4000000 in
theorem F13 {ts : List Int} {w : World} (n_ts : ts.length = 34) (i_ts : ∀ z ∈ ts, InK .i64 z) (p_ok : TblOK ts) : Calls Tryz.prog 13 #[.agg (List.map (Value.int .i64) ts).toArray] w (Ret w (fun r _ => r = .int .i64 (partT ts))) := by
  obtain ⟨tl, tn, ⟨te, te2⟩, tp⟩ := id p_ok
  have hn_ : tnN ts = ix 0 ts 33 := rfl
  have he_ : teN ts = ix 0 ts 0 := rfl
  have hS := St.start0 w
  refine enterR Tryz.func13 rfl Tryz.ntmps13 Tryz.results13 rfl ?_
  refine W.seq ?_
  refine W.reg ?_
  refine Wx.box (cs := List.map (Value.int .i64) ts) hS rfl rfl rfl (fun g_1 w_2 hx_4 hb_3 hS => ?_)
  refine Wx.rd (v := .int .i64 0) (rd_assign rfl) rfl ?_
  refine Wx.nil ?_
  refine W.seq ?_
  refine W.reg ?_
  refine Wx.alloc (cs := List.map (Value.int .i64) (List.replicate 16 (0 : Int))) hS Tryz.zeroValue50 (by kernel_rfl) rfl (fun g_5 w_6 hx_8 hb_7 hS => ?_)
  have hS : St _ _ w_6 [.box g_5 50 (List.map (Value.int .i64) (List.replicate 16 (0 : Int))), .box g_1 52 (List.map (Value.int .i64) ts)] := hS
  refine Wx.nil ?_
  refine W.seq ?_
  refine W.seq ?_
  refine W.reg ?_
  refine Wx.rd (v := .pointer (some ⟨g_1, 0 + 33, none⟩)) (rd_fieldAddr (o := 0) rfl foGd_52_3) rfl ?_
  have bz_9 := ix_i64 i_ts 33
  refine Wx.rd (v := .int .i64 (ix 0 ts 33)) (rd_loadXa (d := 0) (f := (Value.int .i64)) (j := 33) hS 1 rfl rfl (by omega) (by omega) (by omega) Tryz.isAgg3) rfl ?_
  refine Wx.rd (v := .int .i64 0) (rd_move rfl) rfl ?_
  refine Wx.nil ?_
  refine W.block ?_
  refine W.loop [4, 13, 14, 15, 16, 17, 18, 19] (fun x : Int × (List Int) => match x with | (k, lab) => [(13, .int .i64 k)]) (fun (x : Int × (List Int)) w' => match x with | (k, lab) => St w [] w' [.box g_5 50 (List.map (Value.int .i64) lab), .box g_1 52 (List.map (Value.int .i64) ts)] ∧ 0 ≤ k ∧ k ≤ tnN ts ∧ (∀ x, 0 ≤ x → x < k → ix 0 lab x = x) ∧ lab.length = 16) (fun x : Int × (List Int) => match x with | (k, lab) => (tnN ts - k).toNat) (0, (List.replicate 16 (0 : Int))) ⟨rfl, trivial⟩ ⟨hS, (by first | omega | simp), (by first | omega | simp), (fun x x0 x1 => by omega), (rfl)⟩ ?_
  rintro ⟨k, lab⟩ u_11 w_10 ⟨hS, h0, h1, h2, h3⟩
  refine W.seq ?_
  refine W.reg ?_
  refine Wx.rd (v := .bool (decide (k < (ix 0 ts 33)))) (rd_lss rfl rfl) rfl ?_
  refine Wx.nil ?_
  refine W.seq ?_
  refine W.condD rfl (fun c0 => ?_) (fun c0 => ?_)
  · -- yes
    have hll := h3
    refine W.skip ?_
    refine W.seq ?_
    refine W.block ?_
    refine W.seq ?_
    refine W.reg ?_
    refine Wx.rd (v := .int .i64 k) (rd_move rfl) rfl ?_
    refine Wx.rd (v := .int .i64 k) (rd_assign rfl) rfl ?_
    refine Wx.nil ?_
    refine W.reg ?_
    refine Wx.rd (v := .int .i64 k) (rd_move rfl) rfl ?_
    refine Wx.rd (v := .int .i64 k) (rd_move rfl) rfl ?_
    refine Wx.rd (v := .pointer (some ⟨g_5, 0 + k.toNat * 1, none⟩)) (rd_indexArr rfl rfl Tryz.underlying50 Tryz.sizeOf3 (by omega) (by omega)) rfl ?_
    refine Wx.storeXa (j := k) (f := (Value.int .i64)) (u := k) hS 0 rfl rfl (by omega) rfl rfl rfl Tryz.sizeOf3 (by omega) (by omega) (fun w_12 hz_13 hS => ?_)
    refine Wx.nil ?_
    refine W.reg ?_
    refine Wx.rd (v := .int .i64 (k + 1)) (rd_add rfl rfl (in_i64 (by omega) (by omega))) rfl ?_
    refine Wx.rd (v := .int .i64 (k + 1)) (rd_move rfl) rfl ?_
    refine Wx.nil ?_
    refine ⟨(k + 1, List.set lab k.toNat k), (by show (tnN ts - (k + 1)).toNat < (tnN ts - k).toNat; omega), ?_, ?_, Out.look rfl Out.self⟩
    · exact ⟨hS, (by first | omega | assumption), (by first | omega | assumption), (fun x x0 x1 => by rw [ix_set0 h0 (by omega) x0]; split; omega; exact h2 x x0 (by omega)), (by rw [List.length_set]; exact h3)⟩
    · exact ⟨rfl, trivial⟩
  · -- no
    have hl0 : LbI ts 0 lab (tnN ts) := lb_start p_ok h3 (fun x x0 x1 => h2 x x0 (by omega))
    refine W.exit rfl ?_
    refine W.seq ?_
    refine W.reg ?_
    refine Wx.rd (v := .pointer (some ⟨g_1, 0 + 33, none⟩)) (rd_fieldAddr (o := 0) rfl foGd_52_3) rfl ?_
    have bz_14 := ix_i64 i_ts 33
    refine Wx.rd (v := .int .i64 (ix 0 ts 33)) (rd_loadXa (d := 0) (f := (Value.int .i64)) (j := 33) hS 1 rfl rfl (by omega) (by omega) (by omega) Tryz.isAgg3) rfl ?_
    refine Wx.rd (v := .int .i64 (ix 0 ts 33)) (rd_assign rfl) rfl ?_
    refine Wx.nil ?_
    refine W.seq ?_
    refine W.seq ?_
    refine W.reg ?_
    refine Wx.rd (v := .int .i64 0) (rd_assign rfl) rfl ?_
    refine Wx.nil ?_
    refine W.block ?_
    refine W.loop [5, 6, 7, 8, 9, 10, 22, 23, 24, 25, 26, 27, 28, 29, 30, 31, 32, 33, 34, 35, 36, 37, 38, 39, 40, 41, 42, 43, 44, 45, 46, 47, 48, 49, 50, 51, 52, 53, 54, 55, 56, 57, 58, 59, 60, 61] (fun x : Int × (List Int) × Int => match x with | (n, lab2, i) => [(5, .int .i64 n), (6, .int .i64 (2 * i))]) (fun (x : Int × (List Int) × Int) w' => match x with | (n, lab2, i) => St w [] w' [.box g_5 50 (List.map (Value.int .i64) lab2), .box g_1 52 (List.map (Value.int .i64) ts)] ∧ 0 ≤ i ∧ 2 * i ≤ teN ts ∧ LbI ts i lab2 n ∧ n ≤ 100 ∧ -100 ≤ n - 100 + i) (fun x : Int × (List Int) × Int => match x with | (n, lab2, i) => (teN ts - 2 * i).toNat) (ix 0 ts 33, lab, 0) ⟨rfl, rfl, trivial⟩ ⟨hS, (by first | omega | simp), (by first | omega | simp), (hl0), (by first | omega | simp), (by first | omega | simp)⟩ ?_
    rintro ⟨n, lab2, i⟩ u_16 w_15 ⟨hS, g0, g1, g2, g3, g4⟩
    refine W.seq ?_
    refine W.seq ?_
    refine W.reg ?_
    refine Wx.rd (v := .int .i64 (2 * i)) (rd_move rfl) rfl ?_
    refine Wx.rd (v := .pointer (some ⟨g_1, 0 + 0, none⟩)) (rd_fieldAddr (o := 0) rfl foGd_52_0) rfl ?_
    have bz_17 := ix_i64 i_ts 0
    refine Wx.rd (v := .int .i64 (ix 0 ts 0)) (rd_loadXa (d := 0) (f := (Value.int .i64)) (j := 0) hS 1 rfl rfl (by omega) (by omega) (by omega) Tryz.isAgg3) rfl ?_
    refine Wx.rd (v := .bool (decide ((2 * i) < (ix 0 ts 0)))) (rd_lss rfl rfl) rfl ?_
    refine Wx.nil ?_
    refine W.condD rfl (fun c1 => ?_) (fun c1 => ?_)
    · -- yes
      have hp0 := tp (2 * i) (by omega) (by omega)
      have hp1 := tp (2 * i + 1) (by omega) (by omega)
      have hll := g2.1
      have hq0 : tpF ts (2 * i) = ix 0 ts (17 + 2 * i) := rfl
      have hq1 : tpF ts (2 * i + 1) = ix 0 ts (17 + (2 * i + 1)) := rfl
      refine W.skip ?_
      refine W.seq ?_
      refine W.block ?_
      refine W.seq ?_
      refine W.regQ mixedGd_ (by kernel_rfl) ?_
      refine Wx.rd (v := .int .i64 (2 * i)) (rd_move rfl) rfl ?_
      refine Wx.rd (v := .pointer (some ⟨g_1, 0 + 17, none⟩)) (rd_fieldAddr (o := 0) rfl foGd_52_2) rfl ?_
      refine Wx.rd (v := .pointer (some ⟨g_1, 0 + 17 + (2 * i).toNat * 1, none⟩)) (rd_indexArr rfl rfl Tryz.underlying50 Tryz.sizeOf3 (by omega) (by omega)) rfl ?_
      have bz_18 := ix_i64 i_ts (17 + (2 * i))
      refine Wx.rd (v := .int .i64 (ix 0 ts (17 + (2 * i)))) (rd_loadXa (d := 0) (f := (Value.int .i64)) (j := 17 + (2 * i)) hS 1 rfl rfl (by omega) (by omega) (by omega) Tryz.isAgg3) rfl ?_
      refine Wx.rd (v := .pointer (some ⟨g_5, 0 + (ix 0 ts (17 + (2 * i))).toNat * 1, none⟩)) (rd_indexArr rfl rfl Tryz.underlying50 Tryz.sizeOf3 (by omega) (by omega)) rfl ?_
      refine Wx.rd (v := .int .i64 (ix 0 lab2 (ix 0 ts (17 + (2 * i))))) (rd_loadXa (d := 0) (f := (Value.int .i64)) (j := (ix 0 ts (17 + (2 * i)))) hS 0 rfl rfl (by omega) (by omega) (by omega) Tryz.isAgg3) rfl ?_
      refine Wx.rd (v := .int .i64 (2 * i)) (rd_move rfl) rfl ?_
      refine Wx.rd (v := .int .i64 ((2 * i) + 1)) (rd_add rfl rfl (in_i64 (by omega) (by omega))) rfl ?_
      refine Wx.rd (v := .pointer (some ⟨g_1, 0 + 17, none⟩)) (rd_fieldAddr (o := 0) rfl foGd_52_2) rfl ?_
      refine Wx.rd (v := .pointer (some ⟨g_1, 0 + 17 + ((2 * i) + 1).toNat * 1, none⟩)) (rd_indexArr rfl rfl Tryz.underlying50 Tryz.sizeOf3 (by omega) (by omega)) rfl ?_
      have bz_19 := ix_i64 i_ts (17 + ((2 * i) + 1))
      refine Wx.rd (v := .int .i64 (ix 0 ts (17 + ((2 * i) + 1)))) (rd_loadXa (d := 0) (f := (Value.int .i64)) (j := 17 + ((2 * i) + 1)) hS 1 rfl rfl (by omega) (by omega) (by omega) Tryz.isAgg3) rfl ?_
      refine Wx.rd (v := .pointer (some ⟨g_5, 0 + (ix 0 ts (17 + ((2 * i) + 1))).toNat * 1, none⟩)) (rd_indexArr rfl rfl Tryz.underlying50 Tryz.sizeOf3 (by omega) (by omega)) rfl ?_
      refine Wx.rd (v := .int .i64 (ix 0 lab2 (ix 0 ts (17 + ((2 * i) + 1))))) (rd_loadXa (d := 0) (f := (Value.int .i64)) (j := (ix 0 ts (17 + ((2 * i) + 1)))) hS 0 rfl rfl (by omega) (by omega) (by omega) Tryz.isAgg3) rfl ?_
      refine Wx.rd (v := .int .i64 (ix 0 lab2 (ix 0 ts (17 + (2 * i))))) (rd_assign rfl) rfl ?_
      refine Wx.rd (v := .int .i64 (ix 0 lab2 (ix 0 ts (17 + ((2 * i) + 1))))) (rd_assign rfl) rfl ?_
      refine Wx.nilQ (fun w_20 hx_21 => ?_)
      have hS := hS.ext hx_21
      refine W.seq ?_
      refine W.seq ?_
      refine W.reg ?_
      refine Wx.rd (v := .int .i64 (ix 0 lab2 (ix 0 ts (17 + (2 * i))))) (rd_move rfl) rfl ?_
      refine Wx.rd (v := .int .i64 (ix 0 lab2 (ix 0 ts (17 + ((2 * i) + 1))))) (rd_move rfl) rfl ?_
      refine Wx.rd (v := .bool (decide ((ix 0 lab2 (ix 0 ts (17 + (2 * i)))) = (ix 0 lab2 (ix 0 ts (17 + ((2 * i) + 1))))))) (rd_eql rfl rfl) rfl ?_
      refine Wx.nil ?_
      refine W.condD rfl (fun c2 => ?_) (fun c2 => ?_)
      · -- yes
        refine W.exit rfl ?_
        refine W.reg ?_
        refine Wx.rd (v := .int .i64 (2 * i)) (rd_move rfl) rfl ?_
        refine Wx.rd (v := .int .i64 (2 * (i + 1))) (Rd.to (v := .int .i64 ((2 * i) + 2)) (rd_add rfl rfl (in_i64 (by omega) (by omega))) (congrArg (Value.int .i64) (show (2 * (i + 1) : Int) = ((2 * i) + 2 : Int) from (by omega)).symm)) rfl ?_
        refine Wx.rd (v := .int .i64 (2 * (i + 1))) (rd_assign rfl) rfl ?_
        refine Wx.nil ?_
        refine ⟨(n, lab2, (i + 1)), (by show (teN ts - 2 * (i + 1)).toNat < (teN ts - 2 * i).toNat; omega), ?_, ?_, Out.look rfl Out.self⟩
        · exact ⟨hS, (by first | omega | assumption), (by first | omega | assumption), (lb_skip p_ok g2 g0 (by omega) c2), (by first | omega | assumption), (by first | omega | assumption)⟩
        · exact ⟨rfl, rfl, trivial⟩
      · -- no
        refine W.skip ?_
        refine W.seq ?_
        refine W.reg ?_
        refine Wx.rd (v := .int .i64 n) (rd_move rfl) rfl ?_
        refine Wx.rd (v := .int .i64 (n - 1)) (rd_sub rfl rfl (in_i64 (by omega) (by omega))) rfl ?_
        refine Wx.rd (v := .int .i64 (n - 1)) (rd_assign rfl) rfl ?_
        refine Wx.nil ?_
        refine W.seq ?_
        refine W.reg ?_
        refine Wx.rd (v := .pointer (some ⟨g_1, 0 + 33, none⟩)) (rd_fieldAddr (o := 0) rfl foGd_52_3) rfl ?_
        have bz_22 := ix_i64 i_ts 33
        refine Wx.rd (v := .int .i64 (ix 0 ts 33)) (rd_loadXa (d := 0) (f := (Value.int .i64)) (j := 33) hS 1 rfl rfl (by omega) (by omega) (by omega) Tryz.isAgg3) rfl ?_
        refine Wx.rd (v := .slice (some ⟨g_5, 0, none⟩) (ix 0 ts 33).toNat 16) (rd_sliceArrH (m := 16) Tryz.underlying50 Tryz.sizeOf3 rfl rfl (by omega) (by omega)) rfl ?_
        refine Wx.rd (v := .int .i64 (((ix 0 ts 33).toNat : Nat) : Int)) (rd_len rfl Tryz.underlying25) rfl ?_
        refine Wx.rd (v := .int .i64 0) (rd_move rfl) rfl ?_
        refine Wx.nil ?_
        refine W.block ?_
        refine W.loop [9, 10, 50, 51, 52, 53, 54, 55, 56, 57, 58, 59, 60, 61] (fun x : Int × (List Int) => match x with | (z, lab3) => [(50, .int .i64 z)]) (fun (x : Int × (List Int)) w' => match x with | (z, lab3) => St w [] w' [.box g_5 50 (List.map (Value.int .i64) lab3), .box g_1 52 (List.map (Value.int .i64) ts)] ∧ 0 ≤ z ∧ z ≤ tnN ts ∧ RelI lab2 lab3 (ix 0 lab2 (tpF ts (2 * i))) (ix 0 lab2 (tpF ts (2 * i + 1))) z) (fun x : Int × (List Int) => match x with | (z, lab3) => (tnN ts - z).toNat) (0, lab2) ⟨rfl, trivial⟩ ⟨hS, (by first | omega | simp), (by first | omega | simp), (rel_start)⟩ ?_
        rintro ⟨z, lab3⟩ u_24 w_23 ⟨hS, k0, k1, k2⟩
        refine W.seq ?_
        refine W.reg ?_
        refine Wx.rd (v := .bool (decide (z < (((ix 0 ts 33).toNat : Nat) : Int)))) (rd_lss rfl rfl) rfl ?_
        refine Wx.nil ?_
        refine W.seq ?_
        refine W.condD rfl (fun c3 => ?_) (fun c3 => ?_)
        · -- yes
          have hll2 := k2.1
          refine W.skip ?_
          refine W.seq ?_
          refine W.block ?_
          refine W.seq ?_
          refine W.reg ?_
          refine Wx.rd (v := .int .i64 z) (rd_move rfl) rfl ?_
          refine Wx.rd (v := .pointer (some ⟨g_5, z.toNat, none⟩)) (rd_indexM rfl rfl Tryz.underlying25 Tryz.sizeOf3 (by first | omega | (simp only [List.length_set, List.length_append, List.length_cons, List.length_nil, List.length_replicate]; omega)) (by first | omega | (simp only [List.length_set, List.length_append, List.length_cons, List.length_nil, List.length_replicate]; omega))) rfl ?_
          refine Wx.rd (v := .int .i64 (ix 0 lab3 z)) (rd_loadXa (d := 0) (f := (Value.int .i64)) (j := z) hS 0 rfl rfl (by omega) (by omega) (by omega) Tryz.isAgg3) rfl ?_
          refine Wx.rd (v := .int .i64 z) (rd_assign rfl) rfl ?_
          refine Wx.rd (v := .int .i64 (ix 0 lab3 z)) (rd_assign rfl) rfl ?_
          refine Wx.nil ?_
          refine W.seq ?_
          refine W.reg ?_
          refine Wx.rd (v := .int .i64 (ix 0 lab3 z)) (rd_move rfl) rfl ?_
          refine Wx.rd (v := .int .i64 (ix 0 lab2 (ix 0 ts (17 + (2 * i))))) (rd_move rfl) rfl ?_
          refine Wx.rd (v := .bool (decide ((ix 0 lab3 z) = (ix 0 lab2 (ix 0 ts (17 + (2 * i))))))) (rd_eql rfl rfl) rfl ?_
          refine Wx.nil ?_
          refine W.condD rfl (fun c4 => ?_) (fun c4 => ?_)
          · -- yes
            refine W.reg ?_
            refine Wx.rd (v := .int .i64 z) (rd_move rfl) rfl ?_
            refine Wx.rd (v := .int .i64 (ix 0 lab2 (ix 0 ts (17 + ((2 * i) + 1))))) (rd_move rfl) rfl ?_
            refine Wx.rd (v := .pointer (some ⟨g_5, 0 + z.toNat * 1, none⟩)) (rd_indexArr rfl rfl Tryz.underlying50 Tryz.sizeOf3 (by omega) (by omega)) rfl ?_
            refine Wx.storeXa (j := z) (f := (Value.int .i64)) (u := (ix 0 lab2 (ix 0 ts (17 + ((2 * i) + 1))))) hS 0 rfl rfl (by omega) rfl rfl rfl Tryz.sizeOf3 (by omega) (by omega) (fun w_25 hz_26 hS => ?_)
            refine Wx.nil ?_
            refine W.reg ?_
            refine Wx.rd (v := .int .i64 (z + 1)) (rd_add rfl rfl (in_i64 (by omega) (by omega))) rfl ?_
            refine Wx.rd (v := .int .i64 (z + 1)) (rd_move rfl) rfl ?_
            refine Wx.nil ?_
            refine ⟨(z + 1, List.set lab3 z.toNat (ix 0 lab2 (ix 0 ts (17 + ((2 * i) + 1))))), (by show (tnN ts - (z + 1)).toNat < (tnN ts - z).toNat; omega), ?_, ?_, Out.look rfl Out.self⟩
            · exact ⟨hS, (by first | omega | assumption), (by first | omega | assumption), (rel_hit k2 k0 (by omega) c4)⟩
            · exact ⟨rfl, trivial⟩
          · -- no
            refine W.skip ?_
            refine W.reg ?_
            refine Wx.rd (v := .int .i64 (z + 1)) (rd_add rfl rfl (in_i64 (by omega) (by omega))) rfl ?_
            refine Wx.rd (v := .int .i64 (z + 1)) (rd_move rfl) rfl ?_
            refine Wx.nil ?_
            refine ⟨(z + 1, lab3), (by show (tnN ts - (z + 1)).toNat < (tnN ts - z).toNat; omega), ?_, ?_, Out.look rfl Out.self⟩
            · exact ⟨hS, (by first | omega | assumption), (by first | omega | assumption), (rel_miss k2 k0 (by omega) c4)⟩
            · exact ⟨rfl, trivial⟩
        · -- no
          refine W.exit rfl ?_
          refine W.reg ?_
          refine Wx.rd (v := .int .i64 (2 * i)) (rd_move rfl) rfl ?_
          refine Wx.rd (v := .int .i64 (2 * (i + 1))) (Rd.to (v := .int .i64 ((2 * i) + 2)) (rd_add rfl rfl (in_i64 (by omega) (by omega))) (congrArg (Value.int .i64) (show (2 * (i + 1) : Int) = ((2 * i) + 2 : Int) from (by omega)).symm)) rfl ?_
          refine Wx.rd (v := .int .i64 (2 * (i + 1))) (rd_assign rfl) rfl ?_
          refine Wx.nil ?_
          refine ⟨(n - 1, lab3, (i + 1)), (by show (teN ts - 2 * (i + 1)).toNat < (teN ts - 2 * i).toNat; omega), ?_, ?_, Out.look rfl (Out.hav rfl (Out.look rfl Out.self))⟩
          · exact ⟨hS, (by first | omega | assumption), (by first | omega | assumption), (lb_take p_ok g2 g0 (by omega) c2 k2 (by omega)), (by first | omega | assumption), (by first | omega | assumption)⟩
          · exact ⟨rfl, rfl, trivial⟩
    · -- no
      refine W.exit rfl ?_
      refine W.seq ?_
      refine W.reg ?_
      refine Wx.rd (v := .int .i64 n) (rd_move rfl) rfl ?_
      refine Wx.rd (v := .int .i64 n) (rd_assign rfl) rfl ?_
      refine Wx.nil ?_
      have e0_0 : (partT ts) = (n : Int) := by exact (lb_end p_ok g2 g0 (by omega)).symm
      exact W.ret ⟨.int .i64 n, ResIs.one, hS.bel, (by rw [e0_0])⟩
end Go.Proofs.YtdpdlplkngggoaaGreatDoor

namespace Go.Proofs.YtdpdlplkngggoaaGreatDoor
open Go.Wk Go.RowKit Go.Lib
set_option linter.unusedVariables false
set_option linter.unusedSimpArgs false


set_option maxHeartbeats 1000000 in
theorem F5 {mv : Value} {ls : List (List Int)} {Fr_mv : List (Option Nat)} {w : World} (h_mv : V (tSl (tSl (tI .i64))) ls mv Fr_mv w) (p_ok : MapOK ls) (p_t : TblOK (tabV ls)) : Calls Tryz.prog 5 #[.agg #[mv]] w (Ret w (fun r _ => r = .tuple #[.int .i64 (partT (tabV ls)), .int .i64 0])) := by
  have htv := tabV_len (ls := ls)
  obtain ⟨tl, tn, ⟨te, te2⟩, tp⟩ := id p_t
  have a_mv := h_mv.any
  have l_mv := h_mv.len63
  have hS := St.start0 w
  refine enterR Tryz.func5 rfl Tryz.ntmps5 Tryz.results5 rfl ?_
  refine W.seq ?_
  refine W.reg ?_
  refine Wx.box (cs := [mv]) hS rfl rfl rfl (fun g_1 w_2 hx_4 hb_3 hS => ?_)
  refine Wx.rd (v := .int .i64 0) (rd_assign rfl) rfl ?_
  refine Wx.rd (v := .int .i64 0) (rd_assign rfl) rfl ?_
  refine Wx.nil ?_
  refine W.seq ?_
  refine W.reg ?_
  refine Wx.rd (v := .agg #[mv]) (rd_loadXs (ds := [mv]) hS 0 rfl rfl rfl rfl Tryz.isAgg32 Tryz.sizeOf32) rfl ?_
  refine Wx.callF (run_callF Tryz.call12 rfl) (F12 (hS.arg a_mv) p_ok) rfl ?_
  rintro r_5 w_6 hx_7 rfl
  have hS := hS.ext hx_7
  refine Wx.rd (v := .tuple #[.agg (List.map (Value.int .i64) (tabV ls)).toArray, .int .i64 0]) (rd_move rfl) rfl ?_
  refine Wx.rd (v := .agg (List.map (Value.int .i64) (tabV ls)).toArray) (rd_extract rfl rfl) rfl ?_
  refine Wx.rd (v := .int .i64 0) (rd_extract rfl rfl) rfl ?_
  refine Wx.alloc (cs := List.map (Value.int .i64) (List.replicate 34 (0 : Int))) hS Tryz.zeroValue52 (by kernel_rfl) rfl (fun g_8 w_9 hx_11 hb_10 hS => ?_)
  have hS : St _ _ w_9 [.box g_8 52 (List.map (Value.int .i64) (List.replicate 34 (0 : Int))), .box g_1 32 [mv]] := hS
  refine Wx.storeX (cs' := List.map (Value.int .i64) (tabV ls)) (ds := List.map (Value.int .i64) (tabV ls)) hS 0 rfl rfl rfl rfl (fun w' => by rw [List.length_map, show List.length (tabV ls) = 34 by first | omega | (simp; omega) | simp]; exact Tryz.sizeOf52 w') (by first | (simp; omega) | simp) (by intro u hu; obtain ⟨_, _, rfl⟩ := List.mem_map.1 hu; rfl) (by rw [List.take_zero, List.nil_append, List.drop_of_length_le (by first | (simp; omega) | simp), List.append_nil]) (fun w_12 hz_13 hS => ?_)
  refine Wx.rd (v := .int .i64 0) (rd_assign rfl) rfl ?_
  refine Wx.nil ?_
  refine W.seq ?_
  refine W.seq ?_
  refine W.reg ?_
  refine Wx.rd (v := .int .i64 0) (rd_move rfl) rfl ?_
  refine Wx.rd (v := .bool false) (Rd.to (v := .bool (decide ((0 : Int) ≠ 0))) (rd_neq rfl rfl) rfl) rfl ?_
  refine Wx.nil ?_
  refine W.condF rfl rfl ?_
  refine W.skip ?_
  refine W.seq ?_
  refine W.reg ?_
  refine Wx.rd (v := .agg (List.map (Value.int .i64) (tabV ls)).toArray) (rd_loadXs (ds := List.map (Value.int .i64) (tabV ls)) hS 0 rfl rfl (by rw [List.drop_zero, List.take_of_length_le (by simp; omega)]) (by simp; omega) Tryz.isAgg52 Tryz.sizeOf52) rfl ?_
  refine Wx.callF (run_callF Tryz.call13 rfl) (F13 htv (tab_in (ls := ls) p_ok) p_t) rfl ?_
  rintro r_14 w_15 hx_16 rfl
  have hS := hS.ext hx_16
  refine Wx.rd (v := .int .i64 (partT (tabV ls))) (rd_assign rfl) rfl ?_
  refine Wx.rd (v := .int .i64 0) (rd_assign rfl) rfl ?_
  refine Wx.nil ?_
  exact W.ret ⟨.tuple #[.int .i64 (partT (tabV ls)), .int .i64 0], ResIs.two, hS.bel, rfl⟩
end Go.Proofs.YtdpdlplkngggoaaGreatDoor

namespace Go.Proofs.YtdpdlplkngggoaaGreatDoor
open Go.Wk Go.RowKit Go.Lib
set_option linter.unusedVariables false
set_option linter.unusedSimpArgs false
theorem foGi_52_0 : fldOff Tryz.prog 52 0 = some 0 := by kernel_rfl
theorem elGi_25 : ElemI Tryz.prog 25 3 (.int .i64 0) 1 8 := ElemI.of Tryz.underlying25 (by kernel_rfl) (by first | rfl | kernel_rfl) (by decide)
theorem elGi_30 : ElemI Tryz.prog 30 25 ((.slice none 0 0)) 1 24 := ElemI.of Tryz.underlying30 (by kernel_rfl) (by first | rfl | kernel_rfl) (by decide)

set_option maxHeartbeats 4000000 in
theorem FCb {ts : List Int} {O : List (Option Nat)} {w : World} (n_ts : ts.length = 34) (i_ts : ∀ z ∈ ts, InK .i64 z) (n_ts : ts.length = 34) (i_ts : ∀ z ∈ ts, InK .i64 z) (p_ok : TblOK ts) (p_p : permB (teN ts) (alngF ts) = true) (hO : ∀ b, some b ∈ O → b < w.heap.size) (hG : Laid w) : Calls Tryz.prog 14 #[.agg (List.map (Value.int .i64) ts).toArray, .func (.func 15) #[.agg (List.map (Value.int .i64) ts).toArray] #[]] w (Ret w (fun r w' => ∃ rv, r = rv ∧ FreshO (tSl (tI .i64)) 25 (cycV (teN ts) (alngF ts)) rv O w.heap.size w')) := by
  obtain ⟨tl, tn, ⟨te, te2⟩, tp⟩ := id p_ok
  have he_ : teN ts = ix 0 ts 0 := rfl
  have hS := St.start w O hO
  refine enterR Tryz.func14 rfl Tryz.ntmps14 Tryz.results14 rfl ?_
  refine W.seq ?_
  refine W.reg ?_
  refine Wx.box (cs := List.map (Value.int .i64) ts) hS rfl rfl rfl (fun g_1 w_2 hx_4 hb_3 hS => ?_)
  refine Wx.rd (v := (.slice none 0 0)) (rd_assign rfl) rfl ?_
  refine Wx.nil ?_
  refine W.seq ?_
  refine W.reg ?_
  refine Wx.rd (v := (.slice none 0 0)) (rd_assign rfl) rfl ?_
  refine Wx.nil ?_
  refine W.seq ?_
  refine W.reg ?_
  refine Wx.alloc (cs := List.map Value.bool (List.replicate 16 false)) hS Tryz.zeroValue72 (by kernel_rfl) rfl (fun g_5 w_6 hx_8 hb_7 hS => ?_)
  have hS : St _ _ w_6 [.box g_5 72 (List.map Value.bool (List.replicate 16 false)), .box g_1 52 (List.map (Value.int .i64) ts)] := hS
  refine Wx.nil ?_
  refine W.seq ?_
  refine W.seq ?_
  refine W.reg ?_
  refine Wx.rd (v := .pointer (some ⟨g_1, 0 + 0, none⟩)) (rd_fieldAddr (o := 0) rfl foGi_52_0) rfl ?_
  have bz_9 := ix_i64 i_ts 0
  refine Wx.rd (v := .int .i64 (ix 0 ts 0)) (rd_loadXa (d := 0) (f := (Value.int .i64)) (j := 0) hS 1 rfl rfl (by omega) (by omega) (by omega) Tryz.isAgg3) rfl ?_
  refine Wx.rd (v := .int .i64 0) (rd_move rfl) rfl ?_
  refine Wx.nil ?_
  refine W.block ?_
  have hS := hS.addNil (tSl (tI .i64)) 25
  refine W.loop [5, 7, 8, 9, 12, 13, 14, 15, 16, 17, 18, 19, 20, 21, 22, 23, 24, 25, 26, 27, 28, 29, 30, 31, 32, 33, 34, 35] (fun x : Int × Value × (List (List Int)) × (List Bool) => match x with | (k, ov, out, met) => [(12, .int .i64 k), (5, ov)]) (fun (x : Int × Value × (List (List Int)) × (List Bool)) w' => match x with | (k, ov, out, met) => St w O w' [.row (tSl (tI .i64)) 25 ov out, .box g_5 72 (List.map Value.bool met), .box g_1 52 (List.map (Value.int .i64) ts)] ∧ 0 ≤ k ∧ k ≤ teN ts ∧ out = (rng 0 k).foldl (cycS (alngF ts)) [] ∧ MetB out met ∧ (out.length : Int) ≤ k) (fun x : Int × Value × (List (List Int)) × (List Bool) => match x with | (k, ov, out, met) => (teN ts - k).toNat) (0, (.slice none 0 0), [], (List.replicate 16 false)) ⟨rfl, rfl, trivial⟩ ⟨hS, (by first | omega | simp), (by first | omega | simp), (rfl), (met0), (by decide)⟩ ?_
  rintro ⟨k, ov, out, met⟩ u_11 w_10 ⟨hS, h0, h1, h2, h3, h4⟩
  refine W.seq ?_
  refine W.reg ?_
  refine Wx.rd (v := .bool (decide (k < (ix 0 ts 0)))) (rd_lss rfl rfl) rfl ?_
  refine Wx.nil ?_
  refine W.seq ?_
  refine W.condD rfl (fun c0 => ?_) (fun c0 => ?_)
  · -- yes
    have hml := h3.1
    have hkr : 0 ≤ k ∧ k < teN ts := ⟨h0, by omega⟩
    refine W.skip ?_
    refine W.seq ?_
    refine W.block ?_
    refine W.seq ?_
    refine W.reg ?_
    refine Wx.rd (v := .int .i64 k) (rd_move rfl) rfl ?_
    refine Wx.rd (v := .int .i64 k) (rd_assign rfl) rfl ?_
    refine Wx.nil ?_
    refine W.scopeL 0 [8, 9, 15, 16, 17, 18, 19, 20, 21, 22, 23, 24, 25, 26, 27, 28, 29, 30, 31, 32, 33, 34] (fun x : Int × Value × (List Int) × (List Bool) × Nat => match x with | (e, lv, l, met2, j) => [(9, .int .i64 e), (8, lv)]) (fun (x : Int × Value × (List Int) × (List Bool) × Nat) w' => match x with | (e, lv, l, met2, j) => St w O w' [.row (tI .i64) 3 lv l, .row (tSl (tI .i64)) 25 ov out, .box g_5 72 (List.map Value.bool met2), .box g_1 52 (List.map (Value.int .i64) ts)] ∧ CyI (alngF ts) k out j l e met2 ∧ met.getD k.toNat false = false) (fun x : Int × Value × (List Int) × (List Bool) × Nat => match x with | (e, lv, l, met2, j) => perF (alngF ts) k - j) rfl ?_ ?_
    · -- from the label on
      rintro ⟨e, lv, l, met2, j⟩ u_13 w_12 ⟨hS, y2, y5⟩
      have her := cy_rng p_p hkr y2
      have hml2 := y2.2.2.1
      have hll := cy_len y2
      have hjb := cy_bd p_p hkr y2
      refine WJ.seqJ ?_
      refine WJ.of ?_
      refine W.reg ?_
      refine Wx.rd (v := .int .i64 e) (rd_move rfl) rfl ?_
      refine Wx.rd (v := .pointer (some ⟨g_5, 0 + e.toNat * 1, none⟩)) (rd_indexArr rfl rfl Tryz.underlying72 Tryz.sizeOf4 (by omega) (by omega)) rfl ?_
      refine Wx.storeXa (j := e) (f := Value.bool) (u := true) hS 2 rfl rfl (by omega) rfl rfl rfl Tryz.sizeOf4 (by omega) (by omega) (fun w_14 hz_15 hS => ?_)
      refine Wx.nil ?_
      refine WJ.seqJ ?_
      refine WJ.of ?_
      refine W.reg ?_
      refine Wx.rd (v := lv) (rd_move rfl) rfl ?_
      refine Wx.rd (v := .int .i64 e) (rd_move rfl) rfl ?_
      refine Wx.lit (t := (tI .i64)) (ys := [e]) (vs := [.int .i64 e]) elGi_25 hS rfl rfl ⟨(V.mkInt (in_i64 (by omega) (by omega))), trivial⟩ (by decide) rfl (fun v_16 w_17 hx_18 hS => ?_)
      refine Wx.append elGi_25 hS 1 rfl rfl rfl (Src.ofR hS 0 rfl) (by simp only [maxLen]; first | omega | (simp; omega) | simp) (by first | omega | (simp; omega) | simp) rfl (fun v_19 w_20 hz_21 hS => ?_)
      refine Wx.rd (v := v_19) (rd_assign rfl) rfl ?_
      refine Wx.nil ?_
      refine WJ.seqJ ?_
      refine WJ.seqJ ?_
      refine WJ.of ?_
      refine W.reg ?_
      refine Wx.rd (v := .func (.func 15) #[.agg (List.map (Value.int .i64) ts).toArray] #[]) (rd_move rfl) rfl ?_
      refine Wx.rd (v := .int .i64 e) (rd_move rfl) rfl ?_
      refine Wx.callF (run_callC (fs := [.agg (List.map (Value.int .i64) ts).toArray]) (cs := []) (vs := [.agg (List.map (Value.int .i64) ts).toArray, .int .i64 e]) Tryz.call15 rfl rfl) (F15 n_ts i_ts (in_i64 (by omega) (by omega)) ⟨by omega, by omega⟩ (hG.ext hS.bel)) rfl ?_
      rintro r_22 w_23 hx_24 rfl
      have hS := hS.ext hx_24
      refine Wx.rd (v := .int .i64 (alngF ts e)) (rd_assign rfl) rfl ?_
      refine Wx.nil ?_
      refine WJ.seqJ ?_
      refine WJ.of ?_
      refine W.reg ?_
      refine Wx.rd (v := .int .i64 (alngF ts e)) (rd_move rfl) rfl ?_
      refine Wx.rd (v := .int .i64 k) (rd_move rfl) rfl ?_
      refine Wx.rd (v := .bool (decide ((alngF ts e) ≠ k))) (rd_neq rfl rfl) rfl ?_
      refine Wx.nil ?_
      refine WJ.condD rfl (fun c1 => ?_) (fun c1 => ?_)
      · -- yes
        refine WJ.goto ?_
        refine ⟨(alngF ts e, v_19, l ++ [e], List.set met2 e.toNat true, j + 1), (by show perF (alngF ts) k - (j + 1) < perF (alngF ts) k - j; have := y2.2.1; omega), ?_, ?_, Out.look rfl Out.self⟩
        · exact ⟨hS.tl, (cy_next p_p hkr (by omega) y2 c1), (y5)⟩
        · exact ⟨rfl, rfl, trivial⟩
      · -- no
        refine WJ.skip ?_
        refine WJ.of ?_
        refine W.reg ?_
        refine Wx.rd (v := ov) (rd_move rfl) rfl ?_
        refine Wx.rd (v := v_19) (rd_move rfl) rfl ?_
        have hS := hS.freeze 1 rfl
        refine Wx.lit (t := (tSl (tI .i64))) (ys := [l ++ [e]]) (vs := [v_19]) elGi_30 hS rfl rfl ⟨(hS.v 0 rfl), trivial⟩ (by decide) rfl (fun v_26 w_27 hx_28 hS => ?_)
        refine Wx.append elGi_30 hS 3 rfl rfl rfl (Src.ofR hS 0 rfl) (by simp only [maxLen]; first | omega | (simp; omega) | simp) (by first | omega | (simp; omega) | simp) rfl (fun v_29 w_30 hz_31 hS => ?_)
        refine Wx.rd (v := v_29) (rd_assign rfl) rfl ?_
        refine Wx.nil ?_
        refine W.reg ?_
        refine Wx.rd (v := .int .i64 (k + 1)) (rd_add rfl rfl (in_i64 (by omega) (by omega))) rfl ?_
        refine Wx.rd (v := .int .i64 (k + 1)) (rd_move rfl) rfl ?_
        refine Wx.nil ?_
        refine ⟨(k + 1, v_29, out ++ [l ++ [e]], List.set met2 e.toNat true), (by show (teN ts - (k + 1)).toNat < (teN ts - k).toNat; omega), ?_, ?_, Out.look rfl (Out.hav rfl (Out.look rfl Out.self))⟩
        · exact ⟨St.tl (St.tl (hS.tl)), (by first | omega | assumption), (by first | omega | assumption), (by rw [(cy_end p_p hkr (by omega) y2 (Decidable.not_not.1 c1)).1]; exact cyc_take h0 h2 h3 (by omega) y5), ((cy_end p_p hkr (by omega) y2 (Decidable.not_not.1 c1)).2), (by simp only [List.length_append, List.length_cons, List.length_nil]; omega)⟩
        · exact ⟨rfl, rfl, trivial⟩
    · -- up to the label
      intro K hK hB
      refine WJ.seqJ ?_
      refine WJ.of ?_
      refine W.seq ?_
      refine W.reg ?_
      refine Wx.rd (v := .int .i64 k) (rd_move rfl) rfl ?_
      refine Wx.rd (v := .pointer (some ⟨g_5, 0 + k.toNat * 1, none⟩)) (rd_indexArr rfl rfl Tryz.underlying72 Tryz.sizeOf4 (by omega) (by omega)) rfl ?_
      refine Wx.rd (v := .bool (ix false met k)) (rd_loadXa (d := false) (f := Value.bool) (j := k) hS 1 rfl rfl (by omega) (by omega) (by omega) Tryz.isAgg4) rfl ?_
      refine Wx.nil ?_
      refine W.cond rfl (fun c2 => ?_) (fun c2 => ?_)
      · -- yes
        try simp only [Bool.and_eq_true, Bool.or_eq_true, Bool.not_eq_true', Bool.and_eq_false_iff, Bool.or_eq_false_iff, Bool.not_eq_false', decide_eq_true_eq, decide_eq_false_iff_not, not_or, Bool.false_eq_true, Bool.true_eq_false, false_or, or_false, not_false_eq_true] at c2
        refine W.exit rfl ?_
        refine W.reg ?_
        refine Wx.rd (v := .int .i64 (k + 1)) (rd_add rfl rfl (in_i64 (by omega) (by omega))) rfl ?_
        refine Wx.rd (v := .int .i64 (k + 1)) (rd_move rfl) rfl ?_
        refine Wx.nil ?_
        refine ⟨(k + 1, ov, out, met), (by show (teN ts - (k + 1)).toNat < (teN ts - k).toNat; omega), ?_, ?_, Out.look rfl (Out.look rfl Out.self)⟩
        · exact ⟨hS, (by first | omega | assumption), (by first | omega | assumption), ((cyc_skip h0 h2 h3 (by omega) c2).1), (h3), (by first | omega | assumption)⟩
        · exact ⟨rfl, rfl, trivial⟩
      · -- no
        try simp only [Bool.and_eq_true, Bool.or_eq_true, Bool.not_eq_true', Bool.and_eq_false_iff, Bool.or_eq_false_iff, Bool.not_eq_false', decide_eq_true_eq, decide_eq_false_iff_not, not_or, Bool.false_eq_true, Bool.true_eq_false, false_or, or_false, not_false_eq_true] at c2
        refine W.skip ?_
        refine WJ.seqJ ?_
        refine WJ.of ?_
        refine W.reg ?_
        refine Wx.rd (v := (.slice none 0 0)) (rd_assign rfl) rfl ?_
        refine Wx.nil ?_
        refine WJ.seqJ ?_
        refine WJ.of ?_
        refine W.reg ?_
        refine Wx.rd (v := .int .i64 k) (rd_move rfl) rfl ?_
        refine Wx.rd (v := .int .i64 k) (rd_assign rfl) rfl ?_
        refine Wx.nil ?_
        refine WJ.seq (W.label ?_)
        have hS := hS.addNil (tI .i64) 3
        refine hB _ _ (hK _ _ ?_)
        refine ⟨(k, (.slice none 0 0), [], met, 0), ?_, ?_, Out.look rfl Out.refl⟩
        · exact ⟨hS, (cy_start p_p hkr h3), (c2)⟩
        · exact ⟨rfl, rfl, trivial⟩
  · -- no
    refine W.exit rfl ?_
    refine W.seq ?_
    refine W.reg ?_
    refine Wx.rd (v := ov) (rd_move rfl) rfl ?_
    refine Wx.rd (v := ov) (rd_assign rfl) rfl ?_
    refine Wx.nil ?_
    have e0_0 : cycV (teN ts) (alngF ts) = out := by rw [h2, show k = teN ts by omega]; rfl
    exact W.ret ⟨ov, ResIs.one, hS.bel, ⟨ov, rfl, (by rw [e0_0]; exact (hS.frO 0 rfl))⟩⟩
end Go.Proofs.YtdpdlplkngggoaaGreatDoor

namespace Go.Proofs.YtdpdlplkngggoaaGreatDoor
open Go.Wk Go.RowKit Go.Lib
set_option linter.unusedVariables false
set_option linter.unusedSimpArgs false


set_option maxHeartbeats 1000000 in
theorem F6 {mv : Value} {ls : List (List Int)} {O : List (Option Nat)} {w : World} (h_mv : V (tSl (tSl (tI .i64))) ls mv O w) (p_ok : MapOK ls) (p_t : TblOK (tabV ls)) (p_p : permB (teN (tabV ls)) (alngF (tabV ls)) = true) (hO : ∀ b, some b ∈ O → b < w.heap.size) (hG : Laid w) : Calls Tryz.prog 6 #[.agg #[mv]] w (Ret w (fun r w' => ∃ rv, r = .tuple #[rv, .int .i64 0] ∧ FreshO (tSl (tI .i64)) 25 (cycV (teN (tabV ls)) (alngF (tabV ls))) rv O w.heap.size w')) := by
  have htv := tabV_len (ls := ls)
  obtain ⟨tl, tn, ⟨te, te2⟩, tp⟩ := id p_t
  have a_mv := h_mv
  have l_mv := h_mv.len63
  have hS := St.start w O hO
  refine enterR Tryz.func6 rfl Tryz.ntmps6 Tryz.results6 rfl ?_
  refine W.seq ?_
  refine W.reg ?_
  refine Wx.box (cs := [mv]) hS rfl rfl rfl (fun g_1 w_2 hx_4 hb_3 hS => ?_)
  refine Wx.rd (v := (.slice none 0 0)) (rd_assign rfl) rfl ?_
  refine Wx.rd (v := .int .i64 0) (rd_assign rfl) rfl ?_
  refine Wx.nil ?_
  refine W.seq ?_
  refine W.reg ?_
  refine Wx.rd (v := .agg #[mv]) (rd_loadXs (ds := [mv]) hS 0 rfl rfl rfl rfl Tryz.isAgg32 Tryz.sizeOf32) rfl ?_
  refine Wx.callF (run_callF Tryz.call12 rfl) (F12 (hS.arg a_mv) p_ok) rfl ?_
  rintro r_5 w_6 hx_7 rfl
  have hS := hS.ext hx_7
  refine Wx.rd (v := .tuple #[.agg (List.map (Value.int .i64) (tabV ls)).toArray, .int .i64 0]) (rd_move rfl) rfl ?_
  refine Wx.rd (v := .agg (List.map (Value.int .i64) (tabV ls)).toArray) (rd_extract rfl rfl) rfl ?_
  refine Wx.rd (v := .int .i64 0) (rd_extract rfl rfl) rfl ?_
  refine Wx.alloc (cs := List.map (Value.int .i64) (List.replicate 34 (0 : Int))) hS Tryz.zeroValue52 (by kernel_rfl) rfl (fun g_8 w_9 hx_11 hb_10 hS => ?_)
  have hS : St _ _ w_9 [.box g_8 52 (List.map (Value.int .i64) (List.replicate 34 (0 : Int))), .box g_1 32 [mv]] := hS
  refine Wx.storeX (cs' := List.map (Value.int .i64) (tabV ls)) (ds := List.map (Value.int .i64) (tabV ls)) hS 0 rfl rfl rfl rfl (fun w' => by rw [List.length_map, show List.length (tabV ls) = 34 by first | omega | (simp; omega) | simp]; exact Tryz.sizeOf52 w') (by first | (simp; omega) | simp) (by intro u hu; obtain ⟨_, _, rfl⟩ := List.mem_map.1 hu; rfl) (by rw [List.take_zero, List.nil_append, List.drop_of_length_le (by first | (simp; omega) | simp), List.append_nil]) (fun w_12 hz_13 hS => ?_)
  refine Wx.rd (v := .int .i64 0) (rd_assign rfl) rfl ?_
  refine Wx.nil ?_
  refine W.seq ?_
  refine W.seq ?_
  refine W.reg ?_
  refine Wx.rd (v := .int .i64 0) (rd_move rfl) rfl ?_
  refine Wx.rd (v := .bool false) (Rd.to (v := .bool (decide ((0 : Int) ≠ 0))) (rd_neq rfl rfl) rfl) rfl ?_
  refine Wx.nil ?_
  refine W.condF rfl rfl ?_
  refine W.skip ?_
  refine W.seq ?_
  refine W.reg ?_
  refine Wx.rd (v := .agg (List.map (Value.int .i64) (tabV ls)).toArray) (rd_loadXs (ds := List.map (Value.int .i64) (tabV ls)) hS 0 rfl rfl (by rw [List.drop_zero, List.take_of_length_le (by simp; omega)]) (by simp; omega) Tryz.isAgg52 Tryz.sizeOf52) rfl ?_
  refine Wx.rd (v := .agg (List.map (Value.int .i64) (tabV ls)).toArray) (rd_loadXs (ds := List.map (Value.int .i64) (tabV ls)) hS 0 rfl rfl (by rw [List.drop_zero, List.take_of_length_le (by simp; omega)]) (by simp; omega) Tryz.isAgg52 Tryz.sizeOf52) rfl ?_
  refine Wx.rd (v := .func (.func 15) #[.agg (List.map (Value.int .i64) (tabV ls)).toArray] #[]) (rd_makeFunc (vs := [.agg (List.map (Value.int .i64) (tabV ls)).toArray]) (us := []) rfl rfl) rfl ?_
  refine Wx.callF (run_callF Tryz.call14 rfl) (FCb htv (tab_in (ls := ls) p_ok) htv (tab_in (ls := ls) p_ok) p_t p_p hS.fb_lt (hG.ext hS.bel)) rfl ?_
  rintro r_14 w_15 hx_16 ⟨_, rfl, hv_17⟩
  have hS := hS.pushFrO hx_16 hv_17
  refine Wx.rd (v := r_14) (rd_assign rfl) rfl ?_
  refine Wx.rd (v := .int .i64 0) (rd_assign rfl) rfl ?_
  refine Wx.nil ?_
  exact W.ret ⟨.tuple #[r_14, .int .i64 0], ResIs.two, hS.bel, ⟨r_14, rfl, (hS.frO 0 rfl)⟩⟩
end Go.Proofs.YtdpdlplkngggoaaGreatDoor

namespace Go.Proofs.YtdpdlplkngggoaaGreatDoor
open Go.Wk Go.RowKit Go.Lib
set_option linter.unusedVariables false
set_option linter.unusedSimpArgs false
theorem mixedGk_ : Tryz.prog.follows .mixedOrders = true := by kernel_rfl
theorem foGk_52_3 : fldOff Tryz.prog 52 3 = some 33 := by kernel_rfl
theorem foGk_52_0 : fldOff Tryz.prog 52 0 = some 0 := by kernel_rfl

set_option maxHeartbeats 1000000 in
theorem F4 {mv : Value} {ls : List (List Int)} {Fr_mv : List (Option Nat)} {w : World} (h_mv : V (tSl (tSl (tI .i64))) ls mv Fr_mv w) (p_ok : MapOK ls) (p_t : TblOK (tabV ls)) (p_p : permB (teN (tabV ls)) (alngF (tabV ls)) = true) (p_y : 0 ≤ partT (tabV ls) ∧ partT (tabV ls) ≤ 100) (p_z : 0 ≤ tnN (tabV ls) - teN (tabV ls) / 2 + (cycV (teN (tabV ls)) (alngF (tabV ls))).length) (hG : Laid w) : Calls Tryz.prog 4 #[.agg #[mv]] w (Ret w (fun r _ => r = .tuple #[.int .i64 (genT (tabV ls)), .int .i64 0])) := by
  have htv := tabV_len (ls := ls)
  obtain ⟨tl, tn, ⟨te, te2⟩, tp⟩ := id p_t
  have hcl := cycV_len te.1 (alngF (tabV ls))
  have he_ : teN (tabV ls) = ix 0 (tabV ls) 0 := rfl
  have hn_ : tnN (tabV ls) = ix 0 (tabV ls) 33 := rfl
  have a_mv := h_mv.any
  have l_mv := h_mv.len63
  have hS := St.start0 w
  refine enterR Tryz.func4 rfl Tryz.ntmps4 Tryz.results4 rfl ?_
  refine W.seq ?_
  refine W.reg ?_
  refine Wx.box (cs := [mv]) hS rfl rfl rfl (fun g_1 w_2 hx_4 hb_3 hS => ?_)
  refine Wx.rd (v := .int .i64 0) (rd_assign rfl) rfl ?_
  refine Wx.rd (v := .int .i64 0) (rd_assign rfl) rfl ?_
  refine Wx.nil ?_
  refine W.seq ?_
  refine W.reg ?_
  refine Wx.rd (v := .agg #[mv]) (rd_loadXs (ds := [mv]) hS 0 rfl rfl rfl rfl Tryz.isAgg32 Tryz.sizeOf32) rfl ?_
  refine Wx.callF (run_callF Tryz.call12 rfl) (F12 (hS.arg a_mv) p_ok) rfl ?_
  rintro r_5 w_6 hx_7 rfl
  have hS := hS.ext hx_7
  refine Wx.rd (v := .tuple #[.agg (List.map (Value.int .i64) (tabV ls)).toArray, .int .i64 0]) (rd_move rfl) rfl ?_
  refine Wx.rd (v := .agg (List.map (Value.int .i64) (tabV ls)).toArray) (rd_extract rfl rfl) rfl ?_
  refine Wx.rd (v := .int .i64 0) (rd_extract rfl rfl) rfl ?_
  refine Wx.alloc (cs := List.map (Value.int .i64) (List.replicate 34 (0 : Int))) hS Tryz.zeroValue52 (by kernel_rfl) rfl (fun g_8 w_9 hx_11 hb_10 hS => ?_)
  have hS : St _ _ w_9 [.box g_8 52 (List.map (Value.int .i64) (List.replicate 34 (0 : Int))), .box g_1 32 [mv]] := hS
  refine Wx.storeX (cs' := List.map (Value.int .i64) (tabV ls)) (ds := List.map (Value.int .i64) (tabV ls)) hS 0 rfl rfl rfl rfl (fun w' => by rw [List.length_map, show List.length (tabV ls) = 34 by first | omega | (simp; omega) | simp]; exact Tryz.sizeOf52 w') (by first | (simp; omega) | simp) (by intro u hu; obtain ⟨_, _, rfl⟩ := List.mem_map.1 hu; rfl) (by rw [List.take_zero, List.nil_append, List.drop_of_length_le (by first | (simp; omega) | simp), List.append_nil]) (fun w_12 hz_13 hS => ?_)
  refine Wx.rd (v := .int .i64 0) (rd_assign rfl) rfl ?_
  refine Wx.nil ?_
  refine W.seq ?_
  refine W.seq ?_
  refine W.reg ?_
  refine Wx.rd (v := .int .i64 0) (rd_move rfl) rfl ?_
  refine Wx.rd (v := .bool false) (Rd.to (v := .bool (decide ((0 : Int) ≠ 0))) (rd_neq rfl rfl) rfl) rfl ?_
  refine Wx.nil ?_
  refine W.condF rfl rfl ?_
  refine W.skip ?_
  refine W.seq ?_
  refine W.regH mixedGk_ (fun w_14 hx_15 => ?_)
  have h0 := hS
  have hS := (St.start _ _ h0.fb_lt).ext hx_15
  refine Wh.rd (v := .agg (List.map (Value.int .i64) (tabV ls)).toArray) 0 rfl (by kernel_rfl) hS.bel (rd_loadXs (ds := List.map (Value.int .i64) (tabV ls)) h0 0 rfl rfl (by rw [List.drop_zero, List.take_of_length_le (by simp; omega)]) (by simp; omega) Tryz.isAgg52 Tryz.sizeOf52) rfl ?_
  refine Wh.rd (v := .pointer (some ⟨g_8, 0 + 33, none⟩)) 2 rfl (by kernel_rfl) hS.bel (rd_fieldAddr (o := 0) rfl foGk_52_3) rfl ?_
  refine Wh.rd (v := .int .i64 (ix 0 (tabV ls) 33)) 3 rfl (by kernel_rfl) hS.bel (rd_loadXa (d := 0) (f := (Value.int .i64)) (j := 33) h0 0 rfl rfl (by omega) (by omega) (by omega) Tryz.isAgg3) rfl ?_
  refine Wh.rd (v := .pointer (some ⟨g_8, 0 + 0, none⟩)) 4 rfl (by kernel_rfl) hS.bel (rd_fieldAddr (o := 0) rfl foGk_52_0) rfl ?_
  refine Wh.rd (v := .int .i64 (ix 0 (tabV ls) 0)) 5 rfl (by kernel_rfl) hS.bel (rd_loadXa (d := 0) (f := (Value.int .i64)) (j := 0) h0 0 rfl rfl (by omega) (by omega) (by omega) Tryz.isAgg3) rfl ?_
  refine Wh.rd (v := .int .i64 ((ix 0 (tabV ls) 0) / 2)) 6 rfl (by kernel_rfl) hS.bel (rd_quo rfl rfl (by omega) (by omega) (in_i64 (by omega) (by omega))) rfl ?_
  refine Wh.rd (v := .int .i64 ((ix 0 (tabV ls) 33) - ((ix 0 (tabV ls) 0) / 2))) 7 rfl (by kernel_rfl) hS.bel (rd_sub rfl rfl (in_i64 (by omega) (by omega))) rfl ?_
  refine Wh.rd (v := .agg (List.map (Value.int .i64) (tabV ls)).toArray) 8 rfl (by kernel_rfl) hS.bel (rd_loadXs (ds := List.map (Value.int .i64) (tabV ls)) h0 0 rfl rfl (by rw [List.drop_zero, List.take_of_length_le (by simp; omega)]) (by simp; omega) Tryz.isAgg52 Tryz.sizeOf52) rfl ?_
  refine Wh.rd (v := .agg (List.map (Value.int .i64) (tabV ls)).toArray) 9 rfl (by kernel_rfl) hS.bel (rd_loadXs (ds := List.map (Value.int .i64) (tabV ls)) h0 0 rfl rfl (by rw [List.drop_zero, List.take_of_length_le (by simp; omega)]) (by simp; omega) Tryz.isAgg52 Tryz.sizeOf52) rfl ?_
  refine Wh.rd (v := .func (.func 15) #[.agg (List.map (Value.int .i64) (tabV ls)).toArray] #[]) 10 rfl (by kernel_rfl) hS.bel (rd_makeFunc (vs := [.agg (List.map (Value.int .i64) (tabV ls)).toArray]) (us := []) rfl rfl) rfl ?_
  refine Wh.br [1] (by kernel_rfl) (by decide) ⟨⟨_, rfl, ?_⟩, trivial⟩
  refine Wx.callF (run_callF Tryz.call13 rfl) (F13 htv (tab_in (ls := ls) p_ok) p_t) rfl ?_
  rintro r_16 w_17 hx_18 rfl
  have hS := hS.ext hx_18
  refine Wx.nil ⟨hS.bel, ?_⟩
  refine Wh.br [11] (by kernel_rfl) (by decide) ⟨⟨_, rfl, ?_⟩, trivial⟩
  refine Wx.callF (run_callF Tryz.call14 rfl) (FCb htv (tab_in (ls := ls) p_ok) htv (tab_in (ls := ls) p_ok) p_t p_p hS.fb_lt (hG.ext (Ext.trans h0.bel hS.bel))) rfl ?_
  rintro r_19 w_20 hx_21 ⟨_, rfl, hv_22⟩
  have hS := hS.pushFrO hx_21 hv_22
  refine Wx.nil ⟨hS.bel, ?_⟩
  refine Wh.br [12] (by kernel_rfl) (by decide) ⟨⟨_, rfl, ?_⟩, trivial⟩
  refine Wx.rd (v := .int .i64 ((cycV (teN (tabV ls)) (alngF (tabV ls))).length : Int)) (rd_lenR hS 0 rfl rfl Tryz.underlying30) rfl ?_
  refine Wx.nil ⟨hS.bel, ?_⟩
  refine Wh.rd (v := .int .i64 (((ix 0 (tabV ls) 33) - ((ix 0 (tabV ls) 0) / 2)) + ((cycV (teN (tabV ls)) (alngF (tabV ls))).length : Int))) 13 rfl (by kernel_rfl) hS.bel (rd_add rfl rfl (in_i64 (by omega) (by omega))) rfl ?_
  refine Wh.rd (v := .int .i64 ((((ix 0 (tabV ls) 33) - ((ix 0 (tabV ls) 0) / 2)) + ((cycV (teN (tabV ls)) (alngF (tabV ls))).length : Int)) / 2)) 14 rfl (by kernel_rfl) hS.bel (rd_quo rfl rfl (by omega) (by omega) (in_i64 (by omega) (by omega))) rfl ?_
  refine Wh.rd (v := .int .i64 ((partT (tabV ls)) - ((((ix 0 (tabV ls) 33) - ((ix 0 (tabV ls) 0) / 2)) + ((cycV (teN (tabV ls)) (alngF (tabV ls))).length : Int)) / 2))) 15 rfl (by kernel_rfl) hS.bel (rd_sub rfl rfl (in_i64 (by omega) (by omega))) rfl ?_
  refine Wh.rd (v := .int .i64 ((partT (tabV ls)) - ((((ix 0 (tabV ls) 33) - ((ix 0 (tabV ls) 0) / 2)) + ((cycV (teN (tabV ls)) (alngF (tabV ls))).length : Int)) / 2))) 16 rfl (by kernel_rfl) hS.bel (rd_assign rfl) rfl ?_
  refine Wh.rd (v := .int .i64 0) 17 rfl (by kernel_rfl) hS.bel (rd_assign rfl) rfl ?_
  refine Wh.done (by kernel_rfl) ?_
  have hS := h0.merge hS
  have e0_0 : (genT (tabV ls)) = ((partT (tabV ls)) - ((((ix 0 (tabV ls) 33) - ((ix 0 (tabV ls) 0) / 2)) + ((cycV (teN (tabV ls)) (alngF (tabV ls))).length : Int)) / 2) : Int) := by rfl
  exact W.ret ⟨.tuple #[.int .i64 ((partT (tabV ls)) - ((((ix 0 (tabV ls) 33) - ((ix 0 (tabV ls) 0) / 2)) + ((cycV (teN (tabV ls)) (alngF (tabV ls))).length : Int)) / 2)), .int .i64 0], ResIs.two, hS.bel, (by rw [e0_0])⟩
end Go.Proofs.YtdpdlplkngggoaaGreatDoor

namespace Go.Proofs.YtdpdlplkngggoaaGreatDoor
open Go.Wk Go.RowKit Go.Lib
set_option linter.unusedVariables false
set_option linter.unusedSimpArgs false
theorem elVe_25 : ElemI Tryz.prog 25 3 (.int .i64 0) 1 8 := ElemI.of Tryz.underlying25 (by kernel_rfl) (by first | rfl | kernel_rfl) (by decide)
theorem elVe_30 : ElemI Tryz.prog 30 25 ((.slice none 0 0)) 1 24 := ElemI.of Tryz.underlying30 (by kernel_rfl) (by first | rfl | kernel_rfl) (by decide)

set_option maxHeartbeats 2000000 in
theorem F11  {w : World} (hG : Laid w) : Calls Tryz.prog 11 #[] w (Ret w (fun r _ => r = .bool true)) := by
  have hS := St.start0 w
  refine enterR Tryz.func11 rfl Tryz.ntmps11 Tryz.results11 rfl ?_
  refine W.seq ?_
  refine W.reg ?_
  refine Wx.rd (v := .bool false) (rd_assign rfl) rfl ?_
  refine Wx.nil ?_
  refine W.seq ?_
  refine W.reg ?_
  refine Wx.lit (t := (tI .i64)) (ys := [0, 2, 1, 3]) (vs := [.int .i64 0, .int .i64 2, .int .i64 1, .int .i64 3]) elVe_25 hS rfl rfl ⟨(V.mkInt (in_i64 (by omega) (by omega))), ⟨(V.mkInt (in_i64 (by omega) (by omega))), ⟨(V.mkInt (in_i64 (by omega) (by omega))), ⟨(V.mkInt (in_i64 (by omega) (by omega))), trivial⟩⟩⟩⟩ (by decide) rfl (fun v_1 w_2 hx_3 hS => ?_)
  have hS := hS.freeze 0 rfl
  refine Wx.lit (t := (tSl (tI .i64))) (ys := [[0, 2, 1, 3]]) (vs := [v_1]) elVe_30 hS rfl rfl ⟨(hS.v 0 rfl), trivial⟩ (by decide) rfl (fun v_5 w_6 hx_7 hS => ?_)
  refine Wx.rd (v := .agg #[v_5]) (rd_buildC (vs := [(0, v_5)]) (us := [(0, .agg #[v_5])]) rfl (parts_cons (Go.Wk.cells_one (hS.rowOne 0 rfl)) parts_nil) (by kernel_rfl)) rfl ?_
  refine Wx.callF (run_callF Tryz.call4 rfl) (F4 (hS.lend 0 rfl) good_0.o good_0.t good_0.b gen_0.1 gen_0.2 (hG.ext hS.bel)) rfl ?_
  rintro r_8 w_9 hx_10 rfl
  have hS := hS.ext hx_10
  refine Wx.rd (v := .tuple #[.int .i64 (genT (tabV [[0, 2, 1, 3]])), .int .i64 0]) (rd_move rfl) rfl ?_
  refine Wx.rd (v := .int .i64 (genT (tabV [[0, 2, 1, 3]]))) (rd_extract rfl rfl) rfl ?_
  refine Wx.rd (v := .int .i64 0) (rd_extract rfl rfl) rfl ?_
  refine Wx.rd (v := .int .i64 (genT (tabV [[0, 2, 1, 3]]))) (rd_assign rfl) rfl ?_
  refine Wx.rd (v := .int .i64 0) (rd_assign rfl) rfl ?_
  refine Wx.nil ?_
  refine W.seq ?_
  refine W.reg ?_
  refine Wx.rd (v := .int .i64 0) (rd_move rfl) rfl ?_
  refine Wx.rd (v := .bool true) (Rd.to (v := .bool (decide ((0 : Int) = 0))) (rd_eql rfl rfl) rfl) rfl ?_
  refine Wx.rd (v := .bool true) (rd_move rfl) rfl ?_
  refine Wx.gyes rfl rfl rfl ?_
  refine Wx.rd (v := .int .i64 (genT (tabV [[0, 2, 1, 3]]))) (rd_move rfl) rfl ?_
  refine Wx.gyes rfl rfl rfl ?_
  refine Wx.rd (v := .bool true) (Rd.to (v := .bool (decide ((genT (tabV [[0, 2, 1, 3]])) = 1))) (rd_eql rfl rfl) (congrArg (Value.bool) (show (true : Bool) = (decide ((genT (tabV [[0, 2, 1, 3]])) = 1) : Bool) from (by decide +kernel)).symm)) rfl ?_
  refine Wx.rd (v := .bool true) (rd_pickT rfl rfl) rfl ?_
  refine Wx.rd (v := .bool true) (rd_move rfl) rfl ?_
  refine Wx.gyes rfl rfl rfl ?_
  refine Wx.callF (run_callF Tryz.call25 rfl) (F25 (hG.ext hS.bel)) rfl ?_
  rintro r_11 w_12 hx_13 rfl
  have hS := hS.ext hx_13
  refine Wx.rd (v := .bool true) (rd_pickT rfl rfl) rfl ?_
  refine Wx.rd (v := .bool true) (rd_assign rfl) rfl ?_
  refine Wx.nil ?_
  exact W.ret ⟨.bool true, ResIs.one, hS.bel, rfl⟩
end Go.Proofs.YtdpdlplkngggoaaGreatDoor

namespace Go.Proofs.YtdpdlplkngggoaaGreatDoor
open Go.Wk Go.RowKit Go.Lib
set_option linter.unusedVariables false
set_option linter.unusedSimpArgs false
theorem foGl_52_3 : fldOff Tryz.prog 52 3 = some 33 := by kernel_rfl
theorem elGl_60 : ElemI Tryz.prog 60 63 (.int .u32 0) 1 4 := ElemI.of Tryz.underlying60 (by kernel_rfl) (by first | rfl | kernel_rfl) (by decide)
theorem foGl_52_0 : fldOff Tryz.prog 52 0 = some 0 := by kernel_rfl
theorem mixedGl_ : Tryz.prog.follows .mixedOrders = true := by kernel_rfl
theorem foGl_52_2 : fldOff Tryz.prog 52 2 = some 17 := by kernel_rfl

set_option maxHeartbeats 1000000 in
theorem F18 {ts : List Int} {O : List (Option Nat)} {w : World} (n_ts : ts.length = 34) (i_ts : ∀ z ∈ ts, InK .i64 z) (p_ok : TblOK ts) (hO : ∀ b, some b ∈ O → b < w.heap.size) (hG : Laid w) : Calls Tryz.prog 18 #[.agg (List.map (Value.int .i64) ts).toArray] w (Ret w (fun r w' => ∃ rv, r = rv ∧ Fresh (tI .u32) 63 (nearV ts) rv w.heap.size w')) := by
  obtain ⟨tl, tn, ⟨te, te2⟩, tp⟩ := id p_ok
  have he_ : teN ts = ix 0 ts 0 := rfl
  have hn_ : tnN ts = ix 0 ts 33 := rfl
  obtain ⟨_, _, x_0⟩ := hG.oth
  have hS := St.start w O hO
  refine enterR Tryz.func18 rfl Tryz.ntmps18 Tryz.results18 rfl ?_
  refine W.seq ?_
  refine W.reg ?_
  refine Wx.box (cs := List.map (Value.int .i64) ts) hS rfl rfl rfl (fun g_1 w_2 hx_4 hb_3 hS => ?_)
  refine Wx.rd (v := (.slice none 0 0)) (rd_assign rfl) rfl ?_
  refine Wx.nil ?_
  refine W.seq ?_
  refine W.reg ?_
  refine Wx.rd (v := .pointer (some ⟨g_1, 0 + 33, none⟩)) (rd_fieldAddr (o := 0) rfl foGl_52_3) rfl ?_
  have bz_5 := ix_i64 i_ts 33
  refine Wx.rd (v := .int .i64 (ix 0 ts 33)) (rd_loadXa (d := 0) (f := (Value.int .i64)) (j := 33) hS 0 rfl rfl (by omega) (by omega) (by omega) Tryz.isAgg3) rfl ?_
  refine Wx.make (t := (tI .u32)) (zy := (0 : Int)) (m := ((tnN ts).toNat)) elGl_60 rfl rfl (fun _ _ => ⟨rfl, by decide, by decide⟩) hS (congrArg (Value.int .i64) (by omega)) (congrArg (Value.int .i64) (by omega)) (by omega) (by simp only [maxLen]; omega) rfl (fun v_6 w_7 hx_8 hS => ?_)
  refine Wx.rd (v := v_6) (rd_assign rfl) rfl ?_
  refine Wx.nil ?_
  refine W.seq ?_
  refine W.seq ?_
  refine W.reg ?_
  refine Wx.rd (v := .pointer (some ⟨g_1, 0 + 0, none⟩)) (rd_fieldAddr (o := 0) rfl foGl_52_0) rfl ?_
  have bz_11 := ix_i64 i_ts 0
  refine Wx.rd (v := .int .i64 (ix 0 ts 0)) (rd_loadXa (d := 0) (f := (Value.int .i64)) (j := 0) hS 1 rfl rfl (by omega) (by omega) (by omega) Tryz.isAgg3) rfl ?_
  refine Wx.rd (v := .int .i64 0) (rd_move rfl) rfl ?_
  refine Wx.nil ?_
  refine W.block ?_
  refine W.loop [4, 10, 11, 12, 13, 14, 15, 16, 17, 18, 19, 20, 21, 22, 23, 24, 25, 26, 27, 28, 29] (fun x : Int × (List Int) => match x with | (k, out) => [(10, .int .i64 k)]) (fun (x : Int × (List Int)) w' => match x with | (k, out) => St w O w' [.row (tI .u32) 63 v_6 out, .box g_1 52 (List.map (Value.int .i64) ts)] ∧ 0 ≤ k ∧ k ≤ teN ts ∧ out = nearK ts k ∧ (out.length : Int) = tnN ts) (fun x : Int × (List Int) => match x with | (k, out) => (teN ts - k).toNat) (0, List.replicate ((tnN ts).toNat) (0 : Int)) ⟨rfl, trivial⟩ ⟨hS, (by first | omega | simp), (by first | omega | simp), (rfl), (by rw [List.length_replicate]; omega)⟩ ?_
  rintro ⟨k, out⟩ u_13 w_12 ⟨hS, h0, h1, h2, h3⟩
  refine W.seq ?_
  refine W.reg ?_
  refine Wx.rd (v := .bool (decide (k < (ix 0 ts 0)))) (rd_lss rfl rfl) rfl ?_
  refine Wx.nil ?_
  refine W.seq ?_
  refine W.condD rfl (fun c0 => ?_) (fun c0 => ?_)
  · -- yes
    have hob := oth_in te2 te.2 h0 (show k < teN ts by omega)
    have hp0 := tp k h0 (by omega)
    have hp1 := tp (ix 0 othL k) hob.1 hob.2
    have hq0 : tpF ts k = ix 0 ts (17 + k) := rfl
    have hq1 : tpF ts (ix 0 othL k) = ix 0 ts (17 + ix 0 othL k) := rfl
    refine W.skip ?_
    refine W.seq ?_
    refine W.block ?_
    refine W.seq ?_
    refine W.reg ?_
    refine Wx.rd (v := .int .i64 k) (rd_move rfl) rfl ?_
    refine Wx.rd (v := .int .i64 k) (rd_assign rfl) rfl ?_
    refine Wx.nil ?_
    refine W.regT 16 mixedGl_ (by kernel_rfl) ?_
    refine Wx.rd (v := v_6) (rd_move rfl) rfl ?_
    refine Wx.rd (v := .int .i64 k) (rd_move rfl) rfl ?_
    refine Wx.rd (v := .pointer (some ⟨g_1, 0 + 17, none⟩)) (rd_fieldAddr (o := 0) rfl foGl_52_2) rfl ?_
    refine Wx.rd (v := .pointer (some ⟨g_1, 0 + 17 + k.toNat * 1, none⟩)) (rd_indexArr rfl rfl Tryz.underlying50 Tryz.sizeOf3 (by omega) (by omega)) rfl ?_
    have bz_14 := ix_i64 i_ts (17 + k)
    refine Wx.rd (v := .int .i64 (ix 0 ts (17 + k))) (rd_loadXa (d := 0) (f := (Value.int .i64)) (j := 17 + k) hS 1 rfl rfl (by omega) (by omega) (by omega) Tryz.isAgg3) rfl ?_
    refine Wx.indexR hS 0 rfl rfl rfl Tryz.underlying60 Tryz.sizeOf63 (by first | omega | (simp only [List.length_set, List.length_append, List.length_cons, List.length_nil, List.length_replicate]; omega)) (by first | omega | (simp only [List.length_set, List.length_append, List.length_cons, List.length_nil, List.length_replicate]; omega)) rfl (fun g_15 hg_16 => ?_)
    refine Wx.rd (v := .int .u32 (ix 0 out (ix 0 ts (17 + k)))) (rd_loadRI' hS 0 rfl hg_16 rfl (by first | omega | (simp only [List.length_set, List.length_append, List.length_cons, List.length_nil, List.length_replicate]; omega)) (by first | omega | (simp only [List.length_set, List.length_append, List.length_cons, List.length_nil, List.length_replicate]; omega)) Tryz.isAgg63 Tryz.sizeOf63) rfl ?_
    have bd_17 := bd_u32 (hS.rowInK' 0 rfl (by first | omega | (simp only [List.length_set, List.length_append, List.length_cons, List.length_nil, List.length_replicate]; omega)) (by first | omega | (simp only [List.length_set, List.length_append, List.length_cons, List.length_nil, List.length_replicate]; omega)) : InK .u32 (ix 0 out (ix 0 ts (17 + k))))
    refine Wx.rd (v := .int .i64 k) (rd_move rfl) rfl ?_
    refine Wx.rd (v := .pointer (some ⟨0, 0 + k.toNat * 1, none⟩)) (rd_indexArr (o := 0) rfl rfl Tryz.underlying49 Tryz.sizeOf3 (by omega) (by omega)) rfl ?_
    refine Wx.rd (v := .int .i64 (ix 0 othL k)) (rd_loadOA x_0 hS.bel rfl (by omega) (by rw [oth_len]; omega) Tryz.isAgg3) rfl ?_
    refine Wx.rd (v := .pointer (some ⟨g_1, 0 + 17, none⟩)) (rd_fieldAddr (o := 0) rfl foGl_52_2) rfl ?_
    refine Wx.rd (v := .pointer (some ⟨g_1, 0 + 17 + (ix 0 othL k).toNat * 1, none⟩)) (rd_indexArr rfl rfl Tryz.underlying50 Tryz.sizeOf3 (by omega) (by omega)) rfl ?_
    have bz_18 := ix_i64 i_ts (17 + (ix 0 othL k))
    refine Wx.rd (v := .int .i64 (ix 0 ts (17 + (ix 0 othL k)))) (rd_loadXa (d := 0) (f := (Value.int .i64)) (j := 17 + (ix 0 othL k)) hS 1 rfl rfl (by omega) (by omega) (by omega) Tryz.isAgg3) rfl ?_
    refine Wx.rd (v := .int .u32 (IntKind.u32.wrap (1 * 2 ^ min (ix 0 ts (17 + (ix 0 othL k))).toNat (IntKind.u32).bits))) (rd_shl rfl rfl (by omega)) rfl ?_
    have bd_19 := bd_u32 (wrap_inK .u32 (1 * 2 ^ min (ix 0 ts (17 + (ix 0 othL k))).toNat (IntKind.u32).bits))
    refine Wx.rd (v := .int .u32 (bits .or .u32 (ix 0 out (ix 0 ts (17 + k))) (IntKind.u32.wrap (1 * 2 ^ min (ix 0 ts (17 + (ix 0 othL k))).toNat (IntKind.u32).bits)))) (rd_or rfl rfl) rfl ?_
    have bd_20 := bd_u32 (bits_in .or .u32 (ix 0 out (ix 0 ts (17 + k))) (IntKind.u32.wrap (1 * 2 ^ min (ix 0 ts (17 + (ix 0 othL k))).toNat (IntKind.u32).bits)))
    refine Wx.indexR hS 0 rfl rfl rfl Tryz.underlying60 Tryz.sizeOf63 (by first | omega | (simp only [List.length_set, List.length_append, List.length_cons, List.length_nil, List.length_replicate]; omega)) (by first | omega | (simp only [List.length_set, List.length_append, List.length_cons, List.length_nil, List.length_replicate]; omega)) rfl (fun g_21 hg_22 => ?_)
    refine Wx.nilQ (fun w_23 hx_24 => ?_)
    have hS := hS.ext hx_24
    refine Wx.storeR (j := (ix 0 ts (17 + k)).toNat) (z := bits .or .u32 (ix 0 out (ix 0 ts (17 + k))) (IntKind.u32.wrap (1 * 2 ^ min (ix 0 ts (17 + (ix 0 othL k))).toNat (IntKind.u32).bits))) hS 0 rfl hg_22 rfl (by first | omega | (simp only [List.length_set, List.length_append, List.length_cons, List.length_nil, List.length_replicate]; omega)) rfl (V.mkInt (in_u32 (by omega) (by omega))) Tryz.sizeOf63 (fun w_25 hz_26 hS => ?_)
    refine Wx.nil ?_
    refine W.reg ?_
    refine Wx.rd (v := .int .i64 (k + 1)) (rd_add rfl rfl (in_i64 (by omega) (by omega))) rfl ?_
    refine Wx.rd (v := .int .i64 (k + 1)) (rd_move rfl) rfl ?_
    refine Wx.nil ?_
    refine ⟨(k + 1, List.set out (ix 0 ts (17 + k)).toNat (bits .or .u32 (ix 0 out (ix 0 ts (17 + k))) (IntKind.u32.wrap (1 * 2 ^ min (ix 0 ts (17 + (ix 0 othL k))).toNat (IntKind.u32).bits)))), (by show (teN ts - (k + 1)).toNat < (teN ts - k).toNat; omega), ?_, ?_, Out.look rfl Out.self⟩
    · exact ⟨hS, (by first | omega | assumption), (by first | omega | assumption), (by rw [nrb_next h0, ← h2]; rfl), (by rw [List.length_set]; exact h3)⟩
    · exact ⟨rfl, trivial⟩
  · -- no
    refine W.exit rfl ?_
    refine W.seq ?_
    refine W.reg ?_
    refine Wx.rd (v := v_6) (rd_move rfl) rfl ?_
    refine Wx.rd (v := v_6) (rd_assign rfl) rfl ?_
    refine Wx.nil ?_
    have e0_0 : nearV ts = out := by rw [h2, show k = teN ts by omega]; rfl
    exact W.ret ⟨v_6, ResIs.one, hS.bel, ⟨v_6, rfl, (by rw [e0_0]; exact (hS.fr 0 rfl flat_int))⟩⟩
end Go.Proofs.YtdpdlplkngggoaaGreatDoor

namespace Go.Proofs.YtdpdlplkngggoaaGreatDoor
open Go.Wk Go.RowKit Go.Lib
set_option linter.unusedVariables false
set_option linter.unusedSimpArgs false


set_option maxHeartbeats 1000000 in
theorem F17 {ts : List Int} {w : World} (n_ts : ts.length = 34) (i_ts : ∀ z ∈ ts, InK .i64 z) (p_ok : TblOK ts) (hG : Laid w) : Calls Tryz.prog 17 #[.agg (List.map (Value.int .i64) ts).toArray] w (Ret w (fun r _ => r = .bool (loopV ts))) := by
  obtain ⟨tl, tn, ⟨te, te2⟩, tp⟩ := id p_ok
  have he_ : teN ts = ix 0 ts 0 := rfl
  have hn_ : tnN ts = ix 0 ts 33 := rfl
  have hnl : ((nearV ts).length : Int) = tnN ts := by rw [nearV, nrb_len]; omega
  have hS := St.start0 w
  refine enterR Tryz.func17 rfl Tryz.ntmps17 Tryz.results17 rfl ?_
  refine W.seq ?_
  refine W.reg ?_
  refine Wx.box (cs := List.map (Value.int .i64) ts) hS rfl rfl rfl (fun g_1 w_2 hx_4 hb_3 hS => ?_)
  refine Wx.rd (v := .bool false) (rd_assign rfl) rfl ?_
  refine Wx.nil ?_
  refine W.seq ?_
  refine W.seq ?_
  refine W.reg ?_
  refine Wx.rd (v := .agg (List.map (Value.int .i64) ts).toArray) (rd_loadXs (ds := List.map (Value.int .i64) ts) hS 0 rfl rfl (by rw [List.drop_zero, List.take_of_length_le (by simp; omega)]) (by simp; omega) Tryz.isAgg52 Tryz.sizeOf52) rfl ?_
  refine Wx.callF (run_callF Tryz.call18 rfl) (F18 n_ts i_ts p_ok hS.fb_lt (hG.ext hS.bel)) rfl ?_
  rintro r_5 w_6 hx_7 ⟨_, rfl, hv_8⟩
  have hS := hS.pushFr hx_7 hv_8
  refine Wx.rd (v := .int .i64 ((nearV ts).length : Int)) (rd_lenR hS 0 rfl rfl Tryz.underlying60) rfl ?_
  refine Wx.rd (v := .int .i64 0) (rd_move rfl) rfl ?_
  refine Wx.nil ?_
  refine W.block ?_
  refine W.loop [2, 3, 4, 8, 9, 10, 11, 12, 13, 14, 15, 16, 17, 18] (fun (k : Int) => [(8, .int .i64 k)]) (fun (k : Int) w' => St w [] w' [.row (tI .u32) 63 r_5 (nearV ts), .box g_1 52 (List.map (Value.int .i64) ts)] ∧ 0 ≤ k ∧ k ≤ tnN ts ∧ ((rng 0 k).any fun p => bitN (ix 0 (nearV ts) p) p) = false) (fun (k : Int) => (tnN ts - k).toNat) 0 ⟨rfl, trivial⟩ ⟨hS, (by first | omega | simp), (by first | omega | simp), (rfl)⟩ ?_
  rintro k u_11 w_10 ⟨hS, h0, h1, h2⟩
  refine W.seq ?_
  refine W.reg ?_
  refine Wx.rd (v := .bool (decide (k < ((nearV ts).length : Int)))) (rd_lss rfl rfl) rfl ?_
  refine Wx.nil ?_
  refine W.seq ?_
  refine W.condD rfl (fun c0 => ?_) (fun c0 => ?_)
  · -- yes
    refine W.skip ?_
    refine W.seq ?_
    refine W.block ?_
    refine W.seq ?_
    refine W.reg ?_
    refine Wx.rd (v := .int .i64 k) (rd_move rfl) rfl ?_
    refine Wx.indexR hS 0 rfl rfl rfl Tryz.underlying60 Tryz.sizeOf63 (by first | omega | (simp only [List.length_set, List.length_append, List.length_cons, List.length_nil, List.length_replicate]; omega)) (by first | omega | (simp only [List.length_set, List.length_append, List.length_cons, List.length_nil, List.length_replicate]; omega)) rfl (fun g_12 hg_13 => ?_)
    refine Wx.rd (v := .int .u32 (ix 0 (nearV ts) k)) (rd_loadRI' hS 0 rfl hg_13 rfl (by first | omega | (simp only [List.length_set, List.length_append, List.length_cons, List.length_nil, List.length_replicate]; omega)) (by first | omega | (simp only [List.length_set, List.length_append, List.length_cons, List.length_nil, List.length_replicate]; omega)) Tryz.isAgg63 Tryz.sizeOf63) rfl ?_
    have bd_14 := bd_u32 (hS.rowInK' 0 rfl (by first | omega | (simp only [List.length_set, List.length_append, List.length_cons, List.length_nil, List.length_replicate]; omega)) (by first | omega | (simp only [List.length_set, List.length_append, List.length_cons, List.length_nil, List.length_replicate]; omega)) : InK .u32 (ix 0 (nearV ts) k))
    refine Wx.rd (v := .int .i64 k) (rd_assign rfl) rfl ?_
    refine Wx.rd (v := .int .u32 (ix 0 (nearV ts) k)) (rd_assign rfl) rfl ?_
    refine Wx.nil ?_
    refine W.seq ?_
    refine W.reg ?_
    refine Wx.rd (v := .int .u32 (ix 0 (nearV ts) k)) (rd_move rfl) rfl ?_
    refine Wx.rd (v := .int .i64 k) (rd_move rfl) rfl ?_
    refine Wx.rd (v := .int .u32 ((ix 0 (nearV ts) k) / 2 ^ min k.toNat (IntKind.u32).bits)) (rd_shr rfl rfl (by omega)) rfl ?_
    refine Wx.rd (v := .int .u32 (bits .and .u32 ((ix 0 (nearV ts) k) / 2 ^ min k.toNat (IntKind.u32).bits) 1)) (rd_and rfl rfl) rfl ?_
    have bd_15 := bd_u32 (bits_in .and .u32 ((ix 0 (nearV ts) k) / 2 ^ min k.toNat (IntKind.u32).bits) 1)
    refine Wx.rd (v := .bool (decide ((bits .and .u32 ((ix 0 (nearV ts) k) / 2 ^ min k.toNat (IntKind.u32).bits) 1) = 1))) (rd_eql rfl rfl) rfl ?_
    refine Wx.nil ?_
    refine W.condD rfl (fun c1 => ?_) (fun c1 => ?_)
    · -- yes
      refine W.seq ?_
      refine W.reg ?_
      refine Wx.rd (v := .bool true) (rd_assign rfl) rfl ?_
      refine Wx.nil ?_
      have e0_0 : (loopV ts) = true := by exact (any_hit (n := tnN ts) (f := fun p => bitN (ix 0 (nearV ts) p) p) h0 (by omega) (decide_eq_true c1))
      exact W.ret ⟨.bool true, ResIs.one, hS.bel, (by rw [e0_0])⟩
    · -- no
      refine W.skip ?_
      refine W.reg ?_
      refine Wx.rd (v := .int .i64 (k + 1)) (rd_add rfl rfl (in_i64 (by omega) (by omega))) rfl ?_
      refine Wx.rd (v := .int .i64 (k + 1)) (rd_move rfl) rfl ?_
      refine Wx.nil ?_
      refine ⟨k + 1, (by show (tnN ts - (k + 1)).toNat < (tnN ts - k).toNat; omega), ?_, ?_, Out.look rfl Out.self⟩
      · exact ⟨hS, (by first | omega | assumption), (by first | omega | assumption), (any_next h0 h2 (decide_eq_false c1))⟩
      · exact ⟨rfl, trivial⟩
  · -- no
    refine W.exit rfl ?_
    refine W.seq ?_
    refine W.reg ?_
    refine Wx.rd (v := .bool false) (rd_assign rfl) rfl ?_
    refine Wx.nil ?_
    have e1_0 : (loopV ts) = false := by rw [loopV, ← show k = tnN ts by omega]; exact h2
    exact W.ret ⟨.bool false, ResIs.one, hS.bel, (by rw [e1_0])⟩
end Go.Proofs.YtdpdlplkngggoaaGreatDoor

namespace Go.Proofs.YtdpdlplkngggoaaGreatDoor
open Go.Wk Go.RowKit Go.Lib
set_option linter.unusedVariables false
set_option linter.unusedSimpArgs false
theorem foGn_52_3 : fldOff Tryz.prog 52 3 = some 33 := by kernel_rfl
theorem elGn_25 : ElemI Tryz.prog 25 3 (.int .i64 0) 1 8 := ElemI.of Tryz.underlying25 (by kernel_rfl) (by first | rfl | kernel_rfl) (by decide)

set_option maxHeartbeats 2000000 in
theorem F26 {ts : List Int} {most : Int} {O : List (Option Nat)} {w : World} (n_ts : ts.length = 34) (i_ts : ∀ z ∈ ts, InK .i64 z) (i_most : InK .i64 most) (p_ok : TblOK ts) (p_n : 1 ≤ tnN ts) (p_m : 1 ≤ most ∧ most ≤ 100) (p_c : ∃ r, colR (nearV ts) (tnN ts) most 50 false 0 (List.replicate (tnN ts).toNat (0 : Int)) = some r) (hO : ∀ b, some b ∈ O → b < w.heap.size) (hG : Laid w) : Calls Tryz.prog 26 #[.agg (List.map (Value.int .i64) ts).toArray, .int .i64 most] w (Ret w (fun r w' => ∃ rv, r = rv ∧ (V (tSl (tI .i64)) (colO ts most) rv O w' ∧ (colO ts most = [] → rv = .slice none 0 0)))) := by
  have b_most := bd_i64 i_most
  obtain ⟨tl, tn, ⟨te, te2⟩, tp⟩ := id p_ok
  have he_ : teN ts = ix 0 ts 0 := rfl
  have hn_ : tnN ts = ix 0 ts 33 := rfl
  obtain ⟨r_, hr_⟩ := p_c
  have hnl : ((nearV ts).length : Int) = tnN ts := by rw [nearV, nrb_len]; omega
  have hci := col_start tn.1 p_m.1 hr_
  have hrl : (List.replicate (tnN ts).toNat (0 : Int)).length = (tnN ts).toNat := List.length_replicate
  have hS := St.start w O hO
  refine enterR Tryz.func26 rfl Tryz.ntmps26 Tryz.results26 rfl ?_
  refine W.seq ?_
  refine W.reg ?_
  refine Wx.box (cs := List.map (Value.int .i64) ts) hS rfl rfl rfl (fun g_1 w_2 hx_4 hb_3 hS => ?_)
  refine Wx.rd (v := (.slice none 0 0)) (rd_assign rfl) rfl ?_
  refine Wx.nil ?_
  refine W.seq ?_
  refine W.reg ?_
  refine Wx.rd (v := .agg (List.map (Value.int .i64) ts).toArray) (rd_loadXs (ds := List.map (Value.int .i64) ts) hS 0 rfl rfl (by rw [List.drop_zero, List.take_of_length_le (by simp; omega)]) (by simp; omega) Tryz.isAgg52 Tryz.sizeOf52) rfl ?_
  refine Wx.callF (run_callF Tryz.call18 rfl) (F18 n_ts i_ts p_ok hS.fb_lt (hG.ext hS.bel)) rfl ?_
  rintro r_5 w_6 hx_7 ⟨_, rfl, hv_8⟩
  have hS := hS.pushFr hx_7 hv_8
  refine Wx.rd (v := r_5) (rd_assign rfl) rfl ?_
  refine Wx.nil ?_
  refine W.seq ?_
  refine W.reg ?_
  refine Wx.rd (v := .pointer (some ⟨g_1, 0 + 33, none⟩)) (rd_fieldAddr (o := 0) rfl foGn_52_3) rfl ?_
  have bz_10 := ix_i64 i_ts 33
  refine Wx.rd (v := .int .i64 (ix 0 ts 33)) (rd_loadXa (d := 0) (f := (Value.int .i64)) (j := 33) hS 1 rfl rfl (by omega) (by omega) (by omega) Tryz.isAgg3) rfl ?_
  refine Wx.make (t := (tI .i64)) (zy := (0 : Int)) (m := ((tnN ts).toNat)) elGn_25 rfl rfl (fun _ _ => ⟨rfl, by decide, by decide⟩) hS (congrArg (Value.int .i64) (by omega)) (congrArg (Value.int .i64) (by omega)) (by omega) (by simp only [maxLen]; omega) rfl (fun v_11 w_12 hx_13 hS => ?_)
  refine Wx.rd (v := v_11) (rd_assign rfl) rfl ?_
  refine Wx.nil ?_
  refine W.seq ?_
  refine W.reg ?_
  obtain ⟨g_16, c_17, rfl, hc_18⟩ := hS.rowForm 0 rfl (by rw [hrl]; omega)
  refine Wx.rd (v := .int .i64 0) (rd_assign rfl) rfl ?_
  refine Wx.nil ?_
  refine W.seq ?_
  refine W.block ?_
  refine W.loop [4, 7, 8, 9, 10, 16, 17, 18, 19, 20, 21, 22, 23, 24, 25, 26, 27, 28, 29, 30, 31, 32, 33, 34, 35, 36, 37, 38, 39, 40, 41, 42, 43, 44, 45, 46, 47, 48, 49, 50, 51, 52, 53, 54, 55, 56, 57, 58, 59, 60, 61, 62, 63, 64, 65, 66, 67, 68, 69, 70, 71, 72, 73, 74, 75, 76, 77, 78, 79, 80, 81, 82, 83, 84, 85] (fun x : Int × (List Int) × Nat => match x with | (p, out, n) => [(7, .int .i64 p)]) (fun (x : Int × (List Int) × Nat) w' => match x with | (p, out, n) => St w O w' [.row (tI .i64) 3 (.slice (some ⟨g_16, 0, none⟩) (List.replicate ((tnN ts).toNat) (0 : Int)).length c_17) out, .row (tI .u32) 63 r_5 (nearV ts), .box g_1 52 (List.map (Value.int .i64) ts)] ∧ ColI ts most r_ false n p out) (fun x : Int × (List Int) × Nat => match x with | (p, out, n) => n) (0, List.replicate ((tnN ts).toNat) (0 : Int), 50) ⟨rfl, trivial⟩ ⟨hS, (hci)⟩ ?_
  rintro ⟨p, out, n⟩ u_20 w_19 ⟨hS, h2⟩
  refine W.seq ?_
  refine W.seq ?_
  refine W.reg ?_
  refine Wx.rd (v := .int .i64 p) (rd_move rfl) rfl ?_
  refine Wx.rd (v := .pointer (some ⟨g_1, 0 + 33, none⟩)) (rd_fieldAddr (o := 0) rfl foGn_52_3) rfl ?_
  have bz_21 := ix_i64 i_ts 33
  refine Wx.rd (v := .int .i64 (ix 0 ts 33)) (rd_loadXa (d := 0) (f := (Value.int .i64)) (j := 33) hS 2 rfl rfl (by omega) (by omega) (by omega) Tryz.isAgg3) rfl ?_
  refine Wx.rd (v := .bool (decide (p < (ix 0 ts 33)))) (rd_lss rfl rfl) rfl ?_
  refine Wx.nil ?_
  refine W.condD rfl (fun c0 => ?_) (fun c0 => ?_)
  · -- yes
    have hp1 : p < tnN ts := by omega
    have hol := h2.l
    have hp0 := h2.p0
    have hpb := h2.b p hp0 hp1
    refine W.skip ?_
    refine W.block ?_
    refine W.seq ?_
    refine W.reg ?_
    refine Wx.rd (v := .bool false) (rd_assign rfl) rfl ?_
    refine Wx.nil ?_
    refine W.seq ?_
    refine W.seq ?_
    refine W.reg ?_
    refine Wx.rd (v := (.slice (some ⟨g_16, 0, none⟩) (List.replicate ((tnN ts).toNat) (0 : Int)).length c_17)) (rd_move rfl) rfl ?_
    refine Wx.rd (v := .int .i64 p) (rd_move rfl) rfl ?_
    refine Wx.rd (v := .slice (some ⟨g_16, 0, none⟩) p.toNat c_17) (rd_headO Tryz.underlying25 Tryz.sizeOf3 rfl rfl (by omega) (by omega)) rfl ?_
    refine Wx.rd (v := .int .i64 ((p.toNat : Nat) : Int)) (rd_len rfl Tryz.underlying25) rfl ?_
    refine Wx.rd (v := .int .i64 0) (rd_move rfl) rfl ?_
    refine Wx.nil ?_
    refine W.block ?_
    refine W.loop [8, 9, 10, 24, 25, 26, 27, 28, 29, 30, 31, 32, 33, 34, 35, 36, 37, 38, 39, 40, 41, 42, 43, 44, 45, 46, 47, 48] (fun x : Bool × Int => match x with | (b, q) => [(8, .bool b), (24, .int .i64 q)]) (fun (x : Bool × Int) w' => match x with | (b, q) => St w O w' [.row (tI .i64) 3 (.slice (some ⟨g_16, 0, none⟩) (List.replicate ((tnN ts).toNat) (0 : Int)).length c_17) out, .row (tI .u32) 63 r_5 (nearV ts), .box g_1 52 (List.map (Value.int .i64) ts)] ∧ 0 ≤ q ∧ q ≤ p ∧ b = clashV (nearV ts) out p q) (fun x : Bool × Int => match x with | (b, q) => (p - q).toNat) (false, 0) ⟨rfl, rfl, trivial⟩ ⟨hS, (by first | omega | simp), (by first | omega | simp), (rfl)⟩ ?_
    rintro ⟨b, q⟩ u_23 w_22 ⟨hS, k0, k1, k2⟩
    refine W.seq ?_
    refine W.reg ?_
    refine Wx.rd (v := .bool (decide (q < ((p.toNat : Nat) : Int)))) (rd_lss rfl rfl) rfl ?_
    refine Wx.nil ?_
    refine W.seq ?_
    refine W.condD rfl (fun c1 => ?_) (fun c1 => ?_)
    · -- yes
      refine W.skip ?_
      refine W.seq ?_
      refine W.block ?_
      refine W.seq ?_
      refine W.reg ?_
      refine Wx.rd (v := .int .i64 q) (rd_move rfl) rfl ?_
      refine Wx.rd (v := .pointer (some ⟨g_16, q.toNat * 1, none⟩)) (rd_indexO Tryz.underlying25 Tryz.sizeOf3 rfl rfl (by first | omega | (simp only [List.length_set, List.length_append, List.length_cons, List.length_nil, List.length_replicate]; omega)) (by first | omega | (simp only [List.length_set, List.length_append, List.length_cons, List.length_nil, List.length_replicate]; omega))) rfl ?_
      refine Wx.rd (v := .int .i64 (ix 0 out q)) (rd_loadRI' hS 0 rfl rfl rfl (by first | omega | (simp only [List.length_set, List.length_append, List.length_cons, List.length_nil, List.length_replicate]; omega)) (by first | omega | (simp only [List.length_set, List.length_append, List.length_cons, List.length_nil, List.length_replicate]; omega)) Tryz.isAgg3 Tryz.sizeOf3) rfl ?_
      have bd_24 := bd_i64 (hS.rowInK' 0 rfl (by first | omega | (simp only [List.length_set, List.length_append, List.length_cons, List.length_nil, List.length_replicate]; omega)) (by first | omega | (simp only [List.length_set, List.length_append, List.length_cons, List.length_nil, List.length_replicate]; omega)) : InK .i64 (ix 0 out q))
      refine Wx.rd (v := .int .i64 q) (rd_assign rfl) rfl ?_
      refine Wx.rd (v := .int .i64 (ix 0 out q)) (rd_assign rfl) rfl ?_
      refine Wx.nil ?_
      refine W.reg ?_
      refine Wx.rd (v := .bool b) (rd_move rfl) rfl ?_
      refine Wx.rd (v := .bool b) (rd_move rfl) rfl ?_
      refine Wx.cut (X := Unit) 17 [31, 32, 33, 34, 35, 36, 37, 38, 39, 40, 41, 42, 43, 44, 45, 46, 47] (fun _ => [(47, .bool (b || (decide ((ix 0 out q) = (ix 0 out p)) && decide ((bits .and .u32 ((ix 0 (nearV ts) p) / 2 ^ min q.toNat (IntKind.u32).bits) 1) = 1))))]) (fun _ w' => St w O w' [.row (tI .i64) 3 (.slice (some ⟨g_16, 0, none⟩) (List.replicate ((tnN ts).toNat) (0 : Int)).length c_17) out, .row (tI .u32) 63 r_5 (nearV ts), .box g_1 52 (List.map (Value.int .i64) ts)]) ?_ ?_
      · rcases Bool.eq_false_or_eq_true b with g_25 | g_25
        · -- True
          have gp_26 := g_25
          try simp only [Bool.and_eq_true, Bool.or_eq_true, Bool.not_eq_true', Bool.and_eq_false_iff, Bool.or_eq_false_iff, Bool.not_eq_false', decide_eq_true_eq, decide_eq_false_iff_not, not_or, Bool.false_eq_true, Bool.true_eq_false, false_or, or_false, not_false_eq_true] at gp_26
          refine Wx.gnoB rfl rfl (congrArg Value.bool g_25) rfl rfl ?_
          refine Wx.gnoB rfl rfl (congrArg Value.bool g_25) rfl rfl ?_
          refine Wx.gnoB rfl rfl (congrArg Value.bool g_25) rfl rfl ?_
          refine Wx.gnoB rfl rfl (congrArg Value.bool g_25) rfl rfl ?_
          refine Wx.gnoB rfl rfl (congrArg Value.bool g_25) rfl rfl ?_
          refine Wx.gnoB rfl rfl (congrArg Value.bool g_25) rfl rfl ?_
          refine Wx.gnoB rfl rfl (congrArg Value.bool g_25) rfl rfl ?_
          refine Wx.gno rfl rfl rfl rfl ?_
          refine Wx.gno rfl rfl rfl rfl ?_
          refine Wx.gno rfl rfl rfl rfl ?_
          refine Wx.gno rfl rfl rfl rfl ?_
          refine Wx.gno rfl rfl rfl rfl ?_
          refine Wx.gno rfl rfl rfl rfl ?_
          refine Wx.gno rfl rfl rfl rfl ?_
          refine Wx.gno rfl rfl rfl rfl ?_
          refine Wx.gnoB rfl rfl (congrArg Value.bool g_25) rfl rfl ?_
          refine Wx.rd (v := .bool true) (rd_pickT (congrArg Value.bool g_25) rfl) rfl ?_
          refine Wx.nil ⟨(), hS, ⟨?_, trivial⟩, Out.look rfl Out.refl⟩
          show Value.bool true = Value.bool (b || (decide ((ix 0 out q) = (ix 0 out p)) && decide ((bits .and .u32 ((ix 0 (nearV ts) p) / 2 ^ min q.toNat (IntKind.u32).bits) 1) = 1)))
          first | rw [g_25, Bool.true_or] | (rw [g_25]; rfl)
        · -- False
          have gp_27 := g_25
          try simp only [Bool.and_eq_true, Bool.or_eq_true, Bool.not_eq_true', Bool.and_eq_false_iff, Bool.or_eq_false_iff, Bool.not_eq_false', decide_eq_true_eq, decide_eq_false_iff_not, not_or, Bool.false_eq_true, Bool.true_eq_false, false_or, or_false, not_false_eq_true] at gp_27
          refine Wx.gyes rfl rfl (congrArg Value.bool g_25) ?_
          refine Wx.rd (v := .int .i64 (ix 0 out q)) (rd_move rfl) rfl ?_
          refine Wx.gyes rfl rfl (congrArg Value.bool g_25) ?_
          refine Wx.rd (v := (.slice (some ⟨g_16, 0, none⟩) (List.replicate ((tnN ts).toNat) (0 : Int)).length c_17)) (rd_move rfl) rfl ?_
          refine Wx.gyes rfl rfl (congrArg Value.bool g_25) ?_
          refine Wx.rd (v := .int .i64 p) (rd_move rfl) rfl ?_
          refine Wx.gyes rfl rfl (congrArg Value.bool g_25) ?_
          refine Wx.rd (v := .pointer (some ⟨g_16, p.toNat * 1, none⟩)) (rd_indexO Tryz.underlying25 Tryz.sizeOf3 rfl rfl (by first | omega | (simp only [List.length_set, List.length_append, List.length_cons, List.length_nil, List.length_replicate]; omega)) (by first | omega | (simp only [List.length_set, List.length_append, List.length_cons, List.length_nil, List.length_replicate]; omega))) rfl ?_
          refine Wx.gyes rfl rfl (congrArg Value.bool g_25) ?_
          refine Wx.rd (v := .int .i64 (ix 0 out p)) (rd_loadRI' hS 0 rfl rfl rfl (by first | omega | (simp only [List.length_set, List.length_append, List.length_cons, List.length_nil, List.length_replicate]; omega)) (by first | omega | (simp only [List.length_set, List.length_append, List.length_cons, List.length_nil, List.length_replicate]; omega)) Tryz.isAgg3 Tryz.sizeOf3) rfl ?_
          have bd_28 := bd_i64 (hS.rowInK' 0 rfl (by first | omega | (simp only [List.length_set, List.length_append, List.length_cons, List.length_nil, List.length_replicate]; omega)) (by first | omega | (simp only [List.length_set, List.length_append, List.length_cons, List.length_nil, List.length_replicate]; omega)) : InK .i64 (ix 0 out p))
          refine Wx.gyes rfl rfl (congrArg Value.bool g_25) ?_
          refine Wx.rd (v := .bool (decide ((ix 0 out q) = (ix 0 out p)))) (rd_eql rfl rfl) rfl ?_
          refine Wx.gyes rfl rfl (congrArg Value.bool g_25) ?_
          refine Wx.rd (v := .bool (decide ((ix 0 out q) = (ix 0 out p)))) (rd_move rfl) rfl ?_
          refine Wx.cut (X := Unit) 9 [38, 39, 40, 41, 42, 43, 44, 45, 46] (fun _ => [(46, .bool (decide ((ix 0 out q) = (ix 0 out p)) && decide ((bits .and .u32 ((ix 0 (nearV ts) p) / 2 ^ min q.toNat (IntKind.u32).bits) 1) = 1)))]) (fun _ w' => St w O w' [.row (tI .i64) 3 (.slice (some ⟨g_16, 0, none⟩) (List.replicate ((tnN ts).toNat) (0 : Int)).length c_17) out, .row (tI .u32) 63 r_5 (nearV ts), .box g_1 52 (List.map (Value.int .i64) ts)]) ?_ ?_
          · rcases Bool.eq_false_or_eq_true (decide ((ix 0 out q) = (ix 0 out p))) with g_29 | g_29
            · -- True
              have gp_30 := of_decide_eq_true g_29
              refine Wx.gyes rfl rfl (congrArg Value.bool g_29) ?_
              refine Wx.rd (v := r_5) (rd_move rfl) rfl ?_
              refine Wx.gyes rfl rfl (congrArg Value.bool g_29) ?_
              refine Wx.rd (v := .int .i64 p) (rd_move rfl) rfl ?_
              refine Wx.gyes rfl rfl (congrArg Value.bool g_29) ?_
              refine Wx.indexR hS 1 rfl rfl rfl Tryz.underlying60 Tryz.sizeOf63 (by first | omega | (simp only [List.length_set, List.length_append, List.length_cons, List.length_nil, List.length_replicate]; omega)) (by first | omega | (simp only [List.length_set, List.length_append, List.length_cons, List.length_nil, List.length_replicate]; omega)) rfl (fun g_31 hg_32 => ?_)
              refine Wx.gyes rfl rfl (congrArg Value.bool g_29) ?_
              refine Wx.rd (v := .int .u32 (ix 0 (nearV ts) p)) (rd_loadRI' hS 1 rfl hg_32 rfl (by first | omega | (simp only [List.length_set, List.length_append, List.length_cons, List.length_nil, List.length_replicate]; omega)) (by first | omega | (simp only [List.length_set, List.length_append, List.length_cons, List.length_nil, List.length_replicate]; omega)) Tryz.isAgg63 Tryz.sizeOf63) rfl ?_
              have bd_33 := bd_u32 (hS.rowInK' 1 rfl (by first | omega | (simp only [List.length_set, List.length_append, List.length_cons, List.length_nil, List.length_replicate]; omega)) (by first | omega | (simp only [List.length_set, List.length_append, List.length_cons, List.length_nil, List.length_replicate]; omega)) : InK .u32 (ix 0 (nearV ts) p))
              refine Wx.gyes rfl rfl (congrArg Value.bool g_29) ?_
              refine Wx.rd (v := .int .i64 q) (rd_move rfl) rfl ?_
              refine Wx.gyes rfl rfl (congrArg Value.bool g_29) ?_
              refine Wx.rd (v := .int .u32 ((ix 0 (nearV ts) p) / 2 ^ min q.toNat (IntKind.u32).bits)) (rd_shr rfl rfl (by omega)) rfl ?_
              refine Wx.gyes rfl rfl (congrArg Value.bool g_29) ?_
              refine Wx.rd (v := .int .u32 (bits .and .u32 ((ix 0 (nearV ts) p) / 2 ^ min q.toNat (IntKind.u32).bits) 1)) (rd_and rfl rfl) rfl ?_
              have bd_34 := bd_u32 (bits_in .and .u32 ((ix 0 (nearV ts) p) / 2 ^ min q.toNat (IntKind.u32).bits) 1)
              refine Wx.gyes rfl rfl (congrArg Value.bool g_29) ?_
              refine Wx.rd (v := .bool (decide ((bits .and .u32 ((ix 0 (nearV ts) p) / 2 ^ min q.toNat (IntKind.u32).bits) 1) = 1))) (rd_eql rfl rfl) rfl ?_
              refine Wx.gyes rfl rfl (congrArg Value.bool g_25) ?_
              refine Wx.rd (v := .bool (decide ((bits .and .u32 ((ix 0 (nearV ts) p) / 2 ^ min q.toNat (IntKind.u32).bits) 1) = 1))) (rd_pickT (congrArg Value.bool g_29) rfl) rfl ?_
              refine Wx.nil ⟨(), hS, ⟨?_, trivial⟩, Out.look rfl Out.refl⟩
              show Value.bool (decide ((bits .and .u32 ((ix 0 (nearV ts) p) / 2 ^ min q.toNat (IntKind.u32).bits) 1) = 1)) = Value.bool (decide ((ix 0 out q) = (ix 0 out p)) && decide ((bits .and .u32 ((ix 0 (nearV ts) p) / 2 ^ min q.toNat (IntKind.u32).bits) 1) = 1))
              first | rw [g_29, Bool.true_and] | (rw [g_29]; rfl)
            · -- False
              have gp_35 := of_decide_eq_false g_29
              refine Wx.gnoB rfl rfl (congrArg Value.bool g_29) rfl rfl ?_
              refine Wx.gnoB rfl rfl (congrArg Value.bool g_29) rfl rfl ?_
              refine Wx.gnoB rfl rfl (congrArg Value.bool g_29) rfl rfl ?_
              refine Wx.gnoB rfl rfl (congrArg Value.bool g_29) rfl rfl ?_
              refine Wx.gnoB rfl rfl (congrArg Value.bool g_29) rfl rfl ?_
              refine Wx.gnoB rfl rfl (congrArg Value.bool g_29) rfl rfl ?_
              refine Wx.gnoB rfl rfl (congrArg Value.bool g_29) rfl rfl ?_
              refine Wx.gnoB rfl rfl (congrArg Value.bool g_29) rfl rfl ?_
              refine Wx.gyes rfl rfl (congrArg Value.bool g_25) ?_
              refine Wx.rd (v := .bool false) (rd_pickF (congrArg Value.bool g_29) rfl) rfl ?_
              refine Wx.nil ⟨(), hS, ⟨?_, trivial⟩, Out.look rfl Out.refl⟩
              show Value.bool false = Value.bool (decide ((ix 0 out q) = (ix 0 out p)) && decide ((bits .and .u32 ((ix 0 (nearV ts) p) / 2 ^ min q.toNat (IntKind.u32).bits) 1) = 1))
              first | rw [g_29, Bool.false_and] | (rw [g_29]; rfl)
          rintro ⟨⟩ u_37 w_36 hS
          refine Wx.rd (v := .bool (decide ((ix 0 out q) = (ix 0 out p)) && decide ((bits .and .u32 ((ix 0 (nearV ts) p) / 2 ^ min q.toNat (IntKind.u32).bits) 1) = 1))) (rd_pickF (congrArg Value.bool g_25) rfl) rfl ?_
          refine Wx.nil ⟨(), hS, ⟨?_, trivial⟩, Out.look rfl (Out.hav rfl (Out.look rfl Out.refl))⟩
          show Value.bool (decide ((ix 0 out q) = (ix 0 out p)) && decide ((bits .and .u32 ((ix 0 (nearV ts) p) / 2 ^ min q.toNat (IntKind.u32).bits) 1) = 1)) = Value.bool (b || (decide ((ix 0 out q) = (ix 0 out p)) && decide ((bits .and .u32 ((ix 0 (nearV ts) p) / 2 ^ min q.toNat (IntKind.u32).bits) 1) = 1)))
          first | rw [g_25, Bool.false_or] | (rw [g_25]; rfl)
      rintro ⟨⟩ u_39 w_38 hS
      refine Wx.rd (v := .bool (b || (decide ((ix 0 out q) = (ix 0 out p)) && decide ((bits .and .u32 ((ix 0 (nearV ts) p) / 2 ^ min q.toNat (IntKind.u32).bits) 1) = 1)))) (rd_assign rfl) rfl ?_
      refine Wx.nil ?_
      refine W.reg ?_
      refine Wx.rd (v := .int .i64 (q + 1)) (rd_add rfl rfl (in_i64 (by omega) (by omega))) rfl ?_
      refine Wx.rd (v := .int .i64 (q + 1)) (rd_move rfl) rfl ?_
      refine Wx.nil ?_
      refine ⟨((b || (decide ((ix 0 out q) = (ix 0 out p)) && decide ((bits .and .u32 ((ix 0 (nearV ts) p) / 2 ^ min q.toNat (IntKind.u32).bits) 1) = 1))), q + 1), (by show (p - (q + 1)).toNat < (p - q).toNat; omega), ?_, ?_, Out.look rfl (Out.hav rfl (Out.look rfl Out.self))⟩
      · exact ⟨hS, (by first | omega | assumption), (by first | omega | assumption), (by rw [clash_next k0, ← k2]; rfl)⟩
      · exact ⟨rfl, rfl, trivial⟩
    · -- no
      have hcl : b = clashV (nearV ts) out p p := by rw [k2, show q = p by omega]
      refine W.exit rfl ?_
      refine W.seq ?_
      refine W.seq ?_
      refine W.reg ?_
      refine Wx.rd (v := .bool b) (rd_move rfl) rfl ?_
      refine Wx.rd (v := .bool (!b)) (rd_not rfl) rfl ?_
      refine Wx.rd (v := .bool (!b)) (rd_move rfl) rfl ?_
      refine Wx.cut (X := Unit) 7 [52, 53, 54, 55, 56, 57, 58] (fun _ => [(58, .bool (!b && decide ((ix 0 out p) < most)))]) (fun _ w' => St w O w' [.row (tI .i64) 3 (.slice (some ⟨g_16, 0, none⟩) (List.replicate ((tnN ts).toNat) (0 : Int)).length c_17) out, .row (tI .u32) 63 r_5 (nearV ts), .box g_1 52 (List.map (Value.int .i64) ts)]) ?_ ?_
      · rcases Bool.eq_false_or_eq_true (!b) with g_40 | g_40
        · -- True
          have gp_41 := g_40
          try simp only [Bool.and_eq_true, Bool.or_eq_true, Bool.not_eq_true', Bool.and_eq_false_iff, Bool.or_eq_false_iff, Bool.not_eq_false', decide_eq_true_eq, decide_eq_false_iff_not, not_or, Bool.false_eq_true, Bool.true_eq_false, false_or, or_false, not_false_eq_true] at gp_41
          refine Wx.gyes rfl rfl (congrArg Value.bool g_40) ?_
          refine Wx.rd (v := (.slice (some ⟨g_16, 0, none⟩) (List.replicate ((tnN ts).toNat) (0 : Int)).length c_17)) (rd_move rfl) rfl ?_
          refine Wx.gyes rfl rfl (congrArg Value.bool g_40) ?_
          refine Wx.rd (v := .int .i64 p) (rd_move rfl) rfl ?_
          refine Wx.gyes rfl rfl (congrArg Value.bool g_40) ?_
          refine Wx.rd (v := .pointer (some ⟨g_16, p.toNat * 1, none⟩)) (rd_indexO Tryz.underlying25 Tryz.sizeOf3 rfl rfl (by first | omega | (simp only [List.length_set, List.length_append, List.length_cons, List.length_nil, List.length_replicate]; omega)) (by first | omega | (simp only [List.length_set, List.length_append, List.length_cons, List.length_nil, List.length_replicate]; omega))) rfl ?_
          refine Wx.gyes rfl rfl (congrArg Value.bool g_40) ?_
          refine Wx.rd (v := .int .i64 (ix 0 out p)) (rd_loadRI' hS 0 rfl rfl rfl (by first | omega | (simp only [List.length_set, List.length_append, List.length_cons, List.length_nil, List.length_replicate]; omega)) (by first | omega | (simp only [List.length_set, List.length_append, List.length_cons, List.length_nil, List.length_replicate]; omega)) Tryz.isAgg3 Tryz.sizeOf3) rfl ?_
          have bd_42 := bd_i64 (hS.rowInK' 0 rfl (by first | omega | (simp only [List.length_set, List.length_append, List.length_cons, List.length_nil, List.length_replicate]; omega)) (by first | omega | (simp only [List.length_set, List.length_append, List.length_cons, List.length_nil, List.length_replicate]; omega)) : InK .i64 (ix 0 out p))
          refine Wx.gyes rfl rfl (congrArg Value.bool g_40) ?_
          refine Wx.rd (v := .int .i64 most) (rd_move rfl) rfl ?_
          refine Wx.gyes rfl rfl (congrArg Value.bool g_40) ?_
          refine Wx.rd (v := .bool (decide ((ix 0 out p) < most))) (rd_lss rfl rfl) rfl ?_
          refine Wx.rd (v := .bool (decide ((ix 0 out p) < most))) (rd_pickT (congrArg Value.bool g_40) rfl) rfl ?_
          refine Wx.nil ⟨(), hS, ⟨?_, trivial⟩, Out.look rfl Out.refl⟩
          show Value.bool (decide ((ix 0 out p) < most)) = Value.bool (!b && decide ((ix 0 out p) < most))
          first | rw [g_40, Bool.true_and] | (rw [g_40]; rfl)
        · -- False
          have gp_43 := g_40
          try simp only [Bool.and_eq_true, Bool.or_eq_true, Bool.not_eq_true', Bool.and_eq_false_iff, Bool.or_eq_false_iff, Bool.not_eq_false', decide_eq_true_eq, decide_eq_false_iff_not, not_or, Bool.false_eq_true, Bool.true_eq_false, false_or, or_false, not_false_eq_true] at gp_43
          refine Wx.gnoB rfl rfl (congrArg Value.bool g_40) rfl rfl ?_
          refine Wx.gnoB rfl rfl (congrArg Value.bool g_40) rfl rfl ?_
          refine Wx.gnoB rfl rfl (congrArg Value.bool g_40) rfl rfl ?_
          refine Wx.gnoB rfl rfl (congrArg Value.bool g_40) rfl rfl ?_
          refine Wx.gnoB rfl rfl (congrArg Value.bool g_40) rfl rfl ?_
          refine Wx.gnoB rfl rfl (congrArg Value.bool g_40) rfl rfl ?_
          refine Wx.rd (v := .bool false) (rd_pickF (congrArg Value.bool g_40) rfl) rfl ?_
          refine Wx.nil ⟨(), hS, ⟨?_, trivial⟩, Out.look rfl Out.refl⟩
          show Value.bool false = Value.bool (!b && decide ((ix 0 out p) < most))
          first | rw [g_40, Bool.false_and] | (rw [g_40]; rfl)
      rintro ⟨⟩ u_45 w_44 hS
      refine Wx.nil ?_
      refine W.cond rfl (fun c2 => ?_) (fun c2 => ?_)
      · -- yes
        try simp only [Bool.and_eq_true, Bool.or_eq_true, Bool.not_eq_true', Bool.and_eq_false_iff, Bool.or_eq_false_iff, Bool.not_eq_false', decide_eq_true_eq, decide_eq_false_iff_not, not_or, Bool.false_eq_true, Bool.true_eq_false, false_or, or_false, not_false_eq_true] at c2
        have hsk := col_skip h2 hp1 (by rw [← hcl]; exact c2)
        refine W.seq ?_
        refine W.reg ?_
        refine Wx.rd (v := .int .i64 p) (rd_move rfl) rfl ?_
        refine Wx.rd (v := .int .i64 (p + 1)) (rd_add rfl rfl (in_i64 (by omega) (by omega))) rfl ?_
        refine Wx.rd (v := .int .i64 (p + 1)) (rd_assign rfl) rfl ?_
        refine Wx.nil ?_
        refine W.exit rfl ?_
        refine ⟨(p + 1, out, n - 1), (by have := hsk.2; show n - 1 < n; omega), ?_, ?_, Out.look rfl (Out.hav rfl (Out.look rfl (Out.hav rfl (Out.look rfl Out.self))))⟩
        · exact ⟨hS, (hsk.1)⟩
        · exact ⟨rfl, trivial⟩
      · -- no
        try simp only [Bool.and_eq_true, Bool.or_eq_true, Bool.not_eq_true', Bool.and_eq_false_iff, Bool.or_eq_false_iff, Bool.not_eq_false', decide_eq_true_eq, decide_eq_false_iff_not, not_or, Bool.false_eq_true, Bool.true_eq_false, false_or, or_false, not_false_eq_true] at c2
        have hup := col_up h2 hp1 (by rw [← hcl]; rintro ⟨q1, q2⟩; rcases c2 with c2 | c2; (rw [q1] at c2; cases c2); exact c2 q2)
        refine W.skip ?_
        refine W.seq ?_
        refine W.reg ?_
        refine Wx.rd (v := (.slice (some ⟨g_16, 0, none⟩) (List.replicate ((tnN ts).toNat) (0 : Int)).length c_17)) (rd_move rfl) rfl ?_
        refine Wx.rd (v := .int .i64 p) (rd_move rfl) rfl ?_
        refine Wx.rd (v := .pointer (some ⟨g_16, p.toNat * 1, none⟩)) (rd_indexO Tryz.underlying25 Tryz.sizeOf3 rfl rfl (by first | omega | (simp only [List.length_set, List.length_append, List.length_cons, List.length_nil, List.length_replicate]; omega)) (by first | omega | (simp only [List.length_set, List.length_append, List.length_cons, List.length_nil, List.length_replicate]; omega))) rfl ?_
        refine Wx.rd (v := .int .i64 (ix 0 out p)) (rd_loadRI' hS 0 rfl rfl rfl (by first | omega | (simp only [List.length_set, List.length_append, List.length_cons, List.length_nil, List.length_replicate]; omega)) (by first | omega | (simp only [List.length_set, List.length_append, List.length_cons, List.length_nil, List.length_replicate]; omega)) Tryz.isAgg3 Tryz.sizeOf3) rfl ?_
        have bd_46 := bd_i64 (hS.rowInK' 0 rfl (by first | omega | (simp only [List.length_set, List.length_append, List.length_cons, List.length_nil, List.length_replicate]; omega)) (by first | omega | (simp only [List.length_set, List.length_append, List.length_cons, List.length_nil, List.length_replicate]; omega)) : InK .i64 (ix 0 out p))
        refine Wx.rd (v := .int .i64 ((ix 0 out p) + 1)) (rd_add rfl rfl (in_i64 (by omega) (by omega))) rfl ?_
        refine Wx.rd (v := .pointer (some ⟨g_16, p.toNat * 1, none⟩)) (rd_indexO Tryz.underlying25 Tryz.sizeOf3 rfl rfl (by first | omega | (simp only [List.length_set, List.length_append, List.length_cons, List.length_nil, List.length_replicate]; omega)) (by first | omega | (simp only [List.length_set, List.length_append, List.length_cons, List.length_nil, List.length_replicate]; omega))) rfl ?_
        refine Wx.storeR (j := p.toNat) (z := (ix 0 out p) + 1) hS 0 rfl rfl rfl (by first | omega | (simp only [List.length_set, List.length_append, List.length_cons, List.length_nil, List.length_replicate]; omega)) rfl (V.mkInt (in_i64 (by omega) (by omega))) Tryz.sizeOf3 (fun w_47 hz_48 hS => ?_)
        refine Wx.nil ?_
        refine W.block ?_
        refine W.loop [4, 7, 67, 68, 69, 70, 71, 72, 73, 74, 75, 76, 77, 78, 79, 80, 81, 82, 83, 84, 85] (fun x : Int × (List Int) × Nat => match x with | (p2, out2, n2) => [(7, .int .i64 p2)]) (fun (x : Int × (List Int) × Nat) w' => match x with | (p2, out2, n2) => St w O w' [.row (tI .i64) 3 (.slice (some ⟨g_16, 0, none⟩) (List.replicate ((tnN ts).toNat) (0 : Int)).length c_17) out2, .row (tI .u32) 63 r_5 (nearV ts), .box g_1 52 (List.map (Value.int .i64) ts)] ∧ ColI ts most r_ true n2 p2 out2 ∧ n2 < n) (fun x : Int × (List Int) × Nat => match x with | (p2, out2, n2) => n2) (p, List.set out p.toNat ((ix 0 out p) + 1), n - 1) ⟨rfl, trivial⟩ ⟨hS, (hup.1), ((by have := hup.2; omega))⟩ ?_
        rintro ⟨p2, out2, n2⟩ u_50 w_49 ⟨hS, g2, g3⟩
        have hol2 := g2.l
        have hp02 := g2.p0
        have hp12 := g2.p2 rfl
        have hpb2 := fun z z0 z1 => (g2.b z z0 z1).2.1
        refine W.seq ?_
        refine W.seq ?_
        refine W.reg ?_
        refine Wx.rd (v := (.slice (some ⟨g_16, 0, none⟩) (List.replicate ((tnN ts).toNat) (0 : Int)).length c_17)) (rd_move rfl) rfl ?_
        refine Wx.rd (v := .int .i64 p2) (rd_move rfl) rfl ?_
        refine Wx.rd (v := .pointer (some ⟨g_16, p2.toNat * 1, none⟩)) (rd_indexO Tryz.underlying25 Tryz.sizeOf3 rfl rfl (by first | omega | (simp only [List.length_set, List.length_append, List.length_cons, List.length_nil, List.length_replicate]; omega)) (by first | omega | (simp only [List.length_set, List.length_append, List.length_cons, List.length_nil, List.length_replicate]; omega))) rfl ?_
        refine Wx.rd (v := .int .i64 (ix 0 out2 p2)) (rd_loadRI' hS 0 rfl rfl rfl (by first | omega | (simp only [List.length_set, List.length_append, List.length_cons, List.length_nil, List.length_replicate]; omega)) (by first | omega | (simp only [List.length_set, List.length_append, List.length_cons, List.length_nil, List.length_replicate]; omega)) Tryz.isAgg3 Tryz.sizeOf3) rfl ?_
        have bd_51 := bd_i64 (hS.rowInK' 0 rfl (by first | omega | (simp only [List.length_set, List.length_append, List.length_cons, List.length_nil, List.length_replicate]; omega)) (by first | omega | (simp only [List.length_set, List.length_append, List.length_cons, List.length_nil, List.length_replicate]; omega)) : InK .i64 (ix 0 out2 p2))
        refine Wx.rd (v := .int .i64 most) (rd_move rfl) rfl ?_
        refine Wx.rd (v := .bool (decide (most ≤ (ix 0 out2 p2)))) (rd_geq rfl rfl) rfl ?_
        refine Wx.nil ?_
        refine W.condD rfl (fun c3 => ?_) (fun c3 => ?_)
        · -- yes
          have hbk := fun hx => col_back g2 c3 hx p_m.1
          refine W.skip ?_
          refine W.seq ?_
          refine W.block ?_
          refine W.seq ?_
          refine W.reg ?_
          refine Wx.rd (v := (.slice (some ⟨g_16, 0, none⟩) (List.replicate ((tnN ts).toNat) (0 : Int)).length c_17)) (rd_move rfl) rfl ?_
          refine Wx.rd (v := .int .i64 p2) (rd_move rfl) rfl ?_
          refine Wx.rd (v := .pointer (some ⟨g_16, p2.toNat * 1, none⟩)) (rd_indexO Tryz.underlying25 Tryz.sizeOf3 rfl rfl (by first | omega | (simp only [List.length_set, List.length_append, List.length_cons, List.length_nil, List.length_replicate]; omega)) (by first | omega | (simp only [List.length_set, List.length_append, List.length_cons, List.length_nil, List.length_replicate]; omega))) rfl ?_
          refine Wx.storeR (j := p2.toNat) (z := 0) hS 0 rfl rfl rfl (by first | omega | (simp only [List.length_set, List.length_append, List.length_cons, List.length_nil, List.length_replicate]; omega)) rfl (V.mkInt (in_i64 (by omega) (by omega))) Tryz.sizeOf3 (fun w_52 hz_53 hS => ?_)
          refine Wx.nil ?_
          refine W.seq ?_
          refine W.reg ?_
          refine Wx.rd (v := .int .i64 p2) (rd_move rfl) rfl ?_
          refine Wx.rd (v := .int .i64 (p2 - 1)) (rd_sub rfl rfl (in_i64 (by omega) (by omega))) rfl ?_
          refine Wx.rd (v := .int .i64 (p2 - 1)) (rd_assign rfl) rfl ?_
          refine Wx.nil ?_
          refine W.seq ?_
          refine W.reg ?_
          refine Wx.rd (v := .int .i64 (p2 - 1)) (rd_move rfl) rfl ?_
          refine Wx.rd (v := .bool (decide ((p2 - 1) < 0))) (rd_lss rfl rfl) rfl ?_
          refine Wx.nil ?_
          refine W.condD rfl (fun c4 => ?_) (fun c4 => ?_)
          · -- yes
            refine W.seq ?_
            refine W.reg ?_
            refine Wx.rd (v := (.slice none 0 0)) (rd_assign rfl) rfl ?_
            refine Wx.nil ?_
            have e0_0 : colO ts most = [] := by exact colO_none hr_ (col_none g2 c3 c4)
            exact W.ret ⟨(.slice none 0 0), ResIs.one, hS.bel, ⟨(.slice none 0 0), rfl, ⟨(by rw [e0_0]; exact (V.nil (t := (tI .i64)))), (fun _ => rfl)⟩⟩⟩
          · -- no
            have hsb : ix 0 (List.set out2 p2.toNat 0) (p2 - 1) ≤ most := by rw [ix_set0 hp02 (by omega) (by omega), if_neg (by omega)]; exact hpb2 _ (by omega) (by omega)
            refine W.skip ?_
            refine W.reg ?_
            refine Wx.rd (v := (.slice (some ⟨g_16, 0, none⟩) (List.replicate ((tnN ts).toNat) (0 : Int)).length c_17)) (rd_move rfl) rfl ?_
            refine Wx.rd (v := .int .i64 (p2 - 1)) (rd_move rfl) rfl ?_
            refine Wx.rd (v := .pointer (some ⟨g_16, (p2 - 1).toNat * 1, none⟩)) (rd_indexO Tryz.underlying25 Tryz.sizeOf3 rfl rfl (by first | omega | (simp only [List.length_set, List.length_append, List.length_cons, List.length_nil, List.length_replicate]; omega)) (by first | omega | (simp only [List.length_set, List.length_append, List.length_cons, List.length_nil, List.length_replicate]; omega))) rfl ?_
            refine Wx.rd (v := .int .i64 (ix 0 (List.set out2 p2.toNat 0) (p2 - 1))) (rd_loadRI' hS 0 rfl rfl rfl (by first | omega | (simp only [List.length_set, List.length_append, List.length_cons, List.length_nil, List.length_replicate]; omega)) (by first | omega | (simp only [List.length_set, List.length_append, List.length_cons, List.length_nil, List.length_replicate]; omega)) Tryz.isAgg3 Tryz.sizeOf3) rfl ?_
            have bd_54 := bd_i64 (hS.rowInK' 0 rfl (by first | omega | (simp only [List.length_set, List.length_append, List.length_cons, List.length_nil, List.length_replicate]; omega)) (by first | omega | (simp only [List.length_set, List.length_append, List.length_cons, List.length_nil, List.length_replicate]; omega)) : InK .i64 (ix 0 (List.set out2 p2.toNat 0) (p2 - 1)))
            refine Wx.rd (v := .int .i64 ((ix 0 (List.set out2 p2.toNat 0) (p2 - 1)) + 1)) (rd_add rfl rfl (in_i64 (by omega) (by omega))) rfl ?_
            refine Wx.rd (v := .pointer (some ⟨g_16, (p2 - 1).toNat * 1, none⟩)) (rd_indexO Tryz.underlying25 Tryz.sizeOf3 rfl rfl (by first | omega | (simp only [List.length_set, List.length_append, List.length_cons, List.length_nil, List.length_replicate]; omega)) (by first | omega | (simp only [List.length_set, List.length_append, List.length_cons, List.length_nil, List.length_replicate]; omega))) rfl ?_
            refine Wx.storeR (j := (p2 - 1).toNat) (z := (ix 0 (List.set out2 p2.toNat 0) (p2 - 1)) + 1) hS 0 rfl rfl rfl (by first | omega | (simp only [List.length_set, List.length_append, List.length_cons, List.length_nil, List.length_replicate]; omega)) rfl (V.mkInt (in_i64 (by omega) (by omega))) Tryz.sizeOf3 (fun w_55 hz_56 hS => ?_)
            refine Wx.nil ?_
            refine ⟨(p2 - 1, List.set (List.set out2 p2.toNat 0) (p2 - 1).toNat ((ix 0 (List.set out2 p2.toNat 0) (p2 - 1)) + 1), n2 - 1), (by have := (hbk (by omega)).2; show n2 - 1 < n2; omega), ?_, ?_, Out.look rfl Out.self⟩
            · exact ⟨hS, ((hbk (by omega)).1), ((by omega))⟩
            · exact ⟨rfl, trivial⟩
        · -- no
          have hmo := col_more g2 c3
          refine W.exit rfl ?_
          refine ⟨(p2, out2, n2 - 1), (by have := hmo.2; show n2 - 1 < n; omega), ?_, ?_, Out.look rfl (Out.hav rfl (Out.look rfl (Out.hav rfl (Out.look rfl (Out.hav rfl (Out.look rfl Out.self))))))⟩
          · exact ⟨hS, (hmo.1)⟩
          · exact ⟨rfl, trivial⟩
  · -- no
    refine W.exit rfl ?_
    refine W.seq ?_
    refine W.reg ?_
    refine Wx.rd (v := (.slice (some ⟨g_16, 0, none⟩) (List.replicate ((tnN ts).toNat) (0 : Int)).length c_17)) (rd_move rfl) rfl ?_
    refine Wx.rd (v := (.slice (some ⟨g_16, 0, none⟩) (List.replicate ((tnN ts).toNat) (0 : Int)).length c_17)) (rd_assign rfl) rfl ?_
    refine Wx.nil ?_
    have e1_0 : colO ts most = out := by exact (colO_ne p_n h2 (by omega) hr_).1
    exact W.ret ⟨(.slice (some ⟨g_16, 0, none⟩) (List.replicate ((tnN ts).toNat) (0 : Int)).length c_17), ResIs.one, hS.bel, ⟨(.slice (some ⟨g_16, 0, none⟩) (List.replicate ((tnN ts).toNat) (0 : Int)).length c_17), rfl, ⟨(by rw [e1_0]; exact ((hS.lend 0 rfl).mv (.less (fun _ h => List.mem_append.2 (.inr h))))), (fun h => absurd h (by rw [(colO_ne p_n h2 (by omega) hr_).1]; exact (colO_ne p_n h2 (by omega) hr_).2))⟩⟩⟩
end Go.Proofs.YtdpdlplkngggoaaGreatDoor

namespace Go.Proofs.YtdpdlplkngggoaaGreatDoor
open Go.Wk Go.RowKit Go.Lib
set_option linter.unusedVariables false
set_option linter.unusedSimpArgs false
theorem foGo_52_3 : fldOff Tryz.prog 52 3 = some 33 := by kernel_rfl

set_option maxHeartbeats 1000000 in
theorem F16 {mv : Value} {ls : List (List Int)} {O : List (Option Nat)} {w : World} (h_mv : V (tSl (tSl (tI .i64))) ls mv O w) (p_ok : MapOK ls) (p_t : TblOK (tabV ls)) (p_o : loopV (tabV ls) = false) (p_n : 1 ≤ tnN (tabV ls)) (p_c1 : colR (nearV (tabV ls)) (tnN (tabV ls)) 1 50 false 0 (List.replicate (tnN (tabV ls)).toNat (0 : Int)) = some none) (p_c2 : ∃ o, colR (nearV (tabV ls)) (tnN (tabV ls)) 2 50 false 0 (List.replicate (tnN (tabV ls)).toNat (0 : Int)) = some (some o)) (p_c3 : colO (tabV ls) 2 ≠ []) (hO : ∀ b, some b ∈ O → b < w.heap.size) (hG : Laid w) : Calls Tryz.prog 16 #[.agg #[mv]] w (Ret w (fun r w' => ∃ rv, r = .tuple #[rv, .int .i64 2, .int .i64 0] ∧ V (tSl (tI .i64)) (colO (tabV ls) 2) rv O w')) := by
  have htv := tabV_len (ls := ls)
  obtain ⟨tl, tn, ⟨te, te2⟩, tp⟩ := id p_t
  have hn_ : tnN (tabV ls) = ix 0 (tabV ls) 33 := rfl
  have hcc : ∀ m : Int, 1 ≤ m → m ≤ 2 → ∃ r, colR (nearV (tabV ls)) (tnN (tabV ls)) m 50 false 0 (List.replicate (tnN (tabV ls)).toNat (0 : Int)) = some r := fun m m0 m1 => by rcases (show m = 1 ∨ m = 2 by omega) with rfl | rfl; exact ⟨_, p_c1⟩; obtain ⟨o, ho⟩ := p_c2; exact ⟨_, ho⟩
  have hc1 : colO (tabV ls) 1 = [] := colO_none p_c1 rfl
  have a_mv := h_mv
  have l_mv := h_mv.len63
  have hS := St.start w O hO
  refine enterR Tryz.func16 rfl Tryz.ntmps16 Tryz.results16 rfl ?_
  refine W.seq ?_
  refine W.reg ?_
  refine Wx.box (cs := [mv]) hS rfl rfl rfl (fun g_1 w_2 hx_4 hb_3 hS => ?_)
  refine Wx.rd (v := (.slice none 0 0)) (rd_assign rfl) rfl ?_
  refine Wx.rd (v := .int .i64 0) (rd_assign rfl) rfl ?_
  refine Wx.rd (v := .int .i64 0) (rd_assign rfl) rfl ?_
  refine Wx.nil ?_
  refine W.seq ?_
  refine W.reg ?_
  refine Wx.rd (v := .agg #[mv]) (rd_loadXs (ds := [mv]) hS 0 rfl rfl rfl rfl Tryz.isAgg32 Tryz.sizeOf32) rfl ?_
  refine Wx.callF (run_callF Tryz.call12 rfl) (F12 (hS.arg a_mv) p_ok) rfl ?_
  rintro r_5 w_6 hx_7 rfl
  have hS := hS.ext hx_7
  refine Wx.rd (v := .tuple #[.agg (List.map (Value.int .i64) (tabV ls)).toArray, .int .i64 0]) (rd_move rfl) rfl ?_
  refine Wx.rd (v := .agg (List.map (Value.int .i64) (tabV ls)).toArray) (rd_extract rfl rfl) rfl ?_
  refine Wx.rd (v := .int .i64 0) (rd_extract rfl rfl) rfl ?_
  refine Wx.alloc (cs := List.map (Value.int .i64) (List.replicate 34 (0 : Int))) hS Tryz.zeroValue52 (by kernel_rfl) rfl (fun g_8 w_9 hx_11 hb_10 hS => ?_)
  have hS : St _ _ w_9 [.box g_8 52 (List.map (Value.int .i64) (List.replicate 34 (0 : Int))), .box g_1 32 [mv]] := hS
  refine Wx.storeX (cs' := List.map (Value.int .i64) (tabV ls)) (ds := List.map (Value.int .i64) (tabV ls)) hS 0 rfl rfl rfl rfl (fun w' => by rw [List.length_map, show List.length (tabV ls) = 34 by first | omega | (simp; omega) | simp]; exact Tryz.sizeOf52 w') (by first | (simp; omega) | simp) (by intro u hu; obtain ⟨_, _, rfl⟩ := List.mem_map.1 hu; rfl) (by rw [List.take_zero, List.nil_append, List.drop_of_length_le (by first | (simp; omega) | simp), List.append_nil]) (fun w_12 hz_13 hS => ?_)
  refine Wx.rd (v := .int .i64 0) (rd_assign rfl) rfl ?_
  refine Wx.nil ?_
  refine W.seq ?_
  refine W.block ?_
  refine W.seq ?_
  refine W.reg ?_
  refine Wx.rd (v := .int .i64 0) (rd_move rfl) rfl ?_
  refine Wx.rd (v := .bool false) (Rd.to (v := .bool (decide ((0 : Int) ≠ 0))) (rd_neq rfl rfl) rfl) rfl ?_
  refine Wx.rd (v := .bool false) (rd_assign rfl) rfl ?_
  refine Wx.nil ?_
  refine W.condF rfl rfl ?_
  refine W.seq ?_
  refine W.reg ?_
  refine Wx.rd (v := .agg (List.map (Value.int .i64) (tabV ls)).toArray) (rd_loadXs (ds := List.map (Value.int .i64) (tabV ls)) hS 0 rfl rfl (by rw [List.drop_zero, List.take_of_length_le (by simp; omega)]) (by simp; omega) Tryz.isAgg52 Tryz.sizeOf52) rfl ?_
  refine Wx.callF (run_callF Tryz.call17 rfl) (F17 htv (tab_in (ls := ls) p_ok) p_t (hG.ext hS.bel)) rfl ?_
  rintro r_14 w_15 hx_16 rfl
  have hS := hS.ext hx_16
  refine Wx.rd (v := .bool (loopV (tabV ls))) (rd_assign rfl) rfl ?_
  refine Wx.nil ?_
  refine W.condF rfl p_o ?_
  refine W.seq ?_
  refine W.reg ?_
  refine Wx.rd (v := .pointer (some ⟨g_8, 0 + 33, none⟩)) (rd_fieldAddr (o := 0) rfl foGo_52_3) rfl ?_
  refine Wx.rd (v := .int .i64 (ix 0 (tabV ls) 33)) (rd_loadXa (d := 0) (f := (Value.int .i64)) (j := 33) hS 0 rfl rfl (by omega) (by omega) (by omega) Tryz.isAgg3) rfl ?_
  refine Wx.rd (v := .bool (decide ((ix 0 (tabV ls) 33) = 0))) (rd_eql rfl rfl) rfl ?_
  refine Wx.rd (v := .bool (decide ((ix 0 (tabV ls) 33) = 0))) (rd_assign rfl) rfl ?_
  refine Wx.nil ?_
  refine W.condF rfl (decide_eq_false (by omega)) ?_
  refine W.skip ?_
  refine W.seq ?_
  refine W.reg ?_
  refine Wx.rd (v := .int .i64 1) (rd_assign rfl) rfl ?_
  refine Wx.nil ?_
  refine W.block ?_
  refine W.loop [2, 3, 4, 7, 8, 25, 26, 27, 28, 29, 30, 31, 32, 33] (fun (most : Int) => [(7, .int .i64 most)]) (fun (most : Int) w' => St w O w' [.box g_8 52 (List.map (Value.int .i64) (tabV ls)), .box g_1 32 [mv]] ∧ 1 ≤ most ∧ most ≤ 2) (fun (most : Int) => (3 - most).toNat) 1 ⟨rfl, trivial⟩ ⟨hS, (by first | omega | simp), (by first | omega | simp)⟩ ?_
  rintro most u_18 w_17 ⟨hS, h0, h1⟩
  refine W.seq ?_
  refine W.block ?_
  refine W.seq ?_
  refine W.reg ?_
  refine Wx.rd (v := .agg (List.map (Value.int .i64) (tabV ls)).toArray) (rd_loadXs (ds := List.map (Value.int .i64) (tabV ls)) hS 0 rfl rfl (by rw [List.drop_zero, List.take_of_length_le (by simp; omega)]) (by simp; omega) Tryz.isAgg52 Tryz.sizeOf52) rfl ?_
  refine Wx.rd (v := .int .i64 most) (rd_move rfl) rfl ?_
  refine Wx.callF (run_callF Tryz.call26 rfl) (F26 htv (tab_in (ls := ls) p_ok) (in_i64 (by omega) (by omega)) p_t p_n (by omega) (hcc most h0 h1) hS.fb_lt (hG.ext hS.bel)) rfl ?_
  rintro r_19 w_20 hx_21 ⟨_, rfl, ⟨hv_22, hn_23⟩⟩
  have ln_25 := hv_22.len63
  have hS := hS.ext hx_21
  have hS := hS.add hv_22
  refine Wx.rd (v := r_19) (rd_assign rfl) rfl ?_
  refine Wx.nil ?_
  refine W.seq ?_
  refine W.reg ?_
  refine Wx.rd (v := r_19) (rd_move rfl) rfl ?_
  refine Wx.rd (v := .bool (!(decide ((colO (tabV ls) most) = [])))) (rd_neqlNilI (hS.v 0 rfl) rfl rfl Tryz.underlying25 hn_23) rfl ?_
  refine Wx.nil ?_
  refine W.cond rfl (fun c3 => ?_) (fun c3 => ?_)
  · -- yes
    try simp only [Bool.and_eq_true, Bool.or_eq_true, Bool.not_eq_true', Bool.and_eq_false_iff, Bool.or_eq_false_iff, Bool.not_eq_false', decide_eq_true_eq, decide_eq_false_iff_not, not_or, Bool.false_eq_true, Bool.true_eq_false, false_or, or_false, not_false_eq_true] at c3
    refine W.seq ?_
    refine W.reg ?_
    refine Wx.rd (v := r_19) (rd_move rfl) rfl ?_
    refine Wx.rd (v := .int .i64 most) (rd_move rfl) rfl ?_
    refine Wx.rd (v := r_19) (rd_assign rfl) rfl ?_
    refine Wx.rd (v := .int .i64 most) (rd_assign rfl) rfl ?_
    refine Wx.rd (v := .int .i64 0) (rd_assign rfl) rfl ?_
    refine Wx.nil ?_
    have hm2 : most = 2 := by rcases (show most = 1 ∨ most = 2 by omega) with rfl | rfl; exact absurd hc1 c3; rfl
    have e0_0 : colO (tabV ls) 2 = colO (tabV ls) most := by rw [hm2]
    have e0_1 : (most : Int) = 2 := by exact hm2
    exact W.ret ⟨.tuple #[r_19, .int .i64 most, .int .i64 0], ResIs.three, hS.bel, ⟨r_19, (by rw [e0_1]), (by rw [e0_0]; exact (V.mv (hS.v 0 rfl) (.less (fun _ h => List.mem_append.2 (.inr h)))))⟩⟩
  · -- no
    try simp only [Bool.and_eq_true, Bool.or_eq_true, Bool.not_eq_true', Bool.and_eq_false_iff, Bool.or_eq_false_iff, Bool.not_eq_false', decide_eq_true_eq, decide_eq_false_iff_not, not_or, Bool.false_eq_true, Bool.true_eq_false, false_or, or_false, not_false_eq_true] at c3
    refine W.skip ?_
    refine W.reg ?_
    refine Wx.rd (v := .int .i64 most) (rd_move rfl) rfl ?_
    refine Wx.rd (v := .int .i64 (most + 1)) (rd_add rfl rfl (in_i64 (by omega) (by omega))) rfl ?_
    refine Wx.rd (v := .int .i64 (most + 1)) (rd_assign rfl) rfl ?_
    refine Wx.nil ?_
    refine ⟨most + 1, (by show (3 - (most + 1)).toNat < (3 - most).toNat; omega), ?_, ?_, Out.look rfl Out.self⟩
    · exact ⟨hS.tl, (by first | omega | assumption), ((by rcases (show most = 1 ∨ most = 2 by omega) with rfl | rfl; decide; exact absurd c3 (by simpa using p_c3)))⟩
    · exact ⟨rfl, trivial⟩
end Go.Proofs.YtdpdlplkngggoaaGreatDoor

namespace Go.Proofs.YtdpdlplkngggoaaGreatDoor
open Go.Wk Go.RowKit Go.Lib
set_option linter.unusedVariables false
set_option linter.unusedSimpArgs false


set_option maxHeartbeats 1000000 in
theorem F7 {mv : Value} {ls : List (List Int)} {Fr_mv : List (Option Nat)} {w : World} (h_mv : V (tSl (tSl (tI .i64))) ls mv Fr_mv w) (p_ok : MapOK ls) (p_t : TblOK (tabV ls)) (p_o : loopV (tabV ls) = false) (p_n : 1 ≤ tnN (tabV ls)) (p_c1 : colR (nearV (tabV ls)) (tnN (tabV ls)) 1 50 false 0 (List.replicate (tnN (tabV ls)).toNat (0 : Int)) = some none) (p_c2 : ∃ o, colR (nearV (tabV ls)) (tnN (tabV ls)) 2 50 false 0 (List.replicate (tnN (tabV ls)).toNat (0 : Int)) = some (some o)) (p_c3 : colO (tabV ls) 2 ≠ []) (hG : Laid w) : Calls Tryz.prog 7 #[.agg #[mv]] w (Ret w (fun r _ => r = .tuple #[.int .i64 2, .int .i64 0])) := by
  have htv := tabV_len (ls := ls)
  obtain ⟨tl, tn, ⟨te, te2⟩, tp⟩ := id p_t
  have a_mv := h_mv.any
  have l_mv := h_mv.len63
  have hS := St.start0 w
  refine enterR Tryz.func7 rfl Tryz.ntmps7 Tryz.results7 rfl ?_
  refine W.seq ?_
  refine W.reg ?_
  refine Wx.box (cs := [mv]) hS rfl rfl rfl (fun g_1 w_2 hx_4 hb_3 hS => ?_)
  refine Wx.rd (v := .int .i64 0) (rd_assign rfl) rfl ?_
  refine Wx.rd (v := .int .i64 0) (rd_assign rfl) rfl ?_
  refine Wx.nil ?_
  refine W.seq ?_
  refine W.reg ?_
  refine Wx.rd (v := .agg #[mv]) (rd_loadXs (ds := [mv]) hS 0 rfl rfl rfl rfl Tryz.isAgg32 Tryz.sizeOf32) rfl ?_
  refine Wx.callF (run_callF Tryz.call16 rfl) (F16 (hS.arg a_mv) p_ok p_t p_o p_n p_c1 p_c2 p_c3 hS.fb_lt (hG.ext hS.bel)) rfl ?_
  rintro r_5 w_6 hx_7 ⟨v_8, rfl, hv_9⟩
  have ln_11 := hv_9.len63
  have hS := hS.ext hx_7
  have hS := hS.add hv_9
  refine Wx.rd (v := .tuple #[v_8, .int .i64 2, .int .i64 0]) (rd_move rfl) rfl ?_
  refine Wx.rd (v := v_8) (rd_extract rfl rfl) rfl ?_
  refine Wx.rd (v := .int .i64 2) (rd_extract rfl rfl) rfl ?_
  refine Wx.rd (v := .int .i64 0) (rd_extract rfl rfl) rfl ?_
  refine Wx.rd (v := v_8) (rd_assign rfl) rfl ?_
  refine Wx.rd (v := .int .i64 2) (rd_assign rfl) rfl ?_
  refine Wx.rd (v := .int .i64 0) (rd_assign rfl) rfl ?_
  refine Wx.nil ?_
  refine W.seq ?_
  refine W.reg ?_
  refine Wx.rd (v := .int .i64 2) (rd_move rfl) rfl ?_
  refine Wx.rd (v := .int .i64 0) (rd_move rfl) rfl ?_
  refine Wx.rd (v := .int .i64 2) (rd_assign rfl) rfl ?_
  refine Wx.rd (v := .int .i64 0) (rd_assign rfl) rfl ?_
  refine Wx.nil ?_
  exact W.ret ⟨.tuple #[.int .i64 2, .int .i64 0], ResIs.two, hS.bel, rfl⟩
end Go.Proofs.YtdpdlplkngggoaaGreatDoor

namespace Go.Proofs.YtdpdlplkngggoaaGreatDoor
open Go.Wk Go.RowKit Go.Lib
set_option linter.unusedVariables false
set_option linter.unusedSimpArgs false


theorem F20 {xv : Value} {xs : List Int} {O : List (Option Nat)} {w : World} (h_xv : V (tSl (tI .i64)) xs xv O w) (hO : ∀ b, some b ∈ O → b < w.heap.size) : Calls Tryz.prog 20 #[xv] w (Ret w (fun r w' => ∃ rv, r = rv ∧ ((∃ ad, rv = .slice ad xs.length xs.length) ∧ V (tSl (tI .i64)) xs rv O w'))) := by
  have a_xv := h_xv
  have l_xv := h_xv.len63
  have hS := St.start w O hO
  refine enterR Tryz.func20 rfl Tryz.ntmps20 Tryz.results20 rfl ?_
  refine W.seq ?_
  refine W.reg ?_
  refine Wx.rd (v := (.slice none 0 0)) (rd_assign rfl) rfl ?_
  refine Wx.nil ?_
  refine W.seq ?_
  refine W.reg ?_
  refine Wx.rd (v := xv) (rd_move rfl) rfl ?_
  refine Wx.rd (v := xv) (rd_move rfl) rfl ?_
  refine Wx.rd (v := .int .i64 (xs.length : Int)) (rd_lenV rfl (hS.arg a_xv) Tryz.underlying25) rfl ?_
  refine Wx.rd (v := xv) (rd_move rfl) rfl ?_
  refine Wx.rd (v := .int .i64 (xs.length : Int)) (rd_lenV rfl (hS.arg a_xv) Tryz.underlying25) rfl ?_
  refine Wx.ex (rd_clip (hS.arg a_xv) Tryz.underlying25 Tryz.sizeOf3 rfl rfl rfl rfl rfl) rfl (fun u_1 hu_u_1 => ?_)
  obtain ⟨ad_3, rfl, hv_4⟩ := hu_u_1
  have hS := hS.add hv_4
  refine Wx.rd (v := (.slice ad_3 xs.length xs.length)) (rd_assign rfl) rfl ?_
  refine Wx.nil ?_
  exact W.ret ⟨(.slice ad_3 xs.length xs.length), ResIs.one, hS.bel, ⟨(.slice ad_3 xs.length xs.length), rfl, ⟨⟨_, rfl⟩, (V.mv (hS.v 0 rfl) (.less (fun _ h => List.mem_append.2 (.inr h))))⟩⟩⟩
end Go.Proofs.YtdpdlplkngggoaaGreatDoor

namespace Go.Proofs.YtdpdlplkngggoaaGreatDoor
open Go.Wk Go.RowKit Go.Lib
set_option linter.unusedVariables false
set_option linter.unusedSimpArgs false
theorem mixedGq_ : Tryz.prog.follows .mixedOrders = true := by kernel_rfl
theorem foGq_52_3 : fldOff Tryz.prog 52 3 = some 33 := by kernel_rfl
theorem elGq_25 : ElemI Tryz.prog 25 3 (.int .i64 0) 1 8 := ElemI.of Tryz.underlying25 (by kernel_rfl) (by first | rfl | kernel_rfl) (by decide)

set_option maxHeartbeats 4000000 in
theorem F19  : ∀ (fuel : Nat) {near ts l best : List Int} {nv lv bv : Value} {pts many met : Int} {gm gf gn gt gp : Nat} {ob : List Ob} {w0 w : World} {O : List (Option Nat)} (p_n0 : (near.length : Int) = pts ∧ 0 ≤ pts ∧ pts ≤ 8) (p_nn : tnN ts = pts ∧ ts.length = 34 ∧ ∀ z ∈ ts, InK .i64 z) (p_m : (l.length : Int) ≤ many) (p_m9 : many ≤ 9 ∧ 1 ≤ many) (p_b : ∀ x ∈ l, 0 ≤ x ∧ x < pts) (p_u : InK .u32 met) (hS : St w0 O w (Ob.v (tSl (tI .i64)) best bv :: .box gf 25 [bv] :: .box gm 3 [.int .i64 many] :: Ob.v (tSl (tI .u32)) near nv :: .box gn 60 [nv] :: .box gt 52 (List.map (Value.int .i64) ts) :: .box gp 62 [.func (.func 19) #[] #[(.pointer (some ⟨gm, 0, none⟩)), (.pointer (some ⟨gf, 0, none⟩)), (.pointer (some ⟨gn, 0, none⟩)), (.pointer (some ⟨gt, 0, none⟩)), (.pointer (some ⟨gp, 0, none⟩))]] :: ob)) (hv : V (tSl tInt) l lv (fb (Ob.v (tSl (tI .i64)) best bv :: .box gf 25 [bv] :: .box gm 3 [.int .i64 many] :: Ob.v (tSl (tI .u32)) near nv :: .box gn 60 [nv] :: .box gt 52 (List.map (Value.int .i64) ts) :: .box gp 62 [.func (.func 19) #[] #[(.pointer (some ⟨gm, 0, none⟩)), (.pointer (some ⟨gf, 0, none⟩)), (.pointer (some ⟨gn, 0, none⟩)), (.pointer (some ⟨gt, 0, none⟩)), (.pointer (some ⟨gp, 0, none⟩))]] :: ob) O) w) (hfuel : (many - l.length).toNat < fuel), Calls Tryz.prog 19 #[lv, .int .u32 met, (.pointer (some ⟨gm, 0, none⟩)), (.pointer (some ⟨gf, 0, none⟩)), (.pointer (some ⟨gn, 0, none⟩)), (.pointer (some ⟨gt, 0, none⟩)), (.pointer (some ⟨gp, 0, none⟩))] w (Bk fun r w' => r = .bool (putR near pts many fuel l met) ∧ ∃ bv' best', St w0 O w' (Ob.v (tSl (tI .i64)) best' bv' :: .box gf 25 [bv'] :: .box gm 3 [.int .i64 many] :: Ob.v (tSl (tI .u32)) near nv :: .box gn 60 [nv] :: .box gt 52 (List.map (Value.int .i64) ts) :: .box gp 62 [.func (.func 19) #[] #[(.pointer (some ⟨gm, 0, none⟩)), (.pointer (some ⟨gf, 0, none⟩)), (.pointer (some ⟨gn, 0, none⟩)), (.pointer (some ⟨gt, 0, none⟩)), (.pointer (some ⟨gp, 0, none⟩))]] :: ob)) := by
  intro fuel
  induction fuel with
  | zero => intros; omega
  | succ fuel IH =>
  intro near ts l best nv lv bv pts many met gm gf gn gt gp ob w0 w O p_n0 p_nn p_m p_m9 p_b p_u hS hv hfuel
  have p_u2 : 0 ≤ met ∧ met < 4294967296 := by have h1 := bd_u32 p_u; omega
  have hn_ : tnN ts = ix 0 ts 33 := rfl
  have n_ts := p_nn.2.1
  have i_ts := p_nn.2.2
  have hS := hS.add (hv)
  have ln_2 := (hS.v 0 rfl).len63
  refine enterB Tryz.func19 rfl Tryz.ntmps19 Tryz.results19 rfl ?_
  refine W.seq ?_
  refine W.reg ?_
  refine Wx.rd (v := .bool false) (rd_assign rfl) rfl ?_
  refine Wx.nil ?_
  refine W.seq ?_
  refine W.reg ?_
  refine Wx.rd (v := lv) (rd_move rfl) rfl ?_
  refine Wx.rd (v := .int .i64 (l.length : Int)) (rd_lenV rfl (hS.v 0 rfl) Tryz.underlying25) rfl ?_
  refine Wx.rd (v := .int .i64 (l.length : Int)) (rd_assign rfl) rfl ?_
  refine Wx.nil ?_
  refine W.seq ?_
  refine W.seq ?_
  refine W.reg ?_
  refine Wx.rd (v := .int .i64 (l.length : Int)) (rd_move rfl) rfl ?_
  refine Wx.rd (v := .int .i64 many) (rd_loadX hS 3 rfl rfl rfl Tryz.isAgg3) rfl ?_
  refine Wx.rd (v := .bool (decide ((l.length : Int) = many))) (rd_eql rfl rfl) rfl ?_
  refine Wx.nil ?_
  refine W.condD rfl (fun c0 => ?_) (fun c0 => ?_)
  · -- yes
    have hq0 := p_b _ (List.mem_of_getElem? (ix_get (d := 0) (xs := l) (n := 0) (by omega) (by omega)))
    have hq1 := p_b _ (List.mem_of_getElem? (ix_get (d := 0) (xs := l) (n := (l.length : Int) - 1) (by omega) (by omega)))
    refine W.seq ?_
    refine W.reg ?_
    refine Wx.rd (v := lv) (rd_move rfl) rfl ?_
    refine Wx.storeX (cs' := [lv]) (ds := [lv]) hS 2 rfl rfl rfl (Go.Wk.cells_one (V.oneC (hS.v 0 rfl))) Tryz.sizeOf25 (Nat.le_of_ble_eq_true rfl) (one_cons (V.oneC (hS.v 0 rfl)) one_nil) rfl (fun w_3 hz_4 hS => ?_)
    refine Wx.nil ?_
    refine W.seq ?_
    refine W.regQ mixedGq_ (by kernel_rfl) ?_
    refine Wx.rd (v := nv) (rd_loadX hS 5 rfl rfl rfl Tryz.isAgg60) rfl ?_
    refine Wx.rd (v := lv) (rd_move rfl) rfl ?_
    refine Wx.ex (rd_index 0 (hS.v 0 rfl) rfl rfl Tryz.underlying25 Tryz.sizeOf3 (by first | omega | (simp only [List.length_set, List.length_append, List.length_cons, List.length_nil, List.length_replicate]; omega)) (by first | omega | (simp only [List.length_set, List.length_append, List.length_cons, List.length_nil, List.length_replicate]; omega))) rfl (fun p_5 hp_6 => ?_)
    refine Wx.rd (v := .int .i64 (ix 0 l 0)) (rd_loadI hp_6 rfl Tryz.isAgg3 Tryz.sizeOf3) rfl ?_
    have bd_7 := bd_i64 hp_6.inK
    refine Wx.ex (rd_index 0 (hS.v 4 rfl) rfl rfl Tryz.underlying60 Tryz.sizeOf63 (by first | omega | (simp only [List.length_set, List.length_append, List.length_cons, List.length_nil, List.length_replicate]; omega)) (by first | omega | (simp only [List.length_set, List.length_append, List.length_cons, List.length_nil, List.length_replicate]; omega))) rfl (fun p_8 hp_9 => ?_)
    refine Wx.rd (v := .int .u32 (ix 0 near (ix 0 l 0))) (rd_loadI hp_9 rfl Tryz.isAgg63 Tryz.sizeOf63) rfl ?_
    have bd_10 := bd_u32 hp_9.inK
    refine Wx.rd (v := lv) (rd_move rfl) rfl ?_
    refine Wx.rd (v := .int .i64 (l.length : Int)) (rd_move rfl) rfl ?_
    refine Wx.rd (v := .int .i64 ((l.length : Int) - 1)) (rd_sub rfl rfl (in_i64 (by omega) (by omega))) rfl ?_
    refine Wx.ex (rd_index 0 (hS.v 0 rfl) rfl rfl Tryz.underlying25 Tryz.sizeOf3 (by first | omega | (simp only [List.length_set, List.length_append, List.length_cons, List.length_nil, List.length_replicate]; omega)) (by first | omega | (simp only [List.length_set, List.length_append, List.length_cons, List.length_nil, List.length_replicate]; omega))) rfl (fun p_11 hp_12 => ?_)
    refine Wx.rd (v := .int .i64 (ix 0 l ((l.length : Int) - 1))) (rd_loadI hp_12 rfl Tryz.isAgg3 Tryz.sizeOf3) rfl ?_
    have bd_13 := bd_i64 hp_12.inK
    refine Wx.rd (v := .int .u32 ((ix 0 near (ix 0 l 0)) / 2 ^ min (ix 0 l ((l.length : Int) - 1)).toNat (IntKind.u32).bits)) (rd_shr rfl rfl (by omega)) rfl ?_
    refine Wx.rd (v := .int .u32 (bits .and .u32 ((ix 0 near (ix 0 l 0)) / 2 ^ min (ix 0 l ((l.length : Int) - 1)).toNat (IntKind.u32).bits) 1)) (rd_and rfl rfl) rfl ?_
    have bd_14 := bd_u32 (bits_in .and .u32 ((ix 0 near (ix 0 l 0)) / 2 ^ min (ix 0 l ((l.length : Int) - 1)).toNat (IntKind.u32).bits) 1)
    refine Wx.rd (v := .bool (decide ((bits .and .u32 ((ix 0 near (ix 0 l 0)) / 2 ^ min (ix 0 l ((l.length : Int) - 1)).toNat (IntKind.u32).bits) 1) = 1))) (rd_eql rfl rfl) rfl ?_
    refine Wx.rd (v := .bool (decide ((bits .and .u32 ((ix 0 near (ix 0 l 0)) / 2 ^ min (ix 0 l ((l.length : Int) - 1)).toNat (IntKind.u32).bits) 1) = 1))) (rd_assign rfl) rfl ?_
    refine Wx.nilQ (fun w_15 hx_16 => ?_)
    have hS := hS.ext hx_16
    have hS := hS.add (hS.v 0 rfl)
    have hS := hS.drop 2
    have hS := hS.drop 1
    have hS := hS.front 6 rfl
    have hS := hS.front 6 rfl
    have hS := hS.front 6 rfl
    have hS := hS.front 6 rfl
    have hS := hS.front 6 rfl
    have hS := hS.front 6 rfl
    have hS := hS.front 6 rfl
    have hS : St _ _ w_15 (Ob.v (tSl (tI .i64)) l lv :: .box gf 25 [lv] :: .box gm 3 [.int .i64 many] :: Ob.v (tSl (tI .u32)) near nv :: .box gn 60 [nv] :: .box gt 52 (List.map (Value.int .i64) ts) :: .box gp 62 [.func (.func 19) #[] #[(.pointer (some ⟨gm, 0, none⟩)), (.pointer (some ⟨gf, 0, none⟩)), (.pointer (some ⟨gn, 0, none⟩)), (.pointer (some ⟨gt, 0, none⟩)), (.pointer (some ⟨gp, 0, none⟩))]] :: ob) := hS
    exact W.ret ⟨.bool (decide ((bits .and .u32 ((ix 0 near (ix 0 l 0)) / 2 ^ min (ix 0 l ((l.length : Int) - 1)).toNat (IntKind.u32).bits) 1) = 1)), ResIs.one, congrArg Value.bool (put_last c0).symm, _, _, hS⟩
  · -- no
    refine W.skip ?_
    refine W.seq ?_
    refine W.seq ?_
    refine W.reg ?_
    refine Wx.rd (v := .pointer (some ⟨gt, 0 + 33, none⟩)) (rd_fieldAddr (o := 0) rfl foGq_52_3) rfl ?_
    have bz_17 := ix_i64 i_ts 33
    refine Wx.rd (v := .int .i64 (ix 0 ts 33)) (rd_loadXa (d := 0) (f := (Value.int .i64)) (j := 33) hS 6 rfl rfl (by omega) (by omega) (by omega) Tryz.isAgg3) rfl ?_
    refine Wx.rd (v := .int .i64 0) (rd_move rfl) rfl ?_
    refine Wx.nil ?_
    refine W.block ?_
    refine W.loop [9, 11, 34, 35, 36, 37, 38, 39, 40, 41, 42, 43, 44, 45, 46, 47, 48, 49, 50, 51, 52, 53, 54, 55, 56, 57, 58, 59, 60, 61, 62, 63, 64, 65, 66, 67, 68, 69, 70, 71, 72, 73] (fun x : Int × Value × (List Int) => match x with | (p, bv2, best2) => [(34, .int .i64 p)]) (fun (x : Int × Value × (List Int)) w' => match x with | (p, bv2, best2) => St w0 O w' (Ob.v (tSl (tI .i64)) l lv :: Ob.v (tSl (tI .i64)) best2 bv2 :: .box gf 25 [bv2] :: .box gm 3 [.int .i64 many] :: Ob.v (tSl (tI .u32)) near nv :: .box gn 60 [nv] :: .box gt 52 (List.map (Value.int .i64) ts) :: .box gp 62 [.func (.func 19) #[] #[(.pointer (some ⟨gm, 0, none⟩)), (.pointer (some ⟨gf, 0, none⟩)), (.pointer (some ⟨gn, 0, none⟩)), (.pointer (some ⟨gt, 0, none⟩)), (.pointer (some ⟨gp, 0, none⟩))]] :: ob) ∧ 0 ≤ p ∧ p ≤ pts ∧ (rng 0 p).any (putS near pts many fuel l met) = false) (fun x : Int × Value × (List Int) => match x with | (p, bv2, best2) => (pts - p).toNat) (0, bv, best) ⟨rfl, trivial⟩ ⟨hS, (by first | omega | simp), (by first | omega | simp), (rfl)⟩ ?_
    rintro ⟨p, bv2, best2⟩ u_19 w_18 ⟨hS, h0, h1, h2⟩
    refine W.seq ?_
    refine W.reg ?_
    refine Wx.rd (v := .bool (decide (p < (ix 0 ts 33)))) (rd_lss rfl rfl) rfl ?_
    refine Wx.nil ?_
    refine W.seq ?_
    refine W.condD rfl (fun c1 => ?_) (fun c1 => ?_)
    · -- yes
      refine W.skip ?_
      refine W.seq ?_
      refine W.block ?_
      refine W.seq ?_
      refine W.reg ?_
      refine Wx.rd (v := .int .i64 p) (rd_move rfl) rfl ?_
      refine Wx.rd (v := .int .i64 p) (rd_assign rfl) rfl ?_
      refine Wx.nil ?_
      refine W.seq ?_
      refine W.cutK [37, 38, 39, 40, 41, 42, 43, 44, 45, 46, 47, 48, 49, 50, 51, 52, 53, 54, 55, 56, 57, 58, 59, 60, 61, 62, 63, 64, 65, 66, 67, 68, 69, 70, 71, 72] (fun x : Bool × Value × (List Int) => match x with | (b72, bv3, best3) => [(72, .bool b72)]) (fun (x : Bool × Value × (List Int)) w' => match x with | (b72, bv3, best3) => St w0 O w' (Ob.v (tSl (tI .i64)) l lv :: Ob.v (tSl (tI .i64)) best3 bv3 :: .box gf 25 [bv3] :: .box gm 3 [.int .i64 many] :: Ob.v (tSl (tI .u32)) near nv :: .box gn 60 [nv] :: .box gt 52 (List.map (Value.int .i64) ts) :: .box gp 62 [.func (.func 19) #[] #[(.pointer (some ⟨gm, 0, none⟩)), (.pointer (some ⟨gf, 0, none⟩)), (.pointer (some ⟨gn, 0, none⟩)), (.pointer (some ⟨gt, 0, none⟩)), (.pointer (some ⟨gp, 0, none⟩))]] :: ob) ∧ b72 = putS near pts many fuel l met p) ?_ ?_
      · -- up to the cut
        refine W.regZ (fun _ w' => St w0 O w' [.box gm 3 [.int .i64 many], Ob.v (tSl (tI .u32)) near nv, .box gn 60 [nv], .box gt 52 (List.map (Value.int .i64) ts), .box gp 62 [.func (.func 19) #[] #[(.pointer (some ⟨gm, 0, none⟩)), (.pointer (some ⟨gf, 0, none⟩)), (.pointer (some ⟨gn, 0, none⟩)), (.pointer (some ⟨gt, 0, none⟩)), (.pointer (some ⟨gp, 0, none⟩))]]]) mixedGq_ (fun w_20 hx_21 => ?_)
        have hS := hS.ext hx_21
        refine Wz.rd (v := .int .u32 met) 0 rfl (by kernel_rfl) (St.sub hS (.cons _ (.cons _ (.cons _ (List.Sublist.cons_cons _ (List.Sublist.cons_cons _ (List.Sublist.cons_cons _ (List.Sublist.cons_cons _ (List.Sublist.cons_cons _ (List.nil_sublist _)))))))))) (fun _ hS => (rd_move rfl)) rfl ?_
        refine Wz.rd (v := .int .i64 p) 1 rfl (by kernel_rfl) (St.sub hS (.cons _ (.cons _ (.cons _ (List.Sublist.cons_cons _ (List.Sublist.cons_cons _ (List.Sublist.cons_cons _ (List.Sublist.cons_cons _ (List.Sublist.cons_cons _ (List.nil_sublist _)))))))))) (fun _ hS => (rd_move rfl)) rfl ?_
        refine Wz.rd (v := .int .u32 (met / 2 ^ min p.toNat (IntKind.u32).bits)) 2 rfl (by kernel_rfl) (St.sub hS (.cons _ (.cons _ (.cons _ (List.Sublist.cons_cons _ (List.Sublist.cons_cons _ (List.Sublist.cons_cons _ (List.Sublist.cons_cons _ (List.Sublist.cons_cons _ (List.nil_sublist _)))))))))) (fun _ hS => (rd_shr rfl rfl (by omega))) rfl ?_
        refine Wz.rd (v := .int .u32 (bits .and .u32 (met / 2 ^ min p.toNat (IntKind.u32).bits) 1)) 3 rfl (by kernel_rfl) (St.sub hS (.cons _ (.cons _ (.cons _ (List.Sublist.cons_cons _ (List.Sublist.cons_cons _ (List.Sublist.cons_cons _ (List.Sublist.cons_cons _ (List.Sublist.cons_cons _ (List.nil_sublist _)))))))))) (fun _ hS => (rd_and rfl rfl)) rfl ?_
        have bd_22 := bd_u32 (bits_in .and .u32 (met / 2 ^ min p.toNat (IntKind.u32).bits) 1)
        refine Wz.rd (v := .bool (decide ((bits .and .u32 (met / 2 ^ min p.toNat (IntKind.u32).bits) 1) = 0))) 4 rfl (by kernel_rfl) (St.sub hS (.cons _ (.cons _ (.cons _ (List.Sublist.cons_cons _ (List.Sublist.cons_cons _ (List.Sublist.cons_cons _ (List.Sublist.cons_cons _ (List.Sublist.cons_cons _ (List.nil_sublist _)))))))))) (fun _ hS => (rd_eql rfl rfl)) rfl ?_
        refine Wz.rd (v := .bool (decide ((bits .and .u32 (met / 2 ^ min p.toNat (IntKind.u32).bits) 1) = 0))) 5 rfl (by kernel_rfl) (St.sub hS (.cons _ (.cons _ (.cons _ (List.Sublist.cons_cons _ (List.Sublist.cons_cons _ (List.Sublist.cons_cons _ (List.Sublist.cons_cons _ (List.Sublist.cons_cons _ (List.nil_sublist _)))))))))) (fun _ hS => (rd_move rfl)) rfl ?_
        rcases Bool.eq_false_or_eq_true (decide ((bits .and .u32 (met / 2 ^ min p.toNat (IntKind.u32).bits) 1) = 0)) with g_23 | g_23
        · -- True
          have gp_24 := of_decide_eq_true g_23
          refine Wz.gyes (v := .int .i64 (l.length : Int)) 6 rfl (by kernel_rfl) (St.sub hS (.cons _ (.cons _ (.cons _ (List.Sublist.cons_cons _ (List.Sublist.cons_cons _ (List.Sublist.cons_cons _ (List.Sublist.cons_cons _ (List.Sublist.cons_cons _ (List.nil_sublist _)))))))))) rfl rfl (congrArg Value.bool g_23) (fun _ hS => (rd_move rfl)) rfl ?_
          refine Wz.gyes (v := .bool (decide ((l.length : Int) = 0))) 7 rfl (by kernel_rfl) (St.sub hS (.cons _ (.cons _ (.cons _ (List.Sublist.cons_cons _ (List.Sublist.cons_cons _ (List.Sublist.cons_cons _ (List.Sublist.cons_cons _ (List.Sublist.cons_cons _ (List.nil_sublist _)))))))))) rfl rfl (congrArg Value.bool g_23) (fun _ hS => (rd_eql rfl rfl)) rfl ?_
          refine Wz.gyes (v := .bool (decide ((l.length : Int) = 0))) 8 rfl (by kernel_rfl) (St.sub hS (.cons _ (.cons _ (.cons _ (List.Sublist.cons_cons _ (List.Sublist.cons_cons _ (List.Sublist.cons_cons _ (List.Sublist.cons_cons _ (List.Sublist.cons_cons _ (List.nil_sublist _)))))))))) rfl rfl (congrArg Value.bool g_23) (fun _ hS => (rd_move rfl)) rfl ?_
          rcases Bool.eq_false_or_eq_true (decide ((l.length : Int) = 0)) with g_25 | g_25
          · -- True
            have gp_26 := of_decide_eq_true g_25
            refine Wz.gnoB 9 rfl (by kernel_rfl) (St.sub hS (.cons _ (.cons _ (.cons _ (List.Sublist.cons_cons _ (List.Sublist.cons_cons _ (List.Sublist.cons_cons _ (List.Sublist.cons_cons _ (List.Sublist.cons_cons _ (List.nil_sublist _)))))))))) rfl rfl (congrArg Value.bool g_25) rfl rfl ?_
            refine Wz.gnoB 10 rfl (by kernel_rfl) (St.sub hS (.cons _ (.cons _ (.cons _ (List.Sublist.cons_cons _ (List.Sublist.cons_cons _ (List.Sublist.cons_cons _ (List.Sublist.cons_cons _ (List.Sublist.cons_cons _ (List.nil_sublist _)))))))))) rfl rfl (congrArg Value.bool g_25) rfl rfl ?_
            refine Wz.gnoB 11 rfl (by kernel_rfl) (St.sub hS (.cons _ (.cons _ (.cons _ (List.Sublist.cons_cons _ (List.Sublist.cons_cons _ (List.Sublist.cons_cons _ (List.Sublist.cons_cons _ (List.Sublist.cons_cons _ (List.nil_sublist _)))))))))) rfl rfl (congrArg Value.bool g_25) rfl rfl ?_
            refine Wz.gnoB 12 rfl (by kernel_rfl) (St.sub hS (.cons _ (.cons _ (.cons _ (List.Sublist.cons_cons _ (List.Sublist.cons_cons _ (List.Sublist.cons_cons _ (List.Sublist.cons_cons _ (List.Sublist.cons_cons _ (List.nil_sublist _)))))))))) rfl rfl (congrArg Value.bool g_25) rfl rfl ?_
            refine Wz.gnoB 13 rfl (by kernel_rfl) (St.sub hS (.cons _ (.cons _ (.cons _ (List.Sublist.cons_cons _ (List.Sublist.cons_cons _ (List.Sublist.cons_cons _ (List.Sublist.cons_cons _ (List.Sublist.cons_cons _ (List.nil_sublist _)))))))))) rfl rfl (congrArg Value.bool g_25) rfl rfl ?_
            refine Wz.gnoB 14 rfl (by kernel_rfl) (St.sub hS (.cons _ (.cons _ (.cons _ (List.Sublist.cons_cons _ (List.Sublist.cons_cons _ (List.Sublist.cons_cons _ (List.Sublist.cons_cons _ (List.Sublist.cons_cons _ (List.nil_sublist _)))))))))) rfl rfl (congrArg Value.bool g_25) rfl rfl ?_
            refine Wz.gnoB 15 rfl (by kernel_rfl) (St.sub hS (.cons _ (.cons _ (.cons _ (List.Sublist.cons_cons _ (List.Sublist.cons_cons _ (List.Sublist.cons_cons _ (List.Sublist.cons_cons _ (List.Sublist.cons_cons _ (List.nil_sublist _)))))))))) rfl rfl (congrArg Value.bool g_25) rfl rfl ?_
            refine Wz.gnoB 16 rfl (by kernel_rfl) (St.sub hS (.cons _ (.cons _ (.cons _ (List.Sublist.cons_cons _ (List.Sublist.cons_cons _ (List.Sublist.cons_cons _ (List.Sublist.cons_cons _ (List.Sublist.cons_cons _ (List.nil_sublist _)))))))))) rfl rfl (congrArg Value.bool g_25) rfl rfl ?_
            refine Wz.gnoB 17 rfl (by kernel_rfl) (St.sub hS (.cons _ (.cons _ (.cons _ (List.Sublist.cons_cons _ (List.Sublist.cons_cons _ (List.Sublist.cons_cons _ (List.Sublist.cons_cons _ (List.Sublist.cons_cons _ (List.nil_sublist _)))))))))) rfl rfl (congrArg Value.bool g_25) rfl rfl ?_
            refine Wz.gnoB 18 rfl (by kernel_rfl) (St.sub hS (.cons _ (.cons _ (.cons _ (List.Sublist.cons_cons _ (List.Sublist.cons_cons _ (List.Sublist.cons_cons _ (List.Sublist.cons_cons _ (List.Sublist.cons_cons _ (List.nil_sublist _)))))))))) rfl rfl (congrArg Value.bool g_25) rfl rfl ?_
            refine Wz.gnoB 19 rfl (by kernel_rfl) (St.sub hS (.cons _ (.cons _ (.cons _ (List.Sublist.cons_cons _ (List.Sublist.cons_cons _ (List.Sublist.cons_cons _ (List.Sublist.cons_cons _ (List.Sublist.cons_cons _ (List.nil_sublist _)))))))))) rfl rfl (congrArg Value.bool g_25) rfl rfl ?_
            refine Wz.gnoB 20 rfl (by kernel_rfl) (St.sub hS (.cons _ (.cons _ (.cons _ (List.Sublist.cons_cons _ (List.Sublist.cons_cons _ (List.Sublist.cons_cons _ (List.Sublist.cons_cons _ (List.Sublist.cons_cons _ (List.nil_sublist _)))))))))) rfl rfl (congrArg Value.bool g_25) rfl rfl ?_
            refine Wz.gyes (v := .bool true) 21 rfl (by kernel_rfl) (St.sub hS (.cons _ (.cons _ (.cons _ (List.Sublist.cons_cons _ (List.Sublist.cons_cons _ (List.Sublist.cons_cons _ (List.Sublist.cons_cons _ (List.Sublist.cons_cons _ (List.nil_sublist _)))))))))) rfl rfl (congrArg Value.bool g_23) (fun _ hS => (rd_pickT (congrArg Value.bool g_25) rfl)) rfl ?_
            refine Wz.rd (v := .bool true) 22 rfl (by kernel_rfl) (St.sub hS (.cons _ (.cons _ (.cons _ (List.Sublist.cons_cons _ (List.Sublist.cons_cons _ (List.Sublist.cons_cons _ (List.Sublist.cons_cons _ (List.Sublist.cons_cons _ (List.nil_sublist _)))))))))) (fun _ hS => (rd_pickT (congrArg Value.bool g_23) rfl)) rfl ?_
            refine Wz.rd (v := .bool true) 23 rfl (by kernel_rfl) (St.sub hS (.cons _ (.cons _ (.cons _ (List.Sublist.cons_cons _ (List.Sublist.cons_cons _ (List.Sublist.cons_cons _ (List.Sublist.cons_cons _ (List.Sublist.cons_cons _ (List.nil_sublist _)))))))))) (fun _ hS => (rd_move rfl)) rfl ?_
            refine Wz.gyes (v := .func (.func 19) #[] #[(.pointer (some ⟨gm, 0, none⟩)), (.pointer (some ⟨gf, 0, none⟩)), (.pointer (some ⟨gn, 0, none⟩)), (.pointer (some ⟨gt, 0, none⟩)), (.pointer (some ⟨gp, 0, none⟩))]) 24 rfl (by kernel_rfl) (St.sub hS (.cons _ (.cons _ (.cons _ (List.Sublist.cons_cons _ (List.Sublist.cons_cons _ (List.Sublist.cons_cons _ (List.Sublist.cons_cons _ (List.Sublist.cons_cons _ (List.nil_sublist _)))))))))) rfl rfl rfl (fun _ hS => (rd_loadX hS 4 rfl rfl rfl Tryz.isAgg62)) rfl ?_
            refine Wz.gyes (v := lv) 25 rfl (by kernel_rfl) (St.sub hS (.cons _ (.cons _ (.cons _ (List.Sublist.cons_cons _ (List.Sublist.cons_cons _ (List.Sublist.cons_cons _ (List.Sublist.cons_cons _ (List.Sublist.cons_cons _ (List.nil_sublist _)))))))))) rfl rfl rfl (fun _ hS => (rd_move rfl)) rfl ?_
            refine Wz.gyes (v := .int .i64 p) 27 rfl (by kernel_rfl) (St.sub hS (.cons _ (.cons _ (.cons _ (List.Sublist.cons_cons _ (List.Sublist.cons_cons _ (List.Sublist.cons_cons _ (List.Sublist.cons_cons _ (List.Sublist.cons_cons _ (List.nil_sublist _)))))))))) rfl rfl rfl (fun _ hS => (rd_move rfl)) rfl ?_
            refine Wz.gyes (v := .int .u32 met) 30 rfl (by kernel_rfl) (St.sub hS (.cons _ (.cons _ (.cons _ (List.Sublist.cons_cons _ (List.Sublist.cons_cons _ (List.Sublist.cons_cons _ (List.Sublist.cons_cons _ (List.Sublist.cons_cons _ (List.nil_sublist _)))))))))) rfl rfl rfl (fun _ hS => (rd_move rfl)) rfl ?_
            refine Wz.gyes (v := .int .i64 p) 31 rfl (by kernel_rfl) (St.sub hS (.cons _ (.cons _ (.cons _ (List.Sublist.cons_cons _ (List.Sublist.cons_cons _ (List.Sublist.cons_cons _ (List.Sublist.cons_cons _ (List.Sublist.cons_cons _ (List.nil_sublist _)))))))))) rfl rfl rfl (fun _ hS => (rd_move rfl)) rfl ?_
            refine Wz.gyes (v := .int .u32 (IntKind.u32.wrap (1 * 2 ^ min p.toNat (IntKind.u32).bits))) 32 rfl (by kernel_rfl) (St.sub hS (.cons _ (.cons _ (.cons _ (List.Sublist.cons_cons _ (List.Sublist.cons_cons _ (List.Sublist.cons_cons _ (List.Sublist.cons_cons _ (List.Sublist.cons_cons _ (List.nil_sublist _)))))))))) rfl rfl rfl (fun _ hS => (rd_shl rfl rfl (by omega))) rfl ?_
            have bd_27 := bd_u32 (wrap_inK .u32 (1 * 2 ^ min p.toNat (IntKind.u32).bits))
            refine Wz.gyes (v := .int .u32 (bits .or .u32 met (IntKind.u32.wrap (1 * 2 ^ min p.toNat (IntKind.u32).bits)))) 33 rfl (by kernel_rfl) (St.sub hS (.cons _ (.cons _ (.cons _ (List.Sublist.cons_cons _ (List.Sublist.cons_cons _ (List.Sublist.cons_cons _ (List.Sublist.cons_cons _ (List.Sublist.cons_cons _ (List.nil_sublist _)))))))))) rfl rfl rfl (fun _ hS => (rd_or rfl rfl)) rfl ?_
            have bd_28 := bd_u32 (bits_in .or .u32 met (IntKind.u32.wrap (1 * 2 ^ min p.toNat (IntKind.u32).bits)))
            refine Wz.br [26, 28] (by kernel_rfl) (by decide) ⟨⟨_, rfl, ?_⟩, ⟨_, rfl, ?_⟩, trivial⟩
            · -- operation 26
              refine Wx.gyes rfl rfl rfl ?_
              refine Wx.callF (run_callF Tryz.call20 rfl) (F20 (hS.v 0 rfl) hS.fb_lt) rfl ?_
              rintro r_29 w_30 hx_31 ⟨_, rfl, ⟨⟨ad_33, rfl⟩, hv_32⟩⟩
              have ln_35 := hv_32.len63
              have hS := hS.ext hx_31
              have hS := hS.add hv_32
              refine Wx.nil ⟨(St.sub hS (.cons _ (.cons _ (.cons _ (.cons _ (List.Sublist.cons_cons _ (List.Sublist.cons_cons _ (List.Sublist.cons_cons _ (List.Sublist.cons_cons _ (List.Sublist.cons_cons _ (List.nil_sublist _))))))))))), ?_⟩
              refine Wz.br [28] (by kernel_rfl) (by decide) ⟨⟨_, rfl, ?_⟩, trivial⟩
              refine Wx.gyes rfl rfl rfl ?_
              refine Wx.lit (t := (tI .i64)) (ys := [p]) (vs := [.int .i64 p]) elGq_25 hS rfl rfl ⟨(V.mkInt (in_i64 (by omega) (by omega))), trivial⟩ (by decide) rfl (fun v_36 w_37 hx_38 hS => ?_)
              refine Wx.nil ⟨(St.sub hS (.cons _ (.cons _ (.cons _ (.cons _ (.cons _ (List.Sublist.cons_cons _ (List.Sublist.cons_cons _ (List.Sublist.cons_cons _ (List.Sublist.cons_cons _ (List.Sublist.cons_cons _ (List.nil_sublist _)))))))))))), ?_⟩
              refine Wz.br [29] (by kernel_rfl) (by decide) ⟨⟨_, rfl, ?_⟩, trivial⟩
              refine Wx.gyes rfl rfl rfl ?_
              refine Wx.appendNew elGq_25 hS rfl (hS.v 1 rfl) rfl (Src.ofR hS 0 rfl) (by simp) (by simp only [maxLen]; first | omega | (simp; omega) | simp) (by first | omega | (simp; omega) | simp) rfl (fun v_39 w_40 hz_41 hS => ?_)
              refine Wx.nil ⟨(St.sub hS (.cons _ (.cons _ (.cons _ (.cons _ (.cons _ (.cons _ (List.Sublist.cons_cons _ (List.Sublist.cons_cons _ (List.Sublist.cons_cons _ (List.Sublist.cons_cons _ (List.Sublist.cons_cons _ (List.nil_sublist _))))))))))))), ?_⟩
              refine Wz.br [34] (by kernel_rfl) (by decide) ⟨⟨_, rfl, ?_⟩, trivial⟩
              refine Wx.gyes rfl rfl rfl ?_
              have hS := hS.freeze 0 rfl
              have hbu := p_u
              have hL := V.pull (pre := [Ob.v (tSl (tI .i64)) (l ++ [p]) v_39, .row (tI .i64) 3 v_36 [p], Ob.v (tSl (tI .i64)) l (.slice ad_33 l.length l.length), Ob.v (tSl (tI .i64)) l lv]) (A := [Ob.v (tSl (tI .i64)) best2 bv2, .box gf 25 [bv2], .box gm 3 [.int .i64 many], Ob.v (tSl (tI .u32)) near nv, .box gn 60 [nv], .box gt 52 (List.map (Value.int .i64) ts), .box gp 62 [.func (.func 19) #[] #[(.pointer (some ⟨gm, 0, none⟩)), (.pointer (some ⟨gf, 0, none⟩)), (.pointer (some ⟨gn, 0, none⟩)), (.pointer (some ⟨gt, 0, none⟩)), (.pointer (some ⟨gp, 0, none⟩))]]]) (R := ob) (hS.v 0 rfl)
              have hP := St.pull (pre := [Ob.v (tSl (tI .i64)) (l ++ [p]) v_39, .row (tI .i64) 3 v_36 [p], Ob.v (tSl (tI .i64)) l (.slice ad_33 l.length l.length), Ob.v (tSl (tI .i64)) l lv]) (A := [Ob.v (tSl (tI .i64)) best2 bv2, .box gf 25 [bv2], .box gm 3 [.int .i64 many], Ob.v (tSl (tI .u32)) near nv, .box gn 60 [nv], .box gt 52 (List.map (Value.int .i64) ts), .box gp 62 [.func (.func 19) #[] #[(.pointer (some ⟨gm, 0, none⟩)), (.pointer (some ⟨gf, 0, none⟩)), (.pointer (some ⟨gn, 0, none⟩)), (.pointer (some ⟨gt, 0, none⟩)), (.pointer (some ⟨gp, 0, none⟩))]]]) (R := ob) hS
              refine Wx.callB (run_callC (fs := []) (cs := [(.pointer (some ⟨gm, 0, none⟩)), (.pointer (some ⟨gf, 0, none⟩)), (.pointer (some ⟨gn, 0, none⟩)), (.pointer (some ⟨gt, 0, none⟩)), (.pointer (some ⟨gp, 0, none⟩))]) (vs := [v_39, .int .u32 (bits .or .u32 met (IntKind.u32.wrap (1 * 2 ^ min p.toNat (IntKind.u32).bits))), (.pointer (some ⟨gm, 0, none⟩)), (.pointer (some ⟨gf, 0, none⟩)), (.pointer (some ⟨gn, 0, none⟩)), (.pointer (some ⟨gt, 0, none⟩)), (.pointer (some ⟨gp, 0, none⟩))]) Tryz.call19 rfl rfl) (IH (l := (l ++ [p])) (lv := v_39) (met := (bits .or .u32 met (IntKind.u32.wrap (1 * 2 ^ min p.toNat (IntKind.u32).bits)))) (best := best2) (bv := bv2) (ob := [Ob.v (tSl (tI .i64)) (l ++ [p]) v_39, .row (tI .i64) 3 v_36 [p], Ob.v (tSl (tI .i64)) l (.slice ad_33 l.length l.length), Ob.v (tSl (tI .i64)) l lv] ++ ob) p_n0 p_nn (by simp; omega) p_m9 (snoc_rng p_b (by omega)) (bits_in .or .u32 _ _) hP hL (by simp; omega)) rfl ?_
              rintro r_43 w_44 ⟨rfl, bv_45, best_46, hS⟩
              have hS : St w0 O w_44 (Ob.v (tSl (tI .i64)) (l ++ [p]) v_39 :: .row (tI .i64) 3 v_36 [p] :: Ob.v (tSl (tI .i64)) l (.slice ad_33 l.length l.length) :: Ob.v (tSl (tI .i64)) l lv :: Ob.v (tSl (tI .i64)) best_46 bv_45 :: .box gf 25 [bv_45] :: .box gm 3 [.int .i64 many] :: Ob.v (tSl (tI .u32)) near nv :: .box gn 60 [nv] :: .box gt 52 (List.map (Value.int .i64) ts) :: .box gp 62 [.func (.func 19) #[] #[(.pointer (some ⟨gm, 0, none⟩)), (.pointer (some ⟨gf, 0, none⟩)), (.pointer (some ⟨gn, 0, none⟩)), (.pointer (some ⟨gt, 0, none⟩)), (.pointer (some ⟨gp, 0, none⟩))]] :: ob) := St.pull (pre := [Ob.v (tSl (tI .i64)) best_46 bv_45, .box gf 25 [bv_45], .box gm 3 [.int .i64 many], Ob.v (tSl (tI .u32)) near nv, .box gn 60 [nv], .box gt 52 (List.map (Value.int .i64) ts), .box gp 62 [.func (.func 19) #[] #[(.pointer (some ⟨gm, 0, none⟩)), (.pointer (some ⟨gf, 0, none⟩)), (.pointer (some ⟨gn, 0, none⟩)), (.pointer (some ⟨gt, 0, none⟩)), (.pointer (some ⟨gp, 0, none⟩))]]]) (A := [Ob.v (tSl (tI .i64)) (l ++ [p]) v_39, .row (tI .i64) 3 v_36 [p], Ob.v (tSl (tI .i64)) l (.slice ad_33 l.length l.length), Ob.v (tSl (tI .i64)) l lv]) (R := ob) hS
              refine Wx.nil ⟨(St.sub hS (.cons _ (.cons _ (.cons _ (.cons _ (.cons _ (.cons _ (List.Sublist.cons_cons _ (List.Sublist.cons_cons _ (List.Sublist.cons_cons _ (List.Sublist.cons_cons _ (List.Sublist.cons_cons _ (List.nil_sublist _))))))))))))), ?_⟩
              refine Wz.rd (v := .bool (putR near pts many fuel (l ++ [p]) (bits .or .u32 met (IntKind.u32.wrap (1 * 2 ^ min p.toNat (IntKind.u32).bits))))) 35 rfl (by kernel_rfl) (St.sub hS (.cons _ (.cons _ (.cons _ (.cons _ (.cons _ (.cons _ (List.Sublist.cons_cons _ (List.Sublist.cons_cons _ (List.Sublist.cons_cons _ (List.Sublist.cons_cons _ (List.Sublist.cons_cons _ (List.nil_sublist _))))))))))))) (fun _ hS => (rd_pickT rfl rfl)) rfl ?_
              refine Wz.done (by kernel_rfl) ?_
              refine ⟨(putR near pts many fuel (l ++ [p]) (bits .or .u32 met (IntKind.u32.wrap (1 * 2 ^ min p.toNat (IntKind.u32).bits))), bv_45, best_46), ?_, ?_, Out.look rfl Out.refl⟩
              · exact ⟨St.tl (St.tl (hS.tl)), (by exact (putS_b p_u2 (by assumption) (by assumption)).symm)⟩
              · exact ⟨rfl, trivial⟩
            · -- operation 28
              refine Wx.gyes rfl rfl rfl ?_
              refine Wx.lit (t := (tI .i64)) (ys := [p]) (vs := [.int .i64 p]) elGq_25 hS rfl rfl ⟨(V.mkInt (in_i64 (by omega) (by omega))), trivial⟩ (by decide) rfl (fun v_47 w_48 hx_49 hS => ?_)
              refine Wx.nil ⟨(St.sub hS (.cons _ (.cons _ (.cons _ (.cons _ (List.Sublist.cons_cons _ (List.Sublist.cons_cons _ (List.Sublist.cons_cons _ (List.Sublist.cons_cons _ (List.Sublist.cons_cons _ (List.nil_sublist _))))))))))), ?_⟩
              refine Wz.br [26] (by kernel_rfl) (by decide) ⟨⟨_, rfl, ?_⟩, trivial⟩
              refine Wx.gyes rfl rfl rfl ?_
              refine Wx.callF (run_callF Tryz.call20 rfl) (F20 (hS.v 1 rfl) hS.fb_lt) rfl ?_
              rintro r_50 w_51 hx_52 ⟨_, rfl, ⟨⟨ad_54, rfl⟩, hv_53⟩⟩
              have ln_56 := hv_53.len63
              have hS := hS.ext hx_52
              have hS := hS.add hv_53
              refine Wx.nil ⟨(St.sub hS (.cons _ (.cons _ (.cons _ (.cons _ (.cons _ (List.Sublist.cons_cons _ (List.Sublist.cons_cons _ (List.Sublist.cons_cons _ (List.Sublist.cons_cons _ (List.Sublist.cons_cons _ (List.nil_sublist _)))))))))))), ?_⟩
              refine Wz.br [29] (by kernel_rfl) (by decide) ⟨⟨_, rfl, ?_⟩, trivial⟩
              refine Wx.gyes rfl rfl rfl ?_
              refine Wx.appendNew elGq_25 hS rfl (hS.v 0 rfl) rfl (Src.ofR hS 1 rfl) (by simp) (by simp only [maxLen]; first | omega | (simp; omega) | simp) (by first | omega | (simp; omega) | simp) rfl (fun v_57 w_58 hz_59 hS => ?_)
              refine Wx.nil ⟨(St.sub hS (.cons _ (.cons _ (.cons _ (.cons _ (.cons _ (.cons _ (List.Sublist.cons_cons _ (List.Sublist.cons_cons _ (List.Sublist.cons_cons _ (List.Sublist.cons_cons _ (List.Sublist.cons_cons _ (List.nil_sublist _))))))))))))), ?_⟩
              refine Wz.br [34] (by kernel_rfl) (by decide) ⟨⟨_, rfl, ?_⟩, trivial⟩
              refine Wx.gyes rfl rfl rfl ?_
              have hS := hS.freeze 0 rfl
              have hbu := p_u
              have hL := V.pull (pre := [Ob.v (tSl (tI .i64)) (l ++ [p]) v_57, Ob.v (tSl (tI .i64)) l (.slice ad_54 l.length l.length), .row (tI .i64) 3 v_47 [p], Ob.v (tSl (tI .i64)) l lv]) (A := [Ob.v (tSl (tI .i64)) best2 bv2, .box gf 25 [bv2], .box gm 3 [.int .i64 many], Ob.v (tSl (tI .u32)) near nv, .box gn 60 [nv], .box gt 52 (List.map (Value.int .i64) ts), .box gp 62 [.func (.func 19) #[] #[(.pointer (some ⟨gm, 0, none⟩)), (.pointer (some ⟨gf, 0, none⟩)), (.pointer (some ⟨gn, 0, none⟩)), (.pointer (some ⟨gt, 0, none⟩)), (.pointer (some ⟨gp, 0, none⟩))]]]) (R := ob) (hS.v 0 rfl)
              have hP := St.pull (pre := [Ob.v (tSl (tI .i64)) (l ++ [p]) v_57, Ob.v (tSl (tI .i64)) l (.slice ad_54 l.length l.length), .row (tI .i64) 3 v_47 [p], Ob.v (tSl (tI .i64)) l lv]) (A := [Ob.v (tSl (tI .i64)) best2 bv2, .box gf 25 [bv2], .box gm 3 [.int .i64 many], Ob.v (tSl (tI .u32)) near nv, .box gn 60 [nv], .box gt 52 (List.map (Value.int .i64) ts), .box gp 62 [.func (.func 19) #[] #[(.pointer (some ⟨gm, 0, none⟩)), (.pointer (some ⟨gf, 0, none⟩)), (.pointer (some ⟨gn, 0, none⟩)), (.pointer (some ⟨gt, 0, none⟩)), (.pointer (some ⟨gp, 0, none⟩))]]]) (R := ob) hS
              refine Wx.callB (run_callC (fs := []) (cs := [(.pointer (some ⟨gm, 0, none⟩)), (.pointer (some ⟨gf, 0, none⟩)), (.pointer (some ⟨gn, 0, none⟩)), (.pointer (some ⟨gt, 0, none⟩)), (.pointer (some ⟨gp, 0, none⟩))]) (vs := [v_57, .int .u32 (bits .or .u32 met (IntKind.u32.wrap (1 * 2 ^ min p.toNat (IntKind.u32).bits))), (.pointer (some ⟨gm, 0, none⟩)), (.pointer (some ⟨gf, 0, none⟩)), (.pointer (some ⟨gn, 0, none⟩)), (.pointer (some ⟨gt, 0, none⟩)), (.pointer (some ⟨gp, 0, none⟩))]) Tryz.call19 rfl rfl) (IH (l := (l ++ [p])) (lv := v_57) (met := (bits .or .u32 met (IntKind.u32.wrap (1 * 2 ^ min p.toNat (IntKind.u32).bits)))) (best := best2) (bv := bv2) (ob := [Ob.v (tSl (tI .i64)) (l ++ [p]) v_57, Ob.v (tSl (tI .i64)) l (.slice ad_54 l.length l.length), .row (tI .i64) 3 v_47 [p], Ob.v (tSl (tI .i64)) l lv] ++ ob) p_n0 p_nn (by simp; omega) p_m9 (snoc_rng p_b (by omega)) (bits_in .or .u32 _ _) hP hL (by simp; omega)) rfl ?_
              rintro r_61 w_62 ⟨rfl, bv_63, best_64, hS⟩
              have hS : St w0 O w_62 (Ob.v (tSl (tI .i64)) (l ++ [p]) v_57 :: Ob.v (tSl (tI .i64)) l (.slice ad_54 l.length l.length) :: .row (tI .i64) 3 v_47 [p] :: Ob.v (tSl (tI .i64)) l lv :: Ob.v (tSl (tI .i64)) best_64 bv_63 :: .box gf 25 [bv_63] :: .box gm 3 [.int .i64 many] :: Ob.v (tSl (tI .u32)) near nv :: .box gn 60 [nv] :: .box gt 52 (List.map (Value.int .i64) ts) :: .box gp 62 [.func (.func 19) #[] #[(.pointer (some ⟨gm, 0, none⟩)), (.pointer (some ⟨gf, 0, none⟩)), (.pointer (some ⟨gn, 0, none⟩)), (.pointer (some ⟨gt, 0, none⟩)), (.pointer (some ⟨gp, 0, none⟩))]] :: ob) := St.pull (pre := [Ob.v (tSl (tI .i64)) best_64 bv_63, .box gf 25 [bv_63], .box gm 3 [.int .i64 many], Ob.v (tSl (tI .u32)) near nv, .box gn 60 [nv], .box gt 52 (List.map (Value.int .i64) ts), .box gp 62 [.func (.func 19) #[] #[(.pointer (some ⟨gm, 0, none⟩)), (.pointer (some ⟨gf, 0, none⟩)), (.pointer (some ⟨gn, 0, none⟩)), (.pointer (some ⟨gt, 0, none⟩)), (.pointer (some ⟨gp, 0, none⟩))]]]) (A := [Ob.v (tSl (tI .i64)) (l ++ [p]) v_57, Ob.v (tSl (tI .i64)) l (.slice ad_54 l.length l.length), .row (tI .i64) 3 v_47 [p], Ob.v (tSl (tI .i64)) l lv]) (R := ob) hS
              refine Wx.nil ⟨(St.sub hS (.cons _ (.cons _ (.cons _ (.cons _ (.cons _ (.cons _ (List.Sublist.cons_cons _ (List.Sublist.cons_cons _ (List.Sublist.cons_cons _ (List.Sublist.cons_cons _ (List.Sublist.cons_cons _ (List.nil_sublist _))))))))))))), ?_⟩
              refine Wz.rd (v := .bool (putR near pts many fuel (l ++ [p]) (bits .or .u32 met (IntKind.u32.wrap (1 * 2 ^ min p.toNat (IntKind.u32).bits))))) 35 rfl (by kernel_rfl) (St.sub hS (.cons _ (.cons _ (.cons _ (.cons _ (.cons _ (.cons _ (List.Sublist.cons_cons _ (List.Sublist.cons_cons _ (List.Sublist.cons_cons _ (List.Sublist.cons_cons _ (List.Sublist.cons_cons _ (List.nil_sublist _))))))))))))) (fun _ hS => (rd_pickT rfl rfl)) rfl ?_
              refine Wz.done (by kernel_rfl) ?_
              refine ⟨(putR near pts many fuel (l ++ [p]) (bits .or .u32 met (IntKind.u32.wrap (1 * 2 ^ min p.toNat (IntKind.u32).bits))), bv_63, best_64), ?_, ?_, Out.look rfl Out.refl⟩
              · exact ⟨St.tl (St.tl (hS.tl)), (by exact (putS_b p_u2 (by assumption) (by assumption)).symm)⟩
              · exact ⟨rfl, trivial⟩
          · -- False
            have gp_65 := of_decide_eq_false g_25
            have hq1 := p_b _ (List.mem_of_getElem? (ix_get (d := 0) (xs := l) (n := (l.length : Int) - 1) (by omega) (by omega)))
            refine Wz.gyes (v := nv) 9 rfl (by kernel_rfl) (St.sub hS (.cons _ (.cons _ (.cons _ (List.Sublist.cons_cons _ (List.Sublist.cons_cons _ (List.Sublist.cons_cons _ (List.Sublist.cons_cons _ (List.Sublist.cons_cons _ (List.nil_sublist _)))))))))) rfl rfl (congrArg Value.bool g_25) (fun _ hS => (rd_loadX hS 2 rfl rfl rfl Tryz.isAgg60)) rfl ?_
            refine Wz.gyes (v := lv) 10 rfl (by kernel_rfl) (St.sub hS (.cons _ (.cons _ (.cons _ (List.Sublist.cons_cons _ (List.Sublist.cons_cons _ (List.Sublist.cons_cons _ (List.Sublist.cons_cons _ (List.Sublist.cons_cons _ (List.nil_sublist _)))))))))) rfl rfl (congrArg Value.bool g_25) (fun _ hS => (rd_move rfl)) rfl ?_
            refine Wz.gyes (v := .int .i64 (l.length : Int)) 11 rfl (by kernel_rfl) (St.sub hS (.cons _ (.cons _ (.cons _ (List.Sublist.cons_cons _ (List.Sublist.cons_cons _ (List.Sublist.cons_cons _ (List.Sublist.cons_cons _ (List.Sublist.cons_cons _ (List.nil_sublist _)))))))))) rfl rfl (congrArg Value.bool g_25) (fun _ hS => (rd_move rfl)) rfl ?_
            refine Wz.gyes (v := .int .i64 ((l.length : Int) - 1)) 12 rfl (by kernel_rfl) (St.sub hS (.cons _ (.cons _ (.cons _ (List.Sublist.cons_cons _ (List.Sublist.cons_cons _ (List.Sublist.cons_cons _ (List.Sublist.cons_cons _ (List.Sublist.cons_cons _ (List.nil_sublist _)))))))))) rfl rfl (congrArg Value.bool g_25) (fun _ hS => (rd_sub rfl rfl (in_i64 (by omega) (by omega)))) rfl ?_
            refine Wz.gyes (v := .int .i64 p) 17 rfl (by kernel_rfl) (St.sub hS (.cons _ (.cons _ (.cons _ (List.Sublist.cons_cons _ (List.Sublist.cons_cons _ (List.Sublist.cons_cons _ (List.Sublist.cons_cons _ (List.Sublist.cons_cons _ (List.nil_sublist _)))))))))) rfl rfl (congrArg Value.bool g_25) (fun _ hS => (rd_move rfl)) rfl ?_
            refine Wz.br [13] (by kernel_rfl) (by decide) ⟨⟨_, rfl, ?_⟩, trivial⟩
            refine Wx.gyes rfl rfl (congrArg Value.bool g_25) ?_
            refine Wx.ex (rd_index 0 (hS.v 0 rfl) rfl rfl Tryz.underlying25 Tryz.sizeOf3 (by first | omega | (simp only [List.length_set, List.length_append, List.length_cons, List.length_nil, List.length_replicate]; omega)) (by first | omega | (simp only [List.length_set, List.length_append, List.length_cons, List.length_nil, List.length_replicate]; omega))) rfl (fun p_66 hp_67 => ?_)
            refine Wx.nil ⟨(St.sub hS (.cons _ (.cons _ (.cons _ (List.Sublist.cons_cons _ (List.Sublist.cons_cons _ (List.Sublist.cons_cons _ (List.Sublist.cons_cons _ (List.Sublist.cons_cons _ (List.nil_sublist _)))))))))), ?_⟩
            refine Wz.br [14] (by kernel_rfl) (by decide) ⟨⟨_, rfl, ?_⟩, trivial⟩
            refine Wx.gyes rfl rfl (congrArg Value.bool g_25) ?_
            refine Wx.rd (v := .int .i64 (ix 0 l ((l.length : Int) - 1))) (rd_loadI hp_67 rfl Tryz.isAgg3 Tryz.sizeOf3) rfl ?_
            have bd_68 := bd_i64 hp_67.inK
            refine Wx.nil ⟨(St.sub hS (.cons _ (.cons _ (.cons _ (List.Sublist.cons_cons _ (List.Sublist.cons_cons _ (List.Sublist.cons_cons _ (List.Sublist.cons_cons _ (List.Sublist.cons_cons _ (List.nil_sublist _)))))))))), ?_⟩
            refine Wz.br [15] (by kernel_rfl) (by decide) ⟨⟨_, rfl, ?_⟩, trivial⟩
            refine Wx.gyes rfl rfl (congrArg Value.bool g_25) ?_
            refine Wx.ex (rd_index 0 (hS.v 4 rfl) rfl rfl Tryz.underlying60 Tryz.sizeOf63 (by first | omega | (simp only [List.length_set, List.length_append, List.length_cons, List.length_nil, List.length_replicate]; omega)) (by first | omega | (simp only [List.length_set, List.length_append, List.length_cons, List.length_nil, List.length_replicate]; omega))) rfl (fun p_69 hp_70 => ?_)
            refine Wx.nil ⟨(St.sub hS (.cons _ (.cons _ (.cons _ (List.Sublist.cons_cons _ (List.Sublist.cons_cons _ (List.Sublist.cons_cons _ (List.Sublist.cons_cons _ (List.Sublist.cons_cons _ (List.nil_sublist _)))))))))), ?_⟩
            refine Wz.br [16] (by kernel_rfl) (by decide) ⟨⟨_, rfl, ?_⟩, trivial⟩
            refine Wx.gyes rfl rfl (congrArg Value.bool g_25) ?_
            refine Wx.rd (v := .int .u32 (ix 0 near (ix 0 l ((l.length : Int) - 1)))) (rd_loadI hp_70 rfl Tryz.isAgg63 Tryz.sizeOf63) rfl ?_
            have bd_71 := bd_u32 hp_70.inK
            refine Wx.nil ⟨(St.sub hS (.cons _ (.cons _ (.cons _ (List.Sublist.cons_cons _ (List.Sublist.cons_cons _ (List.Sublist.cons_cons _ (List.Sublist.cons_cons _ (List.Sublist.cons_cons _ (List.nil_sublist _)))))))))), ?_⟩
            refine Wz.gyes (v := .int .u32 ((ix 0 near (ix 0 l ((l.length : Int) - 1))) / 2 ^ min p.toNat (IntKind.u32).bits)) 18 rfl (by kernel_rfl) (St.sub hS (.cons _ (.cons _ (.cons _ (List.Sublist.cons_cons _ (List.Sublist.cons_cons _ (List.Sublist.cons_cons _ (List.Sublist.cons_cons _ (List.Sublist.cons_cons _ (List.nil_sublist _)))))))))) rfl rfl (congrArg Value.bool g_25) (fun _ hS => (rd_shr rfl rfl (by omega))) rfl ?_
            refine Wz.gyes (v := .int .u32 (bits .and .u32 ((ix 0 near (ix 0 l ((l.length : Int) - 1))) / 2 ^ min p.toNat (IntKind.u32).bits) 1)) 19 rfl (by kernel_rfl) (St.sub hS (.cons _ (.cons _ (.cons _ (List.Sublist.cons_cons _ (List.Sublist.cons_cons _ (List.Sublist.cons_cons _ (List.Sublist.cons_cons _ (List.Sublist.cons_cons _ (List.nil_sublist _)))))))))) rfl rfl (congrArg Value.bool g_25) (fun _ hS => (rd_and rfl rfl)) rfl ?_
            have bd_72 := bd_u32 (bits_in .and .u32 ((ix 0 near (ix 0 l ((l.length : Int) - 1))) / 2 ^ min p.toNat (IntKind.u32).bits) 1)
            refine Wz.gyes (v := .bool (decide ((bits .and .u32 ((ix 0 near (ix 0 l ((l.length : Int) - 1))) / 2 ^ min p.toNat (IntKind.u32).bits) 1) = 1))) 20 rfl (by kernel_rfl) (St.sub hS (.cons _ (.cons _ (.cons _ (List.Sublist.cons_cons _ (List.Sublist.cons_cons _ (List.Sublist.cons_cons _ (List.Sublist.cons_cons _ (List.Sublist.cons_cons _ (List.nil_sublist _)))))))))) rfl rfl (congrArg Value.bool g_25) (fun _ hS => (rd_eql rfl rfl)) rfl ?_
            refine Wz.gyes (v := .bool (decide ((bits .and .u32 ((ix 0 near (ix 0 l ((l.length : Int) - 1))) / 2 ^ min p.toNat (IntKind.u32).bits) 1) = 1))) 21 rfl (by kernel_rfl) (St.sub hS (.cons _ (.cons _ (.cons _ (List.Sublist.cons_cons _ (List.Sublist.cons_cons _ (List.Sublist.cons_cons _ (List.Sublist.cons_cons _ (List.Sublist.cons_cons _ (List.nil_sublist _)))))))))) rfl rfl (congrArg Value.bool g_23) (fun _ hS => (rd_pickF (congrArg Value.bool g_25) rfl)) rfl ?_
            refine Wz.rd (v := .bool (decide ((bits .and .u32 ((ix 0 near (ix 0 l ((l.length : Int) - 1))) / 2 ^ min p.toNat (IntKind.u32).bits) 1) = 1))) 22 rfl (by kernel_rfl) (St.sub hS (.cons _ (.cons _ (.cons _ (List.Sublist.cons_cons _ (List.Sublist.cons_cons _ (List.Sublist.cons_cons _ (List.Sublist.cons_cons _ (List.Sublist.cons_cons _ (List.nil_sublist _)))))))))) (fun _ hS => (rd_pickT (congrArg Value.bool g_23) rfl)) rfl ?_
            refine Wz.rd (v := .bool (decide ((bits .and .u32 ((ix 0 near (ix 0 l ((l.length : Int) - 1))) / 2 ^ min p.toNat (IntKind.u32).bits) 1) = 1))) 23 rfl (by kernel_rfl) (St.sub hS (.cons _ (.cons _ (.cons _ (List.Sublist.cons_cons _ (List.Sublist.cons_cons _ (List.Sublist.cons_cons _ (List.Sublist.cons_cons _ (List.Sublist.cons_cons _ (List.nil_sublist _)))))))))) (fun _ hS => (rd_move rfl)) rfl ?_
            rcases Bool.eq_false_or_eq_true (decide ((bits .and .u32 ((ix 0 near (ix 0 l ((l.length : Int) - 1))) / 2 ^ min p.toNat (IntKind.u32).bits) 1) = 1)) with g_73 | g_73
            · -- True
              have gp_74 := of_decide_eq_true g_73
              refine Wz.gyes (v := .func (.func 19) #[] #[(.pointer (some ⟨gm, 0, none⟩)), (.pointer (some ⟨gf, 0, none⟩)), (.pointer (some ⟨gn, 0, none⟩)), (.pointer (some ⟨gt, 0, none⟩)), (.pointer (some ⟨gp, 0, none⟩))]) 24 rfl (by kernel_rfl) (St.sub hS (.cons _ (.cons _ (.cons _ (List.Sublist.cons_cons _ (List.Sublist.cons_cons _ (List.Sublist.cons_cons _ (List.Sublist.cons_cons _ (List.Sublist.cons_cons _ (List.nil_sublist _)))))))))) rfl rfl (congrArg Value.bool g_73) (fun _ hS => (rd_loadX hS 4 rfl rfl rfl Tryz.isAgg62)) rfl ?_
              refine Wz.gyes (v := lv) 25 rfl (by kernel_rfl) (St.sub hS (.cons _ (.cons _ (.cons _ (List.Sublist.cons_cons _ (List.Sublist.cons_cons _ (List.Sublist.cons_cons _ (List.Sublist.cons_cons _ (List.Sublist.cons_cons _ (List.nil_sublist _)))))))))) rfl rfl (congrArg Value.bool g_73) (fun _ hS => (rd_move rfl)) rfl ?_
              refine Wz.gyes (v := .int .i64 p) 27 rfl (by kernel_rfl) (St.sub hS (.cons _ (.cons _ (.cons _ (List.Sublist.cons_cons _ (List.Sublist.cons_cons _ (List.Sublist.cons_cons _ (List.Sublist.cons_cons _ (List.Sublist.cons_cons _ (List.nil_sublist _)))))))))) rfl rfl (congrArg Value.bool g_73) (fun _ hS => (rd_move rfl)) rfl ?_
              refine Wz.gyes (v := .int .u32 met) 30 rfl (by kernel_rfl) (St.sub hS (.cons _ (.cons _ (.cons _ (List.Sublist.cons_cons _ (List.Sublist.cons_cons _ (List.Sublist.cons_cons _ (List.Sublist.cons_cons _ (List.Sublist.cons_cons _ (List.nil_sublist _)))))))))) rfl rfl (congrArg Value.bool g_73) (fun _ hS => (rd_move rfl)) rfl ?_
              refine Wz.gyes (v := .int .i64 p) 31 rfl (by kernel_rfl) (St.sub hS (.cons _ (.cons _ (.cons _ (List.Sublist.cons_cons _ (List.Sublist.cons_cons _ (List.Sublist.cons_cons _ (List.Sublist.cons_cons _ (List.Sublist.cons_cons _ (List.nil_sublist _)))))))))) rfl rfl (congrArg Value.bool g_73) (fun _ hS => (rd_move rfl)) rfl ?_
              refine Wz.gyes (v := .int .u32 (IntKind.u32.wrap (1 * 2 ^ min p.toNat (IntKind.u32).bits))) 32 rfl (by kernel_rfl) (St.sub hS (.cons _ (.cons _ (.cons _ (List.Sublist.cons_cons _ (List.Sublist.cons_cons _ (List.Sublist.cons_cons _ (List.Sublist.cons_cons _ (List.Sublist.cons_cons _ (List.nil_sublist _)))))))))) rfl rfl (congrArg Value.bool g_73) (fun _ hS => (rd_shl rfl rfl (by omega))) rfl ?_
              have bd_75 := bd_u32 (wrap_inK .u32 (1 * 2 ^ min p.toNat (IntKind.u32).bits))
              refine Wz.gyes (v := .int .u32 (bits .or .u32 met (IntKind.u32.wrap (1 * 2 ^ min p.toNat (IntKind.u32).bits)))) 33 rfl (by kernel_rfl) (St.sub hS (.cons _ (.cons _ (.cons _ (List.Sublist.cons_cons _ (List.Sublist.cons_cons _ (List.Sublist.cons_cons _ (List.Sublist.cons_cons _ (List.Sublist.cons_cons _ (List.nil_sublist _)))))))))) rfl rfl (congrArg Value.bool g_73) (fun _ hS => (rd_or rfl rfl)) rfl ?_
              have bd_76 := bd_u32 (bits_in .or .u32 met (IntKind.u32.wrap (1 * 2 ^ min p.toNat (IntKind.u32).bits)))
              refine Wz.br [26, 28] (by kernel_rfl) (by decide) ⟨⟨_, rfl, ?_⟩, ⟨_, rfl, ?_⟩, trivial⟩
              · -- operation 26
                refine Wx.gyes rfl rfl (congrArg Value.bool g_73) ?_
                refine Wx.callF (run_callF Tryz.call20 rfl) (F20 (hS.v 0 rfl) hS.fb_lt) rfl ?_
                rintro r_77 w_78 hx_79 ⟨_, rfl, ⟨⟨ad_81, rfl⟩, hv_80⟩⟩
                have ln_83 := hv_80.len63
                have hS := hS.ext hx_79
                have hS := hS.add hv_80
                refine Wx.nil ⟨(St.sub hS (.cons _ (.cons _ (.cons _ (.cons _ (List.Sublist.cons_cons _ (List.Sublist.cons_cons _ (List.Sublist.cons_cons _ (List.Sublist.cons_cons _ (List.Sublist.cons_cons _ (List.nil_sublist _))))))))))), ?_⟩
                refine Wz.br [28] (by kernel_rfl) (by decide) ⟨⟨_, rfl, ?_⟩, trivial⟩
                refine Wx.gyes rfl rfl (congrArg Value.bool g_73) ?_
                refine Wx.lit (t := (tI .i64)) (ys := [p]) (vs := [.int .i64 p]) elGq_25 hS rfl rfl ⟨(V.mkInt (in_i64 (by omega) (by omega))), trivial⟩ (by decide) rfl (fun v_84 w_85 hx_86 hS => ?_)
                refine Wx.nil ⟨(St.sub hS (.cons _ (.cons _ (.cons _ (.cons _ (.cons _ (List.Sublist.cons_cons _ (List.Sublist.cons_cons _ (List.Sublist.cons_cons _ (List.Sublist.cons_cons _ (List.Sublist.cons_cons _ (List.nil_sublist _)))))))))))), ?_⟩
                refine Wz.br [29] (by kernel_rfl) (by decide) ⟨⟨_, rfl, ?_⟩, trivial⟩
                refine Wx.gyes rfl rfl (congrArg Value.bool g_73) ?_
                refine Wx.appendNew elGq_25 hS rfl (hS.v 1 rfl) rfl (Src.ofR hS 0 rfl) (by simp) (by simp only [maxLen]; first | omega | (simp; omega) | simp) (by first | omega | (simp; omega) | simp) rfl (fun v_87 w_88 hz_89 hS => ?_)
                refine Wx.nil ⟨(St.sub hS (.cons _ (.cons _ (.cons _ (.cons _ (.cons _ (.cons _ (List.Sublist.cons_cons _ (List.Sublist.cons_cons _ (List.Sublist.cons_cons _ (List.Sublist.cons_cons _ (List.Sublist.cons_cons _ (List.nil_sublist _))))))))))))), ?_⟩
                refine Wz.br [34] (by kernel_rfl) (by decide) ⟨⟨_, rfl, ?_⟩, trivial⟩
                refine Wx.gyes rfl rfl (congrArg Value.bool g_73) ?_
                have hS := hS.freeze 0 rfl
                have hbu := p_u
                have hL := V.pull (pre := [Ob.v (tSl (tI .i64)) (l ++ [p]) v_87, .row (tI .i64) 3 v_84 [p], Ob.v (tSl (tI .i64)) l (.slice ad_81 l.length l.length), Ob.v (tSl (tI .i64)) l lv]) (A := [Ob.v (tSl (tI .i64)) best2 bv2, .box gf 25 [bv2], .box gm 3 [.int .i64 many], Ob.v (tSl (tI .u32)) near nv, .box gn 60 [nv], .box gt 52 (List.map (Value.int .i64) ts), .box gp 62 [.func (.func 19) #[] #[(.pointer (some ⟨gm, 0, none⟩)), (.pointer (some ⟨gf, 0, none⟩)), (.pointer (some ⟨gn, 0, none⟩)), (.pointer (some ⟨gt, 0, none⟩)), (.pointer (some ⟨gp, 0, none⟩))]]]) (R := ob) (hS.v 0 rfl)
                have hP := St.pull (pre := [Ob.v (tSl (tI .i64)) (l ++ [p]) v_87, .row (tI .i64) 3 v_84 [p], Ob.v (tSl (tI .i64)) l (.slice ad_81 l.length l.length), Ob.v (tSl (tI .i64)) l lv]) (A := [Ob.v (tSl (tI .i64)) best2 bv2, .box gf 25 [bv2], .box gm 3 [.int .i64 many], Ob.v (tSl (tI .u32)) near nv, .box gn 60 [nv], .box gt 52 (List.map (Value.int .i64) ts), .box gp 62 [.func (.func 19) #[] #[(.pointer (some ⟨gm, 0, none⟩)), (.pointer (some ⟨gf, 0, none⟩)), (.pointer (some ⟨gn, 0, none⟩)), (.pointer (some ⟨gt, 0, none⟩)), (.pointer (some ⟨gp, 0, none⟩))]]]) (R := ob) hS
                refine Wx.callB (run_callC (fs := []) (cs := [(.pointer (some ⟨gm, 0, none⟩)), (.pointer (some ⟨gf, 0, none⟩)), (.pointer (some ⟨gn, 0, none⟩)), (.pointer (some ⟨gt, 0, none⟩)), (.pointer (some ⟨gp, 0, none⟩))]) (vs := [v_87, .int .u32 (bits .or .u32 met (IntKind.u32.wrap (1 * 2 ^ min p.toNat (IntKind.u32).bits))), (.pointer (some ⟨gm, 0, none⟩)), (.pointer (some ⟨gf, 0, none⟩)), (.pointer (some ⟨gn, 0, none⟩)), (.pointer (some ⟨gt, 0, none⟩)), (.pointer (some ⟨gp, 0, none⟩))]) Tryz.call19 rfl rfl) (IH (l := (l ++ [p])) (lv := v_87) (met := (bits .or .u32 met (IntKind.u32.wrap (1 * 2 ^ min p.toNat (IntKind.u32).bits)))) (best := best2) (bv := bv2) (ob := [Ob.v (tSl (tI .i64)) (l ++ [p]) v_87, .row (tI .i64) 3 v_84 [p], Ob.v (tSl (tI .i64)) l (.slice ad_81 l.length l.length), Ob.v (tSl (tI .i64)) l lv] ++ ob) p_n0 p_nn (by simp; omega) p_m9 (snoc_rng p_b (by omega)) (bits_in .or .u32 _ _) hP hL (by simp; omega)) rfl ?_
                rintro r_91 w_92 ⟨rfl, bv_93, best_94, hS⟩
                have hS : St w0 O w_92 (Ob.v (tSl (tI .i64)) (l ++ [p]) v_87 :: .row (tI .i64) 3 v_84 [p] :: Ob.v (tSl (tI .i64)) l (.slice ad_81 l.length l.length) :: Ob.v (tSl (tI .i64)) l lv :: Ob.v (tSl (tI .i64)) best_94 bv_93 :: .box gf 25 [bv_93] :: .box gm 3 [.int .i64 many] :: Ob.v (tSl (tI .u32)) near nv :: .box gn 60 [nv] :: .box gt 52 (List.map (Value.int .i64) ts) :: .box gp 62 [.func (.func 19) #[] #[(.pointer (some ⟨gm, 0, none⟩)), (.pointer (some ⟨gf, 0, none⟩)), (.pointer (some ⟨gn, 0, none⟩)), (.pointer (some ⟨gt, 0, none⟩)), (.pointer (some ⟨gp, 0, none⟩))]] :: ob) := St.pull (pre := [Ob.v (tSl (tI .i64)) best_94 bv_93, .box gf 25 [bv_93], .box gm 3 [.int .i64 many], Ob.v (tSl (tI .u32)) near nv, .box gn 60 [nv], .box gt 52 (List.map (Value.int .i64) ts), .box gp 62 [.func (.func 19) #[] #[(.pointer (some ⟨gm, 0, none⟩)), (.pointer (some ⟨gf, 0, none⟩)), (.pointer (some ⟨gn, 0, none⟩)), (.pointer (some ⟨gt, 0, none⟩)), (.pointer (some ⟨gp, 0, none⟩))]]]) (A := [Ob.v (tSl (tI .i64)) (l ++ [p]) v_87, .row (tI .i64) 3 v_84 [p], Ob.v (tSl (tI .i64)) l (.slice ad_81 l.length l.length), Ob.v (tSl (tI .i64)) l lv]) (R := ob) hS
                refine Wx.nil ⟨(St.sub hS (.cons _ (.cons _ (.cons _ (.cons _ (.cons _ (.cons _ (List.Sublist.cons_cons _ (List.Sublist.cons_cons _ (List.Sublist.cons_cons _ (List.Sublist.cons_cons _ (List.Sublist.cons_cons _ (List.nil_sublist _))))))))))))), ?_⟩
                refine Wz.rd (v := .bool (putR near pts many fuel (l ++ [p]) (bits .or .u32 met (IntKind.u32.wrap (1 * 2 ^ min p.toNat (IntKind.u32).bits))))) 35 rfl (by kernel_rfl) (St.sub hS (.cons _ (.cons _ (.cons _ (.cons _ (.cons _ (.cons _ (List.Sublist.cons_cons _ (List.Sublist.cons_cons _ (List.Sublist.cons_cons _ (List.Sublist.cons_cons _ (List.Sublist.cons_cons _ (List.nil_sublist _))))))))))))) (fun _ hS => (rd_pickT (congrArg Value.bool g_73) rfl)) rfl ?_
                refine Wz.done (by kernel_rfl) ?_
                refine ⟨(putR near pts many fuel (l ++ [p]) (bits .or .u32 met (IntKind.u32.wrap (1 * 2 ^ min p.toNat (IntKind.u32).bits))), bv_93, best_94), ?_, ?_, Out.look rfl Out.refl⟩
                · exact ⟨St.tl (St.tl (hS.tl)), (by exact (putS_c p_u2 (by assumption) (by assumption) (by assumption)).symm)⟩
                · exact ⟨rfl, trivial⟩
              · -- operation 28
                refine Wx.gyes rfl rfl (congrArg Value.bool g_73) ?_
                refine Wx.lit (t := (tI .i64)) (ys := [p]) (vs := [.int .i64 p]) elGq_25 hS rfl rfl ⟨(V.mkInt (in_i64 (by omega) (by omega))), trivial⟩ (by decide) rfl (fun v_95 w_96 hx_97 hS => ?_)
                refine Wx.nil ⟨(St.sub hS (.cons _ (.cons _ (.cons _ (.cons _ (List.Sublist.cons_cons _ (List.Sublist.cons_cons _ (List.Sublist.cons_cons _ (List.Sublist.cons_cons _ (List.Sublist.cons_cons _ (List.nil_sublist _))))))))))), ?_⟩
                refine Wz.br [26] (by kernel_rfl) (by decide) ⟨⟨_, rfl, ?_⟩, trivial⟩
                refine Wx.gyes rfl rfl (congrArg Value.bool g_73) ?_
                refine Wx.callF (run_callF Tryz.call20 rfl) (F20 (hS.v 1 rfl) hS.fb_lt) rfl ?_
                rintro r_98 w_99 hx_100 ⟨_, rfl, ⟨⟨ad_102, rfl⟩, hv_101⟩⟩
                have ln_104 := hv_101.len63
                have hS := hS.ext hx_100
                have hS := hS.add hv_101
                refine Wx.nil ⟨(St.sub hS (.cons _ (.cons _ (.cons _ (.cons _ (.cons _ (List.Sublist.cons_cons _ (List.Sublist.cons_cons _ (List.Sublist.cons_cons _ (List.Sublist.cons_cons _ (List.Sublist.cons_cons _ (List.nil_sublist _)))))))))))), ?_⟩
                refine Wz.br [29] (by kernel_rfl) (by decide) ⟨⟨_, rfl, ?_⟩, trivial⟩
                refine Wx.gyes rfl rfl (congrArg Value.bool g_73) ?_
                refine Wx.appendNew elGq_25 hS rfl (hS.v 0 rfl) rfl (Src.ofR hS 1 rfl) (by simp) (by simp only [maxLen]; first | omega | (simp; omega) | simp) (by first | omega | (simp; omega) | simp) rfl (fun v_105 w_106 hz_107 hS => ?_)
                refine Wx.nil ⟨(St.sub hS (.cons _ (.cons _ (.cons _ (.cons _ (.cons _ (.cons _ (List.Sublist.cons_cons _ (List.Sublist.cons_cons _ (List.Sublist.cons_cons _ (List.Sublist.cons_cons _ (List.Sublist.cons_cons _ (List.nil_sublist _))))))))))))), ?_⟩
                refine Wz.br [34] (by kernel_rfl) (by decide) ⟨⟨_, rfl, ?_⟩, trivial⟩
                refine Wx.gyes rfl rfl (congrArg Value.bool g_73) ?_
                have hS := hS.freeze 0 rfl
                have hbu := p_u
                have hL := V.pull (pre := [Ob.v (tSl (tI .i64)) (l ++ [p]) v_105, Ob.v (tSl (tI .i64)) l (.slice ad_102 l.length l.length), .row (tI .i64) 3 v_95 [p], Ob.v (tSl (tI .i64)) l lv]) (A := [Ob.v (tSl (tI .i64)) best2 bv2, .box gf 25 [bv2], .box gm 3 [.int .i64 many], Ob.v (tSl (tI .u32)) near nv, .box gn 60 [nv], .box gt 52 (List.map (Value.int .i64) ts), .box gp 62 [.func (.func 19) #[] #[(.pointer (some ⟨gm, 0, none⟩)), (.pointer (some ⟨gf, 0, none⟩)), (.pointer (some ⟨gn, 0, none⟩)), (.pointer (some ⟨gt, 0, none⟩)), (.pointer (some ⟨gp, 0, none⟩))]]]) (R := ob) (hS.v 0 rfl)
                have hP := St.pull (pre := [Ob.v (tSl (tI .i64)) (l ++ [p]) v_105, Ob.v (tSl (tI .i64)) l (.slice ad_102 l.length l.length), .row (tI .i64) 3 v_95 [p], Ob.v (tSl (tI .i64)) l lv]) (A := [Ob.v (tSl (tI .i64)) best2 bv2, .box gf 25 [bv2], .box gm 3 [.int .i64 many], Ob.v (tSl (tI .u32)) near nv, .box gn 60 [nv], .box gt 52 (List.map (Value.int .i64) ts), .box gp 62 [.func (.func 19) #[] #[(.pointer (some ⟨gm, 0, none⟩)), (.pointer (some ⟨gf, 0, none⟩)), (.pointer (some ⟨gn, 0, none⟩)), (.pointer (some ⟨gt, 0, none⟩)), (.pointer (some ⟨gp, 0, none⟩))]]]) (R := ob) hS
                refine Wx.callB (run_callC (fs := []) (cs := [(.pointer (some ⟨gm, 0, none⟩)), (.pointer (some ⟨gf, 0, none⟩)), (.pointer (some ⟨gn, 0, none⟩)), (.pointer (some ⟨gt, 0, none⟩)), (.pointer (some ⟨gp, 0, none⟩))]) (vs := [v_105, .int .u32 (bits .or .u32 met (IntKind.u32.wrap (1 * 2 ^ min p.toNat (IntKind.u32).bits))), (.pointer (some ⟨gm, 0, none⟩)), (.pointer (some ⟨gf, 0, none⟩)), (.pointer (some ⟨gn, 0, none⟩)), (.pointer (some ⟨gt, 0, none⟩)), (.pointer (some ⟨gp, 0, none⟩))]) Tryz.call19 rfl rfl) (IH (l := (l ++ [p])) (lv := v_105) (met := (bits .or .u32 met (IntKind.u32.wrap (1 * 2 ^ min p.toNat (IntKind.u32).bits)))) (best := best2) (bv := bv2) (ob := [Ob.v (tSl (tI .i64)) (l ++ [p]) v_105, Ob.v (tSl (tI .i64)) l (.slice ad_102 l.length l.length), .row (tI .i64) 3 v_95 [p], Ob.v (tSl (tI .i64)) l lv] ++ ob) p_n0 p_nn (by simp; omega) p_m9 (snoc_rng p_b (by omega)) (bits_in .or .u32 _ _) hP hL (by simp; omega)) rfl ?_
                rintro r_109 w_110 ⟨rfl, bv_111, best_112, hS⟩
                have hS : St w0 O w_110 (Ob.v (tSl (tI .i64)) (l ++ [p]) v_105 :: Ob.v (tSl (tI .i64)) l (.slice ad_102 l.length l.length) :: .row (tI .i64) 3 v_95 [p] :: Ob.v (tSl (tI .i64)) l lv :: Ob.v (tSl (tI .i64)) best_112 bv_111 :: .box gf 25 [bv_111] :: .box gm 3 [.int .i64 many] :: Ob.v (tSl (tI .u32)) near nv :: .box gn 60 [nv] :: .box gt 52 (List.map (Value.int .i64) ts) :: .box gp 62 [.func (.func 19) #[] #[(.pointer (some ⟨gm, 0, none⟩)), (.pointer (some ⟨gf, 0, none⟩)), (.pointer (some ⟨gn, 0, none⟩)), (.pointer (some ⟨gt, 0, none⟩)), (.pointer (some ⟨gp, 0, none⟩))]] :: ob) := St.pull (pre := [Ob.v (tSl (tI .i64)) best_112 bv_111, .box gf 25 [bv_111], .box gm 3 [.int .i64 many], Ob.v (tSl (tI .u32)) near nv, .box gn 60 [nv], .box gt 52 (List.map (Value.int .i64) ts), .box gp 62 [.func (.func 19) #[] #[(.pointer (some ⟨gm, 0, none⟩)), (.pointer (some ⟨gf, 0, none⟩)), (.pointer (some ⟨gn, 0, none⟩)), (.pointer (some ⟨gt, 0, none⟩)), (.pointer (some ⟨gp, 0, none⟩))]]]) (A := [Ob.v (tSl (tI .i64)) (l ++ [p]) v_105, Ob.v (tSl (tI .i64)) l (.slice ad_102 l.length l.length), .row (tI .i64) 3 v_95 [p], Ob.v (tSl (tI .i64)) l lv]) (R := ob) hS
                refine Wx.nil ⟨(St.sub hS (.cons _ (.cons _ (.cons _ (.cons _ (.cons _ (.cons _ (List.Sublist.cons_cons _ (List.Sublist.cons_cons _ (List.Sublist.cons_cons _ (List.Sublist.cons_cons _ (List.Sublist.cons_cons _ (List.nil_sublist _))))))))))))), ?_⟩
                refine Wz.rd (v := .bool (putR near pts many fuel (l ++ [p]) (bits .or .u32 met (IntKind.u32.wrap (1 * 2 ^ min p.toNat (IntKind.u32).bits))))) 35 rfl (by kernel_rfl) (St.sub hS (.cons _ (.cons _ (.cons _ (.cons _ (.cons _ (.cons _ (List.Sublist.cons_cons _ (List.Sublist.cons_cons _ (List.Sublist.cons_cons _ (List.Sublist.cons_cons _ (List.Sublist.cons_cons _ (List.nil_sublist _))))))))))))) (fun _ hS => (rd_pickT (congrArg Value.bool g_73) rfl)) rfl ?_
                refine Wz.done (by kernel_rfl) ?_
                refine ⟨(putR near pts many fuel (l ++ [p]) (bits .or .u32 met (IntKind.u32.wrap (1 * 2 ^ min p.toNat (IntKind.u32).bits))), bv_111, best_112), ?_, ?_, Out.look rfl Out.refl⟩
                · exact ⟨St.tl (St.tl (hS.tl)), (by exact (putS_c p_u2 (by assumption) (by assumption) (by assumption)).symm)⟩
                · exact ⟨rfl, trivial⟩
            · -- False
              have gp_113 := of_decide_eq_false g_73
              refine Wz.gnoB 24 rfl (by kernel_rfl) (St.sub hS (.cons _ (.cons _ (.cons _ (List.Sublist.cons_cons _ (List.Sublist.cons_cons _ (List.Sublist.cons_cons _ (List.Sublist.cons_cons _ (List.Sublist.cons_cons _ (List.nil_sublist _)))))))))) rfl rfl (congrArg Value.bool g_73) rfl rfl ?_
              refine Wz.gnoB 25 rfl (by kernel_rfl) (St.sub hS (.cons _ (.cons _ (.cons _ (List.Sublist.cons_cons _ (List.Sublist.cons_cons _ (List.Sublist.cons_cons _ (List.Sublist.cons_cons _ (List.Sublist.cons_cons _ (List.nil_sublist _)))))))))) rfl rfl (congrArg Value.bool g_73) rfl rfl ?_
              refine Wz.gnoB 26 rfl (by kernel_rfl) (St.sub hS (.cons _ (.cons _ (.cons _ (List.Sublist.cons_cons _ (List.Sublist.cons_cons _ (List.Sublist.cons_cons _ (List.Sublist.cons_cons _ (List.Sublist.cons_cons _ (List.nil_sublist _)))))))))) rfl rfl (congrArg Value.bool g_73) rfl rfl ?_
              refine Wz.gnoB 27 rfl (by kernel_rfl) (St.sub hS (.cons _ (.cons _ (.cons _ (List.Sublist.cons_cons _ (List.Sublist.cons_cons _ (List.Sublist.cons_cons _ (List.Sublist.cons_cons _ (List.Sublist.cons_cons _ (List.nil_sublist _)))))))))) rfl rfl (congrArg Value.bool g_73) rfl rfl ?_
              refine Wz.gnoB 28 rfl (by kernel_rfl) (St.sub hS (.cons _ (.cons _ (.cons _ (List.Sublist.cons_cons _ (List.Sublist.cons_cons _ (List.Sublist.cons_cons _ (List.Sublist.cons_cons _ (List.Sublist.cons_cons _ (List.nil_sublist _)))))))))) rfl rfl (congrArg Value.bool g_73) rfl rfl ?_
              refine Wz.gnoB 29 rfl (by kernel_rfl) (St.sub hS (.cons _ (.cons _ (.cons _ (List.Sublist.cons_cons _ (List.Sublist.cons_cons _ (List.Sublist.cons_cons _ (List.Sublist.cons_cons _ (List.Sublist.cons_cons _ (List.nil_sublist _)))))))))) rfl rfl (congrArg Value.bool g_73) rfl rfl ?_
              refine Wz.gnoB 30 rfl (by kernel_rfl) (St.sub hS (.cons _ (.cons _ (.cons _ (List.Sublist.cons_cons _ (List.Sublist.cons_cons _ (List.Sublist.cons_cons _ (List.Sublist.cons_cons _ (List.Sublist.cons_cons _ (List.nil_sublist _)))))))))) rfl rfl (congrArg Value.bool g_73) rfl rfl ?_
              refine Wz.gnoB 31 rfl (by kernel_rfl) (St.sub hS (.cons _ (.cons _ (.cons _ (List.Sublist.cons_cons _ (List.Sublist.cons_cons _ (List.Sublist.cons_cons _ (List.Sublist.cons_cons _ (List.Sublist.cons_cons _ (List.nil_sublist _)))))))))) rfl rfl (congrArg Value.bool g_73) rfl rfl ?_
              refine Wz.gnoB 32 rfl (by kernel_rfl) (St.sub hS (.cons _ (.cons _ (.cons _ (List.Sublist.cons_cons _ (List.Sublist.cons_cons _ (List.Sublist.cons_cons _ (List.Sublist.cons_cons _ (List.Sublist.cons_cons _ (List.nil_sublist _)))))))))) rfl rfl (congrArg Value.bool g_73) rfl rfl ?_
              refine Wz.gnoB 33 rfl (by kernel_rfl) (St.sub hS (.cons _ (.cons _ (.cons _ (List.Sublist.cons_cons _ (List.Sublist.cons_cons _ (List.Sublist.cons_cons _ (List.Sublist.cons_cons _ (List.Sublist.cons_cons _ (List.nil_sublist _)))))))))) rfl rfl (congrArg Value.bool g_73) rfl rfl ?_
              refine Wz.gnoB 34 rfl (by kernel_rfl) (St.sub hS (.cons _ (.cons _ (.cons _ (List.Sublist.cons_cons _ (List.Sublist.cons_cons _ (List.Sublist.cons_cons _ (List.Sublist.cons_cons _ (List.Sublist.cons_cons _ (List.nil_sublist _)))))))))) rfl rfl (congrArg Value.bool g_73) rfl rfl ?_
              refine Wz.rd (v := .bool false) 35 rfl (by kernel_rfl) (St.sub hS (.cons _ (.cons _ (.cons _ (List.Sublist.cons_cons _ (List.Sublist.cons_cons _ (List.Sublist.cons_cons _ (List.Sublist.cons_cons _ (List.Sublist.cons_cons _ (List.nil_sublist _)))))))))) (fun _ hS => (rd_pickF (congrArg Value.bool g_73) rfl)) rfl ?_
              refine Wz.done (by kernel_rfl) ?_
              refine ⟨(false, bv2, best2), ?_, ?_, Out.look rfl Out.refl⟩
              · exact ⟨hS, (by exact (putS_d p_u2 (by assumption) (by assumption) (by assumption)).symm)⟩
              · exact ⟨rfl, trivial⟩
        · -- False
          have gp_114 := of_decide_eq_false g_23
          refine Wz.gnoB 6 rfl (by kernel_rfl) (St.sub hS (.cons _ (.cons _ (.cons _ (List.Sublist.cons_cons _ (List.Sublist.cons_cons _ (List.Sublist.cons_cons _ (List.Sublist.cons_cons _ (List.Sublist.cons_cons _ (List.nil_sublist _)))))))))) rfl rfl (congrArg Value.bool g_23) rfl rfl ?_
          refine Wz.gnoB 7 rfl (by kernel_rfl) (St.sub hS (.cons _ (.cons _ (.cons _ (List.Sublist.cons_cons _ (List.Sublist.cons_cons _ (List.Sublist.cons_cons _ (List.Sublist.cons_cons _ (List.Sublist.cons_cons _ (List.nil_sublist _)))))))))) rfl rfl (congrArg Value.bool g_23) rfl rfl ?_
          refine Wz.gnoB 8 rfl (by kernel_rfl) (St.sub hS (.cons _ (.cons _ (.cons _ (List.Sublist.cons_cons _ (List.Sublist.cons_cons _ (List.Sublist.cons_cons _ (List.Sublist.cons_cons _ (List.Sublist.cons_cons _ (List.nil_sublist _)))))))))) rfl rfl (congrArg Value.bool g_23) rfl rfl ?_
          refine Wz.gno 9 rfl (by kernel_rfl) (St.sub hS (.cons _ (.cons _ (.cons _ (List.Sublist.cons_cons _ (List.Sublist.cons_cons _ (List.Sublist.cons_cons _ (List.Sublist.cons_cons _ (List.Sublist.cons_cons _ (List.nil_sublist _)))))))))) rfl rfl rfl rfl ?_
          refine Wz.gno 10 rfl (by kernel_rfl) (St.sub hS (.cons _ (.cons _ (.cons _ (List.Sublist.cons_cons _ (List.Sublist.cons_cons _ (List.Sublist.cons_cons _ (List.Sublist.cons_cons _ (List.Sublist.cons_cons _ (List.nil_sublist _)))))))))) rfl rfl rfl rfl ?_
          refine Wz.gno 11 rfl (by kernel_rfl) (St.sub hS (.cons _ (.cons _ (.cons _ (List.Sublist.cons_cons _ (List.Sublist.cons_cons _ (List.Sublist.cons_cons _ (List.Sublist.cons_cons _ (List.Sublist.cons_cons _ (List.nil_sublist _)))))))))) rfl rfl rfl rfl ?_
          refine Wz.gno 12 rfl (by kernel_rfl) (St.sub hS (.cons _ (.cons _ (.cons _ (List.Sublist.cons_cons _ (List.Sublist.cons_cons _ (List.Sublist.cons_cons _ (List.Sublist.cons_cons _ (List.Sublist.cons_cons _ (List.nil_sublist _)))))))))) rfl rfl rfl rfl ?_
          refine Wz.gno 13 rfl (by kernel_rfl) (St.sub hS (.cons _ (.cons _ (.cons _ (List.Sublist.cons_cons _ (List.Sublist.cons_cons _ (List.Sublist.cons_cons _ (List.Sublist.cons_cons _ (List.Sublist.cons_cons _ (List.nil_sublist _)))))))))) rfl rfl rfl rfl ?_
          refine Wz.gno 14 rfl (by kernel_rfl) (St.sub hS (.cons _ (.cons _ (.cons _ (List.Sublist.cons_cons _ (List.Sublist.cons_cons _ (List.Sublist.cons_cons _ (List.Sublist.cons_cons _ (List.Sublist.cons_cons _ (List.nil_sublist _)))))))))) rfl rfl rfl rfl ?_
          refine Wz.gno 15 rfl (by kernel_rfl) (St.sub hS (.cons _ (.cons _ (.cons _ (List.Sublist.cons_cons _ (List.Sublist.cons_cons _ (List.Sublist.cons_cons _ (List.Sublist.cons_cons _ (List.Sublist.cons_cons _ (List.nil_sublist _)))))))))) rfl rfl rfl rfl ?_
          refine Wz.gno 16 rfl (by kernel_rfl) (St.sub hS (.cons _ (.cons _ (.cons _ (List.Sublist.cons_cons _ (List.Sublist.cons_cons _ (List.Sublist.cons_cons _ (List.Sublist.cons_cons _ (List.Sublist.cons_cons _ (List.nil_sublist _)))))))))) rfl rfl rfl rfl ?_
          refine Wz.gno 17 rfl (by kernel_rfl) (St.sub hS (.cons _ (.cons _ (.cons _ (List.Sublist.cons_cons _ (List.Sublist.cons_cons _ (List.Sublist.cons_cons _ (List.Sublist.cons_cons _ (List.Sublist.cons_cons _ (List.nil_sublist _)))))))))) rfl rfl rfl rfl ?_
          refine Wz.gno 18 rfl (by kernel_rfl) (St.sub hS (.cons _ (.cons _ (.cons _ (List.Sublist.cons_cons _ (List.Sublist.cons_cons _ (List.Sublist.cons_cons _ (List.Sublist.cons_cons _ (List.Sublist.cons_cons _ (List.nil_sublist _)))))))))) rfl rfl rfl rfl ?_
          refine Wz.gno 19 rfl (by kernel_rfl) (St.sub hS (.cons _ (.cons _ (.cons _ (List.Sublist.cons_cons _ (List.Sublist.cons_cons _ (List.Sublist.cons_cons _ (List.Sublist.cons_cons _ (List.Sublist.cons_cons _ (List.nil_sublist _)))))))))) rfl rfl rfl rfl ?_
          refine Wz.gno 20 rfl (by kernel_rfl) (St.sub hS (.cons _ (.cons _ (.cons _ (List.Sublist.cons_cons _ (List.Sublist.cons_cons _ (List.Sublist.cons_cons _ (List.Sublist.cons_cons _ (List.Sublist.cons_cons _ (List.nil_sublist _)))))))))) rfl rfl rfl rfl ?_
          refine Wz.gnoB 21 rfl (by kernel_rfl) (St.sub hS (.cons _ (.cons _ (.cons _ (List.Sublist.cons_cons _ (List.Sublist.cons_cons _ (List.Sublist.cons_cons _ (List.Sublist.cons_cons _ (List.Sublist.cons_cons _ (List.nil_sublist _)))))))))) rfl rfl (congrArg Value.bool g_23) rfl rfl ?_
          refine Wz.rd (v := .bool false) 22 rfl (by kernel_rfl) (St.sub hS (.cons _ (.cons _ (.cons _ (List.Sublist.cons_cons _ (List.Sublist.cons_cons _ (List.Sublist.cons_cons _ (List.Sublist.cons_cons _ (List.Sublist.cons_cons _ (List.nil_sublist _)))))))))) (fun _ hS => (rd_pickF (congrArg Value.bool g_23) rfl)) rfl ?_
          refine Wz.rd (v := .bool false) 23 rfl (by kernel_rfl) (St.sub hS (.cons _ (.cons _ (.cons _ (List.Sublist.cons_cons _ (List.Sublist.cons_cons _ (List.Sublist.cons_cons _ (List.Sublist.cons_cons _ (List.Sublist.cons_cons _ (List.nil_sublist _)))))))))) (fun _ hS => (rd_move rfl)) rfl ?_
          refine Wz.gnoB 24 rfl (by kernel_rfl) (St.sub hS (.cons _ (.cons _ (.cons _ (List.Sublist.cons_cons _ (List.Sublist.cons_cons _ (List.Sublist.cons_cons _ (List.Sublist.cons_cons _ (List.Sublist.cons_cons _ (List.nil_sublist _)))))))))) rfl rfl rfl rfl rfl ?_
          refine Wz.gnoB 25 rfl (by kernel_rfl) (St.sub hS (.cons _ (.cons _ (.cons _ (List.Sublist.cons_cons _ (List.Sublist.cons_cons _ (List.Sublist.cons_cons _ (List.Sublist.cons_cons _ (List.Sublist.cons_cons _ (List.nil_sublist _)))))))))) rfl rfl rfl rfl rfl ?_
          refine Wz.gnoB 26 rfl (by kernel_rfl) (St.sub hS (.cons _ (.cons _ (.cons _ (List.Sublist.cons_cons _ (List.Sublist.cons_cons _ (List.Sublist.cons_cons _ (List.Sublist.cons_cons _ (List.Sublist.cons_cons _ (List.nil_sublist _)))))))))) rfl rfl rfl rfl rfl ?_
          refine Wz.gnoB 27 rfl (by kernel_rfl) (St.sub hS (.cons _ (.cons _ (.cons _ (List.Sublist.cons_cons _ (List.Sublist.cons_cons _ (List.Sublist.cons_cons _ (List.Sublist.cons_cons _ (List.Sublist.cons_cons _ (List.nil_sublist _)))))))))) rfl rfl rfl rfl rfl ?_
          refine Wz.gnoB 28 rfl (by kernel_rfl) (St.sub hS (.cons _ (.cons _ (.cons _ (List.Sublist.cons_cons _ (List.Sublist.cons_cons _ (List.Sublist.cons_cons _ (List.Sublist.cons_cons _ (List.Sublist.cons_cons _ (List.nil_sublist _)))))))))) rfl rfl rfl rfl rfl ?_
          refine Wz.gnoB 29 rfl (by kernel_rfl) (St.sub hS (.cons _ (.cons _ (.cons _ (List.Sublist.cons_cons _ (List.Sublist.cons_cons _ (List.Sublist.cons_cons _ (List.Sublist.cons_cons _ (List.Sublist.cons_cons _ (List.nil_sublist _)))))))))) rfl rfl rfl rfl rfl ?_
          refine Wz.gnoB 30 rfl (by kernel_rfl) (St.sub hS (.cons _ (.cons _ (.cons _ (List.Sublist.cons_cons _ (List.Sublist.cons_cons _ (List.Sublist.cons_cons _ (List.Sublist.cons_cons _ (List.Sublist.cons_cons _ (List.nil_sublist _)))))))))) rfl rfl rfl rfl rfl ?_
          refine Wz.gnoB 31 rfl (by kernel_rfl) (St.sub hS (.cons _ (.cons _ (.cons _ (List.Sublist.cons_cons _ (List.Sublist.cons_cons _ (List.Sublist.cons_cons _ (List.Sublist.cons_cons _ (List.Sublist.cons_cons _ (List.nil_sublist _)))))))))) rfl rfl rfl rfl rfl ?_
          refine Wz.gnoB 32 rfl (by kernel_rfl) (St.sub hS (.cons _ (.cons _ (.cons _ (List.Sublist.cons_cons _ (List.Sublist.cons_cons _ (List.Sublist.cons_cons _ (List.Sublist.cons_cons _ (List.Sublist.cons_cons _ (List.nil_sublist _)))))))))) rfl rfl rfl rfl rfl ?_
          refine Wz.gnoB 33 rfl (by kernel_rfl) (St.sub hS (.cons _ (.cons _ (.cons _ (List.Sublist.cons_cons _ (List.Sublist.cons_cons _ (List.Sublist.cons_cons _ (List.Sublist.cons_cons _ (List.Sublist.cons_cons _ (List.nil_sublist _)))))))))) rfl rfl rfl rfl rfl ?_
          refine Wz.gnoB 34 rfl (by kernel_rfl) (St.sub hS (.cons _ (.cons _ (.cons _ (List.Sublist.cons_cons _ (List.Sublist.cons_cons _ (List.Sublist.cons_cons _ (List.Sublist.cons_cons _ (List.Sublist.cons_cons _ (List.nil_sublist _)))))))))) rfl rfl rfl rfl rfl ?_
          refine Wz.rd (v := .bool false) 35 rfl (by kernel_rfl) (St.sub hS (.cons _ (.cons _ (.cons _ (List.Sublist.cons_cons _ (List.Sublist.cons_cons _ (List.Sublist.cons_cons _ (List.Sublist.cons_cons _ (List.Sublist.cons_cons _ (List.nil_sublist _)))))))))) (fun _ hS => (rd_pickF rfl rfl)) rfl ?_
          refine Wz.done (by kernel_rfl) ?_
          refine ⟨(false, bv2, best2), ?_, ?_, Out.look rfl Out.refl⟩
          · exact ⟨hS, (by exact (putS_a p_u2 (by assumption)).symm)⟩
          · exact ⟨rfl, trivial⟩
      rintro ⟨b72, bv3, best3⟩ u_116 w_115 ⟨hS, j1⟩
      refine W.cond rfl (fun c2 => ?_) (fun c2 => ?_)
      · -- yes
        try simp only [Bool.and_eq_true, Bool.or_eq_true, Bool.not_eq_true', Bool.and_eq_false_iff, Bool.or_eq_false_iff, Bool.not_eq_false', decide_eq_true_eq, decide_eq_false_iff_not, not_or, Bool.false_eq_true, Bool.true_eq_false, false_or, or_false, not_false_eq_true] at c2
        refine W.seq ?_
        refine W.reg ?_
        refine Wx.rd (v := .bool true) (rd_assign rfl) rfl ?_
        refine Wx.nil ?_
        exact W.ret ⟨.bool true, ResIs.one, congrArg Value.bool (by rw [put_more c0]; exact (any_hit (n := pts) h0 (by omega) (by rw [← j1]; exact c2)).symm), _, _, (St.tl hS)⟩
      · -- no
        try simp only [Bool.and_eq_true, Bool.or_eq_true, Bool.not_eq_true', Bool.and_eq_false_iff, Bool.or_eq_false_iff, Bool.not_eq_false', decide_eq_true_eq, decide_eq_false_iff_not, not_or, Bool.false_eq_true, Bool.true_eq_false, false_or, or_false, not_false_eq_true] at c2
        refine W.skip ?_
        refine W.reg ?_
        refine Wx.rd (v := .int .i64 (p + 1)) (rd_add rfl rfl (in_i64 (by omega) (by omega))) rfl ?_
        refine Wx.rd (v := .int .i64 (p + 1)) (rd_move rfl) rfl ?_
        refine Wx.nil ?_
        refine ⟨(p + 1, bv3, best3), (by show (pts - (p + 1)).toNat < (pts - p).toNat; omega), ?_, ?_, Out.look rfl (Out.hav rfl (Out.look rfl Out.self))⟩
        · exact ⟨hS, (by first | omega | assumption), (by first | omega | assumption), (any_next h0 h2 (by rw [← j1]; exact c2))⟩
        · exact ⟨rfl, trivial⟩
    · -- no
      refine W.exit rfl ?_
      refine W.seq ?_
      refine W.reg ?_
      refine Wx.rd (v := .bool false) (rd_assign rfl) rfl ?_
      refine Wx.nil ?_
      exact W.ret ⟨.bool false, ResIs.one, congrArg Value.bool (by rw [put_more c0]; exact (by rw [show p = pts by omega] at h2; exact h2.symm)), _, _, (St.tl hS)⟩
end Go.Proofs.YtdpdlplkngggoaaGreatDoor
