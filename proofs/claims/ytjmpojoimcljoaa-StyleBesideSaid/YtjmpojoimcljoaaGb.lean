/-
  WHAT IS PROVED HERE: what functions of layer 3 hand back, each out of its own code; the conditions stand in each statement.
-/
import Derived.Test.YtjmpojoimcljoaaProg
import Derived.Test.YtjmpojoimcljoaaWk9
import Derived.Test.YtjmpojoimcljoaaSpec6
import Derived.Test.YtjmpojoimcljoaaFa
import Derived.Test.YtjmpojoimcljoaaGa
import Derived.Test.YtjmpojoimcljoaaSpec7
namespace Go.Proofs.Ytjmpojoimcljoaa
open Go.Wk Go.RowKit
set_option linter.unusedVariables false
set_option linter.unusedSimpArgs false
theorem mixedGb_ : Try.prog.follows .mixedOrders = true := by kernel_rfl
theorem elGb_28 : ElemI Try.prog 28 3 (.int .i64 0) 1 8 := ElemI.of Try.underlying28 (by kernel_rfl) (by first | rfl | kernel_rfl) (by decide)

theorem F82  : ∀ (fuel : Nat) {n : Int} {l : List Int} {lv : Value} {fe : FuncId} {fs cs : List Value} {Tl : List (List Int) → List Ob → Prop} {ls : List (List Int)} {gn ge gp : Nat} {ob : List Ob} {w0 w : World} {O : List (Option Nat)} (hcall : ∀ args w, (callFunc fe args).run Try.prog w = .ok (.enter fe args) w) (hE : EachIn Try.prog fe fs cs n Tl) (p_0 : 0 ≤ n) (p_7 : n ≤ 7) (p_l : (l.length : Int) ≤ n) (p_b : ∀ x ∈ l, 0 ≤ x ∧ x < n) (hT : Tl ls ob) (hS : St w0 O w (.box gn 3 [.int .i64 n] :: .box ge 67 [.func (.func fe) fs.toArray cs.toArray] :: .box gp 67 [.func (.func 82) #[] #[.pointer (some ⟨gn, 0, none⟩), .pointer (some ⟨ge, 0, none⟩), .pointer (some ⟨gp, 0, none⟩)]] :: ob)) (hv : V (tSl (tI .i64)) l lv (fb (.box gn 3 [.int .i64 n] :: .box ge 67 [.func (.func fe) fs.toArray cs.toArray] :: .box gp 67 [.func (.func 82) #[] #[.pointer (some ⟨gn, 0, none⟩), .pointer (some ⟨ge, 0, none⟩), .pointer (some ⟨gp, 0, none⟩)]] :: ob) O) w) (hfuel : (n - l.length).toNat < fuel), Calls Try.prog 82 #[lv, .pointer (some ⟨gn, 0, none⟩), .pointer (some ⟨ge, 0, none⟩), .pointer (some ⟨gp, 0, none⟩)] w (Bk fun r w' => r = .tuple #[] ∧ ∃ ob', Tl (ls ++ allG n (n - l.length).toNat l) ob' ∧ St w0 O w' (.box gn 3 [.int .i64 n] :: .box ge 67 [.func (.func fe) fs.toArray cs.toArray] :: .box gp 67 [.func (.func 82) #[] #[.pointer (some ⟨gn, 0, none⟩), .pointer (some ⟨ge, 0, none⟩), .pointer (some ⟨gp, 0, none⟩)]] :: ob')) := by
  intro fuel
  induction fuel with
  | zero => intros; omega
  | succ fuel IH =>
  intro n l lv fe fs cs Tl ls gn ge gp ob w0 w O hcall hE p_0 p_7 p_l p_b hT hS hv hfuel
  have hS := hS.add (hv)
  have ln_2 := (hS.v 0 rfl).len63
  refine enterB Try.func82 rfl Try.ntmps82 Try.results82 rfl ?_
  refine W.seq ?_
  refine W.seq ?_
  refine W.reg ?_
  refine Wx.rd (v := lv) (rd_move rfl) rfl ?_
  refine Wx.rd (v := .int .i64 (l.length : Int)) (rd_lenV rfl (hS.v 0 rfl) Try.underlying28) rfl ?_
  refine Wx.rd (v := .int .i64 n) (rd_loadX hS 1 rfl rfl rfl Try.isAgg3) rfl ?_
  refine Wx.rd (v := .bool (decide ((l.length : Int) = n))) (rd_eql rfl rfl) rfl ?_
  refine Wx.nil ?_
  refine W.condD rfl (fun c0 => ?_) (fun c0 => ?_)
  · -- yes
    refine W.seq ?_
    refine W.reg ?_
    refine Wx.rd (v := (.func (.func fe) fs.toArray cs.toArray)) (rd_loadX hS 2 rfl rfl rfl Try.isAgg67) rfl ?_
    refine Wx.rd (v := lv) (rd_move rfl) rfl ?_
    refine Wx.callB (run_callC (fs := fs) (cs := cs) (vs := fs ++ [lv] ++ cs) hcall rfl rfl) (hE ls l lv [Ob.v (tSl (tI .i64)) l lv, .box gn 3 [.int .i64 n], .box ge 67 [(.func (.func fe) fs.toArray cs.toArray)], .box gp 67 [.func (.func 82) #[] #[(.pointer (some ⟨gn, 0, none⟩)), (.pointer (some ⟨ge, 0, none⟩)), (.pointer (some ⟨gp, 0, none⟩))]]] ob w0 _ O (by omega) p_b hT hS (hS.v 0 rfl)) rfl ?_
    rintro r_3 w_4 ⟨rfl, ob_6, hT_5, hS⟩
    have hS : St w0 O w_4 (Ob.v (tSl (tI .i64)) l lv :: .box gn 3 [.int .i64 n] :: .box ge 67 [(.func (.func fe) fs.toArray cs.toArray)] :: .box gp 67 [.func (.func 82) #[] #[(.pointer (some ⟨gn, 0, none⟩)), (.pointer (some ⟨ge, 0, none⟩)), (.pointer (some ⟨gp, 0, none⟩))]] :: ob_6) := hS
    have hT := hT_5
    refine Wx.nil ?_
    exact W.ret ⟨.tuple #[], ResIs.zero, rfl, ob_6, by rw [show (n - l.length).toNat = 0 by omega]; exact hT, (St.tl hS)⟩
  · -- no
    obtain ⟨m, hm⟩ : ∃ m : Nat, (n - l.length).toNat = m + 1 := ⟨(n - l.length).toNat - 1, by omega⟩
    refine W.skip ?_
    refine W.seq ?_
    refine W.reg ?_
    refine Wx.rd (v := .int .i64 n) (rd_loadX hS 1 rfl rfl rfl Try.isAgg3) rfl ?_
    refine Wx.rd (v := .int .i64 0) (rd_move rfl) rfl ?_
    refine Wx.nil ?_
    refine W.block ?_
    refine W.loop [5, 14, 15, 16, 17, 18, 19, 20, 21, 22, 23, 24, 25, 26, 27, 28, 29, 30, 31, 32] (fun x : Int × (List Ob) × (List (List Int)) => match x with | (x, ot, ms) => [(14, .int .i64 x)]) (fun (x : Int × (List Ob) × (List (List Int))) w' => match x with | (x, ot, ms) => St w0 O w' (Ob.v (tSl (tI .i64)) l lv :: .box gn 3 [.int .i64 n] :: .box ge 67 [(.func (.func fe) fs.toArray cs.toArray)] :: .box gp 67 [.func (.func 82) #[] #[(.pointer (some ⟨gn, 0, none⟩)), (.pointer (some ⟨ge, 0, none⟩)), (.pointer (some ⟨gp, 0, none⟩))]] :: ot) ∧ 0 ≤ x ∧ x ≤ n ∧ ms ++ allX n (allG n m) l (n - x).toNat = ls ++ allX n (allG n m) l n.toNat ∧ Tl ms ot) (fun x : Int × (List Ob) × (List (List Int)) => match x with | (x, ot, ms) => (n - x).toNat) (0, ob, ls) ⟨rfl, trivial⟩ ⟨hS, (by first | omega | simp), (by first | omega | simp), (by rw [Int.sub_zero]), (hT)⟩ ?_
    rintro ⟨x, ot, ms⟩ u_8 w_7 ⟨hS, h0, h1, h2, h3⟩
    refine W.seq ?_
    refine W.reg ?_
    refine Wx.rd (v := .bool (decide (x < n))) (rd_lss rfl rfl) rfl ?_
    refine Wx.nil ?_
    refine W.seq ?_
    refine W.condD rfl (fun c1 => ?_) (fun c1 => ?_)
    · -- yes
      refine W.skip ?_
      refine W.seq ?_
      refine W.block ?_
      refine W.seq ?_
      refine W.reg ?_
      refine Wx.rd (v := .int .i64 x) (rd_move rfl) rfl ?_
      refine Wx.rd (v := .int .i64 x) (rd_assign rfl) rfl ?_
      refine Wx.nil ?_
      refine W.seq ?_
      refine W.reg ?_
      refine Wx.rd (v := lv) (rd_move rfl) rfl ?_
      refine Wx.rd (v := .int .i64 x) (rd_move rfl) rfl ?_
      refine Wx.callF (run_callF Try.call57 rfl) (F57 (hS.v 0 rfl) (in_i64 (by omega) (by omega))) rfl ?_
      rintro r_9 w_10 hx_11 rfl
      have hS := hS.ext hx_11
      refine Wx.rd (v := .bool (!(hasL l x))) (rd_not rfl) rfl ?_
      refine Wx.nil ?_
      refine W.cond rfl (fun c2 => ?_) (fun c2 => ?_)
      · -- yes
        try simp only [Bool.and_eq_true, Bool.or_eq_true, Bool.not_eq_true', Bool.and_eq_false_iff, Bool.or_eq_false_iff, Bool.not_eq_false', decide_eq_true_eq, decide_eq_false_iff_not, not_or, Bool.false_eq_true, Bool.true_eq_false, false_or, or_false, not_false_eq_true] at c2
        refine W.regP mixedGb_ (fun w_12 hx_13 => ?_)
        have hS := hS.ext hx_13
        refine Wp.rd (v := lv) 1 rfl (by kernel_rfl) (fun _ => (rd_move rfl)) rfl ?_
        refine Wp.rd (v := lv) 2 rfl (by kernel_rfl) (fun _ => (rd_move rfl)) rfl ?_
        refine Wp.rd (v := .int .i64 (l.length : Int)) 3 rfl (by kernel_rfl) (fun _ => (rd_lenV rfl (hS.v 0 rfl) Try.underlying28)) rfl ?_
        refine Wp.rd (v := lv) 4 rfl (by kernel_rfl) (fun _ => (rd_move rfl)) rfl ?_
        refine Wp.rd (v := .int .i64 (l.length : Int)) 5 rfl (by kernel_rfl) (fun _ => (rd_lenV rfl (hS.v 0 rfl) Try.underlying28)) rfl ?_
        refine Wp.rd (v := .int .i64 x) 7 rfl (by kernel_rfl) (fun _ => (rd_move rfl)) rfl ?_
        refine Wp.br [0, 6, 8] (by kernel_rfl) (by decide) ⟨⟨_, rfl, ?_⟩, ⟨_, rfl, ?_⟩, ⟨_, rfl, ?_⟩, trivial⟩
        · -- operation 0
          refine Wx.rd (v := .func (.func 82) #[] #[(.pointer (some ⟨gn, 0, none⟩)), (.pointer (some ⟨ge, 0, none⟩)), (.pointer (some ⟨gp, 0, none⟩))]) (rd_loadX hS 3 rfl rfl rfl Try.isAgg67) rfl ?_
          refine Wx.nil ?_
          refine Wp.br [6, 8] (by kernel_rfl) (by decide) ⟨⟨_, rfl, ?_⟩, ⟨_, rfl, ?_⟩, trivial⟩
          · -- operation 6
            refine Wx.ex (rd_clip (hS.v 0 rfl) Try.underlying28 Try.sizeOf3 rfl rfl rfl rfl rfl) rfl (fun u_14 hu_u_14 => ?_)
            obtain ⟨ad_16, rfl, hv_17⟩ := hu_u_14
            have hS := hS.add hv_17
            refine Wx.nil ?_
            refine Wp.br [8] (by kernel_rfl) (by decide) ⟨⟨_, rfl, ?_⟩, trivial⟩
            refine Wx.lit (t := (tI .i64)) (ys := [x]) (vs := [.int .i64 x]) elGb_28 hS rfl rfl ⟨(V.mkInt (in_i64 (by omega) (by omega))), trivial⟩ (by decide) rfl (fun v_19 w_20 hx_21 hS => ?_)
            refine Wx.nil ?_
            refine Wp.br [9] (by kernel_rfl) (by decide) ⟨⟨_, rfl, ?_⟩, trivial⟩
            refine Wx.appendNew elGb_28 hS rfl (hS.v 1 rfl) rfl (Src.ofR hS 0 rfl) (by simp) (by simp only [maxLen]; simp; omega) (by simp; omega) rfl (fun v_22 w_23 hz_24 hS => ?_)
            refine Wx.nil ?_
            refine Wp.br [10] (by kernel_rfl) (by decide) ⟨⟨_, rfl, ?_⟩, trivial⟩
            have hS := hS.freeze 0 rfl
            have hL := V.pull (pre := [Ob.v (tSl (tI .i64)) (l ++ [x]) v_22, .row (tI .i64) 3 v_19 [x], Ob.v (tSl (tI .i64)) l (.slice ad_16 l.length l.length), Ob.v (tSl (tI .i64)) l lv]) (A := [.box gn 3 [.int .i64 n], .box ge 67 [(.func (.func fe) fs.toArray cs.toArray)], .box gp 67 [.func (.func 82) #[] #[(.pointer (some ⟨gn, 0, none⟩)), (.pointer (some ⟨ge, 0, none⟩)), (.pointer (some ⟨gp, 0, none⟩))]]]) (R := ot) (hS.v 0 rfl)
            have hP := St.pull (pre := [Ob.v (tSl (tI .i64)) (l ++ [x]) v_22, .row (tI .i64) 3 v_19 [x], Ob.v (tSl (tI .i64)) l (.slice ad_16 l.length l.length), Ob.v (tSl (tI .i64)) l lv]) (A := [.box gn 3 [.int .i64 n], .box ge 67 [(.func (.func fe) fs.toArray cs.toArray)], .box gp 67 [.func (.func 82) #[] #[(.pointer (some ⟨gn, 0, none⟩)), (.pointer (some ⟨ge, 0, none⟩)), (.pointer (some ⟨gp, 0, none⟩))]]]) (R := ot) hS
            refine Wx.callB (run_callC (fs := []) (cs := [(.pointer (some ⟨gn, 0, none⟩)), (.pointer (some ⟨ge, 0, none⟩)), (.pointer (some ⟨gp, 0, none⟩))]) (vs := [v_22, (.pointer (some ⟨gn, 0, none⟩)), (.pointer (some ⟨ge, 0, none⟩)), (.pointer (some ⟨gp, 0, none⟩))]) Try.call82 rfl rfl) (IH (l := (l ++ [x])) (lv := v_22) (ls := ms) (Tl := fun ls ob => ∃ ob', ob = [Ob.v (tSl (tI .i64)) (l ++ [x]) v_22, .row (tI .i64) 3 v_19 [x], Ob.v (tSl (tI .i64)) l (.slice ad_16 l.length l.length), Ob.v (tSl (tI .i64)) l lv] ++ ob' ∧ Tl ls ob') (ob := [Ob.v (tSl (tI .i64)) (l ++ [x]) v_22, .row (tI .i64) 3 v_19 [x], Ob.v (tSl (tI .i64)) l (.slice ad_16 l.length l.length), Ob.v (tSl (tI .i64)) l lv] ++ ot) hcall (eachIn_pre hE [Ob.v (tSl (tI .i64)) (l ++ [x]) v_22, .row (tI .i64) 3 v_19 [x], Ob.v (tSl (tI .i64)) l (.slice ad_16 l.length l.length), Ob.v (tSl (tI .i64)) l lv]) p_0 p_7 (by simp; omega) (snoc_in p_b h0 (by omega)) ⟨_, rfl, h3⟩ hP hL (by simp; omega)) rfl ?_
            rintro r_26 w_27 ⟨rfl, _, ⟨ob_29, rfl, hT_28⟩, hS⟩
            have hS : St w0 O w_27 (Ob.v (tSl (tI .i64)) (l ++ [x]) v_22 :: .row (tI .i64) 3 v_19 [x] :: Ob.v (tSl (tI .i64)) l (.slice ad_16 l.length l.length) :: Ob.v (tSl (tI .i64)) l lv :: .box gn 3 [.int .i64 n] :: .box ge 67 [(.func (.func fe) fs.toArray cs.toArray)] :: .box gp 67 [.func (.func 82) #[] #[(.pointer (some ⟨gn, 0, none⟩)), (.pointer (some ⟨ge, 0, none⟩)), (.pointer (some ⟨gp, 0, none⟩))]] :: ob_29) := St.pull (pre := [.box gn 3 [.int .i64 n], .box ge 67 [(.func (.func fe) fs.toArray cs.toArray)], .box gp 67 [.func (.func 82) #[] #[(.pointer (some ⟨gn, 0, none⟩)), (.pointer (some ⟨ge, 0, none⟩)), (.pointer (some ⟨gp, 0, none⟩))]]]) (A := [Ob.v (tSl (tI .i64)) (l ++ [x]) v_22, .row (tI .i64) 3 v_19 [x], Ob.v (tSl (tI .i64)) l (.slice ad_16 l.length l.length), Ob.v (tSl (tI .i64)) l lv]) (R := ob_29) hS
            have hT := hT_28
            refine Wx.nil ?_
            refine Wp.done (by kernel_rfl) ?_
            refine W.reg ?_
            refine Wx.rd (v := .int .i64 (x + 1)) (rd_add rfl rfl (in_i64 (by omega) (by omega))) rfl ?_
            refine Wx.rd (v := .int .i64 (x + 1)) (rd_move rfl) rfl ?_
            refine Wx.nil ?_
            refine ⟨(x + 1, ob_29, ms ++ allG n (n - (l ++ [x]).length).toNat (l ++ [x])), (by show (n - (x + 1)).toNat < (n - x).toNat; omega), ?_, ?_, Out.look rfl Out.self⟩
            · exact ⟨St.tl (St.tl (hS.tl)), (by first | omega | assumption), (by first | omega | assumption), (by rw [← h2, allX_cons n _ l h0 c1]; first | (rw [if_neg (by rw [c2]; decide), show (n - (((l ++ [x]).length : Nat) : Int)).toNat = m by simp; omega, List.append_assoc]) | rw [if_pos c2, List.nil_append]), (by first | exact hT | exact h3)⟩
            · exact ⟨rfl, trivial⟩
          · -- operation 8
            refine Wx.lit (t := (tI .i64)) (ys := [x]) (vs := [.int .i64 x]) elGb_28 hS rfl rfl ⟨(V.mkInt (in_i64 (by omega) (by omega))), trivial⟩ (by decide) rfl (fun v_30 w_31 hx_32 hS => ?_)
            refine Wx.nil ?_
            refine Wp.br [6] (by kernel_rfl) (by decide) ⟨⟨_, rfl, ?_⟩, trivial⟩
            refine Wx.ex (rd_clip (hS.v 1 rfl) Try.underlying28 Try.sizeOf3 rfl rfl rfl rfl rfl) rfl (fun u_33 hu_u_33 => ?_)
            obtain ⟨ad_35, rfl, hv_36⟩ := hu_u_33
            have hS := hS.add hv_36
            refine Wx.nil ?_
            refine Wp.br [9] (by kernel_rfl) (by decide) ⟨⟨_, rfl, ?_⟩, trivial⟩
            refine Wx.appendNew elGb_28 hS rfl (hS.v 0 rfl) rfl (Src.ofR hS 1 rfl) (by simp) (by simp only [maxLen]; simp; omega) (by simp; omega) rfl (fun v_38 w_39 hz_40 hS => ?_)
            refine Wx.nil ?_
            refine Wp.br [10] (by kernel_rfl) (by decide) ⟨⟨_, rfl, ?_⟩, trivial⟩
            have hS := hS.freeze 0 rfl
            have hL := V.pull (pre := [Ob.v (tSl (tI .i64)) (l ++ [x]) v_38, Ob.v (tSl (tI .i64)) l (.slice ad_35 l.length l.length), .row (tI .i64) 3 v_30 [x], Ob.v (tSl (tI .i64)) l lv]) (A := [.box gn 3 [.int .i64 n], .box ge 67 [(.func (.func fe) fs.toArray cs.toArray)], .box gp 67 [.func (.func 82) #[] #[(.pointer (some ⟨gn, 0, none⟩)), (.pointer (some ⟨ge, 0, none⟩)), (.pointer (some ⟨gp, 0, none⟩))]]]) (R := ot) (hS.v 0 rfl)
            have hP := St.pull (pre := [Ob.v (tSl (tI .i64)) (l ++ [x]) v_38, Ob.v (tSl (tI .i64)) l (.slice ad_35 l.length l.length), .row (tI .i64) 3 v_30 [x], Ob.v (tSl (tI .i64)) l lv]) (A := [.box gn 3 [.int .i64 n], .box ge 67 [(.func (.func fe) fs.toArray cs.toArray)], .box gp 67 [.func (.func 82) #[] #[(.pointer (some ⟨gn, 0, none⟩)), (.pointer (some ⟨ge, 0, none⟩)), (.pointer (some ⟨gp, 0, none⟩))]]]) (R := ot) hS
            refine Wx.callB (run_callC (fs := []) (cs := [(.pointer (some ⟨gn, 0, none⟩)), (.pointer (some ⟨ge, 0, none⟩)), (.pointer (some ⟨gp, 0, none⟩))]) (vs := [v_38, (.pointer (some ⟨gn, 0, none⟩)), (.pointer (some ⟨ge, 0, none⟩)), (.pointer (some ⟨gp, 0, none⟩))]) Try.call82 rfl rfl) (IH (l := (l ++ [x])) (lv := v_38) (ls := ms) (Tl := fun ls ob => ∃ ob', ob = [Ob.v (tSl (tI .i64)) (l ++ [x]) v_38, Ob.v (tSl (tI .i64)) l (.slice ad_35 l.length l.length), .row (tI .i64) 3 v_30 [x], Ob.v (tSl (tI .i64)) l lv] ++ ob' ∧ Tl ls ob') (ob := [Ob.v (tSl (tI .i64)) (l ++ [x]) v_38, Ob.v (tSl (tI .i64)) l (.slice ad_35 l.length l.length), .row (tI .i64) 3 v_30 [x], Ob.v (tSl (tI .i64)) l lv] ++ ot) hcall (eachIn_pre hE [Ob.v (tSl (tI .i64)) (l ++ [x]) v_38, Ob.v (tSl (tI .i64)) l (.slice ad_35 l.length l.length), .row (tI .i64) 3 v_30 [x], Ob.v (tSl (tI .i64)) l lv]) p_0 p_7 (by simp; omega) (snoc_in p_b h0 (by omega)) ⟨_, rfl, h3⟩ hP hL (by simp; omega)) rfl ?_
            rintro r_42 w_43 ⟨rfl, _, ⟨ob_45, rfl, hT_44⟩, hS⟩
            have hS : St w0 O w_43 (Ob.v (tSl (tI .i64)) (l ++ [x]) v_38 :: Ob.v (tSl (tI .i64)) l (.slice ad_35 l.length l.length) :: .row (tI .i64) 3 v_30 [x] :: Ob.v (tSl (tI .i64)) l lv :: .box gn 3 [.int .i64 n] :: .box ge 67 [(.func (.func fe) fs.toArray cs.toArray)] :: .box gp 67 [.func (.func 82) #[] #[(.pointer (some ⟨gn, 0, none⟩)), (.pointer (some ⟨ge, 0, none⟩)), (.pointer (some ⟨gp, 0, none⟩))]] :: ob_45) := St.pull (pre := [.box gn 3 [.int .i64 n], .box ge 67 [(.func (.func fe) fs.toArray cs.toArray)], .box gp 67 [.func (.func 82) #[] #[(.pointer (some ⟨gn, 0, none⟩)), (.pointer (some ⟨ge, 0, none⟩)), (.pointer (some ⟨gp, 0, none⟩))]]]) (A := [Ob.v (tSl (tI .i64)) (l ++ [x]) v_38, Ob.v (tSl (tI .i64)) l (.slice ad_35 l.length l.length), .row (tI .i64) 3 v_30 [x], Ob.v (tSl (tI .i64)) l lv]) (R := ob_45) hS
            have hT := hT_44
            refine Wx.nil ?_
            refine Wp.done (by kernel_rfl) ?_
            refine W.reg ?_
            refine Wx.rd (v := .int .i64 (x + 1)) (rd_add rfl rfl (in_i64 (by omega) (by omega))) rfl ?_
            refine Wx.rd (v := .int .i64 (x + 1)) (rd_move rfl) rfl ?_
            refine Wx.nil ?_
            refine ⟨(x + 1, ob_45, ms ++ allG n (n - (l ++ [x]).length).toNat (l ++ [x])), (by show (n - (x + 1)).toNat < (n - x).toNat; omega), ?_, ?_, Out.look rfl Out.self⟩
            · exact ⟨St.tl (St.tl (hS.tl)), (by first | omega | assumption), (by first | omega | assumption), (by rw [← h2, allX_cons n _ l h0 c1]; first | (rw [if_neg (by rw [c2]; decide), show (n - (((l ++ [x]).length : Nat) : Int)).toNat = m by simp; omega, List.append_assoc]) | rw [if_pos c2, List.nil_append]), (by first | exact hT | exact h3)⟩
            · exact ⟨rfl, trivial⟩
        · -- operation 6
          refine Wx.ex (rd_clip (hS.v 0 rfl) Try.underlying28 Try.sizeOf3 rfl rfl rfl rfl rfl) rfl (fun u_46 hu_u_46 => ?_)
          obtain ⟨ad_48, rfl, hv_49⟩ := hu_u_46
          have hS := hS.add hv_49
          refine Wx.nil ?_
          refine Wp.br [0, 8] (by kernel_rfl) (by decide) ⟨⟨_, rfl, ?_⟩, ⟨_, rfl, ?_⟩, trivial⟩
          · -- operation 0
            refine Wx.rd (v := .func (.func 82) #[] #[(.pointer (some ⟨gn, 0, none⟩)), (.pointer (some ⟨ge, 0, none⟩)), (.pointer (some ⟨gp, 0, none⟩))]) (rd_loadX hS 4 rfl rfl rfl Try.isAgg67) rfl ?_
            refine Wx.nil ?_
            refine Wp.br [8] (by kernel_rfl) (by decide) ⟨⟨_, rfl, ?_⟩, trivial⟩
            refine Wx.lit (t := (tI .i64)) (ys := [x]) (vs := [.int .i64 x]) elGb_28 hS rfl rfl ⟨(V.mkInt (in_i64 (by omega) (by omega))), trivial⟩ (by decide) rfl (fun v_51 w_52 hx_53 hS => ?_)
            refine Wx.nil ?_
            refine Wp.br [9] (by kernel_rfl) (by decide) ⟨⟨_, rfl, ?_⟩, trivial⟩
            refine Wx.appendNew elGb_28 hS rfl (hS.v 1 rfl) rfl (Src.ofR hS 0 rfl) (by simp) (by simp only [maxLen]; simp; omega) (by simp; omega) rfl (fun v_54 w_55 hz_56 hS => ?_)
            refine Wx.nil ?_
            refine Wp.br [10] (by kernel_rfl) (by decide) ⟨⟨_, rfl, ?_⟩, trivial⟩
            have hS := hS.freeze 0 rfl
            have hL := V.pull (pre := [Ob.v (tSl (tI .i64)) (l ++ [x]) v_54, .row (tI .i64) 3 v_51 [x], Ob.v (tSl (tI .i64)) l (.slice ad_48 l.length l.length), Ob.v (tSl (tI .i64)) l lv]) (A := [.box gn 3 [.int .i64 n], .box ge 67 [(.func (.func fe) fs.toArray cs.toArray)], .box gp 67 [.func (.func 82) #[] #[(.pointer (some ⟨gn, 0, none⟩)), (.pointer (some ⟨ge, 0, none⟩)), (.pointer (some ⟨gp, 0, none⟩))]]]) (R := ot) (hS.v 0 rfl)
            have hP := St.pull (pre := [Ob.v (tSl (tI .i64)) (l ++ [x]) v_54, .row (tI .i64) 3 v_51 [x], Ob.v (tSl (tI .i64)) l (.slice ad_48 l.length l.length), Ob.v (tSl (tI .i64)) l lv]) (A := [.box gn 3 [.int .i64 n], .box ge 67 [(.func (.func fe) fs.toArray cs.toArray)], .box gp 67 [.func (.func 82) #[] #[(.pointer (some ⟨gn, 0, none⟩)), (.pointer (some ⟨ge, 0, none⟩)), (.pointer (some ⟨gp, 0, none⟩))]]]) (R := ot) hS
            refine Wx.callB (run_callC (fs := []) (cs := [(.pointer (some ⟨gn, 0, none⟩)), (.pointer (some ⟨ge, 0, none⟩)), (.pointer (some ⟨gp, 0, none⟩))]) (vs := [v_54, (.pointer (some ⟨gn, 0, none⟩)), (.pointer (some ⟨ge, 0, none⟩)), (.pointer (some ⟨gp, 0, none⟩))]) Try.call82 rfl rfl) (IH (l := (l ++ [x])) (lv := v_54) (ls := ms) (Tl := fun ls ob => ∃ ob', ob = [Ob.v (tSl (tI .i64)) (l ++ [x]) v_54, .row (tI .i64) 3 v_51 [x], Ob.v (tSl (tI .i64)) l (.slice ad_48 l.length l.length), Ob.v (tSl (tI .i64)) l lv] ++ ob' ∧ Tl ls ob') (ob := [Ob.v (tSl (tI .i64)) (l ++ [x]) v_54, .row (tI .i64) 3 v_51 [x], Ob.v (tSl (tI .i64)) l (.slice ad_48 l.length l.length), Ob.v (tSl (tI .i64)) l lv] ++ ot) hcall (eachIn_pre hE [Ob.v (tSl (tI .i64)) (l ++ [x]) v_54, .row (tI .i64) 3 v_51 [x], Ob.v (tSl (tI .i64)) l (.slice ad_48 l.length l.length), Ob.v (tSl (tI .i64)) l lv]) p_0 p_7 (by simp; omega) (snoc_in p_b h0 (by omega)) ⟨_, rfl, h3⟩ hP hL (by simp; omega)) rfl ?_
            rintro r_58 w_59 ⟨rfl, _, ⟨ob_61, rfl, hT_60⟩, hS⟩
            have hS : St w0 O w_59 (Ob.v (tSl (tI .i64)) (l ++ [x]) v_54 :: .row (tI .i64) 3 v_51 [x] :: Ob.v (tSl (tI .i64)) l (.slice ad_48 l.length l.length) :: Ob.v (tSl (tI .i64)) l lv :: .box gn 3 [.int .i64 n] :: .box ge 67 [(.func (.func fe) fs.toArray cs.toArray)] :: .box gp 67 [.func (.func 82) #[] #[(.pointer (some ⟨gn, 0, none⟩)), (.pointer (some ⟨ge, 0, none⟩)), (.pointer (some ⟨gp, 0, none⟩))]] :: ob_61) := St.pull (pre := [.box gn 3 [.int .i64 n], .box ge 67 [(.func (.func fe) fs.toArray cs.toArray)], .box gp 67 [.func (.func 82) #[] #[(.pointer (some ⟨gn, 0, none⟩)), (.pointer (some ⟨ge, 0, none⟩)), (.pointer (some ⟨gp, 0, none⟩))]]]) (A := [Ob.v (tSl (tI .i64)) (l ++ [x]) v_54, .row (tI .i64) 3 v_51 [x], Ob.v (tSl (tI .i64)) l (.slice ad_48 l.length l.length), Ob.v (tSl (tI .i64)) l lv]) (R := ob_61) hS
            have hT := hT_60
            refine Wx.nil ?_
            refine Wp.done (by kernel_rfl) ?_
            refine W.reg ?_
            refine Wx.rd (v := .int .i64 (x + 1)) (rd_add rfl rfl (in_i64 (by omega) (by omega))) rfl ?_
            refine Wx.rd (v := .int .i64 (x + 1)) (rd_move rfl) rfl ?_
            refine Wx.nil ?_
            refine ⟨(x + 1, ob_61, ms ++ allG n (n - (l ++ [x]).length).toNat (l ++ [x])), (by show (n - (x + 1)).toNat < (n - x).toNat; omega), ?_, ?_, Out.look rfl Out.self⟩
            · exact ⟨St.tl (St.tl (hS.tl)), (by first | omega | assumption), (by first | omega | assumption), (by rw [← h2, allX_cons n _ l h0 c1]; first | (rw [if_neg (by rw [c2]; decide), show (n - (((l ++ [x]).length : Nat) : Int)).toNat = m by simp; omega, List.append_assoc]) | rw [if_pos c2, List.nil_append]), (by first | exact hT | exact h3)⟩
            · exact ⟨rfl, trivial⟩
          · -- operation 8
            refine Wx.lit (t := (tI .i64)) (ys := [x]) (vs := [.int .i64 x]) elGb_28 hS rfl rfl ⟨(V.mkInt (in_i64 (by omega) (by omega))), trivial⟩ (by decide) rfl (fun v_62 w_63 hx_64 hS => ?_)
            refine Wx.nil ?_
            refine Wp.br [0, 9] (by kernel_rfl) (by decide) ⟨⟨_, rfl, ?_⟩, ⟨_, rfl, ?_⟩, trivial⟩
            · -- operation 0
              refine Wx.rd (v := .func (.func 82) #[] #[(.pointer (some ⟨gn, 0, none⟩)), (.pointer (some ⟨ge, 0, none⟩)), (.pointer (some ⟨gp, 0, none⟩))]) (rd_loadX hS 5 rfl rfl rfl Try.isAgg67) rfl ?_
              refine Wx.nil ?_
              refine Wp.br [9] (by kernel_rfl) (by decide) ⟨⟨_, rfl, ?_⟩, trivial⟩
              refine Wx.appendNew elGb_28 hS rfl (hS.v 1 rfl) rfl (Src.ofR hS 0 rfl) (by simp) (by simp only [maxLen]; simp; omega) (by simp; omega) rfl (fun v_65 w_66 hz_67 hS => ?_)
              refine Wx.nil ?_
              refine Wp.br [10] (by kernel_rfl) (by decide) ⟨⟨_, rfl, ?_⟩, trivial⟩
              have hS := hS.freeze 0 rfl
              have hL := V.pull (pre := [Ob.v (tSl (tI .i64)) (l ++ [x]) v_65, .row (tI .i64) 3 v_62 [x], Ob.v (tSl (tI .i64)) l (.slice ad_48 l.length l.length), Ob.v (tSl (tI .i64)) l lv]) (A := [.box gn 3 [.int .i64 n], .box ge 67 [(.func (.func fe) fs.toArray cs.toArray)], .box gp 67 [.func (.func 82) #[] #[(.pointer (some ⟨gn, 0, none⟩)), (.pointer (some ⟨ge, 0, none⟩)), (.pointer (some ⟨gp, 0, none⟩))]]]) (R := ot) (hS.v 0 rfl)
              have hP := St.pull (pre := [Ob.v (tSl (tI .i64)) (l ++ [x]) v_65, .row (tI .i64) 3 v_62 [x], Ob.v (tSl (tI .i64)) l (.slice ad_48 l.length l.length), Ob.v (tSl (tI .i64)) l lv]) (A := [.box gn 3 [.int .i64 n], .box ge 67 [(.func (.func fe) fs.toArray cs.toArray)], .box gp 67 [.func (.func 82) #[] #[(.pointer (some ⟨gn, 0, none⟩)), (.pointer (some ⟨ge, 0, none⟩)), (.pointer (some ⟨gp, 0, none⟩))]]]) (R := ot) hS
              refine Wx.callB (run_callC (fs := []) (cs := [(.pointer (some ⟨gn, 0, none⟩)), (.pointer (some ⟨ge, 0, none⟩)), (.pointer (some ⟨gp, 0, none⟩))]) (vs := [v_65, (.pointer (some ⟨gn, 0, none⟩)), (.pointer (some ⟨ge, 0, none⟩)), (.pointer (some ⟨gp, 0, none⟩))]) Try.call82 rfl rfl) (IH (l := (l ++ [x])) (lv := v_65) (ls := ms) (Tl := fun ls ob => ∃ ob', ob = [Ob.v (tSl (tI .i64)) (l ++ [x]) v_65, .row (tI .i64) 3 v_62 [x], Ob.v (tSl (tI .i64)) l (.slice ad_48 l.length l.length), Ob.v (tSl (tI .i64)) l lv] ++ ob' ∧ Tl ls ob') (ob := [Ob.v (tSl (tI .i64)) (l ++ [x]) v_65, .row (tI .i64) 3 v_62 [x], Ob.v (tSl (tI .i64)) l (.slice ad_48 l.length l.length), Ob.v (tSl (tI .i64)) l lv] ++ ot) hcall (eachIn_pre hE [Ob.v (tSl (tI .i64)) (l ++ [x]) v_65, .row (tI .i64) 3 v_62 [x], Ob.v (tSl (tI .i64)) l (.slice ad_48 l.length l.length), Ob.v (tSl (tI .i64)) l lv]) p_0 p_7 (by simp; omega) (snoc_in p_b h0 (by omega)) ⟨_, rfl, h3⟩ hP hL (by simp; omega)) rfl ?_
              rintro r_69 w_70 ⟨rfl, _, ⟨ob_72, rfl, hT_71⟩, hS⟩
              have hS : St w0 O w_70 (Ob.v (tSl (tI .i64)) (l ++ [x]) v_65 :: .row (tI .i64) 3 v_62 [x] :: Ob.v (tSl (tI .i64)) l (.slice ad_48 l.length l.length) :: Ob.v (tSl (tI .i64)) l lv :: .box gn 3 [.int .i64 n] :: .box ge 67 [(.func (.func fe) fs.toArray cs.toArray)] :: .box gp 67 [.func (.func 82) #[] #[(.pointer (some ⟨gn, 0, none⟩)), (.pointer (some ⟨ge, 0, none⟩)), (.pointer (some ⟨gp, 0, none⟩))]] :: ob_72) := St.pull (pre := [.box gn 3 [.int .i64 n], .box ge 67 [(.func (.func fe) fs.toArray cs.toArray)], .box gp 67 [.func (.func 82) #[] #[(.pointer (some ⟨gn, 0, none⟩)), (.pointer (some ⟨ge, 0, none⟩)), (.pointer (some ⟨gp, 0, none⟩))]]]) (A := [Ob.v (tSl (tI .i64)) (l ++ [x]) v_65, .row (tI .i64) 3 v_62 [x], Ob.v (tSl (tI .i64)) l (.slice ad_48 l.length l.length), Ob.v (tSl (tI .i64)) l lv]) (R := ob_72) hS
              have hT := hT_71
              refine Wx.nil ?_
              refine Wp.done (by kernel_rfl) ?_
              refine W.reg ?_
              refine Wx.rd (v := .int .i64 (x + 1)) (rd_add rfl rfl (in_i64 (by omega) (by omega))) rfl ?_
              refine Wx.rd (v := .int .i64 (x + 1)) (rd_move rfl) rfl ?_
              refine Wx.nil ?_
              refine ⟨(x + 1, ob_72, ms ++ allG n (n - (l ++ [x]).length).toNat (l ++ [x])), (by show (n - (x + 1)).toNat < (n - x).toNat; omega), ?_, ?_, Out.look rfl Out.self⟩
              · exact ⟨St.tl (St.tl (hS.tl)), (by first | omega | assumption), (by first | omega | assumption), (by rw [← h2, allX_cons n _ l h0 c1]; first | (rw [if_neg (by rw [c2]; decide), show (n - (((l ++ [x]).length : Nat) : Int)).toNat = m by simp; omega, List.append_assoc]) | rw [if_pos c2, List.nil_append]), (by first | exact hT | exact h3)⟩
              · exact ⟨rfl, trivial⟩
            · -- operation 9
              refine Wx.appendNew elGb_28 hS rfl (hS.v 1 rfl) rfl (Src.ofR hS 0 rfl) (by simp) (by simp only [maxLen]; simp; omega) (by simp; omega) rfl (fun v_73 w_74 hz_75 hS => ?_)
              refine Wx.nil ?_
              refine Wp.br [0] (by kernel_rfl) (by decide) ⟨⟨_, rfl, ?_⟩, trivial⟩
              refine Wx.rd (v := .func (.func 82) #[] #[(.pointer (some ⟨gn, 0, none⟩)), (.pointer (some ⟨ge, 0, none⟩)), (.pointer (some ⟨gp, 0, none⟩))]) (rd_loadX hS 6 rfl rfl rfl Try.isAgg67) rfl ?_
              refine Wx.nil ?_
              refine Wp.br [10] (by kernel_rfl) (by decide) ⟨⟨_, rfl, ?_⟩, trivial⟩
              have hS := hS.freeze 0 rfl
              have hL := V.pull (pre := [Ob.v (tSl (tI .i64)) (l ++ [x]) v_73, .row (tI .i64) 3 v_62 [x], Ob.v (tSl (tI .i64)) l (.slice ad_48 l.length l.length), Ob.v (tSl (tI .i64)) l lv]) (A := [.box gn 3 [.int .i64 n], .box ge 67 [(.func (.func fe) fs.toArray cs.toArray)], .box gp 67 [.func (.func 82) #[] #[(.pointer (some ⟨gn, 0, none⟩)), (.pointer (some ⟨ge, 0, none⟩)), (.pointer (some ⟨gp, 0, none⟩))]]]) (R := ot) (hS.v 0 rfl)
              have hP := St.pull (pre := [Ob.v (tSl (tI .i64)) (l ++ [x]) v_73, .row (tI .i64) 3 v_62 [x], Ob.v (tSl (tI .i64)) l (.slice ad_48 l.length l.length), Ob.v (tSl (tI .i64)) l lv]) (A := [.box gn 3 [.int .i64 n], .box ge 67 [(.func (.func fe) fs.toArray cs.toArray)], .box gp 67 [.func (.func 82) #[] #[(.pointer (some ⟨gn, 0, none⟩)), (.pointer (some ⟨ge, 0, none⟩)), (.pointer (some ⟨gp, 0, none⟩))]]]) (R := ot) hS
              refine Wx.callB (run_callC (fs := []) (cs := [(.pointer (some ⟨gn, 0, none⟩)), (.pointer (some ⟨ge, 0, none⟩)), (.pointer (some ⟨gp, 0, none⟩))]) (vs := [v_73, (.pointer (some ⟨gn, 0, none⟩)), (.pointer (some ⟨ge, 0, none⟩)), (.pointer (some ⟨gp, 0, none⟩))]) Try.call82 rfl rfl) (IH (l := (l ++ [x])) (lv := v_73) (ls := ms) (Tl := fun ls ob => ∃ ob', ob = [Ob.v (tSl (tI .i64)) (l ++ [x]) v_73, .row (tI .i64) 3 v_62 [x], Ob.v (tSl (tI .i64)) l (.slice ad_48 l.length l.length), Ob.v (tSl (tI .i64)) l lv] ++ ob' ∧ Tl ls ob') (ob := [Ob.v (tSl (tI .i64)) (l ++ [x]) v_73, .row (tI .i64) 3 v_62 [x], Ob.v (tSl (tI .i64)) l (.slice ad_48 l.length l.length), Ob.v (tSl (tI .i64)) l lv] ++ ot) hcall (eachIn_pre hE [Ob.v (tSl (tI .i64)) (l ++ [x]) v_73, .row (tI .i64) 3 v_62 [x], Ob.v (tSl (tI .i64)) l (.slice ad_48 l.length l.length), Ob.v (tSl (tI .i64)) l lv]) p_0 p_7 (by simp; omega) (snoc_in p_b h0 (by omega)) ⟨_, rfl, h3⟩ hP hL (by simp; omega)) rfl ?_
              rintro r_77 w_78 ⟨rfl, _, ⟨ob_80, rfl, hT_79⟩, hS⟩
              have hS : St w0 O w_78 (Ob.v (tSl (tI .i64)) (l ++ [x]) v_73 :: .row (tI .i64) 3 v_62 [x] :: Ob.v (tSl (tI .i64)) l (.slice ad_48 l.length l.length) :: Ob.v (tSl (tI .i64)) l lv :: .box gn 3 [.int .i64 n] :: .box ge 67 [(.func (.func fe) fs.toArray cs.toArray)] :: .box gp 67 [.func (.func 82) #[] #[(.pointer (some ⟨gn, 0, none⟩)), (.pointer (some ⟨ge, 0, none⟩)), (.pointer (some ⟨gp, 0, none⟩))]] :: ob_80) := St.pull (pre := [.box gn 3 [.int .i64 n], .box ge 67 [(.func (.func fe) fs.toArray cs.toArray)], .box gp 67 [.func (.func 82) #[] #[(.pointer (some ⟨gn, 0, none⟩)), (.pointer (some ⟨ge, 0, none⟩)), (.pointer (some ⟨gp, 0, none⟩))]]]) (A := [Ob.v (tSl (tI .i64)) (l ++ [x]) v_73, .row (tI .i64) 3 v_62 [x], Ob.v (tSl (tI .i64)) l (.slice ad_48 l.length l.length), Ob.v (tSl (tI .i64)) l lv]) (R := ob_80) hS
              have hT := hT_79
              refine Wx.nil ?_
              refine Wp.done (by kernel_rfl) ?_
              refine W.reg ?_
              refine Wx.rd (v := .int .i64 (x + 1)) (rd_add rfl rfl (in_i64 (by omega) (by omega))) rfl ?_
              refine Wx.rd (v := .int .i64 (x + 1)) (rd_move rfl) rfl ?_
              refine Wx.nil ?_
              refine ⟨(x + 1, ob_80, ms ++ allG n (n - (l ++ [x]).length).toNat (l ++ [x])), (by show (n - (x + 1)).toNat < (n - x).toNat; omega), ?_, ?_, Out.look rfl Out.self⟩
              · exact ⟨St.tl (St.tl (hS.tl)), (by first | omega | assumption), (by first | omega | assumption), (by rw [← h2, allX_cons n _ l h0 c1]; first | (rw [if_neg (by rw [c2]; decide), show (n - (((l ++ [x]).length : Nat) : Int)).toNat = m by simp; omega, List.append_assoc]) | rw [if_pos c2, List.nil_append]), (by first | exact hT | exact h3)⟩
              · exact ⟨rfl, trivial⟩
        · -- operation 8
          refine Wx.lit (t := (tI .i64)) (ys := [x]) (vs := [.int .i64 x]) elGb_28 hS rfl rfl ⟨(V.mkInt (in_i64 (by omega) (by omega))), trivial⟩ (by decide) rfl (fun v_81 w_82 hx_83 hS => ?_)
          refine Wx.nil ?_
          refine Wp.br [0, 6] (by kernel_rfl) (by decide) ⟨⟨_, rfl, ?_⟩, ⟨_, rfl, ?_⟩, trivial⟩
          · -- operation 0
            refine Wx.rd (v := .func (.func 82) #[] #[(.pointer (some ⟨gn, 0, none⟩)), (.pointer (some ⟨ge, 0, none⟩)), (.pointer (some ⟨gp, 0, none⟩))]) (rd_loadX hS 4 rfl rfl rfl Try.isAgg67) rfl ?_
            refine Wx.nil ?_
            refine Wp.br [6] (by kernel_rfl) (by decide) ⟨⟨_, rfl, ?_⟩, trivial⟩
            refine Wx.ex (rd_clip (hS.v 1 rfl) Try.underlying28 Try.sizeOf3 rfl rfl rfl rfl rfl) rfl (fun u_84 hu_u_84 => ?_)
            obtain ⟨ad_86, rfl, hv_87⟩ := hu_u_84
            have hS := hS.add hv_87
            refine Wx.nil ?_
            refine Wp.br [9] (by kernel_rfl) (by decide) ⟨⟨_, rfl, ?_⟩, trivial⟩
            refine Wx.appendNew elGb_28 hS rfl (hS.v 0 rfl) rfl (Src.ofR hS 1 rfl) (by simp) (by simp only [maxLen]; simp; omega) (by simp; omega) rfl (fun v_89 w_90 hz_91 hS => ?_)
            refine Wx.nil ?_
            refine Wp.br [10] (by kernel_rfl) (by decide) ⟨⟨_, rfl, ?_⟩, trivial⟩
            have hS := hS.freeze 0 rfl
            have hL := V.pull (pre := [Ob.v (tSl (tI .i64)) (l ++ [x]) v_89, Ob.v (tSl (tI .i64)) l (.slice ad_86 l.length l.length), .row (tI .i64) 3 v_81 [x], Ob.v (tSl (tI .i64)) l lv]) (A := [.box gn 3 [.int .i64 n], .box ge 67 [(.func (.func fe) fs.toArray cs.toArray)], .box gp 67 [.func (.func 82) #[] #[(.pointer (some ⟨gn, 0, none⟩)), (.pointer (some ⟨ge, 0, none⟩)), (.pointer (some ⟨gp, 0, none⟩))]]]) (R := ot) (hS.v 0 rfl)
            have hP := St.pull (pre := [Ob.v (tSl (tI .i64)) (l ++ [x]) v_89, Ob.v (tSl (tI .i64)) l (.slice ad_86 l.length l.length), .row (tI .i64) 3 v_81 [x], Ob.v (tSl (tI .i64)) l lv]) (A := [.box gn 3 [.int .i64 n], .box ge 67 [(.func (.func fe) fs.toArray cs.toArray)], .box gp 67 [.func (.func 82) #[] #[(.pointer (some ⟨gn, 0, none⟩)), (.pointer (some ⟨ge, 0, none⟩)), (.pointer (some ⟨gp, 0, none⟩))]]]) (R := ot) hS
            refine Wx.callB (run_callC (fs := []) (cs := [(.pointer (some ⟨gn, 0, none⟩)), (.pointer (some ⟨ge, 0, none⟩)), (.pointer (some ⟨gp, 0, none⟩))]) (vs := [v_89, (.pointer (some ⟨gn, 0, none⟩)), (.pointer (some ⟨ge, 0, none⟩)), (.pointer (some ⟨gp, 0, none⟩))]) Try.call82 rfl rfl) (IH (l := (l ++ [x])) (lv := v_89) (ls := ms) (Tl := fun ls ob => ∃ ob', ob = [Ob.v (tSl (tI .i64)) (l ++ [x]) v_89, Ob.v (tSl (tI .i64)) l (.slice ad_86 l.length l.length), .row (tI .i64) 3 v_81 [x], Ob.v (tSl (tI .i64)) l lv] ++ ob' ∧ Tl ls ob') (ob := [Ob.v (tSl (tI .i64)) (l ++ [x]) v_89, Ob.v (tSl (tI .i64)) l (.slice ad_86 l.length l.length), .row (tI .i64) 3 v_81 [x], Ob.v (tSl (tI .i64)) l lv] ++ ot) hcall (eachIn_pre hE [Ob.v (tSl (tI .i64)) (l ++ [x]) v_89, Ob.v (tSl (tI .i64)) l (.slice ad_86 l.length l.length), .row (tI .i64) 3 v_81 [x], Ob.v (tSl (tI .i64)) l lv]) p_0 p_7 (by simp; omega) (snoc_in p_b h0 (by omega)) ⟨_, rfl, h3⟩ hP hL (by simp; omega)) rfl ?_
            rintro r_93 w_94 ⟨rfl, _, ⟨ob_96, rfl, hT_95⟩, hS⟩
            have hS : St w0 O w_94 (Ob.v (tSl (tI .i64)) (l ++ [x]) v_89 :: Ob.v (tSl (tI .i64)) l (.slice ad_86 l.length l.length) :: .row (tI .i64) 3 v_81 [x] :: Ob.v (tSl (tI .i64)) l lv :: .box gn 3 [.int .i64 n] :: .box ge 67 [(.func (.func fe) fs.toArray cs.toArray)] :: .box gp 67 [.func (.func 82) #[] #[(.pointer (some ⟨gn, 0, none⟩)), (.pointer (some ⟨ge, 0, none⟩)), (.pointer (some ⟨gp, 0, none⟩))]] :: ob_96) := St.pull (pre := [.box gn 3 [.int .i64 n], .box ge 67 [(.func (.func fe) fs.toArray cs.toArray)], .box gp 67 [.func (.func 82) #[] #[(.pointer (some ⟨gn, 0, none⟩)), (.pointer (some ⟨ge, 0, none⟩)), (.pointer (some ⟨gp, 0, none⟩))]]]) (A := [Ob.v (tSl (tI .i64)) (l ++ [x]) v_89, Ob.v (tSl (tI .i64)) l (.slice ad_86 l.length l.length), .row (tI .i64) 3 v_81 [x], Ob.v (tSl (tI .i64)) l lv]) (R := ob_96) hS
            have hT := hT_95
            refine Wx.nil ?_
            refine Wp.done (by kernel_rfl) ?_
            refine W.reg ?_
            refine Wx.rd (v := .int .i64 (x + 1)) (rd_add rfl rfl (in_i64 (by omega) (by omega))) rfl ?_
            refine Wx.rd (v := .int .i64 (x + 1)) (rd_move rfl) rfl ?_
            refine Wx.nil ?_
            refine ⟨(x + 1, ob_96, ms ++ allG n (n - (l ++ [x]).length).toNat (l ++ [x])), (by show (n - (x + 1)).toNat < (n - x).toNat; omega), ?_, ?_, Out.look rfl Out.self⟩
            · exact ⟨St.tl (St.tl (hS.tl)), (by first | omega | assumption), (by first | omega | assumption), (by rw [← h2, allX_cons n _ l h0 c1]; first | (rw [if_neg (by rw [c2]; decide), show (n - (((l ++ [x]).length : Nat) : Int)).toNat = m by simp; omega, List.append_assoc]) | rw [if_pos c2, List.nil_append]), (by first | exact hT | exact h3)⟩
            · exact ⟨rfl, trivial⟩
          · -- operation 6
            refine Wx.ex (rd_clip (hS.v 1 rfl) Try.underlying28 Try.sizeOf3 rfl rfl rfl rfl rfl) rfl (fun u_97 hu_u_97 => ?_)
            obtain ⟨ad_99, rfl, hv_100⟩ := hu_u_97
            have hS := hS.add hv_100
            refine Wx.nil ?_
            refine Wp.br [0, 9] (by kernel_rfl) (by decide) ⟨⟨_, rfl, ?_⟩, ⟨_, rfl, ?_⟩, trivial⟩
            · -- operation 0
              refine Wx.rd (v := .func (.func 82) #[] #[(.pointer (some ⟨gn, 0, none⟩)), (.pointer (some ⟨ge, 0, none⟩)), (.pointer (some ⟨gp, 0, none⟩))]) (rd_loadX hS 5 rfl rfl rfl Try.isAgg67) rfl ?_
              refine Wx.nil ?_
              refine Wp.br [9] (by kernel_rfl) (by decide) ⟨⟨_, rfl, ?_⟩, trivial⟩
              refine Wx.appendNew elGb_28 hS rfl (hS.v 0 rfl) rfl (Src.ofR hS 1 rfl) (by simp) (by simp only [maxLen]; simp; omega) (by simp; omega) rfl (fun v_102 w_103 hz_104 hS => ?_)
              refine Wx.nil ?_
              refine Wp.br [10] (by kernel_rfl) (by decide) ⟨⟨_, rfl, ?_⟩, trivial⟩
              have hS := hS.freeze 0 rfl
              have hL := V.pull (pre := [Ob.v (tSl (tI .i64)) (l ++ [x]) v_102, Ob.v (tSl (tI .i64)) l (.slice ad_99 l.length l.length), .row (tI .i64) 3 v_81 [x], Ob.v (tSl (tI .i64)) l lv]) (A := [.box gn 3 [.int .i64 n], .box ge 67 [(.func (.func fe) fs.toArray cs.toArray)], .box gp 67 [.func (.func 82) #[] #[(.pointer (some ⟨gn, 0, none⟩)), (.pointer (some ⟨ge, 0, none⟩)), (.pointer (some ⟨gp, 0, none⟩))]]]) (R := ot) (hS.v 0 rfl)
              have hP := St.pull (pre := [Ob.v (tSl (tI .i64)) (l ++ [x]) v_102, Ob.v (tSl (tI .i64)) l (.slice ad_99 l.length l.length), .row (tI .i64) 3 v_81 [x], Ob.v (tSl (tI .i64)) l lv]) (A := [.box gn 3 [.int .i64 n], .box ge 67 [(.func (.func fe) fs.toArray cs.toArray)], .box gp 67 [.func (.func 82) #[] #[(.pointer (some ⟨gn, 0, none⟩)), (.pointer (some ⟨ge, 0, none⟩)), (.pointer (some ⟨gp, 0, none⟩))]]]) (R := ot) hS
              refine Wx.callB (run_callC (fs := []) (cs := [(.pointer (some ⟨gn, 0, none⟩)), (.pointer (some ⟨ge, 0, none⟩)), (.pointer (some ⟨gp, 0, none⟩))]) (vs := [v_102, (.pointer (some ⟨gn, 0, none⟩)), (.pointer (some ⟨ge, 0, none⟩)), (.pointer (some ⟨gp, 0, none⟩))]) Try.call82 rfl rfl) (IH (l := (l ++ [x])) (lv := v_102) (ls := ms) (Tl := fun ls ob => ∃ ob', ob = [Ob.v (tSl (tI .i64)) (l ++ [x]) v_102, Ob.v (tSl (tI .i64)) l (.slice ad_99 l.length l.length), .row (tI .i64) 3 v_81 [x], Ob.v (tSl (tI .i64)) l lv] ++ ob' ∧ Tl ls ob') (ob := [Ob.v (tSl (tI .i64)) (l ++ [x]) v_102, Ob.v (tSl (tI .i64)) l (.slice ad_99 l.length l.length), .row (tI .i64) 3 v_81 [x], Ob.v (tSl (tI .i64)) l lv] ++ ot) hcall (eachIn_pre hE [Ob.v (tSl (tI .i64)) (l ++ [x]) v_102, Ob.v (tSl (tI .i64)) l (.slice ad_99 l.length l.length), .row (tI .i64) 3 v_81 [x], Ob.v (tSl (tI .i64)) l lv]) p_0 p_7 (by simp; omega) (snoc_in p_b h0 (by omega)) ⟨_, rfl, h3⟩ hP hL (by simp; omega)) rfl ?_
              rintro r_106 w_107 ⟨rfl, _, ⟨ob_109, rfl, hT_108⟩, hS⟩
              have hS : St w0 O w_107 (Ob.v (tSl (tI .i64)) (l ++ [x]) v_102 :: Ob.v (tSl (tI .i64)) l (.slice ad_99 l.length l.length) :: .row (tI .i64) 3 v_81 [x] :: Ob.v (tSl (tI .i64)) l lv :: .box gn 3 [.int .i64 n] :: .box ge 67 [(.func (.func fe) fs.toArray cs.toArray)] :: .box gp 67 [.func (.func 82) #[] #[(.pointer (some ⟨gn, 0, none⟩)), (.pointer (some ⟨ge, 0, none⟩)), (.pointer (some ⟨gp, 0, none⟩))]] :: ob_109) := St.pull (pre := [.box gn 3 [.int .i64 n], .box ge 67 [(.func (.func fe) fs.toArray cs.toArray)], .box gp 67 [.func (.func 82) #[] #[(.pointer (some ⟨gn, 0, none⟩)), (.pointer (some ⟨ge, 0, none⟩)), (.pointer (some ⟨gp, 0, none⟩))]]]) (A := [Ob.v (tSl (tI .i64)) (l ++ [x]) v_102, Ob.v (tSl (tI .i64)) l (.slice ad_99 l.length l.length), .row (tI .i64) 3 v_81 [x], Ob.v (tSl (tI .i64)) l lv]) (R := ob_109) hS
              have hT := hT_108
              refine Wx.nil ?_
              refine Wp.done (by kernel_rfl) ?_
              refine W.reg ?_
              refine Wx.rd (v := .int .i64 (x + 1)) (rd_add rfl rfl (in_i64 (by omega) (by omega))) rfl ?_
              refine Wx.rd (v := .int .i64 (x + 1)) (rd_move rfl) rfl ?_
              refine Wx.nil ?_
              refine ⟨(x + 1, ob_109, ms ++ allG n (n - (l ++ [x]).length).toNat (l ++ [x])), (by show (n - (x + 1)).toNat < (n - x).toNat; omega), ?_, ?_, Out.look rfl Out.self⟩
              · exact ⟨St.tl (St.tl (hS.tl)), (by first | omega | assumption), (by first | omega | assumption), (by rw [← h2, allX_cons n _ l h0 c1]; first | (rw [if_neg (by rw [c2]; decide), show (n - (((l ++ [x]).length : Nat) : Int)).toNat = m by simp; omega, List.append_assoc]) | rw [if_pos c2, List.nil_append]), (by first | exact hT | exact h3)⟩
              · exact ⟨rfl, trivial⟩
            · -- operation 9
              refine Wx.appendNew elGb_28 hS rfl (hS.v 0 rfl) rfl (Src.ofR hS 1 rfl) (by simp) (by simp only [maxLen]; simp; omega) (by simp; omega) rfl (fun v_110 w_111 hz_112 hS => ?_)
              refine Wx.nil ?_
              refine Wp.br [0] (by kernel_rfl) (by decide) ⟨⟨_, rfl, ?_⟩, trivial⟩
              refine Wx.rd (v := .func (.func 82) #[] #[(.pointer (some ⟨gn, 0, none⟩)), (.pointer (some ⟨ge, 0, none⟩)), (.pointer (some ⟨gp, 0, none⟩))]) (rd_loadX hS 6 rfl rfl rfl Try.isAgg67) rfl ?_
              refine Wx.nil ?_
              refine Wp.br [10] (by kernel_rfl) (by decide) ⟨⟨_, rfl, ?_⟩, trivial⟩
              have hS := hS.freeze 0 rfl
              have hL := V.pull (pre := [Ob.v (tSl (tI .i64)) (l ++ [x]) v_110, Ob.v (tSl (tI .i64)) l (.slice ad_99 l.length l.length), .row (tI .i64) 3 v_81 [x], Ob.v (tSl (tI .i64)) l lv]) (A := [.box gn 3 [.int .i64 n], .box ge 67 [(.func (.func fe) fs.toArray cs.toArray)], .box gp 67 [.func (.func 82) #[] #[(.pointer (some ⟨gn, 0, none⟩)), (.pointer (some ⟨ge, 0, none⟩)), (.pointer (some ⟨gp, 0, none⟩))]]]) (R := ot) (hS.v 0 rfl)
              have hP := St.pull (pre := [Ob.v (tSl (tI .i64)) (l ++ [x]) v_110, Ob.v (tSl (tI .i64)) l (.slice ad_99 l.length l.length), .row (tI .i64) 3 v_81 [x], Ob.v (tSl (tI .i64)) l lv]) (A := [.box gn 3 [.int .i64 n], .box ge 67 [(.func (.func fe) fs.toArray cs.toArray)], .box gp 67 [.func (.func 82) #[] #[(.pointer (some ⟨gn, 0, none⟩)), (.pointer (some ⟨ge, 0, none⟩)), (.pointer (some ⟨gp, 0, none⟩))]]]) (R := ot) hS
              refine Wx.callB (run_callC (fs := []) (cs := [(.pointer (some ⟨gn, 0, none⟩)), (.pointer (some ⟨ge, 0, none⟩)), (.pointer (some ⟨gp, 0, none⟩))]) (vs := [v_110, (.pointer (some ⟨gn, 0, none⟩)), (.pointer (some ⟨ge, 0, none⟩)), (.pointer (some ⟨gp, 0, none⟩))]) Try.call82 rfl rfl) (IH (l := (l ++ [x])) (lv := v_110) (ls := ms) (Tl := fun ls ob => ∃ ob', ob = [Ob.v (tSl (tI .i64)) (l ++ [x]) v_110, Ob.v (tSl (tI .i64)) l (.slice ad_99 l.length l.length), .row (tI .i64) 3 v_81 [x], Ob.v (tSl (tI .i64)) l lv] ++ ob' ∧ Tl ls ob') (ob := [Ob.v (tSl (tI .i64)) (l ++ [x]) v_110, Ob.v (tSl (tI .i64)) l (.slice ad_99 l.length l.length), .row (tI .i64) 3 v_81 [x], Ob.v (tSl (tI .i64)) l lv] ++ ot) hcall (eachIn_pre hE [Ob.v (tSl (tI .i64)) (l ++ [x]) v_110, Ob.v (tSl (tI .i64)) l (.slice ad_99 l.length l.length), .row (tI .i64) 3 v_81 [x], Ob.v (tSl (tI .i64)) l lv]) p_0 p_7 (by simp; omega) (snoc_in p_b h0 (by omega)) ⟨_, rfl, h3⟩ hP hL (by simp; omega)) rfl ?_
              rintro r_114 w_115 ⟨rfl, _, ⟨ob_117, rfl, hT_116⟩, hS⟩
              have hS : St w0 O w_115 (Ob.v (tSl (tI .i64)) (l ++ [x]) v_110 :: Ob.v (tSl (tI .i64)) l (.slice ad_99 l.length l.length) :: .row (tI .i64) 3 v_81 [x] :: Ob.v (tSl (tI .i64)) l lv :: .box gn 3 [.int .i64 n] :: .box ge 67 [(.func (.func fe) fs.toArray cs.toArray)] :: .box gp 67 [.func (.func 82) #[] #[(.pointer (some ⟨gn, 0, none⟩)), (.pointer (some ⟨ge, 0, none⟩)), (.pointer (some ⟨gp, 0, none⟩))]] :: ob_117) := St.pull (pre := [.box gn 3 [.int .i64 n], .box ge 67 [(.func (.func fe) fs.toArray cs.toArray)], .box gp 67 [.func (.func 82) #[] #[(.pointer (some ⟨gn, 0, none⟩)), (.pointer (some ⟨ge, 0, none⟩)), (.pointer (some ⟨gp, 0, none⟩))]]]) (A := [Ob.v (tSl (tI .i64)) (l ++ [x]) v_110, Ob.v (tSl (tI .i64)) l (.slice ad_99 l.length l.length), .row (tI .i64) 3 v_81 [x], Ob.v (tSl (tI .i64)) l lv]) (R := ob_117) hS
              have hT := hT_116
              refine Wx.nil ?_
              refine Wp.done (by kernel_rfl) ?_
              refine W.reg ?_
              refine Wx.rd (v := .int .i64 (x + 1)) (rd_add rfl rfl (in_i64 (by omega) (by omega))) rfl ?_
              refine Wx.rd (v := .int .i64 (x + 1)) (rd_move rfl) rfl ?_
              refine Wx.nil ?_
              refine ⟨(x + 1, ob_117, ms ++ allG n (n - (l ++ [x]).length).toNat (l ++ [x])), (by show (n - (x + 1)).toNat < (n - x).toNat; omega), ?_, ?_, Out.look rfl Out.self⟩
              · exact ⟨St.tl (St.tl (hS.tl)), (by first | omega | assumption), (by first | omega | assumption), (by rw [← h2, allX_cons n _ l h0 c1]; first | (rw [if_neg (by rw [c2]; decide), show (n - (((l ++ [x]).length : Nat) : Int)).toNat = m by simp; omega, List.append_assoc]) | rw [if_pos c2, List.nil_append]), (by first | exact hT | exact h3)⟩
              · exact ⟨rfl, trivial⟩
      · -- no
        try simp only [Bool.and_eq_true, Bool.or_eq_true, Bool.not_eq_true', Bool.and_eq_false_iff, Bool.or_eq_false_iff, Bool.not_eq_false', decide_eq_true_eq, decide_eq_false_iff_not, not_or, Bool.false_eq_true, Bool.true_eq_false, false_or, or_false, not_false_eq_true] at c2
        refine W.skip ?_
        refine W.reg ?_
        refine Wx.rd (v := .int .i64 (x + 1)) (rd_add rfl rfl (in_i64 (by omega) (by omega))) rfl ?_
        refine Wx.rd (v := .int .i64 (x + 1)) (rd_move rfl) rfl ?_
        refine Wx.nil ?_
        refine ⟨(x + 1, ot, ms), (by show (n - (x + 1)).toNat < (n - x).toNat; omega), ?_, ?_, Out.look rfl Out.self⟩
        · exact ⟨hS, (by first | omega | assumption), (by first | omega | assumption), (by rw [← h2, allX_cons n _ l h0 c1]; first | (rw [if_neg (by rw [c2]; decide), show (n - (((l ++ [x]).length : Nat) : Int)).toNat = m by simp; omega, List.append_assoc]) | rw [if_pos c2, List.nil_append]), (by first | exact hT | exact h3)⟩
        · exact ⟨rfl, trivial⟩
    · -- no
      refine W.exit rfl ?_
      exact ⟨.tuple #[], ResIs.zero, rfl, ot, by rw [hm, allG]; rw [show (n - x).toNat = 0 by omega, allX, List.append_nil] at h2; rw [← h2]; exact h3, (St.tl hS)⟩
end Go.Proofs.Ytjmpojoimcljoaa
