/-
  WHAT IS PROVED HERE: what functions of layer 3 hand back, each out of its own code; the conditions stand in each statement.
-/
import Derived.Test.YtjmpojoimcljoaaProg
import Derived.Test.YtjmpojoimcljoaaWk9
import Derived.Test.YtjmpojoimcljoaaSpec6
import Derived.Test.YtjmpojoimcljoaaFa
import Derived.Test.YtjmpojoimcljoaaGa
import Derived.Test.YtjmpojoimcljoaaGb
import Derived.Test.YtjmpojoimcljoaaSpec7
namespace Go.Proofs.Ytjmpojoimcljoaa
open Go.Wk Go.RowKit
set_option linter.unusedVariables false
set_option linter.unusedSimpArgs false


theorem F44 {n : Int} {fe : FuncId} {fs cs : List Value} {Tl : List (List Int) → List Ob → Prop} {ls : List (List Int)} {ob : List Ob} {w0 w : World} {O : List (Option Nat)} (hcall : ∀ args w, (callFunc fe args).run Try.prog w = .ok (.enter fe args) w) (hE : EachIn Try.prog fe fs cs n Tl) (p_0 : 0 ≤ n) (p_7 : n ≤ 7) (hT : Tl ls ob) (hS : St w0 O w ob) : Calls Try.prog 44 #[.int .i64 n, .func (.func fe) fs.toArray cs.toArray] w (Bk fun r w' => r = .tuple #[] ∧ ∃ ob', Tl (ls ++ allL n) ob' ∧ St w0 O w' ob') := by
  refine enterB Try.func44 rfl Try.ntmps44 Try.results44 rfl ?_
  refine W.seq ?_
  refine W.reg ?_
  refine Wx.box (cs := [.int .i64 n]) hS rfl rfl rfl (fun g_1 w_2 hx_4 hb_3 hS => ?_)
  refine Wx.box (cs := [(.func (.func fe) fs.toArray cs.toArray)]) hS rfl rfl rfl (fun g_5 w_6 hx_8 hb_7 hS => ?_)
  refine Wx.nil ?_
  refine W.seq ?_
  refine W.reg ?_
  refine Wx.alloc (cs := [.nilFunc]) hS Try.zeroValue67 rfl rfl (fun g_9 w_10 hx_12 hb_11 hS => ?_)
  refine Wx.nil ?_
  refine W.seq ?_
  refine W.reg ?_
  refine Wx.rd (v := .func (.func 82) #[] #[.pointer (some ⟨g_1, 0, none⟩), .pointer (some ⟨g_5, 0, none⟩), .pointer (some ⟨g_9, 0, none⟩)]) (rd_makeFunc (vs := []) (us := [.pointer (some ⟨g_1, 0, none⟩), .pointer (some ⟨g_5, 0, none⟩), .pointer (some ⟨g_9, 0, none⟩)]) rfl rfl) rfl ?_
  refine Wx.storeX (cs' := [.func (.func 82) #[] #[.pointer (some ⟨g_1, 0, none⟩), .pointer (some ⟨g_5, 0, none⟩), .pointer (some ⟨g_9, 0, none⟩)]]) (ds := [.func (.func 82) #[] #[.pointer (some ⟨g_1, 0, none⟩), .pointer (some ⟨g_5, 0, none⟩), .pointer (some ⟨g_9, 0, none⟩)]]) hS 0 rfl rfl rfl rfl Try.sizeOf67 (Nat.le_of_ble_eq_true rfl) (one_cons rfl one_nil) rfl (fun w_13 hz_14 hS => ?_)
  refine Wx.nil ?_
  refine W.reg ?_
  refine Wx.rd (v := .func (.func 82) #[] #[.pointer (some ⟨g_1, 0, none⟩), .pointer (some ⟨g_5, 0, none⟩), .pointer (some ⟨g_9, 0, none⟩)]) (rd_loadX hS 0 rfl rfl rfl Try.isAgg67) rfl ?_
  have hP := (hS.front 1 rfl).front 2 rfl
  refine Wx.callB (run_callC (fs := []) (cs := [.pointer (some ⟨g_1, 0, none⟩), .pointer (some ⟨g_5, 0, none⟩), .pointer (some ⟨g_9, 0, none⟩)]) (vs := [(.slice none 0 0), .pointer (some ⟨g_1, 0, none⟩), .pointer (some ⟨g_5, 0, none⟩), .pointer (some ⟨g_9, 0, none⟩)]) Try.call82 rfl rfl) (F82 _ (l := []) (ls := ls) (Tl := Tl) (n := n) hcall hE p_0 p_7 (by simp; omega) (by simp) hT hP (V.nil (t := tI .i64)) (Nat.lt_succ_self _)) rfl ?_
  rintro r_15 w_16 ⟨rfl, ob_18, hT_17, hS⟩
  have hT := hT_17
  refine Wx.nil ?_
  exact ⟨.tuple #[], ResIs.zero, rfl, ob_18, by simpa [allL] using hT, (St.tl (St.tl (St.tl hS)))⟩
end Go.Proofs.Ytjmpojoimcljoaa
