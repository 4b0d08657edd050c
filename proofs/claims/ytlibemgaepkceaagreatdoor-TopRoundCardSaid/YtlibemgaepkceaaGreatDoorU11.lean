/-
  WHAT IS PROVED HERE, TEXT BY TEXT (several texts of one prover, joined to one file; the conditions stand in each statement):
  * WHAT IS PROVED HERE: where the row's listed variables read as the program's text lays them, the package's list of other ends and the library's tables read as the walks want it. Conditions stand in each statement.
  * WHAT IS PROVED HERE: arrays of arrays of numbers as they are read at the start. Conditions: the types' closed facts, as hypotheses.
  * WHAT IS PROVED HERE: the given statement of TopRound: for every input it returns true, and each argument reads as it did. Conditions: none.
-/
import Derived.Test.YtlibemgaepkceaaGreatDoorRows
import Derived.Test.YtlibemgaepkceaaGreatDoorU6
import Derived.Lib.LaidCaseMet
import Derived.Lib.LaidRTab
import Derived.PinnedBridge
import Derived.ProofKit
import Derived.Lay
import Derived.LaidMore
import Derived.Deep.DeepHandedRow
import Derived.Test.YtlibemgaepkceaaGreatDoorU4
import Derived.Test.YtlibemgaepkceaaGreatDoorU10
import Derived.WalkKit
import Derived.OpenShut
import Derived.Carry
import Derived.Lib.SmallJoins
import Derived.Test.YtlibemgaepkceaaGreatDoorCards
import Derived.Test.YtlibemgaepkceaaGreatDoorTie
import Derived.SevenTiedAt
import Derived.Stop.Joined

set_option linter.unusedVariables false
set_option linter.unusedSimpArgs false

namespace Go.Proofs.YtlibemgaepkceaaGreatDoor
open Go.Wk Go.RowKit Go.Lib Go Go.Proofs
set_option maxRecDepth 100000

def theLaid : List (String × DataW Unit) := [("bellarmine/chart.others", Rows.laid_bellarmine_chart_others), ("unicode.properties", Rows.laid_unicode_properties), ("unicode.CaseRanges", Rows.laid_unicode_CaseRanges), ("unicode.Upper", Rows.laid_unicode_Upper)]
theorem gProps : ∃ g, Tryz.prog.globalNamed "unicode.properties" = some g ∧ ∃ t, (Tryz.prog.globals[g]?).map (·.type) = some t ∧ Tryz.prog.underlying t = some (.array 256 5) ∧ Tryz.prog.cellsOf t = 256 := by
  exact ⟨2, by kernel_rfl, 196, by kernel_rfl, by kernel_rfl, by kernel_rfl⟩
theorem gOth : Tryz.prog.globalNamed "bellarmine/chart.others" = some 0 ∧ ∃ t, (Tryz.prog.globals[0]?).map (·.type) = some t ∧ Tryz.prog.underlying t = some (.array 16 3) ∧ Tryz.prog.cellsOf t = 16 :=
  ⟨by kernel_rfl, 120, by kernel_rfl, by kernel_rfl, by kernel_rfl⟩
theorem props_eq : (Rows.laid_unicode_properties : DataW Unit) = tabData .u8 propertiesTab := by kernel_rfl
theorem oth_eq : (Rows.laid_bellarmine_chart_others : DataW Unit) = tabData .i64 othL := by kernel_rfl
theorem laid_of {W : World} (h : laidMetH Tryz.prog theLaid W) (hsh : W.ShapedOpen Tryz.prog) : Laid W := by
  have hL : laidMet Tryz.prog theLaid W := by rwa [MakeChecks.laidMetH_plain _ _ _ (by kernel_rfl)] at h
  have r1 := Lib.laidMet.reads hL (.head _)
  have r2 := Lib.laidMet.reads hL (.tail _ (.head _))
  have r3 := Lib.laidMet.reads hL (.tail _ (.tail _ (.head _)))
  have r4 := Lib.laidMet.reads hL (.tail _ (.tail _ (.tail _ (.head _))))
  rw [oth_eq] at r1
  rw [props_eq] at r2
  rw [show Rows.laid_unicode_CaseRanges = caseData from Pinned.caseRanges_eq] at r3
  rw [show Rows.laid_unicode_Upper = rtabData upperT from Pinned.upper_eq] at r4
  refine ⟨?_, ?_, ?_, ?_⟩
  · obtain ⟨hg, t, hty, ht, hct⟩ := gOth
    obtain ⟨g', t', cs, fuel, p, hg', ht', hvar, hd⟩ := r1
    obtain rfl := Option.some.inj (hg.symm.trans hg')
    obtain rfl := Option.some.inj (hty.symm.trans ht')
    have hc := cells_of_tab ht Tryz.underlying3 (by kernel_rfl) hct hd
    unfold World.var? at hvar
    rw [hg] at hvar
    simp only [Option.bind_some] at hvar
    split at hvar
    · rename_i cs' e fz hq
      obtain rfl := Option.some.inj hvar
      exact ⟨e, fz, by rw [hq, ← hc]⟩
    · cases hvar
  · obtain ⟨g, hg, t, hty, ht, hct⟩ := gProps
    obtain ⟨g', t', cs, fuel, p, hg', ht', hvar, hd⟩ := r2
    obtain rfl := Option.some.inj (hg.symm.trans hg')
    obtain rfl := Option.some.inj (hty.symm.trans ht')
    unfold TabIs
    rw [hvar, ← cells_of_tab ht Tryz.underlying5 (by kernel_rfl) hct hd]
  · exact rvar_of_reads Tryz.lays261 ⟨by kernel_rfl, by kernel_rfl, by kernel_rfl, by kernel_rfl, by kernel_rfl, by kernel_rfl, by kernel_rfl, by kernel_rfl⟩ (by kernel_rfl) (by kernel_rfl) r4
  · exact caseVar_of_reads { Tryz.lays262 with } (by kernel_rfl) ⟨by kernel_rfl, by kernel_rfl, by kernel_rfl, by kernel_rfl, by kernel_rfl, by kernel_rfl⟩ r3
theorem w_shaped (os : Os) (args : Array Value) : ((World.laidAll Tryz.prog os theLaid).forCall (fun _ _ => 0) ⟨#[], args, []⟩).Shaped Tryz.prog := World.shaped_of_ZipB (by kernel_rfl) (by kernel_rfl)
theorem w_laid (os : Os) (args : Array Value) : laidMetH Tryz.prog theLaid ((World.laidAll Tryz.prog os theLaid).forCall (fun _ _ => 0) ⟨#[], args, []⟩).memory := by rw [MakeChecks.laidMetH_plain _ _ _ (by kernel_rfl)]; exact laidMet_laidAll _ (by kernel_rfl) (by kernel_rfl)
end Go.Proofs.YtlibemgaepkceaaGreatDoor

namespace Go.Wk
open Go.RowKit Go.ChangeShapes
section
variable {H : Type} {enc : TypeId × Value → H} {P : Program} {W : World}
theorem RdI.arrayN {k : IntKind} {n m : Nat} {e t : TypeId} (hu : P.underlying t = some (.array n e)) (he : RdI enc P W k m e) (hc : P.cellsOf e = m) (hn : P.cellsOf t = n * m) : RdI enc P W k (n * m) t := by
  intro fuel cs x h
  obtain ⟨xs, f', _, _, hl, hx, hel⟩ := DataW.trod_array hu h
  rw [hc] at hel
  rw [hn] at hl
  have h1 : ∀ j, j ≤ n → ∃ zs : List Int, zs.length = j * m ∧ cs.take (j * m) = zs.map (Value.int k) ∧ ∀ z ∈ zs, InK k z := by
    intro j
    induction j with
    | zero => exact fun _ => ⟨[], by simp, by simp, fun z hz => by cases hz⟩
    | succ j ih =>
      intro hj
      obtain ⟨zs, l1, l2, l3⟩ := ih (by omega)
      have := hel j (by omega)
      cases hxi : xs[j]? with
      | none => rw [List.getElem?_eq_none_iff] at hxi; omega
      | some y =>
        rw [hxi] at this
        obtain ⟨zt, m1, m2, m3⟩ := he _ _ _ this
        refine ⟨zs ++ zt, by rw [List.length_append, l1, m1, Nat.succ_mul], ?_, fun z hz => (List.mem_append.1 hz).elim (l3 z) (m3 z)⟩
        rw [Nat.succ_mul, List.take_add, l2, List.map_append, ← m2]
  obtain ⟨zs, l1, l2, l3⟩ := h1 n (Nat.le_refl n)
  exact ⟨zs, l1, by rw [← l2, List.take_of_length_le (by omega)], l3⟩
end
end Go.Wk

namespace Go.Proofs.YtlibemgaepkceaaGreatDoor.topRound
open Go.ChangeShapes Go.WideShapes Go.ChangeAt Go.RowKit Go.Joins Go.Wk
set_option linter.unusedVariables false

theorem own : ownKnob Tryz.prog.godebug = none := by kernel_rfl
theorem laidOut : laidOutB Tryz.prog = true := by kernel_rfl
theorem cells5 : Tryz.prog.cellsOf 5 = 1 := by kernel_rfl
theorem cells22 : Tryz.prog.cellsOf 22 = 7 := by kernel_rfl
theorem cells23 : Tryz.prog.cellsOf 23 = 42 := by kernel_rfl
theorem okWide_array {P : Program} {w : World} {r : Reach} {base : Nat} {t : TypeId} {v : Value} {n : Nat} {e : TypeId} (ht : P.underlying t = some (.array n e)) (h : Value.okWide P w r base t v) : ∃ cs, v = .agg cs ∧ cs.size = P.cellsOf t := by
  simp only [Value.okWide, ht] at h
  obtain ⟨cs, h1, h2, _⟩ := h
  exact ⟨cs, h1, h2⟩

set_option maxRecDepth 100000 in
theorem lifted (os : Os) (started : os.Started) (H : Type) (enc : TypeId × Value → H) :
    ReturnsInHanded {} Tryz.checked os 3 .any (OpenSpec.preRow enc Tryz.prog Tryz.f3 (OpenSpec.ofChange Rows.topRoundSpec) Rows.topRoundRow.domain false Rows.topRoundRow.laid) (Rows.topRoundSpec.post enc Tryz.prog Tryz.f3 false true false false) := by
  refine returnsInHanded_of_row (C := Tryz.checked) (s := OpenSpec.ofChange Rows.topRoundSpec) (F := fun _ _ _ => 0) own started (by kernel_rfl) Tryz.func3 ?_ ?_
  · exact ChangeSpec.witness_shaped (enc := enc) (C := Tryz.checked) (os := os) (X := fun w _ => laidMetH Tryz.prog Rows.topRoundRow.laid w) false (World.laidAll Tryz.prog os Rows.topRoundRow.laid) #[.int .u8 0, .agg #[.int .u8 0, .int .u8 0, .int .u8 0, .int .u8 0, .int .u8 0, .int .u8 0, .int .u8 0, .int .u8 0, .int .u8 0, .int .u8 0, .int .u8 0, .int .u8 0, .int .u8 0, .int .u8 0, .int .u8 0, .int .u8 0, .int .u8 0, .int .u8 0, .int .u8 0, .int .u8 0, .int .u8 0, .int .u8 0, .int .u8 0, .int .u8 0, .int .u8 0, .int .u8 0, .int .u8 0, .int .u8 0, .int .u8 0, .int .u8 0, .int .u8 0, .int .u8 0, .int .u8 0, .int .u8 0, .int .u8 0, .int .u8 0, .int .u8 0, .int .u8 0, .int .u8 0, .int .u8 0, .int .u8 0, .int .u8 0], .agg #[.int .u8 0, .int .u8 0, .int .u8 0, .int .u8 0, .int .u8 0, .int .u8 0, .int .u8 0]] 8 (World.laidAll_os _ _ _) (w_shaped os _) (by kernel_rfl) (by kernel_rfl) (by kernel_rfl) (w_laid os _)
  intro W base args ds gs before hval0 hW hcnd _ _ hL hsh _
  have hval : ∀ (j : Nat) t v, Tryz.f3.params[j]? = some t → args[j]? = some v → Value.okWide Tryz.prog W .any base t v := hval0
  have hW' := hW
  obtain ⟨p, q, hA0, hV, rfl, hfz, hnd⟩ := hW
  have hA : DataW.TrodAll enc Tryz.prog W 0 (fun _ => true) true Tryz.f3.params.toList args.toList ds p := hA0
  rw [Tryz.params3] at hA hval
  obtain ⟨v0, vs0, d0, ds0, p0, q0, hargs, rfl, rfl, h0, r0⟩ := trodAll_cons hA
  obtain ⟨v1, vs1, d1, ds1, p1, q1, rfl, rfl, rfl, h1, r1⟩ := trodAll_cons r0
  obtain ⟨v2, vs2, d2, ds2, p2, q2, rfl, rfl, rfl, h2, r2⟩ := trodAll_cons r1
  obtain ⟨rfl, rfl, rfl⟩ := trodAll_nil r2
  obtain rfl : args = #[v0, v1, v2] := by cases args; simp_all
  obtain ⟨rfl, rfl⟩ := trodVars_none hV
  obtain ⟨a0, rfl, rfl, rfl, u0⟩ := open_int Tryz.underlying5 (hval 0 5 v0 rfl rfl) h0
  have k1 := h1
  have lt1 : ∀ x ∈ p1, x.block < W.heap.size := by obtain ⟨m, hm⟩ := k1; exact DataW.trod_lt m _ _ _ hm
  obtain ⟨cs1, rfl, hsz1⟩ := okWide_array Tryz.underlying23 (hval 1 23 v1 rfl rfl)
  obtain ⟨zs1, hz1, rfl, hin1⟩ := RdI.v (RdI.arrayN (n := 6) Tryz.underlying23 (RdI.array Tryz.underlying22 Tryz.underlying5 cells5 cells22) cells22 cells23) h1
  have k2 := h2
  have lt2 : ∀ x ∈ p2, x.block < W.heap.size := by obtain ⟨m, hm⟩ := k2; exact DataW.trod_lt m _ _ _ hm
  obtain ⟨cs2, rfl, hsz2⟩ := okWide_array Tryz.underlying22 (hval 2 22 v2 rfl rfl)
  obtain ⟨zs2, hz2, rfl, hin2⟩ := RdI.v (RdI.array Tryz.underlying22 Tryz.underlying5 cells5 cells22) h2
  clear hA0 hval0
  refine (F3 (inK_of_wf u0) hz1 hin1 hz2 hin2 (fun b (h : some b ∈ ([] : List (Option Nat))) => nomatch h) (laid_of hL hsh)).mono fun e W' hE => ?_
  obtain ⟨r, he, bel, hr⟩ := hE
  subst he
  subst hr
  exact ⟨_, rfl, _, _, _, [], _, [], hW', trodAll_mk1 (shut_bool Tryz.underlying4 _), (trodAll_cons_mk (shut_int Tryz.underlying5 u0) (trodAll_cons_mk (Below.trod laidOut (by kernel_rfl) (of_decide_eq_true (by kernel_rfl)) k1 bel lt1) (trodAll_cons_mk (Below.trod laidOut (by kernel_rfl) (of_decide_eq_true (by kernel_rfl)) k2 bel lt2) trodAll_mk0))), rfl, bel.frame _, fun h => by cases h⟩

theorem over : Rows.topRoundRow.holds Tryz.pinned (OpenSpec.ofChange Rows.topRoundSpec) :=
  OpenClaim.holds_of_wide 3 Tryz.f3 rfl rfl rfl rfl rfl rfl rfl ⟨rfl, rfl, rfl, rfl, rfl⟩ rfl rfl rfl rfl rfl (by kernel_rfl) Tryz.func3 (by kernel_rfl)
    (of_decide_eq_true (by kernel_rfl)) (by unfold Func.isWrapper; first | (rw [if_pos (by decide +kernel)]; kernel_rfl) | (rw [if_neg (by decide +kernel)]; exact ⟨rfl, rfl⟩))
    (fun os started H enc _ => by rw [OpenClaim.pre_eq_preRow]; exact lifted os started H enc)

theorem card : Rows.TopRoundCardSaid :=
  Claim7.holds_tied_plain_at .later [] [.data, .data, .pinned, .pinned] true (true, "80da0eff276861bc8e4481432dff7a404046724f96879ef9aac86268d7561b56") true over (fun _ h => by cases h) (by kernel_rfl) (fun _ h => by cases h) topRound_row_tie rfl ⟨rfl, rfl⟩ (by kernel_rfl) rfl
    (fun f fn hf hfn => by
      obtain rfl : f = 3 := Option.some.inj ((show Tryz.prog.funcNamed "bellarmine/bellarminetop.TopRound" = some 3 by kernel_rfl).symm.trans hf) |>.symm
      obtain rfl : fn = Tryz.f3 := (Option.some.inj (Tryz.func3.symm.trans hfn)).symm
      exact ⟨by kernel_rfl, fun j t ht => by
        rw [Tryz.params3] at ht
        have hm : t ∈ [5, 23, 22] := by simpa using Array.mem_of_getElem? ht
        have hall : ([5, 23, 22].all fun u => !Tryz.prog.wantsStandIn u) = true := by kernel_rfl
        exact (show Tryz.prog.wantsStandIn t = false by simpa using List.all_eq_true.1 hall t hm)⟩)
    (by kernel_rfl)

end Go.Proofs.YtlibemgaepkceaaGreatDoor.topRound
namespace Go.Proofs.YtlibemgaepkceaaGreatDoor
/-- The statement. -/
theorem topRound_proved : Rows.TopRoundCardSaid := topRound.card
#print axioms topRound_proved
end Go.Proofs.YtlibemgaepkceaaGreatDoor
