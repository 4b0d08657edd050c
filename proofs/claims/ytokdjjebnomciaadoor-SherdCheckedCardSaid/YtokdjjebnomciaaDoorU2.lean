/-
  WHAT IS PROVED HERE, TEXT BY TEXT (several texts of one prover, joined to one file; the conditions stand in each statement):
  * WHAT IS SAID HERE, WITH PLAIN LAWS: what is taken away from a rim and what is left, as the program seeks it (from the left to the right) and as the reference does (the first two neighbours that fit, again and again). No program in sight.
  * DERIVED: THE SHELF's CONTRACTS AT THIS DUMP, IN PLAIN WORDS (tools/lay-plain.mjs out of 'TrydShelf.lean', which tools/lay-shelf.mjs wrote): THE SAME DECLARATIONS UNDER THE SAME NAMES: 'import', 'namespace', 'open', 'def', 'theorem' AND NOTHING ELSE: no command of the shelf's: FOR A HAND-IN. Each laying: the table of numbers ('.._ren') and one theorem, a field a fact of the dump's own or the kernel's comparison; each contract: ONE APPLICATION.
  * WHAT IS PROVED HERE: what the library's functions hand back, out of the shelf's contracts, where its tables read as the program's text lays them. Conditions stand in each statement.
  * WHAT IS PROVED HERE: what functions of layer 5 hand back, each out of its own code; the conditions stand in each statement.
  * WHAT IS PROVED HERE: strings.ContainsRune over a string of letters alone: a letter is found just if it stands there; no other rune is. Conditions stand in the statement.
  * WHAT IS PROVED HERE: strings.Builder of the call's own, written byte by byte, beside a list of numbers of the call's own; strings made of a rim's bytes. Conditions stand in each statement. From the shelf's contracts.
  * WHAT IS SAID HERE, WITH PLAIN LAWS: the answers on steps, rests, cores, rims that are turned. No program in sight.
  * WHAT IS PROVED HERE: a string's runes as a slice of the call's own, and a string made of a slice of runes. Conditions stand in each statement; they hold over any program.
  * WHAT IS PROVED HERE: letters changed one by one, runes of a string of letters, by the library's contracts. Conditions stand in each statement.
  * WHAT IS SAID HERE, WITH PLAIN LAWS: lists turned round in their own place; rims alike. No program in sight.
  * WHAT IS SAID HERE, WITH PLAIN LAWS: the joins of all greatest plans, as the program seeks them; a list from which some elements are deleted in its own place. No program in sight.
  * WHAT IS PROVED HERE: plain laws of plans whose edges get other numbers: as many plans of each length, if the numbers go back. No program in sight. Conditions stand in each statement.
  * WHAT IS PROVED HERE: plain laws of plans of a rim that is turned, written backwards, or has an edge more. No program in sight. Conditions stand in each statement.
  * WHAT IS PROVED HERE: as many plans have a join as what is inside of it, and what is outside, have together. No program in sight. Conditions stand in each statement.
  * WHAT IS PROVED HERE: plain laws of words of numbers from which neighbours whose sum is 0 are taken away; there is a full plan just if nothing is left. No program in sight. Conditions stand in each statement.
  * WHAT IS PROVED HERE: plain laws of the core of a word: a word that is turned has a core that is turned. No program in sight. Conditions stand in each statement.
  * WHAT IS PROVED HERE: plain laws that join the program and the reference: full plans, joins of all greatest plans, rims compared. No program in sight. Conditions stand in each statement.
  * WHAT IS PROVED HERE: plain laws of what the statements take away themselves, of cores, and of rims compared. No program in sight. Conditions stand in each statement.
  * WHAT IS PROVED HERE: plain laws of rims that are turned, opposite, longer, and of some edges of a rim. No program in sight. Conditions stand in each statement.
  * WHAT IS SAID HERE: the examples' rims, and joins out of a list of numbers. No program in sight.
  * WHAT IS SAID HERE, WITH PLAIN LAWS: rims that are made of numbers. No program in sight. Conditions stand in each statement.
  * WHAT IS PROVED HERE: an argument that reads as data is, in the world at the start, a value that stands for a plain list, number, or pair (V of Wk2). Conditions: the types' closed facts, as hypotheses.
  * WHAT IS PROVED HERE: pairs of numbers as they are read at the start. Conditions: the types' closed facts, as hypotheses.
  * WHAT IS PROVED HERE: strings.ToUpper and strings.ToLower at one letter, and a letter compared with the smallest small one. Conditions stand in each statement.
  * WHAT IS SAID HERE, WITH PLAIN LAWS: two letters that fit, put into a rim; rims that are turned, opposite, longer. No program in sight. Conditions stand in each statement.
  * WHAT IS PROVED HERE: maps of the call's own, made, read and written: a list of keys with values, in the order in which the keys came. Conditions stand in each statement; they hold over any program.
  * WHAT IS PROVED HERE: an entry of a map of the call's own, opened and then written by its stamp. Conditions stand in each statement; they hold over any program.
  * WHAT IS SAID HERE, WITH PLAIN LAWS: joins that are a plan, checked one after another. No program in sight. Conditions stand in each statement.
  * WHAT IS PROVED HERE: plain laws of lists that are sorted by insertion, by whatever comparison. No program in sight. Conditions stand in each statement.
  * WHAT IS PROVED HERE: a whole array in a variable as a slice. Conditions stand in the statement; it holds over any program.
  * WHAT IS SAID HERE, WITH PLAIN LAWS: joins compared, and sorted. No program in sight. Conditions stand in each statement.
  * WHAT IS PROVED HERE: math/bits.Len, out of the library's contract. Conditions stand in the statement.
  * WHAT IS PROVED HERE: a variable's array of pairs of numbers is not written any more: it is read as a slice of pairs. Conditions stand in the statement; it holds over any program.
  * WHAT IS SAID HERE, WITH PLAIN LAWS: the error of joins that are sorted, by the longest beginning that is a plan. No program in sight. Conditions stand in each statement.
  * WHAT IS PROVED HERE: what functions of layer 5 hand back, each out of its own code; the conditions stand in each statement.
  * WHAT IS PROVED HERE: what functions of layer 5 hand back, each out of its own code; the conditions stand in each statement.
  * WHAT IS PROVED HERE: what functions of layer 5 hand back, each out of its own code; the conditions stand in each statement.
  * WHAT IS PROVED HERE: what functions of layer 5 hand back, each out of its own code; the conditions stand in each statement.
-/
import Derived.Test.YtokdjjebnomciaaDoorU1
import Derived.Shelf.Strings.Builder1
import Derived.Shelf.Strings.Builder2
import Derived.Shelf.Strings.OnBuilder
import Derived.Shelf.Small.Utf8
import Derived.Shelf.Small.Bits
import Derived.Shelf.Small.Strs
import Derived.Shelf.Strings.BuilderF
import Derived.Shelf.Strings.BuilderK
import Derived.Shelf.Strings.BuilderRune
import Derived.Shelf.Utf8.AppendRune
import Derived.Shelf.Utf8.AppendRunePlain
import Derived.Shelf.Strings.Builder2Cap
import Derived.Shelf.Strconv.Itoa0
import Derived.Shelf.Strings.Search1
import Derived.Shelf.Strings.Search2
import Derived.Shelf.Strings.Search3
import Derived.Shelf.LaysM
import Derived.Shelf.Strings.Shaped
import Derived.Shelf.Unicode.Latin
import Derived.Shelf.Unicode.Props
import Derived.Shelf.Unicode.PropsLaid
import Derived.Shelf.Unicode.Decode
import Derived.Shelf.Strings.Runes
import Derived.Shelf.Unicode.DecodeSlow
import Derived.Shelf.Unicode.DecodeAny
import Derived.Shelf.Unicode.Is16White
import Derived.Shelf.Unicode.IsSpaceAny
import Derived.Shelf.Unicode.CaseLookup
import Derived.Shelf.Unicode.CaseConvert
import Derived.Shelf.Unicode.CaseTo
import Derived.Shelf.Unicode.CaseLaid
import Derived.Shelf.Strings.MapAny
import Derived.Shelf.Strings.CaseAny
import Derived.Shelf.Unicode.Is16Any
import Derived.Shelf.Unicode.Is32Any
import Derived.Shelf.Unicode.ExclAny
import Derived.Shelf.Unicode.PredsAny
import Derived.Shelf.Unicode.PredsPay
import Derived.Shelf.Strings.BuilderCap
import Derived.Shelf.Strings.MapGrows
import Derived.Ground.Names2Prog
import Derived.Shelf.Slices.SearchI
import Derived.Ground.SlgnProg
import Derived.Shelf.SlicesE.Clone
import Derived.Test.YtokdjjebnomciaaDoorProg
import Derived.Laws.Cover4
import Derived.Laws.IdiomStrings
import Derived.Lib.IndexLaws
import Derived.Lib.IndexMore
import Derived.Deep.Slices
import Derived.Deep.Strs
import Derived.Lib.SmallJoins
import Derived.OpenShut
import Derived.Carry
import Derived.ProofKit
import Derived.ChangeMaps5
import Derived.MapKept
import Derived.ChangeMaps4

set_option linter.unusedVariables false
set_option linter.unusedSimpArgs false

namespace Go.Proofs.YtokdjjebnomciaaDoor
open Go.Wk Go

abbrev Tk := List Join × List Int
def topI (l : List Int) : Int := ix 0 l (l.length - 1)
def stepS (s : ByteArray) (a : Tk) (j : Int) : Tk := if 0 < a.2.length ∧ fitR s (topI a.2) j = true then (a.1 ++ [(topI a.2, j)], a.2.take ((a.2.length : Int) - 1).toNat) else (a.1, a.2 ++ [j])
def runS (s : ByteArray) (a : Tk) (rest : List Int) : Tk := rest.foldl (stepS s) a
def takS (s : ByteArray) : Tk := runS s ([], []) (rng 0 s.size)
variable {s : ByteArray} {st : List Join} {lf : List Int}
theorem runS_cons {a : Tk} {j : Int} {r : List Int} : runS s a (j :: r) = runS s (stepS s a j) r := rfl
theorem stepS_yes {j : Int} (h : 0 < (lf.length : Int)) (hf : fitR s (ix 0 lf ((lf.length : Int) - 1)) j = true) : stepS s (st, lf) j = (st ++ [(ix 0 lf ((lf.length : Int) - 1), j)], lf.take ((lf.length : Int) - 1).toNat) :=
  if_pos ⟨by show 0 < lf.length; omega, hf⟩
theorem stepS_no {j : Int} (h : ¬ 0 < (lf.length : Int) ∨ fitR s (ix 0 lf ((lf.length : Int) - 1)) j = false) : stepS s (st, lf) j = (st, lf ++ [j]) := by
  refine if_neg ?_
  rintro ⟨h1, h2⟩
  rcases h with h | h
  · have : 0 < lf.length := h1; omega
  · have h2 : fitR s (ix 0 lf ((lf.length : Int) - 1)) j = true := h2
    rw [h2] at h; cases h

/-! ### the reference's way -/
theorem runS_bd {s : ByteArray} {n : Int} : ∀ (rest : List Int) (st : List Join) (lf : List Int), (∀ x ∈ lf, 0 ≤ x ∧ x < n) → (∀ x ∈ rest, 0 ≤ x ∧ x < n) →
    (∀ x ∈ (runS s (st, lf) rest).2, 0 ≤ x ∧ x < n) ∧ 2 * ((runS s (st, lf) rest).1.length : Int) + (runS s (st, lf) rest).2.length = 2 * (st.length : Int) + lf.length + rest.length
  | [], st, lf, h, _ => ⟨h, by show 2 * (st.length : Int) + lf.length = 2 * (st.length : Int) + lf.length + ((0 : Nat) : Int); omega⟩
  | j :: r, st, lf, h, hr => by
    have hj := hr j (List.mem_cons_self ..)
    have hr2 : ∀ x ∈ r, 0 ≤ x ∧ x < n := fun x hx => hr x (List.mem_cons_of_mem _ hx)
    rw [runS_cons]
    by_cases hc : 0 < lf.length ∧ fitR s (topI lf) j = true
    · rw [stepS, if_pos hc]
      have := runS_bd (s := s) r (st ++ [(topI lf, j)]) (lf.take ((lf.length : Int) - 1).toNat) (fun x hx => h x (List.mem_of_mem_take hx)) hr2
      refine ⟨this.1, this.2.trans ?_⟩
      have h0 := hc.1
      simp only [List.length_append, List.length_take, List.length_cons, List.length_nil]
      omega
    · rw [stepS, if_neg hc]
      have := runS_bd (s := s) r st (lf ++ [j]) (fun x hx => by
        rcases List.mem_append.1 hx with hx | hx
        · exact h x hx
        · rw [List.mem_singleton] at hx; subst hx; exact hj) hr2
      refine ⟨this.1, this.2.trans ?_⟩
      simp only [List.length_append, List.length_cons, List.length_nil]
      omega
theorem rng_len {i n : Int} (h : i ≤ n) : ((rng i n).length : Int) = n - i := by rw [rng, List.length_map, List.length_range]; omega
theorem takS_bd {s : ByteArray} : (∀ x ∈ (takS s).2, 0 ≤ x ∧ x < s.size) ∧ 2 * ((takS s).1.length : Int) + (takS s).2.length = s.size := by
  have := runS_bd (s := s) (n := s.size) (rng 0 s.size) [] [] (by simp) (fun x hx => by rw [rng_mem] at hx; exact hx)
  refine ⟨this.1, this.2.trans ?_⟩
  rw [rng_len (by omega)]
  simp
end Go.Proofs.YtokdjjebnomciaaDoor

namespace Go.Proofs
open Go.Shelf
def Tryd.lays169_ren : Go.Shelf.Ren := ⟨fun | 169 => 95 | n => n, fun | 70 => 114 | 9 => 9 | 0 => 0 | 72 => 116 | 37 => 102 | 127 => 136 | 3 => 3 | 5 => 5 | n => n, fun | n => n⟩
theorem Tryd.lays169 : Go.Proofs.Lays.n169 Tryd.prog Tryd.lays169_ren := {
  mixed := by kernel_rfl
  f169 := Tryd.func95.trans (congrArg some (by kernel_rfl))
  t0 := Tryd.underlying0
  a0 := Tryd.isAgg0
  z0 := Tryd.sizeOf0
  v0 := Tryd.zeroValue0
  t3 := Tryd.underlying3
  a3 := Tryd.isAgg3
  z3 := Tryd.sizeOf3
  v3 := Tryd.zeroValue3
  t9 := Tryd.underlying9
  a9 := Tryd.isAgg9
  z9 := Tryd.sizeOf9
  v9 := Tryd.zeroValue9
  t37 := Tryd.underlying102
  a37 := Tryd.isAgg102
  z37 := Tryd.sizeOf102
  v37 := Tryd.zeroValue102
  t70 := Tryd.underlying114
  a70 := Tryd.isAgg114
  z70 := Tryd.sizeOf114
  v70 := Tryd.zeroValue114
  t72 := Tryd.underlying116
  a72 := Tryd.isAgg116
  z72 := Tryd.sizeOf116
  v72 := Tryd.zeroValue116
  t127 := Tryd.underlying136
  a127 := Tryd.isAgg136
  z127 := Tryd.sizeOf136
  v127 := Tryd.zeroValue136 }
theorem Tryd.Builder_Extra_169 : Builder.Extra Tryd.prog Tryd.lays169_ren := {
  sizeBuilder := by kernel_rfl
  liesBuilder := by kernel_rfl
  t5 := Tryd.underlying5
  a5 := Tryd.isAgg5
  z5 := Tryd.sizeOf5
  v5 := Tryd.zeroValue5
  infoByte := by kernel_rfl
  cellsByte := by kernel_rfl
  sizeByte := by kernel_rfl
  neB5 := by decide }
def Tryd.lays158_ren : Go.Shelf.Ren := ⟨fun | 158 => 85 | 165 => 98 | 166 => 99 | 167 => 94 | 169 => 95 | 230 => 78 | 203 => 104 | 240 => 113 | 241 => 115 | 197 => 96 | 118 => 97 | 168 => 100 | 270 => 101 | 262 => 118 | 276 => 131 | 277 => 132 | 260 => 114 | 242 => 116 | 313 => 136 | 278 => 133 | 274 => 144 | 275 => 145 | n => n, fun | 9 => 9 | 4 => 4 | 3 => 3 | 5 => 5 | 72 => 116 | 0 => 0 | 76 => 125 | 75 => 118 | 107 => 100 | 70 => 114 | 20 => 20 | 37 => 102 | 127 => 136 | 21 => 21 | 105 => 121 | 164 => 154 | 162 => 173 | 203 => 171 | 119 => 139 | 46 => 133 | 139 => 158 | 138 => 157 | 51 => 138 | 160 => 184 | 208 => 193 | 206 => 191 | 80 => 120 | n => n, fun | 13 => 5 | 3 => 3 | 4 => 4 | n => n⟩
theorem Tryd.lays158 : Go.Proofs.Lays.n158 Tryd.prog Tryd.lays158_ren := {
  mixed := by kernel_rfl
  f118 := Tryd.func97.trans (congrArg some (by kernel_rfl))
  f158 := Tryd.func85.trans (congrArg some (by kernel_rfl))
  f165 := Tryd.func98.trans (congrArg some (by kernel_rfl))
  f166 := Tryd.func99.trans (congrArg some (by kernel_rfl))
  f167 := Tryd.func94.trans (congrArg some (by kernel_rfl))
  f168 := Tryd.func100.trans (congrArg some (by kernel_rfl))
  f169 := Tryd.func95.trans (congrArg some (by kernel_rfl))
  f197 := Tryd.func96.trans (congrArg some (by kernel_rfl))
  f203 := Tryd.func104.trans (congrArg some (by kernel_rfl))
  f230 := Tryd.func78.trans (congrArg some (by kernel_rfl))
  f240 := Tryd.func113.trans (congrArg some (by kernel_rfl))
  f241 := Tryd.func115.trans (congrArg some (by kernel_rfl))
  f242 := Tryd.func116.trans (congrArg some (by kernel_rfl))
  f260 := Tryd.func114.trans (congrArg some (by kernel_rfl))
  f262 := Tryd.func118.trans (congrArg some (by kernel_rfl))
  f270 := Tryd.func101.trans (congrArg some (by kernel_rfl))
  f274 := Tryd.func144.trans (congrArg some (by kernel_rfl))
  f275 := Tryd.func145.trans (congrArg some (by kernel_rfl))
  f276 := Tryd.func131.trans (congrArg some (by kernel_rfl))
  f277 := Tryd.func132.trans (congrArg some (by kernel_rfl))
  f278 := Tryd.func133.trans (congrArg some (by kernel_rfl))
  f313 := Tryd.func136.trans (congrArg some (by kernel_rfl))
  t0 := Tryd.underlying0
  a0 := Tryd.isAgg0
  z0 := Tryd.sizeOf0
  v0 := Tryd.zeroValue0
  t3 := Tryd.underlying3
  a3 := Tryd.isAgg3
  z3 := Tryd.sizeOf3
  v3 := Tryd.zeroValue3
  t4 := Tryd.underlying4
  a4 := Tryd.isAgg4
  z4 := Tryd.sizeOf4
  v4 := Tryd.zeroValue4
  t5 := Tryd.underlying5
  a5 := Tryd.isAgg5
  z5 := Tryd.sizeOf5
  v5 := Tryd.zeroValue5
  t9 := Tryd.underlying9
  a9 := Tryd.isAgg9
  z9 := Tryd.sizeOf9
  v9 := Tryd.zeroValue9
  t20 := Tryd.underlying20
  a20 := Tryd.isAgg20
  z20 := Tryd.sizeOf20
  v20 := Tryd.zeroValue20
  t21 := Tryd.underlying21
  a21 := Tryd.isAgg21
  z21 := Tryd.sizeOf21
  v21 := Tryd.zeroValue21
  t37 := Tryd.underlying102
  a37 := Tryd.isAgg102
  z37 := Tryd.sizeOf102
  v37 := Tryd.zeroValue102
  t46 := Tryd.underlying133
  a46 := Tryd.isAgg133
  z46 := Tryd.sizeOf133
  v46 := Tryd.zeroValue133
  t51 := Tryd.underlying138
  a51 := Tryd.isAgg138
  z51 := Tryd.sizeOf138
  v51 := Tryd.zeroValue138
  t70 := Tryd.underlying114
  a70 := Tryd.isAgg114
  z70 := Tryd.sizeOf114
  v70 := Tryd.zeroValue114
  t72 := Tryd.underlying116
  a72 := Tryd.isAgg116
  z72 := Tryd.sizeOf116
  v72 := Tryd.zeroValue116
  t75 := Tryd.underlying118
  a75 := Tryd.isAgg118
  z75 := Tryd.sizeOf118
  v75 := Tryd.zeroValue118
  t76 := Tryd.underlying125
  a76 := Tryd.isAgg125
  z76 := Tryd.sizeOf125
  v76 := Tryd.zeroValue125
  t105 := Tryd.underlying121
  a105 := Tryd.isAgg121
  z105 := Tryd.sizeOf121
  v105 := Tryd.zeroValue121
  t107 := Tryd.underlying100
  a107 := Tryd.isAgg100
  z107 := Tryd.sizeOf100
  v107 := Tryd.zeroValue100
  t119 := Tryd.underlying139
  a119 := Tryd.isAgg139
  z119 := Tryd.sizeOf139
  t127 := Tryd.underlying136
  a127 := Tryd.isAgg136
  z127 := Tryd.sizeOf136
  v127 := Tryd.zeroValue136
  t138 := Tryd.underlying157
  a138 := Tryd.isAgg157
  z138 := Tryd.sizeOf157
  v138 := Tryd.zeroValue157
  t139 := Tryd.underlying158
  a139 := Tryd.isAgg158
  z139 := Tryd.sizeOf158
  v139 := Tryd.zeroValue158
  t160 := Tryd.underlying184
  a160 := Tryd.isAgg184
  z160 := Tryd.sizeOf184
  v160 := Tryd.zeroValue184
  t162 := Tryd.underlying173
  a162 := Tryd.isAgg173
  z162 := Tryd.sizeOf173
  v162 := Tryd.zeroValue173
  t164 := Tryd.underlying154
  a164 := Tryd.isAgg154
  z164 := Tryd.sizeOf154
  v164 := Tryd.zeroValue154
  t203 := Tryd.underlying171
  a203 := Tryd.isAgg171
  z203 := Tryd.sizeOf171
  v203 := Tryd.zeroValue171
  t206 := Tryd.underlying191
  a206 := Tryd.isAgg191
  z206 := Tryd.sizeOf191
  v206 := Tryd.zeroValue191
  t208 := Tryd.underlying193
  a208 := Tryd.isAgg193
  z208 := Tryd.sizeOf193
  v208 := Tryd.zeroValue193
  g3 := by kernel_rfl
  g4 := by kernel_rfl
  g13 := by kernel_rfl }
theorem Tryd.Builder_Extra_158 : Builder.Extra Tryd.prog Tryd.lays158_ren := {
  sizeBuilder := by kernel_rfl
  liesBuilder := by kernel_rfl
  t5 := Tryd.underlying5
  a5 := Tryd.isAgg5
  z5 := Tryd.sizeOf5
  v5 := Tryd.zeroValue5
  infoByte := by kernel_rfl
  cellsByte := by kernel_rfl
  sizeByte := by kernel_rfl
  neB5 := by decide }
open Go.RowKit in
theorem Tryd.strings_ToUpper_ascii (s : ByteArray) (w : World) (hs : s.size ≤ 140737488355328) (hascii : ∀ (j : Nat) (b : UInt8), s.data.toList[j]? = some b → b.toNat < 128) :
    Calls Tryd.prog 85 #[.string s] w fun e w' => e = .returned (.string ⟨(Lib.toUpperA s.data.toList).toArray⟩) ∧ Below w.heap.size w w' := Any.strings_ToUpper_ascii Tryd.lays158 Tryd.Builder_Extra_158 s w hs hascii
def Tryd.lays159_ren : Go.Shelf.Ren := ⟨fun | 159 => 86 | 165 => 98 | 166 => 99 | 167 => 94 | 169 => 95 | 230 => 78 | 204 => 103 | 240 => 113 | 241 => 115 | 197 => 96 | 118 => 97 | 168 => 100 | 270 => 101 | 262 => 118 | 276 => 131 | 277 => 132 | 260 => 114 | 242 => 116 | 313 => 136 | 278 => 133 | 274 => 144 | 275 => 145 | n => n, fun | 9 => 9 | 4 => 4 | 3 => 3 | 5 => 5 | 72 => 116 | 0 => 0 | 76 => 125 | 75 => 118 | 107 => 100 | 70 => 114 | 20 => 20 | 37 => 102 | 127 => 136 | 21 => 21 | 105 => 121 | 164 => 154 | 162 => 173 | 203 => 171 | 119 => 139 | 46 => 133 | 139 => 158 | 138 => 157 | 51 => 138 | 160 => 184 | 208 => 193 | 206 => 191 | 80 => 120 | n => n, fun | 13 => 5 | 3 => 3 | 4 => 4 | n => n⟩
theorem Tryd.lays159 : Go.Proofs.Lays.n159 Tryd.prog Tryd.lays159_ren := {
  mixed := by kernel_rfl
  f118 := Tryd.func97.trans (congrArg some (by kernel_rfl))
  f159 := Tryd.func86.trans (congrArg some (by kernel_rfl))
  f165 := Tryd.func98.trans (congrArg some (by kernel_rfl))
  f166 := Tryd.func99.trans (congrArg some (by kernel_rfl))
  f167 := Tryd.func94.trans (congrArg some (by kernel_rfl))
  f168 := Tryd.func100.trans (congrArg some (by kernel_rfl))
  f169 := Tryd.func95.trans (congrArg some (by kernel_rfl))
  f197 := Tryd.func96.trans (congrArg some (by kernel_rfl))
  f204 := Tryd.func103.trans (congrArg some (by kernel_rfl))
  f230 := Tryd.func78.trans (congrArg some (by kernel_rfl))
  f240 := Tryd.func113.trans (congrArg some (by kernel_rfl))
  f241 := Tryd.func115.trans (congrArg some (by kernel_rfl))
  f242 := Tryd.func116.trans (congrArg some (by kernel_rfl))
  f260 := Tryd.func114.trans (congrArg some (by kernel_rfl))
  f262 := Tryd.func118.trans (congrArg some (by kernel_rfl))
  f270 := Tryd.func101.trans (congrArg some (by kernel_rfl))
  f274 := Tryd.func144.trans (congrArg some (by kernel_rfl))
  f275 := Tryd.func145.trans (congrArg some (by kernel_rfl))
  f276 := Tryd.func131.trans (congrArg some (by kernel_rfl))
  f277 := Tryd.func132.trans (congrArg some (by kernel_rfl))
  f278 := Tryd.func133.trans (congrArg some (by kernel_rfl))
  f313 := Tryd.func136.trans (congrArg some (by kernel_rfl))
  t0 := Tryd.underlying0
  a0 := Tryd.isAgg0
  z0 := Tryd.sizeOf0
  v0 := Tryd.zeroValue0
  t3 := Tryd.underlying3
  a3 := Tryd.isAgg3
  z3 := Tryd.sizeOf3
  v3 := Tryd.zeroValue3
  t4 := Tryd.underlying4
  a4 := Tryd.isAgg4
  z4 := Tryd.sizeOf4
  v4 := Tryd.zeroValue4
  t5 := Tryd.underlying5
  a5 := Tryd.isAgg5
  z5 := Tryd.sizeOf5
  v5 := Tryd.zeroValue5
  t9 := Tryd.underlying9
  a9 := Tryd.isAgg9
  z9 := Tryd.sizeOf9
  v9 := Tryd.zeroValue9
  t20 := Tryd.underlying20
  a20 := Tryd.isAgg20
  z20 := Tryd.sizeOf20
  v20 := Tryd.zeroValue20
  t21 := Tryd.underlying21
  a21 := Tryd.isAgg21
  z21 := Tryd.sizeOf21
  v21 := Tryd.zeroValue21
  t37 := Tryd.underlying102
  a37 := Tryd.isAgg102
  z37 := Tryd.sizeOf102
  v37 := Tryd.zeroValue102
  t46 := Tryd.underlying133
  a46 := Tryd.isAgg133
  z46 := Tryd.sizeOf133
  v46 := Tryd.zeroValue133
  t51 := Tryd.underlying138
  a51 := Tryd.isAgg138
  z51 := Tryd.sizeOf138
  v51 := Tryd.zeroValue138
  t70 := Tryd.underlying114
  a70 := Tryd.isAgg114
  z70 := Tryd.sizeOf114
  v70 := Tryd.zeroValue114
  t72 := Tryd.underlying116
  a72 := Tryd.isAgg116
  z72 := Tryd.sizeOf116
  v72 := Tryd.zeroValue116
  t75 := Tryd.underlying118
  a75 := Tryd.isAgg118
  z75 := Tryd.sizeOf118
  v75 := Tryd.zeroValue118
  t76 := Tryd.underlying125
  a76 := Tryd.isAgg125
  z76 := Tryd.sizeOf125
  v76 := Tryd.zeroValue125
  t105 := Tryd.underlying121
  a105 := Tryd.isAgg121
  z105 := Tryd.sizeOf121
  v105 := Tryd.zeroValue121
  t107 := Tryd.underlying100
  a107 := Tryd.isAgg100
  z107 := Tryd.sizeOf100
  v107 := Tryd.zeroValue100
  t119 := Tryd.underlying139
  a119 := Tryd.isAgg139
  z119 := Tryd.sizeOf139
  t127 := Tryd.underlying136
  a127 := Tryd.isAgg136
  z127 := Tryd.sizeOf136
  v127 := Tryd.zeroValue136
  t138 := Tryd.underlying157
  a138 := Tryd.isAgg157
  z138 := Tryd.sizeOf157
  v138 := Tryd.zeroValue157
  t139 := Tryd.underlying158
  a139 := Tryd.isAgg158
  z139 := Tryd.sizeOf158
  v139 := Tryd.zeroValue158
  t160 := Tryd.underlying184
  a160 := Tryd.isAgg184
  z160 := Tryd.sizeOf184
  v160 := Tryd.zeroValue184
  t162 := Tryd.underlying173
  a162 := Tryd.isAgg173
  z162 := Tryd.sizeOf173
  v162 := Tryd.zeroValue173
  t164 := Tryd.underlying154
  a164 := Tryd.isAgg154
  z164 := Tryd.sizeOf154
  v164 := Tryd.zeroValue154
  t203 := Tryd.underlying171
  a203 := Tryd.isAgg171
  z203 := Tryd.sizeOf171
  v203 := Tryd.zeroValue171
  t206 := Tryd.underlying191
  a206 := Tryd.isAgg191
  z206 := Tryd.sizeOf191
  v206 := Tryd.zeroValue191
  t208 := Tryd.underlying193
  a208 := Tryd.isAgg193
  z208 := Tryd.sizeOf193
  v208 := Tryd.zeroValue193
  g3 := by kernel_rfl
  g4 := by kernel_rfl
  g13 := by kernel_rfl }
theorem Tryd.Builder_Extra_159 : Builder.Extra Tryd.prog Tryd.lays159_ren := {
  sizeBuilder := by kernel_rfl
  liesBuilder := by kernel_rfl
  t5 := Tryd.underlying5
  a5 := Tryd.isAgg5
  z5 := Tryd.sizeOf5
  v5 := Tryd.zeroValue5
  infoByte := by kernel_rfl
  cellsByte := by kernel_rfl
  sizeByte := by kernel_rfl
  neB5 := by decide }
open Go.RowKit in
theorem Tryd.strings_ToLower_ascii (s : ByteArray) (w : World) (hs : s.size ≤ 140737488355328) (hascii : ∀ (j : Nat) (b : UInt8), s.data.toList[j]? = some b → b.toNat < 128) :
    Calls Tryd.prog 86 #[.string s] w fun e w' => e = .returned (.string ⟨(Lib.toLowerA s.data.toList).toArray⟩) ∧ Below w.heap.size w w' := Any.strings_ToLower_ascii Tryd.lays159 Tryd.Builder_Extra_159 s w hs hascii
def Tryd.lays119_ren : Go.Shelf.Ren := ⟨fun | 119 => 110 | n => n, fun | 21 => 21 | 4 => 4 | n => n, fun | n => n⟩
theorem Tryd.lays119 : Go.Proofs.Lays.n119 Tryd.prog Tryd.lays119_ren := {
  mixed := by kernel_rfl
  f119 := Tryd.func110.trans (congrArg some (by kernel_rfl))
  t4 := Tryd.underlying4
  a4 := Tryd.isAgg4
  z4 := Tryd.sizeOf4
  v4 := Tryd.zeroValue4
  t21 := Tryd.underlying21
  a21 := Tryd.isAgg21
  z21 := Tryd.sizeOf21
  v21 := Tryd.zeroValue21 }
theorem Tryd.utf8_ValidRune (r : Int) (w : World) :
    Calls Tryd.prog 110 #[.int .i32 r] w fun e w' => e = .returned (.bool (Lib.validRune r)) ∧ w' = w := Any.utf8_ValidRune Tryd.lays119 r w
def Tryd.lays125_ren : Go.Shelf.Ren := ⟨fun | 125 => 108 | 128 => 129 | 129 => 130 | n => n, fun | 46 => 133 | 3 => 3 | 51 => 138 | 53 => 153 | 4 => 4 | 5 => 5 | 9 => 9 | n => n, fun | n => n⟩
theorem Tryd.lays125 : Go.Proofs.Lays.n125 Tryd.prog Tryd.lays125_ren := {
  mixed := by kernel_rfl
  f125 := Tryd.func108.trans (congrArg some (by kernel_rfl))
  f128 := Tryd.func129.trans (congrArg some (by kernel_rfl))
  f129 := Tryd.func130.trans (congrArg some (by kernel_rfl))
  t3 := Tryd.underlying3
  a3 := Tryd.isAgg3
  z3 := Tryd.sizeOf3
  v3 := Tryd.zeroValue3
  t4 := Tryd.underlying4
  a4 := Tryd.isAgg4
  z4 := Tryd.sizeOf4
  v4 := Tryd.zeroValue4
  t5 := Tryd.underlying5
  a5 := Tryd.isAgg5
  z5 := Tryd.sizeOf5
  v5 := Tryd.zeroValue5
  t9 := Tryd.underlying9
  a9 := Tryd.isAgg9
  z9 := Tryd.sizeOf9
  v9 := Tryd.zeroValue9
  t46 := Tryd.underlying133
  a46 := Tryd.isAgg133
  z46 := Tryd.sizeOf133
  v46 := Tryd.zeroValue133
  t51 := Tryd.underlying138
  a51 := Tryd.isAgg138
  z51 := Tryd.sizeOf138
  v51 := Tryd.zeroValue138
  t53 := Tryd.underlying153
  a53 := Tryd.isAgg153
  z53 := Tryd.sizeOf153
  v53 := Tryd.zeroValue153 }
theorem Tryd.bits_Len (x : Int) (w : World) (h0 : 0 ≤ x) (h1 : x ≤ 18446744073709551615) :
    Calls Tryd.prog 108 #[.int .u64 x] w fun e w' => e = .returned (.int .i64 (Lib.bitLen x.toNat)) ∧ w' = w := Any.bits_Len Tryd.lays125 x w h0 h1
def Tryd.lays137_ren : Go.Shelf.Ren := ⟨fun | 137 => 109 | 217 => 119 | 266 => 137 | n => n, fun | 9 => 9 | 5 => 5 | 3 => 3 | n => n, fun | n => n⟩
theorem Tryd.lays137 : Go.Proofs.Lays.n137 Tryd.prog Tryd.lays137_ren := {
  mixed := by kernel_rfl
  f137 := Tryd.func109.trans (congrArg some (by kernel_rfl))
  f217 := Tryd.func119.trans (congrArg some (by kernel_rfl))
  f266 := Tryd.func137.trans (congrArg some (by kernel_rfl))
  t3 := Tryd.underlying3
  a3 := Tryd.isAgg3
  z3 := Tryd.sizeOf3
  v3 := Tryd.zeroValue3
  t5 := Tryd.underlying5
  a5 := Tryd.isAgg5
  z5 := Tryd.sizeOf5
  v5 := Tryd.zeroValue5
  t9 := Tryd.underlying9
  a9 := Tryd.isAgg9
  z9 := Tryd.sizeOf9
  v9 := Tryd.zeroValue9 }
open Go.RowKit in
theorem Tryd.strings_IndexByte (s : ByteArray) (c : Int) (w : World) :
    Calls Tryd.prog 109 #[.string s, .int .u8 c] w fun e w' => e = .returned (.int .i64 (Lib.indexByte s.data.toList c.toNat.toUInt8)) ∧ w' = w := Any.strings_IndexByte Tryd.lays137 s c w
open Go.RowKit in
theorem Tryd.Builder_String_any_f (B b : Nat) (l : List UInt8) (w : World) (h : Lib.IsBuilderF 116 5 B b (Lib.byteCells l) w) (hBw : B ≤ w.heap.size) :
    Calls Tryd.prog 95 #[.pointer (some ⟨b, 0, none⟩)] w fun e w' => e = .returned (.string ⟨l.toArray⟩) ∧ (Lib.IsBuilderF 116 5 B b (Lib.byteCells l) w' ∧ Below B w w') := Any.Builder_String_any_f Tryd.lays169 Tryd.Builder_Extra_169 B b l w h hBw
def Tryd.lays144_ren : Go.Shelf.Ren := ⟨fun | 144 => 47 | 143 => 82 | 219 => 105 | 217 => 119 | 225 => 112 | 224 => 111 | 267 => 120 | 266 => 137 | 314 => 138 | n => n, fun | 9 => 9 | 4 => 4 | 3 => 3 | 5 => 5 | 46 => 133 | 146 => 174 | 51 => 138 | n => n, fun | 1 => 2 | n => n⟩
theorem Tryd.lays144 : Go.Proofs.Lays.n144 Tryd.prog Tryd.lays144_ren := {
  mixed := by kernel_rfl
  f143 := Tryd.func82.trans (congrArg some (by kernel_rfl))
  f144 := Tryd.func47.trans (congrArg some (by kernel_rfl))
  f217 := Tryd.func119.trans (congrArg some (by kernel_rfl))
  f219 := Tryd.func105.trans (congrArg some (by kernel_rfl))
  f224 := Tryd.func111.trans (congrArg some (by kernel_rfl))
  f225 := Tryd.func112.trans (congrArg some (by kernel_rfl))
  f266 := Tryd.func137.trans (congrArg some (by kernel_rfl))
  f267 := Tryd.func120.trans (congrArg some (by kernel_rfl))
  f314 := Tryd.func138.trans (congrArg some (by kernel_rfl))
  t3 := Tryd.underlying3
  a3 := Tryd.isAgg3
  z3 := Tryd.sizeOf3
  v3 := Tryd.zeroValue3
  t4 := Tryd.underlying4
  a4 := Tryd.isAgg4
  z4 := Tryd.sizeOf4
  v4 := Tryd.zeroValue4
  t5 := Tryd.underlying5
  a5 := Tryd.isAgg5
  z5 := Tryd.sizeOf5
  v5 := Tryd.zeroValue5
  t9 := Tryd.underlying9
  a9 := Tryd.isAgg9
  z9 := Tryd.sizeOf9
  v9 := Tryd.zeroValue9
  t46 := Tryd.underlying133
  a46 := Tryd.isAgg133
  z46 := Tryd.sizeOf133
  v46 := Tryd.zeroValue133
  t51 := Tryd.underlying138
  a51 := Tryd.isAgg138
  z51 := Tryd.sizeOf138
  v51 := Tryd.zeroValue138
  t146 := Tryd.underlying174
  a146 := Tryd.isAgg174
  z146 := Tryd.sizeOf174
  v146 := Tryd.zeroValue174
  g1 := by kernel_rfl }
open Go.RowKit Go.Lib in
theorem Tryd.strings_Contains (s sub : ByteArray) (m : Int) (w : World) (hs : s.size < 4294967281) (hm : w.cell? ⟨2, 0, none⟩ = some (.int .i64 m)) :
    Calls Tryd.prog 47 #[.string s, .string sub] w fun e w' => e = .returned (.bool (Lib.contains s.data.toList sub.data.toList)) ∧ w' = w := Any.strings_Contains Tryd.lays144 s sub m w hs hm
def Tryd.laysM144_ren : Go.Shelf.Ren := ⟨fun | 144 => 47 | 143 => 82 | 219 => 105 | 217 => 119 | 225 => 112 | 224 => 111 | 267 => 120 | 266 => 137 | 314 => 138 | n => n, fun | 9 => 9 | 4 => 4 | 3 => 3 | 5 => 5 | 46 => 133 | 146 => 174 | 51 => 138 | n => n, fun | 1 => 2 | n => n⟩
theorem Tryd.laysM144 : Go.Proofs.LaysM.n144 Tryd.prog Tryd.laysM144_ren := {
  mixed := by kernel_rfl
  f143 := Tryd.func82.trans (congrArg some (by kernel_rfl))
  f144 := Tryd.func47.trans (congrArg some (by kernel_rfl))
  f217 := Tryd.func119.trans (congrArg some (by kernel_rfl))
  f219 := Tryd.func105.trans (congrArg some (by kernel_rfl))
  f224 := Tryd.func111.trans (congrArg some (by kernel_rfl))
  f225 := Tryd.func112.trans (congrArg some (by kernel_rfl))
  f266 := Tryd.func137.trans (congrArg some (by kernel_rfl))
  f267 := Tryd.func120.trans (congrArg some (by kernel_rfl))
  f314 := Tryd.func138.trans (congrArg some (by kernel_rfl))
  t3 := Tryd.underlying3
  a3 := Tryd.isAgg3
  z3 := Tryd.sizeOf3
  v3 := Tryd.zeroValue3
  t4 := Tryd.underlying4
  a4 := Tryd.isAgg4
  z4 := Tryd.sizeOf4
  v4 := Tryd.zeroValue4
  t5 := Tryd.underlying5
  a5 := Tryd.isAgg5
  z5 := Tryd.sizeOf5
  v5 := Tryd.zeroValue5
  t9 := Tryd.underlying9
  a9 := Tryd.isAgg9
  z9 := Tryd.sizeOf9
  v9 := Tryd.zeroValue9
  t46 := Tryd.underlying133
  a46 := Tryd.isAgg133
  z46 := Tryd.sizeOf133
  v46 := Tryd.zeroValue133
  t51 := Tryd.underlying138
  a51 := Tryd.isAgg138
  z51 := Tryd.sizeOf138
  v51 := Tryd.zeroValue138
  t146 := Tryd.underlying174
  a146 := Tryd.isAgg174
  z146 := Tryd.sizeOf174
  v146 := Tryd.zeroValue174
  g1 := by kernel_rfl
  i3 := by kernel_rfl
  i4 := by kernel_rfl
  i5 := by kernel_rfl
  i9 := by kernel_rfl
  i46 := by kernel_rfl
  i51 := by kernel_rfl
  i146 := by kernel_rfl
  m1 := by kernel_rfl
  s1_3 := fun w h => Go.Proofs.cell_of_shapedOpen_int (zero := #[.int .i64 0]) (t := 3) h (of_decide_eq_true (by kernel_rfl)) (by kernel_rfl) rfl (by kernel_rfl) (by kernel_rfl) Tryd.underlying3 }
def Tryd.lays203_ren : Go.Shelf.Ren := ⟨fun | 203 => 104 | 262 => 118 | 313 => 136 | 274 => 144 | 275 => 145 | n => n, fun | 21 => 21 | 4 => 4 | 3 => 3 | 162 => 173 | 203 => 171 | 160 => 184 | 46 => 133 | 0 => 0 | 208 => 193 | 51 => 138 | 206 => 191 | n => n, fun | 13 => 5 | n => n⟩
theorem Tryd.lays203 : Go.Proofs.Lays.n203 Tryd.prog Tryd.lays203_ren := {
  mixed := by kernel_rfl
  f203 := Tryd.func104.trans (congrArg some (by kernel_rfl))
  f262 := Tryd.func118.trans (congrArg some (by kernel_rfl))
  f274 := Tryd.func144.trans (congrArg some (by kernel_rfl))
  f275 := Tryd.func145.trans (congrArg some (by kernel_rfl))
  f313 := Tryd.func136.trans (congrArg some (by kernel_rfl))
  t0 := Tryd.underlying0
  a0 := Tryd.isAgg0
  z0 := Tryd.sizeOf0
  v0 := Tryd.zeroValue0
  t3 := Tryd.underlying3
  a3 := Tryd.isAgg3
  z3 := Tryd.sizeOf3
  v3 := Tryd.zeroValue3
  t4 := Tryd.underlying4
  a4 := Tryd.isAgg4
  z4 := Tryd.sizeOf4
  v4 := Tryd.zeroValue4
  t21 := Tryd.underlying21
  a21 := Tryd.isAgg21
  z21 := Tryd.sizeOf21
  v21 := Tryd.zeroValue21
  t46 := Tryd.underlying133
  a46 := Tryd.isAgg133
  z46 := Tryd.sizeOf133
  v46 := Tryd.zeroValue133
  t51 := Tryd.underlying138
  a51 := Tryd.isAgg138
  z51 := Tryd.sizeOf138
  v51 := Tryd.zeroValue138
  t160 := Tryd.underlying184
  a160 := Tryd.isAgg184
  z160 := Tryd.sizeOf184
  v160 := Tryd.zeroValue184
  t162 := Tryd.underlying173
  a162 := Tryd.isAgg173
  z162 := Tryd.sizeOf173
  v162 := Tryd.zeroValue173
  t203 := Tryd.underlying171
  a203 := Tryd.isAgg171
  z203 := Tryd.sizeOf171
  v203 := Tryd.zeroValue171
  t206 := Tryd.underlying191
  a206 := Tryd.isAgg191
  z206 := Tryd.sizeOf191
  v206 := Tryd.zeroValue191
  t208 := Tryd.underlying193
  a208 := Tryd.isAgg193
  z208 := Tryd.sizeOf193
  v208 := Tryd.zeroValue193
  g13 := by kernel_rfl }
def Tryd.lays204_ren : Go.Shelf.Ren := ⟨fun | 204 => 103 | 262 => 118 | 313 => 136 | 274 => 144 | 275 => 145 | n => n, fun | 21 => 21 | 4 => 4 | 3 => 3 | 162 => 173 | 203 => 171 | 160 => 184 | 46 => 133 | 0 => 0 | 208 => 193 | 51 => 138 | 206 => 191 | n => n, fun | 13 => 5 | n => n⟩
theorem Tryd.lays204 : Go.Proofs.Lays.n204 Tryd.prog Tryd.lays204_ren := {
  mixed := by kernel_rfl
  f204 := Tryd.func103.trans (congrArg some (by kernel_rfl))
  f262 := Tryd.func118.trans (congrArg some (by kernel_rfl))
  f274 := Tryd.func144.trans (congrArg some (by kernel_rfl))
  f275 := Tryd.func145.trans (congrArg some (by kernel_rfl))
  f313 := Tryd.func136.trans (congrArg some (by kernel_rfl))
  t0 := Tryd.underlying0
  a0 := Tryd.isAgg0
  z0 := Tryd.sizeOf0
  v0 := Tryd.zeroValue0
  t3 := Tryd.underlying3
  a3 := Tryd.isAgg3
  z3 := Tryd.sizeOf3
  v3 := Tryd.zeroValue3
  t4 := Tryd.underlying4
  a4 := Tryd.isAgg4
  z4 := Tryd.sizeOf4
  v4 := Tryd.zeroValue4
  t21 := Tryd.underlying21
  a21 := Tryd.isAgg21
  z21 := Tryd.sizeOf21
  v21 := Tryd.zeroValue21
  t46 := Tryd.underlying133
  a46 := Tryd.isAgg133
  z46 := Tryd.sizeOf133
  v46 := Tryd.zeroValue133
  t51 := Tryd.underlying138
  a51 := Tryd.isAgg138
  z51 := Tryd.sizeOf138
  v51 := Tryd.zeroValue138
  t160 := Tryd.underlying184
  a160 := Tryd.isAgg184
  z160 := Tryd.sizeOf184
  v160 := Tryd.zeroValue184
  t162 := Tryd.underlying173
  a162 := Tryd.isAgg173
  z162 := Tryd.sizeOf173
  v162 := Tryd.zeroValue173
  t203 := Tryd.underlying171
  a203 := Tryd.isAgg171
  z203 := Tryd.sizeOf171
  v203 := Tryd.zeroValue171
  t206 := Tryd.underlying191
  a206 := Tryd.isAgg191
  z206 := Tryd.sizeOf191
  v206 := Tryd.zeroValue191
  t208 := Tryd.underlying193
  a208 := Tryd.isAgg193
  z208 := Tryd.sizeOf193
  v208 := Tryd.zeroValue193
  g13 := by kernel_rfl }
def Tryd.lays201_ren : Go.Shelf.Ren := ⟨fun | 201 => 102 | 261 => 117 | 311 => 134 | 312 => 135 | n => n, fun | 21 => 21 | 4 => 4 | 51 => 138 | 5 => 5 | 119 => 139 | 0 => 0 | 141 => 141 | 196 => 163 | 193 => 160 | 3 => 3 | 198 => 166 | 49 => 164 | 194 => 161 | 201 => 169 | 226 => 182 | 46 => 133 | 227 => 183 | n => n, fun | 7 => 0 | 9 => 1 | n => n⟩
theorem Tryd.lays201 : Go.Proofs.Lays.n201 Tryd.prog Tryd.lays201_ren := {
  mixed := by kernel_rfl
  f201 := Tryd.func102.trans (congrArg some (by kernel_rfl))
  f261 := Tryd.func117.trans (congrArg some (by kernel_rfl))
  f311 := Tryd.func134.trans (congrArg some (by kernel_rfl))
  f312 := Tryd.func135.trans (congrArg some (by kernel_rfl))
  t0 := Tryd.underlying0
  a0 := Tryd.isAgg0
  z0 := Tryd.sizeOf0
  v0 := Tryd.zeroValue0
  t3 := Tryd.underlying3
  a3 := Tryd.isAgg3
  z3 := Tryd.sizeOf3
  v3 := Tryd.zeroValue3
  t4 := Tryd.underlying4
  a4 := Tryd.isAgg4
  z4 := Tryd.sizeOf4
  v4 := Tryd.zeroValue4
  t5 := Tryd.underlying5
  a5 := Tryd.isAgg5
  z5 := Tryd.sizeOf5
  v5 := Tryd.zeroValue5
  t21 := Tryd.underlying21
  a21 := Tryd.isAgg21
  z21 := Tryd.sizeOf21
  v21 := Tryd.zeroValue21
  t46 := Tryd.underlying133
  a46 := Tryd.isAgg133
  z46 := Tryd.sizeOf133
  v46 := Tryd.zeroValue133
  t49 := Tryd.underlying164
  a49 := Tryd.isAgg164
  z49 := Tryd.sizeOf164
  v49 := Tryd.zeroValue164
  t51 := Tryd.underlying138
  a51 := Tryd.isAgg138
  z51 := Tryd.sizeOf138
  v51 := Tryd.zeroValue138
  t119 := Tryd.underlying139
  a119 := Tryd.isAgg139
  z119 := Tryd.sizeOf139
  t141 := Tryd.underlying141
  a141 := Tryd.isAgg141
  z141 := Tryd.sizeOf141
  v141 := Tryd.zeroValue141
  t193 := Tryd.underlying160
  a193 := Tryd.isAgg160
  z193 := Tryd.sizeOf160
  v193 := Tryd.zeroValue160
  t194 := Tryd.underlying161
  a194 := Tryd.isAgg161
  z194 := Tryd.sizeOf161
  v194 := Tryd.zeroValue161
  t196 := Tryd.underlying163
  a196 := Tryd.isAgg163
  z196 := Tryd.sizeOf163
  v196 := Tryd.zeroValue163
  t198 := Tryd.underlying166
  a198 := Tryd.isAgg166
  z198 := Tryd.sizeOf166
  v198 := Tryd.zeroValue166
  t201 := Tryd.underlying169
  a201 := Tryd.isAgg169
  z201 := Tryd.sizeOf169
  v201 := Tryd.zeroValue169
  t226 := Tryd.underlying182
  a226 := Tryd.isAgg182
  z226 := Tryd.sizeOf182
  v226 := Tryd.zeroValue182
  t227 := Tryd.underlying183
  a227 := Tryd.isAgg183
  z227 := Tryd.sizeOf183
  v227 := Tryd.zeroValue183
  g7 := by kernel_rfl
  g9 := by kernel_rfl }
def Tryd.lays151_ren : Go.Shelf.Ren := ⟨fun | 151 => 59 | 152 => 90 | 137 => 109 | 119 => 110 | 224 => 111 | 225 => 112 | 217 => 119 | 266 => 137 | n => n, fun | 9 => 9 | 21 => 21 | 4 => 4 | 3 => 3 | 5 => 5 | 0 => 0 | 46 => 133 | n => n, fun | n => n⟩
theorem Tryd.lays151 : Go.Proofs.Lays.n151 Tryd.prog Tryd.lays151_ren := {
  mixed := by kernel_rfl
  f119 := Tryd.func110.trans (congrArg some (by kernel_rfl))
  f137 := Tryd.func109.trans (congrArg some (by kernel_rfl))
  f151 := Tryd.func59.trans (congrArg some (by kernel_rfl))
  f152 := Tryd.func90.trans (congrArg some (by kernel_rfl))
  f217 := Tryd.func119.trans (congrArg some (by kernel_rfl))
  f224 := Tryd.func111.trans (congrArg some (by kernel_rfl))
  f225 := Tryd.func112.trans (congrArg some (by kernel_rfl))
  f266 := Tryd.func137.trans (congrArg some (by kernel_rfl))
  t0 := Tryd.underlying0
  a0 := Tryd.isAgg0
  z0 := Tryd.sizeOf0
  v0 := Tryd.zeroValue0
  t3 := Tryd.underlying3
  a3 := Tryd.isAgg3
  z3 := Tryd.sizeOf3
  v3 := Tryd.zeroValue3
  t4 := Tryd.underlying4
  a4 := Tryd.isAgg4
  z4 := Tryd.sizeOf4
  v4 := Tryd.zeroValue4
  t5 := Tryd.underlying5
  a5 := Tryd.isAgg5
  z5 := Tryd.sizeOf5
  v5 := Tryd.zeroValue5
  t9 := Tryd.underlying9
  a9 := Tryd.isAgg9
  z9 := Tryd.sizeOf9
  v9 := Tryd.zeroValue9
  t21 := Tryd.underlying21
  a21 := Tryd.isAgg21
  z21 := Tryd.sizeOf21
  v21 := Tryd.zeroValue21
  t46 := Tryd.underlying133
  a46 := Tryd.isAgg133
  z46 := Tryd.sizeOf133
  v46 := Tryd.zeroValue133 }
open Go.RowKit Go.Lib in
theorem Tryd.strings_ContainsRune_ascii (s : ByteArray) (r : Int) (w : World) (h0 : 0 ≤ r) (h1 : r < 128) :
    Calls Tryd.prog 59 #[.string s, .int .i32 r] w fun e w' => e = .returned (.bool (decide (0 ≤ Lib.indexByte s.data.toList r.toNat.toUInt8))) ∧ w' = w := Any.strings_ContainsRune_ascii Tryd.lays151 s r w h0 h1
def Tryd.lays260_ren : Go.Shelf.Ren := ⟨fun | 260 => 114 | n => n, fun | 9 => 9 | 21 => 21 | 3 => 3 | 4 => 4 | 5 => 5 | 119 => 139 | 0 => 0 | 46 => 133 | 139 => 158 | 138 => 157 | n => n, fun | 3 => 3 | 4 => 4 | n => n⟩
theorem Tryd.lays260 : Go.Proofs.Lays.n260 Tryd.prog Tryd.lays260_ren := {
  mixed := by kernel_rfl
  f260 := Tryd.func114.trans (congrArg some (by kernel_rfl))
  t0 := Tryd.underlying0
  a0 := Tryd.isAgg0
  z0 := Tryd.sizeOf0
  v0 := Tryd.zeroValue0
  t3 := Tryd.underlying3
  a3 := Tryd.isAgg3
  z3 := Tryd.sizeOf3
  v3 := Tryd.zeroValue3
  t4 := Tryd.underlying4
  a4 := Tryd.isAgg4
  z4 := Tryd.sizeOf4
  v4 := Tryd.zeroValue4
  t5 := Tryd.underlying5
  a5 := Tryd.isAgg5
  z5 := Tryd.sizeOf5
  v5 := Tryd.zeroValue5
  t9 := Tryd.underlying9
  a9 := Tryd.isAgg9
  z9 := Tryd.sizeOf9
  v9 := Tryd.zeroValue9
  t21 := Tryd.underlying21
  a21 := Tryd.isAgg21
  z21 := Tryd.sizeOf21
  v21 := Tryd.zeroValue21
  t46 := Tryd.underlying133
  a46 := Tryd.isAgg133
  z46 := Tryd.sizeOf133
  v46 := Tryd.zeroValue133
  t119 := Tryd.underlying139
  a119 := Tryd.isAgg139
  z119 := Tryd.sizeOf139
  t138 := Tryd.underlying157
  a138 := Tryd.isAgg157
  z138 := Tryd.sizeOf157
  v138 := Tryd.zeroValue157
  t139 := Tryd.underlying158
  a139 := Tryd.isAgg158
  z139 := Tryd.sizeOf158
  v139 := Tryd.zeroValue158
  g3 := by kernel_rfl
  g4 := by kernel_rfl }
def Tryd.lays261_ren : Go.Shelf.Ren := ⟨fun | 261 => 117 | 311 => 134 | 312 => 135 | n => n, fun | 141 => 141 | 21 => 21 | 4 => 4 | 0 => 0 | 196 => 163 | 193 => 160 | 3 => 3 | 51 => 138 | 198 => 166 | 49 => 164 | 194 => 161 | 201 => 169 | 226 => 182 | 46 => 133 | 227 => 183 | n => n, fun | n => n⟩
theorem Tryd.lays261 : Go.Proofs.Lays.n261 Tryd.prog Tryd.lays261_ren := {
  mixed := by kernel_rfl
  f261 := Tryd.func117.trans (congrArg some (by kernel_rfl))
  f311 := Tryd.func134.trans (congrArg some (by kernel_rfl))
  f312 := Tryd.func135.trans (congrArg some (by kernel_rfl))
  t0 := Tryd.underlying0
  a0 := Tryd.isAgg0
  z0 := Tryd.sizeOf0
  v0 := Tryd.zeroValue0
  t3 := Tryd.underlying3
  a3 := Tryd.isAgg3
  z3 := Tryd.sizeOf3
  v3 := Tryd.zeroValue3
  t4 := Tryd.underlying4
  a4 := Tryd.isAgg4
  z4 := Tryd.sizeOf4
  v4 := Tryd.zeroValue4
  t21 := Tryd.underlying21
  a21 := Tryd.isAgg21
  z21 := Tryd.sizeOf21
  v21 := Tryd.zeroValue21
  t46 := Tryd.underlying133
  a46 := Tryd.isAgg133
  z46 := Tryd.sizeOf133
  v46 := Tryd.zeroValue133
  t49 := Tryd.underlying164
  a49 := Tryd.isAgg164
  z49 := Tryd.sizeOf164
  v49 := Tryd.zeroValue164
  t51 := Tryd.underlying138
  a51 := Tryd.isAgg138
  z51 := Tryd.sizeOf138
  v51 := Tryd.zeroValue138
  t141 := Tryd.underlying141
  a141 := Tryd.isAgg141
  z141 := Tryd.sizeOf141
  v141 := Tryd.zeroValue141
  t193 := Tryd.underlying160
  a193 := Tryd.isAgg160
  z193 := Tryd.sizeOf160
  v193 := Tryd.zeroValue160
  t194 := Tryd.underlying161
  a194 := Tryd.isAgg161
  z194 := Tryd.sizeOf161
  v194 := Tryd.zeroValue161
  t196 := Tryd.underlying163
  a196 := Tryd.isAgg163
  z196 := Tryd.sizeOf163
  v196 := Tryd.zeroValue163
  t198 := Tryd.underlying166
  a198 := Tryd.isAgg166
  z198 := Tryd.sizeOf166
  v198 := Tryd.zeroValue166
  t201 := Tryd.underlying169
  a201 := Tryd.isAgg169
  z201 := Tryd.sizeOf169
  v201 := Tryd.zeroValue169
  t226 := Tryd.underlying182
  a226 := Tryd.isAgg182
  z226 := Tryd.sizeOf182
  v226 := Tryd.zeroValue182
  t227 := Tryd.underlying183
  a227 := Tryd.isAgg183
  z227 := Tryd.sizeOf183
  v227 := Tryd.zeroValue183 }
open Go.RowKit Go.Lib in
theorem Tryd.unicode_ToLower_laid (r : Int) (w : World) (hV : CaseVar 5 caseA w) :
    Calls Tryd.prog 103 #[.int .i32 r] w fun e w' => e = .returned (.int .i32 (toLowerU r)) ∧ ∃ q, w' = w.drewN q := Any.unicode_ToLower_laid Tryd.lays204 r w hV
open Go.RowKit Go.Lib in
theorem Tryd.unicode_ToUpper_laid (r : Int) (w : World) (hV : CaseVar 5 caseA w) :
    Calls Tryd.prog 104 #[.int .i32 r] w fun e w' => e = .returned (.int .i32 (toUpperU r)) ∧ ∃ q, w' = w.drewN q := Any.unicode_ToUpper_laid Tryd.lays203 r w hV
def Tryd.lays230_ren : Go.Shelf.Ren := ⟨fun | 230 => 78 | 197 => 96 | 118 => 97 | 165 => 98 | 166 => 99 | 168 => 100 | 270 => 101 | 167 => 94 | 169 => 95 | 260 => 114 | 240 => 113 | 241 => 115 | 242 => 116 | 276 => 131 | 277 => 132 | 278 => 133 | n => n, fun | 107 => 100 | 9 => 9 | 72 => 116 | 0 => 0 | 4 => 4 | 3 => 3 | 21 => 21 | 105 => 121 | 76 => 125 | 5 => 5 | 75 => 118 | 70 => 114 | 20 => 20 | 37 => 102 | 127 => 136 | 119 => 139 | 46 => 133 | 139 => 158 | 138 => 157 | 164 => 154 | 51 => 138 | 80 => 120 | n => n, fun | 3 => 3 | 4 => 4 | n => n⟩
theorem Tryd.lays230 : Go.Proofs.Lays.n230 Tryd.prog Tryd.lays230_ren := {
  mixed := by kernel_rfl
  f118 := Tryd.func97.trans (congrArg some (by kernel_rfl))
  f165 := Tryd.func98.trans (congrArg some (by kernel_rfl))
  f166 := Tryd.func99.trans (congrArg some (by kernel_rfl))
  f167 := Tryd.func94.trans (congrArg some (by kernel_rfl))
  f168 := Tryd.func100.trans (congrArg some (by kernel_rfl))
  f169 := Tryd.func95.trans (congrArg some (by kernel_rfl))
  f197 := Tryd.func96.trans (congrArg some (by kernel_rfl))
  f230 := Tryd.func78.trans (congrArg some (by kernel_rfl))
  f240 := Tryd.func113.trans (congrArg some (by kernel_rfl))
  f241 := Tryd.func115.trans (congrArg some (by kernel_rfl))
  f242 := Tryd.func116.trans (congrArg some (by kernel_rfl))
  f260 := Tryd.func114.trans (congrArg some (by kernel_rfl))
  f270 := Tryd.func101.trans (congrArg some (by kernel_rfl))
  f276 := Tryd.func131.trans (congrArg some (by kernel_rfl))
  f277 := Tryd.func132.trans (congrArg some (by kernel_rfl))
  f278 := Tryd.func133.trans (congrArg some (by kernel_rfl))
  t0 := Tryd.underlying0
  a0 := Tryd.isAgg0
  z0 := Tryd.sizeOf0
  v0 := Tryd.zeroValue0
  t3 := Tryd.underlying3
  a3 := Tryd.isAgg3
  z3 := Tryd.sizeOf3
  v3 := Tryd.zeroValue3
  t4 := Tryd.underlying4
  a4 := Tryd.isAgg4
  z4 := Tryd.sizeOf4
  v4 := Tryd.zeroValue4
  t5 := Tryd.underlying5
  a5 := Tryd.isAgg5
  z5 := Tryd.sizeOf5
  v5 := Tryd.zeroValue5
  t9 := Tryd.underlying9
  a9 := Tryd.isAgg9
  z9 := Tryd.sizeOf9
  v9 := Tryd.zeroValue9
  t20 := Tryd.underlying20
  a20 := Tryd.isAgg20
  z20 := Tryd.sizeOf20
  v20 := Tryd.zeroValue20
  t21 := Tryd.underlying21
  a21 := Tryd.isAgg21
  z21 := Tryd.sizeOf21
  v21 := Tryd.zeroValue21
  t37 := Tryd.underlying102
  a37 := Tryd.isAgg102
  z37 := Tryd.sizeOf102
  v37 := Tryd.zeroValue102
  t46 := Tryd.underlying133
  a46 := Tryd.isAgg133
  z46 := Tryd.sizeOf133
  v46 := Tryd.zeroValue133
  t51 := Tryd.underlying138
  a51 := Tryd.isAgg138
  z51 := Tryd.sizeOf138
  v51 := Tryd.zeroValue138
  t70 := Tryd.underlying114
  a70 := Tryd.isAgg114
  z70 := Tryd.sizeOf114
  v70 := Tryd.zeroValue114
  t72 := Tryd.underlying116
  a72 := Tryd.isAgg116
  z72 := Tryd.sizeOf116
  v72 := Tryd.zeroValue116
  t75 := Tryd.underlying118
  a75 := Tryd.isAgg118
  z75 := Tryd.sizeOf118
  v75 := Tryd.zeroValue118
  t76 := Tryd.underlying125
  a76 := Tryd.isAgg125
  z76 := Tryd.sizeOf125
  v76 := Tryd.zeroValue125
  t105 := Tryd.underlying121
  a105 := Tryd.isAgg121
  z105 := Tryd.sizeOf121
  v105 := Tryd.zeroValue121
  t107 := Tryd.underlying100
  a107 := Tryd.isAgg100
  z107 := Tryd.sizeOf100
  v107 := Tryd.zeroValue100
  t119 := Tryd.underlying139
  a119 := Tryd.isAgg139
  z119 := Tryd.sizeOf139
  t127 := Tryd.underlying136
  a127 := Tryd.isAgg136
  z127 := Tryd.sizeOf136
  v127 := Tryd.zeroValue136
  t138 := Tryd.underlying157
  a138 := Tryd.isAgg157
  z138 := Tryd.sizeOf157
  v138 := Tryd.zeroValue157
  t139 := Tryd.underlying158
  a139 := Tryd.isAgg158
  z139 := Tryd.sizeOf158
  v139 := Tryd.zeroValue158
  t164 := Tryd.underlying154
  a164 := Tryd.isAgg154
  z164 := Tryd.sizeOf154
  v164 := Tryd.zeroValue154
  g3 := by kernel_rfl
  g4 := by kernel_rfl }
theorem Tryd.Builder_Extra_230 : Builder.Extra Tryd.prog Tryd.lays230_ren := {
  sizeBuilder := by kernel_rfl
  liesBuilder := by kernel_rfl
  t5 := Tryd.underlying5
  a5 := Tryd.isAgg5
  z5 := Tryd.sizeOf5
  v5 := Tryd.zeroValue5
  infoByte := by kernel_rfl
  cellsByte := by kernel_rfl
  sizeByte := by kernel_rfl
  neB5 := by decide }
open Go.RowKit Go.Lib in
theorem Tryd.unicode_IsUpper_all (r : Int) (w : World) (hlo : -2147483648 ≤ r) (hhi : r ≤ 2147483647) (htab : Lib.TabIs Tryd.prog w "unicode.properties" .u8 Lib.propertiesTab) (hV : RVar 1 upperT w) :
    Calls Tryd.prog 102 #[.int .i32 r] w fun e w' => e = .returned (.bool (isUpperU r)) ∧ Below w.heap.size w w' := Any.unicode_IsUpper_all Tryd.lays201 (by kernel_rfl) r w hlo hhi htab hV
open Go.RowKit Go.Lib in
theorem Tryd.strings_Map_grows (g : Nat) (lb : Array Value) (eg : ∀ args w, (callFunc g args).run Tryd.prog w = .ok (.enter g args) w) (f : Int → Int) (s : ByteArray) (w : World) (hs : s.size < 35184372088832) (hf : MapGrows Tryd.prog g lb f w) (hnn : ∀ x : Nat, x ≤ 1114111 → -2147483648 ≤ f x ∧ f x ≤ 2147483647) (hT : Lib.Utf8Tabs 3 4 w) :
    Calls Tryd.prog 78 #[.func (.func g) #[] lb, .string s] w fun e w' => e = .returned (.string ⟨(Lib.mapD f s.data.toList).toArray⟩) ∧ Below w.heap.size w w' := Any.strings_Map_grows Tryd.lays230 Tryd.Builder_Extra_230 g lb eg f s w hs hf hnn hT
end Go.Proofs

namespace Go.Proofs.YtokdjjebnomciaaDoor
set_option linter.unusedVariables false
open Go.Wk Go.RowKit Go.Lib

/-- The library's tables, as they are read. -/
structure Laid (w : World) : Prop where
  props : TabIs Tryd.prog w "unicode.properties" .u8 propertiesTab
  upper : RVar 1 upperT w
  cases : CaseVar 5 caseA w
  utf : Utf8Tabs 3 4 w
  len : ∃ m, w.cell? ⟨2, 0, none⟩ = some (.int .i64 m)
theorem cell_ext {w w' : World} (h : Ext w w') {a : Addr} {v : Value} (hc : w.cell? a = some v) : w'.cell? a = some v :=
  (World.cell?_of_block (h.block a.block (World.block_lt_of_cell? w a hc))).trans hc
theorem rgTab_ext {w w' : World} (h : Ext w w') {k : IntKind} {R o : Nat} {T : Array Rg} (ht : RgTab k R o T w) : RgTab k R o T w' := fun i hi => by
  have := ht i hi
  exact ⟨cell_ext h this.1, cell_ext h this.2.1, cell_ext h this.2.2⟩
theorem Laid.ext {w w' : World} (hG : Laid w) (h : Ext w w') : Laid w' := by
  refine ⟨?_, ?_, ?_, ⟨fun c hc => cell_ext h (hG.utf.1 c hc), fun i hi => ⟨cell_ext h (hG.utf.2 i hi).1, cell_ext h (hG.utf.2 i hi).2⟩⟩, ?_⟩
  · have hp := hG.props
    unfold TabIs World.var? at hp ⊢
    cases hg : Tryd.prog.globalNamed "unicode.properties" with
    | none => rw [hg] at hp; cases hp
    | some g =>
      rw [hg] at hp
      simp only [Option.bind_some] at hp ⊢
      cases hq : w.heap[g]? with
      | none => rw [hq] at hp; cases hp
      | some o => rw [hq] at hp; rw [h.block g (Array.getElem?_eq_some_iff.1 hq).1, hq]; exact hp
  · obtain ⟨Tb, oT, h1, a16, a32, R16, o16, c16, R32, o32, c32, g1, g2, g3, g4, g5, g6, g7, g8⟩ := hG.upper
    exact ⟨Tb, oT, cell_ext h h1, a16, a32, R16, o16, c16, R32, o32, c32, cell_ext h g1, cell_ext h g2, cell_ext h g3, g4, g5, rgTab_ext h g6, rgTab_ext h g7, g8⟩
  · obtain ⟨R, oR, cap, h1, h2⟩ := hG.cases
    exact ⟨R, oR, cap, cell_ext h h1, fun i hi => by
      have := h2 i hi
      exact ⟨cell_ext h this.1, cell_ext h this.2.1, cell_ext h this.2.2.1, cell_ext h this.2.2.2.1, cell_ext h this.2.2.2.2⟩⟩
  · obtain ⟨m, hm⟩ := hG.len
    exact ⟨m, cell_ext h hm⟩
/-- The letter of the other size, by the library's tables. -/
def otherU (r : Int) : Int := if isUpperU r = true then toLowerU r else toUpperU r
theorem ret_of_same {P : Program} {f : FuncId} {args : Array Value} {w : World} {v : Value} (h : Calls P f args w fun e w' => e = .returned v ∧ w' = w) : Calls P f args w (Ret w fun r _ => r = v) :=
  h.mono fun e w' ⟨he, hw⟩ => ⟨v, he, by rw [hw]; exact Ext.refl _, rfl⟩
theorem ret_of_below {P : Program} {f : FuncId} {args : Array Value} {w : World} {v : Value} (h : Calls P f args w fun e w' => e = .returned v ∧ Below w.heap.size w w') : Calls P f args w (Ret w fun r _ => r = v) :=
  h.mono fun e w' ⟨he, hw⟩ => ⟨v, he, hw, rfl⟩
theorem F102 {r : Int} {w : World} (i_r : InK .i32 r) (hG : Laid w) : Calls Tryd.prog 102 #[.int .i32 r] w (Ret w fun q _ => q = .bool (isUpperU r)) :=
  ret_of_below (Tryd.unicode_IsUpper_all r w i_r.1 i_r.2 hG.props hG.upper)
theorem F103 {r : Int} {w : World} (_ : InK .i32 r) (hG : Laid w) : Calls Tryd.prog 103 #[.int .i32 r] w (Ret w fun q _ => q = .int .i32 (toLowerU r)) :=
  (Tryd.unicode_ToLower_laid r w hG.cases).mono fun e w' hh => by
    obtain ⟨he, hw⟩ := hh
    exact ⟨_, he, by first | exact hw | (rw [hw]; exact Ext.refl _) | (obtain ⟨q, hq⟩ := hw; rw [hq]; exact below_drewNm w q), rfl⟩
theorem F104 {r : Int} {w : World} (_ : InK .i32 r) (hG : Laid w) : Calls Tryd.prog 104 #[.int .i32 r] w (Ret w fun q _ => q = .int .i32 (toUpperU r)) :=
  (Tryd.unicode_ToUpper_laid r w hG.cases).mono fun e w' hh => by
    obtain ⟨he, hw⟩ := hh
    exact ⟨_, he, by first | exact hw | (rw [hw]; exact Ext.refl _) | (obtain ⟨q, hq⟩ := hw; rw [hq]; exact below_drewNm w q), rfl⟩
theorem F109 {s : ByteArray} {c : Int} {w : World} (_ : s.size ≤ maxLen) (_ : InK .u8 c) : Calls Tryd.prog 109 #[.string s, .int .u8 c] w (Ret w fun q _ => q = .int .i64 (indexByte s.data.toList c.toNat.toUInt8)) :=
  ret_of_same (Tryd.strings_IndexByte s c w)
theorem F110 {r : Int} {w : World} (_ : InK .i32 r) : Calls Tryd.prog 110 #[.int .i32 r] w (Ret w fun q _ => q = .bool (validRune r)) := ret_of_same (Tryd.utf8_ValidRune r w)
theorem F47 {s t : ByteArray} {w : World} (_ : s.size ≤ maxLen) (_ : t.size ≤ maxLen) (p_s : (s.size : Int) < 4294967281) (hG : Laid w) : Calls Tryd.prog 47 #[.string s, .string t] w (Ret w fun q _ => q = .bool (contains s.data.toList t.data.toList)) := by
  obtain ⟨m, hm⟩ := hG.len
  exact ret_of_same (Tryd.strings_Contains s t m w (by omega) hm)
/-! ### letters, by the library -/
theorem otherU_let {y : Int} (h : isLet y = true) : otherU y = if y ≤ 90 then y + 32 else y - 32 := by
  simp only [isLet, Bool.or_eq_true, decide_eq_true_eq] at h
  have hl : latin1 y = true := by rw [latin1]; exact decide_eq_true (by omega)
  rw [otherU, isUpperU, if_pos hl, isUpperL]
  by_cases hu : y ≤ 90
  · rw [if_pos (decide_eq_true (by omega)), if_pos hu, toLowerU, if_pos (by omega), if_pos (by omega)]
  · rw [if_neg (by rw [decide_eq_true_eq]; omega), if_neg hu, toUpperU, if_pos (by omega), if_pos (by omega)]
theorem fit_other {x y : Int} (hx : isLet x = true) (hy : isLet y = true) : decide (x = otherU y) = fitC x y := by
  rw [otherU_let hy, fitC]
  simp only [isLet, Bool.or_eq_true, decide_eq_true_eq] at hx hy
  congr 1
  simp only [eq_iff_iff]
  split <;> omega
/-- Is a rune one of the string's letters? -/
def hasRune (s : ByteArray) (r : Int) : Bool := decide (0 ≤ r ∧ r < 128) && decide (0 ≤ indexByte s.data.toList r.toNat.toUInt8)
theorem letS_table : ∀ c < 128, decide (0 ≤ indexByte letS.data.toList (c : Nat).toUInt8) = isLet (c : Nat) := by decide +kernel
theorem hasRune_let {r : Int} (h0 : 0 ≤ r) : hasRune letS r = isLet r := by
  rw [hasRune]
  by_cases h : r < 128
  · rw [decide_eq_true ⟨h0, h⟩, Bool.true_and]
    have := letS_table r.toNat (by omega)
    rwa [Int.toNat_of_nonneg h0] at this
  · rw [decide_eq_false (by omega), Bool.false_and]
    symm
    rw [isLet, Bool.or_eq_false_iff, decide_eq_false_iff_not, decide_eq_false_iff_not]
    omega
theorem rune_let {s : ByteArray} {p : Int} (h0 : 0 ≤ p) (h : hasRune letS (runeAt s p) = true) : runeW s p = 1 ∧ isLet (tabAt s p) = true := by
  rw [hasRune_let (runeAt_bd s p).1] at h
  have hb := isLet_bd h
  by_cases ha : tabAt s p < 128
  · have := runeAt_ascii h0 ha
    rw [this.1] at h
    exact ⟨this.2, h⟩
  · have := runeAt_other h0 (by omega : 128 ≤ tabAt s p)
    omega
theorem rune_not {s : ByteArray} {p : Int} (h0 : 0 ≤ p) (h : hasRune letS (runeAt s p) = false) : isLet (tabAt s p) = false := by
  rw [hasRune_let (runeAt_bd s p).1] at h
  cases hl : isLet (tabAt s p) with
  | false => rfl
  | true =>
    have hb := isLet_bd hl
    rw [(runeAt_ascii h0 (by omega)).1, hl] at h
    exact h
theorem index_not : ∀ (l : List UInt8) (c : UInt8), (∀ b ∈ l, b.toNat < 128) → 128 ≤ c.toNat → indexByte l c = -1
  | [], _, _, _ => rfl
  | b :: l, c, h, hc => by
    have hb := h b (List.mem_cons_self ..)
    have hne : (b == c) = false := by
      cases hq : b == c with
      | false => rfl
      | true => rw [eq_of_beq hq] at hb; omega
    rw [indexByte, hne, index_not l c (fun x hx => h x (List.mem_cons_of_mem _ hx)) hc]; rfl
theorem letS_asc : ∀ q : Int, 0 ≤ q → q < letS.size → tabAt letS q < 128 := by
  intro q h0 h1
  have h : ∀ k < 20, tabAt letS (k : Nat) < 128 := by decide +kernel
  have hs : letS.size = 20 := by decide
  have := h q.toNat (by omega)
  rwa [Int.toNat_of_nonneg h0] at this
theorem index_asc {s : ByteArray} {a b : Nat} {c : Int} (h : ∀ q : Int, 0 ≤ q → q < s.size → tabAt s q < 128) (h1 : 128 ≤ c) (h2 : c ≤ 255) : indexByte (s.extract a b).data.toList c.toNat.toUInt8 = -1 := by
  refine index_not _ _ (fun x hx => ?_) ?_
  · have hx2 : x ∈ s.data.toList := by
      rw [ByteArray.data_extract, Array.toList_extract] at hx
      exact List.mem_of_mem_drop (List.mem_of_mem_take hx)
    obtain ⟨k, hk, rfl⟩ := List.mem_iff_getElem.1 hx2
    have := h (k : Int) (by omega) (by have e : s.size = s.data.toList.length := (by simp); omega)
    rw [tabAt, Int.toNat_natCast, List.getD_eq_getElem?_getD, List.getElem?_eq_getElem hk] at this
    simp only [Option.getD_some] at this
    omega
  · rw [Nat.toUInt8, UInt8.toNat_ofNat']; omega
end Go.Proofs.YtokdjjebnomciaaDoor

namespace Go.Proofs.YtokdjjebnomciaaDoor
open Go.Wk Go.RowKit Go.Lib
set_option linter.unusedVariables false
set_option linter.unusedSimpArgs false
theorem mixedHa_ : Tryd.prog.follows .mixedOrders = true := by kernel_rfl

theorem F79 {c : Int} {w : World} (i_c : InK .i32 c) (hG : Laid w) : Calls Tryd.prog 79 #[.int .i32 c] w (Ret w (fun r _ => r = .int .i32 (otherU c))) := by
  have b_c := bd_i32 i_c
  have hS := St.start0 w
  refine enterR Tryd.func79 rfl Tryd.ntmps79 Tryd.results79 rfl ?_
  refine W.seq ?_
  refine W.reg ?_
  refine Wx.rd (v := .int .i32 0) (rd_assign rfl) rfl ?_
  refine Wx.nil ?_
  refine W.seq ?_
  refine W.seq ?_
  refine W.reg ?_
  refine Wx.rd (v := .int .i32 c) (rd_move rfl) rfl ?_
  refine Wx.callF (run_callF Tryd.call102 rfl) (F102 (in_i32 (by omega) (by omega)) (hG.ext hS.bel)) rfl ?_
  rintro r_1 w_2 hx_3 rfl
  have hS := hS.ext hx_3
  refine Wx.nil ?_
  refine W.cond rfl (fun c0 => ?_) (fun c0 => ?_)
  · -- yes
    try simp only [Bool.and_eq_true, Bool.or_eq_true, Bool.not_eq_true', Bool.and_eq_false_iff, Bool.or_eq_false_iff, Bool.not_eq_false', decide_eq_true_eq, decide_eq_false_iff_not, not_or, Bool.false_eq_true, Bool.true_eq_false, false_or, or_false, not_false_eq_true] at c0
    refine W.seq ?_
    refine W.reg ?_
    refine Wx.rd (v := .int .i32 c) (rd_move rfl) rfl ?_
    refine Wx.callF (run_callF Tryd.call103 rfl) (F103 (in_i32 (by omega) (by omega)) (hG.ext hS.bel)) rfl ?_
    rintro r_4 w_5 hx_6 rfl
    have hS := hS.ext hx_6
    refine Wx.rd (v := .int .i32 (toLowerU c)) (rd_assign rfl) rfl ?_
    refine Wx.nil ?_
    have e0_0 : (otherU c) = (toLowerU c : Int) := by rw [otherU, if_pos c0]
    exact W.ret ⟨.int .i32 (toLowerU c), ResIs.one, hS.bel, (by rw [e0_0])⟩
  · -- no
    try simp only [Bool.and_eq_true, Bool.or_eq_true, Bool.not_eq_true', Bool.and_eq_false_iff, Bool.or_eq_false_iff, Bool.not_eq_false', decide_eq_true_eq, decide_eq_false_iff_not, not_or, Bool.false_eq_true, Bool.true_eq_false, false_or, or_false, not_false_eq_true] at c0
    refine W.skip ?_
    refine W.seq ?_
    refine W.reg ?_
    refine Wx.rd (v := .int .i32 c) (rd_move rfl) rfl ?_
    refine Wx.callF (run_callF Tryd.call104 rfl) (F104 (in_i32 (by omega) (by omega)) (hG.ext hS.bel)) rfl ?_
    rintro r_7 w_8 hx_9 rfl
    have hS := hS.ext hx_9
    refine Wx.rd (v := .int .i32 (toUpperU c)) (rd_assign rfl) rfl ?_
    refine Wx.nil ?_
    have e1_0 : (otherU c) = (toUpperU c : Int) := by rw [otherU, if_neg (by rw [c0]; decide)]
    exact W.ret ⟨.int .i32 (toUpperU c), ResIs.one, hS.bel, (by rw [e1_0])⟩

theorem F61 {rim : ByteArray} {i : Int} {j : Int} {w : World} (s_rim : rim.size ≤ maxLen) (i_i : InK .i64 i) (i_j : InK .i64 j) (p_i : 0 ≤ i) (p_i2 : i < rim.size) (p_j : 0 ≤ j) (p_j2 : j < rim.size) (p_l : Lets rim) (hG : Laid w) : Calls Tryd.prog 61 #[.string rim, .int .i64 i, .int .i64 j] w (Ret w (fun r _ => r = .bool (fitR rim i j))) := by
  have b_j := bd_i64 i_j
  have b_i := bd_i64 i_i
  have hS := St.start0 w
  refine enterR Tryd.func61 rfl Tryd.ntmps61 Tryd.results61 rfl ?_
  refine W.seq ?_
  refine W.reg ?_
  refine Wx.rd (v := .bool false) (rd_assign rfl) rfl ?_
  refine Wx.nil ?_
  refine W.seq ?_
  refine W.regQ mixedHa_ (by kernel_rfl) ?_
  refine Wx.rd (v := .string rim) (rd_move rfl) rfl ?_
  refine Wx.rd (v := .int .i64 i) (rd_move rfl) rfl ?_
  refine Wx.rd (v := .int .u8 (tabAt rim i)) (rd_indexS' (by kernel_rfl) rfl Tryd.underlying9 (by omega) (by omega)) rfl ?_
  have bd_1 := tabAt_bd rim i
  refine Wx.rd (v := .int .i32 (tabAt rim i)) (rd_convIn rfl Tryd.underlying5 Tryd.underlying21 (in_i32 (by omega) (by omega))) rfl ?_
  refine Wx.rd (v := .string rim) (rd_move rfl) rfl ?_
  refine Wx.rd (v := .int .i64 j) (rd_move rfl) rfl ?_
  refine Wx.rd (v := .int .u8 (tabAt rim j)) (rd_indexS' (by kernel_rfl) rfl Tryd.underlying9 (by omega) (by omega)) rfl ?_
  have bd_2 := tabAt_bd rim j
  refine Wx.rd (v := .int .i32 (tabAt rim j)) (rd_convIn rfl Tryd.underlying5 Tryd.underlying21 (in_i32 (by omega) (by omega))) rfl ?_
  refine Wx.callV (v := .int .i32 (otherU (tabAt rim j))) (run_callF Tryd.call79 rfl) (fun w_3 hw_4 => (F79 (in_i32 (by omega) (by omega)) (hG.ext (Ext.trans hS.bel hw_4)))) rfl ?_
  refine Wx.rd (v := .bool (decide ((tabAt rim i) = (otherU (tabAt rim j))))) (rd_eql rfl rfl) rfl ?_
  refine Wx.rd (v := .bool (decide ((tabAt rim i) = (otherU (tabAt rim j))))) (rd_assign rfl) rfl ?_
  refine Wx.nilQ (fun w_5 hx_6 => ?_)
  have hS := hS.ext hx_6
  have e0_0 : (fitR rim i j) = (decide ((tabAt rim i) = (otherU (tabAt rim j)))) := by exact (fit_other (p_l i p_i p_i2) (p_l j p_j p_j2)).symm
  exact W.ret ⟨.bool (decide ((tabAt rim i) = (otherU (tabAt rim j)))), ResIs.one, hS.bel, (by rw [e0_0])⟩

theorem F90w {s : ByteArray} {r : Int} {w : World} (s_s : s.size ≤ maxLen) (i_r : InK .i32 r) (p_a : ∀ q : Int, 0 ≤ q → q < s.size → tabAt s q < 128) (p_4 : 4 ≤ s.size) (p_r : 128 ≤ r) : Calls Tryd.prog 90 #[.string s, .int .i32 r] w (Ret w (fun r _ => r = .int .i64 (-1))) := by
  have b_r := bd_i32 i_r
  have hen := encode_last p_r
  have hS := St.start0 w
  refine enterR Tryd.func90 rfl Tryd.ntmps90 Tryd.results90 rfl ?_
  refine W.seq ?_
  refine W.reg ?_
  refine Wx.rd (v := .int .i64 0) (rd_assign rfl) rfl ?_
  refine Wx.nil ?_
  refine W.block ?_
  refine W.seq ?_
  refine W.reg ?_
  refine Wx.rd (v := .int .i32 r) (rd_move rfl) rfl ?_
  refine Wx.rd (v := .bool (decide (0 ≤ r))) (rd_leq rfl rfl) rfl ?_
  refine Wx.rd (v := .bool (decide (0 ≤ r))) (rd_move rfl) rfl ?_
  refine Wx.cut (X := Unit) 3 [164, 165, 166] (fun _ => [(166, .bool (decide (0 ≤ r) && decide (r < 128)))]) (fun _ w' => St w [] w' []) ?_ ?_
  · rcases Bool.eq_false_or_eq_true (decide (0 ≤ r)) with g_1 | g_1
    · -- True
      have gp_2 := of_decide_eq_true g_1
      refine Wx.gyes rfl rfl (congrArg Value.bool g_1) ?_
      refine Wx.rd (v := .int .i32 r) (rd_move rfl) rfl ?_
      refine Wx.gyes rfl rfl (congrArg Value.bool g_1) ?_
      refine Wx.rd (v := .bool (decide (r < 128))) (rd_lss rfl rfl) rfl ?_
      refine Wx.rd (v := .bool (decide (r < 128))) (rd_pickT (congrArg Value.bool g_1) rfl) rfl ?_
      refine Wx.nil ⟨(), hS, ⟨?_, trivial⟩, Out.look rfl Out.refl⟩
      show Value.bool (decide (r < 128)) = Value.bool (decide (0 ≤ r) && decide (r < 128))
      rw [g_1]; rfl
    · -- False
      have gp_3 := of_decide_eq_false g_1
      refine Wx.gnoB rfl rfl (congrArg Value.bool g_1) rfl rfl ?_
      refine Wx.gnoB rfl rfl (congrArg Value.bool g_1) rfl rfl ?_
      refine Wx.rd (v := .bool false) (rd_pickF (congrArg Value.bool g_1) rfl) rfl ?_
      refine Wx.nil ⟨(), hS, ⟨?_, trivial⟩, Out.look rfl Out.refl⟩
      show Value.bool false = Value.bool (decide (0 ≤ r) && decide (r < 128))
      rw [g_1]; rfl
  rintro ⟨⟩ u_5 w_4 hS
  refine Wx.rd (v := .bool (decide (0 ≤ r) && decide (r < 128))) (rd_assign rfl) rfl ?_
  refine Wx.nil ?_
  refine W.condF rfl (by rw [decide_eq_false (show ¬ r < 128 by omega), Bool.and_false]) ?_
  refine W.seq ?_
  refine W.reg ?_
  refine Wx.rd (v := .int .i32 r) (rd_move rfl) rfl ?_
  refine Wx.rd (v := .bool (decide (r = 65533))) (rd_eql rfl rfl) rfl ?_
  refine Wx.rd (v := .bool (decide (r = 65533))) (rd_assign rfl) rfl ?_
  refine Wx.nil ?_
  refine W.condD rfl (fun c1 => ?_) (fun c1 => ?_)
  · -- yes
    refine W.seq ?_
    refine W.seq ?_
    refine W.reg ?_
    refine Wx.rd (v := .string s) (rd_move rfl) rfl ?_
    refine Wx.rangeS (s := s) hS rfl Tryd.underlying9 rfl (fun g_6 w_7 hx_8 hS => ?_)
    refine Wx.nil ?_
    refine W.block ?_
    refine W.loop [4, 5, 6, 176, 177, 178, 179, 180, 181, 182] (fun (q : Nat) => []) (fun (q : Nat) w' => St w [] w' [.raw g_6 (.stringIter s q)]) (fun (q : Nat) => s.size - q) 0 trivial hS ?_
    rintro q u_10 w_9 hS
    refine W.seq ?_
    refine W.reg ?_
    refine Wx.nextS hS 0 rfl rfl rfl (fun hn w_11 hz_12 hS => ?_) (fun hn => ?_)
    · -- a rune
      have hS : St _ _ w_11 [.raw g_6 (.stringIter s (q + (runeW s (q : Int)).toNat))] := hS
      have hq := p_a (q : Int) (by omega) hn
      refine Wx.rd (v := .bool true) (rd_extract rfl rfl) rfl ?_
      refine Wx.nil ?_
      refine W.seq ?_
      refine W.condT rfl rfl ?_
      refine W.skip ?_
      refine W.block ?_
      refine W.seq ?_
      refine W.reg ?_
      refine Wx.rd (v := .int .i64 (q : Int)) (rd_extract rfl rfl) rfl ?_
      refine Wx.rd (v := .int .i32 (runeAt s (q : Int))) (rd_extract rfl rfl) rfl ?_
      refine Wx.rd (v := .int .i64 (q : Int)) (rd_assign rfl) rfl ?_
      refine Wx.rd (v := .int .i32 (runeAt s (q : Int))) (rd_assign rfl) rfl ?_
      refine Wx.nil ?_
      refine W.seq ?_
      refine W.reg ?_
      refine Wx.rd (v := .int .i32 (runeAt s (q : Int))) (rd_move rfl) rfl ?_
      refine Wx.rd (v := .bool (decide ((runeAt s (q : Int)) = 65533))) (rd_eql rfl rfl) rfl ?_
      refine Wx.nil ?_
      refine W.condF rfl (decide_eq_false (by rw [(runeAt_ascii (by omega) hq).1]; omega)) ?_
      refine W.skip ?_
      refine ⟨q + (runeW s (q : Int)).toNat, (by show s.size - (q + (runeW s (q : Int)).toNat) < s.size - q; have := (runeAt_ascii (by omega) hq).2; omega), ?_, ?_, Out.look rfl Out.self⟩
      · exact hS
      · exact trivial
    · -- the end
      refine Wx.rd (v := .bool false) (rd_extract rfl rfl) rfl ?_
      refine Wx.nil ?_
      refine W.seq ?_
      refine W.condF rfl rfl ?_
      refine W.exit rfl ?_
      refine W.seq ?_
      refine W.reg ?_
      refine Wx.rd (v := .int .i64 (-1)) (rd_assign rfl) rfl ?_
      refine Wx.nil ?_
      exact W.ret ⟨.int .i64 (-1), ResIs.one, hS.bel, rfl⟩
  · -- no
    refine W.seq ?_
    refine W.reg ?_
    refine Wx.rd (v := .int .i32 r) (rd_move rfl) rfl ?_
    refine Wx.callF (run_callF Tryd.call110 rfl) (F110 (in_i32 (by omega) (by omega))) rfl ?_
    rintro r_14 w_15 hx_16 rfl
    have hS := hS.ext hx_16
    refine Wx.rd (v := .bool (!(validRune r))) (rd_not rfl) rfl ?_
    refine Wx.rd (v := .bool (!(validRune r))) (rd_assign rfl) rfl ?_
    refine Wx.nil ?_
    refine W.cond rfl (fun c4 => ?_) (fun c4 => ?_)
    · -- yes
      try simp only [Bool.and_eq_true, Bool.or_eq_true, Bool.not_eq_true', Bool.and_eq_false_iff, Bool.or_eq_false_iff, Bool.not_eq_false', decide_eq_true_eq, decide_eq_false_iff_not, not_or, Bool.false_eq_true, Bool.true_eq_false, false_or, or_false, not_false_eq_true] at c4
      refine W.seq ?_
      refine W.reg ?_
      refine Wx.rd (v := .int .i64 (-1)) (rd_assign rfl) rfl ?_
      refine Wx.nil ?_
      exact W.ret ⟨.int .i64 (-1), ResIs.one, hS.bel, rfl⟩
    · -- no
      try simp only [Bool.and_eq_true, Bool.or_eq_true, Bool.not_eq_true', Bool.and_eq_false_iff, Bool.or_eq_false_iff, Bool.not_eq_false', decide_eq_true_eq, decide_eq_false_iff_not, not_or, Bool.false_eq_true, Bool.true_eq_false, false_or, or_false, not_false_eq_true] at c4
      refine W.scope ?_
      refine W.seq ?_
      refine W.reg ?_
      refine Wx.rd (v := .int .i32 r) (rd_move rfl) rfl ?_
      refine Wx.rd (v := .string (Utf8.encode r)) (rd_convRS rfl Tryd.underlying21 Tryd.underlying9) rfl ?_
      refine Wx.rd (v := .string (Utf8.encode r)) (rd_assign rfl) rfl ?_
      refine Wx.nil ?_
      refine W.seq ?_
      refine W.reg ?_
      refine Wx.rd (v := .string (Utf8.encode r)) (rd_move rfl) rfl ?_
      refine Wx.rd (v := .int .i64 ((Utf8.encode r).size : Int)) (rd_lenS rfl Tryd.underlying9) rfl ?_
      refine Wx.rd (v := .int .i64 (((Utf8.encode r).size : Int) - 1)) (rd_sub rfl rfl (in_i64 (by omega) (by omega))) rfl ?_
      refine Wx.rd (v := .int .i64 (((Utf8.encode r).size : Int) - 1)) (rd_assign rfl) rfl ?_
      refine Wx.nil ?_
      refine W.seq ?_
      refine W.reg ?_
      refine Wx.rd (v := .int .i64 (((Utf8.encode r).size : Int) - 1)) (rd_move rfl) rfl ?_
      refine Wx.rd (v := .int .i64 (((Utf8.encode r).size : Int) - 1)) (rd_assign rfl) rfl ?_
      refine Wx.nil ?_
      refine W.seq ?_
      refine W.reg ?_
      refine Wx.rd (v := .int .i64 0) (rd_assign rfl) rfl ?_
      refine Wx.nil ?_
      refine W.seq ?_
      refine W.block ?_
      refine W.loop [4, 9, 10, 11, 12, 23, 24, 25, 26, 27, 28, 29, 30, 31, 32, 33, 34, 35, 36, 37, 38, 39, 40, 41, 42, 43, 44, 45, 46, 47, 48, 49, 50, 51, 52, 53, 54, 55, 56, 57, 58, 59, 60, 61, 62, 63, 64, 65, 66, 67, 68, 69, 70, 71, 72, 73, 74, 75, 76, 77, 78, 79, 80, 81, 82, 83, 84, 85, 86, 87, 88, 89, 90, 91, 92, 93, 94, 95, 96, 97, 98] (fun x : Int × Int => match x with | (i, fails) => [(9, .int .i64 i), (10, .int .i64 fails)]) (fun (x : Int × Int) w' => match x with | (i, fails) => St w [] w' [] ∧ i = (Utf8.encode r).size - 1) (fun x : Int × Int => match x with | (i, fails) => 0) (((Utf8.encode r).size : Int) - 1, 0) ⟨rfl, rfl, trivial⟩ ⟨hS, (by first | omega | simp)⟩ ?_
      rintro ⟨i, fails⟩ u_18 w_17 ⟨hS, h0⟩
      refine W.seq ?_
      refine W.seq ?_
      refine W.reg ?_
      refine Wx.rd (v := .int .i64 i) (rd_move rfl) rfl ?_
      refine Wx.rd (v := .string s) (rd_move rfl) rfl ?_
      refine Wx.rd (v := .int .i64 (s.size : Int)) (rd_lenS rfl Tryd.underlying9) rfl ?_
      refine Wx.rd (v := .bool (decide (i < (s.size : Int)))) (rd_lss rfl rfl) rfl ?_
      refine Wx.nil ?_
      refine W.condT rfl (decide_eq_true (by omega)) ?_
      refine W.skip ?_
      refine W.block ?_
      refine W.scope ?_
      refine W.seq ?_
      refine W.seq ?_
      refine W.regQ mixedHa_ (by kernel_rfl) ?_
      refine Wx.rd (v := .string s) (rd_move rfl) rfl ?_
      refine Wx.rd (v := .int .i64 i) (rd_move rfl) rfl ?_
      refine Wx.rd (v := .int .u8 (tabAt s i)) (rd_indexS' (by kernel_rfl) rfl Tryd.underlying9 (by omega) (by omega)) rfl ?_
      have bd_19 := tabAt_bd s i
      refine Wx.rd (v := .string (Utf8.encode r)) (rd_move rfl) rfl ?_
      refine Wx.rd (v := .int .i64 (((Utf8.encode r).size : Int) - 1)) (rd_move rfl) rfl ?_
      refine Wx.rd (v := .int .u8 (tabAt (Utf8.encode r) (((Utf8.encode r).size : Int) - 1))) (rd_indexS' (by kernel_rfl) rfl Tryd.underlying9 (by omega) (by omega)) rfl ?_
      have bd_20 := tabAt_bd (Utf8.encode r) (((Utf8.encode r).size : Int) - 1)
      refine Wx.rd (v := .bool (decide ((tabAt s i) ≠ (tabAt (Utf8.encode r) (((Utf8.encode r).size : Int) - 1))))) (rd_neq rfl rfl) rfl ?_
      refine Wx.nilQ (fun w_21 hx_22 => ?_)
      have hS := hS.ext hx_22
      refine W.condT rfl (decide_eq_true (by have := p_a i (by omega) (by omega); omega)) ?_
      refine W.seq ?_
      refine W.regQ mixedHa_ (by kernel_rfl) ?_
      refine Wx.rd (v := .string s) (rd_move rfl) rfl ?_
      refine Wx.rd (v := .int .i64 i) (rd_move rfl) rfl ?_
      refine Wx.rd (v := .int .i64 (i + 1)) (rd_add rfl rfl (in_i64 (by omega) (by omega))) rfl ?_
      refine Wx.rd (v := .string ((s).extract (i + 1).toNat s.size)) (rd_sliceS_L Tryd.underlying9 rfl rfl (by omega) (by omega)) rfl ?_
      refine Wx.rd (v := .string (Utf8.encode r)) (rd_move rfl) rfl ?_
      refine Wx.rd (v := .int .i64 (((Utf8.encode r).size : Int) - 1)) (rd_move rfl) rfl ?_
      refine Wx.rd (v := .int .u8 (tabAt (Utf8.encode r) (((Utf8.encode r).size : Int) - 1))) (rd_indexS' (by kernel_rfl) rfl Tryd.underlying9 (by omega) (by omega)) rfl ?_
      have bd_23 := tabAt_bd (Utf8.encode r) (((Utf8.encode r).size : Int) - 1)
      refine Wx.callV (v := .int .i64 (indexByte ((s).extract (i + 1).toNat s.size).data.toList (tabAt (Utf8.encode r) (((Utf8.encode r).size : Int) - 1)).toNat.toUInt8)) (run_callF Tryd.call109 rfl) (fun w_24 hw_25 => (F109 (by first | assumption | (simp only [maxLen]; omega) | (simp only [ByteArray.size_extract, ByteArray.size_append, maxLen] at *; omega) | decide) (in_u8 (by omega) (by omega)))) rfl ?_
      refine Wx.rd (v := .int .i64 (indexByte ((s).extract (i + 1).toNat s.size).data.toList (tabAt (Utf8.encode r) (((Utf8.encode r).size : Int) - 1)).toNat.toUInt8)) (rd_assign rfl) rfl ?_
      refine Wx.nilQ (fun w_26 hx_27 => ?_)
      have hS := hS.ext hx_27
      refine W.seq ?_
      refine W.seq ?_
      refine W.reg ?_
      refine Wx.rd (v := .int .i64 (indexByte ((s).extract (i + 1).toNat s.size).data.toList (tabAt (Utf8.encode r) (((Utf8.encode r).size : Int) - 1)).toNat.toUInt8)) (rd_move rfl) rfl ?_
      refine Wx.rd (v := .bool (decide ((indexByte ((s).extract (i + 1).toNat s.size).data.toList (tabAt (Utf8.encode r) (((Utf8.encode r).size : Int) - 1)).toNat.toUInt8) < 0))) (rd_lss rfl rfl) rfl ?_
      refine Wx.nil ?_
      refine W.condT rfl (decide_eq_true (by rw [index_asc p_a hen.2.2 (tab_le _ _).2]; decide)) ?_
      refine W.seq ?_
      refine W.reg ?_
      refine Wx.rd (v := .int .i64 (-1)) (rd_assign rfl) rfl ?_
      refine Wx.nil ?_
      exact W.ret ⟨.int .i64 (-1), ResIs.one, hS.bel, rfl⟩

theorem F59w {s : ByteArray} {r : Int} {w : World} (s_s : s.size ≤ maxLen) (i_r : InK .i32 r) (p_a : ∀ q : Int, 0 ≤ q → q < s.size → tabAt s q < 128) (p_4 : 4 ≤ s.size) (p_r : 128 ≤ r) : Calls Tryd.prog 59 #[.string s, .int .i32 r] w (Ret w (fun r _ => r = .bool false)) := by
  have b_r := bd_i32 i_r
  have hS := St.start0 w
  refine enterR Tryd.func59 rfl Tryd.ntmps59 Tryd.results59 rfl ?_
  refine W.seq ?_
  refine W.reg ?_
  refine Wx.rd (v := .bool false) (rd_assign rfl) rfl ?_
  refine Wx.nil ?_
  refine W.seq ?_
  refine W.reg ?_
  refine Wx.rd (v := .string s) (rd_move rfl) rfl ?_
  refine Wx.rd (v := .int .i32 r) (rd_move rfl) rfl ?_
  refine Wx.callF (run_callF Tryd.call90 rfl) (F90w (by first | assumption | (simp only [maxLen]; omega) | (simp only [ByteArray.size_extract, ByteArray.size_append, maxLen] at *; omega) | decide) (in_i32 (by omega) (by omega)) (by omega) (by omega) (by omega)) rfl ?_
  rintro r_1 w_2 hx_3 rfl
  have hS := hS.ext hx_3
  refine Wx.rd (v := .bool (decide (0 ≤ ((-1 : Int))))) (rd_geq rfl rfl) rfl ?_
  refine Wx.rd (v := .bool (decide (0 ≤ ((-1 : Int))))) (rd_assign rfl) rfl ?_
  refine Wx.nil ?_
  have e0_0 : (decide (0 ≤ ((-1 : Int)))) = false := by rfl
  exact W.ret ⟨.bool (decide (0 ≤ ((-1 : Int)))), ResIs.one, hS.bel, (by rw [e0_0])⟩
end Go.Proofs.YtokdjjebnomciaaDoor

namespace Go.Proofs.YtokdjjebnomciaaDoor
open Go.Wk Go.RowKit Go.Lib

theorem F59 {s : ByteArray} {r : Int} {w : World} (h1 : s.size ≤ maxLen) (h2 : InK .i32 r) (p_a : ∀ q : Int, 0 ≤ q → q < s.size → tabAt s q < 128) (p_4 : 4 ≤ s.size) (p_0 : 0 ≤ r) :
    Calls Tryd.prog 59 #[.string s, .int .i32 r] w (Ret w fun q _ => q = .bool (hasRune s r)) := by
  by_cases h : r < 128
  · have := ret_of_same (Tryd.strings_ContainsRune_ascii s r w p_0 h)
    rw [hasRune, decide_eq_true (And.intro p_0 h), Bool.true_and]
    exact this
  · have := F59w (w := w) h1 h2 p_a p_4 (by omega)
    rw [hasRune, decide_eq_false (fun q => h q.2), Bool.false_and]
    exact this
end Go.Proofs.YtokdjjebnomciaaDoor

namespace Go.Proofs.YtokdjjebnomciaaDoor
open Go.Wk Go.RowKit Go.Lib Go
set_option linter.unusedVariables false

/-! ### strings by their bytes -/
def byteAt (s : ByteArray) (i : Int) : UInt8 := s.data.toList.getD i.toNat 0
def mkB (l : List UInt8) : ByteArray := ⟨l.toArray⟩
def restV (s : ByteArray) : ByteArray := mkB ((takS s).2.map (byteAt s))
theorem mkB_app (a b : List UInt8) : mkB a ++ mkB b = mkB (a ++ b) := by
  rw [ByteArray.ext_iff, ByteArray.data_append]
  simp [mkB]
theorem mkB_size (a : List UInt8) : (mkB a).size = a.length := by simp [mkB, ByteArray.size]
theorem mkB_one {s : ByteArray} {i : Int} (h0 : 0 ≤ i) (h1 : i < s.size) : s.extract i.toNat (i + 1).toNat = mkB [byteAt s i] := by
  have hl : s.size = s.data.toList.length := (by simp)
  rw [ByteArray.ext_iff, ByteArray.data_extract, ← Array.toList_inj, Array.toList_extract]
  show (s.data.toList.drop i.toNat).take ((i + 1).toNat - i.toNat) = [byteAt s i]
  rw [show (i + 1).toNat - i.toNat = 1 by omega, List.drop_eq_getElem_cons (by omega), List.take_succ_cons, List.take_zero, byteAt, List.getD_eq_getElem?_getD, List.getElem?_eq_getElem (by omega)]; rfl

/-! ### the builder -/
theorem bld_start {w0 w : World} {O : List (Option Nat)} {obs : List Ob} {g : Nat} (hS : St w0 O w obs) (i : Nat) (hi : obs[i]? = some (.box g 116 [.pointer none, .slice none 0 0])) : IsBuilderF 116 5 w0.heap.size g (byteCells []) w :=
  .inl ⟨(hS.get i hi).1, .slice none 0 0, (hS.get i hi).2, ⟨rfl, .inl ⟨rfl, rfl⟩⟩, by simp [Value.ownBlock]⟩
theorem bld_block {B b : Nat} {bs : List Value} {w : World} (h : IsBuilderF 116 5 B b bs w) : ∃ cs, w.heap[b]? = some (.cells cs 116 (0, 0)) := by
  rcases h with ⟨_, v, h, _⟩ | ⟨_, v, h, _⟩ <;> exact ⟨_, h⟩
theorem bld_keep {w0 w w' : World} {O : List (Option Nat)} {b : Nat} {bs : List Value} {v : Value} {ys : List Int} (hS : St w0 O w [.row (tI .i64) 3 v ys]) (h : IsBuilderF 116 5 w0.heap.size b bs w) (hB : Below w0.heap.size w w') (hK : OthersKept 5 (some b) w w') : St w0 O w' [.row (tI .i64) 3 v ys] := by
  obtain ⟨cb, hcb⟩ := bld_block h
  obtain ⟨cs, h1, h2⟩ := hS.get 0 rfl
  refine ⟨Below.trans hS.bel hB, hS.olt, fun ob ho => ?_, hS.sep⟩
  rw [List.mem_singleton] at ho
  subst ho
  refine ⟨cs, ⟨h1.1, ?_⟩, h2⟩
  rcases h1.2 with hn | ⟨g, cap, cur, e1, e2, e3, e4⟩
  · exact .inl hn
  · refine .inr ⟨g, cap, cur, e1, e2, hK g _ e3 ?_ ?_, e4⟩
    · intro e
      injection e with e
      rw [e, hcb] at e3
      simp at e3
    · intro c fz e
      simp at e
theorem F94 {B b : Nat} {l : List UInt8} {c : Int} {u : UInt8} {w : World} (h : IsBuilderF 116 5 B b (byteCells l) w) (hc : c = (u.toNat : Int)) (hl : (l.length : Int) ≤ 1000) (hB : B ≤ w.heap.size) :
    Calls Tryd.prog 94 #[.pointer (some ⟨b, 0, none⟩), .int .u8 c] w (Bk fun r w' => r = .nilIface ∧ IsBuilderF 116 5 B b (byteCells (l ++ [u])) w' ∧ Below B w w' ∧ OthersKept 5 (some b) w w') := by
  have := Any.Builder_WriteByte_k { Tryd.lays158 with } Tryd.Builder_Extra_158 B b (byteCells l) c w h (by rw [byteCells, List.length_map]; omega) hB
  refine this.mono fun e w' hh => ?_
  obtain ⟨he, h1, h2, h3⟩ := hh
  refine ⟨_, he, rfl, .inr ?_, h2, h3⟩
  subst hc
  have e : byteCells (l ++ [u]) = byteCells l ++ [.int .u8 (u.toNat : Int)] := by simp [byteCells]
  rw [e]; exact h1
theorem F95 {B b : Nat} {l : List UInt8} {w : World} (h : IsBuilderF 116 5 B b (byteCells l) w) (hB : B ≤ w.heap.size) :
    Calls Tryd.prog 95 #[.pointer (some ⟨b, 0, none⟩)] w (Bk fun r w' => r = .string (mkB l) ∧ Below B w w') :=
  (Tryd.Builder_String_any_f B b l w h hB).mono fun e w' hh => ⟨_, hh.1, rfl, hh.2.2⟩
end Go.Proofs.YtokdjjebnomciaaDoor

namespace Go.Proofs.YtokdjjebnomciaaDoor
open Go.Wk Go

def stepsV (s : ByteArray) : List Join := if rimE s = 0 then (takS s).1 else []
def restE (s : ByteArray) : ByteArray := if rimE s = 0 then restV s else ByteArray.empty
def fullP (s : ByteArray) : Bool := decide (rimE s = 0) && (restV s == ByteArray.empty)
def inner (s : ByteArray) : ByteArray := s.extract (1 : Int).toNat ((s.size : Int) - 1).toNat
def coreT : Nat → ByteArray → ByteArray
  | 0, s => s
  | m + 1, s => if 1 < (s.size : Int) ∧ fitR s 0 ((s.size : Int) - 1) = true then coreT m (inner s) else s
def coreF (s : ByteArray) : ByteArray := coreT s.size s
def coreV (s : ByteArray) : ByteArray := if rimE s = 0 then coreF (restV s) else ByteArray.empty
theorem inner_size (s : ByteArray) : (inner s).size = s.size - 2 := by
  rw [inner, ByteArray.size_extract]; omega
theorem coreT_fuel : ∀ (m k : Nat) (s : ByteArray), s.size ≤ m → s.size ≤ k → coreT m s = coreT k s
  | 0, 0, _, _, _ => rfl
  | 0, k + 1, s, h, _ => by rw [coreT, coreT, if_neg (fun q => by omega)]
  | m + 1, 0, s, _, h => by rw [coreT, coreT, if_neg (fun q => by omega)]
  | m + 1, k + 1, s, h1, h2 => by
    have := inner_size s
    rw [coreT, coreT]
    split
    · rename_i hc
      exact coreT_fuel m k _ (by omega) (by omega)
    · rfl
theorem coreF_yes {s : ByteArray} (h : 1 < (s.size : Int) ∧ fitR s 0 ((s.size : Int) - 1) = true) : coreF (inner s) = coreF s := by
  have hi := inner_size s
  obtain ⟨m, hm⟩ : ∃ m, s.size = m + 1 := ⟨s.size - 1, by omega⟩
  rw [coreF, coreF, hm, coreT, if_pos h]
  exact coreT_fuel _ _ _ (Nat.le_refl _) (by omega)
theorem coreF_no {s : ByteArray} (h : ¬ 1 < (s.size : Int) ∨ fitR s 0 ((s.size : Int) - 1) = false) : coreF s = s := by
  rw [coreF]
  cases hm : s.size with
  | zero => rfl
  | succ m =>
    rw [coreT, if_neg]
    rintro ⟨h1, h2⟩
    rcases h with h | h
    · omega
    · rw [h2] at h; cases h
theorem tab_extract {s : ByteArray} {a b : Nat} {q : Int} (h0 : 0 ≤ q) (h1 : q < (s.extract a b).size) : tabAt (s.extract a b) q = tabAt s (a + q) := by
  rw [ByteArray.size_extract] at h1
  rw [tabAt, tabAt, ByteArray.data_extract, Array.toList_extract, List.getD_eq_getElem?_getD, List.getD_eq_getElem?_getD]
  have e : (a + q).toNat = a + q.toNat := by omega
  rw [show (s.data.toList.extract a b) = (s.data.toList.drop a).take (b - a) from rfl, List.getElem?_take, if_pos (by omega), List.getElem?_drop, e]
theorem Lets.extract {s : ByteArray} (h : Lets s) (a b : Nat) : Lets (s.extract a b) := by
  intro q h0 h1
  rw [tab_extract h0 h1]
  rw [ByteArray.size_extract] at h1
  exact h _ (by omega) (by omega)
theorem tab_mkB {l : List UInt8} {q : Int} : tabAt (mkB l) q = ((l.getD q.toNat 0).toNat : Int) := rfl
theorem Lets.rest {s : ByteArray} (h : Lets s) : Lets (restV s) := by
  intro q h0 h1
  rw [restV, mkB_size, List.length_map] at h1
  rw [restV, tab_mkB, List.getD_eq_getElem?_getD, List.getElem?_map, List.getElem?_eq_getElem (by omega)]
  have := takS_bd (s := s).1 _ (List.getElem_mem (l := (takS s).2) (n := q.toNat) (by omega))
  exact h _ this.1 this.2
theorem rest_size {s : ByteArray} : ((restV s).size : Int) ≤ s.size := by
  have := (takS_bd (s := s)).2
  rw [restV, mkB_size, List.length_map]
  omega
def turnE (s : ByteArray) (by' : Int) : Int := if rimE s ≠ 0 then rimE s else if by' < 0 ∨ (0 < by' ∧ (s.size : Int) ≤ by') then 1 else 0
def turnS (s : ByteArray) (by' : Int) : ByteArray := if turnE s by' = 0 then s.extract by'.toNat s.size ++ s.extract 0 by'.toNat else ByteArray.empty
theorem turn_err {s : ByteArray} {d : Int} (h : rimE s ≠ 0) : turnS s d = ByteArray.empty ∧ turnE s d = rimE s := by
  have e : turnE s d = rimE s := if_pos h
  exact ⟨by rw [turnS, e, if_neg h], e⟩
theorem turn_bad {s : ByteArray} {d : Int} (h : rimE s = 0) (hd : d < 0 ∨ (0 < d ∧ (s.size : Int) ≤ d)) : turnS s d = ByteArray.empty ∧ turnE s d = 1 := by
  have e : turnE s d = 1 := by rw [turnE, if_neg (by omega), if_pos hd]
  exact ⟨by rw [turnS, e, if_neg (by decide)], e⟩
theorem turn_ok {s : ByteArray} {d : Int} (h : rimE s = 0) (hd : ¬ (d < 0 ∨ (0 < d ∧ (s.size : Int) ≤ d))) : turnS s d = s.extract d.toNat s.size ++ s.extract 0 d.toNat ∧ turnE s d = 0 := by
  have e : turnE s d = 0 := by rw [turnE, if_neg (by omega), if_neg hd]
  exact ⟨by rw [turnS, if_pos e], e⟩
theorem inner_lt {s : ByteArray} (h : 1 < (s.size : Int)) : ByteArray.size (s.extract (1 : Int).toNat ((s.size : Int) - 1).toNat) < ByteArray.size s := by
  have := inner_size s
  rw [inner] at this
  omega
theorem inner_le {s : ByteArray} (h : (s.size : Int) ≤ 12) : ((s.extract (1 : Int).toNat ((s.size : Int) - 1).toNat).size : Int) ≤ 12 := by
  have := inner_size s
  rw [inner] at this
  omega
end Go.Proofs.YtokdjjebnomciaaDoor

namespace Go.Wk
open Go.RowKit Go.Lib
set_option linter.unusedVariables false

theorem reps_int {k : IntKind} {F : List (Option Nat)} {w : World} {ys : List Int} {cs : List Value} (h : Reps (tI k) F w ys cs) : cs = ys.map (Value.int k) := by
  have hl : cs.length = ys.length * 1 := h.1
  refine List.ext_getElem? fun i => ?_
  by_cases hi : i < ys.length
  · obtain ⟨h1, _⟩ := h.2 i _ (List.getElem?_eq_getElem hi)
    have h2 : (cs.drop (i * 1)).take 1 = [.int k ys[i]] := h1
    rw [Nat.mul_one] at h2
    have h3 : ((cs.drop i).take 1)[0]? = some (.int k ys[i]) := by rw [h2]; rfl
    rw [List.getElem?_take, if_pos (by decide), List.getElem?_drop, Nat.add_zero] at h3
    rw [h3, List.getElem?_map, List.getElem?_eq_getElem hi]; rfl
  · rw [List.getElem?_eq_none (by omega), List.getElem?_eq_none (by rw [List.length_map]; omega)]

section
variable {P : Program} {n : Nat} {k : Cont} {σ σ0 : Fr} {w w0 : World} {O : List (Option Nat)} {obs : List Ob} {x : Operand} {ty T : TypeId} {l : List (Nat × Value)} {d : Tmp} {pos : String} {af : Array Edge} {ops : Array Oper} {rest : List Oper}

/-- []rune(s). -/
theorem Wx.runes {src dst e : TypeId} {s : ByteArray} {ys : List Int} (hS : St w0 O w obs) (hx : ev (look l σ0) x = .string s) (hs : P.underlying src = some .string) (hd' : P.underlying dst = some (.slice e)) (he : P.underlying e = some (.int .i32))
    (hr : Conv.runesFrom s s.size 0 #[] = (ys.map (Value.int .i32)).toArray) (hk : ∀ y ∈ ys, InK .i32 y) (hl : ys.length ≤ 1000000) (hd : Nat.ble (d + 1) n = true)
    (h : ∀ v w', Ext w w' → St w0 O w' (.row (tI .i32) e v ys :: obs) → Wx P n ops false rest k (look ((d, v) :: l) σ0) w') :
    Wx P n ops false (⟨some d, .convert src dst x, ty, pos, af, none⟩ :: rest) k (look l σ0) w := by
  have hsz : (Conv.runesFrom s s.size 0 #[]).size = ys.length := by rw [hr]; simp
  have hrun := run_runes_of_string (P := P) w src dst e s hs hd' he (by rw [hsz]; omega)
  rw [hsz, hr] at hrun
  have hge := grownCap_ge w ys.length 0 e
  have hle := grownCap_le_maxLen w ys.length 0 e (by simp only [maxLen]; omega)
  have hx2 : ∀ c, Ext w (w.drew.alloc c) := fun c => ((Below.refl w.heap.size w).drew).alloc (by simp) _
  refine Wx.val (v := .slice (some ⟨w.heap.size, 0, none⟩) ys.length (grownCap w ys.length 0 e)) (w' := w.drew.alloc (.cells ((ys.map (Value.int .i32)).toArray ++ Array.replicate (grownCap w ys.length 0 e - ys.length) (.int .i32 0)) e)) ?_ hd (h _ _ (hx2 _) (hS.push (hx2 _) _ (fun b hb => ?_) (fun F hM => ⟨ys.map (Value.int .i32), ⟨by simp [tI], .inr ⟨w.heap.size, _, _, rfl, hS.bel.size, heap_alloc_new w.drew _, hge, hle, ?_, ?_⟩⟩, ⟨by simp [tI], fun i y hy => ?_⟩⟩)))
  · simp [xop, execOp, hx, hrun]
  · simp [Ob.blk, Value.ownBlock] at hb; omega
  · simp only [Array.size_append, List.size_toArray, List.length_map, Array.size_replicate]
    show _ = _ * 1
    omega
  · have hn : (tI IntKind.i32).n = 1 := rfl
    rw [hn, Nat.mul_one, Array.toList_append, List.take_append_of_le_length (by simp)]
    exact List.take_of_length_le (by simp)
  · refine ⟨?_, hk y (List.mem_of_getElem? hy)⟩
    show (List.drop (i * 1) (ys.map (Value.int .i32))).take 1 = _
    obtain ⟨hi, rfl⟩ := List.getElem?_eq_some_iff.1 hy
    rw [Nat.mul_one, List.drop_eq_getElem_cons (by simpa using hi), List.take_succ_cons, List.take_zero, List.getElem_map]

/-- string(rs), of a slice of the call's own. -/
theorem rd_runesStr {src dst e et : TypeId} {v : Value} {ys : List Int} (hS : St w0 O w obs) (i : Nat) (hi : obs[i]? = some (.row (tI .i32) et v ys)) (hx : ev σ x = v) (hs : P.underlying src = some (.slice e)) (he : P.underlying e = some (.int .i32)) (hd : P.underlying dst = some .string) :
    Rd P σ (.convert src dst x) ty w (.string (runesBytes ys)) := by
  obtain ⟨cs, hr, hR⟩ := hS.get i hi
  have hcs := reps_int hR
  rcases hr.2 with ⟨rfl, hn⟩ | ⟨g, cap, cur, rfl, q1, q2, q3, q4, q5, q6⟩
  · have : ys = [] := List.eq_nil_of_length_eq_zero hn
    subst this
    exact Rd.of fun w' => by
      simp only [xop, execOp, hx, Sem.run_bind, run_convert_runes_nil (P := P) w' src dst e 0 0 hs he hd]
      rfl
  · intro w' hw'
    have hc := run_convert_runes (P := P) w' src dst e ⟨g, 0, none⟩ ys.length cap ys (Nat.le_refl _) hs he hd (fun j hj => by
      have hg : w'.heap[g]? = some (.cells cur et (0, 0)) := (hw'.block g (Array.getElem?_eq_some_iff.1 q2).1).trans q2
      rw [Addr.add_lit, Nat.zero_add, cell_of_row w' g j _ et (0, 0) hg]
      have h6 : cur.toList.take (ys.length * 1) = ys.map (Value.int .i32) := by rw [← hcs]; exact q6
      rw [Nat.mul_one] at h6
      have h7 : (cur.toList.take ys.length)[j]? = some (.int .i32 (ys.getD j 0)) := by
        rw [h6, List.getElem?_map, List.getElem?_eq_getElem hj, List.getD_eq_getElem?_getD, List.getElem?_eq_getElem hj]; rfl
      rw [List.getElem?_take, if_pos hj] at h7
      simpa using h7)
    rw [List.take_of_length_le (Nat.le_refl _)] at hc
    simp only [xop, execOp, hx, Sem.run_bind, hc]
    rfl
end
end Go.Wk

namespace Go.Proofs.YtokdjjebnomciaaDoor
open Go.Wk Go.RowKit Go.Lib Go
set_option linter.unusedVariables false

/-- A letter's opposite. -/
def swB (b : UInt8) : UInt8 := if b.toNat ≤ 90 then (b.toNat + 32).toUInt8 else (b.toNat - 32).toUInt8
def LetB (b : UInt8) : Prop := isLet (b.toNat : Int) = true
theorem lets_mem {s : ByteArray} (h : Lets s) : ∀ b ∈ s.data.toList, LetB b := by
  intro b hb
  obtain ⟨k, hk, rfl⟩ := List.mem_iff_getElem.1 hb
  have e : s.size = s.data.toList.length := (by simp)
  have := h (k : Int) (by omega) (by omega)
  rw [tabAt, Int.toNat_natCast, List.getD_eq_getElem?_getD, List.getElem?_eq_getElem hk] at this
  exact this
theorem lets_of {l : List UInt8} (h : ∀ b ∈ l, LetB b) : Lets (mkB l) := by
  intro q h0 h1
  rw [mkB_size] at h1
  rw [tab_mkB, List.getD_eq_getElem?_getD, List.getElem?_eq_getElem (by omega)]
  exact h _ (List.getElem_mem _)
theorem swB_all : ∀ i < 256, isLet ((i : Nat) : Int) = true → (swB (UInt8.ofNat i)).toNat = (if i ≤ 90 then i + 32 else i - 32) ∧ isLet (((swB (UInt8.ofNat i)).toNat : Nat) : Int) = true ∧ swB (swB (UInt8.ofNat i)) = UInt8.ofNat i := by decide +kernel
theorem swB_let {b : UInt8} (h : LetB b) : (swB b).toNat = (if b.toNat ≤ 90 then b.toNat + 32 else b.toNat - 32) ∧ LetB (swB b) ∧ swB (swB b) = b := by
  have := swB_all b.toNat (UInt8.toNat_lt b) h
  rwa [UInt8.ofNat_toNat] at this
theorem other_sw {b : UInt8} (h : LetB b) : otherU (b.toNat : Int) = ((swB b).toNat : Int) := by
  rw [otherU_let h, (swB_let h).1]
  have := isLet_bd h
  split
  · rw [if_pos (by omega)]; omega
  · rw [if_neg (by omega)]; omega
theorem let_lt {b : UInt8} (h : LetB b) : b.toNat < 128 := by have := isLet_bd h; omega
theorem decode_let {b : UInt8} {l : List UInt8} (h : LetB b) : decodeL (b :: l) = (b.toNat, 1) := by
  have ht : tabAt (mkB (b :: l)) ((0 : Nat) : Int) = (b.toNat : Int) := rfl
  rcases decode_cases (mkB (b :: l)) 0 with h1 | h1
  · rw [decodeL]
    show Utf8.decode (mkB (b :: l)) 0 = _
    rw [h1.2, ht]; rfl
  · have := let_lt h
    rw [ht] at h1; omega
theorem encode_let {b : UInt8} (h : LetB b) : encodeRune ((b.toNat : Nat) : Int) = [b] := by
  have := let_lt h
  rw [encodeRune, encodeRuneZ_one (by omega) (by omega)]
  simp
theorem mapGo_let : ∀ (m : Nat) (l : List UInt8), l.length ≤ m → (∀ b ∈ l, LetB b) → mapGoD otherU m l = l.map swB
  | 0, l, hm, h => by rw [List.eq_nil_of_length_eq_zero (by omega : l.length = 0)]; rfl
  | m + 1, [], _, _ => rfl
  | m + 1, b :: l, hm, h => by
    have hb := h b (List.mem_cons_self ..)
    rw [mapGoD, if_neg (by simp), decode_let hb, other_sw hb, if_pos (by omega), encode_let (swB_let hb).2.1, List.drop_succ_cons, List.drop_zero, mapGo_let m l (by simpa using hm) (fun c hc => h c (List.mem_cons_of_mem _ hc))]
    rfl
theorem map_let {l : List UInt8} (h : ∀ b ∈ l, LetB b) : mapD otherU l = l.map swB := mapGo_let _ l (Nat.le_refl _) h
theorem other_range (x : Nat) (hx : x ≤ 1114111) : -2147483648 ≤ otherU x ∧ otherU x ≤ 2147483647 := by
  rw [otherU]
  split
  · have := toLowerU_range x hx; omega
  · have := toUpperU_range x hx; omega
theorem F78 {s : ByteArray} {w : World} (_ : s.size ≤ maxLen) (p_s : (s.size : Int) ≤ 1000) (hG : Laid w) : Calls Tryd.prog 78 #[.func (.func 79) #[] #[], .string s] w (Ret w fun q _ => q = .string (mkB (mapD otherU s.data.toList))) :=
  ret_of_below (Tryd.strings_Map_grows 79 #[] Tryd.call79 otherU s w (by omega) (fun W x hx hb => (F79 (c := (x : Int)) (w := W) (in_i32 (by omega) (by omega)) (hG.ext hb)).mono fun e w' ⟨r, he, hx, hr⟩ => ⟨by rw [he, hr], hx⟩) other_range hG.utf)

/-! ### runes -/
theorem runesFrom_let (s : ByteArray) (h : Lets s) : ∀ (m p : Nat) (acc : Array Value), p + m = s.size → Conv.runesFrom s m p acc = acc ++ ((s.data.toList.drop p).map fun b => Value.int .i32 (b.toNat : Int)).toArray
  | 0, p, acc, hp => by
    have e : s.size = s.data.toList.length := (by simp)
    rw [List.drop_eq_nil_of_le (by omega)]
    simp [Conv.runesFrom]
  | m + 1, p, acc, hp => by
    have e : s.size = s.data.toList.length := (by simp)
    have hlt : p < s.data.toList.length := by omega
    have hl := h (p : Int) (by omega) (by omega)
    have hb := isLet_bd hl
    have ht : tabAt s (p : Int) = ((s.data.toList[p]).toNat : Int) := by
      rw [tabAt, Int.toNat_natCast, List.getD_eq_getElem?_getD, List.getElem?_eq_getElem hlt]; rfl
    rcases decode_cases s p with h1 | h1
    · rw [Conv.runesFrom, if_pos (by omega), h1.2, List.drop_eq_getElem_cons hlt, List.map_cons]
      show Conv.runesFrom s m (p + 1) _ = _
      rw [runesFrom_let s h m (p + 1) _ (by omega), ht]
      apply Array.ext'
      simp
    · rw [show ((p : Nat) : Int) = (p : Int) from rfl] at h1; omega
def runesI (l : List UInt8) : List Int := l.map fun b => (b.toNat : Int)
theorem runes_let {s : ByteArray} (h : Lets s) : Conv.runesFrom s s.size 0 #[] = ((runesI s.data.toList).map (Value.int .i32)).toArray := by
  rw [runesFrom_let s h s.size 0 #[] (by omega), List.drop_zero, runesI, List.map_map]
  simp [Function.comp_def]
theorem encode_one {b : UInt8} (h : LetB b) : Utf8.encode (b.toNat : Int) = mkB [b] := by
  have hlt := let_lt h
  have : ∀ i < 128, Utf8.encode ((i : Nat) : Int) = mkB [UInt8.ofNat i] := by decide +kernel
  have := this b.toNat hlt
  rwa [UInt8.ofNat_toNat] at this
theorem fold_runes : ∀ (l p : List UInt8), (∀ b ∈ l, LetB b) → (runesI l).foldl (fun r n => r ++ Utf8.encode n) (mkB p) = mkB (p ++ l)
  | [], p, _ => by rw [List.append_nil]; rfl
  | b :: l, p, h => by
    show (runesI l).foldl _ (mkB p ++ Utf8.encode (b.toNat : Int)) = _
    rw [encode_one (h b (List.mem_cons_self ..)), mkB_app, fold_runes l _ (fun c hc => h c (List.mem_cons_of_mem _ hc)), List.append_assoc]; rfl
theorem runesBytes_let {l : List UInt8} (h : ∀ b ∈ l, LetB b) : runesBytes (runesI l) = mkB l := fold_runes l [] h
/-- The opposite of a rim. -/
def oppS (s : ByteArray) : ByteArray := mkB (s.data.toList.map swB).reverse
def oppV (s : ByteArray) : ByteArray := if rimE s = 0 then oppS s else ByteArray.empty
theorem opp_lets {s : ByteArray} (h : Lets s) : ∀ b ∈ s.data.toList.map swB, LetB b := by
  intro b hb
  obtain ⟨c, hc, rfl⟩ := List.mem_map.1 hb
  exact (swB_let (lets_mem h c hc)).2.1
end Go.Proofs.YtokdjjebnomciaaDoor

namespace Go.Proofs.YtokdjjebnomciaaDoor
open Go.Wk Go

/-- A list whose first and last i elements are turned round. -/
def revS (ys : List Int) (i : Int) : List Int := (List.range ys.length).map fun (q : Nat) => if (q : Int) < i ∨ (ys.length : Int) - 1 - i < q then ix 0 ys ((ys.length : Int) - 1 - q) else ix 0 ys q
theorem revS_len (ys : List Int) (i : Int) : (revS ys i).length = ys.length := by simp [revS]
theorem revS_ix {ys : List Int} {i q : Int} (h0 : 0 ≤ q) (h : q < ys.length) : ix 0 (revS ys i) q = if q < i ∨ (ys.length : Int) - 1 - i < q then ix 0 ys ((ys.length : Int) - 1 - q) else ix 0 ys q := by
  have e : ((q.toNat : Nat) : Int) = q := Int.toNat_of_nonneg h0
  rw [ix, List.getD_eq_getElem?_getD, revS, List.getElem?_map, List.getElem?_range (by omega)]
  simp only [Option.map_some, Option.getD_some, e]
theorem ext_ix {xs ys : List Int} (hl : xs.length = ys.length) (h : ∀ q : Int, 0 ≤ q → q < xs.length → ix 0 xs q = ix 0 ys q) : xs = ys := by
  refine List.ext_getElem hl fun i h1 h2 => ?_
  have := h i (by omega) (by omega)
  rwa [ix, ix, List.getD_eq_getElem?_getD, List.getD_eq_getElem?_getD, Int.toNat_natCast, List.getElem?_eq_getElem h1, List.getElem?_eq_getElem h2] at this
theorem revS_start (ys : List Int) : revS ys 0 = ys := by
  refine ext_ix (revS_len ys 0) fun q h0 h1 => ?_
  rw [revS_len] at h1
  rw [revS_ix h0 h1, if_neg (by omega)]
theorem revS_step {ys : List Int} {i j : Int} (h0 : 0 ≤ i) (h : i < j) (hj : j = (ys.length : Int) - 1 - i) :
    ((revS ys i).set i.toNat (ix 0 (revS ys i) j)).set j.toNat (ix 0 (revS ys i) i) = revS ys (i + 1) := by
  have hl := revS_len ys i
  refine ext_ix (by simp [revS_len]) fun q q0 q1 => ?_
  simp only [List.length_set, hl] at q1
  have e1 : ix 0 (revS ys i) j = ix 0 ys j := by rw [revS_ix (by omega) (by omega), if_neg (by omega)]
  have e2 : ix 0 (revS ys i) i = ix 0 ys i := by rw [revS_ix (by omega) (by omega), if_neg (by omega)]
  rw [ix_set (by omega) (by simp only [List.length_set, hl]; omega) q0, ix_set h0 (by omega) q0, e1, e2, revS_ix (i := i) q0 q1, revS_ix (i := i + 1) q0 q1]
  by_cases h1 : q = j
  · rw [if_pos h1, if_pos (by omega)]; congr 1; omega
  · rw [if_neg h1]
    by_cases h2 : q = i
    · rw [if_pos h2, if_pos (by omega)]; congr 1; omega
    · rw [if_neg h2]
      by_cases h3 : q < i ∨ (ys.length : Int) - 1 - i < q
      · rw [if_pos h3, if_pos (by omega)]
      · rw [if_neg h3, if_neg (by omega)]
theorem ix_rev {ys : List Int} {q : Int} (h0 : 0 ≤ q) (h : q < ys.length) : ix 0 ys.reverse q = ix 0 ys ((ys.length : Int) - 1 - q) := by
  rw [ix, ix, List.getD_eq_getElem?_getD, List.getD_eq_getElem?_getD, List.getElem?_reverse (by omega)]
  congr 2; omega
theorem revS_end {ys : List Int} {i : Int} (h : (ys.length : Int) - 1 - i ≤ i) : revS ys i = ys.reverse := by
  refine ext_ix (by simp [revS_len]) fun q h0 h1 => ?_
  rw [revS_len] at h1
  rw [revS_ix h0 h1, ix_rev h0 h1]
  by_cases h3 : q < i ∨ (ys.length : Int) - 1 - i < q
  · rw [if_pos h3]
  · rw [if_neg h3]; congr 1; omega

theorem opp_runes {s : ByteArray} : (runesI (s.data.toList.map swB)).reverse = runesI (s.data.toList.map swB).reverse := by rw [runesI, runesI, List.map_reverse]
/-! ### the reference's letters -/
/-! ### alike -/
theorem coreT_size : ∀ (m : Nat) (s : ByteArray), (coreT m s).size ≤ s.size
  | 0, s => Nat.le_refl _
  | m + 1, s => by
    rw [coreT]
    split
    · have := coreT_size m (inner s)
      have := inner_size s
      omega
    · exact Nat.le_refl _
theorem coreF_size (s : ByteArray) : (coreF s).size ≤ s.size := coreT_size _ s
theorem coreV_size (s : ByteArray) : ((coreV s).size : Int) ≤ 12 := by
  rw [coreV]
  split
  · rename_i h
    have h1 := (rimE_ok h).1
    have h2 := rest_size (s := s)
    have h3 := coreF_size (restV s)
    omega
  · show (0 : Int) ≤ 12; decide
def alikeE (a b : ByteArray) : Int := if rimE a = 0 then rimE b else rimE a
def alikeP (a b : ByteArray) : Bool := if alikeE a b = 0 then decide (((coreV a).size : Int) = (coreV b).size) && Go.Lib.contains (coreV a ++ coreV a).data.toList (coreV b).data.toList else false
end Go.Proofs.YtokdjjebnomciaaDoor

namespace Go.Proofs.YtokdjjebnomciaaDoor
open Go.Wk Go
set_option linter.unusedVariables false

def cutS (s : ByteArray) (a b : Int) : ByteArray := s.extract 0 a.toNat ++ s.extract (b + 1).toNat s.size
def frcN (s : ByteArray) (x : Join) : Bool := decide ((partP (fitR s) (x.1 + 1) x.2).2 * (allV (cutS s x.1 x.2)).2 = (allV s).2)
def forcedP (s : ByteArray) : List Join := if rimE s = 0 then (firstP (fitR s) 0 s.size).filter (frcN s) else []
theorem tab_app {s t : ByteArray} {q : Int} (h0 : 0 ≤ q) : tabAt (s ++ t) q = if q < s.size then tabAt s q else tabAt t (q - s.size) := by
  have hl : s.size = s.data.toList.length := (by simp)
  rw [tabAt, ByteArray.data_append, Array.toList_append, List.getD_eq_getElem?_getD]
  split
  · rw [List.getElem?_append_left (by omega), tabAt, List.getD_eq_getElem?_getD]
  · rw [List.getElem?_append_right (by omega), tabAt, List.getD_eq_getElem?_getD, show q.toNat - s.data.toList.length = (q - (s.size : Int)).toNat by omega]
theorem Lets.app {s t : ByteArray} (h : Lets s) (k : Lets t) : Lets (s ++ t) := by
  intro q h0 h1
  rw [ByteArray.size_append] at h1
  rw [tab_app h0]
  split
  · exact h q h0 (by omega)
  · exact k _ (by omega) (by omega)
theorem Lets.cut {s : ByteArray} (h : Lets s) (a b : Int) : Lets (cutS s a b) := (h.extract _ _).app (h.extract _ _)
theorem cut_size {s : ByteArray} {a b : Int} (h0 : 0 ≤ a) (h1 : a < b) (h2 : b < s.size) : ((cutS s a b).size : Int) = s.size - (b - a + 1) := by
  rw [cutS, ByteArray.size_append, ByteArray.size_extract, ByteArray.size_extract]; omega
theorem allV_bd {s : ByteArray} (h : (s.size : Int) ≤ 12) : 0 ≤ (allV s).1 ∧ (allV s).1 ≤ 100 ∧ 0 ≤ (allV s).2 ∧ (allV s).2 ≤ 16777216 := partP_bd (Int.le_refl 0) h

/-! ### deleting in its own place -/
variable {f : Join → Bool}
def idxF (f : Join → Bool) : List Join → Int → Int
  | [], _ => -1
  | x :: l, k => if f x = true then idxF f l (k + 1) else k
theorem idxF_yes {l : List Join} {k : Int} (h0 : 0 ≤ k) (h1 : k < l.length) (h2 : idxF f (l.drop k.toNat) k = idxF f l 0) (h : f (ix (0, 0) l k) = true) : idxF f (l.drop (k + 1).toNat) (k + 1) = idxF f l 0 := by
  rw [← h2, drop_ix (d := (0, 0)) h0 h1, idxF, if_pos h]
theorem idxF_no {l : List Join} {k : Int} (h0 : 0 ≤ k) (h1 : k < l.length) (h2 : idxF f (l.drop k.toNat) k = idxF f l 0) (h : f (ix (0, 0) l k) = false) : idxF f l 0 = k := by
  rw [← h2, drop_ix (d := (0, 0)) h0 h1, idxF, if_neg (by rw [h]; decide)]
theorem idxF_end {l : List Join} {k : Int} (h1 : (l.length : Int) ≤ k) (h2 : idxF f (l.drop k.toNat) k = idxF f l 0) : idxF f l 0 = -1 := by
  rw [← h2, drop_end h1]; rfl
theorem idxF_spec : ∀ (l : List Join) (k : Int), 0 ≤ k → (idxF f l k = -1 ∧ ∀ x ∈ l, f x = true) ∨ (∃ p x r, l = p ++ x :: r ∧ idxF f l k = k + p.length ∧ (∀ y ∈ p, f y = true) ∧ f x = false)
  | [], k, _ => .inl ⟨rfl, by simp⟩
  | x :: l, k, h0 => by
    by_cases h : f x = true
    · rw [idxF, if_pos h]
      rcases idxF_spec l (k + 1) (by omega) with ⟨h1, h2⟩ | ⟨p, y, r, h1, h2, h3, h4⟩
      · exact .inl ⟨h1, fun y hy => by
          rcases List.mem_cons.1 hy with rfl | hy
          · exact h
          · exact h2 y hy⟩
      · refine .inr ⟨x :: p, y, r, by rw [h1]; rfl, by rw [h2, List.length_cons]; omega, fun z hz => ?_, h4⟩
        rcases List.mem_cons.1 hz with rfl | hz
        · exact h
        · exact h3 z hz
    · rw [idxF, if_neg h]
      exact .inr ⟨[], x, l, rfl, by simp, by simp, by simpa using h⟩
theorem del_none {l : List Join} (h : idxF f l 0 = -1) : l.filter f = l := by
  rcases idxF_spec (f := f) l 0 (Int.le_refl 0) with ⟨_, h2⟩ | ⟨p, x, r, _, h2, _, _⟩
  · exact List.filter_eq_self.2 h2
  · omega
theorem del_start {l : List Join} (h : idxF f l 0 ≠ -1) : 0 ≤ idxF f l 0 ∧ idxF f l 0 < l.length ∧ l.take (idxF f l 0).toNat = (l.take (idxF f l 0 + 1).toNat).filter f := by
  rcases idxF_spec (f := f) l 0 (Int.le_refl 0) with ⟨h1, _⟩ | ⟨p, x, r, h1, h2, h3, h4⟩
  · exact absurd h1 h
  · rw [h2, h1]
    refine ⟨by omega, by simp; omega, ?_⟩
    rw [show (0 + (p.length : Int)).toNat = p.length by omega, show (0 + (p.length : Int) + 1).toNat = p.length + 1 by omega, List.take_left, List.take_append, List.take_of_length_le (by omega), Nat.add_sub_cancel_left, List.take_succ_cons, List.take_zero, List.filter_append, List.filter_eq_self.2 h3, List.filter_cons, if_neg (by rw [h4]; decide)]
    simp
theorem del_ix {l z : List Join} {j : Int} (h0 : 0 ≤ j) (h1 : j < l.length) (hl : z.length = l.length) (hD : z.drop j.toNat = l.drop j.toNat) : ix (0, 0) z j = ix (0, 0) l j := by
  rw [drop_ix (d := (0, 0)) h0 (by omega), drop_ix (d := (0, 0)) h0 h1] at hD
  exact (List.cons.inj hD).1
theorem del_yes {l z : List Join} {i j : Int} (i0 : 0 ≤ i) (hij : i < j) (h1 : j < l.length) (hl : z.length = l.length) (hT : z.take i.toNat = (l.take j.toNat).filter f) (hD : z.drop j.toNat = l.drop j.toNat) (h : f (ix (0, 0) z j) = true) :
    (z.set i.toNat (ix (0, 0) z j)).take (i + 1).toNat = (l.take (j + 1).toNat).filter f ∧ (z.set i.toNat (ix (0, 0) z j)).drop (j + 1).toNat = l.drop (j + 1).toNat := by
  have hx := del_ix (by omega) h1 hl hD
  constructor
  · rw [take_ix (d := (0, 0)) i0 (by rw [List.length_set]; omega), List.take_set_of_le (by omega), hT, ix_set i0 (by omega) i0, if_pos rfl, take_ix (d := (0, 0)) (j := j) (by omega) h1, List.filter_append, hx, List.filter_cons, if_pos (by rw [← hx]; exact h)]; rfl
  · rw [List.drop_set_of_lt (by omega), show (j + 1).toNat = j.toNat + 1 by omega, ← List.drop_drop, hD, List.drop_drop]
theorem del_no {l z : List Join} {i j : Int} (j0 : 0 ≤ j) (h1 : j < l.length) (hl : z.length = l.length) (hT : z.take i.toNat = (l.take j.toNat).filter f) (hD : z.drop j.toNat = l.drop j.toNat) (h : ¬ f (ix (0, 0) z j) = true) :
    z.take i.toNat = (l.take (j + 1).toNat).filter f ∧ z.drop (j + 1).toNat = l.drop (j + 1).toNat := by
  have hx := del_ix j0 h1 hl hD
  constructor
  · rw [hT, take_ix (d := (0, 0)) j0 h1, List.filter_append, List.filter_cons, if_neg (by rw [← hx]; exact h)]; simp
  · rw [show (j + 1).toNat = j.toNat + 1 by omega, ← List.drop_drop, hD, List.drop_drop]
end Go.Proofs.YtokdjjebnomciaaDoor

namespace Go.Proofs.YtokdjjebnomciaaDoor
set_option linter.unusedVariables false

variable {F G : Int → Int → Bool}

def ins (x : Join) : List Join → List Join
  | [] => [x]
  | y :: l => if x.1 < y.1 then x :: y :: l else y :: ins x l
def isort (l : List Join) : List Join := l.foldr ins []
/-- Two joins that neither cross nor share an edge: one begins first, and lies before the other or around it. -/
def freeJ (x y : Join) : Prop := apartJ x y ∨ apartJ y x
theorem ins_perm (x : Join) : ∀ l, (ins x l).Perm (x :: l)
  | [] => .refl _
  | y :: l => by
    rw [ins]; split
    · exact .refl _
    · exact ((ins_perm x l).cons y).trans (.swap x y l)
theorem isort_perm : ∀ l, (isort l).Perm l
  | [] => .refl _
  | x :: l => (ins_perm x (isort l)).trans ((isort_perm l).cons x)
theorem ins_pair {x : Join} : ∀ {l : List Join}, l.Pairwise apartJ → (∀ y ∈ l, freeJ x y) → (ins x l).Pairwise apartJ
  | [], _, _ => List.pairwise_singleton _ _
  | y :: l, h, hf => by
    have hy := hf y List.mem_cons_self
    obtain ⟨h1, h2⟩ := List.pairwise_cons.1 h
    rw [ins]; split
    · next hlt =>
      refine List.pairwise_cons.2 ⟨fun z hz => ?_, h⟩
      rcases hf z hz with q | q
      · exact q
      · exfalso
        have := q.1
        rcases List.mem_cons.1 hz with rfl | hz
        · omega
        · have := (h1 z hz).1; omega
    · next hlt =>
      refine List.pairwise_cons.2 ⟨fun z hz => ?_, ins_pair h2 fun z hz => hf z (List.mem_cons_of_mem _ hz)⟩
      rcases List.mem_cons.1 ((ins_perm x l).mem_iff.1 hz) with rfl | hz
      · rcases hy with q | q
        · exact absurd q.1 hlt
        · exact q
      · exact h1 z hz
theorem isort_pair : ∀ {l : List Join}, l.Pairwise freeJ → (isort l).Pairwise apartJ
  | [], _ => .nil
  | x :: l, h => by
    obtain ⟨h1, h2⟩ := List.pairwise_cons.1 h
    exact ins_pair (isort_pair h2) fun y hy => h1 y ((isort_perm l).mem_iff.1 hy)
theorem isort_plan {lo hi : Int} {l : List Join} (hb : ∀ x ∈ l, lo ≤ x.1 ∧ x.1 < x.2 ∧ x.2 < hi ∧ F x.1 x.2 = true) (h : l.Pairwise freeJ) : Plan F lo hi (isort l) :=
  ⟨fun x hx => hb x ((isort_perm l).mem_iff.1 hx), isort_pair h⟩
theorem pair_nodup {p : List Join} (hp : p.Pairwise apartJ) : p.Nodup := hp.imp fun h e => by have := h.1; rw [e] at this; omega

end Go.Proofs.YtokdjjebnomciaaDoor

namespace Go.Proofs.YtokdjjebnomciaaDoor
set_option linter.unusedVariables false

variable {F G : Int → Int → Bool}

end Go.Proofs.YtokdjjebnomciaaDoor

namespace Go.Proofs.YtokdjjebnomciaaDoor
set_option linter.unusedVariables false

variable {F G : Int → Int → Bool} {a b n : Int}

/-- Numbers of edges of a rim from which the edges from a to b were cut. -/
def upC (a b q : Int) : Int := if q < a then q else q + (b - a + 1)
def dnC (a b q : Int) : Int := if q < a then q else q - (b - a + 1)
def upJ (a b : Int) (x : Join) : Join := (upC a b x.1, upC a b x.2)
def dnJ (a b : Int) (x : Join) : Join := (dnC a b x.1, dnC a b x.2)
def inB (a b : Int) (x : Join) : Bool := decide (a < x.1) && decide (x.2 < b)
def outB (a b : Int) (x : Join) : Bool := decide (x.2 < a) || decide (b < x.1) || (decide (x.1 < a) && decide (b < x.2))
structure Cut (F G : Int → Int → Bool) (a b n : Int) : Prop where
  a0 : 0 ≤ a
  ab : a < b
  bn : b < n
  fit : F a b = true
  eq : ∀ i j, 0 ≤ i → i < n - (b - a + 1) → 0 ≤ j → j < n - (b - a + 1) → G i j = F (upC a b i) (upC a b j)
def glueP (a b : Int) (p q : List Join) : List Join := isort ((a, b) :: (p ++ q.map (upJ a b)))
theorem Cut.plan (c : Cut F G a b n) {p q : List Join} (hp : Plan F (a + 1) b p) (hq : Plan G 0 (n - (b - a + 1)) q) : Plan F 0 n (glueP a b p q) := by
  have := c.a0; have := c.ab; have := c.bn
  refine isort_plan (fun x hx => ?_) (List.pairwise_cons.2 ⟨fun y hy => ?_, List.pairwise_append.2 ⟨hp.2.imp .inl, ?_, fun y hy z hz => ?_⟩⟩)
  · rcases List.mem_cons.1 hx with rfl | hx
    · exact ⟨c.a0, c.ab, c.bn, c.fit⟩
    · rcases List.mem_append.1 hx with hx | hx
      · obtain ⟨h1, h2, h3, h4⟩ := hp.1 x hx
        exact ⟨by omega, h2, by omega, h4⟩
      · obtain ⟨y, hy, rfl⟩ := List.mem_map.1 hx
        obtain ⟨h1, h2, h3, h4⟩ := hq.1 y hy
        rw [c.eq _ _ h1 (by omega) (by omega) h3] at h4
        refine ⟨?_, ?_, ?_, h4⟩ <;> simp only [upJ, upC] <;> (repeat' split) <;> omega
  · rcases List.mem_append.1 hy with hy | hy
    · obtain ⟨h1, h2, h3, h4⟩ := hp.1 y hy
      exact .inl ⟨by show a < y.1; omega, .inr h3⟩
    · obtain ⟨z, hz, rfl⟩ := List.mem_map.1 hy
      obtain ⟨h1, h2, h3, h4⟩ := hq.1 z hz
      simp only [freeJ, apartJ, upJ, upC]
      (repeat' split) <;> omega
  · rw [List.pairwise_map]
    refine (List.Pairwise.imp_of_mem (S := fun x y => freeJ (upJ a b x) (upJ a b y)) (fun {x y} hx hy h => ?_) hq.2)
    obtain ⟨_, h2, _, _⟩ := hq.1 x hx
    obtain ⟨_, k2, _, _⟩ := hq.1 y hy
    obtain ⟨a1, a2⟩ := h
    left
    simp only [apartJ, upJ, upC]
    (repeat' split) <;> omega
  · obtain ⟨h1, h2, h3, h4⟩ := hp.1 y hy
    obtain ⟨w, hw, rfl⟩ := List.mem_map.1 hz
    obtain ⟨k1, k2, k3, k4⟩ := hq.1 w hw
    simp only [freeJ, apartJ, upJ, upC]
    (repeat' split) <;> omega
theorem free_split {a b : Int} {y : Join} (h : a < b) (hy : y.1 < y.2) (hf : freeJ (a, b) y) : inB a b y = true ∨ outB a b y = true := by
  simp only [freeJ, apartJ, inB, outB, Bool.or_eq_true, Bool.and_eq_true, decide_eq_true_eq] at hf ⊢
  omega
theorem free_of {p : List Join} (hp : p.Pairwise apartJ) {x y : Join} (hx : x ∈ p) (hy : y ∈ p) (h : x ≠ y) : freeJ x y := by
  induction p with
  | nil => cases hx
  | cons z p ih =>
    obtain ⟨h1, h2⟩ := List.pairwise_cons.1 hp
    rcases List.mem_cons.1 hx with e1 | hx1
    · rcases List.mem_cons.1 hy with e2 | hy1
      · exact absurd (e1.trans e2.symm) h
      · exact .inl (e1 ▸ h1 y hy1)
    · rcases List.mem_cons.1 hy with e2 | hy1
      · exact .inr (e2 ▸ h1 x hx1)
      · exact ih h2 hx1 hy1
theorem Cut.split (c : Cut F G a b n) {r : List Join} (hr : Plan F 0 n r) (hx : (a, b) ∈ r) :
    Plan F (a + 1) b (r.filter (inB a b)) ∧ Plan G 0 (n - (b - a + 1)) ((r.filter (outB a b)).map (dnJ a b)) ∧ r.Perm ((a, b) :: (r.filter (inB a b) ++ r.filter (outB a b))) := by
  have := c.a0; have := c.ab; have := c.bn
  refine ⟨⟨fun x hm => ?_, hr.2.filter _⟩, ⟨fun x hm => ?_, ?_⟩, ?_⟩
  · obtain ⟨h1, h2⟩ := List.mem_filter.1 hm
    obtain ⟨k1, k2, k3, k4⟩ := hr.1 x h1
    simp only [inB, Bool.and_eq_true, decide_eq_true_eq] at h2
    exact ⟨by omega, k2, h2.2, k4⟩
  · obtain ⟨y, hy, rfl⟩ := List.mem_map.1 hm
    obtain ⟨h1, h2⟩ := List.mem_filter.1 hy
    obtain ⟨k1, k2, k3, k4⟩ := hr.1 y h1
    simp only [outB, Bool.or_eq_true, Bool.and_eq_true, decide_eq_true_eq] at h2
    have e1 : 0 ≤ dnC a b y.1 ∧ dnC a b y.1 < dnC a b y.2 ∧ dnC a b y.2 < n - (b - a + 1) ∧ upC a b (dnC a b y.1) = y.1 ∧ upC a b (dnC a b y.2) = y.2 := by
      simp only [dnC, upC]; (repeat' split) <;> omega
    refine ⟨e1.1, e1.2.1, e1.2.2.1, ?_⟩
    show G (dnC a b y.1) (dnC a b y.2) = true
    rw [c.eq _ _ e1.1 (by omega) (by omega) e1.2.2.1, e1.2.2.2.1, e1.2.2.2.2]; exact k4
  · rw [List.pairwise_map]
    refine List.Pairwise.imp_of_mem (S := fun x y => apartJ (dnJ a b x) (dnJ a b y)) (fun {x y} hx hy h => ?_) (hr.2.filter (outB a b))
    obtain ⟨h1, h2⟩ := List.mem_filter.1 hx
    obtain ⟨k1, k2⟩ := List.mem_filter.1 hy
    have h3 := (hr.1 x h1).2.1
    have k3 := (hr.1 y k1).2.1
    simp only [outB, Bool.or_eq_true, Bool.and_eq_true, decide_eq_true_eq] at h2 k2
    obtain ⟨a1, a2⟩ := h
    simp only [apartJ, dnJ, dnC]
    (repeat' split) <;> omega
  · have hn := pair_nodup hr.2
    refine (List.perm_ext_iff_of_nodup hn ?_).2 fun y => ?_
    · refine List.nodup_cons.2 ⟨fun hm => ?_, List.nodup_append.2 ⟨hn.filter _, hn.filter _, fun y hy z hz e => ?_⟩⟩
      · rcases List.mem_append.1 hm with hm | hm
        · have := (List.mem_filter.1 hm).2; simp [inB] at this
        · have := (List.mem_filter.1 hm).2; simp [outB] at this; omega
      · subst e
        have h1 := (List.mem_filter.1 hy).2
        have h2 := (List.mem_filter.1 hz).2
        have := (hr.1 y (List.mem_filter.1 hy).1).2.1
        simp only [inB, outB, Bool.or_eq_true, Bool.and_eq_true, decide_eq_true_eq] at h1 h2
        omega
    · rw [List.mem_cons, List.mem_append, List.mem_filter, List.mem_filter]
      constructor
      · intro hy
        by_cases e : y = (a, b)
        · exact .inl e
        · rcases free_split c.ab (hr.1 y hy).2.1 (free_of hr.2 hx hy fun q => e q.symm) with q | q
          · exact .inr (.inl ⟨hy, q⟩)
          · exact .inr (.inr ⟨hy, q⟩)
      · rintro (rfl | ⟨h, _⟩ | ⟨h, _⟩)
        · exact hx
        · exact h
        · exact h
/-- The greatest plans of a part. -/
def greatL (F : Int → Int → Bool) (lo hi : Int) : List (List Join) := (plansP F lo hi).filter fun p => decide ((p.length : Int) = (partP F lo hi).1)
theorem greatL_mem {lo hi : Int} {p : List Join} : p ∈ greatL F lo hi ↔ Plan F lo hi p ∧ (p.length : Int) = (partP F lo hi).1 := by
  rw [greatL, List.mem_filter, mem_plans, decide_eq_true_eq]
end Go.Proofs.YtokdjjebnomciaaDoor

namespace Go.Proofs.YtokdjjebnomciaaDoor
set_option linter.unusedVariables false

def Irr : List Int → Prop
  | t :: u :: r => t + u ≠ 0 ∧ Irr (u :: r)
  | _ => True
theorem Irr.tl {t : Int} {r : List Int} (h : Irr (t :: r)) : Irr r := by
  cases r with
  | nil => trivial
  | cons u r => exact h.2
theorem irr_mid {l r : List Int} {a b : Int} (h : Irr (l ++ a :: b :: r)) : a + b ≠ 0 := by
  induction l with
  | nil => exact h.1
  | cons x l ih => exact ih h.tl
theorem irr_of {l : List Int} (h : ∀ u a b v, l = u ++ a :: b :: v → a + b ≠ 0) : Irr l := by
  induction l with
  | nil => trivial
  | cons a l ih =>
    have := ih fun u x y v e => h (a :: u) x y v (by rw [e]; rfl)
    cases l with
    | nil => trivial
    | cons b r => exact ⟨h [] a b r rfl, this⟩
/-! ### plans and words -/
variable {F : Int → Int → Bool} {wt : Int → Int} {N : Int}
end Go.Proofs.YtokdjjebnomciaaDoor

namespace Go.Proofs.YtokdjjebnomciaaDoor
set_option linter.unusedVariables false

def IsRot {α : Type} (a b : List α) : Prop := ∃ u v, a = u ++ v ∧ b = v ++ u
theorem IsRot.refl {α : Type} (a : List α) : IsRot a a := ⟨[], a, rfl, (List.append_nil a).symm⟩
theorem IsRot.symm {α : Type} {a b : List α} (h : IsRot a b) : IsRot b a := by
  obtain ⟨u, v, h1, h2⟩ := h
  exact ⟨v, u, h2, h1⟩
theorem IsRot.trans {α : Type} {a b c : List α} (h : IsRot a b) (k : IsRot b c) : IsRot a c := by
  obtain ⟨u, v, rfl, rfl⟩ := h
  obtain ⟨u', v', e, rfl⟩ := k
  rcases List.append_eq_append_iff.1 e with ⟨x, rfl, rfl⟩ | ⟨x, rfl, rfl⟩
  · exact ⟨x, v' ++ v, by simp, by simp⟩
  · exact ⟨u ++ u', x, by simp, by simp⟩
theorem Irr.left {y z : List Int} (h : Irr (y ++ z)) : Irr y := irr_of fun u a b v e => by
  rw [e, List.append_assoc] at h
  exact irr_mid (l := u) (r := v ++ z) h
end Go.Proofs.YtokdjjebnomciaaDoor

namespace Go.Proofs.YtokdjjebnomciaaDoor
open Go.Wk Go.RowKit Go.Lib Go
set_option linter.unusedVariables false

/-! ### a rim as a word of numbers -/
/-! ### the joins of all greatest plans -/
theorem great_mem (s : ByteArray) : firstP (fitR s) 0 s.size ∈ greatV s := List.mem_of_mem_head? (great_head s)
/-! ### rims compared -/
end Go.Proofs.YtokdjjebnomciaaDoor

namespace Go.Proofs.YtokdjjebnomciaaDoor
open Go.Wk Go.RowKit Go.Lib Go
set_option linter.unusedVariables false

/-! ### cores -/
end Go.Proofs.YtokdjjebnomciaaDoor

namespace Go.Proofs.YtokdjjebnomciaaDoor
open Go.Wk Go.RowKit Go.Lib Go
set_option linter.unusedVariables false

/-! ### turned -/
/-! ### opposite -/
/-! ### edges put in -/
/-! ### some of the edges -/
end Go.Proofs.YtokdjjebnomciaaDoor

namespace Go.Proofs.YtokdjjebnomciaaDoor
open Go.Wk Go
def pairsU : List Int → List Join
  | a :: b :: l => (a, b) :: pairsU l
  | _ => []
def rP : ByteArray := { data := #[97, 98, 66, 65] }
def rQ : ByteArray := { data := #[97, 98, 65, 66] }
def rR : ByteArray := { data := #[97, 65, 97, 65] }
def r1 : ByteArray := { data := #[98, 97, 99, 65, 66] }
def r2 : ByteArray := { data := #[97, 98, 67] }
def r3 : ByteArray := { data := #[97, 98, 65] }
def r4 : ByteArray := { data := #[98] }
def r5 : ByteArray := { data := #[97, 98] }
def r6 : ByteArray := { data := #[97, 66] }
theorem pairsU_step {l : List Int} {i : Int} (h0 : 0 ≤ i) (h : i + 1 < l.length) : pairsU (l.drop i.toNat) = (ix 0 l i, ix 0 l (i + 1)) :: pairsU (l.drop (i + 2).toNat) := by
  rw [drop_ix (d := 0) h0 (by omega), drop_ix (d := 0) (n := i + 1) (by omega) h, pairsU]
  rw [show (i + 1 + 1).toNat = (i + 2).toNat by omega]
theorem pairsU_end {l : List Int} {i : Int} (h0 : 0 ≤ i) (h : ¬ i + 1 < l.length) : pairsU (l.drop i.toNat) = [] := by
  have : (l.drop i.toNat).length ≤ 1 := by rw [List.length_drop]; omega
  match hd : l.drop i.toNat with
  | [] => rfl
  | [a] => rfl
  | a :: b :: r => rw [hd] at this; simp at this
theorem first_in (s : ByteArray) : ∀ x ∈ firstP (fitR s) 0 s.size, 0 ≤ x.1 ∧ x.1 < x.2 ∧ x.2 < s.size := fun x hx => by
  have hg := great_mem s
  rw [show greatV s = greatL (fitR s) 0 s.size from great_is s] at hg
  obtain ⟨h0, h1, h2, _⟩ := (greatL_mem.1 hg).1.1 x hx
  exact ⟨h0, h1, h2⟩
end Go.Proofs.YtokdjjebnomciaaDoor

namespace Go.Proofs.YtokdjjebnomciaaDoor
open Go.Wk Go
set_option linter.unusedVariables false

def sixS : ByteArray := { data := #[97, 65, 98, 66, 99, 67] }
def letK (kinds x : Int) : UInt8 := byteAt sixS (x % (2 * kinds))
/-- The rim that a Pot makes. -/
def madeS (e kd : Int) (xs : List Int) (most : Int) : ByteArray := mkB ((xs.take (e % (most + 1)).toNat).map (letK (1 + kd % 3)))
theorem letK_let {kinds x : Int} (h0 : 1 ≤ kinds) (h1 : kinds ≤ 3) : LetB (letK kinds x) := by
  have : ∀ q < 6, isLet ((byteAt sixS ((q : Nat) : Int)).toNat : Int) = true := by decide +kernel
  have h2 := Int.emod_nonneg x (b := 2 * kinds) (by omega)
  have h3 := Int.emod_lt_of_pos x (b := 2 * kinds) (by omega)
  have h4 := this (x % (2 * kinds)).toNat (by omega)
  rw [Int.toNat_of_nonneg h2] at h4
  exact h4
theorem made_lets {e kd : Int} {xs : List Int} {most : Int} (h : 0 ≤ kd) : Lets (madeS e kd xs most) := lets_of fun b hb => by
  obtain ⟨x, _, rfl⟩ := List.mem_map.1 hb
  exact letK_let (by omega) (by omega)
theorem made_size {e kd : Int} {xs : List Int} {most : Int} (h0 : 0 ≤ most) : ((madeS e kd xs most).size : Int) ≤ most := by
  have h2 := Int.emod_nonneg e (b := most + 1) (by omega)
  have h3 := Int.emod_lt_of_pos e (b := most + 1) (by omega)
  rw [madeS, mkB_size, List.length_map, List.length_take]
  omega
end Go.Proofs.YtokdjjebnomciaaDoor

namespace Go.Wk
open Go.RowKit Go.ChangeShapes

section
variable {H : Type} {enc : TypeId × Value → H} {P : Program} {W : World}

theorem inK_of_wf {k : IntKind} {n : Int} (h : (Lit.int k n).wf = true) : InK k n := by
  cases k <;> simp [Lit.wf, IntKind.min, IntKind.max, IntKind.bits, IntKind.signed] at h <;> simp only [InK, lo, hi] <;> omega

/-- What reads as data of type e stands for a y. -/
structure Rds {α : Type} (enc : TypeId × Value → H) (P : Program) (W : World) (t : Ty α) (e : TypeId) : Prop where
  n : P.cellsOf e = t.n
  pos : 0 < t.n
  get : ∀ fuel cs x, DataW.trod enc P W 0 (fun _ => true) true fuel e cs = some x → ∃ y, t.rep [] W y cs

theorem Rds.int {k : IntKind} {e : TypeId} (hu : P.underlying e = some (.int k)) (hc : P.cellsOf e = 1) : Rds enc P W (tI k) e :=
  ⟨hc, Nat.one_pos, fun _ _ _ h => let ⟨n, h1, _, h3⟩ := DataW.trod_int hu h; ⟨n, h1, inK_of_wf h3⟩⟩

theorem list_of {α : Type} {p : Nat → α → Prop} : ∀ n : Nat, (∀ i, i < n → ∃ y, p i y) → ∃ ys : List α, ys.length = n ∧ ∀ i y, ys[i]? = some y → p i y
  | 0, _ => ⟨[], rfl, by simp⟩
  | n + 1, h => by
    obtain ⟨ys, h1, h2⟩ := list_of n (fun i hi => h i (by omega))
    obtain ⟨y, hy⟩ := h n (by omega)
    refine ⟨ys ++ [y], by simp [h1], fun i z hz => ?_⟩
    by_cases hi : i < ys.length
    · rw [List.getElem?_append_left hi] at hz; exact h2 i z hz
    · rw [List.getElem?_append_right (by omega)] at hz
      have : i - ys.length = 0 := by
        rcases Nat.eq_zero_or_pos (i - ys.length) with h | h
        · exact h
        · rw [List.getElem?_eq_none (by simp; omega)] at hz; cases hz
      rw [this] at hz
      simp at hz
      subst hz
      have : i = n := by omega
      rw [this]; exact hy

/-- A slice's value: an argument, or one field of a struct. -/
theorem Rds.v {α : Type} {t : Ty α} {e : TypeId} {v : Value} {d : DataW H} {p : List MemPlace} (h : Rds enc P W (tSl t) e) (hx : DataW.Trod enc P W 0 (fun _ => true) true e v d p) (hone : v.oneCell' = true) : ∃ y, V (tSl t) y v [] W := by
  obtain ⟨fuel, hf⟩ := hx
  obtain ⟨y, hy⟩ := h.get _ _ _ hf
  rw [cells_one hone] at hy
  obtain ⟨a, cap, h1, h2⟩ := hy
  exact ⟨y, [v], by simp at h1; rw [h1]; rfl, a, cap, h1, h2⟩
theorem Rds.v1 {α : Type} {t : Ty α} {e : TypeId} {v : Value} {fuel : Nat} {x : DataW H × List MemPlace} (h : Rds enc P W (tSl t) e) (hx : DataW.trod enc P W 0 (fun _ => true) true fuel e [v] = some x) : ∃ y, V (tSl t) y v [] W := by
  obtain ⟨y, a, cap, h1, h2⟩ := h.get _ _ _ hx
  exact ⟨y, [v], by simp at h1; rw [h1]; rfl, a, cap, h1, h2⟩
/-- A value of integers of one kind alone, as many as it has cells. -/
def RdI (enc : TypeId × Value → H) (P : Program) (W : World) (k : IntKind) (m : Nat) (e : TypeId) : Prop :=
  ∀ fuel cs x, DataW.trod enc P W 0 (fun _ => true) true fuel e cs = some x → ∃ zs : List Int, zs.length = m ∧ cs = zs.map (Value.int k) ∧ ∀ z ∈ zs, InK k z
theorem RdI.int {k : IntKind} {e : TypeId} (hu : P.underlying e = some (.int k)) : RdI enc P W k 1 e := by
  intro fuel cs x h
  obtain ⟨n, rfl, _, h3⟩ := DataW.trod_int hu h
  exact ⟨[n], rfl, rfl, by simpa using inK_of_wf h3⟩
theorem RdI.array {k : IntKind} {n : Nat} {e t : TypeId} (hu : P.underlying t = some (.array n e)) (he : P.underlying e = some (.int k)) (hc : P.cellsOf e = 1) (hn : P.cellsOf t = n) : RdI enc P W k n t := by
  intro fuel cs x h
  obtain ⟨xs, m, _, _, hl, hx, hel⟩ := DataW.trod_array hu h
  rw [hc] at hel
  rw [hn] at hl
  have h1 : ∀ i, i < n → ∃ z, cs[i]? = some (.int k z) ∧ InK k z := by
    intro i hi
    have := hel i hi
    cases hxi : xs[i]? with
    | none => rw [List.getElem?_eq_none_iff] at hxi; omega
    | some y =>
      rw [hxi] at this
      obtain ⟨z, hz, _, hw⟩ := DataW.trod_int he this
      refine ⟨z, ?_, inK_of_wf hw⟩
      have h2 := congrArg (fun l : List Value => l[0]?) hz
      simp only [List.getElem?_take, List.getElem?_drop] at h2
      simpa using h2
  obtain ⟨zs, z1, z2⟩ := list_of (p := fun i z => cs[i]? = some (.int k z) ∧ InK k z) n h1
  refine ⟨zs, z1, List.ext_getElem? fun i => ?_, fun z hz => ?_⟩
  · rw [List.getElem?_map]
    by_cases hi : i < n
    · have hzi : zs[i]? = some zs[i] := List.getElem?_eq_getElem (by omega)
      rw [hzi, (z2 i _ hzi).1]; rfl
    · rw [List.getElem?_eq_none (by omega), List.getElem?_eq_none (by omega)]; rfl
  · obtain ⟨i, hi⟩ := List.getElem?_of_mem hz
    exact (z2 i z hi).2
theorem RdI.struct3 {k : IntKind} {t : TypeId} {f0 f1 f2 : Field} {m0 m1 m2 : Nat} (hu : P.underlying t = some (.struct #[f0, f1, f2])) (h0 : RdI enc P W k m0 f0.type) (h1 : RdI enc P W k m1 f1.type) (h2 : RdI enc P W k m2 f2.type)
    (c0 : P.cellsOf f0.type = m0) (c1 : P.cellsOf f1.type = m1) (c2 : P.cellsOf f2.type = m2) (o0 : f0.offset = 0) (o1 : f1.offset = m0) (o2 : f2.offset = m0 + m1) (hC : P.cellsOf t = m0 + m1 + m2) : RdI enc P W k (m0 + m1 + m2) t := by
  intro fuel cs x h
  obtain ⟨y0, y1, y2, n, _, hl, r0, r1, r2⟩ := Go.Deep.trod_struct3 hu h
  rw [c0, o0] at r0
  rw [c1, o1] at r1
  rw [c2, o2] at r2
  rw [hC] at hl
  obtain ⟨z0, l0, e0, i0⟩ := h0 _ _ _ r0
  obtain ⟨z1, l1, e1, i1⟩ := h1 _ _ _ r1
  obtain ⟨z2, l2, e2, i2⟩ := h2 _ _ _ r2
  refine ⟨z0 ++ z1 ++ z2, by simp only [List.length_append, l0, l1, l2], ?_, fun z hz => ?_⟩
  · have h3 : List.take m2 (List.drop (m0 + m1) cs) = List.drop m1 (List.drop m0 cs) := by rw [List.drop_drop]; exact List.take_of_length_le (by simp; omega)
    rw [List.map_append, List.map_append, ← e0, ← e1, ← e2, List.drop_zero, h3, List.append_assoc, List.take_append_drop, List.take_append_drop]
  · rcases List.mem_append.1 hz with hz | hz
    · rcases List.mem_append.1 hz with hz | hz
      · exact i0 z hz
      · exact i1 z hz
    · exact i2 z hz
theorem RdI.v {k : IntKind} {t : TypeId} {m : Nat} {cs : Array Value} {d : DataW H} {p : List MemPlace} (h : RdI enc P W k m t) (hx : DataW.Trod enc P W 0 (fun _ => true) true t (.agg cs) d p) : ∃ zs : List Int, zs.length = m ∧ cs = (zs.map (Value.int k)).toArray ∧ ∀ z ∈ zs, InK k z := by
  obtain ⟨fuel, hf⟩ := hx
  obtain ⟨zs, h1, h2, h3⟩ := h _ _ _ hf
  refine ⟨zs, h1, ?_, h3⟩
  rw [← h2]
  simp [Value.cells]
end
end Go.Wk

namespace Go.Wk
open Go.RowKit Go.ChangeShapes
section
variable {H : Type} {enc : TypeId × Value → H} {P : Program} {W : World}
theorem Rds.i2 {k : IntKind} {e t : TypeId} (hu : P.underlying t = some (.array 2 e)) (he : P.underlying e = some (.int k)) (hc : P.cellsOf e = 1) (hn : P.cellsOf t = 2) : Rds enc P W (tP (tI k) (tI k)) t := by
  refine ⟨hn, Nat.succ_pos _, fun fuel cs x h => ?_⟩
  obtain ⟨zs, hz, rfl, hi⟩ := RdI.array hu he hc hn _ _ _ h
  match zs, hz with
  | [a, b], _ => exact ⟨(a, b), [.int k a], [.int k b], rfl, ⟨rfl, hi a (by simp)⟩, ⟨rfl, hi b (by simp)⟩⟩
end
section
variable {P : Program} {σ : Fr} {w : World} {x y : Operand} {ty T T' : TypeId}
end
end Go.Wk

namespace Go.Proofs.YtokdjjebnomciaaDoor
open Go.Wk Go.RowKit Go.Lib Go
set_option linter.unusedVariables false

end Go.Proofs.YtokdjjebnomciaaDoor

namespace Go.Proofs.YtokdjjebnomciaaDoor
open Go.Wk Go
set_option linter.unusedVariables false
def p0 : ByteArray := { data := #[97, 65] }
def p1 : ByteArray := { data := #[65, 97] }
def p2 : ByteArray := { data := #[98, 66] }
end Go.Proofs.YtokdjjebnomciaaDoor

namespace Go.Wk
open Go.RowKit Go.Lib Go.ChangeMaps
set_option linter.unusedVariables false
set_option linter.unusedSimpArgs false
set_option linter.unusedSectionVars false

section
variable {κ ν : Type} [DecidableEq κ]
/-- The entries of a map. -/
def mE (f : κ → Value) (g : ν → Value) : List (κ × ν) → Nat → List MapEntry
  | [], _ => []
  | p :: m, i => ⟨f p.1, g p.2, i⟩ :: mE f g m (i + 1)
def mget (z : ν) : List (κ × ν) → κ → ν
  | [], _ => z
  | p :: m, k => if p.1 = k then p.2 else mget z m k
def mput : List (κ × ν) → κ → ν → List (κ × ν)
  | [], k, v => [(k, v)]
  | p :: m, k, v => if p.1 = k then (p.1, v) :: m else p :: mput m k v
def mfind : List (κ × ν) → κ → Nat → Option (Nat × ν)
  | [], _, _ => none
  | p :: m, k, i => if p.1 = k then some (i, p.2) else mfind m k (i + 1)
theorem mget_mput (z : ν) : ∀ (m : List (κ × ν)) (k : κ) (v : ν) (q : κ), mget z (mput m k v) q = if q = k then v else mget z m q
  | [], k, v, q => by
    simp only [mput, mget]
    by_cases h : k = q
    · rw [if_pos h, if_pos h.symm]
    · rw [if_neg h, if_neg fun e => h e.symm]
  | p :: m, k, v, q => by
    rw [mput]
    by_cases h : p.1 = k
    · rw [if_pos h, mget, mget]
      by_cases hq : p.1 = q
      · rw [if_pos hq, if_pos (by rw [← hq]; exact h)]
      · rw [if_neg hq, if_neg (fun e => hq (by rw [e]; exact h)), if_neg hq]
    · rw [if_neg h, mget, mget, mget_mput z m k v q]
      by_cases hq : p.1 = q
      · rw [if_pos hq, if_neg (fun e => h (by rw [← e]; exact hq)), if_pos hq]
      · rw [if_neg hq, if_neg hq]
theorem mfind_get (z : ν) : ∀ (m : List (κ × ν)) (k : κ) (i : Nat), mget z m k = ((mfind m k i).map (·.2)).getD z
  | [], _, _ => rfl
  | p :: m, k, i => by
    rw [mget, mfind]
    split
    · rfl
    · exact mfind_get z m k (i + 1)
theorem mfind_ge : ∀ (m : List (κ × ν)) (k : κ) (i : Nat) (x : Nat × ν), mfind m k i = some x → i ≤ x.1
  | [], _, _, _, h => by cases h
  | p :: m, k, i, x, h => by
    rw [mfind] at h
    split at h
    · cases h; exact Nat.le_refl _
    · have := mfind_ge m k (i + 1) x h; omega
/-- Where the key is. -/
theorem mE_found (f : κ → Value) (g : ν → Value) : ∀ (m : List (κ × ν)) (k : κ) (v : ν) (i j : Nat) (x : Nat × ν), mfind m k j = some x →
    (mE f g m i)[x.1 - j]? = some ⟨f k, g x.2, i + (x.1 - j)⟩ ∧ mE f g (mput m k v) i = (mE f g m i).modify (x.1 - j) (fun e => { e with key := f k, val := g v })
  | [], _, _, _, _, _, h => by cases h
  | p :: m, k, v, i, j, x, h => by
    rw [mfind] at h
    by_cases hp : p.1 = k
    · rw [if_pos hp] at h
      cases h
      rw [mput, if_pos hp, Nat.sub_self, ← hp]
      exact ⟨rfl, by simp [mE]⟩
    · rw [if_neg hp] at h
      have hge := mfind_ge m k (j + 1) x h
      obtain ⟨h1, h2⟩ := mE_found f g m k v (i + 1) (j + 1) x h
      obtain ⟨q, hq⟩ : ∃ q, x.1 = j + 1 + q := ⟨x.1 - (j + 1), by omega⟩
      rw [hq] at h1 h2 ⊢
      rw [show j + 1 + q - j = q + 1 by omega]
      rw [show j + 1 + q - (j + 1) = q by omega] at h1 h2
      refine ⟨?_, ?_⟩
      · rw [mE, List.getElem?_cons_succ, h1, show i + 1 + q = i + (q + 1) by omega]
      · rw [mput, if_neg hp, mE, mE, List.modify_succ_cons, h2]
theorem mE_new (f : κ → Value) (g : ν → Value) : ∀ (m : List (κ × ν)) (k : κ) (v : ν) (i j : Nat), mfind m k j = none →
    mE f g (mput m k v) i = mE f g m i ++ [⟨f k, g v, i + m.length⟩] ∧ (mput m k v).length = m.length + 1
  | [], k, v, i, j, _ => ⟨rfl, rfl⟩
  | p :: m, k, v, i, j, h => by
    rw [mfind] at h
    by_cases hp : p.1 = k
    · rw [if_pos hp] at h; cases h
    · rw [if_neg hp] at h
      obtain ⟨h1, h2⟩ := mE_new f g m k v (i + 1) (j + 1) h
      rw [mput, if_neg hp, mE, mE, h1, List.length_cons, List.length_cons, h2]
      exact ⟨by rw [List.cons_append, show i + (m.length + 1) = i + 1 + m.length by omega], rfl⟩
theorem mput_len : ∀ (m : List (κ × ν)) (k : κ) (v : ν) (j : Nat) (x : Nat × ν), mfind m k j = some x → (mput m k v).length = m.length
  | [], _, _, _, _, h => by cases h
  | p :: m, k, v, j, x, h => by
    rw [mfind] at h
    by_cases hp : p.1 = k
    · rw [mput, if_pos hp]; rfl
    · rw [if_neg hp] at h
      rw [mput, if_neg hp, List.length_cons, List.length_cons, mput_len m k v (j + 1) x h]
/-- A type of keys, as the machine compares them. -/
structure KeyD (P : Program) (kt : TypeId) (f : κ → Value) : Prop where
  check : ∀ (b : Bool) (k : κ) (w : World), (Instr.checkKey b 10000 kt (f k)).run P w = .ok () w
  find : ∀ {ν : Type} (g : ν → Value) (m : List (κ × ν)) (k : κ) (i : Nat) (w : World), (Instr.findKey kt (f k) (mE f g m i)).run P w = .ok ((mfind m k 0).map fun x => (x.1, g x.2)) w
  stays : ∀ (k : κ) (w : World), (Instr.keyThatStays (f k) (f k)).run P w = .ok (f k) w
end

theorem findNow_int {ν : Type} {q : IntKind} (g : ν → Value) : ∀ (m : List (Int × ν)) (k : Int) (i j : Nat), Instr.findNow (.int q) (.int q k) (mE (Value.int q) g m i) j = some ((mfind m k j).map fun x => (x.1, g x.2))
  | [], _, _, _ => rfl
  | p :: m, k, i, j => by
    rw [mE, Instr.findNow, mfind]
    simp only [Instr.sameNow, if_true]
    by_cases h : p.1 = k
    · rw [if_pos h, show (k == p.1) = true from beq_iff_eq.2 h.symm]; rfl
    · rw [if_neg h, show (k == p.1) = false from by simpa using fun e => h e.symm]
      exact findNow_int g m k (i + 1) (j + 1)
theorem KeyD.int {P : Program} {kt : TypeId} {q : IntKind} (hd : P.underlying kt = some (.int q)) : KeyD P kt (Value.int q) where
  check := fun b k w => MapKept.run_checkKey (d := .int q) (k := .int q k) hd rfl b 9999
  find := fun g m k i w => MapKept.run_findKey hd (findNow_int g m k i 0)
  stays := fun k w => MapKept.run_keyThatStays (d := .int q) (hk := (rfl : MapKept.IsKey (.int q) (.int q k)))
/-- Two numbers in an array. -/
def pairV (q : IntKind) (p : Int × Int) : Value := .agg #[.int q p.1, .int q p.2]
theorem findAsking_pair {P : Program} {kt e : TypeId} {q : IntKind} {ν : Type} (hu : P.underlying kt = some (.array 2 e)) (he : P.underlying e = some (.int q)) (hsz : ∀ w', (sizeOf e).run P w' = .ok 1 w') (g : ν → Value) :
    ∀ (m : List ((Int × Int) × ν)) (k : Int × Int) (i j : Nat) (w : World), (Instr.findAsking kt (pairV q k) (mE (pairV q) g m i) j).run P w = .ok ((mfind m k j).map fun x => (x.1, g x.2)) w
  | [], _, _, _, _ => rfl
  | p :: m, k, i, j, w => by
    rw [mE, Instr.findAsking, mfind]
    have heq : (Op.equal kt (pairV q k) (pairV q p.1)).run P w = .ok (decide (k.1 = p.1.1) && decide (k.2 = p.1.2)) w := by
      show (Op.equalIn 10000 kt _ _).run P w = _
      rw [show (10000 : Nat) = 9998 + 2 from rfl]
      exact run_equalA2 hu he hsz 9998 w
    simp only [Sem.run_bind, heq, Result.andThen_ok]
    by_cases h : p.1 = k
    · rw [if_pos h, ← h]; simp
    · rw [if_neg h, show (decide (k.1 = p.1.1) && decide (k.2 = p.1.2)) = false from by
        rw [Bool.and_eq_false_iff, decide_eq_false_iff_not, decide_eq_false_iff_not]
        by_cases h1 : k.1 = p.1.1
        · exact .inr fun h2 => h (Prod.ext h1.symm h2.symm)
        · exact .inl h1]
      exact findAsking_pair hu he hsz g m k (i + 1) (j + 1) w
theorem KeyD.pair {P : Program} {kt e : TypeId} {q : IntKind} (hu : P.underlying kt = some (.array 2 e)) (he : P.underlying e = some (.int q)) (hsz : ∀ w', (sizeOf e).run P w' = .ok 1 w') : KeyD P kt (pairV q) where
  check := fun b k w => by
    have hag : ∀ w', (isAgg e).run P w' = .ok false w' := fun w' => by simp [isAgg, run_underlying he]
    rw [show (10000 : Nat) = 9999 + 1 from rfl, pairV]
    unfold Instr.checkKey
    simp only [Sem.run_bind, run_underlying hu, Result.andThen_ok, hsz]
    have hi : ∀ (x : Int) w', (Instr.checkKey b 9999 e (.int q x)).run P w' = .ok () w' := fun x w' => MapKept.run_checkKey (d := .int q) (k := .int q x) he rfl b 9998
    simp [List.range', part, hag, hi, hsz]
  find := fun g m k i w => by
    cases m with
    | nil => simp [mE, Instr.findKey, Instr.findNow, mfind, run_underlying hu]
    | cons p m =>
      have h1 : Instr.findNow (.array 2 e) (pairV q k) (mE (pairV q) g (p :: m) i) 0 = none := rfl
      unfold Instr.findKey
      simp only [Sem.run_bind, run_underlying hu, Result.andThen_ok, h1]
      exact findAsking_pair hu he hsz g (p :: m) k i 0 w
  stays := fun k w => by
    have h : Instr.sameBits 10000 (pairV q k) (pairV q k) = true := by
      rw [show (10000 : Nat) = 9999 + 1 from rfl, pairV, Instr.sameBits]
      simp [Instr.sameBits]
    unfold Instr.keyThatStays
    rw [if_pos h]; rfl

section
variable {P : Program} {n : Nat} {kc : Cont} {σ σ0 : Fr} {w w0 : World} {O : List (Option Nat)} {obs : List Ob} {x y z : Operand} {ty T : TypeId} {l : List (Nat × Value)} {d : Tmp} {pos : String} {af : Array Edge} {ops : Array Oper} {rest : List Oper}
variable {κ ν : Type} [DecidableEq κ] {f : κ → Value} {g : ν → Value} {kt et : TypeId}

/-- A map is made. -/
theorem Wx.makeMap (hS : St w0 O w obs) (hd : Nat.ble (d + 1) n = true) (h : ∀ b w', Ext w w' → St w0 O w' (.raw b (.map #[] 0) :: obs) → Wx P n ops false rest kc (look ((d, .map (some b)) :: l) σ0) w') :
    Wx P n ops false (⟨some d, .makeMap T none, ty, pos, af, none⟩ :: rest) kc (look l σ0) w := by
  have he : Ext w (w.alloc (.map #[] 0)) := (Below.refl _ _).alloc (Nat.le_refl _) _
  refine Wx.val (v := .map (some w.heap.size)) (w' := w.alloc (.map #[] 0)) ?_ hd (h w.heap.size _ he (hS.push he _ (fun b hb => by simp [Ob.blk] at hb; omega) (fun F _ => ⟨hS.bel.size, heap_alloc_new w _⟩)))
  simp [xop, execOp, Instr.makeMap]
/-- m[k]. -/
theorem rd_lookup {b c : Nat} {m : List (κ × ν)} {zv : ν} {k : κ} (hS : St w0 O w obs) (i : Nat) (hi : obs[i]? = some (.raw b (.map (mE f g m 0).toArray c))) (hx : ev σ x = .map (some b)) (hy : ev σ y = f k)
    (hu : P.underlying T = some (.map kt et)) (K : KeyD P kt f) (hz : ∀ w', (zeroValue et).run P w' = .ok (g zv) w') : Rd P σ (.lookup T x y false) ty w (g (mget zv m k)) := by
  intro w' hw'
  have hb := (hS.get i hi).2
  have hb' : w'.heap[b]? = some (.map (mE f g m 0).toArray c) := (hw'.block b (Array.getElem?_eq_some_iff.1 hb).1).trans hb
  have hf := K.find g m k 0 w'
  rw [mfind_get zv m k 0]
  simp only [xop, execOp, hx, hy, Instr.lookup, Sem.run_bind, run_underlying hu, MapKept.run_getObj_map hb', Result.andThen_ok, K.check, hf, Sem.run_pure]
  cases mfind m k 0 <;> simp [hz]
/-- m[k] = v. -/
theorem Wx.mapUpdate {b : Nat} {m : List (κ × ν)} {k : κ} {v : ν} (hS : St w0 O w obs) (i : Nat) (hi : obs[i]? = some (.raw b (.map (mE f g m 0).toArray m.length))) (hx : ev (look l σ0) x = .map (some b)) (hy : ev (look l σ0) y = f k) (hv : ev (look l σ0) z = g v)
    (hu : P.underlying T = some (.map kt et)) (K : KeyD P kt f)
    (h : ∀ w', w.heap.size ≤ w'.heap.size → St w0 O w' (obs.set i (.raw b (.map (mE f g (mput m k v) 0).toArray (mput m k v).length))) → Wx P n ops false rest kc (look l σ0) w') :
    Wx P n ops false (⟨none, .mapUpdate T x y z, ty, pos, af, none⟩ :: rest) kc (look l σ0) w := by
  have hb := (hS.get i hi).2
  have hbase := (hS.get i hi).1
  have hf := K.find g m k 0 w
  have hrun : (Instr.mapUpdate T (.map (some b)) (f k) (g v)).run P w = .ok () (setBlock w b (.map (mE f g (mput m k v) 0).toArray (mput m k v).length)) := by
    cases hm : mfind m k 0 with
    | none =>
      rw [hm] at hf
      obtain ⟨e1, e2⟩ := mE_new f g m k v 0 0 hm
      rw [e1, e2]
      simp [Instr.mapUpdate, run_underlying hu, MapKept.run_getObj_map hb, K.check, hf, MapKept.run_setObj_map _ hb, Result.andThen, setBlock]
    | some q =>
      rw [hm] at hf
      obtain ⟨e1, e2⟩ := mE_found f g m k v 0 0 q hm
      rw [Nat.sub_zero] at e1 e2
      rw [e2, mput_len m k v 0 q hm]
      simp [Instr.mapUpdate, run_underlying hu, MapKept.run_getObj_map hb, K.check, hf, e1, K.stays, MapKept.run_setObj_map _ hb, Result.andThen, setBlock]
  refine Wx.unit (w' := setBlock w b (.map (mE f g (mput m k v) 0).toArray (mput m k v).length)) ?_ (h _ (by simp [setBlock]) ?_)
  · simp [xop, execOp, hx, hy, hv, hrun]
  · exact hS.turn i hi rfl rfl rfl (by simp [setBlock]) (fun b' _ hb' => heap_setBlock_other hb _ (fun e => hb' (by rw [e]; rfl))) (fun b' hb' => .inl hb') (fun b' hb' => by simpa [setBlock] using (Ob.ok_lt (hS.get i hi) hb').2) (fun F _ => ⟨hbase, heap_setBlock_same hb _⟩)
end
end Go.Wk

namespace Go.Wk
open Go.RowKit Go.Lib Go.ChangeMaps
set_option linter.unusedVariables false
set_option linter.unusedSimpArgs false
set_option linter.unusedSectionVars false

section
variable {κ ν : Type} [DecidableEq κ]
end

section
variable {P : Program} {n : Nat} {kc : Cont} {σ σ0 : Fr} {w w0 : World} {O : List (Option Nat)} {obs : List Ob} {x y z : Operand} {ty T : TypeId} {l : List (Nat × Value)} {d : Tmp} {pos : String} {af : Array Edge} {ops : Array Oper} {rest : List Oper}
variable {κ ν : Type} [DecidableEq κ] {f : κ → Value} {g : ν → Value} {kt et : TypeId}
end
end Go.Wk

namespace Go.Proofs.YtokdjjebnomciaaDoor
open Go.Wk Go
set_option linter.unusedVariables false
/-- Joins are a plan just if each one is good behind those before it. -/
def soundB (s : ByteArray) (l : List Join) : Bool := decide (validT s [] l = 0)
theorem badX_zero {s : ByteArray} {pre : List Join} {x : Join} : badX s pre x = 0 ↔ (0 ≤ x.1 ∧ x.1 < x.2 ∧ x.2 < (s.size : Int)) ∧ usedB pre x.1 = false ∧ usedB pre x.2 = false ∧ fitR s x.1 x.2 = true ∧ crossesB pre x = false ∧ ¬ x.1 < lastI pre := by
  constructor
  · intro h
    by_cases hin : (0 ≤ x.1 ∧ x.1 ≤ (s.size : Int) - 1) ∧ (0 ≤ x.2 ∧ x.2 ≤ (s.size : Int) - 1)
    · by_cases ho : x.2 ≤ x.1
      · rw [badX_order hin ho] at h; exact absurd h (by decide)
      · by_cases hu : usedB pre x.1 = true ∨ usedB pre x.2 = true
        · rw [badX_twice hin (by omega) hu] at h; exact absurd h (by decide)
        · have h1 : usedB pre x.1 = false := by cases hq : usedB pre x.1 with | false => rfl | true => exact absurd (.inl hq) hu
          have h2 : usedB pre x.2 = false := by cases hq : usedB pre x.2 with | false => rfl | true => exact absurd (.inr hq) hu
          cases hf : fitR s x.1 x.2 with
          | false => rw [badX_clash hin (by omega) h1 h2 hf] at h; exact absurd h (by decide)
          | true =>
            cases hc : crossesB pre x with
            | true => rw [badX_shape hin (by omega) h1 h2 hf hc] at h; exact absurd h (by decide)
            | false =>
              by_cases hl : x.1 < lastI pre
              · rw [badX_late hin (by omega) h1 h2 hf hc hl] at h; exact absurd h (by decide)
              · exact ⟨⟨by omega, by omega, by omega⟩, h1, h2, rfl, rfl, hl⟩
    · rw [badX_none hin] at h; exact absurd h (by decide)
  · rintro ⟨⟨a, b, c⟩, d, e, f, g, h⟩
    exact badX_good ⟨⟨a, by omega⟩, by omega, by omega⟩ b d e f g h
theorem validT_next {s : ByteArray} {l : List Join} {k : Int} (h0 : 0 ≤ k) (h1 : k < l.length) (h2 : validT s (l.take k.toNat) (l.drop k.toNat) = validT s [] l) (h : badX s (l.take k.toNat) (ix (0, 0) l k) = 0) : validT s (l.take (k + 1).toNat) (l.drop (k + 1).toNat) = validT s [] l := validT_good h0 h1 h2 h
theorem sound_bad {s : ByteArray} {l : List Join} {k : Int} (h0 : 0 ≤ k) (h1 : k < l.length) (h2 : validT s (l.take k.toNat) (l.drop k.toNat) = validT s [] l) (h : badX s (l.take k.toNat) (ix (0, 0) l k) ≠ 0) : soundB s l = false := by
  rw [soundB, ← h2, drop_ix (d := (0, 0)) h0 h1, validT, if_neg h]
  exact decide_eq_false h
theorem sound_end {s : ByteArray} {l : List Join} {k : Int} (h1 : (l.length : Int) ≤ k) (h2 : validT s (l.take k.toNat) (l.drop k.toNat) = validT s [] l) : soundB s l = true := by
  rw [soundB, ← h2, drop_end h1]; rfl
theorem usedB_app (l : List Join) (x : Join) (q : Int) : usedB (l ++ [x]) q = (usedB l q || (decide (x.1 = q) || decide (x.2 = q))) := by
  rw [usedB, List.any_append]; simp [usedB]
theorem met_step {m : List (Int × Bool)} {pre : List Join} {x : Join} (h : ∀ q, mget false m q = usedB pre q) (q : Int) : mget false (mput (mput m x.1 true) x.2 true) q = usedB (pre ++ [x]) q := by
  rw [mget_mput, mget_mput, usedB_app, h q]
  by_cases h1 : q = x.2
  · rw [if_pos h1, h1]; simp
  · rw [if_neg h1]
    by_cases h2 : q = x.1
    · rw [if_pos h2, h2]; simp
    · rw [if_neg h2, decide_eq_false (fun e => h2 e.symm), decide_eq_false (fun e => h1 e.symm)]; simp
end Go.Proofs.YtokdjjebnomciaaDoor

namespace Go.Wk
set_option linter.unusedVariables false
section
variable {α : Type} (d : α) (lt : α → α → Bool)
def sinkF : List α → Nat → List α
  | z, 0 => z
  | z, j + 1 => if lt (ix d z ((j + 1 : Nat) : Int)) (ix d z (j : Nat)) = true then sinkF ((z.set (j + 1) (ix d z (j : Nat))).set j (ix d z ((j + 1 : Nat) : Int))) j else z
def sortGF : List α → Nat → Nat → List α
  | z, _, 0 => z
  | z, i, m + 1 => sortGF (sinkF d lt z i) (i + 1) m
def sortF (ys : List α) : List α := sortGF d lt ys 1 (ys.length - 1)
variable {d lt}
theorem sinkF_step {z : List α} {j : Int} (h0 : 0 < j) (h : lt (ix d z j) (ix d z (j - 1)) = true) : sinkF d lt ((z.set j.toNat (ix d z (j - 1))).set (j - 1).toNat (ix d z j)) (j - 1).toNat = sinkF d lt z j.toNat := by
  obtain ⟨q, rfl⟩ : ∃ q : Nat, j = ((q + 1 : Nat) : Int) := ⟨(j - 1).toNat, by omega⟩
  have e : ((q + 1 : Nat) : Int) - 1 = (q : Int) := by omega
  rw [e] at h ⊢
  simp only [Int.toNat_natCast]
  rw [sinkF, if_pos h]
theorem sinkF_stop {z : List α} {j : Int} (h0 : 0 ≤ j) (h : ¬ (0 < j ∧ lt (ix d z j) (ix d z (j - 1)) = true)) : sinkF d lt z j.toNat = z := by
  by_cases hj : j = 0
  · subst hj; rfl
  · obtain ⟨q, rfl⟩ : ∃ q : Nat, j = ((q + 1 : Nat) : Int) := ⟨(j - 1).toNat, by omega⟩
    have e : ((q + 1 : Nat) : Int) - 1 = (q : Int) := by omega
    rw [e] at h
    simp only [Int.toNat_natCast]
    rw [sinkF, if_neg (fun hh => h ⟨by omega, hh⟩)]
theorem sortF_next {z z2 : List α} {n i : Int} (h : i < n) (hz : z2 = sinkF d lt z i.toNat) (h0 : 0 ≤ i) : sortGF d lt z2 (i + 1).toNat (n - (i + 1)).toNat = sortGF d lt z i.toNat (n - i).toNat := by
  rw [show (n - i).toNat = (n - (i + 1)).toNat + 1 by omega, sortGF, hz, show (i + 1).toNat = i.toNat + 1 by omega]
theorem ix_natF {z : List α} {q : Nat} (h : q < z.length) : ix d z (q : Int) = z[q] := by
  rw [ix, List.getD_eq_getElem?_getD, Int.toNat_natCast, List.getElem?_eq_getElem h]; rfl
theorem ix_setF {z : List α} {j q : Nat} {x : α} (h : j < z.length) : ix d (z.set j x) (q : Int) = if q = j then x else ix d z q := by
  rw [ix, ix, List.getD_eq_getElem?_getD, List.getD_eq_getElem?_getD, Int.toNat_natCast, List.getElem?_set]
  by_cases hq : q = j
  · rw [if_pos hq.symm, if_pos h, if_pos hq]; rfl
  · rw [if_neg (fun e => hq e.symm), if_neg hq]
theorem sinkF_perm : ∀ (j : Nat) (z : List α), j < z.length → (sinkF d lt z j).Perm z
  | 0, z, _ => List.Perm.refl _
  | j + 1, z, h => by
    rw [sinkF]
    split
    · refine (sinkF_perm j _ (by simp only [List.length_set]; omega)).trans ?_
      rw [ix_natF (by omega), ix_natF h]
      exact List.set_set_perm h (by omega)
    · exact List.Perm.refl _
variable (hT : ∀ x y z, lt y x = false → lt z y = false → lt z x = false) (hA : ∀ x y, lt x y = true → lt y x = false)
include hT hA
theorem sinkF_sorts : ∀ (j : Nat) (z : List α) (i : Nat), j ≤ i → i < z.length → ((∀ p q : Nat, p < q → q ≤ i → p ≠ j → q ≠ j → lt (ix d z q) (ix d z p) = false) ∧ ∀ q : Nat, j < q → q ≤ i → lt (ix d z q) (ix d z j) = false) →
    (∀ p q : Nat, p < q → q ≤ i → lt (ix d (sinkF d lt z j) q) (ix d (sinkF d lt z j) p) = false) ∧ ∀ q : Nat, i < q → ix d (sinkF d lt z j) q = ix d z q
  | 0, z, i, _, hi, ⟨h1, h2⟩ => by
    refine ⟨fun p q hpq hq => ?_, fun _ _ => rfl⟩
    rw [sinkF]
    by_cases hp : p = 0
    · subst hp; exact h2 q hpq hq
    · exact h1 p q hpq hq hp (by omega)
  | j + 1, z, i, hj, hi, ⟨h1, h2⟩ => by
    rw [sinkF]
    split
    · rename_i hlt
      have hl : (z.set (j + 1) (ix d z (j : Nat))).length = z.length := List.length_set
      have e : ∀ q : Nat, ix d ((z.set (j + 1) (ix d z (j : Nat))).set j (ix d z ((j + 1 : Nat) : Int))) (q : Int) = if q = j then ix d z ((j + 1 : Nat) : Int) else if q = j + 1 then ix d z (j : Nat) else ix d z q := fun q => by
        rw [ix_setF (by rw [hl]; omega), ix_setF (by omega)]
      have ih := sinkF_sorts j ((z.set (j + 1) (ix d z (j : Nat))).set j (ix d z ((j + 1 : Nat) : Int))) i (by omega) (by simp only [List.length_set]; omega) ⟨fun p q hpq hq hp hq2 => by
          rw [e, e, if_neg hp, if_neg hq2]
          by_cases c1 : p = j + 1
          · rw [if_pos c1, if_neg (by omega)]; exact h1 j q (by omega) hq (by omega) (by omega)
          · rw [if_neg c1]
            by_cases c2 : q = j + 1
            · rw [if_pos c2]; exact h1 p j (by omega) (by omega) (by omega) (by omega)
            · rw [if_neg c2]; exact h1 p q hpq hq c1 c2, fun q hq1 hq2 => by
          rw [e, e, if_pos rfl, if_neg (by omega)]
          by_cases c2 : q = j + 1
          · rw [if_pos c2]; exact hA _ _ hlt
          · rw [if_neg c2]; exact h2 q (by omega) hq2⟩
      refine ⟨ih.1, fun q hq => ?_⟩
      rw [ih.2 q hq, e, if_neg (by omega), if_neg (by omega)]
    · rename_i hlt
      have hlt : lt (ix d z ((j + 1 : Nat) : Int)) (ix d z (j : Nat)) = false := by simpa using hlt
      refine ⟨fun p q hpq hq => ?_, fun _ _ => rfl⟩
      by_cases c1 : p = j + 1
      · subst c1; exact h2 q hpq hq
      · by_cases c2 : q = j + 1
        · subst c2
          by_cases c3 : p = j
          · subst c3; exact hlt
          · exact hT _ _ _ (h1 p j (by omega) (by omega) c1 (by omega)) hlt
        · exact h1 p q hpq hq c1 c2
theorem sortGF_spec : ∀ (m : Nat) (z : List α) (i : Nat), i + m ≤ max z.length 1 → 1 ≤ i → (∀ p q : Nat, p < q → q < i → lt (ix d z q) (ix d z p) = false) → (sortGF d lt z i m).Perm z ∧ ∀ p q : Nat, p < q → q < i + m → lt (ix d (sortGF d lt z i m) q) (ix d (sortGF d lt z i m) p) = false
  | 0, z, i, _, _, hs => ⟨List.Perm.refl _, hs⟩
  | m + 1, z, i, hl, h1, hs => by
    have hi : i < z.length := by omega
    have hp := sinkF_perm (d := d) (lt := lt) i z hi
    have hk := sinkF_sorts hT hA i z i (Nat.le_refl _) hi ⟨fun p q hpq hq _ hq2 => hs p q hpq (by omega), fun q h2 h3 => by omega⟩
    have ih := sortGF_spec m (sinkF d lt z i) (i + 1) (by rw [hp.length_eq]; omega) (by omega) (fun p q hpq hq => hk.1 p q hpq (by omega))
    rw [sortGF]
    refine ⟨ih.1.trans hp, fun p q hpq hq => ih.2 p q hpq (by omega)⟩
theorem sortF_perm (ys : List α) : (sortF d lt ys).Perm ys := (sortGF_spec hT hA (ys.length - 1) ys 1 (by omega) (by omega) (fun p q _ hq => by omega)).1
theorem sortF_sorted (ys : List α) : (sortF d lt ys).Pairwise (fun x y => lt y x = false) := by
  have h := (sortGF_spec (d := d) hT hA (ys.length - 1) ys 1 (by omega) (by omega) (fun p q _ hq => by omega)).2
  have hl := (sortF_perm (d := d) hT hA ys).length_eq
  rw [List.pairwise_iff_getElem]
  intro i j hi hj hij
  have := h i j hij (by omega)
  rw [show sortGF d lt ys 1 (ys.length - 1) = sortF d lt ys from rfl, ix_natF hi, ix_natF hj] at this
  exact this
end
end Go.Wk

namespace Go.Wk
open Go.RowKit Go.Lib
section
variable {P : Program} {w : World} {ty : TypeId} {σ : Fr} {T : TypeId} {x : Operand}
theorem rd_sliceArrA {g o m : Nat} {e : TypeId} {sz : Nat} (hu : P.underlying T = some (.array m e)) (hsz : ∀ w', (sizeOf e).run P w' = .ok sz w') (hx : ev σ x = .pointer (some ⟨g, o, none⟩)) :
    Rd P σ (.slice T x none none none) ty w (.slice (some ⟨g, o, none⟩) m m) :=
  Rd.of fun w' => by
    have hr : (Instr.sliceAt T (.pointer (some ⟨g, o, none⟩)) none none none).run P w' = .ok (.slice (some ⟨g, o, none⟩) m m) w' := by
      simp [Instr.sliceAt, Instr.sureAddr, run_underlying hu, Instr.sliceBounds, run_sliceBound, hsz, Addr.add]
    simp only [xop, execOp, hx, Option.map_none, Sem.run_bind, hr]
    rfl
end
end Go.Wk

namespace Go.Proofs.YtokdjjebnomciaaDoor
open Go.Wk Go
set_option linter.unusedVariables false
def cmpI (x y : Int) : Int := if x < y then -1 else if y < x then 1 else 0
def cmpJ (x y : Join) : Int := if cmpI x.1 y.1 ≠ 0 then cmpI x.1 y.1 else cmpI x.2 y.2
def ltB (x y : Join) : Bool := decide (cmpJ x y < 0)
theorem ltB_iff {x y : Join} : ltB x y = true ↔ ltJ x y := by
  rw [ltB, decide_eq_true_eq, cmpJ, cmpI, cmpI, ltJ]
  (repeat' split) <;> omega
theorem ltB_not {x y : Join} : ltB x y = false ↔ ¬ ltJ x y := by rw [← ltB_iff, Bool.not_eq_true]
def sortJ (l : List Join) : List Join := sortF (0, 0) ltB l
theorem ltB_trans (x y z : Join) (h1 : ltB y x = false) (h2 : ltB z y = false) : ltB z x = false := by
  rw [ltB_not, ltJ] at *; omega
theorem ltB_asymm (x y : Join) (h : ltB x y = true) : ltB y x = false := by
  rw [ltB_iff] at h; rw [ltB_not]; exact fun k => ltJ.asymm h k
theorem sortJ_perm (l : List Join) : (sortJ l).Perm l := sortF_perm ltB_trans ltB_asymm l
theorem sortJ_sorted (l : List Join) : (sortJ l).Pairwise fun x y => ¬ ltJ y x := (sortF_sorted (d := (0, 0)) ltB_trans ltB_asymm l).imp fun h => ltB_not.1 h
theorem sortJ_len (l : List Join) : (sortJ l).length = l.length := (sortJ_perm l).length_eq
/-- Lists of numbers compared. -/
def cmpL : List Int → List Int → Int
  | [], [] => 0
  | [], _ :: _ => -1
  | _ :: _, [] => 1
  | a :: p, b :: q => if cmpI a b ≠ 0 then cmpI a b else cmpL p q
theorem cmpL_two (a b c d : Int) : cmpL [a, b] [c, d] = cmpJ (a, b) (c, d) := by
  rw [cmpL, cmpL, cmpL, cmpJ]
  show (if cmpI a c ≠ 0 then cmpI a c else if cmpI b d ≠ 0 then cmpI b d else 0) = if cmpI a c ≠ 0 then cmpI a c else cmpI b d
  (repeat' split) <;> omega
theorem cmpI_bd (a b : Int) : -1 ≤ cmpI a b ∧ cmpI a b ≤ 1 := by rw [cmpI]; (repeat' split) <;> omega
theorem cmpJ_bd (a b : Join) : -1 ≤ cmpJ a b ∧ cmpJ a b ≤ 1 := by rw [cmpJ]; split <;> exact cmpI_bd _ _
theorem bitAux_le : ∀ (f x : Nat), Go.Lib.bitLenAux f x ≤ f
  | 0, x => by simp [Go.Lib.bitLenAux]
  | f + 1, x => by
    have := bitAux_le f (x / 2)
    rw [Go.Lib.bitLenAux]
    split <;> omega
theorem bitLen_bd (n : Nat) : 0 ≤ (Go.Lib.bitLen n : Int) ∧ (Go.Lib.bitLen n : Int) ≤ 64 := ⟨by omega, by have := bitAux_le 64 n; rw [Go.Lib.bitLen]; omega⟩
end Go.Proofs.YtokdjjebnomciaaDoor

namespace Go.Proofs.YtokdjjebnomciaaDoor
open Go.Wk Go.RowKit Go.Lib Go
theorem F108 {x : Int} {w : World} (i_x : InK .u64 x) (p_x : x ≤ 255) : Calls Tryd.prog 108 #[.int .u64 x] w (Ret w fun q _ => q = .int .i64 (Go.Lib.bitLen x.toNat)) :=
  ret_of_same (Tryd.bits_Len x w (bd_u64 i_x).1 (by omega))
end Go.Proofs.YtokdjjebnomciaaDoor

namespace Go.Wk
open Go.RowKit Go.Lib
set_option linter.unusedVariables false
section
variable {w w0 : World} {O : List (Option Nat)} {obs : List Ob}
def flatP (k : IntKind) (xs : List (Int × Int)) : List Value := xs.flatMap fun p => [.int k p.1, .int k p.2]
theorem flatP_get (k : IntKind) : ∀ (xs : List (Int × Int)) (i : Nat) (x : Int × Int), xs[i]? = some x → (flatP k xs)[i * 2]? = some (.int k x.1) ∧ (flatP k xs)[i * 2 + 1]? = some (.int k x.2)
  | [], _, _, h => by simp at h
  | y :: xs, 0, x, h => by cases h; exact ⟨rfl, rfl⟩
  | y :: xs, i + 1, x, h => by
    have := flatP_get k xs i x h
    have e : flatP k (y :: xs) = .int k y.1 :: .int k y.2 :: flatP k xs := rfl
    rw [e, show (i + 1) * 2 = i * 2 + 1 + 1 by omega, List.getElem?_cons_succ, List.getElem?_cons_succ, List.getElem?_cons_succ, List.getElem?_cons_succ]
    exact this
theorem flatP_take (k : IntKind) : ∀ (xs : List (Int × Int)) (m : Nat), (flatP k xs).take (m * 2) = flatP k (xs.take m)
  | [], m => by simp [flatP]
  | x :: xs, 0 => by simp [flatP]
  | x :: xs, m + 1 => by
    have := flatP_take k xs m
    have e : flatP k (x :: xs) = .int k x.1 :: .int k x.2 :: flatP k xs := rfl
    rw [List.take_succ_cons, e, show (m + 1) * 2 = m * 2 + 1 + 1 by omega, List.take_succ_cons, List.take_succ_cons, this]; rfl
theorem St.sliceBoxP {g o : Nat} {e : TypeId} {cs : List Value} {k : IntKind} {xs : List (Int × Int)} {cap m : Nat} (h : St w0 O w obs) (i : Nat) (hi : obs[i]? = some (.box g e cs)) (hc : (cs.drop o).take (m * 2) = flatP k xs) (hin : ∀ x ∈ xs, InK k x.1 ∧ InK k x.2)
    (hlen : xs.length = m) (h1 : m ≤ cap) (h2 : cap ≤ maxLen) : St w0 O w (Ob.v (tSl (tP (tI k) (tI k))) xs (.slice (some ⟨g, o, none⟩) m cap) :: obs.eraseIdx i) := by
  subst hlen
  have hb := h.get i hi
  have hs : St w0 O w (obs.eraseIdx i) := h.drop i
  refine hs.add (V.of_form h1 h2 fun hne => ⟨g, o, rfl, ?_, (Array.getElem?_eq_some_iff.1 hb.2).1, fun j x hj => ⟨[.int k x.1, .int k x.2], ⟨[.int k x.1], [.int k x.2], rfl, ⟨rfl, (hin x (List.mem_of_getElem? hj)).1⟩, ⟨rfl, (hin x (List.mem_of_getElem? hj)).2⟩⟩, fun q u hq => ?_⟩⟩)
  · intro hm
    rcases List.mem_append.1 hm with hm | hm
    · obtain ⟨ob, ho, he⟩ := List.mem_map.1 hm
      have hp := h.front i hi
      have hsep := (List.pairwise_cons.1 hp.sep).1 ob ho
      rcases hsep with hsep | hsep
      · cases hsep
      · exact hsep he.symm
    · have := h.olt g hm
      have hbb := hb.1
      omega
  · have hn : (tP (tI k) (tI k)).n = 2 := rfl
    obtain ⟨g1, g2⟩ := flatP_get k xs j x hj
    have hcell : ∀ q v, (flatP k xs)[q]? = some v → cs[o + q]? = some v := fun q v hv => by
      rw [← hc, List.getElem?_take] at hv
      split at hv
      · rw [List.getElem?_drop] at hv; exact hv
      · cases hv
    have hcc : cs[o + (j * 2 + q)]? = some u := by
      match q, hq with
      | 0, hq => cases hq; exact hcell _ _ g1
      | 1, hq => cases hq; exact hcell _ _ g2
      | q + 2, hq => simp at hq
    rw [hn, cell_of_row w g (o + j * 2 + q) _ e (0, 0) hb.2]
    rw [← hcc, Nat.add_assoc]; simp
end
end Go.Wk

namespace Go.Proofs.YtokdjjebnomciaaDoor
open Go.Wk Go
set_option linter.unusedVariables false
theorem validT_app (s : ByteArray) : ∀ (p pre r : List Join), validT s pre (p ++ r) = if validT s pre p = 0 then validT s (pre ++ p) r else validT s pre p
  | [], pre, r => by rw [List.nil_append, validT, if_pos rfl, List.append_nil]
  | x :: p, pre, r => by
    rw [List.cons_append, validT, validT]
    by_cases h : badX s pre x = 0
    · rw [if_pos h, if_pos h, validT_app s p (pre ++ [x]) r, List.append_assoc]; rfl
    · rw [if_neg h, if_neg h, if_neg h]
theorem sound_iff {s : ByteArray} {l : List Join} : soundB s l = true ↔ validT s [] l = 0 := by rw [soundB, decide_eq_true_eq]
theorem sound_stop {s : ByteArray} {l : List Join} {n : Int} (h0 : 0 ≤ n) (h1 : n < l.length) (h2 : soundB s (l.take n.toNat) = true) (h3 : soundB s (l.take (n + 1).toNat) = false) :
    validT s [] l = badX s (l.take n.toNat) (ix (0, 0) l n) ∧ badX s (l.take n.toNat) (ix (0, 0) l n) ≠ 0 := by
  have h2 := sound_iff.1 h2
  have h4 : badX s (l.take n.toNat) (ix (0, 0) l n) ≠ 0 := fun hb => by
    have : soundB s (l.take (n + 1).toNat) = true := sound_iff.2 (by rw [take_ix (d := (0, 0)) h0 h1, validT_app, if_pos h2, List.nil_append, validT, if_pos hb]; rfl)
    rw [this] at h3; cases h3
  refine ⟨?_, h4⟩
  conv => lhs; rw [← List.take_append_drop n.toNat l]
  rw [validT_app, if_pos h2, List.nil_append, drop_ix (d := (0, 0)) h0 h1, validT, if_neg h4]
theorem sorted_last {l : List Join} {n : Int} (h0 : 0 ≤ n) (h1 : n < (sortJ l).length) : ¬ (ix (0, 0) (sortJ l) n).1 < lastI ((sortJ l).take n.toNat) ∨ (ix (0, 0) (sortJ l) n).1 < 0 := by
  by_cases hx : (ix (0, 0) (sortJ l) n).1 < 0
  · exact .inr hx
  · left
    refine lastI_no h0 (by omega) (by omega) ?_
    by_cases hn : 0 < n
    · right
      have hs := sortJ_sorted l
      rw [List.pairwise_iff_getElem] at hs
      have := hs (n - 1).toNat n.toNat (by omega) (by omega) (by omega)
      have e1 : ix (0, 0) (sortJ l) n = (sortJ l)[n.toNat] := by rw [ix, List.getD_eq_getElem?_getD, List.getElem?_eq_getElem (by omega)]; rfl
      have e2 : ix (0, 0) (sortJ l) (n - 1) = (sortJ l)[(n - 1).toNat] := by rw [ix, List.getD_eq_getElem?_getD, List.getElem?_eq_getElem (by omega)]; rfl
      rw [e1, e2]
      intro hl
      exact this (.inl hl)
    · exact .inl hn
/-- The error where the joins stop being a plan. -/
theorem stop_err {s : ByteArray} {l : List Join} {n : Int} (h0 : 0 ≤ n) (h1 : n < (sortJ l).length) (h2 : soundB s ((sortJ l).take n.toNat) = true) (h3 : soundB s ((sortJ l).take (n + 1).toNat) = false) (hin : ∀ x ∈ l, 0 ≤ x.1 ∧ x.1 ≤ x.2 ∧ x.2 < (s.size : Int)) :
    validT s [] (sortJ l) ≠ 0 ∧ ((ix (0, 0) (sortJ l) n).1 = (ix (0, 0) (sortJ l) n).2 → validT s [] (sortJ l) = 7) ∧
    (¬ (ix (0, 0) (sortJ l) n).1 = (ix (0, 0) (sortJ l) n).2 → (usedB ((sortJ l).take n.toNat) (ix (0, 0) (sortJ l) n).1 = true ∨ usedB ((sortJ l).take n.toNat) (ix (0, 0) (sortJ l) n).2 = true) → validT s [] (sortJ l) = 6) ∧
    (¬ (ix (0, 0) (sortJ l) n).1 = (ix (0, 0) (sortJ l) n).2 → usedB ((sortJ l).take n.toNat) (ix (0, 0) (sortJ l) n).1 = false ∧ usedB ((sortJ l).take n.toNat) (ix (0, 0) (sortJ l) n).2 = false → fitR s (ix (0, 0) (sortJ l) n).1 (ix (0, 0) (sortJ l) n).2 = false → validT s [] (sortJ l) = 13) ∧
    (¬ (ix (0, 0) (sortJ l) n).1 = (ix (0, 0) (sortJ l) n).2 → usedB ((sortJ l).take n.toNat) (ix (0, 0) (sortJ l) n).1 = false ∧ usedB ((sortJ l).take n.toNat) (ix (0, 0) (sortJ l) n).2 = false → fitR s (ix (0, 0) (sortJ l) n).1 (ix (0, 0) (sortJ l) n).2 = true → validT s [] (sortJ l) = 5) := by
  obtain ⟨e, hne⟩ := sound_stop h0 h1 h2 h3
  have hlast := sorted_last h0 h1
  have hx := hin _ ((sortJ_perm l).mem_iff.1 (ix_mem (d := (0, 0)) h0 h1))
  rw [e]
  generalize ix (0, 0) (sortJ l) n = x at *
  generalize (sortJ l).take n.toNat = pre at *
  have hr : (0 ≤ x.1 ∧ x.1 ≤ (s.size : Int) - 1) ∧ (0 ≤ x.2 ∧ x.2 ≤ (s.size : Int) - 1) := ⟨⟨by omega, by omega⟩, by omega, by omega⟩
  refine ⟨hne, fun h => badX_order hr (by omega), fun h hu => badX_twice hr (by omega) hu, fun h hu hf => badX_clash hr (by omega) hu.1 hu.2 hf, fun h hu hf => ?_⟩
  cases hc : crossesB pre x with
  | true => exact badX_shape hr (by omega) hu.1 hu.2 hf hc
  | false => exact absurd (badX_zero.2 ⟨⟨by omega, by omega, by omega⟩, hu.1, hu.2, hf, hc, by omega⟩) hne
theorem chk_eq {s : ByteArray} {S : List Join} {n : Int} (h0 : 0 ≤ n) (h1 : n ≤ (S.length : Int)) (h2 : soundB s (S.take n.toNat) = true) (c : ¬ n < (S.length : Int) ∨ soundB s (S.take (n + 1).toNat) = false) :
    false = !(decide (validT s [] S = 0) == decide (n = (S.length : Int))) := by
  by_cases hn : n = (S.length : Int)
  · have : validT s [] S = 0 := by
      rw [hn, List.take_of_length_le (by omega)] at h2
      exact sound_iff.1 h2
    rw [decide_eq_true this, decide_eq_true hn]; rfl
  · have h3 : soundB s (S.take (n + 1).toNat) = false := by
      rcases c with c | c
      · omega
      · exact c
    obtain ⟨e, hne⟩ := sound_stop h0 (by omega) h2 h3
    rw [decide_eq_false (by rw [e]; exact hne), decide_eq_false hn]; rfl
end Go.Proofs.YtokdjjebnomciaaDoor

namespace Go.Proofs.YtokdjjebnomciaaDoor
open Go.Wk Go.RowKit Go.Lib
set_option linter.unusedVariables false
set_option linter.unusedSimpArgs false
theorem mixedHb_ : Tryd.prog.follows .mixedOrders = true := by kernel_rfl

theorem F17 {rim : ByteArray} {w : World} (s_rim : rim.size ≤ maxLen) : Calls Tryd.prog 17 #[.string rim] w (Ret w (fun r _ => r = .int .i64 (rimE rim))) := by
  have hS := St.start0 w
  refine enterR Tryd.func17 rfl Tryd.ntmps17 Tryd.results17 rfl ?_
  refine W.seq ?_
  refine W.reg ?_
  refine Wx.rd (v := .int .i64 0) (rd_assign rfl) rfl ?_
  refine Wx.nil ?_
  refine W.seq ?_
  refine W.seq ?_
  refine W.reg ?_
  refine Wx.rd (v := .string rim) (rd_move rfl) rfl ?_
  refine Wx.rd (v := .int .i64 (rim.size : Int)) (rd_lenS rfl Tryd.underlying9) rfl ?_
  refine Wx.rd (v := .bool (decide (12 < (rim.size : Int)))) (rd_gtr rfl rfl) rfl ?_
  refine Wx.nil ?_
  refine W.condD rfl (fun c0 => ?_) (fun c0 => ?_)
  · -- yes
    refine W.seq ?_
    refine W.reg ?_
    refine Wx.rd (v := .int .i64 3) (rd_assign rfl) rfl ?_
    refine Wx.nil ?_
    have e0_0 : (rimE rim) = (3 : Int) := by rw [rimE, if_pos c0]
    exact W.ret ⟨.int .i64 3, ResIs.one, hS.bel, (by rw [e0_0])⟩
  · -- no
    refine W.skip ?_
    refine W.seq ?_
    refine W.seq ?_
    refine W.reg ?_
    refine Wx.rd (v := .string rim) (rd_move rfl) rfl ?_
    refine Wx.rangeS (s := rim) hS rfl Tryd.underlying9 rfl (fun g_1 w_2 hx_3 hS => ?_)
    refine Wx.nil ?_
    refine W.block ?_
    refine W.loop [2, 4, 10, 11, 12, 13, 14, 15] (fun (p : Nat) => []) (fun (p : Nat) w' => St w [] w' [.raw g_1 (.stringIter rim p)] ∧ p ≤ rim.size ∧ (∀ q : Int, 0 ≤ q → q < p → isLet (tabAt rim q) = true)) (fun (p : Nat) => rim.size - p) 0 trivial ⟨hS, (Nat.zero_le _), (fun q q0 q1 => by omega)⟩ ?_
    rintro p u_5 w_4 ⟨hS, h1, h2⟩
    refine W.seq ?_
    refine W.reg ?_
    refine Wx.nextS hS 0 rfl rfl rfl (fun hn w_6 hz_7 hS => ?_) (fun hn => ?_)
    · -- a rune
      have hS : St _ _ w_6 [.raw g_1 (.stringIter rim (p + (runeW rim (p : Int)).toNat))] := hS
      have hrb := runeAt_bd rim (p : Int)
      refine Wx.rd (v := .bool true) (rd_extract rfl rfl) rfl ?_
      refine Wx.nil ?_
      refine W.seq ?_
      refine W.condT rfl rfl ?_
      refine W.skip ?_
      refine W.block ?_
      refine W.seq ?_
      refine W.reg ?_
      refine Wx.rd (v := .int .i32 (runeAt rim (p : Int))) (rd_extract rfl rfl) rfl ?_
      refine Wx.rd (v := .int .i32 (runeAt rim (p : Int))) (rd_assign rfl) rfl ?_
      refine Wx.nil ?_
      refine W.seq ?_
      refine W.reg ?_
      refine Wx.rd (v := .int .i32 (runeAt rim (p : Int))) (rd_move rfl) rfl ?_
      refine Wx.callF (run_callF Tryd.call59 rfl) (F59 (by first | assumption | (simp only [maxLen]; omega) | (simp only [ByteArray.size_extract, ByteArray.size_append, maxLen] at *; omega) | decide) (in_i32 (by omega) (by omega)) letS_asc (by decide) (by omega)) rfl ?_
      rintro r_9 w_10 hx_11 rfl
      have hS := hS.ext hx_11
      refine Wx.rd (v := .bool (!(hasRune letS (runeAt rim (p : Int))))) (rd_not rfl) rfl ?_
      refine Wx.nil ?_
      refine W.cond rfl (fun c2 => ?_) (fun c2 => ?_)
      · -- yes
        try simp only [Bool.and_eq_true, Bool.or_eq_true, Bool.not_eq_true', Bool.and_eq_false_iff, Bool.or_eq_false_iff, Bool.not_eq_false', decide_eq_true_eq, decide_eq_false_iff_not, not_or, Bool.false_eq_true, Bool.true_eq_false, false_or, or_false, not_false_eq_true] at c2
        have hnl := rune_not (s := rim) (p := (p : Int)) (by omega) c2
        refine W.seq ?_
        refine W.reg ?_
        refine Wx.rd (v := .int .i64 10) (rd_assign rfl) rfl ?_
        refine Wx.nil ?_
        have e1_0 : (rimE rim) = (10 : Int) := by exact rimE_bad (by omega) (by omega) hn hnl
        exact W.ret ⟨.int .i64 10, ResIs.one, hS.bel, (by rw [e1_0])⟩
      · -- no
        try simp only [Bool.and_eq_true, Bool.or_eq_true, Bool.not_eq_true', Bool.and_eq_false_iff, Bool.or_eq_false_iff, Bool.not_eq_false', decide_eq_true_eq, decide_eq_false_iff_not, not_or, Bool.false_eq_true, Bool.true_eq_false, false_or, or_false, not_false_eq_true] at c2
        have hle := rune_let (s := rim) (p := (p : Int)) (by omega) c2
        refine W.skip ?_
        refine ⟨p + (runeW rim (p : Int)).toNat, (by show rim.size - (p + (runeW rim (p : Int)).toNat) < rim.size - p; omega), ?_, ?_, Out.look rfl Out.self⟩
        · exact ⟨hS, (by omega), (fun q q0 q1 => by by_cases hq : q = (p : Int); (subst hq; exact hle.2); exact h2 q q0 (by omega))⟩
        · exact trivial
    · -- the end
      refine Wx.rd (v := .bool false) (rd_extract rfl rfl) rfl ?_
      refine Wx.nil ?_
      refine W.seq ?_
      refine W.condF rfl rfl ?_
      refine W.exit rfl ?_
      refine W.seq ?_
      refine W.reg ?_
      refine Wx.rd (v := .int .i64 0) (rd_assign rfl) rfl ?_
      refine Wx.nil ?_
      have e2_0 : (rimE rim) = (0 : Int) := by exact rimE_good (by omega) (fun q q0 q1 => h2 q q0 (by omega))
      exact W.ret ⟨.int .i64 0, ResIs.one, hS.bel, (by rw [e2_0])⟩

theorem F19 {rim : ByteArray} {lv : Value} {l : List (Int × Int)} {Fr_lv : List (Option Nat)} {w : World} (s_rim : rim.size ≤ maxLen) (h_lv : V (tSl (tP (tI .i64) (tI .i64))) l lv Fr_lv w) (hG : Laid w) : Calls Tryd.prog 19 #[.string rim, lv] w (Ret w (fun r _ => r = .int .i64 (validE rim l))) := by
  have a_lv := h_lv.any
  have l_lv := h_lv.len63
  have hS := St.start0 w
  refine enterR Tryd.func19 rfl Tryd.ntmps19 Tryd.results19 rfl ?_
  refine W.seq ?_
  refine W.reg ?_
  refine Wx.rd (v := .int .i64 0) (rd_assign rfl) rfl ?_
  refine Wx.nil ?_
  refine W.seq ?_
  refine W.seq ?_
  refine W.reg ?_
  refine Wx.rd (v := .string rim) (rd_move rfl) rfl ?_
  refine Wx.callF (run_callF Tryd.call17 rfl) (F17 (by first | assumption | (simp only [maxLen]; omega) | (simp only [ByteArray.size_extract, ByteArray.size_append, maxLen] at *; omega) | decide)) rfl ?_
  rintro r_1 w_2 hx_3 rfl
  have hS := hS.ext hx_3
  refine Wx.rd (v := .int .i64 (rimE rim)) (rd_assign rfl) rfl ?_
  refine Wx.nil ?_
  refine W.seq ?_
  refine W.reg ?_
  refine Wx.rd (v := .int .i64 (rimE rim)) (rd_move rfl) rfl ?_
  refine Wx.rd (v := .bool (decide ((rimE rim) ≠ 0))) (rd_neq rfl rfl) rfl ?_
  refine Wx.nil ?_
  refine W.condD rfl (fun c0 => ?_) (fun c0 => ?_)
  · -- yes
    refine W.seq ?_
    refine W.reg ?_
    refine Wx.rd (v := .int .i64 (rimE rim)) (rd_move rfl) rfl ?_
    refine Wx.rd (v := .int .i64 (rimE rim)) (rd_assign rfl) rfl ?_
    refine Wx.nil ?_
    have e0_0 : (validE rim l) = (rimE rim : Int) := by exact if_neg c0
    exact W.ret ⟨.int .i64 (rimE rim), ResIs.one, hS.bel, (by rw [e0_0])⟩
  · -- no
    have hr0 : rimE rim = 0 := by omega
    obtain ⟨hr1, hr2⟩ := rimE_ok hr0
    refine W.skip ?_
    refine W.seq ?_
    refine W.reg ?_
    refine Wx.alloc (cs := [.int .i64 0, .int .i64 0, .int .i64 0, .int .i64 0, .int .i64 0, .int .i64 0, .int .i64 0, .int .i64 0, .int .i64 0, .int .i64 0, .int .i64 0, .int .i64 0]) hS Tryd.zeroValue76 rfl rfl (fun g_4 w_5 hx_7 hb_6 hS => ?_)
    have hS : St _ _ w_5 [.box g_4 76 (List.map (Value.int .i64) (List.replicate 12 0))] := hS
    refine Wx.nil ?_
    refine W.seq ?_
    refine W.reg ?_
    refine Wx.rd (v := .int .i64 (-1)) (rd_assign rfl) rfl ?_
    refine Wx.nil ?_
    refine W.seq ?_
    refine W.seq ?_
    refine W.reg ?_
    refine Wx.rd (v := lv) (rd_move rfl) rfl ?_
    refine Wx.rd (v := .int .i64 (l.length : Int)) (rd_lenV rfl (hS.arg a_lv) Tryd.underlying22) rfl ?_
    refine Wx.rd (v := .int .i64 0) (rd_move rfl) rfl ?_
    refine Wx.nil ?_
    refine W.block ?_
    refine W.loop [4, 7, 9, 10, 11, 12, 20, 21, 22, 23, 24, 25, 26, 27, 28, 29, 30, 31, 32, 33, 34, 35, 36, 37, 38, 39, 40, 41, 42, 43, 44, 45, 46, 47, 48, 49, 50, 51, 52, 53, 54, 55, 56, 57, 58, 59, 60, 61, 62, 63, 64, 65, 66, 67, 68, 69, 70, 71, 72, 73, 74, 75, 76, 77, 78, 79, 80, 81, 82, 83, 84, 85, 86, 87, 88, 89, 90, 91, 92, 93, 94, 95, 96, 97, 98, 99, 100, 101] (fun x : Int × Int × (List Int) => match x with | (last, k, tb) => [(7, .int .i64 last), (20, .int .i64 k)]) (fun (x : Int × Int × (List Int)) w' => match x with | (last, k, tb) => St w [] w' [.box g_4 76 (List.map (Value.int .i64) tb)] ∧ 0 ≤ k ∧ k ≤ l.length ∧ validT rim (l.take k.toNat) (l.drop k.toNat) = validT rim [] l ∧ ToOK (l.take k.toNat) tb ∧ last = lastI (l.take k.toNat)) (fun x : Int × Int × (List Int) => match x with | (last, k, tb) => (l.length - k).toNat) (-1, 0, List.replicate 12 0) ⟨rfl, rfl, trivial⟩ ⟨hS, (by first | omega | simp), (by first | omega | simp), (by simp), (ToOK.nil), (rfl)⟩ ?_
    rintro ⟨last, k, tb⟩ u_9 w_8 ⟨hS, h0, h1, h2, h3, h4⟩
    have hl12 := h3.len
    refine W.seq ?_
    refine W.reg ?_
    refine Wx.rd (v := .bool (decide (k < (l.length : Int)))) (rd_lss rfl rfl) rfl ?_
    refine Wx.nil ?_
    refine W.seq ?_
    refine W.condD rfl (fun c1 => ?_) (fun c1 => ?_)
    · -- yes
      refine W.skip ?_
      refine W.seq ?_
      refine W.block ?_
      refine W.seq ?_
      refine W.reg ?_
      refine Wx.ex (rd_index (0, 0) (hS.arg a_lv) rfl rfl Tryd.underlying22 Tryd.sizeOf58 (by first | omega | (simp only [List.length_set, List.length_append, List.length_cons, List.length_nil, List.length_replicate]; omega)) (by first | omega | (simp only [List.length_set, List.length_append, List.length_cons, List.length_nil, List.length_replicate]; omega))) rfl (fun p_10 hp_11 => ?_)
      refine Wx.ex (rd_load hp_11 rfl Tryd.isAgg58 Tryd.sizeOf58) rfl (fun v_12 hv_13 => ?_)
      obtain ⟨rfl, bd_14, bd_15⟩ := hv_13.i2
      have bd_14 := bd_i64 bd_14
      have bd_15 := bd_i64 bd_15
      refine Wx.alloc (cs := [.int .i64 0, .int .i64 0]) hS Tryd.zeroValue58 rfl rfl (fun g_16 w_17 hx_19 hb_18 hS => ?_)
      refine Wx.storeX (cs' := [.int .i64 ((ix (0, 0) l k).1), .int .i64 ((ix (0, 0) l k).2)]) (ds := [.int .i64 ((ix (0, 0) l k).1), .int .i64 ((ix (0, 0) l k).2)]) hS 0 rfl rfl rfl rfl Tryd.sizeOf58 (Nat.le_of_ble_eq_true rfl) (one_cons rfl (one_cons rfl one_nil)) rfl (fun w_20 hz_21 hS => ?_)
      refine Wx.nil ?_
      refine W.seq ?_
      refine W.regQ mixedHb_ (by kernel_rfl) ?_
      refine Wx.rd (v := .pointer (some ⟨g_16, 0, none⟩)) (rd_indexArr (n := 0) rfl rfl Tryd.underlying58 Tryd.sizeOf3 (by decide) (by decide)) rfl ?_
      refine Wx.rd (v := .int .i64 ((ix (0, 0) l k).1)) (rd_loadX hS 0 rfl rfl rfl Tryd.isAgg3) rfl ?_
      refine Wx.rd (v := .pointer (some ⟨g_16, 1, none⟩)) (rd_indexArr (n := 1) rfl rfl Tryd.underlying58 Tryd.sizeOf3 (by decide) (by decide)) rfl ?_
      refine Wx.rd (v := .int .i64 ((ix (0, 0) l k).2)) (rd_loadX hS 0 rfl rfl rfl Tryd.isAgg3) rfl ?_
      refine Wx.rd (v := .int .i64 ((ix (0, 0) l k).1)) (rd_assign rfl) rfl ?_
      refine Wx.rd (v := .int .i64 ((ix (0, 0) l k).2)) (rd_assign rfl) rfl ?_
      refine Wx.nilQ (fun w_22 hx_23 => ?_)
      have hS := hS.ext hx_23
      refine W.seq ?_
      refine W.block ?_
      refine W.seq ?_
      refine W.reg ?_
      refine Wx.rd (v := .int .i64 ((ix (0, 0) l k).1)) (rd_move rfl) rfl ?_
      refine Wx.rd (v := .int .i64 ((ix (0, 0) l k).2)) (rd_move rfl) rfl ?_
      refine Wx.rd (v := .int .i64 (min ((ix (0, 0) l k).1) ((ix (0, 0) l k).2))) (rd_min rfl rfl) rfl ?_
      refine Wx.rd (v := .bool (decide ((min ((ix (0, 0) l k).1) ((ix (0, 0) l k).2)) < 0))) (rd_lss rfl rfl) rfl ?_
      refine Wx.rd (v := .bool (decide ((min ((ix (0, 0) l k).1) ((ix (0, 0) l k).2)) < 0))) (rd_move rfl) rfl ?_
      refine Wx.cut (X := Unit) 7 [34, 35, 36, 37, 38, 39, 40] (fun _ => [(40, .bool (decide ((min ((ix (0, 0) l k).1) ((ix (0, 0) l k).2)) < 0) || decide ((rim.size : Int) ≤ (max ((ix (0, 0) l k).1) ((ix (0, 0) l k).2)))))]) (fun _ w' => St w [] w' [.box g_16 58 [.int .i64 ((ix (0, 0) l k).1), .int .i64 ((ix (0, 0) l k).2)], .box g_4 76 (List.map (Value.int .i64) tb)]) ?_ ?_
      · rcases Bool.eq_false_or_eq_true (decide ((min ((ix (0, 0) l k).1) ((ix (0, 0) l k).2)) < 0)) with g_24 | g_24
        · -- True
          have gp_25 := of_decide_eq_true g_24
          refine Wx.gnoB rfl rfl (congrArg Value.bool g_24) rfl rfl ?_
          refine Wx.gnoB rfl rfl (congrArg Value.bool g_24) rfl rfl ?_
          refine Wx.gnoB rfl rfl (congrArg Value.bool g_24) rfl rfl ?_
          refine Wx.gnoB rfl rfl (congrArg Value.bool g_24) rfl rfl ?_
          refine Wx.gnoB rfl rfl (congrArg Value.bool g_24) rfl rfl ?_
          refine Wx.gnoB rfl rfl (congrArg Value.bool g_24) rfl rfl ?_
          refine Wx.rd (v := .bool true) (rd_pickT (congrArg Value.bool g_24) rfl) rfl ?_
          refine Wx.nil ⟨(), hS, ⟨?_, trivial⟩, Out.look rfl Out.refl⟩
          show Value.bool true = Value.bool (decide ((min ((ix (0, 0) l k).1) ((ix (0, 0) l k).2)) < 0) || decide ((rim.size : Int) ≤ (max ((ix (0, 0) l k).1) ((ix (0, 0) l k).2))))
          rw [g_24]; rfl
        · -- False
          have gp_26 := of_decide_eq_false g_24
          refine Wx.gyes rfl rfl (congrArg Value.bool g_24) ?_
          refine Wx.rd (v := .int .i64 ((ix (0, 0) l k).1)) (rd_move rfl) rfl ?_
          refine Wx.gyes rfl rfl (congrArg Value.bool g_24) ?_
          refine Wx.rd (v := .int .i64 ((ix (0, 0) l k).2)) (rd_move rfl) rfl ?_
          refine Wx.gyes rfl rfl (congrArg Value.bool g_24) ?_
          refine Wx.rd (v := .int .i64 (max ((ix (0, 0) l k).1) ((ix (0, 0) l k).2))) (rd_max rfl rfl) rfl ?_
          refine Wx.gyes rfl rfl (congrArg Value.bool g_24) ?_
          refine Wx.rd (v := .string rim) (rd_move rfl) rfl ?_
          refine Wx.gyes rfl rfl (congrArg Value.bool g_24) ?_
          refine Wx.rd (v := .int .i64 (rim.size : Int)) (rd_lenS rfl Tryd.underlying9) rfl ?_
          refine Wx.gyes rfl rfl (congrArg Value.bool g_24) ?_
          refine Wx.rd (v := .bool (decide ((rim.size : Int) ≤ (max ((ix (0, 0) l k).1) ((ix (0, 0) l k).2))))) (rd_geq rfl rfl) rfl ?_
          refine Wx.rd (v := .bool (decide ((rim.size : Int) ≤ (max ((ix (0, 0) l k).1) ((ix (0, 0) l k).2))))) (rd_pickF (congrArg Value.bool g_24) rfl) rfl ?_
          refine Wx.nil ⟨(), hS, ⟨?_, trivial⟩, Out.look rfl Out.refl⟩
          show Value.bool (decide ((rim.size : Int) ≤ (max ((ix (0, 0) l k).1) ((ix (0, 0) l k).2)))) = Value.bool (decide ((min ((ix (0, 0) l k).1) ((ix (0, 0) l k).2)) < 0) || decide ((rim.size : Int) ≤ (max ((ix (0, 0) l k).1) ((ix (0, 0) l k).2))))
          rw [g_24]; rfl
      rintro ⟨⟩ u_28 w_27 hS
      refine Wx.rd (v := .bool (decide ((min ((ix (0, 0) l k).1) ((ix (0, 0) l k).2)) < 0) || decide ((rim.size : Int) ≤ (max ((ix (0, 0) l k).1) ((ix (0, 0) l k).2))))) (rd_assign rfl) rfl ?_
      refine Wx.nil ?_
      refine W.cond rfl (fun c2 => ?_) (fun c2 => ?_)
      · -- yes
        try simp only [Bool.and_eq_true, Bool.or_eq_true, Bool.not_eq_true', Bool.and_eq_false_iff, Bool.or_eq_false_iff, Bool.not_eq_false', decide_eq_true_eq, decide_eq_false_iff_not, not_or, Bool.false_eq_true, Bool.true_eq_false, false_or, or_false, not_false_eq_true] at c2
        refine W.seq ?_
        refine W.reg ?_
        refine Wx.rd (v := .int .i64 2) (rd_assign rfl) rfl ?_
        refine Wx.nil ?_
        have e1_0 : (validE rim l) = (2 : Int) := by exact validT_bad h0 c1 h2 (badX_none (by omega)) (by decide) hr0
        exact W.ret ⟨.int .i64 2, ResIs.one, hS.bel, (by rw [e1_0])⟩
      · -- no
        try simp only [Bool.and_eq_true, Bool.or_eq_true, Bool.not_eq_true', Bool.and_eq_false_iff, Bool.or_eq_false_iff, Bool.not_eq_false', decide_eq_true_eq, decide_eq_false_iff_not, not_or, Bool.false_eq_true, Bool.true_eq_false, false_or, or_false, not_false_eq_true] at c2
        refine W.seq ?_
        refine W.reg ?_
        refine Wx.rd (v := .int .i64 ((ix (0, 0) l k).1)) (rd_move rfl) rfl ?_
        refine Wx.rd (v := .int .i64 ((ix (0, 0) l k).2)) (rd_move rfl) rfl ?_
        refine Wx.rd (v := .bool (decide (((ix (0, 0) l k).2) ≤ ((ix (0, 0) l k).1)))) (rd_geq rfl rfl) rfl ?_
        refine Wx.rd (v := .bool (decide (((ix (0, 0) l k).2) ≤ ((ix (0, 0) l k).1)))) (rd_assign rfl) rfl ?_
        refine Wx.nil ?_
        refine W.condD rfl (fun c3 => ?_) (fun c3 => ?_)
        · -- yes
          refine W.seq ?_
          refine W.reg ?_
          refine Wx.rd (v := .int .i64 7) (rd_assign rfl) rfl ?_
          refine Wx.nil ?_
          have e2_0 : (validE rim l) = (7 : Int) := by exact validT_bad h0 c1 h2 (badX_order ⟨by omega, by omega⟩ c3) (by decide) hr0
          exact W.ret ⟨.int .i64 7, ResIs.one, hS.bel, (by rw [e2_0])⟩
        · -- no
          have hx0 : 0 ≤ (ix (0, 0) l k).1 ∧ (ix (0, 0) l k).1 ≤ 11 ∧ 0 ≤ (ix (0, 0) l k).2 ∧ (ix (0, 0) l k).2 ≤ 11 := ⟨by omega, by omega, by omega, by omega⟩
          have hb1 := h3.bd (ix (0, 0) l k).1 (by omega) (by omega)
          have hb2 := h3.bd (ix (0, 0) l k).2 (by omega) (by omega)
          have hu1 := h3.used (q := (ix (0, 0) l k).1) (by omega) (by omega)
          have hu2 := h3.used (q := (ix (0, 0) l k).2) (by omega) (by omega)
          have hv1 := h3.free (q := (ix (0, 0) l k).1) (by omega) (by omega)
          have hv2 := h3.free (q := (ix (0, 0) l k).2) (by omega) (by omega)
          refine W.seq ?_
          refine W.reg ?_
          refine Wx.rd (v := .int .i64 ((ix (0, 0) l k).1)) (rd_move rfl) rfl ?_
          refine Wx.rd (v := .pointer (some ⟨g_4, 0 + ((ix (0, 0) l k).1).toNat * 1, none⟩)) (rd_indexArr rfl rfl Tryd.underlying76 Tryd.sizeOf3 (by omega) (by omega)) rfl ?_
          refine Wx.rd (v := .int .i64 (ix 0 tb ((ix (0, 0) l k).1))) (rd_loadXa (d := 0) (f := (Value.int .i64)) (j := ((ix (0, 0) l k).1)) hS 1 rfl rfl (by omega) (by omega) (by omega) Tryd.isAgg3) rfl ?_
          refine Wx.rd (v := .bool (decide (0 < (ix 0 tb ((ix (0, 0) l k).1))))) (rd_gtr rfl rfl) rfl ?_
          refine Wx.rd (v := .bool (decide (0 < (ix 0 tb ((ix (0, 0) l k).1))))) (rd_move rfl) rfl ?_
          refine Wx.cut (X := Unit) 5 [51, 52, 53, 54, 55] (fun _ => [(55, .bool (decide (0 < (ix 0 tb ((ix (0, 0) l k).1))) || decide (0 < (ix 0 tb ((ix (0, 0) l k).2)))))]) (fun _ w' => St w [] w' [.box g_16 58 [.int .i64 ((ix (0, 0) l k).1), .int .i64 ((ix (0, 0) l k).2)], .box g_4 76 (List.map (Value.int .i64) tb)]) ?_ ?_
          · rcases Bool.eq_false_or_eq_true (decide (0 < (ix 0 tb ((ix (0, 0) l k).1)))) with g_29 | g_29
            · -- True
              have gp_30 := of_decide_eq_true g_29
              refine Wx.gnoB rfl rfl (congrArg Value.bool g_29) rfl rfl ?_
              refine Wx.gnoB rfl rfl (congrArg Value.bool g_29) rfl rfl ?_
              refine Wx.gnoB rfl rfl (congrArg Value.bool g_29) rfl rfl ?_
              refine Wx.gnoB rfl rfl (congrArg Value.bool g_29) rfl rfl ?_
              refine Wx.rd (v := .bool true) (rd_pickT (congrArg Value.bool g_29) rfl) rfl ?_
              refine Wx.nil ⟨(), hS, ⟨?_, trivial⟩, Out.look rfl Out.refl⟩
              show Value.bool true = Value.bool (decide (0 < (ix 0 tb ((ix (0, 0) l k).1))) || decide (0 < (ix 0 tb ((ix (0, 0) l k).2))))
              rw [g_29]; rfl
            · -- False
              have gp_31 := of_decide_eq_false g_29
              refine Wx.gyes rfl rfl (congrArg Value.bool g_29) ?_
              refine Wx.rd (v := .int .i64 ((ix (0, 0) l k).2)) (rd_move rfl) rfl ?_
              refine Wx.gyes rfl rfl (congrArg Value.bool g_29) ?_
              refine Wx.rd (v := .pointer (some ⟨g_4, 0 + ((ix (0, 0) l k).2).toNat * 1, none⟩)) (rd_indexArr rfl rfl Tryd.underlying76 Tryd.sizeOf3 (by omega) (by omega)) rfl ?_
              refine Wx.gyes rfl rfl (congrArg Value.bool g_29) ?_
              refine Wx.rd (v := .int .i64 (ix 0 tb ((ix (0, 0) l k).2))) (rd_loadXa (d := 0) (f := (Value.int .i64)) (j := ((ix (0, 0) l k).2)) hS 1 rfl rfl (by omega) (by omega) (by omega) Tryd.isAgg3) rfl ?_
              refine Wx.gyes rfl rfl (congrArg Value.bool g_29) ?_
              refine Wx.rd (v := .bool (decide (0 < (ix 0 tb ((ix (0, 0) l k).2))))) (rd_gtr rfl rfl) rfl ?_
              refine Wx.rd (v := .bool (decide (0 < (ix 0 tb ((ix (0, 0) l k).2))))) (rd_pickF (congrArg Value.bool g_29) rfl) rfl ?_
              refine Wx.nil ⟨(), hS, ⟨?_, trivial⟩, Out.look rfl Out.refl⟩
              show Value.bool (decide (0 < (ix 0 tb ((ix (0, 0) l k).2)))) = Value.bool (decide (0 < (ix 0 tb ((ix (0, 0) l k).1))) || decide (0 < (ix 0 tb ((ix (0, 0) l k).2))))
              rw [g_29]; rfl
          rintro ⟨⟩ u_33 w_32 hS
          refine Wx.rd (v := .bool (decide (0 < (ix 0 tb ((ix (0, 0) l k).1))) || decide (0 < (ix 0 tb ((ix (0, 0) l k).2))))) (rd_assign rfl) rfl ?_
          refine Wx.nil ?_
          refine W.cond rfl (fun c4 => ?_) (fun c4 => ?_)
          · -- yes
            try simp only [Bool.and_eq_true, Bool.or_eq_true, Bool.not_eq_true', Bool.and_eq_false_iff, Bool.or_eq_false_iff, Bool.not_eq_false', decide_eq_true_eq, decide_eq_false_iff_not, not_or, Bool.false_eq_true, Bool.true_eq_false, false_or, or_false, not_false_eq_true] at c4
            refine W.seq ?_
            refine W.reg ?_
            refine Wx.rd (v := .int .i64 6) (rd_assign rfl) rfl ?_
            refine Wx.nil ?_
            have e3_0 : (validE rim l) = (6 : Int) := by exact validT_bad h0 c1 h2 (badX_twice ⟨by omega, by omega⟩ (by omega) (c4.imp hu1.1 hu2.1)) (by decide) hr0
            exact W.ret ⟨.int .i64 6, ResIs.one, hS.bel, (by rw [e3_0])⟩
          · -- no
            try simp only [Bool.and_eq_true, Bool.or_eq_true, Bool.not_eq_true', Bool.and_eq_false_iff, Bool.or_eq_false_iff, Bool.not_eq_false', decide_eq_true_eq, decide_eq_false_iff_not, not_or, Bool.false_eq_true, Bool.true_eq_false, false_or, or_false, not_false_eq_true] at c4
            refine W.seq ?_
            refine W.reg ?_
            refine Wx.rd (v := .string rim) (rd_move rfl) rfl ?_
            refine Wx.rd (v := .int .i64 ((ix (0, 0) l k).1)) (rd_move rfl) rfl ?_
            refine Wx.rd (v := .int .i64 ((ix (0, 0) l k).2)) (rd_move rfl) rfl ?_
            refine Wx.callF (run_callF Tryd.call61 rfl) (F61 (by first | assumption | (simp only [maxLen]; omega) | (simp only [ByteArray.size_extract, ByteArray.size_append, maxLen] at *; omega) | decide) (in_i64 (by omega) (by omega)) (in_i64 (by omega) (by omega)) (by omega) (by omega) (by omega) (by omega) (by omega) (hG.ext hS.bel)) rfl ?_
            rintro r_34 w_35 hx_36 rfl
            have hS := hS.ext hx_36
            refine Wx.rd (v := .bool (!(fitR rim ((ix (0, 0) l k).1) ((ix (0, 0) l k).2)))) (rd_not rfl) rfl ?_
            refine Wx.rd (v := .bool (!(fitR rim ((ix (0, 0) l k).1) ((ix (0, 0) l k).2)))) (rd_assign rfl) rfl ?_
            refine Wx.nil ?_
            refine W.cond rfl (fun c5 => ?_) (fun c5 => ?_)
            · -- yes
              try simp only [Bool.and_eq_true, Bool.or_eq_true, Bool.not_eq_true', Bool.and_eq_false_iff, Bool.or_eq_false_iff, Bool.not_eq_false', decide_eq_true_eq, decide_eq_false_iff_not, not_or, Bool.false_eq_true, Bool.true_eq_false, false_or, or_false, not_false_eq_true] at c5
              refine W.seq ?_
              refine W.reg ?_
              refine Wx.rd (v := .int .i64 13) (rd_assign rfl) rfl ?_
              refine Wx.nil ?_
              have e4_0 : (validE rim l) = (13 : Int) := by exact validT_bad h0 c1 h2 (badX_clash ⟨by omega, by omega⟩ (by omega) (hv1.2 c4.1) (hv2.2 c4.2) c5) (by decide) hr0
              exact W.ret ⟨.int .i64 13, ResIs.one, hS.bel, (by rw [e4_0])⟩
            · -- no
              try simp only [Bool.and_eq_true, Bool.or_eq_true, Bool.not_eq_true', Bool.and_eq_false_iff, Bool.or_eq_false_iff, Bool.not_eq_false', decide_eq_true_eq, decide_eq_false_iff_not, not_or, Bool.false_eq_true, Bool.true_eq_false, false_or, or_false, not_false_eq_true] at c5
              refine W.skip ?_
              refine W.seq ?_
              refine W.seq ?_
              refine W.reg ?_
              refine Wx.rd (v := .int .i64 ((ix (0, 0) l k).1)) (rd_move rfl) rfl ?_
              refine Wx.rd (v := .int .i64 (((ix (0, 0) l k).1) + 1)) (rd_add rfl rfl (in_i64 (by omega) (by omega))) rfl ?_
              refine Wx.rd (v := .int .i64 (((ix (0, 0) l k).1) + 1)) (rd_assign rfl) rfl ?_
              refine Wx.nil ?_
              refine W.block ?_
              refine W.loop [4, 12, 64, 65, 66, 67, 68, 69, 70, 71, 72, 73, 74, 75, 76, 77, 78, 79, 80, 81, 82, 83, 84, 85, 86, 87, 88] (fun (q : Int) => [(12, .int .i64 q)]) (fun (q : Int) w' => St w [] w' [.box g_16 58 [.int .i64 ((ix (0, 0) l k).1), .int .i64 ((ix (0, 0) l k).2)], .box g_4 76 (List.map (Value.int .i64) tb)] ∧ (ix (0, 0) l k).1 < q ∧ q ≤ (ix (0, 0) l k).2 ∧ (∀ r, (ix (0, 0) l k).1 < r → r < q → ¬ badQ tb (ix (0, 0) l k).1 (ix (0, 0) l k).2 r)) (fun (q : Int) => ((ix (0, 0) l k).2 - q).toNat) (((ix (0, 0) l k).1) + 1) ⟨rfl, trivial⟩ ⟨hS, (by first | omega | simp), (by first | omega | simp), (fun r r1 r2 => by omega)⟩ ?_
              rintro q u_38 w_37 ⟨hS, g0, g1, g2⟩
              refine W.seq ?_
              refine W.seq ?_
              refine W.reg ?_
              refine Wx.rd (v := .int .i64 q) (rd_move rfl) rfl ?_
              refine Wx.rd (v := .int .i64 ((ix (0, 0) l k).2)) (rd_move rfl) rfl ?_
              refine Wx.rd (v := .bool (decide (q < ((ix (0, 0) l k).2)))) (rd_lss rfl rfl) rfl ?_
              refine Wx.nil ?_
              refine W.condD rfl (fun c6 => ?_) (fun c6 => ?_)
              · -- yes
                have hbq := h3.bd q (by omega) (by omega)
                refine W.skip ?_
                refine W.seq ?_
                refine W.block ?_
                refine W.seq ?_
                refine W.reg ?_
                refine Wx.rd (v := .int .i64 q) (rd_move rfl) rfl ?_
                refine Wx.rd (v := .pointer (some ⟨g_4, 0 + q.toNat * 1, none⟩)) (rd_indexArr rfl rfl Tryd.underlying76 Tryd.sizeOf3 (by omega) (by omega)) rfl ?_
                refine Wx.rd (v := .int .i64 (ix 0 tb q)) (rd_loadXa (d := 0) (f := (Value.int .i64)) (j := q) hS 1 rfl rfl (by omega) (by omega) (by omega) Tryd.isAgg3) rfl ?_
                refine Wx.rd (v := .bool (decide (0 < (ix 0 tb q)))) (rd_gtr rfl rfl) rfl ?_
                refine Wx.rd (v := .bool (decide (0 < (ix 0 tb q)))) (rd_move rfl) rfl ?_
                refine Wx.cut (X := Unit) 15 [74, 75, 76, 77, 78, 79, 80, 81, 82, 83, 84, 85, 86, 87, 88] (fun _ => [(88, .bool (decide (0 < (ix 0 tb q)) && (decide (((ix 0 tb q) - 1) < ((ix (0, 0) l k).1)) || decide (((ix (0, 0) l k).2) < ((ix 0 tb q) - 1)))))]) (fun _ w' => St w [] w' [.box g_16 58 [.int .i64 ((ix (0, 0) l k).1), .int .i64 ((ix (0, 0) l k).2)], .box g_4 76 (List.map (Value.int .i64) tb)]) ?_ ?_
                · rcases Bool.eq_false_or_eq_true (decide (0 < (ix 0 tb q))) with g_39 | g_39
                  · -- True
                    have gp_40 := of_decide_eq_true g_39
                    refine Wx.gyes rfl rfl (congrArg Value.bool g_39) ?_
                    refine Wx.rd (v := .int .i64 q) (rd_move rfl) rfl ?_
                    refine Wx.gyes rfl rfl (congrArg Value.bool g_39) ?_
                    refine Wx.rd (v := .pointer (some ⟨g_4, 0 + q.toNat * 1, none⟩)) (rd_indexArr rfl rfl Tryd.underlying76 Tryd.sizeOf3 (by omega) (by omega)) rfl ?_
                    refine Wx.gyes rfl rfl (congrArg Value.bool g_39) ?_
                    refine Wx.rd (v := .int .i64 (ix 0 tb q)) (rd_loadXa (d := 0) (f := (Value.int .i64)) (j := q) hS 1 rfl rfl (by omega) (by omega) (by omega) Tryd.isAgg3) rfl ?_
                    refine Wx.gyes rfl rfl (congrArg Value.bool g_39) ?_
                    refine Wx.rd (v := .int .i64 ((ix 0 tb q) - 1)) (rd_sub rfl rfl (in_i64 (by omega) (by omega))) rfl ?_
                    refine Wx.gyes rfl rfl (congrArg Value.bool g_39) ?_
                    refine Wx.rd (v := .int .i64 ((ix (0, 0) l k).1)) (rd_move rfl) rfl ?_
                    refine Wx.gyes rfl rfl (congrArg Value.bool g_39) ?_
                    refine Wx.rd (v := .bool (decide (((ix 0 tb q) - 1) < ((ix (0, 0) l k).1)))) (rd_lss rfl rfl) rfl ?_
                    refine Wx.gyes rfl rfl (congrArg Value.bool g_39) ?_
                    refine Wx.rd (v := .bool (decide (((ix 0 tb q) - 1) < ((ix (0, 0) l k).1)))) (rd_move rfl) rfl ?_
                    refine Wx.cut (X := Unit) 7 [81, 82, 83, 84, 85, 86, 87] (fun _ => [(87, .bool (decide (((ix 0 tb q) - 1) < ((ix (0, 0) l k).1)) || decide (((ix (0, 0) l k).2) < ((ix 0 tb q) - 1))))]) (fun _ w' => St w [] w' [.box g_16 58 [.int .i64 ((ix (0, 0) l k).1), .int .i64 ((ix (0, 0) l k).2)], .box g_4 76 (List.map (Value.int .i64) tb)]) ?_ ?_
                    · rcases Bool.eq_false_or_eq_true (decide (((ix 0 tb q) - 1) < ((ix (0, 0) l k).1))) with g_41 | g_41
                      · -- True
                        have gp_42 := of_decide_eq_true g_41
                        refine Wx.gnoB rfl rfl (congrArg Value.bool g_41) rfl rfl ?_
                        refine Wx.gnoB rfl rfl (congrArg Value.bool g_41) rfl rfl ?_
                        refine Wx.gnoB rfl rfl (congrArg Value.bool g_41) rfl rfl ?_
                        refine Wx.gnoB rfl rfl (congrArg Value.bool g_41) rfl rfl ?_
                        refine Wx.gnoB rfl rfl (congrArg Value.bool g_41) rfl rfl ?_
                        refine Wx.gnoB rfl rfl (congrArg Value.bool g_41) rfl rfl ?_
                        refine Wx.gyes rfl rfl (congrArg Value.bool g_39) ?_
                        refine Wx.rd (v := .bool true) (rd_pickT (congrArg Value.bool g_41) rfl) rfl ?_
                        refine Wx.nil ⟨(), hS, ⟨?_, trivial⟩, Out.look rfl Out.refl⟩
                        show Value.bool true = Value.bool (decide (((ix 0 tb q) - 1) < ((ix (0, 0) l k).1)) || decide (((ix (0, 0) l k).2) < ((ix 0 tb q) - 1)))
                        rw [g_41]; rfl
                      · -- False
                        have gp_43 := of_decide_eq_false g_41
                        refine Wx.gyes rfl rfl (congrArg Value.bool g_41) ?_
                        refine Wx.rd (v := .int .i64 q) (rd_move rfl) rfl ?_
                        refine Wx.gyes rfl rfl (congrArg Value.bool g_41) ?_
                        refine Wx.rd (v := .pointer (some ⟨g_4, 0 + q.toNat * 1, none⟩)) (rd_indexArr rfl rfl Tryd.underlying76 Tryd.sizeOf3 (by omega) (by omega)) rfl ?_
                        refine Wx.gyes rfl rfl (congrArg Value.bool g_41) ?_
                        refine Wx.rd (v := .int .i64 (ix 0 tb q)) (rd_loadXa (d := 0) (f := (Value.int .i64)) (j := q) hS 1 rfl rfl (by omega) (by omega) (by omega) Tryd.isAgg3) rfl ?_
                        refine Wx.gyes rfl rfl (congrArg Value.bool g_41) ?_
                        refine Wx.rd (v := .int .i64 ((ix 0 tb q) - 1)) (rd_sub rfl rfl (in_i64 (by omega) (by omega))) rfl ?_
                        refine Wx.gyes rfl rfl (congrArg Value.bool g_41) ?_
                        refine Wx.rd (v := .int .i64 ((ix (0, 0) l k).2)) (rd_move rfl) rfl ?_
                        refine Wx.gyes rfl rfl (congrArg Value.bool g_41) ?_
                        refine Wx.rd (v := .bool (decide (((ix (0, 0) l k).2) < ((ix 0 tb q) - 1)))) (rd_gtr rfl rfl) rfl ?_
                        refine Wx.gyes rfl rfl (congrArg Value.bool g_39) ?_
                        refine Wx.rd (v := .bool (decide (((ix (0, 0) l k).2) < ((ix 0 tb q) - 1)))) (rd_pickF (congrArg Value.bool g_41) rfl) rfl ?_
                        refine Wx.nil ⟨(), hS, ⟨?_, trivial⟩, Out.look rfl Out.refl⟩
                        show Value.bool (decide (((ix (0, 0) l k).2) < ((ix 0 tb q) - 1))) = Value.bool (decide (((ix 0 tb q) - 1) < ((ix (0, 0) l k).1)) || decide (((ix (0, 0) l k).2) < ((ix 0 tb q) - 1)))
                        rw [g_41]; rfl
                    rintro ⟨⟩ u_45 w_44 hS
                    refine Wx.rd (v := .bool (decide (((ix 0 tb q) - 1) < ((ix (0, 0) l k).1)) || decide (((ix (0, 0) l k).2) < ((ix 0 tb q) - 1)))) (rd_pickT (congrArg Value.bool g_39) rfl) rfl ?_
                    refine Wx.nil ⟨(), hS, ⟨?_, trivial⟩, Out.look rfl (Out.hav rfl (Out.look rfl Out.refl))⟩
                    show Value.bool (decide (((ix 0 tb q) - 1) < ((ix (0, 0) l k).1)) || decide (((ix (0, 0) l k).2) < ((ix 0 tb q) - 1))) = Value.bool (decide (0 < (ix 0 tb q)) && (decide (((ix 0 tb q) - 1) < ((ix (0, 0) l k).1)) || decide (((ix (0, 0) l k).2) < ((ix 0 tb q) - 1))))
                    rw [g_39]; rfl
                  · -- False
                    have gp_46 := of_decide_eq_false g_39
                    refine Wx.gnoB rfl rfl (congrArg Value.bool g_39) rfl rfl ?_
                    refine Wx.gnoB rfl rfl (congrArg Value.bool g_39) rfl rfl ?_
                    refine Wx.gnoB rfl rfl (congrArg Value.bool g_39) rfl rfl ?_
                    refine Wx.gnoB rfl rfl (congrArg Value.bool g_39) rfl rfl ?_
                    refine Wx.gnoB rfl rfl (congrArg Value.bool g_39) rfl rfl ?_
                    refine Wx.gnoB rfl rfl (congrArg Value.bool g_39) rfl rfl ?_
                    refine Wx.gnoB rfl rfl (congrArg Value.bool g_39) rfl rfl ?_
                    refine Wx.gno rfl rfl rfl rfl ?_
                    refine Wx.gno rfl rfl rfl rfl ?_
                    refine Wx.gno rfl rfl rfl rfl ?_
                    refine Wx.gno rfl rfl rfl rfl ?_
                    refine Wx.gno rfl rfl rfl rfl ?_
                    refine Wx.gno rfl rfl rfl rfl ?_
                    refine Wx.gnoB rfl rfl (congrArg Value.bool g_39) rfl rfl ?_
                    refine Wx.rd (v := .bool false) (rd_pickF (congrArg Value.bool g_39) rfl) rfl ?_
                    refine Wx.nil ⟨(), hS, ⟨?_, trivial⟩, Out.look rfl Out.refl⟩
                    show Value.bool false = Value.bool (decide (0 < (ix 0 tb q)) && (decide (((ix 0 tb q) - 1) < ((ix (0, 0) l k).1)) || decide (((ix (0, 0) l k).2) < ((ix 0 tb q) - 1))))
                    rw [g_39]; rfl
                rintro ⟨⟩ u_48 w_47 hS
                refine Wx.nil ?_
                refine W.cond rfl (fun c7 => ?_) (fun c7 => ?_)
                · -- yes
                  try simp only [Bool.and_eq_true, Bool.or_eq_true, Bool.not_eq_true', Bool.and_eq_false_iff, Bool.or_eq_false_iff, Bool.not_eq_false', decide_eq_true_eq, decide_eq_false_iff_not, not_or, Bool.false_eq_true, Bool.true_eq_false, false_or, or_false, not_false_eq_true] at c7
                  refine W.seq ?_
                  refine W.reg ?_
                  refine Wx.rd (v := .int .i64 5) (rd_assign rfl) rfl ?_
                  refine Wx.nil ?_
                  have e5_0 : (validE rim l) = (5 : Int) := by exact validT_bad h0 c1 h2 (badX_shape ⟨by omega, by omega⟩ (by omega) (hv1.2 c4.1) (hv2.2 c4.2) c5 (h3.cross (i := (ix (0, 0) l k).1) (j := (ix (0, 0) l k).2) (by omega) (by omega) c6 (by omega) c7)) (by decide) hr0
                  exact W.ret ⟨.int .i64 5, ResIs.one, hS.bel, (by rw [e5_0])⟩
                · -- no
                  try simp only [Bool.and_eq_true, Bool.or_eq_true, Bool.not_eq_true', Bool.and_eq_false_iff, Bool.or_eq_false_iff, Bool.not_eq_false', decide_eq_true_eq, decide_eq_false_iff_not, not_or, Bool.false_eq_true, Bool.true_eq_false, false_or, or_false, not_false_eq_true] at c7
                  refine W.skip ?_
                  refine W.reg ?_
                  refine Wx.rd (v := .int .i64 q) (rd_move rfl) rfl ?_
                  refine Wx.rd (v := .int .i64 (q + 1)) (rd_add rfl rfl (in_i64 (by omega) (by omega))) rfl ?_
                  refine Wx.rd (v := .int .i64 (q + 1)) (rd_assign rfl) rfl ?_
                  refine Wx.nil ?_
                  refine ⟨q + 1, (by show ((ix (0, 0) l k).2 - (q + 1)).toNat < ((ix (0, 0) l k).2 - q).toNat; omega), ?_, ?_, Out.look rfl (Out.hav rfl (Out.look rfl Out.self))⟩
                  · exact ⟨hS, (by first | omega | assumption), (by first | omega | assumption), (fun r r1 r2 => by by_cases hq : r = q; (subst hq; exact fun hb => by have := hb.1; have := hb.2; omega); exact g2 r r1 (by omega))⟩
                  · exact ⟨rfl, trivial⟩
              · -- no
                have hap := h3.apart (i := (ix (0, 0) l k).1) (j := (ix (0, 0) l k).2) (by omega) (by omega) (by omega) (hv1.2 c4.1) (hv2.2 c4.2) (fun r r1 r2 => g2 r r1 (by omega))
                refine W.exit rfl ?_
                refine W.seq ?_
                refine W.seq ?_
                refine W.reg ?_
                refine Wx.rd (v := .int .i64 ((ix (0, 0) l k).1)) (rd_move rfl) rfl ?_
                refine Wx.rd (v := .int .i64 last) (rd_move rfl) rfl ?_
                refine Wx.rd (v := .bool (decide (((ix (0, 0) l k).1) < last))) (rd_lss rfl rfl) rfl ?_
                refine Wx.nil ?_
                refine W.condD rfl (fun c8 => ?_) (fun c8 => ?_)
                · -- yes
                  refine W.seq ?_
                  refine W.reg ?_
                  refine Wx.rd (v := .int .i64 7) (rd_assign rfl) rfl ?_
                  refine Wx.nil ?_
                  have e6_0 : (validE rim l) = (7 : Int) := by exact validT_bad h0 c1 h2 (badX_late ⟨by omega, by omega⟩ (by omega) (hv1.2 c4.1) (hv2.2 c4.2) c5 hap (by omega)) (by decide) hr0
                  exact W.ret ⟨.int .i64 7, ResIs.one, hS.bel, (by rw [e6_0])⟩
                · -- no
                  refine W.skip ?_
                  refine W.reg ?_
                  refine Wx.rd (v := .int .i64 ((ix (0, 0) l k).1)) (rd_move rfl) rfl ?_
                  refine Wx.rd (v := .int .i64 ((ix (0, 0) l k).2)) (rd_move rfl) rfl ?_
                  refine Wx.rd (v := .int .i64 ((ix (0, 0) l k).2)) (rd_move rfl) rfl ?_
                  refine Wx.rd (v := .int .i64 (((ix (0, 0) l k).2) + 1)) (rd_add rfl rfl (in_i64 (by omega) (by omega))) rfl ?_
                  refine Wx.rd (v := .int .i64 ((ix (0, 0) l k).1)) (rd_move rfl) rfl ?_
                  refine Wx.rd (v := .int .i64 (((ix (0, 0) l k).1) + 1)) (rd_add rfl rfl (in_i64 (by omega) (by omega))) rfl ?_
                  refine Wx.rd (v := .int .i64 ((ix (0, 0) l k).1)) (rd_move rfl) rfl ?_
                  refine Wx.rd (v := .pointer (some ⟨g_4, 0 + ((ix (0, 0) l k).1).toNat * 1, none⟩)) (rd_indexArr rfl rfl Tryd.underlying76 Tryd.sizeOf3 (by omega) (by omega)) rfl ?_
                  refine Wx.storeXa (j := ((ix (0, 0) l k).1)) (f := (Value.int .i64)) (u := (((ix (0, 0) l k).2) + 1)) hS 1 rfl rfl (by omega) rfl rfl rfl Tryd.sizeOf3 (by omega) (by omega) (fun w_49 hz_50 hS => ?_)
                  refine Wx.rd (v := .pointer (some ⟨g_4, 0 + ((ix (0, 0) l k).2).toNat * 1, none⟩)) (rd_indexArr rfl rfl Tryd.underlying76 Tryd.sizeOf3 (by omega) (by omega)) rfl ?_
                  refine Wx.storeXa (j := ((ix (0, 0) l k).2)) (f := (Value.int .i64)) (u := (((ix (0, 0) l k).1) + 1)) hS 1 rfl rfl (by omega) rfl rfl rfl Tryd.sizeOf3 (by omega) (by rw [List.length_set]; omega) (fun w_51 hz_52 hS => ?_)
                  refine Wx.rd (v := .int .i64 ((ix (0, 0) l k).1)) (rd_assign rfl) rfl ?_
                  refine Wx.nil ?_
                  refine W.reg ?_
                  refine Wx.rd (v := .int .i64 (k + 1)) (rd_add rfl rfl (in_i64 (by omega) (by omega))) rfl ?_
                  refine Wx.rd (v := .int .i64 (k + 1)) (rd_move rfl) rfl ?_
                  refine Wx.nil ?_
                  refine ⟨((ix (0, 0) l k).1, k + 1, List.set (List.set tb ((ix (0, 0) l k).1).toNat (((ix (0, 0) l k).2) + 1)) ((ix (0, 0) l k).2).toNat (((ix (0, 0) l k).1) + 1)), (by show (l.length - (k + 1)).toNat < (l.length - k).toNat; omega), ?_, ?_, Out.look rfl (Out.hav rfl (Out.look rfl (Out.hav rfl (Out.look rfl (Out.hav rfl (Out.look rfl Out.self))))))⟩
                  · exact ⟨hS.tl, (by first | omega | assumption), (by first | omega | assumption), (validT_good h0 c1 h2 (badX_good ⟨by omega, by omega⟩ (by omega) (hv1.2 c4.1) (hv2.2 c4.2) c5 hap (by omega))), (by rw [take_ix (d := (0, 0)) h0 c1]; exact h3.push (i := (ix (0, 0) l k).1) (j := (ix (0, 0) l k).2) (by omega) (by omega) (by omega) (hv1.2 c4.1) (hv2.2 c4.2)), ((lastI_next h0 c1).symm)⟩
                  · exact ⟨rfl, rfl, trivial⟩
    · -- no
      refine W.exit rfl ?_
      refine W.seq ?_
      refine W.reg ?_
      refine Wx.rd (v := .int .i64 0) (rd_assign rfl) rfl ?_
      refine Wx.nil ?_
      have e7_0 : (validE rim l) = (0 : Int) := by exact validT_end (by omega) h2 hr0
      exact W.ret ⟨.int .i64 0, ResIs.one, hS.bel, (by rw [e7_0])⟩
end Go.Proofs.YtokdjjebnomciaaDoor

namespace Go.Proofs.YtokdjjebnomciaaDoor
open Go.Wk Go.RowKit Go.Lib
set_option linter.unusedVariables false
set_option linter.unusedSimpArgs false
end Go.Proofs.YtokdjjebnomciaaDoor

namespace Go.Proofs.YtokdjjebnomciaaDoor
open Go.Wk Go.RowKit Go.Lib
set_option linter.unusedVariables false
set_option linter.unusedSimpArgs false
theorem elHf_22 : ElemI Tryd.prog 22 58 (.agg #[.int .i64 0, .int .i64 0]) 2 16 := ElemI.of Tryd.underlying22 (by kernel_rfl) (by first | rfl | kernel_rfl) (by decide)
theorem elHf_60 : ElemI Tryd.prog 60 3 (.int .i64 0) 1 8 := ElemI.of Tryd.underlying60 (by kernel_rfl) (by first | rfl | kernel_rfl) (by decide)
theorem F73b {rim : ByteArray} {O : List (Option Nat)} {w : World} (s_rim : rim.size ≤ maxLen) (p_12 : (rim.size : Int) ≤ 12) (p_l : Lets rim) (hO : ∀ b, some b ∈ O → b < w.heap.size) (hG : Laid w) : Calls Tryd.prog 73 #[.string rim] w (Ret w (fun r w' => ∃ sv lv, r = .tuple #[sv, lv] ∧ V (tSl (tP (tI .i64) (tI .i64))) ((takS rim).1) sv O w' ∧ Fresh (tI .i64) 3 ((takS rim).2) lv w.heap.size w')) := by
  have hS := St.start w O hO
  refine enterR Tryd.func73 rfl Tryd.ntmps73 Tryd.results73 rfl ?_
  refine W.seq ?_
  refine W.reg ?_
  refine Wx.rd (v := (.slice none 0 0)) (rd_assign rfl) rfl ?_
  refine Wx.rd (v := (.slice none 0 0)) (rd_assign rfl) rfl ?_
  refine Wx.nil ?_
  refine W.seq ?_
  refine W.seq ?_
  refine W.reg ?_
  refine Wx.rd (v := .string rim) (rd_move rfl) rfl ?_
  refine Wx.rangeS (s := rim) hS rfl Tryd.underlying9 rfl (fun g_1 w_2 hx_3 hS => ?_)
  refine Wx.nil ?_
  refine W.block ?_
  have hS := hS.addNil (tP (tI .i64) (tI .i64)) 58
  have hS := hS.addNil (tI .i64) 3
  refine W.loop [2, 3, 4, 5, 8, 9, 10, 11, 12, 13, 14, 15, 16, 17, 18, 19, 20, 21, 22, 23, 24, 25, 26, 27, 28, 29, 30, 31, 32, 33, 34, 35, 36, 37, 38, 39, 40, 41, 42] (fun x : Value × (List (Int × Int)) × Value × (List Int) × Nat => match x with | (tv, st, lw, lf, p) => [(2, tv), (3, lw)]) (fun (x : Value × (List (Int × Int)) × Value × (List Int) × Nat) w' => match x with | (tv, st, lw, lf, p) => St w O w' [.row (tI .i64) 3 lw lf, .row (tP (tI .i64) (tI .i64)) 58 tv st, .raw g_1 (.stringIter rim p)] ∧ p ≤ rim.size ∧ runS rim (st, lf) (rng p rim.size) = takS rim ∧ (∀ x ∈ lf, 0 ≤ x ∧ x < p) ∧ 2 * (st.length : Int) + lf.length = p) (fun x : Value × (List (Int × Int)) × Value × (List Int) × Nat => match x with | (tv, st, lw, lf, p) => rim.size - p) ((.slice none 0 0), [], (.slice none 0 0), [], 0) ⟨rfl, rfl, trivial⟩ ⟨hS, (Nat.zero_le _), (rfl), (by simp), (rfl)⟩ ?_
  rintro ⟨tv, st, lw, lf, p⟩ u_5 w_4 ⟨hS, h1, h2, h3, h4⟩
  refine W.seq ?_
  refine W.reg ?_
  refine Wx.nextS hS 2 rfl rfl rfl (fun hn w_6 hz_7 hS => ?_) (fun hn => ?_)
  · -- a rune
    have hS : St _ _ w_6 [.row (tI .i64) 3 lw lf, .row (tP (tI .i64) (tI .i64)) 58 tv st, .raw g_1 (.stringIter rim (p + (runeW rim (p : Int)).toNat))] := hS
    have hra := (runeAt_ascii (s := rim) (p := (p : Int)) (by omega) (by have := isLet_bd (p_l p (by omega) (by omega)); omega)).2
    refine Wx.rd (v := .bool true) (rd_extract rfl rfl) rfl ?_
    refine Wx.nil ?_
    refine W.seq ?_
    refine W.condT rfl rfl ?_
    refine W.skip ?_
    refine W.block ?_
    refine W.seq ?_
    refine W.reg ?_
    refine Wx.rd (v := .int .i64 (p : Int)) (rd_extract rfl rfl) rfl ?_
    refine Wx.rd (v := .int .i64 (p : Int)) (rd_assign rfl) rfl ?_
    refine Wx.nil ?_
    refine W.seq ?_
    refine W.reg ?_
    refine Wx.rd (v := lw) (rd_move rfl) rfl ?_
    refine Wx.rd (v := .int .i64 (lf.length : Int)) (rd_lenR hS 0 rfl rfl Tryd.underlying60) rfl ?_
    refine Wx.rd (v := .int .i64 (lf.length : Int)) (rd_assign rfl) rfl ?_
    refine Wx.nil ?_
    refine W.seq ?_
    refine W.seq ?_
    refine W.reg ?_
    refine Wx.rd (v := .int .i64 (lf.length : Int)) (rd_move rfl) rfl ?_
    refine Wx.rd (v := .bool (decide (0 < (lf.length : Int)))) (rd_gtr rfl rfl) rfl ?_
    refine Wx.rd (v := .bool (decide (0 < (lf.length : Int)))) (rd_move rfl) rfl ?_
    refine Wx.cut (X := Unit) 9 [16, 17, 18, 19, 20, 21, 22, 23, 24] (fun _ => [(24, .bool (decide (0 < (lf.length : Int)) && fitR rim (ix 0 lf ((lf.length : Int) - 1)) (p : Int)))]) (fun _ w' => St w O w' [.row (tI .i64) 3 lw lf, .row (tP (tI .i64) (tI .i64)) 58 tv st, .raw g_1 (.stringIter rim (p + (runeW rim (p : Int)).toNat))]) ?_ ?_
    · rcases Bool.eq_false_or_eq_true (decide (0 < (lf.length : Int))) with g_9 | g_9
      · -- True
        have gp_10 := of_decide_eq_true g_9
        refine Wx.gyes rfl rfl (congrArg Value.bool g_9) ?_
        refine Wx.rd (v := .string rim) (rd_move rfl) rfl ?_
        refine Wx.gyes rfl rfl (congrArg Value.bool g_9) ?_
        refine Wx.rd (v := lw) (rd_move rfl) rfl ?_
        refine Wx.gyes rfl rfl (congrArg Value.bool g_9) ?_
        refine Wx.rd (v := .int .i64 (lf.length : Int)) (rd_move rfl) rfl ?_
        refine Wx.gyes rfl rfl (congrArg Value.bool g_9) ?_
        refine Wx.rd (v := .int .i64 ((lf.length : Int) - 1)) (rd_sub rfl rfl (in_i64 (by omega) (by omega))) rfl ?_
        refine Wx.gyes rfl rfl (congrArg Value.bool g_9) ?_
        refine Wx.indexR hS 0 rfl rfl rfl Tryd.underlying60 Tryd.sizeOf3 (by first | omega | (simp only [List.length_set, List.length_append, List.length_cons, List.length_nil, List.length_replicate]; omega)) (by first | omega | (simp only [List.length_set, List.length_append, List.length_cons, List.length_nil, List.length_replicate]; omega)) rfl (fun g_11 hg_12 => ?_)
        refine Wx.gyes rfl rfl (congrArg Value.bool g_9) ?_
        refine Wx.rd (v := .int .i64 (ix 0 lf ((lf.length : Int) - 1))) (rd_loadRI' hS 0 rfl hg_12 rfl (by first | omega | (simp only [List.length_set, List.length_append, List.length_cons, List.length_nil, List.length_replicate]; omega)) (by first | omega | (simp only [List.length_set, List.length_append, List.length_cons, List.length_nil, List.length_replicate]; omega)) Tryd.isAgg3 Tryd.sizeOf3) rfl ?_
        have bd_13 := bd_i64 (hS.rowInK' 0 rfl (by first | omega | (simp only [List.length_set, List.length_append, List.length_cons, List.length_nil, List.length_replicate]; omega)) (by first | omega | (simp only [List.length_set, List.length_append, List.length_cons, List.length_nil, List.length_replicate]; omega)) : InK .i64 (ix 0 lf ((lf.length : Int) - 1)))
        refine Wx.gyes rfl rfl (congrArg Value.bool g_9) ?_
        refine Wx.rd (v := .int .i64 (p : Int)) (rd_move rfl) rfl ?_
        refine Wx.gyes rfl rfl (congrArg Value.bool g_9) ?_
        have hlm := h3 (ix 0 lf ((lf.length : Int) - 1)) (ix_mem (by omega) (by omega))
        refine Wx.callF (run_callF Tryd.call61 rfl) (F61 (by first | assumption | (simp only [maxLen]; omega) | (simp only [ByteArray.size_extract, ByteArray.size_append, maxLen] at *; omega) | decide) (in_i64 (by omega) (by omega)) (in_i64 (by omega) (by omega)) (by omega) (by omega) (by omega) (by omega) (by omega) (hG.ext hS.bel)) rfl ?_
        rintro r_14 w_15 hx_16 rfl
        have hS := hS.ext hx_16
        refine Wx.rd (v := .bool (fitR rim (ix 0 lf ((lf.length : Int) - 1)) (p : Int))) (rd_pickT (congrArg Value.bool g_9) rfl) rfl ?_
        refine Wx.nil ⟨(), hS, ⟨?_, trivial⟩, Out.look rfl Out.refl⟩
        show Value.bool (fitR rim (ix 0 lf ((lf.length : Int) - 1)) (p : Int)) = Value.bool (decide (0 < (lf.length : Int)) && fitR rim (ix 0 lf ((lf.length : Int) - 1)) (p : Int))
        rw [g_9]; rfl
      · -- False
        have gp_17 := of_decide_eq_false g_9
        refine Wx.gnoB rfl rfl (congrArg Value.bool g_9) rfl rfl ?_
        refine Wx.gnoB rfl rfl (congrArg Value.bool g_9) rfl rfl ?_
        refine Wx.gnoB rfl rfl (congrArg Value.bool g_9) rfl rfl ?_
        refine Wx.gnoB rfl rfl (congrArg Value.bool g_9) rfl rfl ?_
        refine Wx.gnoB rfl rfl (congrArg Value.bool g_9) rfl rfl ?_
        refine Wx.gnoB rfl rfl (congrArg Value.bool g_9) rfl rfl ?_
        refine Wx.gnoB rfl rfl (congrArg Value.bool g_9) rfl rfl ?_
        refine Wx.gnoB rfl rfl (congrArg Value.bool g_9) rfl rfl ?_
        refine Wx.rd (v := .bool false) (rd_pickF (congrArg Value.bool g_9) rfl) rfl ?_
        refine Wx.nil ⟨(), hS, ⟨?_, trivial⟩, Out.look rfl Out.refl⟩
        show Value.bool false = Value.bool (decide (0 < (lf.length : Int)) && fitR rim (ix 0 lf ((lf.length : Int) - 1)) (p : Int))
        rw [g_9]; rfl
    rintro ⟨⟩ u_19 w_18 hS
    refine Wx.nil ?_
    refine W.cond rfl (fun c1 => ?_) (fun c1 => ?_)
    · -- yes
      try simp only [Bool.and_eq_true, Bool.or_eq_true, Bool.not_eq_true', Bool.and_eq_false_iff, Bool.or_eq_false_iff, Bool.not_eq_false', decide_eq_true_eq, decide_eq_false_iff_not, not_or, Bool.false_eq_true, Bool.true_eq_false, false_or, or_false, not_false_eq_true] at c1
      refine W.seq ?_
      refine W.reg ?_
      refine Wx.rd (v := tv) (rd_move rfl) rfl ?_
      refine Wx.rd (v := lw) (rd_move rfl) rfl ?_
      refine Wx.rd (v := .int .i64 (lf.length : Int)) (rd_move rfl) rfl ?_
      refine Wx.rd (v := .int .i64 ((lf.length : Int) - 1)) (rd_sub rfl rfl (in_i64 (by omega) (by omega))) rfl ?_
      refine Wx.indexR hS 0 rfl rfl rfl Tryd.underlying60 Tryd.sizeOf3 (by first | omega | (simp only [List.length_set, List.length_append, List.length_cons, List.length_nil, List.length_replicate]; omega)) (by first | omega | (simp only [List.length_set, List.length_append, List.length_cons, List.length_nil, List.length_replicate]; omega)) rfl (fun g_20 hg_21 => ?_)
      refine Wx.rd (v := .int .i64 (ix 0 lf ((lf.length : Int) - 1))) (rd_loadRI' hS 0 rfl hg_21 rfl (by first | omega | (simp only [List.length_set, List.length_append, List.length_cons, List.length_nil, List.length_replicate]; omega)) (by first | omega | (simp only [List.length_set, List.length_append, List.length_cons, List.length_nil, List.length_replicate]; omega)) Tryd.isAgg3 Tryd.sizeOf3) rfl ?_
      have bd_22 := bd_i64 (hS.rowInK' 0 rfl (by first | omega | (simp only [List.length_set, List.length_append, List.length_cons, List.length_nil, List.length_replicate]; omega)) (by first | omega | (simp only [List.length_set, List.length_append, List.length_cons, List.length_nil, List.length_replicate]; omega)) : InK .i64 (ix 0 lf ((lf.length : Int) - 1)))
      refine Wx.rd (v := .int .i64 (p : Int)) (rd_move rfl) rfl ?_
      refine Wx.rd (v := .agg #[.int .i64 (ix 0 lf ((lf.length : Int) - 1)), .int .i64 (p : Int)]) (rd_build (vs := [(0, .int .i64 (ix 0 lf ((lf.length : Int) - 1))), (1, .int .i64 (p : Int))]) rfl (by kernel_rfl)) rfl ?_
      refine Wx.lit (t := (tP (tI .i64) (tI .i64))) (ys := [(ix 0 lf ((lf.length : Int) - 1), (p : Int))]) (vs := [.agg #[.int .i64 (ix 0 lf ((lf.length : Int) - 1)), .int .i64 (p : Int)]]) elHf_22 hS rfl rfl ⟨(V.mk2 (in_i64 (by omega) (by omega)) (in_i64 (by omega) (by omega))), trivial⟩ (by decide) rfl (fun v_23 w_24 hx_25 hS => ?_)
      refine Wx.append elHf_22 hS 2 rfl rfl rfl (Src.ofR hS 0 rfl) (by simp only [maxLen]; simp; omega) (by simp; omega) rfl (fun v_26 w_27 hz_28 hS => ?_)
      refine Wx.rd (v := v_26) (rd_assign rfl) rfl ?_
      refine Wx.nil ?_
      refine W.seq ?_
      refine W.reg ?_
      refine Wx.rd (v := lw) (rd_move rfl) rfl ?_
      refine Wx.rd (v := .int .i64 (lf.length : Int)) (rd_move rfl) rfl ?_
      refine Wx.rd (v := .int .i64 ((lf.length : Int) - 1)) (rd_sub rfl rfl (in_i64 (by omega) (by omega))) rfl ?_
      obtain ⟨g_29, c_30, rfl, hc_31⟩ := hS.rowForm 1 rfl (by omega)
      refine Wx.rd (v := (.slice (some ⟨g_29, 0, none⟩) ((lf.length : Int) - 1).toNat c_30)) (rd_headO Tryd.underlying60 Tryd.sizeOf3 rfl rfl (by omega) (by omega)) rfl ?_
      have hS : St _ _ _ [.row (tP (tI .i64) (tI .i64)) 58 v_23 [(ix 0 lf ((lf.length : Int) - 1), (p : Int))], .row (tI .i64) 3 (.slice (some ⟨g_29, 0, none⟩) ((lf.length : Int) - 1).toNat c_30) (List.take ((lf.length : Int) - 1).toNat lf), .row (tP (tI .i64) (tI .i64)) 58 v_26 (st ++ [(ix 0 lf ((lf.length : Int) - 1), (p : Int))]), .raw g_1 (.stringIter rim (p + (runeW rim (p : Int)).toNat))] := hS.shrink (m := ((lf.length : Int) - 1).toNat) 1 rfl (by omega)
      refine Wx.rd (v := (.slice (some ⟨g_29, 0, none⟩) ((lf.length : Int) - 1).toNat c_30)) (rd_assign rfl) rfl ?_
      refine Wx.nil ?_
      refine W.exit rfl ?_
      refine ⟨(v_26, st ++ [(ix 0 lf ((lf.length : Int) - 1), (p : Int))], (.slice (some ⟨g_29, 0, none⟩) ((lf.length : Int) - 1).toNat c_30), List.take ((lf.length : Int) - 1).toNat lf, p + (runeW rim (p : Int)).toNat), (by show rim.size - (p + (runeW rim (p : Int)).toNat) < rim.size - p; omega), ?_, ?_, Out.look rfl (Out.hav rfl (Out.look rfl Out.self))⟩
      · exact ⟨hS.tl, (by omega), (by rw [← h2, rng_cons (i := (p : Int)) (by omega), runS_cons, show ((p + (runeW rim (p : Int)).toNat : Nat) : Int) = (p : Int) + 1 by omega]; first | rw [stepS_yes c1.1 c1.2] | rw [stepS_no c1]), (fun x hx => by first | (have := h3 x (List.mem_of_mem_take hx); omega) | (rcases List.mem_append.1 hx with hx | hx; (have := h3 x hx; omega); (rw [List.mem_singleton] at hx; omega))), (by simp only [List.length_append, List.length_take, List.length_cons, List.length_nil]; omega)⟩
      · exact ⟨rfl, rfl, trivial⟩
    · -- no
      try simp only [Bool.and_eq_true, Bool.or_eq_true, Bool.not_eq_true', Bool.and_eq_false_iff, Bool.or_eq_false_iff, Bool.not_eq_false', decide_eq_true_eq, decide_eq_false_iff_not, not_or, Bool.false_eq_true, Bool.true_eq_false, false_or, or_false, not_false_eq_true] at c1
      refine W.skip ?_
      refine W.reg ?_
      refine Wx.rd (v := lw) (rd_move rfl) rfl ?_
      refine Wx.rd (v := .int .i64 (p : Int)) (rd_move rfl) rfl ?_
      refine Wx.lit (t := (tI .i64)) (ys := [(p : Int)]) (vs := [.int .i64 (p : Int)]) elHf_60 hS rfl rfl ⟨(V.mkInt (in_i64 (by omega) (by omega))), trivial⟩ (by decide) rfl (fun v_32 w_33 hx_34 hS => ?_)
      refine Wx.append elHf_60 hS 1 rfl rfl rfl (Src.ofR hS 0 rfl) (by simp only [maxLen]; simp; omega) (by simp; omega) rfl (fun v_35 w_36 hz_37 hS => ?_)
      refine Wx.rd (v := v_35) (rd_assign rfl) rfl ?_
      refine Wx.nil ?_
      refine ⟨(tv, st, v_35, lf ++ [(p : Int)], p + (runeW rim (p : Int)).toNat), (by show rim.size - (p + (runeW rim (p : Int)).toNat) < rim.size - p; omega), ?_, ?_, Out.look rfl (Out.hav rfl (Out.look rfl Out.self))⟩
      · exact ⟨hS.tl, (by omega), (by rw [← h2, rng_cons (i := (p : Int)) (by omega), runS_cons, show ((p + (runeW rim (p : Int)).toNat : Nat) : Int) = (p : Int) + 1 by omega]; first | rw [stepS_yes c1.1 c1.2] | rw [stepS_no c1]), (fun x hx => by first | (have := h3 x (List.mem_of_mem_take hx); omega) | (rcases List.mem_append.1 hx with hx | hx; (have := h3 x hx; omega); (rw [List.mem_singleton] at hx; omega))), (by simp only [List.length_append, List.length_take, List.length_cons, List.length_nil]; omega)⟩
      · exact ⟨rfl, rfl, trivial⟩
  · -- the end
    refine Wx.rd (v := .bool false) (rd_extract rfl rfl) rfl ?_
    refine Wx.nil ?_
    refine W.seq ?_
    refine W.condF rfl rfl ?_
    refine W.exit rfl ?_
    refine W.seq ?_
    refine W.reg ?_
    refine Wx.rd (v := tv) (rd_move rfl) rfl ?_
    refine Wx.rd (v := lw) (rd_move rfl) rfl ?_
    refine Wx.rd (v := tv) (rd_assign rfl) rfl ?_
    refine Wx.rd (v := lw) (rd_assign rfl) rfl ?_
    refine Wx.nil ?_
    have e0_0 : (takS rim).1 = st := by rw [← h2, rng_nil (by omega)]; rfl
    have e0_1 : (takS rim).2 = lf := by rw [← h2, rng_nil (by omega)]; rfl
    exact W.ret ⟨.tuple #[tv, lw], ResIs.two, hS.bel, ⟨tv, lw, rfl, (by rw [e0_0]; exact ((hS.lend 1 rfl).mv (.less (fun _ h => List.mem_append.2 (.inr h))))), (by rw [e0_1]; exact (hS.fr 0 rfl flat_int))⟩⟩

theorem F73 {rim : ByteArray} {O : List (Option Nat)} {w : World} (s_rim : rim.size ≤ maxLen) (p_12 : (rim.size : Int) ≤ 12) (p_l : Lets rim) (hO : ∀ b, some b ∈ O → b < w.heap.size) (hG : Laid w) : Calls Tryd.prog 73 #[.string rim] w (Ret w (fun r w' => ∃ sv lv, r = .tuple #[sv, lv] ∧ V (tSl (tP (tI .i64) (tI .i64))) ((takS rim).1) sv O w' ∧ V (tSl (tI .i64)) ((takS rim).2) lv O w')) := by
  have hS := St.start w O hO
  refine enterR Tryd.func73 rfl Tryd.ntmps73 Tryd.results73 rfl ?_
  refine W.seq ?_
  refine W.reg ?_
  refine Wx.rd (v := (.slice none 0 0)) (rd_assign rfl) rfl ?_
  refine Wx.rd (v := (.slice none 0 0)) (rd_assign rfl) rfl ?_
  refine Wx.nil ?_
  refine W.seq ?_
  refine W.seq ?_
  refine W.reg ?_
  refine Wx.rd (v := .string rim) (rd_move rfl) rfl ?_
  refine Wx.rangeS (s := rim) hS rfl Tryd.underlying9 rfl (fun g_1 w_2 hx_3 hS => ?_)
  refine Wx.nil ?_
  refine W.block ?_
  have hS := hS.addNil (tP (tI .i64) (tI .i64)) 58
  have hS := hS.addNil (tI .i64) 3
  refine W.loop [2, 3, 4, 5, 8, 9, 10, 11, 12, 13, 14, 15, 16, 17, 18, 19, 20, 21, 22, 23, 24, 25, 26, 27, 28, 29, 30, 31, 32, 33, 34, 35, 36, 37, 38, 39, 40, 41, 42] (fun x : Value × (List (Int × Int)) × Value × (List Int) × Nat => match x with | (tv, st, lw, lf, p) => [(2, tv), (3, lw)]) (fun (x : Value × (List (Int × Int)) × Value × (List Int) × Nat) w' => match x with | (tv, st, lw, lf, p) => St w O w' [.row (tI .i64) 3 lw lf, .row (tP (tI .i64) (tI .i64)) 58 tv st, .raw g_1 (.stringIter rim p)] ∧ p ≤ rim.size ∧ runS rim (st, lf) (rng p rim.size) = takS rim ∧ (∀ x ∈ lf, 0 ≤ x ∧ x < p) ∧ 2 * (st.length : Int) + lf.length = p) (fun x : Value × (List (Int × Int)) × Value × (List Int) × Nat => match x with | (tv, st, lw, lf, p) => rim.size - p) ((.slice none 0 0), [], (.slice none 0 0), [], 0) ⟨rfl, rfl, trivial⟩ ⟨hS, (Nat.zero_le _), (rfl), (by simp), (rfl)⟩ ?_
  rintro ⟨tv, st, lw, lf, p⟩ u_5 w_4 ⟨hS, h1, h2, h3, h4⟩
  refine W.seq ?_
  refine W.reg ?_
  refine Wx.nextS hS 2 rfl rfl rfl (fun hn w_6 hz_7 hS => ?_) (fun hn => ?_)
  · -- a rune
    have hS : St _ _ w_6 [.row (tI .i64) 3 lw lf, .row (tP (tI .i64) (tI .i64)) 58 tv st, .raw g_1 (.stringIter rim (p + (runeW rim (p : Int)).toNat))] := hS
    have hra := (runeAt_ascii (s := rim) (p := (p : Int)) (by omega) (by have := isLet_bd (p_l p (by omega) (by omega)); omega)).2
    refine Wx.rd (v := .bool true) (rd_extract rfl rfl) rfl ?_
    refine Wx.nil ?_
    refine W.seq ?_
    refine W.condT rfl rfl ?_
    refine W.skip ?_
    refine W.block ?_
    refine W.seq ?_
    refine W.reg ?_
    refine Wx.rd (v := .int .i64 (p : Int)) (rd_extract rfl rfl) rfl ?_
    refine Wx.rd (v := .int .i64 (p : Int)) (rd_assign rfl) rfl ?_
    refine Wx.nil ?_
    refine W.seq ?_
    refine W.reg ?_
    refine Wx.rd (v := lw) (rd_move rfl) rfl ?_
    refine Wx.rd (v := .int .i64 (lf.length : Int)) (rd_lenR hS 0 rfl rfl Tryd.underlying60) rfl ?_
    refine Wx.rd (v := .int .i64 (lf.length : Int)) (rd_assign rfl) rfl ?_
    refine Wx.nil ?_
    refine W.seq ?_
    refine W.seq ?_
    refine W.reg ?_
    refine Wx.rd (v := .int .i64 (lf.length : Int)) (rd_move rfl) rfl ?_
    refine Wx.rd (v := .bool (decide (0 < (lf.length : Int)))) (rd_gtr rfl rfl) rfl ?_
    refine Wx.rd (v := .bool (decide (0 < (lf.length : Int)))) (rd_move rfl) rfl ?_
    refine Wx.cut (X := Unit) 9 [16, 17, 18, 19, 20, 21, 22, 23, 24] (fun _ => [(24, .bool (decide (0 < (lf.length : Int)) && fitR rim (ix 0 lf ((lf.length : Int) - 1)) (p : Int)))]) (fun _ w' => St w O w' [.row (tI .i64) 3 lw lf, .row (tP (tI .i64) (tI .i64)) 58 tv st, .raw g_1 (.stringIter rim (p + (runeW rim (p : Int)).toNat))]) ?_ ?_
    · rcases Bool.eq_false_or_eq_true (decide (0 < (lf.length : Int))) with g_9 | g_9
      · -- True
        have gp_10 := of_decide_eq_true g_9
        refine Wx.gyes rfl rfl (congrArg Value.bool g_9) ?_
        refine Wx.rd (v := .string rim) (rd_move rfl) rfl ?_
        refine Wx.gyes rfl rfl (congrArg Value.bool g_9) ?_
        refine Wx.rd (v := lw) (rd_move rfl) rfl ?_
        refine Wx.gyes rfl rfl (congrArg Value.bool g_9) ?_
        refine Wx.rd (v := .int .i64 (lf.length : Int)) (rd_move rfl) rfl ?_
        refine Wx.gyes rfl rfl (congrArg Value.bool g_9) ?_
        refine Wx.rd (v := .int .i64 ((lf.length : Int) - 1)) (rd_sub rfl rfl (in_i64 (by omega) (by omega))) rfl ?_
        refine Wx.gyes rfl rfl (congrArg Value.bool g_9) ?_
        refine Wx.indexR hS 0 rfl rfl rfl Tryd.underlying60 Tryd.sizeOf3 (by first | omega | (simp only [List.length_set, List.length_append, List.length_cons, List.length_nil, List.length_replicate]; omega)) (by first | omega | (simp only [List.length_set, List.length_append, List.length_cons, List.length_nil, List.length_replicate]; omega)) rfl (fun g_11 hg_12 => ?_)
        refine Wx.gyes rfl rfl (congrArg Value.bool g_9) ?_
        refine Wx.rd (v := .int .i64 (ix 0 lf ((lf.length : Int) - 1))) (rd_loadRI' hS 0 rfl hg_12 rfl (by first | omega | (simp only [List.length_set, List.length_append, List.length_cons, List.length_nil, List.length_replicate]; omega)) (by first | omega | (simp only [List.length_set, List.length_append, List.length_cons, List.length_nil, List.length_replicate]; omega)) Tryd.isAgg3 Tryd.sizeOf3) rfl ?_
        have bd_13 := bd_i64 (hS.rowInK' 0 rfl (by first | omega | (simp only [List.length_set, List.length_append, List.length_cons, List.length_nil, List.length_replicate]; omega)) (by first | omega | (simp only [List.length_set, List.length_append, List.length_cons, List.length_nil, List.length_replicate]; omega)) : InK .i64 (ix 0 lf ((lf.length : Int) - 1)))
        refine Wx.gyes rfl rfl (congrArg Value.bool g_9) ?_
        refine Wx.rd (v := .int .i64 (p : Int)) (rd_move rfl) rfl ?_
        refine Wx.gyes rfl rfl (congrArg Value.bool g_9) ?_
        have hlm := h3 (ix 0 lf ((lf.length : Int) - 1)) (ix_mem (by omega) (by omega))
        refine Wx.callF (run_callF Tryd.call61 rfl) (F61 (by first | assumption | (simp only [maxLen]; omega) | (simp only [ByteArray.size_extract, ByteArray.size_append, maxLen] at *; omega) | decide) (in_i64 (by omega) (by omega)) (in_i64 (by omega) (by omega)) (by omega) (by omega) (by omega) (by omega) (by omega) (hG.ext hS.bel)) rfl ?_
        rintro r_14 w_15 hx_16 rfl
        have hS := hS.ext hx_16
        refine Wx.rd (v := .bool (fitR rim (ix 0 lf ((lf.length : Int) - 1)) (p : Int))) (rd_pickT (congrArg Value.bool g_9) rfl) rfl ?_
        refine Wx.nil ⟨(), hS, ⟨?_, trivial⟩, Out.look rfl Out.refl⟩
        show Value.bool (fitR rim (ix 0 lf ((lf.length : Int) - 1)) (p : Int)) = Value.bool (decide (0 < (lf.length : Int)) && fitR rim (ix 0 lf ((lf.length : Int) - 1)) (p : Int))
        rw [g_9]; rfl
      · -- False
        have gp_17 := of_decide_eq_false g_9
        refine Wx.gnoB rfl rfl (congrArg Value.bool g_9) rfl rfl ?_
        refine Wx.gnoB rfl rfl (congrArg Value.bool g_9) rfl rfl ?_
        refine Wx.gnoB rfl rfl (congrArg Value.bool g_9) rfl rfl ?_
        refine Wx.gnoB rfl rfl (congrArg Value.bool g_9) rfl rfl ?_
        refine Wx.gnoB rfl rfl (congrArg Value.bool g_9) rfl rfl ?_
        refine Wx.gnoB rfl rfl (congrArg Value.bool g_9) rfl rfl ?_
        refine Wx.gnoB rfl rfl (congrArg Value.bool g_9) rfl rfl ?_
        refine Wx.gnoB rfl rfl (congrArg Value.bool g_9) rfl rfl ?_
        refine Wx.rd (v := .bool false) (rd_pickF (congrArg Value.bool g_9) rfl) rfl ?_
        refine Wx.nil ⟨(), hS, ⟨?_, trivial⟩, Out.look rfl Out.refl⟩
        show Value.bool false = Value.bool (decide (0 < (lf.length : Int)) && fitR rim (ix 0 lf ((lf.length : Int) - 1)) (p : Int))
        rw [g_9]; rfl
    rintro ⟨⟩ u_19 w_18 hS
    refine Wx.nil ?_
    refine W.cond rfl (fun c1 => ?_) (fun c1 => ?_)
    · -- yes
      try simp only [Bool.and_eq_true, Bool.or_eq_true, Bool.not_eq_true', Bool.and_eq_false_iff, Bool.or_eq_false_iff, Bool.not_eq_false', decide_eq_true_eq, decide_eq_false_iff_not, not_or, Bool.false_eq_true, Bool.true_eq_false, false_or, or_false, not_false_eq_true] at c1
      refine W.seq ?_
      refine W.reg ?_
      refine Wx.rd (v := tv) (rd_move rfl) rfl ?_
      refine Wx.rd (v := lw) (rd_move rfl) rfl ?_
      refine Wx.rd (v := .int .i64 (lf.length : Int)) (rd_move rfl) rfl ?_
      refine Wx.rd (v := .int .i64 ((lf.length : Int) - 1)) (rd_sub rfl rfl (in_i64 (by omega) (by omega))) rfl ?_
      refine Wx.indexR hS 0 rfl rfl rfl Tryd.underlying60 Tryd.sizeOf3 (by first | omega | (simp only [List.length_set, List.length_append, List.length_cons, List.length_nil, List.length_replicate]; omega)) (by first | omega | (simp only [List.length_set, List.length_append, List.length_cons, List.length_nil, List.length_replicate]; omega)) rfl (fun g_20 hg_21 => ?_)
      refine Wx.rd (v := .int .i64 (ix 0 lf ((lf.length : Int) - 1))) (rd_loadRI' hS 0 rfl hg_21 rfl (by first | omega | (simp only [List.length_set, List.length_append, List.length_cons, List.length_nil, List.length_replicate]; omega)) (by first | omega | (simp only [List.length_set, List.length_append, List.length_cons, List.length_nil, List.length_replicate]; omega)) Tryd.isAgg3 Tryd.sizeOf3) rfl ?_
      have bd_22 := bd_i64 (hS.rowInK' 0 rfl (by first | omega | (simp only [List.length_set, List.length_append, List.length_cons, List.length_nil, List.length_replicate]; omega)) (by first | omega | (simp only [List.length_set, List.length_append, List.length_cons, List.length_nil, List.length_replicate]; omega)) : InK .i64 (ix 0 lf ((lf.length : Int) - 1)))
      refine Wx.rd (v := .int .i64 (p : Int)) (rd_move rfl) rfl ?_
      refine Wx.rd (v := .agg #[.int .i64 (ix 0 lf ((lf.length : Int) - 1)), .int .i64 (p : Int)]) (rd_build (vs := [(0, .int .i64 (ix 0 lf ((lf.length : Int) - 1))), (1, .int .i64 (p : Int))]) rfl (by kernel_rfl)) rfl ?_
      refine Wx.lit (t := (tP (tI .i64) (tI .i64))) (ys := [(ix 0 lf ((lf.length : Int) - 1), (p : Int))]) (vs := [.agg #[.int .i64 (ix 0 lf ((lf.length : Int) - 1)), .int .i64 (p : Int)]]) elHf_22 hS rfl rfl ⟨(V.mk2 (in_i64 (by omega) (by omega)) (in_i64 (by omega) (by omega))), trivial⟩ (by decide) rfl (fun v_23 w_24 hx_25 hS => ?_)
      refine Wx.append elHf_22 hS 2 rfl rfl rfl (Src.ofR hS 0 rfl) (by simp only [maxLen]; simp; omega) (by simp; omega) rfl (fun v_26 w_27 hz_28 hS => ?_)
      refine Wx.rd (v := v_26) (rd_assign rfl) rfl ?_
      refine Wx.nil ?_
      refine W.seq ?_
      refine W.reg ?_
      refine Wx.rd (v := lw) (rd_move rfl) rfl ?_
      refine Wx.rd (v := .int .i64 (lf.length : Int)) (rd_move rfl) rfl ?_
      refine Wx.rd (v := .int .i64 ((lf.length : Int) - 1)) (rd_sub rfl rfl (in_i64 (by omega) (by omega))) rfl ?_
      obtain ⟨g_29, c_30, rfl, hc_31⟩ := hS.rowForm 1 rfl (by omega)
      refine Wx.rd (v := (.slice (some ⟨g_29, 0, none⟩) ((lf.length : Int) - 1).toNat c_30)) (rd_headO Tryd.underlying60 Tryd.sizeOf3 rfl rfl (by omega) (by omega)) rfl ?_
      have hS : St _ _ _ [.row (tP (tI .i64) (tI .i64)) 58 v_23 [(ix 0 lf ((lf.length : Int) - 1), (p : Int))], .row (tI .i64) 3 (.slice (some ⟨g_29, 0, none⟩) ((lf.length : Int) - 1).toNat c_30) (List.take ((lf.length : Int) - 1).toNat lf), .row (tP (tI .i64) (tI .i64)) 58 v_26 (st ++ [(ix 0 lf ((lf.length : Int) - 1), (p : Int))]), .raw g_1 (.stringIter rim (p + (runeW rim (p : Int)).toNat))] := hS.shrink (m := ((lf.length : Int) - 1).toNat) 1 rfl (by omega)
      refine Wx.rd (v := (.slice (some ⟨g_29, 0, none⟩) ((lf.length : Int) - 1).toNat c_30)) (rd_assign rfl) rfl ?_
      refine Wx.nil ?_
      refine W.exit rfl ?_
      refine ⟨(v_26, st ++ [(ix 0 lf ((lf.length : Int) - 1), (p : Int))], (.slice (some ⟨g_29, 0, none⟩) ((lf.length : Int) - 1).toNat c_30), List.take ((lf.length : Int) - 1).toNat lf, p + (runeW rim (p : Int)).toNat), (by show rim.size - (p + (runeW rim (p : Int)).toNat) < rim.size - p; omega), ?_, ?_, Out.look rfl (Out.hav rfl (Out.look rfl Out.self))⟩
      · exact ⟨hS.tl, (by omega), (by rw [← h2, rng_cons (i := (p : Int)) (by omega), runS_cons, show ((p + (runeW rim (p : Int)).toNat : Nat) : Int) = (p : Int) + 1 by omega]; first | rw [stepS_yes c1.1 c1.2] | rw [stepS_no c1]), (fun x hx => by first | (have := h3 x (List.mem_of_mem_take hx); omega) | (rcases List.mem_append.1 hx with hx | hx; (have := h3 x hx; omega); (rw [List.mem_singleton] at hx; omega))), (by simp only [List.length_append, List.length_take, List.length_cons, List.length_nil]; omega)⟩
      · exact ⟨rfl, rfl, trivial⟩
    · -- no
      try simp only [Bool.and_eq_true, Bool.or_eq_true, Bool.not_eq_true', Bool.and_eq_false_iff, Bool.or_eq_false_iff, Bool.not_eq_false', decide_eq_true_eq, decide_eq_false_iff_not, not_or, Bool.false_eq_true, Bool.true_eq_false, false_or, or_false, not_false_eq_true] at c1
      refine W.skip ?_
      refine W.reg ?_
      refine Wx.rd (v := lw) (rd_move rfl) rfl ?_
      refine Wx.rd (v := .int .i64 (p : Int)) (rd_move rfl) rfl ?_
      refine Wx.lit (t := (tI .i64)) (ys := [(p : Int)]) (vs := [.int .i64 (p : Int)]) elHf_60 hS rfl rfl ⟨(V.mkInt (in_i64 (by omega) (by omega))), trivial⟩ (by decide) rfl (fun v_32 w_33 hx_34 hS => ?_)
      refine Wx.append elHf_60 hS 1 rfl rfl rfl (Src.ofR hS 0 rfl) (by simp only [maxLen]; simp; omega) (by simp; omega) rfl (fun v_35 w_36 hz_37 hS => ?_)
      refine Wx.rd (v := v_35) (rd_assign rfl) rfl ?_
      refine Wx.nil ?_
      refine ⟨(tv, st, v_35, lf ++ [(p : Int)], p + (runeW rim (p : Int)).toNat), (by show rim.size - (p + (runeW rim (p : Int)).toNat) < rim.size - p; omega), ?_, ?_, Out.look rfl (Out.hav rfl (Out.look rfl Out.self))⟩
      · exact ⟨hS.tl, (by omega), (by rw [← h2, rng_cons (i := (p : Int)) (by omega), runS_cons, show ((p + (runeW rim (p : Int)).toNat : Nat) : Int) = (p : Int) + 1 by omega]; first | rw [stepS_yes c1.1 c1.2] | rw [stepS_no c1]), (fun x hx => by first | (have := h3 x (List.mem_of_mem_take hx); omega) | (rcases List.mem_append.1 hx with hx | hx; (have := h3 x hx; omega); (rw [List.mem_singleton] at hx; omega))), (by simp only [List.length_append, List.length_take, List.length_cons, List.length_nil]; omega)⟩
      · exact ⟨rfl, rfl, trivial⟩
  · -- the end
    refine Wx.rd (v := .bool false) (rd_extract rfl rfl) rfl ?_
    refine Wx.nil ?_
    refine W.seq ?_
    refine W.condF rfl rfl ?_
    refine W.exit rfl ?_
    refine W.seq ?_
    refine W.reg ?_
    refine Wx.rd (v := tv) (rd_move rfl) rfl ?_
    refine Wx.rd (v := lw) (rd_move rfl) rfl ?_
    refine Wx.rd (v := tv) (rd_assign rfl) rfl ?_
    refine Wx.rd (v := lw) (rd_assign rfl) rfl ?_
    refine Wx.nil ?_
    have e0_0 : (takS rim).1 = st := by rw [← h2, rng_nil (by omega)]; rfl
    have e0_1 : (takS rim).2 = lf := by rw [← h2, rng_nil (by omega)]; rfl
    exact W.ret ⟨.tuple #[tv, lw], ResIs.two, hS.bel, ⟨tv, lw, rfl, (by rw [e0_0]; exact ((hS.lend 1 rfl).mv (.less (fun _ h => List.mem_append.2 (.inr h))))), (by rw [e0_1]; exact ((hS.lend 0 rfl).mv (.less (fun _ h => List.mem_append.2 (.inr h)))))⟩⟩

end Go.Proofs.YtokdjjebnomciaaDoor

namespace Go.Proofs.YtokdjjebnomciaaDoor
open Go.Wk Go.RowKit Go.Lib
set_option linter.unusedVariables false
set_option linter.unusedSimpArgs false
theorem F75 {rim : ByteArray} {w : World} (s_rim : rim.size ≤ maxLen) (p_12 : (rim.size : Int) ≤ 12) (p_l : Lets rim) (hG : Laid w) : Calls Tryd.prog 75 #[.string rim] w (Ret w (fun r _ => r = .string (restV rim))) := by
  have hlb := takS_bd (s := rim)
  have hS := St.start0 w
  refine enterR Tryd.func75 rfl Tryd.ntmps75 Tryd.results75 rfl ?_
  refine W.seq ?_
  refine W.reg ?_
  refine Wx.rd (v := .string ({ data := #[] } : ByteArray)) (rd_assign rfl) rfl ?_
  refine Wx.nil ?_
  refine W.seq ?_
  refine W.reg ?_
  refine Wx.alloc (cs := [(.pointer none), (.slice none 0 0)]) hS Tryd.zeroValue116 rfl rfl (fun g_1 w_2 hx_4 hb_3 hS => ?_)
  refine Wx.nil ?_
  refine W.seq ?_
  refine W.reg ?_
  refine Wx.rd (v := .string rim) (rd_move rfl) rfl ?_
  refine Wx.callF (run_callF Tryd.call73 rfl) (F73b (by first | assumption | (simp only [maxLen]; omega) | (simp only [ByteArray.size_extract, ByteArray.size_append, maxLen] at *; omega) | decide) (by omega) (by omega) hS.fb_lt (hG.ext hS.bel)) rfl ?_
  rintro r_5 w_6 hx_7 ⟨v_8, v_9, rfl, hv_10, hv_11⟩
  have hS := hS.pushFr hx_7 hv_11
  refine Wx.rd (v := .tuple #[v_8, v_9]) (rd_move rfl) rfl ?_
  refine Wx.rd (v := v_8) (rd_extract rfl rfl) rfl ?_
  refine Wx.rd (v := v_9) (rd_extract rfl rfl) rfl ?_
  refine Wx.rd (v := v_8) (rd_assign rfl) rfl ?_
  refine Wx.rd (v := v_9) (rd_assign rfl) rfl ?_
  refine Wx.nil ?_
  refine W.seq ?_
  refine W.seq ?_
  refine W.reg ?_
  refine Wx.rd (v := v_9) (rd_move rfl) rfl ?_
  refine Wx.rd (v := .int .i64 (((takS rim).2).length : Int)) (rd_lenR hS 0 rfl rfl Tryd.underlying60) rfl ?_
  refine Wx.rd (v := .int .i64 0) (rd_move rfl) rfl ?_
  refine Wx.nil ?_
  refine W.block ?_
  have hbd := bld_start hS 1 rfl
  have hS := (hS.front 1 rfl).tl
  refine W.loop [7, 15, 16, 17, 18, 19, 20, 21, 22, 23] (fun (k : Int) => [(15, .int .i64 k)]) (fun (k : Int) w' => St w [] w' [.row (tI .i64) 3 v_9 ((takS rim).2)] ∧ 0 ≤ k ∧ k ≤ (takS rim).2.length ∧ Lib.IsBuilderF 116 5 w.heap.size g_1 (Lib.byteCells (((takS rim).2.take k.toNat).map (byteAt rim))) w') (fun (k : Int) => ((takS rim).2.length - k).toNat) 0 ⟨rfl, trivial⟩ ⟨hS, (by first | omega | simp), (by first | omega | simp), (hbd)⟩ ?_
  rintro k u_15 w_14 ⟨hS, h0, h1, hbd⟩
  refine W.seq ?_
  refine W.reg ?_
  refine Wx.rd (v := .bool (decide (k < (((takS rim).2).length : Int)))) (rd_lss rfl rfl) rfl ?_
  refine Wx.nil ?_
  refine W.seq ?_
  refine W.condD rfl (fun c0 => ?_) (fun c0 => ?_)
  · -- yes
    have hkb := hlb.1 (ix 0 (takS rim).2 k) (ix_mem h0 c0)
    refine W.skip ?_
    refine W.seq ?_
    refine W.block ?_
    refine W.seq ?_
    refine W.reg ?_
    refine Wx.indexR hS 0 rfl rfl rfl Tryd.underlying60 Tryd.sizeOf3 (by first | omega | (simp only [List.length_set, List.length_append, List.length_cons, List.length_nil, List.length_replicate]; omega)) (by first | omega | (simp only [List.length_set, List.length_append, List.length_cons, List.length_nil, List.length_replicate]; omega)) rfl (fun g_16 hg_17 => ?_)
    refine Wx.rd (v := .int .i64 (ix 0 ((takS rim).2) k)) (rd_loadRI' hS 0 rfl hg_17 rfl (by first | omega | (simp only [List.length_set, List.length_append, List.length_cons, List.length_nil, List.length_replicate]; omega)) (by first | omega | (simp only [List.length_set, List.length_append, List.length_cons, List.length_nil, List.length_replicate]; omega)) Tryd.isAgg3 Tryd.sizeOf3) rfl ?_
    have bd_18 := bd_i64 (hS.rowInK' 0 rfl (by first | omega | (simp only [List.length_set, List.length_append, List.length_cons, List.length_nil, List.length_replicate]; omega)) (by first | omega | (simp only [List.length_set, List.length_append, List.length_cons, List.length_nil, List.length_replicate]; omega)) : InK .i64 (ix 0 ((takS rim).2) k))
    refine Wx.rd (v := .int .i64 (ix 0 ((takS rim).2) k)) (rd_assign rfl) rfl ?_
    refine Wx.nil ?_
    refine W.reg ?_
    refine Wx.rd (v := .string rim) (rd_move rfl) rfl ?_
    refine Wx.rd (v := .int .i64 (ix 0 ((takS rim).2) k)) (rd_move rfl) rfl ?_
    refine Wx.rd (v := .int .u8 (tabAt rim (ix 0 ((takS rim).2) k))) (rd_indexS' (by kernel_rfl) rfl Tryd.underlying9 (by omega) (by omega)) rfl ?_
    have bd_19 := tabAt_bd rim (ix 0 ((takS rim).2) k)
    refine Wx.callB (run_callF Tryd.call94 rfl) (F94 hbd rfl (by rw [List.length_map, List.length_take]; omega) hS.bel.size) rfl ?_
    rintro r_20 w_21 ⟨rfl, hbd2, hBe, hBk⟩
    have hS := bld_keep hS hbd hBe hBk
    have hbd := hbd2
    refine Wx.nil ?_
    refine W.reg ?_
    refine Wx.rd (v := .int .i64 (k + 1)) (rd_add rfl rfl (in_i64 (by omega) (by omega))) rfl ?_
    refine Wx.rd (v := .int .i64 (k + 1)) (rd_move rfl) rfl ?_
    refine Wx.nil ?_
    refine ⟨k + 1, (by show ((takS rim).2.length - (k + 1)).toNat < ((takS rim).2.length - k).toNat; omega), ?_, ?_, Out.look rfl Out.self⟩
    · exact ⟨hS, (by first | omega | assumption), (by first | omega | assumption), (by rw [take_ix (d := 0) h0 c0, List.map_append]; exact hbd)⟩
    · exact ⟨rfl, trivial⟩
  · -- no
    refine W.exit rfl ?_
    refine W.seq ?_
    refine W.reg ?_
    refine Wx.callB (run_callF Tryd.call95 rfl) (F95 hbd hS.bel.size) rfl ?_
    rintro r_22 w_23 ⟨rfl, hBe⟩
    have hS := (St.start0 w).ext (Below.trans hS.bel hBe)
    refine Wx.rd (v := .string (mkB (((takS rim).2.take k.toNat).map (byteAt rim)))) (rd_assign rfl) rfl ?_
    refine Wx.nil ?_
    have e0_0 : (restV rim) = (mkB (((takS rim).2.take k.toNat).map (byteAt rim))) := by rw [restV, List.take_of_length_le (by omega)]
    exact W.ret ⟨.string (mkB (((takS rim).2.take k.toNat).map (byteAt rim))), ResIs.one, hS.bel, (by rw [e0_0])⟩

end Go.Proofs.YtokdjjebnomciaaDoor
