/-
  WHAT IS SAID HERE: plain functions: finds and orders made by numbers, of the statements that stand without the reference.
-/
import Derived.Test.YtjmpojoimcljoaaSpec4
namespace Go.Proofs.Ytjmpojoimcljoaa
open Go.Wk

def madeN (a ly : Int) : Int := 1 + ly % a
def ofBits (n x : Int) : List Int := (up n n.toNat).filter (hasS x)
def formZ (n x : Int) : List Int := if ofBits n x = [] then [0] else ofBits n x
def madeF (a b ly mn : Int) (zs : List Int) : List (List Int) := (zs.take (mn % (b + 1)).toNat).map (formZ (madeN a ly))
theorem madeN_bd {a ly : Int} (h1 : 1 ≤ a) : 1 ≤ madeN a ly ∧ madeN a ly ≤ a := by
  have h2 := Int.emod_nonneg ly (show a ≠ 0 by omega)
  have h3 := Int.emod_lt_of_pos ly (show 0 < a by omega)
  rw [madeN]
  omega
theorem up_next {n : Int} {j : Int} (_ : 0 ≤ j) (h : j < n) : up n (n - j).toNat = j :: up n (n - (j + 1)).toNat := by
  rw [show (n - j).toNat = (n - (j + 1)).toNat + 1 by omega, up]
  congr 1
  omega
def idxI (x : Int) : Int → List Int → Int
  | _, [] => -1
  | i, y :: ys => if x = y then i else idxI x (i + 1) ys
theorem idxI_has (x : Int) : ∀ (ys : List Int) (i : Int), 0 ≤ i → decide (0 ≤ idxI x i ys) = hasL ys x
  | [], _, _ => by simp [idxI, hasL]
  | y :: ys, i, hi => by
    rw [idxI, hasL]
    by_cases h : x = y
    · rw [if_pos h, if_pos h.symm]; simpa using hi
    · rw [if_neg h, if_neg (fun e => h e.symm)]; exact idxI_has x ys (i + 1) (by omega)
theorem idxI_bd (x : Int) : ∀ (ys : List Int) (i : Int), 0 ≤ i → -1 ≤ idxI x i ys ∧ idxI x i ys ≤ i + ys.length
  | [], i, hi => by simp [idxI]; omega
  | y :: ys, i, hi => by
    have := idxI_bd x ys (i + 1) (by omega)
    rw [idxI]
    split
    · simp; omega
    · simp; omega
/-- How many gaps: where it began, where it was last, how many till now. -/
def gapG (f : List Int) : Int → Int → Int → Int → List Int → Int
  | _, _, _, n, [] => n
  | i, fi, la, n, x :: xs => if hasL f x = true then gapG f (i + 1) (if fi < 0 then i else fi) i (if 0 ≤ fi ∧ la + 1 < i then n + 1 else n) xs else gapG f (i + 1) fi la n xs
def gapsW (f order : List Int) : Int := gapG f 0 (-1) (-1) 0 order
def fitsW (fs : List (List Int)) (order : List Int) : Bool := fs.all fun f => decide (gapsW f order ≤ 0)
/-! ### forms left out, by bits -/
def bitI (o i : Int) : Bool := decide (bits .and .i64 (o / 2 ^ min i.toNat IntKind.i64.bits) 1 = 1)
def pickW (o : Int) (n : Int) : List Int := (up n n.toNat).filter (bitI o)
def restW (o : Int) : Int → List (List Int) → List (List Int)
  | _, [] => []
  | i, f :: fs => if bits .and .i64 (o / 2 ^ min i.toNat IntKind.i64.bits) 1 = 0 then f :: restW o (i + 1) fs else restW o (i + 1) fs
theorem restW_len (o : Int) : ∀ (fs : List (List Int)) (i : Int), (restW o i fs).length ≤ fs.length
  | [], _ => Nat.le_refl _
  | f :: fs, i => by
    have := restW_len o fs (i + 1)
    rw [restW]
    split <;> simp <;> omega
def stepW (L : Int) (fs : List (List Int)) (x : List Int × Bool) (o : Nat) : List Int × Bool :=
  if x.2 = true ∧ (x.1.length < (pickW o fs.length).length ∨ ((pickW o fs.length).length = x.1.length ∧ 0 < cmpL (pickW o fs.length) x.1)) then x
  else if (allL L).any (fitsW (restW o 0 fs)) = true then (pickW o fs.length, true) else x
def bestW (L : Int) (fs : List (List Int)) (n : Nat) : List Int × Bool := (List.range n).foldl (stepW L fs) ([], false)
theorem bestW_next (L : Int) (fs : List (List Int)) (n : Nat) : bestW L fs (n + 1) = stepW L fs (bestW L fs n) n := by
  rw [bestW, List.range_succ, List.foldl_append]; rfl
/-- What StyleLeft says of finds. -/
def leftP (L : Int) (fs : List (List Int)) : Prop :=
  checkE L fs = 0 ∧ fewestL L fs = (bestW L fs (2 ^ fs.length)).1 ∧ ∀ i : Nat, i < fs.length → checkE L (restW ((2 ^ i : Nat) : Int) 0 fs) = 0 ∧ (fewestL L (restW ((2 ^ i : Nat) : Int) 0 fs)).length ≤ (fewestL L fs).length ∧ (fewestL L fs).length ≤ (fewestL L (restW ((2 ^ i : Nat) : Int) 0 fs)).length + 1
theorem shl_i64 {n : Nat} (h : n ≤ 10) : IntKind.i64.wrap (1 * 2 ^ min (n : Int).toNat IntKind.i64.bits) = ((2 ^ n : Nat) : Int) := by
  have : n = 0 ∨ n = 1 ∨ n = 2 ∨ n = 3 ∨ n = 4 ∨ n = 5 ∨ n = 6 ∨ n = 7 ∨ n = 8 ∨ n = 9 ∨ n = 10 := by omega
  rcases this with h | h | h | h | h | h | h | h | h | h | h <;> subst h <;> decide +kernel

/-! ### a function that is called with each order: what it keeps is some objects, of which something holds -/
/-- The call of a function value that turns what holds of some orders into what holds of one order more. -/
def EachOK (P : Go.Program) (fe : Go.FuncId) (fs cs : List Go.Value) (Tl : List (List Int) → List Ob → Prop) : Prop :=
  ∀ (ls : List (List Int)) (l : List Int) (lv : Go.Value) (pre ob : List Ob) (w0 w : Go.World) (O : List (Option Nat)), Tl ls ob → St w0 O w (pre ++ ob) → V (tSl (tI .i64)) l lv (fb (pre ++ ob) O) w →
    Go.Calls P fe (fs ++ [lv] ++ cs).toArray w (Bk fun r w' => r = .tuple #[] ∧ ∃ ob', Tl (ls ++ [l]) ob' ∧ St w0 O w' (pre ++ ob'))
theorem eachOK_pre {P : Go.Program} {fe : Go.FuncId} {fs cs : List Go.Value} {Tl : List (List Int) → List Ob → Prop} (h : EachOK P fe fs cs Tl) (A : List Ob) : EachOK P fe fs cs (fun ls ob => ∃ ob', ob = A ++ ob' ∧ Tl ls ob') := by
  rintro ls l lv pre ob w0 w O ⟨ob', rfl, hT⟩ hS hv
  rw [← List.append_assoc] at hS hv
  refine (h ls l lv (pre ++ A) ob' w0 w O hT hS hv).mono ?_
  rintro e w' ⟨r, he, hr, ob2, hT2, hS2⟩
  exact ⟨r, he, hr, A ++ ob2, ⟨ob2, rfl, hT2⟩, by rw [← List.append_assoc]; exact hS2⟩
theorem allX_cons (n : Int) (g : List Int → List (List Int)) (begun : List Int) {x : Int} (_ : 0 ≤ x) (h : x < n) :
    allX n g begun (n - x).toNat = (if hasL begun x = true then [] else g (begun ++ [x])) ++ allX n g begun (n - (x + 1)).toNat := by
  rw [show (n - x).toNat = (n - (x + 1)).toNat + 1 by omega, allX, show n - (((n - (x + 1)).toNat : Nat) + 1 : Int) = x by omega]
end Go.Proofs.Ytjmpojoimcljoaa
