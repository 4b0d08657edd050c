/-
  WHAT IS PROVED HERE: what each operation that leaves memory alone yields: numbers, tests, loads, addresses, lengths, slices of slices. Conditions stand in each statement; they hold over any program.
-/
import Derived.Test.YtjmpojoimcljoaaWk2
import Derived.WalkKit
import Derived.Laws.StructEq
import Derived.Laws.Shifts
namespace Go.Wk
open Go.RowKit

theorem in_i64 {x : Int} (h1 : -9223372036854775808 ≤ x) (h2 : x ≤ 9223372036854775807) : InK .i64 x := ⟨h1, h2⟩
theorem in_u8 {x : Int} (h1 : 0 ≤ x) (h2 : x ≤ 255) : InK .u8 x := ⟨h1, h2⟩
theorem in_u16 {x : Int} (h1 : 0 ≤ x) (h2 : x ≤ 65535) : InK .u16 x := ⟨h1, h2⟩
theorem in_u32 {x : Int} (h1 : 0 ≤ x) (h2 : x ≤ 4294967295) : InK .u32 x := ⟨h1, h2⟩
theorem in_u64 {x : Int} (h1 : 0 ≤ x) (h2 : x ≤ 18446744073709551615) : InK .u64 x := ⟨h1, h2⟩
theorem in_i32 {x : Int} (h1 : -2147483648 ≤ x) (h2 : x ≤ 2147483647) : InK .i32 x := ⟨h1, h2⟩
theorem bd_i64 {x : Int} (h : InK .i64 x) : -9223372036854775808 ≤ x ∧ x ≤ 9223372036854775807 := h
theorem bits_in (op : BinOp) (k : IntKind) (a b : Int) : InK k (bits op k a b) := by simp only [bits]; split <;> exact wrap_inK _ _
theorem bd_u8 {x : Int} (h : InK .u8 x) : 0 ≤ x ∧ x ≤ 255 := h
theorem bd_u32 {x : Int} (h : InK .u32 x) : 0 ≤ x ∧ x ≤ 4294967295 := h
theorem bd_u64 {x : Int} (h : InK .u64 x) : 0 ≤ x ∧ x ≤ 18446744073709551615 := h
theorem bd_i32 {x : Int} (h : InK .i32 x) : -2147483648 ≤ x ∧ x ≤ 2147483647 := h

section
variable {P : Program} {σ : Fr} {w w0 : World} {ty : TypeId} {x y : Operand} {k : IntKind} {a b : Int} {T T' : TypeId} {O : List (Option Nat)} {obs : List Ob}

theorem Rd.of {op : Op} {v : Value} (h : ∀ w', (xop (ev σ) op ty).run P w' = .ok (.value v) w') : Rd P σ op ty w v := fun w' _ => h w'

theorem rd_move {v : Value} (hx : ev σ x = v) : Rd P σ (.move x) ty w v := Rd.of fun w' => by subst hx; rfl
theorem rd_assign {v : Value} (hx : ev σ x = v) : Rd P σ (.assign x) ty w v := Rd.of fun w' => by subst hx; rfl
theorem rd_pickT {c : Operand} {v : Value} (hc : ev σ c = .bool true) (hx : ev σ x = v) : Rd P σ (.pick c x y) ty w v :=
  Rd.of fun w' => by subst hx; simp [xop, execOp, hc, asBool]
theorem rd_pickF {c : Operand} {v : Value} (hc : ev σ c = .bool false) (hy : ev σ y = v) : Rd P σ (.pick c x y) ty w v :=
  Rd.of fun w' => by subst hy; simp [xop, execOp, hc, asBool]
theorem rd_not {c : Bool} (hx : ev σ x = .bool c) : Rd P σ (.unOp .not T x) ty w (.bool (!c)) :=
  Rd.of fun w' => by simp [xop, execOp, hx, Op.unary]
theorem rd_neg (hx : ev σ x = .int k a) (hr : InK k (-a)) : Rd P σ (.unOp .neg T x) ty w (.int k (-a)) :=
  Rd.of fun w' => by simp [xop, execOp, hx, Op.unary, Op.intArith, wrap_in hr]

section
variable (hx : ev σ x = .int k a) (hy : ev σ y = .int k b)
include hx hy
theorem rd_add (hr : InK k (a + b)) : Rd P σ (.binOp .add T x y T') ty w (.int k (a + b)) :=
  Rd.of fun w' => by simp [xop, execOp, hx, hy, eqGuard_at_int, binOp_add, Op.intArith, wrap_in hr]
theorem rd_sub (hr : InK k (a - b)) : Rd P σ (.binOp .sub T x y T') ty w (.int k (a - b)) :=
  Rd.of fun w' => by simp [xop, execOp, hx, hy, eqGuard_at_int, binOp_sub, Op.intArith, wrap_in hr]
theorem rd_mul (hr : InK k (a * b)) : Rd P σ (.binOp .mul T x y T') ty w (.int k (a * b)) :=
  Rd.of fun w' => by simp [xop, execOp, hx, hy, eqGuard_at_int, binOp_mul, Op.intArith, wrap_in hr]
theorem rd_addw : Rd P σ (.binOp .add T x y T') ty w (.int k (k.wrap (a + b))) :=
  Rd.of fun w' => by simp [xop, execOp, hx, hy, eqGuard_at_int, binOp_add, Op.intArith]
theorem rd_subw : Rd P σ (.binOp .sub T x y T') ty w (.int k (k.wrap (a - b))) :=
  Rd.of fun w' => by simp [xop, execOp, hx, hy, eqGuard_at_int, binOp_sub, Op.intArith]
theorem rd_mulw : Rd P σ (.binOp .mul T x y T') ty w (.int k (k.wrap (a * b))) :=
  Rd.of fun w' => by simp [xop, execOp, hx, hy, eqGuard_at_int, binOp_mul, Op.intArith]
theorem rd_quo (ha : 0 ≤ a) (hb : 1 ≤ b) (hr : InK k (a / b)) : Rd P σ (.binOp .quo T x y T') ty w (.int k (a / b)) :=
  Rd.of fun w' => by
    have hb0 : b ≠ 0 := by omega
    simp [xop, execOp, hx, hy, eqGuard_at_int, binOp_quo, Op.intDiv, hb0, Int.tdiv_eq_ediv_of_nonneg ha, wrap_in hr]
theorem rd_rem (ha : 0 ≤ a) (hb : b ≠ 0) : Rd P σ (.binOp .rem T x y T') ty w (.int k (a % b)) :=
  Rd.of fun w' => by
    simp [xop, execOp, hx, hy, eqGuard_at_int, binOp_rem, Op.intDiv, hb, Int.tmod_eq_emod_of_nonneg ha]
theorem rd_lss : Rd P σ (.binOp .lss T x y T') ty w (.bool (decide (a < b))) :=
  Rd.of fun w' => by simp [xop, execOp, hx, hy, eqGuard_at_int, binOp_lss]
theorem rd_leq : Rd P σ (.binOp .leq T x y T') ty w (.bool (decide (a ≤ b))) :=
  Rd.of fun w' => by simp [xop, execOp, hx, hy, eqGuard_at_int, binOp_leq]
theorem rd_gtr : Rd P σ (.binOp .gtr T x y T') ty w (.bool (decide (b < a))) :=
  Rd.of fun w' => by simp [xop, execOp, hx, hy, eqGuard_at_int, binOp_gtr]
theorem rd_geq : Rd P σ (.binOp .geq T x y T') ty w (.bool (decide (b ≤ a))) :=
  Rd.of fun w' => by simp [xop, execOp, hx, hy, eqGuard_at_int, binOp_geq]
theorem rd_eql : Rd P σ (.binOp .eql T x y T') ty w (.bool (decide (a = b))) :=
  Rd.of fun w' => by
    by_cases h : a = b <;> simp [xop, execOp, hx, hy, eqGuard_at_int, binOp_eql, h]
theorem rd_neq : Rd P σ (.binOp .neq T x y T') ty w (.bool (decide (a ≠ b))) :=
  Rd.of fun w' => by
    simp [xop, execOp, hx, hy, eqGuard_at_int, binOp_neq, bne, Bool.beq_eq_decide_eq]
theorem rd_and : Rd P σ (.binOp .and T x y T') ty w (.int k (bits .and k a b)) :=
  Rd.of fun w' => by simp [xop, execOp, hx, hy, eqGuard_at_int, binOp_and, intBits_and]
theorem rd_or : Rd P σ (.binOp .or T x y T') ty w (.int k (bits .or k a b)) :=
  Rd.of fun w' => by simp [xop, execOp, hx, hy, eqGuard_at_int, binOp_or, intBits_or]
theorem rd_xor : Rd P σ (.binOp .xor T x y T') ty w (.int k (bits .xor k a b)) :=
  Rd.of fun w' => by simp [xop, execOp, hx, hy, eqGuard_at_int, binOp_xor, intBits_xor]
theorem rd_andNot : Rd P σ (.binOp .andNot T x y T') ty w (.int k (bits .andNot k a b)) :=
  Rd.of fun w' => by simp [xop, execOp, hx, hy, eqGuard_at_int, binOp_andNot, intBits_andNot]
end

theorem rd_shl {k' : IntKind} (hx : ev σ x = .int k a) (hy : ev σ y = .int k' b) (hb : 0 ≤ b) : Rd P σ (.binOp .shl T x y T') ty w (.int k (k.wrap (a * 2 ^ min b.toNat k.bits))) :=
  Rd.of fun w' => by simp [xop, execOp, hx, hy, eqGuard_at_int, binOp_shl, shift_shl_any k k' a b hb]
theorem rd_shr {k' : IntKind} (hx : ev σ x = .int k a) (hy : ev σ y = .int k' b) (hb : 0 ≤ b) : Rd P σ (.binOp .shr T x y T') ty w (.int k (a / 2 ^ min b.toNat k.bits)) :=
  Rd.of fun w' => by simp [xop, execOp, hx, hy, eqGuard_at_int, binOp_shr, shift_shr_any k k' a b hb]

theorem rd_eqlB {c d : Bool} (hx : ev σ x = .bool c) (hy : ev σ y = .bool d) (hu : P.underlying T = some .bool) : Rd P σ (.binOp .eql T x y T') ty w (.bool (c == d)) :=
  Rd.of fun w' => by simp [xop, execOp, hx, hy, eqGuard_at_bool, run_eql_bool _ _ _ _ hu]
theorem rd_neqB {c d : Bool} (hx : ev σ x = .bool c) (hy : ev σ y = .bool d) (hu : P.underlying T = some .bool) : Rd P σ (.binOp .neq T x y T') ty w (.bool (!(c == d))) :=
  Rd.of fun w' => by simp [xop, execOp, hx, hy, eqGuard_at_bool, run_neq_bool _ _ _ _ hu]

theorem rd_eqlS {s t : ByteArray} (hx : ev σ x = .string s) (hy : ev σ y = .string t) : Rd P σ (.binOp .eql T x y T') ty w (.bool (s == t)) :=
  Rd.of fun w' => by simp [xop, execOp, hx, hy, eqGuard_at_string, binOp, Op.stringOp, beq_toListBytes]
theorem rd_neqS {s t : ByteArray} (hx : ev σ x = .string s) (hy : ev σ y = .string t) : Rd P σ (.binOp .neq T x y T') ty w (.bool (!(s == t))) :=
  Rd.of fun w' => by simp [xop, execOp, hx, hy, eqGuard_at_string, binOp, Op.stringOp, beq_toListBytes]

theorem rd_conv {s d : TypeId} {k' : IntKind} (hx : ev σ x = .int k a) (hs : P.underlying s = some (.int k)) (hd : P.underlying d = some (.int k')) :
    Rd P σ (.convert s d x) ty w (.int k' (k'.wrap a)) :=
  Rd.of fun w' => by
    simp [xop, execOp, hx, convert, run_underlying hs, run_underlying hd, Conv.intToInt]
theorem rd_convIn {s d : TypeId} {k' : IntKind} (hx : ev σ x = .int k a) (hs : P.underlying s = some (.int k)) (hd : P.underlying d = some (.int k')) (hr : InK k' a) :
    Rd P σ (.convert s d x) ty w (.int k' a) := by
  have := rd_conv (P := P) (w := w) (ty := ty) hx hs hd
  rwa [wrap_in hr] at this

theorem rd_extract {vs : Array Value} {i : Nat} {v : Value} (hx : ev σ x = .tuple vs) (hi : vs[i]? = some v) : Rd P σ (.extract x i) ty w v :=
  Rd.of fun w' => by simp [xop, execOp, hx, Instr.extract, hi]

theorem rd_nilCheck {p : Option Addr} {ad : Addr} (hx : ev σ x = .pointer p) (hp : p = some ad) : Rd P σ (.nilCheck x) ty w (.pointer (some ad)) :=
  Rd.of fun w' => by subst hp; simp [xop, execOp, hx]

theorem rd_makeFunc {fn : Fn} {fs cs : List Operand} {vs us : List Value} (h1 : fs.map (ev σ) = vs) (h2 : cs.map (ev σ) = us) : Rd P σ (.makeFunc fn fs.toArray cs.toArray) ty w (.func fn vs.toArray us.toArray) :=
  Rd.of fun w' => by
    subst h1 h2
    simp [xop, execOp, Instr.makeFunc]

theorem rd_len {t : TypeId} {e : TypeId} {ad : Option Addr} {n c : Nat} (hx : ev σ x = .slice ad n c) (hu : P.underlying t = some (.slice e)) :
    Rd P σ (.call { callee := .builtin .len, args := #[x], argTypes := #[t] }) ty w (.int .i64 n) :=
  Rd.of fun w' => by
    simp [xop, execOp, resolve, invoke, builtin, hx, Builtin.len_, run_underlying hu, goInt]

/-- The length of a slice that stands for xs. -/
theorem rd_lenV {α : Type} {t : Ty α} {xs : List α} {v : Value} {tt e : TypeId} {F : List (Option Nat)} {wv : World} (hx : ev σ x = v) (hv : V (tSl t) xs v F wv) (hu : P.underlying tt = some (.slice e)) :
    Rd P σ (.call { callee := .builtin .len, args := #[x], argTypes := #[tt] }) ty w (.int .i64 xs.length) := by
  obtain ⟨ad, cap, rfl, _⟩ := hv.form
  exact rd_len hx hu

theorem ownsRow_form {base : Nat} {e : TypeId} {size : Nat} {v : Value} {n : Nat} {xs : List Value} (h : w.ownsRow base e size v n xs) : ∃ ad c, v = .slice ad n c ∧ n ≤ c ∧ c ≤ maxLen := by
  rcases h.2 with ⟨rfl, rfl⟩ | ⟨g, cap, cur, rfl, _, _, h1, h2, _⟩
  · exact ⟨_, _, rfl, Nat.le_refl _, Nat.zero_le _⟩
  · exact ⟨_, _, rfl, h1, h2⟩

/-- The length of a slice of the call's own. -/
theorem rd_lenR {α : Type} {t : Ty α} {tt e et : TypeId} {v : Value} {ys : List α} (hS : St w0 O w obs) (i : Nat) (hi : obs[i]? = some (.row t et v ys)) (hx : ev σ x = v)
    (hu : P.underlying tt = some (.slice e)) : Rd P σ (.call { callee := .builtin .len, args := #[x], argTypes := #[tt] }) ty w (.int .i64 ys.length) := by
  obtain ⟨cs, hr, _⟩ := hS.get i hi
  obtain ⟨ad, c, rfl, _⟩ := ownsRow_form hr
  exact rd_len hx hu

theorem rd_lenS {tt : TypeId} {s : ByteArray} (hx : ev σ x = .string s) (hu : P.underlying tt = some .string) :
    Rd P σ (.call { callee := .builtin .len, args := #[x], argTypes := #[tt] }) ty w (.int .i64 s.size) :=
  Rd.of fun w' => by
    simp [xop, execOp, resolve, invoke, builtin, hx, Builtin.len_, run_underlying hu, goInt]

theorem rd_min {k' : IntKind} {ts : Array TypeId} (hx : ev σ x = .int k a) (hy : ev σ y = .int k' b) : Rd P σ (.call { callee := .builtin .min, args := #[x, y], argTypes := ts }) ty w (.int k (min a b)) :=
  Rd.of fun w' => by
    have : (if b < a then b else a) = min a b := by rw [Int.min_def]; split <;> split <;> omega
    simp [xop, execOp, resolve, invoke, builtin, hx, hy, run_min_int2, this]
theorem rd_max {k' : IntKind} {ts : Array TypeId} (hx : ev σ x = .int k a) (hy : ev σ y = .int k' b) : Rd P σ (.call { callee := .builtin .max, args := #[x, y], argTypes := ts }) ty w (.int k (max a b)) :=
  Rd.of fun w' => by
    have : (if a < b then b else a) = max a b := by rw [Int.max_def]; split <;> split <;> omega
    simp [xop, execOp, resolve, invoke, builtin, hx, hy, run_max_int2, this]

/-! ### Addresses -/
/-- The field's place among the cells. -/
def fldOff (P : Program) (s : TypeId) (f : Nat) : Option Nat :=
  match P.underlying s with
  | some (.struct fs) => match fs[f]? with
    | some fd => match P.info? fd.type with
      | some i => if i.size = 0 then none else some fd.offset
      | none => none
    | none => none
  | _ => none

theorem rd_fieldAddr {s : TypeId} {f g o j : Nat} (hx : ev σ x = .pointer (some ⟨g, o, none⟩)) (hf : fldOff P s f = some j) : Rd P σ (.fieldAddr s x f) ty w (.pointer (some ⟨g, o + j, none⟩)) :=
  Rd.of fun w' => by
    unfold fldOff at hf
    split at hf
    · rename_i fs hu
      split at hf
      · rename_i fd hfd
        split at hf
        · rename_i i hi
          split at hf
          · cases hf
          · rename_i hz
            injection hf with hf
            subst hf
            simp [xop, execOp, hx, Instr.fieldAt, run_underlying hu, hfd, Instr.sureAddr, fieldPlace, sizeOf, typeInfo, hi, hz, Addr.add_lit]
        · cases hf
      · cases hf
    · cases hf

/-- The address of an element of an array that lies at an address. -/
theorem rd_indexArr {s e : TypeId} {len : Nat} {g o sz : Nat} {n : Int} {k : IntKind} (hx : ev σ x = .pointer (some ⟨g, o, none⟩)) (hi : ev σ y = .int k n) (hu : P.underlying s = some (.array len e))
    (hsz : ∀ w', (sizeOf e).run P w' = .ok sz w') (h0 : 0 ≤ n) (h1 : n < len) : Rd P σ (.indexAddr s x y) ty w (.pointer (some ⟨g, o + n.toNat * sz, none⟩)) :=
  Rd.of fun w' => by
    simp [xop, execOp, hx, hi, Instr.indexAt, run_underlying hu, Instr.sureAddr, asIntOf, h0, h1, hsz, Addr.add_lit]

theorem run_indexSl {s e : TypeId} {ad : Addr} {len c sz : Nat} {n : Int} {k : IntKind} (hx : ev σ x = .slice (some ad) len c) (hi : ev σ y = .int k n) (hu : P.underlying s = some (.slice e))
    (hsz : ∀ w', (sizeOf e).run P w' = .ok sz w') (h0 : 0 ≤ n) (h1 : n < len) : Rd P σ (.indexAddr s x y) ty w (.pointer (some (ad.add (n.toNat * sz)))) :=
  Rd.of fun w' => by
    simp [xop, execOp, hx, hi, Instr.indexAt, run_underlying hu, asIntOf, h0, h1, hsz]

/-- The element at a number; d where there is none. -/
def ix {α : Type} (d : α) (xs : List α) (n : Int) : α := xs.getD n.toNat d
theorem ix_get {α : Type} {d : α} {xs : List α} {n : Int} (h1 : n < xs.length) (h0 : 0 ≤ n) : xs[n.toNat]? = some (ix d xs n) := by
  have : n.toNat < xs.length := by omega
  simp [ix, this]

/-- The address of an element of a slice that stands for xs. -/
theorem rd_index {α : Type} {t : Ty α} {xs : List α} {v : Value} {s e : TypeId} {n : Int} {k : IntKind} {F : List (Option Nat)} (dz : α) (hv : V (tSl t) xs v F w) (hx : ev σ x = v) (hi : ev σ y = .int k n)
    (hu : P.underlying s = some (.slice e)) (hsz : ∀ w', (sizeOf e).run P w' = .ok t.n w') (h0 : 0 ≤ n) (h1 : n < xs.length) :
    ∃ p, Rd P σ (.indexAddr s x y) ty w p ∧ PtE t (ix dz xs n) p F w := by
  have hz := ix_get (d := dz) h1 h0
  obtain ⟨ad, cap, rfl, h1, h2, h3⟩ := hv.form
  have hlt : n.toNat < xs.length := (List.getElem?_eq_some_iff.1 hz).1
  obtain ⟨b, o, rfl, h4, h5, h6⟩ := h3 (by intro h; subst h; simp at hlt)
  obtain ⟨es, g1, g2⟩ := h6 _ _ hz
  refine ⟨_, run_indexSl hx hi hu hsz h0 (by omega), b, o + n.toNat * t.n, es, by rw [Addr.add_lit], g1, h5, h4, g2⟩

/-- The address of an element of a slice of the call's own. -/
theorem rd_indexR {α : Type} {t : Ty α} {et : TypeId} {v : Value} {ys : List α} {s e : TypeId} {n : Int} {k : IntKind} (hS : St w0 O w obs) (i : Nat) (hi : obs[i]? = some (.row t et v ys)) (hx : ev σ x = v)
    (hy : ev σ y = .int k n) (hu : P.underlying s = some (.slice e)) (hsz : ∀ w', (sizeOf e).run P w' = .ok t.n w') (h0 : 0 ≤ n) (h1 : n < ys.length) :
    ∃ g, v.ownBlock = some g ∧ Rd P σ (.indexAddr s x y) ty w (.pointer (some ⟨g, n.toNat * t.n, none⟩)) := by
  obtain ⟨cs, hr, _⟩ := hS.get i hi
  rcases hr.2 with ⟨rfl, hl⟩ | ⟨g, cap, cur, rfl, _⟩
  · omega
  · refine ⟨g, rfl, ?_⟩
    have := run_indexSl (P := P) (w := w) (ty := ty) hx hy hu hsz h0 h1
    rwa [Addr.add_lit, Nat.zero_add] at this

/-! ### Loads -/
theorem run_load1 {P : Program} {w' : World} {T : TypeId} {ad : Addr} {v : Value} (hag : ∀ w', (isAgg T).run P w' = .ok false w') (hc : w'.cell? ad = some v) : (loadVar T ad).run P w' = .ok v w' := by
  simp [loadVar, hag, hc]

theorem run_loadN {P : Program} {w' : World} {T : TypeId} {ad : Addr} {cs : List Value} (hag : ∀ w', (isAgg T).run P w' = .ok true w') (hsz : ∀ w', (sizeOf T).run P w' = .ok cs.length w')
    (hc : ∀ j u, cs[j]? = some u → w'.cell? (ad.add j) = some u) : (loadVar T ad).run P w' = .ok (.agg cs.toArray) w' := by
  simp [loadVar, hag, hsz, run_loadCells_list w' ad cs hc]

/-- A load where x lies. -/
theorem rd_load {α : Type} {t : Ty α} {z : α} {p : Value} {F : List (Option Nat)} (hp : PtE t z p F w) (hx : ev σ x = p) (hag : ∀ w', (isAgg T).run P w' = .ok t.agg w') (hsz : ∀ w', (sizeOf T).run P w' = .ok t.n w') :
    ∃ v, Rd P σ (.load T x) ty w v ∧ V t z v F w := by
  obtain ⟨b, o, es, rfl, h1, h2, h3, h4⟩ := hp
  have hlen := t.len h1
  refine ⟨t.val es, fun w' hw' => ?_, es, rfl, h1⟩
  have hc : ∀ j u, es[j]? = some u → w'.cell? ⟨b, o + j, none⟩ = some u := fun j u hu => (World.cell?_of_block (hw'.block b h2)).trans (h4 j u hu)
  cases hg : t.agg with
  | false =>
    have hn := t.flat hg
    match es, hlen, hc with
    | [u], _, hc =>
      have := hc 0 u rfl
      have hl := run_load1 (P := P) (T := T) (w' := w') (ad := ⟨b, o, none⟩) (by rw [← hg]; exact hag) (by simpa using this)
      simp [xop, execOp, hx, Instr.loadAt, Instr.sureAddr, hl, Ty.val, hg]
    | [], hl, _ => simp [hn] at hl
    | _ :: _ :: _, hl, _ => simp [hn] at hl
  | true =>
    have hl := run_loadN (P := P) (T := T) (w' := w') (ad := ⟨b, o, none⟩) (cs := es) (by rw [← hg]; exact hag) (by rw [hlen]; exact hsz) (fun j u hu => by rw [Addr.add_lit]; exact hc j u hu)
    simp [xop, execOp, hx, Instr.loadAt, Instr.sureAddr, hl, Ty.val, hg]

/-- A load of a number where it lies. -/
theorem rd_loadI {z : Int} {p : Value} {F : List (Option Nat)} (hp : PtE (tI k) z p F w) (hx : ev σ x = p) (hag : ∀ w', (isAgg T).run P w' = .ok false w') (hsz : ∀ w', (sizeOf T).run P w' = .ok 1 w') :
    Rd P σ (.load T x) ty w (.int k z) := by
  obtain ⟨v, h1, h2⟩ := rd_load (P := P) (σ := σ) (ty := ty) (T := T) hp hx hag hsz
  rw [h2.int.1] at h1
  exact h1
theorem PtE.inK {z : Int} {p : Value} {F : List (Option Nat)} (hp : PtE (tI k) z p F w) : InK k z := by
  obtain ⟨b, o, es, _, h, _⟩ := hp
  exact h.2
theorem rd_loadB {z : Bool} {p : Value} {F : List (Option Nat)} (hp : PtE tBool z p F w) (hx : ev σ x = p) (hag : ∀ w', (isAgg T).run P w' = .ok false w') (hsz : ∀ w', (sizeOf T).run P w' = .ok 1 w') :
    Rd P σ (.load T x) ty w (.bool z) := by
  obtain ⟨v, h1, h2⟩ := rd_load (P := P) (σ := σ) (ty := ty) (T := T) hp hx hag hsz
  rw [h2.bool] at h1
  exact h1

/-- The field's place, of x where it lies. -/
theorem PtE.fst {α β : Type} {t : Ty α} {u : Ty β} {z : α × β} {p : Value} {F : List (Option Nat)} (hp : PtE (tP t u) z p F w) : PtE t z.1 p F w := by
  obtain ⟨b, o, es, h1, ⟨c, d, rfl, h2, h3⟩, h4, h5, h6⟩ := hp
  refine ⟨b, o, c, h1, h2, h4, h5, fun j v hj => h6 j v ?_⟩
  rw [List.getElem?_append_left (List.getElem?_eq_some_iff.1 hj).1]
  exact hj

/-- A load out of a variable of the call's own, one cell. -/
theorem rd_loadX {g : Nat} {e : TypeId} {cs : List Value} {o : Nat} {v : Value} (hS : St w0 O w obs) (i : Nat) (hi : obs[i]? = some (.box g e cs)) (hx : ev σ x = .pointer (some ⟨g, o, none⟩)) (hc : cs[o]? = some v)
    (hag : ∀ w', (isAgg T).run P w' = .ok false w') : Rd P σ (.load T x) ty w v := by
  intro w' hw'
  have hb := hS.get i hi
  have hl : (loadVar T ⟨g, o, none⟩).run P w' = .ok v w' := run_load1 hag (by
    rw [cell_of_row w' g o _ e (0, 0) ((hw'.block g (Array.getElem?_eq_some_iff.1 hb.2).1).trans hb.2)]
    simpa using hc)
  simp [xop, execOp, hx, Instr.loadAt, Instr.sureAddr, hl]

/-- A load out of a variable of the call's own, a struct or an array. -/
theorem rd_loadXs {g : Nat} {e : TypeId} {cs : List Value} {o sz : Nat} {ds : List Value} (hS : St w0 O w obs) (i : Nat) (hi : obs[i]? = some (.box g e cs)) (hx : ev σ x = .pointer (some ⟨g, o, none⟩))
    (hc : (cs.drop o).take sz = ds) (hl : ds.length = sz) (hag : ∀ w', (isAgg T).run P w' = .ok true w') (hsz : ∀ w', (sizeOf T).run P w' = .ok sz w') : Rd P σ (.load T x) ty w (.agg ds.toArray) := by
  intro w' hw'
  have hb := hS.get i hi
  have hl : (loadVar T ⟨g, o, none⟩).run P w' = .ok (.agg ds.toArray) w' := run_loadN hag (by rw [hl]; exact hsz) (fun j u hu => by
    rw [Addr.add_lit, cell_of_row w' g (o + j) _ e (0, 0) ((hw'.block g (Array.getElem?_eq_some_iff.1 hb.2).1).trans hb.2)]
    rw [← hc, List.getElem?_take] at hu
    split at hu
    · rw [List.getElem?_drop] at hu
      simpa using hu
    · cases hu)
  simp [xop, execOp, hx, Instr.loadAt, Instr.sureAddr, hl]

/-- What lies in a slice of the call's own. -/
theorem PtE.row {α : Type} {t : Ty α} {e : TypeId} {v : Value} {ys : List α} {z : α} {g j : Nat} (hS : St w0 O w obs) (i : Nat) (hi : obs[i]? = some (.row t e v ys)) (hg : v.ownBlock = some g) (hz : ys[j]? = some z) :
    ∃ es, t.rep (fb obs O) w z es ∧ g < w.heap.size ∧ ∀ q u, es[q]? = some u → w.cell? ⟨g, j * t.n + q, none⟩ = some u := by
  obtain ⟨cs, hr, hR⟩ := hS.get i hi
  obtain ⟨es, h1, h2⟩ := row_els hr hR (Mv.refl _ _) hg j z hz
  exact ⟨es, h1, (hr.lt g hg).2, fun q u hu => by have := h2 q u hu; rwa [Nat.zero_add] at this⟩

/-- A load out of a slice of the call's own. -/
theorem rd_loadR {α : Type} {t : Ty α} {e : TypeId} {v : Value} {ys : List α} {z : α} {g j : Nat} (hS : St w0 O w obs) (i : Nat) (hi : obs[i]? = some (.row t e v ys)) (hg : v.ownBlock = some g)
    (hx : ev σ x = .pointer (some ⟨g, j * t.n, none⟩)) (hz : ys[j]? = some z) (hag : ∀ w', (isAgg T).run P w' = .ok t.agg w') (hsz : ∀ w', (sizeOf T).run P w' = .ok t.n w') :
    ∃ u, Rd P σ (.load T x) ty w u ∧ V t z u (fb obs O) w := by
  obtain ⟨es, h1, h2, h4⟩ := PtE.row hS i hi hg hz
  have hlen := t.len h1
  refine ⟨t.val es, fun w' hw' => ?_, es, rfl, h1⟩
  have hc : ∀ q u, es[q]? = some u → w'.cell? ⟨g, j * t.n + q, none⟩ = some u := fun q u hu => (World.cell?_of_block (hw'.block g h2)).trans (h4 q u hu)
  cases hgg : t.agg with
  | false =>
    have hn := t.flat hgg
    match es, hlen, hc with
    | [u], _, hc =>
      have := hc 0 u rfl
      have hl := run_load1 (P := P) (T := T) (w' := w') (ad := ⟨g, j * t.n, none⟩) (by rw [← hgg]; exact hag) (by simpa using this)
      simp [xop, execOp, hx, Instr.loadAt, Instr.sureAddr, hl, Ty.val, hgg]
    | [], hl, _ => simp [hn] at hl
    | _ :: _ :: _, hl, _ => simp [hn] at hl
  | true =>
    have hl := run_loadN (P := P) (T := T) (w' := w') (ad := ⟨g, j * t.n, none⟩) (cs := es) (by rw [← hgg]; exact hag) (by rw [hlen]; exact hsz) (fun q u hu => by rw [Addr.add_lit]; exact hc q u hu)
    simp [xop, execOp, hx, Instr.loadAt, Instr.sureAddr, hl, Ty.val, hgg]
theorem rd_loadRI {e : TypeId} {v : Value} {ys : List Int} {z : Int} {g j : Nat} (hS : St w0 O w obs) (i : Nat) (hi : obs[i]? = some (.row (tI k) e v ys)) (hg : v.ownBlock = some g)
    (hx : ev σ x = .pointer (some ⟨g, j * 1, none⟩)) (hz : ys[j]? = some z) (hag : ∀ w', (isAgg T).run P w' = .ok false w') (hsz : ∀ w', (sizeOf T).run P w' = .ok 1 w') : Rd P σ (.load T x) ty w (.int k z) := by
  obtain ⟨u, h1, h2⟩ := rd_loadR (P := P) (σ := σ) (ty := ty) (T := T) hS i hi hg hx hz hag hsz
  rw [h2.int.1] at h1
  exact h1
/-- What lies in it fits its kind. -/
theorem St.rowInK {e : TypeId} {v : Value} {ys : List Int} {z : Int} {j : Nat} (hS : St w0 O w obs) (i : Nat) (hi : obs[i]? = some (.row (tI k) e v ys)) (hz : ys[j]? = some z) : InK k z := by
  obtain ⟨cs, hr, hR⟩ := hS.get i hi
  exact (hR.2 j z hz).2
theorem St.rowOne {α : Type} {t : Ty α} {e : TypeId} {v : Value} {ys : List α} (hS : St w0 O w obs) (i : Nat) (hi : obs[i]? = some (.row t e v ys)) : v.oneCell' = true := by
  obtain ⟨cs, hr, hR⟩ := hS.get i hi
  obtain ⟨_, _, rfl, h1, h2⟩ := ownsRow_form hr
  rfl
theorem V.oneC {α : Type} {t : Ty α} {xs : List α} {v : Value} {F : List (Option Nat)} (hv : V (tSl t) xs v F w) : v.oneCell' = true := by
  obtain ⟨ad, cap, rfl, _⟩ := hv.form
  rfl
theorem V.len63 {α : Type} {t : Ty α} {xs : List α} {v : Value} {F : List (Option Nat)} (hv : V (tSl t) xs v F w) : xs.length ≤ 9223372036854775807 := by
  have := hv.lenLe
  simpa only [maxLen] using this
theorem cells_one {v : Value} (h : v.oneCell' = true) : v.cells = #[v] := by
  cases v <;> first | rfl | (simp [Value.oneCell'] at h)
theorem boxAt {g : Nat} {e : TypeId} {cs : List Value} {w' : World} (hS : St w0 O w obs) (i : Nat) (hi : obs[i]? = some (.box g e cs)) (hx : Ext w w') : w'.heap[g]? = some (.cells cs.toArray e (0, 0)) := by
  have hb := hS.get i hi
  exact (hx.block g (Array.getElem?_eq_some_iff.1 hb.2).1).trans hb.2
theorem extAt {g : Nat} {e : TypeId} {cs : Array Value} {w' : World} (hb : w.heap[g]? = some (.cells cs e (0, 0))) (hx : Ext w w') : w'.heap[g]? = some (.cells cs e (0, 0)) :=
  (hx.block g (Array.getElem?_eq_some_iff.1 hb).1).trans hb
theorem one_nil : ∀ u ∈ ([] : List Value), u.oneCell' = true := by simp
theorem one_cons {v : Value} {cs : List Value} (h : v.oneCell' = true) (hs : ∀ u ∈ cs, u.oneCell' = true) : ∀ u ∈ v :: cs, u.oneCell' = true := by
  intro u hu
  rcases List.mem_cons.1 hu with rfl | hu
  · exact h
  · exact hs u hu
theorem St.rowLen {α : Type} {t : Ty α} {e : TypeId} {v : Value} {ys : List α} (hS : St w0 O w obs) (i : Nat) (hi : obs[i]? = some (.row t e v ys)) : ys.length ≤ maxLen := by
  obtain ⟨cs, hr, hR⟩ := hS.get i hi
  obtain ⟨_, _, _, h1, h2⟩ := ownsRow_form hr
  omega

/-- A load of a variable of somebody else's, known when the call began. -/
theorem rd_loadO {g : Nat} {e : TypeId} {cs : Array Value} {fr : Nat × Nat} {o : Nat} {v : Value} {wb : World} (hb : wb.heap[g]? = some (.cells cs e fr)) (hbw : Ext wb w) (hx : ev σ x = .pointer (some ⟨g, o, none⟩))
    (hc : cs[o]? = some v) (hag : ∀ w', (isAgg T).run P w' = .ok false w') : Rd P σ (.load T x) ty w v := by
  intro w' hw'
  have hlt := (Array.getElem?_eq_some_iff.1 hb).1
  have hb' := ((Ext.trans hbw hw').block g hlt).trans hb
  have hl : (loadVar T ⟨g, o, none⟩).run P w' = .ok v w' := run_load1 hag (by rw [cell_of_row w' g o _ e fr hb']; exact hc)
  simp [xop, execOp, hx, Instr.loadAt, Instr.sureAddr, hl]

/-- A cell of an array value. -/
theorem rd_indexV {s e : TypeId} {len : Nat} {cs : Array Value} {n : Int} {v : Value} (hx : ev σ x = .agg cs) (hi : ev σ y = .int k n) (hu : P.underlying s = some (.array len e)) (hsz : ∀ w', (sizeOf e).run P w' = .ok 1 w')
    (hag : ∀ w', (isAgg e).run P w' = .ok false w') (h0 : 0 ≤ n) (h1 : n < len) (hc : cs[n.toNat]? = some v) : Rd P σ (.index s x y) ty w v :=
  Rd.of fun w' => by
    simp [xop, execOp, hx, hi, Instr.index, run_underlying hu, asIntOf, h0, h1, hsz, part, hag, hc]

/-- A byte of a string. -/
theorem rd_indexS {s : TypeId} {z : ByteArray} {n : Int} {c : UInt8} (hx : ev σ x = .string z) (hi : ev σ y = .int k n) (hu : P.underlying s = some .string) (h0 : 0 ≤ n) (hc : z[n.toNat]? = some c) :
    Rd P σ (.index s x y) ty w (.int .u8 c.toNat) :=
  Rd.of fun w' => by
    simp [xop, execOp, hx, hi, Instr.index, run_underlying hu, asIntOf, h0, hc]

/-- A struct or an array out of its parts. -/
theorem rd_build {t : TypeId} {ps : List (Nat × Operand)} {vs : List (Nat × Value)} {cs : Array Value} (hp : ps.map (fun p => (p.1, ev σ p.2)) = vs) (hb : P.built t vs = some cs) : Rd P σ (.build t ps.toArray) ty w (.agg cs) :=
  Rd.of fun w' => by
    have := run_build (P := P) w' t vs.toArray cs (by simpa using hb)
    show (do let v ← Instr.build t (ps.toArray.map fun (i, x) => (i, ev σ x)); pure (Next.value v) : Sem Next).run P w' = _
    rw [show (ps.toArray.map fun (i, x) => (i, ev σ x)) = vs.toArray by rw [← hp]; simp]
    simp [this]

/-- A table's entry. -/
def tabAt (t : ByteArray) (x : Int) : Int := ((t.data.toList.getD x.toNat 0).toNat : Int)
theorem tabAt_bd (t : ByteArray) (x : Int) : 0 ≤ tabAt t x ∧ tabAt t x ≤ 255 := by
  unfold tabAt
  have := UInt8.toNat_lt (t.data.toList.getD x.toNat 0)
  omega

theorem rd_indexS' {s : TypeId} {z : ByteArray} {n : Int} (hx : ev σ x = .string z) (hi : ev σ y = .int k n) (hu : P.underlying s = some .string) (h0 : 0 ≤ n) (h1 : n < z.size) :
    Rd P σ (.index s x y) ty w (.int .u8 (tabAt z n)) := by
  show Rd P σ (.index s x y) ty w (.int .u8 ((z.data.toList.getD n.toNat 0).toNat : Int))
  have hlt : n.toNat < z.size := by omega
  have hc : z[n.toNat]? = some (z.data.toList.getD n.toNat 0) := by
    have h2 : n.toNat < z.data.size := hlt
    show (if h : n.toNat < z.size then some z[n.toNat] else none) = _
    rw [dif_pos hlt]
    have h3 : z.data.toList.getD n.toNat 0 = z.data[n.toNat]'h2 := by
      rw [List.getD_eq_getElem?_getD, Array.getElem?_toList, Array.getElem?_eq_getElem h2]; rfl
    rw [h3]
    rfl
  exact Rd.of fun w' => by
    simp only [xop, execOp, hx, hi, Instr.index, Sem.run_bind, run_underlying hu, asIntOf, Result.andThen_ok, Sem.run_pure]
    rw [if_pos h0, hc]
    rfl

/-- A new slice, of the caller's own from now on. -/
def Fresh {α : Type} (t : Ty α) (e : TypeId) (ys : List α) (v : Value) (base : Nat) (w : World) : Prop := ∃ cs, w.ownsRow base e t.n v ys.length cs ∧ ∀ F, Reps t F w ys cs
theorem flat_int {k : IntKind} {F F' : List (Option Nat)} {x : Int} {cs : List Value} (h : (tI k).rep F w x cs) : (tI k).rep F' w x cs := h
theorem flat_i2 {k k' : IntKind} {F F' : List (Option Nat)} {x : Int × Int} {cs : List Value} (h : (tP (tI k) (tI k')).rep F w x cs) : (tP (tI k) (tI k')).rep F' w x cs := h
theorem St.fr {α : Type} {t : Ty α} {e : TypeId} {v : Value} {ys : List α} (hS : St w0 O w obs) (i : Nat) (hi : obs[i]? = some (.row t e v ys)) (hf : ∀ {F F' x cs}, t.rep F w x cs → t.rep F' w x cs) : Fresh t e ys v w0.heap.size w := by
  obtain ⟨cs, h1, h2⟩ := hS.get i hi
  exact ⟨cs, h1, fun F => ⟨h2.1, fun i y hy => hf (h2.2 i y hy)⟩⟩
theorem St.pushFr {α : Type} {t : Ty α} {e : TypeId} {v : Value} {ys : List α} {w' : World} (hS : St w0 O w obs) (hx : Ext w w') (h : Fresh t e ys v w.heap.size w') : St w0 O w' (.row t e v ys :: obs) := by
  obtain ⟨cs, h1, h2⟩ := h
  refine hS.push hx _ (fun b hb => (h1.lt b hb).1) (fun F _ => ⟨cs, ⟨h1.1, ?_⟩, h2 F⟩)
  rcases h1.2 with hn | ⟨g, cap, cur, e1, e2, e3⟩
  · exact .inl hn
  · exact .inr ⟨g, cap, cur, e1, Nat.le_trans hS.bel.size e2, e3⟩

/-! ### Slices of slices -/
theorem V.sub {α : Type} {t : Ty α} {xs : List α} {ad : Option Addr} {cap : Nat} {F : List (Option Nat)} (hv : V (tSl t) xs (.slice ad xs.length cap) F w) {l h m : Nat} (h1 : l ≤ h) (h2 : h ≤ xs.length) (h3 : h ≤ m) (h4 : m ≤ cap) :
    V (tSl t) ((xs.drop l).take (h - l)) (sliced ad l h m t.n) F w := by
  obtain ⟨a', cap', he, g1, g2, g3⟩ := hv.form
  injection he with e1 _ e2
  subst e1 e2
  have hlen : ((xs.drop l).take (h - l)).length = h - l := by simp; omega
  unfold sliced
  have key : V (tSl t) ((xs.drop l).take (h - l)) (.slice (if m = l then ad else ad.map (·.add (l * t.n))) ((xs.drop l).take (h - l)).length (m - l)) F w := by
    refine V.of_form (by omega) (by omega) fun hne => ?_
    have hlh : l < h := by
      rcases Nat.lt_or_ge l h with hq | hq
      · exact hq
      · exact (hne (List.eq_nil_of_length_eq_zero (by omega))).elim
    obtain ⟨b, o, rfl, k1, k2, k3⟩ := g3 (by intro hq; subst hq; simp at h2; omega)
    rw [if_neg (by omega)]
    refine ⟨b, o + l * t.n, by simp [Addr.add_lit], k1, k2, fun i z hz => ?_⟩
    rw [List.getElem?_take] at hz
    split at hz
    · rw [List.getElem?_drop] at hz
      obtain ⟨es, q1, q2⟩ := k3 _ _ hz
      refine ⟨es, q1, fun j u hu => ?_⟩
      have := q2 j u hu
      rwa [show o + (l + i) * t.n + j = o + l * t.n + i * t.n + j by rw [Nat.add_mul]; omega] at this
    · cases hz
  rw [hlen] at key
  exact key

theorem run_sliceV {T e : TypeId} {ad : Option Addr} {len cap sz : Nat} {lo hi mx : Option Value} {l h m : Nat} (hu : P.underlying T = some (.slice e)) (hsz : ∀ w', (sizeOf e).run P w' = .ok sz w')
    (hb : ∀ w', (Instr.sliceBounds true len cap lo hi mx).run P w' = .ok (l, h, m) w') (w' : World) : (Instr.sliceAt T (.slice ad len cap) lo hi mx).run P w' = .ok (sliced ad l h m sz) w' := by
  simp [Instr.sliceAt, run_underlying hu, Instr.slice, hb, hsz, sliced]

theorem bounds_lh {len cap : Nat} {k1 k2 : IntKind} {l h : Int} (h0 : 0 ≤ l) (h1 : l ≤ h) (h2 : h ≤ cap) (w' : World) :
    (Instr.sliceBounds true len cap (some (.int k1 l)) (some (.int k2 h)) none).run P w' = .ok (l.toNat, h.toNat, cap) w' := by
  have eh : (h.toNat : Int) = h := Int.toNat_of_nonneg (by omega)
  simp [Instr.sliceBounds, run_sliceBound, eh, h0, h1, h2, (by omega : 0 ≤ h)]
theorem bounds_h {len cap : Nat} {k2 : IntKind} {h : Int} (h1 : 0 ≤ h) (h2 : h ≤ cap) (w' : World) :
    (Instr.sliceBounds true len cap none (some (.int k2 h)) none).run P w' = .ok (0, h.toNat, cap) w' := by
  simp [Instr.sliceBounds, run_sliceBound, h1, h2]
theorem bounds_l {len cap : Nat} {k1 : IntKind} {l : Int} (h0 : 0 ≤ l) (h1 : l ≤ len) (w' : World) :
    (Instr.sliceBounds true len cap (some (.int k1 l)) none none).run P w' = .ok (l.toNat, len, cap) w' := by
  simp [Instr.sliceBounds, run_sliceBound, h0, h1]
theorem bounds_hm {len cap : Nat} {k2 k3 : IntKind} {h m : Int} (h1 : 0 ≤ h) (h2 : h ≤ m) (h3 : m ≤ cap) (w' : World) :
    (Instr.sliceBounds true len cap none (some (.int k2 h)) (some (.int k3 m))).run P w' = .ok (0, h.toNat, m.toNat) w' := by
  have em : (m.toNat : Int) = m := Int.toNat_of_nonneg (by omega)
  simp [Instr.sliceBounds, run_sliceBound, em, h1, h2, h3, (by omega : 0 ≤ m)]

section
variable {α : Type} {t : Ty α} {xs : List α} {v : Value} {F : List (Option Nat)} {e : TypeId} (hv : V (tSl t) xs v F w) (hu : P.underlying T = some (.slice e)) (hsz : ∀ w', (sizeOf e).run P w' = .ok t.n w') {z l h m : Operand} {i j q : Int} {k1 k2 k3 : IntKind}
include hv hu hsz

/-- x[i:j] -/
theorem rd_sliceLH (hx : ev σ z = v) (hl : ev σ l = .int k1 i) (hh : ev σ h = .int k2 j) (h0 : 0 ≤ i) (h1 : i ≤ j) (h2 : j ≤ xs.length) :
    ∃ u, Rd P σ (.slice T z (some l) (some h) none) ty w u ∧ V (tSl t) ((xs.drop i.toNat).take (j.toNat - i.toNat)) u F w := by
  obtain ⟨ad, cap, rfl, g1, g2, _⟩ := hv.form
  refine ⟨_, Rd.of fun w' => ?_, hv.sub (l := i.toNat) (h := j.toNat) (m := cap) (by omega) (by omega) (by omega) (Nat.le_refl _)⟩
  simp only [xop, execOp, hx, Option.map_some, Option.map_none, hl, hh, Sem.run_bind, run_sliceV hu hsz (bounds_lh (P := P) h0 h1 (by omega : j ≤ (cap : Int)))]
  rfl
/-- x[:j] -/
theorem rd_sliceH (hx : ev σ z = v) (hh : ev σ h = .int k2 j) (h1 : 0 ≤ j) (h2 : j ≤ xs.length) :
    ∃ u, Rd P σ (.slice T z none (some h) none) ty w u ∧ V (tSl t) (xs.take j.toNat) u F w := by
  obtain ⟨ad, cap, rfl, g1, g2, _⟩ := hv.form
  refine ⟨_, Rd.of fun w' => ?_, by simpa using hv.sub (l := 0) (h := j.toNat) (m := cap) (by omega) (by omega) (by omega) (Nat.le_refl _)⟩
  simp only [xop, execOp, hx, Option.map_some, Option.map_none, hh, Sem.run_bind, run_sliceV hu hsz (bounds_h (P := P) h1 (by omega : j ≤ (cap : Int)))]
  rfl
/-- x[i:] -/
theorem rd_sliceL (hx : ev σ z = v) (hl : ev σ l = .int k1 i) (h0 : 0 ≤ i) (h1 : i ≤ xs.length) :
    ∃ u, Rd P σ (.slice T z (some l) none none) ty w u ∧ V (tSl t) (xs.drop i.toNat) u F w := by
  obtain ⟨ad, cap, rfl, g1, g2, _⟩ := hv.form
  have := hv.sub (l := i.toNat) (h := xs.length) (m := cap) (by omega) (by omega) (by omega) (Nat.le_refl _)
  rw [List.take_of_length_le (by simp)] at this
  refine ⟨_, Rd.of fun w' => ?_, this⟩
  simp only [xop, execOp, hx, Option.map_some, Option.map_none, hl, Sem.run_bind, run_sliceV hu hsz (bounds_l (P := P) (cap := cap) h0 h1)]
  rfl
/-- x[:j:q] -/
theorem rd_sliceHM (hx : ev σ z = v) (hh : ev σ h = .int k2 j) (hm : ev σ m = .int k3 q) (h1 : 0 ≤ j) (h2 : j ≤ q) (h3 : q ≤ xs.length) :
    ∃ ad, Rd P σ (.slice T z none (some h) (some m)) ty w (.slice ad j.toNat q.toNat) ∧ V (tSl t) (xs.take j.toNat) (.slice ad j.toNat q.toNat) F w := by
  obtain ⟨ad, cap, rfl, g1, g2, _⟩ := hv.form
  refine ⟨(if q.toNat = 0 then ad else ad.map (·.add (0 * t.n))), Rd.of fun w' => ?_, by simpa [sliced] using hv.sub (l := 0) (h := j.toNat) (m := q.toNat) (by omega) (by omega) (by omega) (by omega)⟩
  simp only [xop, execOp, hx, Option.map_some, Option.map_none, hh, hm, Sem.run_bind, run_sliceV hu hsz (bounds_hm (P := P) h1 h2 (by omega : q ≤ (cap : Int)))]
  rfl
end

/-- s[i:j], s[i:], s[:j] of a string. -/
theorem rd_sliceS_LH {s : ByteArray} {z l h : Operand} {i j : Int} {k1 k2 : IntKind} (hu : P.underlying T = some .string) (hx : ev σ z = .string s) (hl : ev σ l = .int k1 i) (hh : ev σ h = .int k2 j) (h0 : 0 ≤ i) (h1 : i ≤ j) (h2 : j ≤ s.size) :
    Rd P σ (.slice T z (some l) (some h) none) ty w (.string (s.extract i.toNat j.toNat)) :=
  Rd.of fun w' => by
    have eh : (j.toNat : Int) = j := Int.toNat_of_nonneg (by omega)
    simp [xop, execOp, hx, hl, hh, Instr.sliceAt, run_underlying hu, Instr.slice, Instr.sliceBounds, run_sliceBound, eh, h0, h1, h2, (by omega : 0 ≤ j)]
theorem rd_sliceS_H {s : ByteArray} {z h : Operand} {j : Int} {k2 : IntKind} (hu : P.underlying T = some .string) (hx : ev σ z = .string s) (hh : ev σ h = .int k2 j) (h1 : 0 ≤ j) (h2 : j ≤ s.size) :
    Rd P σ (.slice T z none (some h) none) ty w (.string (s.extract 0 j.toNat)) :=
  Rd.of fun w' => by
    simp [xop, execOp, hx, hh, Instr.sliceAt, run_underlying hu, Instr.slice, Instr.sliceBounds, run_sliceBound, h1, h2]
theorem rd_sliceS_L {s : ByteArray} {z l : Operand} {i : Int} {k1 : IntKind} (hu : P.underlying T = some .string) (hx : ev σ z = .string s) (hl : ev σ l = .int k1 i) (h0 : 0 ≤ i) (h1 : i ≤ s.size) :
    Rd P σ (.slice T z (some l) none none) ty w (.string (s.extract i.toNat s.size)) :=
  Rd.of fun w' => by
    simp [xop, execOp, hx, hl, Instr.sliceAt, run_underlying hu, Instr.slice, Instr.sliceBounds, run_sliceBound, h0, h1]

/-- Two arrays of two numbers. -/
theorem run_equalA2 {s e : TypeId} {a b c d : Int} (hu : P.underlying s = some (.array 2 e)) (he : P.underlying e = some (.int k)) (hsz : ∀ w', (sizeOf e).run P w' = .ok 1 w') (n : Nat) (w' : World) :
    (Op.equalIn (n + 2) s (.agg #[.int k a, .int k b]) (.agg #[.int k c, .int k d])).run P w' = .ok (decide (a = c) && decide (b = d)) w' := by
  have hag : ∀ w', (isAgg e).run P w' = .ok false w' := fun w' => by simp [isAgg, run_underlying he]
  have hi : ∀ (x y : Int) w', (Op.equalIn (n + 1) e (.int k x) (.int k y)).run P w' = .ok (x == y) w' := fun x y w' => run_equalIn_int w' n e k k x y he
  rw [show n + 2 = (n + 1) + 1 from rfl]
  unfold Op.equalIn
  simp only [Sem.run_bind, run_underlying hu, Result.andThen_ok, hsz]
  by_cases h1 : a = c <;> by_cases h2 : b = d <;> simp [List.range', part, hag, hi, h1, h2]
theorem rd_neqA2 {s e : TypeId} {c d : Int} {a b : Int} (hx : ev σ x = .agg #[.int k a, .int k b]) (hy : ev σ y = .agg #[.int k c, .int k d]) (hu : P.underlying s = some (.array 2 e)) (he : P.underlying e = some (.int k))
    (hsz : ∀ w', (sizeOf e).run P w' = .ok 1 w') (hm : P.eqGuardType P.depth s = false) : Rd P σ (.binOp .neq s x y T') ty w (.bool (!(decide (a = c) && decide (b = d)))) :=
  Rd.of fun w' => by
    simp only [xop, execOp, hx, hy, Sem.run_bind, run_eqGuard_agg _ _ _ _ _ _ _ hm, Result.andThen_ok, run_neq_struct]
    rw [show (10000 : Nat) = 9998 + 2 from rfl, run_equalA2 hu he hsz]
    rfl
theorem rd_eqlA2 {s e : TypeId} {c d : Int} {a b : Int} (hx : ev σ x = .agg #[.int k a, .int k b]) (hy : ev σ y = .agg #[.int k c, .int k d]) (hu : P.underlying s = some (.array 2 e)) (he : P.underlying e = some (.int k))
    (hsz : ∀ w', (sizeOf e).run P w' = .ok 1 w') (hm : P.eqGuardType P.depth s = false) : Rd P σ (.binOp .eql s x y T') ty w (.bool (decide (a = c) && decide (b = d))) :=
  Rd.of fun w' => by
    simp only [xop, execOp, hx, hy, Sem.run_bind, run_eqGuard_agg _ _ _ _ _ _ _ hm, Result.andThen_ok, run_eql_struct]
    rw [show (10000 : Nat) = 9998 + 2 from rfl, run_equalA2 hu he hsz]
    rfl

/-- Two elements at the head of what is left. -/
theorem drop_ix {α : Type} {d : α} {xs : List α} {n : Int} (h0 : 0 ≤ n) (h1 : n < xs.length) : xs.drop n.toNat = ix d xs n :: xs.drop (n + 1).toNat := by
  have hlt : n.toNat < xs.length := by omega
  rw [List.drop_eq_getElem_cons hlt, show (n + 1).toNat = n.toNat + 1 by omega]
  simp [ix, hlt]
theorem drop_end {α : Type} {xs : List α} {n : Int} (h1 : (xs.length : Int) ≤ n) : xs.drop n.toNat = [] := List.drop_eq_nil_of_le (by omega)
theorem take_ix {α : Type} {d : α} {xs : List α} {n : Int} (h0 : 0 ≤ n) (h1 : n < xs.length) : xs.take (n + 1).toNat = xs.take n.toNat ++ [ix d xs n] := by
  have hlt : n.toNat < xs.length := by omega
  rw [show (n + 1).toNat = n.toNat + 1 by omega, List.take_succ_eq_append_getElem hlt]
  simp [ix, hlt]
theorem take_end {α : Type} {xs : List α} {n : Int} (h1 : (xs.length : Int) ≤ n) : xs.take n.toNat = xs := List.take_of_length_le (by omega)

/-- What an operation yields of which something is known. -/
theorem Wx.ex {n : Nat} {ops : Array Oper} {q : Bool} {rest : List Oper} {kc : Cont} {d : Tmp} {pos : String} {af : Array Edge} {l : List (Nat × Value)} {σ0 : Fr} {op : Op} {Q : Value → Prop}
    (hr : ∃ u, Rd P (look l σ0) op ty w u ∧ Q u) (hd : Nat.ble (d + 1) n = true) (h : ∀ u, Q u → Wx P n ops q rest kc (look ((d, u) :: l) σ0) w) : Wx P n ops q (⟨some d, op, ty, pos, af, none⟩ :: rest) kc (look l σ0) w := by
  obtain ⟨u, g1, g2⟩ := hr
  exact Wx.rd g1 hd (h u g2)
/-- An element of a slice of the call's own: its address. -/
theorem Wx.indexR {n : Nat} {ops : Array Oper} {q : Bool} {rest : List Oper} {kc : Cont} {d : Tmp} {pos : String} {af : Array Edge} {l : List (Nat × Value)} {σ0 : Fr}
    {α : Type} {t : Ty α} {et : TypeId} {v : Value} {ys : List α} {s e : TypeId} {m : Int} {k : IntKind} (hS : St w0 O w obs) (i : Nat) (hi : obs[i]? = some (.row t et v ys)) (hx : ev (look l σ0) x = v)
    (hy : ev (look l σ0) y = .int k m) (hu : P.underlying s = some (.slice e)) (hsz : ∀ w', (sizeOf e).run P w' = .ok t.n w') (h0 : 0 ≤ m) (h1 : m < ys.length) (hd : Nat.ble (d + 1) n = true)
    (h : ∀ g, v.ownBlock = some g → Wx P n ops q rest kc (look ((d, .pointer (some ⟨g, m.toNat * t.n, none⟩)) :: l) σ0) w) :
    Wx P n ops q (⟨some d, .indexAddr s x y, ty, pos, af, none⟩ :: rest) kc (look l σ0) w := by
  obtain ⟨g, g1, g2⟩ := rd_indexR (P := P) (σ := look l σ0) (ty := ty) hS i hi hx hy hu hsz h0 h1
  exact Wx.rd g2 hd (h g g1)
theorem rd_loadR' {α : Type} {t : Ty α} {e : TypeId} {v : Value} {ys : List α} {g : Nat} {m : Int} (dz : α) (hS : St w0 O w obs) (i : Nat) (hi : obs[i]? = some (.row t e v ys)) (hg : v.ownBlock = some g)
    (hx : ev σ x = .pointer (some ⟨g, m.toNat * t.n, none⟩)) (h0 : 0 ≤ m) (h1 : m < ys.length) (hag : ∀ w', (isAgg T).run P w' = .ok t.agg w') (hsz : ∀ w', (sizeOf T).run P w' = .ok t.n w') :
    ∃ u, Rd P σ (.load T x) ty w u ∧ V t (ix dz ys m) u (fb obs O) w := rd_loadR hS i hi hg hx (ix_get (d := dz) h1 h0) hag hsz
theorem St.rowInK' {e : TypeId} {v : Value} {ys : List Int} {m : Int} (hS : St w0 O w obs) (i : Nat) (hi : obs[i]? = some (.row (tI k) e v ys)) (h0 : 0 ≤ m) (h1 : m < ys.length) : InK k (ix 0 ys m) := hS.rowInK i hi (ix_get (d := 0) h1 h0)
theorem rd_loadRI' {e : TypeId} {v : Value} {ys : List Int} {g : Nat} {m : Int} (hS : St w0 O w obs) (i : Nat) (hi : obs[i]? = some (.row (tI k) e v ys)) (hg : v.ownBlock = some g)
    (hx : ev σ x = .pointer (some ⟨g, m.toNat * 1, none⟩)) (h0 : 0 ≤ m) (h1 : m < ys.length) (hag : ∀ w', (isAgg T).run P w' = .ok false w') (hsz : ∀ w', (sizeOf T).run P w' = .ok 1 w') : Rd P σ (.load T x) ty w (.int k (ix 0 ys m)) :=
  rd_loadRI hS i hi hg hx (ix_get (d := 0) h1 h0) hag hsz

/-- A struct of the call's own is handed back, and one value more. -/
theorem ResIs.cell2 {g : Nat} {e : TypeId} {cs : List Value} {s t : Tmp} {σ : Fr} (hS : St w0 O w obs) (i : Nat) (hi : obs[i]? = some (.box g e cs)) (hs : σ s = .pointer (some ⟨g, 0, none⟩))
    (hag : ∀ w', (isAgg T).run P w' = .ok true w') (hsz : ∀ w', (sizeOf T).run P w' = .ok cs.length w') : ResIs P #[.cell s T, .tmp t] σ w (.tuple #[.agg cs.toArray, σ t]) := by
  intro fn hf F n hT
  have hb := hS.get i hi
  have hl : (loadVar T ⟨g, 0, none⟩).run P w = .ok (.agg cs.toArray) w := run_loadN hag hsz (fun j u hu => by
    rw [Addr.add_lit, cell_of_row w g (0 + j) _ e (0, 0) hb.2]
    simpa using hu)
  have h1 := hT.2 s; have h2 := hT.2 t
  rw [hs] at h1
  simp only [Array.getD_eq_getD_getElem?] at h1 h2
  simp [results, hf, h1, h2, asAddr, hl]
theorem ResIs.cell1 {g : Nat} {e : TypeId} {cs : List Value} {s : Tmp} {σ : Fr} (hS : St w0 O w obs) (i : Nat) (hi : obs[i]? = some (.box g e cs)) (hs : σ s = .pointer (some ⟨g, 0, none⟩))
    (hag : ∀ w', (isAgg T).run P w' = .ok true w') (hsz : ∀ w', (sizeOf T).run P w' = .ok cs.length w') : ResIs P #[.cell s T] σ w (.agg cs.toArray) := by
  intro fn hf F n hT
  have hb := hS.get i hi
  have hl : (loadVar T ⟨g, 0, none⟩).run P w = .ok (.agg cs.toArray) w := run_loadN hag hsz (fun j u hu => by
    rw [Addr.add_lit, cell_of_row w g (0 + j) _ e (0, 0) hb.2]
    simpa using hu)
  have h1 := hT.2 s
  rw [hs] at h1
  simp only [Array.getD_eq_getD_getElem?] at h1
  simp [results, hf, h1, asAddr, hl]

/-- Two numbers, a number and a slice, where they lie one behind the other. -/
theorem V.i2 {k k' : IntKind} {z : Int × Int} {v : Value} {F : List (Option Nat)} (h : V (tP (tI k) (tI k')) z v F w) : v = .agg #[.int k z.1, .int k' z.2] ∧ InK k z.1 ∧ InK k' z.2 := by
  obtain ⟨cs, rfl, c, d, rfl, ⟨rfl, h1⟩, ⟨rfl, h2⟩⟩ := h
  exact ⟨rfl, h1, h2⟩
theorem V.mk2 {k k' : IntKind} {a b : Int} {F : List (Option Nat)} (h1 : InK k a) (h2 : InK k' b) : V (tP (tI k) (tI k')) (a, b) (.agg #[.int k a, .int k' b]) F w :=
  ⟨[.int k a, .int k' b], rfl, [.int k a], [.int k' b], rfl, ⟨rfl, h1⟩, ⟨rfl, h2⟩⟩
end
end Go.Wk
