import Derived.Test.YtpgkbipnkkeicaaDoorSx2
import Derived.Laws.Small
import Derived.Lib.SliceRun
/-! The rules for the operations that only compute or read. -/
namespace Go.Sx
open Go

/-! ### What is told of types, each once a program -/
class TySl (P : Program) (T : TypeId) (e sz : outParam Nat) : Prop where
  u : P.underlying T = some (.slice e)
  s : (P.info? e).map (·.size) = some sz
class TyArr (P : Program) (T : TypeId) (len e sz : outParam Nat) : Prop where
  u : P.underlying T = some (.array len e)
  s : (P.info? e).map (·.size) = some sz
class TyInt (P : Program) (T : TypeId) (k : outParam IntKind) : Prop where
  u : P.underlying T = some (.int k)
class TyStr (P : Program) (T : TypeId) : Prop where
  u : P.underlying T = some .string
class TyBool (P : Program) (T : TypeId) : Prop where
  u : P.underlying T = some .bool
/-- of one cell -/
class TyOne (P : Program) (T : TypeId) : Prop where
  a : (match P.underlying T with | some (.struct _) | some (.array _ _) | none => false | _ => true) = true
  s : (P.info? T).map (·.size) = some 1
/-- a struct or an array -/
class TyAgg (P : Program) (T : TypeId) (sz : outParam Nat) : Prop where
  a : (match P.underlying T with | some (.struct _) | some (.array _ _) => true | _ => false) = true
  s : (P.info? T).map (·.size) = some sz
def fldB (P : Program) (S i off ft sz : Nat) : Bool :=
  match P.underlying S with
  | some (.struct fs) => match fs[i]? with
    | some f => f.offset == off && f.type == ft && (match P.info? ft with | some j => j.size == sz && !(sz == 0) | none => false)
    | none => false
  | _ => false
class TyFld (P : Program) (S i : Nat) (off ft sz : outParam Nat) : Prop where
  f : fldB P S i off ft sz = true
class TyZ (P : Program) (e : TypeId) (z : outParam Value) (sz bytes : outParam Nat) : Prop where
  i : (P.info? e).map (fun i => (i.zero, i.size, i.bytes)) = some (some z, sz, bytes)
  z : z.cells.size = sz

section
variable {P : Program} {env : Env} {I : IH} {rs : List Row} {d : Option Tmp} {ty : TypeId} {pos : String} {aft : Array Edge} {g : Option (Nat × Bool)}

theorem run_und {T : TypeId} {u : TypeDesc} (h : P.underlying T = some u) (w : World) : (underlying T).run P w = .ok u w := by simp [underlying, h]
theorem run_size {e sz : Nat} (h : (P.info? e).map (·.size) = some sz) (w : World) : (sizeOf e).run P w = .ok sz w := by
  cases hi : P.info? e with
  | none => rw [hi] at h; cases h
  | some i => rw [hi] at h; simp at h; simp [sizeOf, typeInfo, hi, h]

theorem LV.move {x : Operand} {v : Value} (h : opd env x = some v) : LV P env ⟨d, .move x, ty, pos, aft, g⟩ v [] := .mk fun a w ho _ => by
  simp [execOp, ho x (by simp [Op.operands]) v h]
theorem LV.assign {x : Operand} {v : Value} (h : opd env x = some v) : LV P env ⟨d, .assign x, ty, pos, aft, g⟩ v [] := .mk fun a w ho _ => by
  simp [execOp, ho x (by simp [Op.operands]) v h]
theorem LV.pickT {c x y : Operand} {b : Bool} {v : Value} (hc : opd env c = some (.bool b)) (hb : b = true) (h : opd env x = some v) : LV P env ⟨d, .pick c x y, ty, pos, aft, g⟩ v [] := .mk fun a w ho _ => by
  subst hb
  simp [execOp, ho c (by simp [Op.operands]) _ hc, ho x (by simp [Op.operands]) v h, asBool]
theorem LV.pickF {c x y : Operand} {b : Bool} {v : Value} (hc : opd env c = some (.bool b)) (hb : b = false) (h : opd env y = some v) : LV P env ⟨d, .pick c x y, ty, pos, aft, g⟩ v [] := .mk fun a w ho _ => by
  subst hb
  simp [execOp, ho c (by simp [Op.operands]) _ hc, ho y (by simp [Op.operands]) v h, asBool]

/-! ### Numbers -/
def cmpI : BinOp → Int → Int → Option Bool
  | .eql, x, y => some (x == y)
  | .neq, x, y => some (x != y)
  | .lss, x, y => some (decide (x < y))
  | .leq, x, y => some (decide (x ≤ y))
  | .gtr, x, y => some (decide (y < x))
  | .geq, x, y => some (decide (y ≤ x))
  | _, _, _ => none
theorem LV.cmp {op : BinOp} {T T' : TypeId} {x y : Operand} {k : IntKind} {m n : Int} {b : Bool} (hx : opd env x = some (.int k m)) (hy : opd env y = some (.int k n)) (h : cmpI op m n = some b) :
    LV P env ⟨d, .binOp op T x y T', ty, pos, aft, g⟩ (.bool b) [] := .mk fun a w ho _ => by
  have h1 := ho x (by simp [Op.operands]) _ hx
  have h2 := ho y (by simp [Op.operands]) _ hy
  cases op <;> simp only [cmpI, Option.some.injEq, reduceCtorEq] at h <;> subst h <;> simp [execOp, h1, h2, eqGuard, binOp, Op.intCmp]

def arI : BinOp → Int → Int → Option Int
  | .add, x, y => some (x + y)
  | .sub, x, y => some (x - y)
  | .mul, x, y => some (x * y)
  | _, _, _ => none
theorem LV.ar {op : BinOp} {T T' : TypeId} {x y : Operand} {k : IntKind} {m n r : Int} (hx : opd env x = some (.int k m)) (hy : opd env y = some (.int k n)) (h : arI op m n = some r) :
    LV P env ⟨d, .binOp op T x y T', ty, pos, aft, g⟩ (.int k (k.wrap r)) [] := .mk fun a w ho _ => by
  have h1 := ho x (by simp [Op.operands]) _ hx
  have h2 := ho y (by simp [Op.operands]) _ hy
  cases op <;> simp only [arI, Option.some.injEq, reduceCtorEq] at h <;> subst h <;> simp [execOp, h1, h2, eqGuard, binOp, Op.intArith]
/-- Nothing wraps. -/
def Fits : IntKind → Int → Prop
  | .i64, r => -9223372036854775808 ≤ r ∧ r ≤ 9223372036854775807
  | .u64, r => 0 ≤ r ∧ r ≤ 18446744073709551615
  | .u32, r => 0 ≤ r ∧ r ≤ 4294967295
  | .u8, r => 0 ≤ r ∧ r ≤ 255
  | .i32, r => -2147483648 ≤ r ∧ r ≤ 2147483647
  | .u16, r => 0 ≤ r ∧ r ≤ 65535
  | .i16, r => -32768 ≤ r ∧ r ≤ 32767
  | .i8, r => -128 ≤ r ∧ r ≤ 127
theorem Fits.wrap {k : IntKind} {r : Int} (h : Fits k r) : k.wrap r = r := by
  cases k <;> simp only [Fits] at h <;> simp only [IntKind.wrap, IntKind.bits, IntKind.signed] <;> simp <;> (try split) <;> omega
theorem LV.arN {op : BinOp} {T T' : TypeId} {x y : Operand} {k : IntKind} {m n r : Int} (hx : opd env x = some (.int k m)) (hy : opd env y = some (.int k n)) (h : arI op m n = some r) (hf : Fits k r) :
    LV P env ⟨d, .binOp op T x y T', ty, pos, aft, g⟩ (.int k r) [] := by
  have := LV.ar (P := P) (d := d) (ty := ty) (pos := pos) (aft := aft) (g := g) (T := T) (T' := T') hx hy h
  rwa [hf.wrap] at this
theorem LV.quo {T T' : TypeId} {x y : Operand} {k : IntKind} {m n : Int} (hx : opd env x = some (.int k m)) (hy : opd env y = some (.int k n)) (hn : n ≠ 0) :
    LV P env ⟨d, .binOp .quo T x y T', ty, pos, aft, g⟩ (.int k (k.wrap (m.tdiv n))) [] := .mk fun a w ho _ => by
  have h1 := ho x (by simp [Op.operands]) _ hx
  have h2 := ho y (by simp [Op.operands]) _ hy
  simp [execOp, h1, h2, eqGuard, binOp, Op.intDiv, hn]
theorem LV.rem {T T' : TypeId} {x y : Operand} {k : IntKind} {m n : Int} (hx : opd env x = some (.int k m)) (hy : opd env y = some (.int k n)) (hn : n ≠ 0) :
    LV P env ⟨d, .binOp .rem T x y T', ty, pos, aft, g⟩ (.int k (m.tmod n)) [] := .mk fun a w ho _ => by
  have h1 := ho x (by simp [Op.operands]) _ hx
  have h2 := ho y (by simp [Op.operands]) _ hy
  simp [execOp, h1, h2, eqGuard, binOp, Op.intDiv, hn]
/-- of numbers that are not below 0, as naturals are divided -/
theorem LV.quoN {T T' : TypeId} {x y : Operand} {k : IntKind} {m n : Int} (hx : opd env x = some (.int k m)) (hy : opd env y = some (.int k n)) (hm : 0 ≤ m) (hn : 0 < n) (hf : Fits k m) :
    LV P env ⟨d, .binOp .quo T x y T', ty, pos, aft, g⟩ (.int k (m / n)) [] := by
  have h := LV.quo (P := P) (d := d) (ty := ty) (pos := pos) (aft := aft) (g := g) (T := T) (T' := T') hx hy (by omega)
  have h1 : m.tdiv n = m / n := Int.tdiv_eq_ediv_of_nonneg hm
  have h2 : 0 ≤ m / n := Int.ediv_nonneg hm (by omega)
  have h3 : m / n ≤ m := Int.ediv_le_self _ hm
  have h4 : Fits k (m / n) := by cases k <;> simp only [Fits] at hf ⊢ <;> omega
  rwa [h1, h4.wrap] at h
theorem LV.remN {T T' : TypeId} {x y : Operand} {k : IntKind} {m n : Int} (hx : opd env x = some (.int k m)) (hy : opd env y = some (.int k n)) (hm : 0 ≤ m) (hn : n ≠ 0) :
    LV P env ⟨d, .binOp .rem T x y T', ty, pos, aft, g⟩ (.int k (m % n)) [] := by
  have h := LV.rem (P := P) (d := d) (ty := ty) (pos := pos) (aft := aft) (g := g) (T := T) (T' := T') hx hy hn
  rwa [Int.tmod_eq_emod_of_nonneg hm] at h
/-- Bits, of numbers as naturals. -/
def bitN : BinOp → IntKind → Nat → Nat → Option Nat
  | .and, _, x, y => some (x &&& y)
  | .or, _, x, y => some (x ||| y)
  | .xor, _, x, y => some (x ^^^ y)
  | .andNot, k, x, y => some (x &&& (2 ^ k.bits - 1 - y))
  | _, _, _, _ => none
theorem LV.bit {op : BinOp} {T T' : TypeId} {x y : Operand} {k : IntKind} {m n : Int} {r : Nat} (hx : opd env x = some (.int k m)) (hy : opd env y = some (.int k n))
    (hm : 0 ≤ m) (hm' : m.toNat < 2 ^ k.bits) (hn : 0 ≤ n) (hn' : n.toNat < 2 ^ k.bits) (hr : bitN op k m.toNat n.toNat = some r) (hf : Fits k r) :
    LV P env ⟨d, .binOp op T x y T', ty, pos, aft, g⟩ (.int k (r : Int)) [] := .mk fun a w ho _ => by
  have h1 := ho x (by simp [Op.operands]) _ hx
  have h2 := ho y (by simp [Op.operands]) _ hy
  obtain ⟨m', rfl⟩ := Int.eq_ofNat_of_zero_le hm
  obtain ⟨n', rfl⟩ := Int.eq_ofNat_of_zero_le hn
  simp only [Int.toNat_natCast] at *
  have e1 : BitVec.ofInt k.bits (m' : Int) = BitVec.ofNat k.bits m' := BitVec.ofInt_natCast ..
  have e2 : BitVec.ofInt k.bits (n' : Int) = BitVec.ofNat k.bits n' := BitVec.ofInt_natCast ..
  have hnot : (2 ^ k.bits - 1 - n') % 2 ^ k.bits = 2 ^ k.bits - 1 - n' := Nat.mod_eq_of_lt (by omega)
  cases op <;> simp only [bitN, Option.some.injEq, reduceCtorEq] at hr <;> subst hr <;>
    simp [execOp, h1, h2, eqGuard, binOp, Op.intBits, Nat.mod_eq_of_lt hm', Nat.mod_eq_of_lt hn'] <;> simpa using hf.wrap
theorem LV.shl {T T' : TypeId} {x y : Operand} {k k' : IntKind} {m n : Int} (hx : opd env x = some (.int k m)) (hy : opd env y = some (.int k' n)) (hn : 0 ≤ n) :
    LV P env ⟨d, .binOp .shl T x y T', ty, pos, aft, g⟩ (.int k (k.wrap (m * 2 ^ min n.toNat k.bits))) [] := .mk fun a w ho _ => by
  have h1 := ho x (by simp [Op.operands]) _ hx
  have h2 := ho y (by simp [Op.operands]) _ hy
  simp [execOp, h1, h2, eqGuard, binOp, Op.shift, show ¬ n < 0 from by omega]
theorem LV.shr {T T' : TypeId} {x y : Operand} {k k' : IntKind} {m n : Int} (hx : opd env x = some (.int k m)) (hy : opd env y = some (.int k' n)) (hn : 0 ≤ n) :
    LV P env ⟨d, .binOp .shr T x y T', ty, pos, aft, g⟩ (.int k (m / 2 ^ min n.toNat k.bits)) [] := .mk fun a w ho _ => by
  have h1 := ho x (by simp [Op.operands]) _ hx
  have h2 := ho y (by simp [Op.operands]) _ hy
  simp [execOp, h1, h2, eqGuard, binOp, Op.shift, show ¬ n < 0 from by omega]
  exact Int.fdiv_eq_ediv_of_nonneg _ (Int.le_of_lt (Int.pow_pos (by omega)))
theorem LV.neg {T : TypeId} {x : Operand} {k : IntKind} {m : Int} (hx : opd env x = some (.int k m)) : LV P env ⟨d, .unOp .neg T x, ty, pos, aft, g⟩ (.int k (k.wrap (0 - m))) [] := .mk fun a w ho _ => by
  simp [execOp, ho x (by simp [Op.operands]) _ hx, Op.unary, Op.intArith]
theorem LV.negN {T : TypeId} {x : Operand} {k : IntKind} {m : Int} (hx : opd env x = some (.int k m)) (hf : Fits k (-m)) : LV P env ⟨d, .unOp .neg T x, ty, pos, aft, g⟩ (.int k (-m)) [] := by
  have h := LV.neg (P := P) (d := d) (ty := ty) (pos := pos) (aft := aft) (g := g) (T := T) hx
  rwa [show (0 - m) = -m from by omega, hf.wrap] at h
theorem LV.not {T : TypeId} {x : Operand} {b : Bool} (hx : opd env x = some (.bool b)) : LV P env ⟨d, .unOp .not T x, ty, pos, aft, g⟩ (.bool (!b)) [] := .mk fun a w ho _ => by
  simp [execOp, ho x (by simp [Op.operands]) _ hx, Op.unary]
theorem LV.conv {S T : TypeId} {k k' : IntKind} [hS : TyInt P S k] [hT : TyInt P T k'] {x : Operand} {m : Int} (hx : opd env x = some (.int k m)) :
    LV P env ⟨d, .convert S T x, ty, pos, aft, g⟩ (.int k' (k'.wrap m)) [] := .mk fun a w ho _ => by
  simp [execOp, ho x (by simp [Op.operands]) _ hx, convert, run_und hS.u, run_und hT.u, Conv.intToInt]
theorem LV.convN {S T : TypeId} {k k' : IntKind} [hS : TyInt P S k] [hT : TyInt P T k'] {x : Operand} {m : Int} (hx : opd env x = some (.int k m)) (hf : Fits k' m) :
    LV P env ⟨d, .convert S T x, ty, pos, aft, g⟩ (.int k' m) [] := by
  have h := LV.conv (P := P) (d := d) (ty := ty) (pos := pos) (aft := aft) (g := g) (S := S) (T := T) hx
  rwa [hf.wrap] at h
theorem LV.eqBool {T T' : TypeId} {x y : Operand} {b c : Bool} (hx : opd env x = some (.bool b)) (hy : opd env y = some (.bool c)) [hT : TyBool P T] :
    LV P env ⟨d, .binOp .eql T x y T', ty, pos, aft, g⟩ (.bool (b == c)) [] := .mk fun a w ho _ => by
  simp only [execOp, ho x (by simp [Op.operands]) _ hx, ho y (by simp [Op.operands]) _ hy]
  simp [eqGuard, run_eql_bool (P := P) w T b c hT.u]
theorem LV.eqNil {T T' : TypeId} {e sz : Nat} [hT : TySl P T e sz] {x y : Operand} {A : Option Addr} {n c n' c' : Nat} (hx : opd env x = some (.slice A n c)) (hy : opd env y = some (.slice none n' c')) :
    LV P env ⟨d, .binOp .eql T x y T', ty, pos, aft, g⟩ (.bool A.isNone) [] := .mk fun a w ho _ => by
  have h1 := ho x (by simp [Op.operands]) _ hx
  have h2 := ho y (by simp [Op.operands]) _ hy
  simp only [execOp, h1, h2]
  simp [eqGuard, Lib.run_eql_slice_nil (P := P) w T e A n c n' c' hT.u]

/-! ### Slices, arrays, structs -/
theorem LV.len {T : TypeId} {e sz : Nat} [hT : TySl P T e sz] {x : Operand} {A : Option Addr} {n c : Nat} (hx : opd env x = some (.slice A n c)) :
    LV P env ⟨d, .call { callee := .builtin .len, args := #[x], argTypes := #[T] }, ty, pos, aft, g⟩ (.int .i64 (n : Int)) [] := .mk fun a w ho _ => by
  simp [execOp, resolve, invoke, builtin, Builtin.len_, ho x (by simp [Op.operands, Call.operands]) _ hx, run_und hT.u, goInt]
theorem LV.cap {T : TypeId} {e sz : Nat} [hT : TySl P T e sz] {x : Operand} {A : Option Addr} {n c : Nat} (hx : opd env x = some (.slice A n c)) :
    LV P env ⟨d, .call { callee := .builtin .cap, args := #[x], argTypes := #[T] }, ty, pos, aft, g⟩ (.int .i64 (c : Int)) [] := .mk fun a w ho _ => by
  simp [execOp, resolve, invoke, builtin, Builtin.cap_, ho x (by simp [Op.operands, Call.operands]) _ hx, run_und hT.u, goInt]
theorem LV.lenArr {T : TypeId} {l e sz : Nat} [hT : TyArr P T l e sz] {x : Operand} :
    LV P env ⟨d, .call { callee := .builtin .len, args := #[x], argTypes := #[T] }, ty, pos, aft, g⟩ (.int .i64 (l : Int)) [] := .mk fun a w ho _ => by
  simp [execOp, resolve, invoke, builtin, Builtin.len_, run_und hT.u, goInt]
theorem LV.lenStr {T : TypeId} [hT : TyStr P T] {x : Operand} {s : ByteArray} (hx : opd env x = some (.string s)) :
    LV P env ⟨d, .call { callee := .builtin .len, args := #[x], argTypes := #[T] }, ty, pos, aft, g⟩ (.int .i64 (s.size : Int)) [] := .mk fun a w ho _ => by
  simp [execOp, resolve, invoke, builtin, Builtin.len_, ho x (by simp [Op.operands, Call.operands]) _ hx, run_und hT.u, goInt]
theorem LV.min2 {ts : Array TypeId} {x y : Operand} {k k' : IntKind} {m n : Int} (hx : opd env x = some (.int k m)) (hy : opd env y = some (.int k' n)) :
    LV P env ⟨d, .call { callee := .builtin .min, args := #[x, y], argTypes := ts }, ty, pos, aft, g⟩ (.int k (min m n)) [] := .mk fun a w ho _ => by
  simp [execOp, resolve, invoke, builtin, Builtin.min_, Builtin.min2, ho x (by simp [Op.operands, Call.operands]) _ hx, ho y (by simp [Op.operands, Call.operands]) _ hy]
  omega
theorem LV.max2 {ts : Array TypeId} {x y : Operand} {k k' : IntKind} {m n : Int} (hx : opd env x = some (.int k m)) (hy : opd env y = some (.int k' n)) :
    LV P env ⟨d, .call { callee := .builtin .max, args := #[x, y], argTypes := ts }, ty, pos, aft, g⟩ (.int k (max m n)) [] := .mk fun a w ho _ => by
  simp [execOp, resolve, invoke, builtin, Builtin.max_, Builtin.max2, ho x (by simp [Op.operands, Call.operands]) _ hx, ho y (by simp [Op.operands, Call.operands]) _ hy]
  omega

theorem add_plain (gg o j : Nat) : (⟨gg, o, none⟩ : Addr).add j = ⟨gg, o + j, none⟩ := by
  unfold Addr.add; split <;> simp_all
/-- An element's address. -/
theorem LV.idx {T : TypeId} {e sz : Nat} [hT : TySl P T e sz] {x i : Operand} {ad : Addr} {n c : Nat} {k : IntKind} {m : Int} (hx : opd env x = some (.slice (some ad) n c)) (hi : opd env i = some (.int k m))
    (h0 : 0 ≤ m) (h1 : m < n) : LV P env ⟨d, .indexAddr T x i, ty, pos, aft, g⟩ (.pointer (some (ad.add (m.toNat * sz)))) [] := .mk fun a w ho _ => by
  simp [execOp, Instr.indexAt, ho x (by simp [Op.operands]) _ hx, ho i (by simp [Op.operands]) _ hi, asIntOf, run_und hT.u, run_size hT.s, h0, h1]
theorem LV.idxB {T : TypeId} {e sz : Nat} [hT : TySl P T e sz] {x i : Operand} {gg o : Nat} {n c : Nat} {k : IntKind} {m : Int} (hx : opd env x = some (.slice (some ⟨gg, o, none⟩) n c)) (hi : opd env i = some (.int k m))
    (h0 : 0 ≤ m) (h1 : m < n) : LV P env ⟨d, .indexAddr T x i, ty, pos, aft, g⟩ (.pointer (some ⟨gg, o + m.toNat * sz, none⟩)) [] := by
  have := LV.idx (P := P) (d := d) (ty := ty) (pos := pos) (aft := aft) (g := g) (T := T) hx hi h0 h1
  rwa [add_plain] at this
theorem LV.idxB0 {T : TypeId} {e sz : Nat} [hT : TySl P T e sz] {x i : Operand} {gg : Nat} {n c : Nat} {k : IntKind} {m : Int} (hx : opd env x = some (.slice (some ⟨gg, 0, none⟩) n c)) (hi : opd env i = some (.int k m))
    (h0 : 0 ≤ m) (h1 : m < n) : LV P env ⟨d, .indexAddr T x i, ty, pos, aft, g⟩ (.pointer (some ⟨gg, m.toNat * sz, none⟩)) [] := by
  have := LV.idxB (P := P) (d := d) (ty := ty) (pos := pos) (aft := aft) (g := g) (T := T) hx hi h0 h1
  rwa [Nat.zero_add] at this
theorem LV.idxArr {T : TypeId} {l e sz : Nat} [hT : TyArr P T l e sz] {x i : Operand} {gg : Nat} {k : IntKind} {m : Int} (hx : opd env x = some (.pointer (some ⟨gg, 0, none⟩))) (hi : opd env i = some (.int k m))
    (h0 : 0 ≤ m) (h1 : m < l) : LV P env ⟨d, .indexAddr T x i, ty, pos, aft, g⟩ (.pointer (some ⟨gg, m.toNat * sz, none⟩)) [] := .mk fun a w ho _ => by
  simp [execOp, Instr.indexAt, ho x (by simp [Op.operands]) _ hx, ho i (by simp [Op.operands]) _ hi, asIntOf, Instr.sureAddr, run_und hT.u, run_size hT.s, h0, h1, add_plain]
/-- the same, of indexes that are naturals and elements of one cell -/
theorem LV.idxN {T : TypeId} {e : Nat} [hT : TySl P T e 1] {x i : Operand} {ad : Addr} {n c : Nat} {k : IntKind} {j : Nat} (hx : opd env x = some (.slice (some ad) n c)) (hi : opd env i = some (.int k (j : Int)))
    (h1 : j < n) : LV P env ⟨d, .indexAddr T x i, ty, pos, aft, g⟩ (.pointer (some (ad.add j))) [] := by
  have := LV.idx (P := P) (d := d) (ty := ty) (pos := pos) (aft := aft) (g := g) (T := T) hx hi (by omega) (by omega)
  rwa [Int.toNat_natCast, Nat.mul_one] at this
theorem LV.idxBN {T : TypeId} {e : Nat} [hT : TySl P T e 1] {x i : Operand} {gg : Nat} {n c : Nat} {k : IntKind} {j : Nat} (hx : opd env x = some (.slice (some ⟨gg, 0, none⟩) n c)) (hi : opd env i = some (.int k (j : Int)))
    (h1 : j < n) : LV P env ⟨d, .indexAddr T x i, ty, pos, aft, g⟩ (.pointer (some ⟨gg, j, none⟩)) [] := by
  have := LV.idxB0 (P := P) (d := d) (ty := ty) (pos := pos) (aft := aft) (g := g) (T := T) hx hi (by omega) (by omega)
  rwa [Int.toNat_natCast, Nat.mul_one] at this
theorem LV.idxArrN {T : TypeId} {l e : Nat} [hT : TyArr P T l e 1] {x i : Operand} {gg : Nat} {k : IntKind} {j : Nat} (hx : opd env x = some (.pointer (some ⟨gg, 0, none⟩))) (hi : opd env i = some (.int k (j : Int)))
    (h1 : j < l) : LV P env ⟨d, .indexAddr T x i, ty, pos, aft, g⟩ (.pointer (some ⟨gg, j, none⟩)) [] := by
  have := LV.idxArr (P := P) (d := d) (ty := ty) (pos := pos) (aft := aft) (g := g) (T := T) hx hi (by omega) (by omega)
  rwa [Int.toNat_natCast, Nat.mul_one] at this
/-! Bits of naturals -/
def Unsg : IntKind → Bool
  | .u8 | .u16 | .u32 | .u64 => true
  | _ => false
theorem fits_of_lt {k : IntKind} {r : Nat} (hk : Unsg k = true) (h : r < 2 ^ k.bits) : Fits k (r : Int) := by
  cases k <;> simp [Unsg] at hk <;> simp only [IntKind.bits] at h <;> simp only [Fits] <;> omega
theorem LV.shl1 {T T' : TypeId} {x y : Operand} {k k' : IntKind} {j : Nat} (hx : opd env x = some (.int k 1)) (hy : opd env y = some (.int k' (j : Int))) (hk : Unsg k = true) (hj : j < k.bits) :
    LV P env ⟨d, .binOp .shl T x y T', ty, pos, aft, g⟩ (.int k ((2 ^ j : Nat) : Int)) [] := by
  have h := LV.shl (P := P) (d := d) (ty := ty) (pos := pos) (aft := aft) (g := g) (T := T) (T' := T') hx hy (by omega)
  rw [Int.toNat_natCast, Nat.min_eq_left (by omega), Int.one_mul] at h
  have e : ((2 : Int) ^ j) = ((2 ^ j : Nat) : Int) := by simp
  rwa [e, (fits_of_lt hk (Nat.pow_lt_pow_right (by omega) hj)).wrap] at h
theorem LV.shrN {T T' : TypeId} {x y : Operand} {k k' : IntKind} {m j : Nat} (hx : opd env x = some (.int k (m : Int))) (hy : opd env y = some (.int k' (j : Int))) (hj : j ≤ k.bits) :
    LV P env ⟨d, .binOp .shr T x y T', ty, pos, aft, g⟩ (.int k ((m >>> j : Nat) : Int)) [] := by
  have h := LV.shr (P := P) (d := d) (ty := ty) (pos := pos) (aft := aft) (g := g) (T := T) (T' := T') hx hy (by omega)
  rw [Int.toNat_natCast, Nat.min_eq_left (by omega)] at h
  have e : ((m : Int) / 2 ^ j) = ((m >>> j : Nat) : Int) := by rw [Nat.shiftRight_eq_div_pow]; simp
  rwa [e] at h
theorem LV.bitsN {op : BinOp} {T T' : TypeId} {x y : Operand} {k : IntKind} {m n r : Nat} (hx : opd env x = some (.int k (m : Int))) (hy : opd env y = some (.int k (n : Int)))
    (hk : Unsg k = true) (hr : bitN op k m n = some r) (hm : m < 2 ^ k.bits) (hn : n < 2 ^ k.bits) : LV P env ⟨d, .binOp op T x y T', ty, pos, aft, g⟩ (.int k (r : Int)) [] := by
  refine LV.bit hx hy (by omega) (by simpa using hm) (by omega) (by simpa using hn) (by simpa using hr) ?_
  refine fits_of_lt hk ?_
  cases op <;> simp only [bitN, Option.some.injEq, reduceCtorEq] at hr <;> subst hr
  · exact Nat.and_lt_two_pow _ hn
  · exact Nat.or_lt_two_pow hm hn
  · exact Nat.xor_lt_two_pow hm hn
  · exact Nat.lt_of_le_of_lt Nat.and_le_left hm
theorem LV.tst {T T' : TypeId} {x y : Operand} {k : IntKind} {m j : Nat} (hx : opd env x = some (.int k ((m >>> j : Nat) : Int))) (hy : opd env y = some (.int k 1)) (hk : Unsg k = true) :
    LV P env ⟨d, .binOp .and T x y T', ty, pos, aft, g⟩ (.int k (((m.testBit j).toNat : Nat) : Int)) [] := .mk fun a w ho _ => by
  have h1 := ho x (by simp [Op.operands]) _ hx
  have h2 := ho y (by simp [Op.operands]) _ hy
  have e1 : BitVec.ofInt k.bits ((m >>> j : Nat) : Int) = BitVec.ofNat k.bits (m >>> j) := BitVec.ofInt_natCast ..
  have e2 : BitVec.ofInt k.bits 1 = BitVec.ofNat k.bits 1 := BitVec.ofInt_natCast _ 1
  have hb : 1 < 2 ^ k.bits := by cases k <;> simp [IntKind.bits]
  have hbits : 0 < k.bits := by cases k <;> simp [IntKind.bits]
  have e3 : (BitVec.ofNat k.bits (m >>> j) &&& BitVec.ofNat k.bits 1).toNat = (m.testBit j).toNat := by
    rw [BitVec.toNat_and, BitVec.toNat_ofNat, BitVec.toNat_ofNat, Nat.mod_eq_of_lt hb, Nat.and_one_is_mod, Nat.mod_mod_of_dvd _ (Nat.dvd_of_pow_dvd (by omega) (Nat.dvd_refl (2 ^ k.bits))), Nat.testBit_eq_decide_div_mod_eq, Nat.shiftRight_eq_div_pow]
    have : m / 2 ^ j % 2 < 2 := Nat.mod_lt _ (by omega)
    rcases (by omega : m / 2 ^ j % 2 = 0 ∨ m / 2 ^ j % 2 = 1) with h | h <;> simp [h]
  have hf : Fits k (((m.testBit j).toNat : Nat) : Int) := fits_of_lt hk (by cases m.testBit j <;> simp <;> omega)
  simp only [execOp, h1, h2, eqGuard, binOp, Op.intBits, e1, e2]
  simp [e3, hf.wrap]
theorem tb_one (b : Bool) : (((b.toNat : Nat) : Int) = 1) = (b = true) := by cases b <;> simp
theorem tb_zero (b : Bool) : (((b.toNat : Nat) : Int) = 0) = (b = false) := by cases b <;> simp
theorem tb_beq1 (b : Bool) : (((b.toNat : Nat) : Int) == 1) = b := by cases b <;> rfl
theorem tb_beq0 (b : Bool) : (((b.toNat : Nat) : Int) == 0) = !b := by cases b <;> rfl
theorem pow32 {j : Nat} (h : j < 32) : 2 ^ j < 2 ^ IntKind.u32.bits := Nat.pow_lt_pow_right (by omega) h
/-- A bit that is asked for. -/
theorem LV.tstEq1 {T T' : TypeId} {x y : Operand} {k : IntKind} {b : Bool} (hx : opd env x = some (.int k ((b.toNat : Nat) : Int))) (hy : opd env y = some (.int k 1)) :
    LV P env ⟨d, .binOp .eql T x y T', ty, pos, aft, g⟩ (.bool b) [] := by
  have := LV.cmp (P := P) (d := d) (ty := ty) (pos := pos) (aft := aft) (g := g) (T := T) (T' := T') (op := .eql) hx hy rfl
  rwa [tb_beq1] at this
theorem LV.tstEq0 {T T' : TypeId} {x y : Operand} {k : IntKind} {b : Bool} (hx : opd env x = some (.int k ((b.toNat : Nat) : Int))) (hy : opd env y = some (.int k 0)) :
    LV P env ⟨d, .binOp .eql T x y T', ty, pos, aft, g⟩ (.bool (!b)) [] := by
  have := LV.cmp (P := P) (d := d) (ty := ty) (pos := pos) (aft := aft) (g := g) (T := T) (T' := T') (op := .eql) hx hy rfl
  rwa [tb_beq0] at this

theorem LV.nilCheck {x : Operand} {ad : Addr} (hx : opd env x = some (.pointer (some ad))) : LV P env ⟨d, .nilCheck x, ty, pos, aft, g⟩ (.pointer (some ad)) [] := .mk fun a w ho _ => by
  simp [execOp, ho x (by simp [Op.operands]) _ hx]
theorem LV.nilCheckF {x : Operand} {f : FuncId} {l r : Array Value} (hx : opd env x = some (.func (.func f) l r)) : LV P env ⟨d, .nilCheck x, ty, pos, aft, g⟩ (.func (.func f) l r) [] := .mk fun a w ho _ => by
  simp [execOp, ho x (by simp [Op.operands]) _ hx]
theorem fldB_spec {S i off ft sz : Nat} (h : fldB P S i off ft sz = true) : ∃ fs f, P.underlying S = some (.struct fs) ∧ fs[i]? = some f ∧ f.offset = off ∧ f.type = ft ∧ (P.info? ft).map (·.size) = some sz ∧ sz ≠ 0 := by
  unfold fldB at h
  split at h
  · rename_i fs hu
    split at h
    · rename_i f hf
      simp only [Bool.and_eq_true, beq_iff_eq] at h
      obtain ⟨⟨h1, h2⟩, h3⟩ := h
      split at h3
      · rename_i j hj
        simp at h3
        exact ⟨fs, f, hu, hf, h1, h2, by simp [hj, h3.1], h3.2⟩
      · cases h3
    · cases h
  · cases h
theorem LV.fieldAddr {S i : Nat} {off ft sz : Nat} [hT : TyFld P S i off ft sz] {x : Operand} {gg : Nat} {o : Nat} (hx : opd env x = some (.pointer (some ⟨gg, o, none⟩))) :
    LV P env ⟨d, .fieldAddr S x i, ty, pos, aft, g⟩ (.pointer (some ⟨gg, o + off, none⟩)) [] := .mk fun a w ho _ => by
  obtain ⟨fs, f, h1, h2, h3, h4, h5, h6⟩ := fldB_spec hT.f
  subst h4
  simp [execOp, Instr.fieldAt, ho x (by simp [Op.operands]) _ hx, run_und h1, h2, Instr.sureAddr, fieldPlace, run_size h5, h6, h3, add_plain]
theorem LV.fieldAddrA {S i : Nat} {off ft sz : Nat} [hT : TyFld P S i off ft sz] {x : Operand} {ad : Addr} (hx : opd env x = some (.pointer (some ad))) :
    LV P env ⟨d, .fieldAddr S x i, ty, pos, aft, g⟩ (.pointer (some (ad.add off))) [] := .mk fun a w ho _ => by
  obtain ⟨fs, f, h1, h2, h3, h4, h5, h6⟩ := fldB_spec hT.f
  subst h4
  simp [execOp, Instr.fieldAt, ho x (by simp [Op.operands]) _ hx, run_und h1, h2, Instr.sureAddr, fieldPlace, run_size h5, h6, h3]
theorem run_isAggT {T sz : Nat} [h : TyAgg P T sz] (w : World) : (isAgg T).run P w = .ok true w := by
  have ha := h.a
  unfold isAgg underlying
  cases hu : P.underlying T with
  | none => rw [hu] at ha; cases ha
  | some u => rw [hu] at ha; cases u <;> simp_all
theorem run_isAggF {T : Nat} [h : TyOne P T] (w : World) : (isAgg T).run P w = .ok false w := by
  have ha := h.a
  unfold isAgg underlying
  cases hu : P.underlying T with
  | none => rw [hu] at ha; cases ha
  | some u => rw [hu] at ha; cases u <;> simp_all
theorem LV.field {S i : Nat} {off ft sz : Nat} [hT : TyFld P S i off ft sz] [hO : TyOne P ft] {x : Operand} {cs : Array Value} {v : Value} (hx : opd env x = some (.agg cs)) (hv : cs[off]? = some v) :
    LV P env ⟨d, .field S x i, ty, pos, aft, g⟩ v [] := .mk fun a w ho _ => by
  obtain ⟨fs, f, h1, h2, h3, h4, h5, h6⟩ := fldB_spec hT.f
  subst h4
  simp [execOp, Instr.field, ho x (by simp [Op.operands]) _ hx, run_und h1, h2, part, run_isAggF, asAgg, h3, hv]
theorem LV.fieldA {S i : Nat} {off ft sz : Nat} [hT : TyFld P S i off ft sz] [hO : TyAgg P ft sz] {x : Operand} {cs : Array Value} (hx : opd env x = some (.agg cs)) :
    LV P env ⟨d, .field S x i, ty, pos, aft, g⟩ (.agg (cs.extract off (off + sz))) [] := .mk fun a w ho _ => by
  obtain ⟨fs, f, h1, h2, h3, h4, h5, h6⟩ := fldB_spec hT.f
  subst h4
  simp [execOp, Instr.field, ho x (by simp [Op.operands]) _ hx, run_und h1, h2, part, run_isAggT, asAgg, h3, run_size h5]
theorem LV.extract {x : Operand} {i : Nat} {vs : Array Value} {v : Value} (hx : opd env x = some (.tuple vs)) (hv : vs[i]? = some v) : LV P env ⟨d, .extract x i, ty, pos, aft, g⟩ v [] := .mk fun a w ho _ => by
  simp [execOp, Instr.extract, ho x (by simp [Op.operands]) _ hx, hv]
theorem LV.makeFunc {fn : Go.Fn} {first captured : Array Operand} {f c : List Value} (hf : opds env first.toList = some f) (hc : opds env captured.toList = some c) :
    LV P env ⟨d, .makeFunc fn first captured, ty, pos, aft, g⟩ (.func fn f.toArray c.toArray) [] := .mk fun a w ho _ => by
  have h1 := opds_eval first.toList f (fun x hx => ho x (show x ∈ first ++ captured from Array.mem_append.2 (.inl (Array.mem_toList_iff.1 hx)))) hf
  have h2 := opds_eval captured.toList c (fun x hx => ho x (show x ∈ first ++ captured from Array.mem_append.2 (.inr (Array.mem_toList_iff.1 hx)))) hc
  have e1 : first.map a.eval = f.toArray := by rw [← h1, ← Array.toList_map]
  have e2 : captured.map a.eval = c.toArray := by rw [← h2, ← Array.toList_map]
  simp [execOp, Instr.makeFunc, e1, e2]

/-! ### Loads -/
theorem LV.load {T : TypeId} [hT : TyOne P T] {x : Operand} {ad : Addr} {v : Value} (hx : opd env x = some (.pointer (some ad))) : LV P env ⟨d, .load T x, ty, pos, aft, g⟩ v [(ad, v)] := .mk fun a w ho hr => by
  have := hr _ (.head _)
  simp [execOp, Instr.loadAt, ho x (by simp [Op.operands]) _ hx, Instr.sureAddr, loadVar, run_isAggF, this]
theorem run_loadCellsFrom_at (w : World) (ad : Addr) (cs : List Value) (h : ∀ j u, cs[j]? = some u → w.cell? (ad.add j) = some u) : ∀ (k i : Nat) (acc : Array Value), i + k ≤ cs.length →
    (loadCellsFrom ad i k acc).run P w = .ok (acc ++ ((cs.drop i).take k).toArray) w := by
  intro k
  induction k with
  | zero => intro i acc _; simp [loadCellsFrom]
  | succ k ih =>
    intro i acc hl
    have hi : i < cs.length := by omega
    have hc : w.cell? (ad.add i) = some cs[i] := h i _ (List.getElem?_eq_getElem hi)
    simp only [loadCellsFrom, Sem.run_bind, run_load, hc, Result.andThen_ok]
    rw [ih (i + 1) _ (by omega)]
    congr 1
    rw [List.drop_eq_getElem_cons hi, List.take_succ_cons]
    simp
/-- The cells of a row from an address on. -/
def reqs (ad : Addr) (cs : List Value) : List (Addr × Value) := cs.zipIdx.map fun p => (ad.add p.2, p.1)
theorem reqs_spec {ad : Addr} {cs : List Value} {w : World} (h : ∀ r ∈ reqs ad cs, w.cell? r.1 = some r.2) : ∀ j u, cs[j]? = some u → w.cell? (ad.add j) = some u := fun j u hu =>
  h (ad.add j, u) (by
    simp only [reqs, List.mem_map]
    refine ⟨(u, j), ?_, rfl⟩
    rw [List.mem_iff_getElem?]
    exact ⟨j, by simp [List.getElem?_zipIdx, hu]⟩)
theorem LV.loadA {T sz : TypeId} [hT : TyAgg P T sz] {x : Operand} {ad : Addr} {cs : List Value} (hx : opd env x = some (.pointer (some ad))) (hl : cs.length = sz) :
    LV P env ⟨d, .load T x, ty, pos, aft, g⟩ (.agg cs.toArray) (reqs ad cs) := .mk fun a w ho hr => by
  have := run_loadCellsFrom_at (P := P) w ad cs (reqs_spec hr) cs.length 0 #[] (by omega)
  simp [execOp, Instr.loadAt, ho x (by simp [Op.operands]) _ hx, Instr.sureAddr, loadVar, run_isAggT, run_size hT.s, loadCells]
  rw [← hl, this]
  simp
theorem Rq.blkA {gg : Nat} {T : TypeId} {cs xs : List Value} {o : Nat} (hm : .blk gg T cs ∈ rs) (h : (cs.drop o).take xs.length = xs) : Rq I rs (reqs ⟨gg, o, none⟩ xs) := .mk fun w hmem r hr => by
  simp only [reqs, List.mem_map] at hr
  obtain ⟨⟨u, j⟩, hp, rfl⟩ := hr
  have hj := List.mem_iff_getElem?.1 hp
  obtain ⟨q, hq⟩ := hj
  simp [List.getElem?_zipIdx] at hq
  obtain ⟨_, hq1, rfl, rfl⟩ := hq
  have hlt : q < xs.length := (List.getElem?_eq_some_iff.1 hq1).1
  rw [← h, List.getElem?_take, if_pos (by simpa [h] using hlt), List.getElem?_drop] at hq1
  have hb : w.heap[gg]? = some (.cells cs.toArray T (0, 0)) := hmem.rows _ hm
  simp [add_plain, World.cell?, hb, hq1]
/-- A whole block. -/
theorem Rq.blkAll {gg : Nat} {T : TypeId} {cs : List Value} (hm : .blk gg T cs ∈ rs) : Rq I rs (reqs ⟨gg, 0, none⟩ cs) := Rq.blkA hm (by simp)
theorem Rq.ownA {gg c k : Nat} {T : TypeId} {sz : Nat} {cs xs : List Value} {o : Nat} (hm : .own (some ⟨gg, 0, none⟩) c T sz k cs ∈ rs) (h : (cs.drop o).take xs.length = xs) : Rq I rs (reqs ⟨gg, o, none⟩ xs) := .mk fun w hmem r hr => by
  simp only [reqs, List.mem_map] at hr
  obtain ⟨⟨u, j⟩, hp, rfl⟩ := hr
  have hj := List.mem_iff_getElem?.1 hp
  obtain ⟨q, hq⟩ := hj
  simp [List.getElem?_zipIdx] at hq
  obtain ⟨_, hq1, rfl, rfl⟩ := hq
  have hlt : q < xs.length := (List.getElem?_eq_some_iff.1 hq1).1
  rw [← h, List.getElem?_take, if_pos (by simpa [h] using hlt), List.getElem?_drop] at hq1
  rw [add_plain]
  exact (Rq.own hm hq1).run w hmem _ (.head _)
theorem Rq.immA {ad : Addr} {xs : List Value} (h : ∀ j u, xs[j]? = some u → icell I (ad.add j) = some u) : Rq I rs (reqs ad xs) := .mk fun w hmem r hr => by
  simp only [reqs, List.mem_map] at hr
  obtain ⟨⟨u, j⟩, hp, rfl⟩ := hr
  obtain ⟨q, hq⟩ := List.mem_iff_getElem?.1 hp
  simp [List.getElem?_zipIdx] at hq
  obtain ⟨_, hq1, rfl, rfl⟩ := hq
  exact hmem.cell (h q _ hq1)

/-! ### Cuts -/
theorem LV.sliceH {T : TypeId} {e sz : Nat} [hT : TySl P T e sz] {x h : Operand} {A : Option Addr} {n c : Nat} {k : IntKind} {m : Int} (hx : opd env x = some (.slice A n c)) (hh : opd env h = some (.int k m))
    (h0 : 0 ≤ m) (h1 : m ≤ c) : LV P env ⟨d, .slice T x none (some h) none, ty, pos, aft, g⟩ (.slice A m.toNat c) [] := .mk fun a w ho _ => by
  have e1 := ho x (by simp [Op.operands]) _ hx
  have e2 := ho h (by simp [Op.operands]) _ hh
  simp [execOp, Instr.sliceAt, run_und hT.u, Instr.slice, Instr.sliceBounds, Instr.sliceBound, e1, e2, asIntOf, h0, h1, run_size hT.s, Addr.add]
theorem LV.sliceL {T : TypeId} {e sz : Nat} [hT : TySl P T e sz] {x l : Operand} {A : Option Addr} {n c : Nat} {k : IntKind} {m : Int} (hx : opd env x = some (.slice A n c)) (hl : opd env l = some (.int k m))
    (h0 : 0 ≤ m) (h1 : m ≤ n) : LV P env ⟨d, .slice T x (some l) none none, ty, pos, aft, g⟩ (.slice (if c = m.toNat then A else A.map (·.add (m.toNat * sz))) (n - m.toNat) (c - m.toNat)) [] := .mk fun a w ho _ => by
  have e1 := ho x (by simp [Op.operands]) _ hx
  have e2 := ho l (by simp [Op.operands]) _ hl
  simp [execOp, Instr.sliceAt, run_und hT.u, Instr.slice, Instr.sliceBounds, Instr.sliceBound, e1, e2, asIntOf, h0, h1, run_size hT.s]
theorem LV.sliceLH {T : TypeId} {e sz : Nat} [hT : TySl P T e sz] {x l h : Operand} {A : Option Addr} {n c : Nat} {k k' : IntKind} {m m' : Int} (hx : opd env x = some (.slice A n c)) (hl : opd env l = some (.int k m))
    (hh : opd env h = some (.int k' m')) (h0 : 0 ≤ m) (h1 : m ≤ m') (h2 : m' ≤ c) :
    LV P env ⟨d, .slice T x (some l) (some h) none, ty, pos, aft, g⟩ (.slice (if c = m.toNat then A else A.map (·.add (m.toNat * sz))) (m'.toNat - m.toNat) (c - m.toNat)) [] := .mk fun a w ho _ => by
  have e1 := ho x (by simp [Op.operands]) _ hx
  have e2 := ho l (by simp [Op.operands]) _ hl
  have e3 := ho h (by simp [Op.operands]) _ hh
  have h3 : m ≤ (m'.toNat : Int) := by omega
  simp [execOp, Instr.sliceAt, run_und hT.u, Instr.slice, Instr.sliceBounds, Instr.sliceBound, e1, e2, e3, asIntOf, h0, h2, show 0 ≤ m' from by omega, run_size hT.s]
  intro hc; omega

/-! ### Structs that are put together -/
def fillS : List Value → List (Nat × List Value) → List Value
  | cs, [] => cs
  | cs, (off, vs) :: ps => fillS (cs.take off ++ vs ++ cs.drop (off + vs.length)) ps
inductive Parts (P : Program) (T : TypeId) (env : Env) : List (Nat × Operand) → List (Nat × List Value) → Prop where
  | nil : Parts P T env [] []
  | cons {i off ft sz : Nat} [hT : TyFld P T i off ft sz] {x : Operand} {v : Value} {cs : List Value} {l : List (Nat × Operand)} {ps : List (Nat × List Value)}
      (hx : opd env x = some v) (hc : v.cells = cs.toArray) (hl : cs.length = sz) (h : Parts P T env l ps) : Parts P T env ((i, x) :: l) ((off, cs) :: ps)
theorem foldl_fill (off : Nat) : ∀ (vs : List Value) (k : Nat) (acc : Array Value), off + k + vs.length ≤ acc.size →
    (vs.zipIdx k).foldl (fun (acc : Array Value) (p : Value × Nat) => acc.setIfInBounds (off + p.2) p.1) acc = (acc.toList.take (off + k) ++ vs ++ acc.toList.drop (off + k + vs.length)).toArray := by
  intro vs
  induction vs with
  | nil => intro k acc _; simp
  | cons c vs ih =>
    intro k acc h
    simp at h
    rw [List.zipIdx_cons, List.foldl_cons, ih (k + 1) _ (by simp; omega)]
    congr 1
    have hk : off + k < acc.toList.length := by simp; omega
    simp only [Array.toList_setIfInBounds]
    rw [show off + (k + 1) = off + k + 1 from by omega, List.take_set, List.take_add_one, List.getElem?_eq_getElem hk, List.drop_set_of_lt (by omega)]
    have hlen : (acc.toList.take (off + k)).length = off + k := by simp; omega
    rw [List.set_append, if_neg (by omega), hlen, Nat.sub_self]
    simp
    omega
def structOK (P : Program) (T : TypeId) : Bool :=
  match P.underlying T with
  | some (.struct fs) => fs.toList.all fun f => (P.info? f.type).isSome
  | _ => false
theorem fill_parts {T sz : Nat} {fs : Array Field} (hu : P.underlying T = some (.struct fs)) {a : Act} : ∀ (l : List (Nat × Operand)) (ps : List (Nat × List Value)), Parts P T env l ps → (∀ p ∈ l, ∀ u, opd env p.2 = some u → a.eval p.2 = u) →
    ps.all (fun p => p.1 + p.2.length ≤ sz) = true → ∀ acc : Array Value, acc.size = sz →
    Instr.fill (fun i => (fs.toList.map fun f => (f.offset, P.cellsOf f.type)).toArray[i]?) acc (l.map fun p => (p.1, a.eval p.2)) = some (fillS acc.toList ps).toArray := by
  intro l ps hp
  induction hp with
  | nil => intro _ _ acc _; simp [Instr.fill, fillS]
  | @cons i off ft fsz hT x v cs l ps hx hc hl h ih =>
    intro he hall acc hacc
    obtain ⟨fs', f, h1, h2, h3, h4, h5, h6⟩ := fldB_spec hT.f
    rw [hu] at h1; cases h1
    have hpl : (fs.toList.map fun f => (f.offset, P.cellsOf f.type)).toArray[i]? = some (off, fsz) := by
      have : P.cellsOf f.type = fsz := by simp [Program.cellsOf, h4, h5]
      simp [h2, h3, this]
    simp only [List.all_cons, Bool.and_eq_true, decide_eq_true_eq] at hall
    have hxe := he (i, x) (.head _) v hx
    simp only at hxe
    simp only [List.map_cons, Instr.fill, hpl, hxe, hc, List.size_toArray]
    rw [if_neg (by simp; omega)]
    have hf := foldl_fill off cs 0 acc (by omega)
    simp only [Nat.add_zero] at hf
    rw [← Array.foldl_toList, Array.toList_zipIdx]
    have e : (List.foldl (fun (acc : Array Value) (x : Value × Nat) => match x with | (c, j) => acc.setIfInBounds (off + j) c) acc cs.toArray.toList.zipIdx) = (acc.toList.take off ++ cs ++ acc.toList.drop (off + cs.length)).toArray := hf
    rw [e, ih (fun p hp => he p (.tail _ hp)) hall.2 _ (by simp; omega)]
    simp [fillS]
theorem LV.build {T sz bytes : Nat} {z : Value} [hZ : TyZ P T z sz bytes] {parts : Array (Nat × Operand)} {ps : List (Nat × List Value)} {cs : List Value} (hp : Parts P T env parts.toList ps)
    (hs : structOK P T = true) (hc : fillS z.cells.toList ps = cs) (hle : ps.all (fun p => p.1 + p.2.length ≤ sz) = true) :
    LV P env ⟨d, .build T parts, ty, pos, aft, g⟩ (.agg cs.toArray) [] := .mk fun a w ho _ => by
  subst hc
  have hi := hZ.i
  have hzero : (zeroValue T).run P w = .ok z w := by
    cases e : P.info? T with
    | none => rw [e] at hi; cases hi
    | some i => rw [e] at hi; simp at hi; simp [zeroValue, typeInfo, e, hi.1]
  unfold structOK at hs
  cases hu : P.underlying T with
  | none => rw [hu] at hs; cases hs
  | some u =>
    rw [hu] at hs
    cases u with
    | struct fs =>
      simp only [List.all_eq_true] at hs
      have hpl : ∀ (l : List Field) , (∀ f ∈ l, (P.info? f.type).isSome = true) → (l.mapM (m := Sem) fun f => do pure (f.offset, ← sizeOf f.type)).run P w = .ok (l.map fun f => (f.offset, P.cellsOf f.type)) w := by
        intro l
        induction l with
        | nil => intro _; rfl
        | cons f l ih =>
          intro h
          have hn := h f (.head _)
          cases hj : P.info? f.type with
          | none => rw [hj] at hn; cases hn
          | some j =>
            have hn' : P.cellsOf f.type = j.size := by simp [Program.cellsOf, hj]
            have hs' : (sizeOf f.type).run P w = .ok j.size w := run_size (by simp [hj]) w
            have ih' := ih fun f hf => h f (.tail _ hf)
            rw [List.mapM_cons]
            simp only [Sem.run_bind, hs', Result.andThen_ok, Sem.run_pure, ih', List.map_cons, hn']
      have hev : ∀ p ∈ parts.toList, ∀ u, opd env p.2 = some u → a.eval p.2 = u := fun p hp u hu => ho p.2 (by
        simp only [Op.operands, List.mem_toArray, List.mem_map]
        exact ⟨p, hp, rfl⟩) u hu
      have hfill := fill_parts (a := a) hu parts.toList ps hp hev hle z.cells hZ.z
      have hparts : (parts.map fun (p : Nat × Operand) => (p.1, a.eval p.2)).toList = parts.toList.map fun p => (p.1, a.eval p.2) := Array.toList_map
      simp only [execOp, Instr.build, Sem.run_bind, hzero, run_und hu, Result.andThen_ok]
      rw [Array.mapM_eq_mapM_toList, Sem.run_map, hpl fs.toList hs]
      simp only [Result.andThen_ok]
      rw [hparts, hfill]
      simp
    | _ => cases hs
end
end Go.Sx
