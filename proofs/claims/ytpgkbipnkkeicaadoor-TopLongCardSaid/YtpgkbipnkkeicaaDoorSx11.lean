import Derived.Test.YtpgkbipnkkeicaaDoorSx10
import Derived.Laws.BytesArg
set_option linter.unusedVariables false
/-! Strings. -/
namespace Go.Sx
open Go
/-- Bytes as a string. -/
def sB (l : List Nat) : ByteArray := ⟨(l.map UInt8.ofNat).toArray⟩
theorem sB_size (l : List Nat) : (sB l).size = l.length := by simp [sB, ByteArray.size]
theorem sB_get {l : List Nat} {j : Nat} (h : j < l.length) : (sB l)[j]? = some (UInt8.ofNat (l.getD j 0)) := by
  have h2 : j < (sB l).size := by rw [sB_size]; exact h
  rw [getElem?_pos (sB l) j h2]
  congr 1
  show (sB l).data[j] = _
  simp [sB, h]
theorem byte_of {n : Nat} (h : n < 256) : ((UInt8.ofNat n).toNat : Nat) = n := by simp; omega
theorem sB_extract (l : List Nat) (a b : Nat) : (sB l).extract a b = sB ((l.take b).drop a) := by
  apply ByteArray.ext
  rw [ByteArray.data_extract]
  simp [sB, List.map_take, List.map_drop, List.drop_take]
theorem sB_app (l m : List Nat) : sB l ++ sB m = sB (l ++ m) := by
  apply ByteArray.ext
  simp [sB]
theorem sB_toList (l : List Nat) : (sB l).toList = l.map UInt8.ofNat := by
  have : ∀ (b : ByteArray), b.toList = b.data.toList := fun b => by
    have hsz : b.size = b.data.size := rfl
    have hdl : b.data.toList.length = b.data.size := rfl
    have key : ∀ (k i : Nat) (acc : List UInt8), b.size - i = k → ByteArray.toList.loop b i acc = acc.reverse ++ b.data.toList.drop i := by
      intro k
      induction k with
      | zero =>
        intro i acc hk
        rw [ByteArray.toList.loop]
        rw [if_neg (by omega), List.drop_eq_nil_of_le (by omega), List.append_nil]
      | succ k ih =>
        intro i acc hk
        rw [ByteArray.toList.loop, if_pos (by omega), ih _ _ (by omega)]
        have hi : i < b.data.toList.length := by omega
        rw [List.drop_eq_getElem_cons hi]
        simp
        have : i < b.data.size := by omega
        show b.data[i]! = _
        exact getElem!_pos b.data i this
    unfold ByteArray.toList
    rw [key _ 0 [] rfl]
    simp
  rw [this]
  simp [sB]
theorem sB_inj {l m : List Nat} (hl : ∀ x ∈ l, x < 256) (hm : ∀ x ∈ m, x < 256) (h : sB l = sB m) : l = m := by
  have h1 := congrArg ByteArray.toList h
  rw [sB_toList, sB_toList] at h1
  have h2 := congrArg (List.map UInt8.toNat) h1
  rw [List.map_map, List.map_map] at h2
  have e : ∀ l : List Nat, (∀ x ∈ l, x < 256) → l.map (UInt8.toNat ∘ UInt8.ofNat) = l := fun l hl => by
    conv => rhs; rw [← List.map_id l]
    exact List.map_congr_left fun x hx => by have := hl x hx; simp; omega
  rwa [e l hl, e m hm] at h2
section
variable {P : Program} {env : Env} {d : Option Tmp} {ty : TypeId} {pos : String} {aft : Array Edge} {g : Option (Nat × Bool)}
theorem LV.lenSB {T : TypeId} [hT : TyStr P T] {x : Operand} {l : List Nat} (hx : opd env x = some (.string (sB l))) :
    LV P env ⟨d, .call { callee := .builtin .len, args := #[x], argTypes := #[T] }, ty, pos, aft, g⟩ (.int .i64 (l.length : Int)) [] := by
  have h := LV.lenStr (P := P) (d := d) (ty := ty) (pos := pos) (aft := aft) (g := g) (T := T) hx
  rwa [sB_size] at h
theorem LV.idxSB {T : TypeId} [hT : TyStr P T] {x i : Operand} {l : List Nat} {k : IntKind} {j : Nat} (hx : opd env x = some (.string (sB l))) (hi : opd env i = some (.int k (j : Int)))
    (hj : j < l.length) (hb : l.getD j 0 < 256) : LV P env ⟨d, .index T x i, ty, pos, aft, g⟩ (.int .u8 ((l.getD j 0 : Nat) : Int)) [] := by
  have hs := sB_get hj
  have e := byte_of hb
  generalize UInt8.ofNat (l.getD j 0) = b at *
  generalize l.getD j 0 = v at *
  subst e
  refine .mk fun a w ho _ => ?_
  simp [execOp, Instr.index, ho x (by simp [Op.operands]) _ hx, ho i (by simp [Op.operands]) _ hi, asIntOf, run_und hT.u, hs]
theorem LV.cutL {T : TypeId} [hT : TyStr P T] {x lo : Operand} {l : List Nat} {k : IntKind} {m : Nat} (hx : opd env x = some (.string (sB l))) (hl : opd env lo = some (.int k (m : Int))) (h1 : m ≤ l.length) :
    LV P env ⟨d, .slice T x (some lo) none none, ty, pos, aft, g⟩ (.string (sB (l.drop m))) [] := .mk fun a w ho _ => by
  have e1 := ho x (by simp [Op.operands]) _ hx
  have e2 := ho lo (by simp [Op.operands]) _ hl
  simp [execOp, Instr.sliceAt, run_und hT.u, Instr.slice, Instr.sliceBounds, Instr.sliceBound, e1, e2, asIntOf, sB_size, sB_extract, h1]
theorem LV.cutH {T : TypeId} [hT : TyStr P T] {x hi : Operand} {l : List Nat} {k : IntKind} {m : Nat} (hx : opd env x = some (.string (sB l))) (hl : opd env hi = some (.int k (m : Int))) (h1 : m ≤ l.length) :
    LV P env ⟨d, .slice T x none (some hi) none, ty, pos, aft, g⟩ (.string (sB (l.take m))) [] := .mk fun a w ho _ => by
  have e1 := ho x (by simp [Op.operands]) _ hx
  have e2 := ho hi (by simp [Op.operands]) _ hl
  simp [execOp, Instr.sliceAt, run_und hT.u, Instr.slice, Instr.sliceBounds, Instr.sliceBound, e1, e2, asIntOf, sB_size, sB_extract, h1]
theorem LV.eqSB {T T' : TypeId} [hT : TyStr P T] {x y : Operand} {s t : ByteArray} (hx : opd env x = some (.string s)) (hy : opd env y = some (.string t)) :
    LV P env ⟨d, .binOp .eql T x y T', ty, pos, aft, g⟩ (.bool (s.toList == t.toList)) [] := .mk fun a w ho _ => by
  have h1 := ho x (by simp [Op.operands]) _ hx
  have h2 := ho y (by simp [Op.operands]) _ hy
  simp [execOp, h1, h2, eqGuard, binOp, Op.stringOp]
theorem LV.neSB {T T' : TypeId} [hT : TyStr P T] {x y : Operand} {s t : ByteArray} (hx : opd env x = some (.string s)) (hy : opd env y = some (.string t)) :
    LV P env ⟨d, .binOp .neq T x y T', ty, pos, aft, g⟩ (.bool !(s.toList == t.toList)) [] := .mk fun a w ho _ => by
  have h1 := ho x (by simp [Op.operands]) _ hx
  have h2 := ho y (by simp [Op.operands]) _ hy
  simp [execOp, h1, h2, eqGuard, binOp, Op.stringOp]
theorem LV.ltSB {T T' : TypeId} [hT : TyStr P T] {x y : Operand} {s t : ByteArray} (hx : opd env x = some (.string s)) (hy : opd env y = some (.string t)) :
    LV P env ⟨d, .binOp .lss T x y T', ty, pos, aft, g⟩ (.bool (Op.bytesLess s.toList t.toList)) [] := .mk fun a w ho _ => by
  have h1 := ho x (by simp [Op.operands]) _ hx
  have h2 := ho y (by simp [Op.operands]) _ hy
  simp [execOp, h1, h2, eqGuard, binOp, Op.stringOp]
theorem LV.gtSB {T T' : TypeId} [hT : TyStr P T] {x y : Operand} {s t : ByteArray} (hx : opd env x = some (.string s)) (hy : opd env y = some (.string t)) :
    LV P env ⟨d, .binOp .gtr T x y T', ty, pos, aft, g⟩ (.bool (!(Op.bytesLess s.toList t.toList || s.toList == t.toList))) [] := .mk fun a w ho _ => by
  have h1 := ho x (by simp [Op.operands]) _ hx
  have h2 := ho y (by simp [Op.operands]) _ hy
  simp [execOp, h1, h2, eqGuard, binOp, Op.stringOp]
theorem LV.catSB {T T' : TypeId} [hT : TyStr P T] {x y : Operand} {l m : List Nat} (hx : opd env x = some (.string (sB l))) (hy : opd env y = some (.string (sB m))) (hs : l.length + m.length ≤ 9000000000000000000) :
    LV P env ⟨d, .binOp .add T x y T', ty, pos, aft, g⟩ (.string (sB (l ++ m))) [] := .mk fun a w ho _ => by
  have h1 := ho x (by simp [Op.operands]) _ hx
  have h2 := ho y (by simp [Op.operands]) _ hy
  have h3 : ¬ (((l.length + m.length : Nat) : Int) > IntKind.i64.max) := by
    have : IntKind.i64.max = 9223372036854775807 := rfl
    omega
  simp [execOp, h1, h2, eqGuard, binOp, Op.stringOp, sB_size, sB_app]
  simpa using h3
/-- A row of bytes becomes a string. -/
theorem LV.strOf {S T e sz : TypeId} [hS : TySl P S e sz] [hE : TyInt P e .u8] [hT : TyStr P T] {x : Operand} {ad : Addr} {l : List Nat} {c : Nat} (hx : opd env x = some (.slice (some ad) l.length c)) :
    LV P env ⟨d, .convert S T x, ty, pos, aft, g⟩ (.string (sB l)) (reqs ad (l.map fun (x : Nat) => Value.int .u8 (x : Int))) := .mk fun a w ho hr => by
  have h1 := run_loadCellsFrom_at (P := P) w ad _ (reqs_spec hr) l.length 0 #[] (by simp)
  have h2 : (loadCells ad l.length).run P w = .ok ((l.map fun (x : Nat) => (x : Int)).map (Value.int .u8)).toArray w := by
    unfold loadCells
    rw [h1]
    congr 1
    simp
    rw [List.take_of_length_le (by simp)]
    exact List.map_congr_left fun _ _ => rfl
  have h3 := run_bytesToString w ad l.length c _ h2
  rw [foldl_push_bytes] at h3
  have h4 := run_convert_bytes_string (P := P) w S T e (some ad) l.length c hS.u hE.u hT.u
  have e2 : (⟨ByteArray.empty.data ++ ((l.map fun (x : Nat) => (x : Int)).map fun n => UInt8.ofNat n.toNat).toArray⟩ : ByteArray) = sB l := by
    apply ByteArray.ext
    simp [sB, ByteArray.empty, ByteArray.emptyWithCapacity]
    exact List.map_congr_left fun _ _ => rfl
  rw [e2] at h3
  simp [execOp, ho x (by simp [Op.operands]) _ hx, h4, h3]
end
theorem sB_isEmpty (l : List Nat) : ((sB l).toList == (⟨#[]⟩ : ByteArray).toList) = l.isEmpty := by
  rw [sB_toList, show (⟨#[]⟩ : ByteArray).toList = [] from by decide +kernel]
  cases l <;> rfl
theorem sB_beq {l m : List Nat} (hl : ∀ x ∈ l, x < 256) (hm : ∀ x ∈ m, x < 256) : ((sB l).toList == (sB m).toList) = decide (l = m) := by
  by_cases h : l = m
  · subst h; simp
  · have : ¬ (sB l).toList = (sB m).toList := fun e => h (sB_inj hl hm (by
      apply ByteArray.ext
      have e2 := e
      rw [sB_toList, sB_toList] at e2
      simp only [sB]
      rw [e2]))
    simp [h, this]
theorem sB_less : ∀ {l m : List Nat}, (∀ x ∈ l, x < 256) → (∀ x ∈ m, x < 256) → l.length = m.length → Op.bytesLess (sB l).toList (sB m).toList = decide (∃ k, k < l.length ∧ l.take k = m.take k ∧ l.getD k 0 < m.getD k 0)
  | [], [], _, _, _ => by simp [sB_toList, Op.bytesLess]
  | x :: l, y :: m, hl, hm, hlen => by
    have ih := sB_less (l := l) (m := m) (fun z hz => hl z (.tail _ hz)) (fun z hz => hm z (.tail _ hz)) (by simpa using hlen)
    rw [sB_toList, sB_toList] at ih ⊢
    simp only [List.map_cons, Op.bytesLess]
    rw [ih]
    have hx := hl x (.head _)
    have hy := hm y (.head _)
    have e1 : (UInt8.ofNat x < UInt8.ofNat y) ↔ x < y := by
      rw [UInt8.lt_iff_toNat_lt]; simp; omega
    have e2 : (UInt8.ofNat x = UInt8.ofNat y) ↔ x = y := by
      constructor
      · intro h; have := congrArg UInt8.toNat h; simp at this; omega
      · rintro rfl; rfl
    by_cases h1 : x < y
    · have : decide (UInt8.ofNat x < UInt8.ofNat y) = true := decide_eq_true (e1.2 h1)
      rw [this, Bool.true_or]
      symm
      exact decide_eq_true ⟨0, by simp, rfl, by simpa using h1⟩
    · have : decide (UInt8.ofNat x < UInt8.ofNat y) = false := decide_eq_false fun h => h1 (e1.1 h)
      rw [this, Bool.false_or]
      by_cases h2 : x = y
      · subst h2
        simp only [beq_self_eq_true, Bool.true_and]
        congr 1
        apply propext
        constructor
        · rintro ⟨k, h3, h4, h5⟩
          exact ⟨k + 1, by simp; omega, by simp [h4], by simpa using h5⟩
        · rintro ⟨k, h3, h4, h5⟩
          cases k with
          | zero => simp at h5
          | succ k => exact ⟨k, by simp at h3; omega, by simpa using h4, by simpa using h5⟩
      · have : (UInt8.ofNat x == UInt8.ofNat y) = false := beq_eq_false_iff_ne.2 fun h => h2 (e2.1 h)
        rw [this, Bool.false_and]
        symm
        apply decide_eq_false
        rintro ⟨k, h3, h4, h5⟩
        cases k with
        | zero => exact h1 (by simpa using h5)
        | succ k => exact h2 (by simp at h4; exact h4.1)
end Go.Sx
