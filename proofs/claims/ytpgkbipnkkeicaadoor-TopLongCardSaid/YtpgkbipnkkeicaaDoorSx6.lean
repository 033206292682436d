import Derived.Test.YtpgkbipnkkeicaaDoorSx5
import Derived.Laws.StructEq
import Derived.DeepKeys
import Derived.Deep.Upon
/-! More rules: arrays as values, a string's byte, append to what was written out, append of what may be nil. -/
namespace Go.Sx
open Go

section
variable {P : Program} {F : Fr} {env : Env} {I : IH} {rs : List Row} {d : Option Tmp} {ty : TypeId} {pos : String} {aft : Array Edge} {g gd : Option (Nat × Bool)} {K : Value → IH → List Row → Prop}

/-- An array of one-cell elements, all of them written out. -/
theorem LV.buildArr {T len e bytes : Nat} {z : Value} [hT : TyArr P T len e 1] [hZ : TyZ P T z len bytes] {parts : Array (Nat × Operand)} {xs : List Operand} {vs : List Value}
    (hp : parts.toList = xs.zipIdx.map fun p => (p.2, p.1)) (hl : vs.length = len) (hv : opds env xs = some vs) (hc : ∀ v ∈ vs, v.cells = #[v]) :
    LV P env ⟨d, .build T parts, ty, pos, aft, g⟩ (.agg vs.toArray) [] := .mk fun a w ho _ => by
  have hi := hZ.i
  have hzero : (zeroValue T).run P w = .ok z w := run_zero (P := P) (T := T) w
  have hparts : (parts.map fun (p : Nat × Operand) => (p.1, a.eval p.2)).toList = (vs.zipIdx).map fun p => (p.2, p.1) := by
    have key : ∀ (xs : List Operand) (vs : List Value) (k : Nat), (∀ x ∈ xs, ∀ u, opd env x = some u → a.eval x = u) → opds env xs = some vs →
        (xs.zipIdx k).map (fun p => (p.2, a.eval p.1)) = (vs.zipIdx k).map fun p => (p.2, p.1) := by
      intro xs
      induction xs with
      | nil => intro vs k _ h; cases h; rfl
      | cons x xs ih =>
        intro vs k hh h
        obtain ⟨u, us, h1, h2, rfl⟩ := opds_cons h
        simp [hh x (.head _) u h1, ih us (k + 1) (fun y hy => hh y (.tail _ hy)) h2]
    rw [Array.toList_map, hp, List.map_map]
    refine Eq.trans ?_ (key xs vs 0 (fun x hx => ho x ?_) hv)
    · rfl
    · simp only [Op.operands, List.mem_toArray, List.mem_map]
      obtain ⟨j, hj⟩ := List.mem_iff_getElem?.1 hx
      exact ⟨(j, x), by rw [hp, List.mem_map]; exact ⟨(x, j), List.mem_iff_getElem?.2 ⟨j, by simp [List.getElem?_zipIdx, hj]⟩, rfl⟩, rfl⟩
  have hfill := fill_ones vs 0 len z.cells hc (by omega) hZ.z
  simp only [List.take_zero, List.nil_append] at hfill
  simp only [execOp, Instr.build, Sem.run_bind, hzero, run_und hT.u, Result.andThen_ok, run_size hT.s]
  rw [hparts, hfill]
  simp

/-- Pairs of numbers, compared. -/
theorem run_equalIn_pair {T e : Nat} {k : IntKind} [hT : TyArr P T 2 e 1] [hO : TyOne P e] (D : Nat) (w : World) (hq : ∀ x y : Int, (Op.equalIn D e (.int k x) (.int k y)).run P w = .ok (x == y) w) (a b a' b' : Int) :
    (Op.equalIn (D + 1) T (.agg #[.int k a, .int k b]) (.agg #[.int k a', .int k b'])).run P w = .ok (a == a' && b == b') w := by
  have hp : ∀ (x y : Value) (i : Nat) (v : Value), (#[x, y] : Array Value)[i]? = some v → (part e #[x, y] i).run P w = .ok v w := fun x y i v h => by
    simp [part, run_isAggF, h]
  simp only [Op.equalIn, Sem.run_bind, run_und hT.u, Result.andThen_ok, run_size hT.s]
  simp [Std.Legacy.Range.forIn_eq_forIn_range', Std.Legacy.Range.size, List.range', List.forIn_cons, hp _ _ 0 _ rfl, hp _ _ 1 _ rfl, hq]
  cases h1 : (a == a') <;> cases h2 : (b == b') <;> simp_all
theorem run_equal_pair {T e : Nat} {k : IntKind} [hT : TyArr P T 2 e 1] [hE : TyInt P e k] [hO : TyOne P e] (w : World) (a b a' b' : Int) :
    (Op.equal T (.agg #[.int k a, .int k b]) (.agg #[.int k a', .int k b'])).run P w = .ok (a == a' && b == b') w := by
  unfold Op.equal
  exact run_equalIn_pair 9999 w (fun x y => run_equalIn_int (w := w) 9998 e k k x y hE.u) a b a' b'
theorem LV.nePair {T e : Nat} {k : IntKind} {T' : TypeId} {x y : Operand} [hT : TyArr P T 2 e 1] [hE : TyInt P e k] [hO : TyOne P e] (hg : P.eqGuardType P.depth T = false) {a b a' b' : Int}
    (hx : opd env x = some (.agg #[.int k a, .int k b])) (hy : opd env y = some (.agg #[.int k a', .int k b'])) :
    LV P env ⟨d, .binOp .neq T x y T', ty, pos, aft, g⟩ (.bool !(a == a' && b == b')) [] := .mk fun ac w ho _ => by
  have h1 := ho x (by simp [Op.operands]) _ hx
  have h2 := ho y (by simp [Op.operands]) _ hy
  simp only [execOp, h1, h2]
  simp [eqGuard, hg, binOp, run_equal_pair (P := P) (T := T) w]
theorem LV.neBool {T T' : TypeId} {x y : Operand} {b c : Bool} (hx : opd env x = some (.bool b)) (hy : opd env y = some (.bool c)) [hT : TyBool P T] :
    LV P env ⟨d, .binOp .neq T x y T', ty, pos, aft, g⟩ (.bool (b != c)) [] := .mk fun a w ho _ => by
  have h1 := ho x (by simp [Op.operands]) _ hx
  have h2 := ho y (by simp [Op.operands]) _ hy
  have hq : (Op.equal T (.bool b) (.bool c)).run P w = .ok (b == c) w := run_equalIn_bool' (w := w) 9999 T b c hT.u
  simp only [execOp, h1, h2]
  simp [eqGuard, binOp, hq, bne]

theorem LV.idxNS {T : TypeId} {e sz : Nat} [hT : TySl P T e sz] {x i : Operand} {ad : Addr} {n c : Nat} {k : IntKind} {j : Nat} (hx : opd env x = some (.slice (some ad) n c)) (hi : opd env i = some (.int k (j : Int)))
    (h1 : j < n) : LV P env ⟨d, .indexAddr T x i, ty, pos, aft, g⟩ (.pointer (some (ad.add (j * sz)))) [] := by
  have := LV.idx (P := P) (d := d) (ty := ty) (pos := pos) (aft := aft) (g := g) (T := T) hx hi (by omega) (by omega)
  rwa [Int.toNat_natCast] at this

/-! ### Bits of numbers that are reckoned; a string's byte -/
theorem LV.bitsZ {op : BinOp} {T T' : TypeId} {x y : Operand} {k : IntKind} {m n : Int} {r : Nat} (hx : opd env x = some (.int k m)) (hy : opd env y = some (.int k n))
    (hk : Unsg k = true) (hm0 : 0 ≤ m) (hn0 : 0 ≤ n) (hr : bitN op k m.toNat n.toNat = some r) (hm : m.toNat < 2 ^ k.bits) (hn : n.toNat < 2 ^ k.bits) : LV P env ⟨d, .binOp op T x y T', ty, pos, aft, g⟩ (.int k (r : Int)) [] :=
  LV.bitsN (m := m.toNat) (n := n.toNat) (by rw [Int.toNat_of_nonneg hm0]; exact hx) (by rw [Int.toNat_of_nonneg hn0]; exact hy) hk hr hm hn
theorem LV.tstI {T T' : TypeId} {x y : Operand} {m j : Nat} (hx : opd env x = some (.int .i64 ((m >>> j : Nat) : Int))) (hy : opd env y = some (.int .i64 1)) :
    LV P env ⟨d, .binOp .and T x y T', ty, pos, aft, g⟩ (.int .i64 (((m.testBit j).toNat : Nat) : Int)) [] := .mk fun a w ho _ => by
  have h1 := ho x (by simp [Op.operands]) _ hx
  have h2 := ho y (by simp [Op.operands]) _ hy
  have e1 : BitVec.ofInt IntKind.i64.bits ((m >>> j : Nat) : Int) = BitVec.ofNat IntKind.i64.bits (m >>> j) := BitVec.ofInt_natCast ..
  have e2 : BitVec.ofInt IntKind.i64.bits 1 = BitVec.ofNat IntKind.i64.bits 1 := BitVec.ofInt_natCast _ 1
  have e3 : (BitVec.ofNat IntKind.i64.bits (m >>> j) &&& BitVec.ofNat IntKind.i64.bits 1).toNat = (m.testBit j).toNat := by
    rw [BitVec.toNat_and, BitVec.toNat_ofNat, BitVec.toNat_ofNat, Nat.mod_eq_of_lt (a := 1) (by simp [IntKind.bits]), Nat.and_one_is_mod, Nat.mod_mod_of_dvd _ (Nat.dvd_of_pow_dvd (by simp [IntKind.bits]) (Nat.dvd_refl (2 ^ IntKind.i64.bits))), Nat.testBit_eq_decide_div_mod_eq, Nat.shiftRight_eq_div_pow]
    have : m / 2 ^ j % 2 < 2 := Nat.mod_lt _ (by omega)
    rcases (by omega : m / 2 ^ j % 2 = 0 ∨ m / 2 ^ j % 2 = 1) with h | h <;> simp [h]
  have hf : Fits .i64 (((m.testBit j).toNat : Nat) : Int) := by cases m.testBit j <;> simp [Fits]
  simp only [execOp, h1, h2, eqGuard, binOp, Op.intBits, e1, e2]
  simp [e3, hf.wrap]
theorem LV.bitsI {op : BinOp} {T T' : TypeId} {x y : Operand} {m n r : Nat} (hx : opd env x = some (.int .i64 (m : Int))) (hy : opd env y = some (.int .i64 (n : Int)))
    (hr : bitN op .i64 m n = some r) (hm : m < 9223372036854775808) (hn : n < 9223372036854775808) : LV P env ⟨d, .binOp op T x y T', ty, pos, aft, g⟩ (.int .i64 (r : Int)) [] := by
  refine LV.bit hx hy (by omega) (by simp only [IntKind.bits, Int.toNat_natCast]; omega) (by omega) (by simp only [IntKind.bits, Int.toNat_natCast]; omega) (by simpa using hr) ?_
  have : r < 2 ^ 63 := by
    cases op <;> simp only [bitN, Option.some.injEq, reduceCtorEq] at hr <;> subst hr
    · exact Nat.and_lt_two_pow _ hn
    · exact Nat.or_lt_two_pow hm hn
    · exact Nat.xor_lt_two_pow hm hn
    · exact Nat.lt_of_le_of_lt Nat.and_le_left hm
  simp only [Fits]
  omega
theorem LV.shl1I {T T' : TypeId} {x y : Operand} {k' : IntKind} {j : Nat} (hx : opd env x = some (.int .i64 1)) (hy : opd env y = some (.int k' (j : Int))) (hj : j < 63) :
    LV P env ⟨d, .binOp .shl T x y T', ty, pos, aft, g⟩ (.int .i64 ((2 ^ j : Nat) : Int)) [] := by
  have h := LV.shl (P := P) (d := d) (ty := ty) (pos := pos) (aft := aft) (g := g) (T := T) (T' := T') hx hy (by omega)
  rw [Int.toNat_natCast, Nat.min_eq_left (by simp only [IntKind.bits]; omega), Int.one_mul] at h
  have e : ((2 : Int) ^ j) = ((2 ^ j : Nat) : Int) := by simp
  have h2 : 2 ^ j < 2 ^ 63 := Nat.pow_lt_pow_right (by omega) hj
  have hf : Fits .i64 ((2 ^ j : Nat) : Int) := by
    generalize 2 ^ j = y at h2 ⊢
    simp only [Fits]; omega
  rwa [e, hf.wrap] at h
/-- How many bits are set among the first f. -/
def popN : Nat → Nat → Nat
  | 0, _ => 0
  | f + 1, n => n % 2 + popN f (n / 2)
def popOK (s : ByteArray) : Bool := s.size == 256 && (List.range 256).all fun k => (s[k]?).map (·.toNat) == some (popN 8 k)
theorem LV.popTab {T : TypeId} [hT : TyStr P T] {x y : Operand} {s : ByteArray} {k : IntKind} {j : Nat} (hx : opd env x = some (.string s)) (hy : opd env y = some (.int k (j : Int))) (hs : popOK s = true) (hj : j < 256) :
    LV P env ⟨d, .index T x y, ty, pos, aft, g⟩ (.int .u8 (popN 8 j : Nat)) [] := .mk fun a w ho _ => by
  have h1 := ho x (by simp [Op.operands]) _ hx
  have h2 := ho y (by simp [Op.operands]) _ hy
  simp only [popOK, Bool.and_eq_true, List.all_eq_true] at hs
  have h3 := hs.2 j (List.mem_range.2 hj)
  simp only [beq_iff_eq] at h3
  cases hb : s[j]? with
  | none => rw [hb] at h3; cases h3
  | some b =>
    rw [hb] at h3
    simp at h3
    simp [execOp, Instr.index, h1, h2, asIntOf, run_und hT.u, hb, h3]

/-! ### append, more -/
/-- A block written out is a slice of our own. -/
theorem Inv.ownOf {F : Fr} {I : IH} {rs : List Row} {w : World} {gg T sz n k : Nat} {cs : List Value} (h : Inv F I rs w) (hr : rs[k]? = some (.blk gg T cs)) (hl : cs.length = n * sz) (hn : n ≤ maxLen) :
    Inv F I (rs.set k (.own (some ⟨gg, 0, none⟩) n T sz n cs)) w := by
  have h1 := h.at hr
  have hb : w.heap[gg]? = some (.cells cs.toArray T (0, 0)) := h.mem.rows _ (List.mem_of_getElem? hr)
  have hI : I gg = none := h1.mem.apart gg (by simp [Row.block])
  refine Inv.back (r := .blk gg T cs) (h1.setRow (g := gg) (w' := w) rfl rfl ?_ rfl rfl rfl rfl fun _ _ => rfl) hr
  refine ⟨hl, .inr ⟨gg, n, cs.toArray, rfl, Nat.zero_le _, hb, ?_⟩⟩
  refine ⟨Nat.le_refl _, hn, by simpa using hl, ?_⟩
  rw [List.take_of_length_le (by simp; omega)]
theorem OpT.wk {o : Oper} {chg chg' : List Nat} (h : OpT P F o K chg env I rs) (hs : ∀ x ∈ chg, x ∈ chg') : OpT P F o K chg' env I rs := .mk fun a w ho hi QX => by
  refine Oper.wp_mono ?_ (h.run a w ho hi QX)
  rintro a' w' ⟨v, I', rs', h1, h2, h3, h4⟩
  exact ⟨v, I', rs', h1, h2, fun ad u had => h3 ad u fun hx => had (hs _ hx), h4⟩
theorem OpT.ghost {o : Oper} {chg : List Nat} {rs' : List Row} (hg : ∀ w, Inv F I rs w → Inv F I rs' w) (h : OpT P F o K chg env I rs') : OpT P F o K chg env I rs := .mk fun a w ho hi QX => h.run a w ho (hg w hi) QX
/-- 'append(out, x...)': out was written out. -/
theorem OpT.appendB {T e sz bytes : Nat} {z : Value} [hT : TySl P T e sz] [hZ : TyZ P e z sz bytes] {x y : Operand} {gg n m c' k : Nat} {ad : Addr} {xs news : List Value}
    (hx : opd env x = some (.slice (some ⟨gg, 0, none⟩) n n)) (hy : opd env y = some (.slice (some ad) m c')) (hr : rs[k]? = some (.blk gg e xs)) (hxl : xs.length = n * sz) (hl : news.length = m * sz)
    (hq : Rq I rs (reqs ad news)) (h1 : ∀ u ∈ news, u.oneCell' = true) (h63 : n + m ≤ 9223372036854775807) (hb : (n + m) * bytes ≤ 140737488355328) (hsz : 0 < sz)
    (kk : ∀ A' cap, K (.slice A' (n + m) cap) I (rs.set k (.own A' cap e sz (n + m) (xs ++ news)))) :
    OpT P F ⟨d, .call { callee := .builtin .append, args := #[x, y], argTypes := #[T, T] }, ty, pos, aft, gd⟩ K [gg] env I rs := .mk fun a w ho hi QX => by
  have hk : k < rs.length := (List.getElem?_eq_some_iff.1 hr).1
  have hi' := hi.ownOf (sz := sz) hr hxl (by simp [maxLen]; omega)
  have := OpT.append_at (P := P) (F := F) (K := K) (d := d) (ty := ty) (pos := pos) (aft := aft) (gd := gd) (T := T) (x := x) (y := y) (k := k) (rs := rs.set k (.own (some ⟨gg, 0, none⟩) n e sz n xs)) (xs := xs) hx hy (by simp [hk]) hl h1 h63 hb hsz (by simpa using kk) a w (hq.run w hi.mem) ho hi' QX
  exact this
/-- Nothing is appended. -/
theorem OpT.appendNil {T e sz : Nat} [hT : TySl P T e sz] {x y : Operand} {A : Option Addr} {n c c' : Nat}
    (hx : opd env x = some (.slice A n c)) (hy : opd env y = some (.slice none 0 c')) (hnc : n ≤ c) (kk : K (.slice A n c) I rs) :
    OpT P F ⟨d, .call { callee := .builtin .append, args := #[x, y], argTypes := #[T, T] }, ty, pos, aft, gd⟩ K [] env I rs := .mk fun a w ho hinv QX => by
  have hs := hT.s
  cases e1 : P.info? e with
  | none => rw [e1] at hs; cases hs
  | some i =>
    have hrun := run_append_nothing (P := P) w T T ty e i hT.u e1 A n c hnc (.slice none 0 c') (Src.ofNil w hT.u c')
    unfold Oper.wp
    have he : (execOp a.eval ⟨d, .call { callee := .builtin .append, args := #[x, y], argTypes := #[T, T] }, ty, pos, aft, gd⟩).run P w = .ok (.value (.slice A n c)) w := by
      simp [execOp, resolve, invoke, builtin, ho x (by simp [Op.operands, Call.operands]) _ hx, ho y (by simp [Op.operands, Call.operands]) _ hy, hrun]
    rw [he, Oper.upon_value]
    exact ⟨_, I, rs, rfl, hinv, fun ad u _ hu => hu, kk⟩
/-- What may be nil is appended to a slice of our own. -/
theorem OpT.appendR {T e sz bytes : Nat} {z : Value} [hT : TySl P T e sz] [hZ : TyZ P e z sz bytes] {x y : Operand} {A B : Option Addr} {n c m c' k : Nat} {xs news : List Value}
    (hx : opd env x = some (.slice A n c)) (hy : opd env y = some (.slice B m c')) (hr : rs[k]? = some (.own A c e sz n xs)) (hrd : RdSl I sz (.slice B m c') m news)
    (h1 : ∀ u ∈ news, u.oneCell' = true) (h63 : n + m ≤ 9223372036854775807) (hb : (n + m) * bytes ≤ 140737488355328) (hsz : 0 < sz)
    (kk : ∀ A' cap, K (.slice A' (n + m) cap) I (rs.set k (.own A' cap e sz (n + m) (xs ++ news)))) :
    OpT P F ⟨d, .call { callee := .builtin .append, args := #[x, y], argTypes := #[T, T] }, ty, pos, aft, gd⟩ K (A.map (·.block)).toList env I rs := by
  have hl := hrd.1
  cases B with
  | some ad => exact OpT.append hx hy hr hl (Rq.immA fun j u hu => hrd.at hu) h1 h63 hb hsz kk
  | none =>
    have hm : m = 0 := by
      rcases Nat.eq_zero_or_pos m with h | h
      · exact h
      · obtain ⟨ad, e⟩ := hrd.addr h; cases e
    subst hm
    have hnews : news = [] := List.eq_nil_of_length_eq_zero (by simpa using hl)
    subst hnews
    refine .mk fun a w ho hinv QX => ?_
    have hnc := (hinv.mem.ownLen (List.mem_of_getElem? hr)).2.1
    have hkk := kk A c
    simp only [Nat.add_zero, List.append_nil] at hkk
    have hset : rs.set k (.own A c e sz n xs) = rs := by
      apply List.ext_getElem?
      intro i
      rw [List.getElem?_set]
      split
      · rename_i h; subst h; split
        · exact hr.symm
        · rename_i h2; rw [List.getElem?_eq_none (by omega)]
      · rfl
    rw [hset] at hkk
    exact ((OpT.appendNil (d := d) (ty := ty) (pos := pos) (aft := aft) (gd := gd) (T := T) hx hy hnc hkk).wk (by simp)).run a w ho hinv QX
/-! ### Calls that take some rows out of the midst -/
theorem OpT.callW (i j : Nat) {f : Operand} {args : Array Operand} {ts : Array TypeId} {fid : FuncId} {first caps : Array Value} {vs : List Value} {rsc : List Row} {post : Value → IH → List Row → Prop}
    (hf : opd env f = some (.func (.func fid) first caps)) (ha : opds env args.toList = some vs) (h : Sx.Fn P fid (first ++ vs.toArray ++ caps) I rsc post) (hrs : (rs.drop i).take j = rsc)
    (k : ∀ v I' rs', I.le I' → post v I' rs' → K v I' (rs.take i ++ (rs' ++ rs.drop (i + j)))) : OpT P F ⟨d, .call { callee := .value f, args := args, argTypes := ts }, ty, pos, aft, gd⟩ K (blocks rsc) env I rs := .mk fun a w ho hinv QX => by
  have hp : rs.Perm (rsc ++ (rs.take i ++ rs.drop (i + j))) := by
    have e : rs = rs.take i ++ (rsc ++ rs.drop (i + j)) := by
      rw [← hrs, ← List.drop_drop, List.take_append_drop, List.take_append_drop]
    conv => lhs; rw [e]
    rw [← List.append_assoc, ← List.append_assoc]
    exact List.Perm.append_right _ List.perm_append_comm
  have hc := OpT.call (P := P) (F := F) (d := d) (ty := ty) (pos := pos) (aft := aft) (gd := gd) (ts := ts) (K := fun v I' r => ∃ rs', r.Perm (rs.take i ++ (rs' ++ rs.drop (i + j))) ∧ K v I' (rs.take i ++ (rs' ++ rs.drop (i + j)))) hf ha h rfl (fun v I' rs' h1 h2 => ⟨rs', by
    have := List.Perm.append_right (rs.drop (i + j)) (List.perm_append_comm (l₁ := rs') (l₂ := rs.take i))
    rwa [List.append_assoc, List.append_assoc] at this, k v I' rs' h1 h2⟩)
  refine Oper.wp_mono ?_ (hc.run a w ho (hinv.perm hp) QX)
  rintro a' w' ⟨v, I', r, h1, h2, h3, rs', h4, h5⟩
  exact ⟨v, I', _, h1, h2.perm h4, h3, h5⟩

/-! ### Rows that come from nothing, rows that are left behind -/
theorem Inv.ownNil {w : World} (T : TypeId) (sz : Nat) (h : Inv F I rs w) : Inv F I (.own none 0 T sz 0 [] :: rs) w :=
  ⟨⟨h.mem.imm, fun r hr => by
      rcases List.mem_cons.1 hr with rfl | hr
      · exact ⟨by simp, .inl ⟨rfl, rfl⟩⟩
      · exact h.mem.rows r hr, fun g hg => h.mem.apart g (by simpa [Row.block] using hg), by simpa [Row.block] using h.mem.nodup⟩,
    ⟨h.fram.os, h.fram.tape, h.fram.output, h.fram.size, h.fram.old, fun g hg => h.fram.new g (by simpa [Row.block] using hg)⟩⟩
variable {n : Nat} {Q : Pst}
/-- The nil slice is a slice of our own. -/
theorem SyC.ownNil (T : TypeId) (sz : Nat) {c : Code} (h : SyC P n F c Q env I (.own none 0 T sz 0 [] :: rs)) : SyC P n F c Q env I rs := ⟨fun a w hh hi => h.run a w hh (hi.ownNil T sz)⟩
theorem SyL.ownNil (T : TypeId) (sz : Nat) {ops : Array Oper} {l : List Oper} (h : SyL P n F ops l Q env I (.own none 0 T sz 0 [] :: rs)) : SyL P n F ops l Q env I rs := ⟨fun a w hh hi => h.run a w hh (hi.ownNil T sz)⟩
/-- A block that was written out is a slice of our own. -/
theorem SyC.ownOf {c : Code} {gg T sz m k : Nat} {cs : List Value} (hr : rs[k]? = some (.blk gg T cs)) (hl : cs.length = m * sz) (hn : m ≤ maxLen) (h : SyC P n F c Q env I (rs.set k (.own (some ⟨gg, 0, none⟩) m T sz m cs))) : SyC P n F c Q env I rs :=
  ⟨fun a w hh hi => h.run a w hh (hi.ownOf hr hl hn)⟩
theorem SyL.ownOf {ops : Array Oper} {l : List Oper} {gg T sz m k : Nat} {cs : List Value} (hr : rs[k]? = some (.blk gg T cs)) (hl : cs.length = m * sz) (hn : m ≤ maxLen) (h : SyL P n F ops l Q env I (rs.set k (.own (some ⟨gg, 0, none⟩) m T sz m cs))) : SyL P n F ops l Q env I rs :=
  ⟨fun a w hh hi => h.run a w hh (hi.ownOf hr hl hn)⟩
theorem SyC.rows {c : Code} (rs' : List Row) (hs : rs'.Sublist rs) (h : SyC P n F c Q env I rs') : SyC P n F c Q env I rs := ⟨fun a w hh hi => h.run a w hh (hi.sublist hs)⟩
theorem SyL.rows {ops : Array Oper} {l : List Oper} (rs' : List Row) (hs : rs'.Sublist rs) (h : SyL P n F ops l Q env I rs') : SyL P n F ops l Q env I rs := ⟨fun a w hh hi => h.run a w hh (hi.sublist hs)⟩
/-- A loop whose rounds may leave rows behind. -/
theorem SyC.loopD {body : Code} (J : Nat → Env → IH → List Row → Prop) (m : Nat) (env0 : Env) (hs : Sub env0 env) (h0 : J m env0 I rs)
    (round : ∀ m env I rs, J m env I rs → SyC P n F body (Then (fun env' I' rs' => ∃ m' env'' rs'', m' < m ∧ Sub env'' env' ∧ J m' env'' I' rs'' ∧ rs''.Sublist rs') Q) env I rs) :
    SyC P n F (.loop body) Q env I rs := ⟨fun a w hh hi => by
  refine wp_loop_ghost (fun m a w => ∃ env I rs, Has n env a ∧ Inv F I rs w ∧ J m env I rs) (m := m) ⟨env0, I, rs, hh.sub hs, hi, h0⟩ ?_
  rintro m a w ⟨env, I, rs, h1, h2, h3⟩
  refine Code.wp_mono ?_ ((round m env I rs h3).run a w h1 h2)
  rintro e a w ⟨env, I, rs, h1, h2, h3⟩
  cases h3 with
  | norm h =>
    obtain ⟨m', env'', rs'', hlt, hsub, hJ, hrs⟩ := h
    exact ⟨m', hlt, env'', I, rs'', h1.sub hsub, h2.sublist hrs, hJ⟩
  | _ h => exact ⟨env, I, rs, h1, h2, h⟩⟩
theorem Ret.zeroS {rs' : List Row} {fn : Func} {post : Value → IH → List Row → Prop} {e : Exit} (he : e = .ret ∨ e = .normal) (hr : fn.results = #[]) (h : post (.tuple #[]) I rs') (hs : rs'.Sublist rs) : Ret P fn post e env I rs :=
  ⟨he, [], _, hs, by rw [hr]; exact .nil, h⟩
theorem Ret.oneS {rs' : List Row} {fn : Func} {post : Value → IH → List Row → Prop} {e : Exit} {r : ResultVar} {v : Value} (he : e = .ret ∨ e = .normal) (hr : fn.results = #[r]) (hv : RV P env I rs r v) (h : post v I rs') (hs : rs'.Sublist rs) : Ret P fn post e env I rs :=
  ⟨he, [v], _, hs, by rw [hr]; exact (.cons hv .nil), h⟩
theorem Ret.twoS {rs' : List Row} {fn : Func} {post : Value → IH → List Row → Prop} {e : Exit} {r : ResultVar} {v : Value} {r' : ResultVar} {v' : Value} (he : e = .ret ∨ e = .normal) (hr : fn.results = #[r, r']) (hv : RV P env I rs r v) (hv' : RV P env I rs r' v') (h : post (.tuple #[v, v']) I rs') (hs : rs'.Sublist rs) : Ret P fn post e env I rs :=
  ⟨he, [v, v'], _, hs, by rw [hr]; exact (.cons hv (.cons hv' .nil)), h⟩
theorem Ret.threeS {rs' : List Row} {fn : Func} {post : Value → IH → List Row → Prop} {e : Exit} {r : ResultVar} {v : Value} {r' : ResultVar} {v' : Value} {r'' : ResultVar} {v'' : Value} (he : e = .ret ∨ e = .normal) (hr : fn.results = #[r, r', r'']) (hv : RV P env I rs r v) (hv' : RV P env I rs r' v') (hv'' : RV P env I rs r'' v'') (h : post (.tuple #[v, v', v'']) I rs') (hs : rs'.Sublist rs) : Ret P fn post e env I rs :=
  ⟨he, [v, v', v''], _, hs, by rw [hr]; exact (.cons hv (.cons hv' (.cons hv'' .nil))), h⟩
end
end Go.Sx
