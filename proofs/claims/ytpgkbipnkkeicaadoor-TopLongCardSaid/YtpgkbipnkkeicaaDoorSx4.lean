import Derived.Test.YtpgkbipnkkeicaaDoorSx3
import Derived.Laws.MakeOwn
import Derived.Laws.OwnMore
import Derived.Laws.CopyRow
import Derived.Maps.AppendAt
/-! The rules for the operations that act. -/
namespace Go.Sx
open Go

theorem perm_at {α : Type} : ∀ (l : List α) (k : Nat) (r : α), l[k]? = some r → l.Perm (r :: l.eraseIdx k)
  | [], k, r, h => by simp at h
  | x :: l, 0, r, h => by simp at h; subst h; simp
  | x :: l, k + 1, r, h => by
    simp at h
    simp only [List.eraseIdx_cons_succ]
    exact ((perm_at l k r h).cons x).trans (List.Perm.swap r x _)
theorem perm_set {α : Type} : ∀ (l : List α) (k : Nat) (r : α), k < l.length → (r :: l.eraseIdx k).Perm (l.set k r)
  | [], k, r, h => by simp at h
  | x :: l, 0, r, h => by simp
  | x :: l, k + 1, r, h => by
    simp at h
    simp only [List.eraseIdx_cons_succ, List.set_cons_succ]
    exact (List.Perm.swap x r _).trans ((perm_set l k r h).cons x)
theorem Inv.at {F : Fr} {I : IH} {rs : List Row} {w : World} {k : Nat} {r : Row} (h : Inv F I rs w) (hr : rs[k]? = some r) : Inv F I (r :: rs.eraseIdx k) w := h.perm (perm_at rs k r hr)
theorem Inv.back {F : Fr} {I : IH} {rs : List Row} {w : World} {k : Nat} {r r' : Row} (h : Inv F I (r' :: rs.eraseIdx k) w) (hr : rs[k]? = some r) : Inv F I (rs.set k r') w :=
  h.perm (perm_set rs k r' (List.getElem?_eq_some_iff.1 hr).1)

/-- A row of our own that is written. -/
theorem Inv.setRow {F : Fr} {I : IH} {rs : List Row} {w w' : World} {r r' : Row} {g : Nat} (h : Inv F I (r :: rs) w) (hb : r.block = some g) (hb' : r'.block = some g) (hok : RowOK w' r')
    (ho : w'.os = w.os) (ht : w'.tape = w.tape) (hp : w'.output = w.output) (hs : w'.heap.size = w.heap.size) (hh : ∀ k, k ≠ g → w'.heap[k]? = w.heap[k]?) : Inv F I (r' :: rs) w' := by
  have hIg : I g = none := h.mem.apart g (by simp [hb])
  have hm : Mem I [r'] w' := by
    refine ⟨fun k o hk => ?_, fun x hx => ?_, fun k hk => ?_, by simp [hb']⟩
    · have e : k ≠ g := by rintro rfl; rw [hIg] at hk; cases hk
      rw [hh k e]; exact h.mem.imm k o hk
    · simp at hx; subst hx; exact hok
    · simp [hb'] at hk; subst hk; exact hIg
  have h' : Inv F I ([r] ++ rs) w := h
  exact h'.step hm ⟨ho, ht, hp, by omega, fun k _ hk => ⟨hh k (by simpa [hb] using hk), rfl⟩, fun k hk => .inl (by simpa [hb, hb'] using hk)⟩

section
variable {P : Program} {F : Fr} {env : Env} {I : IH} {rs : List Row} {d : Option Tmp} {ty : TypeId} {pos : String} {aft : Array Edge} {gd : Option (Nat × Bool)} {K : Value → IH → List Row → Prop}

theorem cell_push {w : World} {o : Obj} {ad : Addr} {u : Value} (h : w.cell? ad = some u) : ({ w with heap := w.heap.push o } : World).cell? ad = some u := by
  have hlt := World.block_lt_of_cell? w ad h
  unfold World.cell? at *
  show (match (w.heap.push o)[ad.block]? with | some (.cells c _ _) => if ad.spot.isSome then none else c[ad.off]? | _ => none) = some u
  rw [Array.getElem?_push, if_neg (Nat.ne_of_lt hlt)]
  exact h

theorem OpT.new {o : Oper} {T : TypeId} {cs : List Value} {f : Nat → Value} (hrun : ∀ (a : Act) (w : World), (∀ x ∈ o.op.operands, ∀ u, opd env x = some u → a.eval x = u) →
      (execOp a.eval o).run P w = .ok (.value (f w.heap.size)) { w with heap := w.heap.push (.cells cs.toArray T) })
    (k : ∀ g, I g = none → K (f g) I (.blk g T cs :: rs)) : OpT P F o K [] env I rs := .mk fun a w ho hi QX => by
  unfold Oper.wp
  rw [hrun a w ho, Oper.upon_value]
  have h := hi.alloc T cs
  exact ⟨_, _, _, rfl, h.1, fun ad u _ hu => cell_push hu, k _ h.2⟩

theorem OpT.box {T : TypeId} {x : Operand} {v : Value} {cs : List Value} (hx : opd env x = some v) (hc : v.cells = cs.toArray) (k : ∀ g, I g = none → K (.pointer (some ⟨g, 0, none⟩)) I (.blk g T cs :: rs)) :
    OpT P F ⟨d, .box T x, ty, pos, aft, gd⟩ K [] env I rs :=
  OpT.new (f := fun g => .pointer (some ⟨g, 0, none⟩)) (fun a w ho => by simp [execOp, Instr.box, ho x (by simp [Op.operands]) _ hx, newVar, newRow, hc]) k
theorem run_zero {T sz bytes : Nat} {z : Value} [h : TyZ P T z sz bytes] (w : World) : (zeroValue T).run P w = .ok z w := by
  have hi := h.i
  cases e : P.info? T with
  | none => rw [e] at hi; cases hi
  | some i => rw [e] at hi; simp at hi; simp [zeroValue, typeInfo, e, hi.1]
theorem OpT.alloc {T sz bytes : Nat} {z : Value} [h : TyZ P T z sz bytes] {cs : List Value} (hc : z.cells = cs.toArray) (k : ∀ g, I g = none → K (.pointer (some ⟨g, 0, none⟩)) I (.blk g T cs :: rs)) :
    OpT P F ⟨d, .alloc T, ty, pos, aft, gd⟩ K [] env I rs :=
  OpT.new (f := fun g => .pointer (some ⟨g, 0, none⟩)) (fun a w _ => by simp [execOp, Instr.alloc, run_zero, newVar, newRow, hc]) k

/-- A slice written out, of elements of one cell. -/
theorem fill_ones : ∀ (vs : List Value) (k n : Nat) (cs : Array Value), (∀ v ∈ vs, v.cells = #[v]) → k + vs.length = n → cs.size = n →
    Instr.fill (fun i => some (i * 1, 1)) cs ((vs.zipIdx k).map fun p => (p.2, p.1)) = some (cs.toList.take k ++ vs).toArray := by
  intro vs
  induction vs with
  | nil => intro k n cs _ h1 h2; simp [Instr.fill]; rw [List.take_of_length_le (by simp; simp at h1; omega)]
  | cons v vs ih =>
    intro k n cs hc h1 h2
    have hv := hc v (.head _)
    simp at h1
    simp only [List.zipIdx_cons, List.map_cons, Instr.fill, hv]
    have e1 : ¬ ((#[v] : Array Value).size ≠ 1 || k * 1 + (#[v] : Array Value).size > cs.size) = true := by simp; omega
    rw [if_neg e1]
    have e2 : Array.foldl (fun cs (x : Value × Nat) => match x with | (c, j) => cs.setIfInBounds (k * 1 + j) c) cs (#[v] : Array Value).zipIdx = cs.setIfInBounds k v := by
      rw [← Array.foldl_toList]; simp
    rw [e2, ih (k + 1) n _ (fun u hu => hc u (.tail _ hu)) (by omega) (by simp; omega)]
    congr 1
    congr 1
    rw [Array.toList_setIfInBounds, List.take_set, List.take_add_one, List.set_append]
    have hlen : (cs.toList.take k).length = k := by simp; omega
    rw [if_neg (by omega), hlen, Nat.sub_self]
    have hk : k < cs.toList.length := by simp; omega
    rw [List.getElem?_eq_getElem hk]
    simp
theorem OpT.buildSlice {T e len bytes : Nat} {z : Value} [hT : TySl P T e 1] [hZ : TyZ P e z 1 bytes] {parts : Array (Nat × Operand)} {xs : List Operand} {vs : List Value}
    (hp : parts.toList = xs.zipIdx.map fun p => (p.2, p.1)) (hl : vs.length = len) (hv : opds env xs = some vs) (hc : ∀ v ∈ vs, v.cells = #[v]) (hsm : len ≤ 1000)
    (k : ∀ g, I g = none → K (.slice (some ⟨g, 0, none⟩) len len) I (.blk g e vs :: rs)) : OpT P F ⟨d, .buildSlice T len parts, ty, pos, aft, gd⟩ K [] env I rs := by
  refine OpT.new (f := fun g => .slice (some ⟨g, 0, none⟩) len len) (fun a w ho => ?_) k
  have hparts : (parts.map fun (p : Nat × Operand) => (p.1, a.eval p.2)).toList = (vs.zipIdx).map fun p => (p.2, p.1) := by
    have key : ∀ (xs : List Operand) (vs : List Value) (k : Nat), (∀ x ∈ xs, ∀ u, opd env x = some u → a.eval x = u) → opds env xs = some vs →
        (xs.zipIdx k).map (fun p => (p.2, a.eval p.1)) = (vs.zipIdx k).map fun p => (p.2, p.1) := by
      intro xs
      induction xs with
      | nil => intro vs k _ h; cases h; rfl
      | cons x xs ih =>
        intro vs k hh h
        obtain ⟨u, us, h1, h2, rfl⟩ := opds_cons h
        simp [hh x (.head _) u h1, ih us (k + 1) (fun y hy => hh y (.tail _ hy)) h2]
    rw [Array.toList_map, hp, List.map_map]
    refine Eq.trans ?_ (key xs vs 0 (fun x hx => ho x ?_) hv)
    · rfl
    · simp only [Op.operands, List.mem_toArray, List.mem_map]
      obtain ⟨j, hj⟩ := List.mem_iff_getElem?.1 hx
      exact ⟨(j, x), by rw [hp, List.mem_map]; exact ⟨(x, j), List.mem_iff_getElem?.2 ⟨j, by simp [List.getElem?_zipIdx, hj]⟩, rfl⟩, rfl⟩
  have hfill := fill_ones vs 0 len ((Array.range (len * 1)).map (fun i => (if len * 1 = 0 then #[] else z.cells)[i % (if len * 1 = 0 then #[] else z.cells).size]!)) hc (by omega) (by simp)
  simp only [List.take_zero, List.nil_append] at hfill
  simp only [execOp, Instr.buildSlice, Sem.run_bind, run_und hT.u, Result.andThen_ok, run_size hT.s, show ¬ (len * 1 > 2 ^ 24) from by omega, if_false]
  by_cases h0 : len * 1 = 0
  · simp only [h0, if_true, Sem.run_bind, Sem.run_pure, Result.andThen_ok] at hfill ⊢
    rw [hparts, hfill]
    simp [newRow]
  · simp only [h0, if_false, Sem.run_bind, Sem.run_pure, Result.andThen_ok, run_zero] at hfill ⊢
    rw [hparts, hfill]
    simp [newRow]

/-- A slice of one element of several cells, written out. -/
theorem OpT.buildSlice1 {T e sz bytes : Nat} {z : Value} [hT : TySl P T e sz] [hZ : TyZ P e z sz bytes] {x : Operand} {v : Value} {cs : List Value}
    (hx : opd env x = some v) (hc : v.cells = cs.toArray) (hl : cs.length = sz) (h0 : 0 < sz) (hsm : sz ≤ 1000)
    (k : ∀ g, I g = none → K (.slice (some ⟨g, 0, none⟩) 1 1) I (.blk g e cs :: rs)) : OpT P F ⟨d, .buildSlice T 1 #[(0, x)], ty, pos, aft, gd⟩ K [] env I rs := by
  refine OpT.new (f := fun g => .slice (some ⟨g, 0, none⟩) 1 1) (fun a w ho => ?_) k
  have key : ∀ (cs : List Value) (k : Nat) (acc : Array Value), k + cs.length = acc.size →
      (cs.zipIdx k).foldl (fun (acc : Array Value) (p : Value × Nat) => acc.setIfInBounds (0 * sz + p.2) p.1) acc = (acc.toList.take k ++ cs).toArray := by
    intro cs
    induction cs with
    | nil => intro k acc h; simp at h; simp; rw [List.take_of_length_le (by simp; omega)]
    | cons c cs ih =>
      intro k acc h
      simp at h
      rw [List.zipIdx_cons, List.foldl_cons, ih (k + 1) _ (by simp; omega)]
      congr 1
      rw [Array.toList_setIfInBounds, List.take_set, List.take_add_one, List.set_append]
      have hlen : (acc.toList.take k).length = k := by simp; omega
      have hk : k < acc.toList.length := by simp; omega
      rw [List.getElem?_eq_getElem hk]
      simp [hlen]
  have hfill : ∀ (acc : Array Value), acc.size = sz → Instr.fill (fun i => some (i * sz, sz)) acc [(0, v)] = some cs.toArray := by
    intro acc hacc
    simp only [Instr.fill, hc]
    rw [if_neg (by simp; omega)]
    rw [← Array.foldl_toList]
    have := key cs 0 acc (by omega)
    simp only [List.take_zero, List.nil_append] at this
    congr 1
    refine Eq.trans ?_ this
    simp only [Array.toList_zipIdx]
  have hxe := ho x (by simp [Op.operands]) _ hx
  have n0 : ¬ (1 * sz = 0) := by omega
  simp only [execOp, Instr.buildSlice, Sem.run_bind, run_und hT.u, Result.andThen_ok, run_size hT.s, show ¬ (1 * sz > 2 ^ 24) from by omega, if_false, n0, run_zero, Sem.run_pure]
  simp only [List.map_toArray, List.map_cons, List.map_nil, hxe]
  rw [hfill _ (by simp)]
  simp [newRow]

theorem madeCells_eq (zc : List Value) (n : Nat) (h : 0 < zc.length) : madeCells zc.toArray (n * zc.length) = ((List.replicate n zc).flatten).toArray := by
  have hz : ∀ i, i < n * zc.length → ((List.replicate n zc).flatten)[i]? = zc[i % zc.length]? := by
    intro i
    induction n generalizing i with
    | zero => intro hi; simp at hi
    | succ n ih =>
      intro hi
      rw [List.replicate_succ, List.flatten_cons, List.getElem?_append]
      split
      · rename_i h1; rw [Nat.mod_eq_of_lt h1]
      · rename_i h1
        rw [ih _ (by rw [Nat.add_mul, Nat.one_mul] at hi; omega)]
        rw [Nat.mod_eq_sub_mod (a := i) (b := zc.length) (by omega)]
  have hl : ((List.replicate n zc).flatten).length = n * zc.length := by simp
  apply Array.ext
  · simp [madeCells]
  · intro i h1 h2
    have hi : i < n * zc.length := by simpa [madeCells] using h1
    have e1 := hz i hi
    rw [List.getElem?_eq_getElem (by omega)] at e1
    have hm : i % zc.length < zc.length := Nat.mod_lt _ h
    rw [List.getElem?_eq_getElem hm] at e1
    simp [madeCells, hm] at e1 ⊢
    exact e1.symm
theorem OpT.make {T e sz bytes : Nat} {z : Value} [hT : TySl P T e sz] [hZ : TyZ P e z sz bytes] {x y : Operand} {k1 k2 : IntKind} {l c : Int} (hx : opd env x = some (.int k1 l)) (hy : opd env y = some (.int k2 c))
    (h0 : 0 ≤ l) (hlc : l ≤ c) (hb : (bytes : Int) * c ≤ 281474976710656) (hz : 0 < sz) (hm : c ≤ 9223372036854775807)
    (k : ∀ g, I g = none → K (.slice (some ⟨g, 0, none⟩) l.toNat c.toNat) I (.blk g e ((List.replicate c.toNat z.cells.toList).flatten) :: rs)) : OpT P F ⟨d, .makeSlice T x y, ty, pos, aft, gd⟩ K [] env I rs := by
  refine OpT.new (f := fun g => .slice (some ⟨g, 0, none⟩) l.toNat c.toNat) (fun a w ho => ?_) k
  have hi := hZ.i
  cases e1 : P.info? e with
  | none => rw [e1] at hi; cases hi
  | some i =>
    rw [e1] at hi
    simp at hi
    have hr := run_make (P := P) w T e i z hT.u e1 hi.1 k1 k2 l c h0 hlc (by rw [hi.2.2]; exact hb) hm
    have hzl : z.cells.toList.length = sz := by simpa using hZ.z
    have hmc := madeCells_eq z.cells.toList c.toNat (by omega)
    rw [hzl, Array.toArray_toList] at hmc
    simp only [execOp, ho x (by simp [Op.operands]) _ hx, ho y (by simp [Op.operands]) _ hy, Sem.run_bind, hr, Result.andThen_ok, Sem.run_pure, hi.2.1, hmc]
    rfl

/-! ### Stores -/
theorem oneCell_cells {v : Value} (h : v.oneCell' = true) : v.cells = #[v] := by cases v <;> simp_all [Value.oneCell', Value.cells]
theorem OpT.store {T : TypeId} [hT : TyOne P T] {x y : Operand} {g i k : Nat} {v : Value} {T' : TypeId} {cs : List Value} (hx : opd env x = some (.pointer (some ⟨g, i, none⟩))) (hy : opd env y = some v) (h1 : v.oneCell' = true)
    (hr : rs[k]? = some (.blk g T' cs)) (hi : i < cs.length) (kk : K undef I (rs.set k (.blk g T' (cs.set i v)))) : OpT P F ⟨d, .store T x y, ty, pos, aft, gd⟩ K [g] env I rs := .mk fun a w ho hinv QX => by
  have hb : w.heap[g]? = some (.cells cs.toArray T' (0, 0)) := hinv.mem.rows _ (List.mem_of_getElem? hr)
  have hc : w.cell? ⟨g, i, none⟩ = some cs[i] := by simp [World.cell?, hb, hi]
  have hf : w.frozen? ⟨g, i, none⟩ = false := by simp [World.frozen?, hb]
  have hadd : (⟨g, i, none⟩ : Addr).add 0 = ⟨g, i, none⟩ := by simp [Addr.add]
  have hrun : (Instr.storeAt T (.pointer (some ⟨g, i, none⟩)) v).run P w = .ok () (w.setCell ⟨g, i, none⟩ v) := by
    simp [Instr.storeAt, Instr.sureAddr, storeVar, oneCell_cells h1, run_size hT.s, storeCells, hadd, run_store P w _ v _ h1, hc, hf]
  unfold Oper.wp
  have he : (execOp a.eval ⟨d, .store T x y, ty, pos, aft, gd⟩).run P w = .ok .skip (w.setCell ⟨g, i, none⟩ v) := by
    simp [execOp, ho x (by simp [Op.operands]) _ hx, ho y (by simp [Op.operands]) _ hy, hrun]
  rw [he, Oper.upon_skip]
  refine ⟨undef, I, _, rfl, ((hinv.at hr).setBlk i v).back hr, fun ad u had hu => ?_, kk⟩
  rw [World.cell?_setCell_other]
  · exact hu
  · rintro rfl; simp at had
theorem OpT.storeOwn {T : TypeId} [hT : TyOne P T] {x y : Operand} {g i k : Nat} {v : Value} {c T' sz n : Nat} {xs : List Value} (hx : opd env x = some (.pointer (some ⟨g, i, none⟩))) (hy : opd env y = some v) (h1 : v.oneCell' = true)
    (hr : rs[k]? = some (.own (some ⟨g, 0, none⟩) c T' sz n xs)) (hi : i < xs.length) (kk : K undef I (rs.set k (.own (some ⟨g, 0, none⟩) c T' sz n (xs.set i v)))) : OpT P F ⟨d, .store T x y, ty, pos, aft, gd⟩ K [g] env I rs := .mk fun a w ho hinv QX => by
  have hb : w.ownsRow 0 T' sz (.slice (some ⟨g, 0, none⟩) n c) n xs := hinv.mem.rows _ (List.mem_of_getElem? hr)
  have hc : w.cell? ⟨g, i, none⟩ = some xs[i] := by rw [hb.cellAt i (by rw [← hb.1]; exact hi)]; simp
  have hf : w.frozen? ⟨g, i, none⟩ = false := hb.frozenAt i
  have hadd : (⟨g, i, none⟩ : Addr).add 0 = ⟨g, i, none⟩ := by simp [Addr.add]
  have hrun : (Instr.storeAt T (.pointer (some ⟨g, i, none⟩)) v).run P w = .ok () (w.setCell ⟨g, i, none⟩ v) := by
    simp [Instr.storeAt, Instr.sureAddr, storeVar, oneCell_cells h1, run_size hT.s, storeCells, hadd, run_store P w _ v _ h1, hc, hf]
  unfold Oper.wp
  have he : (execOp a.eval ⟨d, .store T x y, ty, pos, aft, gd⟩).run P w = .ok .skip (w.setCell ⟨g, i, none⟩ v) := by
    simp [execOp, ho x (by simp [Op.operands]) _ hx, ho y (by simp [Op.operands]) _ hy, hrun]
  rw [he, Oper.upon_skip]
  refine ⟨undef, I, _, rfl, ((hinv.at hr).setRow (g := g) (r' := .own (some ⟨g, 0, none⟩) c T' sz n (xs.set i v)) rfl rfl (hb.stored i v).1 rfl rfl rfl (by simp [World.setCell]) (fun k hk => by
    simp [World.setCell, Array.getElem?_modify, Ne.symm hk])).back hr, fun ad u had hu => ?_, kk⟩
  rw [World.cell?_setCell_other]
  · exact hu
  · rintro rfl; simp at had
/-- A struct or an array that is stored into a block. -/
theorem OpT.storeA {T sz : TypeId} (hs : (P.info? T).map (·.size) = some sz) {x y : Operand} {g i k : Nat} {vs : List Value} {T' : TypeId} {cs : List Value} (hx : opd env x = some (.pointer (some ⟨g, i, none⟩))) (hy : opd env y = some (.agg vs.toArray))
    (hl : vs.length = sz) (h1 : ∀ v ∈ vs, v.oneCell' = true) (hr : rs[k]? = some (.blk g T' cs)) (hi : i + sz ≤ cs.length)
    (kk : K undef I (rs.set k (.blk g T' (cs.take i ++ vs ++ cs.drop (i + sz))))) : OpT P F ⟨d, .store T x y, ty, pos, aft, gd⟩ K [g] env I rs := .mk fun a w ho hinv QX => by
  have hb : w.heap[g]? = some (.cells cs.toArray T' (0, 0)) := hinv.mem.rows _ (List.mem_of_getElem? hr)
  subst hl
  have hrun := run_storeCells_at (P := P) g i T' vs 0 cs.toArray w hb (by simpa using hi) h1
  simp only [Nat.add_zero] at hrun
  have hrun' : (Instr.storeAt T (.pointer (some ⟨g, i, none⟩)) (.agg vs.toArray)).run P w = .ok () (w.setRow g (cs.take i ++ vs ++ cs.drop (i + vs.length)).toArray) := by
    simp [Instr.storeAt, Instr.sureAddr, storeVar, Value.cells, run_size hs, hrun]
  unfold Oper.wp
  have he : (execOp a.eval ⟨d, .store T x y, ty, pos, aft, gd⟩).run P w = .ok .skip (w.setRow g (cs.take i ++ vs ++ cs.drop (i + vs.length)).toArray) := by
    simp [execOp, ho x (by simp [Op.operands]) _ hx, ho y (by simp [Op.operands]) _ hy, hrun']
  rw [he, Oper.upon_skip]
  have hsame : ∀ k, k ≠ g → (w.setRow g (cs.take i ++ vs ++ cs.drop (i + vs.length)).toArray).heap[k]? = w.heap[k]? := fun k hk => by
    simp [World.setRow, Array.getElem?_modify, Ne.symm hk]
  refine ⟨undef, I, _, rfl, ((hinv.at hr).setRow (g := g) (w' := w.setRow g (cs.take i ++ vs ++ cs.drop (i + vs.length)).toArray) (r' := .blk g T' (cs.take i ++ vs ++ cs.drop (i + vs.length))) rfl rfl ?_ rfl rfl rfl (by simp [World.setRow]) hsame).back hr, fun ad u had hu => ?_, kk⟩
  · show (w.setRow g _).heap[g]? = _
    simp [World.setRow, Array.getElem?_modify, hb]
  · rw [World.cell?_of_block (hsame ad.block (by simpa using had))]; exact hu

/-- A struct or an array that takes a whole block's place. -/
theorem OpT.storeAll {T sz : TypeId} [hT : TyAgg P T sz] {x y : Operand} {g k : Nat} {vs : List Value} {T' : TypeId} {cs : List Value} (hx : opd env x = some (.pointer (some ⟨g, 0, none⟩))) (hy : opd env y = some (.agg vs.toArray))
    (hr : rs[k]? = some (.blk g T' cs)) (hl : vs.length = sz) (hl' : cs.length = sz) (h1 : ∀ v ∈ vs, v.oneCell' = true)
    (kk : K undef I (rs.set k (.blk g T' vs))) : OpT P F ⟨d, .store T x y, ty, pos, aft, gd⟩ K [g] env I rs :=
  OpT.storeA hT.s hx hy hl h1 hr (by omega) (by
    have : cs.take 0 ++ vs ++ cs.drop (0 + sz) = vs := by rw [List.drop_eq_nil_of_le (by omega)]; simp
    rw [this]; exact kk)

/-! ### append -/
theorem Fram.of_grown {w w' : World} {r : Row} {r' : Row} (hg : w.grownBy w' r.block) (hb : r'.block = r.block ∨ r'.block = some w.heap.size) : Fram I (blocks [r]) w I [r'] w' := by
  refine ⟨hg.os, hg.tape, hg.output, hg.size, fun k hk hn => ⟨hg.block k hk fun e => hn ?_, rfl⟩, fun g hgb => ?_⟩
  · simp [← e]
  · rcases hb with h | h
    · refine .inl ?_
      simp only [blocks_cons, blocks_nil, List.append_nil] at hgb ⊢
      rwa [h] at hgb
    · refine .inr ?_
      simp [h] at hgb
      omega
theorem oneCell_all {l : List Value} (h : l.all (·.oneCell') = true) : ∀ u ∈ l, u.oneCell' = true := by simpa using h
/-- 'out = append(out, x...)': out of our own; what is appended lies wherever it may. -/
theorem OpT.append_at {T e sz bytes : Nat} {z : Value} [hT : TySl P T e sz] [hZ : TyZ P e z sz bytes] {x y : Operand} {A : Option Addr} {n c m c' k : Nat} {ad : Addr} {xs news : List Value}
    (hx : opd env x = some (.slice A n c)) (hy : opd env y = some (.slice (some ad) m c')) (hr : rs[k]? = some (.own A c e sz n xs)) (hl : news.length = m * sz)
    (h1 : ∀ u ∈ news, u.oneCell' = true) (h63 : n + m ≤ 9223372036854775807) (hb : (n + m) * bytes ≤ 140737488355328) (hsz : 0 < sz)
    (kk : ∀ A' cap, K (.slice A' (n + m) cap) I (rs.set k (.own A' cap e sz (n + m) (xs ++ news)))) :
    ∀ (a : Act) (w : World), (∀ r ∈ reqs ad news, w.cell? r.1 = some r.2) → (∀ x' ∈ (⟨d, .call { callee := .builtin .append, args := #[x, y], argTypes := #[T, T] }, ty, pos, aft, gd⟩ : Oper).op.operands, ∀ u, opd env x' = some u → a.eval x' = u) → Inv F I rs w → ∀ QX : Exit → Act → World → Prop,
    (⟨d, .call { callee := .builtin .append, args := #[x, y], argTypes := #[T, T] }, ty, pos, aft, gd⟩ : Oper).wp P a w (fun a' w' => ∃ v I' rs', a' = a.put d v ∧ Inv F I' rs' w' ∧ (∀ ad u, ad.block ∉ (A.map (·.block)).toList → w.cell? ad = some u → w'.cell? ad = some u) ∧ K v I' rs') QX := fun a w hcell ho hinv QX => by
  have hi := hZ.i
  cases e1 : P.info? e with
  | none => rw [e1] at hi; cases hi
  | some i =>
    rw [e1] at hi
    simp at hi
    have hown : w.ownsRow 0 e sz (.slice A n c) n xs := hinv.mem.rows _ (List.mem_of_getElem? hr)
    obtain ⟨v', w', hrun, hown', hg, _, hloc⟩ := run_append_own_at (P := P) w 0 T ty e i z sz bytes hT.u e1 hi.1 hi.2.1 hi.2.2 hZ.z hsz (.slice A n c) n xs hown ad m c' news hl (reqs_spec hcell) h1
      (by simpa [maxLen] using h63) hb (Nat.zero_le _)
    have hvf : ∃ A' cap, v' = .slice A' (n + m) cap := by
      rcases hown'.2 with ⟨rfl, h0⟩ | ⟨g, cap, cur, rfl, _⟩
      · exact ⟨none, 0, by rw [h0]⟩
      · exact ⟨_, _, rfl⟩
    obtain ⟨A', cap, rfl⟩ := hvf
    have hbl : ∀ (A : Option Addr) (n c : Nat), (Value.slice A n c).ownBlock = A.map (·.block) := fun A n c => by cases A <;> rfl
    rw [hbl] at hg hloc
    rw [hbl] at hloc
    unfold Oper.wp
    have he : (execOp a.eval ⟨d, .call { callee := .builtin .append, args := #[x, y], argTypes := #[T, T] }, ty, pos, aft, gd⟩).run P w = .ok (.value (.slice A' (n + m) cap)) w' := by
      simp [execOp, resolve, invoke, builtin, ho x (by simp [Op.operands, Call.operands]) _ hx, ho y (by simp [Op.operands, Call.operands]) _ hy, hrun]
    rw [he, Oper.upon_value]
    have hinv' := hinv.at hr
    have hm : Mem I [.own A' cap e sz (n + m) (xs ++ news)] w' := by
      refine ⟨fun k o hk => ?_, fun x hx => ?_, fun k hk => ?_, ?_⟩
      · have hlt := hinv.mem.imm_lt hk
        rw [hg.block k hlt (fun e => ?_)]
        · exact hinv.mem.imm k o hk
        · have := hinv'.mem.apart k (by simp [Row.block, ← e])
          rw [hk] at this; cases this
      · simp at hx; subst hx; exact hown'
      · simp only [blocks_cons, Row.block, blocks_nil, List.append_nil, Option.mem_toList] at hk
        rcases hloc with h | h
        · exact hinv'.mem.apart k (by simp [Row.block, ← h, hk])
        · rw [h] at hk
          simp at hk
          subst hk
          cases hI : I w.heap.size with
          | none => rfl
          | some o => exact absurd (hinv.mem.imm_lt hI) (by omega)
      · simp only [blocks_cons, Row.block, blocks_nil, List.append_nil]
        cases A'.map (·.block) <;> simp
    have hst : Inv F I ([.own A' cap e sz (n + m) (xs ++ news)] ++ rs.eraseIdx k) w' :=
      Inv.step (rs := [.own A c e sz n xs]) (rf := rs.eraseIdx k) hinv' hm (Fram.of_grown (r := .own A c e sz n xs) hg hloc)
    refine ⟨_, I, _, rfl, Inv.back hst hr, fun ad u had hu => ?_, kk A' cap⟩
    rw [World.cell?_of_block (hg.block ad.block (World.block_lt_of_cell? w ad hu) fun e => had (by simp [← e]))]
    exact hu

theorem OpT.append {T e sz bytes : Nat} {z : Value} [hT : TySl P T e sz] [hZ : TyZ P e z sz bytes] {x y : Operand} {A : Option Addr} {n c m c' k : Nat} {ad : Addr} {xs news : List Value}
    (hx : opd env x = some (.slice A n c)) (hy : opd env y = some (.slice (some ad) m c')) (hr : rs[k]? = some (.own A c e sz n xs)) (hl : news.length = m * sz) (hq : Rq I rs (reqs ad news))
    (h1 : ∀ u ∈ news, u.oneCell' = true) (h63 : n + m ≤ 9223372036854775807) (hb : (n + m) * bytes ≤ 140737488355328) (hsz : 0 < sz)
    (kk : ∀ A' cap, K (.slice A' (n + m) cap) I (rs.set k (.own A' cap e sz (n + m) (xs ++ news)))) :
    OpT P F ⟨d, .call { callee := .builtin .append, args := #[x, y], argTypes := #[T, T] }, ty, pos, aft, gd⟩ K (A.map (·.block)).toList env I rs := .mk fun a w ho hinv QX =>
  OpT.append_at hx hy hr hl h1 h63 hb hsz kk a w (hq.run w hinv.mem) ho hinv QX

/-! ### Calls -/
theorem run_callFunc {fid : FuncId} {args : Array Value} (h : callable P fid = true) (w : World) : (callFunc fid args).run P w = .ok (.enter fid args) w := by
  unfold callable at h
  unfold callFunc
  cases hf : P.funcs[fid]? with
  | none => rw [hf] at h; cases h
  | some fn =>
    rw [hf] at h
    simp only [Bool.and_eq_true, Bool.not_eq_true', beq_eq_false_iff_ne, ne_eq] at h
    have hb : fn.body ≠ none := fun e => by rw [e] at h; simp at h
    simp [hf, h.2, hb]
theorem OpT.call {f : Operand} {args : Array Operand} {ts : Array TypeId} {fid : FuncId} {first caps : Array Value} {vs : List Value} {rsc rf : List Row} {post : Value → IH → List Row → Prop}
    (hf : opd env f = some (.func (.func fid) first caps)) (ha : opds env args.toList = some vs) (h : Sx.Fn P fid (first ++ vs.toArray ++ caps) I rsc post) (hrs : rs = rsc ++ rf)
    (k : ∀ v I' rs', I.le I' → post v I' rs' → K v I' (rs' ++ rf)) : OpT P F ⟨d, .call { callee := .value f, args := args, argTypes := ts }, ty, pos, aft, gd⟩ K (blocks rsc) env I rs := .mk fun a w ho hinv QX => by
  subst hrs
  have hmem : Mem I rsc w := ⟨hinv.mem.imm, fun r hr => hinv.mem.rows r (List.mem_append_left _ hr), fun g hg => hinv.mem.apart g (by simp [hg]), by have := hinv.mem.nodup; rw [blocks_append] at this; exact (List.nodup_append.1 this).1⟩
  have hfe := ho f (by simp [Op.operands, Call.operands]) _ hf
  have hae : args.map a.eval = vs.toArray := by
    have := opds_eval args.toList vs (fun x hx => ho x (by simp only [Op.operands, Call.operands]; exact Array.mem_append.2 (.inr (Array.mem_toList_iff.1 hx)))) ha
    rw [← this, ← Array.toList_map]
  unfold Oper.wp
  have he : (execOp a.eval ⟨d, .call { callee := .value f, args := args, argTypes := ts }, ty, pos, aft, gd⟩).run P w = .ok (.enter fid (first ++ vs.toArray ++ caps)) w := by
    simp only [execOp, resolve, hfe, hae, Deferred.ofValue, Sem.run_bind, Sem.run_pure, Result.andThen_ok, invoke, run_callFunc h.call]
  rw [he, Oper.upon_enter]
  refine (h.run w hmem).mono ?_
  rintro e w' ⟨v, I', rs', rfl, h1, h2, h3⟩
  refine ⟨v, I', rs' ++ rf, rfl, hinv.step h1 h2, fun ad u had hu => ?_, k v I' rs' (h2.le hmem) h3⟩
  rw [World.cell?_of_block (h2.old ad.block (World.block_lt_of_cell? w ad hu) had).1]
  exact hu

/-- A contract of a function that writes nothing that was there. -/
def PFn (P : Program) (f : FuncId) (args : Array Value) (I : IH) (post : Value → IH → Prop) : Prop := Sx.Fn P f args I [] fun v I' rs' => rs' = [] ∧ post v I'
theorem OpT.pcall {f : Operand} {args : Array Operand} {ts : Array TypeId} {fid : FuncId} {first caps : Array Value} {vs : List Value} {post : Value → IH → Prop}
    (hf : opd env f = some (.func (.func fid) first caps)) (ha : opds env args.toList = some vs) (h : PFn P fid (first ++ vs.toArray ++ caps) I post)
    (k : ∀ v I', I.le I' → post v I' → K v I' rs) : OpT P F ⟨d, .call { callee := .value f, args := args, argTypes := ts }, ty, pos, aft, gd⟩ K [] env I rs :=
  OpT.call (rsc := []) (rf := rs) hf ha h rfl fun v I' rs' h1 h2 => by rw [h2.1]; exact k v I' h1 h2.2
/-- All rows are handed over. -/
theorem OpT.callA {f : Operand} {args : Array Operand} {ts : Array TypeId} {fid : FuncId} {first caps : Array Value} {vs : List Value} {post : Value → IH → List Row → Prop}
    (hf : opd env f = some (.func (.func fid) first caps)) (ha : opds env args.toList = some vs) (h : Sx.Fn P fid (first ++ vs.toArray ++ caps) I rs post)
    (k : ∀ v I' rs', I.le I' → post v I' rs' → K v I' rs') : OpT P F ⟨d, .call { callee := .value f, args := args, argTypes := ts }, ty, pos, aft, gd⟩ K (blocks rs) env I rs :=
  OpT.call (rsc := rs) (rf := []) hf ha h (by simp) fun v I' rs' h1 h2 => by rw [List.append_nil]; exact k v I' rs' h1 h2
end
end Go.Sx
