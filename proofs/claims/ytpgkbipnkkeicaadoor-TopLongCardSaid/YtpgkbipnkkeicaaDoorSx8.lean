import Derived.Test.YtpgkbipnkkeicaaDoorSx7
import Derived.Test.YtpgkbipnkkeicaaDoorInsG
/-! Rows that are cut short; clear. -/
namespace Go.Sx
open Go
section
variable {P : Program} {F : Fr} {K : Value → IH → List Row → Prop} {env : Env} {I : IH} {rs : List Row} {d : Option Tmp} {ty : TypeId} {pos : String} {aft : Array Edge} {gd : Option (Nat × Bool)}
theorem Inv.reRow {w : World} {r r' : Row} (h : Inv F I (r :: rs) w) (hb : r'.block = r.block) (hok : RowOK w r') : Inv F I (r' :: rs) w := by
  have e : blocks (r' :: rs) = blocks (r :: rs) := by rw [blocks_cons, blocks_cons, hb]
  exact ⟨⟨h.mem.imm, fun x hx => (List.mem_cons.1 hx).elim (fun e => e ▸ hok) fun hx => h.mem.rows x (.tail _ hx), by rw [e]; exact h.mem.apart, by rw [e]; exact h.mem.nodup⟩,
    ⟨h.fram.os, h.fram.tape, h.fram.output, h.fram.size, h.fram.old, by rw [e]; exact h.fram.new⟩⟩
theorem Inv.shrink {w : World} {A : Option Addr} {c T sz m m' k : Nat} {xs : List Value} (h : Inv F I rs w) (hr : rs[k]? = some (.own A c T sz m xs)) (hm : m' ≤ m) :
    Inv F I (rs.set k (.own A c T sz m' (xs.take (m' * sz)))) w := by
  have h1 := h.at hr
  have hb : w.ownsRow 0 T sz (.slice A m c) m xs := h.mem.rows _ (List.mem_of_getElem? hr)
  have hle : m' * sz ≤ m * sz := Nat.mul_le_mul_right _ hm
  refine Inv.back (r := .own A c T sz m xs) (h1.reRow rfl ?_) hr
  refine ⟨by rw [List.length_take, hb.1]; omega, ?_⟩
  rcases hb.2 with ⟨e, h0⟩ | ⟨g, cap, cur, e, h0, hh, h2, h3, h4, h5⟩
  · cases e
    exact .inl ⟨by rw [show m' = 0 from by omega], by omega⟩
  · cases e
    exact .inr ⟨g, c, cur, rfl, h0, hh, by omega, h3, h4, by rw [← h5, List.take_take, Nat.min_eq_left hle]⟩
variable {n : Nat} {Q : Pst}
theorem SyC.shrink {cd : Code} {A : Option Addr} {c T sz m k : Nat} {xs : List Value} (m' : Nat) (hr : rs[k]? = some (.own A c T sz m xs)) (hm : m' ≤ m) (h : SyC P n F cd Q env I (rs.set k (.own A c T sz m' (xs.take (m' * sz))))) : SyC P n F cd Q env I rs :=
  ⟨fun a w hh hi => h.run a w hh (hi.shrink hr hm)⟩
theorem SyL.shrink {ops : Array Oper} {l : List Oper} {A : Option Addr} {c T sz m k : Nat} {xs : List Value} (m' : Nat) (hr : rs[k]? = some (.own A c T sz m xs)) (hm : m' ≤ m) (h : SyL P n F ops l Q env I (rs.set k (.own A c T sz m' (xs.take (m' * sz))))) : SyL P n F ops l Q env I rs :=
  ⟨fun a w hh hi => h.run a w hh (hi.shrink hr hm)⟩
/-- A fact that is kept from the tactics. -/
structure Hd (p : Prop) : Prop where
  out : p
/-- A row of our own has no elements, or it lies at the head of a block. -/
theorem SyC.formD {cd : Code} {A : Option Addr} {cap T sz k : Nat} {xs : List Value} (hm : .own A cap T sz k xs ∈ rs) (h : (k = 0 ∨ ∃ g, A = some ⟨g, 0, none⟩) → SyC P n F cd Q env I rs) : SyC P n F cd Q env I rs := by
  by_cases hk : k = 0
  · exact h (.inl hk)
  · exact SyC.form hm (by omega) fun g e => h (.inr ⟨g, e⟩)
/-- A call that takes all rows, the last ones first. -/
theorem OpT.callR (i : Nat) {f : Operand} {args : Array Operand} {ts : Array TypeId} {fid : FuncId} {first caps : Array Value} {vs : List Value} {rsc : List Row} {post : Value → IH → List Row → Prop}
    (hf : opd env f = some (.func (.func fid) first caps)) (ha : opds env args.toList = some vs) (h : Sx.Fn P fid (first ++ vs.toArray ++ caps) I rsc post) (hrs : rs.drop i ++ rs.take i = rsc)
    (k : ∀ v I' rs', I.le I' → post v I' rs' → K v I' rs') : OpT P F ⟨d, .call { callee := .value f, args := args, argTypes := ts }, ty, pos, aft, gd⟩ K (blocks rsc) env I rs := .mk fun a w ho hinv QX => by
  have hp : rs.Perm rsc := by
    rw [← hrs]
    conv => lhs; rw [← List.take_append_drop i rs]
    exact List.perm_append_comm
  exact (OpT.callA (P := P) (F := F) (d := d) (ty := ty) (pos := pos) (aft := aft) (gd := gd) (ts := ts) hf ha h k).run a w ho (hinv.perm hp) QX
theorem LV.sliceHN {g : Option (Nat × Bool)} {T : TypeId} {e sz : Nat} [hT : TySl P T e sz] {x h : Operand} {A : Option Addr} {n c : Nat} {k : IntKind} {j : Nat} (hx : opd env x = some (.slice A n c)) (hh : opd env h = some (.int k (j : Int)))
    (h1 : j ≤ c) : LV P env ⟨d, .slice T x none (some h) none, ty, pos, aft, g⟩ (.slice A j c) [] := by
  have := LV.sliceH (P := P) (d := d) (ty := ty) (pos := pos) (aft := aft) (g := g) (T := T) hx hh (by omega) (by omega)
  rwa [Int.toNat_natCast] at this
theorem LV.sliceLN {g : Option (Nat × Bool)} {T : TypeId} {e : Nat} [hT : TySl P T e 1] {x l : Operand} {gg : Nat} {n c : Nat} {k : IntKind} {j : Nat} (hx : opd env x = some (.slice (some ⟨gg, 0, none⟩) n c)) (hl : opd env l = some (.int k (j : Int)))
    (h1 : j ≤ n) (h2 : j < c) : LV P env ⟨d, .slice T x (some l) none none, ty, pos, aft, g⟩ (.slice (some ⟨gg, j, none⟩) (n - j) (c - j)) [] := by
  have := LV.sliceL (P := P) (d := d) (ty := ty) (pos := pos) (aft := aft) (g := g) (T := T) hx hl (by omega) (by omega)
  rw [Int.toNat_natCast, if_neg (by omega), Option.map_some, add_plain, Nat.zero_add, Nat.mul_one] at this
  exact this
theorem OpT.clear {T e : Nat} {z : Value} {bytes : Nat} [hT : TySl P T e 1] [hZ : TyZ P e z 1 bytes] {x : Operand} {g i m c' cap k q : Nat} {T' : TypeId} {xs : List Value}
    (hx : opd env x = some (.slice (some ⟨g, i, none⟩) m c')) (hr : rs[k]? = some (.own (some ⟨g, 0, none⟩) cap T' 1 q xs)) (hi : i + m ≤ q) (hm : 0 < m) (hz1 : z.cells = #[z]) (hz2 : z.oneCell' = true)
    (kk : K (.tuple #[]) I (rs.set k (.own (some ⟨g, 0, none⟩) cap T' 1 q (spl xs i (List.replicate m z))))) :
    OpT P F ⟨d, .call { callee := .builtin .clear, args := #[x], argTypes := #[T] }, ty, pos, aft, gd⟩ K [g] env I rs := .mk fun a w ho hinv QX => by
  have hown : w.ownsRow 0 T' 1 (.slice (some ⟨g, 0, none⟩) q cap) q xs := hinv.mem.rows _ (List.mem_of_getElem? hr)
  obtain ⟨hl, h | ⟨g', cap', cur, h, h0, hh, h1, h2, h3, h4⟩⟩ := hown
  · cases h.1
  cases h
  have hcl : cur.toList.length = cap := by simpa using h3
  have hh' : w.heap[g]? = some (.cells cur.toList.toArray T' (0, 0)) := by simpa using hh
  have hzv : ∀ w, (zeroValue e).run P w = .ok z w := fun w => by
    have := hZ.i
    cases e1 : P.info? e with
    | none => rw [e1] at this; cases this
    | some j =>
      rw [e1] at this
      simp at this
      simp [zeroValue, typeInfo, e1, this.1]
  have hrun := Lib.run_clear_slice (P := P) w T e ty z hT.u hzv hz1 hz2 g i m c' hm (fun j hj => by
    have : i + j < cur.size := by have : cur.toList.length = cur.size := by simp
                                  omega
    simp [World.cell?, hh, this]) (fun j _ => by simp [World.frozen?, hh])
  unfold Oper.wp
  have he : (execOp a.eval ⟨d, .call { callee := .builtin .clear, args := #[x], argTypes := #[T] }, ty, pos, aft, gd⟩).run P w = .ok (.value (.tuple #[])) (w.setCells g i (List.replicate m z)) := by
    simp [execOp, resolve, invoke, builtin, ho x (by simp [Op.operands, Call.operands]) _ hx, hrun]
  rw [he, Oper.upon_value]
  have hu := (Upd.start hh').setCells i (List.replicate m z) (by simp; omega)
  have hat := hinv.at hr
  have hmem : Mem I [.own (some ⟨g, 0, none⟩) cap T' 1 q xs] w := ⟨hat.mem.imm, fun r hr' => hat.mem.rows r (by simp at hr'; simp [hr']), fun k hk => hat.mem.apart k (by simp [Row.block] at hk; simp [Row.block, hk]), by simp [Row.block]⟩
  obtain ⟨h5, h6⟩ := hu.done hmem (.inl (by simp [Row.block])) (cap := cap) (n := q) (sz := 1) (xs := spl xs i (List.replicate m z)) (by rw [spl_len (by simp; omega)]; exact hl) h1 h2 (by rw [spl_len (by simp; omega)]; omega) (by
    rw [Nat.mul_one] at h4 ⊢
    have hql : q ≤ cur.toList.length := by omega
    subst h4
    generalize cur.toList = L at hql
    unfold spl
    apply List.ext_getElem?
    intro j
    simp only [List.getElem?_take, List.getElem?_append, List.getElem?_drop, List.length_append, List.length_take, List.length_replicate, List.getElem?_replicate]
    repeat' split
    all_goals first | rfl | omega | (congr 1; omega) | skip)
  exact ⟨_, I, _, rfl, Inv.back (Inv.step (rs := [.own (some ⟨g, 0, none⟩) cap T' 1 q xs]) hat h5 h6) hr, fun ad u had hu' => by
    rw [World.cell?_of_block (hu.other ad.block (World.block_lt_of_cell? w ad hu') (by simpa using had))]; exact hu', kk⟩
/-- clear(s[i:]), and what is left of the row is s[:i]. -/
theorem OpT.clearS {T e : Nat} {z : Value} {bytes : Nat} [hT : TySl P T e 1] [hZ : TyZ P e z 1 bytes] {x : Operand} {g i m c' cap k q : Nat} {T' : TypeId} {xs : List Value}
    (hx : opd env x = some (.slice (some ⟨g, i, none⟩) m c')) (hr : rs[k]? = some (.own (some ⟨g, 0, none⟩) cap T' 1 q xs)) (hi : i + m = q) (hm : 0 < m) (hq : xs.length = q) (hz1 : z.cells = #[z]) (hz2 : z.oneCell' = true)
    (kk : K (.tuple #[]) I (rs.set k (.own (some ⟨g, 0, none⟩) cap T' 1 i (xs.take i)))) :
    OpT P F ⟨d, .call { callee := .builtin .clear, args := #[x], argTypes := #[T] }, ty, pos, aft, gd⟩ K [g] env I rs := .mk fun a w ho hinv QX => by
  have h := OpT.clear (P := P) (F := F) (K := fun v I' rs' => v = .tuple #[] ∧ I' = I ∧ rs' = rs.set k (.own (some ⟨g, 0, none⟩) cap T' 1 q (spl xs i (List.replicate m z)))) (d := d) (ty := ty) (pos := pos) (aft := aft) (gd := gd) (T := T) hx hr (by omega) hm hz1 hz2 ⟨rfl, rfl, rfl⟩
  refine Oper.wp_mono ?_ (h.run a w ho hinv QX)
  rintro a' w' ⟨v, I', rs', h1, h2, h3, rfl, rfl, rfl⟩
  have hk : k < rs.length := (List.getElem?_eq_some_iff.1 hr).1
  have h4 := h2.shrink (k := k) (m := q) (m' := i) (xs := spl xs i (List.replicate m z)) (c := cap) (A := some ⟨g, 0, none⟩) (T := T') (sz := 1) (by simp [hk]) (by omega)
  refine ⟨_, _, _, h1, h4, h3, ?_⟩
  have e : (spl xs i (List.replicate m z)).take (i * 1) = xs.take i := by
    unfold spl
    rw [Nat.mul_one, List.append_assoc, List.take_append_of_le_length (by simp; omega), List.take_take, Nat.min_self]
  rw [e, List.set_set]
  exact kk
end
end Go.Sx
