import Derived.Test.YtpgkbipnkkeicaaDoorSx9
/-! Shifts that lose nothing. -/
namespace Go.Sx
open Go
section
variable {P : Program} {env : Env} {d : Option Tmp} {ty : TypeId} {pos : String} {aft : Array Edge} {g : Option (Nat × Bool)}
theorem LV.shlN {T T' : TypeId} {x y : Operand} {k k' : IntKind} {m j : Nat} (hx : opd env x = some (.int k (m : Int))) (hy : opd env y = some (.int k' (j : Int))) (hk : Unsg k = true) (hj : j ≤ k.bits) (hm : m * 2 ^ j < 2 ^ k.bits) :
    LV P env ⟨d, .binOp .shl T x y T', ty, pos, aft, g⟩ (.int k ((m * 2 ^ j : Nat) : Int)) [] := by
  have h := LV.shl (P := P) (d := d) (ty := ty) (pos := pos) (aft := aft) (g := g) (T := T) (T' := T') hx hy (by omega)
  rw [Int.toNat_natCast, Nat.min_eq_left hj] at h
  have e : ((m : Int) * 2 ^ j) = ((m * 2 ^ j : Nat) : Int) := by simp
  rwa [e, (fits_of_lt hk hm).wrap] at h
theorem LV.shl0 {T T' : TypeId} {x y : Operand} {k k' : IntKind} {j : Nat} (hx : opd env x = some (.int k 0)) (hy : opd env y = some (.int k' (j : Int))) :
    LV P env ⟨d, .binOp .shl T x y T', ty, pos, aft, g⟩ (.int k 0) [] := by
  have h := LV.shl (P := P) (d := d) (ty := ty) (pos := pos) (aft := aft) (g := g) (T := T) (T' := T') hx hy (by omega)
  rw [Int.zero_mul] at h
  have e : k.wrap 0 = 0 := by cases k <;> rfl
  rwa [e] at h
variable {F : Fr} {I : IH} {rs : List Row} {n : Nat} {Q : Pst}
/-- A block whose first elements are a slice of our own, the rest of it spare. -/
theorem Inv.ownOfN {w : World} {gg T sz m cap k : Nat} {cs : List Value} (h : Inv F I rs w) (hr : rs[k]? = some (.blk gg T cs)) (hl : cs.length = cap * sz) (hm : m ≤ cap) (hn : cap ≤ maxLen) :
    Inv F I (rs.set k (.own (some ⟨gg, 0, none⟩) cap T sz m (cs.take (m * sz)))) w := by
  have h1 := h.ownOf (sz := sz) hr hl hn
  have hk : k < rs.length := (List.getElem?_eq_some_iff.1 hr).1
  have hb : w.heap[gg]? = some (.cells cs.toArray T (0, 0)) := h.mem.rows _ (List.mem_of_getElem? hr)
  have h2 := h.at hr
  refine Inv.back (r := .blk gg T cs) (h2.reRow rfl ?_) hr
  have hle : m * sz ≤ cap * sz := Nat.mul_le_mul_right _ hm
  exact ⟨by rw [List.length_take]; omega, .inr ⟨gg, cap, cs.toArray, rfl, Nat.zero_le _, hb, hm, hn, by simpa using hl, by simp⟩⟩
theorem SyC.ownOfN {c : Code} {gg T sz cap k : Nat} {cs : List Value} (m : Nat) (hr : rs[k]? = some (.blk gg T cs)) (hl : cs.length = cap * sz) (hm : m ≤ cap) (hn : cap ≤ maxLen) (h : SyC P n F c Q env I (rs.set k (.own (some ⟨gg, 0, none⟩) cap T sz m (cs.take (m * sz))))) : SyC P n F c Q env I rs :=
  ⟨fun a w hh hi => h.run a w hh (hi.ownOfN hr hl hm hn)⟩
end
end Go.Sx
