import Derived.Test.YtpgkbipnkkeicaaDoorN7
set_option linter.unusedSimpArgs false
set_option linter.unusedVariables false
/-! The length of a digit in bits. -/
namespace Go.Sx
section
variable {P : Program} {env : Env} {d : Option Tmp} {ty : TypeId} {pos : String} {aft : Array Edge} {g : Option (Nat × Bool)}
theorem LV.idxStr {T : TypeId} [hT : TyStr P T] {x i : Operand} {s : ByteArray} {k : IntKind} {j : Nat} {b : UInt8} (hx : opd env x = some (.string s)) (hi : opd env i = some (.int k (j : Int)))
    (hb : s[j]? = some b) : LV P env ⟨d, .index T x i, ty, pos, aft, g⟩ (.int .u8 ((b.toNat : Nat) : Int)) [] := .mk fun a w ho _ => by
  simp [execOp, Instr.index, ho x (by simp [Op.operands]) _ hx, ho i (by simp [Op.operands]) _ hi, asIntOf, run_und hT.u, hb]
end
end Go.Sx
namespace Go.Nt
/-- The number of bits. -/
def bitL (n : Nat) : Nat := if n = 0 then 0 else Nat.log2 n + 1
theorem strTab {s : ByteArray} (h : ∀ j : Fin 256, s[j.val]? = some (UInt8.ofNat (bitL j.val))) {z : Nat} (hz : z < 256) : s[z]? = some (UInt8.ofNat (bitL z)) := h ⟨z, hz⟩
theorem bitL_shift {n k : Nat} (h : 2 ^ k ≤ n) : bitL n = k + bitL (n >>> k) := by
  have hp : 0 < 2 ^ k := Nat.two_pow_pos k
  have h1 : n >>> k ≠ 0 := by
    rw [Nat.shiftRight_eq_div_pow]
    have := Nat.div_pos h hp
    omega
  have h0 : n ≠ 0 := by omega
  rw [bitL, bitL, if_neg h0, if_neg h1]
  have key : ∀ a, a ≤ Nat.log2 (n >>> k) ↔ a + k ≤ Nat.log2 n := fun a => by
    rw [Nat.le_log2 h1, Nat.le_log2 h0, Nat.shiftRight_eq_div_pow, Nat.le_div_iff_mul_le hp, Nat.pow_add]
  have h2 := (key _).1 (Nat.le_refl _)
  have h3 := (key (Nat.log2 n - k)).2 (by omega)
  omega
theorem bitL_le {n k : Nat} (h : n < 2 ^ k) : bitL n ≤ k := by
  rw [bitL]
  split
  · omega
  · next h0 => have := (Nat.log2_lt h0).2 h; omega
theorem bitL_lt (n : Nat) : n < 2 ^ bitL n := by
  rw [bitL]
  split
  · omega
  · next h0 => exact (Nat.log2_lt h0).1 (Nat.lt_succ_self _)
theorem bitL_ge {n : Nat} (h : n ≠ 0) : 2 ^ (bitL n - 1) ≤ n := by
  rw [bitL, if_neg h]
  exact (Nat.le_log2 h).1 (Nat.le_refl _)
theorem bitL_byte {j : Nat} (h : j < 256) : ((UInt8.ofNat (bitL j)).toNat : Nat) = bitL j := by
  have := bitL_le (n := j) (k := 8) (by omega)
  simp
  omega
end Go.Nt
namespace Go.Proofs.YtpgkbipnkkeicaaDoor
open Go Go.Sx Go.Nt
set_option maxRecDepth 100000 in
set_option maxHeartbeats 2000000 in
theorem len32_c (I : IH) (x : Nat) (hx : x < 4294967296) : PFn Tryd.prog 40 #[.int .u32 (x : Int)] I fun r I' => r = .int .i64 ((bitL x : Nat) : Int) ∧ I' = I := by
  refine Fn.intro (n := 19) (args := [.int .u32 (x : Int)]) (by kernel_rfl) Tryd.func40 rfl Tryd.ntmps40 (Nat.le_of_ble_eq_true rfl) [(0, .int .u32 (x : Int))] rfl (fun w0 => ?_)
  by_cases h1 : 65536 ≤ x
  · have e1 := bitL_shift (n := x) (k := 16) h1
    have b1 : x >>> 16 < 65536 := by rw [Nat.shiftRight_eq_div_pow]; omega
    obtain ⟨y, hy⟩ : ∃ y, x >>> 16 = y := ⟨_, rfl⟩
    rw [hy] at e1 b1
    by_cases h2 : 256 ≤ y
    · have e2 := bitL_shift (n := y) (k := 8) h2
      have b2 : y >>> 8 < 256 := by rw [Nat.shiftRight_eq_div_pow]; omega
      obtain ⟨z, hz⟩ : ∃ z, y >>> 8 = z := ⟨_, rfl⟩
      rw [hz] at e2 b2
      have hb := bitL_byte b2
      have hl := bitL_le (n := z) (k := 8) b2
      repeat' (first
        | (rw [hy])
        | (rw [hz])
        | ((refine SyL.light (LV.idxStr rfl rfl (strTab (by decide +kernel) b2)) Rq.nil (.none rfl) rfl (ltB rfl) ?_))
        | (rw [hb])
        | (refine SyC.seq ?_)
        | (refine SyC.region ?_)
        | (refine SyL.nil ?_)
        | (refine Then.norm ?_)
        | (refine SyC.ret ?_)
        | (refine SyL.light (LV.move rfl) Rq.nil (.none rfl) rfl (ltB rfl) ?_)
        | (refine SyL.light (LV.assign rfl) Rq.nil (.none rfl) rfl (ltB rfl) ?_)
        | (refine SyL.light (LV.cmp rfl rfl rfl) Rq.nil (.none rfl) rfl (ltB rfl) ?_)
        | (refine SyL.light (LV.arN rfl rfl rfl (by simp only [Fits]; omega)) Rq.nil (.none rfl) rfl (ltB rfl) ?_)
        | (refine SyL.light (LV.convN (by apply rfl) (by simp only [Fits]; omega)) Rq.nil (.none rfl) rfl (ltB rfl) ?_)
        | (refine SyL.light (LV.shrN rfl rfl (by simp only [IntKind.bits]; omega)) Rq.nil (.none rfl) rfl (ltB rfl) ?_)
        | (refine SyC.condT rfl (by first | assumption | (with_reducible rfl) | decide | (simp only [decide_eq_true_eq, decide_eq_false_iff_not, Bool.not_eq_true', Bool.not_eq_false', beq_iff_eq, bne_iff_ne, ne_eq, beq_eq_false_iff_ne, bne_eq_false_iff_eq, Int.not_lt, Int.not_le, Bool.true_eq_false, Bool.false_eq_true, tb_one, tb_zero]; omega)) ?_))
      refine Ret.one (by simp) Tryd.results40 (.tmp rfl) ?_
      exact ⟨rfl, by congr 1; omega, rfl⟩
    · have b2 : y < 256 := by omega
      have hb := bitL_byte b2
      have hl := bitL_le (n := y) (k := 8) b2
      repeat' (first
        | (rw [hy])
        | ((refine SyL.light (LV.idxStr rfl rfl (strTab (by decide +kernel) b2)) Rq.nil (.none rfl) rfl (ltB rfl) ?_))
        | (rw [hb])
        | (refine SyC.seq ?_)
        | (refine SyC.region ?_)
        | (refine SyL.nil ?_)
        | (refine Then.norm ?_)
        | (refine SyC.skip ?_)
        | (refine SyC.ret ?_)
        | (refine SyL.light (LV.move rfl) Rq.nil (.none rfl) rfl (ltB rfl) ?_)
        | (refine SyL.light (LV.assign rfl) Rq.nil (.none rfl) rfl (ltB rfl) ?_)
        | (refine SyL.light (LV.cmp rfl rfl rfl) Rq.nil (.none rfl) rfl (ltB rfl) ?_)
        | (refine SyL.light (LV.arN rfl rfl rfl (by simp only [Fits]; omega)) Rq.nil (.none rfl) rfl (ltB rfl) ?_)
        | (refine SyL.light (LV.convN (by apply rfl) (by simp only [Fits]; omega)) Rq.nil (.none rfl) rfl (ltB rfl) ?_)
        | (refine SyL.light (LV.shrN rfl rfl (by simp only [IntKind.bits]; omega)) Rq.nil (.none rfl) rfl (ltB rfl) ?_)
        | (refine SyC.condT rfl (by first | assumption | (with_reducible rfl) | decide | (simp only [decide_eq_true_eq, decide_eq_false_iff_not, Bool.not_eq_true', Bool.not_eq_false', beq_iff_eq, bne_iff_ne, ne_eq, beq_eq_false_iff_ne, bne_eq_false_iff_eq, Int.not_lt, Int.not_le, Bool.true_eq_false, Bool.false_eq_true, tb_one, tb_zero]; omega)) ?_)
        | (refine SyC.condF rfl (by first | assumption | (with_reducible rfl) | decide | (simp only [decide_eq_true_eq, decide_eq_false_iff_not, Bool.not_eq_true', Bool.not_eq_false', beq_iff_eq, bne_iff_ne, ne_eq, beq_eq_false_iff_ne, bne_eq_false_iff_eq, Int.not_lt, Int.not_le, Bool.true_eq_false, Bool.false_eq_true, tb_one, tb_zero]; omega)) ?_))
      refine Ret.one (by simp) Tryd.results40 (.tmp rfl) ?_
      exact ⟨rfl, by congr 1; omega, rfl⟩
  · have b1 : x < 65536 := by omega
    by_cases h2 : 256 ≤ x
    · have e2 := bitL_shift (n := x) (k := 8) h2
      have b2 : x >>> 8 < 256 := by rw [Nat.shiftRight_eq_div_pow]; omega
      obtain ⟨z, hz⟩ : ∃ z, x >>> 8 = z := ⟨_, rfl⟩
      rw [hz] at e2 b2
      have hb := bitL_byte b2
      have hl := bitL_le (n := z) (k := 8) b2
      repeat' (first
        | (rw [hz])
        | ((refine SyL.light (LV.idxStr rfl rfl (strTab (by decide +kernel) b2)) Rq.nil (.none rfl) rfl (ltB rfl) ?_))
        | (rw [hb])
        | (refine SyC.seq ?_)
        | (refine SyC.region ?_)
        | (refine SyL.nil ?_)
        | (refine Then.norm ?_)
        | (refine SyC.skip ?_)
        | (refine SyC.ret ?_)
        | (refine SyL.light (LV.move rfl) Rq.nil (.none rfl) rfl (ltB rfl) ?_)
        | (refine SyL.light (LV.assign rfl) Rq.nil (.none rfl) rfl (ltB rfl) ?_)
        | (refine SyL.light (LV.cmp rfl rfl rfl) Rq.nil (.none rfl) rfl (ltB rfl) ?_)
        | (refine SyL.light (LV.arN rfl rfl rfl (by simp only [Fits]; omega)) Rq.nil (.none rfl) rfl (ltB rfl) ?_)
        | (refine SyL.light (LV.convN (by apply rfl) (by simp only [Fits]; omega)) Rq.nil (.none rfl) rfl (ltB rfl) ?_)
        | (refine SyL.light (LV.shrN rfl rfl (by simp only [IntKind.bits]; omega)) Rq.nil (.none rfl) rfl (ltB rfl) ?_)
        | (refine SyC.condT rfl (by first | assumption | (with_reducible rfl) | decide | (simp only [decide_eq_true_eq, decide_eq_false_iff_not, Bool.not_eq_true', Bool.not_eq_false', beq_iff_eq, bne_iff_ne, ne_eq, beq_eq_false_iff_ne, bne_eq_false_iff_eq, Int.not_lt, Int.not_le, Bool.true_eq_false, Bool.false_eq_true, tb_one, tb_zero]; omega)) ?_)
        | (refine SyC.condF rfl (by first | assumption | (with_reducible rfl) | decide | (simp only [decide_eq_true_eq, decide_eq_false_iff_not, Bool.not_eq_true', Bool.not_eq_false', beq_iff_eq, bne_iff_ne, ne_eq, beq_eq_false_iff_ne, bne_eq_false_iff_eq, Int.not_lt, Int.not_le, Bool.true_eq_false, Bool.false_eq_true, tb_one, tb_zero]; omega)) ?_))
      refine Ret.one (by simp) Tryd.results40 (.tmp rfl) ?_
      exact ⟨rfl, by congr 1; omega, rfl⟩
    · have b2 : x < 256 := by omega
      have hb := bitL_byte b2
      have hl := bitL_le (n := x) (k := 8) b2
      repeat' (first
        | ((refine SyL.light (LV.idxStr rfl rfl (strTab (by decide +kernel) b2)) Rq.nil (.none rfl) rfl (ltB rfl) ?_))
        | (rw [hb])
        | (refine SyC.seq ?_)
        | (refine SyC.region ?_)
        | (refine SyL.nil ?_)
        | (refine Then.norm ?_)
        | (refine SyC.skip ?_)
        | (refine SyC.ret ?_)
        | (refine SyL.light (LV.move rfl) Rq.nil (.none rfl) rfl (ltB rfl) ?_)
        | (refine SyL.light (LV.assign rfl) Rq.nil (.none rfl) rfl (ltB rfl) ?_)
        | (refine SyL.light (LV.cmp rfl rfl rfl) Rq.nil (.none rfl) rfl (ltB rfl) ?_)
        | (refine SyL.light (LV.arN rfl rfl rfl (by simp only [Fits]; omega)) Rq.nil (.none rfl) rfl (ltB rfl) ?_)
        | (refine SyL.light (LV.convN (by apply rfl) (by simp only [Fits]; omega)) Rq.nil (.none rfl) rfl (ltB rfl) ?_)
        | (refine SyC.condF rfl (by first | assumption | (with_reducible rfl) | decide | (simp only [decide_eq_true_eq, decide_eq_false_iff_not, Bool.not_eq_true', Bool.not_eq_false', beq_iff_eq, bne_iff_ne, ne_eq, beq_eq_false_iff_ne, bne_eq_false_iff_eq, Int.not_lt, Int.not_le, Bool.true_eq_false, Bool.false_eq_true, tb_one, tb_zero]; omega)) ?_))
      refine Ret.one (by simp) Tryd.results40 (.tmp rfl) ?_
      exact ⟨rfl, by congr 1; omega, rfl⟩
set_option maxRecDepth 100000 in
theorem lz32_c (I : IH) (x : Nat) (hx : x < 4294967296) : PFn Tryd.prog 30 #[.int .u32 (x : Int)] I fun r I' => r = .int .i64 ((32 - bitL x : Nat) : Int) ∧ I' = I := by
  have hl := bitL_le (n := x) (k := 32) hx
  have hc := len32_c I x hx
  generalize bitL x = b at *
  refine Fn.intro (n := 6) (args := [.int .u32 (x : Int)]) (by kernel_rfl) Tryd.func30 rfl Tryd.ntmps30 (Nat.le_of_ble_eq_true rfl) [(0, .int .u32 (x : Int))] rfl (fun w0 => ?_)
  repeat' (first
    | (refine SyC.seq ?_)
    | (refine SyC.region ?_)
    | (refine SyL.nil ?_)
    | (refine Then.norm ?_)
    | (refine SyC.ret ?_)
    | (refine SyL.light (LV.move rfl) Rq.nil (.none rfl) rfl (ltB rfl) ?_)
    | (refine SyL.light (LV.assign rfl) Rq.nil (.none rfl) rfl (ltB rfl) ?_)
    | (refine SyL.light (LV.arN rfl rfl rfl (by simp only [Fits]; omega)) Rq.nil (.none rfl) rfl (ltB rfl) ?_)
    | (refine SyL.heavy (OpT.pcall rfl rfl (hc) ?_) (.none rfl) rfl (ltB rfl); rintro v1 I1 - ⟨rfl, rfl⟩))
  refine Ret.one (by simp) Tryd.results30 (.tmp rfl) ?_
  exact ⟨rfl, by congr 1; omega, rfl⟩
end Go.Proofs.YtpgkbipnkkeicaaDoor
