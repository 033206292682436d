import Derived.Test.YtpgkbipnkkeicaaDoorN2
set_option linter.unusedSimpArgs false
set_option linter.unusedVariables false
/-! Small, Of. -/
namespace Go.Nt
theorem digs_len1 {n : Nat} (h : (digs n).length = 1) : digs n = [n] ∧ n < B := by
  have h0 : n ≠ 0 := fun e => by rw [e, digs_zero] at h; cases h
  rw [digs_pos h0] at h ⊢
  simp only [List.length_cons] at h
  have h1 : n / B = 0 := digs_eq_nil.1 (by omega)
  have h2 : n < B := by
    have := Nat.div_add_mod n B
    rw [h1, Nat.mul_zero, Nat.zero_add] at this
    rw [← this]
    exact Nat.mod_lt _ B_pos
  rw [h1, digs_zero, Nat.mod_eq_of_lt h2]
  exact ⟨rfl, h2⟩
theorem digs_len2 {n : Nat} (h : (digs n).length = 2) : digs n = [n % B, n / B] ∧ n / B < B := by
  have h0 : n ≠ 0 := fun e => by rw [e, digs_zero] at h; cases h
  rw [digs_pos h0] at h ⊢
  simp only [List.length_cons] at h
  have := digs_len1 (n := n / B) (by omega)
  rw [this.1]
  exact ⟨rfl, this.2⟩
theorem or_shift {a b : Nat} (ha : a < 2 ^ 32) : a ||| b * 2 ^ 32 = a + b * 2 ^ 32 := by
  rw [Nat.or_comm, Nat.mul_comm, ← Nat.two_pow_add_eq_or_of_lt ha, Nat.add_comm]
end Go.Nt
namespace Go.Proofs.YtpgkbipnkkeicaaDoor
open Go Go.Sx Go.Nt

set_option maxRecDepth 100000 in
theorem natOf_c (I : IH) (n : Nat) (hn : n < 2 ^ 64) : PFn Tryd.prog 29 #[.int .u64 (n : Int)] I fun r I' => NatV I' r n := by
  have h1 : n % 4294967296 < 4294967296 := Nat.mod_lt _ (by omega)
  have h2 : n >>> 32 < 4294967296 := by rw [Nat.shiftRight_eq_div_pow]; omega
  have hsm : Sm [n % 4294967296, n >>> 32] := Sm.cons h1 (Sm.cons h2 Sm.nil)
  have hval : val [n % 4294967296, n >>> 32] = n := by
    simp only [val]
    rw [Nat.shiftRight_eq_div_pow, Nat.mul_zero, Nat.add_zero]
    exact Nat.mod_add_div n (2 ^ 32)
  have e : IntKind.u32.wrap (n : Int) = ((n % 4294967296 : Nat) : Int) := by
    simp only [IntKind.wrap, IntKind.bits, IntKind.signed]
    simp
  refine Fn.intro (n := 11) (args := [.int .u64 (n : Int)]) (by kernel_rfl) Tryd.func29 rfl Tryd.ntmps29 (Nat.le_of_ble_eq_true rfl) [(0, .int .u64 (n : Int))] rfl (fun w0 => ?_)
  repeat' (first
    | (rw [e])
    | (refine SyC.seq ?_)
    | (refine SyC.region ?_)
    | (refine SyL.nil ?_)
    | (refine Then.norm ?_)
    | (refine SyL.light (LV.move rfl) Rq.nil (.none rfl) rfl (ltB rfl) ?_)
    | (refine SyL.light (LV.assign rfl) Rq.nil (.none rfl) rfl (ltB rfl) ?_)
    | (refine SyL.light (LV.convN (by apply rfl) (by simp only [Fits]; omega)) Rq.nil (.none rfl) rfl (ltB rfl) ?_)
    | (refine SyL.light (LV.conv (by apply rfl)) Rq.nil (.none rfl) rfl (ltB rfl) ?_)
    | (refine SyL.light (LV.shrN rfl rfl (by simp only [IntKind.bits]; omega)) Rq.nil (.none rfl) rfl (ltB rfl) ?_)
    | (refine SyL.heavy (OpT.buildSlice (xs := [_, _]) (vs := [_, _]) rfl rfl rfl (by simp [Value.cells]) (by decide) (fun g_ hg_ => ?_)) (.none rfl) rfl (ltB rfl)))
  refine SyL.ownOf (k := 0) (m := 2) (sz := 1) rfl rfl (by simp [maxLen]) ?_
  refine SyL.freezeOwn fun I1 hle1 hr => ?_
  have hc := trim_c I1 (some ⟨g_, 0, none⟩) 2 [n % 4294967296, n >>> 32] hsm hr
  have hN : NatV I1 (.slice (some ⟨g_, 0, none⟩) (digs (val [n % 4294967296, n >>> 32])).length 2) (val [n % 4294967296, n >>> 32]) := NatV.of hsm hr
  rw [hval] at hc hN
  have hlen : (digs n).length ≤ 1000000 := Nat.le_trans (digs_lt_pow (k := 2) |>.1 (by rw [show B ^ 2 = 2 ^ 64 from by decide]; exact hn)) (by omega)
  repeat' (first
    | (refine SyL.nil ?_)
    | (refine Then.norm ?_)
    | (refine SyC.ret ?_)
    | (refine SyL.light (LV.assign rfl) Rq.nil (.none rfl) rfl (ltB rfl) ?_)
    | (refine SyL.heavy (OpT.pcall rfl rfl (hc) ?_) (.none rfl) rfl (ltB rfl); rintro v1 I2 - ⟨rfl, rfl⟩)
    | (refine SyL.heavy (OpT.pcall rfl rfl (natClone_c _ _ n hN hlen) ?_) (.none rfl) rfl (ltB rfl); rintro v2 I3 hle3 hv))
  refine Ret.one (by simp) Tryd.results29 (.tmp rfl) ?_
  exact ⟨rfl, hv⟩
end Go.Proofs.YtpgkbipnkkeicaaDoor
