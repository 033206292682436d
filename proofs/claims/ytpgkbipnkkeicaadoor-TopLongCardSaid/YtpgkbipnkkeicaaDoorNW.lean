import Derived.Test.YtpgkbipnkkeicaaDoorNV
/-! Bits of a number, powers. -/
namespace Go.Nt
theorem bitL_eq {n k : Nat} (h1 : 2 ^ k ≤ n) (h2 : n < 2 ^ (k + 1)) : bitL n = k + 1 := by
  have h3 := bitL_le h2
  have h4 := bitL_lt n
  apply Classical.byContradiction
  intro hn
  have h5 : bitL n ≤ k := by omega
  have := Nat.pow_le_pow_right (n := 2) (by decide) h5
  omega
theorem bitL_digs {x n : Nat} (h : (digs x).length = n + 1) : bitL x = 32 * n + bitL ((digs x).getD n 0) := by
  have h0 : x ≠ 0 := fun e => by rw [e, digs_zero] at h; simp at h
  have hl := (digs_last h0).2
  rw [h, Nat.add_sub_cancel] at hl
  obtain ⟨h1, h2⟩ := top_split (digs_sm x) (by omega) (rfl : (digs x).getD n 0 = _) (by rw [List.drop_eq_nil_of_le (by omega)]; rfl)
  rw [val_digs] at h1
  generalize (digs x).getD n 0 = t at *
  generalize val ((digs x).take n) = m at *
  have e : B ^ n = 2 ^ (32 * n) := by rw [show B = 2 ^ 32 from rfl, ← Nat.pow_mul]
  rw [e] at h1 h2
  have g1 := bitL_lt t
  have g2 := bitL_ge hl
  have g3 : 1 ≤ bitL t := by unfold bitL; rw [if_neg hl]; omega
  obtain ⟨k, hk⟩ : ∃ k, bitL t = k + 1 := ⟨bitL t - 1, by omega⟩
  rw [hk] at g1 g2 ⊢
  rw [Nat.add_sub_cancel] at g2
  have f1 := Nat.mul_le_mul_left (2 ^ (32 * n)) g2
  have f2 := Nat.mul_le_mul_left (2 ^ (32 * n)) g1
  rw [← Nat.pow_add] at f1
  rw [← Nat.pow_add, Nat.mul_succ] at f2
  rw [show 32 * n + (k + 1) = (32 * n + k) + 1 from rfl] at f2 ⊢
  exact bitL_eq (by omega) (by omega)
theorem bitL_zero : bitL 0 = 0 := rfl
theorem bitL_pos {n : Nat} (h : n ≠ 0) : 0 < bitL n := by unfold bitL; rw [if_neg h]; omega
theorem digs_mono {m n : Nat} (h : m ≤ n) : (digs m).length ≤ (digs n).length := Nat.le_of_not_lt fun h' => by have := lt_of_len h'; omega
theorem digs_bits {x k : Nat} (h : x < 2 ^ (32 * k)) : (digs x).length ≤ k := digs_lt_pow.1 (by rw [show B = 2 ^ 32 from rfl, ← Nat.pow_mul]; exact h)
theorem pow_bits {x n K : Nat} (h : bitL x * n ≤ K) : x ^ n < 2 ^ (K + 1) := by
  have h1 : x ^ n ≤ (2 ^ bitL x) ^ n := Nat.pow_le_pow_left (Nat.le_of_lt (bitL_lt x)) n
  rw [← Nat.pow_mul] at h1
  exact Nat.lt_of_le_of_lt h1 (Nat.pow_lt_pow_right (by decide) (by omega))
theorem pow_digs {x n K m : Nat} (h : bitL x * n ≤ K) (hm : K + 1 ≤ 32 * m) (z : Nat) (hz : z ≤ x ^ n) : (digs z).length ≤ m :=
  digs_bits (Nat.lt_of_le_of_lt hz (Nat.lt_of_lt_of_le (pow_bits h) (Nat.pow_le_pow_right (by decide) hm)))
theorem pow_odd {o b m : Nat} (h : m % 2 = 1) : o * b * (b * b) ^ (m / 2) = o * b ^ m := by
  conv => rhs; rw [← Nat.mod_add_div m 2, h, Nat.pow_add, Nat.pow_one, Nat.pow_mul, Nat.pow_two]
  rw [Nat.mul_assoc]
theorem pow_even {o b m : Nat} (h : ¬ m % 2 = 1) : o * (b * b) ^ (m / 2) = o * b ^ m := by
  conv => rhs; rw [← Nat.mod_add_div m 2, show m % 2 = 0 by omega, Nat.zero_add, Nat.pow_mul, Nat.pow_two]
theorem pow_le {o b m T : Nat} (h : o * b ^ m = T) (hT : 0 < T) (hm : 0 < m) : o ≤ T ∧ b ≤ T := by
  have hb : 0 < b := by
    rcases Nat.eq_zero_or_pos b with e | e
    · rw [e, Nat.zero_pow hm, Nat.mul_zero] at h; omega
    · exact e
  have ho : 0 < o := by
    rcases Nat.eq_zero_or_pos o with e | e
    · rw [e, Nat.zero_mul] at h; omega
    · exact e
  have hp : b ≤ b ^ m := by
    conv => lhs; rw [← Nat.pow_one b]
    exact Nat.pow_le_pow_right hb hm
  have h1 := Nat.mul_le_mul_left o (Nat.pow_pos (n := m) hb)
  have h2 := Nat.mul_le_mul_right (b ^ m) ho
  omega
end Go.Nt
