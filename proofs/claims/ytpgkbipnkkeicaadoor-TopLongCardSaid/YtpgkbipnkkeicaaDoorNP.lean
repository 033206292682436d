import Derived.Test.YtpgkbipnkkeicaaDoorNW
import Derived.Test.YtpgkbipnkkeicaaDoorST2
/-! Powers: the numbers' sizes. -/
namespace Go.Nt
open Go.Proofs.YtpgkbipnkkeicaaDoor
theorem pow_dk {x i a k : Nat} (ha : 0 < a) (h : (dec x).length ≤ a) (hk : a * i < k) : (dec (x ^ i)).length ≤ k := by
  have h1 := (dec_len (n := x) ha).2 h
  refine (dec_len (by omega)).1 ?_
  have h2 := Nat.pow_le_pow_left (Nat.le_of_lt h1) i
  rw [← Nat.pow_mul] at h2
  exact Nat.lt_of_le_of_lt h2 (Nat.pow_lt_pow_right (by decide) hk)
theorem pow_dec {x i : Nat} (h : (dec x).length ≤ 30) (hi : i ≤ 12) : (dec (x ^ i)).length ≤ 400 := pow_dk (by decide) h (by omega)
theorem dec_digs {x k : Nat} (hk : 0 < k) (h : (dec x).length ≤ k) : (digs x).length ≤ k := by
  have h1 := (dec_len (n := x) hk).2 h
  exact digs_lt_pow.1 (Nat.lt_of_lt_of_le h1 (Nat.pow_le_pow_left (by decide) k))
theorem bitL_30 {x : Nat} (h : (dec x).length ≤ 30) : bitL x ≤ 120 := by
  have h1 := (dec_len (n := x) (k := 30) (by decide)).2 h
  exact bitL_le (Nat.lt_of_lt_of_le h1 (by decide))
theorem no_limit {x n : Nat} (h : (dec x).length ≤ 30) (hn : n ≤ 11) : ¬ (0 < bitL x ∧ 100000 / bitL x < n) := by
  rintro ⟨h1, h2⟩
  have h3 := bitL_30 h
  have h4 : 100000 / 120 ≤ 100000 / bitL x := Nat.div_le_div_left h3 h1
  omega
theorem bitL_2 : bitL 2 = 2 := by decide
theorem bitL_10 : bitL 10 = 4 := by decide
theorem bitL_two_pow (k : Nat) : bitL (2 ^ k) = k + 1 := bitL_eq (Nat.le_refl _) (Nat.pow_lt_pow_right (by decide) (by omega))
theorem dec_ten (k : Nat) : dec (10 ^ k) = 1 :: List.replicate k 0 := by
  have h : dv (1 :: List.replicate k 0) = 10 ^ k := by rw [dv_cons, dv_zeros, List.length_replicate, Nat.one_mul, Nat.add_zero]
  rw [← h]
  exact dec_dv (D10.cons (by decide) (D10.zeros k)) (.inr ⟨by simp, by simp⟩)
theorem S_ten (k : Nat) : S (10 ^ k) = .string (Go.Sx.sB ([49] ++ List.replicate k 48)) := by
  unfold S
  rw [dec_ten]
  simp [asc]
theorem S_one : S 1 = .string ⟨#[49]⟩ := by
  have := S_ten 0
  rw [Nat.pow_zero] at this
  rw [this]
  rfl
theorem two_dk {k m : Nat} (h : k < 32 * m) : (digs (2 ^ k)).length ≤ m := digs_bits (Nat.pow_lt_pow_right (by decide) h)
theorem two_digs {k : Nat} (h : k ≤ 60000) : (digs (2 ^ k)).length ≤ 10000 := two_dk (by omega)
theorem ten_dk {k m : Nat} (h : k < m) : (digs (10 ^ k)).length ≤ m := digs_lt_pow.1 (Nat.lt_of_le_of_lt (Nat.pow_le_pow_left (show 10 ≤ B by decide) k) (Nat.pow_lt_pow_right (by decide) h))
theorem ten_digs {k : Nat} (h : k ≤ 2000) : (digs (10 ^ k)).length ≤ 10000 := ten_dk (by omega)
end Go.Nt
