import Derived.Test.YtpgkbipnkkeicaaDoorNW
/-! Rabbits. -/
namespace Go.Nt
def F : Nat → Nat
  | 0 => 0
  | 1 => 1
  | n + 2 => F n + F (n + 1)
theorem F_two (n : Nat) : F (n + 2) = F n + F (n + 1) := by rw [F]
theorem F_add (m n : Nat) : F (m + n + 1) = F m * F n + F (m + 1) * F (n + 1) := by
  induction n using Nat.strongRecOn generalizing m with
  | _ n ih =>
    match n with
    | 0 => simp [F]
    | 1 => rw [show m + 1 + 1 = m + 2 from rfl, F_two]; simp [F]
    | n + 2 =>
      rw [show m + (n + 2) + 1 = (m + n + 1) + 2 from rfl, F_two, ih n (by omega), show m + n + 1 + 1 = m + (n + 1) + 1 from rfl, ih (n + 1) (by omega), show n + 2 + 1 = (n + 1) + 2 from rfl, F_two n, F_two (n + 1), F_two n]
      simp only [Nat.mul_add]
      omega
theorem F_coprime (n : Nat) : Nat.gcd (F n) (F (n + 1)) = 1 := by
  induction n with
  | zero => decide
  | succ n ih =>
    rw [F_two, Nat.gcd_comm, Nat.gcd_add_self_left]
    exact ih
theorem F_step (m n : Nat) : Nat.gcd (F m) (F (n + m)) = Nat.gcd (F m) (F n) := by
  cases m with
  | zero => rfl
  | succ k =>
    rw [← Nat.add_assoc, F_add]
    rw [Nat.gcd_add_mul_right_right]
    exact Nat.Coprime.gcd_mul_right_cancel_right _ (by unfold Nat.Coprime; first | exact F_coprime k | (rw [Nat.gcd_comm]; exact F_coprime k))
theorem F_mod (m n : Nat) : Nat.gcd (F m) (F n) = Nat.gcd (F m) (F (n % m)) := by
  conv => lhs; rw [← Nat.mod_add_div n m]
  generalize n % m = r
  generalize n / m = q
  induction q with
  | zero => rfl
  | succ q ih => rw [Nat.mul_succ, ← Nat.add_assoc, F_step]; exact ih
theorem F_gcd (m n : Nat) : Nat.gcd (F m) (F n) = F (Nat.gcd m n) := by
  induction m, n using Nat.gcd.induction with
  | H0 n => rw [Nat.gcd_zero_left]; simp [F]
  | H1 m n hm ih => rw [F_mod, Nat.gcd_comm, ih, ← Nat.gcd_rec]
theorem F_le (n : Nat) : F n < 2 ^ (n + 1) := by
  induction n using Nat.strongRecOn with
  | _ n ih =>
    match n with
    | 0 => decide
    | 1 => decide
    | n + 2 =>
      have h1 := ih n (by omega)
      have h2 := ih (n + 1) (by omega)
      rw [F_two]
      rw [Nat.pow_succ] at h2
      have : 2 ^ (n + 2 + 1) = 2 ^ (n + 1) * 2 * 2 := by rw [Nat.pow_succ, Nat.pow_succ]
      omega
theorem F_pos {n : Nat} (h : 0 < n) : 0 < F n := by
  obtain ⟨k, rfl⟩ : ∃ k, n = k + 1 := ⟨n - 1, by omega⟩
  induction k with
  | zero => decide
  | succ k ih => rw [F_two]; have := ih (by omega); omega
theorem F_dk {n k : Nat} (h : n + 1 ≤ 32 * k) : (digs (F n)).length ≤ k := digs_bits (Nat.lt_of_lt_of_le (F_le n) (Nat.pow_le_pow_right (by decide) h))
theorem F_digs {n : Nat} (h : n ≤ 3000) : (digs (F n)).length ≤ 100 := F_dk (by omega)
end Go.Nt
