import Derived.Test.YtpgkbipnkkeicaaG0
import Derived.Test.YtpgkbipnkkeicaaSx6
/-! Pairs in order; numbers of bits. -/
namespace Go.Gr
open Go Go.Sx

def rowP (p : Nat → Nat → Bool) (a b : Nat) : List (Nat × Nat) := ((List.range' (a + 1) (b - (a + 1))).filter (p a)).map (fun b => (a, b))
def pairsP (p : Nat → Nat → Bool) (n a : Nat) : List (Nat × Nat) := (List.range a).flatMap (fun a => rowP p a n)
theorem rowP_zero (p : Nat → Nat → Bool) (a : Nat) : rowP p a (a + 1) = [] := by simp [rowP]
theorem rowP_le (p : Nat → Nat → Bool) {a b : Nat} (h : b ≤ a + 1) : rowP p a b = [] := by simp [rowP, show b - (a + 1) = 0 from by omega]
theorem rowP_step (p : Nat → Nat → Bool) {a b : Nat} (h : a + 1 ≤ b) : rowP p a (b + 1) = rowP p a b ++ (if p a b then [(a, b)] else []) := by
  unfold rowP
  rw [show b + 1 - (a + 1) = (b - (a + 1)) + 1 from by omega, ← List.range'_append_1 (s := a + 1) (m := b - (a + 1)) (n := 1), List.filter_append, List.map_append, show a + 1 + (b - (a + 1)) = b from by omega]
  congr 1
  cases hp : p a b <;> simp [hp]
theorem rowP_none (p : Nat → Nat → Bool) {a b : Nat} (h : ∀ x, p a x = false) : rowP p a b = [] := by
  unfold rowP
  rw [List.filter_eq_nil_iff.2 (by intro x _; simp [h x])]; rfl
theorem pairsP_step (p : Nat → Nat → Bool) (n a : Nat) : pairsP p n (a + 1) = pairsP p n a ++ rowP p a n := by
  unfold pairsP
  rw [List.range_succ, List.flatMap_append]; simp
theorem pairsP_zero (p : Nat → Nat → Bool) (n : Nat) : pairsP p n 0 = [] := rfl
theorem rowP_len (p : Nat → Nat → Bool) (a b : Nat) : (rowP p a b).length ≤ b - (a + 1) := by
  unfold rowP
  rw [List.length_map]
  exact Nat.le_trans (List.length_filter_le _ _) (by simp)
theorem pairsP_len (p : Nat → Nat → Bool) (n a : Nat) : (pairsP p n a).length ≤ a * n := by
  induction a with
  | zero => simp [pairsP]
  | succ a ih =>
    rw [pairsP_step, List.length_append]
    have := rowP_len p a n
    rw [Nat.add_mul]
    omega
theorem mem_rowP {p : Nat → Nat → Bool} {a b : Nat} {x : Nat × Nat} (h : x ∈ rowP p a b) : x.1 = a ∧ a < x.2 ∧ x.2 < b ∧ p a x.2 = true := by
  simp only [rowP, List.mem_map, List.mem_filter, List.mem_range'_1] at h
  obtain ⟨y, ⟨⟨h1, h2⟩, h3⟩, rfl⟩ := h
  exact ⟨rfl, by simp; omega, by simp; omega, h3⟩
theorem mem_pairsP {p : Nat → Nat → Bool} {n a : Nat} {x : Nat × Nat} (h : x ∈ pairsP p n a) : x.1 < a ∧ x.1 < x.2 ∧ x.2 < n ∧ p x.1 x.2 = true := by
  simp only [pairsP, List.mem_flatMap, List.mem_range] at h
  obtain ⟨y, h1, h2⟩ := h
  obtain ⟨rfl, h3, h4, h5⟩ := mem_rowP h2
  exact ⟨h1, h3, h4, h5⟩
theorem pairsP_congr {p q : Nat → Nat → Bool} {n a : Nat} (h : ∀ x y, x < a → x < y → y < n → p x y = q x y) : pairsP p n a = pairsP q n a := by
  unfold pairsP
  rw [List.flatMap_def, List.flatMap_def]
  congr 1
  apply List.map_congr_left
  intro x hx
  rw [List.mem_range] at hx
  unfold rowP
  congr 1
  apply List.filter_congr
  intro y hy
  rw [List.mem_range'_1] at hy
  exact h x y hx (by omega) (by omega)

/-! ### Numbers of bits -/
theorem popN_add (a b x : Nat) : popN (a + b) x = popN a x + popN b (x >>> a) := by
  induction a generalizing x with
  | zero => simp [popN]
  | succ a ih =>
    rw [show a + 1 + b = (a + b) + 1 from by omega]
    simp only [popN]
    rw [ih, Nat.add_assoc, Nat.shiftRight_succ_inside]
theorem popN_mod (a x : Nat) : popN a (x % 2 ^ a) = popN a x := by
  induction a generalizing x with
  | zero => simp [popN]
  | succ a ih =>
    simp only [popN]
    have e1 : x % 2 ^ (a + 1) % 2 = x % 2 := Nat.mod_mod_of_dvd _ (by rw [Nat.pow_succ]; exact Nat.dvd_mul_left 2 _)
    have e2 : x % 2 ^ (a + 1) / 2 = (x / 2) % 2 ^ a := by rw [Nat.pow_succ, Nat.mul_comm, Nat.mod_mul_right_div_self]
    rw [e1, e2, ih]
theorem popN_le (a x : Nat) : popN a x ≤ a := by
  induction a generalizing x with
  | zero => simp [popN]
  | succ a ih =>
    simp only [popN]
    have := ih (x / 2)
    omega
theorem popN_32 {x : Nat} (_hx : x < 4294967296) : popN 32 x = popN 8 (x >>> 24) + popN 8 (x >>> 16 &&& 255) + popN 8 (x >>> 8 &&& 255) + popN 8 (x &&& 255) := by
  have hm : ∀ y, popN 8 (y &&& 255) = popN 8 y := fun y => by rw [show (255 : Nat) = 2 ^ 8 - 1 from rfl, Nat.and_two_pow_sub_one_eq_mod, popN_mod]
  rw [hm, hm, hm, show (32 : Nat) = 8 + (8 + (8 + 8)) from rfl, popN_add 8, popN_add 8, popN_add 8]
  simp only [← Nat.shiftRight_add, Nat.reduceAdd]
  omega
theorem popN_zero (f : Nat) : popN f 0 = 0 := by
  induction f with
  | zero => rfl
  | succ f ih => simp [popN, ih]
theorem popN_clear (f x : Nat) (hx : 0 < x) (hf : x < 2 ^ f) : popN f x = popN f (x &&& (x - 1)) + 1 := by
  induction f generalizing x with
  | zero => simp at hf; omega
  | succ f ih =>
    have h2 : (x &&& (x - 1)) % 2 = 0 := by
      rw [Nat.and_mod_two_pow (n := 1)] 
      simp only [Nat.pow_one]
      rcases Nat.mod_two_eq_zero_or_one x with h | h
      · simp [h]
      · have : (x - 1) % 2 = 0 := by omega
        simp [this]
    have h3 : (x &&& (x - 1)) / 2 = (x / 2) &&& ((x - 1) / 2) := Nat.and_div_two
    simp only [popN, h2, h3]
    rcases Nat.mod_two_eq_zero_or_one x with h | h
    · have e : (x - 1) / 2 = x / 2 - 1 := by omega
      rw [e, ih (x / 2) (by omega) (by rw [Nat.pow_succ] at hf; omega)]
      omega
    · have e : (x - 1) / 2 = x / 2 := by omega
      rw [e, Nat.and_self]
      omega
end Go.Gr
