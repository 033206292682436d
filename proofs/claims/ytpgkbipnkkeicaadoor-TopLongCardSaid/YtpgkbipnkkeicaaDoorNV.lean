import Derived.Test.YtpgkbipnkkeicaaDoorN9
import Derived.Test.YtpgkbipnkkeicaaDoorNT
/-! Division: what is known of the shifted numbers. -/
namespace Go.Nt
theorem shift_len {y n : Nat} (h : (digs y).length = n) (hn : 0 < n) : (digs (y * 2 ^ (32 - bitL ((digs y).getD (n - 1) 0)))).length = n ∧ 32 - bitL ((digs y).getD (n - 1) 0) < 32 ∧ B ^ (n - 1) * 2 ^ (32 - bitL ((digs y).getD (n - 1) 0)) ≤ y * 2 ^ (32 - bitL ((digs y).getD (n - 1) 0)) := by
  have h0 : y ≠ 0 := fun e => by rw [e, digs_zero] at h; simp at h; omega
  have hl := (digs_last h0).2
  rw [h] at hl
  have htop := (digs_sm y).getD (n - 1)
  have hv := val_digs y
  have hsp := val_split (digs y) (n - 1) (by omega)
  rw [val_drop_cons (by omega : n - 1 < (digs y).length), show n - 1 + 1 = n by omega, List.drop_eq_nil_of_le (by omega), hv] at hsp
  have hlow := val_lt ((digs_sm y).take (n - 1))
  rw [List.length_take, Nat.min_eq_left (by omega)] at hlow
  generalize (digs y).getD (n - 1) 0 = t at *
  have hb1 := bitL_lt t
  have hb2 := bitL_le (n := t) (k := 32) htop
  have hb3 : 1 ≤ bitL t := by unfold bitL; rw [if_neg hl]; omega
  generalize bitL t = b at *
  simp only [val, Nat.mul_zero, Nat.add_zero] at hsp
  have hge : B ^ (n - 1) ≤ y := by have := digs_ge h0; rwa [h] at this
  have hge2 : B ^ (n - 1) * 2 ^ (32 - b) ≤ y * 2 ^ (32 - b) := Nat.mul_le_mul_right _ hge
  have hp : 1 ≤ 2 ^ (32 - b) := Nat.two_pow_pos _
  have hlt : y < B ^ (n - 1) * 2 ^ b := by
    have := Nat.mul_le_mul_left (B ^ (n - 1)) hb1
    rw [Nat.mul_succ] at this
    omega
  have hlt2 : y * 2 ^ (32 - b) < B ^ n := by
    have h1 := Nat.mul_lt_mul_of_pos_right hlt (Nat.two_pow_pos (32 - b))
    rw [Nat.mul_assoc, ← Nat.pow_add, show b + (32 - b) = 32 by omega] at h1
    have h2 : B ^ n = B ^ (n - 1) * B := by rw [← Nat.pow_succ, show (n - 1).succ = n by omega]
    rw [h2]
    exact h1
  refine ⟨?_, by omega, hge2⟩
  have h1 := (digs_lt_pow (n := y * 2 ^ (32 - b)) (k := n)).1 hlt2
  have h2 : ¬ y * 2 ^ (32 - b) < B ^ (n - 1) := by
    have := Nat.mul_le_mul_left (B ^ (n - 1)) hp
    omega
  have h3 : ¬ (digs (y * 2 ^ (32 - b))).length ≤ n - 1 := fun h => h2 (digs_lt_pow.2 h)
  omega
theorem first_lt {U : List Nat} {n l x V s : Nat} (hU : U.length = l + 1) (hn : 0 < n) (hnl : n ≤ l) (hv : val U = x * 2 ^ s) (hx : x < B ^ l) (hV : B ^ (n - 1) * 2 ^ s ≤ V) : val (U.drop (l + 1 - n)) < V := by
  have h1 := val_split U (l + 1 - n) (by omega)
  have h2 : B ^ l * 2 ^ s = B ^ (l + 1 - n) * (B ^ (n - 1) * 2 ^ s) := by
    rw [← Nat.mul_assoc, ← Nat.pow_add, show l + 1 - n + (n - 1) = l by omega]
  have h3 := Nat.mul_lt_mul_of_pos_right hx (Nat.two_pow_pos s)
  have h4 : B ^ (l + 1 - n) * val (U.drop (l + 1 - n)) < B ^ (l + 1 - n) * (B ^ (n - 1) * 2 ^ s) := by omega
  exact Nat.lt_of_lt_of_le (Nat.lt_of_mul_lt_mul_left h4) hV
/-- The three highest digits of what is divided now. -/
theorem div_top {U : List Nat} {j k V : Nat} (hU : Sm U) (hl : j + k + 3 ≤ U.length) (h : val (U.drop (j + 1)) < V) (hV : V ≤ B ^ (k + 2)) :
    val (U.drop j) = ((U.getD (j + k + 1) 0 + U.getD (j + k + 2) 0 * B) * B + U.getD (j + k) 0) * B ^ k + val ((U.drop j).take k) ∧ val ((U.drop j).take k) < B ^ k ∧ val (U.drop (j + k + 3)) = 0 ∧ val (U.drop j) < B * V := by
  have h0 := drop_zero_of (w := U) (n := k + 2) (j := j + 1) (by omega) h hV
  rw [show j + 1 + (k + 2) = j + k + 3 by omega] at h0
  obtain ⟨h1, h2⟩ := top3 (w := U.drop j) (k := k) (by rw [List.length_drop]; omega) (hU.drop j)
  rw [List.drop_drop, val_drop_cons (l := U) (k := j + (k + 2)) (by omega), show j + (k + 2) + 1 = j + k + 3 by omega, h0, Nat.mul_zero] at h1
  have e : ∀ i, (U.drop j).getD i 0 = U.getD (j + i) 0 := fun i => by simp [List.getD_eq_getElem?_getD, List.getElem?_drop]
  rw [e, e, show j + (k + 2) = j + k + 2 by omega, show j + (k + 1) = j + k + 1 by omega, Nat.add_zero (U.getD (j + k + 2) 0), Nat.mul_comm B (U.getD (j + k + 2) 0)] at h1
  refine ⟨h1, h2, h0, ?_⟩
  rw [val_drop_cons (by omega : j < U.length)]
  have h3 := hU.getD j
  have h4 := Nat.mul_le_mul_left B h
  rw [Nat.mul_succ] at h4
  omega
theorem div_v {V n k : Nat} (h : (digs V).length = n) (hn : n = k + 2) : V = ((digs V).getD (k + 1) 0 * B + (digs V).getD k 0) * B ^ k + val ((digs V).take k) ∧ val ((digs V).take k) < B ^ k ∧ 0 < (digs V).getD (k + 1) 0 ∧ V < B ^ (k + 2) := by
  obtain ⟨h1, h2⟩ := top3 (w := digs V) (k := k) (by omega) (digs_sm V)
  rw [List.drop_eq_nil_of_le (by omega), val_digs] at h1
  simp only [val, Nat.mul_zero, Nat.add_zero] at h1
  have h0 : V ≠ 0 := fun e => by rw [e, digs_zero] at h; simp at h; omega
  have h3 := (digs_last h0).2
  rw [h, hn, show k + 2 - 1 = k + 1 by omega] at h3
  exact ⟨h1, h2, by omega, digs_lt_pow.2 (by omega)⟩
theorem G_step (g a dv i j : Nat) : g * (a + B ^ i * dv) * B ^ j = g * a * B ^ j + g * dv * B ^ (j + i) := by
  rw [Nat.mul_add, Nat.add_mul, Nat.pow_add]
  congr 1
  ac_rfl
theorem A_step (a dv i j : Nat) : (a + B ^ i * dv) * B ^ j = a * B ^ j + dv * B ^ (j + i) := by
  rw [Nat.add_mul, Nat.pow_add]
  congr 1
  ac_rfl
theorem drop_eq_of {O U : List Nat} {p : Nat} (hl : O.length = U.length) (h : ∀ q, p ≤ q → O.getD q 0 = U.getD q 0) : O.drop p = U.drop p := by
  apply List.ext_getElem
  · simp [hl]
  · intro i h1 h2
    simp only [List.length_drop] at h1 h2
    have := h (p + i) (by omega)
    simp only [List.getElem_drop]
    rw [List.getD_eq_getElem?_getD, List.getD_eq_getElem?_getD, List.getElem?_eq_getElem (by omega), List.getElem?_eq_getElem (by omega)] at this
    simpa using this
theorem getD_set_self' {O : List Nat} {p d : Nat} (h : p < O.length) : (O.set p d).getD p 0 = d := by rw [List.getD_eq_getElem?_getD, List.getElem?_set_self h]; rfl
/-- A number whose digits above p are zero. -/
theorem top_split {O : List Nat} {p t : Nat} (hO : Sm O) (hp : p < O.length) (ht : O.getD p 0 = t) (h0 : val (O.drop (p + 1)) = 0) : val O = val (O.take p) + B ^ p * t ∧ val (O.take p) < B ^ p := by
  have h1 := val_split O p (by omega)
  rw [val_drop_cons hp, ht, h0, Nat.mul_zero, Nat.add_zero] at h1
  have h2 := val_lt (hO.take p)
  rw [List.length_take, Nat.min_eq_left (by omega)] at h2
  exact ⟨h1, h2⟩
theorem low_split {U : List Nat} {j T : Nat} (hU : Sm U) (hj : j ≤ U.length) (hT : val (U.drop j) = T) : val U = val (U.take j) + B ^ j * T ∧ val (U.take j) < B ^ j := by
  have h1 := val_split U j hj
  rw [hT] at h1
  have h2 := val_lt (hU.take j)
  rw [List.length_take, Nat.min_eq_left hj] at h2
  exact ⟨h1, h2⟩
theorem div_close {U U3 Q : List Nat} {j q V X T : Nat} (hl : U3.length = U.length) (hU : Sm U) (hU3 : Sm U3) (hj : j < Q.length) (hj2 : j ≤ U.length) (hTT : val (U.drop j) = T) (h : val U3 + q * V * B ^ j = val U) (hT : T < (q + 1) * V)
    (hX : X = val U + V * (B ^ (j + 1) * val (Q.drop (j + 1)))) : val (U3.drop j) < V ∧ X = val U3 + V * (B ^ j * val ((Q.set j q).drop j)) := by
  obtain ⟨h1, h2⟩ := low_split hU hj2 hTT
  obtain ⟨h3, h4⟩ := low_split hU3 (by omega) (rfl : val (U3.drop j) = _)
  have h5 := K_rest h h1 h2 h3 h4
  rw [Nat.add_mul, Nat.one_mul] at hT
  refine ⟨by omega, ?_⟩
  rw [drop_set hj]
  rw [Nat.pow_succ] at hX
  exact K_quot h hX
/-- The rest's digits, shifted back. -/
theorem mod_shift {b s : Nat} (hs : s ≤ 32) : b * 2 ^ (32 - s) % B = b % 2 ^ s * 2 ^ (32 - s) := by
  rw [show B = 2 ^ s * 2 ^ (32 - s) from by rw [← Nat.pow_add, show s + (32 - s) = 32 by omega]; rfl, Nat.mul_mod_mul_right]
theorem low_zero {U : List Nat} {s r : Nat} (hl : 0 < U.length) (hs : s ≤ 32) (h : val U = r * 2 ^ s) : U.getD 0 0 % 2 ^ s = 0 := by
  have h1 := val_drop_cons (l := U) (k := 0) hl
  rw [List.drop_zero, h] at h1
  have h2 : B = 2 ^ s * 2 ^ (32 - s) := by rw [← Nat.pow_add, show s + (32 - s) = 32 by omega]; rfl
  rw [h2, Nat.mul_assoc] at h1
  have h3 := congrArg (· % 2 ^ s) h1
  simp only [Nat.mul_mod_left, Nat.add_mul_mod_self_left] at h3
  exact h3.symm
end Go.Nt
