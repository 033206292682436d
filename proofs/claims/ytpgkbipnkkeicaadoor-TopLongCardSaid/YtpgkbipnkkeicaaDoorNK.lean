import Derived.Test.YtpgkbipnkkeicaaDoorND
/-! Long division, one digit of the quotient: the arithmetic. -/
namespace Go.Nt
/-- The number `v1 v2 vl` (vl below P). -/
theorem K_init {B P v1 v2 vl V top t3 tl T q r : Nat} (hV : V = (v1 * B + v2) * P + vl) (hT : T = (top * B + t3) * P + tl) (htl : tl < P) (ht3 : t3 < B) (hq : q * v1 + r = top) (hr : r < v1) : T < (q + 1) * V := by
  have h1 : (top + 1) ≤ (q + 1) * v1 := by rw [Nat.add_mul]; omega
  have h2 : ((top + 1) * B) * P ≤ (((q + 1) * v1) * B) * P := Nat.mul_le_mul_right _ (Nat.mul_le_mul_right _ h1)
  have h3 : (top * B + t3 + 1) * P ≤ ((top + 1) * B) * P := Nat.mul_le_mul_right _ (by rw [Nat.add_mul]; omega)
  have h4 : (((q + 1) * v1) * B) * P ≤ (q + 1) * V := by
    rw [hV, Nat.mul_add, Nat.add_mul (v1 * B), Nat.mul_add]
    have : ((q + 1) * v1) * B * P = (q + 1) * (v1 * B * P) := by ac_rfl
    omega
  have h5 : (top * B + t3 + 1) * P = (top * B + t3) * P + P := by rw [Nat.add_mul, Nat.one_mul]
  omega
theorem K_prod {B P v1 v2 vl V top t3 tl T q r : Nat} (hV : V = (v1 * B + v2) * P + vl) (hT : T = (top * B + t3) * P + tl) (htl : tl < P) (hq : q * v1 + r = top) (h : r * B + t3 < q * v2) : T < q * V := by
  have h1 : top * B + t3 + 1 ≤ q * (v1 * B + v2) := by
    rw [← hq, Nat.add_mul, Nat.mul_add, ← Nat.mul_assoc]; omega
  have h2 := Nat.mul_le_mul_right P h1
  have h3 : q * (v1 * B + v2) * P ≤ q * V := by
    rw [hV, Nat.mul_add q (_ * P), ← Nat.mul_assoc]; exact Nat.le_add_right _ _
  rw [Nat.add_mul _ 1, Nat.one_mul] at h2
  omega
theorem K_ge {B V T q : Nat} (hT : T < B * V) (h : B ≤ q) : T < q * V := Nat.lt_of_lt_of_le hT (Nat.mul_le_mul_right _ h)
theorem K_exit {B P v1 v2 vl V top t3 tl T q r : Nat} (hV : V = (v1 * B + v2) * P + vl) (hvl : vl < P) (hT : T = (top * B + t3) * P + tl) (hq : q * v1 + r = top) (hv1 : 0 < v1) (hqB : q < B) (h : q * v2 ≤ r * B + t3) : q * V ≤ T + V := by
  have h1 : q * (v1 * B + v2) ≤ top * B + t3 := by
    rw [← hq, Nat.add_mul, Nat.mul_add, ← Nat.mul_assoc]; omega
  have h2 := Nat.mul_le_mul_right P h1
  have h3 : q * vl ≤ B * P := Nat.mul_le_mul (Nat.le_of_lt hqB) (Nat.le_of_lt hvl)
  have h4 : B * P ≤ (v1 * B + v2) * P := Nat.mul_le_mul_right _ (by have := Nat.mul_le_mul_right B hv1; omega)
  have h5 : q * V = q * (v1 * B + v2) * P + q * vl := by rw [hV, Nat.mul_add, ← Nat.mul_assoc]
  omega
theorem K_break {B P v1 v2 vl V top t3 tl T q r : Nat} (hV : V = (v1 * B + v2) * P + vl) (hvl : vl < P) (hT : T = (top * B + t3) * P + tl) (hTB : T < B * V) (hv2 : v2 < B) (hq : q * v1 + r = top) (hr : B ≤ r) : q < B ∧ q * v2 ≤ r * B + t3 := by
  have h1 : V ≤ (v1 + 1) * B * P := by
    have : (v1 * B + v2 + 1) * P ≤ (v1 + 1) * B * P := Nat.mul_le_mul_right _ (by rw [Nat.add_mul]; omega)
    rw [Nat.add_mul _ 1, Nat.one_mul] at this
    omega
  have h2 : top * (B * P) < ((v1 + 1) * B) * (B * P) := by
    have e1 : top * (B * P) = top * B * P := by rw [Nat.mul_assoc]
    have e2 : ((v1 + 1) * B) * (B * P) = B * ((v1 + 1) * B * P) := by ac_rfl
    have h3 := Nat.mul_le_mul_left B h1
    have h4 : top * B * P ≤ (top * B + t3) * P := Nat.mul_le_mul_right _ (by omega)
    omega
  have h3 : top < (v1 + 1) * B := Nat.lt_of_mul_lt_mul_right h2
  have h4 : q < B := by
    apply Classical.byContradiction
    intro hn
    have := Nat.mul_le_mul_right v1 (Nat.le_of_not_lt hn)
    rw [Nat.add_mul, Nat.mul_comm v1] at h3
    omega
  refine ⟨h4, ?_⟩
  have h5 : q * v2 ≤ B * B := Nat.mul_le_mul (Nat.le_of_lt h4) (Nat.le_of_lt hv2)
  have h6 : B * B ≤ r * B := Nat.mul_le_mul_right _ hr
  omega
/-- One digit is taken away. -/
theorem K_sub {B U' U U0 X u d y b2 G q vi bw cy P c2 : Nat} (hset : U' + X * u = U + X * d) (hd : d + y = u + b2 * B) (hy : y = P + bw) (hP : P + c2 * B = cy + q * vi) (h : U + G = U0 + (bw + cy) * X) : U' + (G + q * vi * X) = U0 + (b2 + c2) * (X * B) := by
  have e1 : (P + c2 * B) * X = (cy + q * vi) * X := by rw [hP]
  have e2 : (d + y) * X = (u + b2 * B) * X := by rw [hd]
  subst hy
  grind
/-- One digit is added back. -/
theorem K_add {B U' U U1 X u d G vi c c2 : Nat} (hset : U' + X * u = U + X * d) (hd : d + c2 * B = c + u + vi) (h : U + c * X = U1 + G) : U' + c2 * (X * B) = U1 + (G + vi * X) := by
  have e1 : (d + c2 * B) * X = (c + u + vi) * X := by rw [hd]
  grind
/-- No borrow at the end: the guess is the digit. -/
theorem K_noborrow {U1 U0 U X t d y J q V T low : Nat} (hset : U1 + X * t = U + X * d) (hd : d + y = t) (h : U + q * V * J = U0 + y * X) (h0 : U0 = low + J * T) (hl : low < J) : U1 + q * V * J = U0 ∧ q * V ≤ T := by
  have e1 : U1 + q * V * J = U0 := by
    have : (d + y) * X = t * X := by rw [hd]
    grind
  refine ⟨e1, ?_⟩
  have h1 : q * V * J < (T + 1) * J := by rw [Nat.add_mul, Nat.one_mul, Nat.mul_comm T]; omega
  have := Nat.lt_of_mul_lt_mul_right h1
  omega
/-- A borrow at the end: the guess is one too large, and the last digit is all ones. -/
theorem K_borrow {U0 U X t y J q V T m low : Nat} (hU : U = m + X * t) (hm : m < X) (hty : t < y) (h : U + q * V * J = U0 + y * X) (h0 : U0 = low + J * T) (hqV : q * V ≤ T + V) (hVX : V * J ≤ X) : y = t + 1 ∧ T < q * V := by
  obtain ⟨z, rfl⟩ : ∃ z, y = t + 1 + z := ⟨y - (t + 1), by omega⟩
  have e : m + q * V * J = U0 + X + z * X := by grind
  have h1 : q * V * J ≤ (T + V) * J := Nat.mul_le_mul_right _ hqV
  rw [Nat.add_mul, Nat.mul_comm T] at h1
  have h2 : T * J < q * V * J := by rw [Nat.mul_comm T]; omega
  have h3 := Nat.lt_of_mul_lt_mul_right h2
  refine ⟨?_, h3⟩
  have h4 : z * X < 1 * X := by rw [Nat.one_mul]; omega
  have := Nat.lt_of_mul_lt_mul_right h4
  omega
/-- After adding back: the carry is one. -/
theorem K_back {B U0 U U1 U2 U3 X t J q V T c m low : Nat} (h : U + q * V * J = U0 + (t + 1) * X) (h0 : U0 = low + J * T) (hqV : q * V ≤ T + V) (hq : 0 < q)
    (h1 : U1 + X * t = U + X * (B - 1)) (h2 : U2 + c * X = U1 + V * J) (hU2 : U2 = m + X * (B - 1)) (hm : m < X) (hc : c ≤ 1) (h3 : U3 + X * (B - 1) = U2 + X * 0) : c = 1 ∧ U3 + (q - 1) * V * J = U0 := by
  obtain ⟨p, rfl⟩ : ∃ p, q = p + 1 := ⟨q - 1, by omega⟩
  generalize B - 1 = b at *
  have hp : p * V ≤ T := by rw [Nat.add_mul] at hqV; omega
  have hp2 : p * V * J ≤ J * T := by rw [Nat.mul_comm J]; exact Nat.mul_le_mul_right _ hp
  have e1 : (p + 1) * V * J = p * V * J + V * J := by rw [Nat.add_mul, Nat.add_mul, Nat.one_mul]
  have e2 : (t + 1) * X = X * t + X := by rw [Nat.add_mul, Nat.one_mul, Nat.mul_comm]
  rw [e1, e2] at h
  have hc1 : c = 1 := by
    rcases Nat.eq_zero_or_pos c with h5 | h5
    · subst h5; omega
    · omega
  subst hc1
  refine ⟨rfl, ?_⟩
  rw [Nat.add_sub_cancel]
  omega
/-- What is left. -/
theorem K_rest {U0 U3 J T R q V l3 low : Nat} (h : U3 + q * V * J = U0) (h0 : U0 = low + J * T) (hl : low < J) (h3 : U3 = l3 + J * R) (hl3 : l3 < J) : R + q * V = T := by
  have e : l3 + J * (R + q * V) = low + J * T := by grind
  have e1 := congrArg (· / J) e
  have hJ : 0 < J := by omega
  simp only [Nat.add_mul_div_left _ _ hJ, Nat.div_eq_of_lt hl3, Nat.div_eq_of_lt hl, Nat.zero_add] at e1
  exact e1
theorem K_quot {B D U3 U0 q V J W : Nat} (h : U3 + q * V * J = U0) (hD : D = U0 + V * (J * B * W)) : D = U3 + V * (J * (q + B * W)) := by grind
/-- The rest, shifted back. -/
theorem K_right {B Vr W u u' P S M : Nat} (hS : S * M = B) (h : Vr * S = W + P * (u % S)) : (Vr + P * (u / S + u' % S * M)) * S = W + P * u + P * B * (u' % S) := by
  have h1 := Nat.mod_add_div u S
  generalize u' % S = z at *
  generalize u / S = a at *
  generalize u % S = b at *
  subst h1; subst hS
  rw [Nat.add_mul, h, Nat.mul_add, Nat.mul_add, Nat.add_mul]
  have e1 : P * a * S = P * (S * a) := by ac_rfl
  have e2 : P * (z * M) * S = P * (S * M) * z := by ac_rfl
  omega
/-- The two highest digits. -/
theorem top3 {w : List Nat} {k : Nat} (h : k + 2 ≤ w.length) (hw : Sm w) : val w = ((w.getD (k + 1) 0 + B * val (w.drop (k + 2))) * B + w.getD k 0) * B ^ k + val (w.take k) ∧ val (w.take k) < B ^ k := by
  have h1 := val_split w k (by omega)
  rw [val_drop_cons (by omega : k < w.length), val_drop_cons (by omega : k + 1 < w.length)] at h1
  have h2 := val_lt (hw.take k)
  rw [List.length_take, Nat.min_eq_left (by omega)] at h2
  refine ⟨?_, h2⟩
  rw [h1]
  generalize w.getD (k + 1) 0 + B * val (List.drop (k + 1 + 1) w) = x
  rw [Nat.mul_comm (B ^ k), Nat.mul_comm x B, Nat.add_comm (w.getD k 0)]
  omega
theorem drop_zero_of {w : List Nat} {n j V : Nat} (h : n + j ≤ w.length) (h1 : val (w.drop j) < V) (h2 : V ≤ B ^ n) : val (w.drop (j + n)) = 0 := by
  have h3 := val_split (w.drop j) n (by rw [List.length_drop]; omega)
  rw [List.drop_drop] at h3
  rcases Nat.eq_zero_or_pos (val (w.drop (j + n))) with h4 | h4
  · exact h4
  · have := Nat.mul_le_mul_left (B ^ n) h4
    omega
end Go.Nt
