import Derived.Test.YtpgkbipnkkeicaaDoorNT
/-! Arithmetic as by hand: the steps. -/
namespace Go.Nt
theorem dset_drop {O : List Nat} {p d : Nat} (h : p < O.length) : dv ((O.set p d).drop p) = d * 10 ^ (O.length - (p + 1)) + dv (O.drop (p + 1)) := by
  rw [dv_drop_cons (by simpa using h), List.length_set]
  have e2 : (O.set p d).drop (p + 1) = O.drop (p + 1) := by
    apply List.ext_getElem?
    intro k
    rw [List.getElem?_drop, List.getElem?_drop, List.getElem?_set_ne (by omega)]
  have e3 : (O.set p d).getD p 0 = d := by rw [List.getD_eq_getElem?_getD, List.getElem?_set_self h]; rfl
  rw [e2, e3]
/-- The digit i from the end. -/
theorem end_cons {a : List Nat} {i : Nat} (h : i < a.length) : dv (a.drop (a.length - (i + 1))) = a.getD (a.length - 1 - i) 0 * 10 ^ i + dv (a.drop (a.length - i)) := by
  rw [dv_drop_cons (by omega), show a.length - (a.length - (i + 1) + 1) = i by omega, show a.length - (i + 1) + 1 = a.length - i by omega, show a.length - 1 - i = a.length - (i + 1) by omega]
theorem end_over {a : List Nat} {i : Nat} (h : a.length ≤ i) : dv (a.drop (a.length - (i + 1))) = dv (a.drop (a.length - i)) := by
  rw [show a.length - (i + 1) = a.length - i by omega]
theorem plus_step {O : List Nat} {L i s cy x y A B A' B' : Nat} (hO : O.length = L) (hi : i < L) (hs : s = cy + x + y) (hA : A' = x * 10 ^ i + A) (hB : B' = y * 10 ^ i + B)
    (h : dv (O.drop (L - i)) + cy * 10 ^ i = A + B) : dv ((O.set (L - 1 - i) (s % 10)).drop (L - (i + 1))) + s / 10 * 10 ^ (i + 1) = A' + B' := by
  rw [show L - (i + 1) = L - 1 - i by omega, dset_drop (by omega), hO, show L - (L - 1 - i + 1) = i by omega, show L - 1 - i + 1 = L - i by omega, Nat.pow_succ]
  have h1 := Nat.mod_add_div s 10
  have h2 : s % 10 * 10 ^ i + s / 10 * (10 ^ i * 10) = s * 10 ^ i := by
    conv => rhs; rw [← h1]
    rw [Nat.add_mul, Nat.mul_comm 10 (s / 10), Nat.mul_assoc, Nat.mul_comm 10 (10 ^ i)]
  have h3 : s * 10 ^ i = cy * 10 ^ i + x * 10 ^ i + y * 10 ^ i := by rw [hs, Nat.add_mul, Nat.add_mul]
  generalize s % 10 * 10 ^ i = p at *
  generalize s / 10 * (10 ^ i * 10) = q at *
  omega
theorem dv_set {S : List Nat} {p d : Nat} (h : p < S.length) : dv (S.set p d) + S.getD p 0 * 10 ^ (S.length - (p + 1)) = dv S + d * 10 ^ (S.length - (p + 1)) := by
  have h1 := dv_split (S.set p d) p
  have h2 := dv_split S p
  rw [dset_drop h, List.take_set_of_le (Nat.le_refl _), List.length_set] at h1
  rw [dv_drop_cons h] at h2
  omega
theorem dv_put {S : List Nat} {p x L e : Nat} (hL : S.length = L) (h : p < L) (he : e = L - (p + 1)) : dv (S.set p (S.getD p 0 + x)) = dv S + x * 10 ^ e := by
  subst hL he
  have := dv_set (S := S) (p := p) (d := S.getD p 0 + x) h
  rw [Nat.add_mul] at this
  omega
/-- One product of two digits is added. -/
theorem times_step {S a b : List Nat} {i k : Nat} (hS : S.length = a.length + b.length) (hi : i < a.length) (hk : k < b.length) {X : Nat}
    (h : dv S = X + a.getD i 0 * 10 ^ (a.length - (i + 1)) * (dv (b.take k) * 10 ^ (b.length - k))) :
    dv (S.set (i + k + 1) (S.getD (i + k + 1) 0 + a.getD i 0 * b.getD k 0)) = X + a.getD i 0 * 10 ^ (a.length - (i + 1)) * (dv (b.take (k + 1)) * 10 ^ (b.length - (k + 1))) := by
  rw [dv_put (e := (a.length - (i + 1)) + (b.length - (k + 1))) hS (by omega) (by omega), h, dv_take_succ hk, Nat.pow_add]
  have e : 10 ^ (b.length - k) = 10 * 10 ^ (b.length - (k + 1)) := by
    rw [show b.length - k = b.length - (k + 1) + 1 by omega, Nat.pow_succ, Nat.mul_comm]
  rw [e]
  generalize a.getD i 0 = x
  generalize b.getD k 0 = y
  generalize 10 ^ (a.length - (i + 1)) = p
  generalize 10 ^ (b.length - (k + 1)) = q
  generalize dv (b.take k) = z
  rw [Nat.add_assoc]
  congr 1
  rw [Nat.add_mul, Nat.mul_add, Nat.mul_assoc z 10 q]
  congr 1
  ac_rfl
theorem times_row {a b : List Nat} {i X : Nat} (hi : i < a.length) (h : X = dv (a.take i) * 10 ^ (a.length - i) * dv b) : X + a.getD i 0 * 10 ^ (a.length - (i + 1)) * (dv (b.take b.length) * 10 ^ (b.length - b.length)) = dv (a.take (i + 1)) * 10 ^ (a.length - (i + 1)) * dv b := by
  rw [List.take_length, Nat.sub_self, Nat.pow_zero, Nat.mul_one, dv_take_succ hi, h]
  have e : 10 ^ (a.length - i) = 10 * 10 ^ (a.length - (i + 1)) := by
    rw [show a.length - i = a.length - (i + 1) + 1 by omega, Nat.pow_succ, Nat.mul_comm]
  rw [e, Nat.add_mul, Nat.add_mul, Nat.mul_assoc (dv (a.take i)) 10]
/-- The sums' carries. -/
theorem carry_step {O S : List Nat} {L i s cy : Nat} (hO : O.length = L) (hS : S.length = L) (hi : i < L) (hs : s = cy + S.getD i 0)
    (h : dv (O.drop (i + 1)) + cy * 10 ^ (L - (i + 1)) = dv (S.drop (i + 1))) : dv ((O.set i (s % 10)).drop i) + s / 10 * 10 ^ (L - i) = dv (S.drop i) := by
  rw [dset_drop (by omega), hO, dv_drop_cons (l := S) (k := i) (by omega), hS, show L - i = L - (i + 1) + 1 by omega, Nat.pow_succ]
  generalize 10 ^ (L - (i + 1)) = p at *
  have h1 := Nat.mod_add_div s 10
  have h2 : s % 10 * p + s / 10 * (p * 10) = s * p := by
    conv => rhs; rw [← h1]
    rw [Nat.add_mul, Nat.mul_comm 10 (s / 10), Nat.mul_assoc, Nat.mul_comm 10 p]
  have h3 : s * p = cy * p + S.getD i 0 * p := by rw [hs, Nat.add_mul]
  generalize s % 10 * p = q at *
  generalize s / 10 * (p * 10) = r at *
  omega
theorem times_fin {O S a b : List Nat} {cy : Nat} (ha : D10 a) (hb : D10 b) (hS : dv S = dv a * dv b) (hL : S.length = a.length + b.length) (h : dv (O.drop 0) + cy * 10 ^ (S.length - 0) = dv (S.drop 0)) : dv O = dv a * dv b := by
  rw [List.drop_zero, List.drop_zero, hS, Nat.sub_zero, hL, Nat.pow_add] at h
  have h1 : dv a * dv b < 10 ^ a.length * 10 ^ b.length := Nat.lt_of_le_of_lt (Nat.mul_le_mul_right _ (Nat.le_of_lt (dv_lt ha))) (Nat.mul_lt_mul_of_pos_left (dv_lt hb) (Nat.pow_pos (by decide)))
  rcases Nat.eq_zero_or_pos cy with h2 | h2
  · subst h2; omega
  · have := Nat.mul_le_mul_right (10 ^ a.length * 10 ^ b.length) h2
    omega
theorem plus_fin {O a b : List Nat} {cy L : Nat} (ha : D10 a) (hb : D10 b) (hL : L = max a.length b.length + 1) (hO : O.length = L) (h : dv (O.drop (L - L)) + cy * 10 ^ L = dv (a.drop (a.length - L)) + dv (b.drop (b.length - L))) : dv O = dv a + dv b := by
  rw [Nat.sub_self, show a.length - L = 0 by omega, show b.length - L = 0 by omega, List.drop_zero, List.drop_zero, List.drop_zero] at h
  have h1 := dv_lt ha
  have h2 := dv_lt hb
  have h3 : 10 ^ a.length ≤ 10 ^ max a.length b.length := Nat.pow_le_pow_right (by decide) (by omega)
  have h4 : 10 ^ b.length ≤ 10 ^ max a.length b.length := Nat.pow_le_pow_right (by decide) (by omega)
  have h5 : 10 ^ L = 10 ^ max a.length b.length * 10 := by rw [hL, Nat.pow_succ]
  rcases Nat.eq_zero_or_pos cy with h6 | h6
  · subst h6; omega
  · have := Nat.mul_le_mul_right (10 ^ L) h6
    omega
/-- Parse: a digit times a power of ten, and what is carried. -/
theorem parse_step {U O : List Nat} {i cy by_ ad s : Nat} (hU : U.length = O.length) (hi : i < O.length) (hs : s = cy + O.getD i 0 * by_) (h : val (U.take i) + cy * B ^ i = val (O.take i) * by_ + ad) :
    val ((U.set i (s % B)).take (i + 1)) + s / B * B ^ (i + 1) = val (O.take (i + 1)) * by_ + ad := by
  rw [val_take_succ (by simpa [hU] using hi), val_take_succ hi, List.take_set_of_le (Nat.le_refl _), Nat.pow_succ]
  have e3 : (U.set i (s % B)).getD i 0 = s % B := by rw [List.getD_eq_getElem?_getD, List.getElem?_set_self (by omega)]; rfl
  rw [e3]
  have h1 := Nat.mod_add_div s B
  have h2 : B ^ i * (s % B) + s / B * (B ^ i * B) = B ^ i * s := by
    conv => rhs; rw [← h1]
    rw [Nat.mul_add, Nat.mul_comm (s / B), Nat.mul_assoc]
  have h3 : B ^ i * s = cy * B ^ i + B ^ i * O.getD i 0 * by_ := by rw [hs, Nat.mul_add, Nat.mul_comm cy, Nat.mul_assoc]
  rw [Nat.add_mul]
  generalize B ^ i * (s % B) = p at *
  generalize s / B * (B ^ i * B) = q at *
  omega
theorem parse_fin {U : List Nat} {cy n by_ ad : Nat} (hs : Sm U) (hc : cy < B) (hU : U.length = (digs n).length) (hb : 0 < by_) (h : val U + cy * B ^ (digs n).length = n * by_ + ad) :
    (cy = 0 → digs (n * by_ + ad) = U) ∧ (0 < cy → digs (n * by_ + ad) = U ++ [cy]) := by
  rw [← h]
  constructor
  · rintro rfl
    rw [Nat.zero_mul, Nat.add_zero] at h ⊢
    apply digs_keep hs
    by_cases hn : n = 0
    · subst hn; rw [digs_zero] at hU; exact .inl (List.eq_nil_of_length_eq_zero hU)
    · right
      rw [hU, h]
      have := digs_ge hn
      have h2 := Nat.mul_le_mul_left n hb
      omega
  · intro hc0
    have e : val (U ++ [cy]) = val U + cy * B ^ (digs n).length := by rw [val_snoc, hU, Nat.mul_comm]
    rw [← e]
    apply digs_keep (hs.snoc hc)
    right
    rw [List.length_append, List.length_singleton, Nat.add_sub_cancel, hU, e]
    have := Nat.mul_le_mul_right (B ^ (digs n).length) hc0
    omega
end Go.Nt
