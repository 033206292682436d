import Derived.WalkKit
/-! Numbers as digits in base 2^32, the least first. -/
namespace Go.Nt

def B : Nat := 4294967296
theorem B_pos : 0 < B := by decide
def val : List Nat → Nat
  | [] => 0
  | d :: r => d + B * val r
def digs (n : Nat) : List Nat := if h : n = 0 then [] else n % B :: digs (n / B)
termination_by n
decreasing_by exact Nat.div_lt_self (by omega) (by decide)
theorem digs_zero : digs 0 = [] := by unfold digs; rfl
theorem digs_pos {n : Nat} (h : n ≠ 0) : digs n = n % B :: digs (n / B) := by
  conv => lhs; unfold digs
  rw [dif_neg h]
theorem val_digs (n : Nat) : val (digs n) = n := by
  induction n using Nat.strongRecOn with
  | _ n ih =>
    by_cases h : n = 0
    · subst h; rw [digs_zero]; rfl
    · rw [digs_pos h]
      simp only [val]
      rw [ih _ (Nat.div_lt_self (by omega) (by decide))]
      exact Nat.mod_add_div n B
def Sm (l : List Nat) : Prop := ∀ d ∈ l, d < B
theorem Sm.nil : Sm [] := fun _ h => by cases h
theorem Sm.cons {d : Nat} {l : List Nat} (h : d < B) (hl : Sm l) : Sm (d :: l) := fun x hx => by
  rcases List.mem_cons.1 hx with rfl | h1
  · exact h
  · exact hl x h1
theorem Sm.head {d : Nat} {l : List Nat} (h : Sm (d :: l)) : d < B := h d (.head _)
theorem Sm.tail {d : Nat} {l : List Nat} (h : Sm (d :: l)) : Sm l := fun x hx => h x (.tail _ hx)
theorem Sm.take {l : List Nat} (h : Sm l) (k : Nat) : Sm (l.take k) := fun x hx => h x (List.mem_of_mem_take hx)
theorem Sm.drop {l : List Nat} (h : Sm l) (k : Nat) : Sm (l.drop k) := fun x hx => h x (List.mem_of_mem_drop hx)
theorem Sm.app {l m : List Nat} (h : Sm l) (h' : Sm m) : Sm (l ++ m) := fun x hx => (List.mem_append.1 hx).elim (h x) (h' x)
theorem Sm.snoc {l : List Nat} {d : Nat} (h : Sm l) (h' : d < B) : Sm (l ++ [d]) := h.app (Sm.cons h' Sm.nil)
theorem Sm.set {l : List Nat} (h : Sm l) (k : Nat) {d : Nat} (hd : d < B) : Sm (l.set k d) := fun x hx => by
  rcases List.mem_or_eq_of_mem_set hx with h1 | rfl
  · exact h x h1
  · exact hd
theorem Sm.getD {l : List Nat} (h : Sm l) (k : Nat) : l.getD k 0 < B := by
  rw [List.getD_eq_getElem?_getD]
  cases hx : l[k]? with
  | none => exact B_pos
  | some x => exact h x (List.mem_of_getElem? hx)
theorem Sm.zeros (n : Nat) : Sm (List.replicate n 0) := fun x hx => by rw [List.eq_of_mem_replicate hx]; exact B_pos
theorem digs_sm (n : Nat) : Sm (digs n) := by
  induction n using Nat.strongRecOn with
  | _ n ih =>
    by_cases h : n = 0
    · subst h; rw [digs_zero]; exact Sm.nil
    · rw [digs_pos h]
      exact Sm.cons (Nat.mod_lt _ B_pos) (ih _ (Nat.div_lt_self (by omega) (by decide)))
theorem val_app (l m : List Nat) : val (l ++ m) = val l + B ^ l.length * val m := by
  induction l with
  | nil => simp [val]
  | cons d l ih =>
    simp only [List.cons_append, val, ih, List.length_cons]
    rw [Nat.mul_add, Nat.pow_succ, Nat.add_assoc, ← Nat.mul_assoc, Nat.mul_comm B (B ^ l.length)]
theorem val_snoc (l : List Nat) (d : Nat) : val (l ++ [d]) = val l + B ^ l.length * d := by rw [val_app]; simp [val]
theorem val_lt {l : List Nat} (h : Sm l) : val l < B ^ l.length := by
  induction l with
  | nil => simp [val]
  | cons d l ih =>
    have h1 := h.head
    have h2 := ih h.tail
    simp only [val, List.length_cons, Nat.pow_succ]
    rw [Nat.mul_comm (B ^ l.length) B]
    have h3 : B * (val l + 1) ≤ B * B ^ l.length := Nat.mul_le_mul_left _ h2
    rw [Nat.mul_add] at h3
    omega
theorem val_zeros (n : Nat) : val (List.replicate n 0) = 0 := by
  induction n with
  | zero => rfl
  | succ n ih => rw [List.replicate_succ]; simp [val, ih]
theorem digs_take {l : List Nat} (h : Sm l) : (digs (val l)).length ≤ l.length ∧ l.take (digs (val l)).length = digs (val l) ∧ ∀ j, (digs (val l)).length ≤ j → l.getD j 0 = 0 := by
  induction l with
  | nil => simp [val, digs_zero]
  | cons d l ih =>
    have hd := h.head
    obtain ⟨h1, h2, h3⟩ := ih h.tail
    by_cases h0 : val (d :: l) = 0
    · rw [h0, digs_zero]
      simp only [val] at h0
      have hd0 : d = 0 := by omega
      have hv : val l = 0 := by
        have : B * val l = 0 := by omega
        rcases Nat.mul_eq_zero.1 this with h4 | h4
        · exact absurd h4 (by decide)
        · exact h4
      rw [hv, digs_zero] at h3
      refine ⟨by simp, rfl, fun j _ => ?_⟩
      cases j with
      | zero => simpa using hd0
      | succ j => simpa using h3 j (by simp)
    · rw [digs_pos h0]
      have e1 : val (d :: l) % B = d := by simp only [val]; rw [Nat.add_mul_mod_self_left, Nat.mod_eq_of_lt hd]
      have e2 : val (d :: l) / B = val l := by simp only [val]; rw [Nat.add_mul_div_left _ _ B_pos, Nat.div_eq_of_lt hd, Nat.zero_add]
      rw [e1, e2]
      refine ⟨by simp; exact h1, by simp [h2], fun j hj => ?_⟩
      cases j with
      | zero => simp at hj
      | succ j => simp only [List.length_cons] at hj; simpa using h3 j (by omega)
/-- No digit 0 at the end. -/
theorem digs_last {n : Nat} (h : n ≠ 0) : 0 < (digs n).length ∧ (digs n).getD ((digs n).length - 1) 0 ≠ 0 := by
  induction n using Nat.strongRecOn with
  | _ n ih =>
    rw [digs_pos h]
    refine ⟨by simp, ?_⟩
    by_cases h1 : n / B = 0
    · rw [h1, digs_zero]
      simp
      have h2 := Nat.mod_add_div n B
      rw [h1, Nat.mul_zero] at h2
      omega
    · have h2 := ih _ (Nat.div_lt_self (by omega) (by decide)) h1
      simp only [List.length_cons, Nat.add_sub_cancel]
      obtain ⟨k, hk⟩ : ∃ k, (digs (n / B)).length = k + 1 := ⟨(digs (n / B)).length - 1, by omega⟩
      rw [hk] at h2 ⊢
      simpa using h2.2
theorem digs_eq_nil {n : Nat} : (digs n).length = 0 ↔ n = 0 := by
  constructor
  · intro h
    apply Classical.byContradiction
    intro hn
    have := (digs_last hn).1
    omega
  · rintro rfl; rw [digs_zero]; rfl
theorem digs_lt_pow {n k : Nat} : n < B ^ k ↔ (digs n).length ≤ k := by
  induction k generalizing n with
  | zero =>
    simp only [Nat.pow_zero, Nat.le_zero_eq]
    rw [digs_eq_nil]
    omega
  | succ k ih =>
    by_cases h : n = 0
    · subst h
      rw [digs_zero]
      simp
      exact Nat.pow_pos B_pos
    · rw [digs_pos h, List.length_cons]
      have := ih (n := n / B)
      rw [Nat.div_lt_iff_lt_mul B_pos, ← Nat.pow_succ] at this
      rw [this]
      omega
theorem digs_val {l : List Nat} (h : Sm l) (hl : l = [] ∨ l.getD (l.length - 1) 0 ≠ 0) : digs (val l) = l := by
  obtain ⟨h1, h2, h3⟩ := digs_take h
  have : (digs (val l)).length = l.length := by
    apply Classical.byContradiction
    intro hn
    rcases hl with rfl | hl
    · simp at h1; simp [h1] at hn
    · exact hl (h3 _ (by omega))
  rw [this, List.take_length] at h2
  exact h2.symm
theorem digs_inj {m n : Nat} (h : digs m = digs n) : m = n := by rw [← val_digs m, h, val_digs]
theorem val_take_succ {l : List Nat} {k : Nat} (h : k < l.length) : val (l.take (k + 1)) = val (l.take k) + B ^ k * l.getD k 0 := by
  rw [List.take_succ_eq_append_getElem h, val_snoc, List.length_take, Nat.min_eq_left (by omega)]
  simp [h]
theorem val_split (l : List Nat) (k : Nat) (h : k ≤ l.length) : val l = val (l.take k) + B ^ k * val (l.drop k) := by
  conv => lhs; rw [← List.take_append_drop k l]
  rw [val_app, List.length_take, Nat.min_eq_left h]
theorem val_drop_cons {l : List Nat} {k : Nat} (h : k < l.length) : val (l.drop k) = l.getD k 0 + B * val (l.drop (k + 1)) := by
  rw [List.drop_eq_getElem_cons h]
  simp [val, h]
/-- Numbers of as many digits, that agree above a digit. -/
theorem val_lt_of {l m : List Nat} {k : Nat} (hl : Sm l) (hk : k < l.length) (hk' : k < m.length) (he : l.drop (k + 1) = m.drop (k + 1)) (hd : l.getD k 0 < m.getD k 0) : val l < val m := by
  rw [val_split l k (by omega), val_split m k (by omega), val_drop_cons hk, val_drop_cons hk', he]
  have h1 := val_lt (hl.take k)
  rw [List.length_take, Nat.min_eq_left (by omega)] at h1
  have h2 : B ^ k * (l.getD k 0 + 1) ≤ B ^ k * m.getD k 0 := Nat.mul_le_mul_left _ hd
  rw [Nat.mul_add] at h2 ⊢
  rw [Nat.mul_add]
  generalize B ^ k * (B * val (List.drop (k + 1) m)) = z
  generalize B ^ k * l.getD k 0 = x at *
  generalize B ^ k * m.getD k 0 = y at *
  omega
theorem lt_of_len {m n : Nat} (h : (digs m).length < (digs n).length) : m < n := by
  have h1 : m < B ^ (digs m).length := digs_lt_pow.2 (Nat.le_refl _)
  have h2 : ¬ n < B ^ (digs m).length := fun h2 => by have := digs_lt_pow.1 h2; omega
  omega
end Go.Nt
