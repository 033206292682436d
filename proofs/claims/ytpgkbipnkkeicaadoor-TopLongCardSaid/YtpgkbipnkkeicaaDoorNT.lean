import Derived.Test.YtpgkbipnkkeicaaDoorNK
/-! Decimal digits. -/
namespace Go.Nt
/-- The digits, the least first, of none for 0. -/
def ld (n : Nat) : List Nat := if h : n = 0 then [] else n % 10 :: ld (n / 10)
termination_by n
decreasing_by exact Nat.div_lt_self (by omega) (by decide)
theorem ld_zero : ld 0 = [] := by unfold ld; rfl
theorem ld_pos {n : Nat} (h : n ≠ 0) : ld n = n % 10 :: ld (n / 10) := by
  conv => lhs; unfold ld
  rw [dif_neg h]
/-- The digits as they are written. -/
def dec (n : Nat) : List Nat := if n = 0 then [0] else (ld n).reverse
/-- What digits mean. -/
def dv (l : List Nat) : Nat := l.foldl (fun a d => a * 10 + d) 0
def D10 (l : List Nat) : Prop := ∀ d ∈ l, d < 10
theorem D10.nil : D10 [] := fun _ h => by cases h
theorem D10.cons {d : Nat} {l : List Nat} (h : d < 10) (hl : D10 l) : D10 (d :: l) := fun x hx => by
  rcases List.mem_cons.1 hx with rfl | h1
  · exact h
  · exact hl x h1
theorem D10.head {d : Nat} {l : List Nat} (h : D10 (d :: l)) : d < 10 := h d (.head _)
theorem D10.tail {d : Nat} {l : List Nat} (h : D10 (d :: l)) : D10 l := fun x hx => h x (.tail _ hx)
theorem D10.take {l : List Nat} (h : D10 l) (k : Nat) : D10 (l.take k) := fun x hx => h x (List.mem_of_mem_take hx)
theorem D10.drop {l : List Nat} (h : D10 l) (k : Nat) : D10 (l.drop k) := fun x hx => h x (List.mem_of_mem_drop hx)
theorem D10.rev {l : List Nat} (h : D10 l) : D10 l.reverse := fun x hx => h x (List.mem_reverse.1 hx)
theorem D10.set {l : List Nat} (h : D10 l) (k : Nat) {d : Nat} (hd : d < 10) : D10 (l.set k d) := fun x hx => by
  rcases List.mem_or_eq_of_mem_set hx with h1 | rfl
  · exact h x h1
  · exact hd
theorem D10.getD {l : List Nat} (h : D10 l) (k : Nat) : l.getD k 0 < 10 := by
  rw [List.getD_eq_getElem?_getD]
  cases hx : l[k]? with
  | none => decide
  | some x => exact h x (List.mem_of_getElem? hx)
theorem D10.zeros (n : Nat) : D10 (List.replicate n 0) := fun x hx => by rw [List.eq_of_mem_replicate hx]; decide
theorem snocRec {p : List Nat → Prop} (h0 : p []) (h1 : ∀ l d, p l → p (l ++ [d])) (l : List Nat) : p l := by
  have : ∀ m : List Nat, p m.reverse := fun m => by
    induction m with
    | nil => exact h0
    | cons d m ih => rw [List.reverse_cons]; exact h1 _ _ ih
  have := this l.reverse
  rwa [List.reverse_reverse] at this
theorem dv_nil : dv [] = 0 := rfl
theorem dv_snoc (l : List Nat) (d : Nat) : dv (l ++ [d]) = dv l * 10 + d := by simp [dv]
theorem dv_app (l m : List Nat) : dv (l ++ m) = dv l * 10 ^ m.length + dv m := by
  induction m using snocRec with
  | h0 => simp [dv]
  | h1 m d ih =>
    rw [← List.append_assoc, dv_snoc, ih, dv_snoc, List.length_append, List.length_singleton, Nat.pow_succ, Nat.add_mul, Nat.mul_assoc, Nat.add_assoc]
theorem dv_cons (d : Nat) (l : List Nat) : dv (d :: l) = d * 10 ^ l.length + dv l := by
  have := dv_app [d] l
  rw [show dv [d] = d from by simp [dv]] at this
  exact this
theorem dv_zeros (n : Nat) : dv (List.replicate n 0) = 0 := by
  induction n with
  | zero => rfl
  | succ n ih => rw [List.replicate_succ, dv_cons, ih, Nat.zero_mul]
theorem dv_lt {l : List Nat} (h : D10 l) : dv l < 10 ^ l.length := by
  induction l with
  | nil => simp [dv]
  | cons d l ih =>
    have h1 := h.head
    have h2 := ih h.tail
    rw [dv_cons, List.length_cons, Nat.pow_succ, Nat.mul_comm _ 10]
    have := Nat.mul_le_mul_right (10 ^ l.length) (show d ≤ 9 by omega)
    omega
theorem dv_split (l : List Nat) (k : Nat) : dv l = dv (l.take k) * 10 ^ (l.length - k) + dv (l.drop k) := by
  conv => lhs; rw [← List.take_append_drop k l]
  rw [dv_app, List.length_drop]
theorem dv_take_succ {l : List Nat} {k : Nat} (h : k < l.length) : dv (l.take (k + 1)) = dv (l.take k) * 10 + l.getD k 0 := by
  rw [List.take_succ_eq_append_getElem h, dv_snoc]
  simp [h]
theorem dv_drop_cons {l : List Nat} {k : Nat} (h : k < l.length) : dv (l.drop k) = l.getD k 0 * 10 ^ (l.length - (k + 1)) + dv (l.drop (k + 1)) := by
  rw [List.drop_eq_getElem_cons h, dv_cons, List.length_drop]
  simp [h]
theorem ld_D10 (n : Nat) : D10 (ld n) := by
  induction n using Nat.strongRecOn with
  | _ n ih =>
    by_cases h : n = 0
    · subst h; rw [ld_zero]; exact D10.nil
    · rw [ld_pos h]
      exact D10.cons (Nat.mod_lt _ (by decide)) (ih _ (Nat.div_lt_self (by omega) (by decide)))
theorem dv_ld (n : Nat) : dv (ld n).reverse = n := by
  induction n using Nat.strongRecOn with
  | _ n ih =>
    by_cases h : n = 0
    · subst h; rw [ld_zero]; rfl
    · rw [ld_pos h, List.reverse_cons, dv_snoc, ih _ (Nat.div_lt_self (by omega) (by decide))]
      omega
theorem dec_D10 (n : Nat) : D10 (dec n) := by
  unfold dec
  split
  · exact D10.cons (by decide) D10.nil
  · exact (ld_D10 n).rev
theorem dv_dec (n : Nat) : dv (dec n) = n := by
  unfold dec
  split
  · next h => subst h; rfl
  · exact dv_ld n
theorem dec_pos (n : Nat) : 0 < (dec n).length := by
  unfold dec
  split
  · decide
  · next h => rw [ld_pos h]; simp
/-- Digits without a zero ahead of them are the number's own. -/
theorem ld_dv {l : List Nat} (h : D10 l) (h0 : l.getD 0 1 ≠ 0) : ld (dv l) = l.reverse := by
  induction l using snocRec with
  | h0 => rw [dv_nil, ld_zero]; rfl
  | h1 l d ih =>
    have hd : d < 10 := h d (by simp)
    have hl : D10 l := fun x hx => h x (by simp [hx])
    rw [dv_snoc]
    by_cases hn : l = []
    · subst hn
      have : d ≠ 0 := by simpa using h0
      rw [dv_nil, Nat.zero_mul, Nat.zero_add, ld_pos this, Nat.mod_eq_of_lt hd, Nat.div_eq_of_lt hd, ld_zero]
      rfl
    · have h1 : l.getD 0 1 ≠ 0 := by
        cases l with
        | nil => exact absurd rfl hn
        | cons x l => simpa using h0
      have e := ih hl h1
      have hnz : dv l ≠ 0 := by
        intro hz
        rw [hz, ld_zero] at e
        exact hn (List.reverse_eq_nil_iff.1 e.symm)
      rw [ld_pos (by omega), show (dv l * 10 + d) % 10 = d by omega, show (dv l * 10 + d) / 10 = dv l by omega, e]
      simp
theorem dec_dv {l : List Nat} (h : D10 l) (h0 : l = [0] ∨ (l ≠ [] ∧ l.getD 0 1 ≠ 0)) : dec (dv l) = l := by
  rcases h0 with rfl | ⟨hn, h0⟩
  · rfl
  · have e := ld_dv h h0
    unfold dec
    split
    · next hz =>
      rw [hz, ld_zero] at e
      exact absurd (List.reverse_eq_nil_iff.1 e.symm) hn
    · rw [e, List.reverse_reverse]
theorem dec_head (n : Nat) : dec n = [0] ∨ (dec n ≠ [] ∧ (dec n).getD 0 1 ≠ 0) := by
  by_cases h : n = 0
  · subst h; exact .inl rfl
  · right
    induction n using Nat.strongRecOn with
    | _ n ih =>
      have e : dec n = (ld n).reverse := by unfold dec; rw [if_neg h]
      rw [e, ld_pos h, List.reverse_cons]
      by_cases h1 : n / 10 = 0
      · rw [h1, ld_zero]
        simp
        omega
      · have := ih _ (Nat.div_lt_self (by omega) (by decide)) h1
        unfold dec at this
        rw [if_neg h1] at this
        refine ⟨by simp, ?_⟩
        cases hq : (ld (n / 10)).reverse with
        | nil => exact absurd hq this.1
        | cons x l => rw [hq] at this; simpa using this.2
/-- Zeros ahead are taken away. -/
theorem dec_trim {l : List Nat} (h : D10 l) : dec (dv l) = if l.dropWhile (· == 0) = [] then [0] else l.dropWhile (· == 0) := by
  induction l with
  | nil => rfl
  | cons d l ih =>
    by_cases hd : d = 0
    · subst hd
      rw [dv_cons, Nat.zero_mul, Nat.zero_add, ih h.tail]
      rfl
    · have e : (d :: l).dropWhile (· == 0) = d :: l := by
        rw [List.dropWhile_cons]
        simp [hd]
      rw [e, if_neg (by simp)]
      exact dec_dv h (.inr ⟨by simp, by simpa using hd⟩)
theorem dec_len {n k : Nat} (hk : 0 < k) : n < 10 ^ k ↔ (dec n).length ≤ k := by
  constructor
  · intro h
    apply Classical.byContradiction
    intro hn
    rcases dec_head n with e | ⟨h1, h2⟩
    · rw [e] at hn; simp at hn; omega
    · cases hq : dec n with
      | nil => exact h1 hq
      | cons d l =>
        have e := dv_dec n
        rw [hq, dv_cons] at e
        rw [hq] at h2 hn
        have hd : d ≠ 0 := by simpa using h2
        simp only [List.length_cons] at hn
        have h3 : 10 ^ k ≤ 10 ^ l.length := Nat.pow_le_pow_right (by decide) (by omega)
        have h4 := Nat.mul_le_mul_right (10 ^ l.length) (show 1 ≤ d by omega)
        omega
  · intro h
    have h1 := dv_lt (dec_D10 n)
    rw [dv_dec] at h1
    exact Nat.lt_of_lt_of_le h1 (Nat.pow_le_pow_right (by decide) h)
theorem dec_inj {m n : Nat} (h : dec m = dec n) : m = n := by rw [← dv_dec m, h, dv_dec]
theorem lt_of_decLen {m n : Nat} (h : (dec m).length < (dec n).length) : m < n := by
  have h1 := (dec_len (n := m) (dec_pos m)).2 (Nat.le_refl _)
  have h2 : ¬ n < 10 ^ (dec m).length := fun h2 => by have := (dec_len (dec_pos m)).1 h2; omega
  omega
/-- Digits that agree ahead of one. -/
theorem dv_lt_of {l m : List Nat} {k : Nat} (hl : D10 l) (hlen : l.length = m.length) (hk : k < l.length) (he : l.take k = m.take k) (hd : l.getD k 0 < m.getD k 0) : dv l < dv m := by
  rw [dv_split l k, dv_split m k, dv_drop_cons hk, dv_drop_cons (show k < m.length by omega), he, hlen]
  have h1 := dv_lt (hl.drop (k + 1))
  rw [List.length_drop, hlen] at h1
  have h2 := Nat.mul_le_mul_right (10 ^ (m.length - (k + 1))) hd
  rw [Nat.succ_mul] at h2
  omega
/-- One more digit, from the least. -/
theorem ld_step {q d i : Nat} (h : q * 10 ^ (i + 1) + d ≠ 0) : ld (q * 10 ^ (i + 1) + d) = d % 10 :: ld (q * 10 ^ i + d / 10) := by
  rw [ld_pos h, Nat.pow_succ, ← Nat.mul_assoc]
  congr 1
  · omega
  · congr 1; omega
theorem digs_keep {l : List Nat} (h : Sm l) (h1 : l = [] ∨ B ^ (l.length - 1) ≤ val l) : digs (val l) = l := by
  obtain ⟨h2, h3, _⟩ := digs_take h
  have : (digs (val l)).length = l.length := by
    rcases h1 with rfl | h1
    · simp at h2; simp [h2]
    · apply Classical.byContradiction
      intro hn
      have := (digs_lt_pow (n := val l) (k := l.length - 1)).2 (by omega)
      omega
  rw [this, List.take_length] at h3
  exact h3.symm
theorem digs_ge {n : Nat} (h : n ≠ 0) : B ^ ((digs n).length - 1) ≤ n := by
  apply Classical.byContradiction
  intro hn
  have h1 := (digs_lt_pow (n := n) (k := (digs n).length - 1)).1 (by omega)
  have := (digs_last h).1
  omega
theorem lt10_digs {n k m : Nat} (h : n < 10 ^ k) (hk : k ≤ m) : (digs n).length ≤ m :=
  digs_lt_pow.1 (Nat.lt_of_lt_of_le h (Nat.le_trans (Nat.pow_le_pow_right (by decide) hk) (Nat.pow_le_pow_left (by decide) _)))
end Go.Nt
