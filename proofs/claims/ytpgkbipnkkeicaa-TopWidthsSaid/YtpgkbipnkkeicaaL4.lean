import Derived.Test.YtpgkbipnkkeicaaL3
set_option linter.unusedSimpArgs false
set_option linter.unusedVariables false
/-! Best: the table of what is left, by what is out. -/
namespace Go.Gr
open Go Go.Sx Go.Proofs.Ytpgkbipnkkeicaa
attribute [local irreducible] popN

/-- What one variable more costs. -/
def nCost (c : Nat → Nat → Nat) (W : List Nat) (out v : Nat) : Nat := max (c v out) (W.getD (out ||| 2 ^ v) 0)
def nRow (c : Nat → Nat → Nat) (n : Nat) (W : List Nat) (out : Nat) : Nat → Nat
  | 0 => n
  | k + 1 => if out.testBit k = true then nRow c n W out k else min (nRow c n W out k) (nCost c W out k)
def nAt (n j : Nat) : Nat := 2 ^ n - 2 - j
def nTab (c : Nat → Nat → Nat) (n : Nat) : Nat → List Nat
  | 0 => List.replicate (2 ^ n) 0
  | j + 1 => (nTab c n j).set (nAt n j) (nRow c n (nTab c n j) (nAt n j) n)
theorem nTab_len (c : Nat → Nat → Nat) (n j : Nat) : (nTab c n j).length = 2 ^ n := by
  induction j with
  | zero => simp [nTab]
  | succ j ih => simp only [nTab, List.length_set, ih]
theorem or_gt {out v : Nat} (h : out.testBit v = false) : out < out ||| 2 ^ v := by
  have h1 : out ≤ out ||| 2 ^ v := Nat.left_le_or
  rcases Nat.lt_or_ge out (out ||| 2 ^ v) with h2 | h2
  · exact h2
  · have : out ||| 2 ^ v = out := by omega
    have h3 : (out ||| 2 ^ v).testBit v = true := (or_bit ..).2 (.inr rfl)
    rw [this, h] at h3; cases h3
theorem or_lt {n out v : Nat} (ho : out < 2 ^ n) (hv : v < n) : out ||| 2 ^ v < 2 ^ n := Nat.or_lt_two_pow ho (Nat.pow_lt_pow_right (by omega) hv)
theorem nRow_le (c : Nat → Nat → Nat) (n : Nat) (W : List Nat) (out k : Nat) : nRow c n W out k ≤ n := by
  induction k with
  | zero => exact Nat.le_refl _
  | succ k ih =>
    unfold nRow
    split
    · exact ih
    · omega
theorem getD_set_ne (W : List Nat) {i j : Nat} (x : Nat) (h : i ≠ j) : (W.set i x).getD j 0 = W.getD j 0 := by
  rw [List.getD_eq_getElem?_getD, List.getD_eq_getElem?_getD, List.getElem?_set_ne h]
theorem nTab_le (c : Nat → Nat → Nat) (n j i : Nat) : (nTab c n j).getD i 0 ≤ n := by
  induction j with
  | zero =>
    simp only [nTab, List.getD_eq_getElem?_getD, List.getElem?_replicate]
    split <;> simp
  | succ j ih =>
    simp only [nTab]
    by_cases h : nAt n j = i
    · subst h
      rw [List.getD_eq_getElem?_getD, List.getElem?_set]
      simp only [if_true]
      split
      · exact nRow_le ..
      · simp
    · rw [getD_set_ne _ _ h]; exact ih
theorem nRow_congr {c : Nat → Nat → Nat} {n : Nat} {W W' : List Nat} {out k : Nat} (h : ∀ v, v < k → out.testBit v = false → W.getD (out ||| 2 ^ v) 0 = W'.getD (out ||| 2 ^ v) 0) : nRow c n W out k = nRow c n W' out k := by
  induction k with
  | zero => rfl
  | succ k ih =>
    unfold nRow
    rw [ih fun v hv => h v (by omega)]
    split
    · rfl
    · rename_i hc
      unfold nCost
      rw [h k (by omega) (by simpa using hc)]
/-- What was set stays. -/
theorem nTab_keep (c : Nat → Nat → Nat) (n i j x : Nat) (hx : nAt n i < x) : (nTab c n (i + j)).getD x 0 = (nTab c n i).getD x 0 := by
  induction j with
  | zero => rfl
  | succ j ih =>
    rw [← Nat.add_assoc]
    simp only [nTab]
    rw [getD_set_ne _ _ (by unfold nAt at *; omega), ih]
/-- The table is what it says. -/
theorem nTab_eq (c : Nat → Nat → Nat) (n : Nat) (hn : 0 < n) (out : Nat) (ho : out < 2 ^ n - 1) : (nTab c n (2 ^ n - 1)).getD out 0 = nRow c n (nTab c n (2 ^ n - 1)) out n := by
  have h1 : nAt n (2 ^ n - 2 - out) = out := by unfold nAt; omega
  have h2 : 2 ^ n - 1 = (2 ^ n - 2 - out) + 1 + out := by omega
  generalize hj : 2 ^ n - 2 - out = j at h1 h2
  have h3 : (nTab c n (2 ^ n - 1)).getD out 0 = (nTab c n (j + 1)).getD out 0 := by
    rw [h2]
    rcases Nat.eq_zero_or_pos out with h | h
    · subst h; rfl
    · exact nTab_keep _ _ _ _ _ (by unfold nAt at *; omega)
  rw [h3]
  simp only [nTab]
  rw [h1, List.getD_eq_getElem?_getD, List.getElem?_set]
  simp only [if_true, nTab_len]
  rw [if_pos (by omega)]
  simp only [Option.getD_some]
  refine nRow_congr fun v hv hb => ?_
  have := or_gt hb
  rw [h2, Nat.add_assoc]
  exact (nTab_keep _ _ _ _ _ (by rw [h1]; exact this)).symm
theorem nRow_attains {c : Nat → Nat → Nat} {n : Nat} {W : List Nat} {out : Nat} (k : Nat) : nRow c n W out k = n ∨ ∃ v, v < k ∧ out.testBit v = false ∧ nRow c n W out k = nCost c W out v := by
  induction k with
  | zero => exact .inl rfl
  | succ k ih =>
    unfold nRow
    split
    · rcases ih with h | ⟨v, h1, h2, h3⟩
      · exact .inl h
      · exact .inr ⟨v, by omega, h2, h3⟩
    · rename_i hc
      rcases Nat.le_total (nRow c n W out k) (nCost c W out k) with h | h
      · rw [Nat.min_eq_left h]
        rcases ih with h | ⟨v, h1, h2, h3⟩
        · exact .inl h
        · exact .inr ⟨v, by omega, h2, h3⟩
      · rw [Nat.min_eq_right h]
        exact .inr ⟨k, by omega, by simpa using hc, rfl⟩
/-- The next one. -/
def bOK (c : Nat → Nat → Nat) (W : List Nat) (out v : Nat) : Bool := !out.testBit v && decide (nCost c W out v ≤ W.getD 0 0)
def bPick (c : Nat → Nat → Nat) (n : Nat) (W : List Nat) (out : Nat) : Option Nat := (List.range n).find? (bOK c W out)
structure BSt where
  ord : List Nat
  out : Nat
def bRun (c : Nat → Nat → Nat) (n : Nat) (W : List Nat) : Nat → BSt
  | 0 => ⟨[], 0⟩
  | i + 1 => ⟨(bRun c n W i).ord ++ [(bPick c n W (bRun c n W i).out).getD 0], (bRun c n W i).out ||| 2 ^ (bPick c n W (bRun c n W i).out).getD 0⟩
theorem bRun_len (c : Nat → Nat → Nat) (n : Nat) (W : List Nat) (i : Nat) : (bRun c n W i).ord.length = i := by
  induction i with
  | zero => rfl
  | succ i ih => simp only [bRun, List.length_append, List.length_singleton, ih]
theorem bPick_spec {c : Nat → Nat → Nat} {n : Nat} {W : List Nat} {out v : Nat} (h : bPick c n W out = some v) : v < n ∧ out.testBit v = false ∧ nCost c W out v ≤ W.getD 0 0 := by
  unfold bPick at h
  have h1 := List.mem_of_find?_eq_some h
  have h2 := List.find?_some h
  simp only [bOK, Bool.and_eq_true, Bool.not_eq_true', decide_eq_true_eq] at h2
  exact ⟨List.mem_range.1 h1, h2⟩
theorem best_law {c : Nat → Nat → Nat} {n : Nat} (hn : 0 < n) (hc : ∀ v out, v < n → out < 2 ^ n → out.testBit v = false → c v out ≤ n) (i : Nat) (hi : i < n) :
    ∃ v, bPick c n (nTab c n (2 ^ n - 1)) (bRun c n (nTab c n (2 ^ n - 1)) i).out = some v ∧ v < n ∧ (bRun c n (nTab c n (2 ^ n - 1)) i).out.testBit v = false ∧ (bRun c n (nTab c n (2 ^ n - 1)) i).out < 2 ^ n := by
  have hW := nTab_eq c n hn
  have hWn := nTab_le c n (2 ^ n - 1)
  generalize nTab c n (2 ^ n - 1) = W at hW hWn
  have hpos := Nat.pow_pos (a := 2) (n := n) (by omega)
  have key : ∀ i, i ≤ n → (bRun c n W i).out < 2 ^ n ∧ (bRun c n W i).ord.Nodup ∧ (∀ x, (bRun c n W i).out.testBit x = true ↔ x ∈ (bRun c n W i).ord) ∧ W.getD (bRun c n W i).out 0 ≤ W.getD 0 0 ∧
      (i < n → ∃ v, bPick c n W (bRun c n W i).out = some v ∧ v < n ∧ (bRun c n W i).out.testBit v = false) := by
    intro i
    induction i with
    | zero =>
      intro _
      refine ⟨by simpa [bRun] using hpos, by simp [bRun], fun x => by simp [bRun], Nat.le_refl _, fun h0 => ?_⟩
      exact pick hn hc hW hWn (S := bRun c n W 0) (by simpa [bRun] using hpos) (by simp [bRun]) (fun x => by simp [bRun]) (Nat.le_refl _) (by simpa [bRun] using h0)
    | succ i ih =>
      intro hi
      obtain ⟨h1, h2, h3, h4, h5⟩ := ih (by omega)
      obtain ⟨v, hv, hvn, hvb⟩ := h5 (by omega)
      have hsp := bPick_spec hv
      have e : bRun c n W (i + 1) = ⟨(bRun c n W i).ord ++ [v], (bRun c n W i).out ||| 2 ^ v⟩ := by simp only [bRun, hv, Option.getD_some]
      rw [e]
      have h1' : (bRun c n W i).out ||| 2 ^ v < 2 ^ n := or_lt h1 hvn
      have h2' : ((bRun c n W i).ord ++ [v]).Nodup := by
        rw [List.nodup_append]
        refine ⟨h2, by simp, fun a ha b hb e1 => ?_⟩
        simp at hb
        rw [e1, hb] at ha
        rw [(h3 v).2 ha] at hvb; cases hvb
      have h3' : ∀ x, ((bRun c n W i).out ||| 2 ^ v).testBit x = true ↔ x ∈ (bRun c n W i).ord ++ [v] := fun x => by
        rw [or_bit, h3, List.mem_append, List.mem_singleton]
      have h4' : W.getD ((bRun c n W i).out ||| 2 ^ v) 0 ≤ W.getD 0 0 := by
        have := hsp.2.2
        unfold nCost at this
        omega
      refine ⟨h1', h2', h3', h4', fun h0 => ?_⟩
      exact pick hn hc hW hWn (S := ⟨(bRun c n W i).ord ++ [v], (bRun c n W i).out ||| 2 ^ v⟩) h1' h2' h3' h4' (by simp only [List.length_append, List.length_singleton, bRun_len]; exact h0)
  obtain ⟨h1, h2, h3, h4, h5⟩ := key i (by omega)
  obtain ⟨v, h6, h7, h8⟩ := h5 hi
  exact ⟨v, h6, h7, h8, h1⟩
where
  pick {c : Nat → Nat → Nat} {n : Nat} {W : List Nat} (hn : 0 < n) (hc : ∀ v out, v < n → out < 2 ^ n → out.testBit v = false → c v out ≤ n) (hW : ∀ out, out < 2 ^ n - 1 → W.getD out 0 = nRow c n W out n) (hWn : ∀ i, W.getD i 0 ≤ n) {S : BSt}
      (h1 : S.out < 2 ^ n) (h2 : S.ord.Nodup) (h3 : ∀ x, S.out.testBit x = true ↔ x ∈ S.ord) (h4 : W.getD S.out 0 ≤ W.getD 0 0) (h5 : S.ord.length < n) :
      ∃ v, bPick c n W S.out = some v ∧ v < n ∧ S.out.testBit v = false := by
    obtain ⟨u, hu, hum⟩ := some_left h2 h5
    have hub : S.out.testBit u = false := by
      cases hx : S.out.testBit u
      · rfl
      · exact absurd ((h3 u).1 hx) hum
    have hlt : S.out < 2 ^ n - 1 := by
      have h6 : S.out ≠ 2 ^ n - 1 := fun e => by
        rw [e] at hub
        rw [(full_bit n u).2 hu] at hub; cases hub
      omega
    have hex : ∃ v, v < n ∧ S.out.testBit v = false ∧ nCost c W S.out v ≤ W.getD S.out 0 := by
      rw [hW _ hlt]
      rcases nRow_attains (c := c) (n := n) (W := W) (out := S.out) n with h | ⟨v, h6, h7, h8⟩
      · refine ⟨u, hu, hub, ?_⟩
        rw [h]
        unfold nCost
        have := hc u S.out hu h1 hub
        have := hWn (S.out ||| 2 ^ u)
        omega
      · exact ⟨v, h6, h7, by omega⟩
    obtain ⟨v, hv, hvb, hvc⟩ := hex
    have hf : (bPick c n W S.out).isSome = true := by
      unfold bPick
      rw [List.find?_isSome]
      exact ⟨v, List.mem_range.2 hv, by simp only [bOK, hvb, Bool.not_false, Bool.true_and, decide_eq_true_eq]; omega⟩
    obtain ⟨x, hx⟩ := Option.isSome_iff_exists.1 hf
    have := bPick_spec hx
    exact ⟨x, hx, this.1, this.2.1⟩
/-! ### Equal costs give equal orders -/
theorem nRow_cong2 {c c' : Nat → Nat → Nat} {n : Nat} {W : List Nat} {out : Nat} (h : ∀ v, v < n → out.testBit v = false → c v out = c' v out) (k : Nat) (hk : k ≤ n) : nRow c n W out k = nRow c' n W out k := by
  induction k with
  | zero => rfl
  | succ k ih =>
    unfold nRow
    rw [ih (by omega)]
    split
    · rfl
    · rename_i hc
      unfold nCost
      rw [h k (by omega) (by simpa using hc)]
theorem nTab_cong {c c' : Nat → Nat → Nat} {n : Nat} (h : ∀ v out, v < n → out < 2 ^ n → out.testBit v = false → c v out = c' v out) (j : Nat) : nTab c n j = nTab c' n j := by
  have hpos := Nat.pow_pos (a := 2) (n := n) (by omega)
  induction j with
  | zero => rfl
  | succ j ih =>
    simp only [nTab]
    rw [ih, nRow_cong2 (fun v hv hb => h v (nAt n j) hv (by unfold nAt; omega) hb) n (Nat.le_refl _)]
theorem find_congr {p q : Nat → Bool} {l : List Nat} (h : ∀ x ∈ l, p x = q x) : l.find? p = l.find? q := by
  induction l with
  | nil => rfl
  | cons x l ih =>
    rw [List.find?_cons, List.find?_cons, h x (.head _), ih fun y hy => h y (.tail _ hy)]
theorem bRun_cong {c c' : Nat → Nat → Nat} {n : Nat} {W : List Nat} (h : ∀ v out, v < n → out < 2 ^ n → out.testBit v = false → c v out = c' v out) (hb : ∀ i, i < n → (bRun c n W i).out < 2 ^ n) (i : Nat) (hi : i ≤ n) : bRun c n W i = bRun c' n W i := by
  induction i with
  | zero => rfl
  | succ i ih =>
    have ih := ih (by omega)
    have hlt := hb i (by omega)
    have e : bPick c n W (bRun c n W i).out = bPick c' n W (bRun c n W i).out := by
      unfold bPick
      refine find_congr fun v hv => ?_
      rw [List.mem_range] at hv
      unfold bOK
      cases hbit : (bRun c n W i).out.testBit v
      · unfold nCost
        rw [h v _ hv hlt hbit]
      · rfl
    simp only [bRun]
    rw [e, ih]
end Go.Gr
