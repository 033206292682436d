import Derived.Test.YtpgkbipnkkeicaaW11
set_option linter.unusedSimpArgs false
set_option linter.unusedVariables false
/-! Order's graph and the answer's graph: bit by bit. -/
namespace Go.Gr
open Go Go.Sx Go.Proofs.Ytpgkbipnkkeicaa
attribute [local irreducible] popN

def bt (G : List Nat) (a b : Nat) : Bool := (G.getD a 0).testBit b
theorem getD_set (G : List Nat) (a c x : Nat) (ha : a < G.length) : (G.set a x).getD c 0 = if c = a then x else G.getD c 0 := by
  simp only [List.getD_eq_getElem?_getD, List.getElem?_set]
  by_cases h : a = c
  · subst h; simp [ha]
  · simp [h, Ne.symm h]
theorem bt_set (G : List Nat) (a c x d : Nat) (ha : a < G.length) : bt (G.set a x) c d = if c = a then x.testBit d else bt G c d := by
  unfold bt
  rw [getD_set _ _ _ _ ha]
  split <;> rfl
theorem bt_lt {G : List Nat} {a b : Nat} (h : bt G a b = true) : a < G.length := by
  unfold bt at h
  rw [List.getD_eq_getElem?_getD] at h
  cases hg : G[a]? with
  | none => rw [hg] at h; simp at h
  | some x => exact (List.getElem?_eq_some_iff.1 hg).1
theorem bt_or (G : List Nat) (a b c d : Nat) (ha : a < G.length) : bt (G.set a (G.getD a 0 ||| 2 ^ b)) c d = true ↔ bt G c d = true ∨ (c = a ∧ d = b) := by
  rw [bt_set _ _ _ _ _ ha]
  by_cases h : c = a
  · subst h
    rw [if_pos rfl, Nat.testBit_or, Nat.testBit_two_pow]
    simp only [Bool.or_eq_true, decide_eq_true_eq, true_and]
    unfold bt
    constructor
    · rintro (h | h)
      · exact .inl h
      · exact .inr h.symm
    · rintro (h | h)
      · exact .inl h
      · exact .inr h.symm
  · rw [if_neg h]
    simp [h]
theorem addE_bit (G : List Nat) (a b c d : Nat) (ha : a < G.length) : bt (addE G a b) c d = true ↔ bt G c d = true ∨ (c = a ∧ d = b ∧ d ≠ c) := by
  unfold addE
  split
  · rename_i h
    subst h
    constructor
    · exact .inl
    · rintro (h | ⟨h1, h2, h3⟩)
      · exact h
      · omega
  · rename_i h
    rw [bt_or _ _ _ _ _ ha]
    constructor
    · rintro (h1 | ⟨h1, h2⟩)
      · exact .inl h1
      · exact .inr ⟨h1, h2, by omega⟩
    · rintro (h1 | ⟨h1, h2, h3⟩)
      · exact .inl h1
      · exact .inr ⟨h1, h2⟩
theorem addB_bit (a : Nat) (l : List Nat) : ∀ (G : List Nat) (c d : Nat), a < G.length → (bt (addB a G l) c d = true ↔ bt G c d = true ∨ (c = a ∧ d ∈ l ∧ d ≠ c)) := by
  unfold addB
  induction l with
  | nil => intro G c d _; simp
  | cons b l ih =>
    intro G c d ha
    rw [List.foldl_cons, ih _ c d (by rw [addE_len]; exact ha), addE_bit _ _ _ _ _ ha]
    simp only [List.mem_cons]
    constructor
    · rintro ((h | ⟨h1, h2, h3⟩) | ⟨h1, h2, h3⟩)
      · exact .inl h
      · exact .inr ⟨h1, .inl h2, h3⟩
      · exact .inr ⟨h1, .inr h2, h3⟩
    · rintro (h | ⟨h1, h2 | h2, h3⟩)
      · exact .inl (.inl h)
      · exact .inl (.inr ⟨h1, h2, h3⟩)
      · exact .inr ⟨h1, h2, h3⟩
theorem addA_bit (l l' : List Nat) : ∀ (G : List Nat) (c d : Nat), (∀ a ∈ l', a < G.length) → (bt (addA l G l') c d = true ↔ bt G c d = true ∨ (c ∈ l' ∧ d ∈ l ∧ d ≠ c)) := by
  unfold addA
  induction l' with
  | nil => intro G c d _; simp
  | cons a l' ih =>
    intro G c d ha
    rw [List.foldl_cons, ih _ c d (fun x hx => by rw [addB_len]; exact ha x (.tail _ hx)), addB_bit _ _ _ _ _ (ha a (.head _))]
    simp only [List.mem_cons]
    constructor
    · rintro ((h | ⟨h1, h2, h3⟩) | ⟨h1, h2, h3⟩)
      · exact .inl h
      · exact .inr ⟨.inl h1, h2, h3⟩
      · exact .inr ⟨.inr h1, h2, h3⟩
    · rintro (h | ⟨h1 | h1, h2, h3⟩)
      · exact .inl (.inl h)
      · exact .inl (.inr ⟨h1, h2, h3⟩)
      · exact .inr ⟨h1, h2, h3⟩
theorem addS_bit (ss : List (List Nat)) : ∀ (G : List Nat) (c d : Nat), (∀ l ∈ ss, ∀ a ∈ l, a < G.length) → (bt (addS G ss) c d = true ↔ bt G c d = true ∨ (∃ l ∈ ss, c ∈ l ∧ d ∈ l ∧ d ≠ c)) := by
  unfold addS
  induction ss with
  | nil => intro G c d _; simp
  | cons l ss ih =>
    intro G c d ha
    rw [List.foldl_cons, ih _ c d (fun x hx => by rw [addA_len]; exact ha x (.tail _ hx)), addA_bit _ _ _ _ _ (ha l (.head _))]
    constructor
    · rintro ((h | ⟨h1, h2, h3⟩) | ⟨x, hx, h1⟩)
      · exact .inl h
      · exact .inr ⟨l, .head _, h1, h2, h3⟩
      · exact .inr ⟨x, .tail _ hx, h1⟩
    · rintro (h | ⟨x, hx, h1⟩)
      · exact .inl (.inl h)
      · rcases List.mem_cons.1 hx with rfl | hx
        · exact .inl (.inr h1)
        · exact .inr ⟨x, hx, h1⟩
theorem bt_zeros (n a b : Nat) : bt (List.replicate n 0) a b = false := by
  unfold bt
  rw [List.getD_eq_getElem?_getD, List.getElem?_replicate]
  split <;> simp
theorem addPair_bit (G : List Nat) (p : Nat × Nat) (c d : Nat) (h1 : p.1 < G.length) (h2 : p.2 < G.length) : bt (addPair G p) c d = true ↔ bt G c d = true ∨ (c, d) = p ∨ (d, c) = p := by
  unfold addPair
  rw [bt_or _ _ _ _ _ (by simpa using h2), bt_or _ _ _ _ _ h1, or_assoc]
  obtain ⟨a, b⟩ := p
  simp only [Prod.mk.injEq]
  rw [and_comm (a := d = a)]
theorem addP_bit (l : List (Nat × Nat)) : ∀ (G : List Nat) (c d : Nat), (∀ p ∈ l, p.1 < G.length ∧ p.2 < G.length) → (bt (addP G l) c d = true ↔ bt G c d = true ∨ (c, d) ∈ l ∨ (d, c) ∈ l) := by
  unfold addP
  induction l with
  | nil => intro G c d _; simp
  | cons p l ih =>
    intro G c d hp
    rw [List.foldl_cons, ih _ c d (fun x hx => by rw [addPair_len]; exact hp x (.tail _ hx)), addPair_bit _ _ _ _ (hp p (.head _)).1 (hp p (.head _)).2]
    simp only [List.mem_cons]
    constructor
    · rintro ((h | h | h) | h | h)
      · exact .inl h
      · exact .inr (.inl (.inl h))
      · exact .inr (.inr (.inl h))
      · exact .inr (.inl (.inr h))
      · exact .inr (.inr (.inr h))
    · rintro (h | (h | h) | (h | h))
      · exact .inl (.inl h)
      · exact .inl (.inr (.inl h))
      · exact .inr (.inl h)
      · exact .inl (.inr (.inr h))
      · exact .inr (.inr h)
theorem clr_bit {x v : Nat} (hx : x < 4294967296) (hv : v < 32) (b : Nat) : (clr x v).testBit b = (x.testBit b && !decide (b = v)) := by
  unfold clr
  have h2 : 2 ^ v < 2 ^ 32 := Nat.pow_lt_pow_right (by omega) hv
  rw [Nat.testBit_and, show 4294967295 - 2 ^ v = 2 ^ 32 - (2 ^ v + 1) from by omega, Nat.testBit_two_pow_sub_succ h2, Nat.testBit_two_pow]
  by_cases hb : b < 32
  · by_cases h : b = v
    · subst h; simp
    · simp [hb, h, Ne.symm h]
  · have : x.testBit b = false := Nat.testBit_lt_two_pow (Nat.lt_of_lt_of_le hx (Nat.pow_le_pow_right (n := 2) (by omega) (by omega : 32 ≤ b)))
    simp [this]
theorem cutK_bit {G : List Nat} (hG : G.length = 16) (hs : Small G) {v : Nat} (hv : v < 16) (k : Nat) (hk : k ≤ 16) (c d : Nat) : bt (cutK G v k) c d = true ↔ bt G c d = true ∧ (c < k → d ≠ v) := by
  induction k with
  | zero => simp [cutK]
  | succ k ih =>
    rw [cutK_step, bt_set _ _ _ _ _ (by rw [cutK_len]; omega)]
    by_cases h : c = k
    · subst h
      rw [if_pos rfl, clr_bit (Nat.lt_of_lt_of_le ((hs.cutK v c).getD c) (by omega)) (by omega)]
      simp only [Bool.and_eq_true, Bool.not_eq_true', decide_eq_false_iff_not]
      have := ih (by omega)
      unfold bt at this ⊢
      rw [this]
      constructor
      · rintro ⟨⟨h1, _⟩, h2⟩; exact ⟨h1, fun _ => h2⟩
      · rintro ⟨h1, h2⟩; exact ⟨⟨h1, fun h => by omega⟩, h2 (by omega)⟩
    · rw [if_neg h, ih (by omega)]
      constructor
      · rintro ⟨h1, h2⟩; exact ⟨h1, fun h3 => h2 (by omega)⟩
      · rintro ⟨h1, h2⟩; exact ⟨h1, fun h3 => h2 (by omega)⟩
theorem cut_bit {G : List Nat} (hG : G.length = 16) (hs : Small G) {v : Nat} (hv : v < 16) (c d : Nat) : bt (cut G v) c d = true ↔ bt G c d = true ∧ c ≠ v ∧ d ≠ v := by
  unfold cut
  rw [bt_set _ _ _ _ _ (by rw [cutK_len]; omega)]
  by_cases h : c = v
  · rw [if_pos h]; simp [h]
  · rw [if_neg h, cutK_bit hG hs hv 16 (by omega)]
    constructor
    · rintro ⟨h1, h2⟩
      have := bt_lt h1
      exact ⟨h1, h, h2 (by omega)⟩
    · rintro ⟨h1, _, h2⟩; exact ⟨h1, fun _ => h2⟩

/-! ### The two graphs side by side -/
structure Rel (n : Nat) (Go Gs : List Nat) (left : Nat) : Prop where
  lo : Go.length = 16
  so : Small Go
  ls : Gs.length = n
  ss : Small Gs
  le : n ≤ 16
  self : ∀ a, bt Gs a a = false
  lt : left < 2 ^ n
  sm : ∀ a b, bt Gs a b = true → b < n
  eq : ∀ a b, bt Go a b = true ↔ bt Gs a b = true ∧ left.testBit a = true ∧ left.testBit b = true
theorem pow16 {n : Nat} (h : n ≤ 16) : 2 ^ n ≤ 65536 := Nat.pow_le_pow_right (n := 2) (by omega) h
theorem Rel.small {n : Nat} {Go Gs : List Nat} {left : Nat} (h : Rel n Go Gs left) : left < 65536 := Nat.lt_of_lt_of_le h.lt (pow16 h.le)
theorem Rel.bit {n : Nat} {Go Gs : List Nat} {left : Nat} (h : Rel n Go Gs left) {b : Nat} (hb : left.testBit b = true) : b < n := by
  apply Classical.byContradiction
  intro hn
  have := Nat.testBit_lt_two_pow (Nat.lt_of_lt_of_le h.lt (Nat.pow_le_pow_right (n := 2) (by omega) (by omega : n ≤ b)))
  rw [hb] at this
  cases this
theorem rowP_shrink {p : Nat → Nat → Bool} {n m a : Nat} (hnm : n ≤ m) (h : ∀ b, p a b = true → b < n) : rowP p a m = rowP p a n := by
  induction m with
  | zero => obtain rfl : n = 0 := by omega
            rfl
  | succ m ih =>
    rcases Nat.lt_or_ge m n with h1 | h1
    · obtain rfl : n = m + 1 := by omega
      rfl
    · rcases Nat.lt_or_ge m (a + 1) with h2 | h2
      · rw [rowP_le p (by omega), rowP_le p (by omega)]
      · rw [rowP_step p h2, ih h1]
        cases hp : p a m
        · simp
        · have := h m hp; omega
theorem pairsP_shrink {p : Nat → Nat → Bool} {n m : Nat} (hnm : n ≤ m) (h : ∀ a b, p a b = true → b < n) : pairsP p m m = pairsP p n n := by
  have h1 : ∀ k, pairsP p m k = pairsP p n k := by
    intro k
    induction k with
    | zero => rfl
    | succ k ih => rw [pairsP_step, pairsP_step, ih, rowP_shrink hnm (h k)]
  rw [h1]
  have h2 : ∀ k, pairsP p n (n + k) = pairsP p n n := by
    intro k
    induction k with
    | zero => rfl
    | succ k ih => rw [← Nat.add_assoc, pairsP_step, ih, rowP_le p (by omega), List.append_nil]
  have := h2 (m - n)
  rwa [show n + (m - n) = m from by omega] at this

theorem mask_two (x a b : Nat) : (x &&& (2 ^ a ||| 2 ^ b) = 2 ^ a ||| 2 ^ b) ↔ x.testBit a = true ∧ x.testBit b = true := by
  constructor
  · intro h
    have h1 : ∀ c, (2 ^ a ||| 2 ^ b).testBit c = true → x.testBit c = true := fun c hc => by
      rw [← h, Nat.testBit_and] at hc
      simp only [Bool.and_eq_true] at hc
      exact hc.1
    exact ⟨h1 a (by simp [Nat.testBit_or]), h1 b (by simp [Nat.testBit_or])⟩
  · rintro ⟨h1, h2⟩
    apply Nat.eq_of_testBit_eq
    intro c
    rw [Nat.testBit_and, Nat.testBit_or, Nat.testBit_two_pow, Nat.testBit_two_pow]
    by_cases ha : a = c
    · subst ha; simp [h1]
    · by_cases hb : b = c
      · subst hb; simp [h2]
      · simp [ha, hb]
theorem prP_bit (G : List Nat) (v left a b : Nat) : prP G v left a b = true ↔ (bt G v a = true ∧ left.testBit a = true ∧ bt G v b = true ∧ left.testBit b = true) ∧ bt G a b = false := by
  unfold prP
  simp only [Bool.and_eq_true, decide_eq_true_eq, Bool.not_eq_true']
  rw [mask_two, Nat.testBit_and, Nat.testBit_and]
  simp only [Bool.and_eq_true]
  unfold bt
  constructor
  · rintro ⟨⟨⟨h1, h2⟩, h3, h4⟩, h5⟩; exact ⟨⟨h1, h2, h3, h4⟩, h5⟩
  · rintro ⟨⟨h1, h2, h3, h4⟩, h5⟩; exact ⟨⟨⟨h1, h2⟩, h3, h4⟩, h5⟩
theorem missP_bit (G : List Nat) (v a b : Nat) : missP G v a b = true ↔ (bt G v a = true ∧ bt G v b = true) ∧ bt G a b = false := by
  unfold missP
  simp only [Bool.and_eq_true, Bool.not_eq_true']
  unfold bt
  rfl
theorem bool_eq {a b : Bool} (h : a = true ↔ b = true) : a = b := by cases a <;> cases b <;> simp_all
theorem Rel.prP {n : Nat} {Go Gs : List Nat} {left l' v : Nat} (h : Rel n Go Gs left) (hv : left.testBit v = true) (hl : ∀ b, l'.testBit b = true ↔ left.testBit b = true ∧ (b = v → l'.testBit v = true)) (a b : Nat) :
    missP Go v a b = _root_.Go.Proofs.Ytpgkbipnkkeicaa.prP Gs v l' a b := by
  apply bool_eq
  rw [missP_bit, prP_bit, h.eq, h.eq]
  have hs := h.self v
  have hbt : ∀ c, bt Gs v c = true → (left.testBit c = true ↔ l'.testBit c = true) := fun c hc => by
    rw [hl c]
    constructor
    · intro h1; exact ⟨h1, fun e => by subst e; rw [hs] at hc; cases hc⟩
    · exact fun h => h.1
  constructor
  · rintro ⟨⟨⟨h1, _, h2⟩, h3, _, h4⟩, h5⟩
    refine ⟨⟨h1, (hbt a h1).1 h2, h3, (hbt b h3).1 h4⟩, ?_⟩
    cases hx : bt Gs a b
    · rfl
    · rw [(h.eq a b).2 ⟨hx, h2, h4⟩] at h5; cases h5
  · rintro ⟨⟨h1, h2, h3, h4⟩, h5⟩
    refine ⟨⟨⟨h1, hv, (hbt a h1).2 h2⟩, h3, hv, (hbt b h3).2 h4⟩, ?_⟩
    cases hx : bt Go a b
    · rfl
    · rw [((h.eq a b).1 hx).1] at h5; cases h5
theorem Rel.pairs {n : Nat} {Go Gs : List Nat} {left l' v : Nat} (h : Rel n Go Gs left) (hv : left.testBit v = true) (hl : ∀ b, l'.testBit b = true ↔ left.testBit b = true ∧ (b = v → l'.testBit v = true)) :
    missing Go v = _root_.Go.Proofs.Ytpgkbipnkkeicaa.pairs Gs v l' := by
  unfold missing _root_.Go.Proofs.Ytpgkbipnkkeicaa.pairs
  rw [pairsP_congr (q := _root_.Go.Proofs.Ytpgkbipnkkeicaa.prP Gs v l') (fun x y _ _ _ => h.prP hv hl x y), h.ls]
  exact pairsP_shrink h.le fun a b hp => h.sm v b ((prP_bit ..).1 hp).1.2.2.1
theorem clr_lt (x v : Nat) : clr x v ≤ x := Nat.and_le_left
theorem Rel.clr {n : Nat} {Go Gs : List Nat} {left v : Nat} (h : Rel n Go Gs left) (hv : v < 16) (b : Nat) : (clr left v).testBit b = true ↔ left.testBit b = true ∧ b ≠ v := by
  rw [clr_bit (Nat.lt_of_lt_of_le h.small (by omega)) (by omega)]
  simp
theorem Rel.missing {n : Nat} {Go Gs : List Nat} {left v : Nat} (h : Rel n Go Gs left) (hv : left.testBit v = true) : missing Go v = _root_.Go.Proofs.Ytpgkbipnkkeicaa.pairs Gs v (Gr.clr left v) := by
  have hvn := h.bit hv
  have hn := h.le
  refine h.pairs hv fun b => ?_
  rw [h.clr (by omega), h.clr (by omega)]
  constructor
  · rintro ⟨h1, h2⟩; exact ⟨h1, fun e => absurd e h2⟩
  · rintro ⟨h1, h2⟩; exact ⟨h1, fun e => (h2 e).2 rfl⟩
theorem Rel.missing0 {n : Nat} {Go Gs : List Nat} {left v : Nat} (h : Rel n Go Gs left) (hv : left.testBit v = true) : Proofs.Ytpgkbipnkkeicaa.missing Go v = _root_.Go.Proofs.Ytpgkbipnkkeicaa.pairs Gs v left :=
  h.pairs hv fun b => ⟨fun h => ⟨h, fun _ => hv⟩, fun h => h.1⟩
theorem Rel.row {n : Nat} {Go Gs : List Nat} {left v : Nat} (h : Rel n Go Gs left) (hv : left.testBit v = true) : Go.getD v 0 = Gs.getD v 0 &&& left := by
  apply Nat.eq_of_testBit_eq
  intro b
  apply bool_eq
  rw [Nat.testBit_and, Bool.and_eq_true]
  have := h.eq v b
  unfold bt at this
  rw [this]
  constructor
  · rintro ⟨h1, _, h2⟩; exact ⟨h1, h2⟩
  · rintro ⟨h1, h2⟩; exact ⟨h1, hv, h2⟩
theorem mem_pairs {G : List Nat} {v left : Nat} {p : Nat × Nat} (h : p ∈ _root_.Go.Proofs.Ytpgkbipnkkeicaa.pairs G v left) : p.1 < G.length ∧ p.2 < G.length ∧ p.1 ≠ p.2 ∧ left.testBit p.1 = true ∧ left.testBit p.2 = true := by
  have := mem_pairsP h
  have h2 := (prP_bit ..).1 this.2.2.2
  exact ⟨by omega, by omega, by omega, h2.1.2.1, h2.1.2.2.2⟩
theorem Rel.after {n : Nat} {Go Gs : List Nat} {left v : Nat} (h : Rel n Go Gs left) (hv : left.testBit v = true) : (addP Gs (_root_.Go.Proofs.Ytpgkbipnkkeicaa.pairs Gs v (Gr.clr left v))).getD v 0 &&& Gr.clr left v = Go.getD v 0 := by
  have hvn := h.bit hv
  have hn := h.le
  apply Nat.eq_of_testBit_eq
  intro b
  apply bool_eq
  rw [Nat.testBit_and, Bool.and_eq_true, h.clr (by omega)]
  have h1 := addP_bit (_root_.Go.Proofs.Ytpgkbipnkkeicaa.pairs Gs v (Gr.clr left v)) Gs v b fun p hp => ⟨(mem_pairs hp).1, (mem_pairs hp).2.1⟩
  have h2 := h.eq v b
  have h3 : (v, b) ∉ _root_.Go.Proofs.Ytpgkbipnkkeicaa.pairs Gs v (Gr.clr left v) := fun hm => ((h.clr (by omega) _).1 (mem_pairs hm).2.2.2.1).2 rfl
  have h4 : (b, v) ∉ _root_.Go.Proofs.Ytpgkbipnkkeicaa.pairs Gs v (Gr.clr left v) := fun hm => ((h.clr (by omega) _).1 (mem_pairs hm).2.2.2.2).2 rfl
  have h5 := h.self v
  unfold bt at h1 h2 h5
  rw [h1, h2]
  constructor
  · rintro ⟨h6 | h6 | h6, h7, h8⟩
    · exact ⟨h6, hv, h7⟩
    · exact absurd h6 h3
    · exact absurd h6 h4
  · rintro ⟨h6, _, h7⟩
    exact ⟨.inl h6, h7, fun e => by rw [e] at h6; rw [h5] at h6; cases h6⟩
theorem Rel.step {n : Nat} {Go Gs : List Nat} {left v : Nat} (h : Rel n Go Gs left) (hv : left.testBit v = true) : Rel n (elimO Go v) (addP Gs (_root_.Go.Proofs.Ytpgkbipnkkeicaa.pairs Gs v (Gr.clr left v))) (Gr.clr left v) := by
  have hvn := h.bit hv
  have hn := h.le
  have hm := h.missing hv
  have hp : ∀ p ∈ _root_.Go.Proofs.Ytpgkbipnkkeicaa.pairs Gs v (Gr.clr left v), p.1 < Gs.length ∧ p.2 < Gs.length := fun p hp => ⟨(mem_pairs hp).1, (mem_pairs hp).2.1⟩
  refine ⟨by rw [elimO_len]; exact h.lo, elimO_small h.so v, by rw [addP_len]; exact h.ls, h.ss.addP fun p hp' => by have := hp p hp'; rw [h.ls] at this; omega, h.le, fun a => ?_, Nat.lt_of_le_of_lt (clr_lt _ _) h.lt, fun a b hb => ?_, fun a b => ?_⟩
  · cases hx : bt (addP Gs (_root_.Go.Proofs.Ytpgkbipnkkeicaa.pairs Gs v (Gr.clr left v))) a a
    · rfl
    · rcases (addP_bit _ _ _ _ hp).1 hx with h1 | h1 | h1
      · rw [h.self] at h1; cases h1
      · exact absurd rfl (mem_pairs h1).2.2.1
      · exact absurd rfl (mem_pairs h1).2.2.1
  · rcases (addP_bit _ _ _ _ hp).1 hb with h1 | h1 | h1
    · exact h.sm a b h1
    · have := (mem_pairs h1).2.1; rw [h.ls] at this; exact this
    · have := (mem_pairs h1).1; rw [h.ls] at this; exact this
  · unfold elimO
    rw [cut_bit (by rw [addP_len]; exact h.lo) (h.so.addP fun p hp => missing_lt hp) (by omega), hm, addP_bit _ _ _ _ (fun p hp' => by have := hp p hp'; rw [h.ls] at this; rw [h.lo]; omega), addP_bit _ _ _ _ hp, h.eq, h.clr (by omega), h.clr (by omega)]
    constructor
    · rintro ⟨⟨h1, h2, h3⟩ | h1 | h1, h4, h5⟩
      · exact ⟨.inl h1, ⟨h2, h4⟩, h3, h5⟩
      · exact ⟨.inr (.inl h1), (h.clr (by omega) _).1 (mem_pairs h1).2.2.2.1, (h.clr (by omega) _).1 (mem_pairs h1).2.2.2.2⟩
      · exact ⟨.inr (.inr h1), (h.clr (by omega) _).1 (mem_pairs h1).2.2.2.2, (h.clr (by omega) _).1 (mem_pairs h1).2.2.2.1⟩
    · rintro ⟨h1 | h1 | h1, ⟨h2, h3⟩, h4, h5⟩
      · exact ⟨.inl ⟨h1, h2, h4⟩, h3, h5⟩
      · exact ⟨.inr (.inl h1), h3, h5⟩
      · exact ⟨.inr (.inr h1), h3, h5⟩
/-- The answer's graph. -/
def GS (n : Nat) (ss : List (List Nat)) : List Nat := addS (List.replicate n 0) ss
theorem full_bit (n b : Nat) : (2 ^ n - 1).testBit b = true ↔ b < n := by rw [Nat.testBit_two_pow_sub_one]; simp
theorem Rel.start {n : Nat} {ss : List (List Nat)} (hn : n ≤ 16) (hs : Scopes n ss) : Rel n (GO ss) (GS n ss) (2 ^ n - 1) := by
  have hb : ∀ l ∈ ss, ∀ a ∈ l, a < 16 := fun l hl a ha => Nat.lt_of_lt_of_le (hs.below l hl a ha) hn
  have e1 := fun a b => addS_bit ss (List.replicate n 0) a b fun l hl a ha => by rw [List.length_replicate]; exact hs.below l hl a ha
  have e2 := fun a b => addS_bit ss (List.replicate 16 0) a b fun l hl a ha => by rw [List.length_replicate]; exact hb l hl a ha
  simp only [bt_zeros, Bool.false_eq_true, false_or] at e1 e2
  have h0 := Nat.pow_pos (a := 2) (n := n) (by omega)
  refine ⟨GO_len ss, GO_small (hs.mono hn), by unfold GS; rw [addS_len]; simp, (Small.zeros n).addS hb, hn, fun a => ?_, by omega, fun a b h => ?_, fun a b => ?_⟩
  · cases hx : bt (GS n ss) a a
    · rfl
    · obtain ⟨l, _, _, _, h⟩ := (e1 a a).1 hx
      exact absurd rfl h
  · obtain ⟨l, hl, _, h1, _⟩ := (e1 a b).1 h
    exact hs.below l hl b h1
  · unfold GO GS
    rw [e1, e2, full_bit, full_bit]
    constructor
    · rintro ⟨l, hl, h1, h2, h3⟩; exact ⟨⟨l, hl, h1, h2, h3⟩, hs.below l hl a h1, hs.below l hl b h2⟩
    · exact fun h => h.1
theorem GO_GS {n : Nat} {ss : List (List Nat)} (hn : n ≤ 16) (hs : Scopes n ss) (a b : Nat) : bt (GO ss) a b = bt (GS n ss) a b := by
  have h := Rel.start hn hs
  apply bool_eq
  rw [h.eq, full_bit, full_bit]
  exact ⟨fun h => h.1, fun h1 => ⟨h1, by have := bt_lt h1; rw [h.ls] at this; exact this, h.sm a b h1⟩⟩
end Go.Gr
