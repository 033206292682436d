import Derived.Test.YtpgkbipnkkeicaaL2
set_option linter.unusedSimpArgs false
set_option linter.unusedVariables false
/-! Lower; what lies behind what is out. -/
namespace Go.Gr
open Go Go.Sx Go.Proofs.Ytpgkbipnkkeicaa
attribute [local irreducible] popN

/-! ### Lower -/
def minF (cost : Nat → Nat) : List Nat → Nat
  | [] => 0
  | x :: t => t.foldl (fun m y => if cost y < cost m then y else m) x
theorem minF_snoc (cost : Nat → Nat) (x : Nat) (t : List Nat) (k : Nat) : minF cost (x :: t ++ [k]) = if cost k < cost (minF cost (x :: t)) then k else minF cost (x :: t) := by
  show (t ++ [k]).foldl _ x = _
  rw [List.foldl_append]
  rfl
theorem minF_mem (cost : Nat → Nat) (x : Nat) (t : List Nat) : minF cost (x :: t) ∈ x :: t := by
  show t.foldl _ x ∈ x :: t
  induction t generalizing x with
  | nil => simp
  | cons y t ih =>
    rw [List.foldl_cons]
    split
    · exact .tail _ (ih y)
    · have := ih x
      rcases List.mem_cons.1 this with h | h
      · rw [h]; exact .head _
      · exact .tail _ (.tail _ h)
theorem minF_bestOf (skip : Nat → Bool) (cost : Nat → Nat) (n : Nat) : bestOf skip cost n = match (List.range n).filter (fun v => !skip v) with
    | [] => none
    | x :: t => some (minF cost (x :: t)) := by
  induction n with
  | zero => rfl
  | succ n ih =>
    unfold bestOf
    rw [List.range_succ, List.filter_append]
    cases hs : skip n
    · simp only [Bool.false_eq_true, if_false, List.filter_cons, hs, Bool.not_false, if_true, List.filter_nil]
      rw [ih]
      cases hl : (List.range n).filter (fun v => !skip v) with
      | nil => rfl
      | cons x t =>
        simp only [List.cons_append]
        rw [show x :: (t ++ [n]) = x :: t ++ [n] from rfl, minF_snoc]
        split <;> rfl
    · simp only [if_true, List.filter_cons, hs, Bool.not_true, Bool.false_eq_true, if_false, List.filter_nil, List.append_nil]
      exact ih
structure LSt where
  G : List Nat
  L : List Nat
  most : Nat
def lPick (s : LSt) : Nat := minF (coD s.G) s.L
def lRun (G : List Nat) (n : Nat) : Nat → LSt
  | 0 => ⟨G, List.range n, 0⟩
  | i + 1 => ⟨cut (lRun G n i).G (lPick (lRun G n i)), (lRun G n i).L.filter (fun x => !decide (x = lPick (lRun G n i))), max (lRun G n i).most (coD (lRun G n i).G (lPick (lRun G n i)))⟩
structure MSt where
  left : Nat
  least : Nat
def mPick (G : List Nat) (n left : Nat) : Nat := (bestOf (fun v => !left.testBit v) (csD G left) n).getD 0
def mRun (G : List Nat) (n : Nat) : Nat → MSt
  | 0 => ⟨2 ^ n - 1, 0⟩
  | i + 1 => ⟨clr (mRun G n i).left (mPick G n (mRun G n i).left), max (mRun G n i).least (csD G (mRun G n i).left (mPick G n (mRun G n i).left))⟩
theorem Rel.cutStep {n : Nat} {Go Gs : List Nat} {left v : Nat} (h : Rel n Go Gs left) (hv : left.testBit v = true) : Rel n (cut Go v) Gs (Gr.clr left v) := by
  have hvn := h.bit hv
  have hn := h.le
  refine ⟨by rw [cut_len]; exact h.lo, h.so.cut v, h.ls, h.ss, h.le, h.self, Nat.lt_of_le_of_lt (clr_lt _ _) h.lt, h.sm, fun a b => ?_⟩
  rw [cut_bit h.lo h.so (by omega), h.eq, h.clr (by omega), h.clr (by omega)]
  constructor
  · rintro ⟨⟨h1, h2, h3⟩, h4, h5⟩; exact ⟨h1, ⟨h2, h4⟩, h3, h5⟩
  · rintro ⟨h1, ⟨h2, h3⟩, h4, h5⟩; exact ⟨⟨h1, h2, h4⟩, h3, h5⟩
theorem filter_ne_len {l : List Nat} (hn : l.Nodup) {v : Nat} (hv : v ∈ l) : (l.filter (fun x => !decide (x = v))).length + 1 = l.length := by
  induction l with
  | nil => cases hv
  | cons x l ih =>
    rw [List.nodup_cons] at hn
    rw [List.filter_cons]
    by_cases h : x = v
    · subst h
      have : l.filter (fun y => !decide (y = x)) = l := List.filter_eq_self.2 fun y hy => by
        simp only [Bool.not_eq_true', decide_eq_false_iff_not]
        exact fun e => hn.1 (e ▸ hy)
      simp [this]
    · have hm : v ∈ l := by
        rcases List.mem_cons.1 hv with h1 | h1
        · exact absurd h1.symm h
        · exact h1
      have := ih hn.2 hm
      simp [h, this]
/-- Lower: the two side by side. -/
structure LSide (n i : Nat) (S : LSt) (left : Nat) : Prop where
  L : S.L = (List.range n).filter left.testBit
  len : S.L.length + i = n
theorem lower_side {n : Nat} {ss : List (List Nat)} (hn : n ≤ 16) (hs : Scopes n ss) (i : Nat) (hi : i ≤ n) :
    Rel n (lRun (GO ss) n i).G (GS n ss) (mRun (GS n ss) n i).left ∧ LSide n i (lRun (GO ss) n i) (mRun (GS n ss) n i).left ∧ (lRun (GO ss) n i).most = (mRun (GS n ss) n i).least ∧
      (i < n → lPick (lRun (GO ss) n i) = mPick (GS n ss) n (mRun (GS n ss) n i).left ∧ lPick (lRun (GO ss) n i) ∈ (lRun (GO ss) n i).L ∧ bestOf (fun v => !(mRun (GS n ss) n i).left.testBit v) (csD (GS n ss) (mRun (GS n ss) n i).left) n = some (mPick (GS n ss) n (mRun (GS n ss) n i).left)) := by
  induction i with
  | zero =>
    have hr := Rel.start hn hs
    have hL : List.range n = (List.range n).filter (2 ^ n - 1).testBit := (List.filter_eq_self.2 fun v hv => (full_bit n v).2 (List.mem_range.1 hv)).symm
    refine ⟨hr, ⟨hL, by simp [lRun]⟩, rfl, fun h0 => ?_⟩
    refine pick hr (S := lRun (GO ss) n 0) rfl hL (by simp [lRun]; omega)
  | succ i ih =>
    obtain ⟨h1, h2, h3, h4⟩ := ih (by omega)
    obtain ⟨h5, h6, h7⟩ := h4 (by omega)
    have hv : (mRun (GS n ss) n i).left.testBit (lPick (lRun (GO ss) n i)) = true := by
      rw [h2.L] at h6
      exact (List.mem_filter.1 h6).2
    have hvn := h1.bit hv
    have hr : Rel n (lRun (GO ss) n (i + 1)).G (GS n ss) (mRun (GS n ss) n (i + 1)).left := by
      simp only [lRun, mRun]
      rw [← h5]
      exact h1.cutStep hv
    have hnd : (lRun (GO ss) n i).L.Nodup := by rw [h2.L]; exact List.nodup_range.filter _
    have hL : (lRun (GO ss) n (i + 1)).L = (List.range n).filter (mRun (GS n ss) n (i + 1)).left.testBit := by
      simp only [lRun, mRun]
      rw [← h5, h2.L, List.filter_filter]
      apply List.filter_congr
      intro x hx
      apply bool_eq
      rw [h1.clr (by omega)]
      simp only [Bool.and_eq_true, Bool.not_eq_true', decide_eq_false_iff_not]
      exact and_comm
    have hlen : (lRun (GO ss) n (i + 1)).L.length + (i + 1) = n := by
      have := filter_ne_len hnd h6
      have := h2.len
      simp only [lRun]
      omega
    refine ⟨hr, ⟨hL, hlen⟩, ?_, fun h0 => pick hr rfl hL (by omega)⟩
    simp only [lRun, mRun]
    rw [h3, h5, deg_law h1 (by rw [← h5]; exact hv)]
where
  pick {n : Nat} {G Gs : List Nat} {left : Nat} {S : LSt} (h : Rel n G Gs left) (hG : S.G = G) (hL : S.L = (List.range n).filter left.testBit) (hpos : 0 < S.L.length) :
      lPick S = mPick Gs n left ∧ lPick S ∈ S.L ∧ bestOf (fun v => !left.testBit v) (csD Gs left) n = some (mPick Gs n left) := by
    have e : bestOf (fun v => !left.testBit v) (csD Gs left) n = bestOf (fun v => !left.testBit v) (coD G) n := bestOf_congr (fun _ _ => rfl) fun k hk hsk => (deg_law h (by simpa using hsk)).symm
    rw [minF_bestOf _ (coD G)] at e
    simp only [Bool.not_not] at e
    rw [← hL] at e
    unfold lPick mPick
    rw [hG]
    cases hS : S.L with
    | nil => rw [hS] at hpos; simp at hpos
    | cons x t =>
      rw [hS] at e
      simp only at e
      rw [e]
      exact ⟨rfl, minF_mem _ _ _, rfl⟩

/-! ### What is behind -/
/-- What is reached from v through what is out. -/
inductive Rch (G : List Nat) (out v : Nat) : Nat → Prop
  | base : Rch G out v v
  | step {x y : Nat} (h : Rch G out v x) (hb : bt G x y = true) (ho : out.testBit y = true) : Rch G out v y
/-- How many are not there. -/
def missN (s n : Nat) : Nat := (List.range n).countP (fun x => !s.testBit x)
theorem missN_le {s t n : Nat} (h : ∀ x, s.testBit x = true → t.testBit x = true) : missN t n ≤ missN s n := by
  unfold missN
  induction n with
  | zero => simp
  | succ n ih =>
    rw [List.range_succ, List.countP_append, List.countP_append]
    have : List.countP (fun x => !t.testBit x) [n] ≤ List.countP (fun x => !s.testBit x) [n] := by
      simp only [List.countP_singleton]
      have := h n
      cases hs : s.testBit n <;> cases ht : t.testBit n <;> simp_all
    omega
theorem missN_lt {s t n x : Nat} (h : ∀ x, s.testBit x = true → t.testBit x = true) (hx : x < n) (hs : s.testBit x = false) (ht : t.testBit x = true) : missN t n < missN s n := by
  induction n with
  | zero => omega
  | succ n ih =>
    unfold missN
    rw [List.range_succ, List.countP_append, List.countP_append]
    have h1 : List.countP (fun x => !t.testBit x) [n] ≤ List.countP (fun x => !s.testBit x) [n] := by
      simp only [List.countP_singleton]
      have := h n
      cases hs : s.testBit n <;> cases ht : t.testBit n <;> simp_all
    by_cases hn : x = n
    · subst hn
      have h2 := missN_le (n := x) h
      unfold missN at h2
      have h3 : List.countP (fun y => !t.testBit y) [x] < List.countP (fun y => !s.testBit y) [x] := by
        simp [List.countP_singleton, hs, ht]
      omega
    · have h2 := ih (by omega)
      unfold missN at h2
      omega
theorem missN_len (s n : Nat) : missN s n ≤ n := by
  unfold missN
  have := List.countP_le_length (p := fun x => !s.testBit x) (l := List.range n)
  simpa using this
theorem or_bit (s b x : Nat) : (s ||| 2 ^ b).testBit x = true ↔ s.testBit x = true ∨ x = b := by
  rw [Nat.testBit_or, Nat.testBit_two_pow]
  simp only [Bool.or_eq_true, decide_eq_true_eq]
  constructor
  · rintro (h | h)
    · exact .inl h
    · exact .inr h.symm
  · rintro (h | h)
    · exact .inl h
    · exact .inr h.symm
structure HSt where
  seen : Nat
  st : List Nat
def hIn (G : List Nat) (out at_ : Nat) (s : HSt) : Nat → HSt
  | 0 => s
  | b + 1 => let t := hIn G out at_ s b
    if (G.getD at_ 0).testBit b = false ∨ t.seen.testBit b = true then t else ⟨t.seen ||| 2 ^ b, if out.testBit b then t.st ++ [b] else t.st⟩
def hStep (G : List Nat) (out : Nat) (s : HSt) : HSt := match s.st with
  | [] => s
  | x :: t => hIn G out ((x :: t).getLast (by simp)) ⟨s.seen, (x :: t).dropLast⟩ 16
def hRun (G : List Nat) (out v : Nat) : Nat → HSt
  | 0 => ⟨2 ^ v, [v]⟩
  | i + 1 => hStep G out (hRun G out v i)
theorem hIn_succ (G : List Nat) (out at_ : Nat) (s : HSt) (b : Nat) : hIn G out at_ s (b + 1) = if (G.getD at_ 0).testBit b = false ∨ (hIn G out at_ s b).seen.testBit b = true then hIn G out at_ s b else ⟨(hIn G out at_ s b).seen ||| 2 ^ b, if out.testBit b then (hIn G out at_ s b).st ++ [b] else (hIn G out at_ s b).st⟩ := rfl
theorem hStep_eq (G : List Nat) (out : Nat) (s : HSt) (h : s.st ≠ []) : hStep G out s = hIn G out (s.st.getLast h) ⟨s.seen, s.st.dropLast⟩ 16 := by
  obtain ⟨seen, st⟩ := s
  cases st with
  | nil => exact absurd rfl h
  | cons x t => rfl
theorem hIn_mono (G : List Nat) (out at_ : Nat) (s : HSt) (k x : Nat) (h : s.seen.testBit x = true) : (hIn G out at_ s k).seen.testBit x = true := by
  induction k with
  | zero => exact h
  | succ k ih =>
    rw [hIn_succ]
    split
    · exact ih
    · exact (or_bit ..).2 (.inl ih)
/-- the measure -/
def HSt.mu (s : HSt) : Nat := s.st.length + missN s.seen 16
theorem hIn_mu (G : List Nat) (out at_ : Nat) (s : HSt) (k : Nat) (hk : k ≤ 16) : (hIn G out at_ s k).mu ≤ s.mu := by
  induction k with
  | zero => exact Nat.le_refl _
  | succ k ih =>
    have ih := ih (by omega)
    rw [hIn_succ]
    split
    · exact ih
    · rename_i hc
      generalize hIn G out at_ s k = t at hc ih
      have h1 : t.seen.testBit k = false := by
        cases h : t.seen.testBit k
        · rfl
        · exact absurd (.inr h) hc
      have := missN_lt (s := t.seen) (t := t.seen ||| 2 ^ k) (n := 16) (x := k) (fun x hx => (or_bit ..).2 (.inl hx)) (by omega) h1 ((or_bit ..).2 (.inr rfl))
      refine Nat.le_trans ?_ ih
      unfold HSt.mu
      simp only
      split
      · rw [List.length_append, List.length_singleton]; omega
      · omega
theorem hStep_mu (G : List Nat) (out : Nat) (s : HSt) (h : s.st ≠ []) : (hStep G out s).mu < s.mu := by
  rw [hStep_eq _ _ _ h]
  refine Nat.lt_of_le_of_lt (hIn_mu _ _ _ _ 16 (Nat.le_refl _)) ?_
  unfold HSt.mu
  have := List.length_pos_iff.2 h
  simp only [List.length_dropLast]
  omega
structure HInv (G : List Nat) (out v : Nat) (S : HSt) : Prop where
  here : S.seen.testBit v = true
  near : ∀ y, S.seen.testBit y = true → y = v ∨ ∃ x, Rch G out v x ∧ bt G x y = true
  st : ∀ x ∈ S.st, Rch G out v x ∧ x < 16
  out : ∀ x, (x = v ∨ (S.seen.testBit x = true ∧ out.testBit x = true)) → x ∈ S.st ∨ ∀ y, bt G x y = true → S.seen.testBit y = true
theorem mem_last {l : List Nat} (h : l ≠ []) {x : Nat} (hx : x ∈ l) : x ∈ l.dropLast ∨ x = l.getLast h := by
  have := List.dropLast_concat_getLast h
  rw [← this] at hx
  simpa using hx
theorem HInv.step {G : List Nat} {out v : Nat} {S : HSt} (hs : Small G) (h : HInv G out v S) (hne : S.st ≠ []) : HInv G out v (hStep G out S) := by
  rw [hStep_eq _ _ _ hne]
  obtain ⟨hat, hat16⟩ := h.st _ (List.getLast_mem hne)
  have hlast := fun x => mem_last hne (x := x)
  generalize S.st.getLast hne = at_ at hat hlast
  have key : ∀ k, k ≤ 16 → (∀ y, (hIn G out at_ ⟨S.seen, S.st.dropLast⟩ k).seen.testBit y = true → y = v ∨ ∃ x, Rch G out v x ∧ bt G x y = true) ∧
      (∀ x ∈ (hIn G out at_ ⟨S.seen, S.st.dropLast⟩ k).st, Rch G out v x ∧ x < 16) ∧
      (∀ x, (x = v ∨ ((hIn G out at_ ⟨S.seen, S.st.dropLast⟩ k).seen.testBit x = true ∧ out.testBit x = true)) → x = at_ ∨ x ∈ (hIn G out at_ ⟨S.seen, S.st.dropLast⟩ k).st ∨ ∀ y, bt G x y = true → (hIn G out at_ ⟨S.seen, S.st.dropLast⟩ k).seen.testBit y = true) ∧
      (∀ y, y < k → bt G at_ y = true → (hIn G out at_ ⟨S.seen, S.st.dropLast⟩ k).seen.testBit y = true) := by
    intro k
    induction k with
    | zero =>
      intro _
      refine ⟨h.near, fun x hx => h.st x (List.dropLast_subset _ hx), fun x hx => ?_, fun y hy => by omega⟩
      rcases h.out x hx with h1 | h1
      · rcases hlast x h1 with h2 | h2
        · exact .inr (.inl h2)
        · exact .inl h2
      · exact .inr (.inr h1)
    | succ k ih =>
      intro hk
      obtain ⟨i1, i2, i3, i4⟩ := ih (by omega)
      rw [hIn_succ]
      split
      · rename_i hc
        refine ⟨i1, i2, i3, fun y hy hb => ?_⟩
        by_cases hyk : y = k
        · subst hyk
          rcases hc with hc | hc
          · unfold bt at hb; rw [hc] at hb; cases hb
          · exact hc
        · exact i4 y (by omega) hb
      · rename_i hc
        generalize hIn G out at_ ⟨S.seen, S.st.dropLast⟩ k = t at hc i1 i2 i3 i4
        have hb : bt G at_ k = true := by
          unfold bt
          cases hx : (G.getD at_ 0).testBit k
          · exact absurd (.inl hx) hc
          · rfl
        refine ⟨fun y hy => ?_, fun x hx => ?_, fun x hx => ?_, fun y hy hby => ?_⟩
        · rcases (or_bit ..).1 hy with h1 | rfl
          · exact i1 y h1
          · exact .inr ⟨at_, hat, hb⟩
        · simp only at hx
          split at hx
          · rename_i ho
            rcases List.mem_append.1 hx with h1 | h1
            · exact i2 x h1
            · simp at h1; subst h1; exact ⟨.step hat hb ho, by omega⟩
          · exact i2 x hx
        · simp only at hx ⊢
          have hx' : (x = v ∨ (t.seen.testBit x = true ∧ out.testBit x = true)) ∨ (x = k ∧ out.testBit x = true) := by
            rcases hx with h1 | ⟨h1, h2⟩
            · exact .inl (.inl h1)
            · rcases (or_bit ..).1 h1 with h3 | h3
              · exact .inl (.inr ⟨h3, h2⟩)
              · exact .inr ⟨h3, h2⟩
          rcases hx' with h1 | ⟨rfl, h1⟩
          · rcases i3 x h1 with h2 | h2 | h2
            · exact .inl h2
            · refine .inr (.inl ?_)
              split
              · exact List.mem_append_left _ h2
              · exact h2
            · exact .inr (.inr fun y hy => (or_bit ..).2 (.inl (h2 y hy)))
          · rw [h1]; simp
        · by_cases hyk : y = k
          · exact (or_bit ..).2 (.inr hyk)
          · exact (or_bit ..).2 (.inl (i4 y (by omega) hby))
  obtain ⟨k1, k2, k3, k4⟩ := key 16 (Nat.le_refl _)
  refine ⟨hIn_mono _ _ _ _ _ _ h.here, k1, k2, fun x hx => ?_⟩
  rcases k3 x hx with rfl | h1 | h1
  · refine .inr fun y hy => k4 y ?_ hy
    apply Classical.byContradiction
    intro hn
    have h2 := hs.getD x
    have := Nat.testBit_lt_two_pow (x := G.getD x 0) (i := y) (Nat.lt_of_lt_of_le h2 (Nat.pow_le_pow_right (n := 2) (by omega) (by omega : 16 ≤ y)))
    unfold bt at hy
    rw [this] at hy; cases hy
  · exact .inl h1
  · exact .inr h1
theorem HInv.run {G : List Nat} {out v : Nat} (hs : Small G) (hv : v < 16) (i : Nat) : HInv G out v (hRun G out v i) := by
  induction i with
  | zero =>
    refine ⟨by simp [hRun], fun y hy => .inl ?_, fun x hx => ?_, fun x hx => ?_⟩
    · simp only [hRun, Nat.testBit_two_pow, decide_eq_true_eq] at hy; exact hy.symm
    · simp [hRun] at hx; subst hx; exact ⟨.base, hv⟩
    · simp only [hRun, Nat.testBit_two_pow, decide_eq_true_eq] at hx ⊢
      rcases hx with h | ⟨h, _⟩ <;> simp [h]
  | succ i ih =>
    simp only [hRun]
    by_cases hne : (hRun G out v i).st = []
    · unfold hStep
      rw [hne]
      exact ih
    · exact ih.step hs hne
/-- What is seen when nothing is left to go through. -/
theorem HInv.done {G : List Nat} {out v : Nat} {S : HSt} (h : HInv G out v S) (he : S.st = []) (y : Nat) : S.seen.testBit y = true ↔ y = v ∨ ∃ x, Rch G out v x ∧ bt G x y = true := by
  have hout : ∀ x, (x = v ∨ (S.seen.testBit x = true ∧ out.testBit x = true)) → ∀ y, bt G x y = true → S.seen.testBit y = true := fun x hx => by
    rcases h.out x hx with h1 | h1
    · rw [he] at h1; cases h1
    · exact h1
  have hr : ∀ x, Rch G out v x → x = v ∨ (S.seen.testBit x = true ∧ out.testBit x = true) := by
    intro x hx
    induction hx with
    | base => exact .inl rfl
    | step _ hb ho ih => exact .inr ⟨hout _ ih _ hb, ho⟩
  constructor
  · exact h.near y
  · rintro (rfl | ⟨x, hx, hb⟩)
    · exact h.here
    · exact hout x (hr x hx) y hb

/-! ### the answer's degree -/
structure DSt where
  seen : Nat
  near : Nat
def dIn (G : List Nat) (gone : Nat) (s : DSt) : Nat → DSt
  | 0 => s
  | u + 1 => let t := dIn G gone s u
    if gone.testBit u = true ∧ t.near.testBit u = true ∧ t.seen.testBit u = false then ⟨t.seen ||| 2 ^ u, t.near ||| G.getD u 0⟩ else t
def dRun (G : List Nat) (n gone v : Nat) : Nat → DSt
  | 0 => ⟨2 ^ v, G.getD v 0⟩
  | i + 1 => dIn G gone (dRun G n gone v i) n
theorem dIn_succ (G : List Nat) (gone : Nat) (s : DSt) (u : Nat) : dIn G gone s (u + 1) = if gone.testBit u = true ∧ (dIn G gone s u).near.testBit u = true ∧ (dIn G gone s u).seen.testBit u = false then ⟨(dIn G gone s u).seen ||| 2 ^ u, (dIn G gone s u).near ||| G.getD u 0⟩ else dIn G gone s u := rfl
theorem dIn_mono (G : List Nat) (gone : Nat) (s : DSt) (k x : Nat) : (s.seen.testBit x = true → (dIn G gone s k).seen.testBit x = true) ∧ (s.near.testBit x = true → (dIn G gone s k).near.testBit x = true) := by
  induction k with
  | zero => exact ⟨id, id⟩
  | succ k ih =>
    rw [dIn_succ]
    split
    · exact ⟨fun h => (or_bit ..).2 (.inl (ih.1 h)), fun h => by simp [Nat.testBit_or, ih.2 h]⟩
    · exact ih
structure DInv (G : List Nat) (gone v : Nat) (S : DSt) : Prop where
  here : S.seen.testBit v = true
  seen : ∀ x, S.seen.testBit x = true → Rch G gone v x
  near : ∀ y, S.near.testBit y = true ↔ ∃ x, S.seen.testBit x = true ∧ bt G x y = true
theorem DInv.dIn {G : List Nat} {gone v : Nat} {S : DSt} (h : DInv G gone v S) (k : Nat) : DInv G gone v (dIn G gone S k) := by
  induction k with
  | zero => exact h
  | succ k ih =>
    rw [dIn_succ]
    split
    · rename_i hc
      generalize Gr.dIn G gone S k = t at hc ih
      refine ⟨(or_bit ..).2 (.inl ih.here), fun x hx => ?_, fun y => ?_⟩
      · rcases (or_bit ..).1 hx with h1 | rfl
        · exact ih.seen x h1
        · obtain ⟨z, hz, hb⟩ := (ih.near x).1 hc.2.1
          exact .step (ih.seen z hz) hb hc.1
      · simp only
        rw [Nat.testBit_or, Bool.or_eq_true, ih.near]
        constructor
        · rintro (⟨x, h1, h2⟩ | h1)
          · exact ⟨x, (or_bit ..).2 (.inl h1), h2⟩
          · exact ⟨k, (or_bit ..).2 (.inr rfl), h1⟩
        · rintro ⟨x, h1, h2⟩
          rcases (or_bit ..).1 h1 with h3 | rfl
          · exact .inl ⟨x, h3, h2⟩
          · exact .inr h2
    · exact ih
theorem DInv.run (G : List Nat) (n gone v : Nat) (i : Nat) : DInv G gone v (dRun G n gone v i) := by
  induction i with
  | zero =>
    refine ⟨by simp [dRun], fun x hx => ?_, fun y => ?_⟩
    · simp only [dRun, Nat.testBit_two_pow, decide_eq_true_eq] at hx; subst hx; exact .base
    · simp only [dRun, Nat.testBit_two_pow, decide_eq_true_eq]
      constructor
      · intro h; exact ⟨v, rfl, h⟩
      · rintro ⟨x, rfl, h⟩; exact h
  | succ i ih => exact ih.dIn n
/-- nothing more comes -/
def DSt.shut (gone n : Nat) (S : DSt) : Prop := ∀ u, u < n → gone.testBit u = true → S.near.testBit u = true → S.seen.testBit u = true
theorem dIn_shut {G : List Nat} {gone n : Nat} {S : DSt} (h : S.shut gone n) (k : Nat) (hk : k ≤ n) : dIn G gone S k = S := by
  induction k with
  | zero => rfl
  | succ k ih =>
    rw [dIn_succ, ih (by omega)]
    split
    · rename_i hc
      rw [h k (by omega) hc.1 hc.2.1] at hc
      exact absurd hc.2.2 (by simp)
    · rfl
theorem dIn_grow {G : List Nat} {gone n : Nat} {S : DSt} (h : ¬ S.shut gone n) : missN (dIn G gone S n).seen n < missN S.seen n := by
  unfold DSt.shut at h
  obtain ⟨u, h1⟩ := Classical.not_forall.1 h
  simp only [Classical.not_imp] at h1
  obtain ⟨hu, hg, hn, hs⟩ := h1
  have hs' : S.seen.testBit u = false := by simpa using hs
  refine missN_lt (x := u) (fun x hx => (dIn_mono G gone S n x).1 hx) hu hs' ?_
  have key : ∀ k, u < k → (dIn G gone S k).seen.testBit u = true := by
    intro k
    induction k with
    | zero => omega
    | succ k ih =>
      intro hk
      rw [dIn_succ]
      by_cases huk : u = k
      · subst huk
        split
        · exact (or_bit ..).2 (.inr rfl)
        · rename_i hc
          cases hx : (dIn G gone S u).seen.testBit u
          · exact absurd ⟨hg, (dIn_mono G gone S u u).2 hn, hx⟩ hc
          · rfl
      · have := ih (by omega)
        split
        · exact (or_bit ..).2 (.inl this)
        · exact this
  exact key n hu
theorem dRun_shut {G : List Nat} {n gone v : Nat} (hv : v < n) : (dRun G n gone v n).shut gone n := by
  have key : ∀ i, (dRun G n gone v i).shut gone n ∨ missN (dRun G n gone v i).seen n + i ≤ n - 1 := by
    intro i
    induction i with
    | zero =>
      refine .inr ?_
      have h1 := missN_lt (s := 0) (t := 2 ^ v) (n := n) (x := v) (fun x hx => by simp at hx) hv (by simp) (by simp)
      have h2 := missN_len 0 n
      simp only [dRun]
      omega
    | succ i ih =>
      by_cases hs : (dRun G n gone v i).shut gone n
      · refine .inl ?_
        simp only [dRun]
        rw [dIn_shut hs n (Nat.le_refl _)]
        exact hs
      · refine .inr ?_
        have h1 := dIn_grow (G := G) hs
        have h2 := ih.resolve_left hs
        simp only [dRun]
        omega
  rcases key n with h | h
  · exact h
  · omega
theorem DInv.done {G : List Nat} {n gone v : Nat} (hv : v < n) (hg : ∀ x, gone.testBit x = true → x < n) (y : Nat) : (dRun G n gone v n).near.testBit y = true ↔ ∃ x, Rch G gone v x ∧ bt G x y = true := by
  have h := DInv.run G n gone v n
  have hs := dRun_shut (G := G) (gone := gone) hv
  have hr : ∀ x, Rch G gone v x → (dRun G n gone v n).seen.testBit x = true := by
    intro x hx
    induction hx with
    | base => exact h.here
    | step _ hb ho ih => exact hs _ (hg _ ho) ho ((h.near _).2 ⟨_, ih, hb⟩)
  rw [h.near]
  exact ⟨fun ⟨x, h1, h2⟩ => ⟨x, h.seen x h1, h2⟩, fun ⟨x, h1, h2⟩ => ⟨x, hr x h1, h2⟩⟩
/-- what is there and is not among others -/
def sub32 (x y : Nat) : Nat := x &&& (4294967295 - y)
theorem sub32_bit {x y : Nat} (hx : x < 4294967296) (hy : y < 4294967296) (b : Nat) : (sub32 x y).testBit b = (x.testBit b && !y.testBit b) := by
  unfold sub32
  rw [Nat.testBit_and, show 4294967295 - y = 2 ^ 32 - (y + 1) from by omega, Nat.testBit_two_pow_sub_succ hy]
  by_cases hb : b < 32
  · simp [hb]
  · have : x.testBit b = false := Nat.testBit_lt_two_pow (Nat.lt_of_lt_of_le hx (Nat.pow_le_pow_right (n := 2) (by omega) (by omega : 32 ≤ b)))
    simp [this]
theorem sub32_clr (x v : Nat) : sub32 x (2 ^ v) = clr x v := rfl
def behindN (out v : Nat) (S : HSt) : Nat := popN 32 (clr (sub32 S.seen out) v)
def degN (G : List Nat) (n v gone : Nat) : Nat := popN 32 (clr (sub32 (dRun G n gone v n).near gone) v)
theorem dRun_small {G : List Nat} (hs : Small G) {n gone v : Nat} (hn : n ≤ 16) (hv : v < 16) (i : Nat) : (dRun G n gone v i).seen < 65536 ∧ (dRun G n gone v i).near < 65536 := by
  have key : ∀ (S : DSt), S.seen < 65536 ∧ S.near < 65536 → ∀ k, k ≤ 16 → (dIn G gone S k).seen < 65536 ∧ (dIn G gone S k).near < 65536 := by
    intro S hS k
    induction k with
    | zero => intro _; exact hS
    | succ k ih =>
      intro hk
      have ih := ih (by omega)
      rw [dIn_succ]
      split
      · exact ⟨Nat.or_lt_two_pow (n := 16) ih.1 (Nat.pow_lt_pow_right (by omega) (by omega)), Nat.or_lt_two_pow (n := 16) ih.2 (hs.getD k)⟩
      · exact ih
  induction i with
  | zero => exact ⟨Nat.pow_lt_pow_right (a := 2) (n := 16) (by omega) hv, hs.getD v⟩
  | succ i ih => exact key _ ih n hn
theorem hRun_small {G : List Nat} {out v : Nat} (hv : v < 16) (i : Nat) : (hRun G out v i).seen < 65536 := by
  have key : ∀ at_ (S : HSt), S.seen < 65536 → ∀ k, k ≤ 16 → (hIn G out at_ S k).seen < 65536 := by
    intro at_ S hS k
    induction k with
    | zero => intro _; exact hS
    | succ k ih =>
      intro hk
      have ih := ih (by omega)
      rw [hIn_succ]
      split
      · exact ih
      · exact Nat.or_lt_two_pow (n := 16) ih (Nat.pow_lt_pow_right (by omega) (by omega))
  induction i with
  | zero => exact Nat.pow_lt_pow_right (a := 2) (n := 16) (by omega) hv
  | succ i ih =>
    simp only [hRun]
    unfold hStep
    split
    · exact ih
    · refine key _ _ ?_ 16 (Nat.le_refl _)
      exact ih
theorem behind_law {n : Nat} {ss : List (List Nat)} (hn : n ≤ 16) (hs : Scopes n ss) {out v : Nat} (hv : v < n) (ho : out < 2 ^ n) (i : Nat) (he : (hRun (GO ss) out v i).st = []) :
    behindN out v (hRun (GO ss) out v i) = degN (GS n ss) n v out := by
  have hr := Rel.start hn hs
  have hbt : ∀ a b, bt (GO ss) a b = bt (GS n ss) a b := GO_GS hn hs
  have hrch : ∀ x, Rch (GO ss) out v x ↔ Rch (GS n ss) out v x := fun x => by
    constructor
    · intro h
      induction h with
      | base => exact .base
      | step _ hb hq ih => exact .step ih (by rw [← hbt]; exact hb) hq
    · intro h
      induction h with
      | base => exact .base
      | step _ hb hq ih => exact .step ih (by rw [hbt]; exact hb) hq
  have hout : ∀ x, out.testBit x = true → x < n := fun x hx => by
    apply Classical.byContradiction
    intro h
    have := Nat.testBit_lt_two_pow (Nat.lt_of_lt_of_le ho (Nat.pow_le_pow_right (n := 2) (by omega) (by omega : n ≤ x)))
    rw [hx] at this; cases this
  have h16 := pow16 hn
  have h1 := (HInv.run (G := GO ss) (out := out) (v := v) hr.so (by omega) i).done he
  have h2 := DInv.done (G := GS n ss) (gone := out) hv hout
  have s1 := hRun_small (G := GO ss) (out := out) (v := v) (by omega) i
  have s2 := (dRun_small (G := GS n ss) hr.ss (gone := out) (v := v) hn (by omega) n).2
  unfold behindN degN
  congr 1
  apply Nat.eq_of_testBit_eq
  intro b
  have b1 : sub32 (hRun (GO ss) out v i).seen out < 4294967296 := Nat.lt_of_le_of_lt Nat.and_le_left (by omega)
  have b2 : sub32 (dRun (GS n ss) n out v n).near out < 4294967296 := Nat.lt_of_le_of_lt Nat.and_le_left (by omega)
  rw [clr_bit b1 (by omega), clr_bit b2 (by omega), sub32_bit (by omega) (by omega), sub32_bit (by omega) (by omega)]
  apply bool_eq
  simp only [Bool.and_eq_true, Bool.not_eq_true', decide_eq_false_iff_not]
  rw [h1, h2]
  constructor
  · rintro ⟨⟨h3 | ⟨x, h3, h4⟩, h5⟩, h6⟩
    · exact absurd h3 h6
    · exact ⟨⟨⟨x, (hrch x).1 h3, by rw [← hbt]; exact h4⟩, h5⟩, h6⟩
  · rintro ⟨⟨⟨x, h3, h4⟩, h5⟩, h6⟩
    exact ⟨⟨.inr ⟨x, (hrch x).2 h3, by rw [hbt]; exact h4⟩, h5⟩, h6⟩
end Go.Gr
