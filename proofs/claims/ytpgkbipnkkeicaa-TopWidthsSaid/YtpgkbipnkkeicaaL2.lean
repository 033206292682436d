import Derived.Test.YtpgkbipnkkeicaaL1
set_option linter.unusedSimpArgs false
set_option linter.unusedVariables false
/-! Orders: the two graphs are played side by side. -/
namespace Go.Gr
open Go Go.Sx Go.Proofs.Ytpgkbipnkkeicaa
attribute [local irreducible] popN

/-- The answer's elimination. -/
structure ASt where
  G : List Nat
  left : Nat
  ord : List Nat
  wid : Nat
  fill : List (Nat × Nat)
def aStep (s : ASt) (v : Nat) : ASt :=
  ⟨addP s.G (pairs s.G v (clr s.left v)), clr s.left v, s.ord ++ [v], max s.wid (popN 32 ((addP s.G (pairs s.G v (clr s.left v))).getD v 0 &&& clr s.left v)), s.fill ++ pairs s.G v (clr s.left v)⟩
theorem aStep_G (s : ASt) (v : Nat) : (aStep s v).G = addP s.G (pairs s.G v (clr s.left v)) := by unfold aStep; rfl
theorem aStep_left (s : ASt) (v : Nat) : (aStep s v).left = clr s.left v := by unfold aStep; rfl
theorem aStep_ord (s : ASt) (v : Nat) : (aStep s v).ord = s.ord ++ [v] := by unfold aStep; rfl
theorem aStep_wid (s : ASt) (v : Nat) : (aStep s v).wid = max s.wid (popN 32 ((addP s.G (pairs s.G v (clr s.left v))).getD v 0 &&& clr s.left v)) := by unfold aStep; rfl
theorem aStep_fill (s : ASt) (v : Nat) : (aStep s v).fill = s.fill ++ pairs s.G v (clr s.left v) := by unfold aStep; rfl
theorem oStep_wid (s : OSt) (v : Nat) : (oStep s v).wid = max s.wid (popN 32 (s.G.getD v 0)) := by unfold oStep; rfl
theorem oStep_fill (s : OSt) (v : Nat) : (oStep s v).fill = s.fill ++ missing s.G v := by unfold oStep; rfl
abbrev Choose := Nat → Nat → List Nat → Nat
def aRun (ch : Choose) (n : Nat) (G : List Nat) : Nat → ASt
  | 0 => ⟨G, 2 ^ n - 1, [], 0, []⟩
  | i + 1 => aStep (aRun ch n G i) (ch i (aRun ch n G i).left (aRun ch n G i).G)
def aCh (ch : Choose) (n : Nat) (G : List Nat) (i : Nat) : Nat := ch i (aRun ch n G i).left (aRun ch n G i).G
theorem aRun_step (ch : Choose) (n : Nat) (G : List Nat) (i : Nat) : aRun ch n G (i + 1) = aStep (aRun ch n G i) (aCh ch n G i) := rfl
theorem aRun_ord (ch : Choose) (n : Nat) (G : List Nat) (i : Nat) : (aRun ch n G (i + 1)).ord = (aRun ch n G i).ord ++ [aCh ch n G i] := rfl
theorem aRun_olen (ch : Choose) (n : Nat) (G : List Nat) (i : Nat) : (aRun ch n G i).ord.length = i := by
  induction i with
  | zero => rfl
  | succ i ih => rw [aRun_ord, List.length_append, ih]; rfl
/-- The two side by side. -/
structure Side (n : Nat) (S : OSt) (s : ASt) : Prop where
  rel : Rel n S.G s.G s.left
  wid : S.wid = s.wid
  fill : S.fill = s.fill
  nd : s.ord.Nodup
  bit : ∀ x, s.left.testBit x = true ↔ x < n ∧ x ∉ s.ord
theorem Side.step {n : Nat} {S : OSt} {s : ASt} {v : Nat} (h : Side n S s) (hv : s.left.testBit v = true) : Side n (oStep S v) (aStep s v) := by
  have hvn := h.rel.bit hv
  have hn := h.rel.le
  refine ⟨by rw [oStep_G, aStep_G, aStep_left]; exact h.rel.step hv, ?_, ?_, ?_, fun x => ?_⟩
  · rw [oStep_wid, aStep_wid, h.rel.after hv, h.wid]
  · rw [oStep_fill, aStep_fill, h.rel.missing hv, h.fill]
  · rw [aStep_ord, List.nodup_append]
    refine ⟨h.nd, by simp, fun a ha b hb e => ?_⟩
    simp at hb
    subst hb; subst e
    exact ((h.bit a).1 hv).2 ha
  · rw [aStep_left, aStep_ord, h.rel.clr (by omega), h.bit, List.mem_append, List.mem_singleton]
    constructor
    · rintro ⟨⟨h1, h2⟩, h3⟩; exact ⟨h1, fun h => h.elim h2 h3⟩
    · rintro ⟨h1, h2⟩; exact ⟨⟨h1, fun h => h2 (.inl h)⟩, fun h => h2 (.inr h)⟩
theorem oRun_snoc (S : OSt) (o : List Nat) (v : Nat) : oRun S (o ++ [v]) = oStep (oRun S o) v := by unfold oRun; rw [List.foldl_append]; rfl
theorem played_snoc (ss : List (List Nat)) (o : List Nat) (v : Nat) : played ss (o ++ [v]) = oStep (played ss o) v := oRun_snoc _ _ _
theorem Side.start {n : Nat} {ss : List (List Nat)} (hn : n ≤ 16) (hs : Scopes n ss) (ch : Choose) : Side n (played ss []) (aRun ch n (GS n ss) 0) :=
  ⟨Rel.start hn hs, rfl, rfl, List.nodup_nil, fun x => by simp only [aRun]; rw [full_bit]; simp⟩
/-- What is chosen is left. -/
def Fair (ch : Choose) (n : Nat) (G : List Nat) : Prop := ∀ i, i < n → (aRun ch n G i).left.testBit (aCh ch n G i) = true
theorem Side.run {n : Nat} {ss : List (List Nat)} (hn : n ≤ 16) (hs : Scopes n ss) {ch : Choose} (hf : Fair ch n (GS n ss)) (i : Nat) (hi : i ≤ n) : Side n (played ss (aRun ch n (GS n ss) i).ord) (aRun ch n (GS n ss) i) := by
  induction i with
  | zero => exact Side.start hn hs ch
  | succ i ih =>
    rw [aRun_ord, played_snoc, aRun_step]
    exact (ih (by omega)).step (hf i (by omega))
theorem Side.lt {n : Nat} {S : OSt} {s : ASt} (h : Side n S s) (hl : ∀ x ∈ s.ord, x < n) {v : Nat} (hv : s.left.testBit v = true) : ∀ x ∈ (aStep s v).ord, x < n := by
  intro x hx
  rw [aStep_ord, List.mem_append, List.mem_singleton] at hx
  rcases hx with h1 | rfl
  · exact hl x h1
  · exact h.rel.bit hv
theorem run_lt {n : Nat} {ss : List (List Nat)} (hn : n ≤ 16) (hs : Scopes n ss) {ch : Choose} (hf : Fair ch n (GS n ss)) (i : Nat) (hi : i ≤ n) : ∀ x ∈ (aRun ch n (GS n ss) i).ord, x < n := by
  induction i with
  | zero => intro x hx; simp [aRun] at hx
  | succ i ih =>
    rw [aRun_step]
    exact (Side.run hn hs hf i (by omega)).lt (ih (by omega)) (hf i (by omega))
theorem run_ord {n : Nat} {ss : List (List Nat)} (hn : n ≤ 16) (hs : Scopes n ss) {ch : Choose} (hf : Fair ch n (GS n ss)) : Ord n (aRun ch n (GS n ss) n).ord :=
  ⟨(Side.run hn hs hf n (Nat.le_refl _)).nd, run_lt hn hs hf n (Nat.le_refl _), aRun_olen ..⟩

/-! ### A given order -/
def chO (o : List Nat) : Choose := fun i _ _ => o.getD i 0
theorem chO_ord (o : List Nat) (n : Nat) (G : List Nat) (i : Nat) (hi : i ≤ o.length) : (aRun (chO o) n G i).ord = o.take i := by
  induction i with
  | zero => rfl
  | succ i ih =>
    rw [aRun_ord, ih (by omega), List.take_add_one]
    congr 1
    simp [aCh, chO, show i < o.length from by omega]
theorem chO_fair {n : Nat} {ss : List (List Nat)} (hn : n ≤ 16) (hs : Scopes n ss) {o : List Nat} (ho : Ord n o) : Fair (chO o) n (GS n ss) := by
  have key : ∀ i, i ≤ n → (∀ j, j < i → (aRun (chO o) n (GS n ss) j).left.testBit (aCh (chO o) n (GS n ss) j) = true) := by
    intro i
    induction i with
    | zero => intro _ j hj; omega
    | succ i ih =>
      intro hi j hj
      rcases Nat.lt_or_ge j i with h | h
      · exact ih (by omega) j h
      · obtain rfl : j = i := by omega
        have hside : Side n (played ss (aRun (chO o) n (GS n ss) j).ord) (aRun (chO o) n (GS n ss) j) := by
          have : ∀ k, k ≤ j → Side n (played ss (aRun (chO o) n (GS n ss) k).ord) (aRun (chO o) n (GS n ss) k) := by
            intro k
            induction k with
            | zero => intro _; exact Side.start hn hs _
            | succ k ihk =>
              intro hk
              rw [aRun_ord, played_snoc, aRun_step]
              exact (ihk (by omega)).step (ih (by omega) k (by omega))
          exact this j (Nat.le_refl _)
        rw [hside.bit, chO_ord _ _ _ _ (by rw [ho.len]; omega)]
        have hl : j < o.length := by rw [ho.len]; omega
        have e1 : o[j]? = some (o.getD j 0) := by simp [hl]
        refine ⟨ho.lt _ (List.mem_of_getElem? e1), fun hm => ?_⟩
        obtain ⟨k, hk⟩ := List.mem_iff_getElem?.1 hm
        rw [List.getElem?_take] at hk
        split at hk
        · rename_i hkj
          have := (List.getElem?_inj (by omega) ho.nd).1 (hk.trans e1.symm)
          omega
        · cases hk
  exact fun i hi => key (i + 1) (by omega) i (by omega)
/-- Width and Fill. -/
theorem width_law {n : Nat} {ss : List (List Nat)} (hn : n ≤ 16) (hs : Scopes n ss) {o : List Nat} (ho : Ord n o) :
    (played ss o).wid = (aRun (chO o) n (GS n ss) n).wid ∧ (played ss o).fill = (aRun (chO o) n (GS n ss) n).fill := by
  have h := Side.run hn hs (chO_fair hn hs ho) n (Nat.le_refl _)
  have e : (aRun (chO o) n (GS n ss) n).ord = o := by rw [chO_ord _ _ _ _ (by rw [ho.len]; omega), ← ho.len, List.take_length]
  have h2 := h.wid
  have h3 := h.fill
  rw [e] at h2 h3
  exact ⟨h2, h3⟩

/-! ### The least ones -/
theorem bestOf_congr {s1 s2 : Nat → Bool} {c1 c2 : Nat → Nat} {n : Nat} (hs : ∀ k, k < n → s1 k = s2 k) (hc : ∀ k, k < n → s1 k = false → c1 k = c2 k) : bestOf s1 c1 n = bestOf s2 c2 n := by
  induction n with
  | zero => rfl
  | succ n ih =>
    have h := ih (fun k hk => hs k (by omega)) (fun k hk => hc k (by omega))
    unfold bestOf
    rw [← hs n (by omega), h]
    cases hb : s1 n
    · simp only [Bool.false_eq_true, if_false]
      cases hb2 : bestOf s2 c2 n with
      | none => rfl
      | some b =>
        have hbl := bestOf_lt (h.trans hb2)
        simp only
        rw [hc n (by omega) hb, hc b (by omega) hbl.2]
    · rfl
/-- What the order's own greedy choice does. -/
structure GSt where
  G : List Nat
  out : List Nat
def gPick (cost : List Nat → Nat → Nat) (n : Nat) (s : GSt) : Nat := (bestOf (fun v => decide (v ∈ s.out)) (cost s.G) n).getD 0
def gRun (cost : List Nat → Nat → Nat) (n : Nat) (G : List Nat) : Nat → GSt
  | 0 => ⟨G, []⟩
  | i + 1 => ⟨elimO (gRun cost n G i).G (gPick cost n (gRun cost n G i)), (gRun cost n G i).out ++ [gPick cost n (gRun cost n G i)]⟩
theorem gRun_G (cost : List Nat → Nat → Nat) (n : Nat) (G : List Nat) (i : Nat) : (gRun cost n G (i + 1)).G = elimO (gRun cost n G i).G (gPick cost n (gRun cost n G i)) := by simp only [gRun]
theorem gRun_out (cost : List Nat → Nat → Nat) (n : Nat) (G : List Nat) (i : Nat) : (gRun cost n G (i + 1)).out = (gRun cost n G i).out ++ [gPick cost n (gRun cost n G i)] := by simp only [gRun]
theorem gRun_len (cost : List Nat → Nat → Nat) (n : Nat) (G : List Nat) (i : Nat) : (gRun cost n G i).out.length = i := by
  induction i with
  | zero => rfl
  | succ i ih => simp only [gRun, List.length_append, List.length_singleton, ih]
/-- The answer's choice of the least ones. -/
def chL (cost : List Nat → Nat → Nat → Nat) (n : Nat) : Choose := fun _ left G => (bestOf (fun v => !left.testBit v) (cost G left) n).getD 0
theorem nodup_len {l : List Nat} : ∀ {m : List Nat}, l.Nodup → (∀ x ∈ l, x ∈ m) → l.length ≤ m.length := by
  induction l with
  | nil => intro m _ _; simp
  | cons x l ih =>
    intro m hn hs
    rw [List.nodup_cons] at hn
    have hx := hs x (.head _)
    have := ih (m := m.erase x) hn.2 fun y hy => (List.mem_erase_of_ne (fun e : y = x => hn.1 (e ▸ hy))).2 (hs y (.tail _ hy))
    have h2 := List.length_erase_of_mem hx
    have h3 := List.length_pos_of_mem hx
    simp only [List.length_cons]
    omega
/-- Something is left as long as not all are out. -/
theorem some_left {n : Nat} {l : List Nat} (hnd : l.Nodup) (hl : l.length < n) : ∃ v, v < n ∧ v ∉ l := by
  apply Classical.byContradiction
  intro h
  have hsub : ∀ v ∈ List.range n, v ∈ l := fun v hv => Classical.byContradiction fun hn => h ⟨v, List.mem_range.1 hv, hn⟩
  have := nodup_len (List.nodup_range (n := n)) hsub
  simp at this
  omega
theorem chL_pick {cost : List Nat → Nat → Nat → Nat} {n : Nat} {S : OSt} {s : ASt} (h : Side n S s) (hl : s.ord.length < n) (i : Nat) :
    bestOf (fun v => !s.left.testBit v) (cost s.G s.left) n = some (chL cost n i s.left s.G) ∧ s.left.testBit (chL cost n i s.left s.G) = true := by
  obtain ⟨v, hv, hm⟩ := some_left h.nd hl
  have hb : s.left.testBit v = true := (h.bit v).2 ⟨hv, hm⟩
  obtain ⟨b, hb⟩ := bestOf_some (cost := cost s.G s.left) (skip := fun v => !s.left.testBit v) hv (by simp [hb])
  have := bestOf_lt hb
  simp only [chL, hb, Option.getD_some, true_and]
  simpa using this.2
theorem chL_fair {n : Nat} {ss : List (List Nat)} (hn : n ≤ 16) (hs : Scopes n ss) (cost : List Nat → Nat → Nat → Nat) : Fair (chL cost n) n (GS n ss) := by
  have key : ∀ i, i ≤ n → Side n (played ss (aRun (chL cost n) n (GS n ss) i).ord) (aRun (chL cost n) n (GS n ss) i) ∧ ∀ j, j < i → (aRun (chL cost n) n (GS n ss) j).left.testBit (aCh (chL cost n) n (GS n ss) j) = true := by
    intro i
    induction i with
    | zero => intro _; exact ⟨Side.start hn hs _, fun j hj => by omega⟩
    | succ i ih =>
      intro hi
      obtain ⟨h1, h2⟩ := ih (by omega)
      have h3 := (chL_pick (cost := cost) h1 (by rw [aRun_olen]; omega) i).2
      refine ⟨?_, fun j hj => ?_⟩
      · rw [aRun_ord, played_snoc, aRun_step]; exact h1.step h3
      · rcases Nat.lt_or_ge j i with h | h
        · exact h2 j h
        · obtain rfl : j = i := by omega
          exact h3
  exact fun i hi => (key n (Nat.le_refl _)).2 i hi
theorem greedy_law {n : Nat} {ss : List (List Nat)} (hn : n ≤ 16) (hs : Scopes n ss) (co : List Nat → Nat → Nat) (cs : List Nat → Nat → Nat → Nat)
    (hc : ∀ Go Gs left v, Rel n Go Gs left → left.testBit v = true → co Go v = cs Gs left v) (i : Nat) (hi : i ≤ n) :
    gRun co n (GO ss) i = ⟨(played ss (aRun (chL cs n) n (GS n ss) i).ord).G, (aRun (chL cs n) n (GS n ss) i).ord⟩ := by
  induction i with
  | zero => rfl
  | succ i ih =>
    have h := Side.run hn hs (chL_fair hn hs cs) i (by omega)
    have ih := ih (by omega)
    have hp : gPick co n (gRun co n (GO ss) i) = aCh (chL cs n) n (GS n ss) i := by
      rw [ih]
      unfold gPick aCh chL
      congr 1
      refine bestOf_congr (fun k hk => ?_) (fun k hk hsk => ?_)
      · apply bool_eq
        simp only [decide_eq_true_eq, Bool.not_eq_true']
        have := h.bit k
        constructor
        · intro h1
          rcases Bool.eq_false_or_eq_true ((aRun (chL cs n) n (GS n ss) i).left.testBit k) with hx | hx
          · exact absurd h1 (this.1 hx).2
          · exact hx
        · intro h1
          apply Classical.byContradiction
          intro h2
          have h3 := this.2 ⟨hk, h2⟩
          exact absurd (h1.symm.trans h3) (by decide)
      · simp only [decide_eq_false_iff_not] at hsk
        exact hc _ _ _ _ h.rel ((h.bit k).2 ⟨hk, hsk⟩)
    simp only [gRun]
    rw [hp, ih, aRun_ord, played_snoc, oStep_G]
def coD (G : List Nat) (v : Nat) : Nat := popN 32 (G.getD v 0)
def csD (G : List Nat) (left v : Nat) : Nat := popN 32 (G.getD v 0 &&& left)
def coF (G : List Nat) (v : Nat) : Nat := (missing G v).length
def csF (G : List Nat) (left v : Nat) : Nat := (pairs G v left).length
theorem deg_law {n : Nat} {Go Gs : List Nat} {left v : Nat} (h : Rel n Go Gs left) (hv : left.testBit v = true) : coD Go v = csD Gs left v := by unfold coD csD; rw [h.row hv]
theorem fill_law {n : Nat} {Go Gs : List Nat} {left v : Nat} (h : Rel n Go Gs left) (hv : left.testBit v = true) : coF Go v = csF Gs left v := by unfold coF csF; rw [h.missing0 hv]
end Go.Gr
