import Derived.Test.YtpgkbipnkkeicaaL4
set_option linter.unusedSimpArgs false
set_option linter.unusedVariables false
/-! Costs are small; the first one that is right. -/
namespace Go.Gr
open Go Go.Sx Go.Proofs.Ytpgkbipnkkeicaa

theorem popN_lt (f : Nat) : ∀ (k x : Nat), x < 2 ^ k → popN f x ≤ k := by
  induction f with
  | zero => intro k x _; simp [popN]
  | succ f ih =>
    intro k x hx
    cases k with
    | zero =>
      have : x = 0 := by simpa using hx
      subst this
      rw [popN_zero]
      omega
    | succ k =>
      simp only [popN]
      have := ih k (x / 2) (by rw [Nat.pow_succ] at hx; omega)
      omega
attribute [local irreducible] popN
theorem degN_le {n : Nat} {ss : List (List Nat)} (hn : n ≤ 16) (hs : Scopes n ss) {v gone : Nat} (hv : v < n) : degN (GS n ss) n v gone ≤ n := by
  have hr := Rel.start hn hs
  unfold degN
  refine popN_lt 32 n _ ?_
  refine Nat.lt_of_le_of_lt (Nat.le_trans (clr_lt _ _) Nat.and_le_left) ?_
  refine Nat.lt_pow_two_of_testBit _ fun i hi => ?_
  have h := DInv.run (GS n ss) n gone v n
  cases hx : (dRun (GS n ss) n gone v n).near.testBit i
  · rfl
  · obtain ⟨x, _, hb⟩ := (h.near i).1 hx
    have := hr.sm x i hb
    omega
/-- the cost of both -/
def dCost (n : Nat) (ss : List (List Nat)) : Nat → Nat → Nat := fun v out => degN (GS n ss) n v out
theorem nRow_zero (c : Nat → Nat → Nat) (n : Nat) (W : List Nat) (out : Nat) : nRow c n W out 0 = n := rfl
theorem nRow_succ (c : Nat → Nat → Nat) (n : Nat) (W : List Nat) (out k : Nat) : nRow c n W out (k + 1) = if out.testBit k = true then nRow c n W out k else min (nRow c n W out k) (nCost c W out k) := rfl
theorem nTab_succ (c : Nat → Nat → Nat) (n j : Nat) : nTab c n (j + 1) = (nTab c n j).set (nAt n j) (nRow c n (nTab c n j) (nAt n j) n) := rfl
theorem bRun_succ (c : Nat → Nat → Nat) (n : Nat) (W : List Nat) (i : Nat) : bRun c n W (i + 1) = ⟨(bRun c n W i).ord ++ [(bPick c n W (bRun c n W i).out).getD 0], (bRun c n W i).out ||| 2 ^ (bPick c n W (bRun c n W i).out).getD 0⟩ := rfl
theorem bPick_first {c : Nat → Nat → Nat} {n : Nat} {W : List Nat} {out v : Nat} (h : bPick c n W out = some v) : ∀ k, k < v → bOK c W out k = false := by
  intro k hk
  unfold bPick at h
  rw [List.find?_range_eq_some] at h
  have := h.2.2 k hk
  simpa using this
theorem getD_set_self (W : List Nat) (i x : Nat) (h : i < W.length) : (W.set i x).getD i 0 = x := by
  rw [List.getD_eq_getElem?_getD, List.getElem?_set_self h]; rfl
theorem out_lt_or {n out k : Nat} (ho : out < 2 ^ n) (hk : k < n) : out ||| 2 ^ k < 2 ^ n := or_lt ho hk
end Go.Gr
