import Derived.Test.YtpgkbipnkkeicaaDoorND
import Derived.Test.YtpgkbipnkkeicaaDoorRd
import Derived.Test.YtpgkbipnkkeicaaDoorSx9
set_option linter.unusedSimpArgs false
set_option linter.unusedVariables false
/-! Natural numbers as values: trim, Right, Compare, Clone. -/
namespace Go.Proofs.YtpgkbipnkkeicaaDoor
open Go Go.Sx Go.Nt

/-- A number as a value. -/
def NatV (I : IH) (v : Value) (n : Nat) : Prop := ∃ A c, v = .slice A (digs n).length c ∧ RdSl I 1 v (digs n).length (U32 (digs n))
theorem NatV.le {I I' : IH} {v : Value} {n : Nat} (h : NatV I v n) (hle : I.le I') : NatV I' v n := let ⟨A, c, h1, h2⟩ := h; ⟨A, c, h1, h2.le hle⟩
theorem NatV.zero (I : IH) : NatV I (.slice none 0 0) 0 := ⟨none, 0, by rw [digs_zero]; rfl, by rw [digs_zero]; exact ⟨rfl, none, 0, rfl, Nat.le_refl _, by simp [maxLen], fun h => absurd h (by simp)⟩⟩
theorem RdSl.short {I : IH} {A : Option Addr} {l : List Nat} {c : Nat} (h : RdSl I 1 (.slice A l.length c) l.length (U32 l)) {k : Nat} (hk : k ≤ l.length) : RdSl I 1 (.slice A (l.take k).length c) (l.take k).length (U32 (l.take k)) := by
  obtain ⟨h1, A', c', h2, h3, h4, h5⟩ := h
  cases h2
  refine ⟨by simp [U32], A, c, rfl, by simp; omega, h4, fun h0 => ?_⟩
  obtain ⟨ad, e, hc⟩ := h5 (by simp at h0; omega)
  refine ⟨ad, e, fun j u hu => hc j u ?_⟩
  simp only [U32, List.map_take, List.getElem?_take] at hu
  split at hu
  · exact hu
  · cases hu
theorem NatV.of {I : IH} {A : Option Addr} {l : List Nat} {c : Nat} (hl : Sm l) (h : RdSl I 1 (.slice A l.length c) l.length (U32 l)) : NatV I (.slice A (digs (val l)).length c) (val l) := by
  obtain ⟨h1, h2, _⟩ := digs_take hl
  have := RdSl.short h h1
  rw [h2] at this
  exact ⟨A, c, rfl, this⟩

set_option maxRecDepth 100000 in
theorem trim_c (I : IH) (A : Option Addr) (c : Nat) (l : List Nat) (hl : Sm l) (h : RdSl I 1 (.slice A l.length c) l.length (U32 l)) :
    PFn Tryd.prog 23 #[.slice A l.length c] I fun v I' => v = .slice A (digs (val l)).length c ∧ I' = I := by
  have hcap := h.cap
  obtain ⟨hd1, hd2, hd3⟩ := digs_take hl
  have hlast : val l ≠ 0 → l.getD ((digs (val l)).length - 1) 0 ≠ 0 := fun h0 => by
    obtain ⟨h1, h2⟩ := digs_last h0
    have e : (l.take (digs (val l)).length).getD ((digs (val l)).length - 1) 0 = l.getD ((digs (val l)).length - 1) 0 := by
      rw [List.getD_eq_getElem?_getD, List.getD_eq_getElem?_getD, List.getElem?_take, if_pos (by omega)]
    rw [hd2] at e
    rw [← e]
    exact h2
  have hz : (digs (val l)).length = 0 ↔ val l = 0 := digs_eq_nil
  generalize (digs (val l)).length = dl at *
  refine Fn.intro (n := 21) (args := [.slice A l.length c]) (by kernel_rfl) Tryd.func23 rfl Tryd.ntmps23 (Nat.le_of_ble_eq_true rfl) [(0, .slice A l.length c)] rfl (fun w0 => ?_)
  repeat' (first
    | (refine SyC.seq ?_)
    | (refine SyC.region ?_)
    | (refine SyL.nil ?_)
    | (refine Then.norm ?_)
    | (refine SyC.block ?_)
    | (refine SyL.light (LV.move rfl) Rq.nil (by first | (apply Wn.none; rfl) | (refine Wn.yes rfl rfl rfl ?_; first | assumption | (with_reducible rfl) | decide | (simp only [decide_eq_true_eq, decide_eq_false_iff_not, Bool.not_eq_true', Bool.not_eq_false', beq_iff_eq, bne_iff_ne, ne_eq, beq_eq_false_iff_ne, bne_eq_false_iff_eq, Int.not_lt, Int.not_le, Bool.true_eq_false, Bool.false_eq_true, tb_one, tb_zero]; omega))) rfl (ltB rfl) ?_)
    | (refine SyL.light (LV.assign rfl) Rq.nil (by first | (apply Wn.none; rfl) | (refine Wn.yes rfl rfl rfl ?_; first | assumption | (with_reducible rfl) | decide | (simp only [decide_eq_true_eq, decide_eq_false_iff_not, Bool.not_eq_true', Bool.not_eq_false', beq_iff_eq, bne_iff_ne, ne_eq, beq_eq_false_iff_ne, bne_eq_false_iff_eq, Int.not_lt, Int.not_le, Bool.true_eq_false, Bool.false_eq_true, tb_one, tb_zero]; omega))) rfl (ltB rfl) ?_)
    | (refine SyL.light (LV.len (by apply rfl)) Rq.nil (by first | (apply Wn.none; rfl) | (refine Wn.yes rfl rfl rfl ?_; first | assumption | (with_reducible rfl) | decide | (simp only [decide_eq_true_eq, decide_eq_false_iff_not, Bool.not_eq_true', Bool.not_eq_false', beq_iff_eq, bne_iff_ne, ne_eq, beq_eq_false_iff_ne, bne_eq_false_iff_eq, Int.not_lt, Int.not_le, Bool.true_eq_false, Bool.false_eq_true, tb_one, tb_zero]; omega))) rfl (ltB rfl) ?_))
  refine SyC.loop (fun m env I' rs => ∃ k, m = k ∧ dl ≤ k ∧ k ≤ l.length ∧ I' = I ∧ rs = [] ∧ env = [(3, .int .i64 (k : Nat)), (0, .slice A l.length c)]) l.length _ (by repeat (first | exact trivial | refine ⟨rfl, ?_⟩)) ⟨l.length, rfl, hd1, Nat.le_refl _, rfl, rfl, rfl⟩ ?_
  rintro k env I' rs ⟨_, rfl, hk1, hk2, rfl, rfl, rfl⟩
  by_cases hk : dl < k
  · obtain ⟨j, rfl⟩ : ∃ j, k = j + 1 := ⟨k - 1, by omega⟩
    have hz0 := hd3 j (by omega)
    have hg : (U32 l)[j]? = some (.int .u32 (0 : Nat)) := by rw [U32_get (by omega), hz0]
    obtain ⟨ad, rfl⟩ := h.addr (by omega)
    repeat' (first
      | (rw [show (((j + 1 : Nat) : Int) - 1) = (j : Int) from by omega])
      | (refine SyC.seq ?_)
      | (refine SyC.region ?_)
      | (refine SyL.nil ?_)
      | (refine Then.norm ?_)
      | (refine InB.norm ?_)
      | (refine SyC.block ?_)
      | (refine SyC.skip ?_)
      | (refine SyL.light (LV.move rfl) Rq.nil (by first | (apply Wn.none; rfl) | (refine Wn.yes rfl rfl rfl ?_; first | assumption | (with_reducible rfl) | decide | (simp only [decide_eq_true_eq, decide_eq_false_iff_not, Bool.not_eq_true', Bool.not_eq_false', beq_iff_eq, bne_iff_ne, ne_eq, beq_eq_false_iff_ne, bne_eq_false_iff_eq, Int.not_lt, Int.not_le, Bool.true_eq_false, Bool.false_eq_true, tb_one, tb_zero]; omega))) rfl (ltB rfl) ?_)
      | (refine SyL.light (LV.assign rfl) Rq.nil (by first | (apply Wn.none; rfl) | (refine Wn.yes rfl rfl rfl ?_; first | assumption | (with_reducible rfl) | decide | (simp only [decide_eq_true_eq, decide_eq_false_iff_not, Bool.not_eq_true', Bool.not_eq_false', beq_iff_eq, bne_iff_ne, ne_eq, beq_eq_false_iff_ne, bne_eq_false_iff_eq, Int.not_lt, Int.not_le, Bool.true_eq_false, Bool.false_eq_true, tb_one, tb_zero]; omega))) rfl (ltB rfl) ?_)
      | (refine SyL.light (LV.cmp rfl rfl rfl) Rq.nil (by first | (apply Wn.none; rfl) | (refine Wn.yes rfl rfl rfl ?_; first | assumption | (with_reducible rfl) | decide | (simp only [decide_eq_true_eq, decide_eq_false_iff_not, Bool.not_eq_true', Bool.not_eq_false', beq_iff_eq, bne_iff_ne, ne_eq, beq_eq_false_iff_ne, bne_eq_false_iff_eq, Int.not_lt, Int.not_le, Bool.true_eq_false, Bool.false_eq_true, tb_one, tb_zero]; omega))) rfl (ltB rfl) ?_)
      | (refine SyL.light (LV.arN rfl rfl rfl (by simp only [Fits]; omega)) Rq.nil (by first | (apply Wn.none; rfl) | (refine Wn.yes rfl rfl rfl ?_; first | assumption | (with_reducible rfl) | decide | (simp only [decide_eq_true_eq, decide_eq_false_iff_not, Bool.not_eq_true', Bool.not_eq_false', beq_iff_eq, bne_iff_ne, ne_eq, beq_eq_false_iff_ne, bne_eq_false_iff_eq, Int.not_lt, Int.not_le, Bool.true_eq_false, Bool.false_eq_true, tb_one, tb_zero]; omega))) rfl (ltB rfl) ?_)
      | (refine SyL.light (LV.pickT rfl (by first | assumption | (with_reducible rfl) | decide | (simp only [decide_eq_true_eq, decide_eq_false_iff_not, Bool.not_eq_true', Bool.not_eq_false', beq_iff_eq, bne_iff_ne, ne_eq, beq_eq_false_iff_ne, bne_eq_false_iff_eq, Int.not_lt, Int.not_le, Bool.true_eq_false, Bool.false_eq_true, tb_one, tb_zero]; omega)) rfl) Rq.nil (by first | (apply Wn.none; rfl) | (refine Wn.yes rfl rfl rfl ?_; first | assumption | (with_reducible rfl) | decide | (simp only [decide_eq_true_eq, decide_eq_false_iff_not, Bool.not_eq_true', Bool.not_eq_false', beq_iff_eq, bne_iff_ne, ne_eq, beq_eq_false_iff_ne, bne_eq_false_iff_eq, Int.not_lt, Int.not_le, Bool.true_eq_false, Bool.false_eq_true, tb_one, tb_zero]; omega))) rfl (ltB rfl) ?_)
      | (refine SyL.light (LV.idxN (by apply rfl) (by apply rfl) (by omega)) Rq.nil (by first | (apply Wn.none; rfl) | (refine Wn.yes rfl rfl rfl ?_; first | assumption | (with_reducible rfl) | decide | (simp only [decide_eq_true_eq, decide_eq_false_iff_not, Bool.not_eq_true', Bool.not_eq_false', beq_iff_eq, bne_iff_ne, ne_eq, beq_eq_false_iff_ne, bne_eq_false_iff_eq, Int.not_lt, Int.not_le, Bool.true_eq_false, Bool.false_eq_true, tb_one, tb_zero]; omega))) rfl (ltB rfl) ?_)
      | (refine SyL.light (LV.load rfl) (Rq.imm (RdSl.at h hg)) (by first | (apply Wn.none; rfl) | (refine Wn.yes rfl rfl rfl ?_; first | assumption | (with_reducible rfl) | decide | (simp only [decide_eq_true_eq, decide_eq_false_iff_not, Bool.not_eq_true', Bool.not_eq_false', beq_iff_eq, bne_iff_ne, ne_eq, beq_eq_false_iff_ne, bne_eq_false_iff_eq, Int.not_lt, Int.not_le, Bool.true_eq_false, Bool.false_eq_true, tb_one, tb_zero]; omega))) rfl (ltB rfl) ?_)
      | (refine SyC.condT rfl (by first | assumption | (with_reducible rfl) | decide | (simp only [decide_eq_true_eq, decide_eq_false_iff_not, Bool.not_eq_true', Bool.not_eq_false', beq_iff_eq, bne_iff_ne, ne_eq, beq_eq_false_iff_ne, bne_eq_false_iff_eq, Int.not_lt, Int.not_le, Bool.true_eq_false, Bool.false_eq_true, tb_one, tb_zero]; omega)) ?_))
    exact ⟨j, _, by omega, (by repeat (first | exact trivial | refine ⟨rfl, ?_⟩)), j, rfl, by omega, by omega, rfl, rfl, rfl⟩
  · obtain rfl : dl = k := by omega
    by_cases h0 : dl = 0
    · repeat' (first
        | (refine SyC.seq ?_)
        | (refine SyC.region ?_)
        | (refine SyL.nil ?_)
        | (refine Then.norm ?_)
        | (refine Then.exit ?_)
        | (refine InB.hit ?_)
        | (refine SyC.exit ?_)
        | (refine SyC.ret ?_)
        | (refine SyL.light (LV.move rfl) Rq.nil (by first | (apply Wn.none; rfl) | (refine Wn.yes rfl rfl rfl ?_; first | assumption | (with_reducible rfl) | decide | (simp only [decide_eq_true_eq, decide_eq_false_iff_not, Bool.not_eq_true', Bool.not_eq_false', beq_iff_eq, bne_iff_ne, ne_eq, beq_eq_false_iff_ne, bne_eq_false_iff_eq, Int.not_lt, Int.not_le, Bool.true_eq_false, Bool.false_eq_true, tb_one, tb_zero]; omega))) rfl (ltB rfl) ?_)
        | (refine SyL.light (LV.assign rfl) Rq.nil (by first | (apply Wn.none; rfl) | (refine Wn.yes rfl rfl rfl ?_; first | assumption | (with_reducible rfl) | decide | (simp only [decide_eq_true_eq, decide_eq_false_iff_not, Bool.not_eq_true', Bool.not_eq_false', beq_iff_eq, bne_iff_ne, ne_eq, beq_eq_false_iff_ne, bne_eq_false_iff_eq, Int.not_lt, Int.not_le, Bool.true_eq_false, Bool.false_eq_true, tb_one, tb_zero]; omega))) rfl (ltB rfl) ?_)
        | (refine SyL.offT rfl rfl rfl (by first | assumption | (with_reducible rfl) | decide | (simp only [decide_eq_true_eq, decide_eq_false_iff_not, Bool.not_eq_true', Bool.not_eq_false', beq_iff_eq, bne_iff_ne, ne_eq, beq_eq_false_iff_ne, bne_eq_false_iff_eq, Int.not_lt, Int.not_le, Bool.true_eq_false, Bool.false_eq_true, tb_one, tb_zero]; omega)) rfl (ltB rfl) ?_)
        | (refine SyL.light (LV.cmp rfl rfl rfl) Rq.nil (by first | (apply Wn.none; rfl) | (refine Wn.yes rfl rfl rfl ?_; first | assumption | (with_reducible rfl) | decide | (simp only [decide_eq_true_eq, decide_eq_false_iff_not, Bool.not_eq_true', Bool.not_eq_false', beq_iff_eq, bne_iff_ne, ne_eq, beq_eq_false_iff_ne, bne_eq_false_iff_eq, Int.not_lt, Int.not_le, Bool.true_eq_false, Bool.false_eq_true, tb_one, tb_zero]; omega))) rfl (ltB rfl) ?_)
        | (refine SyL.light (LV.pickF rfl (by first | assumption | (with_reducible rfl) | decide | (simp only [decide_eq_true_eq, decide_eq_false_iff_not, Bool.not_eq_true', Bool.not_eq_false', beq_iff_eq, bne_iff_ne, ne_eq, beq_eq_false_iff_ne, bne_eq_false_iff_eq, Int.not_lt, Int.not_le, Bool.true_eq_false, Bool.false_eq_true, tb_one, tb_zero]; omega)) rfl) Rq.nil (by first | (apply Wn.none; rfl) | (refine Wn.yes rfl rfl rfl ?_; first | assumption | (with_reducible rfl) | decide | (simp only [decide_eq_true_eq, decide_eq_false_iff_not, Bool.not_eq_true', Bool.not_eq_false', beq_iff_eq, bne_iff_ne, ne_eq, beq_eq_false_iff_ne, bne_eq_false_iff_eq, Int.not_lt, Int.not_le, Bool.true_eq_false, Bool.false_eq_true, tb_one, tb_zero]; omega))) rfl (ltB rfl) ?_)
        | (refine SyL.light (LV.sliceHN (by apply rfl) (by apply rfl) (by omega)) Rq.nil (by first | (apply Wn.none; rfl) | (refine Wn.yes rfl rfl rfl ?_; first | assumption | (with_reducible rfl) | decide | (simp only [decide_eq_true_eq, decide_eq_false_iff_not, Bool.not_eq_true', Bool.not_eq_false', beq_iff_eq, bne_iff_ne, ne_eq, beq_eq_false_iff_ne, bne_eq_false_iff_eq, Int.not_lt, Int.not_le, Bool.true_eq_false, Bool.false_eq_true, tb_one, tb_zero]; omega))) rfl (ltB rfl) ?_)
        | (refine SyC.condF rfl (by first | assumption | (with_reducible rfl) | decide | (simp only [decide_eq_true_eq, decide_eq_false_iff_not, Bool.not_eq_true', Bool.not_eq_false', beq_iff_eq, bne_iff_ne, ne_eq, beq_eq_false_iff_ne, bne_eq_false_iff_eq, Int.not_lt, Int.not_le, Bool.true_eq_false, Bool.false_eq_true, tb_one, tb_zero]; omega)) ?_))
      refine Ret.one (by simp) Tryd.results23 (.tmp rfl) ?_
      exact ⟨rfl, rfl, rfl⟩
    · obtain ⟨j, rfl⟩ : ∃ j, dl = j + 1 := ⟨dl - 1, by omega⟩
      have hne := hlast (fun e => h0 (hz.2 e))
      rw [Nat.add_sub_cancel] at hne
      obtain ⟨ad, rfl⟩ := h.addr (by omega)
      have hg := U32_get (l := l) (j := j) (by omega)
      generalize l.getD j 0 = x at hne hg
      have hx0 : ((x : Int) == 0) = false := by simp; omega
      repeat' (first
        | (rw [show (((j + 1 : Nat) : Int) - 1) = (j : Int) from by omega])
        | (refine SyC.seq ?_)
        | (refine SyC.region ?_)
        | (refine SyL.nil ?_)
        | (refine Then.norm ?_)
        | (refine Then.exit ?_)
        | (refine InB.hit ?_)
        | (refine SyC.exit ?_)
        | (refine SyC.ret ?_)
        | (refine SyL.light (LV.move rfl) Rq.nil (by first | (apply Wn.none; rfl) | (refine Wn.yes rfl rfl rfl ?_; first | assumption | (with_reducible rfl) | decide | (simp only [decide_eq_true_eq, decide_eq_false_iff_not, Bool.not_eq_true', Bool.not_eq_false', beq_iff_eq, bne_iff_ne, ne_eq, beq_eq_false_iff_ne, bne_eq_false_iff_eq, Int.not_lt, Int.not_le, Bool.true_eq_false, Bool.false_eq_true, tb_one, tb_zero]; omega))) rfl (ltB rfl) ?_)
        | (refine SyL.light (LV.assign rfl) Rq.nil (by first | (apply Wn.none; rfl) | (refine Wn.yes rfl rfl rfl ?_; first | assumption | (with_reducible rfl) | decide | (simp only [decide_eq_true_eq, decide_eq_false_iff_not, Bool.not_eq_true', Bool.not_eq_false', beq_iff_eq, bne_iff_ne, ne_eq, beq_eq_false_iff_ne, bne_eq_false_iff_eq, Int.not_lt, Int.not_le, Bool.true_eq_false, Bool.false_eq_true, tb_one, tb_zero]; omega))) rfl (ltB rfl) ?_)
        | (refine SyL.light (LV.cmp rfl rfl rfl) Rq.nil (by first | (apply Wn.none; rfl) | (refine Wn.yes rfl rfl rfl ?_; first | assumption | (with_reducible rfl) | decide | (simp only [decide_eq_true_eq, decide_eq_false_iff_not, Bool.not_eq_true', Bool.not_eq_false', beq_iff_eq, bne_iff_ne, ne_eq, beq_eq_false_iff_ne, bne_eq_false_iff_eq, Int.not_lt, Int.not_le, Bool.true_eq_false, Bool.false_eq_true, tb_one, tb_zero]; omega))) rfl (ltB rfl) ?_)
        | (refine SyL.light (LV.arN rfl rfl rfl (by simp only [Fits]; omega)) Rq.nil (by first | (apply Wn.none; rfl) | (refine Wn.yes rfl rfl rfl ?_; first | assumption | (with_reducible rfl) | decide | (simp only [decide_eq_true_eq, decide_eq_false_iff_not, Bool.not_eq_true', Bool.not_eq_false', beq_iff_eq, bne_iff_ne, ne_eq, beq_eq_false_iff_ne, bne_eq_false_iff_eq, Int.not_lt, Int.not_le, Bool.true_eq_false, Bool.false_eq_true, tb_one, tb_zero]; omega))) rfl (ltB rfl) ?_)
        | (refine SyL.light (LV.pickT rfl (by first | assumption | (with_reducible rfl) | decide | (simp only [decide_eq_true_eq, decide_eq_false_iff_not, Bool.not_eq_true', Bool.not_eq_false', beq_iff_eq, bne_iff_ne, ne_eq, beq_eq_false_iff_ne, bne_eq_false_iff_eq, Int.not_lt, Int.not_le, Bool.true_eq_false, Bool.false_eq_true, tb_one, tb_zero]; omega)) rfl) Rq.nil (by first | (apply Wn.none; rfl) | (refine Wn.yes rfl rfl rfl ?_; first | assumption | (with_reducible rfl) | decide | (simp only [decide_eq_true_eq, decide_eq_false_iff_not, Bool.not_eq_true', Bool.not_eq_false', beq_iff_eq, bne_iff_ne, ne_eq, beq_eq_false_iff_ne, bne_eq_false_iff_eq, Int.not_lt, Int.not_le, Bool.true_eq_false, Bool.false_eq_true, tb_one, tb_zero]; omega))) rfl (ltB rfl) ?_)
        | (refine SyL.light (LV.idxN (by apply rfl) (by apply rfl) (by omega)) Rq.nil (by first | (apply Wn.none; rfl) | (refine Wn.yes rfl rfl rfl ?_; first | assumption | (with_reducible rfl) | decide | (simp only [decide_eq_true_eq, decide_eq_false_iff_not, Bool.not_eq_true', Bool.not_eq_false', beq_iff_eq, bne_iff_ne, ne_eq, beq_eq_false_iff_ne, bne_eq_false_iff_eq, Int.not_lt, Int.not_le, Bool.true_eq_false, Bool.false_eq_true, tb_one, tb_zero]; omega))) rfl (ltB rfl) ?_)
        | (refine SyL.light (LV.sliceHN (by apply rfl) (by apply rfl) (by omega)) Rq.nil (by first | (apply Wn.none; rfl) | (refine Wn.yes rfl rfl rfl ?_; first | assumption | (with_reducible rfl) | decide | (simp only [decide_eq_true_eq, decide_eq_false_iff_not, Bool.not_eq_true', Bool.not_eq_false', beq_iff_eq, bne_iff_ne, ne_eq, beq_eq_false_iff_ne, bne_eq_false_iff_eq, Int.not_lt, Int.not_le, Bool.true_eq_false, Bool.false_eq_true, tb_one, tb_zero]; omega))) rfl (ltB rfl) ?_)
        | (refine SyL.light (LV.load rfl) (Rq.imm (RdSl.at h hg)) (by first | (apply Wn.none; rfl) | (refine Wn.yes rfl rfl rfl ?_; first | assumption | (with_reducible rfl) | decide | (simp only [decide_eq_true_eq, decide_eq_false_iff_not, Bool.not_eq_true', Bool.not_eq_false', beq_iff_eq, bne_iff_ne, ne_eq, beq_eq_false_iff_ne, bne_eq_false_iff_eq, Int.not_lt, Int.not_le, Bool.true_eq_false, Bool.false_eq_true, tb_one, tb_zero]; omega))) rfl (ltB rfl) ?_)
        | (refine SyC.condF rfl (by first | assumption | (with_reducible rfl) | decide | (simp only [decide_eq_true_eq, decide_eq_false_iff_not, Bool.not_eq_true', Bool.not_eq_false', beq_iff_eq, bne_iff_ne, ne_eq, beq_eq_false_iff_ne, bne_eq_false_iff_eq, Int.not_lt, Int.not_le, Bool.true_eq_false, Bool.false_eq_true, tb_one, tb_zero]; omega)) ?_))
      refine Ret.one (by simp) Tryd.results23 (.tmp rfl) ?_
      exact ⟨rfl, rfl, rfl⟩
end Go.Proofs.YtpgkbipnkkeicaaDoor
