import Derived.Test.YtpgkbipnkkeicaaDoorN1
import Derived.Test.YtpgkbipnkkeicaaDoorSx10
set_option linter.unusedSimpArgs false
set_option linter.unusedVariables false
/-! Right, Compare, Clone. -/
namespace Go.Proofs.YtpgkbipnkkeicaaDoor
open Go Go.Sx Go.Nt

theorem trimN_c (I : IH) (A : Option Addr) (c n : Nat) (h : RdSl I 1 (.slice A (digs n).length c) (digs n).length (U32 (digs n))) :
    PFn Tryd.prog 23 #[.slice A (digs n).length c] I fun v I' => v = .slice A (digs n).length c ∧ I' = I := by
  have := trim_c I A c (digs n) (digs_sm n) h
  rwa [val_digs] at this

set_option maxRecDepth 100000 in
theorem natRight_c (I : IH) (v : Value) (n : Nat) (h : NatV I v n) : PFn Tryd.prog 7 #[v] I fun r I' => r = .bool true ∧ I' = I := by
  obtain ⟨A, c, rfl, h⟩ := h
  have hcap := h.cap
  have hlast := fun h0 => digs_last (n := n) h0
  have hz : (digs n).length = 0 ↔ n = 0 := digs_eq_nil
  generalize digs n = l at *
  refine Fn.intro (n := 15) (args := [.slice A l.length c]) (by kernel_rfl) Tryd.func7 rfl Tryd.ntmps7 (Nat.le_of_ble_eq_true rfl) [(0, .slice A l.length c)] rfl (fun w0 => ?_)
  by_cases h0 : l.length = 0
  · repeat' (first
      | (refine SyC.seq ?_)
      | (refine SyC.region ?_)
      | (refine SyL.nil ?_)
      | (refine Then.norm ?_)
      | (refine SyC.ret ?_)
      | (refine SyL.light (LV.move rfl) Rq.nil (by first | (apply Wn.none; rfl) | (refine Wn.yes rfl rfl rfl ?_; first | assumption | (with_reducible rfl) | decide | (simp only [decide_eq_true_eq, decide_eq_false_iff_not, Bool.not_eq_true', Bool.not_eq_false', beq_iff_eq, bne_iff_ne, ne_eq, beq_eq_false_iff_ne, bne_eq_false_iff_eq, Int.not_lt, Int.not_le, Bool.true_eq_false, Bool.false_eq_true, tb_one, tb_zero]; omega))) rfl (ltB rfl) ?_)
      | (refine SyL.light (LV.assign rfl) Rq.nil (by first | (apply Wn.none; rfl) | (refine Wn.yes rfl rfl rfl ?_; first | assumption | (with_reducible rfl) | decide | (simp only [decide_eq_true_eq, decide_eq_false_iff_not, Bool.not_eq_true', Bool.not_eq_false', beq_iff_eq, bne_iff_ne, ne_eq, beq_eq_false_iff_ne, bne_eq_false_iff_eq, Int.not_lt, Int.not_le, Bool.true_eq_false, Bool.false_eq_true, tb_one, tb_zero]; omega))) rfl (ltB rfl) ?_)
      | (refine SyL.offF rfl rfl rfl (by first | assumption | (with_reducible rfl) | decide | (simp only [decide_eq_true_eq, decide_eq_false_iff_not, Bool.not_eq_true', Bool.not_eq_false', beq_iff_eq, bne_iff_ne, ne_eq, beq_eq_false_iff_ne, bne_eq_false_iff_eq, Int.not_lt, Int.not_le, Bool.true_eq_false, Bool.false_eq_true, tb_one, tb_zero]; omega)) rfl (ltB rfl) ?_)
      | (refine SyL.light (LV.len (by apply rfl)) Rq.nil (by first | (apply Wn.none; rfl) | (refine Wn.yes rfl rfl rfl ?_; first | assumption | (with_reducible rfl) | decide | (simp only [decide_eq_true_eq, decide_eq_false_iff_not, Bool.not_eq_true', Bool.not_eq_false', beq_iff_eq, bne_iff_ne, ne_eq, beq_eq_false_iff_ne, bne_eq_false_iff_eq, Int.not_lt, Int.not_le, Bool.true_eq_false, Bool.false_eq_true, tb_one, tb_zero]; omega))) rfl (ltB rfl) ?_)
      | (refine SyL.light (LV.cmp rfl rfl rfl) Rq.nil (by first | (apply Wn.none; rfl) | (refine Wn.yes rfl rfl rfl ?_; first | assumption | (with_reducible rfl) | decide | (simp only [decide_eq_true_eq, decide_eq_false_iff_not, Bool.not_eq_true', Bool.not_eq_false', beq_iff_eq, bne_iff_ne, ne_eq, beq_eq_false_iff_ne, bne_eq_false_iff_eq, Int.not_lt, Int.not_le, Bool.true_eq_false, Bool.false_eq_true, tb_one, tb_zero]; omega))) rfl (ltB rfl) ?_)
      | (refine SyL.light (LV.pickT rfl (by first | assumption | (with_reducible rfl) | decide | (simp only [decide_eq_true_eq, decide_eq_false_iff_not, Bool.not_eq_true', Bool.not_eq_false', beq_iff_eq, bne_iff_ne, ne_eq, beq_eq_false_iff_ne, bne_eq_false_iff_eq, Int.not_lt, Int.not_le, Bool.true_eq_false, Bool.false_eq_true, tb_one, tb_zero]; omega)) rfl) Rq.nil (by first | (apply Wn.none; rfl) | (refine Wn.yes rfl rfl rfl ?_; first | assumption | (with_reducible rfl) | decide | (simp only [decide_eq_true_eq, decide_eq_false_iff_not, Bool.not_eq_true', Bool.not_eq_false', beq_iff_eq, bne_iff_ne, ne_eq, beq_eq_false_iff_ne, bne_eq_false_iff_eq, Int.not_lt, Int.not_le, Bool.true_eq_false, Bool.false_eq_true, tb_one, tb_zero]; omega))) rfl (ltB rfl) ?_))
    refine Ret.one (by simp) Tryd.results7 (.tmp rfl) ?_
    exact ⟨rfl, rfl, rfl⟩
  · obtain ⟨j, hj⟩ : ∃ j, l.length = j + 1 := ⟨l.length - 1, by omega⟩
    have hne := (hlast fun e => h0 (hz.2 e)).2
    rw [hj, Nat.add_sub_cancel] at hne
    obtain ⟨ad, rfl⟩ := h.addr (by omega)
    have hg := U32_get (l := l) (j := j) (by omega)
    generalize l.getD j 0 = x at hne hg
    have hx0 : ((x : Int) != 0) = true := by simp; omega
    repeat' (first
      | (rw [show ((l.length : Int) - 1) = (j : Int) from by omega])
      | (refine SyC.seq ?_)
      | (refine SyC.region ?_)
      | (refine SyL.nil ?_)
      | (refine Then.norm ?_)
      | (refine SyC.ret ?_)
      | (refine SyL.light (LV.move rfl) Rq.nil (by first | (apply Wn.none; rfl) | (refine Wn.yes rfl rfl rfl ?_; first | assumption | (with_reducible rfl) | decide | (simp only [decide_eq_true_eq, decide_eq_false_iff_not, Bool.not_eq_true', Bool.not_eq_false', beq_iff_eq, bne_iff_ne, ne_eq, beq_eq_false_iff_ne, bne_eq_false_iff_eq, Int.not_lt, Int.not_le, Bool.true_eq_false, Bool.false_eq_true, tb_one, tb_zero]; omega))) rfl (ltB rfl) ?_)
      | (refine SyL.light (LV.assign rfl) Rq.nil (by first | (apply Wn.none; rfl) | (refine Wn.yes rfl rfl rfl ?_; first | assumption | (with_reducible rfl) | decide | (simp only [decide_eq_true_eq, decide_eq_false_iff_not, Bool.not_eq_true', Bool.not_eq_false', beq_iff_eq, bne_iff_ne, ne_eq, beq_eq_false_iff_ne, bne_eq_false_iff_eq, Int.not_lt, Int.not_le, Bool.true_eq_false, Bool.false_eq_true, tb_one, tb_zero]; omega))) rfl (ltB rfl) ?_)
      | (refine SyL.light (LV.len (by apply rfl)) Rq.nil (by first | (apply Wn.none; rfl) | (refine Wn.yes rfl rfl rfl ?_; first | assumption | (with_reducible rfl) | decide | (simp only [decide_eq_true_eq, decide_eq_false_iff_not, Bool.not_eq_true', Bool.not_eq_false', beq_iff_eq, bne_iff_ne, ne_eq, beq_eq_false_iff_ne, bne_eq_false_iff_eq, Int.not_lt, Int.not_le, Bool.true_eq_false, Bool.false_eq_true, tb_one, tb_zero]; omega))) rfl (ltB rfl) ?_)
      | (refine SyL.light (LV.cmp rfl rfl rfl) Rq.nil (by first | (apply Wn.none; rfl) | (refine Wn.yes rfl rfl rfl ?_; first | assumption | (with_reducible rfl) | decide | (simp only [decide_eq_true_eq, decide_eq_false_iff_not, Bool.not_eq_true', Bool.not_eq_false', beq_iff_eq, bne_iff_ne, ne_eq, beq_eq_false_iff_ne, bne_eq_false_iff_eq, Int.not_lt, Int.not_le, Bool.true_eq_false, Bool.false_eq_true, tb_one, tb_zero]; omega))) rfl (ltB rfl) ?_)
      | (refine SyL.light (LV.arN rfl rfl rfl (by simp only [Fits]; omega)) Rq.nil (by first | (apply Wn.none; rfl) | (refine Wn.yes rfl rfl rfl ?_; first | assumption | (with_reducible rfl) | decide | (simp only [decide_eq_true_eq, decide_eq_false_iff_not, Bool.not_eq_true', Bool.not_eq_false', beq_iff_eq, bne_iff_ne, ne_eq, beq_eq_false_iff_ne, bne_eq_false_iff_eq, Int.not_lt, Int.not_le, Bool.true_eq_false, Bool.false_eq_true, tb_one, tb_zero]; omega))) rfl (ltB rfl) ?_)
      | (refine SyL.light (LV.pickF rfl (by first | assumption | (with_reducible rfl) | decide | (simp only [decide_eq_true_eq, decide_eq_false_iff_not, Bool.not_eq_true', Bool.not_eq_false', beq_iff_eq, bne_iff_ne, ne_eq, beq_eq_false_iff_ne, bne_eq_false_iff_eq, Int.not_lt, Int.not_le, Bool.true_eq_false, Bool.false_eq_true, tb_one, tb_zero]; omega)) rfl) Rq.nil (by first | (apply Wn.none; rfl) | (refine Wn.yes rfl rfl rfl ?_; first | assumption | (with_reducible rfl) | decide | (simp only [decide_eq_true_eq, decide_eq_false_iff_not, Bool.not_eq_true', Bool.not_eq_false', beq_iff_eq, bne_iff_ne, ne_eq, beq_eq_false_iff_ne, bne_eq_false_iff_eq, Int.not_lt, Int.not_le, Bool.true_eq_false, Bool.false_eq_true, tb_one, tb_zero]; omega))) rfl (ltB rfl) ?_)
      | (refine SyL.light (LV.idxN (by apply rfl) (by apply rfl) (by omega)) Rq.nil (by first | (apply Wn.none; rfl) | (refine Wn.yes rfl rfl rfl ?_; first | assumption | (with_reducible rfl) | decide | (simp only [decide_eq_true_eq, decide_eq_false_iff_not, Bool.not_eq_true', Bool.not_eq_false', beq_iff_eq, bne_iff_ne, ne_eq, beq_eq_false_iff_ne, bne_eq_false_iff_eq, Int.not_lt, Int.not_le, Bool.true_eq_false, Bool.false_eq_true, tb_one, tb_zero]; omega))) rfl (ltB rfl) ?_)
      | (refine SyL.light (LV.load rfl) (Rq.imm (RdSl.at h hg)) (by first | (apply Wn.none; rfl) | (refine Wn.yes rfl rfl rfl ?_; first | assumption | (with_reducible rfl) | decide | (simp only [decide_eq_true_eq, decide_eq_false_iff_not, Bool.not_eq_true', Bool.not_eq_false', beq_iff_eq, bne_iff_ne, ne_eq, beq_eq_false_iff_ne, bne_eq_false_iff_eq, Int.not_lt, Int.not_le, Bool.true_eq_false, Bool.false_eq_true, tb_one, tb_zero]; omega))) rfl (ltB rfl) ?_))
    refine Ret.one (by simp) Tryd.results7 (.tmp rfl) ?_
    exact ⟨rfl, by rw [hx0], rfl⟩

def cmpN (x y : Nat) : Int := if x < y then -1 else if y < x then 1 else 0
set_option maxRecDepth 100000 in
set_option maxHeartbeats 1000000 in
theorem natCompare_c (I : IH) (u v : Value) (x y : Nat) (hu : NatV I u x) (hv : NatV I v y) : PFn Tryd.prog 9 #[u, v] I fun r I' => r = .int .i64 (cmpN x y) ∧ I' = I := by
  obtain ⟨A, c, rfl, hu⟩ := hu
  obtain ⟨B, c', rfl, hv⟩ := hv
  have hcap := hu.cap
  have hcap' := hv.cap
  have t1 := trimN_c I A c x hu
  have t2 := trimN_c I B c' y hv
  have hlt := fun h => lt_of_len (m := x) (n := y) h
  have hgt := fun h => lt_of_len (m := y) (n := x) h
  have hsl := digs_sm x
  have hsm := digs_sm y
  have hval : ∀ k, k < (digs x).length → k < (digs y).length → (digs x).drop (k + 1) = (digs y).drop (k + 1) → (digs x).getD k 0 < (digs y).getD k 0 → x < y := fun k h1 h2 h3 h4 => by
    have := val_lt_of hsl h1 h2 h3 h4; rwa [val_digs, val_digs] at this
  have hval' : ∀ k, k < (digs x).length → k < (digs y).length → (digs x).drop (k + 1) = (digs y).drop (k + 1) → (digs y).getD k 0 < (digs x).getD k 0 → y < x := fun k h1 h2 h3 h4 => by
    have := val_lt_of hsm h2 h1 h3.symm h4; rwa [val_digs, val_digs] at this
  have heq : digs x = digs y → x = y := digs_inj
  generalize digs x = l at *
  generalize digs y = m at *
  refine Fn.intro (n := 49) (args := [.slice A l.length c, .slice B m.length c']) (by kernel_rfl) Tryd.func9 rfl Tryd.ntmps9 (Nat.le_of_ble_eq_true rfl) [(0, .slice A l.length c), (1, .slice B m.length c')] rfl (fun w0 => ?_)
  by_cases h1 : l.length < m.length
  · have := hlt h1
    repeat' (first
      | (refine SyC.seq ?_)
      | (refine SyC.region ?_)
      | (refine SyL.nil ?_)
      | (refine Then.norm ?_)
      | (refine Then.ret ?_)
      | (refine InB.ret ?_)
      | (refine SyC.block ?_)
      | (refine SyC.ret ?_)
      | (refine SyL.light (LV.move rfl) Rq.nil (.none rfl) rfl (ltB rfl) ?_)
      | (refine SyL.light (LV.assign rfl) Rq.nil (.none rfl) rfl (ltB rfl) ?_)
      | (refine SyL.light (LV.len (by apply rfl)) Rq.nil (.none rfl) rfl (ltB rfl) ?_)
      | (refine SyL.light (LV.cmp rfl rfl rfl) Rq.nil (.none rfl) rfl (ltB rfl) ?_)
      | (refine SyL.heavy (OpT.pcall rfl rfl (t1) ?_) (.none rfl) rfl (ltB rfl); rintro v1 I1 - ⟨rfl, rfl⟩)
      | (refine SyL.heavy (OpT.pcall rfl rfl (t2) ?_) (.none rfl) rfl (ltB rfl); rintro v2 I2 - ⟨rfl, rfl⟩)
      | (refine SyC.condT rfl (by first | assumption | (with_reducible rfl) | decide | (simp only [decide_eq_true_eq, decide_eq_false_iff_not, Bool.not_eq_true', Bool.not_eq_false', beq_iff_eq, bne_iff_ne, ne_eq, beq_eq_false_iff_ne, bne_eq_false_iff_eq, Int.not_lt, Int.not_le, Bool.true_eq_false, Bool.false_eq_true, tb_one, tb_zero]; omega)) ?_))
    refine Ret.one (by simp) Tryd.results9 (.tmp rfl) ?_
    exact ⟨rfl, by unfold cmpN; rw [if_pos this], rfl⟩
  by_cases h2 : m.length < l.length
  · have := hgt h2
    repeat' (first
      | (refine SyC.seq ?_)
      | (refine SyC.region ?_)
      | (refine SyL.nil ?_)
      | (refine Then.norm ?_)
      | (refine Then.ret ?_)
      | (refine InB.ret ?_)
      | (refine SyC.block ?_)
      | (refine SyC.ret ?_)
      | (refine SyL.light (LV.move rfl) Rq.nil (.none rfl) rfl (ltB rfl) ?_)
      | (refine SyL.light (LV.assign rfl) Rq.nil (.none rfl) rfl (ltB rfl) ?_)
      | (refine SyL.light (LV.len (by apply rfl)) Rq.nil (.none rfl) rfl (ltB rfl) ?_)
      | (refine SyL.light (LV.cmp rfl rfl rfl) Rq.nil (.none rfl) rfl (ltB rfl) ?_)
      | (refine SyL.heavy (OpT.pcall rfl rfl (t1) ?_) (.none rfl) rfl (ltB rfl); rintro v1 I1 - ⟨rfl, rfl⟩)
      | (refine SyL.heavy (OpT.pcall rfl rfl (t2) ?_) (.none rfl) rfl (ltB rfl); rintro v2 I2 - ⟨rfl, rfl⟩)
      | (refine SyC.condT rfl (by first | assumption | (with_reducible rfl) | decide | (simp only [decide_eq_true_eq, decide_eq_false_iff_not, Bool.not_eq_true', Bool.not_eq_false', beq_iff_eq, bne_iff_ne, ne_eq, beq_eq_false_iff_ne, bne_eq_false_iff_eq, Int.not_lt, Int.not_le, Bool.true_eq_false, Bool.false_eq_true, tb_one, tb_zero]; omega)) ?_)
      | (refine SyC.condF rfl (by first | assumption | (with_reducible rfl) | decide | (simp only [decide_eq_true_eq, decide_eq_false_iff_not, Bool.not_eq_true', Bool.not_eq_false', beq_iff_eq, bne_iff_ne, ne_eq, beq_eq_false_iff_ne, bne_eq_false_iff_eq, Int.not_lt, Int.not_le, Bool.true_eq_false, Bool.false_eq_true, tb_one, tb_zero]; omega)) ?_))
    refine Ret.one (by simp) Tryd.results9 (.tmp rfl) ?_
    exact ⟨rfl, by unfold cmpN; rw [if_neg (by omega), if_pos this], rfl⟩
  have hlm : l.length = m.length := by omega
  repeat' (first
    | (refine SyC.seq ?_)
    | (refine SyC.region ?_)
    | (refine SyL.nil ?_)
    | (refine Then.norm ?_)
    | (refine InB.norm ?_)
    | (refine SyC.block ?_)
    | (refine SyC.skip ?_)
    | (refine SyL.light (LV.move rfl) Rq.nil (.none rfl) rfl (ltB rfl) ?_)
    | (refine SyL.light (LV.assign rfl) Rq.nil (.none rfl) rfl (ltB rfl) ?_)
    | (refine SyL.light (LV.len (by apply rfl)) Rq.nil (.none rfl) rfl (ltB rfl) ?_)
    | (refine SyL.light (LV.cmp rfl rfl rfl) Rq.nil (.none rfl) rfl (ltB rfl) ?_)
    | (refine SyL.light (LV.arN rfl rfl rfl (by simp only [Fits]; omega)) Rq.nil (.none rfl) rfl (ltB rfl) ?_)
    | (refine SyL.heavy (OpT.pcall rfl rfl (t1) ?_) (.none rfl) rfl (ltB rfl); rintro v1 I1 - ⟨rfl, rfl⟩)
    | (refine SyL.heavy (OpT.pcall rfl rfl (t2) ?_) (.none rfl) rfl (ltB rfl); rintro v2 I2 - ⟨rfl, rfl⟩)
    | (refine SyC.condF rfl (by first | assumption | (with_reducible rfl) | decide | (simp only [decide_eq_true_eq, decide_eq_false_iff_not, Bool.not_eq_true', Bool.not_eq_false', beq_iff_eq, bne_iff_ne, ne_eq, beq_eq_false_iff_ne, bne_eq_false_iff_eq, Int.not_lt, Int.not_le, Bool.true_eq_false, Bool.false_eq_true, tb_one, tb_zero]; omega)) ?_))
  refine SyC.loop (fun q env I' rs => ∃ k, q = k ∧ k ≤ l.length ∧ l.drop k = m.drop k ∧ I' = I2 ∧ rs = [] ∧ env = [(5, .int .i64 ((k : Nat) - 1 : Int)), (0, .slice A l.length c), (1, .slice B m.length c')]) l.length _ (by repeat (first | exact trivial | refine ⟨rfl, ?_⟩)) ⟨l.length, rfl, Nat.le_refl _, by rw [List.drop_eq_nil_of_le (Nat.le_refl _), List.drop_eq_nil_of_le (by omega)], rfl, rfl, rfl⟩ ?_
  rintro k env I' rs ⟨_, rfl, hk, hdr, rfl, rfl, rfl⟩
  by_cases h0 : k = 0
  · subst h0
    have := heq (by simpa using hdr)
    repeat' (first
      | (refine SyC.seq ?_)
      | (refine SyC.region ?_)
      | (refine SyL.nil ?_)
      | (refine Then.norm ?_)
      | (refine Then.exit ?_)
      | (refine InB.hit ?_)
      | (refine SyC.exit ?_)
      | (refine SyC.ret ?_)
      | (refine SyL.light (LV.move rfl) Rq.nil (.none rfl) rfl (ltB rfl) ?_)
      | (refine SyL.light (LV.assign rfl) Rq.nil (.none rfl) rfl (ltB rfl) ?_)
      | (refine SyL.light (LV.cmp rfl rfl rfl) Rq.nil (.none rfl) rfl (ltB rfl) ?_)
      | (refine SyC.condF rfl (by first | assumption | (with_reducible rfl) | decide | (simp only [decide_eq_true_eq, decide_eq_false_iff_not, Bool.not_eq_true', Bool.not_eq_false', beq_iff_eq, bne_iff_ne, ne_eq, beq_eq_false_iff_ne, bne_eq_false_iff_eq, Int.not_lt, Int.not_le, Bool.true_eq_false, Bool.false_eq_true, tb_one, tb_zero]; omega)) ?_))
    refine Ret.one (by simp) Tryd.results9 (.tmp rfl) ?_
    exact ⟨rfl, by unfold cmpN; rw [if_neg (by omega), if_neg (by omega)], rfl⟩
  · obtain ⟨j, rfl⟩ : ∃ j, k = j + 1 := ⟨k - 1, by omega⟩
    obtain ⟨ad, rfl⟩ := hu.addr (by omega)
    obtain ⟨bd, rfl⟩ := hv.addr (by omega)
    have ha := hval j (by omega) (by omega) hdr
    have hb := hval' j (by omega) (by omega) hdr
    have hc : l.getD j 0 = m.getD j 0 → l.drop j = m.drop j := fun e => by
      rw [List.drop_eq_getElem_cons (by omega : j < l.length), List.drop_eq_getElem_cons (by omega : j < m.length), hdr]
      congr 1
      simpa [show j < l.length from by omega, show j < m.length from by omega] using e
    have hg := U32_get (l := l) (j := j) (by omega)
    have hg' := U32_get (l := m) (j := j) (by omega)
    clear hval hval' hdr
    generalize l.getD j 0 = p at ha hb hc hg
    generalize m.getD j 0 = q at ha hb hc hg'
    rcases Nat.lt_trichotomy p q with h3 | h3 | h3
    · have := ha h3
      repeat' (first
        | (rw [show (((j + 1 : Nat) : Int) - 1) = (j : Int) from by omega])
        | (refine SyC.seq ?_)
        | (refine SyC.region ?_)
        | (refine SyL.nil ?_)
        | (refine Then.norm ?_)
        | (refine Then.ret ?_)
        | (refine InB.ret ?_)
        | (refine SyC.block ?_)
        | (refine SyC.skip ?_)
        | (refine SyC.ret ?_)
        | (refine SyC.draw (id := 9) (by kernel_rfl) (by kernel_rfl) ?_; refine D.light (i := 0) rfl (.on (.none rfl) (LV.move rfl)) Rq.nil (by kernel_rfl) rfl (ltB rfl) ?_; refine D.light (i := 1) rfl (.on (.none rfl) (LV.move rfl)) Rq.nil (by kernel_rfl) rfl (ltB rfl) ?_; refine D.light (i := 2) rfl (.on (.none rfl) (LV.idxN (by apply rfl) (by apply rfl) (by omega))) Rq.nil (by kernel_rfl) rfl (ltB rfl) ?_; refine D.light (i := 3) rfl (.on (.none rfl) (LV.load rfl)) (Rq.imm (RdSl.at hu hg)) (by kernel_rfl) rfl (ltB rfl) ?_; refine D.light (i := 4) rfl (.on (.none rfl) (LV.move rfl)) Rq.nil (by kernel_rfl) rfl (ltB rfl) ?_; refine D.light (i := 5) rfl (.on (.none rfl) (LV.move rfl)) Rq.nil (by kernel_rfl) rfl (ltB rfl) ?_; refine D.light (i := 6) rfl (.on (.none rfl) (LV.idxN (by apply rfl) (by apply rfl) (by omega))) Rq.nil (by kernel_rfl) rfl (ltB rfl) ?_; refine D.light (i := 7) rfl (.on (.none rfl) (LV.load rfl)) (Rq.imm (RdSl.at hv hg')) (by kernel_rfl) rfl (ltB rfl) ?_; refine D.light (i := 8) rfl (.on (.none rfl) (LV.cmp rfl rfl rfl)) Rq.nil (by kernel_rfl) rfl (ltB rfl) ?_; refine D.light (i := 9) rfl (.on (.none rfl) (LV.assign rfl)) Rq.nil (by kernel_rfl) rfl (ltB rfl) ?_; refine D.fin (by kernel_rfl) ?_)
        | (refine SyL.light (LV.move rfl) Rq.nil (.none rfl) rfl (ltB rfl) ?_)
        | (refine SyL.light (LV.assign rfl) Rq.nil (.none rfl) rfl (ltB rfl) ?_)
        | (refine SyL.light (LV.cmp rfl rfl rfl) Rq.nil (.none rfl) rfl (ltB rfl) ?_)
        | (refine SyC.condT rfl (by first | assumption | (with_reducible rfl) | decide | (simp only [decide_eq_true_eq, decide_eq_false_iff_not, Bool.not_eq_true', Bool.not_eq_false', beq_iff_eq, bne_iff_ne, ne_eq, beq_eq_false_iff_ne, bne_eq_false_iff_eq, Int.not_lt, Int.not_le, Bool.true_eq_false, Bool.false_eq_true, tb_one, tb_zero]; omega)) ?_))
      refine Ret.one (by simp) Tryd.results9 (.tmp rfl) ?_
      exact ⟨rfl, by unfold cmpN; rw [if_pos this], rfl⟩
    · have := hc h3
      repeat' (first
        | (rw [show (((j + 1 : Nat) : Int) - 1) = (j : Int) from by omega])
        | (refine SyC.seq ?_)
        | (refine SyC.region ?_)
        | (refine SyL.nil ?_)
        | (refine Then.norm ?_)
        | (refine InB.norm ?_)
        | (refine SyC.block ?_)
        | (refine SyC.skip ?_)
        | (refine SyC.draw (id := 9) (by kernel_rfl) (by kernel_rfl) ?_; refine D.light (i := 0) rfl (.on (.none rfl) (LV.move rfl)) Rq.nil (by kernel_rfl) rfl (ltB rfl) ?_; refine D.light (i := 1) rfl (.on (.none rfl) (LV.move rfl)) Rq.nil (by kernel_rfl) rfl (ltB rfl) ?_; refine D.light (i := 2) rfl (.on (.none rfl) (LV.idxN (by apply rfl) (by apply rfl) (by omega))) Rq.nil (by kernel_rfl) rfl (ltB rfl) ?_; refine D.light (i := 3) rfl (.on (.none rfl) (LV.load rfl)) (Rq.imm (RdSl.at hu hg)) (by kernel_rfl) rfl (ltB rfl) ?_; refine D.light (i := 4) rfl (.on (.none rfl) (LV.move rfl)) Rq.nil (by kernel_rfl) rfl (ltB rfl) ?_; refine D.light (i := 5) rfl (.on (.none rfl) (LV.move rfl)) Rq.nil (by kernel_rfl) rfl (ltB rfl) ?_; refine D.light (i := 6) rfl (.on (.none rfl) (LV.idxN (by apply rfl) (by apply rfl) (by omega))) Rq.nil (by kernel_rfl) rfl (ltB rfl) ?_; refine D.light (i := 7) rfl (.on (.none rfl) (LV.load rfl)) (Rq.imm (RdSl.at hv hg')) (by kernel_rfl) rfl (ltB rfl) ?_; refine D.light (i := 8) rfl (.on (.none rfl) (LV.cmp rfl rfl rfl)) Rq.nil (by kernel_rfl) rfl (ltB rfl) ?_; refine D.light (i := 9) rfl (.on (.none rfl) (LV.assign rfl)) Rq.nil (by kernel_rfl) rfl (ltB rfl) ?_; refine D.fin (by kernel_rfl) ?_)
        | (refine SyC.draw (id := 11) (by kernel_rfl) (by kernel_rfl) ?_; refine D.light (i := 0) rfl (.on (.none rfl) (LV.move rfl)) Rq.nil (by kernel_rfl) rfl (ltB rfl) ?_; refine D.light (i := 1) rfl (.on (.none rfl) (LV.move rfl)) Rq.nil (by kernel_rfl) rfl (ltB rfl) ?_; refine D.light (i := 2) rfl (.on (.none rfl) (LV.idxN (by apply rfl) (by apply rfl) (by omega))) Rq.nil (by kernel_rfl) rfl (ltB rfl) ?_; refine D.light (i := 3) rfl (.on (.none rfl) (LV.load rfl)) (Rq.imm (RdSl.at hu hg)) (by kernel_rfl) rfl (ltB rfl) ?_; refine D.light (i := 4) rfl (.on (.none rfl) (LV.move rfl)) Rq.nil (by kernel_rfl) rfl (ltB rfl) ?_; refine D.light (i := 5) rfl (.on (.none rfl) (LV.move rfl)) Rq.nil (by kernel_rfl) rfl (ltB rfl) ?_; refine D.light (i := 6) rfl (.on (.none rfl) (LV.idxN (by apply rfl) (by apply rfl) (by omega))) Rq.nil (by kernel_rfl) rfl (ltB rfl) ?_; refine D.light (i := 7) rfl (.on (.none rfl) (LV.load rfl)) (Rq.imm (RdSl.at hv hg')) (by kernel_rfl) rfl (ltB rfl) ?_; refine D.light (i := 8) rfl (.on (.none rfl) (LV.cmp rfl rfl rfl)) Rq.nil (by kernel_rfl) rfl (ltB rfl) ?_; refine D.light (i := 9) rfl (.on (.none rfl) (LV.assign rfl)) Rq.nil (by kernel_rfl) rfl (ltB rfl) ?_; refine D.fin (by kernel_rfl) ?_)
        | (refine SyL.light (LV.move rfl) Rq.nil (.none rfl) rfl (ltB rfl) ?_)
        | (refine SyL.light (LV.assign rfl) Rq.nil (.none rfl) rfl (ltB rfl) ?_)
        | (refine SyL.light (LV.cmp rfl rfl rfl) Rq.nil (.none rfl) rfl (ltB rfl) ?_)
        | (refine SyL.light (LV.arN rfl rfl rfl (by simp only [Fits]; omega)) Rq.nil (.none rfl) rfl (ltB rfl) ?_)
        | (refine SyC.condT rfl (by first | assumption | (with_reducible rfl) | decide | (simp only [decide_eq_true_eq, decide_eq_false_iff_not, Bool.not_eq_true', Bool.not_eq_false', beq_iff_eq, bne_iff_ne, ne_eq, beq_eq_false_iff_ne, bne_eq_false_iff_eq, Int.not_lt, Int.not_le, Bool.true_eq_false, Bool.false_eq_true, tb_one, tb_zero]; omega)) ?_)
        | (refine SyC.condF rfl (by first | assumption | (with_reducible rfl) | decide | (simp only [decide_eq_true_eq, decide_eq_false_iff_not, Bool.not_eq_true', Bool.not_eq_false', beq_iff_eq, bne_iff_ne, ne_eq, beq_eq_false_iff_ne, bne_eq_false_iff_eq, Int.not_lt, Int.not_le, Bool.true_eq_false, Bool.false_eq_true, tb_one, tb_zero]; omega)) ?_))
      exact ⟨j, _, by omega, (by repeat (first | exact trivial | refine ⟨rfl, ?_⟩)), j, rfl, by omega, this, rfl, rfl, rfl⟩
    · have := hb h3
      repeat' (first
        | (rw [show (((j + 1 : Nat) : Int) - 1) = (j : Int) from by omega])
        | (refine SyC.seq ?_)
        | (refine SyC.region ?_)
        | (refine SyL.nil ?_)
        | (refine Then.norm ?_)
        | (refine Then.ret ?_)
        | (refine InB.ret ?_)
        | (refine SyC.block ?_)
        | (refine SyC.skip ?_)
        | (refine SyC.ret ?_)
        | (refine SyC.draw (id := 9) (by kernel_rfl) (by kernel_rfl) ?_; refine D.light (i := 0) rfl (.on (.none rfl) (LV.move rfl)) Rq.nil (by kernel_rfl) rfl (ltB rfl) ?_; refine D.light (i := 1) rfl (.on (.none rfl) (LV.move rfl)) Rq.nil (by kernel_rfl) rfl (ltB rfl) ?_; refine D.light (i := 2) rfl (.on (.none rfl) (LV.idxN (by apply rfl) (by apply rfl) (by omega))) Rq.nil (by kernel_rfl) rfl (ltB rfl) ?_; refine D.light (i := 3) rfl (.on (.none rfl) (LV.load rfl)) (Rq.imm (RdSl.at hu hg)) (by kernel_rfl) rfl (ltB rfl) ?_; refine D.light (i := 4) rfl (.on (.none rfl) (LV.move rfl)) Rq.nil (by kernel_rfl) rfl (ltB rfl) ?_; refine D.light (i := 5) rfl (.on (.none rfl) (LV.move rfl)) Rq.nil (by kernel_rfl) rfl (ltB rfl) ?_; refine D.light (i := 6) rfl (.on (.none rfl) (LV.idxN (by apply rfl) (by apply rfl) (by omega))) Rq.nil (by kernel_rfl) rfl (ltB rfl) ?_; refine D.light (i := 7) rfl (.on (.none rfl) (LV.load rfl)) (Rq.imm (RdSl.at hv hg')) (by kernel_rfl) rfl (ltB rfl) ?_; refine D.light (i := 8) rfl (.on (.none rfl) (LV.cmp rfl rfl rfl)) Rq.nil (by kernel_rfl) rfl (ltB rfl) ?_; refine D.light (i := 9) rfl (.on (.none rfl) (LV.assign rfl)) Rq.nil (by kernel_rfl) rfl (ltB rfl) ?_; refine D.fin (by kernel_rfl) ?_)
        | (refine SyC.draw (id := 11) (by kernel_rfl) (by kernel_rfl) ?_; refine D.light (i := 0) rfl (.on (.none rfl) (LV.move rfl)) Rq.nil (by kernel_rfl) rfl (ltB rfl) ?_; refine D.light (i := 1) rfl (.on (.none rfl) (LV.move rfl)) Rq.nil (by kernel_rfl) rfl (ltB rfl) ?_; refine D.light (i := 2) rfl (.on (.none rfl) (LV.idxN (by apply rfl) (by apply rfl) (by omega))) Rq.nil (by kernel_rfl) rfl (ltB rfl) ?_; refine D.light (i := 3) rfl (.on (.none rfl) (LV.load rfl)) (Rq.imm (RdSl.at hu hg)) (by kernel_rfl) rfl (ltB rfl) ?_; refine D.light (i := 4) rfl (.on (.none rfl) (LV.move rfl)) Rq.nil (by kernel_rfl) rfl (ltB rfl) ?_; refine D.light (i := 5) rfl (.on (.none rfl) (LV.move rfl)) Rq.nil (by kernel_rfl) rfl (ltB rfl) ?_; refine D.light (i := 6) rfl (.on (.none rfl) (LV.idxN (by apply rfl) (by apply rfl) (by omega))) Rq.nil (by kernel_rfl) rfl (ltB rfl) ?_; refine D.light (i := 7) rfl (.on (.none rfl) (LV.load rfl)) (Rq.imm (RdSl.at hv hg')) (by kernel_rfl) rfl (ltB rfl) ?_; refine D.light (i := 8) rfl (.on (.none rfl) (LV.cmp rfl rfl rfl)) Rq.nil (by kernel_rfl) rfl (ltB rfl) ?_; refine D.light (i := 9) rfl (.on (.none rfl) (LV.assign rfl)) Rq.nil (by kernel_rfl) rfl (ltB rfl) ?_; refine D.fin (by kernel_rfl) ?_)
        | (refine SyL.light (LV.move rfl) Rq.nil (.none rfl) rfl (ltB rfl) ?_)
        | (refine SyL.light (LV.assign rfl) Rq.nil (.none rfl) rfl (ltB rfl) ?_)
        | (refine SyL.light (LV.cmp rfl rfl rfl) Rq.nil (.none rfl) rfl (ltB rfl) ?_)
        | (refine SyC.condT rfl (by first | assumption | (with_reducible rfl) | decide | (simp only [decide_eq_true_eq, decide_eq_false_iff_not, Bool.not_eq_true', Bool.not_eq_false', beq_iff_eq, bne_iff_ne, ne_eq, beq_eq_false_iff_ne, bne_eq_false_iff_eq, Int.not_lt, Int.not_le, Bool.true_eq_false, Bool.false_eq_true, tb_one, tb_zero]; omega)) ?_)
        | (refine SyC.condF rfl (by first | assumption | (with_reducible rfl) | decide | (simp only [decide_eq_true_eq, decide_eq_false_iff_not, Bool.not_eq_true', Bool.not_eq_false', beq_iff_eq, bne_iff_ne, ne_eq, beq_eq_false_iff_ne, bne_eq_false_iff_eq, Int.not_lt, Int.not_le, Bool.true_eq_false, Bool.false_eq_true, tb_one, tb_zero]; omega)) ?_))
      refine Ret.one (by simp) Tryd.results9 (.tmp rfl) ?_
      exact ⟨rfl, by unfold cmpN; rw [if_neg (by omega), if_pos this], rfl⟩

set_option maxRecDepth 100000 in
theorem natClone_c (I : IH) (v : Value) (n : Nat) (h : NatV I v n) (hb : (digs n).length ≤ 1000000) : PFn Tryd.prog 28 #[v] I fun r I' => NatV I' r n := by
  obtain ⟨A, c, rfl, h⟩ := h
  have hcap := h.cap
  have h1 := U32_one (digs n)
  have hz : (digs n).length = 0 ↔ n = 0 := digs_eq_nil
  cases A with
  | none =>
    have h0 : (digs n).length = 0 := by
      rcases Nat.eq_zero_or_pos (digs n).length with h2 | h2
      · exact h2
      · obtain ⟨_, e⟩ := h.addr h2; cases e
    have hn := hz.1 h0
    subst hn
    have hnn : (none : Option Addr).isNone = true := rfl
    refine Fn.intro (n := 8) (args := [.slice none (digs 0).length c]) (by kernel_rfl) Tryd.func28 rfl Tryd.ntmps28 (Nat.le_of_ble_eq_true rfl) [(0, .slice none (digs 0).length c)] rfl (fun w0 => ?_)
    repeat' (first
      | (refine SyC.seq ?_)
      | (refine SyC.region ?_)
      | (refine SyL.nil ?_)
      | (refine Then.norm ?_)
      | (refine Then.ret ?_)
      | (refine SyC.ret ?_)
      | (refine SyL.light (LV.move rfl) Rq.nil (.none rfl) rfl (ltB rfl) ?_)
      | (refine SyL.light (LV.assign rfl) Rq.nil (.none rfl) rfl (ltB rfl) ?_)
      | (refine SyL.light (LV.eqNil (by apply rfl) (by apply rfl)) Rq.nil (.none rfl) rfl (ltB rfl) ?_)
      | (refine SyC.condT rfl (by first | assumption | (with_reducible rfl) | decide | (simp only [decide_eq_true_eq, decide_eq_false_iff_not, Bool.not_eq_true', Bool.not_eq_false', beq_iff_eq, bne_iff_ne, ne_eq, beq_eq_false_iff_ne, bne_eq_false_iff_eq, Int.not_lt, Int.not_le, Bool.true_eq_false, Bool.false_eq_true, tb_one, tb_zero]; omega)) ?_))
    refine Ret.one (by simp) Tryd.results28 (.tmp rfl) ?_
    exact ⟨rfl, NatV.zero _⟩
  | some ad =>
    have hnn : (some ad : Option Addr).isNone = false := rfl
    have hpost : ∀ (I' : IH) A c, RdSl I' 1 (.slice A (digs n).length c) (digs n).length (U32 (digs n)) → NatV I' (.slice A (digs n).length c) n := fun I' A c h => ⟨A, c, rfl, h⟩
    generalize digs n = l at *
    refine Fn.intro (n := 8) (args := [.slice (some ad) l.length c]) (by kernel_rfl) Tryd.func28 rfl Tryd.ntmps28 (Nat.le_of_ble_eq_true rfl) [(0, .slice (some ad) l.length c)] rfl (fun w0 => ?_)
    repeat' (first
      | (refine SyC.seq ?_)
      | (refine SyC.region ?_)
      | (refine SyL.nil ?_)
      | (refine Then.norm ?_)
      | (refine SyC.skip ?_)
      | (refine SyC.ret ?_)
      | (refine SyL.light (LV.move rfl) Rq.nil (.none rfl) rfl (ltB rfl) ?_)
      | (refine SyL.light (LV.assign rfl) Rq.nil (.none rfl) rfl (ltB rfl) ?_)
      | (refine SyL.light (LV.eqNil (by apply rfl) (by apply rfl)) Rq.nil (.none rfl) rfl (ltB rfl) ?_)
      | (refine SyL.heavy (OpT.buildSlice (xs := []) (vs := []) rfl rfl rfl (by simp [Value.cells]) (by decide) (fun g_ hg_ => ?_)) (.none rfl) rfl (ltB rfl))
      | (refine SyL.heavy (OpT.appendB (by apply rfl) (by apply rfl) (k := 0) rfl (by first | (simp; done) | (simp only [List.length_cons, List.length_nil, U32_len]; done) | (simp only [List.length_cons, List.length_nil, U32_len]; omega) | (simp; omega) | omega) (by first | (simp; done) | (simp only [List.length_cons, List.length_nil, U32_len]; done) | (simp only [List.length_cons, List.length_nil, U32_len]; omega) | (simp; omega) | omega) (Rq.immA fun j u hu => RdSl.at h hu) (by first | assumption | exact P64_one _ | exact N64_one _ | exact U32_one _ | simp [Value.oneCell']) (by first | omega | (simp only [List.length_append, List.length_cons, List.length_nil]; omega)) (by first | omega | (simp only [List.length_append, List.length_cons, List.length_nil]; omega)) (by decide) (fun A_ c_ => ?_)) (.none rfl) rfl (ltB rfl); rw [Nat.zero_add]; refine SyL.freezeOwn fun I9 hle9 hr9 => ?_)
      | (refine SyC.condF rfl (by first | assumption | (with_reducible rfl) | decide | (simp only [decide_eq_true_eq, decide_eq_false_iff_not, Bool.not_eq_true', Bool.not_eq_false', beq_iff_eq, bne_iff_ne, ne_eq, beq_eq_false_iff_ne, bne_eq_false_iff_eq, Int.not_lt, Int.not_le, Bool.true_eq_false, Bool.false_eq_true, tb_one, tb_zero]; omega)) ?_))
    exact Ret.oneS (by simp) Tryd.results28 (.tmp rfl) (⟨rfl, hpost _ _ _ hr9⟩) (by repeat (first | exact List.Sublist.refl _ | exact List.nil_sublist _ | refine List.Sublist.cons_cons _ ?_ | refine List.Sublist.cons _ ?_))
end Go.Proofs.YtpgkbipnkkeicaaDoor
