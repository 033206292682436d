import Derived.Test.YtpgkbipnkkeicaaDoorN10
import Derived.Test.YtpgkbipnkkeicaaDoorNW
set_option linter.unusedSimpArgs false
set_option linter.unusedVariables false
/-! The greatest common divisor. -/
namespace Go.Proofs.YtpgkbipnkkeicaaDoor
open Go Go.Sx Go.Nt
set_option maxRecDepth 100000 in
set_option maxHeartbeats 1000000 in
theorem natGcd_c (I : IH) (u v : Value) (x y : Nat) (hu : NatV I u x) (hv : NatV I v y) (hbx : (digs x).length ≤ 900000) (hby : (digs y).length ≤ 900000) : PFn Tryd.prog 35 #[u, v] I fun r I' => NatV I' r (Nat.gcd x y) := by
  have hul := hu
  have hvl := hv
  obtain ⟨A, c, rfl, hu⟩ := hu
  obtain ⟨A', c', rfl, hv⟩ := hv
  have t1 := trimN_c I A c x hu
  have t2 := trimN_c I A' c' y hv
  refine Fn.intro (n := 26) (args := [.slice A (digs x).length c, .slice A' (digs y).length c']) (by kernel_rfl) Tryd.func35 rfl Tryd.ntmps35 (Nat.le_of_ble_eq_true rfl) [(0, .slice A (digs x).length c), (1, .slice A' (digs y).length c')] rfl (fun w0 => ?_)
  repeat' (first
    | (refine SyC.seq ?_)
    | (refine SyC.region ?_)
    | (refine SyL.nil ?_)
    | (refine Then.norm ?_)
    | (refine SyC.block ?_)
    | (refine SyL.light (LV.move rfl) Rq.nil (.none rfl) rfl (ltB rfl) ?_)
    | (refine SyL.light (LV.assign rfl) Rq.nil (.none rfl) rfl (ltB rfl) ?_)
    | (refine SyL.heavy (OpT.pcall rfl rfl (t1) ?_) (.none rfl) rfl (ltB rfl); rintro v1 I1 - ⟨rfl, rfl⟩)
    | (refine SyL.heavy (OpT.pcall rfl rfl (t2) ?_) (.none rfl) rfl (ltB rfl); rintro v2 I2 - ⟨rfl, rfl⟩))
  refine SyC.loop (fun q env I' rs => ∃ a b va vb, q = b ∧ Hd (Nat.gcd a b = Nat.gcd x y) ∧ NatV I' va a ∧ NatV I' vb b ∧ (digs a).length ≤ 900000 ∧ (digs b).length ≤ 900000 ∧ I2.le I' ∧ rs = [] ∧ env = [(0, va), (1, vb)]) y _ (by repeat (first | exact trivial | refine ⟨rfl, ?_⟩)) ⟨x, y, _, _, rfl, ⟨rfl⟩, hul, hvl, hbx, hby, IH.le.rfl, rfl, rfl⟩ ?_
  clear hul hvl hu hv hbx hby t1 t2
  rintro q env I' rs ⟨a, b, va, vb, rfl, hg, hNa, hNb, hda, hdb, hle, rfl, rfl⟩
  have hNbl := hNb
  obtain ⟨B', cb, rfl, hvb⟩ := hNb
  have hz : (digs q).length = 0 ↔ q = 0 := digs_eq_nil
  by_cases hq : q = 0
  · have hc := natClone_c I' va a hNa (by omega)
    have h0 := hz.2 hq
    generalize digs q = l at *
    generalize digs a = m at *
    repeat' (first
      | (refine SyC.seq ?_)
      | (refine SyC.region ?_)
      | (refine SyL.nil ?_)
      | (refine Then.norm ?_)
      | (refine Then.exit ?_)
      | (refine InB.hit ?_)
      | (refine SyC.exit ?_)
      | (refine SyC.ret ?_)
      | (refine SyL.light (LV.move rfl) Rq.nil (.none rfl) rfl (ltB rfl) ?_)
      | (refine SyL.light (LV.assign rfl) Rq.nil (.none rfl) rfl (ltB rfl) ?_)
      | (refine SyL.light (LV.len (by apply rfl)) Rq.nil (.none rfl) rfl (ltB rfl) ?_)
      | (refine SyL.light (LV.cmp rfl rfl rfl) Rq.nil (.none rfl) rfl (ltB rfl) ?_)
      | (refine SyL.heavy (OpT.pcall rfl rfl (hc) ?_) (.none rfl) rfl (ltB rfl); rintro v3 I3 hle3 hN3)
      | (refine SyC.condF rfl (by first | assumption | (with_reducible rfl) | decide | (simp only [decide_eq_true_eq, decide_eq_false_iff_not, Bool.not_eq_true', Bool.not_eq_false', beq_iff_eq, bne_iff_ne, ne_eq, beq_eq_false_iff_ne, bne_eq_false_iff_eq, Int.not_lt, Int.not_le, Bool.true_eq_false, Bool.false_eq_true, tb_one, tb_zero]; omega)) ?_))
    refine Ret.one (by simp) Tryd.results35 (.tmp rfl) ?_
    exact ⟨rfl, by rw [← hg.out, hq, Nat.gcd_zero_right]; exact hN3⟩
  · have hd := natDiv_c I' va (.slice B' (digs q).length cb) a q hNa hNbl hda hdb
    rw [if_neg hq] at hd
    have hz2 : 0 < (digs q).length := Nat.pos_of_ne_zero fun e => hq (hz.1 e)
    have hlt : a % q < q := Nat.mod_lt _ (by omega)
    have hdl : (digs (a % q)).length ≤ 900000 := Nat.le_trans (digs_mono (Nat.le_of_lt hlt)) hdb
    have hgg : Nat.gcd q (a % q) = Nat.gcd x y := by rw [← hg.out, Nat.gcd_comm a q, Nat.gcd_rec q a, Nat.gcd_comm]
    generalize hl : digs q = l at *
    repeat' (first
      | (refine SyC.seq ?_)
      | (refine SyC.region ?_)
      | (refine SyL.nil ?_)
      | (refine Then.norm ?_)
      | (refine InB.norm ?_)
      | (refine SyC.block ?_)
      | (refine SyC.skip ?_)
      | (refine SyL.light (LV.move rfl) Rq.nil (.none rfl) rfl (ltB rfl) ?_)
      | (refine SyL.light (LV.assign rfl) Rq.nil (.none rfl) rfl (ltB rfl) ?_)
      | (refine SyL.light (LV.len (by apply rfl)) Rq.nil (.none rfl) rfl (ltB rfl) ?_)
      | (refine SyL.light (LV.cmp rfl rfl rfl) Rq.nil (.none rfl) rfl (ltB rfl) ?_)
      | (refine SyL.light (LV.extract rfl rfl) Rq.nil (.none rfl) rfl (ltB rfl) ?_)
      | (refine SyL.heavy (OpT.pcall rfl rfl (hd) ?_) (.none rfl) rfl (ltB rfl); rintro v3 I3 hle3 ⟨w, w', rfl, hN3, hN4⟩)
      | (refine SyC.condT rfl (by first | assumption | (with_reducible rfl) | decide | (simp only [decide_eq_true_eq, decide_eq_false_iff_not, Bool.not_eq_true', Bool.not_eq_false', beq_iff_eq, bne_iff_ne, ne_eq, beq_eq_false_iff_ne, bne_eq_false_iff_eq, Int.not_lt, Int.not_le, Bool.true_eq_false, Bool.false_eq_true, tb_one, tb_zero]; omega)) ?_))
    exact ⟨a % q, [(0, .slice B' l.length cb), (1, w')], hlt, (by repeat (first | exact trivial | refine ⟨rfl, ?_⟩)), q, a % q, _, _, rfl, ⟨hgg⟩, hNbl.le hle3, hN4 hq, by rw [hl]; exact hdb, hdl, hle.trans hle3, rfl, rfl⟩
end Go.Proofs.YtpgkbipnkkeicaaDoor
