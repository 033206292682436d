import Derived.Test.YtpgkbipnkkeicaaDoorN5
set_option linter.unusedSimpArgs false
set_option linter.unusedVariables false
/-! Differences. -/
namespace Go.Nt
theorem sub_step {P V W T d x b s t : Nat} (hd : s = x + b) (ht : d + t = s) (h : V + W = T) : V + P * d + (W + P * t) = T + P * x + P * b := by
  subst hd
  have h1 : P * d + P * t = P * x + P * b := by rw [← Nat.mul_add, ht, Nat.mul_add]
  omega
theorem sub_fin1 {V V' M L P d x y bw : Nat} (h1 : V' + P * 0 = V + P * d) (h : V + P * d + (M + P * (bw + y)) = L + P * bw + P * x + P * B) : V' + (M + P * y) = L + P * x + P * B * 1 := by
  rw [Nat.mul_add] at h; omega
theorem sub_fin0 {V V' M L P d x y bw : Nat} (h1 : V' + P * 0 = V + P * d) (h : V + P * d + (M + P * (bw + y)) = L + P * bw + P * x + P * 0) : V' + (M + P * y) = L + P * x + P * B * 0 := by
  rw [Nat.mul_add] at h; omega
theorem sub_gin1 {V V' M L P d x bw : Nat} (h1 : V' + P * 0 = V + P * d) (h : V + P * d + (M + P * bw) = L + P * bw + P * x + P * B) : V' + M = L + P * x + P * B * 1 := by omega
theorem sub_gin0 {V V' M L P d x bw : Nat} (h1 : V' + P * 0 = V + P * d) (h : V + P * d + (M + P * bw) = L + P * bw + P * x + P * 0) : V' + M = L + P * x + P * B * 0 := by omega
theorem mod_small {n : Nat} (h : n < B) : n % B = n := Nat.mod_eq_of_lt h
end Go.Nt
namespace Go.Proofs.YtpgkbipnkkeicaaDoor
open Go Go.Sx Go.Nt
set_option maxRecDepth 100000 in
set_option maxHeartbeats 2000000 in
theorem natSub_c (I : IH) (u v : Value) (x y : Nat) (hu : NatV I u x) (hv : NatV I v y) (hbx : (digs x).length ≤ 1000000) : PFn Tryd.prog 15 #[u, v] I fun r I' => ∃ w, r = .tuple #[w, .int .i64 ((if x < y then 1 else 0 : Nat) : Int)] ∧ NatV I' w (x - y) := by
  have hc := natCompare_c I u v x y hu hv
  obtain ⟨A, c, rfl, hu⟩ := hu
  obtain ⟨B', c', rfl, hv⟩ := hv
  have t1 := trimN_c I A c x hu
  have t2 := trimN_c I B' c' y hv
  have hsl := digs_sm x
  have hsm := digs_sm y
  have hvx := val_digs x
  have hvy := val_digs y
  have hlen : y ≤ x → (digs y).length ≤ (digs x).length := fun h => Nat.le_of_not_lt fun h' => by have := lt_of_len h'; omega
  generalize digs x = l at *
  generalize digs y = m at *
  have hB : B = 4294967296 := rfl
  refine Fn.intro (n := 59) (args := [.slice A l.length c, .slice B' m.length c']) (by kernel_rfl) Tryd.func15 rfl Tryd.ntmps15 (Nat.le_of_ble_eq_true rfl) [(0, .slice A l.length c), (1, .slice B' m.length c')] rfl (fun w0 => ?_)
  by_cases hxy : x < y
  · have hcm : cmpN x y = -1 := by simp [cmpN, hxy]
    rw [hcm] at hc
    repeat' (first
      | (refine SyC.seq ?_)
      | (refine SyC.region ?_)
      | (refine SyL.nil ?_)
      | (refine Then.norm ?_)
      | (refine Then.ret ?_)
      | (refine SyC.ret ?_)
      | (refine SyL.light (LV.move rfl) Rq.nil (.none rfl) rfl (ltB rfl) ?_)
      | (refine SyL.light (LV.assign rfl) Rq.nil (.none rfl) rfl (ltB rfl) ?_)
      | (refine SyL.light (LV.cmp rfl rfl rfl) Rq.nil (.none rfl) rfl (ltB rfl) ?_)
      | (refine SyL.heavy (OpT.pcall rfl rfl (hc) ?_) (.none rfl) rfl (ltB rfl); rintro v1 I1 - ⟨rfl, rfl⟩)
      | (refine SyC.condT rfl (by first | assumption | (with_reducible rfl) | decide | (simp only [decide_eq_true_eq, decide_eq_false_iff_not, Bool.not_eq_true', Bool.not_eq_false', beq_iff_eq, bne_iff_ne, ne_eq, beq_eq_false_iff_ne, bne_eq_false_iff_eq, Int.not_lt, Int.not_le, Bool.true_eq_false, Bool.false_eq_true, tb_one, tb_zero]; omega)) ?_))
    exact Ret.twoS (by simp) Tryd.results15 (.tmp rfl) (.tmp rfl) (⟨rfl, _, by rw [if_pos hxy]; rfl, by rw [Nat.sub_eq_zero_of_le (by omega)]; exact NatV.zero _⟩) (by repeat (first | exact List.Sublist.refl _ | exact List.nil_sublist _ | refine List.Sublist.cons_cons _ ?_ | refine List.Sublist.cons _ ?_))
  · have hcm : 0 ≤ cmpN x y := by simp only [cmpN]; split <;> (try split) <;> omega
    generalize cmpN x y = cm at *
    have hlen := hlen (by omega)
    repeat' (first
      | (refine SyC.seq ?_)
      | (refine SyC.region ?_)
      | (refine SyL.nil ?_)
      | (refine Then.norm ?_)
      | (refine SyC.block ?_)
      | (refine SyC.skip ?_)
      | (refine SyL.light (LV.move rfl) Rq.nil (.none rfl) rfl (ltB rfl) ?_)
      | (refine SyL.light (LV.assign rfl) Rq.nil (.none rfl) rfl (ltB rfl) ?_)
      | (refine SyL.light (LV.len (by apply rfl)) Rq.nil (.none rfl) rfl (ltB rfl) ?_)
      | (refine SyL.light (LV.cmp rfl rfl rfl) Rq.nil (.none rfl) rfl (ltB rfl) ?_)
      | (refine SyL.heavy (OpT.make (by apply rfl) (by apply rfl) (by omega) (by omega) (by omega) (by decide) (by omega) (fun g_ hg_ => ?_)) (.none rfl) rfl (ltB rfl))
      | (refine SyL.heavy (OpT.pcall rfl rfl (hc) ?_) (.none rfl) rfl (ltB rfl); rintro v1 I1 - ⟨rfl, rfl⟩)
      | (refine SyL.heavy (OpT.pcall rfl rfl (t1) ?_) (.none rfl) rfl (ltB rfl); rintro v2 I2 - ⟨rfl, rfl⟩)
      | (refine SyL.heavy (OpT.pcall rfl rfl (t2) ?_) (.none rfl) rfl (ltB rfl); rintro v3 I3 - ⟨rfl, rfl⟩)
      | (refine SyC.condF rfl (by first | assumption | (with_reducible rfl) | decide | (simp only [decide_eq_true_eq, decide_eq_false_iff_not, Bool.not_eq_true', Bool.not_eq_false', beq_iff_eq, bne_iff_ne, ne_eq, beq_eq_false_iff_ne, bne_eq_false_iff_eq, Int.not_lt, Int.not_le, Bool.true_eq_false, Bool.false_eq_true, tb_one, tb_zero]; omega)) ?_))
    rw [mk_u32']
    refine SyC.loopD (fun q env I' rs => ∃ i O bw, q = l.length - i ∧ i ≤ l.length ∧ O.length = l.length ∧ Sm O ∧ bw ≤ 1 ∧ Hd (val O + val (m.take i) = val (l.take i) + B ^ i * bw) ∧ Hd (∀ j, i ≤ j → O.getD j 0 = 0) ∧ I' = I3 ∧ rs = [.blk g_ 51 (U32 O)] ∧
      env = [(24, .int .i64 (i : Nat)), (23, .int .i64 (l.length : Nat)), (22, .slice A l.length c), (1, .slice B' m.length c'), (7, .int .u64 (bw : Nat)), (6, .slice (some ⟨g_, 0, none⟩) l.length l.length)]) l.length
      [(24, .int .i64 ((0 : Nat) : Int)), (23, .int .i64 (l.length : Nat)), (22, .slice A l.length c), (1, .slice B' m.length c'), (7, .int .u64 ((0 : Nat) : Int)), (6, .slice (some ⟨g_, 0, none⟩) l.length l.length)] (by repeat (first | exact trivial | refine ⟨rfl, ?_⟩))
      ⟨0, List.replicate l.length 0, 0, rfl, by omega, by simp, Sm.zeros _, by omega, ⟨by rw [val_zeros]; simp [val]⟩, ⟨fun j _ => by rw [List.getD_eq_getElem?_getD, List.getElem?_replicate]; split <;> rfl⟩, rfl, rfl, rfl⟩ ?_
    rintro q env I' rs ⟨i, O, bw, rfl, hi, hOl, hOs, hbw, hval, hz, rfl, rfl, rfl⟩
    by_cases hlt : i < l.length
    · obtain ⟨ad, rfl⟩ := hu.addr (by omega)
      have hx := hsl.getD i
      have hg := U32_get (l := l) (j := i) hlt
      have ht1 := Hd.mk (val_take_succ (l := l) (k := i) hlt)
      generalize l.getD i 0 = dx at hx hg ht1
      rw [hB] at hx
      have hUl : (U32 O).length = l.length := by rw [U32_len, hOl]
      have hi0 := hz.out i (Nat.le_refl _)
      by_cases hlt2 : i < m.length
      · obtain ⟨bd, rfl⟩ := hv.addr (by omega)
        have hy := hsm.getD i
        have hg' := U32_get (l := m) (j := i) hlt2
        have ht2 := Hd.mk (val_take_succ (l := m) (k := i) hlt2)
        generalize m.getD i 0 = dy at hy hg' ht2
        rw [hB] at hy
        by_cases hb : dx < bw + dy
        · obtain ⟨d, hd⟩ : ∃ d, d = dx + 4294967296 - (bw + dy) := ⟨_, rfl⟩
          have hdB : d < B := by rw [hB]; omega
          have hdI : (dx : Int) + ((2 ^ 32 : Nat) : Int) - ((bw : Int) + (dy : Int)) = (d : Int) := by omega
          have hset := Hd.mk (val_set (O := O) (p := i) (d := d) (by omega))
          rw [hi0] at hset
          repeat' (first
            | (rw [hdI])
            | (refine SyC.seq ?_)
            | (refine SyC.region ?_)
            | (refine SyL.nil ?_)
            | (refine Then.norm ?_)
            | (refine InB.norm ?_)
            | (refine SyC.block ?_)
            | (refine SyC.skip ?_)
            | (refine SyL.light (LV.move rfl) Rq.nil (.none rfl) rfl (ltB rfl) ?_)
            | (refine SyL.light (LV.assign rfl) Rq.nil (.none rfl) rfl (ltB rfl) ?_)
            | (refine SyL.light (LV.len (by apply rfl)) Rq.nil (.none rfl) rfl (ltB rfl) ?_)
            | (refine SyL.light (LV.cmp rfl rfl rfl) Rq.nil (.none rfl) rfl (ltB rfl) ?_)
            | (refine SyL.light (LV.arN rfl rfl rfl (by simp only [Fits]; omega)) Rq.nil (.none rfl) rfl (ltB rfl) ?_)
            | (refine SyL.light (LV.convN (by apply rfl) (by simp only [Fits]; omega)) Rq.nil (.none rfl) rfl (ltB rfl) ?_)
            | (refine SyL.light (LV.shl1 rfl rfl rfl (by simp only [IntKind.bits]; omega)) Rq.nil (.none rfl) rfl (ltB rfl) ?_)
            | (refine SyL.light (LV.idxBN (by apply rfl) (by apply rfl) (by omega)) Rq.nil (.none rfl) rfl (ltB rfl) ?_)
            | (refine SyL.light (LV.idxN (by apply rfl) (by apply rfl) (by omega)) Rq.nil (.none rfl) rfl (ltB rfl) ?_)
            | (refine SyL.light (LV.load rfl) (Rq.imm (RdSl.at hu hg)) (.none rfl) rfl (ltB rfl) ?_)
            | (refine SyL.light (LV.load rfl) (Rq.imm (RdSl.at hv hg')) (.none rfl) rfl (ltB rfl) ?_)
            | (refine SyL.heavy0 (OpT.store rfl rfl rfl (k := 0) rfl (by first | (simp; done) | (simp only [List.length_cons, List.length_nil, hUl]; done) | (simp only [List.length_cons, List.length_nil, hUl]; omega) | (simp; omega) | omega) ?_) (.none rfl) rfl)
            | (refine SyC.condT rfl (by first | assumption | (with_reducible rfl) | decide | (simp only [decide_eq_true_eq, decide_eq_false_iff_not, Bool.not_eq_true', Bool.not_eq_false', beq_iff_eq, bne_iff_ne, ne_eq, beq_eq_false_iff_ne, bne_eq_false_iff_eq, Int.not_lt, Int.not_le, Bool.true_eq_false, Bool.false_eq_true, tb_one, tb_zero]; omega)) ?_))
          rw [List.set_cons_zero, U32_set]
          have hst := sub_step (P := B ^ i) (d := d) (x := dx) (b := B) (s := dx + B) (t := (bw + dy)) rfl (by rw [hd]; omega) (show val O + val (m.take i) = val (l.take i) + B ^ i * bw from hval.out)
          exact ⟨l.length - (i + 1), [(24, .int .i64 (i + 1 : Nat)), (23, .int .i64 (l.length : Nat)), (22, .slice (some ad) l.length c), (1, .slice (some bd) m.length c'), (7, .int .u64 ((1 : Nat) : Int)), (6, .slice (some ⟨g_, 0, none⟩) l.length l.length)], [.blk g_ 51 (U32 (O.set i d))], by omega, (by repeat (first | exact trivial | refine ⟨rfl, ?_⟩)), ⟨i + 1, O.set i d, 1, rfl, by omega, by simpa using hOl, hOs.set _ hdB, by omega, ⟨by
              have h1 := hset.out
              rw [ht1.out, ht2.out, Nat.pow_succ]
              exact sub_fin1 h1 hst⟩, ⟨fun j hj => by rw [getD_set_ne' (by omega)]; exact hz.out j (by omega)⟩, rfl, rfl, rfl⟩, (by repeat (first | exact List.Sublist.refl _ | exact List.nil_sublist _ | refine List.Sublist.cons_cons _ ?_ | refine List.Sublist.cons _ ?_))⟩
        · obtain ⟨d, hd⟩ : ∃ d, d = dx - (bw + dy) := ⟨_, rfl⟩
          have hdB : d < B := by rw [hB]; omega
          have hdI : (dx : Int) + 0 - ((bw : Int) + (dy : Int)) = (d : Int) := by omega
          have hset := Hd.mk (val_set (O := O) (p := i) (d := d) (by omega))
          rw [hi0] at hset
          repeat' (first
            | (rw [hdI])
            | (refine SyC.seq ?_)
            | (refine SyC.region ?_)
            | (refine SyL.nil ?_)
            | (refine Then.norm ?_)
            | (refine InB.norm ?_)
            | (refine SyC.block ?_)
            | (refine SyC.skip ?_)
            | (refine SyL.light (LV.move rfl) Rq.nil (.none rfl) rfl (ltB rfl) ?_)
            | (refine SyL.light (LV.assign rfl) Rq.nil (.none rfl) rfl (ltB rfl) ?_)
            | (refine SyL.light (LV.len (by apply rfl)) Rq.nil (.none rfl) rfl (ltB rfl) ?_)
            | (refine SyL.light (LV.cmp rfl rfl rfl) Rq.nil (.none rfl) rfl (ltB rfl) ?_)
            | (refine SyL.light (LV.arN rfl rfl rfl (by simp only [Fits]; omega)) Rq.nil (.none rfl) rfl (ltB rfl) ?_)
            | (refine SyL.light (LV.convN (by apply rfl) (by simp only [Fits]; omega)) Rq.nil (.none rfl) rfl (ltB rfl) ?_)
            | (refine SyL.light (LV.shl0 rfl rfl) Rq.nil (.none rfl) rfl (ltB rfl) ?_)
            | (refine SyL.light (LV.idxBN (by apply rfl) (by apply rfl) (by omega)) Rq.nil (.none rfl) rfl (ltB rfl) ?_)
            | (refine SyL.light (LV.idxN (by apply rfl) (by apply rfl) (by omega)) Rq.nil (.none rfl) rfl (ltB rfl) ?_)
            | (refine SyL.light (LV.load rfl) (Rq.imm (RdSl.at hu hg)) (.none rfl) rfl (ltB rfl) ?_)
            | (refine SyL.light (LV.load rfl) (Rq.imm (RdSl.at hv hg')) (.none rfl) rfl (ltB rfl) ?_)
            | (refine SyL.heavy0 (OpT.store rfl rfl rfl (k := 0) rfl (by first | (simp; done) | (simp only [List.length_cons, List.length_nil, hUl]; done) | (simp only [List.length_cons, List.length_nil, hUl]; omega) | (simp; omega) | omega) ?_) (.none rfl) rfl)
            | (refine SyC.condT rfl (by first | assumption | (with_reducible rfl) | decide | (simp only [decide_eq_true_eq, decide_eq_false_iff_not, Bool.not_eq_true', Bool.not_eq_false', beq_iff_eq, bne_iff_ne, ne_eq, beq_eq_false_iff_ne, bne_eq_false_iff_eq, Int.not_lt, Int.not_le, Bool.true_eq_false, Bool.false_eq_true, tb_one, tb_zero]; omega)) ?_)
            | (refine SyC.condF rfl (by first | assumption | (with_reducible rfl) | decide | (simp only [decide_eq_true_eq, decide_eq_false_iff_not, Bool.not_eq_true', Bool.not_eq_false', beq_iff_eq, bne_iff_ne, ne_eq, beq_eq_false_iff_ne, bne_eq_false_iff_eq, Int.not_lt, Int.not_le, Bool.true_eq_false, Bool.false_eq_true, tb_one, tb_zero]; omega)) ?_))
          rw [List.set_cons_zero, U32_set]
          have hst := sub_step (P := B ^ i) (d := d) (x := dx) (b := 0) (s := dx + 0) (t := (bw + dy)) rfl (by rw [hd]; omega) (show val O + val (m.take i) = val (l.take i) + B ^ i * bw from hval.out)
          exact ⟨l.length - (i + 1), [(24, .int .i64 (i + 1 : Nat)), (23, .int .i64 (l.length : Nat)), (22, .slice (some ad) l.length c), (1, .slice (some bd) m.length c'), (7, .int .u64 ((0 : Nat) : Int)), (6, .slice (some ⟨g_, 0, none⟩) l.length l.length)], [.blk g_ 51 (U32 (O.set i d))], by omega, (by repeat (first | exact trivial | refine ⟨rfl, ?_⟩)), ⟨i + 1, O.set i d, 0, rfl, by omega, by simpa using hOl, hOs.set _ hdB, by omega, ⟨by
              have h1 := hset.out
              rw [ht1.out, ht2.out, Nat.pow_succ]
              exact sub_fin0 h1 hst⟩, ⟨fun j hj => by rw [getD_set_ne' (by omega)]; exact hz.out j (by omega)⟩, rfl, rfl, rfl⟩, (by repeat (first | exact List.Sublist.refl _ | exact List.nil_sublist _ | refine List.Sublist.cons_cons _ ?_ | refine List.Sublist.cons _ ?_))⟩
      · have ht2 := Hd.mk (take_over (l := m) (k := i) (by omega))
        by_cases hb : dx < bw
        · obtain ⟨d, hd⟩ : ∃ d, d = dx + 4294967296 - bw := ⟨_, rfl⟩
          have hdB : d < B := by rw [hB]; omega
          have hdI : (dx : Int) + ((2 ^ 32 : Nat) : Int) - ((bw : Int)) = (d : Int) := by omega
          have hset := Hd.mk (val_set (O := O) (p := i) (d := d) (by omega))
          rw [hi0] at hset
          repeat' (first
            | (rw [hdI])
            | (refine SyC.seq ?_)
            | (refine SyC.region ?_)
            | (refine SyL.nil ?_)
            | (refine Then.norm ?_)
            | (refine InB.norm ?_)
            | (refine SyC.block ?_)
            | (refine SyC.skip ?_)
            | (refine SyL.light (LV.move rfl) Rq.nil (.none rfl) rfl (ltB rfl) ?_)
            | (refine SyL.light (LV.assign rfl) Rq.nil (.none rfl) rfl (ltB rfl) ?_)
            | (refine SyL.light (LV.len (by apply rfl)) Rq.nil (.none rfl) rfl (ltB rfl) ?_)
            | (refine SyL.light (LV.cmp rfl rfl rfl) Rq.nil (.none rfl) rfl (ltB rfl) ?_)
            | (refine SyL.light (LV.arN rfl rfl rfl (by simp only [Fits]; omega)) Rq.nil (.none rfl) rfl (ltB rfl) ?_)
            | (refine SyL.light (LV.convN (by apply rfl) (by simp only [Fits]; omega)) Rq.nil (.none rfl) rfl (ltB rfl) ?_)
            | (refine SyL.light (LV.shl1 rfl rfl rfl (by simp only [IntKind.bits]; omega)) Rq.nil (.none rfl) rfl (ltB rfl) ?_)
            | (refine SyL.light (LV.idxBN (by apply rfl) (by apply rfl) (by omega)) Rq.nil (.none rfl) rfl (ltB rfl) ?_)
            | (refine SyL.light (LV.idxN (by apply rfl) (by apply rfl) (by omega)) Rq.nil (.none rfl) rfl (ltB rfl) ?_)
            | (refine SyL.light (LV.load rfl) (Rq.imm (RdSl.at hu hg)) (.none rfl) rfl (ltB rfl) ?_)
            | (refine SyL.heavy0 (OpT.store rfl rfl rfl (k := 0) rfl (by first | (simp; done) | (simp only [List.length_cons, List.length_nil, hUl]; done) | (simp only [List.length_cons, List.length_nil, hUl]; omega) | (simp; omega) | omega) ?_) (.none rfl) rfl)
            | (refine SyC.condT rfl (by first | assumption | (with_reducible rfl) | decide | (simp only [decide_eq_true_eq, decide_eq_false_iff_not, Bool.not_eq_true', Bool.not_eq_false', beq_iff_eq, bne_iff_ne, ne_eq, beq_eq_false_iff_ne, bne_eq_false_iff_eq, Int.not_lt, Int.not_le, Bool.true_eq_false, Bool.false_eq_true, tb_one, tb_zero]; omega)) ?_)
            | (refine SyC.condF rfl (by first | assumption | (with_reducible rfl) | decide | (simp only [decide_eq_true_eq, decide_eq_false_iff_not, Bool.not_eq_true', Bool.not_eq_false', beq_iff_eq, bne_iff_ne, ne_eq, beq_eq_false_iff_ne, bne_eq_false_iff_eq, Int.not_lt, Int.not_le, Bool.true_eq_false, Bool.false_eq_true, tb_one, tb_zero]; omega)) ?_))
          rw [List.set_cons_zero, U32_set]
          have hst := sub_step (P := B ^ i) (d := d) (x := dx) (b := B) (s := dx + B) (t := bw) rfl (by rw [hd]; omega) (show val O + val (m.take i) = val (l.take i) + B ^ i * bw from hval.out)
          exact ⟨l.length - (i + 1), [(24, .int .i64 (i + 1 : Nat)), (23, .int .i64 (l.length : Nat)), (22, .slice (some ad) l.length c), (1, .slice B' m.length c'), (7, .int .u64 ((1 : Nat) : Int)), (6, .slice (some ⟨g_, 0, none⟩) l.length l.length)], [.blk g_ 51 (U32 (O.set i d))], by omega, (by repeat (first | exact trivial | refine ⟨rfl, ?_⟩)), ⟨i + 1, O.set i d, 1, rfl, by omega, by simpa using hOl, hOs.set _ hdB, by omega, ⟨by
              have h1 := hset.out
              rw [ht1.out, ht2.out, Nat.pow_succ]
              exact sub_gin1 h1 hst⟩, ⟨fun j hj => by rw [getD_set_ne' (by omega)]; exact hz.out j (by omega)⟩, rfl, rfl, rfl⟩, (by repeat (first | exact List.Sublist.refl _ | exact List.nil_sublist _ | refine List.Sublist.cons_cons _ ?_ | refine List.Sublist.cons _ ?_))⟩
        · obtain ⟨d, hd⟩ : ∃ d, d = dx - bw := ⟨_, rfl⟩
          have hdB : d < B := by rw [hB]; omega
          have hdI : (dx : Int) + 0 - ((bw : Int)) = (d : Int) := by omega
          have hset := Hd.mk (val_set (O := O) (p := i) (d := d) (by omega))
          rw [hi0] at hset
          repeat' (first
            | (rw [hdI])
            | (refine SyC.seq ?_)
            | (refine SyC.region ?_)
            | (refine SyL.nil ?_)
            | (refine Then.norm ?_)
            | (refine InB.norm ?_)
            | (refine SyC.block ?_)
            | (refine SyC.skip ?_)
            | (refine SyL.light (LV.move rfl) Rq.nil (.none rfl) rfl (ltB rfl) ?_)
            | (refine SyL.light (LV.assign rfl) Rq.nil (.none rfl) rfl (ltB rfl) ?_)
            | (refine SyL.light (LV.len (by apply rfl)) Rq.nil (.none rfl) rfl (ltB rfl) ?_)
            | (refine SyL.light (LV.cmp rfl rfl rfl) Rq.nil (.none rfl) rfl (ltB rfl) ?_)
            | (refine SyL.light (LV.arN rfl rfl rfl (by simp only [Fits]; omega)) Rq.nil (.none rfl) rfl (ltB rfl) ?_)
            | (refine SyL.light (LV.convN (by apply rfl) (by simp only [Fits]; omega)) Rq.nil (.none rfl) rfl (ltB rfl) ?_)
            | (refine SyL.light (LV.shl0 rfl rfl) Rq.nil (.none rfl) rfl (ltB rfl) ?_)
            | (refine SyL.light (LV.idxBN (by apply rfl) (by apply rfl) (by omega)) Rq.nil (.none rfl) rfl (ltB rfl) ?_)
            | (refine SyL.light (LV.idxN (by apply rfl) (by apply rfl) (by omega)) Rq.nil (.none rfl) rfl (ltB rfl) ?_)
            | (refine SyL.light (LV.load rfl) (Rq.imm (RdSl.at hu hg)) (.none rfl) rfl (ltB rfl) ?_)
            | (refine SyL.heavy0 (OpT.store rfl rfl rfl (k := 0) rfl (by first | (simp; done) | (simp only [List.length_cons, List.length_nil, hUl]; done) | (simp only [List.length_cons, List.length_nil, hUl]; omega) | (simp; omega) | omega) ?_) (.none rfl) rfl)
            | (refine SyC.condT rfl (by first | assumption | (with_reducible rfl) | decide | (simp only [decide_eq_true_eq, decide_eq_false_iff_not, Bool.not_eq_true', Bool.not_eq_false', beq_iff_eq, bne_iff_ne, ne_eq, beq_eq_false_iff_ne, bne_eq_false_iff_eq, Int.not_lt, Int.not_le, Bool.true_eq_false, Bool.false_eq_true, tb_one, tb_zero]; omega)) ?_)
            | (refine SyC.condF rfl (by first | assumption | (with_reducible rfl) | decide | (simp only [decide_eq_true_eq, decide_eq_false_iff_not, Bool.not_eq_true', Bool.not_eq_false', beq_iff_eq, bne_iff_ne, ne_eq, beq_eq_false_iff_ne, bne_eq_false_iff_eq, Int.not_lt, Int.not_le, Bool.true_eq_false, Bool.false_eq_true, tb_one, tb_zero]; omega)) ?_))
          rw [List.set_cons_zero, U32_set]
          have hst := sub_step (P := B ^ i) (d := d) (x := dx) (b := 0) (s := dx + 0) (t := bw) rfl (by rw [hd]; omega) (show val O + val (m.take i) = val (l.take i) + B ^ i * bw from hval.out)
          exact ⟨l.length - (i + 1), [(24, .int .i64 (i + 1 : Nat)), (23, .int .i64 (l.length : Nat)), (22, .slice (some ad) l.length c), (1, .slice B' m.length c'), (7, .int .u64 ((0 : Nat) : Int)), (6, .slice (some ⟨g_, 0, none⟩) l.length l.length)], [.blk g_ 51 (U32 (O.set i d))], by omega, (by repeat (first | exact trivial | refine ⟨rfl, ?_⟩)), ⟨i + 1, O.set i d, 0, rfl, by omega, by simpa using hOl, hOs.set _ hdB, by omega, ⟨by
              have h1 := hset.out
              rw [ht1.out, ht2.out, Nat.pow_succ]
              exact sub_gin0 h1 hst⟩, ⟨fun j hj => by rw [getD_set_ne' (by omega)]; exact hz.out j (by omega)⟩, rfl, rfl, rfl⟩, (by repeat (first | exact List.Sublist.refl _ | exact List.nil_sublist _ | refine List.Sublist.cons_cons _ ?_ | refine List.Sublist.cons _ ?_))⟩
    · obtain rfl : i = l.length := by omega
      have hv2 := hval.out
      rw [List.take_length, List.take_of_length_le hlen, hvx, hvy] at hv2
      have hlt3 := val_lt hOs
      rw [hOl] at hlt3
      have hb0 : bw = 0 := by
        rcases Nat.eq_zero_or_pos bw with h | h
        · exact h
        · obtain rfl : bw = 1 := by omega
          omega
      subst hb0
      have hO2 : val O = x - y := by omega
      clear hv2 hlt3 hval
      refine SyC.ownOf (k := 0) (m := l.length) (sz := 1) rfl (by rw [U32_len, hOl]; omega) (by simp [maxLen]; omega) ?_
      rw [← hOl]
      refine SyC.freezeOwn fun I9 hle9 hr9 => ?_
      have hN := NatV.of hOs hr9
      have ht := trim_c I9 (some ⟨g_, 0, none⟩) O.length O hOs hr9
      rw [hO2] at hN ht
      repeat' (first
        | (refine SyC.seq ?_)
        | (refine SyC.region ?_)
        | (refine SyL.nil ?_)
        | (refine Then.norm ?_)
        | (refine Then.exit ?_)
        | (refine InB.hit ?_)
        | (refine SyC.exit ?_)
        | (refine SyC.ret ?_)
        | (refine SyL.light (LV.move rfl) Rq.nil (.none rfl) rfl (ltB rfl) ?_)
        | (refine SyL.light (LV.assign rfl) Rq.nil (.none rfl) rfl (ltB rfl) ?_)
        | (refine SyL.light (LV.cmp rfl rfl rfl) Rq.nil (.none rfl) rfl (ltB rfl) ?_)
        | (refine SyL.heavy (OpT.pcall rfl rfl (ht) ?_) (.none rfl) rfl (ltB rfl); rintro v3 I4 - ⟨rfl, rfl⟩)
        | (refine SyC.condF rfl (by first | assumption | (with_reducible rfl) | decide | (simp only [decide_eq_true_eq, decide_eq_false_iff_not, Bool.not_eq_true', Bool.not_eq_false', beq_iff_eq, bne_iff_ne, ne_eq, beq_eq_false_iff_ne, bne_eq_false_iff_eq, Int.not_lt, Int.not_le, Bool.true_eq_false, Bool.false_eq_true, tb_one, tb_zero]; omega)) ?_))
      exact Ret.twoS (by simp) Tryd.results15 (.tmp rfl) (.tmp rfl) (⟨rfl, _, by rw [if_neg hxy]; rfl, hN⟩) (by repeat (first | exact List.Sublist.refl _ | exact List.nil_sublist _ | refine List.Sublist.cons_cons _ ?_ | refine List.Sublist.cons _ ?_))
end Go.Proofs.YtpgkbipnkkeicaaDoor
