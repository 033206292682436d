import Derived.Test.YtpgkbipnkkeicaaDoorN3
set_option linter.unusedSimpArgs false
set_option linter.unusedVariables false
/-! Sums. -/
namespace Go.Nt
theorem take_over {l : List Nat} {k : Nat} (h : l.length ≤ k) : l.take (k + 1) = l.take k := by rw [List.take_of_length_le h, List.take_of_length_le (by omega)]
/-- One digit more. -/
theorem add_digit {O : List Nat} {i cy x y X Y s : Nat} (hO : O.length = i) (h : val O + cy * B ^ i = X + Y) (hs : s = cy + x + y) : val (O ++ [s % B]) + s / B * B ^ (i + 1) = X + B ^ i * x + (Y + B ^ i * y) := by
  rw [val_snoc, hO, Nat.pow_succ]
  have h1 := Nat.mod_add_div s B
  have h2 : B ^ i * (s % B) + s / B * (B ^ i * B) = B ^ i * s := by
    conv => rhs; rw [← h1]
    rw [Nat.mul_add, Nat.mul_comm (s / B), Nat.mul_assoc]
  have h3 : B ^ i * s = cy * B ^ i + B ^ i * x + B ^ i * y := by rw [hs, Nat.mul_add, Nat.mul_add, Nat.mul_comm cy]
  generalize B ^ i * (s % B) = p at *
  generalize s / B * (B ^ i * B) = q at *
  generalize B ^ i * x = r at *
  generalize B ^ i * y = t at *
  omega
end Go.Nt
namespace Go.Proofs.YtpgkbipnkkeicaaDoor
open Go Go.Sx Go.Nt

theorem wrap32 (s : Nat) : IntKind.u32.wrap ((s : Nat) : Int) = ((s % B : Nat) : Int) := by
  simp only [IntKind.wrap, IntKind.bits, IntKind.signed]
  simp [B]
theorem U32_snoc (l : List Nat) (x : Nat) : U32 l ++ [.int .u32 (x : Int)] = U32 (l ++ [x]) := by simp [U32]
theorem shr32 (s : Nat) : s >>> 32 = s / B := Nat.shiftRight_eq_div_pow s 32

set_option maxRecDepth 100000 in
set_option maxHeartbeats 2000000 in
theorem natAdd_c (I : IH) (u v : Value) (x y : Nat) (hu : NatV I u x) (hv : NatV I v y) (hbx : (digs x).length ≤ 1000000) (hby : (digs y).length ≤ 1000000) : PFn Tryd.prog 11 #[u, v] I fun r I' => NatV I' r (x + y) := by
  obtain ⟨A, c, rfl, hu⟩ := hu
  obtain ⟨B', c', rfl, hv⟩ := hv
  have t1 := trimN_c I A c x hu
  have t2 := trimN_c I B' c' y hv
  have hsl := digs_sm x
  have hsm := digs_sm y
  have hvx := val_digs x
  have hvy := val_digs y
  generalize digs x = l at *
  generalize digs y = m at *
  have hB : B = 4294967296 := rfl
  refine Fn.intro (n := 60) (args := [.slice A l.length c, .slice B' m.length c']) (by kernel_rfl) Tryd.func11 rfl Tryd.ntmps11 (Nat.le_of_ble_eq_true rfl) [(0, .slice A l.length c), (1, .slice B' m.length c')] rfl (fun w0 => ?_)
  by_cases h1 : l.length < m.length
  · repeat' (first
      | (refine SyC.seq ?_)
      | (refine SyC.region ?_)
      | (refine SyL.nil ?_)
      | (refine Then.norm ?_)
      | (refine SyC.block ?_)
      | (refine SyL.light (LV.move rfl) Rq.nil (.none rfl) rfl (ltB rfl) ?_)
      | (refine SyL.light (LV.assign rfl) Rq.nil (.none rfl) rfl (ltB rfl) ?_)
      | (refine SyL.light (LV.len (by apply rfl)) Rq.nil (.none rfl) rfl (ltB rfl) ?_)
      | (refine SyL.light (LV.cmp rfl rfl rfl) Rq.nil (.none rfl) rfl (ltB rfl) ?_)
      | (refine SyL.light (LV.arN rfl rfl rfl (by simp only [Fits]; omega)) Rq.nil (.none rfl) rfl (ltB rfl) ?_)
      | (refine SyL.heavy (OpT.make (by apply rfl) (by apply rfl) (by omega) (by omega) (by omega) (by decide) (by omega) (fun g_ hg_ => ?_)) (.none rfl) rfl (ltB rfl))
      | (refine SyL.heavy (OpT.pcall rfl rfl (t1) ?_) (.none rfl) rfl (ltB rfl); rintro v1 I1 - ⟨rfl, rfl⟩)
      | (refine SyL.heavy (OpT.pcall rfl rfl (t2) ?_) (.none rfl) rfl (ltB rfl); rintro v2 I2 - ⟨rfl, rfl⟩)
      | (refine SyC.condT rfl (by first | assumption | (with_reducible rfl) | decide | (simp only [decide_eq_true_eq, decide_eq_false_iff_not, Bool.not_eq_true', Bool.not_eq_false', beq_iff_eq, bne_iff_ne, ne_eq, beq_eq_false_iff_ne, bne_eq_false_iff_eq, Int.not_lt, Int.not_le, Bool.true_eq_false, Bool.false_eq_true, tb_one, tb_zero]; omega)) ?_))
    refine SyC.ownOfN (k := 0) (cap := m.length + 1) (sz := 1) 0 rfl (by simp [Value.cells]) (by omega) (by simp [maxLen]; omega) ?_
    refine SyC.loopD (fun q env I' rs => ∃ i A2 c2 O cy, q = m.length - i ∧ i ≤ m.length ∧ O.length = i ∧ Sm O ∧ cy ≤ 1 ∧ Hd (val O + cy * B ^ i = val (m.take i) + val (l.take i)) ∧ I' = I2 ∧ rs = [.own A2 c2 51 1 O.length (U32 O)] ∧
      env = [(26, .int .i64 (i : Nat)), (25, .int .i64 (m.length : Nat)), (24, .slice B' m.length c'), (1, .slice A l.length c), (5, .slice A2 O.length c2), (6, .int .u64 (cy : Nat))]) m.length
      [(26, .int .i64 ((0 : Nat) : Int)), (25, .int .i64 (m.length : Nat)), (24, .slice B' m.length c'), (1, .slice A l.length c), (5, .slice (some ⟨g_, 0, none⟩) 0 (m.length + 1)), (6, .int .u64 ((0 : Nat) : Int))] (by repeat (first | exact trivial | refine ⟨rfl, ?_⟩))
      ⟨0, _, _, [], 0, rfl, by omega, rfl, Sm.nil, by omega, ⟨rfl⟩, rfl, rfl, rfl⟩ ?_
    rintro q env I' rs ⟨i, A2, c2, O, cy, rfl, hi, hO, hOs, hcy, hval, rfl, rfl, rfl⟩
    by_cases hlt : i < m.length
    · obtain ⟨ad, rfl⟩ := hv.addr (by omega)
      have hx := hsm.getD i
      have hg := U32_get (l := m) (j := i) hlt
      have ht1 := Hd.mk (val_take_succ (l := m) (k := i) hlt)
      generalize m.getD i 0 = dx at hx hg ht1
      rw [hB] at hx
      by_cases hlt2 : i < l.length
      · obtain ⟨bd, rfl⟩ := hu.addr (by omega)
        have hy := hsl.getD i
        have hg' := U32_get (l := l) (j := i) hlt2
        have ht2 := Hd.mk (val_take_succ (l := l) (k := i) hlt2)
        generalize l.getD i 0 = dy at hy hg' ht2
        rw [hB] at hy
        obtain ⟨s, hs⟩ : ∃ s, s = cy + dx + dy := ⟨_, rfl⟩
        have hsI : (cy : Int) + (dx : Int) + (dy : Int) = (s : Int) := by omega
        repeat' (first
          | (rw [hsI])
          | (rw [wrap32])
          | (refine SyC.seq ?_)
          | (refine SyC.region ?_)
          | (refine SyL.nil ?_)
          | (refine Then.norm ?_)
          | (refine InB.norm ?_)
          | (refine SyC.block ?_)
          | (refine SyC.skip ?_)
          | (refine SyL.light (LV.move rfl) Rq.nil (.none rfl) rfl (ltB rfl) ?_)
          | (refine SyL.light (LV.assign rfl) Rq.nil (.none rfl) rfl (ltB rfl) ?_)
          | (refine SyL.light (LV.len (by apply rfl)) Rq.nil (.none rfl) rfl (ltB rfl) ?_)
          | (refine SyL.light (LV.cmp rfl rfl rfl) Rq.nil (.none rfl) rfl (ltB rfl) ?_)
          | (refine SyL.light (LV.arN rfl rfl rfl (by simp only [Fits]; omega)) Rq.nil (.none rfl) rfl (ltB rfl) ?_)
          | (refine SyL.light (LV.convN (by apply rfl) (by simp only [Fits]; omega)) Rq.nil (.none rfl) rfl (ltB rfl) ?_)
          | (refine SyL.light (LV.conv (by apply rfl)) Rq.nil (.none rfl) rfl (ltB rfl) ?_)
          | (refine SyL.light (LV.shrN rfl rfl (by simp only [IntKind.bits]; omega)) Rq.nil (.none rfl) rfl (ltB rfl) ?_)
          | (refine SyL.light (LV.idxN (by apply rfl) (by apply rfl) (by omega)) Rq.nil (.none rfl) rfl (ltB rfl) ?_)
          | (refine SyL.light (LV.load rfl) (Rq.imm (RdSl.at hv hg)) (.none rfl) rfl (ltB rfl) ?_)
          | (refine SyL.light (LV.load rfl) (Rq.imm (RdSl.at hu hg')) (.none rfl) rfl (ltB rfl) ?_)
          | (refine SyL.heavy (OpT.buildSlice (xs := [_]) (vs := [_]) rfl rfl rfl (by simp [Value.cells]) (by decide) (fun g_ hg_ => ?_)) (.none rfl) rfl (ltB rfl))
          | (refine SyL.heavy (OpT.append (by apply rfl) (by apply rfl) (k := 1) rfl (by first | (simp; done) | (simp only [List.length_cons, List.length_nil]; done) | (simp only [List.length_cons, List.length_nil]; omega) | (simp; omega) | omega) (Rq.blkAll (List.mem_of_getElem? (i := 0) rfl)) (by simp [Value.oneCell']) (by first | omega | (simp only [List.length_append, List.length_cons, List.length_nil]; omega)) (by first | omega | (simp only [List.length_append, List.length_cons, List.length_nil]; omega)) (by decide) (fun A_ c_ => ?_)) (.none rfl) rfl (ltB rfl))
          | (refine SyC.condT rfl (by first | assumption | (with_reducible rfl) | decide | (simp only [decide_eq_true_eq, decide_eq_false_iff_not, Bool.not_eq_true', Bool.not_eq_false', beq_iff_eq, bne_iff_ne, ne_eq, beq_eq_false_iff_ne, bne_eq_false_iff_eq, Int.not_lt, Int.not_le, Bool.true_eq_false, Bool.false_eq_true, tb_one, tb_zero]; omega)) ?_))
        rw [shr32, U32_snoc, show O.length + 1 = (O ++ [s % B]).length from by simp]
        have hs2 : s / B ≤ 1 := by rw [hB]; omega
        exact ⟨m.length - (i + 1), [(26, .int .i64 (i + 1 : Nat)), (25, .int .i64 (m.length : Nat)), (24, .slice (some ad) m.length c'), (1, .slice (some bd) l.length c), (5, .slice A_ (O ++ [s % B]).length c_), (6, .int .u64 (s / B : Nat))],
          [.own A_ c_ 51 1 (O ++ [s % B]).length (U32 (O ++ [s % B]))], by omega, (by repeat (first | exact trivial | refine ⟨rfl, ?_⟩)), ⟨i + 1, A_, c_, O ++ [s % B], s / B, rfl, by omega, by simp [hO], hOs.snoc (Nat.mod_lt _ B_pos), hs2, ⟨by rw [ht1.out, ht2.out]; exact add_digit hO hval.out hs⟩, rfl, rfl, rfl⟩, (by repeat (first | exact List.Sublist.refl _ | exact List.nil_sublist _ | refine List.Sublist.cons_cons _ ?_ | refine List.Sublist.cons _ ?_))⟩
      · have ht2 := Hd.mk (take_over (l := l) (k := i) (by omega))
        obtain ⟨s, hs⟩ : ∃ s, s = cy + dx + 0 := ⟨_, rfl⟩
        have hsI : (cy : Int) + (dx : Int) = (s : Int) := by omega
        repeat' (first
          | (rw [hsI])
          | (rw [wrap32])
          | (refine SyC.seq ?_)
          | (refine SyC.region ?_)
          | (refine SyL.nil ?_)
          | (refine Then.norm ?_)
          | (refine InB.norm ?_)
          | (refine SyC.block ?_)
          | (refine SyC.skip ?_)
          | (refine SyL.light (LV.move rfl) Rq.nil (.none rfl) rfl (ltB rfl) ?_)
          | (refine SyL.light (LV.assign rfl) Rq.nil (.none rfl) rfl (ltB rfl) ?_)
          | (refine SyL.light (LV.len (by apply rfl)) Rq.nil (.none rfl) rfl (ltB rfl) ?_)
          | (refine SyL.light (LV.cmp rfl rfl rfl) Rq.nil (.none rfl) rfl (ltB rfl) ?_)
          | (refine SyL.light (LV.arN rfl rfl rfl (by simp only [Fits]; omega)) Rq.nil (.none rfl) rfl (ltB rfl) ?_)
          | (refine SyL.light (LV.convN (by apply rfl) (by simp only [Fits]; omega)) Rq.nil (.none rfl) rfl (ltB rfl) ?_)
          | (refine SyL.light (LV.conv (by apply rfl)) Rq.nil (.none rfl) rfl (ltB rfl) ?_)
          | (refine SyL.light (LV.shrN rfl rfl (by simp only [IntKind.bits]; omega)) Rq.nil (.none rfl) rfl (ltB rfl) ?_)
          | (refine SyL.light (LV.idxN (by apply rfl) (by apply rfl) (by omega)) Rq.nil (.none rfl) rfl (ltB rfl) ?_)
          | (refine SyL.light (LV.load rfl) (Rq.imm (RdSl.at hv hg)) (.none rfl) rfl (ltB rfl) ?_)
          | (refine SyL.heavy (OpT.buildSlice (xs := [_]) (vs := [_]) rfl rfl rfl (by simp [Value.cells]) (by decide) (fun g_ hg_ => ?_)) (.none rfl) rfl (ltB rfl))
          | (refine SyL.heavy (OpT.append (by apply rfl) (by apply rfl) (k := 1) rfl (by first | (simp; done) | (simp only [List.length_cons, List.length_nil]; done) | (simp only [List.length_cons, List.length_nil]; omega) | (simp; omega) | omega) (Rq.blkAll (List.mem_of_getElem? (i := 0) rfl)) (by simp [Value.oneCell']) (by first | omega | (simp only [List.length_append, List.length_cons, List.length_nil]; omega)) (by first | omega | (simp only [List.length_append, List.length_cons, List.length_nil]; omega)) (by decide) (fun A_ c_ => ?_)) (.none rfl) rfl (ltB rfl))
          | (refine SyC.condT rfl (by first | assumption | (with_reducible rfl) | decide | (simp only [decide_eq_true_eq, decide_eq_false_iff_not, Bool.not_eq_true', Bool.not_eq_false', beq_iff_eq, bne_iff_ne, ne_eq, beq_eq_false_iff_ne, bne_eq_false_iff_eq, Int.not_lt, Int.not_le, Bool.true_eq_false, Bool.false_eq_true, tb_one, tb_zero]; omega)) ?_)
          | (refine SyC.condF rfl (by first | assumption | (with_reducible rfl) | decide | (simp only [decide_eq_true_eq, decide_eq_false_iff_not, Bool.not_eq_true', Bool.not_eq_false', beq_iff_eq, bne_iff_ne, ne_eq, beq_eq_false_iff_ne, bne_eq_false_iff_eq, Int.not_lt, Int.not_le, Bool.true_eq_false, Bool.false_eq_true, tb_one, tb_zero]; omega)) ?_))
        rw [shr32, U32_snoc, show O.length + 1 = (O ++ [s % B]).length from by simp]
        have hs2 : s / B ≤ 1 := by rw [hB]; omega
        exact ⟨m.length - (i + 1), [(26, .int .i64 (i + 1 : Nat)), (25, .int .i64 (m.length : Nat)), (24, .slice (some ad) m.length c'), (1, .slice A l.length c), (5, .slice A_ (O ++ [s % B]).length c_), (6, .int .u64 (s / B : Nat))],
          [.own A_ c_ 51 1 (O ++ [s % B]).length (U32 (O ++ [s % B]))], by omega, (by repeat (first | exact trivial | refine ⟨rfl, ?_⟩)), ⟨i + 1, A_, c_, O ++ [s % B], s / B, rfl, by omega, by simp [hO], hOs.snoc (Nat.mod_lt _ B_pos), hs2, ⟨by rw [ht1.out, ht2.out]; have := add_digit hO hval.out hs; rwa [Nat.mul_zero, Nat.add_zero] at this⟩, rfl, rfl, rfl⟩, (by repeat (first | exact List.Sublist.refl _ | exact List.nil_sublist _ | refine List.Sublist.cons_cons _ ?_ | refine List.Sublist.cons _ ?_))⟩
    · obtain rfl : i = m.length := by omega
      have hv2 := hval.out
      rw [List.take_length, List.take_of_length_le (by omega)] at hv2
      have hfin : val (O ++ [cy]) = x + y := by rw [val_snoc, hO, Nat.mul_comm, hv2, hvx, hvy]; omega
      have hOs2 : Sm (O ++ [cy]) := hOs.snoc (by rw [hB]; omega)
      clear hval hv2
      repeat' (first
        | (refine SyC.seq ?_)
        | (refine SyC.region ?_)
        | (refine SyL.nil ?_)
        | (refine Then.norm ?_)
        | (refine Then.exit ?_)
        | (refine InB.hit ?_)
        | (refine SyC.exit ?_)
        | (refine SyL.light (LV.move rfl) Rq.nil (.none rfl) rfl (ltB rfl) ?_)
        | (refine SyL.light (LV.cmp rfl rfl rfl) Rq.nil (.none rfl) rfl (ltB rfl) ?_)
        | (refine SyL.light (LV.convN (by apply rfl) (by simp only [Fits]; omega)) Rq.nil (.none rfl) rfl (ltB rfl) ?_)
        | (refine SyL.heavy (OpT.buildSlice (xs := [_]) (vs := [_]) rfl rfl rfl (by simp [Value.cells]) (by decide) (fun g_ hg_ => ?_)) (.none rfl) rfl (ltB rfl))
        | (refine SyL.heavy (OpT.append (by apply rfl) (by apply rfl) (k := 1) rfl (by first | (simp; done) | (simp only [List.length_cons, List.length_nil]; done) | (simp only [List.length_cons, List.length_nil]; omega) | (simp; omega) | omega) (Rq.blkAll (List.mem_of_getElem? (i := 0) rfl)) (by simp [Value.oneCell']) (by first | omega | (simp only [List.length_append, List.length_cons, List.length_nil]; omega)) (by first | omega | (simp only [List.length_append, List.length_cons, List.length_nil]; omega)) (by decide) (fun A_ c_ => ?_)) (.none rfl) rfl (ltB rfl))
        | (refine SyC.condF rfl (by first | assumption | (with_reducible rfl) | decide | (simp only [decide_eq_true_eq, decide_eq_false_iff_not, Bool.not_eq_true', Bool.not_eq_false', beq_iff_eq, bne_iff_ne, ne_eq, beq_eq_false_iff_ne, bne_eq_false_iff_eq, Int.not_lt, Int.not_le, Bool.true_eq_false, Bool.false_eq_true, tb_one, tb_zero]; omega)) ?_))
      refine SyL.rows [.own A_ c_ 51 1 (O.length + 1) (U32 O ++ [.int .u32 (cy : Nat)])] (by repeat (first | exact List.Sublist.refl _ | exact List.nil_sublist _ | refine List.Sublist.cons_cons _ ?_ | refine List.Sublist.cons _ ?_)) ?_
      rw [U32_snoc, show O.length + 1 = (O ++ [cy]).length from by simp]
      refine SyL.freezeOwn fun I9 hle9 hr9 => ?_
      have hN := NatV.of hOs2 hr9
      rw [hfin] at hN
      have ht := trim_c I9 A_ c_ (O ++ [cy]) hOs2 hr9
      rw [hfin] at ht
      repeat' (first
        | (refine SyL.nil ?_)
        | (refine Then.norm ?_)
        | (refine SyC.ret ?_)
        | (refine SyL.light (LV.assign rfl) Rq.nil (.none rfl) rfl (ltB rfl) ?_)
        | (refine SyL.heavy (OpT.pcall rfl rfl (ht) ?_) (.none rfl) rfl (ltB rfl); rintro v3 I3 - ⟨rfl, rfl⟩))
      refine Ret.one (by simp) Tryd.results11 (.tmp rfl) ?_
      exact ⟨rfl, hN⟩
  · repeat' (first
      | (refine SyC.seq ?_)
      | (refine SyC.region ?_)
      | (refine SyL.nil ?_)
      | (refine Then.norm ?_)
      | (refine SyC.block ?_)
      | (refine SyC.skip ?_)
      | (refine SyL.light (LV.move rfl) Rq.nil (.none rfl) rfl (ltB rfl) ?_)
      | (refine SyL.light (LV.assign rfl) Rq.nil (.none rfl) rfl (ltB rfl) ?_)
      | (refine SyL.light (LV.len (by apply rfl)) Rq.nil (.none rfl) rfl (ltB rfl) ?_)
      | (refine SyL.light (LV.cmp rfl rfl rfl) Rq.nil (.none rfl) rfl (ltB rfl) ?_)
      | (refine SyL.light (LV.arN rfl rfl rfl (by simp only [Fits]; omega)) Rq.nil (.none rfl) rfl (ltB rfl) ?_)
      | (refine SyL.heavy (OpT.make (by apply rfl) (by apply rfl) (by omega) (by omega) (by omega) (by decide) (by omega) (fun g_ hg_ => ?_)) (.none rfl) rfl (ltB rfl))
      | (refine SyL.heavy (OpT.pcall rfl rfl (t1) ?_) (.none rfl) rfl (ltB rfl); rintro v1 I1 - ⟨rfl, rfl⟩)
      | (refine SyL.heavy (OpT.pcall rfl rfl (t2) ?_) (.none rfl) rfl (ltB rfl); rintro v2 I2 - ⟨rfl, rfl⟩)
      | (refine SyC.condF rfl (by first | assumption | (with_reducible rfl) | decide | (simp only [decide_eq_true_eq, decide_eq_false_iff_not, Bool.not_eq_true', Bool.not_eq_false', beq_iff_eq, bne_iff_ne, ne_eq, beq_eq_false_iff_ne, bne_eq_false_iff_eq, Int.not_lt, Int.not_le, Bool.true_eq_false, Bool.false_eq_true, tb_one, tb_zero]; omega)) ?_))
    refine SyC.ownOfN (k := 0) (cap := l.length + 1) (sz := 1) 0 rfl (by simp [Value.cells]) (by omega) (by simp [maxLen]; omega) ?_
    refine SyC.loopD (fun q env I' rs => ∃ i A2 c2 O cy, q = l.length - i ∧ i ≤ l.length ∧ O.length = i ∧ Sm O ∧ cy ≤ 1 ∧ Hd (val O + cy * B ^ i = val (l.take i) + val (m.take i)) ∧ I' = I2 ∧ rs = [.own A2 c2 51 1 O.length (U32 O)] ∧
      env = [(26, .int .i64 (i : Nat)), (25, .int .i64 (l.length : Nat)), (24, .slice A l.length c), (1, .slice B' m.length c'), (5, .slice A2 O.length c2), (6, .int .u64 (cy : Nat))]) l.length
      [(26, .int .i64 ((0 : Nat) : Int)), (25, .int .i64 (l.length : Nat)), (24, .slice A l.length c), (1, .slice B' m.length c'), (5, .slice (some ⟨g_, 0, none⟩) 0 (l.length + 1)), (6, .int .u64 ((0 : Nat) : Int))] (by repeat (first | exact trivial | refine ⟨rfl, ?_⟩))
      ⟨0, _, _, [], 0, rfl, by omega, rfl, Sm.nil, by omega, ⟨rfl⟩, rfl, rfl, rfl⟩ ?_
    rintro q env I' rs ⟨i, A2, c2, O, cy, rfl, hi, hO, hOs, hcy, hval, rfl, rfl, rfl⟩
    by_cases hlt : i < l.length
    · obtain ⟨ad, rfl⟩ := hu.addr (by omega)
      have hx := hsl.getD i
      have hg := U32_get (l := l) (j := i) hlt
      have ht1 := Hd.mk (val_take_succ (l := l) (k := i) hlt)
      generalize l.getD i 0 = dx at hx hg ht1
      rw [hB] at hx
      by_cases hlt2 : i < m.length
      · obtain ⟨bd, rfl⟩ := hv.addr (by omega)
        have hy := hsm.getD i
        have hg' := U32_get (l := m) (j := i) hlt2
        have ht2 := Hd.mk (val_take_succ (l := m) (k := i) hlt2)
        generalize m.getD i 0 = dy at hy hg' ht2
        rw [hB] at hy
        obtain ⟨s, hs⟩ : ∃ s, s = cy + dx + dy := ⟨_, rfl⟩
        have hsI : (cy : Int) + (dx : Int) + (dy : Int) = (s : Int) := by omega
        repeat' (first
          | (rw [hsI])
          | (rw [wrap32])
          | (refine SyC.seq ?_)
          | (refine SyC.region ?_)
          | (refine SyL.nil ?_)
          | (refine Then.norm ?_)
          | (refine InB.norm ?_)
          | (refine SyC.block ?_)
          | (refine SyC.skip ?_)
          | (refine SyL.light (LV.move rfl) Rq.nil (.none rfl) rfl (ltB rfl) ?_)
          | (refine SyL.light (LV.assign rfl) Rq.nil (.none rfl) rfl (ltB rfl) ?_)
          | (refine SyL.light (LV.len (by apply rfl)) Rq.nil (.none rfl) rfl (ltB rfl) ?_)
          | (refine SyL.light (LV.cmp rfl rfl rfl) Rq.nil (.none rfl) rfl (ltB rfl) ?_)
          | (refine SyL.light (LV.arN rfl rfl rfl (by simp only [Fits]; omega)) Rq.nil (.none rfl) rfl (ltB rfl) ?_)
          | (refine SyL.light (LV.convN (by apply rfl) (by simp only [Fits]; omega)) Rq.nil (.none rfl) rfl (ltB rfl) ?_)
          | (refine SyL.light (LV.conv (by apply rfl)) Rq.nil (.none rfl) rfl (ltB rfl) ?_)
          | (refine SyL.light (LV.shrN rfl rfl (by simp only [IntKind.bits]; omega)) Rq.nil (.none rfl) rfl (ltB rfl) ?_)
          | (refine SyL.light (LV.idxN (by apply rfl) (by apply rfl) (by omega)) Rq.nil (.none rfl) rfl (ltB rfl) ?_)
          | (refine SyL.light (LV.load rfl) (Rq.imm (RdSl.at hu hg)) (.none rfl) rfl (ltB rfl) ?_)
          | (refine SyL.light (LV.load rfl) (Rq.imm (RdSl.at hv hg')) (.none rfl) rfl (ltB rfl) ?_)
          | (refine SyL.heavy (OpT.buildSlice (xs := [_]) (vs := [_]) rfl rfl rfl (by simp [Value.cells]) (by decide) (fun g_ hg_ => ?_)) (.none rfl) rfl (ltB rfl))
          | (refine SyL.heavy (OpT.append (by apply rfl) (by apply rfl) (k := 1) rfl (by first | (simp; done) | (simp only [List.length_cons, List.length_nil]; done) | (simp only [List.length_cons, List.length_nil]; omega) | (simp; omega) | omega) (Rq.blkAll (List.mem_of_getElem? (i := 0) rfl)) (by simp [Value.oneCell']) (by first | omega | (simp only [List.length_append, List.length_cons, List.length_nil]; omega)) (by first | omega | (simp only [List.length_append, List.length_cons, List.length_nil]; omega)) (by decide) (fun A_ c_ => ?_)) (.none rfl) rfl (ltB rfl))
          | (refine SyC.condT rfl (by first | assumption | (with_reducible rfl) | decide | (simp only [decide_eq_true_eq, decide_eq_false_iff_not, Bool.not_eq_true', Bool.not_eq_false', beq_iff_eq, bne_iff_ne, ne_eq, beq_eq_false_iff_ne, bne_eq_false_iff_eq, Int.not_lt, Int.not_le, Bool.true_eq_false, Bool.false_eq_true, tb_one, tb_zero]; omega)) ?_))
        rw [shr32, U32_snoc, show O.length + 1 = (O ++ [s % B]).length from by simp]
        have hs2 : s / B ≤ 1 := by rw [hB]; omega
        exact ⟨l.length - (i + 1), [(26, .int .i64 (i + 1 : Nat)), (25, .int .i64 (l.length : Nat)), (24, .slice (some ad) l.length c), (1, .slice (some bd) m.length c'), (5, .slice A_ (O ++ [s % B]).length c_), (6, .int .u64 (s / B : Nat))],
          [.own A_ c_ 51 1 (O ++ [s % B]).length (U32 (O ++ [s % B]))], by omega, (by repeat (first | exact trivial | refine ⟨rfl, ?_⟩)), ⟨i + 1, A_, c_, O ++ [s % B], s / B, rfl, by omega, by simp [hO], hOs.snoc (Nat.mod_lt _ B_pos), hs2, ⟨by rw [ht1.out, ht2.out]; exact add_digit hO hval.out hs⟩, rfl, rfl, rfl⟩, (by repeat (first | exact List.Sublist.refl _ | exact List.nil_sublist _ | refine List.Sublist.cons_cons _ ?_ | refine List.Sublist.cons _ ?_))⟩
      · have ht2 := Hd.mk (take_over (l := m) (k := i) (by omega))
        obtain ⟨s, hs⟩ : ∃ s, s = cy + dx + 0 := ⟨_, rfl⟩
        have hsI : (cy : Int) + (dx : Int) = (s : Int) := by omega
        repeat' (first
          | (rw [hsI])
          | (rw [wrap32])
          | (refine SyC.seq ?_)
          | (refine SyC.region ?_)
          | (refine SyL.nil ?_)
          | (refine Then.norm ?_)
          | (refine InB.norm ?_)
          | (refine SyC.block ?_)
          | (refine SyC.skip ?_)
          | (refine SyL.light (LV.move rfl) Rq.nil (.none rfl) rfl (ltB rfl) ?_)
          | (refine SyL.light (LV.assign rfl) Rq.nil (.none rfl) rfl (ltB rfl) ?_)
          | (refine SyL.light (LV.len (by apply rfl)) Rq.nil (.none rfl) rfl (ltB rfl) ?_)
          | (refine SyL.light (LV.cmp rfl rfl rfl) Rq.nil (.none rfl) rfl (ltB rfl) ?_)
          | (refine SyL.light (LV.arN rfl rfl rfl (by simp only [Fits]; omega)) Rq.nil (.none rfl) rfl (ltB rfl) ?_)
          | (refine SyL.light (LV.convN (by apply rfl) (by simp only [Fits]; omega)) Rq.nil (.none rfl) rfl (ltB rfl) ?_)
          | (refine SyL.light (LV.conv (by apply rfl)) Rq.nil (.none rfl) rfl (ltB rfl) ?_)
          | (refine SyL.light (LV.shrN rfl rfl (by simp only [IntKind.bits]; omega)) Rq.nil (.none rfl) rfl (ltB rfl) ?_)
          | (refine SyL.light (LV.idxN (by apply rfl) (by apply rfl) (by omega)) Rq.nil (.none rfl) rfl (ltB rfl) ?_)
          | (refine SyL.light (LV.load rfl) (Rq.imm (RdSl.at hu hg)) (.none rfl) rfl (ltB rfl) ?_)
          | (refine SyL.heavy (OpT.buildSlice (xs := [_]) (vs := [_]) rfl rfl rfl (by simp [Value.cells]) (by decide) (fun g_ hg_ => ?_)) (.none rfl) rfl (ltB rfl))
          | (refine SyL.heavy (OpT.append (by apply rfl) (by apply rfl) (k := 1) rfl (by first | (simp; done) | (simp only [List.length_cons, List.length_nil]; done) | (simp only [List.length_cons, List.length_nil]; omega) | (simp; omega) | omega) (Rq.blkAll (List.mem_of_getElem? (i := 0) rfl)) (by simp [Value.oneCell']) (by first | omega | (simp only [List.length_append, List.length_cons, List.length_nil]; omega)) (by first | omega | (simp only [List.length_append, List.length_cons, List.length_nil]; omega)) (by decide) (fun A_ c_ => ?_)) (.none rfl) rfl (ltB rfl))
          | (refine SyC.condT rfl (by first | assumption | (with_reducible rfl) | decide | (simp only [decide_eq_true_eq, decide_eq_false_iff_not, Bool.not_eq_true', Bool.not_eq_false', beq_iff_eq, bne_iff_ne, ne_eq, beq_eq_false_iff_ne, bne_eq_false_iff_eq, Int.not_lt, Int.not_le, Bool.true_eq_false, Bool.false_eq_true, tb_one, tb_zero]; omega)) ?_)
          | (refine SyC.condF rfl (by first | assumption | (with_reducible rfl) | decide | (simp only [decide_eq_true_eq, decide_eq_false_iff_not, Bool.not_eq_true', Bool.not_eq_false', beq_iff_eq, bne_iff_ne, ne_eq, beq_eq_false_iff_ne, bne_eq_false_iff_eq, Int.not_lt, Int.not_le, Bool.true_eq_false, Bool.false_eq_true, tb_one, tb_zero]; omega)) ?_))
        rw [shr32, U32_snoc, show O.length + 1 = (O ++ [s % B]).length from by simp]
        have hs2 : s / B ≤ 1 := by rw [hB]; omega
        exact ⟨l.length - (i + 1), [(26, .int .i64 (i + 1 : Nat)), (25, .int .i64 (l.length : Nat)), (24, .slice (some ad) l.length c), (1, .slice B' m.length c'), (5, .slice A_ (O ++ [s % B]).length c_), (6, .int .u64 (s / B : Nat))],
          [.own A_ c_ 51 1 (O ++ [s % B]).length (U32 (O ++ [s % B]))], by omega, (by repeat (first | exact trivial | refine ⟨rfl, ?_⟩)), ⟨i + 1, A_, c_, O ++ [s % B], s / B, rfl, by omega, by simp [hO], hOs.snoc (Nat.mod_lt _ B_pos), hs2, ⟨by rw [ht1.out, ht2.out]; have := add_digit hO hval.out hs; rwa [Nat.mul_zero, Nat.add_zero] at this⟩, rfl, rfl, rfl⟩, (by repeat (first | exact List.Sublist.refl _ | exact List.nil_sublist _ | refine List.Sublist.cons_cons _ ?_ | refine List.Sublist.cons _ ?_))⟩
    · obtain rfl : i = l.length := by omega
      have hv2 := hval.out
      rw [List.take_length, List.take_of_length_le (by omega)] at hv2
      have hfin : val (O ++ [cy]) = x + y := by rw [val_snoc, hO, Nat.mul_comm, hv2, hvx, hvy]
      have hOs2 : Sm (O ++ [cy]) := hOs.snoc (by rw [hB]; omega)
      clear hval hv2
      repeat' (first
        | (refine SyC.seq ?_)
        | (refine SyC.region ?_)
        | (refine SyL.nil ?_)
        | (refine Then.norm ?_)
        | (refine Then.exit ?_)
        | (refine InB.hit ?_)
        | (refine SyC.exit ?_)
        | (refine SyL.light (LV.move rfl) Rq.nil (.none rfl) rfl (ltB rfl) ?_)
        | (refine SyL.light (LV.cmp rfl rfl rfl) Rq.nil (.none rfl) rfl (ltB rfl) ?_)
        | (refine SyL.light (LV.convN (by apply rfl) (by simp only [Fits]; omega)) Rq.nil (.none rfl) rfl (ltB rfl) ?_)
        | (refine SyL.heavy (OpT.buildSlice (xs := [_]) (vs := [_]) rfl rfl rfl (by simp [Value.cells]) (by decide) (fun g_ hg_ => ?_)) (.none rfl) rfl (ltB rfl))
        | (refine SyL.heavy (OpT.append (by apply rfl) (by apply rfl) (k := 1) rfl (by first | (simp; done) | (simp only [List.length_cons, List.length_nil]; done) | (simp only [List.length_cons, List.length_nil]; omega) | (simp; omega) | omega) (Rq.blkAll (List.mem_of_getElem? (i := 0) rfl)) (by simp [Value.oneCell']) (by first | omega | (simp only [List.length_append, List.length_cons, List.length_nil]; omega)) (by first | omega | (simp only [List.length_append, List.length_cons, List.length_nil]; omega)) (by decide) (fun A_ c_ => ?_)) (.none rfl) rfl (ltB rfl))
        | (refine SyC.condF rfl (by first | assumption | (with_reducible rfl) | decide | (simp only [decide_eq_true_eq, decide_eq_false_iff_not, Bool.not_eq_true', Bool.not_eq_false', beq_iff_eq, bne_iff_ne, ne_eq, beq_eq_false_iff_ne, bne_eq_false_iff_eq, Int.not_lt, Int.not_le, Bool.true_eq_false, Bool.false_eq_true, tb_one, tb_zero]; omega)) ?_))
      refine SyL.rows [.own A_ c_ 51 1 (O.length + 1) (U32 O ++ [.int .u32 (cy : Nat)])] (by repeat (first | exact List.Sublist.refl _ | exact List.nil_sublist _ | refine List.Sublist.cons_cons _ ?_ | refine List.Sublist.cons _ ?_)) ?_
      rw [U32_snoc, show O.length + 1 = (O ++ [cy]).length from by simp]
      refine SyL.freezeOwn fun I9 hle9 hr9 => ?_
      have hN := NatV.of hOs2 hr9
      rw [hfin] at hN
      have ht := trim_c I9 A_ c_ (O ++ [cy]) hOs2 hr9
      rw [hfin] at ht
      repeat' (first
        | (refine SyL.nil ?_)
        | (refine Then.norm ?_)
        | (refine SyC.ret ?_)
        | (refine SyL.light (LV.assign rfl) Rq.nil (.none rfl) rfl (ltB rfl) ?_)
        | (refine SyL.heavy (OpT.pcall rfl rfl (ht) ?_) (.none rfl) rfl (ltB rfl); rintro v3 I3 - ⟨rfl, rfl⟩))
      refine Ret.one (by simp) Tryd.results11 (.tmp rfl) ?_
      exact ⟨rfl, hN⟩
end Go.Proofs.YtpgkbipnkkeicaaDoor
