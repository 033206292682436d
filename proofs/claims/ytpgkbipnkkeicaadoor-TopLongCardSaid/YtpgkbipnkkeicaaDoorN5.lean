import Derived.Test.YtpgkbipnkkeicaaDoorN4
set_option linter.unusedSimpArgs false
set_option linter.unusedVariables false
/-! Products. -/
namespace Go.Nt
theorem val_set {O : List Nat} {p d : Nat} (h : p < O.length) : val (O.set p d) + B ^ p * O.getD p 0 = val O + B ^ p * d := by
  have h1 := val_split (O.set p d) p (by simp; omega)
  have h2 := val_split O p (by omega)
  rw [val_drop_cons (by simpa using h)] at h1
  rw [val_drop_cons h] at h2
  have e1 : (O.set p d).take p = O.take p := List.take_set_of_le (Nat.le_refl _)
  have e2 : (O.set p d).drop (p + 1) = O.drop (p + 1) := by
    apply List.ext_getElem?
    intro k
    rw [List.getElem?_drop, List.getElem?_drop, List.getElem?_set_ne (by omega)]
  have e3 : (O.set p d).getD p 0 = d := by rw [List.getD_eq_getElem?_getD, List.getElem?_set_self h]; rfl
  rw [e1, e2, e3] at h1
  rw [h1, h2, Nat.mul_add, Nat.mul_add]
  omega
theorem getD_set_ne' {O : List Nat} {p q d : Nat} (h : p ≠ q) : (O.set p d).getD q 0 = O.getD q 0 := by
  rw [List.getD_eq_getElem?_getD, List.getD_eq_getElem?_getD, List.getElem?_set_ne h]
theorem mul_step {P c o z s V W T : Nat} (hs : s = c + o + z) (hV : V + P * o = W + P * (s % B)) (h : W + c * P = T) : V + s / B * (P * B) = T + P * z := by
  have h1 := Nat.mod_add_div s B
  have h2 : P * (s % B) + s / B * (P * B) = P * s := by
    conv => rhs; rw [← h1]
    rw [Nat.mul_add, Nat.mul_comm (s / B), Nat.mul_assoc]
  have h3 : P * s = c * P + P * o + P * z := by rw [hs, Nat.mul_add, Nat.mul_add, Nat.mul_comm c]
  generalize P * (s % B) = a at *
  generalize s / B * (P * B) = b at *
  generalize P * o = e at *
  generalize P * z = f at *
  omega
theorem sq_lt {c o x y : Nat} (hc : c < B) (ho : o < B) (hx : x < B) (hy : y < B) : c + o + x * y < B * B := by
  have h1 : x * y ≤ (B - 1) * (B - 1) := Nat.mul_le_mul (by omega) (by omega)
  have h2 : (B - 1) * (B - 1) + 2 * (B - 1) + 1 = B * B := by decide
  omega
end Go.Nt
namespace Go.Proofs.YtpgkbipnkkeicaaDoor
open Go Go.Sx Go.Nt
theorem mk_u32' (n : Nat) : ((List.replicate ((n : Int)).toNat (Value.int .u32 0).cells.toList).flatten) = U32 (List.replicate n 0) := by simp [U32, Value.cells]

set_option maxRecDepth 100000 in
set_option maxHeartbeats 2000000 in
theorem natMul_c (I : IH) (u v : Value) (x y : Nat) (hu : NatV I u x) (hv : NatV I v y) (hbx : (digs x).length ≤ 1000000) (hby : (digs y).length ≤ 1000000) : PFn Tryd.prog 12 #[u, v] I fun r I' => NatV I' r (x * y) := by
  obtain ⟨A, c, rfl, hu⟩ := hu
  obtain ⟨B', c', rfl, hv⟩ := hv
  have t1 := trimN_c I A c x hu
  have t2 := trimN_c I B' c' y hv
  have hsl := digs_sm x
  have hsm := digs_sm y
  have hvx := val_digs x
  have hvy := val_digs y
  generalize digs x = l at *
  generalize digs y = m at *
  have hB : B = 4294967296 := rfl
  refine Fn.intro (n := 71) (args := [.slice A l.length c, .slice B' m.length c']) (by kernel_rfl) Tryd.func12 rfl Tryd.ntmps12 (Nat.le_of_ble_eq_true rfl) [(0, .slice A l.length c), (1, .slice B' m.length c')] rfl (fun w0 => ?_)
  have hsum : (l.length : Int) + (m.length : Int) = ((l.length + m.length : Nat) : Int) := by omega
  repeat' (first
    | (rw [hsum])
    | (refine SyC.seq ?_)
    | (refine SyC.region ?_)
    | (refine SyL.nil ?_)
    | (refine Then.norm ?_)
    | (refine SyC.block ?_)
    | (refine SyL.light (LV.move rfl) Rq.nil (.none rfl) rfl (ltB rfl) ?_)
    | (refine SyL.light (LV.assign rfl) Rq.nil (.none rfl) rfl (ltB rfl) ?_)
    | (refine SyL.light (LV.len (by apply rfl)) Rq.nil (.none rfl) rfl (ltB rfl) ?_)
    | (refine SyL.light (LV.arN rfl rfl rfl (by simp only [Fits]; omega)) Rq.nil (.none rfl) rfl (ltB rfl) ?_)
    | (refine SyL.heavy (OpT.make (by apply rfl) (by apply rfl) (by omega) (by omega) (by omega) (by decide) (by omega) (fun g_ hg_ => ?_)) (.none rfl) rfl (ltB rfl))
    | (refine SyL.heavy (OpT.pcall rfl rfl (t1) ?_) (.none rfl) rfl (ltB rfl); rintro v1 I1 - ⟨rfl, rfl⟩)
    | (refine SyL.heavy (OpT.pcall rfl rfl (t2) ?_) (.none rfl) rfl (ltB rfl); rintro v2 I2 - ⟨rfl, rfl⟩))
  rw [mk_u32', Int.toNat_natCast]
  refine SyC.loopD (fun q env I' rs => ∃ i O, q = l.length - i ∧ i ≤ l.length ∧ O.length = l.length + m.length ∧ Sm O ∧ Hd (val O = val (l.take i) * val m) ∧ Hd (∀ j, i + m.length ≤ j → O.getD j 0 = 0) ∧ I' = I2 ∧ rs = [.blk g_ 51 (U32 O)] ∧
    env = [(23, .int .i64 (i : Nat)), (22, .int .i64 (l.length : Nat)), (21, .slice A l.length c), (1, .slice B' m.length c'), (5, .slice (some ⟨g_, 0, none⟩) (l.length + m.length) (l.length + m.length))]) l.length _ (by repeat (first | exact trivial | refine ⟨rfl, ?_⟩))
    ⟨0, List.replicate (l.length + m.length) 0, rfl, by omega, by simp, Sm.zeros _, ⟨by rw [val_zeros]; simp [val]⟩, ⟨fun j _ => by rw [List.getD_eq_getElem?_getD, List.getElem?_replicate]; split <;> rfl⟩, rfl, rfl, rfl⟩ ?_
  rintro q env I' rs ⟨i, O, rfl, hi, hOl, hOs, hval, hz, rfl, rfl, rfl⟩
  by_cases hlt : i < l.length
  · obtain ⟨ad, rfl⟩ := hu.addr (by omega)
    have hx := hsl.getD i
    have hg := U32_get (l := l) (j := i) hlt
    have ht1 := Hd.mk (val_take_succ (l := l) (k := i) hlt)
    generalize l.getD i 0 = dx at hx hg ht1
    repeat' (first
      | (refine SyC.seq ?_)
      | (refine SyC.region ?_)
      | (refine SyL.nil ?_)
      | (refine Then.norm ?_)
      | (refine SyC.block ?_)
      | (refine SyC.skip ?_)
      | (refine SyL.light (LV.move rfl) Rq.nil (.none rfl) rfl (ltB rfl) ?_)
      | (refine SyL.light (LV.assign rfl) Rq.nil (.none rfl) rfl (ltB rfl) ?_)
      | (refine SyL.light (LV.len (by apply rfl)) Rq.nil (.none rfl) rfl (ltB rfl) ?_)
      | (refine SyL.light (LV.cmp rfl rfl rfl) Rq.nil (.none rfl) rfl (ltB rfl) ?_)
      | (refine SyL.light (LV.idxN (by apply rfl) (by apply rfl) (by omega)) Rq.nil (.none rfl) rfl (ltB rfl) ?_)
      | (refine SyL.light (LV.load rfl) (Rq.imm (RdSl.at hu hg)) (.none rfl) rfl (ltB rfl) ?_)
      | (refine SyC.condT rfl (by first | assumption | (with_reducible rfl) | decide | (simp only [decide_eq_true_eq, decide_eq_false_iff_not, Bool.not_eq_true', Bool.not_eq_false', beq_iff_eq, bne_iff_ne, ne_eq, beq_eq_false_iff_ne, bne_eq_false_iff_eq, Int.not_lt, Int.not_le, Bool.true_eq_false, Bool.false_eq_true, tb_one, tb_zero]; omega)) ?_))
    refine SyC.loopD (fun q env I'' rs => ∃ k O cy, q = m.length - k ∧ k ≤ m.length ∧ O.length = l.length + m.length ∧ Sm O ∧ cy < B ∧ Hd (val O + cy * B ^ (i + k) = val (l.take i) * val m + B ^ i * (dx * val (m.take k))) ∧ Hd (∀ j, i + m.length ≤ j → O.getD j 0 = 0) ∧ I'' = I' ∧ rs = [.blk g_ 51 (U32 O)] ∧
      env = [(30, .int .i64 (k : Nat)), (29, .int .i64 (m.length : Nat)), (28, .slice B' m.length c'), (8, .int .u64 (cy : Nat)), (6, .int .i64 (i : Nat)), (7, .int .u32 (dx : Nat)), (23, .int .i64 (i : Nat)), (22, .int .i64 (l.length : Nat)), (21, .slice (some ad) l.length c), (1, .slice B' m.length c'), (5, .slice (some ⟨g_, 0, none⟩) (l.length + m.length) (l.length + m.length))]) m.length
      [(30, .int .i64 ((0 : Nat) : Int)), (29, .int .i64 (m.length : Nat)), (28, .slice B' m.length c'), (8, .int .u64 ((0 : Nat) : Int)), (6, .int .i64 (i : Nat)), (7, .int .u32 (dx : Nat)), (23, .int .i64 (i : Nat)), (22, .int .i64 (l.length : Nat)), (21, .slice (some ad) l.length c), (1, .slice B' m.length c'), (5, .slice (some ⟨g_, 0, none⟩) (l.length + m.length) (l.length + m.length))] (by repeat (first | exact trivial | refine ⟨rfl, ?_⟩))
      ⟨0, O, 0, rfl, by omega, hOl, hOs, B_pos, ⟨by rw [hval.out]; simp [val]⟩, hz, rfl, rfl, rfl⟩ ?_
    clear hOl hOs hval hz
    rintro q env I'' rs ⟨k, O, cy, rfl, hk, hOl, hOs, hcy, hval, hz, rfl, rfl, rfl⟩
    by_cases hkl : k < m.length
    · obtain ⟨bd, rfl⟩ := hv.addr (by omega)
      have hy := hsm.getD k
      have hg' := U32_get (l := m) (j := k) hkl
      have ht2 := Hd.mk (val_take_succ (l := m) (k := k) hkl)
      generalize m.getD k 0 = dy at hy hg' ht2
      have ho := hOs.getD (i + k)
      have hgo := U32_get (l := O) (j := i + k) (by omega)
      have hset := Hd.mk (val_set (O := O) (p := i + k) (d := (cy + O.getD (i + k) 0 + dx * dy) % B) (by omega))
      generalize O.getD (i + k) 0 = o at ho hgo hset
      have hsq := sq_lt hcy ho hx hy
      obtain ⟨s, hs⟩ : ∃ s, s = cy + o + dx * dy := ⟨_, rfl⟩
      rw [← hs] at hset hsq
      obtain ⟨z, hz2⟩ : ∃ z, z = dx * dy := ⟨_, rfl⟩
      have hBB : B * B = 18446744073709551616 := by decide
      rw [hBB] at hsq
      rw [hB] at hcy ho
      have hmI : (dx : Int) * (dy : Int) = (z : Int) := by rw [hz2]; simp
      have hs' : s = cy + o + z := by rw [hs, hz2]
      have hsI : (cy : Int) + ((o : Int) + (z : Int)) = (s : Int) := by omega
      have hik : (i : Int) + (k : Int) = ((i + k : Nat) : Int) := by omega
      have hUl : (U32 O).length = l.length + m.length := by rw [U32_len, hOl]
      repeat' (first
        | (rw [hmI])
        | (rw [hsI])
        | (rw [wrap32])
        | (rw [hik])
        | (refine SyC.seq ?_)
        | (refine SyC.region ?_)
        | (refine SyL.nil ?_)
        | (refine Then.norm ?_)
        | (refine InB.norm ?_)
        | (refine SyC.block ?_)
        | (refine SyC.skip ?_)
        | (refine SyL.light (LV.move rfl) Rq.nil (.none rfl) rfl (ltB rfl) ?_)
        | (refine SyL.light (LV.assign rfl) Rq.nil (.none rfl) rfl (ltB rfl) ?_)
        | (refine SyL.light (LV.cmp rfl rfl rfl) Rq.nil (.none rfl) rfl (ltB rfl) ?_)
        | (refine SyL.light (LV.arN rfl rfl rfl (by simp only [Fits]; omega)) Rq.nil (.none rfl) rfl (ltB rfl) ?_)
        | (refine SyL.light (LV.convN (by apply rfl) (by simp only [Fits]; omega)) Rq.nil (.none rfl) rfl (ltB rfl) ?_)
        | (refine SyL.light (LV.conv (by apply rfl)) Rq.nil (.none rfl) rfl (ltB rfl) ?_)
        | (refine SyL.light (LV.shrN rfl rfl (by simp only [IntKind.bits]; omega)) Rq.nil (.none rfl) rfl (ltB rfl) ?_)
        | (refine SyL.light (LV.idxBN (by apply rfl) (by apply rfl) (by omega)) Rq.nil (.none rfl) rfl (ltB rfl) ?_)
        | (refine SyL.light (LV.idxN (by apply rfl) (by apply rfl) (by omega)) Rq.nil (.none rfl) rfl (ltB rfl) ?_)
        | (refine SyL.light (LV.load rfl) (Rq.imm (RdSl.at hv hg')) (.none rfl) rfl (ltB rfl) ?_)
        | (refine SyL.light (LV.load rfl) (Rq.blk (List.mem_of_getElem? (i := 0) rfl) hgo) (.none rfl) rfl (ltB rfl) ?_)
        | (refine SyL.heavy0 (OpT.store rfl rfl rfl (k := 0) rfl (by first | (simp; done) | (simp only [List.length_cons, List.length_nil, hUl]; done) | (simp only [List.length_cons, List.length_nil, hUl]; omega) | (simp; omega) | omega) ?_) (.none rfl) rfl)
        | (refine SyC.condT rfl (by first | assumption | (with_reducible rfl) | decide | (simp only [decide_eq_true_eq, decide_eq_false_iff_not, Bool.not_eq_true', Bool.not_eq_false', beq_iff_eq, bne_iff_ne, ne_eq, beq_eq_false_iff_ne, bne_eq_false_iff_eq, Int.not_lt, Int.not_le, Bool.true_eq_false, Bool.false_eq_true, tb_one, tb_zero]; omega)) ?_))
      rw [shr32, List.set_cons_zero, U32_set]
      have hsB : s / B < B := by rw [hB]; omega
      exact ⟨m.length - (k + 1), [(30, .int .i64 (k + 1 : Nat)), (29, .int .i64 (m.length : Nat)), (28, .slice (some bd) m.length c'), (8, .int .u64 (s / B : Nat)), (6, .int .i64 (i : Nat)), (7, .int .u32 (dx : Nat)), (23, .int .i64 (i : Nat)), (22, .int .i64 (l.length : Nat)), (21, .slice (some ad) l.length c), (1, .slice (some bd) m.length c'), (5, .slice (some ⟨g_, 0, none⟩) (l.length + m.length) (l.length + m.length))], [.blk g_ 51 (U32 (O.set (i + k) (s % B)))], by omega, (by repeat (first | exact trivial | refine ⟨rfl, ?_⟩)), ⟨k + 1, O.set (i + k) (s % B), s / B, rfl, by omega, by simpa using hOl, hOs.set _ (Nat.mod_lt _ B_pos), hsB, ⟨by
        rw [ht2.out, show i + (k + 1) = (i + k) + 1 from rfl, Nat.pow_succ, mul_step hs' hset.out hval.out, hz2, Nat.pow_add]
        simp only [Nat.mul_add]
        ac_rfl⟩, ⟨fun j hj => by rw [getD_set_ne' (by omega)]; exact hz.out j hj⟩, rfl, rfl, rfl⟩, (by repeat (first | exact List.Sublist.refl _ | exact List.nil_sublist _ | refine List.Sublist.cons_cons _ ?_ | refine List.Sublist.cons _ ?_))⟩
    · obtain rfl : k = m.length := by omega
      have hik : (i : Int) + (m.length : Int) = ((i + m.length : Nat) : Int) := by omega
      have hUl : (U32 O).length = l.length + m.length := by rw [U32_len, hOl]
      have hmod : cy % B = cy := Nat.mod_eq_of_lt hcy
      repeat' (first
        | (rw [hik])
        | (refine SyC.seq ?_)
        | (refine SyC.region ?_)
        | (refine SyL.nil ?_)
        | (refine Then.norm ?_)
        | (refine Then.exit ?_)
        | (refine InB.norm ?_)
        | (refine InB.hit ?_)
        | (refine SyC.exit ?_)
        | (refine SyL.light (LV.move rfl) Rq.nil (.none rfl) rfl (ltB rfl) ?_)
        | (refine SyL.light (LV.len (by apply rfl)) Rq.nil (.none rfl) rfl (ltB rfl) ?_)
        | (refine SyL.light (LV.cmp rfl rfl rfl) Rq.nil (.none rfl) rfl (ltB rfl) ?_)
        | (refine SyL.light (LV.arN rfl rfl rfl (by simp only [Fits]; omega)) Rq.nil (.none rfl) rfl (ltB rfl) ?_)
        | (refine SyL.light (LV.convN (by apply rfl) (by simp only [Fits]; omega)) Rq.nil (.none rfl) rfl (ltB rfl) ?_)
        | (refine SyL.light (LV.idxBN (by apply rfl) (by apply rfl) (by omega)) Rq.nil (.none rfl) rfl (ltB rfl) ?_)
        | (refine SyL.heavy0 (OpT.store rfl rfl rfl (k := 0) rfl (by first | (simp; done) | (simp only [List.length_cons, List.length_nil, hUl]; done) | (simp only [List.length_cons, List.length_nil, hUl]; omega) | (simp; omega) | omega) ?_) (.none rfl) rfl)
        | (refine SyC.condF rfl (by first | assumption | (with_reducible rfl) | decide | (simp only [decide_eq_true_eq, decide_eq_false_iff_not, Bool.not_eq_true', Bool.not_eq_false', beq_iff_eq, bne_iff_ne, ne_eq, beq_eq_false_iff_ne, bne_eq_false_iff_eq, Int.not_lt, Int.not_le, Bool.true_eq_false, Bool.false_eq_true, tb_one, tb_zero]; omega)) ?_))
      have hset := Hd.mk (val_set (O := O) (p := i + m.length) (d := cy) (by omega))
      rw [hz.out (i + m.length) (Nat.le_refl _)] at hset
      rw [List.set_cons_zero, U32_set]
      exact ⟨l.length - (i + 1), [(23, .int .i64 (i + 1 : Nat)), (22, .int .i64 (l.length : Nat)), (21, .slice (some ad) l.length c), (1, .slice B' m.length c'), (5, .slice (some ⟨g_, 0, none⟩) (l.length + m.length) (l.length + m.length))], [.blk g_ 51 (U32 (O.set (i + m.length) cy))], by omega, (by repeat (first | exact trivial | refine ⟨rfl, ?_⟩)), ⟨i + 1, O.set (i + m.length) cy, rfl, by omega, by simpa using hOl, hOs.set _ hcy, ⟨by
        have h1 := hset.out
        have h2 := hval.out
        rw [List.take_length] at h2
        rw [ht1.out, Nat.add_mul, Nat.mul_assoc]
        rw [Nat.mul_comm cy] at h2
        omega⟩, ⟨fun j hj => by rw [getD_set_ne' (by omega)]; exact hz.out j (by omega)⟩, rfl, rfl, rfl⟩, (by repeat (first | exact List.Sublist.refl _ | exact List.nil_sublist _ | refine List.Sublist.cons_cons _ ?_ | refine List.Sublist.cons _ ?_))⟩
  · obtain rfl : i = l.length := by omega
    have hv2 := hval.out
    rw [List.take_length, hvx, hvy] at hv2
    refine SyC.ownOf (k := 0) (m := l.length + m.length) (sz := 1) rfl (by rw [U32_len, hOl]; omega) (by simp [maxLen]; omega) ?_
    rw [← hOl]
    refine SyC.freezeOwn fun I9 hle9 hr9 => ?_
    have hN := NatV.of hOs hr9
    have ht := trim_c I9 (some ⟨g_, 0, none⟩) O.length O hOs hr9
    rw [hv2] at hN ht
    repeat' (first
      | (refine SyC.seq ?_)
      | (refine SyC.region ?_)
      | (refine SyL.nil ?_)
      | (refine Then.norm ?_)
      | (refine Then.exit ?_)
      | (refine InB.hit ?_)
      | (refine SyC.exit ?_)
      | (refine SyC.ret ?_)
      | (refine SyL.light (LV.move rfl) Rq.nil (.none rfl) rfl (ltB rfl) ?_)
      | (refine SyL.light (LV.assign rfl) Rq.nil (.none rfl) rfl (ltB rfl) ?_)
      | (refine SyL.light (LV.cmp rfl rfl rfl) Rq.nil (.none rfl) rfl (ltB rfl) ?_)
      | (refine SyL.heavy (OpT.pcall rfl rfl (ht) ?_) (.none rfl) rfl (ltB rfl); rintro v3 I3 - ⟨rfl, rfl⟩)
      | (refine SyC.condF rfl (by first | assumption | (with_reducible rfl) | decide | (simp only [decide_eq_true_eq, decide_eq_false_iff_not, Bool.not_eq_true', Bool.not_eq_false', beq_iff_eq, bne_iff_ne, ne_eq, beq_eq_false_iff_ne, bne_eq_false_iff_eq, Int.not_lt, Int.not_le, Bool.true_eq_false, Bool.false_eq_true, tb_one, tb_zero]; omega)) ?_))
    refine Ret.one (by simp) Tryd.results12 (.tmp rfl) ?_
    exact ⟨rfl, hN⟩
end Go.Proofs.YtpgkbipnkkeicaaDoor
