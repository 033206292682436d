import Derived.Test.YtpgkbipnkkeicaaDoorN6
set_option linter.unusedSimpArgs false
set_option linter.unusedVariables false
/-! Division by one digit. -/
namespace Go.Nt
theorem short_step {V W d r a M : Nat} (h : V = d * W + r) (hM : M = a + r * B) : a + B * V = d * (M / d + B * W) + M % d := by
  have h1 := Nat.div_add_mod M d
  subst h
  rw [Nat.mul_add, Nat.mul_add, Nat.mul_comm r B] at *
  have e : d * (B * W) = B * (d * W) := by ac_rfl
  rw [e]
  generalize d * (M / d) = p at *
  generalize B * (d * W) = q at *
  generalize B * r = s at *
  omega
theorem drop_set {O : List Nat} {i q : Nat} (h : i < O.length) : val ((O.set i q).drop i) = q + B * val (O.drop (i + 1)) := by
  rw [val_drop_cons (by simpa using h)]
  have e2 : (O.set i q).drop (i + 1) = O.drop (i + 1) := by
    apply List.ext_getElem?
    intro k
    rw [List.getElem?_drop, List.getElem?_drop, List.getElem?_set_ne (by omega)]
  have e3 : (O.set i q).getD i 0 = q := by rw [List.getD_eq_getElem?_getD, List.getElem?_set_self h]; rfl
  rw [e2, e3]
end Go.Nt
namespace Go.Proofs.YtpgkbipnkkeicaaDoor
open Go Go.Sx Go.Nt
set_option maxRecDepth 100000 in
set_option maxHeartbeats 2000000 in
theorem natShort_c (I : IH) (u : Value) (x d : Nat) (hu : NatV I u x) (hd : 0 < d) (hdB : d < B) (hbx : (digs x).length ≤ 1000000) : PFn Tryd.prog 24 #[u, .int .u32 (d : Int)] I fun r I' => ∃ w, r = .tuple #[w, .int .u32 ((x % d : Nat) : Int)] ∧ NatV I' w (x / d) := by
  obtain ⟨A, c, rfl, hu⟩ := hu
  have hsl := digs_sm x
  have hvx := val_digs x
  generalize digs x = l at *
  have hB : B = 4294967296 := rfl
  rw [hB] at hdB
  refine Fn.intro (n := 43) (args := [.slice A l.length c, .int .u32 (d : Int)]) (by kernel_rfl) Tryd.func24 rfl Tryd.ntmps24 (Nat.le_of_ble_eq_true rfl) [(0, .slice A l.length c), (1, .int .u32 (d : Int))] rfl (fun w0 => ?_)
  repeat' (first
    | (refine SyC.seq ?_)
    | (refine SyC.region ?_)
    | (refine SyL.nil ?_)
    | (refine Then.norm ?_)
    | (refine SyC.block ?_)
    | (refine SyL.light (LV.move rfl) Rq.nil (.none rfl) rfl (ltB rfl) ?_)
    | (refine SyL.light (LV.assign rfl) Rq.nil (.none rfl) rfl (ltB rfl) ?_)
    | (refine SyL.light (LV.len (by apply rfl)) Rq.nil (.none rfl) rfl (ltB rfl) ?_)
    | (refine SyL.light (LV.arN rfl rfl rfl (by simp only [Fits]; omega)) Rq.nil (.none rfl) rfl (ltB rfl) ?_)
    | (refine SyL.heavy (OpT.make (by apply rfl) (by apply rfl) (by omega) (by omega) (by omega) (by decide) (by omega) (fun g_ hg_ => ?_)) (.none rfl) rfl (ltB rfl)))
  rw [mk_u32']
  refine SyC.loopD (fun q env I' rs => ∃ j O r, q = j ∧ j ≤ l.length ∧ O.length = l.length ∧ Sm O ∧ r < d ∧ Hd (val (l.drop j) = d * val (O.drop j) + r) ∧ I' = I ∧ rs = [.blk g_ 51 (U32 O)] ∧
    env = [(8, .int .i64 ((j : Nat) - 1 : Int)), (7, .int .u64 (r : Nat)), (1, .int .u32 (d : Nat)), (0, .slice A l.length c), (6, .slice (some ⟨g_, 0, none⟩) l.length l.length)]) l.length
    [(8, .int .i64 ((l.length : Nat) - 1 : Int)), (7, .int .u64 ((0 : Nat) : Int)), (1, .int .u32 (d : Nat)), (0, .slice A l.length c), (6, .slice (some ⟨g_, 0, none⟩) l.length l.length)] (by repeat (first | exact trivial | refine ⟨rfl, ?_⟩))
    ⟨l.length, List.replicate l.length 0, 0, rfl, Nat.le_refl _, by simp, Sm.zeros _, hd, ⟨by simp [val]⟩, rfl, rfl, rfl⟩ ?_
  rintro q env I' rs ⟨j, O, r, rfl, hj, hOl, hOs, hr, hval, rfl, rfl, rfl⟩
  by_cases h0 : 0 < q
  · obtain ⟨i, rfl⟩ : ∃ i, q = i + 1 := ⟨q - 1, by omega⟩
    obtain ⟨ad, rfl⟩ := hu.addr (by omega)
    have hx := hsl.getD i
    have hg := U32_get (l := l) (j := i) (by omega)
    have ht1 := Hd.mk (val_drop_cons (l := l) (k := i) (by omega))
    generalize l.getD i 0 = dx at hx hg ht1
    rw [hB] at hx
    have hUl : (U32 O).length = l.length := by rw [U32_len, hOl]
    obtain ⟨M, hM⟩ : ∃ M, M = dx + r * B := ⟨_, rfl⟩
    have hor : r * 2 ^ 32 ||| dx = M := by rw [Nat.or_comm, or_shift (by omega), hM]; rfl
    have hMb : M < d * B := by
      have h1 : (r + 1) * B ≤ d * B := Nat.mul_le_mul_right _ hr
      rw [Nat.add_mul, ← hB] at *
      omega
    have hq : M / d < B := by rw [Nat.div_lt_iff_lt_mul hd, Nat.mul_comm]; exact hMb
    have hrr : M % d < d := Nat.mod_lt _ hd
    have hst := Hd.mk (short_step (a := dx) hval.out hM)
    have hset := Hd.mk (drop_set (O := O) (i := i) (q := M / d) (by omega))
    have hM64 : M < 18446744073709551616 := by
      have : d * B ≤ 4294967296 * B := Nat.mul_le_mul_right _ (by omega)
      rw [hB] at this hMb
      omega
    have eq1 : (M : Int) / (d : Int) = ((M / d : Nat) : Int) := rfl
    have eq2 : (M : Int) % (d : Int) = ((M % d : Nat) : Int) := rfl
    generalize M / d = Q at *
    generalize M % d = R at *
    repeat' (first
      | (rw [show (((i + 1 : Nat) : Int) - 1) = (i : Int) from by omega])
      | (rw [hor])
      | (rw [eq1])
      | (rw [eq2])
      | (refine SyC.seq ?_)
      | (refine SyC.region ?_)
      | (refine SyL.nil ?_)
      | (refine Then.norm ?_)
      | (refine InB.norm ?_)
      | (refine SyC.block ?_)
      | (refine SyC.skip ?_)
      | (refine SyL.light (LV.move rfl) Rq.nil (.none rfl) rfl (ltB rfl) ?_)
      | (refine SyL.light (LV.assign rfl) Rq.nil (.none rfl) rfl (ltB rfl) ?_)
      | (refine SyL.light (LV.cmp rfl rfl rfl) Rq.nil (.none rfl) rfl (ltB rfl) ?_)
      | (refine SyL.light (LV.arN rfl rfl rfl (by simp only [Fits]; omega)) Rq.nil (.none rfl) rfl (ltB rfl) ?_)
      | (refine SyL.light (LV.convN (by apply rfl) (by simp only [Fits]; omega)) Rq.nil (.none rfl) rfl (ltB rfl) ?_)
      | (refine SyL.light (LV.remN rfl rfl (by omega) (by omega)) Rq.nil (.none rfl) rfl (ltB rfl) ?_)
      | (refine SyL.light (LV.quoN rfl rfl (by omega) (by omega) (by simp only [Fits]; omega)) Rq.nil (.none rfl) rfl (ltB rfl) ?_)
      | (refine SyL.light (LV.bitsN rfl rfl rfl rfl (by first | (simp only [IntKind.bits]; omega) | exact pow32 (by omega) | assumption) (by first | (simp only [IntKind.bits]; omega) | exact pow32 (by omega) | assumption)) Rq.nil (.none rfl) rfl (ltB rfl) ?_)
      | (refine SyL.light (LV.shlN rfl rfl rfl (by simp only [IntKind.bits]; omega) (by first | (simp only [IntKind.bits]; omega) | exact pow32 (by omega) | assumption)) Rq.nil (.none rfl) rfl (ltB rfl) ?_)
      | (refine SyL.light (LV.idxBN (by apply rfl) (by apply rfl) (by omega)) Rq.nil (.none rfl) rfl (ltB rfl) ?_)
      | (refine SyL.light (LV.idxN (by apply rfl) (by apply rfl) (by omega)) Rq.nil (.none rfl) rfl (ltB rfl) ?_)
      | (refine SyL.light (LV.load rfl) (Rq.imm (RdSl.at hu hg)) (.none rfl) rfl (ltB rfl) ?_)
      | (refine SyL.heavy0 (OpT.store rfl rfl rfl (k := 0) rfl (by first | (simp; done) | (simp only [List.length_cons, List.length_nil, hUl]; done) | (simp only [List.length_cons, List.length_nil, hUl]; omega) | (simp; omega) | omega) ?_) (.none rfl) rfl)
      | (refine SyC.condT rfl (by first | assumption | (with_reducible rfl) | decide | (simp only [decide_eq_true_eq, decide_eq_false_iff_not, Bool.not_eq_true', Bool.not_eq_false', beq_iff_eq, bne_iff_ne, ne_eq, beq_eq_false_iff_ne, bne_eq_false_iff_eq, Int.not_lt, Int.not_le, Bool.true_eq_false, Bool.false_eq_true, tb_one, tb_zero]; omega)) ?_))
    rw [List.set_cons_zero, U32_set]
    exact ⟨i, [(8, .int .i64 ((i : Nat) - 1 : Int)), (7, .int .u64 (R : Nat)), (1, .int .u32 (d : Nat)), (0, .slice (some ad) l.length c), (6, .slice (some ⟨g_, 0, none⟩) l.length l.length)], [.blk g_ 51 (U32 (O.set i Q))], by omega, (by repeat (first | exact trivial | refine ⟨rfl, ?_⟩)), ⟨i, O.set i Q, R, rfl, by omega, by simpa using hOl, hOs.set _ hq, hrr, ⟨by rw [ht1.out, hset.out]; exact hst.out⟩, rfl, rfl, rfl⟩, (by repeat (first | exact List.Sublist.refl _ | exact List.nil_sublist _ | refine List.Sublist.cons_cons _ ?_ | refine List.Sublist.cons _ ?_))⟩
  · obtain rfl : q = 0 := by omega
    have hv2 := hval.out
    rw [List.drop_zero, List.drop_zero, hvx] at hv2
    have hO1 : val O = x / d := by rw [hv2, Nat.add_comm, Nat.add_mul_div_left _ _ hd, Nat.div_eq_of_lt hr, Nat.zero_add]
    have hO2 : r = x % d := by rw [hv2, Nat.add_comm, Nat.add_mul_mod_self_left, Nat.mod_eq_of_lt hr]
    clear hv2 hval
    refine SyC.ownOf (k := 0) (m := l.length) (sz := 1) rfl (by rw [U32_len, hOl]; omega) (by simp [maxLen]; omega) ?_
    rw [← hOl]
    refine SyC.freezeOwn fun I9 hle9 hr9 => ?_
    have hN := NatV.of hOs hr9
    have ht := trim_c I9 (some ⟨g_, 0, none⟩) O.length O hOs hr9
    rw [hO1] at hN ht
    have hrB : r < B := by rw [hB]; omega
    repeat' (first
      | (refine SyC.seq ?_)
      | (refine SyC.region ?_)
      | (refine SyL.nil ?_)
      | (refine Then.norm ?_)
      | (refine Then.exit ?_)
      | (refine InB.hit ?_)
      | (refine SyC.exit ?_)
      | (refine SyC.ret ?_)
      | (refine SyL.light (LV.move rfl) Rq.nil (.none rfl) rfl (ltB rfl) ?_)
      | (refine SyL.light (LV.assign rfl) Rq.nil (.none rfl) rfl (ltB rfl) ?_)
      | (refine SyL.light (LV.cmp rfl rfl rfl) Rq.nil (.none rfl) rfl (ltB rfl) ?_)
      | (refine SyL.light (LV.convN (by apply rfl) (by simp only [Fits]; omega)) Rq.nil (.none rfl) rfl (ltB rfl) ?_)
      | (refine SyL.heavy (OpT.pcall rfl rfl (ht) ?_) (.none rfl) rfl (ltB rfl); rintro v3 I4 - ⟨rfl, rfl⟩)
      | (refine SyC.condF rfl (by first | assumption | (with_reducible rfl) | decide | (simp only [decide_eq_true_eq, decide_eq_false_iff_not, Bool.not_eq_true', Bool.not_eq_false', beq_iff_eq, bne_iff_ne, ne_eq, beq_eq_false_iff_ne, bne_eq_false_iff_eq, Int.not_lt, Int.not_le, Bool.true_eq_false, Bool.false_eq_true, tb_one, tb_zero]; omega)) ?_))
    exact Ret.twoS (by simp) Tryd.results24 (.tmp rfl) (.tmp rfl) (⟨rfl, _, by rw [hO2], hN⟩) (by repeat (first | exact List.Sublist.refl _ | exact List.nil_sublist _ | refine List.Sublist.cons_cons _ ?_ | refine List.Sublist.cons _ ?_))
end Go.Proofs.YtpgkbipnkkeicaaDoor
