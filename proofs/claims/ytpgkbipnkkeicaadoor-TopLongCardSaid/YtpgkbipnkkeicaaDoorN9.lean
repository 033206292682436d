import Derived.Test.YtpgkbipnkkeicaaDoorN8
set_option linter.unusedSimpArgs false
set_option linter.unusedVariables false
/-! A number times a power of two, in one digit more. -/
namespace Go.Nt
theorem shift_step {O : List Nat} {i x s : Nat} (h : i + 1 < O.length) (h1 : O.getD (i + 1) 0 = 0) :
    val ((O.set i (O.getD i 0 + x * 2 ^ s % B)).set (i + 1) (x * 2 ^ s / B)) = val O + B ^ i * (x * 2 ^ s) := by
  have e1 := val_set (O := O) (p := i) (d := O.getD i 0 + x * 2 ^ s % B) (by omega)
  have e2 := val_set (O := O.set i (O.getD i 0 + x * 2 ^ s % B)) (p := i + 1) (d := x * 2 ^ s / B) (by simpa using h)
  rw [getD_set_ne' (by omega), h1, Nat.mul_zero, Nat.add_zero] at e2
  rw [e2, Nat.pow_succ]
  rw [Nat.mul_add] at e1
  have h2 := Nat.mod_add_div (x * 2 ^ s) B
  have h3 : B ^ i * (x * 2 ^ s) = B ^ i * (x * 2 ^ s % B) + B ^ i * B * (x * 2 ^ s / B) := by
    conv => lhs; rw [← h2]
    rw [Nat.mul_add, Nat.mul_assoc]
  omega
theorem or_low {a b s : Nat} (ha : a < 2 ^ s) (hs : s ≤ 32) : a ||| (b * 2 ^ s % B) = a + b * 2 ^ s % B := by
  have e : b * 2 ^ s % B = b % 2 ^ (32 - s) * 2 ^ s := by
    rw [show B = 2 ^ (32 - s) * 2 ^ s from by rw [← Nat.pow_add, Nat.sub_add_cancel hs]; rfl, Nat.mul_mod_mul_right]
  rw [e, Nat.or_comm, Nat.mul_comm, ← Nat.two_pow_add_eq_or_of_lt ha, Nat.add_comm]
end Go.Nt
namespace Go.Proofs.YtpgkbipnkkeicaaDoor
open Go Go.Sx Go.Nt
set_option maxRecDepth 100000 in
set_option maxHeartbeats 2000000 in
theorem natShifted_c (I : IH) (A : Option Addr) (c : Nat) (l : List Nat) (s : Nat) (hs : s < 32) (hsl : Sm l) (hu : RdSl I 1 (.slice A l.length c) l.length (U32 l)) (hbx : l.length ≤ 1000000) :
    Sx.Fn Tryd.prog 31 #[.slice A l.length c, .int .u64 (s : Int)] I [] fun r I' rs' => ∃ g O, r = .slice (some ⟨g, 0, none⟩) (l.length + 1) (l.length + 1) ∧ O.length = l.length + 1 ∧ Sm O ∧ val O = val l * 2 ^ s ∧ rs' = [.blk g 51 (U32 O)] ∧ I' = I := by
  have hB : B = 4294967296 := rfl
  have hps : 2 ^ s ≤ 2147483648 := by
    have := Nat.pow_le_pow_right (n := 2) (by omega) (show s ≤ 31 by omega)
    exact this
  refine Fn.intro (n := 40) (args := [.slice A l.length c, .int .u64 (s : Int)]) (by kernel_rfl) Tryd.func31 rfl Tryd.ntmps31 (Nat.le_of_ble_eq_true rfl) [(0, .slice A l.length c), (1, .int .u64 (s : Int))] rfl (fun w0 => ?_)
  have hsum : (l.length : Int) + 1 = ((l.length + 1 : Nat) : Int) := by omega
  repeat' (first
    | (rw [hsum])
    | (refine SyC.seq ?_)
    | (refine SyC.region ?_)
    | (refine SyL.nil ?_)
    | (refine Then.norm ?_)
    | (refine SyC.block ?_)
    | (refine SyL.light (LV.move rfl) Rq.nil (.none rfl) rfl (ltB rfl) ?_)
    | (refine SyL.light (LV.assign rfl) Rq.nil (.none rfl) rfl (ltB rfl) ?_)
    | (refine SyL.light (LV.len (by apply rfl)) Rq.nil (.none rfl) rfl (ltB rfl) ?_)
    | (refine SyL.light (LV.arN rfl rfl rfl (by simp only [Fits]; omega)) Rq.nil (.none rfl) rfl (ltB rfl) ?_)
    | (refine SyL.heavy (OpT.make (by apply rfl) (by apply rfl) (by omega) (by omega) (by omega) (by decide) (by omega) (fun g_ hg_ => ?_)) (.none rfl) rfl (ltB rfl)))
  rw [mk_u32']
  refine SyC.loopD (fun q env I' rs => ∃ i O, q = l.length - i ∧ i ≤ l.length ∧ O.length = l.length + 1 ∧ Sm O ∧ Hd (val O = val (l.take i) * 2 ^ s) ∧ O.getD i 0 < 2 ^ s ∧ Hd (∀ j, i < j → O.getD j 0 = 0) ∧ I' = I ∧ rs = [.blk g_ 51 (U32 O)] ∧
    env = [(14, .int .i64 (i : Nat)), (13, .int .i64 (l.length : Nat)), (12, .slice A l.length c), (1, .int .u64 (s : Nat)), (5, .slice (some ⟨g_, 0, none⟩) (l.length + 1) (l.length + 1))]) l.length
    [(14, .int .i64 ((0 : Nat) : Int)), (13, .int .i64 (l.length : Nat)), (12, .slice A l.length c), (1, .int .u64 (s : Nat)), (5, .slice (some ⟨g_, 0, none⟩) (l.length + 1) (l.length + 1))] (by repeat (first | exact trivial | refine ⟨rfl, ?_⟩))
    ⟨0, List.replicate (l.length + 1) 0, rfl, by omega, by simp, Sm.zeros _, ⟨by rw [val_zeros]; simp [val]⟩, by rw [List.getD_eq_getElem?_getD, List.getElem?_replicate]; split <;> exact Nat.two_pow_pos s, ⟨fun j _ => by rw [List.getD_eq_getElem?_getD, List.getElem?_replicate]; split <;> rfl⟩, rfl, rfl, rfl⟩ ?_
  rintro q env I' rs ⟨i, O, rfl, hi, hOl, hOs, hval, hlow, hz, rfl, rfl, rfl⟩
  by_cases hlt : i < l.length
  · obtain ⟨ad, rfl⟩ := hu.addr (by omega)
    have hx := hsl.getD i
    have hg := U32_get (l := l) (j := i) hlt
    have ht1 := Hd.mk (val_take_succ (l := l) (k := i) hlt)
    generalize l.getD i 0 = dx at hx hg ht1
    rw [hB] at hx
    have hUl : (U32 O).length = l.length + 1 := by rw [U32_len, hOl]
    have hgo := U32_get (l := O) (j := i) (by omega)
    have hst := Hd.mk (shift_step (O := O) (i := i) (x := dx) (s := s) (by omega) (hz.out _ (by omega)))
    have hor := or_low (b := dx) hlow (by omega)
    generalize O.getD i 0 = o at *
    have hob : o < 4294967296 := by omega
    have hm32 : dx * 2 ^ s % B < 4294967296 := Nat.mod_lt _ B_pos
    have hm64 : dx * 2 ^ s < 2 ^ 64 := by
      have := Nat.mul_le_mul (Nat.le_of_lt hx) hps
      omega
    have hshl : IntKind.u32.wrap ((dx : Int) * 2 ^ min ((s : Int)).toNat IntKind.u32.bits) = ((dx * 2 ^ s % B : Nat) : Int) := by
      rw [Int.toNat_natCast, Nat.min_eq_left (by simp only [IntKind.bits]; omega), ← wrap32]
      simp
    have hq : dx * 2 ^ s / B < B := by rw [hB]; omega
    have hsum2 : o + dx * 2 ^ s % B < B := by rw [← hor]; exact Nat.or_lt_two_pow (n := 32) hob hm32
    have hi1 : (i : Int) + 1 = ((i + 1 : Nat) : Int) := by omega
    repeat' (first
      | (rw [hshl])
      | (rw [hor])
      | (rw [wrap32])
      | (rw [mod_small hq])
      | (rw [shr32])
      | (refine SyC.seq ?_)
      | (refine SyC.region ?_)
      | (refine SyL.nil ?_)
      | (refine Then.norm ?_)
      | (refine InB.norm ?_)
      | (refine SyC.block ?_)
      | (refine SyC.skip ?_)
      | (refine SyL.light (LV.move rfl) Rq.nil (.none rfl) rfl (ltB rfl) ?_)
      | (refine SyL.light (LV.assign rfl) Rq.nil (.none rfl) rfl (ltB rfl) ?_)
      | (refine SyL.light (LV.cmp rfl rfl rfl) Rq.nil (.none rfl) rfl (ltB rfl) ?_)
      | (refine SyL.light (LV.arN rfl rfl rfl (by simp only [Fits]; omega)) Rq.nil (.none rfl) rfl (ltB rfl) ?_)
      | (refine SyL.light (LV.convN (by apply rfl) (by simp only [Fits]; omega)) Rq.nil (.none rfl) rfl (ltB rfl) ?_)
      | (refine SyL.light (LV.conv (by apply rfl)) Rq.nil (.none rfl) rfl (ltB rfl) ?_)
      | (refine SyL.light (LV.shrN rfl rfl (by simp only [IntKind.bits]; omega)) Rq.nil (.none rfl) rfl (ltB rfl) ?_)
      | (refine SyL.light (LV.bitsN rfl rfl rfl rfl (by first | (simp only [IntKind.bits]; omega) | exact pow32 (by omega) | assumption) (by first | (simp only [IntKind.bits]; omega) | exact pow32 (by omega) | assumption)) Rq.nil (.none rfl) rfl (ltB rfl) ?_)
      | (refine SyL.light (LV.shlN rfl rfl rfl (by simp only [IntKind.bits]; omega) (by first | (simp only [IntKind.bits]; omega) | exact pow32 (by omega) | assumption)) Rq.nil (.none rfl) rfl (ltB rfl) ?_)
      | (refine SyL.light (LV.shl rfl rfl (by omega)) Rq.nil (.none rfl) rfl (ltB rfl) ?_)
      | (refine SyL.light (LV.idxBN (by apply rfl) (by apply rfl) (by omega)) Rq.nil (.none rfl) rfl (ltB rfl) ?_)
      | (refine SyL.light (LV.idxN (by apply rfl) (by apply rfl) (by omega)) Rq.nil (.none rfl) rfl (ltB rfl) ?_)
      | (refine SyL.light (LV.idxB0 (by apply rfl) (by apply rfl) (by omega) (by omega)) Rq.nil (.none rfl) rfl (ltB rfl) ?_)
      | (refine SyL.light (LV.load rfl) (Rq.imm (RdSl.at hu hg)) (.none rfl) rfl (ltB rfl) ?_)
      | (refine SyL.light (LV.load rfl) (Rq.blk (List.mem_of_getElem? (i := 0) rfl) hgo) (.none rfl) rfl (ltB rfl) ?_)
      | (refine SyL.heavy0 (OpT.store rfl rfl rfl (k := 0) rfl (by first | (simp; done) | (simp only [List.length_cons, List.length_nil, hUl]; done) | (simp only [List.length_cons, List.length_nil, hUl]; omega) | (simp; omega) | omega) ?_) (.none rfl) rfl)
      | (refine SyC.condT rfl (by first | assumption | (with_reducible rfl) | decide | (simp only [decide_eq_true_eq, decide_eq_false_iff_not, Bool.not_eq_true', Bool.not_eq_false', beq_iff_eq, bne_iff_ne, ne_eq, beq_eq_false_iff_ne, bne_eq_false_iff_eq, Int.not_lt, Int.not_le, Bool.true_eq_false, Bool.false_eq_true, tb_one, tb_zero]; omega)) ?_))
    repeat (first | rw [List.set_cons_zero] | rw [U32_set])
    rw [show ((i : Int) + 1).toNat * 1 = i + 1 from by omega]
    have hq2 : dx * 2 ^ s / B < 2 ^ s := by
      rw [Nat.div_lt_iff_lt_mul B_pos, Nat.mul_comm (2 ^ s), hB]
      exact Nat.mul_lt_mul_of_pos_right hx (Nat.two_pow_pos s)
    exact ⟨l.length - (i + 1), [(14, .int .i64 (i + 1 : Nat)), (13, .int .i64 (l.length : Nat)), (12, .slice (some ad) l.length c), (1, .int .u64 (s : Nat)), (5, .slice (some ⟨g_, 0, none⟩) (l.length + 1) (l.length + 1))], [.blk g_ 51 (U32 ((O.set i (o + dx * 2 ^ s % B)).set (i + 1) (dx * 2 ^ s / B)))], by omega, (by repeat (first | exact trivial | refine ⟨rfl, ?_⟩)), ⟨i + 1, _, rfl, by omega, by simpa using hOl, (hOs.set _ hsum2).set _ hq, ⟨by rw [ht1.out, hst.out, hval.out, Nat.add_mul, Nat.mul_assoc]⟩, by
      rw [List.getD_eq_getElem?_getD, List.getElem?_set_self (by simp; omega)]; exact hq2, ⟨fun j hj => by rw [getD_set_ne' (by omega), getD_set_ne' (by omega)]; exact hz.out j (by omega)⟩, rfl, rfl, rfl⟩, (by repeat (first | exact List.Sublist.refl _ | exact List.nil_sublist _ | refine List.Sublist.cons_cons _ ?_ | refine List.Sublist.cons _ ?_))⟩
  · obtain rfl : i = l.length := by omega
    have hv2 := hval.out
    rw [List.take_length] at hv2
    repeat' (first
      | (refine SyC.seq ?_)
      | (refine SyC.region ?_)
      | (refine SyL.nil ?_)
      | (refine Then.norm ?_)
      | (refine Then.exit ?_)
      | (refine InB.hit ?_)
      | (refine SyC.exit ?_)
      | (refine SyC.ret ?_)
      | (refine SyL.light (LV.move rfl) Rq.nil (.none rfl) rfl (ltB rfl) ?_)
      | (refine SyL.light (LV.assign rfl) Rq.nil (.none rfl) rfl (ltB rfl) ?_)
      | (refine SyL.light (LV.cmp rfl rfl rfl) Rq.nil (.none rfl) rfl (ltB rfl) ?_)
      | (refine SyC.condF rfl (by first | assumption | (with_reducible rfl) | decide | (simp only [decide_eq_true_eq, decide_eq_false_iff_not, Bool.not_eq_true', Bool.not_eq_false', beq_iff_eq, bne_iff_ne, ne_eq, beq_eq_false_iff_ne, bne_eq_false_iff_eq, Int.not_lt, Int.not_le, Bool.true_eq_false, Bool.false_eq_true, tb_one, tb_zero]; omega)) ?_))
    refine Ret.one (by simp) Tryd.results31 (.tmp rfl) ?_
    exact ⟨_, O, rfl, hOl, hOs, hv2, rfl, rfl⟩
end Go.Proofs.YtpgkbipnkkeicaaDoor
