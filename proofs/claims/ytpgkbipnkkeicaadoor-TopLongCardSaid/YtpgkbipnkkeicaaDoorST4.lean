import Derived.Test.YtpgkbipnkkeicaaDoorST3
set_option linter.unusedSimpArgs false
set_option linter.unusedVariables false
/-! Adding as by hand. -/
namespace Go.Nt
theorem set_drop_cons {W : List Nat} {p v : Nat} (h : p < W.length) : (W.set p v).drop p = v :: W.drop (p + 1) := by
  rw [List.drop_eq_getElem_cons (by simpa using h), List.getElem_set_self, List.drop_set_of_lt (by omega)]
theorem plus_step2 {O : List Nat} {i s cy x y A B A' B' : Nat} (hO : O.length = i) (hs : s = cy + x + y) (hA : A' = x * 10 ^ i + A) (hB : B' = y * 10 ^ i + B)
    (h : dv O + cy * 10 ^ i = A + B) : dv (s % 10 :: O) + s / 10 * 10 ^ (i + 1) = A' + B' := by
  rw [dv_cons, hO, Nat.pow_succ]
  have h1 := Nat.mod_add_div s 10
  have h2 : s % 10 * 10 ^ i + s / 10 * (10 ^ i * 10) = s * 10 ^ i := by
    conv => rhs; rw [← h1]
    rw [Nat.add_mul, Nat.mul_comm 10 (s / 10), Nat.mul_assoc, Nat.mul_comm 10 (10 ^ i)]
  have h3 : s * 10 ^ i = cy * 10 ^ i + x * 10 ^ i + y * 10 ^ i := by rw [hs, Nat.add_mul, Nat.add_mul]
  generalize s % 10 * 10 ^ i = p at *
  generalize s / 10 * (10 ^ i * 10) = q at *
  omega
theorem plus_fin2 {O a b : List Nat} {cy L : Nat} (ha : D10 a) (hb : D10 b) (hL : L = max a.length b.length + 1) (h : dv O + cy * 10 ^ L = dv (a.drop (a.length - L)) + dv (b.drop (b.length - L))) : dv O = dv a + dv b := by
  rw [show a.length - L = 0 by omega, show b.length - L = 0 by omega, List.drop_zero, List.drop_zero] at h
  have h1 := dv_lt ha
  have h2 := dv_lt hb
  have h3 : 10 ^ a.length ≤ 10 ^ max a.length b.length := Nat.pow_le_pow_right (by decide) (by omega)
  have h4 : 10 ^ b.length ≤ 10 ^ max a.length b.length := Nat.pow_le_pow_right (by decide) (by omega)
  have h5 : 10 ^ L = 10 ^ max a.length b.length * 10 := by rw [hL, Nat.pow_succ]
  rcases Nat.eq_zero_or_pos cy with h6 | h6
  · subst h6; omega
  · have := Nat.mul_le_mul_right (10 ^ L) h6
    omega
end Go.Nt
namespace Go.Proofs.YtpgkbipnkkeicaaDoor
open Go Go.Sx Go.Nt
theorem U8_len (l : List Nat) : (U8 l).length = l.length := by simp [U8]
theorem U8_set (l : List Nat) (j x : Nat) : (U8 l).set j (.int .u8 (x : Int)) = U8 (l.set j x) := by simp [U8, List.map_set]
theorem mk_u8' (n : Nat) : ((List.replicate ((n : Int)).toNat (Value.int .u8 0).cells.toList).flatten) = U8 (List.replicate n 0) := by simp [U8, Value.cells]
theorem U8_one (l : List Nat) : ∀ v ∈ U8 l, v.oneCell' = true := by
  intro v hv
  simp only [U8, List.mem_map] at hv
  obtain ⟨d, _, rfl⟩ := hv
  rfl
theorem digB {d : Nat} (h : d < 10) : d + 48 < 256 := by omega
set_option maxRecDepth 100000 in
set_option maxHeartbeats 1000000 in
theorem sigilPlus_c (I : IH) (x y : Nat) (hbx : (dec x).length ≤ 100000) (hby : (dec y).length ≤ 100000) : PFn Tryd.prog 13 #[S x, S y] I fun r I' => r = S (x + y) := by
  have hax := dec_D10 x
  have hay := dec_D10 y
  have hvx := dv_dec x
  have hvy := dv_dec y
  unfold S
  generalize dec x = a at *
  generalize dec y = b at *
  have hla := asc_len a
  have hlb := asc_len b
  refine Fn.intro (n := 68) (args := [.string (sB (asc a)), .string (sB (asc b))]) (by kernel_rfl) Tryd.func13 rfl Tryd.ntmps13 (Nat.le_of_ble_eq_true rfl) [(0, .string (sB (asc a))), (1, .string (sB (asc b)))] rfl (fun w0 => ?_)
  obtain ⟨L, hL⟩ : ∃ L, L = max a.length b.length + 1 := ⟨_, rfl⟩
  have hmax : max ((asc a).length : Int) ((asc b).length : Int) + 1 = (L : Int) := by omega
  repeat' (first
    | (rw [hmax])
    | (refine SyC.seq ?_)
    | (refine SyC.region ?_)
    | (refine SyL.nil ?_)
    | (refine Then.norm ?_)
    | (refine SyC.block ?_)
    | (refine SyL.light (LV.move rfl) Rq.nil (.none rfl) rfl (ltB rfl) ?_)
    | (refine SyL.light (LV.assign rfl) Rq.nil (.none rfl) rfl (ltB rfl) ?_)
    | (refine SyL.light (LV.len (by apply rfl)) Rq.nil (.none rfl) rfl (ltB rfl) ?_)
    | (refine SyL.light (LV.lenSB rfl) Rq.nil (.none rfl) rfl (ltB rfl) ?_)
    | (refine SyL.light (LV.arN rfl rfl rfl (by simp only [Fits]; omega)) Rq.nil (.none rfl) rfl (ltB rfl) ?_)
    | (refine SyL.light (LV.max2 rfl rfl) Rq.nil (.none rfl) rfl (ltB rfl) ?_)
    | (refine SyL.heavy (OpT.make (by apply rfl) (by apply rfl) (by omega) (by omega) (by omega) (by decide) (by omega) (fun g_ hg_ => ?_)) (.none rfl) rfl (ltB rfl)))
  rw [mk_u8']
  refine SyC.loopD (fun q env I' rs => ∃ i W O cy, q = L - i ∧ i ≤ L ∧ W.length = L ∧ O.length = i ∧ D10 O ∧ cy ≤ 1 ∧ Hd (W.drop (L - i) = asc O) ∧ Hd (dv O + cy * 10 ^ i = dv (a.drop (a.length - i)) + dv (b.drop (b.length - i))) ∧ I' = I ∧ rs = [.blk g_ 5 (U8 W)] ∧
    env = [(18, .int .i64 (i : Nat)), (17, .int .i64 (L : Nat)), (6, .int .i64 (cy : Nat)), (0, .string (sB (asc a))), (1, .string (sB (asc b))), (5, .slice (some ⟨g_, 0, none⟩) L L)]) L
    [(18, .int .i64 ((0 : Nat) : Int)), (17, .int .i64 (L : Nat)), (6, .int .i64 ((0 : Nat) : Int)), (0, .string (sB (asc a))), (1, .string (sB (asc b))), (5, .slice (some ⟨g_, 0, none⟩) L L)] (by repeat (first | exact trivial | refine ⟨rfl, ?_⟩))
    ⟨0, List.replicate L 0, [], 0, rfl, by omega, by simp, rfl, D10.nil, by omega, ⟨by rw [List.drop_eq_nil_of_le (by simp)]; rfl⟩, ⟨by rw [Nat.sub_zero, Nat.sub_zero, List.drop_eq_nil_of_le (Nat.le_refl _), List.drop_eq_nil_of_le (Nat.le_refl _)]; rfl⟩, rfl, rfl, rfl⟩ ?_
  rintro q env I' rs ⟨i, W, O, cy, rfl, hi, hWl, hOl, hOs, hcy, hW, hval, rfl, rfl, rfl⟩
  by_cases hlt : i < L
  · have hUl : (U8 W).length = L := by rw [U8_len, hWl]
    have hidx : ((L : Int) - 1) - (i : Int) = ((L - 1 - i : Nat) : Int) := by omega
    by_cases hia1 : i < a.length
    · by_cases hib1 : i < b.length
      · have hda := hax.getD (a.length - 1 - i)
        have hga := asc_get (l := a) (k := a.length - 1 - i) (by omega)
        have hia : (((asc a).length : Int) - 1) - (i : Int) = ((a.length - 1 - i : Nat) : Int) := by omega
        have hA := end_cons (a := a) (i := i) hia1
        generalize a.getD (a.length - 1 - i) 0 = da at *
        have hsa : ((da + 48 : Nat) : Int) - 48 = (da : Int) := by omega
        have hdb := hay.getD (b.length - 1 - i)
        have hgb := asc_get (l := b) (k := b.length - 1 - i) (by omega)
        have hib : (((asc b).length : Int) - 1) - (i : Int) = ((b.length - 1 - i : Nat) : Int) := by omega
        have hB := end_cons (a := b) (i := i) hib1
        generalize b.getD (b.length - 1 - i) 0 = db at *
        have hsb : ((db + 48 : Nat) : Int) - 48 = (db : Int) := by omega
        obtain ⟨s, hs⟩ : ∃ s, s = cy + da + db := ⟨_, rfl⟩
        have hs1 : (cy : Int) + (da : Int) = ((cy + da : Nat) : Int) := by omega
        have hs2 : ((cy + da : Nat) : Int) + (db : Int) = (s : Int) := by omega
        have hst := plus_step2 hOl hs hA hB hval.out
        have hr1 : (s : Int) % 10 = ((s % 10 : Nat) : Int) := by omega
        have hr2 : (s : Int) / 10 = ((s / 10 : Nat) : Int) := by omega
        have hr3 : (48 : Int) + ((s % 10 : Nat) : Int) = ((s % 10 + 48 : Nat) : Int) := by omega
        have hrb : s % 10 < 10 := Nat.mod_lt _ (by decide)
        have hcb : s / 10 ≤ 1 := by omega
        have hWn : (W.set (L - 1 - i) (s % 10 + 48)).drop (L - (i + 1)) = asc (s % 10 :: O) := by
          rw [show L - (i + 1) = L - 1 - i by omega, set_drop_cons (by omega), show L - 1 - i + 1 = L - i by omega, hW.out]; rfl
        generalize s % 10 = r at *
        generalize s / 10 = c2 at *
        clear hval hA hB
        repeat' (first
          | (rw [hia])
          | (rw [hga])
          | (rw [hsa])
          | (rw [hib])
          | (rw [hgb])
          | (rw [hsb])
          | (rw [hs1])
          | (rw [hs2])
          | (rw [hr1])
          | (rw [hr2])
          | (rw [hr3])
          | (rw [hidx])
          | (refine SyC.seq ?_)
          | (refine SyC.region ?_)
          | (refine SyL.nil ?_)
          | (refine Then.norm ?_)
          | (refine InB.norm ?_)
          | (refine SyC.block ?_)
          | (refine SyC.skip ?_)
          | (refine SyL.light (LV.move rfl) Rq.nil (.none rfl) rfl (ltB rfl) ?_)
          | (refine SyL.light (LV.assign rfl) Rq.nil (.none rfl) rfl (ltB rfl) ?_)
          | (refine SyL.light (LV.len (by apply rfl)) Rq.nil (.none rfl) rfl (ltB rfl) ?_)
          | (refine SyL.light (LV.lenSB rfl) Rq.nil (.none rfl) rfl (ltB rfl) ?_)
          | (refine SyL.light (LV.idxSB rfl rfl (by first | omega | (simp only [List.length_append, List.length_cons, List.length_nil]; omega)) (by first | assumption | omega | exact (by rw [hga]; exact digB hda) | exact (by rw [hgb]; exact digB hdb))) Rq.nil (.none rfl) rfl (ltB rfl) ?_)
          | (refine SyL.light (LV.cmp rfl rfl rfl) Rq.nil (.none rfl) rfl (ltB rfl) ?_)
          | (refine SyL.light (LV.arN rfl rfl rfl (by simp only [Fits]; omega)) Rq.nil (.none rfl) rfl (ltB rfl) ?_)
          | (refine SyL.light (LV.convN (by apply rfl) (by simp only [Fits]; omega)) Rq.nil (.none rfl) rfl (ltB rfl) ?_)
          | (refine SyL.light (LV.remN rfl rfl (by omega) (by omega)) Rq.nil (.none rfl) rfl (ltB rfl) ?_)
          | (refine SyL.light (LV.quoN rfl rfl (by omega) (by omega) (by simp only [Fits]; omega)) Rq.nil (.none rfl) rfl (ltB rfl) ?_)
          | (refine SyL.light (LV.idxBN (by apply rfl) (by apply rfl) (by omega)) Rq.nil (.none rfl) rfl (ltB rfl) ?_)
          | (refine SyL.heavy0 (OpT.store rfl rfl rfl (k := 0) rfl (by first | (simp; done) | (simp only [List.length_cons, List.length_nil, hUl]; done) | (simp only [List.length_cons, List.length_nil, hUl]; omega) | (simp; omega) | omega) ?_) (.none rfl) rfl)
          | (refine SyC.condT rfl (by first | assumption | (with_reducible rfl) | decide | (simp only [decide_eq_true_eq, decide_eq_false_iff_not, Bool.not_eq_true', Bool.not_eq_false', beq_iff_eq, bne_iff_ne, ne_eq, beq_eq_false_iff_ne, bne_eq_false_iff_eq, Int.not_lt, Int.not_le, Bool.true_eq_false, Bool.false_eq_true, tb_one, tb_zero]; omega)) ?_))
        repeat (first | rw [List.set_cons_succ] | rw [List.set_cons_zero] | rw [U8_set])
        exact ⟨L - (i + 1), [(18, .int .i64 (i + 1 : Nat)), (17, .int .i64 (L : Nat)), (6, .int .i64 (c2 : Nat)), (0, .string (sB (asc a))), (1, .string (sB (asc b))), (5, .slice (some ⟨g_, 0, none⟩) L L)], [.blk g_ 5 (U8 (W.set (L - 1 - i) (r + 48)))], by omega, (by repeat (first | exact trivial | refine ⟨rfl, ?_⟩)), ⟨i + 1, W.set (L - 1 - i) (r + 48), r :: O, c2, rfl, by omega, by simpa using hWl, by simp [hOl], D10.cons hrb hOs, hcb, ⟨hWn⟩, ⟨hst⟩, rfl, rfl, rfl⟩, (by repeat (first | exact List.Sublist.refl _ | exact List.nil_sublist _ | refine List.Sublist.cons_cons _ ?_ | refine List.Sublist.cons _ ?_))⟩
      · have hda := hax.getD (a.length - 1 - i)
        have hga := asc_get (l := a) (k := a.length - 1 - i) (by omega)
        have hia : (((asc a).length : Int) - 1) - (i : Int) = ((a.length - 1 - i : Nat) : Int) := by omega
        have hA := end_cons (a := a) (i := i) hia1
        generalize a.getD (a.length - 1 - i) 0 = da at *
        have hsa : ((da + 48 : Nat) : Int) - 48 = (da : Int) := by omega
        have hB : dv (b.drop (b.length - (i + 1))) = 0 * 10 ^ i + dv (b.drop (b.length - i)) := by rw [end_over (by omega), Nat.zero_mul, Nat.zero_add]
        obtain ⟨s, hs⟩ : ∃ s, s = cy + da + 0 := ⟨_, rfl⟩
        have hs2 : (cy : Int) + (da : Int) = (s : Int) := by omega
        have hst := plus_step2 hOl hs hA hB hval.out
        have hr1 : (s : Int) % 10 = ((s % 10 : Nat) : Int) := by omega
        have hr2 : (s : Int) / 10 = ((s / 10 : Nat) : Int) := by omega
        have hr3 : (48 : Int) + ((s % 10 : Nat) : Int) = ((s % 10 + 48 : Nat) : Int) := by omega
        have hrb : s % 10 < 10 := Nat.mod_lt _ (by decide)
        have hcb : s / 10 ≤ 1 := by omega
        have hWn : (W.set (L - 1 - i) (s % 10 + 48)).drop (L - (i + 1)) = asc (s % 10 :: O) := by
          rw [show L - (i + 1) = L - 1 - i by omega, set_drop_cons (by omega), show L - 1 - i + 1 = L - i by omega, hW.out]; rfl
        generalize s % 10 = r at *
        generalize s / 10 = c2 at *
        clear hval hA hB
        repeat' (first
          | (rw [hia])
          | (rw [hga])
          | (rw [hsa])
          | (rw [hs2])
          | (rw [hr1])
          | (rw [hr2])
          | (rw [hr3])
          | (rw [hidx])
          | (refine SyC.seq ?_)
          | (refine SyC.region ?_)
          | (refine SyL.nil ?_)
          | (refine Then.norm ?_)
          | (refine InB.norm ?_)
          | (refine SyC.block ?_)
          | (refine SyC.skip ?_)
          | (refine SyL.light (LV.move rfl) Rq.nil (.none rfl) rfl (ltB rfl) ?_)
          | (refine SyL.light (LV.assign rfl) Rq.nil (.none rfl) rfl (ltB rfl) ?_)
          | (refine SyL.light (LV.len (by apply rfl)) Rq.nil (.none rfl) rfl (ltB rfl) ?_)
          | (refine SyL.light (LV.lenSB rfl) Rq.nil (.none rfl) rfl (ltB rfl) ?_)
          | (refine SyL.light (LV.idxSB rfl rfl (by first | omega | (simp only [List.length_append, List.length_cons, List.length_nil]; omega)) (by first | assumption | omega | exact (by rw [hga]; exact digB hda))) Rq.nil (.none rfl) rfl (ltB rfl) ?_)
          | (refine SyL.light (LV.cmp rfl rfl rfl) Rq.nil (.none rfl) rfl (ltB rfl) ?_)
          | (refine SyL.light (LV.arN rfl rfl rfl (by simp only [Fits]; omega)) Rq.nil (.none rfl) rfl (ltB rfl) ?_)
          | (refine SyL.light (LV.convN (by apply rfl) (by simp only [Fits]; omega)) Rq.nil (.none rfl) rfl (ltB rfl) ?_)
          | (refine SyL.light (LV.remN rfl rfl (by omega) (by omega)) Rq.nil (.none rfl) rfl (ltB rfl) ?_)
          | (refine SyL.light (LV.quoN rfl rfl (by omega) (by omega) (by simp only [Fits]; omega)) Rq.nil (.none rfl) rfl (ltB rfl) ?_)
          | (refine SyL.light (LV.idxBN (by apply rfl) (by apply rfl) (by omega)) Rq.nil (.none rfl) rfl (ltB rfl) ?_)
          | (refine SyL.heavy0 (OpT.store rfl rfl rfl (k := 0) rfl (by first | (simp; done) | (simp only [List.length_cons, List.length_nil, hUl]; done) | (simp only [List.length_cons, List.length_nil, hUl]; omega) | (simp; omega) | omega) ?_) (.none rfl) rfl)
          | (refine SyC.condT rfl (by first | assumption | (with_reducible rfl) | decide | (simp only [decide_eq_true_eq, decide_eq_false_iff_not, Bool.not_eq_true', Bool.not_eq_false', beq_iff_eq, bne_iff_ne, ne_eq, beq_eq_false_iff_ne, bne_eq_false_iff_eq, Int.not_lt, Int.not_le, Bool.true_eq_false, Bool.false_eq_true, tb_one, tb_zero]; omega)) ?_)
          | (refine SyC.condF rfl (by first | assumption | (with_reducible rfl) | decide | (simp only [decide_eq_true_eq, decide_eq_false_iff_not, Bool.not_eq_true', Bool.not_eq_false', beq_iff_eq, bne_iff_ne, ne_eq, beq_eq_false_iff_ne, bne_eq_false_iff_eq, Int.not_lt, Int.not_le, Bool.true_eq_false, Bool.false_eq_true, tb_one, tb_zero]; omega)) ?_))
        repeat (first | rw [List.set_cons_succ] | rw [List.set_cons_zero] | rw [U8_set])
        exact ⟨L - (i + 1), [(18, .int .i64 (i + 1 : Nat)), (17, .int .i64 (L : Nat)), (6, .int .i64 (c2 : Nat)), (0, .string (sB (asc a))), (1, .string (sB (asc b))), (5, .slice (some ⟨g_, 0, none⟩) L L)], [.blk g_ 5 (U8 (W.set (L - 1 - i) (r + 48)))], by omega, (by repeat (first | exact trivial | refine ⟨rfl, ?_⟩)), ⟨i + 1, W.set (L - 1 - i) (r + 48), r :: O, c2, rfl, by omega, by simpa using hWl, by simp [hOl], D10.cons hrb hOs, hcb, ⟨hWn⟩, ⟨hst⟩, rfl, rfl, rfl⟩, (by repeat (first | exact List.Sublist.refl _ | exact List.nil_sublist _ | refine List.Sublist.cons_cons _ ?_ | refine List.Sublist.cons _ ?_))⟩
    · by_cases hib1 : i < b.length
      · have hA : dv (a.drop (a.length - (i + 1))) = 0 * 10 ^ i + dv (a.drop (a.length - i)) := by rw [end_over (by omega), Nat.zero_mul, Nat.zero_add]
        have hdb := hay.getD (b.length - 1 - i)
        have hgb := asc_get (l := b) (k := b.length - 1 - i) (by omega)
        have hib : (((asc b).length : Int) - 1) - (i : Int) = ((b.length - 1 - i : Nat) : Int) := by omega
        have hB := end_cons (a := b) (i := i) hib1
        generalize b.getD (b.length - 1 - i) 0 = db at *
        have hsb : ((db + 48 : Nat) : Int) - 48 = (db : Int) := by omega
        obtain ⟨s, hs⟩ : ∃ s, s = cy + 0 + db := ⟨_, rfl⟩
        have hs2 : (cy : Int) + (db : Int) = (s : Int) := by omega
        have hst := plus_step2 hOl hs hA hB hval.out
        have hr1 : (s : Int) % 10 = ((s % 10 : Nat) : Int) := by omega
        have hr2 : (s : Int) / 10 = ((s / 10 : Nat) : Int) := by omega
        have hr3 : (48 : Int) + ((s % 10 : Nat) : Int) = ((s % 10 + 48 : Nat) : Int) := by omega
        have hrb : s % 10 < 10 := Nat.mod_lt _ (by decide)
        have hcb : s / 10 ≤ 1 := by omega
        have hWn : (W.set (L - 1 - i) (s % 10 + 48)).drop (L - (i + 1)) = asc (s % 10 :: O) := by
          rw [show L - (i + 1) = L - 1 - i by omega, set_drop_cons (by omega), show L - 1 - i + 1 = L - i by omega, hW.out]; rfl
        generalize s % 10 = r at *
        generalize s / 10 = c2 at *
        clear hval hA hB
        repeat' (first
          | (rw [hib])
          | (rw [hgb])
          | (rw [hsb])
          | (rw [hs2])
          | (rw [hr1])
          | (rw [hr2])
          | (rw [hr3])
          | (rw [hidx])
          | (refine SyC.seq ?_)
          | (refine SyC.region ?_)
          | (refine SyL.nil ?_)
          | (refine Then.norm ?_)
          | (refine InB.norm ?_)
          | (refine SyC.block ?_)
          | (refine SyC.skip ?_)
          | (refine SyL.light (LV.move rfl) Rq.nil (.none rfl) rfl (ltB rfl) ?_)
          | (refine SyL.light (LV.assign rfl) Rq.nil (.none rfl) rfl (ltB rfl) ?_)
          | (refine SyL.light (LV.len (by apply rfl)) Rq.nil (.none rfl) rfl (ltB rfl) ?_)
          | (refine SyL.light (LV.lenSB rfl) Rq.nil (.none rfl) rfl (ltB rfl) ?_)
          | (refine SyL.light (LV.idxSB rfl rfl (by first | omega | (simp only [List.length_append, List.length_cons, List.length_nil]; omega)) (by first | assumption | omega | exact (by rw [hgb]; exact digB hdb))) Rq.nil (.none rfl) rfl (ltB rfl) ?_)
          | (refine SyL.light (LV.cmp rfl rfl rfl) Rq.nil (.none rfl) rfl (ltB rfl) ?_)
          | (refine SyL.light (LV.arN rfl rfl rfl (by simp only [Fits]; omega)) Rq.nil (.none rfl) rfl (ltB rfl) ?_)
          | (refine SyL.light (LV.convN (by apply rfl) (by simp only [Fits]; omega)) Rq.nil (.none rfl) rfl (ltB rfl) ?_)
          | (refine SyL.light (LV.remN rfl rfl (by omega) (by omega)) Rq.nil (.none rfl) rfl (ltB rfl) ?_)
          | (refine SyL.light (LV.quoN rfl rfl (by omega) (by omega) (by simp only [Fits]; omega)) Rq.nil (.none rfl) rfl (ltB rfl) ?_)
          | (refine SyL.light (LV.idxBN (by apply rfl) (by apply rfl) (by omega)) Rq.nil (.none rfl) rfl (ltB rfl) ?_)
          | (refine SyL.heavy0 (OpT.store rfl rfl rfl (k := 0) rfl (by first | (simp; done) | (simp only [List.length_cons, List.length_nil, hUl]; done) | (simp only [List.length_cons, List.length_nil, hUl]; omega) | (simp; omega) | omega) ?_) (.none rfl) rfl)
          | (refine SyC.condT rfl (by first | assumption | (with_reducible rfl) | decide | (simp only [decide_eq_true_eq, decide_eq_false_iff_not, Bool.not_eq_true', Bool.not_eq_false', beq_iff_eq, bne_iff_ne, ne_eq, beq_eq_false_iff_ne, bne_eq_false_iff_eq, Int.not_lt, Int.not_le, Bool.true_eq_false, Bool.false_eq_true, tb_one, tb_zero]; omega)) ?_)
          | (refine SyC.condF rfl (by first | assumption | (with_reducible rfl) | decide | (simp only [decide_eq_true_eq, decide_eq_false_iff_not, Bool.not_eq_true', Bool.not_eq_false', beq_iff_eq, bne_iff_ne, ne_eq, beq_eq_false_iff_ne, bne_eq_false_iff_eq, Int.not_lt, Int.not_le, Bool.true_eq_false, Bool.false_eq_true, tb_one, tb_zero]; omega)) ?_))
        repeat (first | rw [List.set_cons_succ] | rw [List.set_cons_zero] | rw [U8_set])
        exact ⟨L - (i + 1), [(18, .int .i64 (i + 1 : Nat)), (17, .int .i64 (L : Nat)), (6, .int .i64 (c2 : Nat)), (0, .string (sB (asc a))), (1, .string (sB (asc b))), (5, .slice (some ⟨g_, 0, none⟩) L L)], [.blk g_ 5 (U8 (W.set (L - 1 - i) (r + 48)))], by omega, (by repeat (first | exact trivial | refine ⟨rfl, ?_⟩)), ⟨i + 1, W.set (L - 1 - i) (r + 48), r :: O, c2, rfl, by omega, by simpa using hWl, by simp [hOl], D10.cons hrb hOs, hcb, ⟨hWn⟩, ⟨hst⟩, rfl, rfl, rfl⟩, (by repeat (first | exact List.Sublist.refl _ | exact List.nil_sublist _ | refine List.Sublist.cons_cons _ ?_ | refine List.Sublist.cons _ ?_))⟩
      · have hA : dv (a.drop (a.length - (i + 1))) = 0 * 10 ^ i + dv (a.drop (a.length - i)) := by rw [end_over (by omega), Nat.zero_mul, Nat.zero_add]
        have hB : dv (b.drop (b.length - (i + 1))) = 0 * 10 ^ i + dv (b.drop (b.length - i)) := by rw [end_over (by omega), Nat.zero_mul, Nat.zero_add]
        obtain ⟨s, hs⟩ : ∃ s, s = cy + 0 + 0 := ⟨_, rfl⟩
        obtain rfl : s = cy := by omega
        have hst := plus_step2 hOl hs hA hB hval.out
        have hr1 : (s : Int) % 10 = ((s % 10 : Nat) : Int) := by omega
        have hr2 : (s : Int) / 10 = ((s / 10 : Nat) : Int) := by omega
        have hr3 : (48 : Int) + ((s % 10 : Nat) : Int) = ((s % 10 + 48 : Nat) : Int) := by omega
        have hrb : s % 10 < 10 := Nat.mod_lt _ (by decide)
        have hcb : s / 10 ≤ 1 := by omega
        have hWn : (W.set (L - 1 - i) (s % 10 + 48)).drop (L - (i + 1)) = asc (s % 10 :: O) := by
          rw [show L - (i + 1) = L - 1 - i by omega, set_drop_cons (by omega), show L - 1 - i + 1 = L - i by omega, hW.out]; rfl
        generalize s % 10 = r at *
        generalize s / 10 = c2 at *
        clear hval hA hB
        repeat' (first
          | (rw [hr1])
          | (rw [hr2])
          | (rw [hr3])
          | (rw [hidx])
          | (refine SyC.seq ?_)
          | (refine SyC.region ?_)
          | (refine SyL.nil ?_)
          | (refine Then.norm ?_)
          | (refine InB.norm ?_)
          | (refine SyC.block ?_)
          | (refine SyC.skip ?_)
          | (refine SyL.light (LV.move rfl) Rq.nil (.none rfl) rfl (ltB rfl) ?_)
          | (refine SyL.light (LV.assign rfl) Rq.nil (.none rfl) rfl (ltB rfl) ?_)
          | (refine SyL.light (LV.len (by apply rfl)) Rq.nil (.none rfl) rfl (ltB rfl) ?_)
          | (refine SyL.light (LV.lenSB rfl) Rq.nil (.none rfl) rfl (ltB rfl) ?_)
          | (refine SyL.light (LV.cmp rfl rfl rfl) Rq.nil (.none rfl) rfl (ltB rfl) ?_)
          | (refine SyL.light (LV.arN rfl rfl rfl (by simp only [Fits]; omega)) Rq.nil (.none rfl) rfl (ltB rfl) ?_)
          | (refine SyL.light (LV.convN (by apply rfl) (by simp only [Fits]; omega)) Rq.nil (.none rfl) rfl (ltB rfl) ?_)
          | (refine SyL.light (LV.remN rfl rfl (by omega) (by omega)) Rq.nil (.none rfl) rfl (ltB rfl) ?_)
          | (refine SyL.light (LV.quoN rfl rfl (by omega) (by omega) (by simp only [Fits]; omega)) Rq.nil (.none rfl) rfl (ltB rfl) ?_)
          | (refine SyL.light (LV.idxBN (by apply rfl) (by apply rfl) (by omega)) Rq.nil (.none rfl) rfl (ltB rfl) ?_)
          | (refine SyL.heavy0 (OpT.store rfl rfl rfl (k := 0) rfl (by first | (simp; done) | (simp only [List.length_cons, List.length_nil, hUl]; done) | (simp only [List.length_cons, List.length_nil, hUl]; omega) | (simp; omega) | omega) ?_) (.none rfl) rfl)
          | (refine SyC.condT rfl (by first | assumption | (with_reducible rfl) | decide | (simp only [decide_eq_true_eq, decide_eq_false_iff_not, Bool.not_eq_true', Bool.not_eq_false', beq_iff_eq, bne_iff_ne, ne_eq, beq_eq_false_iff_ne, bne_eq_false_iff_eq, Int.not_lt, Int.not_le, Bool.true_eq_false, Bool.false_eq_true, tb_one, tb_zero]; omega)) ?_)
          | (refine SyC.condF rfl (by first | assumption | (with_reducible rfl) | decide | (simp only [decide_eq_true_eq, decide_eq_false_iff_not, Bool.not_eq_true', Bool.not_eq_false', beq_iff_eq, bne_iff_ne, ne_eq, beq_eq_false_iff_ne, bne_eq_false_iff_eq, Int.not_lt, Int.not_le, Bool.true_eq_false, Bool.false_eq_true, tb_one, tb_zero]; omega)) ?_))
        repeat (first | rw [List.set_cons_succ] | rw [List.set_cons_zero] | rw [U8_set])
        exact ⟨L - (i + 1), [(18, .int .i64 (i + 1 : Nat)), (17, .int .i64 (L : Nat)), (6, .int .i64 (c2 : Nat)), (0, .string (sB (asc a))), (1, .string (sB (asc b))), (5, .slice (some ⟨g_, 0, none⟩) L L)], [.blk g_ 5 (U8 (W.set (L - 1 - i) (r + 48)))], by omega, (by repeat (first | exact trivial | refine ⟨rfl, ?_⟩)), ⟨i + 1, W.set (L - 1 - i) (r + 48), r :: O, c2, rfl, by omega, by simpa using hWl, by simp [hOl], D10.cons hrb hOs, hcb, ⟨hWn⟩, ⟨hst⟩, rfl, rfl, rfl⟩, (by repeat (first | exact List.Sublist.refl _ | exact List.nil_sublist _ | refine List.Sublist.cons_cons _ ?_ | refine List.Sublist.cons _ ?_))⟩
  · obtain rfl : i = L := by omega
    have hf := plus_fin2 hax hay hL hval.out
    rw [hvx, hvy] at hf
    have hWW := hW.out
    rw [Nat.sub_self, List.drop_zero] at hWW
    subst hWW
    clear hval hW
    refine SyC.ownOf (k := 0) (m := i) (sz := 1) rfl (by rw [U8_len, hWl]; omega) (by simp [maxLen]; omega) ?_
    refine SyC.freezeOwn fun I9 hle9 hr9 => ?_
    rw [← hWl] at hr9 ⊢
    have ht := sigilTrim_c I9 ⟨g_, 0, none⟩ _ O hOs hr9
    rw [hf] at ht
    unfold S at ht
    repeat' (first
      | (refine SyC.seq ?_)
      | (refine SyC.region ?_)
      | (refine SyL.nil ?_)
      | (refine Then.norm ?_)
      | (refine Then.exit ?_)
      | (refine InB.hit ?_)
      | (refine SyC.exit ?_)
      | (refine SyC.ret ?_)
      | (refine SyL.light (LV.move rfl) Rq.nil (.none rfl) rfl (ltB rfl) ?_)
      | (refine SyL.light (LV.assign rfl) Rq.nil (.none rfl) rfl (ltB rfl) ?_)
      | (refine SyL.light (LV.cmp rfl rfl rfl) Rq.nil (.none rfl) rfl (ltB rfl) ?_)
      | (refine SyL.heavy (OpT.pcall rfl rfl (ht) ?_) (.none rfl) rfl (ltB rfl); rintro v3 I3 - ⟨rfl, rfl⟩)
      | (refine SyC.condF rfl (by first | assumption | (with_reducible rfl) | decide | (simp only [decide_eq_true_eq, decide_eq_false_iff_not, Bool.not_eq_true', Bool.not_eq_false', beq_iff_eq, bne_iff_ne, ne_eq, beq_eq_false_iff_ne, bne_eq_false_iff_eq, Int.not_lt, Int.not_le, Bool.true_eq_false, Bool.false_eq_true, tb_one, tb_zero]; omega)) ?_))
    refine Ret.one (by simp) Tryd.results13 (.tmp rfl) ?_
    exact ⟨rfl, rfl⟩
end Go.Proofs.YtpgkbipnkkeicaaDoor
