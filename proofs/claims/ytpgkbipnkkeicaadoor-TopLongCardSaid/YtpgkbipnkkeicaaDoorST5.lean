import Derived.Test.YtpgkbipnkkeicaaDoorST4
set_option linter.unusedSimpArgs false
set_option linter.unusedVariables false
/-! Multiplying as by hand. -/
namespace Go.Nt
theorem times_fin2 {O S a b : List Nat} {cy L : Nat} (ha : D10 a) (hb : D10 b) (hS : dv S = dv (a.take a.length) * 10 ^ (a.length - a.length) * dv b) (hL : L = a.length + b.length) (h : dv O + cy * 10 ^ (L - 0) = dv (S.drop 0)) : dv O = dv a * dv b := by
  rw [List.take_length, Nat.sub_self, Nat.pow_zero, Nat.mul_one] at hS
  rw [List.drop_zero, hS, Nat.sub_zero, hL, Nat.pow_add] at h
  have h1 : dv a * dv b < 10 ^ a.length * 10 ^ b.length := Nat.lt_of_le_of_lt (Nat.mul_le_mul_right _ (Nat.le_of_lt (dv_lt ha))) (Nat.mul_lt_mul_of_pos_left (dv_lt hb) (Nat.pow_pos (by decide)))
  rcases Nat.eq_zero_or_pos cy with h2 | h2
  · subst h2; omega
  · have := Nat.mul_le_mul_right (10 ^ a.length * 10 ^ b.length) h2
    omega
theorem getD_set_le {S : List Nat} {p v M q : Nat} (h : ∀ q, S.getD q 0 ≤ M) (hv : v ≤ M) : (S.set p v).getD q 0 ≤ M := by
  by_cases e : p = q
  · subst e
    by_cases hp : p < S.length
    · rw [List.getD_eq_getElem?_getD, List.getElem?_set_self hp]; exact hv
    · rw [List.set_eq_of_length_le (by omega)]; exact h _
  · rw [List.getD_eq_getElem?_getD, List.getElem?_set_ne e, ← List.getD_eq_getElem?_getD]; exact h _
end Go.Nt
namespace Go.Proofs.YtpgkbipnkkeicaaDoor
open Go Go.Sx Go.Nt
def NI (l : List Nat) : List Value := l.map fun (d : Nat) => Value.int .i64 (d : Int)
theorem NI_get {l : List Nat} {j : Nat} (h : j < l.length) : (NI l)[j]? = some (.int .i64 ((l.getD j 0 : Nat) : Int)) := by simp [NI, h]
theorem NI_len (l : List Nat) : (NI l).length = l.length := by simp [NI]
theorem NI_set (l : List Nat) (j x : Nat) : (NI l).set j (.int .i64 (x : Int)) = NI (l.set j x) := by simp [NI, List.map_set]
theorem mk_int' (n : Nat) : ((List.replicate ((n : Int)).toNat (Value.int .i64 0).cells.toList).flatten) = NI (List.replicate n 0) := by simp [NI, Value.cells]
set_option maxRecDepth 100000 in
set_option maxHeartbeats 1000000 in
theorem sigilTimes_c (I : IH) (x y : Nat) (hbx : (dec x).length ≤ 2000) (hby : (dec y).length ≤ 2000) : PFn Tryd.prog 14 #[S x, S y] I fun r I' => r = S (x * y) := by
  have hax := dec_D10 x
  have hay := dec_D10 y
  have hvx := dv_dec x
  have hvy := dv_dec y
  unfold S
  generalize dec x = a at *
  generalize dec y = b at *
  have hla := asc_len a
  have hlb := asc_len b
  refine Fn.intro (n := 76) (args := [.string (sB (asc a)), .string (sB (asc b))]) (by kernel_rfl) Tryd.func14 rfl Tryd.ntmps14 (Nat.le_of_ble_eq_true rfl) [(0, .string (sB (asc a))), (1, .string (sB (asc b)))] rfl (fun w0 => ?_)
  obtain ⟨L, hL⟩ : ∃ L, L = a.length + b.length := ⟨_, rfl⟩
  have hmax : ((asc a).length : Int) + ((asc b).length : Int) = (L : Int) := by omega
  repeat' (first
    | (rw [hmax])
    | (refine SyC.seq ?_)
    | (refine SyC.region ?_)
    | (refine SyL.nil ?_)
    | (refine Then.norm ?_)
    | (refine SyC.block ?_)
    | (refine SyL.light (LV.move rfl) Rq.nil (.none rfl) rfl (ltB rfl) ?_)
    | (refine SyL.light (LV.assign rfl) Rq.nil (.none rfl) rfl (ltB rfl) ?_)
    | (refine SyL.light (LV.lenSB rfl) Rq.nil (.none rfl) rfl (ltB rfl) ?_)
    | (refine SyL.light (LV.arN rfl rfl rfl (by simp only [Fits]; omega)) Rq.nil (.none rfl) rfl (ltB rfl) ?_)
    | (refine SyL.heavy (OpT.make (by apply rfl) (by apply rfl) (by omega) (by omega) (by omega) (by decide) (by omega) (fun g_ hg_ => ?_)) (.none rfl) rfl (ltB rfl)))
  rename Nat => gs
  rw [mk_int']
  refine SyC.loopD (fun q env I' rs => ∃ i T n, q = a.length - i ∧ i ≤ a.length ∧ T.length = L ∧ n ≤ 2000 * i ∧ Hd (∀ p, T.getD p 0 ≤ 81 * n) ∧ Hd (dv T = dv (a.take i) * 10 ^ (a.length - i) * dv b) ∧ I' = I ∧ rs = [.blk gs 3 (NI T)] ∧
    env = [(19, .int .i64 (i : Nat)), (18, .int .i64 ((asc a).length : Nat)), (0, .string (sB (asc a))), (1, .string (sB (asc b))), (5, .slice (some ⟨gs, 0, none⟩) L L)]) a.length
    [(19, .int .i64 ((0 : Nat) : Int)), (18, .int .i64 ((asc a).length : Nat)), (0, .string (sB (asc a))), (1, .string (sB (asc b))), (5, .slice (some ⟨gs, 0, none⟩) L L)] (by repeat (first | exact trivial | refine ⟨rfl, ?_⟩))
    ⟨0, List.replicate L 0, 0, rfl, by omega, by simp, by omega, ⟨fun p => by rw [List.getD_eq_getElem?_getD, List.getElem?_replicate]; split <;> simp⟩, ⟨by rw [dv_zeros]; simp [dv]⟩, rfl, rfl, rfl⟩ ?_
  rintro q env I' rs ⟨i, T, n, rfl, hi, hTl, hn, hTb, hval, rfl, rfl, rfl⟩
  by_cases hlt : i < a.length
  · have hda := hax.getD i
    have hga := asc_get (l := a) (k := i) (by omega)
    have hrow := fun X h => times_row (X := X) (b := b) hlt h
    have hstep := fun (S : List Nat) (hS : S.length = a.length + b.length) k hk X h => times_step (S := S) (b := b) (k := k) (X := X) hS hlt hk h
    generalize a.getD i 0 = da at *
    repeat' (first
      | (refine SyC.seq ?_)
      | (refine SyC.region ?_)
      | (refine SyL.nil ?_)
      | (refine Then.norm ?_)
      | (refine SyC.block ?_)
      | (refine SyC.skip ?_)
      | (refine SyL.light (LV.move rfl) Rq.nil (.none rfl) rfl (ltB rfl) ?_)
      | (refine SyL.light (LV.assign rfl) Rq.nil (.none rfl) rfl (ltB rfl) ?_)
      | (refine SyL.light (LV.lenSB rfl) Rq.nil (.none rfl) rfl (ltB rfl) ?_)
      | (refine SyL.light (LV.cmp rfl rfl rfl) Rq.nil (.none rfl) rfl (ltB rfl) ?_)
      | (refine SyC.condT rfl (by first | assumption | (with_reducible rfl) | decide | (simp only [decide_eq_true_eq, decide_eq_false_iff_not, Bool.not_eq_true', Bool.not_eq_false', beq_iff_eq, bne_iff_ne, ne_eq, beq_eq_false_iff_ne, bne_eq_false_iff_eq, Int.not_lt, Int.not_le, Bool.true_eq_false, Bool.false_eq_true, tb_one, tb_zero]; omega)) ?_))
    refine SyC.loopD (fun q env I'' rs => ∃ k T n, q = b.length - k ∧ k ≤ b.length ∧ T.length = L ∧ n ≤ 2000 * i + k ∧ Hd (∀ p, T.getD p 0 ≤ 81 * n) ∧ Hd (dv T = dv (a.take i) * 10 ^ (a.length - i) * dv b + da * 10 ^ (a.length - (i + 1)) * (dv (b.take k) * 10 ^ (b.length - k))) ∧ I'' = I' ∧ rs = [.blk gs 3 (NI T)] ∧
      env = [(24, .int .i64 (k : Nat)), (23, .int .i64 ((asc b).length : Nat)), (6, .int .i64 (i : Nat)), (19, .int .i64 (i : Nat)), (18, .int .i64 ((asc a).length : Nat)), (0, .string (sB (asc a))), (1, .string (sB (asc b))), (5, .slice (some ⟨gs, 0, none⟩) L L)]) b.length
      [(24, .int .i64 ((0 : Nat) : Int)), (23, .int .i64 ((asc b).length : Nat)), (6, .int .i64 (i : Nat)), (19, .int .i64 (i : Nat)), (18, .int .i64 ((asc a).length : Nat)), (0, .string (sB (asc a))), (1, .string (sB (asc b))), (5, .slice (some ⟨gs, 0, none⟩) L L)] (by repeat (first | exact trivial | refine ⟨rfl, ?_⟩))
      ⟨0, T, n, rfl, by omega, hTl, by omega, hTb, ⟨by rw [hval.out]; simp [dv]⟩, rfl, rfl, rfl⟩ ?_
    clear hTl hTb hval hn T n
    rintro q env I'' rs ⟨k, T, n, rfl, hk, hTl, hn, hTb, hval, rfl, rfl, rfl⟩
    by_cases hkl : k < b.length
    · have hdb := hay.getD k
      have hgb := asc_get (l := b) (k := k) (by omega)
      have hst := hstep T (by omega) k hkl _ hval.out
      have hsv := hTb.out (i + k + 1)
      have hnew := fun v hv q => getD_set_le (p := i + k + 1) (v := v) (q := q) (M := 81 * (n + 1)) (fun q => Nat.le_trans (hTb.out q) (by omega)) hv
      have gT := NI_get (l := T) (j := i + k + 1) (by omega)
      generalize b.getD k 0 = db at *
      generalize T.getD (i + k + 1) 0 = sv at *
      have hst := Hd.mk hst
      have hnew := Hd.mk hnew
      clear hval hstep hrow
      obtain ⟨z, hz⟩ : ∃ z, z = da * db := ⟨_, rfl⟩
      have hmI : (da : Int) * (db : Int) = (z : Int) := by rw [hz]; simp
      have hzb : z ≤ 9 * 9 := by rw [hz]; exact Nat.mul_le_mul (by omega) (by omega)
      rw [← hz] at hst
      have hsa : ((da + 48 : Nat) : Int) - 48 = (da : Int) := by omega
      have hsb : ((db + 48 : Nat) : Int) - 48 = (db : Int) := by omega
      have hik : (i : Int) + (k : Int) = ((i + k : Nat) : Int) := by omega
      have hik1 : ((i + k : Nat) : Int) + 1 = ((i + k + 1 : Nat) : Int) := by omega
      have hsum : (sv : Int) + (z : Int) = ((sv + z : Nat) : Int) := by omega
      have hUl : (NI T).length = L := by rw [NI_len, hTl]
      repeat' (first
        | (refine SyC.seq ?_)
        | (refine SyC.region ?_)
        | (refine SyL.nil ?_)
        | (refine Then.norm ?_)
        | (refine InB.norm ?_)
        | (refine SyC.block ?_)
        | (refine SyC.skip ?_)
        | (refine SyC.draw (id := 8) (by kernel_rfl) (by kernel_rfl) ?_; refine D.light (i := 0) rfl (.on (.none rfl) (LV.move rfl)) Rq.nil (by kernel_rfl) rfl (ltB rfl) ?_; refine D.light (i := 1) rfl (.on (.none rfl) (LV.move rfl)) Rq.nil (by kernel_rfl) rfl (ltB rfl) ?_; refine D.light (i := 2) rfl (.on (.none rfl) (LV.move rfl)) Rq.nil (by kernel_rfl) rfl (ltB rfl) ?_; refine D.light (i := 3) rfl (.on (.none rfl) (LV.arN rfl rfl rfl (by simp only [Fits]; omega))) Rq.nil (by kernel_rfl) rfl (ltB rfl) ?_; (repeat (first | rw [hik] | rw [hik1] | rw [hga] | rw [hgb] | rw [hsa] | rw [hsb] | rw [hmI] | rw [hsum])); refine D.light (i := 4) rfl (.on (.none rfl) (LV.arN rfl rfl rfl (by simp only [Fits]; omega))) Rq.nil (by kernel_rfl) rfl (ltB rfl) ?_; (repeat (first | rw [hik] | rw [hik1] | rw [hga] | rw [hgb] | rw [hsa] | rw [hsb] | rw [hmI] | rw [hsum])); refine D.light (i := 5) rfl (.on (.none rfl) (LV.idxBN (by apply rfl) (by apply rfl) (by omega))) Rq.nil (by kernel_rfl) rfl (ltB rfl) ?_; refine D.light (i := 6) rfl (.on (.none rfl) (LV.load rfl)) (Rq.blk (List.mem_of_getElem? (i := 0) rfl) gT) (by kernel_rfl) rfl (ltB rfl) ?_; refine D.light (i := 7) rfl (.on (.none rfl) (LV.move rfl)) Rq.nil (by kernel_rfl) rfl (ltB rfl) ?_; refine D.light (i := 8) rfl (.on (.none rfl) (LV.move rfl)) Rq.nil (by kernel_rfl) rfl (ltB rfl) ?_; refine D.light (i := 9) rfl (.on (.none rfl) (LV.idxSB rfl rfl (by first | omega | (simp only [List.length_append, List.length_cons, List.length_nil]; omega)) (by first | assumption | omega | exact (by rw [hga]; exact digB hda) | exact (by rw [hgb]; exact digB hdb)))) Rq.nil (by kernel_rfl) rfl (ltB rfl) ?_; (repeat (first | rw [hik] | rw [hik1] | rw [hga] | rw [hgb] | rw [hsa] | rw [hsb] | rw [hmI] | rw [hsum])); refine D.light (i := 10) rfl (.on (.none rfl) (LV.arN rfl rfl rfl (by simp only [Fits]; omega))) Rq.nil (by kernel_rfl) rfl (ltB rfl) ?_; (repeat (first | rw [hik] | rw [hik1] | rw [hga] | rw [hgb] | rw [hsa] | rw [hsb] | rw [hmI] | rw [hsum])); refine D.light (i := 11) rfl (.on (.none rfl) (LV.convN (by apply rfl) (by simp only [Fits]; omega))) Rq.nil (by kernel_rfl) rfl (ltB rfl) ?_; (repeat (first | rw [hik] | rw [hik1] | rw [hga] | rw [hgb] | rw [hsa] | rw [hsb] | rw [hmI] | rw [hsum])); refine D.light (i := 12) rfl (.on (.none rfl) (LV.move rfl)) Rq.nil (by kernel_rfl) rfl (ltB rfl) ?_; refine D.light (i := 13) rfl (.on (.none rfl) (LV.move rfl)) Rq.nil (by kernel_rfl) rfl (ltB rfl) ?_; refine D.light (i := 14) rfl (.on (.none rfl) (LV.idxSB rfl rfl (by first | omega | (simp only [List.length_append, List.length_cons, List.length_nil]; omega)) (by first | assumption | omega | exact (by rw [hga]; exact digB hda) | exact (by rw [hgb]; exact digB hdb)))) Rq.nil (by kernel_rfl) rfl (ltB rfl) ?_; (repeat (first | rw [hik] | rw [hik1] | rw [hga] | rw [hgb] | rw [hsa] | rw [hsb] | rw [hmI] | rw [hsum])); refine D.light (i := 15) rfl (.on (.none rfl) (LV.arN rfl rfl rfl (by simp only [Fits]; omega))) Rq.nil (by kernel_rfl) rfl (ltB rfl) ?_; (repeat (first | rw [hik] | rw [hik1] | rw [hga] | rw [hgb] | rw [hsa] | rw [hsb] | rw [hmI] | rw [hsum])); refine D.light (i := 16) rfl (.on (.none rfl) (LV.convN (by apply rfl) (by simp only [Fits]; omega))) Rq.nil (by kernel_rfl) rfl (ltB rfl) ?_; (repeat (first | rw [hik] | rw [hik1] | rw [hga] | rw [hgb] | rw [hsa] | rw [hsb] | rw [hmI] | rw [hsum])); refine D.light (i := 17) rfl (.on (.none rfl) (LV.arN rfl rfl rfl (by simp only [Fits]; omega))) Rq.nil (by kernel_rfl) rfl (ltB rfl) ?_; (repeat (first | rw [hik] | rw [hik1] | rw [hga] | rw [hgb] | rw [hsa] | rw [hsb] | rw [hmI] | rw [hsum])); refine D.light (i := 18) rfl (.on (.none rfl) (LV.arN rfl rfl rfl (by simp only [Fits]; omega))) Rq.nil (by kernel_rfl) rfl (ltB rfl) ?_; (repeat (first | rw [hik] | rw [hik1] | rw [hga] | rw [hgb] | rw [hsa] | rw [hsb] | rw [hmI] | rw [hsum])); refine D.light (i := 19) rfl (.on (.none rfl) (LV.idxBN (by apply rfl) (by apply rfl) (by omega))) Rq.nil (by kernel_rfl) rfl (ltB rfl) ?_; refine D.heavy0 (i := 20) rfl (OpT.store rfl rfl rfl (k := 0) rfl (by first | (simp; done) | (simp only [List.length_cons, List.length_nil, hUl]; done) | (simp only [List.length_cons, List.length_nil, hUl]; omega) | (simp; omega) | omega) ?_) (.none rfl) (by kernel_rfl) (by kernel_rfl) rfl (chg_bits (by kernel_rfl)); refine D.fin (by kernel_rfl) ?_)
        | (refine SyL.light (LV.move rfl) Rq.nil (.none rfl) rfl (ltB rfl) ?_)
        | (refine SyL.light (LV.assign rfl) Rq.nil (.none rfl) rfl (ltB rfl) ?_)
        | (refine SyL.light (LV.cmp rfl rfl rfl) Rq.nil (.none rfl) rfl (ltB rfl) ?_)
        | (refine SyL.light (LV.arN rfl rfl rfl (by simp only [Fits]; omega)) Rq.nil (.none rfl) rfl (ltB rfl) ?_)
        | (refine SyC.condT rfl (by first | assumption | (with_reducible rfl) | decide | (simp only [decide_eq_true_eq, decide_eq_false_iff_not, Bool.not_eq_true', Bool.not_eq_false', beq_iff_eq, bne_iff_ne, ne_eq, beq_eq_false_iff_ne, bne_eq_false_iff_eq, Int.not_lt, Int.not_le, Bool.true_eq_false, Bool.false_eq_true, tb_one, tb_zero]; omega)) ?_))
      repeat (first | rw [List.set_cons_succ] | rw [List.set_cons_zero] | rw [NI_set])
      exact ⟨b.length - (k + 1), [(24, .int .i64 (k + 1 : Nat)), (23, .int .i64 ((asc b).length : Nat)), (6, .int .i64 (i : Nat)), (19, .int .i64 (i : Nat)), (18, .int .i64 ((asc a).length : Nat)), (0, .string (sB (asc a))), (1, .string (sB (asc b))), (5, .slice (some ⟨gs, 0, none⟩) L L)], [.blk gs 3 (NI (T.set (i + k + 1) (sv + z)))], by omega, (by repeat (first | exact trivial | refine ⟨rfl, ?_⟩)), ⟨k + 1, T.set (i + k + 1) (sv + z), n + 1, rfl, by omega, by simpa using hTl, by omega, ⟨hnew.out _ (by omega)⟩, hst, rfl, rfl, rfl⟩, (by repeat (first | exact List.Sublist.refl _ | exact List.nil_sublist _ | refine List.Sublist.cons_cons _ ?_ | refine List.Sublist.cons _ ?_))⟩
    · obtain rfl : k = b.length := by omega
      have h2 := hval.out
      rw [hrow _ rfl] at h2
      have h2 := Hd.mk h2
      clear hval hrow hstep
      repeat' (first
        | (refine SyC.seq ?_)
        | (refine SyC.region ?_)
        | (refine SyL.nil ?_)
        | (refine Then.norm ?_)
        | (refine Then.exit ?_)
        | (refine InB.norm ?_)
        | (refine InB.hit ?_)
        | (refine SyC.exit ?_)
        | (refine SyL.light (LV.move rfl) Rq.nil (.none rfl) rfl (ltB rfl) ?_)
        | (refine SyL.light (LV.cmp rfl rfl rfl) Rq.nil (.none rfl) rfl (ltB rfl) ?_)
        | (refine SyL.light (LV.arN rfl rfl rfl (by simp only [Fits]; omega)) Rq.nil (.none rfl) rfl (ltB rfl) ?_)
        | (refine SyC.condF rfl (by first | assumption | (with_reducible rfl) | decide | (simp only [decide_eq_true_eq, decide_eq_false_iff_not, Bool.not_eq_true', Bool.not_eq_false', beq_iff_eq, bne_iff_ne, ne_eq, beq_eq_false_iff_ne, bne_eq_false_iff_eq, Int.not_lt, Int.not_le, Bool.true_eq_false, Bool.false_eq_true, tb_one, tb_zero]; omega)) ?_))
      exact ⟨a.length - (i + 1), [(19, .int .i64 (i + 1 : Nat)), (18, .int .i64 ((asc a).length : Nat)), (0, .string (sB (asc a))), (1, .string (sB (asc b))), (5, .slice (some ⟨gs, 0, none⟩) L L)], [.blk gs 3 (NI T)], by omega, (by repeat (first | exact trivial | refine ⟨rfl, ?_⟩)), ⟨i + 1, T, n, rfl, by omega, hTl, by omega, hTb, h2, rfl, rfl, rfl⟩, (by repeat (first | exact List.Sublist.refl _ | exact List.nil_sublist _ | refine List.Sublist.cons_cons _ ?_ | refine List.Sublist.cons _ ?_))⟩
  · obtain rfl : i = a.length := by omega
    have hn2 : n ≤ 4000000 := by omega
    repeat' (first
      | (refine SyC.seq ?_)
      | (refine SyC.region ?_)
      | (refine SyL.nil ?_)
      | (refine Then.norm ?_)
      | (refine Then.exit ?_)
      | (refine InB.hit ?_)
      | (refine SyC.block ?_)
      | (refine SyC.exit ?_)
      | (refine SyL.light (LV.move rfl) Rq.nil (.none rfl) rfl (ltB rfl) ?_)
      | (refine SyL.light (LV.assign rfl) Rq.nil (.none rfl) rfl (ltB rfl) ?_)
      | (refine SyL.light (LV.len (by apply rfl)) Rq.nil (.none rfl) rfl (ltB rfl) ?_)
      | (refine SyL.light (LV.cmp rfl rfl rfl) Rq.nil (.none rfl) rfl (ltB rfl) ?_)
      | (refine SyL.light (LV.arN rfl rfl rfl (by simp only [Fits]; omega)) Rq.nil (.none rfl) rfl (ltB rfl) ?_)
      | (refine SyL.heavy (OpT.make (by apply rfl) (by apply rfl) (by omega) (by omega) (by omega) (by decide) (by omega) (fun g_ hg_ => ?_)) (.none rfl) rfl (ltB rfl))
      | (refine SyC.condF rfl (by first | assumption | (with_reducible rfl) | decide | (simp only [decide_eq_true_eq, decide_eq_false_iff_not, Bool.not_eq_true', Bool.not_eq_false', beq_iff_eq, bne_iff_ne, ne_eq, beq_eq_false_iff_ne, bne_eq_false_iff_eq, Int.not_lt, Int.not_le, Bool.true_eq_false, Bool.false_eq_true, tb_one, tb_zero]; omega)) ?_))
    rename Nat => go
    rw [mk_u8']
    refine SyC.loopD (fun q env I'' rs => ∃ p W O cy, q = p ∧ p ≤ L ∧ W.length = L ∧ O.length = L - p ∧ D10 O ∧ cy ≤ 400000000 ∧ Hd (W.drop p = asc O) ∧ Hd (dv O + cy * 10 ^ (L - p) = dv (T.drop p)) ∧ I'' = I' ∧ rs = [.blk go 5 (U8 W), .blk gs 3 (NI T)] ∧
      env = [(10, .int .i64 ((p : Nat) - 1 : Int)), (9, .int .i64 (cy : Nat)), (5, .slice (some ⟨gs, 0, none⟩) L L), (8, .slice (some ⟨go, 0, none⟩) L L)]) L
      [(10, .int .i64 ((L : Nat) - 1 : Int)), (9, .int .i64 ((0 : Nat) : Int)), (5, .slice (some ⟨gs, 0, none⟩) L L), (8, .slice (some ⟨go, 0, none⟩) L L)] (by repeat (first | exact trivial | refine ⟨rfl, ?_⟩))
      ⟨L, List.replicate L 0, [], 0, rfl, by omega, by simp, by simp, D10.nil, by omega, ⟨by rw [List.drop_eq_nil_of_le (by simp)]; rfl⟩, ⟨by rw [List.drop_eq_nil_of_le (by omega)]; simp [dv]⟩, rfl, rfl, rfl⟩ ?_
    rintro q env I'' rs ⟨p, W, O, cy, rfl, hp, hWl, hOl, hOs, hcy, hW, hv2, rfl, rfl, rfl⟩
    by_cases h0 : 0 < q
    · obtain ⟨j, rfl⟩ : ∃ j, q = j + 1 := ⟨q - 1, by omega⟩
      have hsv := hTb.out j
      have gT := NI_get (l := T) (j := j) (by omega)
      have hdc := dv_drop_cons (l := T) (k := j) (by omega)
      generalize T.getD j 0 = sv at *
      rw [hTl] at hdc
      obtain ⟨s, hs⟩ : ∃ s, s = cy + sv + 0 := ⟨_, rfl⟩
      have hst := plus_step2 (A := dv (T.drop (j + 1))) (B := 0) (B' := 0) hOl hs hdc (by rw [Nat.zero_mul]) (by rw [Nat.add_zero]; exact hv2.out)
      rw [Nat.add_zero, show L - (j + 1) + 1 = L - j by omega] at hst
      have hsum : (cy : Int) + (sv : Int) = (s : Int) := by omega
      have hr1 : (s : Int) % 10 = ((s % 10 : Nat) : Int) := by omega
      have hr2 : (s : Int) / 10 = ((s / 10 : Nat) : Int) := by omega
      have hr3 : (48 : Int) + ((s % 10 : Nat) : Int) = ((s % 10 + 48 : Nat) : Int) := by omega
      have hrb : s % 10 < 10 := Nat.mod_lt _ (by decide)
      have hcb : s / 10 ≤ 400000000 := by omega
      have hs64 : s ≤ 1000000000 := by omega
      have hWn : (W.set j (s % 10 + 48)).drop j = asc (s % 10 :: O) := by
        rw [set_drop_cons (by omega), hW.out]; rfl
      generalize s % 10 = r at *
      generalize s / 10 = c2 at *
      have hst := Hd.mk hst
      have hUl : (U8 W).length = L := by rw [U8_len, hWl]
      clear hv2 hdc hval
      repeat' (first
        | (rw [show (((j + 1 : Nat) : Int) - 1) = (j : Int) from by omega])
        | (rw [hsum])
        | (rw [hr1])
        | (rw [hr2])
        | (rw [hr3])
        | (refine SyC.seq ?_)
        | (refine SyC.region ?_)
        | (refine SyL.nil ?_)
        | (refine Then.norm ?_)
        | (refine InB.norm ?_)
        | (refine SyC.block ?_)
        | (refine SyC.skip ?_)
        | (refine SyL.light (LV.move rfl) Rq.nil (.none rfl) rfl (ltB rfl) ?_)
        | (refine SyL.light (LV.assign rfl) Rq.nil (.none rfl) rfl (ltB rfl) ?_)
        | (refine SyL.light (LV.cmp rfl rfl rfl) Rq.nil (.none rfl) rfl (ltB rfl) ?_)
        | (refine SyL.light (LV.arN rfl rfl rfl (by simp only [Fits]; omega)) Rq.nil (.none rfl) rfl (ltB rfl) ?_)
        | (refine SyL.light (LV.convN (by apply rfl) (by simp only [Fits]; omega)) Rq.nil (.none rfl) rfl (ltB rfl) ?_)
        | (refine SyL.light (LV.remN rfl rfl (by omega) (by omega)) Rq.nil (.none rfl) rfl (ltB rfl) ?_)
        | (refine SyL.light (LV.quoN rfl rfl (by omega) (by omega) (by simp only [Fits]; omega)) Rq.nil (.none rfl) rfl (ltB rfl) ?_)
        | (refine SyL.light (LV.idxBN (by apply rfl) (by apply rfl) (by omega)) Rq.nil (.none rfl) rfl (ltB rfl) ?_)
        | (refine SyL.light (LV.load rfl) (Rq.blk (List.mem_of_getElem? (i := 1) rfl) gT) (.none rfl) rfl (ltB rfl) ?_)
        | (refine SyL.heavy0 (OpT.store rfl rfl rfl (k := 0) rfl (by first | (simp; done) | (simp only [List.length_cons, List.length_nil, hUl]; done) | (simp only [List.length_cons, List.length_nil, hUl]; omega) | (simp; omega) | omega) ?_) (.none rfl) rfl)
        | (refine SyC.condT rfl (by first | assumption | (with_reducible rfl) | decide | (simp only [decide_eq_true_eq, decide_eq_false_iff_not, Bool.not_eq_true', Bool.not_eq_false', beq_iff_eq, bne_iff_ne, ne_eq, beq_eq_false_iff_ne, bne_eq_false_iff_eq, Int.not_lt, Int.not_le, Bool.true_eq_false, Bool.false_eq_true, tb_one, tb_zero]; omega)) ?_))
      repeat (first | rw [List.set_cons_succ] | rw [List.set_cons_zero] | rw [U8_set])
      exact ⟨j, [(10, .int .i64 ((j : Nat) - 1 : Int)), (9, .int .i64 (c2 : Nat)), (5, .slice (some ⟨gs, 0, none⟩) L L), (8, .slice (some ⟨go, 0, none⟩) L L)], [.blk go 5 (U8 (W.set j (r + 48))), .blk gs 3 (NI T)], by omega, (by repeat (first | exact trivial | refine ⟨rfl, ?_⟩)), ⟨j, W.set j (r + 48), r :: O, c2, rfl, by omega, by simpa using hWl, by simp only [List.length_cons]; omega, D10.cons hrb hOs, hcb, ⟨hWn⟩, hst, rfl, rfl, rfl⟩, (by repeat (first | exact List.Sublist.refl _ | exact List.nil_sublist _ | refine List.Sublist.cons_cons _ ?_ | refine List.Sublist.cons _ ?_))⟩
    · obtain rfl : q = 0 := by omega
      have hf := times_fin2 hax hay hval.out hL hv2.out
      rw [hvx, hvy] at hf
      have hWW := hW.out
      rw [List.drop_zero] at hWW
      subst hWW
      clear hval hW hv2
      refine SyC.ownOf (k := 0) (m := L) (sz := 1) rfl (by rw [U8_len, hWl]; omega) (by simp [maxLen]; omega) ?_
      refine SyC.freezeOwn fun I9 hle9 hr9 => ?_
      rw [← hWl] at hr9 ⊢
      have ht := sigilTrim_c I9 ⟨go, 0, none⟩ _ O hOs hr9
      rw [hf] at ht
      unfold S at ht
      repeat' (first
        | (refine SyC.seq ?_)
        | (refine SyC.region ?_)
        | (refine SyL.nil ?_)
        | (refine Then.norm ?_)
        | (refine Then.exit ?_)
        | (refine InB.hit ?_)
        | (refine SyC.exit ?_)
        | (refine SyC.ret ?_)
        | (refine SyL.light (LV.move rfl) Rq.nil (.none rfl) rfl (ltB rfl) ?_)
        | (refine SyL.light (LV.assign rfl) Rq.nil (.none rfl) rfl (ltB rfl) ?_)
        | (refine SyL.light (LV.cmp rfl rfl rfl) Rq.nil (.none rfl) rfl (ltB rfl) ?_)
        | (refine SyL.heavy (OpT.pcall rfl rfl (ht) ?_) (.none rfl) rfl (ltB rfl); rintro v3 I3 - ⟨rfl, rfl⟩)
        | (refine SyC.condF rfl (by first | assumption | (with_reducible rfl) | decide | (simp only [decide_eq_true_eq, decide_eq_false_iff_not, Bool.not_eq_true', Bool.not_eq_false', beq_iff_eq, bne_iff_ne, ne_eq, beq_eq_false_iff_ne, bne_eq_false_iff_eq, Int.not_lt, Int.not_le, Bool.true_eq_false, Bool.false_eq_true, tb_one, tb_zero]; omega)) ?_))
      exact Ret.oneS (by simp) Tryd.results14 (.tmp rfl) (⟨rfl, rfl⟩) (by repeat (first | exact List.Sublist.refl _ | exact List.nil_sublist _ | refine List.Sublist.cons_cons _ ?_ | refine List.Sublist.cons _ ?_))
end Go.Proofs.YtpgkbipnkkeicaaDoor
