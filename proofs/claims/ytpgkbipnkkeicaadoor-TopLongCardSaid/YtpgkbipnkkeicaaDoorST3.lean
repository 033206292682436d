import Derived.Test.YtpgkbipnkkeicaaDoorST2
import Derived.Test.YtpgkbipnkkeicaaDoorN2
set_option linter.unusedSimpArgs false
set_option linter.unusedVariables false
/-! The order of strings of digits. -/
namespace Go.Proofs.YtpgkbipnkkeicaaDoor
open Go Go.Sx Go.Nt
theorem first_diff : ∀ {a b : List Nat}, a.length = b.length → a ≠ b → ∃ k, k < a.length ∧ a.take k = b.take k ∧ a.getD k 0 ≠ b.getD k 0
  | [], [], _, h => absurd rfl h
  | x :: a, y :: b, hl, h => by
    by_cases hxy : x = y
    · subst hxy
      obtain ⟨k, h1, h2, h3⟩ := first_diff (a := a) (b := b) (by simpa using hl) (fun e => h (by rw [e]))
      exact ⟨k + 1, by simp; omega, by simp [h2], by simpa using h3⟩
    · exact ⟨0, by simp, rfl, by simpa using hxy⟩
theorem asc_take (l : List Nat) (k : Nat) : (asc l).take k = asc (l.take k) := by simp [asc, List.map_take]
theorem asc_inj {a b : List Nat} (h : asc a = asc b) : a = b := by
  have h1 := congrArg (List.map (· - 48)) h
  simp only [asc, List.map_map] at h1
  have e : ((fun x => x - 48) ∘ fun d => d + 48) = (id : Nat → Nat) := by funext x; simp
  rwa [e, List.map_id, List.map_id] at h1
theorem dv_inj {a b : List Nat} (ha : D10 a) (hb : D10 b) (hl : a.length = b.length) (h : dv a = dv b) : a = b := Classical.byContradiction fun hn => by
  obtain ⟨k, h1, h2, h3⟩ := first_diff hl hn
  rcases Nat.lt_or_gt_of_ne h3 with h4 | h4
  · have := dv_lt_of ha hl h1 h2 h4; omega
  · have := dv_lt_of hb hl.symm (by omega) h2.symm h4; omega
theorem less_dv {a b : List Nat} (ha : D10 a) (hb : D10 b) (hl : a.length = b.length) : Op.bytesLess (sB (asc a)).toList (sB (asc b)).toList = decide (dv a < dv b) := by
  rw [sB_less (asc_by ha) (asc_by hb) (by rw [asc_len, asc_len, hl])]
  congr 1
  apply propext
  constructor
  · rintro ⟨k, h1, h2, h3⟩
    rw [asc_len] at h1
    rw [asc_take, asc_take] at h2
    rw [asc_get h1, asc_get (by omega)] at h3
    exact dv_lt_of ha hl h1 (asc_inj h2) (by omega)
  · intro h
    obtain ⟨k, h1, h2, h3⟩ := first_diff hl (fun e => by rw [e] at h; omega)
    rcases Nat.lt_or_gt_of_ne h3 with h4 | h4
    · exact ⟨k, by rw [asc_len]; exact h1, by rw [asc_take, asc_take, h2], by rw [asc_get h1, asc_get (by omega)]; omega⟩
    · have := dv_lt_of hb hl.symm (by omega) h2.symm h4; omega
theorem beq_dv {a b : List Nat} (ha : D10 a) (hb : D10 b) (hl : a.length = b.length) : ((sB (asc a)).toList == (sB (asc b)).toList) = decide (dv a = dv b) := by
  rw [sB_beq (asc_by ha) (asc_by hb)]
  congr 1
  apply propext
  exact ⟨fun h => by rw [asc_inj h], fun h => by rw [dv_inj ha hb hl h]⟩
theorem gt_dv {a b : List Nat} (ha : D10 a) (hb : D10 b) (hl : a.length = b.length) : (!(Op.bytesLess (sB (asc a)).toList (sB (asc b)).toList || (sB (asc a)).toList == (sB (asc b)).toList)) = decide (dv b < dv a) := by
  rw [less_dv ha hb hl, beq_dv ha hb hl]
  by_cases h : dv b < dv a
  · rw [decide_eq_true h, decide_eq_false (by omega), decide_eq_false (by omega)]; rfl
  · rw [decide_eq_false h]
    by_cases h2 : dv a < dv b
    · rw [decide_eq_true h2]; rfl
    · rw [decide_eq_false h2, decide_eq_true (show dv a = dv b by omega)]; rfl
theorem self_ne (s : ByteArray) : (!(s.toList == s.toList)) = false := by simp
set_option maxRecDepth 100000 in
theorem nanInt_c (I : IH) (m : Int) : PFn Tryd.prog 38 #[.int .i64 m] I fun r I' => r = .bool false ∧ I' = I := by
  refine Fn.intro (n := 6) (args := [.int .i64 m]) (by kernel_rfl) Tryd.func38 rfl Tryd.ntmps38 (Nat.le_of_ble_eq_true rfl) [(0, .int .i64 m)] rfl (fun w0 => ?_)
  repeat' (first
    | (refine SyC.seq ?_)
    | (refine SyC.region ?_)
    | (refine SyL.nil ?_)
    | (refine Then.norm ?_)
    | (refine SyC.ret ?_)
    | (refine SyL.light (LV.move rfl) Rq.nil (.none rfl) rfl (ltB rfl) ?_)
    | (refine SyL.light (LV.assign rfl) Rq.nil (.none rfl) rfl (ltB rfl) ?_)
    | (refine SyL.light (LV.cmp rfl rfl rfl) Rq.nil (.none rfl) rfl (ltB rfl) ?_))
  refine Ret.one (by simp) Tryd.results38 (.tmp rfl) ?_
  exact ⟨rfl, by simp, rfl⟩
set_option maxRecDepth 100000 in
theorem nanStr_c (I : IH) (s : ByteArray) : PFn Tryd.prog 39 #[.string s] I fun r I' => r = .bool false ∧ I' = I := by
  refine Fn.intro (n := 6) (args := [.string s]) (by kernel_rfl) Tryd.func39 rfl Tryd.ntmps39 (Nat.le_of_ble_eq_true rfl) [(0, .string s)] rfl (fun w0 => ?_)
  repeat' (first
    | (rw [self_ne])
    | (refine SyC.seq ?_)
    | (refine SyC.region ?_)
    | (refine SyL.nil ?_)
    | (refine Then.norm ?_)
    | (refine SyC.ret ?_)
    | (refine SyL.light (LV.move rfl) Rq.nil (.none rfl) rfl (ltB rfl) ?_)
    | (refine SyL.light (LV.assign rfl) Rq.nil (.none rfl) rfl (ltB rfl) ?_)
    | (refine SyL.light (LV.neSB rfl rfl) Rq.nil (.none rfl) rfl (ltB rfl) ?_))
  refine Ret.one (by simp) Tryd.results39 (.tmp rfl) ?_
  exact ⟨rfl, rfl, rfl⟩
set_option maxRecDepth 100000 in
theorem cmpInt_c (I : IH) (m n : Nat) : PFn Tryd.prog 26 #[.int .i64 (m : Int), .int .i64 (n : Int)] I fun r I' => r = .int .i64 (cmpN m n) ∧ I' = I := by
  have hn := fun m => nanInt_c I m
  refine Fn.intro (n := 20) (args := [.int .i64 (m : Int), .int .i64 (n : Int)]) (by kernel_rfl) Tryd.func26 rfl Tryd.ntmps26 (Nat.le_of_ble_eq_true rfl) [(0, .int .i64 (m : Int)), (1, .int .i64 (n : Int))] rfl (fun w0 => ?_)
  rcases Nat.lt_trichotomy m n with h | h | h
  · repeat' (first
      | (refine SyC.seq ?_)
      | (refine SyC.region ?_)
      | (refine SyL.nil ?_)
      | (refine Then.norm ?_)
      | (refine Then.ret ?_)
      | (refine SyC.skip ?_)
      | (refine SyC.ret ?_)
      | (refine SyL.light (LV.move rfl) Rq.nil (.none rfl) rfl (ltB rfl) ?_)
      | (refine SyL.light (LV.assign rfl) Rq.nil (.none rfl) rfl (ltB rfl) ?_)
      | (refine SyL.light (LV.cmp rfl rfl rfl) Rq.nil (.none rfl) rfl (ltB rfl) ?_)
      | (refine SyL.heavy (OpT.pcall rfl rfl (hn _) ?_) (.none rfl) rfl (ltB rfl); rintro v1 I1 - ⟨rfl, rfl⟩)
      | (refine SyC.condT rfl (by first | assumption | (with_reducible rfl) | decide | (simp only [decide_eq_true_eq, decide_eq_false_iff_not, Bool.not_eq_true', Bool.not_eq_false', beq_iff_eq, bne_iff_ne, ne_eq, beq_eq_false_iff_ne, bne_eq_false_iff_eq, Int.not_lt, Int.not_le, Bool.true_eq_false, Bool.false_eq_true, tb_one, tb_zero]; omega)) ?_)
      | (refine SyC.condF rfl (by first | assumption | (with_reducible rfl) | decide | (simp only [decide_eq_true_eq, decide_eq_false_iff_not, Bool.not_eq_true', Bool.not_eq_false', beq_iff_eq, bne_iff_ne, ne_eq, beq_eq_false_iff_ne, bne_eq_false_iff_eq, Int.not_lt, Int.not_le, Bool.true_eq_false, Bool.false_eq_true, tb_one, tb_zero]; omega)) ?_))
    refine Ret.one (by simp) Tryd.results26 (.tmp rfl) ?_
    exact ⟨rfl, by unfold cmpN; rw [if_pos h], rfl⟩
  · repeat' (first
      | (refine SyC.seq ?_)
      | (refine SyC.region ?_)
      | (refine SyL.nil ?_)
      | (refine Then.norm ?_)
      | (refine SyC.skip ?_)
      | (refine SyC.ret ?_)
      | (refine SyL.light (LV.move rfl) Rq.nil (.none rfl) rfl (ltB rfl) ?_)
      | (refine SyL.light (LV.assign rfl) Rq.nil (.none rfl) rfl (ltB rfl) ?_)
      | (refine SyL.light (LV.cmp rfl rfl rfl) Rq.nil (.none rfl) rfl (ltB rfl) ?_)
      | (refine SyL.heavy (OpT.pcall rfl rfl (hn _) ?_) (.none rfl) rfl (ltB rfl); rintro v1 I1 - ⟨rfl, rfl⟩)
      | (refine SyC.condF rfl (by first | assumption | (with_reducible rfl) | decide | (simp only [decide_eq_true_eq, decide_eq_false_iff_not, Bool.not_eq_true', Bool.not_eq_false', beq_iff_eq, bne_iff_ne, ne_eq, beq_eq_false_iff_ne, bne_eq_false_iff_eq, Int.not_lt, Int.not_le, Bool.true_eq_false, Bool.false_eq_true, tb_one, tb_zero]; omega)) ?_))
    refine Ret.one (by simp) Tryd.results26 (.tmp rfl) ?_
    exact ⟨rfl, by unfold cmpN; rw [if_neg (by omega), if_neg (by omega)], rfl⟩
  · repeat' (first
      | (refine SyC.seq ?_)
      | (refine SyC.region ?_)
      | (refine SyL.nil ?_)
      | (refine Then.norm ?_)
      | (refine Then.ret ?_)
      | (refine SyC.skip ?_)
      | (refine SyC.ret ?_)
      | (refine SyL.light (LV.move rfl) Rq.nil (.none rfl) rfl (ltB rfl) ?_)
      | (refine SyL.light (LV.assign rfl) Rq.nil (.none rfl) rfl (ltB rfl) ?_)
      | (refine SyL.light (LV.cmp rfl rfl rfl) Rq.nil (.none rfl) rfl (ltB rfl) ?_)
      | (refine SyL.heavy (OpT.pcall rfl rfl (hn _) ?_) (.none rfl) rfl (ltB rfl); rintro v1 I1 - ⟨rfl, rfl⟩)
      | (refine SyC.condT rfl (by first | assumption | (with_reducible rfl) | decide | (simp only [decide_eq_true_eq, decide_eq_false_iff_not, Bool.not_eq_true', Bool.not_eq_false', beq_iff_eq, bne_iff_ne, ne_eq, beq_eq_false_iff_ne, bne_eq_false_iff_eq, Int.not_lt, Int.not_le, Bool.true_eq_false, Bool.false_eq_true, tb_one, tb_zero]; omega)) ?_)
      | (refine SyC.condF rfl (by first | assumption | (with_reducible rfl) | decide | (simp only [decide_eq_true_eq, decide_eq_false_iff_not, Bool.not_eq_true', Bool.not_eq_false', beq_iff_eq, bne_iff_ne, ne_eq, beq_eq_false_iff_ne, bne_eq_false_iff_eq, Int.not_lt, Int.not_le, Bool.true_eq_false, Bool.false_eq_true, tb_one, tb_zero]; omega)) ?_))
    refine Ret.one (by simp) Tryd.results26 (.tmp rfl) ?_
    exact ⟨rfl, by unfold cmpN; rw [if_neg (by omega), if_pos h], rfl⟩
set_option maxRecDepth 100000 in
theorem cmpStr_c (I : IH) (a b : List Nat) (ha : D10 a) (hb : D10 b) (hl : a.length = b.length) : PFn Tryd.prog 27 #[.string (sB (asc a)), .string (sB (asc b))] I fun r I' => r = .int .i64 (cmpN (dv a) (dv b)) ∧ I' = I := by
  have hn := fun m => nanStr_c I m
  have h1 := less_dv ha hb hl
  have h2 := gt_dv ha hb hl
  refine Fn.intro (n := 20) (args := [.string (sB (asc a)), .string (sB (asc b))]) (by kernel_rfl) Tryd.func27 rfl Tryd.ntmps27 (Nat.le_of_ble_eq_true rfl) [(0, .string (sB (asc a))), (1, .string (sB (asc b)))] rfl (fun w0 => ?_)
  generalize dv a = m at *
  generalize dv b = n at *
  rcases Nat.lt_trichotomy m n with h | h | h
  · repeat' (first
      | (rw [h1])
      | (refine SyC.seq ?_)
      | (refine SyC.region ?_)
      | (refine SyL.nil ?_)
      | (refine Then.norm ?_)
      | (refine Then.ret ?_)
      | (refine SyC.skip ?_)
      | (refine SyC.ret ?_)
      | (refine SyL.light (LV.move rfl) Rq.nil (.none rfl) rfl (ltB rfl) ?_)
      | (refine SyL.light (LV.assign rfl) Rq.nil (.none rfl) rfl (ltB rfl) ?_)
      | (refine SyL.light (LV.ltSB rfl rfl) Rq.nil (.none rfl) rfl (ltB rfl) ?_)
      | (refine SyL.heavy (OpT.pcall rfl rfl (hn _) ?_) (.none rfl) rfl (ltB rfl); rintro v1 I1 - ⟨rfl, rfl⟩)
      | (refine SyC.condT rfl (by first | assumption | (with_reducible rfl) | decide | (simp only [decide_eq_true_eq, decide_eq_false_iff_not, Bool.not_eq_true', Bool.not_eq_false', beq_iff_eq, bne_iff_ne, ne_eq, beq_eq_false_iff_ne, bne_eq_false_iff_eq, Int.not_lt, Int.not_le, Bool.true_eq_false, Bool.false_eq_true, tb_one, tb_zero]; omega)) ?_)
      | (refine SyC.condF rfl (by first | assumption | (with_reducible rfl) | decide | (simp only [decide_eq_true_eq, decide_eq_false_iff_not, Bool.not_eq_true', Bool.not_eq_false', beq_iff_eq, bne_iff_ne, ne_eq, beq_eq_false_iff_ne, bne_eq_false_iff_eq, Int.not_lt, Int.not_le, Bool.true_eq_false, Bool.false_eq_true, tb_one, tb_zero]; omega)) ?_))
    refine Ret.one (by simp) Tryd.results27 (.tmp rfl) ?_
    exact ⟨rfl, by unfold cmpN; rw [if_pos h], rfl⟩
  · repeat' (first
      | (rw [h2])
      | (rw [h1])
      | (refine SyC.seq ?_)
      | (refine SyC.region ?_)
      | (refine SyL.nil ?_)
      | (refine Then.norm ?_)
      | (refine SyC.skip ?_)
      | (refine SyC.ret ?_)
      | (refine SyL.light (LV.move rfl) Rq.nil (.none rfl) rfl (ltB rfl) ?_)
      | (refine SyL.light (LV.assign rfl) Rq.nil (.none rfl) rfl (ltB rfl) ?_)
      | (refine SyL.light (LV.ltSB rfl rfl) Rq.nil (.none rfl) rfl (ltB rfl) ?_)
      | (refine SyL.light (LV.gtSB rfl rfl) Rq.nil (.none rfl) rfl (ltB rfl) ?_)
      | (refine SyL.heavy (OpT.pcall rfl rfl (hn _) ?_) (.none rfl) rfl (ltB rfl); rintro v1 I1 - ⟨rfl, rfl⟩)
      | (refine SyC.condF rfl (by first | assumption | (with_reducible rfl) | decide | (simp only [decide_eq_true_eq, decide_eq_false_iff_not, Bool.not_eq_true', Bool.not_eq_false', beq_iff_eq, bne_iff_ne, ne_eq, beq_eq_false_iff_ne, bne_eq_false_iff_eq, Int.not_lt, Int.not_le, Bool.true_eq_false, Bool.false_eq_true, tb_one, tb_zero]; omega)) ?_))
    refine Ret.one (by simp) Tryd.results27 (.tmp rfl) ?_
    exact ⟨rfl, by unfold cmpN; rw [if_neg (by omega), if_neg (by omega)], rfl⟩
  · repeat' (first
      | (rw [h2])
      | (rw [h1])
      | (refine SyC.seq ?_)
      | (refine SyC.region ?_)
      | (refine SyL.nil ?_)
      | (refine Then.norm ?_)
      | (refine Then.ret ?_)
      | (refine SyC.skip ?_)
      | (refine SyC.ret ?_)
      | (refine SyL.light (LV.move rfl) Rq.nil (.none rfl) rfl (ltB rfl) ?_)
      | (refine SyL.light (LV.assign rfl) Rq.nil (.none rfl) rfl (ltB rfl) ?_)
      | (refine SyL.light (LV.ltSB rfl rfl) Rq.nil (.none rfl) rfl (ltB rfl) ?_)
      | (refine SyL.light (LV.gtSB rfl rfl) Rq.nil (.none rfl) rfl (ltB rfl) ?_)
      | (refine SyL.heavy (OpT.pcall rfl rfl (hn _) ?_) (.none rfl) rfl (ltB rfl); rintro v1 I1 - ⟨rfl, rfl⟩)
      | (refine SyC.condT rfl (by first | assumption | (with_reducible rfl) | decide | (simp only [decide_eq_true_eq, decide_eq_false_iff_not, Bool.not_eq_true', Bool.not_eq_false', beq_iff_eq, bne_iff_ne, ne_eq, beq_eq_false_iff_ne, bne_eq_false_iff_eq, Int.not_lt, Int.not_le, Bool.true_eq_false, Bool.false_eq_true, tb_one, tb_zero]; omega)) ?_)
      | (refine SyC.condF rfl (by first | assumption | (with_reducible rfl) | decide | (simp only [decide_eq_true_eq, decide_eq_false_iff_not, Bool.not_eq_true', Bool.not_eq_false', beq_iff_eq, bne_iff_ne, ne_eq, beq_eq_false_iff_ne, bne_eq_false_iff_eq, Int.not_lt, Int.not_le, Bool.true_eq_false, Bool.false_eq_true, tb_one, tb_zero]; omega)) ?_))
    refine Ret.one (by simp) Tryd.results27 (.tmp rfl) ?_
    exact ⟨rfl, by unfold cmpN; rw [if_neg (by omega), if_pos h], rfl⟩
set_option maxRecDepth 100000 in
theorem sigilOrder_c (I : IH) (x y : Nat) : PFn Tryd.prog 10 #[S x, S y] I fun r I' => r = .int .i64 (cmpN x y) ∧ I' = I := by
  have h1 := cmpInt_c I (asc (dec x)).length (asc (dec y)).length
  have h2 := fun h => cmpStr_c I (dec x) (dec y) (dec_D10 x) (dec_D10 y) h
  rw [dv_dec, dv_dec] at h2
  have h3 : (dec x).length < (dec y).length → x < y := lt_of_decLen
  have h4 : (dec y).length < (dec x).length → y < x := lt_of_decLen
  unfold S
  have hx := asc_len (dec x)
  have hy := asc_len (dec y)
  rw [← hx, ← hy] at h2 h3 h4
  generalize asc (dec x) = a at *
  generalize asc (dec y) = b at *
  refine Fn.intro (n := 18) (args := [.string (sB a), .string (sB b)]) (by kernel_rfl) Tryd.func10 rfl Tryd.ntmps10 (Nat.le_of_ble_eq_true rfl) [(0, .string (sB a)), (1, .string (sB b))] rfl (fun w0 => ?_)
  by_cases h : a.length = b.length
  · have h2 := h2 h
    have e : ((b.length : Int) != (b.length : Int)) = false := by simp
    rw [h] at h1
    repeat' (first
      | (refine SyC.seq ?_)
      | (refine SyC.region ?_)
      | (refine SyL.nil ?_)
      | (refine Then.norm ?_)
      | (refine SyC.skip ?_)
      | (refine SyC.ret ?_)
      | (refine SyL.light (LV.move rfl) Rq.nil (.none rfl) rfl (ltB rfl) ?_)
      | (refine SyL.light (LV.assign rfl) Rq.nil (.none rfl) rfl (ltB rfl) ?_)
      | (refine SyL.light (LV.lenSB rfl) Rq.nil (.none rfl) rfl (ltB rfl) ?_)
      | (refine SyL.light (LV.cmp rfl rfl rfl) Rq.nil (.none rfl) rfl (ltB rfl) ?_)
      | (refine SyL.heavy (OpT.pcall rfl rfl (h2) ?_) (.none rfl) rfl (ltB rfl); rintro v1 I1 - ⟨rfl, rfl⟩)
      | (refine SyC.condF rfl (by first | assumption | (with_reducible rfl) | decide | (simp only [decide_eq_true_eq, decide_eq_false_iff_not, Bool.not_eq_true', Bool.not_eq_false', beq_iff_eq, bne_iff_ne, ne_eq, beq_eq_false_iff_ne, bne_eq_false_iff_eq, Int.not_lt, Int.not_le, Bool.true_eq_false, Bool.false_eq_true, tb_one, tb_zero]; omega)) ?_))
    refine Ret.one (by simp) Tryd.results10 (.tmp rfl) ?_
    exact ⟨rfl, rfl, rfl⟩
  · repeat' (first
      | (refine SyC.seq ?_)
      | (refine SyC.region ?_)
      | (refine SyL.nil ?_)
      | (refine Then.norm ?_)
      | (refine Then.ret ?_)
      | (refine SyC.ret ?_)
      | (refine SyL.light (LV.move rfl) Rq.nil (.none rfl) rfl (ltB rfl) ?_)
      | (refine SyL.light (LV.assign rfl) Rq.nil (.none rfl) rfl (ltB rfl) ?_)
      | (refine SyL.light (LV.lenSB rfl) Rq.nil (.none rfl) rfl (ltB rfl) ?_)
      | (refine SyL.light (LV.cmp rfl rfl rfl) Rq.nil (.none rfl) rfl (ltB rfl) ?_)
      | (refine SyL.heavy (OpT.pcall rfl rfl (h1) ?_) (.none rfl) rfl (ltB rfl); rintro v1 I1 - ⟨rfl, rfl⟩)
      | (refine SyC.condT rfl (by first | assumption | (with_reducible rfl) | decide | (simp only [decide_eq_true_eq, decide_eq_false_iff_not, Bool.not_eq_true', Bool.not_eq_false', beq_iff_eq, bne_iff_ne, ne_eq, beq_eq_false_iff_ne, bne_eq_false_iff_eq, Int.not_lt, Int.not_le, Bool.true_eq_false, Bool.false_eq_true, tb_one, tb_zero]; omega)) ?_))
    refine Ret.one (by simp) Tryd.results10 (.tmp rfl) ?_
    refine ⟨rfl, ?_, rfl⟩
    congr 1
    unfold cmpN
    rcases Nat.lt_or_gt_of_ne h with h5 | h5
    · rw [if_pos h5, if_pos (h3 h5)]
    · have := h4 h5
      rw [if_neg (by omega), if_pos h5, if_neg (by omega), if_pos this]
end Go.Proofs.YtpgkbipnkkeicaaDoor
