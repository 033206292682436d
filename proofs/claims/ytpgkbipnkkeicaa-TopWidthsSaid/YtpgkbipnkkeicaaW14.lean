import Derived.Test.YtpgkbipnkkeicaaW13
set_option linter.unusedSimpArgs false
set_option linter.unusedVariables false
/-! slices.MinFunc, slices.DeleteFunc, Lower. -/
namespace Go.Gr
open Go Go.Sx Go.Proofs.Ytpgkbipnkkeicaa
theorem minF_take (cost : Nat → Nat) {l : List Nat} {i : Nat} (h0 : 0 < i) (hi : i < l.length) :
    minF cost (l.take (i + 1)) = if cost (l.getD i 0) < cost (minF cost (l.take i)) then l.getD i 0 else minF cost (l.take i) := by
  have e : l.take (i + 1) = l.take i ++ [l.getD i 0] := by rw [List.take_succ_eq_append_getElem hi]; simp [hi]
  rw [e]
  cases ht : l.take i with
  | nil =>
    have := congrArg List.length ht
    rw [List.length_take, List.length_nil] at this
    omega
  | cons x t => exact minF_snoc cost x t _
theorem minF_take_mem (cost : Nat → Nat) {l : List Nat} {i : Nat} (h0 : 0 < i) (hi : i ≤ l.length) : minF cost (l.take i) ∈ l := by
  cases ht : l.take i with
  | nil =>
    have := congrArg List.length ht
    rw [List.length_take, List.length_nil] at this
    omega
  | cons x t =>
    have := minF_mem cost x t
    rw [← ht] at this ⊢
    exact List.mem_of_mem_take this
theorem filter_take {p : Nat → Bool} {l : List Nat} {j : Nat} (hj : j < l.length) : (l.take (j + 1)).filter p = (l.take j).filter p ++ (if p (l.getD j 0) then [l.getD j 0] else []) := by
  rw [List.take_succ_eq_append_getElem hj, List.filter_append]
  congr 1
  have e : l.getD j 0 = l[j] := by simp [hj]
  rw [e]
  cases h : p l[j] <;> simp [h]
end Go.Gr
namespace Go.Proofs.Ytpgkbipnkkeicaa
open Go Go.Sx Go.Gr
attribute [local irreducible] popN

set_option maxRecDepth 100000 in
theorem minFunc_c (I : IH) (rs0 : List Row) (ad : Addr) (c : Nat) (l : List Nat) (h0 : 0 < l.length) (hl : l.length ≤ 1000) (hrd : ∀ (I' : IH) j u, (N64 l)[j]? = some u → Rq I' rs0 [(ad.add j, u)]) (f : FuncId) (caps : Array Value) (cost : Nat → Nat) (hcost : ∀ x, cost x ≤ 1000)
    (hf : ∀ (I' : IH) a b, a ∈ l → b ∈ l → I.le I' → Sx.Fn Try.prog f (#[] ++ [Value.int .i64 (a : Int), .int .i64 (b : Int)].toArray ++ caps) I' rs0 fun r I'' rs' => r = .int .i64 ((cost a : Int) - (cost b : Int)) ∧ rs' = rs0) :
    Sx.Fn Try.prog 126 #[.slice (some ad) l.length c, .func (.func f) #[] caps] I rs0 fun r I' rs' => r = .int .i64 (minF cost l : Nat) ∧ rs' = rs0 := by
  refine Fn.intro (n := 33) (args := [.slice (some ad) l.length c, .func (.func f) #[] caps]) (by kernel_rfl) Try.func126 rfl Try.ntmps126 (Nat.le_of_ble_eq_true rfl) [(0, .slice (some ad) l.length c), (1, .func (.func f) #[] caps)] rfl (fun w0 => ?_)
  have hlt0 : ¬ ((l.length : Int) < 1) := by omega
  repeat' (first
    | (refine SyC.seq ?_)
    | (refine SyC.region ?_)
    | (refine SyL.nil ?_)
    | (refine Then.norm ?_)
    | (refine SyC.block ?_)
    | (refine SyC.skip ?_)
    | (refine SyL.light (LV.move rfl) Rq.nil (.none rfl) rfl (ltB rfl) ?_)
    | (refine SyL.light (LV.assign rfl) Rq.nil (.none rfl) rfl (ltB rfl) ?_)
    | (refine SyL.light (LV.len (by apply rfl)) Rq.nil (.none rfl) rfl (ltB rfl) ?_)
    | (refine SyL.light (LV.cmp rfl rfl rfl) Rq.nil (.none rfl) rfl (ltB rfl) ?_)
    | (refine SyL.light (LV.idxN (by apply rfl) (by apply rfl) (by omega)) Rq.nil (.none rfl) rfl (ltB rfl) ?_)
    | (refine SyL.light (LV.load rfl) (hrd _ 0 _ (N64_get h0)) (.none rfl) rfl (ltB rfl) ?_)
    | (refine SyC.condF rfl (by first | assumption | (with_reducible rfl) | decide | (simp only [decide_eq_true_eq, decide_eq_false_iff_not, Bool.not_eq_true', Bool.not_eq_false', beq_iff_eq, bne_iff_ne, ne_eq, beq_eq_false_iff_ne, bne_eq_false_iff_eq, Int.not_lt, Int.not_le, Bool.true_eq_false, Bool.false_eq_true, tb_one, tb_zero]; omega)) ?_))
  have e1 : l.getD 0 0 = minF cost (l.take 1) := by
    cases l with
    | nil => simp at h0
    | cons x t => rfl
  rw [e1]
  refine SyC.loop (fun m env I' rs => ∃ i, m = l.length - i ∧ 0 < i ∧ i ≤ l.length ∧ I.le I' ∧ rs = rs0 ∧
    env = [(6, .int .i64 (i : Nat)), (5, .int .i64 (minF cost (l.take i) : Nat)), (0, .slice (some ad) l.length c), (1, .func (.func f) #[] caps)]) (l.length - 1)
    [(6, .int .i64 ((1 : Nat) : Int)), (5, .int .i64 (minF cost (l.take 1) : Nat)), (0, .slice (some ad) l.length c), (1, .func (.func f) #[] caps)] (by repeat (first | exact trivial | refine ⟨rfl, ?_⟩)) ⟨1, rfl, by omega, by omega, IH.le.rfl, rfl, rfl⟩ ?_
  rintro m env I' rs ⟨i, rfl, hi0, hi, hle, rfl, rfl⟩
  by_cases hlt : i < l.length
  · have hst := minF_take cost hi0 hlt
    have hmm := minF_take_mem cost hi0 hi
    have e2 : l[i]? = some (l.getD i 0) := by simp [hlt]
    have hmx := List.mem_of_getElem? e2
    have hrx := fun I0 => hrd I0 i _ (N64_get hlt)
    generalize minF cost (l.take i) = mm at hst hmm
    generalize l.getD i 0 = x at hst hmx hrx e2
    have hc1 := hcost x
    have hc2 := hcost mm
    by_cases hc : cost x < cost mm
    · rw [if_pos hc] at hst
      repeat' (first
        | (refine SyC.seq ?_)
        | (refine SyC.region ?_)
        | (refine SyL.nil ?_)
        | (refine Then.norm ?_)
        | (refine InB.norm ?_)
        | (refine SyC.block ?_)
        | (refine SyC.skip ?_)
        | (refine SyL.light (LV.move rfl) Rq.nil (.none rfl) rfl (ltB rfl) ?_)
        | (refine SyL.light (LV.assign rfl) Rq.nil (.none rfl) rfl (ltB rfl) ?_)
        | (refine SyL.light (LV.len (by apply rfl)) Rq.nil (.none rfl) rfl (ltB rfl) ?_)
        | (refine SyL.light (LV.cmp rfl rfl rfl) Rq.nil (.none rfl) rfl (ltB rfl) ?_)
        | (refine SyL.light (LV.arN rfl rfl rfl (by simp only [Fits]; omega)) Rq.nil (.none rfl) rfl (ltB rfl) ?_)
        | (refine SyL.light (LV.idxN (by apply rfl) (by apply rfl) (by omega)) Rq.nil (.none rfl) rfl (ltB rfl) ?_)
        | (refine SyL.light (LV.load rfl) (hrx _) (.none rfl) rfl (ltB rfl) ?_)
        | (refine SyL.heavy (OpT.callA rfl rfl (hf _ x mm hmx hmm hle) ?_) (.none rfl) rfl (ltB rfl); rintro v1 I1 rs1 hle1 ⟨rfl, rfl⟩)
        | (refine SyC.condT rfl (by first | assumption | (with_reducible rfl) | decide | (simp only [decide_eq_true_eq, decide_eq_false_iff_not, Bool.not_eq_true', Bool.not_eq_false', beq_iff_eq, bne_iff_ne, ne_eq, beq_eq_false_iff_ne, bne_eq_false_iff_eq, Int.not_lt, Int.not_le, Bool.true_eq_false, Bool.false_eq_true, tb_one, tb_zero]; omega)) ?_))
      exact ⟨l.length - (i + 1), [(6, .int .i64 (i + 1 : Nat)), (5, .int .i64 (x : Nat)), (0, .slice (some ad) l.length c), (1, .func (.func f) #[] caps)], by omega, (by repeat (first | exact trivial | refine ⟨rfl, ?_⟩)), i + 1, rfl, by omega, by omega, hle.trans hle1, rfl, by rw [hst]⟩
    · rw [if_neg hc] at hst
      repeat' (first
        | (refine SyC.seq ?_)
        | (refine SyC.region ?_)
        | (refine SyL.nil ?_)
        | (refine Then.norm ?_)
        | (refine InB.norm ?_)
        | (refine SyC.block ?_)
        | (refine SyC.skip ?_)
        | (refine SyL.light (LV.move rfl) Rq.nil (.none rfl) rfl (ltB rfl) ?_)
        | (refine SyL.light (LV.assign rfl) Rq.nil (.none rfl) rfl (ltB rfl) ?_)
        | (refine SyL.light (LV.len (by apply rfl)) Rq.nil (.none rfl) rfl (ltB rfl) ?_)
        | (refine SyL.light (LV.cmp rfl rfl rfl) Rq.nil (.none rfl) rfl (ltB rfl) ?_)
        | (refine SyL.light (LV.arN rfl rfl rfl (by simp only [Fits]; omega)) Rq.nil (.none rfl) rfl (ltB rfl) ?_)
        | (refine SyL.light (LV.idxN (by apply rfl) (by apply rfl) (by omega)) Rq.nil (.none rfl) rfl (ltB rfl) ?_)
        | (refine SyL.light (LV.load rfl) (hrx _) (.none rfl) rfl (ltB rfl) ?_)
        | (refine SyL.heavy (OpT.callA rfl rfl (hf _ x mm hmx hmm hle) ?_) (.none rfl) rfl (ltB rfl); rintro v1 I1 rs1 hle1 ⟨rfl, rfl⟩)
        | (refine SyC.condT rfl (by first | assumption | (with_reducible rfl) | decide | (simp only [decide_eq_true_eq, decide_eq_false_iff_not, Bool.not_eq_true', Bool.not_eq_false', beq_iff_eq, bne_iff_ne, ne_eq, beq_eq_false_iff_ne, bne_eq_false_iff_eq, Int.not_lt, Int.not_le, Bool.true_eq_false, Bool.false_eq_true, tb_one, tb_zero]; omega)) ?_)
        | (refine SyC.condF rfl (by first | assumption | (with_reducible rfl) | decide | (simp only [decide_eq_true_eq, decide_eq_false_iff_not, Bool.not_eq_true', Bool.not_eq_false', beq_iff_eq, bne_iff_ne, ne_eq, beq_eq_false_iff_ne, bne_eq_false_iff_eq, Int.not_lt, Int.not_le, Bool.true_eq_false, Bool.false_eq_true, tb_one, tb_zero]; omega)) ?_))
      exact ⟨l.length - (i + 1), [(6, .int .i64 (i + 1 : Nat)), (5, .int .i64 (mm : Nat)), (0, .slice (some ad) l.length c), (1, .func (.func f) #[] caps)], by omega, (by repeat (first | exact trivial | refine ⟨rfl, ?_⟩)), i + 1, rfl, by omega, by omega, hle.trans hle1, rfl, by rw [hst]⟩
  · obtain rfl : l.length = i := by omega
    rw [List.take_length]
    repeat' (first
      | (refine SyC.seq ?_)
      | (refine SyC.region ?_)
      | (refine SyL.nil ?_)
      | (refine Then.norm ?_)
      | (refine Then.exit ?_)
      | (refine InB.hit ?_)
      | (refine SyC.exit ?_)
      | (refine SyC.ret ?_)
      | (refine SyL.light (LV.move rfl) Rq.nil (.none rfl) rfl (ltB rfl) ?_)
      | (refine SyL.light (LV.assign rfl) Rq.nil (.none rfl) rfl (ltB rfl) ?_)
      | (refine SyL.light (LV.len (by apply rfl)) Rq.nil (.none rfl) rfl (ltB rfl) ?_)
      | (refine SyL.light (LV.cmp rfl rfl rfl) Rq.nil (.none rfl) rfl (ltB rfl) ?_)
      | (refine SyC.condF rfl (by first | assumption | (with_reducible rfl) | decide | (simp only [decide_eq_true_eq, decide_eq_false_iff_not, Bool.not_eq_true', Bool.not_eq_false', beq_iff_eq, bne_iff_ne, ne_eq, beq_eq_false_iff_ne, bne_eq_false_iff_eq, Int.not_lt, Int.not_le, Bool.true_eq_false, Bool.false_eq_true, tb_one, tb_zero]; omega)) ?_))
    refine Ret.one (by simp) Try.results126 (.tmp rfl) ?_
    exact ⟨rfl, rfl⟩

set_option maxRecDepth 100000 in
theorem low1_c (I : IH) (g a b : Nat) (G : List Nat) (rest : List Row) (hG : G.length = 16) (hs : Small G) (ha : a < 16) (hb : b < 16) :
    Sx.Fn Try.prog 127 #[.int .i64 (a : Int), .int .i64 (b : Int), .pointer (some ⟨g, 0, none⟩)] I (.blk g 99 (U32 G) :: rest) fun r I' rs' => r = .int .i64 ((coD G a : Int) - (coD G b : Int)) ∧ rs' = .blk g 99 (U32 G) :: rest := by
  have p1 := popN_le 32 (G.getD a 0)
  have p2 := popN_le 32 (G.getD b 0)
  refine Fn.intro (n := 11) (args := [.int .i64 (a : Int), .int .i64 (b : Int), .pointer (some ⟨g, 0, none⟩)]) (by kernel_rfl) Try.func127 rfl Try.ntmps127 (Nat.le_of_ble_eq_true rfl) [(0, .int .i64 (a : Int)), (1, .int .i64 (b : Int)), (2, .pointer (some ⟨g, 0, none⟩))] rfl (fun w0 => ?_)
  repeat' (first
    | (refine SyC.seq ?_)
    | (refine SyC.region ?_)
    | (refine SyL.nil ?_)
    | (refine Then.norm ?_)
    | (refine SyC.ret ?_)
    | (refine SyL.light (LV.move rfl) Rq.nil (.none rfl) rfl (ltB rfl) ?_)
    | (refine SyL.light (LV.assign rfl) Rq.nil (.none rfl) rfl (ltB rfl) ?_)
    | (refine SyL.light (LV.arN rfl rfl rfl (by simp only [Fits]; omega)) Rq.nil (.none rfl) rfl (ltB rfl) ?_)
    | (refine SyL.heavy (OpT.call rfl rfl (deg_c _ g _ G hG hs (by first | exact ha | exact hb)) rfl ?_) (.none rfl) rfl (ltB rfl); rintro v1 I1 rs1 hle1 ⟨rfl, rfl, rfl⟩))
  refine Ret.one (by simp) Try.results127 (.tmp rfl) ?_
  exact ⟨rfl, rfl⟩
set_option maxRecDepth 100000 in
theorem low2_c (I : IH) (t x v : Nat) (rs0 : List Row) (hm : .blk t 3 [.int .i64 (v : Int)] ∈ rs0) :
    Sx.Fn Try.prog 130 #[.int .i64 (x : Int), .pointer (some ⟨t, 0, none⟩)] I rs0 fun q I' rs' => q = .bool (decide (x = v)) ∧ I' = I ∧ rs' = rs0 := by
  refine Fn.intro (n := 7) (args := [.int .i64 (x : Int), .pointer (some ⟨t, 0, none⟩)]) (by kernel_rfl) Try.func130 rfl Try.ntmps130 (Nat.le_of_ble_eq_true rfl) [(0, .int .i64 (x : Int)), (1, .pointer (some ⟨t, 0, none⟩))] rfl (fun w0 => ?_)
  repeat' (first
    | (refine SyC.seq ?_)
    | (refine SyC.region ?_)
    | (refine SyL.nil ?_)
    | (refine Then.norm ?_)
    | (refine SyC.ret ?_)
    | (refine SyL.light (LV.move rfl) Rq.nil (.none rfl) rfl (ltB rfl) ?_)
    | (refine SyL.light (LV.assign rfl) Rq.nil (.none rfl) rfl (ltB rfl) ?_)
    | (refine SyL.light (LV.cmp rfl rfl rfl) Rq.nil (.none rfl) rfl (ltB rfl) ?_)
    | (refine SyL.light (LV.load rfl) (Rq.blk hm (i := 0) rfl) (.none rfl) rfl (ltB rfl) ?_))
  refine Ret.one (by simp) Try.results130 (.tmp rfl) ?_
  refine ⟨?_, rfl, rfl⟩
  congr 1
  rw [Bool.eq_iff_iff]
  simp
  omega

set_option maxRecDepth 100000 in
/-- IndexFunc over what may be read. -/
theorem idxR_c (I : IH) (rc : List Row) (A : Option Addr) (n c : Nat) (xs : List Nat) (hxl : xs.length = n) (hnm : n ≤ 1000) (hrd : ∀ (I' : IH) j u, (N64 xs)[j]? = some u → ∃ ad, A = some ad ∧ Rq I' rc [(ad.add j, u)]) (f : FuncId) (caps : Array Value) (p : Nat → Bool)
    (hf : ∀ j I', I.le I' → j < n → Sx.Fn Try.prog f (#[] ++ [Value.int .i64 (xs.getD j 0 : Nat)].toArray ++ caps) I' rc fun v I'' rs' => v = .bool (p (xs.getD j 0)) ∧ rs' = rc) :
    Sx.Fn Try.prog 154 #[.slice A n c, .func (.func f) #[] caps] I rc fun v I' rs' => v = .int .i64 (ffind (fun j => p (xs.getD j 0)) n) ∧ rs' = rc := by
  refine Fn.intro (n := 19) (args := [.slice A n c, .func (.func f) #[] caps]) (by kernel_rfl) Try.func154 rfl Try.ntmps154 (Nat.le_of_ble_eq_true rfl) [(0, .slice A n c), (1, .func (.func f) #[] caps)] rfl (fun w0 => ?_)
  repeat' (first
    | (refine SyC.seq ?_)
    | (refine SyC.region ?_)
    | (refine SyL.nil ?_)
    | (refine Then.norm ?_)
    | (refine SyC.block ?_)
    | (refine SyL.light (LV.move rfl) Rq.nil (.none rfl) rfl (ltB rfl) ?_)
    | (refine SyL.light (LV.assign rfl) Rq.nil (.none rfl) rfl (ltB rfl) ?_)
    | (refine SyL.light (LV.len (by apply rfl)) Rq.nil (.none rfl) rfl (ltB rfl) ?_))
  refine SyC.loop (fun m env I' rs => ∃ k : Nat, m = n - k ∧ k ≤ n ∧ (∀ i, i < k → p (xs.getD i 0) = false) ∧ I.le I' ∧ rs = rc ∧ env = [(8, .int .i64 (k : Nat)), (7, .int .i64 (n : Nat)), (0, .slice A n c), (1, .func (.func f) #[] caps)]) n _ (by repeat (first | exact trivial | refine ⟨rfl, ?_⟩)) ⟨0, rfl, Nat.zero_le _, by omega, IH.le.rfl, rfl, rfl⟩ ?_
  rintro m env I' rs ⟨k, rfl, hk, hp, hle, rfl, rfl⟩
  by_cases hlt : k < n
  · have hrk := fun I0 => hrd I0 k _ (N64_get (by omega : k < xs.length))
    obtain ⟨ad, rfl, _⟩ := hrk I
    have hrk' : ∀ I0, Rq I0 rs [(ad.add k, .int .i64 (xs.getD k 0 : Nat))] := fun I0 => by
      obtain ⟨ad', e, h⟩ := hrk I0
      cases e
      exact h
    cases hpk : p (xs.getD k 0)
    · repeat' (first
        | (refine SyC.seq ?_)
        | (refine SyC.region ?_)
        | (refine SyL.nil ?_)
        | (refine Then.norm ?_)
        | (refine InB.norm ?_)
        | (refine SyC.block ?_)
        | (refine SyC.skip ?_)
        | (refine SyL.light (LV.move rfl) Rq.nil (.none rfl) rfl (ltB rfl) ?_)
        | (refine SyL.light (LV.assign rfl) Rq.nil (.none rfl) rfl (ltB rfl) ?_)
        | (refine SyL.light (LV.cmp rfl rfl rfl) Rq.nil (.none rfl) rfl (ltB rfl) ?_)
        | (refine SyL.light (LV.arN rfl rfl rfl (by simp only [Fits]; omega)) Rq.nil (.none rfl) rfl (ltB rfl) ?_)
        | (refine SyL.light (LV.idxN (by apply rfl) (by apply rfl) (by omega)) Rq.nil (.none rfl) rfl (ltB rfl) ?_)
        | (refine SyL.light (LV.load rfl) (hrk' _) (.none rfl) rfl (ltB rfl) ?_)
        | (refine SyL.heavy (OpT.callA rfl rfl (hf k _ hle hlt) ?_) (.none rfl) rfl (ltB rfl); rintro v1 I1 rs1 hle1 ⟨rfl, rfl⟩)
        | (refine SyC.condT rfl (by first | assumption | (with_reducible rfl) | decide | (simp only [decide_eq_true_eq, decide_eq_false_iff_not, Bool.not_eq_true', Bool.not_eq_false', beq_iff_eq, bne_iff_ne, ne_eq, beq_eq_false_iff_ne, bne_eq_false_iff_eq, Int.not_lt, Int.not_le, Bool.true_eq_false, Bool.false_eq_true, tb_one, tb_zero]; omega)) ?_)
        | (refine SyC.condF rfl (by first | assumption | (with_reducible rfl) | decide | (simp only [decide_eq_true_eq, decide_eq_false_iff_not, Bool.not_eq_true', Bool.not_eq_false', beq_iff_eq, bne_iff_ne, ne_eq, beq_eq_false_iff_ne, bne_eq_false_iff_eq, Int.not_lt, Int.not_le, Bool.true_eq_false, Bool.false_eq_true, tb_one, tb_zero]; omega)) ?_))
      exact ⟨n - (k + 1), _, by omega, (by repeat (first | exact trivial | refine ⟨rfl, ?_⟩)), k + 1, rfl, by omega, fun i hi => (by
        rcases Nat.lt_succ_iff_lt_or_eq.1 hi with h1 | h1
        · exact hp i h1
        · rw [h1]; exact hpk), hle.trans hle1, rfl, rfl⟩
    · repeat' (first
        | (refine SyC.seq ?_)
        | (refine SyC.region ?_)
        | (refine SyL.nil ?_)
        | (refine Then.norm ?_)
        | (refine Then.ret ?_)
        | (refine InB.ret ?_)
        | (refine SyC.block ?_)
        | (refine SyC.skip ?_)
        | (refine SyC.ret ?_)
        | (refine SyL.light (LV.move rfl) Rq.nil (.none rfl) rfl (ltB rfl) ?_)
        | (refine SyL.light (LV.assign rfl) Rq.nil (.none rfl) rfl (ltB rfl) ?_)
        | (refine SyL.light (LV.cmp rfl rfl rfl) Rq.nil (.none rfl) rfl (ltB rfl) ?_)
        | (refine SyL.light (LV.idxN (by apply rfl) (by apply rfl) (by omega)) Rq.nil (.none rfl) rfl (ltB rfl) ?_)
        | (refine SyL.light (LV.load rfl) (hrk' _) (.none rfl) rfl (ltB rfl) ?_)
        | (refine SyL.heavy (OpT.callA rfl rfl (hf k _ hle hlt) ?_) (.none rfl) rfl (ltB rfl); rintro v1 I1 rs1 hle1 ⟨rfl, rfl⟩)
        | (refine SyC.condT rfl (by first | assumption | (with_reducible rfl) | decide | (simp only [decide_eq_true_eq, decide_eq_false_iff_not, Bool.not_eq_true', Bool.not_eq_false', beq_iff_eq, bne_iff_ne, ne_eq, beq_eq_false_iff_ne, bne_eq_false_iff_eq, Int.not_lt, Int.not_le, Bool.true_eq_false, Bool.false_eq_true, tb_one, tb_zero]; omega)) ?_))
      refine Ret.one (by simp) Try.results154 (.tmp rfl) ?_
      exact ⟨by rw [ffind_some hlt hp hpk], rfl⟩
  · repeat' (first
      | (refine SyC.seq ?_)
      | (refine SyC.region ?_)
      | (refine SyL.nil ?_)
      | (refine Then.norm ?_)
      | (refine Then.exit ?_)
      | (refine InB.hit ?_)
      | (refine SyC.exit ?_)
      | (refine SyC.ret ?_)
      | (refine SyL.light (LV.assign rfl) Rq.nil (.none rfl) rfl (ltB rfl) ?_)
      | (refine SyL.light (LV.cmp rfl rfl rfl) Rq.nil (.none rfl) rfl (ltB rfl) ?_)
      | (refine SyC.condF rfl (by first | assumption | (with_reducible rfl) | decide | (simp only [decide_eq_true_eq, decide_eq_false_iff_not, Bool.not_eq_true', Bool.not_eq_false', beq_iff_eq, bne_iff_ne, ne_eq, beq_eq_false_iff_ne, bne_eq_false_iff_eq, Int.not_lt, Int.not_le, Bool.true_eq_false, Bool.false_eq_true, tb_one, tb_zero]; omega)) ?_))
    refine Ret.one (by simp) Try.results154 (.tmp rfl) ?_
    obtain rfl : k = n := by omega
    exact ⟨by rw [ffind_none hp], rfl⟩
end Go.Proofs.Ytpgkbipnkkeicaa
