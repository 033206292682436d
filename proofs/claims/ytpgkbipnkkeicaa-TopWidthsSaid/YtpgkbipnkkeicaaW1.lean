import Derived.Test.YtpgkbipnkkeicaaRd
set_option linter.unusedSimpArgs false
set_option linter.unusedVariables false
/-! slices.IndexFunc, ContainsFunc; order.Right. -/
namespace Go.Proofs.Ytpgkbipnkkeicaa
open Go Go.Sx

/-- The first place at which something holds; -1: there is none. -/
def ffind (p : Nat → Bool) (n : Nat) : Int := match (List.range n).find? p with
  | some j => (j : Int)
  | none => -1
theorem ffind_none {p : Nat → Bool} {n : Nat} (h : ∀ i, i < n → p i = false) : ffind p n = -1 := by
  unfold ffind
  rw [List.find?_eq_none.2 (by intro x hx; simp [h x (by simpa using hx)])]
theorem ffind_some {p : Nat → Bool} {n k : Nat} (hk : k < n) (h : ∀ i, i < k → p i = false) (hp : p k = true) : ffind p n = k := by
  unfold ffind
  have : (List.range n).find? p = some k := by
    rw [List.find?_eq_some_iff_append]
    refine ⟨hp, List.range k, (List.range' (k + 1) (n - k - 1)), ?_, ?_⟩
    · have e : n = k + (n - k - 1 + 1) := by omega
      rw [List.range_eq_range', List.range_eq_range', ← List.range'_succ]
      conv => lhs; rw [e]
      rw [← List.range'_append]
      simp
    · intro a ha; simp [h a (by simpa using ha)]
  rw [this]

set_option maxRecDepth 100000 in
theorem idxI_c (I : IH) (rc : List Row) (A : Option Addr) (n c : Nat) (xs : List Value) (h : RdSl I 1 (.slice A n c) n xs) (f : FuncId) (caps : Array Value) (p : Nat → Bool)
    (hf : ∀ j x I', I.le I' → xs[j]? = some x → Sx.Fn Try.prog f (#[] ++ [x].toArray ++ caps) I' rc fun v I'' rs' => v = .bool (p j) ∧ rs' = rc) :
    Sx.Fn Try.prog 154 #[.slice A n c, .func (.func f) #[] caps] I rc fun v I' rs' => v = .int .i64 (ffind p n) ∧ rs' = rc := by
  have hcap := h.cap
  have hlen := h.len
  refine Fn.intro (n := 19) (args := [.slice A n c, .func (.func f) #[] caps]) (by kernel_rfl) Try.func154 rfl Try.ntmps154 (Nat.le_of_ble_eq_true rfl) [(0, .slice A n c), (1, .func (.func f) #[] caps)] rfl (fun w0 => ?_)
  repeat' (first
    | (refine SyC.seq ?_)
    | (refine SyC.region ?_)
    | (refine SyL.nil ?_)
    | (refine Then.norm ?_)
    | (refine SyC.block ?_)
    | (refine SyL.light (LV.move rfl) Rq.nil (.none rfl) rfl (ltB rfl) ?_)
    | (refine SyL.light (LV.assign rfl) Rq.nil (.none rfl) rfl (ltB rfl) ?_)
    | (refine SyL.light (LV.len (by apply rfl)) Rq.nil (.none rfl) rfl (ltB rfl) ?_))
  refine SyC.loop (fun m env I' rs => ∃ k : Nat, m = n - k ∧ k ≤ n ∧ (∀ i, i < k → p i = false) ∧ I.le I' ∧ rs = rc ∧ env = [(8, .int .i64 (k : Nat)), (7, .int .i64 (n : Nat)), (0, .slice A n c), (1, .func (.func f) #[] caps)]) n _ (by repeat (first | exact trivial | refine ⟨rfl, ?_⟩)) ⟨0, rfl, Nat.zero_le _, by omega, IH.le.rfl, rfl, rfl⟩ ?_
  rintro m env I' rs ⟨k, rfl, hk, hp, hle, rfl, rfl⟩
  have h' := h.le hle
  by_cases hlt : k < n
  · obtain ⟨ad, rfl⟩ := h.addr (by omega)
    have hx : xs[k]? = some xs[k] := List.getElem?_eq_getElem (by omega)
    cases hpk : p k
    · repeat' (first
        | (refine SyC.seq ?_)
        | (refine SyC.region ?_)
        | (refine SyL.nil ?_)
        | (refine Then.norm ?_)
        | (refine InB.norm ?_)
        | (refine SyC.block ?_)
        | (refine SyC.skip ?_)
        | (refine SyL.light (LV.move rfl) Rq.nil (.none rfl) rfl (ltB rfl) ?_)
        | (refine SyL.light (LV.assign rfl) Rq.nil (.none rfl) rfl (ltB rfl) ?_)
        | (refine SyL.light (LV.cmp rfl rfl rfl) Rq.nil (.none rfl) rfl (ltB rfl) ?_)
        | (refine SyL.light (LV.arN rfl rfl rfl (by simp only [Fits]; omega)) Rq.nil (.none rfl) rfl (ltB rfl) ?_)
        | (refine SyL.light (LV.idxN (by apply rfl) (by apply rfl) (by omega)) Rq.nil (.none rfl) rfl (ltB rfl) ?_)
        | (refine SyL.light (LV.load rfl) (Rq.imm (RdSl.at h' hx)) (.none rfl) rfl (ltB rfl) ?_)
        | (refine SyL.heavy (OpT.callA rfl rfl (hf k _ _ hle hx) ?_) (.none rfl) rfl (ltB rfl); rintro v1 I1 rs1 hle1 ⟨rfl, rfl⟩)
        | (refine SyC.condT rfl (by first | assumption | (with_reducible rfl) | decide | (simp only [decide_eq_true_eq, decide_eq_false_iff_not, Bool.not_eq_true', Bool.not_eq_false', beq_iff_eq, bne_iff_ne, ne_eq, beq_eq_false_iff_ne, bne_eq_false_iff_eq, Int.not_lt, Int.not_le, Bool.true_eq_false, Bool.false_eq_true, tb_one, tb_zero]; omega)) ?_)
        | (refine SyC.condF rfl (by first | assumption | (with_reducible rfl) | decide | (simp only [decide_eq_true_eq, decide_eq_false_iff_not, Bool.not_eq_true', Bool.not_eq_false', beq_iff_eq, bne_iff_ne, ne_eq, beq_eq_false_iff_ne, bne_eq_false_iff_eq, Int.not_lt, Int.not_le, Bool.true_eq_false, Bool.false_eq_true, tb_one, tb_zero]; omega)) ?_))
      exact ⟨n - (k + 1), _, by omega, (by repeat (first | exact trivial | refine ⟨rfl, ?_⟩)), k + 1, rfl, by omega, fun i hi => (by
        rcases Nat.lt_succ_iff_lt_or_eq.1 hi with h1 | h1
        · exact hp i h1
        · rw [h1]; exact hpk), hle.trans hle1, rfl, rfl⟩
    · repeat' (first
        | (refine SyC.seq ?_)
        | (refine SyC.region ?_)
        | (refine SyL.nil ?_)
        | (refine Then.norm ?_)
        | (refine Then.ret ?_)
        | (refine InB.ret ?_)
        | (refine SyC.block ?_)
        | (refine SyC.skip ?_)
        | (refine SyC.ret ?_)
        | (refine SyL.light (LV.move rfl) Rq.nil (.none rfl) rfl (ltB rfl) ?_)
        | (refine SyL.light (LV.assign rfl) Rq.nil (.none rfl) rfl (ltB rfl) ?_)
        | (refine SyL.light (LV.cmp rfl rfl rfl) Rq.nil (.none rfl) rfl (ltB rfl) ?_)
        | (refine SyL.light (LV.idxN (by apply rfl) (by apply rfl) (by omega)) Rq.nil (.none rfl) rfl (ltB rfl) ?_)
        | (refine SyL.light (LV.load rfl) (Rq.imm (RdSl.at h' hx)) (.none rfl) rfl (ltB rfl) ?_)
        | (refine SyL.heavy (OpT.callA rfl rfl (hf k _ _ hle hx) ?_) (.none rfl) rfl (ltB rfl); rintro v1 I1 rs1 hle1 ⟨rfl, rfl⟩)
        | (refine SyC.condT rfl (by first | assumption | (with_reducible rfl) | decide | (simp only [decide_eq_true_eq, decide_eq_false_iff_not, Bool.not_eq_true', Bool.not_eq_false', beq_iff_eq, bne_iff_ne, ne_eq, beq_eq_false_iff_ne, bne_eq_false_iff_eq, Int.not_lt, Int.not_le, Bool.true_eq_false, Bool.false_eq_true, tb_one, tb_zero]; omega)) ?_))
      refine Ret.one (by simp) Try.results154 (.tmp rfl) ?_
      exact ⟨by rw [ffind_some hlt hp hpk], rfl⟩
  · repeat' (first
      | (refine SyC.seq ?_)
      | (refine SyC.region ?_)
      | (refine SyL.nil ?_)
      | (refine Then.norm ?_)
      | (refine Then.exit ?_)
      | (refine InB.hit ?_)
      | (refine SyC.exit ?_)
      | (refine SyC.ret ?_)
      | (refine SyL.light (LV.assign rfl) Rq.nil (.none rfl) rfl (ltB rfl) ?_)
      | (refine SyL.light (LV.cmp rfl rfl rfl) Rq.nil (.none rfl) rfl (ltB rfl) ?_)
      | (refine SyC.condF rfl (by first | assumption | (with_reducible rfl) | decide | (simp only [decide_eq_true_eq, decide_eq_false_iff_not, Bool.not_eq_true', Bool.not_eq_false', beq_iff_eq, bne_iff_ne, ne_eq, beq_eq_false_iff_ne, bne_eq_false_iff_eq, Int.not_lt, Int.not_le, Bool.true_eq_false, Bool.false_eq_true, tb_one, tb_zero]; omega)) ?_))
    refine Ret.one (by simp) Try.results154 (.tmp rfl) ?_
    obtain rfl : k = n := by omega
    exact ⟨by rw [ffind_none hp], rfl⟩

set_option maxRecDepth 100000 in
theorem idxS_c (I : IH) (rc : List Row) (A : Option Addr) (n c : Nat) (xs : List Value) (h : RdSl I 1 (.slice A n c) n xs) (f : FuncId) (caps : Array Value) (p : Nat → Bool)
    (hf : ∀ j x I', I.le I' → xs[j]? = some x → Sx.Fn Try.prog f (#[] ++ [x].toArray ++ caps) I' rc fun v I'' rs' => v = .bool (p j) ∧ rs' = rc) :
    Sx.Fn Try.prog 153 #[.slice A n c, .func (.func f) #[] caps] I rc fun v I' rs' => v = .int .i64 (ffind p n) ∧ rs' = rc := by
  have hcap := h.cap
  have hlen := h.len
  refine Fn.intro (n := 19) (args := [.slice A n c, .func (.func f) #[] caps]) (by kernel_rfl) Try.func153 rfl Try.ntmps153 (Nat.le_of_ble_eq_true rfl) [(0, .slice A n c), (1, .func (.func f) #[] caps)] rfl (fun w0 => ?_)
  repeat' (first
    | (refine SyC.seq ?_)
    | (refine SyC.region ?_)
    | (refine SyL.nil ?_)
    | (refine Then.norm ?_)
    | (refine SyC.block ?_)
    | (refine SyL.light (LV.move rfl) Rq.nil (.none rfl) rfl (ltB rfl) ?_)
    | (refine SyL.light (LV.assign rfl) Rq.nil (.none rfl) rfl (ltB rfl) ?_)
    | (refine SyL.light (LV.len (by apply rfl)) Rq.nil (.none rfl) rfl (ltB rfl) ?_))
  refine SyC.loop (fun m env I' rs => ∃ k : Nat, m = n - k ∧ k ≤ n ∧ (∀ i, i < k → p i = false) ∧ I.le I' ∧ rs = rc ∧ env = [(8, .int .i64 (k : Nat)), (7, .int .i64 (n : Nat)), (0, .slice A n c), (1, .func (.func f) #[] caps)]) n _ (by repeat (first | exact trivial | refine ⟨rfl, ?_⟩)) ⟨0, rfl, Nat.zero_le _, by omega, IH.le.rfl, rfl, rfl⟩ ?_
  rintro m env I' rs ⟨k, rfl, hk, hp, hle, rfl, rfl⟩
  have h' := h.le hle
  by_cases hlt : k < n
  · obtain ⟨ad, rfl⟩ := h.addr (by omega)
    have hx : xs[k]? = some xs[k] := List.getElem?_eq_getElem (by omega)
    cases hpk : p k
    · repeat' (first
        | (refine SyC.seq ?_)
        | (refine SyC.region ?_)
        | (refine SyL.nil ?_)
        | (refine Then.norm ?_)
        | (refine InB.norm ?_)
        | (refine SyC.block ?_)
        | (refine SyC.skip ?_)
        | (refine SyL.light (LV.move rfl) Rq.nil (.none rfl) rfl (ltB rfl) ?_)
        | (refine SyL.light (LV.assign rfl) Rq.nil (.none rfl) rfl (ltB rfl) ?_)
        | (refine SyL.light (LV.cmp rfl rfl rfl) Rq.nil (.none rfl) rfl (ltB rfl) ?_)
        | (refine SyL.light (LV.arN rfl rfl rfl (by simp only [Fits]; omega)) Rq.nil (.none rfl) rfl (ltB rfl) ?_)
        | (refine SyL.light (LV.idxN (by apply rfl) (by apply rfl) (by omega)) Rq.nil (.none rfl) rfl (ltB rfl) ?_)
        | (refine SyL.light (LV.load rfl) (Rq.imm (RdSl.at h' hx)) (.none rfl) rfl (ltB rfl) ?_)
        | (refine SyL.heavy (OpT.callA rfl rfl (hf k _ _ hle hx) ?_) (.none rfl) rfl (ltB rfl); rintro v1 I1 rs1 hle1 ⟨rfl, rfl⟩)
        | (refine SyC.condT rfl (by first | assumption | (with_reducible rfl) | decide | (simp only [decide_eq_true_eq, decide_eq_false_iff_not, Bool.not_eq_true', Bool.not_eq_false', beq_iff_eq, bne_iff_ne, ne_eq, beq_eq_false_iff_ne, bne_eq_false_iff_eq, Int.not_lt, Int.not_le, Bool.true_eq_false, Bool.false_eq_true, tb_one, tb_zero]; omega)) ?_)
        | (refine SyC.condF rfl (by first | assumption | (with_reducible rfl) | decide | (simp only [decide_eq_true_eq, decide_eq_false_iff_not, Bool.not_eq_true', Bool.not_eq_false', beq_iff_eq, bne_iff_ne, ne_eq, beq_eq_false_iff_ne, bne_eq_false_iff_eq, Int.not_lt, Int.not_le, Bool.true_eq_false, Bool.false_eq_true, tb_one, tb_zero]; omega)) ?_))
      exact ⟨n - (k + 1), _, by omega, (by repeat (first | exact trivial | refine ⟨rfl, ?_⟩)), k + 1, rfl, by omega, fun i hi => (by
        rcases Nat.lt_succ_iff_lt_or_eq.1 hi with h1 | h1
        · exact hp i h1
        · rw [h1]; exact hpk), hle.trans hle1, rfl, rfl⟩
    · repeat' (first
        | (refine SyC.seq ?_)
        | (refine SyC.region ?_)
        | (refine SyL.nil ?_)
        | (refine Then.norm ?_)
        | (refine Then.ret ?_)
        | (refine InB.ret ?_)
        | (refine SyC.block ?_)
        | (refine SyC.skip ?_)
        | (refine SyC.ret ?_)
        | (refine SyL.light (LV.move rfl) Rq.nil (.none rfl) rfl (ltB rfl) ?_)
        | (refine SyL.light (LV.assign rfl) Rq.nil (.none rfl) rfl (ltB rfl) ?_)
        | (refine SyL.light (LV.cmp rfl rfl rfl) Rq.nil (.none rfl) rfl (ltB rfl) ?_)
        | (refine SyL.light (LV.idxN (by apply rfl) (by apply rfl) (by omega)) Rq.nil (.none rfl) rfl (ltB rfl) ?_)
        | (refine SyL.light (LV.load rfl) (Rq.imm (RdSl.at h' hx)) (.none rfl) rfl (ltB rfl) ?_)
        | (refine SyL.heavy (OpT.callA rfl rfl (hf k _ _ hle hx) ?_) (.none rfl) rfl (ltB rfl); rintro v1 I1 rs1 hle1 ⟨rfl, rfl⟩)
        | (refine SyC.condT rfl (by first | assumption | (with_reducible rfl) | decide | (simp only [decide_eq_true_eq, decide_eq_false_iff_not, Bool.not_eq_true', Bool.not_eq_false', beq_iff_eq, bne_iff_ne, ne_eq, beq_eq_false_iff_ne, bne_eq_false_iff_eq, Int.not_lt, Int.not_le, Bool.true_eq_false, Bool.false_eq_true, tb_one, tb_zero]; omega)) ?_))
      refine Ret.one (by simp) Try.results153 (.tmp rfl) ?_
      exact ⟨by rw [ffind_some hlt hp hpk], rfl⟩
  · repeat' (first
      | (refine SyC.seq ?_)
      | (refine SyC.region ?_)
      | (refine SyL.nil ?_)
      | (refine Then.norm ?_)
      | (refine Then.exit ?_)
      | (refine InB.hit ?_)
      | (refine SyC.exit ?_)
      | (refine SyC.ret ?_)
      | (refine SyL.light (LV.assign rfl) Rq.nil (.none rfl) rfl (ltB rfl) ?_)
      | (refine SyL.light (LV.cmp rfl rfl rfl) Rq.nil (.none rfl) rfl (ltB rfl) ?_)
      | (refine SyC.condF rfl (by first | assumption | (with_reducible rfl) | decide | (simp only [decide_eq_true_eq, decide_eq_false_iff_not, Bool.not_eq_true', Bool.not_eq_false', beq_iff_eq, bne_iff_ne, ne_eq, beq_eq_false_iff_ne, bne_eq_false_iff_eq, Int.not_lt, Int.not_le, Bool.true_eq_false, Bool.false_eq_true, tb_one, tb_zero]; omega)) ?_))
    refine Ret.one (by simp) Try.results153 (.tmp rfl) ?_
    obtain rfl : k = n := by omega
    exact ⟨by rw [ffind_none hp], rfl⟩

set_option maxRecDepth 100000 in
theorem conI_c (I : IH) (rc : List Row) (A : Option Addr) (n c : Nat) (xs : List Value) (h : RdSl I 1 (.slice A n c) n xs) (f : FuncId) (caps : Array Value) (p : Nat → Bool)
    (hf : ∀ j x I', I.le I' → xs[j]? = some x → Sx.Fn Try.prog f (#[] ++ [x].toArray ++ caps) I' rc fun v I'' rs' => v = .bool (p j) ∧ rs' = rc) :
    Sx.Fn Try.prog 117 #[.slice A n c, .func (.func f) #[] caps] I rc fun v I' rs' => v = .bool (decide (0 ≤ ffind p n)) ∧ rs' = rc := by
  refine Fn.intro (n := 9) (args := [.slice A n c, .func (.func f) #[] caps]) (by kernel_rfl) Try.func117 rfl Try.ntmps117 (Nat.le_of_ble_eq_true rfl) [(0, .slice A n c), (1, .func (.func f) #[] caps)] rfl (fun w0 => ?_)
  repeat' (first
    | (refine SyC.seq ?_)
    | (refine SyC.region ?_)
    | (refine SyL.nil ?_)
    | (refine Then.norm ?_)
    | (refine SyC.ret ?_)
    | (refine SyL.light (LV.move rfl) Rq.nil (.none rfl) rfl (ltB rfl) ?_)
    | (refine SyL.light (LV.assign rfl) Rq.nil (.none rfl) rfl (ltB rfl) ?_)
    | (refine SyL.light (LV.cmp rfl rfl rfl) Rq.nil (.none rfl) rfl (ltB rfl) ?_)
    | (refine SyL.heavy (OpT.callA rfl rfl (idxI_c _ rc A n c xs h f caps p hf) ?_) (.none rfl) rfl (ltB rfl); rintro v1 I1 rs1 hle1 ⟨rfl, rfl⟩))
  refine Ret.one (by simp) Try.results117 (.tmp rfl) ?_
  exact ⟨rfl, rfl⟩

set_option maxRecDepth 100000 in
theorem conS_c (I : IH) (rc : List Row) (A : Option Addr) (n c : Nat) (xs : List Value) (h : RdSl I 1 (.slice A n c) n xs) (f : FuncId) (caps : Array Value) (p : Nat → Bool)
    (hf : ∀ j x I', I.le I' → xs[j]? = some x → Sx.Fn Try.prog f (#[] ++ [x].toArray ++ caps) I' rc fun v I'' rs' => v = .bool (p j) ∧ rs' = rc) :
    Sx.Fn Try.prog 115 #[.slice A n c, .func (.func f) #[] caps] I rc fun v I' rs' => v = .bool (decide (0 ≤ ffind p n)) ∧ rs' = rc := by
  refine Fn.intro (n := 9) (args := [.slice A n c, .func (.func f) #[] caps]) (by kernel_rfl) Try.func115 rfl Try.ntmps115 (Nat.le_of_ble_eq_true rfl) [(0, .slice A n c), (1, .func (.func f) #[] caps)] rfl (fun w0 => ?_)
  repeat' (first
    | (refine SyC.seq ?_)
    | (refine SyC.region ?_)
    | (refine SyL.nil ?_)
    | (refine Then.norm ?_)
    | (refine SyC.ret ?_)
    | (refine SyL.light (LV.move rfl) Rq.nil (.none rfl) rfl (ltB rfl) ?_)
    | (refine SyL.light (LV.assign rfl) Rq.nil (.none rfl) rfl (ltB rfl) ?_)
    | (refine SyL.light (LV.cmp rfl rfl rfl) Rq.nil (.none rfl) rfl (ltB rfl) ?_)
    | (refine SyL.heavy (OpT.callA rfl rfl (idxS_c _ rc A n c xs h f caps p hf) ?_) (.none rfl) rfl (ltB rfl); rintro v1 I1 rs1 hle1 ⟨rfl, rfl⟩))
  refine Ret.one (by simp) Try.results115 (.tmp rfl) ?_
  exact ⟨rfl, rfl⟩

end Go.Proofs.Ytpgkbipnkkeicaa
