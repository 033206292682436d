import Derived.Test.YtpgkbipnkkeicaaW3
import Derived.Test.YtpgkbipnkkeicaaG1
set_option linter.unusedSimpArgs false
set_option linter.unusedVariables false
/-! Numbers of bits; lists that are compared; order's graph. -/
namespace Go.Proofs.Ytpgkbipnkkeicaa
open Go Go.Sx Go.Gr
attribute [local irreducible] popN

set_option maxRecDepth 100000 in
theorem oc32_c (I : IH) (x : Nat) (hx : x < 4294967296) : PFn Try.prog 156 #[.int .u32 (x : Int)] I fun v I' => v = .int .i64 (popN 32 x : Nat) ∧ I' = I := by
  have h24 : x >>> 24 < 256 := by rw [Nat.shiftRight_eq_div_pow]; omega
  have p1 := popN_le 8 (x >>> 24)
  have p2 := popN_le 8 (x >>> 16 &&& 255)
  have p3 := popN_le 8 (x >>> 8 &&& 255)
  have p4 := popN_le 8 (x &&& 255)
  have q1 : x >>> 16 < 4294967296 := by rw [Nat.shiftRight_eq_div_pow]; omega
  have q2 : x >>> 8 < 4294967296 := by rw [Nat.shiftRight_eq_div_pow]; omega
  refine Fn.intro (n := 21) (args := [.int .u32 (x : Int)]) (by kernel_rfl) Try.func156 rfl Try.ntmps156 (Nat.le_of_ble_eq_true rfl) [(0, .int .u32 (x : Int))] rfl (fun w0 => ?_)
  repeat' (first
    | (refine SyC.seq ?_)
    | (refine SyC.region ?_)
    | (refine SyL.nil ?_)
    | (refine Then.norm ?_)
    | (refine SyC.ret ?_)
    | (refine SyC.draw (id := 1) (by kernel_rfl) (by kernel_rfl) ?_; refine D.light (i := 0) rfl (.on (.none rfl) (LV.move rfl)) Rq.nil (by kernel_rfl) rfl (ltB rfl) ?_; refine D.light (i := 1) rfl (.on (.none rfl) (LV.shrN rfl rfl (by simp only [IntKind.bits]; omega))) Rq.nil (by kernel_rfl) rfl (ltB rfl) ?_; refine D.light (i := 2) rfl (.on (.none rfl) (LV.popTab rfl rfl (by kernel_rfl) (by first | omega | exact Nat.lt_of_le_of_lt Nat.and_le_right (by decide)))) Rq.nil (by kernel_rfl) rfl (ltB rfl) ?_; refine D.light (i := 3) rfl (.on (.none rfl) (LV.move rfl)) Rq.nil (by kernel_rfl) rfl (ltB rfl) ?_; refine D.light (i := 4) rfl (.on (.none rfl) (LV.shrN rfl rfl (by simp only [IntKind.bits]; omega))) Rq.nil (by kernel_rfl) rfl (ltB rfl) ?_; refine D.light (i := 5) rfl (.on (.none rfl) (LV.bitsN rfl rfl rfl rfl (by first | (simp only [IntKind.bits]; omega) | exact pow32 (by omega) | assumption) (by first | (simp only [IntKind.bits]; omega) | exact pow32 (by omega) | assumption))) Rq.nil (by kernel_rfl) rfl (ltB rfl) ?_; refine D.light (i := 6) rfl (.on (.none rfl) (LV.popTab rfl rfl (by kernel_rfl) (by first | omega | exact Nat.lt_of_le_of_lt Nat.and_le_right (by decide)))) Rq.nil (by kernel_rfl) rfl (ltB rfl) ?_; refine D.light (i := 7) rfl (.on (.none rfl) (LV.arN rfl rfl rfl (by simp only [Fits]; omega))) Rq.nil (by kernel_rfl) rfl (ltB rfl) ?_; refine D.light (i := 8) rfl (.on (.none rfl) (LV.move rfl)) Rq.nil (by kernel_rfl) rfl (ltB rfl) ?_; refine D.light (i := 9) rfl (.on (.none rfl) (LV.shrN rfl rfl (by simp only [IntKind.bits]; omega))) Rq.nil (by kernel_rfl) rfl (ltB rfl) ?_; refine D.light (i := 10) rfl (.on (.none rfl) (LV.bitsN rfl rfl rfl rfl (by first | (simp only [IntKind.bits]; omega) | exact pow32 (by omega) | assumption) (by first | (simp only [IntKind.bits]; omega) | exact pow32 (by omega) | assumption))) Rq.nil (by kernel_rfl) rfl (ltB rfl) ?_; refine D.light (i := 11) rfl (.on (.none rfl) (LV.popTab rfl rfl (by kernel_rfl) (by first | omega | exact Nat.lt_of_le_of_lt Nat.and_le_right (by decide)))) Rq.nil (by kernel_rfl) rfl (ltB rfl) ?_; refine D.light (i := 12) rfl (.on (.none rfl) (LV.arN rfl rfl rfl (by simp only [Fits]; omega))) Rq.nil (by kernel_rfl) rfl (ltB rfl) ?_; refine D.light (i := 13) rfl (.on (.none rfl) (LV.move rfl)) Rq.nil (by kernel_rfl) rfl (ltB rfl) ?_; refine D.light (i := 14) rfl (.on (.none rfl) (LV.bitsN rfl rfl rfl rfl (by first | (simp only [IntKind.bits]; omega) | exact pow32 (by omega) | assumption) (by first | (simp only [IntKind.bits]; omega) | exact pow32 (by omega) | assumption))) Rq.nil (by kernel_rfl) rfl (ltB rfl) ?_; refine D.light (i := 15) rfl (.on (.none rfl) (LV.popTab rfl rfl (by kernel_rfl) (by first | omega | exact Nat.lt_of_le_of_lt Nat.and_le_right (by decide)))) Rq.nil (by kernel_rfl) rfl (ltB rfl) ?_; refine D.light (i := 16) rfl (.on (.none rfl) (LV.arN rfl rfl rfl (by simp only [Fits]; omega))) Rq.nil (by kernel_rfl) rfl (ltB rfl) ?_; refine D.light (i := 17) rfl (.on (.none rfl) (LV.convN (by apply rfl) (by simp only [Fits]; omega))) Rq.nil (by kernel_rfl) rfl (ltB rfl) ?_; refine D.light (i := 18) rfl (.on (.none rfl) (LV.assign rfl)) Rq.nil (by kernel_rfl) rfl (ltB rfl) ?_; refine D.fin (by kernel_rfl) ?_)
    | (refine SyL.light (LV.assign rfl) Rq.nil (.none rfl) rfl (ltB rfl) ?_))
  refine Ret.one (by simp) Try.results156 (.tmp rfl) ?_
  exact ⟨rfl, by rw [popN_32 hx]; rfl, rfl⟩

set_option maxRecDepth 100000 in
theorem ones_c (I : IH) (x : Nat) (hx : x < 4294967296) : PFn Try.prog 60 #[.int .u32 (x : Int)] I fun v I' => v = .int .i64 (popN 32 x : Nat) ∧ I' = I := by
  refine Fn.intro (n := 13) (args := [.int .u32 (x : Int)]) (by kernel_rfl) Try.func60 rfl Try.ntmps60 (Nat.le_of_ble_eq_true rfl) [(0, .int .u32 (x : Int))] rfl (fun w0 => ?_)
  repeat' (first
    | (refine SyC.seq ?_)
    | (refine SyC.region ?_)
    | (refine SyL.nil ?_)
    | (refine Then.norm ?_)
    | (refine SyC.block ?_)
    | (refine SyL.light (LV.assign rfl) Rq.nil (.none rfl) rfl (ltB rfl) ?_))
  refine SyC.loop (fun s env I' rs => ∃ k : Nat, s < 4294967296 ∧ k + popN 32 s = popN 32 x ∧ I' = I ∧ rs = [] ∧ env = [(3, .int .i64 (k : Nat)), (0, .int .u32 (s : Nat))]) x _ (by repeat (first | exact trivial | refine ⟨rfl, ?_⟩)) ⟨0, hx, by omega, rfl, rfl, rfl⟩ ?_
  rintro s env I' rs ⟨k, hs, hk, rfl, rfl, rfl⟩
  have hle := popN_le 32 x
  generalize popN 32 x = X at hk hle
  by_cases h0 : 0 < s
  · have hc := popN_clear 32 s h0 hs
    repeat' (first
      | (refine SyC.seq ?_)
      | (refine SyC.region ?_)
      | (refine SyL.nil ?_)
      | (refine Then.norm ?_)
      | (refine InB.norm ?_)
      | (refine SyC.block ?_)
      | (refine SyC.skip ?_)
      | (refine SyL.light (LV.move rfl) Rq.nil (.none rfl) rfl (ltB rfl) ?_)
      | (refine SyL.light (LV.assign rfl) Rq.nil (.none rfl) rfl (ltB rfl) ?_)
      | (refine SyL.light (LV.cmp rfl rfl rfl) Rq.nil (.none rfl) rfl (ltB rfl) ?_)
      | (refine SyL.light (LV.arN rfl rfl rfl (by simp only [Fits]; omega)) Rq.nil (.none rfl) rfl (ltB rfl) ?_)
      | (refine SyL.light (LV.bitsZ rfl rfl rfl (by omega) (by omega) rfl (by first | (simp only [IntKind.bits]; omega) | exact pow32 (by omega) | assumption) (by first | (simp only [IntKind.bits]; omega) | exact pow32 (by omega) | assumption)) Rq.nil (.none rfl) rfl (ltB rfl) ?_)
      | (refine SyC.condT rfl (by first | assumption | (with_reducible rfl) | decide | (simp only [decide_eq_true_eq, decide_eq_false_iff_not, Bool.not_eq_true', Bool.not_eq_false', beq_iff_eq, bne_iff_ne, ne_eq, beq_eq_false_iff_ne, bne_eq_false_iff_eq, Int.not_lt, Int.not_le, Bool.true_eq_false, Bool.false_eq_true, tb_one, tb_zero]; omega)) ?_))
    rw [show ((s : Int) - 1).toNat = s - 1 from by omega]
    exact ⟨s &&& (s - 1), _, Nat.lt_of_le_of_lt Nat.and_le_right (by omega), (by repeat (first | exact trivial | refine ⟨rfl, ?_⟩)), k + 1, Nat.lt_of_le_of_lt Nat.and_le_left hs, by omega, rfl, rfl, rfl⟩
  · obtain rfl : s = 0 := by omega
    rw [popN_zero, Nat.add_zero] at hk
    subst hk
    repeat' (first
      | (refine SyC.seq ?_)
      | (refine SyC.region ?_)
      | (refine SyL.nil ?_)
      | (refine Then.norm ?_)
      | (refine Then.exit ?_)
      | (refine InB.hit ?_)
      | (refine SyC.exit ?_)
      | (refine SyC.ret ?_)
      | (refine SyL.light (LV.move rfl) Rq.nil (.none rfl) rfl (ltB rfl) ?_)
      | (refine SyL.light (LV.assign rfl) Rq.nil (.none rfl) rfl (ltB rfl) ?_)
      | (refine SyL.light (LV.cmp rfl rfl rfl) Rq.nil (.none rfl) rfl (ltB rfl) ?_)
      | (refine SyC.condF rfl (by first | assumption | (with_reducible rfl) | decide | (simp only [decide_eq_true_eq, decide_eq_false_iff_not, Bool.not_eq_true', Bool.not_eq_false', beq_iff_eq, bne_iff_ne, ne_eq, beq_eq_false_iff_ne, bne_eq_false_iff_eq, Int.not_lt, Int.not_le, Bool.true_eq_false, Bool.false_eq_true, tb_one, tb_zero]; omega)) ?_))
    refine Ret.one (by simp) Try.results60 (.tmp rfl) ?_
    exact ⟨rfl, rfl, rfl⟩

set_option maxRecDepth 100000 in
theorem deg_c (I : IH) (g v : Nat) (G : List Nat) (hG : G.length = 16) (hs : Small G) (hv : v < 16) :
    Sx.Fn Try.prog 121 #[.pointer (some ⟨g, 0, none⟩), .int .i64 (v : Int)] I [.blk g 99 (U32 G)] fun r I' rs' => r = .int .i64 (popN 32 (G.getD v 0) : Nat) ∧ I' = I ∧ rs' = [.blk g 99 (U32 G)] := by
  have hsm := hs.getD v
  refine Fn.intro (n := 11) (args := [.pointer (some ⟨g, 0, none⟩), .int .i64 (v : Int)]) (by kernel_rfl) Try.func121 rfl Try.ntmps121 (Nat.le_of_ble_eq_true rfl) [(0, .pointer (some ⟨g, 0, none⟩)), (1, .int .i64 (v : Int))] rfl (fun w0 => ?_)
  repeat' (first
    | (refine SyC.seq ?_)
    | (refine SyC.region ?_)
    | (refine SyL.nil ?_)
    | (refine Then.norm ?_)
    | (refine SyC.ret ?_)
    | (refine SyL.light (LV.move rfl) Rq.nil (.none rfl) rfl (ltB rfl) ?_)
    | (refine SyL.light (LV.assign rfl) Rq.nil (.none rfl) rfl (ltB rfl) ?_)
    | (refine SyL.light (LV.nilCheck rfl) Rq.nil (.none rfl) rfl (ltB rfl) ?_)
    | (refine SyL.light (LV.idxArrN (by apply rfl) (by apply rfl) (by omega)) Rq.nil (.none rfl) rfl (ltB rfl) ?_)
    | (refine SyL.light (LV.load rfl) (Rq.blk (List.mem_of_getElem? (i := 0) rfl) (U32_get (by omega))) (.none rfl) rfl (ltB rfl) ?_)
    | (refine SyL.heavy (OpT.pcall rfl rfl (oc32_c _ (G.getD v 0) (by omega)) ?_) (.none rfl) rfl (ltB rfl); rintro v1 I1 hle1 ⟨rfl, rfl⟩))
  refine Ret.one (by simp) Try.results121 (.tmp rfl) ?_
  exact ⟨rfl, rfl, rfl⟩

/-- Two lists of numbers are the same. -/
theorem i64_inj {a b : Int} (h : Value.int .i64 a = Value.int .i64 b) : a = b := by injection h

set_option maxRecDepth 100000 in
theorem eqI_c (I : IH) (A B : Option Addr) (c c' : Nat) (l m : List Nat) (hl : RdSl I 1 (.slice A l.length c) l.length (N64 l)) (hm : RdSl I 1 (.slice B m.length c') m.length (N64 m)) :
    PFn Try.prog 66 #[.slice A l.length c, .slice B m.length c'] I fun v I' => v = .bool (decide (l = m)) ∧ I' = I := by
  have hc := hl.cap
  have hc' := hm.cap
  refine Fn.intro (n := 26) (args := [.slice A l.length c, .slice B m.length c']) (by kernel_rfl) Try.func66 rfl Try.ntmps66 (Nat.le_of_ble_eq_true rfl) [(0, .slice A l.length c), (1, .slice B m.length c')] rfl (fun w0 => ?_)
  by_cases hlen : l.length = m.length
  · repeat' (first
      | (refine SyC.seq ?_)
      | (refine SyC.region ?_)
      | (refine SyL.nil ?_)
      | (refine Then.norm ?_)
      | (refine SyC.block ?_)
      | (refine SyC.skip ?_)
      | (refine SyL.light (LV.move rfl) Rq.nil (.none rfl) rfl (ltB rfl) ?_)
      | (refine SyL.light (LV.assign rfl) Rq.nil (.none rfl) rfl (ltB rfl) ?_)
      | (refine SyL.light (LV.len (by apply rfl)) Rq.nil (.none rfl) rfl (ltB rfl) ?_)
      | (refine SyL.light (LV.cmp rfl rfl rfl) Rq.nil (.none rfl) rfl (ltB rfl) ?_)
      | (refine SyC.condF rfl (by first | assumption | (with_reducible rfl) | decide | (simp only [decide_eq_true_eq, decide_eq_false_iff_not, Bool.not_eq_true', Bool.not_eq_false', beq_iff_eq, bne_iff_ne, ne_eq, beq_eq_false_iff_ne, bne_eq_false_iff_eq, Int.not_lt, Int.not_le, Bool.true_eq_false, Bool.false_eq_true, tb_one, tb_zero]; omega)) ?_))
    refine SyC.loop (fun t env I' rs => ∃ k : Nat, t = l.length - k ∧ k ≤ l.length ∧ l.take k = m.take k ∧ I' = I ∧ rs = [] ∧
      env = [(13, .int .i64 (k : Nat)), (12, .int .i64 (l.length : Nat)), (0, .slice A l.length c), (1, .slice B m.length c')]) l.length _ (by repeat (first | exact trivial | refine ⟨rfl, ?_⟩)) ⟨0, rfl, by omega, rfl, rfl, rfl, rfl⟩ ?_
    rintro t env I' rs ⟨k, rfl, hk, hp, rfl, rfl, rfl⟩
    by_cases hlt : k < l.length
    · obtain ⟨ad, rfl⟩ := hl.addr (by omega)
      obtain ⟨bd, rfl⟩ := hm.addr (by omega)
      have e1 : l[k]? = some (l.getD k 0) := by simp [hlt]
      have e2 : m[k]? = some (m.getD k 0) := by simp [show k < m.length by omega]
      by_cases hx : l.getD k 0 = m.getD k 0
      · repeat' (first
          | (refine SyC.seq ?_)
          | (refine SyC.region ?_)
          | (refine SyL.nil ?_)
          | (refine Then.norm ?_)
          | (refine InB.norm ?_)
          | (refine SyC.block ?_)
          | (refine SyC.skip ?_)
          | (refine SyC.draw (id := 6) (by kernel_rfl) (by kernel_rfl) ?_; refine D.light (i := 0) rfl (.on (.none rfl) (LV.move rfl)) Rq.nil (by kernel_rfl) rfl (ltB rfl) ?_; refine D.light (i := 1) rfl (.on (.none rfl) (LV.move rfl)) Rq.nil (by kernel_rfl) rfl (ltB rfl) ?_; refine D.light (i := 2) rfl (.on (.none rfl) (LV.idxN (by apply rfl) (by apply rfl) (by omega))) Rq.nil (by kernel_rfl) rfl (ltB rfl) ?_; refine D.light (i := 3) rfl (.on (.none rfl) (LV.load rfl)) (Rq.imm (RdSl.at hl (N64_get hlt))) (by kernel_rfl) rfl (ltB rfl) ?_; refine D.light (i := 4) rfl (.on (.none rfl) (LV.move rfl)) Rq.nil (by kernel_rfl) rfl (ltB rfl) ?_; refine D.light (i := 5) rfl (.on (.none rfl) (LV.move rfl)) Rq.nil (by kernel_rfl) rfl (ltB rfl) ?_; refine D.light (i := 6) rfl (.on (.none rfl) (LV.idxN (by apply rfl) (by apply rfl) (by omega))) Rq.nil (by kernel_rfl) rfl (ltB rfl) ?_; refine D.light (i := 7) rfl (.on (.none rfl) (LV.load rfl)) (Rq.imm (RdSl.at hm (N64_get (by omega)))) (by kernel_rfl) rfl (ltB rfl) ?_; refine D.light (i := 8) rfl (.on (.none rfl) (LV.cmp rfl rfl rfl)) Rq.nil (by kernel_rfl) rfl (ltB rfl) ?_; refine D.fin (by kernel_rfl) ?_)
          | (refine SyL.light (LV.move rfl) Rq.nil (.none rfl) rfl (ltB rfl) ?_)
          | (refine SyL.light (LV.assign rfl) Rq.nil (.none rfl) rfl (ltB rfl) ?_)
          | (refine SyL.light (LV.cmp rfl rfl rfl) Rq.nil (.none rfl) rfl (ltB rfl) ?_)
          | (refine SyL.light (LV.arN rfl rfl rfl (by simp only [Fits]; omega)) Rq.nil (.none rfl) rfl (ltB rfl) ?_)
          | (refine SyC.condT rfl (by first | assumption | (with_reducible rfl) | decide | (simp only [decide_eq_true_eq, decide_eq_false_iff_not, Bool.not_eq_true', Bool.not_eq_false', beq_iff_eq, bne_iff_ne, ne_eq, beq_eq_false_iff_ne, bne_eq_false_iff_eq, Int.not_lt, Int.not_le, Bool.true_eq_false, Bool.false_eq_true, tb_one, tb_zero]; omega)) ?_)
          | (refine SyC.condF rfl (by first | assumption | (with_reducible rfl) | decide | (simp only [decide_eq_true_eq, decide_eq_false_iff_not, Bool.not_eq_true', Bool.not_eq_false', beq_iff_eq, bne_iff_ne, ne_eq, beq_eq_false_iff_ne, bne_eq_false_iff_eq, Int.not_lt, Int.not_le, Bool.true_eq_false, Bool.false_eq_true, tb_one, tb_zero]; omega)) ?_))
        exact ⟨l.length - (k + 1), _, by omega, (by repeat (first | exact trivial | refine ⟨rfl, ?_⟩)), k + 1, rfl, by omega, by rw [List.take_add_one, List.take_add_one, hp, e1, e2, hx], rfl, rfl, rfl⟩
      · repeat' (first
          | (refine SyC.seq ?_)
          | (refine SyC.region ?_)
          | (refine SyL.nil ?_)
          | (refine Then.norm ?_)
          | (refine Then.ret ?_)
          | (refine InB.ret ?_)
          | (refine SyC.block ?_)
          | (refine SyC.skip ?_)
          | (refine SyC.ret ?_)
          | (refine SyC.draw (id := 6) (by kernel_rfl) (by kernel_rfl) ?_; refine D.light (i := 0) rfl (.on (.none rfl) (LV.move rfl)) Rq.nil (by kernel_rfl) rfl (ltB rfl) ?_; refine D.light (i := 1) rfl (.on (.none rfl) (LV.move rfl)) Rq.nil (by kernel_rfl) rfl (ltB rfl) ?_; refine D.light (i := 2) rfl (.on (.none rfl) (LV.idxN (by apply rfl) (by apply rfl) (by omega))) Rq.nil (by kernel_rfl) rfl (ltB rfl) ?_; refine D.light (i := 3) rfl (.on (.none rfl) (LV.load rfl)) (Rq.imm (RdSl.at hl (N64_get hlt))) (by kernel_rfl) rfl (ltB rfl) ?_; refine D.light (i := 4) rfl (.on (.none rfl) (LV.move rfl)) Rq.nil (by kernel_rfl) rfl (ltB rfl) ?_; refine D.light (i := 5) rfl (.on (.none rfl) (LV.move rfl)) Rq.nil (by kernel_rfl) rfl (ltB rfl) ?_; refine D.light (i := 6) rfl (.on (.none rfl) (LV.idxN (by apply rfl) (by apply rfl) (by omega))) Rq.nil (by kernel_rfl) rfl (ltB rfl) ?_; refine D.light (i := 7) rfl (.on (.none rfl) (LV.load rfl)) (Rq.imm (RdSl.at hm (N64_get (by omega)))) (by kernel_rfl) rfl (ltB rfl) ?_; refine D.light (i := 8) rfl (.on (.none rfl) (LV.cmp rfl rfl rfl)) Rq.nil (by kernel_rfl) rfl (ltB rfl) ?_; refine D.fin (by kernel_rfl) ?_)
          | (refine SyL.light (LV.move rfl) Rq.nil (.none rfl) rfl (ltB rfl) ?_)
          | (refine SyL.light (LV.assign rfl) Rq.nil (.none rfl) rfl (ltB rfl) ?_)
          | (refine SyL.light (LV.cmp rfl rfl rfl) Rq.nil (.none rfl) rfl (ltB rfl) ?_)
          | (refine SyC.condT rfl (by first | assumption | (with_reducible rfl) | decide | (simp only [decide_eq_true_eq, decide_eq_false_iff_not, Bool.not_eq_true', Bool.not_eq_false', beq_iff_eq, bne_iff_ne, ne_eq, beq_eq_false_iff_ne, bne_eq_false_iff_eq, Int.not_lt, Int.not_le, Bool.true_eq_false, Bool.false_eq_true, tb_one, tb_zero]; omega)) ?_))
        refine Ret.one (by simp) Try.results66 (.tmp rfl) ?_
        exact ⟨rfl, by rw [decide_eq_false (by rintro rfl; exact hx rfl)], rfl⟩
    · obtain rfl : k = l.length := by omega
      repeat' (first
        | (refine SyC.seq ?_)
        | (refine SyC.region ?_)
        | (refine SyL.nil ?_)
        | (refine Then.norm ?_)
        | (refine Then.exit ?_)
        | (refine InB.hit ?_)
        | (refine SyC.exit ?_)
        | (refine SyC.ret ?_)
        | (refine SyL.light (LV.assign rfl) Rq.nil (.none rfl) rfl (ltB rfl) ?_)
        | (refine SyL.light (LV.cmp rfl rfl rfl) Rq.nil (.none rfl) rfl (ltB rfl) ?_)
        | (refine SyC.condF rfl (by first | assumption | (with_reducible rfl) | decide | (simp only [decide_eq_true_eq, decide_eq_false_iff_not, Bool.not_eq_true', Bool.not_eq_false', beq_iff_eq, bne_iff_ne, ne_eq, beq_eq_false_iff_ne, bne_eq_false_iff_eq, Int.not_lt, Int.not_le, Bool.true_eq_false, Bool.false_eq_true, tb_one, tb_zero]; omega)) ?_))
      refine Ret.one (by simp) Try.results66 (.tmp rfl) ?_
      rw [List.take_length, hlen, List.take_length] at hp
      exact ⟨rfl, by rw [decide_eq_true hp], rfl⟩
  · repeat' (first
      | (refine SyC.seq ?_)
      | (refine SyC.region ?_)
      | (refine SyL.nil ?_)
      | (refine Then.norm ?_)
      | (refine Then.ret ?_)
      | (refine SyC.ret ?_)
      | (refine SyL.light (LV.move rfl) Rq.nil (.none rfl) rfl (ltB rfl) ?_)
      | (refine SyL.light (LV.assign rfl) Rq.nil (.none rfl) rfl (ltB rfl) ?_)
      | (refine SyL.light (LV.len (by apply rfl)) Rq.nil (.none rfl) rfl (ltB rfl) ?_)
      | (refine SyL.light (LV.cmp rfl rfl rfl) Rq.nil (.none rfl) rfl (ltB rfl) ?_)
      | (refine SyC.condT rfl (by first | assumption | (with_reducible rfl) | decide | (simp only [decide_eq_true_eq, decide_eq_false_iff_not, Bool.not_eq_true', Bool.not_eq_false', beq_iff_eq, bne_iff_ne, ne_eq, beq_eq_false_iff_ne, bne_eq_false_iff_eq, Int.not_lt, Int.not_le, Bool.true_eq_false, Bool.false_eq_true, tb_one, tb_zero]; omega)) ?_))
    refine Ret.one (by simp) Try.results66 (.tmp rfl) ?_
    exact ⟨rfl, by rw [decide_eq_false (by rintro rfl; exact hlen rfl)], rfl⟩
end Go.Proofs.Ytpgkbipnkkeicaa
