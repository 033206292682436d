import Derived.Test.YtpgkbipnkkeicaaDoorST5
set_option linter.unusedSimpArgs false
set_option linter.unusedVariables false
/-! Digits that are drawn. -/
namespace Go.Proofs.YtpgkbipnkkeicaaDoor
open Go Go.Sx Go.Nt
theorem take_set_succ {W : List Nat} {i v : Nat} (h : i < W.length) : (W.set i v).take (i + 1) = W.take i ++ [v] := by
  rw [List.take_succ_eq_append_getElem (by simpa using h), List.take_set_of_le (Nat.le_refl _), List.getElem_set_self]
theorem asc_snoc (O : List Nat) (r : Nat) : asc (O ++ [r]) = asc O ++ [r + 48] := by simp [asc]
theorem D10.snoc {O : List Nat} {r : Nat} (h : D10 O) (hr : r < 10) : D10 (O ++ [r]) := fun x hx => by
  rcases List.mem_append.1 hx with h1 | h1
  · exact h x h1
  · simp at h1; omega
set_option maxRecDepth 100000 in
theorem from_c (I : IH) (g : Nat) (A : Option Addr) (c : Nat) (l : List Nat) (k : Nat) (h : SigOK I A c l) (hk : k ≤ 999999990) (a b : Nat) (hab : a ≤ b) (hb : b ≤ 60000) :
    Sx.Fn Tryd.prog 17 #[.pointer (some ⟨g, 0, none⟩), .int .i64 (a : Int), .int .i64 (b : Int)] I [SigR g A c l k] fun v I' rs' => ∃ x k' : Nat, a ≤ x ∧ x ≤ b ∧ k ≤ k' ∧ k' ≤ k + 2 ∧ v = .int .i64 (x : Int) ∧ I' = I ∧ rs' = [SigR g A c l k'] := by
  refine Fn.intro (n := 15) (args := [.pointer (some ⟨g, 0, none⟩), .int .i64 (a : Int), .int .i64 (b : Int)]) (by kernel_rfl) Tryd.func17 rfl Tryd.ntmps17 (Nat.le_of_ble_eq_true rfl) [(0, .pointer (some ⟨g, 0, none⟩)), (1, .int .i64 (a : Int)), (2, .int .i64 (b : Int))] rfl (fun w0 => ?_)
  repeat' (first
    | (refine SyC.seq ?_)
    | (refine SyC.region ?_)
    | (refine SyL.nil ?_)
    | (refine Then.norm ?_)
    | (refine SyC.ret ?_)
    | (refine SyL.light (LV.move rfl) Rq.nil (.none rfl) rfl (ltB rfl) ?_)
    | (refine SyL.light (LV.assign rfl) Rq.nil (.none rfl) rfl (ltB rfl) ?_)
    | (refine SyL.light (LV.arN rfl rfl rfl (by simp only [Fits]; omega)) Rq.nil (.none rfl) rfl (ltB rfl) ?_)
    | (refine SyL.heavy (OpT.call rfl rfl (less_c _ g A c l _ h (by omega) ((b : Int) - (a : Int) + 1) (by omega) (by omega)) rfl ?_) (.none rfl) rfl (ltB rfl); rintro v1 I1 rs1 hle1 ⟨b1, k1, hb1, hk1, hk2, rfl, rfl, rfl⟩))
  refine Ret.one (by simp) Tryd.results17 (.tmp rfl) ?_
  exact ⟨a + b1, k1, by omega, by omega, hk1, hk2, by congr 1, rfl, rfl⟩
set_option maxRecDepth 100000 in
set_option maxHeartbeats 2000000 in
theorem sigilDigits_c (I : IH) (g : Nat) (A : Option Addr) (c : Nat) (l : List Nat) (k : Nat) (h : SigOK I A c l) (hk : k ≤ 900000000) (most : Nat) (h1 : 1 ≤ most) (h2 : most ≤ 2000) :
    Sx.Fn Tryd.prog 5 #[.pointer (some ⟨g, 0, none⟩), .int .i64 (most : Int)] I [SigR g A c l k] fun v I' rs' => ∃ x k' : Nat, (dec x).length ≤ most ∧ k ≤ k' ∧ k' ≤ k + 10000 ∧ v = S x ∧ rs' = [SigR g A c l k'] := by
  refine Fn.intro (n := 74) (args := [.pointer (some ⟨g, 0, none⟩), .int .i64 (most : Int)]) (by kernel_rfl) Tryd.func5 rfl Tryd.ntmps5 (Nat.le_of_ble_eq_true rfl) [(0, .pointer (some ⟨g, 0, none⟩)), (1, .int .i64 (most : Int))] rfl (fun w0 => ?_)
  repeat' (first
    | (refine SyC.seq ?_)
    | (refine SyC.region ?_)
    | (refine SyL.nil ?_)
    | (refine Then.norm ?_)
    | (refine SyL.light (LV.move rfl) Rq.nil (.none rfl) rfl (ltB rfl) ?_)
    | (refine SyL.light (LV.assign rfl) Rq.nil (.none rfl) rfl (ltB rfl) ?_)
    | (refine SyL.heavy (OpT.buildSlice (xs := [_, _, _, _, _, _, _]) (vs := [_, _, _, _, _, _, _]) rfl rfl rfl (by simp [Value.cells]) (by decide) (fun g_ hg_ => ?_)) (.none rfl) rfl (ltB rfl)))
  refine SyL.ownOf (k := 0) (m := 7) (sz := 1) rfl rfl (by simp [maxLen]) ?_
  refine SyL.freezeOwn fun I2 hle2 hx => ?_
  repeat' (first
    | (refine SyC.seq ?_)
    | (refine SyC.region ?_)
    | (refine SyL.nil ?_)
    | (refine Then.norm ?_)
    | (refine SyL.light (LV.move rfl) Rq.nil (.none rfl) rfl (ltB rfl) ?_)
    | (refine SyL.light (LV.assign rfl) Rq.nil (.none rfl) rfl (ltB rfl) ?_)
    | (refine SyL.light (LV.min2 rfl rfl) Rq.nil (.none rfl) rfl (ltB rfl) ?_)
    | (refine SyL.heavy (OpT.call rfl rfl (pick_c _ g A c l k (h.le hle2) (by omega) _ _ [1, 2, 9, 10, 40, (most : Int), (most : Int)] hx (by simp) (by simp)) rfl ?_) (.none rfl) rfl (ltB rfl); rintro v3 I3 rs3 - ⟨x, hxm, k3, hk31, hk32, rfl, rfl, rfl⟩))
  obtain ⟨n, rfl, hn⟩ : ∃ n : Nat, x = (n : Int) ∧ 1 ≤ n := by
    simp only [List.mem_cons, List.not_mem_nil, or_false] at hxm
    refine ⟨x.toNat, ?_, ?_⟩ <;> omega
  clear hxm hx
  obtain ⟨L, hL⟩ : ∃ L, L = min n most := ⟨_, rfl⟩
  have hmin : min (n : Int) (most : Int) = (L : Int) := by omega
  have hok := h.le hle2
  repeat' (first
    | (rw [hmin])
    | (refine SyC.seq ?_)
    | (refine SyC.region ?_)
    | (refine SyL.nil ?_)
    | (refine Then.norm ?_)
    | (refine SyC.block ?_)
    | (refine SyL.light (LV.move rfl) Rq.nil (.none rfl) rfl (ltB rfl) ?_)
    | (refine SyL.light (LV.assign rfl) Rq.nil (.none rfl) rfl (ltB rfl) ?_)
    | (refine SyL.light (LV.len (by apply rfl)) Rq.nil (.none rfl) rfl (ltB rfl) ?_)
    | (refine SyL.heavy (OpT.make (by apply rfl) (by apply rfl) (by omega) (by omega) (by omega) (by decide) (by omega) (fun g_ hg_ => ?_)) (.none rfl) rfl (ltB rfl))
    | (refine SyL.heavy (OpT.callW 1 1 rfl rfl (less_c _ g A c l k3 hok (by omega) 4 (by omega) (by omega)) rfl ?_) (.none rfl) rfl (ltB rfl); rintro v4 I4 rs4 - ⟨kd, k4, hkd, hk41, hk42, rfl, rfl, rfl⟩)
    | (refine SyL.heavy (OpT.callW 1 1 rfl rfl (from_c _ g A c l k4 hok (by omega) 1 255 (by omega) (by omega)) rfl ?_) (.none rfl) rfl (ltB rfl); rintro v5 I5 rs5 - ⟨x, k5, hx1, hx2, hk51, hk52, rfl, rfl, rfl⟩))
  rw [mk_u8']
  refine SyC.loopD (fun q env I' rs => ∃ i W O x k', q = L - i ∧ i ≤ L ∧ W.length = L ∧ O.length = i ∧ D10 O ∧ x < 2147483648 ∧ k5 ≤ k' ∧ k' ≤ k5 + 2 * i ∧ Hd (W.take i = asc O) ∧ I' = I5 ∧ rs = [.blk g_ 5 (U8 W), SigR g A c l k'] ∧
    env = [(25, .int .i64 (i : Nat)), (8, .int .i64 (x : Nat)), (24, .int .i64 (L : Nat)), (6, .slice (some ⟨g_, 0, none⟩) L L), (7, .int .i64 (kd : Nat)), (0, .pointer (some ⟨g, 0, none⟩))]) L
    [(25, .int .i64 ((0 : Nat) : Int)), (8, .int .i64 (x : Nat)), (24, .int .i64 (L : Nat)), (6, .slice (some ⟨g_, 0, none⟩) L L), (7, .int .i64 (kd : Nat)), (0, .pointer (some ⟨g, 0, none⟩))] (by repeat (first | exact trivial | refine ⟨rfl, ?_⟩))
    ⟨0, List.replicate L 0, [], x, k5, rfl, by omega, by simp, rfl, D10.nil, by omega, by omega, by omega, ⟨rfl⟩, rfl, rfl, rfl⟩ ?_
  clear hx1 hx2 x
  rintro q env I' rs ⟨i, W, O, x, k', rfl, hi, hWl, hOl, hOs, hx, hk1', hk2', hW, rfl, rfl, rfl⟩
  by_cases hlt : i < L
  · have hUl : (U8 W).length = L := by rw [U8_len, hWl]
    obtain ⟨x', hx'⟩ : ∃ x', x' = (x * 1103515245 + 12345) % 2147483648 := ⟨_, rfl⟩
    have hxb : x' < 2147483648 := by omega
    have hxI : ((x : Int) * 1103515245 + 12345) % 2147483648 = (x' : Int) := by omega
    have hfin : ∀ r, r < 10 → Hd ((W.set i (r + 48)).take (i + 1) = asc (O ++ [r])) := fun r hr => ⟨by rw [take_set_succ (by omega), hW.out, asc_snoc]⟩
    have gra : ∀ v : Nat, ((U8 W).set i (.int .u8 (v : Int)))[i]? = some (.int .u8 (v : Int)) := fun v => List.getElem?_set_self (by omega)
    by_cases k0 : kd = 0
    · obtain ⟨y, hy⟩ : ∃ y, x' >>> 16 = y := ⟨_, rfl⟩
      obtain ⟨v, hv⟩ : ∃ v, v = y % 10 := ⟨_, rfl⟩
      have hvb : v < 10 := by rw [hv]; exact Nat.mod_lt _ (by decide)
      have hvI : (y : Int) % 10 = (v : Int) := by omega
      have hr1 : (v : Int) % 10 = ((v % 10 : Nat) : Int) := by omega
      have hr3 : (48 : Int) + ((v % 10 : Nat) : Int) = ((v % 10 + 48 : Nat) : Int) := by omega
      have hrb : v % 10 < 10 := Nat.mod_lt _ (by decide)
      have gv := gra v
      generalize v % 10 = r at *
      repeat' (first
        | (rw [hy])
        | (rw [hvI])
        | (rw [hxI])
        | (rw [hr1])
        | (rw [hr3])
        | (refine SyC.seq ?_)
        | (refine SyC.region ?_)
        | (refine SyL.nil ?_)
        | (refine Then.norm ?_)
        | (refine InB.norm ?_)
        | (refine SyC.block ?_)
        | (refine SyC.skip ?_)
        | (refine SyL.light (LV.move rfl) Rq.nil (.none rfl) rfl (ltB rfl) ?_)
        | (refine SyL.light (LV.assign rfl) Rq.nil (.none rfl) rfl (ltB rfl) ?_)
        | (refine SyL.light (LV.cmp rfl rfl rfl) Rq.nil (.none rfl) rfl (ltB rfl) ?_)
        | (refine SyL.light (LV.arN rfl rfl rfl (by simp only [Fits]; omega)) Rq.nil (.none rfl) rfl (ltB rfl) ?_)
        | (refine SyL.light (LV.convN (by apply rfl) (by simp only [Fits]; omega)) Rq.nil (.none rfl) rfl (ltB rfl) ?_)
        | (refine SyL.light (LV.remN rfl rfl (by omega) (by omega)) Rq.nil (.none rfl) rfl (ltB rfl) ?_)
        | (refine SyL.light (LV.shrN rfl rfl (by simp only [IntKind.bits]; omega)) Rq.nil (.none rfl) rfl (ltB rfl) ?_)
        | (refine SyL.light (LV.idxBN (by apply rfl) (by apply rfl) (by omega)) Rq.nil (.none rfl) rfl (ltB rfl) ?_)
        | (refine SyL.light (LV.load rfl) (Rq.blk (List.mem_of_getElem? (i := 0) rfl) gv) (.none rfl) rfl (ltB rfl) ?_)
        | (refine SyL.heavy0 (OpT.store rfl rfl rfl (k := 0) rfl (by first | (simp; done) | (simp only [List.length_cons, List.length_nil, hUl, List.length_set]; done) | (simp only [List.length_cons, List.length_nil, hUl, List.length_set]; omega) | (simp; omega) | omega) ?_) (.none rfl) rfl)
        | (refine SyC.condT rfl (by first | assumption | (with_reducible rfl) | decide | (simp only [decide_eq_true_eq, decide_eq_false_iff_not, Bool.not_eq_true', Bool.not_eq_false', beq_iff_eq, bne_iff_ne, ne_eq, beq_eq_false_iff_ne, bne_eq_false_iff_eq, Int.not_lt, Int.not_le, Bool.true_eq_false, Bool.false_eq_true, tb_one, tb_zero]; omega)) ?_))
      repeat (first | rw [List.set_cons_succ] | rw [List.set_cons_zero])
      rw [List.set_set, U8_set]
      exact ⟨L - (i + 1), [(25, .int .i64 (i + 1 : Nat)), (8, .int .i64 (x' : Nat)), (24, .int .i64 (L : Nat)), (6, .slice (some ⟨g_, 0, none⟩) L L), (7, .int .i64 (kd : Nat)), (0, .pointer (some ⟨g, 0, none⟩))], [.blk g_ 5 (U8 (W.set i (r + 48))), SigR g A c l k'], by omega, (by repeat (first | exact trivial | refine ⟨rfl, ?_⟩)), ⟨i + 1, W.set i (r + 48), O ++ [r], x', k', rfl, by omega, by simpa using hWl, by simp [hOl], D10.snoc hOs hrb, hxb, by omega, by omega, hfin r hrb, rfl, rfl, rfl⟩, (by repeat (first | exact List.Sublist.refl _ | exact List.nil_sublist _ | refine List.Sublist.cons_cons _ ?_ | refine List.Sublist.cons _ ?_))⟩
    by_cases k1 : kd = 1
    · obtain ⟨v, hv⟩ : ∃ v, v = 9 := ⟨_, rfl⟩
      have hvI : (9 : Int) = ((v : Nat) : Int) := by omega
      have hr1 : (v : Int) % 10 = ((v % 10 : Nat) : Int) := by omega
      have hr3 : (48 : Int) + ((v % 10 : Nat) : Int) = ((v % 10 + 48 : Nat) : Int) := by omega
      have hrb : v % 10 < 10 := Nat.mod_lt _ (by decide)
      have gv := gra v
      generalize v % 10 = r at *
      have gv9 : ((U8 W).set i (.int .u8 9))[i]? = some (.int .u8 (v : Int)) := by rw [hvI]; exact gv
      repeat' (first
        | (rw [hxI])
        | (rw [hr1])
        | (rw [hr3])
        | (refine SyC.seq ?_)
        | (refine SyC.region ?_)
        | (refine SyL.nil ?_)
        | (refine Then.norm ?_)
        | (refine InB.norm ?_)
        | (refine SyC.block ?_)
        | (refine SyC.skip ?_)
        | (refine SyL.light (LV.move rfl) Rq.nil (.none rfl) rfl (ltB rfl) ?_)
        | (refine SyL.light (LV.assign rfl) Rq.nil (.none rfl) rfl (ltB rfl) ?_)
        | (refine SyL.light (LV.cmp rfl rfl rfl) Rq.nil (.none rfl) rfl (ltB rfl) ?_)
        | (refine SyL.light (LV.arN rfl rfl rfl (by simp only [Fits]; omega)) Rq.nil (.none rfl) rfl (ltB rfl) ?_)
        | (refine SyL.light (LV.remN rfl rfl (by omega) (by omega)) Rq.nil (.none rfl) rfl (ltB rfl) ?_)
        | (refine SyL.light (LV.idxBN (by apply rfl) (by apply rfl) (by omega)) Rq.nil (.none rfl) rfl (ltB rfl) ?_)
        | (refine SyL.light (LV.load rfl) (Rq.blk (List.mem_of_getElem? (i := 0) rfl) gv9) (.none rfl) rfl (ltB rfl) ?_)
        | (refine SyL.heavy0 (OpT.store rfl rfl rfl (k := 0) rfl (by first | (simp; done) | (simp only [List.length_cons, List.length_nil, hUl, List.length_set]; done) | (simp only [List.length_cons, List.length_nil, hUl, List.length_set]; omega) | (simp; omega) | omega) ?_) (.none rfl) rfl)
        | (refine SyC.condT rfl (by first | assumption | (with_reducible rfl) | decide | (simp only [decide_eq_true_eq, decide_eq_false_iff_not, Bool.not_eq_true', Bool.not_eq_false', beq_iff_eq, bne_iff_ne, ne_eq, beq_eq_false_iff_ne, bne_eq_false_iff_eq, Int.not_lt, Int.not_le, Bool.true_eq_false, Bool.false_eq_true, tb_one, tb_zero]; omega)) ?_)
        | (refine SyC.condF rfl (by first | assumption | (with_reducible rfl) | decide | (simp only [decide_eq_true_eq, decide_eq_false_iff_not, Bool.not_eq_true', Bool.not_eq_false', beq_iff_eq, bne_iff_ne, ne_eq, beq_eq_false_iff_ne, bne_eq_false_iff_eq, Int.not_lt, Int.not_le, Bool.true_eq_false, Bool.false_eq_true, tb_one, tb_zero]; omega)) ?_))
      rw [hvI]
      repeat (first | rw [List.set_cons_succ] | rw [List.set_cons_zero])
      rw [List.set_set, U8_set]
      exact ⟨L - (i + 1), [(25, .int .i64 (i + 1 : Nat)), (8, .int .i64 (x' : Nat)), (24, .int .i64 (L : Nat)), (6, .slice (some ⟨g_, 0, none⟩) L L), (7, .int .i64 (kd : Nat)), (0, .pointer (some ⟨g, 0, none⟩))], [.blk g_ 5 (U8 (W.set i (r + 48))), SigR g A c l k'], by omega, (by repeat (first | exact trivial | refine ⟨rfl, ?_⟩)), ⟨i + 1, W.set i (r + 48), O ++ [r], x', k', rfl, by omega, by simpa using hWl, by simp [hOl], D10.snoc hOs hrb, hxb, by omega, by omega, hfin r hrb, rfl, rfl, rfl⟩, (by repeat (first | exact List.Sublist.refl _ | exact List.nil_sublist _ | refine List.Sublist.cons_cons _ ?_ | refine List.Sublist.cons _ ?_))⟩
    by_cases k2 : kd = 2
    · obtain ⟨v, hv⟩ : ∃ v, v = 1 / (i + 1) := ⟨_, rfl⟩
      have hvb : v ≤ 1 := by rw [hv]; exact Nat.div_le_self _ _
      have hi1 : (i : Int) + 1 = ((i + 1 : Nat) : Int) := by omega
      have hvI : (1 : Int) / ((i + 1 : Nat) : Int) = (v : Int) := by rw [hv]; rfl
      have hr1 : (v : Int) % 10 = ((v % 10 : Nat) : Int) := by omega
      have hr3 : (48 : Int) + ((v % 10 : Nat) : Int) = ((v % 10 + 48 : Nat) : Int) := by omega
      have hrb : v % 10 < 10 := Nat.mod_lt _ (by decide)
      have gv := gra v
      generalize v % 10 = r at *
      repeat' (first
        | (rw [hi1])
        | (rw [hvI])
        | (rw [hxI])
        | (rw [hr1])
        | (rw [hr3])
        | (refine SyC.seq ?_)
        | (refine SyC.region ?_)
        | (refine SyL.nil ?_)
        | (refine Then.norm ?_)
        | (refine InB.norm ?_)
        | (refine SyC.block ?_)
        | (refine SyC.skip ?_)
        | (refine SyL.light (LV.move rfl) Rq.nil (.none rfl) rfl (ltB rfl) ?_)
        | (refine SyL.light (LV.assign rfl) Rq.nil (.none rfl) rfl (ltB rfl) ?_)
        | (refine SyL.light (LV.cmp rfl rfl rfl) Rq.nil (.none rfl) rfl (ltB rfl) ?_)
        | (refine SyL.light (LV.arN rfl rfl rfl (by simp only [Fits]; omega)) Rq.nil (.none rfl) rfl (ltB rfl) ?_)
        | (refine SyL.light (LV.convN (by apply rfl) (by simp only [Fits]; omega)) Rq.nil (.none rfl) rfl (ltB rfl) ?_)
        | (refine SyL.light (LV.remN rfl rfl (by omega) (by omega)) Rq.nil (.none rfl) rfl (ltB rfl) ?_)
        | (refine SyL.light (LV.quoN rfl rfl (by omega) (by omega) (by simp only [Fits]; omega)) Rq.nil (.none rfl) rfl (ltB rfl) ?_)
        | (refine SyL.light (LV.idxBN (by apply rfl) (by apply rfl) (by omega)) Rq.nil (.none rfl) rfl (ltB rfl) ?_)
        | (refine SyL.light (LV.load rfl) (Rq.blk (List.mem_of_getElem? (i := 0) rfl) gv) (.none rfl) rfl (ltB rfl) ?_)
        | (refine SyL.heavy0 (OpT.store rfl rfl rfl (k := 0) rfl (by first | (simp; done) | (simp only [List.length_cons, List.length_nil, hUl, List.length_set]; done) | (simp only [List.length_cons, List.length_nil, hUl, List.length_set]; omega) | (simp; omega) | omega) ?_) (.none rfl) rfl)
        | (refine SyC.condT rfl (by first | assumption | (with_reducible rfl) | decide | (simp only [decide_eq_true_eq, decide_eq_false_iff_not, Bool.not_eq_true', Bool.not_eq_false', beq_iff_eq, bne_iff_ne, ne_eq, beq_eq_false_iff_ne, bne_eq_false_iff_eq, Int.not_lt, Int.not_le, Bool.true_eq_false, Bool.false_eq_true, tb_one, tb_zero]; omega)) ?_)
        | (refine SyC.condF rfl (by first | assumption | (with_reducible rfl) | decide | (simp only [decide_eq_true_eq, decide_eq_false_iff_not, Bool.not_eq_true', Bool.not_eq_false', beq_iff_eq, bne_iff_ne, ne_eq, beq_eq_false_iff_ne, bne_eq_false_iff_eq, Int.not_lt, Int.not_le, Bool.true_eq_false, Bool.false_eq_true, tb_one, tb_zero]; omega)) ?_))
      repeat (first | rw [List.set_cons_succ] | rw [List.set_cons_zero])
      rw [List.set_set, U8_set]
      exact ⟨L - (i + 1), [(25, .int .i64 (i + 1 : Nat)), (8, .int .i64 (x' : Nat)), (24, .int .i64 (L : Nat)), (6, .slice (some ⟨g_, 0, none⟩) L L), (7, .int .i64 (kd : Nat)), (0, .pointer (some ⟨g, 0, none⟩))], [.blk g_ 5 (U8 (W.set i (r + 48))), SigR g A c l k'], by omega, (by repeat (first | exact trivial | refine ⟨rfl, ?_⟩)), ⟨i + 1, W.set i (r + 48), O ++ [r], x', k', rfl, by omega, by simpa using hWl, by simp [hOl], D10.snoc hOs hrb, hxb, by omega, by omega, hfin r hrb, rfl, rfl, rfl⟩, (by repeat (first | exact List.Sublist.refl _ | exact List.nil_sublist _ | refine List.Sublist.cons_cons _ ?_ | refine List.Sublist.cons _ ?_))⟩
    · have hok' := hok
      repeat' (first
        | (rw [hxI])
        | (refine SyC.seq ?_)
        | (refine SyC.region ?_)
        | (refine SyL.nil ?_)
        | (refine Then.norm ?_)
        | (refine InB.norm ?_)
        | (refine SyC.block ?_)
        | (refine SyC.skip ?_)
        | (refine SyL.light (LV.move rfl) Rq.nil (.none rfl) rfl (ltB rfl) ?_)
        | (refine SyL.light (LV.assign rfl) Rq.nil (.none rfl) rfl (ltB rfl) ?_)
        | (refine SyL.light (LV.cmp rfl rfl rfl) Rq.nil (.none rfl) rfl (ltB rfl) ?_)
        | (refine SyL.light (LV.arN rfl rfl rfl (by simp only [Fits]; omega)) Rq.nil (.none rfl) rfl (ltB rfl) ?_)
        | (refine SyL.light (LV.convN (by apply rfl) (by simp only [Fits]; omega)) Rq.nil (.none rfl) rfl (ltB rfl) ?_)
        | (refine SyL.light (LV.remN rfl rfl (by omega) (by omega)) Rq.nil (.none rfl) rfl (ltB rfl) ?_)
        | (refine SyL.light (LV.idxBN (by apply rfl) (by apply rfl) (by omega)) Rq.nil (.none rfl) rfl (ltB rfl) ?_)
        | (refine SyL.heavy0 (OpT.store rfl rfl rfl (k := 0) rfl (by first | (simp; done) | (simp only [List.length_cons, List.length_nil]; done) | (simp only [List.length_cons, List.length_nil]; omega) | (simp; omega) | omega) ?_) (.none rfl) rfl)
        | (refine SyL.heavy (OpT.callW 1 1 rfl rfl (less_c _ g A c l k' hok' (by omega) 10 (by omega) (by omega)) rfl ?_) (.none rfl) rfl (ltB rfl); rintro v6 I6 rs6 - ⟨v, k6, hvb, hk61, hk62, rfl, rfl, rfl⟩)
        | (refine SyC.condT rfl (by first | assumption | (with_reducible rfl) | decide | (simp only [decide_eq_true_eq, decide_eq_false_iff_not, Bool.not_eq_true', Bool.not_eq_false', beq_iff_eq, bne_iff_ne, ne_eq, beq_eq_false_iff_ne, bne_eq_false_iff_eq, Int.not_lt, Int.not_le, Bool.true_eq_false, Bool.false_eq_true, tb_one, tb_zero]; omega)) ?_)
        | (refine SyC.condF rfl (by first | assumption | (with_reducible rfl) | decide | (simp only [decide_eq_true_eq, decide_eq_false_iff_not, Bool.not_eq_true', Bool.not_eq_false', beq_iff_eq, bne_iff_ne, ne_eq, beq_eq_false_iff_ne, bne_eq_false_iff_eq, Int.not_lt, Int.not_le, Bool.true_eq_false, Bool.false_eq_true, tb_one, tb_zero]; omega)) ?_))
      change SyL _ _ _ _ _ _ _ _ [.blk g_ 5 ((U8 W).set i (.int .u8 (v : Int))), SigR g A c l k6]
      have hr1 : (v : Int) % 10 = ((v % 10 : Nat) : Int) := by omega
      have hr3 : (48 : Int) + ((v % 10 : Nat) : Int) = ((v % 10 + 48 : Nat) : Int) := by omega
      have hrb : v % 10 < 10 := Nat.mod_lt _ (by decide)
      have gv := gra v
      generalize v % 10 = r at *
      repeat' (first
        | (rw [hr1])
        | (rw [hr3])
        | (refine SyC.region ?_)
        | (refine SyL.nil ?_)
        | (refine Then.norm ?_)
        | (refine InB.norm ?_)
        | (refine SyL.light (LV.move rfl) Rq.nil (.none rfl) rfl (ltB rfl) ?_)
        | (refine SyL.light (LV.arN rfl rfl rfl (by simp only [Fits]; omega)) Rq.nil (.none rfl) rfl (ltB rfl) ?_)
        | (refine SyL.light (LV.remN rfl rfl (by omega) (by omega)) Rq.nil (.none rfl) rfl (ltB rfl) ?_)
        | (refine SyL.light (LV.idxBN (by apply rfl) (by apply rfl) (by omega)) Rq.nil (.none rfl) rfl (ltB rfl) ?_)
        | (refine SyL.light (LV.load rfl) (Rq.blk (List.mem_of_getElem? (i := 0) rfl) gv) (.none rfl) rfl (ltB rfl) ?_)
        | (refine SyL.heavy0 (OpT.store rfl rfl rfl (k := 0) rfl (by first | (simp; done) | (simp only [List.length_cons, List.length_nil, hUl, List.length_set]; done) | (simp only [List.length_cons, List.length_nil, hUl, List.length_set]; omega) | (simp; omega) | omega) ?_) (.none rfl) rfl))
      repeat (first | rw [List.set_cons_succ] | rw [List.set_cons_zero])
      rw [List.set_set, U8_set]
      exact ⟨L - (i + 1), [(25, .int .i64 (i + 1 : Nat)), (8, .int .i64 (x' : Nat)), (24, .int .i64 (L : Nat)), (6, .slice (some ⟨g_, 0, none⟩) L L), (7, .int .i64 (kd : Nat)), (0, .pointer (some ⟨g, 0, none⟩))], [.blk g_ 5 (U8 (W.set i (r + 48))), SigR g A c l k6], by omega, (by repeat (first | exact trivial | refine ⟨rfl, ?_⟩)), ⟨i + 1, W.set i (r + 48), O ++ [r], x', k6, rfl, by omega, by simpa using hWl, by simp [hOl], D10.snoc hOs hrb, hxb, by omega, by omega, hfin r hrb, rfl, rfl, rfl⟩, (by repeat (first | exact List.Sublist.refl _ | exact List.nil_sublist _ | refine List.Sublist.cons_cons _ ?_ | refine List.Sublist.cons _ ?_))⟩
  · obtain rfl : i = L := by omega
    have hWW := hW.out
    rw [← hWl, List.take_length] at hWW
    subst hWW
    clear hW
    have hlen : (dec (dv O)).length ≤ most := (dec_len (by omega)).1 (Nat.lt_of_lt_of_le (dv_lt hOs) (Nat.pow_le_pow_right (by decide) (by omega)))
    refine SyC.ownOf (k := 0) (m := i) (sz := 1) rfl (by rw [U8_len, hWl]; omega) (by simp [maxLen]; omega) ?_
    refine SyC.freezeOwn fun I9 hle9 hr9 => ?_
    rw [← hWl] at hr9 ⊢
    have ht := sigilTrim_c I9 ⟨g_, 0, none⟩ _ O hOs hr9
    repeat' (first
      | (refine SyC.seq ?_)
      | (refine SyC.region ?_)
      | (refine SyL.nil ?_)
      | (refine Then.norm ?_)
      | (refine Then.exit ?_)
      | (refine InB.hit ?_)
      | (refine SyC.exit ?_)
      | (refine SyC.ret ?_)
      | (refine SyL.light (LV.move rfl) Rq.nil (.none rfl) rfl (ltB rfl) ?_)
      | (refine SyL.light (LV.assign rfl) Rq.nil (.none rfl) rfl (ltB rfl) ?_)
      | (refine SyL.light (LV.cmp rfl rfl rfl) Rq.nil (.none rfl) rfl (ltB rfl) ?_)
      | (refine SyL.heavy (OpT.pcall rfl rfl (ht) ?_) (.none rfl) rfl (ltB rfl); rintro v3 I3 - ⟨rfl, rfl⟩)
      | (refine SyC.condF rfl (by first | assumption | (with_reducible rfl) | decide | (simp only [decide_eq_true_eq, decide_eq_false_iff_not, Bool.not_eq_true', Bool.not_eq_false', beq_iff_eq, bne_iff_ne, ne_eq, beq_eq_false_iff_ne, bne_eq_false_iff_eq, Int.not_lt, Int.not_le, Bool.true_eq_false, Bool.false_eq_true, tb_one, tb_zero]; omega)) ?_))
    refine Ret.one (by simp) Tryd.results5 (.tmp rfl) ?_
    exact ⟨dv O, k', hlen, by omega, by omega, rfl, rfl⟩
end Go.Proofs.YtpgkbipnkkeicaaDoor
