import Derived.Test.YtpgkbipnkkeicaaDoorST4
import Derived.Test.YtpgkbipnkkeicaaDoorN7
import Derived.Test.YtpgkbipnkkeicaaDoorNW
import Derived.Test.YtpgkbipnkkeicaaDoorSx12
set_option linter.unusedSimpArgs false
set_option linter.unusedVariables false
/-! Text of a number. -/
namespace Go.Nt
theorem ld_len {x k : Nat} (h : (digs x).length ≤ k) : (ld x).length ≤ 10 * k := by
  have h1 : x < B ^ k := digs_lt_pow.2 h
  have h2 : B ^ k ≤ (10 ^ 10) ^ k := Nat.pow_le_pow_left (by decide) k
  rw [← Nat.pow_mul] at h2
  by_cases h0 : x = 0
  · subst h0; rw [ld_zero]; exact Nat.zero_le _
  · have h3 : (dec x).length = (ld x).length := by unfold dec; rw [if_neg h0, List.length_reverse]
    by_cases hk : k = 0
    · subst hk; simp at h1; exact absurd h1 h0
    · rw [← h3]
      exact (dec_len (by omega)).1 (Nat.lt_of_lt_of_le h1 h2)
theorem rev_fin {W l : List Nat} {i : Nat} (hl : W.length = l.length) (hi : l.length ≤ 2 * i + 1) (h : ∀ p, p < l.length → W.getD p 0 = if p < i ∨ l.length ≤ p + i then l.getD (l.length - 1 - p) 0 else l.getD p 0) : W = l.reverse := by
  apply List.ext_getElem
  · simp [hl]
  · intro p h1 h2
    have h3 := h p (by omega)
    have e : (if p < i ∨ l.length ≤ p + i then l.getD (l.length - 1 - p) 0 else l.getD p 0) = l.getD (l.length - 1 - p) 0 := by
      split
      · rfl
      · next hn => rw [show l.length - 1 - p = p by omega]
    rw [e] at h3
    rw [List.getD_eq_getElem?_getD, List.getD_eq_getElem?_getD, List.getElem?_eq_getElem h1, List.getElem?_eq_getElem (by omega)] at h3
    simpa using h3
theorem rev_step {W l : List Nat} {i j : Nat} (hl : W.length = l.length) (hij : i < j) (hj : j + i + 1 = l.length) (h : ∀ p, p < l.length → W.getD p 0 = if p < i ∨ l.length ≤ p + i then l.getD (l.length - 1 - p) 0 else l.getD p 0) :
    ∀ p, p < l.length → ((W.set i (W.getD j 0)).set j (W.getD i 0)).getD p 0 = if p < i + 1 ∨ l.length ≤ p + (i + 1) then l.getD (l.length - 1 - p) 0 else l.getD p 0 := by
  intro p hp
  by_cases e1 : p = j
  · subst e1
    rw [getD_set_self' (by simp; omega), h i (by omega), if_neg (by omega), if_pos (by omega), show l.length - 1 - p = i by omega]
  · rw [getD_set_ne' (fun e => e1 e.symm)]
    by_cases e2 : p = i
    · subst e2
      rw [getD_set_self' (by omega), h j (by omega), if_neg (by omega), if_pos (by omega), show l.length - 1 - p = j by omega]
    · rw [getD_set_ne' (fun e => e2 e.symm), h p hp]
      by_cases e3 : p < i ∨ l.length ≤ p + i
      · rw [if_pos e3, if_pos (by omega)]
      · rw [if_neg e3, if_neg (by omega)]
end Go.Nt
namespace Go.Proofs.YtpgkbipnkkeicaaDoor
open Go Go.Sx Go.Nt
theorem U8_snoc (l : List Nat) (r : Nat) : U8 (asc l) ++ [.int .u8 ((r + 48 : Nat) : Int)] = U8 (asc (l ++ [r])) := by simp [U8, asc]
theorem asc_rev (l : List Nat) : (asc l).reverse = asc l.reverse := by simp [asc]
theorem RdSl.bytes {I : IH} {rs : List Row} {ad : Addr} {l : List Nat} {c : Nat} (h : RdSl I 1 (.slice (some ad) l.length c) l.length (U8 l)) : Rq I rs (reqs ad (l.map fun (x : Nat) => Value.int .u8 (x : Int))) := Rq.immA (by
  obtain ⟨_, A', c', e, _, _, h5⟩ := h
  intro j u hu
  have h0 : l.length ≠ 0 := fun e0 => by
    rw [List.eq_nil_of_length_eq_zero e0] at hu; simp at hu
  obtain ⟨ad', e2, hc⟩ := h5 (Nat.pos_of_ne_zero h0)
  cases e
  cases e2
  have := hc j u hu
  exact this)
set_option maxRecDepth 100000 in
theorem reverse_c (I : IH) (g c : Nat) (l : List Nat) (hb : l.length ≤ 1000000) :
    Sx.Fn Tryd.prog 25 #[.slice (some ⟨g, 0, none⟩) l.length c] I [.own (some ⟨g, 0, none⟩) c 5 1 l.length (U8 l)] fun r I' rs' => I' = I ∧ rs' = [.own (some ⟨g, 0, none⟩) c 5 1 l.length (U8 l.reverse)] := by
  refine Fn.intro (n := 28) (args := [.slice (some ⟨g, 0, none⟩) l.length c]) (by kernel_rfl) Tryd.func25 rfl Tryd.ntmps25 (Nat.le_of_ble_eq_true rfl) [(0, .slice (some ⟨g, 0, none⟩) l.length c)] rfl (fun w0 => ?_)
  obtain ⟨n, hn⟩ : ∃ n, n = l.length := ⟨_, rfl⟩
  rw [← hn]
  repeat' (first
    | (refine SyC.seq ?_)
    | (refine SyC.region ?_)
    | (refine SyL.nil ?_)
    | (refine Then.norm ?_)
    | (refine SyC.block ?_)
    | (refine SyL.light (LV.move rfl) Rq.nil (.none rfl) rfl (ltB rfl) ?_)
    | (refine SyL.light (LV.assign rfl) Rq.nil (.none rfl) rfl (ltB rfl) ?_)
    | (refine SyL.light (LV.len (by apply rfl)) Rq.nil (.none rfl) rfl (ltB rfl) ?_)
    | (refine SyL.light (LV.arN rfl rfl rfl (by simp only [Fits]; omega)) Rq.nil (.none rfl) rfl (ltB rfl) ?_))
  refine SyC.loopD (fun q env I' rs => ∃ i W, ∃ j : Int, q = n - i ∧ j = (n : Int) - 1 - (i : Int) ∧ 2 * i ≤ n + 1 ∧ W.length = l.length ∧ Hd (∀ p, p < l.length → W.getD p 0 = if p < i ∨ l.length ≤ p + i then l.getD (l.length - 1 - p) 0 else l.getD p 0) ∧ I' = I ∧ rs = [.own (some ⟨g, 0, none⟩) c 5 1 n (U8 W)] ∧ env = [(2, .int .i64 (i : Nat)), (3, .int .i64 j), (0, .slice (some ⟨g, 0, none⟩) n c)]) n
    [(2, .int .i64 ((0 : Nat) : Int)), (3, .int .i64 ((n : Int) - 1)), (0, .slice (some ⟨g, 0, none⟩) n c)] (by repeat (first | exact trivial | refine ⟨rfl, ?_⟩))
    ⟨0, l, _, rfl, by simp, by omega, rfl, ⟨fun p hp => by rw [if_neg (by omega)]⟩, rfl, rfl, rfl⟩ ?_
  rintro q env I' rs ⟨i, W, j, rfl, hj, hi, hWl, hW, rfl, rfl, rfl⟩
  by_cases hij : (i : Int) < j
  · obtain ⟨jn, rfl⟩ : ∃ jn : Nat, j = (jn : Int) := ⟨j.toNat, by omega⟩
    have gi := U8_get (l := W) (j := i) (by omega)
    have gj := U8_get (l := W) (j := jn) (by omega)
    have hst := Hd.mk (rev_step (j := jn) hWl (by omega) (by omega) hW.out)
    have hUl : (U8 W).length = n := by rw [U8_len, hWl, hn]
    generalize W.getD i 0 = wi at *
    generalize W.getD jn 0 = wj at *
    clear hW
    repeat' (first
      | (refine SyC.seq ?_)
      | (refine SyC.region ?_)
      | (refine SyL.nil ?_)
      | (refine Then.norm ?_)
      | (refine InB.norm ?_)
      | (refine SyC.block ?_)
      | (refine SyC.skip ?_)
      | (refine SyC.draw (id := 3) (by kernel_rfl) (by kernel_rfl) ?_; refine D.light (i := 0) rfl (.on (.none rfl) (LV.move rfl)) Rq.nil (by kernel_rfl) rfl (ltB rfl) ?_; refine D.light (i := 1) rfl (.on (.none rfl) (LV.move rfl)) Rq.nil (by kernel_rfl) rfl (ltB rfl) ?_; refine D.light (i := 2) rfl (.on (.none rfl) (LV.move rfl)) Rq.nil (by kernel_rfl) rfl (ltB rfl) ?_; refine D.light (i := 3) rfl (.on (.none rfl) (LV.move rfl)) Rq.nil (by kernel_rfl) rfl (ltB rfl) ?_; refine D.light (i := 4) rfl (.on (.none rfl) (LV.move rfl)) Rq.nil (by kernel_rfl) rfl (ltB rfl) ?_; refine D.light (i := 5) rfl (.on (.none rfl) (LV.move rfl)) Rq.nil (by kernel_rfl) rfl (ltB rfl) ?_; refine D.light (i := 6) rfl (.on (.none rfl) (LV.idxBN (by apply rfl) (by apply rfl) (by omega))) Rq.nil (by kernel_rfl) rfl (ltB rfl) ?_; refine D.light (i := 7) rfl (.on (.none rfl) (LV.load rfl)) (Rq.own (List.mem_of_getElem? (i := 0) rfl) gj) (by kernel_rfl) rfl (ltB rfl) ?_; refine D.light (i := 8) rfl (.on (.none rfl) (LV.move rfl)) Rq.nil (by kernel_rfl) rfl (ltB rfl) ?_; refine D.light (i := 9) rfl (.on (.none rfl) (LV.move rfl)) Rq.nil (by kernel_rfl) rfl (ltB rfl) ?_; refine D.light (i := 10) rfl (.on (.none rfl) (LV.idxBN (by apply rfl) (by apply rfl) (by omega))) Rq.nil (by kernel_rfl) rfl (ltB rfl) ?_; refine D.light (i := 11) rfl (.on (.none rfl) (LV.load rfl)) (Rq.own (List.mem_of_getElem? (i := 0) rfl) gi) (by kernel_rfl) rfl (ltB rfl) ?_; refine D.light (i := 12) rfl (.on (.none rfl) (LV.idxBN (by apply rfl) (by apply rfl) (by omega))) Rq.nil (by kernel_rfl) rfl (ltB rfl) ?_; refine D.heavy0 (i := 13) rfl (OpT.storeOwn rfl rfl rfl (k := 0) rfl (by first | (simp; done) | (simp only [List.length_cons, List.length_nil, hUl, List.length_set]; done) | (simp only [List.length_cons, List.length_nil, hUl, List.length_set]; omega) | (simp; omega) | omega) ?_) (.none rfl) (by kernel_rfl) (by kernel_rfl) rfl (chg_bits (by kernel_rfl)); refine D.light (i := 14) rfl (.on (.none rfl) (LV.idxBN (by apply rfl) (by apply rfl) (by omega))) Rq.nil (by kernel_rfl) rfl (ltB rfl) ?_; refine D.heavy0 (i := 15) rfl (OpT.storeOwn rfl rfl rfl (k := 0) rfl (by first | (simp; done) | (simp only [List.length_cons, List.length_nil, hUl, List.length_set]; done) | (simp only [List.length_cons, List.length_nil, hUl, List.length_set]; omega) | (simp; omega) | omega) ?_) (.none rfl) (by kernel_rfl) (by kernel_rfl) rfl (chg_bits (by kernel_rfl)); refine D.fin (by kernel_rfl) ?_)
      | (refine SyL.light (LV.move rfl) Rq.nil (.none rfl) rfl (ltB rfl) ?_)
      | (refine SyL.light (LV.assign rfl) Rq.nil (.none rfl) rfl (ltB rfl) ?_)
      | (refine SyL.light (LV.cmp rfl rfl rfl) Rq.nil (.none rfl) rfl (ltB rfl) ?_)
      | (refine SyL.light (LV.arN rfl rfl rfl (by simp only [Fits]; omega)) Rq.nil (.none rfl) rfl (ltB rfl) ?_)
      | (refine SyC.condT rfl (by first | assumption | (with_reducible rfl) | decide | (simp only [decide_eq_true_eq, decide_eq_false_iff_not, Bool.not_eq_true', Bool.not_eq_false', beq_iff_eq, bne_iff_ne, ne_eq, beq_eq_false_iff_ne, bne_eq_false_iff_eq, Int.not_lt, Int.not_le, Bool.true_eq_false, Bool.false_eq_true, tb_one, tb_zero]; omega)) ?_))
    repeat (first | rw [List.set_cons_succ] | rw [List.set_cons_zero] | rw [U8_set])
    exact ⟨n - (i + 1), [(2, .int .i64 (i + 1 : Nat)), (3, .int .i64 ((jn : Int) - 1)), (0, .slice (some ⟨g, 0, none⟩) n c)], [.own (some ⟨g, 0, none⟩) c 5 1 n (U8 ((W.set i wj).set jn wi))], by omega, (by repeat (first | exact trivial | refine ⟨rfl, ?_⟩)), ⟨i + 1, (W.set i wj).set jn wi, _, rfl, by omega, by omega, by simpa using hWl, hst, rfl, rfl, rfl⟩, (by repeat (first | exact List.Sublist.refl _ | exact List.nil_sublist _ | refine List.Sublist.cons_cons _ ?_ | refine List.Sublist.cons _ ?_))⟩
  · have := rev_fin hWl (by omega) hW.out
    subst this
    subst hn
    repeat' (first
      | (refine SyC.seq ?_)
      | (refine SyC.region ?_)
      | (refine SyL.nil ?_)
      | (refine Then.norm ?_)
      | (refine Then.exit ?_)
      | (refine InB.hit ?_)
      | (refine SyC.exit ?_)
      | (refine SyL.light (LV.move rfl) Rq.nil (.none rfl) rfl (ltB rfl) ?_)
      | (refine SyL.light (LV.cmp rfl rfl rfl) Rq.nil (.none rfl) rfl (ltB rfl) ?_)
      | (refine SyC.condF rfl (by first | assumption | (with_reducible rfl) | decide | (simp only [decide_eq_true_eq, decide_eq_false_iff_not, Bool.not_eq_true', Bool.not_eq_false', beq_iff_eq, bne_iff_ne, ne_eq, beq_eq_false_iff_ne, bne_eq_false_iff_eq, Int.not_lt, Int.not_le, Bool.true_eq_false, Bool.false_eq_true, tb_one, tb_zero]; omega)) ?_))
    exact Ret.zeroS (by simp) Tryd.results25  (⟨rfl, rfl⟩) (by repeat (first | exact List.Sublist.refl _ | exact List.nil_sublist _ | refine List.Sublist.cons_cons _ ?_ | refine List.Sublist.cons _ ?_))
set_option maxRecDepth 100000 in
set_option maxHeartbeats 1000000 in
theorem natText_c (I : IH) (u : Value) (x : Nat) (hu : NatV I u x) (hbx : (digs x).length ≤ 10000) : PFn Tryd.prog 8 #[u] I fun r I' => r = S x := by
  have hul := hu
  obtain ⟨A, c, rfl, hu⟩ := hu
  have t1 := trimN_c I A c x hu
  have hz : (digs x).length = 0 ↔ x = 0 := digs_eq_nil
  refine Fn.intro (n := 45) (args := [.slice A (digs x).length c]) (by kernel_rfl) Tryd.func8 rfl Tryd.ntmps8 (Nat.le_of_ble_eq_true rfl) [(0, .slice A (digs x).length c)] rfl (fun w0 => ?_)
  by_cases hx0 : x = 0
  · have hl0 := hz.2 hx0
    generalize digs x = l at *
    repeat' (first
      | (refine SyC.seq ?_)
      | (refine SyC.region ?_)
      | (refine SyL.nil ?_)
      | (refine Then.norm ?_)
      | (refine Then.ret ?_)
      | (refine SyC.ret ?_)
      | (refine SyL.light (LV.move rfl) Rq.nil (by first | (apply Wn.none; rfl) | (refine Wn.yes rfl rfl rfl ?_; first | assumption | (with_reducible rfl) | decide | (simp only [decide_eq_true_eq, decide_eq_false_iff_not, Bool.not_eq_true', Bool.not_eq_false', beq_iff_eq, bne_iff_ne, ne_eq, beq_eq_false_iff_ne, bne_eq_false_iff_eq, Int.not_lt, Int.not_le, Bool.true_eq_false, Bool.false_eq_true, tb_one, tb_zero]; omega))) rfl (ltB rfl) ?_)
      | (refine SyL.light (LV.assign rfl) Rq.nil (by first | (apply Wn.none; rfl) | (refine Wn.yes rfl rfl rfl ?_; first | assumption | (with_reducible rfl) | decide | (simp only [decide_eq_true_eq, decide_eq_false_iff_not, Bool.not_eq_true', Bool.not_eq_false', beq_iff_eq, bne_iff_ne, ne_eq, beq_eq_false_iff_ne, bne_eq_false_iff_eq, Int.not_lt, Int.not_le, Bool.true_eq_false, Bool.false_eq_true, tb_one, tb_zero]; omega))) rfl (ltB rfl) ?_)
      | (refine SyL.light (LV.len (by apply rfl)) Rq.nil (by first | (apply Wn.none; rfl) | (refine Wn.yes rfl rfl rfl ?_; first | assumption | (with_reducible rfl) | decide | (simp only [decide_eq_true_eq, decide_eq_false_iff_not, Bool.not_eq_true', Bool.not_eq_false', beq_iff_eq, bne_iff_ne, ne_eq, beq_eq_false_iff_ne, bne_eq_false_iff_eq, Int.not_lt, Int.not_le, Bool.true_eq_false, Bool.false_eq_true, tb_one, tb_zero]; omega))) rfl (ltB rfl) ?_)
      | (refine SyL.light (LV.cmp rfl rfl rfl) Rq.nil (by first | (apply Wn.none; rfl) | (refine Wn.yes rfl rfl rfl ?_; first | assumption | (with_reducible rfl) | decide | (simp only [decide_eq_true_eq, decide_eq_false_iff_not, Bool.not_eq_true', Bool.not_eq_false', beq_iff_eq, bne_iff_ne, ne_eq, beq_eq_false_iff_ne, bne_eq_false_iff_eq, Int.not_lt, Int.not_le, Bool.true_eq_false, Bool.false_eq_true, tb_one, tb_zero]; omega))) rfl (ltB rfl) ?_)
      | (refine SyL.heavy (OpT.pcall rfl rfl (t1) ?_) (by first | (apply Wn.none; rfl) | (refine Wn.yes rfl rfl rfl ?_; first | assumption | (with_reducible rfl) | decide | (simp only [decide_eq_true_eq, decide_eq_false_iff_not, Bool.not_eq_true', Bool.not_eq_false', beq_iff_eq, bne_iff_ne, ne_eq, beq_eq_false_iff_ne, bne_eq_false_iff_eq, Int.not_lt, Int.not_le, Bool.true_eq_false, Bool.false_eq_true, tb_one, tb_zero]; omega))) rfl (ltB rfl); rintro v1 I1 - ⟨rfl, rfl⟩)
      | (refine SyC.condT rfl (by first | assumption | (with_reducible rfl) | decide | (simp only [decide_eq_true_eq, decide_eq_false_iff_not, Bool.not_eq_true', Bool.not_eq_false', beq_iff_eq, bne_iff_ne, ne_eq, beq_eq_false_iff_ne, bne_eq_false_iff_eq, Int.not_lt, Int.not_le, Bool.true_eq_false, Bool.false_eq_true, tb_one, tb_zero]; omega)) ?_))
    refine Ret.one (by simp) Tryd.results8 (.tmp rfl) ?_
    exact ⟨rfl, by rw [hx0]; rfl⟩
  have hl0 : (digs x).length ≠ 0 := fun e => hx0 (hz.1 e)
  have hlen := ld_len hbx
  obtain ⟨l, hl⟩ : ∃ l, digs x = l := ⟨_, rfl⟩
  rw [hl] at t1 hul hu hl0 ⊢
  repeat' (first
    | (refine SyC.seq ?_)
    | (refine SyC.region ?_)
    | (refine SyL.nil ?_)
    | (refine Then.norm ?_)
    | (refine SyC.block ?_)
    | (refine SyC.skip ?_)
    | (refine SyL.light (LV.move rfl) Rq.nil (by first | (apply Wn.none; rfl) | (refine Wn.yes rfl rfl rfl ?_; first | assumption | (with_reducible rfl) | decide | (simp only [decide_eq_true_eq, decide_eq_false_iff_not, Bool.not_eq_true', Bool.not_eq_false', beq_iff_eq, bne_iff_ne, ne_eq, beq_eq_false_iff_ne, bne_eq_false_iff_eq, Int.not_lt, Int.not_le, Bool.true_eq_false, Bool.false_eq_true, tb_one, tb_zero]; omega))) rfl (ltB rfl) ?_)
    | (refine SyL.light (LV.assign rfl) Rq.nil (by first | (apply Wn.none; rfl) | (refine Wn.yes rfl rfl rfl ?_; first | assumption | (with_reducible rfl) | decide | (simp only [decide_eq_true_eq, decide_eq_false_iff_not, Bool.not_eq_true', Bool.not_eq_false', beq_iff_eq, bne_iff_ne, ne_eq, beq_eq_false_iff_ne, bne_eq_false_iff_eq, Int.not_lt, Int.not_le, Bool.true_eq_false, Bool.false_eq_true, tb_one, tb_zero]; omega))) rfl (ltB rfl) ?_)
    | (refine SyL.light (LV.len (by apply rfl)) Rq.nil (by first | (apply Wn.none; rfl) | (refine Wn.yes rfl rfl rfl ?_; first | assumption | (with_reducible rfl) | decide | (simp only [decide_eq_true_eq, decide_eq_false_iff_not, Bool.not_eq_true', Bool.not_eq_false', beq_iff_eq, bne_iff_ne, ne_eq, beq_eq_false_iff_ne, bne_eq_false_iff_eq, Int.not_lt, Int.not_le, Bool.true_eq_false, Bool.false_eq_true, tb_one, tb_zero]; omega))) rfl (ltB rfl) ?_)
    | (refine SyL.light (LV.cmp rfl rfl rfl) Rq.nil (by first | (apply Wn.none; rfl) | (refine Wn.yes rfl rfl rfl ?_; first | assumption | (with_reducible rfl) | decide | (simp only [decide_eq_true_eq, decide_eq_false_iff_not, Bool.not_eq_true', Bool.not_eq_false', beq_iff_eq, bne_iff_ne, ne_eq, beq_eq_false_iff_ne, bne_eq_false_iff_eq, Int.not_lt, Int.not_le, Bool.true_eq_false, Bool.false_eq_true, tb_one, tb_zero]; omega))) rfl (ltB rfl) ?_)
    | (refine SyL.heavy (OpT.pcall rfl rfl (t1) ?_) (by first | (apply Wn.none; rfl) | (refine Wn.yes rfl rfl rfl ?_; first | assumption | (with_reducible rfl) | decide | (simp only [decide_eq_true_eq, decide_eq_false_iff_not, Bool.not_eq_true', Bool.not_eq_false', beq_iff_eq, bne_iff_ne, ne_eq, beq_eq_false_iff_ne, bne_eq_false_iff_eq, Int.not_lt, Int.not_le, Bool.true_eq_false, Bool.false_eq_true, tb_one, tb_zero]; omega))) rfl (ltB rfl); rintro v1 I1 - ⟨rfl, rfl⟩)
    | (refine SyC.condF rfl (by first | assumption | (with_reducible rfl) | decide | (simp only [decide_eq_true_eq, decide_eq_false_iff_not, Bool.not_eq_true', Bool.not_eq_false', beq_iff_eq, bne_iff_ne, ne_eq, beq_eq_false_iff_ne, bne_eq_false_iff_eq, Int.not_lt, Int.not_le, Bool.true_eq_false, Bool.false_eq_true, tb_one, tb_zero]; omega)) ?_))
  refine SyC.ownNil 5 1 ?_
  refine SyC.loopD (fun q env I' rs => ∃ y lb vy A2 c2, q = y ∧ NatV I' vy y ∧ (digs y).length ≤ 10000 ∧ Hd (lb ++ ld y = ld x) ∧ rs = [.own A2 c2 5 1 lb.length (U8 (asc lb))] ∧ env = [(0, vy), (3, .slice A2 lb.length c2)]) x
    _ (by repeat (first | exact trivial | refine ⟨rfl, ?_⟩)) ⟨x, [], _, none, 0, rfl, hul, hbx, ⟨rfl⟩, rfl, rfl⟩ ?_
  clear hul hu t1 hl hl0 hz l A c
  rintro q env I' rs ⟨y, lb, vy, A2, c2, rfl, hNy, hdy, hval, rfl, rfl⟩
  by_cases hy0 : q = 0
  ·
    --<A
    subst hy0
    have hv := hval.out
    rw [ld_zero, List.append_nil] at hv
    obtain ⟨A', c', rfl, hy⟩ := hNy
    rw [digs_zero] at hy ⊢
    have hlb : lb.length ≤ 100000 := by rw [hv]; omega
    have hlb0 : 0 < lb.length := by rw [hv, ld_pos hx0]; simp
    refine SyC.form (List.mem_of_getElem? (i := 0) rfl) hlb0 fun g hg => ?_
    subst hg
    have hdec : dec x = lb.reverse := by unfold dec; rw [if_neg hx0, hv]
    have hal := asc_len lb
    have hrl : (asc lb).reverse.length = lb.length := by simp [asc]
    rw [← hal] at hlb hlb0 ⊢
    have hrev := fun I'' => reverse_c I'' g c2 (asc lb) (by omega)
    unfold S
    rw [hdec, ← asc_rev]
    generalize asc lb = al at *
    repeat' (first
      | (refine SyC.seq ?_)
      | (refine SyC.region ?_)
      | (refine SyL.nil ?_)
      | (refine Then.norm ?_)
      | (refine Then.exit ?_)
      | (refine InB.hit ?_)
      | (refine SyC.exit ?_)
      | (refine SyL.light (LV.move rfl) Rq.nil (by first | (apply Wn.none; rfl) | (refine Wn.yes rfl rfl rfl ?_; first | assumption | (with_reducible rfl) | decide | (simp only [decide_eq_true_eq, decide_eq_false_iff_not, Bool.not_eq_true', Bool.not_eq_false', beq_iff_eq, bne_iff_ne, ne_eq, beq_eq_false_iff_ne, bne_eq_false_iff_eq, Int.not_lt, Int.not_le, Bool.true_eq_false, Bool.false_eq_true, tb_one, tb_zero]; omega))) rfl (ltB rfl) ?_)
      | (refine SyL.light (LV.len (by apply rfl)) Rq.nil (by first | (apply Wn.none; rfl) | (refine Wn.yes rfl rfl rfl ?_; first | assumption | (with_reducible rfl) | decide | (simp only [decide_eq_true_eq, decide_eq_false_iff_not, Bool.not_eq_true', Bool.not_eq_false', beq_iff_eq, bne_iff_ne, ne_eq, beq_eq_false_iff_ne, bne_eq_false_iff_eq, Int.not_lt, Int.not_le, Bool.true_eq_false, Bool.false_eq_true, tb_one, tb_zero]; omega))) rfl (ltB rfl) ?_)
      | (refine SyL.light (LV.cmp rfl rfl rfl) Rq.nil (by first | (apply Wn.none; rfl) | (refine Wn.yes rfl rfl rfl ?_; first | assumption | (with_reducible rfl) | decide | (simp only [decide_eq_true_eq, decide_eq_false_iff_not, Bool.not_eq_true', Bool.not_eq_false', beq_iff_eq, bne_iff_ne, ne_eq, beq_eq_false_iff_ne, bne_eq_false_iff_eq, Int.not_lt, Int.not_le, Bool.true_eq_false, Bool.false_eq_true, tb_one, tb_zero]; omega))) rfl (ltB rfl) ?_)
      | (refine SyL.heavy (OpT.call rfl rfl (hrev _) rfl ?_) (by first | (apply Wn.none; rfl) | (refine Wn.yes rfl rfl rfl ?_; first | assumption | (with_reducible rfl) | decide | (simp only [decide_eq_true_eq, decide_eq_false_iff_not, Bool.not_eq_true', Bool.not_eq_false', beq_iff_eq, bne_iff_ne, ne_eq, beq_eq_false_iff_ne, bne_eq_false_iff_eq, Int.not_lt, Int.not_le, Bool.true_eq_false, Bool.false_eq_true, tb_one, tb_zero]; omega))) rfl (ltB rfl); rintro v5 I5 rs5 - ⟨rfl, rfl⟩)
      | (refine SyC.condF rfl (by first | assumption | (with_reducible rfl) | decide | (simp only [decide_eq_true_eq, decide_eq_false_iff_not, Bool.not_eq_true', Bool.not_eq_false', beq_iff_eq, bne_iff_ne, ne_eq, beq_eq_false_iff_ne, bne_eq_false_iff_eq, Int.not_lt, Int.not_le, Bool.true_eq_false, Bool.false_eq_true, tb_one, tb_zero]; omega)) ?_))
    refine SyL.freezeOwn fun I9 hle9 hr9 => ?_
    have hr9' := hr9
    rw [← List.length_reverse] at hr9'
    rw [← List.length_reverse]
    have hq := RdSl.bytes (rs := []) hr9'
    generalize al.reverse = ar at *
    repeat' (first
      | ((refine SyL.light (LV.strOf rfl) hq (.none rfl) rfl (ltB rfl) ?_))
      | (refine SyL.nil ?_)
      | (refine Then.norm ?_)
      | (refine SyC.ret ?_)
      | (refine SyL.light (LV.assign rfl) Rq.nil (by first | (apply Wn.none; rfl) | (refine Wn.yes rfl rfl rfl ?_; first | assumption | (with_reducible rfl) | decide | (simp only [decide_eq_true_eq, decide_eq_false_iff_not, Bool.not_eq_true', Bool.not_eq_false', beq_iff_eq, bne_iff_ne, ne_eq, beq_eq_false_iff_ne, bne_eq_false_iff_eq, Int.not_lt, Int.not_le, Bool.true_eq_false, Bool.false_eq_true, tb_one, tb_zero]; omega))) rfl (ltB rfl) ?_))
    refine Ret.one (by simp) Tryd.results8 (.tmp rfl) ?_
    exact ⟨rfl, rfl⟩
    -->
  ·
    --<B
    have hs := natShort_c I' vy q 1000000000 hNy (by decide) (by decide) (by omega)
    have hyq : q / 1000000000 < q := Nat.div_lt_self (by omega) (by decide)
    have hdm := Nat.div_add_mod q 1000000000
    have hdr : q % 1000000000 < 1000000000 := Nat.mod_lt _ (by decide)
    have hdy' : (digs (q / 1000000000)).length ≤ 10000 := Nat.le_trans (digs_mono (Nat.le_of_lt hyq)) hdy
    have hv := hval.out
    rw [← hdm, Nat.mul_comm 1000000000] at hv
    replace hv := Hd.mk hv
    obtain ⟨A', c', rfl, hy⟩ := hNy
    have hz : (digs q).length ≠ 0 := fun e => hy0 (digs_eq_nil.1 e)
    generalize digs q = dq at *
    generalize q / 1000000000 = yq at *
    generalize q % 1000000000 = r0 at *
    repeat' (first
      | (refine SyC.seq ?_)
      | (refine SyC.region ?_)
      | (refine SyL.nil ?_)
      | (refine Then.norm ?_)
      | (refine SyC.block ?_)
      | (refine SyC.skip ?_)
      | (refine SyL.light (LV.move rfl) Rq.nil (by first | (apply Wn.none; rfl) | (refine Wn.yes rfl rfl rfl ?_; first | assumption | (with_reducible rfl) | decide | (simp only [decide_eq_true_eq, decide_eq_false_iff_not, Bool.not_eq_true', Bool.not_eq_false', beq_iff_eq, bne_iff_ne, ne_eq, beq_eq_false_iff_ne, bne_eq_false_iff_eq, Int.not_lt, Int.not_le, Bool.true_eq_false, Bool.false_eq_true, tb_one, tb_zero]; omega))) rfl (ltB rfl) ?_)
      | (refine SyL.light (LV.assign rfl) Rq.nil (by first | (apply Wn.none; rfl) | (refine Wn.yes rfl rfl rfl ?_; first | assumption | (with_reducible rfl) | decide | (simp only [decide_eq_true_eq, decide_eq_false_iff_not, Bool.not_eq_true', Bool.not_eq_false', beq_iff_eq, bne_iff_ne, ne_eq, beq_eq_false_iff_ne, bne_eq_false_iff_eq, Int.not_lt, Int.not_le, Bool.true_eq_false, Bool.false_eq_true, tb_one, tb_zero]; omega))) rfl (ltB rfl) ?_)
      | (refine SyL.light (LV.len (by apply rfl)) Rq.nil (by first | (apply Wn.none; rfl) | (refine Wn.yes rfl rfl rfl ?_; first | assumption | (with_reducible rfl) | decide | (simp only [decide_eq_true_eq, decide_eq_false_iff_not, Bool.not_eq_true', Bool.not_eq_false', beq_iff_eq, bne_iff_ne, ne_eq, beq_eq_false_iff_ne, bne_eq_false_iff_eq, Int.not_lt, Int.not_le, Bool.true_eq_false, Bool.false_eq_true, tb_one, tb_zero]; omega))) rfl (ltB rfl) ?_)
      | (refine SyL.light (LV.cmp rfl rfl rfl) Rq.nil (by first | (apply Wn.none; rfl) | (refine Wn.yes rfl rfl rfl ?_; first | assumption | (with_reducible rfl) | decide | (simp only [decide_eq_true_eq, decide_eq_false_iff_not, Bool.not_eq_true', Bool.not_eq_false', beq_iff_eq, bne_iff_ne, ne_eq, beq_eq_false_iff_ne, bne_eq_false_iff_eq, Int.not_lt, Int.not_le, Bool.true_eq_false, Bool.false_eq_true, tb_one, tb_zero]; omega))) rfl (ltB rfl) ?_)
      | (refine SyL.light (LV.extract rfl rfl) Rq.nil (by first | (apply Wn.none; rfl) | (refine Wn.yes rfl rfl rfl ?_; first | assumption | (with_reducible rfl) | decide | (simp only [decide_eq_true_eq, decide_eq_false_iff_not, Bool.not_eq_true', Bool.not_eq_false', beq_iff_eq, bne_iff_ne, ne_eq, beq_eq_false_iff_ne, bne_eq_false_iff_eq, Int.not_lt, Int.not_le, Bool.true_eq_false, Bool.false_eq_true, tb_one, tb_zero]; omega))) rfl (ltB rfl) ?_)
      | (refine SyL.heavy (OpT.pcall rfl rfl (hs) ?_) (by first | (apply Wn.none; rfl) | (refine Wn.yes rfl rfl rfl ?_; first | assumption | (with_reducible rfl) | decide | (simp only [decide_eq_true_eq, decide_eq_false_iff_not, Bool.not_eq_true', Bool.not_eq_false', beq_iff_eq, bne_iff_ne, ne_eq, beq_eq_false_iff_ne, bne_eq_false_iff_eq, Int.not_lt, Int.not_le, Bool.true_eq_false, Bool.false_eq_true, tb_one, tb_zero]; omega))) rfl (ltB rfl); rintro v3 I3 hle3 ⟨w, rfl, hN3⟩)
      | (refine SyC.condT rfl (by first | assumption | (with_reducible rfl) | decide | (simp only [decide_eq_true_eq, decide_eq_false_iff_not, Bool.not_eq_true', Bool.not_eq_false', beq_iff_eq, bne_iff_ne, ne_eq, beq_eq_false_iff_ne, bne_eq_false_iff_eq, Int.not_lt, Int.not_le, Bool.true_eq_false, Bool.false_eq_true, tb_one, tb_zero]; omega)) ?_))
    obtain ⟨A3, c3, rfl, hr3⟩ := hN3
    have hN3 : NatV I3 (.slice A3 (digs yq).length c3) yq := ⟨A3, c3, rfl, hr3⟩
    have hz3 : (digs yq).length = 0 ↔ yq = 0 := digs_eq_nil
    have hdy3 := hdy'
    generalize hdq : digs yq = dy at *
    refine SyC.loopD (fun m env I'' rs => ∃ i d lb A2 c2, m = 9 - i ∧ i ≤ 9 ∧ d < 10 ^ (9 - i) ∧ Hd (lb ++ ld (yq * 10 ^ (9 - i) + d) = ld x) ∧ I'' = I3 ∧ rs = [.own A2 c2 5 1 lb.length (U8 (asc lb))] ∧ env = [(4, .int .u32 (d : Nat)), (5, .int .i64 (i : Nat)), (0, .slice A3 dy.length c3), (3, .slice A2 lb.length c2)]) 9
      [(4, .int .u32 (r0 : Nat)), (5, .int .i64 ((0 : Nat) : Int)), (0, .slice A3 dy.length c3), (3, .slice A2 lb.length c2)] (by repeat (first | exact trivial | refine ⟨rfl, ?_⟩)) ⟨0, r0, lb, A2, c2, rfl, by omega, hdr, hv, rfl, rfl, rfl⟩ ?_
    clear hv hval lb A2 c2 hs hdr hdm r0 hy hz hdy
    rintro m env I'' rs ⟨i, d, lb, A2, c2, rfl, hi, hd, hval, rfl, rfl, rfl⟩
    have hd32 : d < 1000000000 := Nat.lt_of_lt_of_le hd (Nat.pow_le_pow_right (n := 10) (by decide) (show 9 - i ≤ 9 by omega))
    by_cases hi9 : i = 9
    · subst hi9
      have hd0 : d = 0 := by simpa using hd
      subst hd0
      have hv := hval.out
      rw [Nat.sub_self, Nat.pow_zero, Nat.mul_one, Nat.add_zero] at hv
      repeat' (first
        | ((refine SyL.offU rfl rfl rfl rfl (ltB rfl) ?_))
        | (refine SyC.seq ?_)
        | (refine SyC.region ?_)
        | (refine SyL.nil ?_)
        | (refine Then.norm ?_)
        | (refine Then.exit ?_)
        | (refine InB.norm ?_)
        | (refine InB.hit ?_)
        | (refine SyC.exit ?_)
        | (refine SyL.light (LV.move rfl) Rq.nil (by first | (apply Wn.none; rfl) | (refine Wn.yes rfl rfl rfl ?_; first | assumption | (with_reducible rfl) | decide | (simp only [decide_eq_true_eq, decide_eq_false_iff_not, Bool.not_eq_true', Bool.not_eq_false', beq_iff_eq, bne_iff_ne, ne_eq, beq_eq_false_iff_ne, bne_eq_false_iff_eq, Int.not_lt, Int.not_le, Bool.true_eq_false, Bool.false_eq_true, tb_one, tb_zero]; omega))) rfl (ltB rfl) ?_)
        | (refine SyL.offT rfl rfl rfl (by first | assumption | (with_reducible rfl) | decide | (simp only [decide_eq_true_eq, decide_eq_false_iff_not, Bool.not_eq_true', Bool.not_eq_false', beq_iff_eq, bne_iff_ne, ne_eq, beq_eq_false_iff_ne, bne_eq_false_iff_eq, Int.not_lt, Int.not_le, Bool.true_eq_false, Bool.false_eq_true, tb_one, tb_zero]; omega)) rfl (ltB rfl) ?_)
        | (refine SyL.light (LV.cmp rfl rfl rfl) Rq.nil (by first | (apply Wn.none; rfl) | (refine Wn.yes rfl rfl rfl ?_; first | assumption | (with_reducible rfl) | decide | (simp only [decide_eq_true_eq, decide_eq_false_iff_not, Bool.not_eq_true', Bool.not_eq_false', beq_iff_eq, bne_iff_ne, ne_eq, beq_eq_false_iff_ne, bne_eq_false_iff_eq, Int.not_lt, Int.not_le, Bool.true_eq_false, Bool.false_eq_true, tb_one, tb_zero]; omega))) rfl (ltB rfl) ?_)
        | (refine SyL.light (LV.pickF rfl (by first | assumption | (with_reducible rfl) | decide | (simp only [decide_eq_true_eq, decide_eq_false_iff_not, Bool.not_eq_true', Bool.not_eq_false', beq_iff_eq, bne_iff_ne, ne_eq, beq_eq_false_iff_ne, bne_eq_false_iff_eq, Int.not_lt, Int.not_le, Bool.true_eq_false, Bool.false_eq_true, tb_one, tb_zero]; omega)) rfl) Rq.nil (by first | (apply Wn.none; rfl) | (refine Wn.yes rfl rfl rfl ?_; first | assumption | (with_reducible rfl) | decide | (simp only [decide_eq_true_eq, decide_eq_false_iff_not, Bool.not_eq_true', Bool.not_eq_false', beq_iff_eq, bne_iff_ne, ne_eq, beq_eq_false_iff_ne, bne_eq_false_iff_eq, Int.not_lt, Int.not_le, Bool.true_eq_false, Bool.false_eq_true, tb_one, tb_zero]; omega))) rfl (ltB rfl) ?_)
        | (refine SyC.condF rfl (by first | assumption | (with_reducible rfl) | decide | (simp only [decide_eq_true_eq, decide_eq_false_iff_not, Bool.not_eq_true', Bool.not_eq_false', beq_iff_eq, bne_iff_ne, ne_eq, beq_eq_false_iff_ne, bne_eq_false_iff_eq, Int.not_lt, Int.not_le, Bool.true_eq_false, Bool.false_eq_true, tb_one, tb_zero]; omega)) ?_))
      exact ⟨yq, [(0, .slice A3 dy.length c3), (3, .slice A2 lb.length c2)], _, hyq, (by repeat (first | exact trivial | refine ⟨rfl, ?_⟩)), ⟨yq, lb, _, A2, c2, rfl, hN3, by rw [hdq]; exact hdy3, ⟨hv⟩, rfl, rfl⟩, (by repeat (first | exact List.Sublist.refl _ | exact List.nil_sublist _ | refine List.Sublist.cons_cons _ ?_ | refine List.Sublist.cons _ ?_))⟩
    by_cases hz0 : dy.length = 0 ∧ d = 0
    · obtain ⟨hz1, rfl⟩ := hz0
      have hyq0 := hz3.1 hz1
      have hv := hval.out
      rw [hyq0, Nat.zero_mul, Nat.add_zero, ← hyq0] at hv
      repeat' (first
        | (refine SyC.seq ?_)
        | (refine SyC.region ?_)
        | (refine SyL.nil ?_)
        | (refine Then.norm ?_)
        | (refine Then.exit ?_)
        | (refine InB.norm ?_)
        | (refine InB.hit ?_)
        | (refine SyC.exit ?_)
        | (refine SyL.light (LV.move rfl) Rq.nil (by first | (apply Wn.none; rfl) | (refine Wn.yes rfl rfl rfl ?_; first | assumption | (with_reducible rfl) | decide | (simp only [decide_eq_true_eq, decide_eq_false_iff_not, Bool.not_eq_true', Bool.not_eq_false', beq_iff_eq, bne_iff_ne, ne_eq, beq_eq_false_iff_ne, bne_eq_false_iff_eq, Int.not_lt, Int.not_le, Bool.true_eq_false, Bool.false_eq_true, tb_one, tb_zero]; omega))) rfl (ltB rfl) ?_)
        | (refine SyL.light (LV.len (by apply rfl)) Rq.nil (by first | (apply Wn.none; rfl) | (refine Wn.yes rfl rfl rfl ?_; first | assumption | (with_reducible rfl) | decide | (simp only [decide_eq_true_eq, decide_eq_false_iff_not, Bool.not_eq_true', Bool.not_eq_false', beq_iff_eq, bne_iff_ne, ne_eq, beq_eq_false_iff_ne, bne_eq_false_iff_eq, Int.not_lt, Int.not_le, Bool.true_eq_false, Bool.false_eq_true, tb_one, tb_zero]; omega))) rfl (ltB rfl) ?_)
        | (refine SyL.light (LV.cmp rfl rfl rfl) Rq.nil (by first | (apply Wn.none; rfl) | (refine Wn.yes rfl rfl rfl ?_; first | assumption | (with_reducible rfl) | decide | (simp only [decide_eq_true_eq, decide_eq_false_iff_not, Bool.not_eq_true', Bool.not_eq_false', beq_iff_eq, bne_iff_ne, ne_eq, beq_eq_false_iff_ne, bne_eq_false_iff_eq, Int.not_lt, Int.not_le, Bool.true_eq_false, Bool.false_eq_true, tb_one, tb_zero]; omega))) rfl (ltB rfl) ?_)
        | (refine SyL.light (LV.pickT rfl (by first | assumption | (with_reducible rfl) | decide | (simp only [decide_eq_true_eq, decide_eq_false_iff_not, Bool.not_eq_true', Bool.not_eq_false', beq_iff_eq, bne_iff_ne, ne_eq, beq_eq_false_iff_ne, bne_eq_false_iff_eq, Int.not_lt, Int.not_le, Bool.true_eq_false, Bool.false_eq_true, tb_one, tb_zero]; omega)) rfl) Rq.nil (by first | (apply Wn.none; rfl) | (refine Wn.yes rfl rfl rfl ?_; first | assumption | (with_reducible rfl) | decide | (simp only [decide_eq_true_eq, decide_eq_false_iff_not, Bool.not_eq_true', Bool.not_eq_false', beq_iff_eq, bne_iff_ne, ne_eq, beq_eq_false_iff_ne, bne_eq_false_iff_eq, Int.not_lt, Int.not_le, Bool.true_eq_false, Bool.false_eq_true, tb_one, tb_zero]; omega))) rfl (ltB rfl) ?_)
        | (refine SyL.light (LV.pickF rfl (by first | assumption | (with_reducible rfl) | decide | (simp only [decide_eq_true_eq, decide_eq_false_iff_not, Bool.not_eq_true', Bool.not_eq_false', beq_iff_eq, bne_iff_ne, ne_eq, beq_eq_false_iff_ne, bne_eq_false_iff_eq, Int.not_lt, Int.not_le, Bool.true_eq_false, Bool.false_eq_true, tb_one, tb_zero]; omega)) rfl) Rq.nil (by first | (apply Wn.none; rfl) | (refine Wn.yes rfl rfl rfl ?_; first | assumption | (with_reducible rfl) | decide | (simp only [decide_eq_true_eq, decide_eq_false_iff_not, Bool.not_eq_true', Bool.not_eq_false', beq_iff_eq, bne_iff_ne, ne_eq, beq_eq_false_iff_ne, bne_eq_false_iff_eq, Int.not_lt, Int.not_le, Bool.true_eq_false, Bool.false_eq_true, tb_one, tb_zero]; omega))) rfl (ltB rfl) ?_)
        | (refine SyC.condF rfl (by first | assumption | (with_reducible rfl) | decide | (simp only [decide_eq_true_eq, decide_eq_false_iff_not, Bool.not_eq_true', Bool.not_eq_false', beq_iff_eq, bne_iff_ne, ne_eq, beq_eq_false_iff_ne, bne_eq_false_iff_eq, Int.not_lt, Int.not_le, Bool.true_eq_false, Bool.false_eq_true, tb_one, tb_zero]; omega)) ?_))
      exact ⟨yq, [(0, .slice A3 dy.length c3), (3, .slice A2 lb.length c2)], _, hyq, (by repeat (first | exact trivial | refine ⟨rfl, ?_⟩)), ⟨yq, lb, _, A2, c2, rfl, hN3, by rw [hdq]; exact hdy3, ⟨hv⟩, rfl, rfl⟩, (by repeat (first | exact List.Sublist.refl _ | exact List.nil_sublist _ | refine List.Sublist.cons_cons _ ?_ | refine List.Sublist.cons _ ?_))⟩
    · obtain ⟨e, he⟩ : ∃ e, 9 - i = e + 1 := ⟨8 - i, by omega⟩
      have he2 : 9 - (i + 1) = e := by omega
      have hv := hval.out
      have hll : lb.length ≤ 100000 := by
        have := congrArg List.length hv
        rw [List.length_append] at this
        omega
      rw [he] at hd hv
      have hne : yq * 10 ^ (e + 1) + d ≠ 0 := by
        intro h0
        have h1 : yq * 10 ^ (e + 1) = 0 := by omega
        have h2 : yq = 0 := by
          rcases Nat.mul_eq_zero.1 h1 with h | h
          · exact h
          · have := Nat.pow_pos (n := e + 1) (show 0 < 10 by decide); omega
        exact hz0 ⟨hz3.2 h2, by omega⟩
      rw [ld_step hne] at hv
      have hd2 : d / 10 < 10 ^ (9 - (i + 1)) := by
        rw [he2]
        rw [Nat.pow_succ] at hd
        exact Nat.div_lt_of_lt_mul (by rw [Nat.mul_comm]; exact hd)
      have hnew : lb ++ ([d % 10] ++ ld (yq * 10 ^ (9 - (i + 1)) + d / 10)) = ld x := by rw [he2]; exact hv
      clear hv hval hne
      by_cases hz1 : dy.length = 0
      · have hd0 : 0 < d := by omega
        have hr : (d : Int) % 10 = ((d % 10 : Nat) : Int) := by omega
        have hq : (d : Int) / 10 = ((d / 10 : Nat) : Int) := by omega
        have hr3 : (48 : Int) + ((d % 10 : Nat) : Int) = ((d % 10 + 48 : Nat) : Int) := by omega
        have hrb : d % 10 < 10 := Nat.mod_lt _ (by decide)
        generalize d % 10 = r at *
        generalize d / 10 = d2 at *
        repeat' (first
          | (rw [hr])
          | (rw [hq])
          | (rw [hr3])
          | (refine SyC.seq ?_)
          | (refine SyC.region ?_)
          | (refine SyL.nil ?_)
          | (refine Then.norm ?_)
          | (refine InB.norm ?_)
          | (refine SyC.block ?_)
          | (refine SyC.skip ?_)
          | (refine SyL.light (LV.move rfl) Rq.nil (by first | (apply Wn.none; rfl) | (refine Wn.yes rfl rfl rfl ?_; first | assumption | (with_reducible rfl) | decide | (simp only [decide_eq_true_eq, decide_eq_false_iff_not, Bool.not_eq_true', Bool.not_eq_false', beq_iff_eq, bne_iff_ne, ne_eq, beq_eq_false_iff_ne, bne_eq_false_iff_eq, Int.not_lt, Int.not_le, Bool.true_eq_false, Bool.false_eq_true, tb_one, tb_zero]; omega))) rfl (ltB rfl) ?_)
          | (refine SyL.light (LV.assign rfl) Rq.nil (by first | (apply Wn.none; rfl) | (refine Wn.yes rfl rfl rfl ?_; first | assumption | (with_reducible rfl) | decide | (simp only [decide_eq_true_eq, decide_eq_false_iff_not, Bool.not_eq_true', Bool.not_eq_false', beq_iff_eq, bne_iff_ne, ne_eq, beq_eq_false_iff_ne, bne_eq_false_iff_eq, Int.not_lt, Int.not_le, Bool.true_eq_false, Bool.false_eq_true, tb_one, tb_zero]; omega))) rfl (ltB rfl) ?_)
          | (refine SyL.light (LV.len (by apply rfl)) Rq.nil (by first | (apply Wn.none; rfl) | (refine Wn.yes rfl rfl rfl ?_; first | assumption | (with_reducible rfl) | decide | (simp only [decide_eq_true_eq, decide_eq_false_iff_not, Bool.not_eq_true', Bool.not_eq_false', beq_iff_eq, bne_iff_ne, ne_eq, beq_eq_false_iff_ne, bne_eq_false_iff_eq, Int.not_lt, Int.not_le, Bool.true_eq_false, Bool.false_eq_true, tb_one, tb_zero]; omega))) rfl (ltB rfl) ?_)
          | (refine SyL.light (LV.cmp rfl rfl rfl) Rq.nil (by first | (apply Wn.none; rfl) | (refine Wn.yes rfl rfl rfl ?_; first | assumption | (with_reducible rfl) | decide | (simp only [decide_eq_true_eq, decide_eq_false_iff_not, Bool.not_eq_true', Bool.not_eq_false', beq_iff_eq, bne_iff_ne, ne_eq, beq_eq_false_iff_ne, bne_eq_false_iff_eq, Int.not_lt, Int.not_le, Bool.true_eq_false, Bool.false_eq_true, tb_one, tb_zero]; omega))) rfl (ltB rfl) ?_)
          | (refine SyL.light (LV.arN rfl rfl rfl (by simp only [Fits]; omega)) Rq.nil (by first | (apply Wn.none; rfl) | (refine Wn.yes rfl rfl rfl ?_; first | assumption | (with_reducible rfl) | decide | (simp only [decide_eq_true_eq, decide_eq_false_iff_not, Bool.not_eq_true', Bool.not_eq_false', beq_iff_eq, bne_iff_ne, ne_eq, beq_eq_false_iff_ne, bne_eq_false_iff_eq, Int.not_lt, Int.not_le, Bool.true_eq_false, Bool.false_eq_true, tb_one, tb_zero]; omega))) rfl (ltB rfl) ?_)
          | (refine SyL.light (LV.convN (by apply rfl) (by simp only [Fits]; omega)) Rq.nil (by first | (apply Wn.none; rfl) | (refine Wn.yes rfl rfl rfl ?_; first | assumption | (with_reducible rfl) | decide | (simp only [decide_eq_true_eq, decide_eq_false_iff_not, Bool.not_eq_true', Bool.not_eq_false', beq_iff_eq, bne_iff_ne, ne_eq, beq_eq_false_iff_ne, bne_eq_false_iff_eq, Int.not_lt, Int.not_le, Bool.true_eq_false, Bool.false_eq_true, tb_one, tb_zero]; omega))) rfl (ltB rfl) ?_)
          | (refine SyL.light (LV.remN rfl rfl (by omega) (by omega)) Rq.nil (by first | (apply Wn.none; rfl) | (refine Wn.yes rfl rfl rfl ?_; first | assumption | (with_reducible rfl) | decide | (simp only [decide_eq_true_eq, decide_eq_false_iff_not, Bool.not_eq_true', Bool.not_eq_false', beq_iff_eq, bne_iff_ne, ne_eq, beq_eq_false_iff_ne, bne_eq_false_iff_eq, Int.not_lt, Int.not_le, Bool.true_eq_false, Bool.false_eq_true, tb_one, tb_zero]; omega))) rfl (ltB rfl) ?_)
          | (refine SyL.light (LV.quoN rfl rfl (by omega) (by omega) (by simp only [Fits]; omega)) Rq.nil (by first | (apply Wn.none; rfl) | (refine Wn.yes rfl rfl rfl ?_; first | assumption | (with_reducible rfl) | decide | (simp only [decide_eq_true_eq, decide_eq_false_iff_not, Bool.not_eq_true', Bool.not_eq_false', beq_iff_eq, bne_iff_ne, ne_eq, beq_eq_false_iff_ne, bne_eq_false_iff_eq, Int.not_lt, Int.not_le, Bool.true_eq_false, Bool.false_eq_true, tb_one, tb_zero]; omega))) rfl (ltB rfl) ?_)
          | (refine SyL.light (LV.pickT rfl (by first | assumption | (with_reducible rfl) | decide | (simp only [decide_eq_true_eq, decide_eq_false_iff_not, Bool.not_eq_true', Bool.not_eq_false', beq_iff_eq, bne_iff_ne, ne_eq, beq_eq_false_iff_ne, bne_eq_false_iff_eq, Int.not_lt, Int.not_le, Bool.true_eq_false, Bool.false_eq_true, tb_one, tb_zero]; omega)) rfl) Rq.nil (by first | (apply Wn.none; rfl) | (refine Wn.yes rfl rfl rfl ?_; first | assumption | (with_reducible rfl) | decide | (simp only [decide_eq_true_eq, decide_eq_false_iff_not, Bool.not_eq_true', Bool.not_eq_false', beq_iff_eq, bne_iff_ne, ne_eq, beq_eq_false_iff_ne, bne_eq_false_iff_eq, Int.not_lt, Int.not_le, Bool.true_eq_false, Bool.false_eq_true, tb_one, tb_zero]; omega))) rfl (ltB rfl) ?_)
          | (refine SyL.light (LV.pickF rfl (by first | assumption | (with_reducible rfl) | decide | (simp only [decide_eq_true_eq, decide_eq_false_iff_not, Bool.not_eq_true', Bool.not_eq_false', beq_iff_eq, bne_iff_ne, ne_eq, beq_eq_false_iff_ne, bne_eq_false_iff_eq, Int.not_lt, Int.not_le, Bool.true_eq_false, Bool.false_eq_true, tb_one, tb_zero]; omega)) rfl) Rq.nil (by first | (apply Wn.none; rfl) | (refine Wn.yes rfl rfl rfl ?_; first | assumption | (with_reducible rfl) | decide | (simp only [decide_eq_true_eq, decide_eq_false_iff_not, Bool.not_eq_true', Bool.not_eq_false', beq_iff_eq, bne_iff_ne, ne_eq, beq_eq_false_iff_ne, bne_eq_false_iff_eq, Int.not_lt, Int.not_le, Bool.true_eq_false, Bool.false_eq_true, tb_one, tb_zero]; omega))) rfl (ltB rfl) ?_)
          | (refine SyL.heavy (OpT.buildSlice (xs := [_]) (vs := [_]) rfl rfl rfl (by simp [Value.cells]) (by decide) (fun g_ hg_ => ?_)) (by first | (apply Wn.none; rfl) | (refine Wn.yes rfl rfl rfl ?_; first | assumption | (with_reducible rfl) | decide | (simp only [decide_eq_true_eq, decide_eq_false_iff_not, Bool.not_eq_true', Bool.not_eq_false', beq_iff_eq, bne_iff_ne, ne_eq, beq_eq_false_iff_ne, bne_eq_false_iff_eq, Int.not_lt, Int.not_le, Bool.true_eq_false, Bool.false_eq_true, tb_one, tb_zero]; omega))) rfl (ltB rfl))
          | (refine SyL.heavy (OpT.append (by apply rfl) (by apply rfl) (k := 1) rfl (by first | (simp; done) | (simp only [List.length_cons, List.length_nil]; done) | (simp only [List.length_cons, List.length_nil]; omega) | (simp; omega) | omega) (Rq.blkAll (List.mem_of_getElem? (i := 0) rfl)) (by simp [Value.oneCell']) (by first | omega | (simp only [List.length_append, List.length_cons, List.length_nil]; omega)) (by first | omega | (simp only [List.length_append, List.length_cons, List.length_nil]; omega)) (by decide) (fun A_ c_ => ?_)) (by first | (apply Wn.none; rfl) | (refine Wn.yes rfl rfl rfl ?_; first | assumption | (with_reducible rfl) | decide | (simp only [decide_eq_true_eq, decide_eq_false_iff_not, Bool.not_eq_true', Bool.not_eq_false', beq_iff_eq, bne_iff_ne, ne_eq, beq_eq_false_iff_ne, bne_eq_false_iff_eq, Int.not_lt, Int.not_le, Bool.true_eq_false, Bool.false_eq_true, tb_one, tb_zero]; omega))) rfl (ltB rfl))
          | (refine SyC.condT rfl (by first | assumption | (with_reducible rfl) | decide | (simp only [decide_eq_true_eq, decide_eq_false_iff_not, Bool.not_eq_true', Bool.not_eq_false', beq_iff_eq, bne_iff_ne, ne_eq, beq_eq_false_iff_ne, bne_eq_false_iff_eq, Int.not_lt, Int.not_le, Bool.true_eq_false, Bool.false_eq_true, tb_one, tb_zero]; omega)) ?_))
        rw [U8_snoc, show lb.length + 1 = (lb ++ [r]).length from by simp]
        exact ⟨9 - (i + 1), [(4, .int .u32 (d2 : Nat)), (5, .int .i64 (i + 1 : Nat)), (0, .slice A3 dy.length c3), (3, .slice A_ (lb ++ [r]).length c_)], [.own A_ c_ 5 1 (lb ++ [r]).length (U8 (asc (lb ++ [r])))], by omega, (by repeat (first | exact trivial | refine ⟨rfl, ?_⟩)), ⟨i + 1, d2, lb ++ [r], A_, c_, rfl, by omega, hd2, ⟨by rw [List.append_assoc]; exact hnew⟩, rfl, rfl, rfl⟩, (by repeat (first | exact List.Sublist.refl _ | exact List.nil_sublist _ | refine List.Sublist.cons_cons _ ?_ | refine List.Sublist.cons _ ?_))⟩
      · have hz2 : 0 < dy.length := by omega
        have hr : (d : Int) % 10 = ((d % 10 : Nat) : Int) := by omega
        have hq : (d : Int) / 10 = ((d / 10 : Nat) : Int) := by omega
        have hr3 : (48 : Int) + ((d % 10 : Nat) : Int) = ((d % 10 + 48 : Nat) : Int) := by omega
        have hrb : d % 10 < 10 := Nat.mod_lt _ (by decide)
        generalize d % 10 = r at *
        generalize d / 10 = d2 at *
        repeat' (first
          | (rw [hr])
          | (rw [hq])
          | (rw [hr3])
          | (refine SyC.seq ?_)
          | (refine SyC.region ?_)
          | (refine SyL.nil ?_)
          | (refine Then.norm ?_)
          | (refine InB.norm ?_)
          | (refine SyC.block ?_)
          | (refine SyC.skip ?_)
          | (refine SyL.light (LV.move rfl) Rq.nil (by first | (apply Wn.none; rfl) | (refine Wn.yes rfl rfl rfl ?_; first | assumption | (with_reducible rfl) | decide | (simp only [decide_eq_true_eq, decide_eq_false_iff_not, Bool.not_eq_true', Bool.not_eq_false', beq_iff_eq, bne_iff_ne, ne_eq, beq_eq_false_iff_ne, bne_eq_false_iff_eq, Int.not_lt, Int.not_le, Bool.true_eq_false, Bool.false_eq_true, tb_one, tb_zero]; omega))) rfl (ltB rfl) ?_)
          | (refine SyL.light (LV.assign rfl) Rq.nil (by first | (apply Wn.none; rfl) | (refine Wn.yes rfl rfl rfl ?_; first | assumption | (with_reducible rfl) | decide | (simp only [decide_eq_true_eq, decide_eq_false_iff_not, Bool.not_eq_true', Bool.not_eq_false', beq_iff_eq, bne_iff_ne, ne_eq, beq_eq_false_iff_ne, bne_eq_false_iff_eq, Int.not_lt, Int.not_le, Bool.true_eq_false, Bool.false_eq_true, tb_one, tb_zero]; omega))) rfl (ltB rfl) ?_)
          | (refine SyL.offF rfl rfl rfl (by first | assumption | (with_reducible rfl) | decide | (simp only [decide_eq_true_eq, decide_eq_false_iff_not, Bool.not_eq_true', Bool.not_eq_false', beq_iff_eq, bne_iff_ne, ne_eq, beq_eq_false_iff_ne, bne_eq_false_iff_eq, Int.not_lt, Int.not_le, Bool.true_eq_false, Bool.false_eq_true, tb_one, tb_zero]; omega)) rfl (ltB rfl) ?_)
          | (refine SyL.light (LV.len (by apply rfl)) Rq.nil (by first | (apply Wn.none; rfl) | (refine Wn.yes rfl rfl rfl ?_; first | assumption | (with_reducible rfl) | decide | (simp only [decide_eq_true_eq, decide_eq_false_iff_not, Bool.not_eq_true', Bool.not_eq_false', beq_iff_eq, bne_iff_ne, ne_eq, beq_eq_false_iff_ne, bne_eq_false_iff_eq, Int.not_lt, Int.not_le, Bool.true_eq_false, Bool.false_eq_true, tb_one, tb_zero]; omega))) rfl (ltB rfl) ?_)
          | (refine SyL.light (LV.cmp rfl rfl rfl) Rq.nil (by first | (apply Wn.none; rfl) | (refine Wn.yes rfl rfl rfl ?_; first | assumption | (with_reducible rfl) | decide | (simp only [decide_eq_true_eq, decide_eq_false_iff_not, Bool.not_eq_true', Bool.not_eq_false', beq_iff_eq, bne_iff_ne, ne_eq, beq_eq_false_iff_ne, bne_eq_false_iff_eq, Int.not_lt, Int.not_le, Bool.true_eq_false, Bool.false_eq_true, tb_one, tb_zero]; omega))) rfl (ltB rfl) ?_)
          | (refine SyL.light (LV.arN rfl rfl rfl (by simp only [Fits]; omega)) Rq.nil (by first | (apply Wn.none; rfl) | (refine Wn.yes rfl rfl rfl ?_; first | assumption | (with_reducible rfl) | decide | (simp only [decide_eq_true_eq, decide_eq_false_iff_not, Bool.not_eq_true', Bool.not_eq_false', beq_iff_eq, bne_iff_ne, ne_eq, beq_eq_false_iff_ne, bne_eq_false_iff_eq, Int.not_lt, Int.not_le, Bool.true_eq_false, Bool.false_eq_true, tb_one, tb_zero]; omega))) rfl (ltB rfl) ?_)
          | (refine SyL.light (LV.convN (by apply rfl) (by simp only [Fits]; omega)) Rq.nil (by first | (apply Wn.none; rfl) | (refine Wn.yes rfl rfl rfl ?_; first | assumption | (with_reducible rfl) | decide | (simp only [decide_eq_true_eq, decide_eq_false_iff_not, Bool.not_eq_true', Bool.not_eq_false', beq_iff_eq, bne_iff_ne, ne_eq, beq_eq_false_iff_ne, bne_eq_false_iff_eq, Int.not_lt, Int.not_le, Bool.true_eq_false, Bool.false_eq_true, tb_one, tb_zero]; omega))) rfl (ltB rfl) ?_)
          | (refine SyL.light (LV.remN rfl rfl (by omega) (by omega)) Rq.nil (by first | (apply Wn.none; rfl) | (refine Wn.yes rfl rfl rfl ?_; first | assumption | (with_reducible rfl) | decide | (simp only [decide_eq_true_eq, decide_eq_false_iff_not, Bool.not_eq_true', Bool.not_eq_false', beq_iff_eq, bne_iff_ne, ne_eq, beq_eq_false_iff_ne, bne_eq_false_iff_eq, Int.not_lt, Int.not_le, Bool.true_eq_false, Bool.false_eq_true, tb_one, tb_zero]; omega))) rfl (ltB rfl) ?_)
          | (refine SyL.light (LV.quoN rfl rfl (by omega) (by omega) (by simp only [Fits]; omega)) Rq.nil (by first | (apply Wn.none; rfl) | (refine Wn.yes rfl rfl rfl ?_; first | assumption | (with_reducible rfl) | decide | (simp only [decide_eq_true_eq, decide_eq_false_iff_not, Bool.not_eq_true', Bool.not_eq_false', beq_iff_eq, bne_iff_ne, ne_eq, beq_eq_false_iff_ne, bne_eq_false_iff_eq, Int.not_lt, Int.not_le, Bool.true_eq_false, Bool.false_eq_true, tb_one, tb_zero]; omega))) rfl (ltB rfl) ?_)
          | (refine SyL.light (LV.pickT rfl (by first | assumption | (with_reducible rfl) | decide | (simp only [decide_eq_true_eq, decide_eq_false_iff_not, Bool.not_eq_true', Bool.not_eq_false', beq_iff_eq, bne_iff_ne, ne_eq, beq_eq_false_iff_ne, bne_eq_false_iff_eq, Int.not_lt, Int.not_le, Bool.true_eq_false, Bool.false_eq_true, tb_one, tb_zero]; omega)) rfl) Rq.nil (by first | (apply Wn.none; rfl) | (refine Wn.yes rfl rfl rfl ?_; first | assumption | (with_reducible rfl) | decide | (simp only [decide_eq_true_eq, decide_eq_false_iff_not, Bool.not_eq_true', Bool.not_eq_false', beq_iff_eq, bne_iff_ne, ne_eq, beq_eq_false_iff_ne, bne_eq_false_iff_eq, Int.not_lt, Int.not_le, Bool.true_eq_false, Bool.false_eq_true, tb_one, tb_zero]; omega))) rfl (ltB rfl) ?_)
          | (refine SyL.heavy (OpT.buildSlice (xs := [_]) (vs := [_]) rfl rfl rfl (by simp [Value.cells]) (by decide) (fun g_ hg_ => ?_)) (by first | (apply Wn.none; rfl) | (refine Wn.yes rfl rfl rfl ?_; first | assumption | (with_reducible rfl) | decide | (simp only [decide_eq_true_eq, decide_eq_false_iff_not, Bool.not_eq_true', Bool.not_eq_false', beq_iff_eq, bne_iff_ne, ne_eq, beq_eq_false_iff_ne, bne_eq_false_iff_eq, Int.not_lt, Int.not_le, Bool.true_eq_false, Bool.false_eq_true, tb_one, tb_zero]; omega))) rfl (ltB rfl))
          | (refine SyL.heavy (OpT.append (by apply rfl) (by apply rfl) (k := 1) rfl (by first | (simp; done) | (simp only [List.length_cons, List.length_nil]; done) | (simp only [List.length_cons, List.length_nil]; omega) | (simp; omega) | omega) (Rq.blkAll (List.mem_of_getElem? (i := 0) rfl)) (by simp [Value.oneCell']) (by first | omega | (simp only [List.length_append, List.length_cons, List.length_nil]; omega)) (by first | omega | (simp only [List.length_append, List.length_cons, List.length_nil]; omega)) (by decide) (fun A_ c_ => ?_)) (by first | (apply Wn.none; rfl) | (refine Wn.yes rfl rfl rfl ?_; first | assumption | (with_reducible rfl) | decide | (simp only [decide_eq_true_eq, decide_eq_false_iff_not, Bool.not_eq_true', Bool.not_eq_false', beq_iff_eq, bne_iff_ne, ne_eq, beq_eq_false_iff_ne, bne_eq_false_iff_eq, Int.not_lt, Int.not_le, Bool.true_eq_false, Bool.false_eq_true, tb_one, tb_zero]; omega))) rfl (ltB rfl))
          | (refine SyC.condT rfl (by first | assumption | (with_reducible rfl) | decide | (simp only [decide_eq_true_eq, decide_eq_false_iff_not, Bool.not_eq_true', Bool.not_eq_false', beq_iff_eq, bne_iff_ne, ne_eq, beq_eq_false_iff_ne, bne_eq_false_iff_eq, Int.not_lt, Int.not_le, Bool.true_eq_false, Bool.false_eq_true, tb_one, tb_zero]; omega)) ?_))
        rw [U8_snoc, show lb.length + 1 = (lb ++ [r]).length from by simp]
        exact ⟨9 - (i + 1), [(4, .int .u32 (d2 : Nat)), (5, .int .i64 (i + 1 : Nat)), (0, .slice A3 dy.length c3), (3, .slice A_ (lb ++ [r]).length c_)], [.own A_ c_ 5 1 (lb ++ [r]).length (U8 (asc (lb ++ [r])))], by omega, (by repeat (first | exact trivial | refine ⟨rfl, ?_⟩)), ⟨i + 1, d2, lb ++ [r], A_, c_, rfl, by omega, hd2, ⟨by rw [List.append_assoc]; exact hnew⟩, rfl, rfl, rfl⟩, (by repeat (first | exact List.Sublist.refl _ | exact List.nil_sublist _ | refine List.Sublist.cons_cons _ ?_ | refine List.Sublist.cons _ ?_))⟩
    -->
end Go.Proofs.YtpgkbipnkkeicaaDoor
