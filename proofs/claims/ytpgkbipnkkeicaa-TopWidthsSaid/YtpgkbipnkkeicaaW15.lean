import Derived.Test.YtpgkbipnkkeicaaW14
set_option linter.unusedSimpArgs false
set_option linter.unusedVariables false
/-! slices.DeleteFunc, Lower. -/
namespace Go.Gr
theorem first_ex {p : Nat → Bool} : ∀ {n : Nat}, (∃ k, k < n ∧ p k = true) → ∃ k, k < n ∧ p k = true ∧ ∀ i, i < k → p i = false
  | 0, ⟨_, h, _⟩ => by omega
  | n + 1, ⟨k, h1, h2⟩ => by
    by_cases h : ∃ k, k < n ∧ p k = true
    · obtain ⟨j, h3, h4, h5⟩ := first_ex h
      exact ⟨j, by omega, h4, h5⟩
    · have hk : k = n := by
        apply Classical.byContradiction
        intro hn
        exact h ⟨k, by omega, h2⟩
      subst hk
      refine ⟨k, by omega, h2, fun i hi => ?_⟩
      cases hp : p i
      · rfl
      · exact absurd ⟨i, hi, hp⟩ h
theorem set_take_succ {α : Type} {l : List α} {i : Nat} (h : i < l.length) (v : α) : (l.set i v).take (i + 1) = l.take i ++ [v] := by
  rw [List.take_succ_eq_append_getElem (by simpa using h), List.getElem_set_self, List.take_set_of_le (Nat.le_refl _)]
theorem set_drop {α : Type} {l : List α} {i j : Nat} (h : i < j) (v : α) : (l.set i v).drop j = l.drop j := by
  apply List.ext_getElem?
  intro k
  rw [List.getElem?_drop, List.getElem?_drop, List.getElem?_set_ne (by omega)]
theorem drop_succ_of {α : Type} {l m : List α} {j : Nat} (h : l.drop j = m.drop j) : l.drop (j + 1) = m.drop (j + 1) := by
  rw [← List.drop_drop, ← List.drop_drop, h]
theorem get_of_drop {α : Type} {l m : List α} {j : Nat} (h : l.drop j = m.drop j) : l[j]? = m[j]? := by
  have := congrArg (fun x => x[0]?) h
  simpa [List.getElem?_drop] using this
end Go.Gr
namespace Go.Proofs.Ytpgkbipnkkeicaa
open Go Go.Sx Go.Gr
attribute [local irreducible] popN

set_option maxRecDepth 100000 in
set_option maxHeartbeats 4000000 in
theorem delFunc_c (I : IH) (rest : List Row) (g c : Nat) (l : List Nat) (hl : l.length ≤ 1000) (f : FuncId) (caps : Array Value) (p : Nat → Bool) (hex : ∃ k, k < l.length ∧ p (l.getD k 0) = true)
    (hf : ∀ (I' : IH) (cs : List Value) x, I.le I' → Sx.Fn Try.prog f (#[] ++ [Value.int .i64 (x : Nat)].toArray ++ caps) I' (.own (some ⟨g, 0, none⟩) c 3 1 l.length cs :: rest) fun v I'' rs' => v = .bool (p x) ∧ rs' = .own (some ⟨g, 0, none⟩) c 3 1 l.length cs :: rest) :
    Sx.Fn Try.prog 129 #[.slice (some ⟨g, 0, none⟩) l.length c, .func (.func f) #[] caps] I (.own (some ⟨g, 0, none⟩) c 3 1 l.length (N64 l) :: rest)
      fun v I' rs' => v = .slice (some ⟨g, 0, none⟩) (l.filter fun x => !p x).length c ∧ rs' = .own (some ⟨g, 0, none⟩) c 3 1 (l.filter fun x => !p x).length (N64 (l.filter fun x => !p x)) :: rest := by
  obtain ⟨i0, hi0, hp0, hpf⟩ := first_ex (p := fun k => p (l.getD k 0)) hex
  have hidx := idxR_c I (.own (some ⟨g, 0, none⟩) c 3 1 l.length (N64 l) :: rest) (some ⟨g, 0, none⟩) l.length c l rfl hl (fun I' => ownRead (List.mem_of_getElem? (i := 0) rfl)) f caps p (fun j I' hle hj => hf I' _ _ hle)
  rw [ffind_some hi0 hpf hp0] at hidx
  refine Fn.intro (n := 42) (args := [.slice (some ⟨g, 0, none⟩) l.length c, .func (.func f) #[] caps]) (by kernel_rfl) Try.func129 rfl Try.ntmps129 (Nat.le_of_ble_eq_true rfl) [(0, .slice (some ⟨g, 0, none⟩) l.length c), (1, .func (.func f) #[] caps)] rfl (fun w0 => ?_)
  refine SyC.ownLen (List.mem_of_getElem? (i := 0) rfl) fun _ hcap1 hcap2 => ?_
  repeat' (first
    | (refine SyC.seq ?_)
    | (refine SyC.region ?_)
    | (refine SyL.nil ?_)
    | (refine Then.norm ?_)
    | (refine SyC.block ?_)
    | (refine SyC.skip ?_)
    | (refine SyL.light (LV.move rfl) Rq.nil (.none rfl) rfl (ltB rfl) ?_)
    | (refine SyL.light (LV.assign rfl) Rq.nil (.none rfl) rfl (ltB rfl) ?_)
    | (refine SyL.light (LV.cmp rfl rfl rfl) Rq.nil (.none rfl) rfl (ltB rfl) ?_)
    | (refine SyL.light (LV.arN rfl rfl rfl (by simp only [Fits]; omega)) Rq.nil (.none rfl) rfl (ltB rfl) ?_)
    | (refine SyL.heavy (OpT.callA rfl rfl (hidx) ?_) (.none rfl) rfl (ltB rfl); rintro v1 I1 rs1 hle1 ⟨rfl, rfl⟩)
    | (refine SyC.condF rfl (by first | assumption | (with_reducible rfl) | decide | (simp only [decide_eq_true_eq, decide_eq_false_iff_not, Bool.not_eq_true', Bool.not_eq_false', beq_iff_eq, bne_iff_ne, ne_eq, beq_eq_false_iff_ne, bne_eq_false_iff_eq, Int.not_lt, Int.not_le, Bool.true_eq_false, Bool.false_eq_true, tb_one, tb_zero]; omega)) ?_))
  have hfirst : (l.take (i0 + 1)).filter (fun x => !p x) = l.take i0 := by
    rw [filter_take hi0]
    simp only [hp0, Bool.not_true, Bool.false_eq_true, if_false, List.append_nil]
    rw [List.filter_eq_self]
    intro x hx
    obtain ⟨k, hk⟩ := List.mem_iff_getElem?.1 hx
    rw [List.getElem?_take] at hk
    split at hk
    · rename_i hki
      have := hpf k hki
      rw [List.getD_eq_getElem?_getD, hk] at this
      simpa using this
    · cases hk
  have hlen0 : ((l.take (i0 + 1)).filter (fun x => !p x)).length = i0 := by rw [hfirst, List.length_take]; omega
  refine SyC.loop (fun m env I' rs => ∃ i j cs, m = l.length - j ∧ i < j ∧ j ≤ l.length ∧ cs.length = l.length ∧ cs.take i = N64 ((l.take j).filter fun x => !p x) ∧ cs.drop j = (N64 l).drop j ∧ ((l.take j).filter fun x => !p x).length = i ∧ I.le I' ∧
    rs = .own (some ⟨g, 0, none⟩) c 3 1 l.length cs :: rest ∧ env = [(6, .int .i64 (j : Nat)), (5, .int .i64 (i : Nat)), (0, .slice (some ⟨g, 0, none⟩) l.length c), (1, .func (.func f) #[] caps)]) (l.length - (i0 + 1))
    [(6, .int .i64 (i0 + 1 : Nat)), (5, .int .i64 (i0 : Nat)), (0, .slice (some ⟨g, 0, none⟩) l.length c), (1, .func (.func f) #[] caps)] (by repeat (first | exact trivial | refine ⟨rfl, ?_⟩)) ⟨i0, i0 + 1, N64 l, rfl, by omega, by omega, by simp [N64], by rw [hfirst]; simp [N64, List.map_take], rfl, hlen0, hle1, rfl, rfl⟩ ?_
  rintro m env I' rs ⟨i, j, cs, rfl, hij, hj, hcl, ht, hd, hfl, hle, rfl, rfl⟩
  by_cases hlt : j < l.length
  · have hst := Hd.mk (filter_take (p := fun x => !p x) hlt)
    have hgx : cs[j]? = some (.int .i64 ((l.getD j 0 : Nat) : Int)) := by rw [get_of_drop hd]; exact N64_get hlt
    generalize l.getD j 0 = x at hst hgx
    cases hpx : p x
    · have hst' : (l.take (j + 1)).filter (fun x => !p x) = ((l.take j).filter fun x => !p x) ++ [x] := by rw [hst.out]; simp [hpx]
      have hH := Hd.mk hst'
      clear hst' hst
      have ht' := Hd.mk ht
      have hd' := Hd.mk hd
      clear ht hd
      repeat' (first
        | (refine SyC.seq ?_)
        | (refine SyC.region ?_)
        | (refine SyL.nil ?_)
        | (refine Then.norm ?_)
        | (refine InB.norm ?_)
        | (refine SyC.block ?_)
        | (refine SyC.skip ?_)
        | (refine SyL.light (LV.move rfl) Rq.nil (.none rfl) rfl (ltB rfl) ?_)
        | (refine SyL.light (LV.assign rfl) Rq.nil (.none rfl) rfl (ltB rfl) ?_)
        | (refine SyL.light (LV.len (by apply rfl)) Rq.nil (.none rfl) rfl (ltB rfl) ?_)
        | (refine SyL.light (LV.cmp rfl rfl rfl) Rq.nil (.none rfl) rfl (ltB rfl) ?_)
        | (refine SyL.light (LV.arN rfl rfl rfl (by simp only [Fits]; omega)) Rq.nil (.none rfl) rfl (ltB rfl) ?_)
        | (refine SyL.light (LV.not rfl) Rq.nil (.none rfl) rfl (ltB rfl) ?_)
        | (refine SyL.light (LV.idxBN (by apply rfl) (by apply rfl) (by omega)) Rq.nil (.none rfl) rfl (ltB rfl) ?_)
        | (refine SyL.light (LV.load rfl) (Rq.own (List.mem_of_getElem? (i := 0) rfl) hgx) (.none rfl) rfl (ltB rfl) ?_)
        | (refine SyL.heavy0 (OpT.storeOwn rfl rfl rfl (k := 0) rfl (by first | (simp; done) | (simp only [List.length_cons, List.length_nil]; done) | (simp only [List.length_cons, List.length_nil]; omega) | (simp; omega) | omega) ?_) (.none rfl) rfl)
        | (refine SyL.heavy (OpT.callA rfl rfl (hf _ cs x hle) ?_) (.none rfl) rfl (ltB rfl); rintro v2 I2 rs2 hle2 ⟨rfl, rfl⟩)
        | (refine SyC.condT rfl (by first | assumption | (with_reducible rfl) | decide | (simp only [decide_eq_true_eq, decide_eq_false_iff_not, Bool.not_eq_true', Bool.not_eq_false', beq_iff_eq, bne_iff_ne, ne_eq, beq_eq_false_iff_ne, bne_eq_false_iff_eq, Int.not_lt, Int.not_le, Bool.true_eq_false, Bool.false_eq_true, tb_one, tb_zero]; omega)) ?_))
      refine ⟨l.length - (j + 1), [(6, .int .i64 (j + 1 : Nat)), (5, .int .i64 (i + 1 : Nat)), (0, .slice (some ⟨g, 0, none⟩) l.length c), (1, .func (.func f) #[] caps)], by omega, (by repeat (first | exact trivial | refine ⟨rfl, ?_⟩)), i + 1, j + 1, cs.set i (.int .i64 (x : Nat)), rfl, by omega, by omega, by simpa using hcl, ?_, ?_, ?_, hle.trans hle2, rfl, rfl⟩
      · rw [set_take_succ (by omega), ht'.out, hH.out, N64_snoc]
      · rw [set_drop (by omega)]; exact drop_succ_of hd'.out
      · rw [hH.out, List.length_append, hfl]; rfl
    · have hst' : (l.take (j + 1)).filter (fun x => !p x) = ((l.take j).filter fun x => !p x) := by rw [hst.out]; simp [hpx]
      have hH := Hd.mk hst'
      clear hst' hst
      have ht' := Hd.mk ht
      have hd' := Hd.mk hd
      clear ht hd
      repeat' (first
        | (refine SyC.seq ?_)
        | (refine SyC.region ?_)
        | (refine SyL.nil ?_)
        | (refine Then.norm ?_)
        | (refine InB.norm ?_)
        | (refine SyC.block ?_)
        | (refine SyC.skip ?_)
        | (refine SyL.light (LV.move rfl) Rq.nil (.none rfl) rfl (ltB rfl) ?_)
        | (refine SyL.light (LV.assign rfl) Rq.nil (.none rfl) rfl (ltB rfl) ?_)
        | (refine SyL.light (LV.len (by apply rfl)) Rq.nil (.none rfl) rfl (ltB rfl) ?_)
        | (refine SyL.light (LV.cmp rfl rfl rfl) Rq.nil (.none rfl) rfl (ltB rfl) ?_)
        | (refine SyL.light (LV.arN rfl rfl rfl (by simp only [Fits]; omega)) Rq.nil (.none rfl) rfl (ltB rfl) ?_)
        | (refine SyL.light (LV.not rfl) Rq.nil (.none rfl) rfl (ltB rfl) ?_)
        | (refine SyL.light (LV.idxBN (by apply rfl) (by apply rfl) (by omega)) Rq.nil (.none rfl) rfl (ltB rfl) ?_)
        | (refine SyL.light (LV.load rfl) (Rq.own (List.mem_of_getElem? (i := 0) rfl) hgx) (.none rfl) rfl (ltB rfl) ?_)
        | (refine SyL.heavy (OpT.callA rfl rfl (hf _ cs x hle) ?_) (.none rfl) rfl (ltB rfl); rintro v2 I2 rs2 hle2 ⟨rfl, rfl⟩)
        | (refine SyC.condT rfl (by first | assumption | (with_reducible rfl) | decide | (simp only [decide_eq_true_eq, decide_eq_false_iff_not, Bool.not_eq_true', Bool.not_eq_false', beq_iff_eq, bne_iff_ne, ne_eq, beq_eq_false_iff_ne, bne_eq_false_iff_eq, Int.not_lt, Int.not_le, Bool.true_eq_false, Bool.false_eq_true, tb_one, tb_zero]; omega)) ?_)
        | (refine SyC.condF rfl (by first | assumption | (with_reducible rfl) | decide | (simp only [decide_eq_true_eq, decide_eq_false_iff_not, Bool.not_eq_true', Bool.not_eq_false', beq_iff_eq, bne_iff_ne, ne_eq, beq_eq_false_iff_ne, bne_eq_false_iff_eq, Int.not_lt, Int.not_le, Bool.true_eq_false, Bool.false_eq_true, tb_one, tb_zero]; omega)) ?_))
      exact ⟨l.length - (j + 1), [(6, .int .i64 (j + 1 : Nat)), (5, .int .i64 (i : Nat)), (0, .slice (some ⟨g, 0, none⟩) l.length c), (1, .func (.func f) #[] caps)], by omega, (by repeat (first | exact trivial | refine ⟨rfl, ?_⟩)), i, j + 1, cs, rfl, by omega, by omega, hcl, by rw [ht'.out, hH.out], drop_succ_of hd'.out, by rw [hH.out, hfl], hle.trans hle2, rfl, rfl⟩
  · obtain rfl : l.length = j := by omega
    rw [List.take_length] at ht hfl
    have ht' := Hd.mk ht
    clear ht hd
    repeat' (first
      | (refine SyC.seq ?_)
      | (refine SyC.region ?_)
      | (refine SyL.nil ?_)
      | (refine Then.norm ?_)
      | (refine Then.exit ?_)
      | (refine InB.hit ?_)
      | (refine SyC.exit ?_)
      | (refine SyC.ret ?_)
      | (refine SyL.light (LV.move rfl) Rq.nil (.none rfl) rfl (ltB rfl) ?_)
      | (refine SyL.light (LV.assign rfl) Rq.nil (.none rfl) rfl (ltB rfl) ?_)
      | (refine SyL.light (LV.len (by apply rfl)) Rq.nil (.none rfl) rfl (ltB rfl) ?_)
      | (refine SyL.light (LV.cmp rfl rfl rfl) Rq.nil (.none rfl) rfl (ltB rfl) ?_)
      | (refine SyL.light (LV.sliceHN (by apply rfl) (by apply rfl) (by omega)) Rq.nil (.none rfl) rfl (ltB rfl) ?_)
      | (refine SyL.light (LV.sliceLN (by apply rfl) (by apply rfl) (by omega) (by omega)) Rq.nil (.none rfl) rfl (ltB rfl) ?_)
      | (refine SyL.heavy0 (OpT.clearS (by apply rfl) (k := 0) rfl (by omega) (by omega) (by first | (simp; done) | (simp only [List.length_cons, List.length_nil, hcl]; done) | (simp only [List.length_cons, List.length_nil, hcl]; omega) | (simp; omega) | omega) rfl rfl ?_) (.none rfl) rfl)
      | (refine SyC.condF rfl (by first | assumption | (with_reducible rfl) | decide | (simp only [decide_eq_true_eq, decide_eq_false_iff_not, Bool.not_eq_true', Bool.not_eq_false', beq_iff_eq, bne_iff_ne, ne_eq, beq_eq_false_iff_ne, bne_eq_false_iff_eq, Int.not_lt, Int.not_le, Bool.true_eq_false, Bool.false_eq_true, tb_one, tb_zero]; omega)) ?_))
    refine Ret.one (by simp) Try.results129 (.tmp rfl) ?_
    refine ⟨by rw [hfl], ?_⟩
    rw [hfl]
    simp only [List.set_cons_zero]
    rw [ht'.out]
end Go.Proofs.Ytpgkbipnkkeicaa
