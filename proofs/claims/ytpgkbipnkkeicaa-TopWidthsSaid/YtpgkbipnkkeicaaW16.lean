import Derived.Test.YtpgkbipnkkeicaaW15
set_option linter.unusedSimpArgs false
set_option linter.unusedVariables false
/-! Lower. -/
namespace Go.Gr
open Go Go.Sx Go.Proofs.Ytpgkbipnkkeicaa
attribute [local irreducible] popN
theorem lRun_succ (G : List Nat) (n i : Nat) : lRun G n (i + 1) = ⟨cut (lRun G n i).G (lPick (lRun G n i)), (lRun G n i).L.filter (fun x => !decide (x = lPick (lRun G n i))), max (lRun G n i).most (coD (lRun G n i).G (lPick (lRun G n i)))⟩ := rfl
end Go.Gr
namespace Go.Proofs.Ytpgkbipnkkeicaa
open Go Go.Sx Go.Gr
attribute [local irreducible] popN

set_option maxRecDepth 100000 in
set_option maxHeartbeats 4000000 in
theorem Lower_c (I : IH) (n : Nat) (A : Option Addr) (c : Nat) (ss : List (List Nat)) (cells : List Value) (h : Args I n A c ss cells) :
    PFn Try.prog 68 #[.int .i64 (n : Int), .slice A ss.length c] I fun v I' => v = .tuple #[.int .i64 ((lRun (GO ss) n n).most : Nat), .int .i64 0] := by
  have hn := h.le
  have hside := fun i hi => lower_side h.le h.ok i hi
  have h1 := U32_one (GO ss)
  have hlen := GO_len ss
  refine Fn.intro (n := 43) (args := [.int .i64 (n : Int), .slice A ss.length c]) (by kernel_rfl) Try.func68 rfl Try.ntmps68 (Nat.le_of_ble_eq_true rfl) [(0, .int .i64 (n : Int)), (1, .slice A ss.length c)] rfl (fun w0 => ?_)
  repeat' (first
    | (refine SyC.seq ?_)
    | (refine SyC.region ?_)
    | (refine SyL.nil ?_)
    | (refine Then.norm ?_)
    | (refine SyC.block ?_)
    | (refine SyC.skip ?_)
    | (refine SyL.light (LV.move rfl) Rq.nil (.none rfl) rfl (ltB rfl) ?_)
    | (refine SyL.light (LV.assign rfl) Rq.nil (.none rfl) rfl (ltB rfl) ?_)
    | (refine SyL.light (LV.not rfl) Rq.nil (.none rfl) rfl (ltB rfl) ?_)
    | (refine SyL.heavy (OpT.alloc (by apply rfl) (fun g_ hg_ => ?_)) (.none rfl) rfl (ltB rfl))
    | (refine SyL.heavy (OpT.buildSlice (xs := []) (vs := []) rfl rfl rfl (by simp [Value.cells]) (by decide) (fun g_ hg_ => ?_)) (.none rfl) rfl (ltB rfl))
    | (refine SyL.heavy0 (OpT.storeAll (by apply rfl) (by apply rfl) (k := 0) rfl (by first | (simp; done) | (simp only [List.length_cons, List.length_nil, U32_len]; done) | (simp only [List.length_cons, List.length_nil, U32_len]; omega) | (simp; omega) | omega) (by first | (simp; done) | (simp only [List.length_cons, List.length_nil, U32_len]; done) | (simp only [List.length_cons, List.length_nil, U32_len]; omega) | (simp; omega) | omega) (by first | assumption | simp [Value.oneCell']) ?_) (.none rfl) rfl)
    | (refine SyL.heavy (OpT.pcall rfl rfl (h.right) ?_) (.none rfl) rfl (ltB rfl); rintro v1 I1 hle1 rfl)
    | (refine SyL.heavy (OpT.pcall rfl rfl ((h.mono hle1).of) ?_) (.none rfl) rfl (ltB rfl); rintro v2 I2 hle2 rfl)
    | (refine SyC.condF rfl (by first | assumption | (with_reducible rfl) | decide | (simp only [decide_eq_true_eq, decide_eq_false_iff_not, Bool.not_eq_true', Bool.not_eq_false', beq_iff_eq, bne_iff_ne, ne_eq, beq_eq_false_iff_ne, bne_eq_false_iff_eq, Int.not_lt, Int.not_le, Bool.true_eq_false, Bool.false_eq_true, tb_one, tb_zero]; omega)) ?_))
  generalize GO ss = G0 at *
  rename_i g1 hg1
  refine SyC.ownOf (k := 0) (m := 0) (sz := 1) rfl rfl (by simp [maxLen]) ?_
  refine SyC.loopD (fun m env I' rs => ∃ i B c', m = n - i ∧ i ≤ n ∧ I' = I2 ∧ rs = [.own B c' 3 1 (List.range i).length (N64 (List.range i)), .blk g1 99 (U32 G0)] ∧
    env = [(19, .int .i64 (i : Nat)), (18, .int .i64 (n : Nat)), (8, .slice B (List.range i).length c'), (6, .pointer (some ⟨g1, 0, none⟩)), (7, .int .i64 (0 : Nat))]) n
    [(19, .int .i64 ((0 : Nat) : Int)), (18, .int .i64 (n : Nat)), (8, .slice (some ⟨g_, 0, none⟩) 0 0), (6, .pointer (some ⟨g1, 0, none⟩)), (7, .int .i64 ((0 : Nat) : Int))] (by repeat (first | exact trivial | refine ⟨rfl, ?_⟩)) ⟨0, _, _, rfl, by omega, rfl, rfl, rfl⟩ ?_
  rintro m env I' rs ⟨i, B, c', rfl, hi, rfl, rfl, rfl⟩
  by_cases hlt : i < n
  · have hrl : (List.range i).length = i := List.length_range
    have hrs : List.range (i + 1) = List.range i ++ [i] := List.range_succ
    generalize List.range i = L at hrl hrs
    repeat' (first
      | (refine SyC.seq ?_)
      | (refine SyC.region ?_)
      | (refine SyL.nil ?_)
      | (refine Then.norm ?_)
      | (refine InB.norm ?_)
      | (refine SyC.block ?_)
      | (refine SyC.skip ?_)
      | (refine SyL.light (LV.move rfl) Rq.nil (.none rfl) rfl (ltB rfl) ?_)
      | (refine SyL.light (LV.assign rfl) Rq.nil (.none rfl) rfl (ltB rfl) ?_)
      | (refine SyL.light (LV.cmp rfl rfl rfl) Rq.nil (.none rfl) rfl (ltB rfl) ?_)
      | (refine SyL.light (LV.arN rfl rfl rfl (by simp only [Fits]; omega)) Rq.nil (.none rfl) rfl (ltB rfl) ?_)
      | (refine SyL.heavy (OpT.buildSlice (xs := [_]) (vs := [_]) rfl rfl rfl (by simp [Value.cells]) (by decide) (fun g_ hg_ => ?_)) (.none rfl) rfl (ltB rfl))
      | (refine SyL.heavy (OpT.append (by apply rfl) (by apply rfl) (k := 1) rfl (by first | (simp; done) | (simp only [List.length_cons, List.length_nil]; done) | (simp only [List.length_cons, List.length_nil]; omega) | (simp; omega) | omega) (Rq.blkAll (List.mem_of_getElem? (i := 0) rfl)) (by simp [Value.oneCell']) (by first | omega | (simp only [List.length_append, List.length_cons, List.length_nil]; omega)) (by first | omega | (simp only [List.length_append, List.length_cons, List.length_nil]; omega)) (by decide) (fun A_ c_ => ?_)) (.none rfl) rfl (ltB rfl))
      | (refine SyC.condT rfl (by first | assumption | (with_reducible rfl) | decide | (simp only [decide_eq_true_eq, decide_eq_false_iff_not, Bool.not_eq_true', Bool.not_eq_false', beq_iff_eq, bne_iff_ne, ne_eq, beq_eq_false_iff_ne, bne_eq_false_iff_eq, Int.not_lt, Int.not_le, Bool.true_eq_false, Bool.false_eq_true, tb_one, tb_zero]; omega)) ?_))
    rw [N64_snoc, show L.length + 1 = (L ++ [i]).length from by simp]
    exact ⟨n - (i + 1), [(19, .int .i64 (i + 1 : Nat)), (18, .int .i64 (n : Nat)), (8, .slice A_ (L ++ [i]).length c_), (6, .pointer (some ⟨g1, 0, none⟩)), (7, .int .i64 (0 : Nat))], [.own A_ c_ 3 1 (L ++ [i]).length (N64 (L ++ [i])), .blk g1 99 (U32 G0)], by omega, (by repeat (first | exact trivial | refine ⟨rfl, ?_⟩)), ⟨i + 1, A_, c_, rfl, by omega, rfl, by rw [hrs], by rw [hrs]⟩, (by repeat (first | exact List.Sublist.refl _ | exact List.nil_sublist _ | refine List.Sublist.cons_cons _ ?_ | refine List.Sublist.cons _ ?_))⟩
  · obtain rfl : n = i := by omega
    repeat' (first
      | (refine SyC.seq ?_)
      | (refine SyC.region ?_)
      | (refine SyL.nil ?_)
      | (refine Then.norm ?_)
      | (refine Then.exit ?_)
      | (refine InB.hit ?_)
      | (refine SyC.block ?_)
      | (refine SyC.exit ?_)
      | (refine SyL.light (LV.cmp rfl rfl rfl) Rq.nil (.none rfl) rfl (ltB rfl) ?_)
      | (refine SyC.condF rfl (by first | assumption | (with_reducible rfl) | decide | (simp only [decide_eq_true_eq, decide_eq_false_iff_not, Bool.not_eq_true', Bool.not_eq_false', beq_iff_eq, bne_iff_ne, ne_eq, beq_eq_false_iff_ne, bne_eq_false_iff_eq, Int.not_lt, Int.not_le, Bool.true_eq_false, Bool.false_eq_true, tb_one, tb_zero]; omega)) ?_))
    refine SyC.loopD (fun m env I'' rs => ∃ i B c', m = n - i ∧ i ≤ n ∧ I'.le I'' ∧ rs = [.own B c' 3 1 (lRun G0 n i).L.length (N64 (lRun G0 n i).L), .blk g1 99 (U32 (lRun G0 n i).G)] ∧
      env = [(8, .slice B (lRun G0 n i).L.length c'), (6, .pointer (some ⟨g1, 0, none⟩)), (7, .int .i64 ((lRun G0 n i).most : Nat))]) n _ (by repeat (first | exact trivial | refine ⟨rfl, ?_⟩)) ⟨0, _, _, rfl, by omega, IH.le.rfl, rfl, rfl⟩ ?_
    rintro m env I'' rs ⟨i, B, c', rfl, hi, hle, rfl, rfl⟩
    obtain ⟨s1, s2, _, s4⟩ := hside i hi
    have hsl := s2.len
    have hso := s1.so
    have hslo := s1.lo
    by_cases hlt : i < n
    · obtain ⟨_, s5, _⟩ := s4 hlt
      have hpk16 : lPick (lRun G0 n i) < 16 := by
        have := s1.le
        rw [s2.L] at s5
        have := List.mem_range.1 (List.mem_filter.1 s5).1
        omega
      have hL16 : ∀ x ∈ (lRun G0 n i).L, x < 16 := fun x hx => by
        have := s1.le
        rw [s2.L] at hx
        have := List.mem_range.1 (List.mem_filter.1 hx).1
        omega
      have hst := Hd.mk (lRun_succ G0 n i)
      have hlp : lPick (lRun G0 n i) = minF (coD (lRun G0 n i).G) (lRun G0 n i).L := rfl
      clear s1 s2 s4
      generalize lPick (lRun G0 n i) = pk at s5 hpk16 hst hlp
      generalize lRun G0 n i = S at hsl hso hslo s5 hpk16 hst hL16 hlp
      refine SyC.formD (List.mem_of_getElem? (i := 0) rfl) fun hB => ?_
      obtain ⟨gb, rfl⟩ := hB.resolve_left (by omega)
      have hmin := fun (I0 : IH) => minFunc_c I0 [.blk g1 99 (U32 S.G), .own (some ⟨gb, 0, none⟩) c' 3 1 S.L.length (N64 S.L)] ⟨gb, 0, none⟩ c' S.L (by omega) (by omega)
        (fun I' j u hu => by rw [add_plain, Nat.zero_add]; exact Rq.own (List.mem_of_getElem? (i := 1) rfl) hu) 127 #[.pointer (some ⟨g1, 0, none⟩)] (coD S.G) (fun x => Nat.le_trans (popN_le 32 _) (by omega))
        (fun I' a b ha hb _ => low1_c I' g1 a b S.G _ hslo hso (hL16 a ha) (hL16 b hb))
      rw [← hlp] at hmin
      have hcle : coD S.G pk ≤ 32 := popN_le 32 _
      obtain ⟨k0, hk0⟩ := List.mem_iff_getElem?.1 s5
      have hk0' : k0 < S.L.length ∧ decide (S.L.getD k0 0 = pk) = true := by
        obtain ⟨h1, h2⟩ := List.getElem?_eq_some_iff.1 hk0
        exact ⟨h1, by simp [h1, h2]⟩
      have hdel := fun (I0 : IH) t G' => delFunc_c I0 [.blk t 3 [.int .i64 (pk : Int)], .blk g1 99 (U32 G')] gb c' S.L (by omega) 130 #[.pointer (some ⟨t, 0, none⟩)] (fun x => decide (x = pk)) ⟨k0, hk0'⟩
        (fun I' cs x _ => (low2_c I' t x pk _ (.tail _ (.head _))).mono fun v I'' rs' _ hp => ⟨hp.1, hp.2.2⟩)
      clear hlp
      repeat' (first
        | (refine SyC.seq ?_)
        | (refine SyC.region ?_)
        | (refine SyL.nil ?_)
        | (refine Then.norm ?_)
        | (refine InB.norm ?_)
        | (refine SyC.block ?_)
        | (refine SyC.skip ?_)
        | (refine SyL.light (LV.move rfl) Rq.nil (.none rfl) rfl (ltB rfl) ?_)
        | (refine SyL.light (LV.assign rfl) Rq.nil (.none rfl) rfl (ltB rfl) ?_)
        | (refine SyL.light (LV.len (by apply rfl)) Rq.nil (.none rfl) rfl (ltB rfl) ?_)
        | (refine SyL.light (LV.cmp rfl rfl rfl) Rq.nil (.none rfl) rfl (ltB rfl) ?_)
        | (refine SyL.light (LV.load rfl) (Rq.blkL (by decide) (List.mem_of_getElem? (i := 0) rfl) (by exact rfl)) (.none rfl) rfl (ltB rfl) ?_)
        | (refine SyL.light (LV.max2 rfl rfl) Rq.nil (.none rfl) rfl (ltB rfl) ?_)
        | (refine SyL.light (LV.makeFunc rfl rfl) Rq.nil (.none rfl) rfl (ltB rfl) ?_)
        | (refine SyL.heavy (OpT.alloc (by apply rfl) (fun g_ hg_ => ?_)) (.none rfl) rfl (ltB rfl))
        | (refine SyL.heavy0 (OpT.store rfl rfl rfl (k := 0) rfl (by first | (simp; done) | (simp only [List.length_cons, List.length_nil]; done) | (simp only [List.length_cons, List.length_nil]; omega) | (simp; omega) | omega) ?_) (.none rfl) rfl)
        | (refine SyL.heavy (OpT.callR 1 rfl rfl (hmin _) rfl ?_) (.none rfl) rfl (ltB rfl); rintro v3 I3 rs3 hle3 ⟨rfl, rfl⟩)
        | (refine SyL.heavy (OpT.callW 1 1 rfl rfl (deg_c _ g1 pk S.G hslo hso hpk16) rfl ?_) (.none rfl) rfl (ltB rfl); rintro v4 I4 rs4 hle4 ⟨rfl, rfl, rfl⟩)
        | (refine SyL.heavy (OpT.callW 1 1 rfl rfl (cut_c _ g1 pk S.G hslo hso hpk16) rfl ?_) (.none rfl) rfl (ltB rfl); rintro v5 I5 rs5 hle5 ⟨rfl, rfl⟩)
        | (refine SyL.heavy (OpT.callR 2 rfl rfl (hdel _ _ _) rfl ?_) (.none rfl) rfl (ltB rfl); rintro v6 I6 rs6 hle6 ⟨rfl, rfl⟩)
        | (refine SyC.condT rfl (by first | assumption | (with_reducible rfl) | decide | (simp only [decide_eq_true_eq, decide_eq_false_iff_not, Bool.not_eq_true', Bool.not_eq_false', beq_iff_eq, bne_iff_ne, ne_eq, beq_eq_false_iff_ne, bne_eq_false_iff_eq, Int.not_lt, Int.not_le, Bool.true_eq_false, Bool.false_eq_true, tb_one, tb_zero]; omega)) ?_))
      have em : (max ((S.most : Nat) : Int) ((popN 32 (S.G.getD pk 0) : Nat) : Int)) = ((max S.most (coD S.G pk) : Nat) : Int) := by unfold coD; omega
      rw [em]
      exact ⟨n - (i + 1), [(8, .slice (some ⟨gb, 0, none⟩) (S.L.filter fun x => !decide (x = pk)).length c'), (6, .pointer (some ⟨g1, 0, none⟩)), (7, .int .i64 (max S.most (coD S.G pk) : Nat))],
        [.own (some ⟨gb, 0, none⟩) c' 3 1 (S.L.filter fun x => !decide (x = pk)).length (N64 (S.L.filter fun x => !decide (x = pk))), .blk g1 99 (U32 (cut S.G pk))], by omega, (by repeat (first | exact trivial | refine ⟨rfl, ?_⟩)),
        ⟨i + 1, some ⟨gb, 0, none⟩, c', rfl, by omega, ((((hle.trans hle3).trans hle4).trans hle5).trans hle6), by rw [hst.out], by rw [hst.out]⟩, (by repeat (first | exact List.Sublist.refl _ | exact List.nil_sublist _ | refine List.Sublist.cons_cons _ ?_ | refine List.Sublist.cons _ ?_))⟩
    · obtain rfl : n = i := by omega
      repeat' (first
        | (refine SyC.seq ?_)
        | (refine SyC.region ?_)
        | (refine SyL.nil ?_)
        | (refine Then.norm ?_)
        | (refine Then.exit ?_)
        | (refine InB.hit ?_)
        | (refine SyC.exit ?_)
        | (refine SyC.ret ?_)
        | (refine SyL.light (LV.move rfl) Rq.nil (.none rfl) rfl (ltB rfl) ?_)
        | (refine SyL.light (LV.assign rfl) Rq.nil (.none rfl) rfl (ltB rfl) ?_)
        | (refine SyL.light (LV.len (by apply rfl)) Rq.nil (.none rfl) rfl (ltB rfl) ?_)
        | (refine SyL.light (LV.cmp rfl rfl rfl) Rq.nil (.none rfl) rfl (ltB rfl) ?_)
        | (refine SyC.condF rfl (by first | assumption | (with_reducible rfl) | decide | (simp only [decide_eq_true_eq, decide_eq_false_iff_not, Bool.not_eq_true', Bool.not_eq_false', beq_iff_eq, bne_iff_ne, ne_eq, beq_eq_false_iff_ne, bne_eq_false_iff_eq, Int.not_lt, Int.not_le, Bool.true_eq_false, Bool.false_eq_true, tb_one, tb_zero]; omega)) ?_))
      exact Ret.twoS (by simp) Try.results68 (.tmp rfl) (.tmp rfl) (⟨rfl, rfl⟩) (by repeat (first | exact List.Sublist.refl _ | exact List.nil_sublist _ | refine List.Sublist.cons_cons _ ?_ | refine List.Sublist.cons _ ?_))
end Go.Proofs.Ytpgkbipnkkeicaa
