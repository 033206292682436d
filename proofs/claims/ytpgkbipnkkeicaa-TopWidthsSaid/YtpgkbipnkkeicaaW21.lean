import Derived.Test.YtpgkbipnkkeicaaW20
import Derived.Test.YtpgkbipnkkeicaaW16
set_option linter.unusedSimpArgs false
set_option linter.unusedVariables false
/-! Clone of a graph in a block of its own; the choosers. -/
namespace Go.Proofs.Ytpgkbipnkkeicaa
open Go Go.Sx Go.Gr
attribute [local irreducible] popN

set_option maxRecDepth 100000 in
theorem cloneB_c (I : IH) (g n c : Nat) (G : List Nat) (hG : G.length = n) (hn : n ≤ 1000) (h0 : 0 < n) :
    Sx.Fn Try.prog 13 #[.slice (some ⟨g, 0, none⟩) n c] I [.blk g 33 (U32 G)] fun r I' rs' => ∃ g' c', r = .slice (some ⟨g', 0, none⟩) n c' ∧ I' = I ∧ rs' = [.own (some ⟨g', 0, none⟩) c' 33 1 n (U32 G), .blk g 33 (U32 G)] := by
  refine Fn.intro (n := 8) (args := [.slice (some ⟨g, 0, none⟩) n c]) (by kernel_rfl) Try.func13 rfl Try.ntmps13 (Nat.le_of_ble_eq_true rfl) [(0, .slice (some ⟨g, 0, none⟩) n c)] rfl (fun w0 => ?_)
  have h1 := U32_one G
  have hlen := U32_len G
  have hnn : (some (⟨g, 0, none⟩ : Addr)).isNone = false := rfl
  repeat' (first
    | (refine SyC.seq ?_)
    | (refine SyC.region ?_)
    | (refine SyL.nil ?_)
    | (refine Then.norm ?_)
    | (refine SyC.skip ?_)
    | (refine SyC.ret ?_)
    | (refine SyL.light (LV.move rfl) Rq.nil (.none rfl) rfl (ltB rfl) ?_)
    | (refine SyL.light (LV.assign rfl) Rq.nil (.none rfl) rfl (ltB rfl) ?_)
    | (refine SyL.light (LV.eqNil (by apply rfl) (by apply rfl)) Rq.nil (.none rfl) rfl (ltB rfl) ?_)
    | (refine SyL.heavy (OpT.buildSlice (xs := []) (vs := []) rfl rfl rfl (by simp [Value.cells]) (by decide) (fun g_ hg_ => ?_)) (.none rfl) rfl (ltB rfl))
    | (refine SyL.heavy (OpT.appendB (by apply rfl) (by apply rfl) (k := 0) rfl (by first | (simp; done) | (simp only [List.length_cons, List.length_nil, U32_len]; done) | (simp only [List.length_cons, List.length_nil, U32_len]; omega) | (simp; omega) | omega) (by first | (simp; done) | (simp only [List.length_cons, List.length_nil, U32_len]; done) | (simp only [List.length_cons, List.length_nil, U32_len]; omega) | (simp; omega) | omega) (Rq.blkAll (List.mem_of_getElem? (i := 1) rfl)) (by first | assumption | exact P64_one _ | exact N64_one _ | exact U32_one _ | simp [Value.oneCell']) (by first | omega | (simp only [List.length_append, List.length_cons, List.length_nil]; omega)) (by first | omega | (simp only [List.length_append, List.length_cons, List.length_nil]; omega)) (by decide) (fun A_ c_ => ?_)) (.none rfl) rfl (ltB rfl); rw [Nat.zero_add]; refine SyL.form (List.mem_of_getElem? (i := 0) rfl) h0 ?_; rintro g2 rfl)
    | (refine SyC.condF rfl (by first | assumption | (with_reducible rfl) | decide | (simp only [decide_eq_true_eq, decide_eq_false_iff_not, Bool.not_eq_true', Bool.not_eq_false', beq_iff_eq, bne_iff_ne, ne_eq, beq_eq_false_iff_ne, bne_eq_false_iff_eq, Int.not_lt, Int.not_le, Bool.true_eq_false, Bool.false_eq_true, tb_one, tb_zero]; omega)) ?_))
  exact Ret.oneS (by simp) Try.results13 (.tmp rfl) (⟨_, _, rfl, rfl, rfl⟩) (by repeat (first | exact List.Sublist.refl _ | exact List.nil_sublist _ | refine List.Sublist.cons_cons _ ?_ | refine List.Sublist.cons _ ?_))

set_option maxRecDepth 100000 in
theorem cost1_c (I : IH) (rs0 : List Row) (gh gl g n cg v left : Nat) (G : List Nat) (hG : G.length = n) (hn : n ≤ 16) (hs : Small G) (hv : v < n) (hleft : left < 65536)
    (hh : .blk gh 30 [.slice (some ⟨g, 0, none⟩) n cg] ∈ rs0) (hl : .blk gl 33 [.int .u32 (left : Int)] ∈ rs0) (hrd : ∀ (I' : IH) j, j < n → Rq I' rs0 [(⟨g, j, none⟩, .int .u32 (G.getD j 0 : Nat))]) :
    Sx.Fn Try.prog 59 #[.int .i64 (v : Int), .pointer (some ⟨gh, 0, none⟩), .pointer (some ⟨gl, 0, none⟩)] I rs0 fun r I' rs' => r = .int .i64 (csD G left v : Nat) ∧ rs' = rs0 := by
  have hsv := hs.getD v
  have hx : G.getD v 0 &&& left < 4294967296 := Nat.lt_of_le_of_lt Nat.and_le_left (by omega)
  refine Fn.intro (n := 12) (args := [.int .i64 (v : Int), .pointer (some ⟨gh, 0, none⟩), .pointer (some ⟨gl, 0, none⟩)]) (by kernel_rfl) Try.func59 rfl Try.ntmps59 (Nat.le_of_ble_eq_true rfl) [(0, .int .i64 (v : Int)), (1, .pointer (some ⟨gh, 0, none⟩)), (2, .pointer (some ⟨gl, 0, none⟩))] rfl (fun w0 => ?_)
  repeat' (first
    | (refine SyC.seq ?_)
    | (refine SyC.region ?_)
    | (refine SyL.nil ?_)
    | (refine Then.norm ?_)
    | (refine SyC.ret ?_)
    | (refine SyC.draw (id := 1) (by kernel_rfl) (by kernel_rfl) ?_; refine D.light (i := 0) rfl (.on (.none rfl) (LV.load rfl)) (Rq.blk hh (i := 0) rfl) (by kernel_rfl) rfl (ltB rfl) ?_; refine D.light (i := 1) rfl (.on (.none rfl) (LV.move rfl)) Rq.nil (by kernel_rfl) rfl (ltB rfl) ?_; refine D.light (i := 2) rfl (.on (.none rfl) (LV.idxBN (by apply rfl) (by apply rfl) (by omega))) Rq.nil (by kernel_rfl) rfl (ltB rfl) ?_; refine D.light (i := 3) rfl (.on (.none rfl) (LV.load rfl)) (hrd _ v hv) (by kernel_rfl) rfl (ltB rfl) ?_; refine D.light (i := 4) rfl (.on (.none rfl) (LV.load rfl)) (Rq.blk hl (i := 0) rfl) (by kernel_rfl) rfl (ltB rfl) ?_; refine D.light (i := 5) rfl (.on (.none rfl) (LV.bitsN rfl rfl rfl rfl (by first | (simp only [IntKind.bits]; omega) | exact pow32 (by omega) | assumption) (by first | (simp only [IntKind.bits]; omega) | exact pow32 (by omega) | assumption))) Rq.nil (by kernel_rfl) rfl (ltB rfl) ?_; refine D.heavy (i := 6) rfl (OpT.pcall rfl rfl (ones_c _ _ hx) ?_) (.none rfl) (by kernel_rfl) (by kernel_rfl) rfl (ltB rfl) chg_nil; rintro v1 I1 hle1 ⟨rfl, rfl⟩; refine D.light (i := 7) rfl (.on (.none rfl) (LV.assign rfl)) Rq.nil (by kernel_rfl) rfl (ltB rfl) ?_; refine D.fin (by kernel_rfl) ?_)
    | (refine SyL.light (LV.assign rfl) Rq.nil (.none rfl) rfl (ltB rfl) ?_))
  refine Ret.one (by simp) Try.results59 (.tmp rfl) ?_
  exact ⟨rfl, rfl⟩
set_option maxRecDepth 100000 in
theorem cost3_c (I : IH) (rs0 : List Row) (gh gl g n cg v left : Nat) (G : List Nat) (hG : G.length = n) (hn : n ≤ 16) (hs : Small G) (hv : v < n) (hleft : left < 65536)
    (hh : .blk gh 30 [.slice (some ⟨g, 0, none⟩) n cg] ∈ rs0) (hl : .blk gl 33 [.int .u32 (left : Int)] ∈ rs0) (hrd : ∀ (I' : IH) j, j < n → Rq I' rs0 [(⟨g, j, none⟩, .int .u32 (G.getD j 0 : Nat))]) :
    Sx.Fn Try.prog 69 #[.int .i64 (v : Int), .pointer (some ⟨gh, 0, none⟩), .pointer (some ⟨gl, 0, none⟩)] I rs0 fun r I' rs' => r = .int .i64 (csD G left v : Nat) ∧ rs' = rs0 := by
  have hsv := hs.getD v
  have hx : G.getD v 0 &&& left < 4294967296 := Nat.lt_of_le_of_lt Nat.and_le_left (by omega)
  refine Fn.intro (n := 12) (args := [.int .i64 (v : Int), .pointer (some ⟨gh, 0, none⟩), .pointer (some ⟨gl, 0, none⟩)]) (by kernel_rfl) Try.func69 rfl Try.ntmps69 (Nat.le_of_ble_eq_true rfl) [(0, .int .i64 (v : Int)), (1, .pointer (some ⟨gh, 0, none⟩)), (2, .pointer (some ⟨gl, 0, none⟩))] rfl (fun w0 => ?_)
  repeat' (first
    | (refine SyC.seq ?_)
    | (refine SyC.region ?_)
    | (refine SyL.nil ?_)
    | (refine Then.norm ?_)
    | (refine SyC.ret ?_)
    | (refine SyC.draw (id := 1) (by kernel_rfl) (by kernel_rfl) ?_; refine D.light (i := 0) rfl (.on (.none rfl) (LV.load rfl)) (Rq.blk hh (i := 0) rfl) (by kernel_rfl) rfl (ltB rfl) ?_; refine D.light (i := 1) rfl (.on (.none rfl) (LV.move rfl)) Rq.nil (by kernel_rfl) rfl (ltB rfl) ?_; refine D.light (i := 2) rfl (.on (.none rfl) (LV.idxBN (by apply rfl) (by apply rfl) (by omega))) Rq.nil (by kernel_rfl) rfl (ltB rfl) ?_; refine D.light (i := 3) rfl (.on (.none rfl) (LV.load rfl)) (hrd _ v hv) (by kernel_rfl) rfl (ltB rfl) ?_; refine D.light (i := 4) rfl (.on (.none rfl) (LV.load rfl)) (Rq.blk hl (i := 0) rfl) (by kernel_rfl) rfl (ltB rfl) ?_; refine D.light (i := 5) rfl (.on (.none rfl) (LV.bitsN rfl rfl rfl rfl (by first | (simp only [IntKind.bits]; omega) | exact pow32 (by omega) | assumption) (by first | (simp only [IntKind.bits]; omega) | exact pow32 (by omega) | assumption))) Rq.nil (by kernel_rfl) rfl (ltB rfl) ?_; refine D.heavy (i := 6) rfl (OpT.pcall rfl rfl (ones_c _ _ hx) ?_) (.none rfl) (by kernel_rfl) (by kernel_rfl) rfl (ltB rfl) chg_nil; rintro v1 I1 hle1 ⟨rfl, rfl⟩; refine D.light (i := 7) rfl (.on (.none rfl) (LV.assign rfl)) Rq.nil (by kernel_rfl) rfl (ltB rfl) ?_; refine D.fin (by kernel_rfl) ?_)
    | (refine SyL.light (LV.assign rfl) Rq.nil (.none rfl) rfl (ltB rfl) ?_))
  refine Ret.one (by simp) Try.results69 (.tmp rfl) ?_
  exact ⟨rfl, rfl⟩
set_option maxRecDepth 100000 in
theorem cost2_c (I : IH) (rest : List Row) (gh gl g n cg v left : Nat) (G : List Nat) (hG : G.length = n) (hn : n ≤ 16) (hs : Small G) (hv : v < n) (hleft : left < 65536)
    (hh : .blk gh 30 [.slice (some ⟨g, 0, none⟩) n cg] ∈ rest) :
    Sx.Fn Try.prog 62 #[.int .i64 (v : Int), .pointer (some ⟨gh, 0, none⟩), .pointer (some ⟨gl, 0, none⟩)] I (.blk gl 33 [.int .u32 (left : Int)] :: .own (some ⟨g, 0, none⟩) cg 33 1 n (U32 G) :: rest)
      fun r I' rs' => r = .int .i64 (csF G left v : Nat) ∧ rs' = .blk gl 33 [.int .u32 (left : Int)] :: .own (some ⟨g, 0, none⟩) cg 33 1 n (U32 G) :: rest := by
  have hp := fun I0 => pairs_c I0 g v left cg G (by omega) hs (by omega) hleft
  rw [hG] at hp
  refine Fn.intro (n := 10) (args := [.int .i64 (v : Int), .pointer (some ⟨gh, 0, none⟩), .pointer (some ⟨gl, 0, none⟩)]) (by kernel_rfl) Try.func62 rfl Try.ntmps62 (Nat.le_of_ble_eq_true rfl) [(0, .int .i64 (v : Int)), (1, .pointer (some ⟨gh, 0, none⟩)), (2, .pointer (some ⟨gl, 0, none⟩))] rfl (fun w0 => ?_)
  repeat' (first
    | (refine SyC.seq ?_)
    | (refine SyC.region ?_)
    | (refine SyL.nil ?_)
    | (refine Then.norm ?_)
    | (refine SyC.ret ?_)
    | (refine SyL.light (LV.move rfl) Rq.nil (.none rfl) rfl (ltB rfl) ?_)
    | (refine SyL.light (LV.assign rfl) Rq.nil (.none rfl) rfl (ltB rfl) ?_)
    | (refine SyL.light (LV.len (by apply rfl)) Rq.nil (.none rfl) rfl (ltB rfl) ?_)
    | (refine SyL.light (LV.load rfl) (Rq.blk (.tail _ (.tail _ hh)) (i := 0) rfl) (.none rfl) rfl (ltB rfl) ?_)
    | (refine SyL.light (LV.load rfl) (Rq.blkL (by decide) (List.mem_of_getElem? (i := 0) rfl) (by exact rfl)) (.none rfl) rfl (ltB rfl) ?_)
    | (refine SyL.heavy (OpT.callW 1 1 rfl rfl (hp _) rfl ?_) (.none rfl) rfl (ltB rfl); rintro v1 I1 rs1 hle1 ⟨A, c, rfl, hrd, rfl⟩))
  refine Ret.one (by simp) Try.results62 (.tmp rfl) ?_
  exact ⟨rfl, rfl⟩
set_option maxRecDepth 100000 in
theorem choose1_c (I : IH) (rest : List Row) (gh g n cg left : Nat) (G : List Nat) (hG : G.length = n) (hn : n ≤ 16) (hs : Small G) (hleft : left < 65536)
    (hh : .blk gh 30 [.slice (some ⟨g, 0, none⟩) n cg] ∈ rest) :
    Sx.Fn Try.prog 57 #[.int .u32 (left : Int), .pointer (some ⟨gh, 0, none⟩)] I (.own (some ⟨g, 0, none⟩) cg 33 1 n (U32 G) :: rest)
      fun r I' rs' => r = .int .i64 (bestV (bestOf (fun v => !left.testBit v) (csD G left) n)) ∧ rs' = .own (some ⟨g, 0, none⟩) cg 33 1 n (U32 G) :: rest := by
  refine Fn.intro (n := 8) (args := [.int .u32 (left : Int), .pointer (some ⟨gh, 0, none⟩)]) (by kernel_rfl) Try.func57 rfl Try.ntmps57 (Nat.le_of_ble_eq_true rfl) [(0, .int .u32 (left : Int)), (1, .pointer (some ⟨gh, 0, none⟩))] rfl (fun w0 => ?_)
  have hle := fun (I0 : IH) gl => least_c I0 (.blk gl 33 [.int .u32 (left : Int)] :: .own (some ⟨g, 0, none⟩) cg 33 1 n (U32 G) :: rest) (some ⟨g, 0, none⟩) n cg left hn hleft 59 #[.pointer (some ⟨gh, 0, none⟩), .pointer (some ⟨gl, 0, none⟩)] (csD G left) (fun v _ => Nat.le_trans (popN_le 32 _) (by omega))
    (fun v I' hv _ _ => cost1_c I' _ gh gl g n cg v left G hG hn hs hv hleft (.tail _ (.tail _ hh)) (.head _) fun I'' j hj => Rq.own (.tail _ (.head _)) (U32_get (by omega)))
  repeat' (first
    | (refine SyC.seq ?_)
    | (refine SyC.region ?_)
    | (refine SyL.nil ?_)
    | (refine Then.norm ?_)
    | (refine SyC.ret ?_)
    | (refine SyL.light (LV.assign rfl) Rq.nil (.none rfl) rfl (ltB rfl) ?_)
    | (refine SyL.light (LV.load rfl) (Rq.blk (.tail _ (.tail _ hh)) (i := 0) rfl) (.none rfl) rfl (ltB rfl) ?_)
    | (refine SyL.light (LV.load rfl) (Rq.blkL (by decide) (List.mem_of_getElem? (i := 0) rfl) (by exact rfl)) (.none rfl) rfl (ltB rfl) ?_)
    | (refine SyL.light (LV.makeFunc rfl rfl) Rq.nil (.none rfl) rfl (ltB rfl) ?_)
    | (refine SyL.heavy (OpT.box rfl rfl (fun g_ hg_ => ?_)) (.none rfl) rfl (ltB rfl))
    | (refine SyL.heavy (OpT.callA rfl rfl (hle _ _) ?_) (.none rfl) rfl (ltB rfl); rintro v1 I1 rs1 hle1 ⟨rfl, rfl⟩))
  exact Ret.oneS (by simp) Try.results57 (.tmp rfl) (⟨rfl, rfl⟩) (by repeat (first | exact List.Sublist.refl _ | exact List.nil_sublist _ | refine List.Sublist.cons_cons _ ?_ | refine List.Sublist.cons _ ?_))
set_option maxRecDepth 100000 in
theorem choose2_c (I : IH) (rest : List Row) (gh g n cg left : Nat) (G : List Nat) (hG : G.length = n) (hn : n ≤ 16) (hs : Small G) (hleft : left < 65536)
    (hh : .blk gh 30 [.slice (some ⟨g, 0, none⟩) n cg] ∈ rest) :
    Sx.Fn Try.prog 61 #[.int .u32 (left : Int), .pointer (some ⟨gh, 0, none⟩)] I (.own (some ⟨g, 0, none⟩) cg 33 1 n (U32 G) :: rest)
      fun r I' rs' => r = .int .i64 (bestV (bestOf (fun v => !left.testBit v) (csF G left) n)) ∧ rs' = .own (some ⟨g, 0, none⟩) cg 33 1 n (U32 G) :: rest := by
  refine Fn.intro (n := 8) (args := [.int .u32 (left : Int), .pointer (some ⟨gh, 0, none⟩)]) (by kernel_rfl) Try.func61 rfl Try.ntmps61 (Nat.le_of_ble_eq_true rfl) [(0, .int .u32 (left : Int)), (1, .pointer (some ⟨gh, 0, none⟩))] rfl (fun w0 => ?_)
  have hle := fun (I0 : IH) gl => least_c I0 (.blk gl 33 [.int .u32 (left : Int)] :: .own (some ⟨g, 0, none⟩) cg 33 1 n (U32 G) :: rest) (some ⟨g, 0, none⟩) n cg left hn hleft 62 #[.pointer (some ⟨gh, 0, none⟩), .pointer (some ⟨gl, 0, none⟩)] (csF G left) (fun v _ => Nat.le_trans (pairs_len256 G (by omega) v left) (by omega))
    (fun v I' hv _ _ => cost2_c I' rest gh gl g n cg v left G hG hn hs hv hleft hh)
  repeat' (first
    | (refine SyC.seq ?_)
    | (refine SyC.region ?_)
    | (refine SyL.nil ?_)
    | (refine Then.norm ?_)
    | (refine SyC.ret ?_)
    | (refine SyL.light (LV.assign rfl) Rq.nil (.none rfl) rfl (ltB rfl) ?_)
    | (refine SyL.light (LV.load rfl) (Rq.blk (.tail _ (.tail _ hh)) (i := 0) rfl) (.none rfl) rfl (ltB rfl) ?_)
    | (refine SyL.light (LV.load rfl) (Rq.blkL (by decide) (List.mem_of_getElem? (i := 0) rfl) (by exact rfl)) (.none rfl) rfl (ltB rfl) ?_)
    | (refine SyL.light (LV.makeFunc rfl rfl) Rq.nil (.none rfl) rfl (ltB rfl) ?_)
    | (refine SyL.heavy (OpT.box rfl rfl (fun g_ hg_ => ?_)) (.none rfl) rfl (ltB rfl))
    | (refine SyL.heavy (OpT.callA rfl rfl (hle _ _) ?_) (.none rfl) rfl (ltB rfl); rintro v1 I1 rs1 hle1 ⟨rfl, rfl⟩))
  exact Ret.oneS (by simp) Try.results61 (.tmp rfl) (⟨rfl, rfl⟩) (by repeat (first | exact List.Sublist.refl _ | exact List.nil_sublist _ | refine List.Sublist.cons_cons _ ?_ | refine List.Sublist.cons _ ?_))

/-- along with a chooser of the least. -/
theorem along1_c (I : IH) (rest : List Row) (gh g n cg : Nat) (ss : List (List Nat)) (hn : n ≤ 16) (hs : Scopes n ss) (hh : .blk gh 30 [.slice (some ⟨g, 0, none⟩) n cg] ∈ rest) (f : FuncId) (cost : List Nat → Nat → Nat → Nat)
    (hf : ∀ (I' : IH) (left : Nat) (G : List Nat), G.length = n → Small G → left < 65536 → Sx.Fn Try.prog f #[.int .u32 (left : Int), .pointer (some ⟨gh, 0, none⟩)] I' (.own (some ⟨g, 0, none⟩) cg 33 1 n (U32 G) :: rest)
      fun r I' rs' => r = .int .i64 (bestV (bestOf (fun v => !left.testBit v) (cost G left) n)) ∧ rs' = .own (some ⟨g, 0, none⟩) cg 33 1 n (U32 G) :: rest) :
    Sx.Fn Try.prog 14 #[.slice (some ⟨g, 0, none⟩) n cg, .func (.func f) #[] #[.pointer (some ⟨gh, 0, none⟩)]] I (.own (some ⟨g, 0, none⟩) cg 33 1 n (U32 (GS n ss)) :: rest)
      fun v I' rs' => ∃ A c B c' G', v = .tuple #[.slice A (aRun (chL cost n) n (GS n ss) n).ord.length c, .int .i64 ((aRun (chL cost n) n (GS n ss) n).wid : Nat), .slice B (aRun (chL cost n) n (GS n ss) n).fill.length c'] ∧
        RdSl I' 1 (.slice A (aRun (chL cost n) n (GS n ss) n).ord.length c) (aRun (chL cost n) n (GS n ss) n).ord.length (N64 (aRun (chL cost n) n (GS n ss) n).ord) ∧
        RdSl I' 2 (.slice B (aRun (chL cost n) n (GS n ss) n).fill.length c') (aRun (chL cost n) n (GS n ss) n).fill.length (P64 (aRun (chL cost n) n (GS n ss) n).fill) ∧
        rs' = .own (some ⟨g, 0, none⟩) cg 33 1 n (U32 G') :: rest := by
  have hrel := Rel.start hn hs
  have hfair := chL_fair hn hs cost
  have h := along_c I g n cg (GS n ss) hn hrel.ls hrel.ss f #[.pointer (some ⟨gh, 0, none⟩)] (chL cost n) (fun _ => rest) (fun i hi => (Side.run hn hs hfair i (by omega)).rel.bit (hfair i hi)) (fun i I' hi _ => by
    have hside := Side.run hn hs hfair i (by omega)
    have hp := (chL_pick (cost := cost) hside (by rw [aRun_olen]; exact hi) i).1
    have := hf I' (aRun (chL cost n) n (GS n ss) i).left (aRun (chL cost n) n (GS n ss) i).G (by rw [aRun_glen]; exact hrel.ls) (aRun_small _ _ hrel.ss (by rw [hrel.ls]; exact hn) i) (aRun_left _ _ _ hn i)
    rw [hp] at this
    exact this)
  exact h.mono fun v I' rs' _ ⟨A, c, B, c', h1, h2, h3, h4⟩ => ⟨A, c, B, c', _, h1, h2, h3, h4⟩
end Go.Proofs.Ytpgkbipnkkeicaa
