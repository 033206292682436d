import Derived.Test.YtpgkbipnkkeicaaDoorST1
import Derived.Test.YtpgkbipnkkeicaaDoorN8
set_option linter.unusedSimpArgs false
set_option linter.unusedVariables false
/-! Strings of digits: without the zeros ahead; their order. -/
namespace Go.Sx
open Go
section
variable {P : Program} {env : Env} {d : Option Tmp} {ty : TypeId} {pos : String} {aft : Array Edge} {g : Option (Nat × Bool)}
theorem LV.idx48 {T : TypeId} [hT : TyStr P T] {x i : Operand} {k : IntKind} (hx : opd env x = some (.string ⟨#[48]⟩)) (hi : opd env i = some (.int k 0)) :
    LV P env ⟨d, .index T x i, ty, pos, aft, g⟩ (.int .u8 48) [] := LV.idxStr (j := 0) (b := 48) hx hi rfl
theorem LV.len48 {T : TypeId} [hT : TyStr P T] {x : Operand} (hx : opd env x = some (.string ⟨#[48]⟩)) :
    LV P env ⟨d, .call { callee := .builtin .len, args := #[x], argTypes := #[T] }, ty, pos, aft, g⟩ (.int .i64 1) [] := LV.lenStr hx
theorem LV.eqE {T T' : TypeId} [hT : TyStr P T] {x y : Operand} {l : List Nat} (hx : opd env x = some (.string (sB l))) (hy : opd env y = some (.string ⟨#[]⟩)) :
    LV P env ⟨d, .binOp .eql T x y T', ty, pos, aft, g⟩ (.bool l.isEmpty) [] := by
  have h := LV.eqSB (P := P) (d := d) (ty := ty) (pos := pos) (aft := aft) (g := g) (T := T) (T' := T') hx hy
  rwa [sB_isEmpty] at h
theorem LV.eq48 {T T' : TypeId} [hT : TyStr P T] {x y : Operand} (hx : opd env x = some (.string ⟨#[48]⟩)) (hy : opd env y = some (.string ⟨#[]⟩)) :
    LV P env ⟨d, .binOp .eql T x y T', ty, pos, aft, g⟩ (.bool false) [] := by
  have h := LV.eqSB (P := P) (d := d) (ty := ty) (pos := pos) (aft := aft) (g := g) (T := T) (T' := T') hx hy
  have e : ((⟨#[48]⟩ : ByteArray).toList == (⟨#[]⟩ : ByteArray).toList) = false := by decide +kernel
  rwa [e] at h
end
end Go.Sx
namespace Go.Proofs.YtpgkbipnkkeicaaDoor
open Go Go.Sx Go.Nt
set_option maxRecDepth 100000 in
theorem trimLeft_c (I : IH) (l : List Nat) (hl : By l) : PFn Tryd.prog 37 #[.string (sB l), .string ⟨#[48]⟩] I fun r I' => r = .string (sB (l.dropWhile (· == 48))) ∧ I' = I := by
  have ht := trimByte_c I l hl
  refine Fn.intro (n := 37) (args := [.string (sB l), .string ⟨#[48]⟩]) (by kernel_rfl) Tryd.func37 rfl Tryd.ntmps37 (Nat.le_of_ble_eq_true rfl) [(0, .string (sB l)), (1, .string ⟨#[48]⟩)] rfl (fun w0 => ?_)
  cases he : l.isEmpty with
  | true =>
    have hn : l = [] := by simpa using he
    repeat' (first
      | (rw [he])
      | (refine SyC.seq ?_)
      | (refine SyC.region ?_)
      | (refine SyL.nil ?_)
      | (refine Then.norm ?_)
      | (refine Then.ret ?_)
      | (refine SyC.ret ?_)
      | (refine SyL.light (LV.move rfl) Rq.nil (by first | (apply Wn.none; rfl) | (refine Wn.yes rfl rfl rfl ?_; first | assumption | (with_reducible rfl) | decide | (simp only [decide_eq_true_eq, decide_eq_false_iff_not, Bool.not_eq_true', Bool.not_eq_false', beq_iff_eq, bne_iff_ne, ne_eq, beq_eq_false_iff_ne, bne_eq_false_iff_eq, Int.not_lt, Int.not_le, Bool.true_eq_false, Bool.false_eq_true, tb_one, tb_zero]; omega))) rfl (ltB rfl) ?_)
      | (refine SyL.light (LV.assign rfl) Rq.nil (by first | (apply Wn.none; rfl) | (refine Wn.yes rfl rfl rfl ?_; first | assumption | (with_reducible rfl) | decide | (simp only [decide_eq_true_eq, decide_eq_false_iff_not, Bool.not_eq_true', Bool.not_eq_false', beq_iff_eq, bne_iff_ne, ne_eq, beq_eq_false_iff_ne, bne_eq_false_iff_eq, Int.not_lt, Int.not_le, Bool.true_eq_false, Bool.false_eq_true, tb_one, tb_zero]; omega))) rfl (ltB rfl) ?_)
      | (refine SyL.offF rfl rfl rfl (by first | assumption | (with_reducible rfl) | decide | (simp only [decide_eq_true_eq, decide_eq_false_iff_not, Bool.not_eq_true', Bool.not_eq_false', beq_iff_eq, bne_iff_ne, ne_eq, beq_eq_false_iff_ne, bne_eq_false_iff_eq, Int.not_lt, Int.not_le, Bool.true_eq_false, Bool.false_eq_true, tb_one, tb_zero]; omega)) rfl (ltB rfl) ?_)
      | (refine SyL.light (LV.eqE rfl rfl) Rq.nil (by first | (apply Wn.none; rfl) | (refine Wn.yes rfl rfl rfl ?_; first | assumption | (with_reducible rfl) | decide | (simp only [decide_eq_true_eq, decide_eq_false_iff_not, Bool.not_eq_true', Bool.not_eq_false', beq_iff_eq, bne_iff_ne, ne_eq, beq_eq_false_iff_ne, bne_eq_false_iff_eq, Int.not_lt, Int.not_le, Bool.true_eq_false, Bool.false_eq_true, tb_one, tb_zero]; omega))) rfl (ltB rfl) ?_)
      | (refine SyL.light (LV.pickT rfl (by first | assumption | (with_reducible rfl) | decide | (simp only [decide_eq_true_eq, decide_eq_false_iff_not, Bool.not_eq_true', Bool.not_eq_false', beq_iff_eq, bne_iff_ne, ne_eq, beq_eq_false_iff_ne, bne_eq_false_iff_eq, Int.not_lt, Int.not_le, Bool.true_eq_false, Bool.false_eq_true, tb_one, tb_zero]; omega)) rfl) Rq.nil (by first | (apply Wn.none; rfl) | (refine Wn.yes rfl rfl rfl ?_; first | assumption | (with_reducible rfl) | decide | (simp only [decide_eq_true_eq, decide_eq_false_iff_not, Bool.not_eq_true', Bool.not_eq_false', beq_iff_eq, bne_iff_ne, ne_eq, beq_eq_false_iff_ne, bne_eq_false_iff_eq, Int.not_lt, Int.not_le, Bool.true_eq_false, Bool.false_eq_true, tb_one, tb_zero]; omega))) rfl (ltB rfl) ?_)
      | (refine SyC.condT rfl (by first | assumption | (with_reducible rfl) | decide | (simp only [decide_eq_true_eq, decide_eq_false_iff_not, Bool.not_eq_true', Bool.not_eq_false', beq_iff_eq, bne_iff_ne, ne_eq, beq_eq_false_iff_ne, bne_eq_false_iff_eq, Int.not_lt, Int.not_le, Bool.true_eq_false, Bool.false_eq_true, tb_one, tb_zero]; omega)) ?_))
    refine Ret.one (by simp) Tryd.results37 (.tmp rfl) ?_
    exact ⟨rfl, by rw [hn]; rfl, rfl⟩
  | false =>
    repeat' (first
      | (rw [he])
      | (refine SyC.seq ?_)
      | (refine SyC.region ?_)
      | (refine SyL.nil ?_)
      | (refine Then.norm ?_)
      | (refine Then.ret ?_)
      | (refine SyC.skip ?_)
      | (refine SyC.ret ?_)
      | (refine SyL.light (LV.move rfl) Rq.nil (by first | (apply Wn.none; rfl) | (refine Wn.yes rfl rfl rfl ?_; first | assumption | (with_reducible rfl) | decide | (simp only [decide_eq_true_eq, decide_eq_false_iff_not, Bool.not_eq_true', Bool.not_eq_false', beq_iff_eq, bne_iff_ne, ne_eq, beq_eq_false_iff_ne, bne_eq_false_iff_eq, Int.not_lt, Int.not_le, Bool.true_eq_false, Bool.false_eq_true, tb_one, tb_zero]; omega))) rfl (ltB rfl) ?_)
      | (refine SyL.light (LV.assign rfl) Rq.nil (by first | (apply Wn.none; rfl) | (refine Wn.yes rfl rfl rfl ?_; first | assumption | (with_reducible rfl) | decide | (simp only [decide_eq_true_eq, decide_eq_false_iff_not, Bool.not_eq_true', Bool.not_eq_false', beq_iff_eq, bne_iff_ne, ne_eq, beq_eq_false_iff_ne, bne_eq_false_iff_eq, Int.not_lt, Int.not_le, Bool.true_eq_false, Bool.false_eq_true, tb_one, tb_zero]; omega))) rfl (ltB rfl) ?_)
      | (refine SyL.light (LV.eqE rfl rfl) Rq.nil (by first | (apply Wn.none; rfl) | (refine Wn.yes rfl rfl rfl ?_; first | assumption | (with_reducible rfl) | decide | (simp only [decide_eq_true_eq, decide_eq_false_iff_not, Bool.not_eq_true', Bool.not_eq_false', beq_iff_eq, bne_iff_ne, ne_eq, beq_eq_false_iff_ne, bne_eq_false_iff_eq, Int.not_lt, Int.not_le, Bool.true_eq_false, Bool.false_eq_true, tb_one, tb_zero]; omega))) rfl (ltB rfl) ?_)
      | (refine SyL.light (LV.eq48 rfl rfl) Rq.nil (by first | (apply Wn.none; rfl) | (refine Wn.yes rfl rfl rfl ?_; first | assumption | (with_reducible rfl) | decide | (simp only [decide_eq_true_eq, decide_eq_false_iff_not, Bool.not_eq_true', Bool.not_eq_false', beq_iff_eq, bne_iff_ne, ne_eq, beq_eq_false_iff_ne, bne_eq_false_iff_eq, Int.not_lt, Int.not_le, Bool.true_eq_false, Bool.false_eq_true, tb_one, tb_zero]; omega))) rfl (ltB rfl) ?_)
      | (refine SyL.light (LV.len48 rfl) Rq.nil (by first | (apply Wn.none; rfl) | (refine Wn.yes rfl rfl rfl ?_; first | assumption | (with_reducible rfl) | decide | (simp only [decide_eq_true_eq, decide_eq_false_iff_not, Bool.not_eq_true', Bool.not_eq_false', beq_iff_eq, bne_iff_ne, ne_eq, beq_eq_false_iff_ne, bne_eq_false_iff_eq, Int.not_lt, Int.not_le, Bool.true_eq_false, Bool.false_eq_true, tb_one, tb_zero]; omega))) rfl (ltB rfl) ?_)
      | (refine SyL.light (LV.idx48 rfl rfl) Rq.nil (by first | (apply Wn.none; rfl) | (refine Wn.yes rfl rfl rfl ?_; first | assumption | (with_reducible rfl) | decide | (simp only [decide_eq_true_eq, decide_eq_false_iff_not, Bool.not_eq_true', Bool.not_eq_false', beq_iff_eq, bne_iff_ne, ne_eq, beq_eq_false_iff_ne, bne_eq_false_iff_eq, Int.not_lt, Int.not_le, Bool.true_eq_false, Bool.false_eq_true, tb_one, tb_zero]; omega))) rfl (ltB rfl) ?_)
      | (refine SyL.light (LV.cmp rfl rfl rfl) Rq.nil (by first | (apply Wn.none; rfl) | (refine Wn.yes rfl rfl rfl ?_; first | assumption | (with_reducible rfl) | decide | (simp only [decide_eq_true_eq, decide_eq_false_iff_not, Bool.not_eq_true', Bool.not_eq_false', beq_iff_eq, bne_iff_ne, ne_eq, beq_eq_false_iff_ne, bne_eq_false_iff_eq, Int.not_lt, Int.not_le, Bool.true_eq_false, Bool.false_eq_true, tb_one, tb_zero]; omega))) rfl (ltB rfl) ?_)
      | (refine SyL.light (LV.pickT rfl (by first | assumption | (with_reducible rfl) | decide | (simp only [decide_eq_true_eq, decide_eq_false_iff_not, Bool.not_eq_true', Bool.not_eq_false', beq_iff_eq, bne_iff_ne, ne_eq, beq_eq_false_iff_ne, bne_eq_false_iff_eq, Int.not_lt, Int.not_le, Bool.true_eq_false, Bool.false_eq_true, tb_one, tb_zero]; omega)) rfl) Rq.nil (by first | (apply Wn.none; rfl) | (refine Wn.yes rfl rfl rfl ?_; first | assumption | (with_reducible rfl) | decide | (simp only [decide_eq_true_eq, decide_eq_false_iff_not, Bool.not_eq_true', Bool.not_eq_false', beq_iff_eq, bne_iff_ne, ne_eq, beq_eq_false_iff_ne, bne_eq_false_iff_eq, Int.not_lt, Int.not_le, Bool.true_eq_false, Bool.false_eq_true, tb_one, tb_zero]; omega))) rfl (ltB rfl) ?_)
      | (refine SyL.light (LV.pickF rfl (by first | assumption | (with_reducible rfl) | decide | (simp only [decide_eq_true_eq, decide_eq_false_iff_not, Bool.not_eq_true', Bool.not_eq_false', beq_iff_eq, bne_iff_ne, ne_eq, beq_eq_false_iff_ne, bne_eq_false_iff_eq, Int.not_lt, Int.not_le, Bool.true_eq_false, Bool.false_eq_true, tb_one, tb_zero]; omega)) rfl) Rq.nil (by first | (apply Wn.none; rfl) | (refine Wn.yes rfl rfl rfl ?_; first | assumption | (with_reducible rfl) | decide | (simp only [decide_eq_true_eq, decide_eq_false_iff_not, Bool.not_eq_true', Bool.not_eq_false', beq_iff_eq, bne_iff_ne, ne_eq, beq_eq_false_iff_ne, bne_eq_false_iff_eq, Int.not_lt, Int.not_le, Bool.true_eq_false, Bool.false_eq_true, tb_one, tb_zero]; omega))) rfl (ltB rfl) ?_)
      | (refine SyL.heavy (OpT.pcall rfl rfl (ht) ?_) (by first | (apply Wn.none; rfl) | (refine Wn.yes rfl rfl rfl ?_; first | assumption | (with_reducible rfl) | decide | (simp only [decide_eq_true_eq, decide_eq_false_iff_not, Bool.not_eq_true', Bool.not_eq_false', beq_iff_eq, bne_iff_ne, ne_eq, beq_eq_false_iff_ne, bne_eq_false_iff_eq, Int.not_lt, Int.not_le, Bool.true_eq_false, Bool.false_eq_true, tb_one, tb_zero]; omega))) rfl (ltB rfl); rintro v1 I1 - ⟨rfl, rfl⟩)
      | (refine SyC.condT rfl (by first | assumption | (with_reducible rfl) | decide | (simp only [decide_eq_true_eq, decide_eq_false_iff_not, Bool.not_eq_true', Bool.not_eq_false', beq_iff_eq, bne_iff_ne, ne_eq, beq_eq_false_iff_ne, bne_eq_false_iff_eq, Int.not_lt, Int.not_le, Bool.true_eq_false, Bool.false_eq_true, tb_one, tb_zero]; omega)) ?_)
      | (refine SyC.condF rfl (by first | assumption | (with_reducible rfl) | decide | (simp only [decide_eq_true_eq, decide_eq_false_iff_not, Bool.not_eq_true', Bool.not_eq_false', beq_iff_eq, bne_iff_ne, ne_eq, beq_eq_false_iff_ne, bne_eq_false_iff_eq, Int.not_lt, Int.not_le, Bool.true_eq_false, Bool.false_eq_true, tb_one, tb_zero]; omega)) ?_))
    refine Ret.one (by simp) Tryd.results37 (.tmp rfl) ?_
    exact ⟨rfl, rfl, rfl⟩
set_option maxRecDepth 100000 in
theorem sigilTrim_c (I : IH) (ad : Addr) (c : Nat) (l : List Nat) (hl : D10 l) (h : RdSl I 1 (.slice (some ad) (asc l).length c) (asc l).length (U8 (asc l))) : PFn Tryd.prog 22 #[.slice (some ad) (asc l).length c] I fun r I' => r = S (dv l) ∧ I' = I := by
  have ht := trimLeft_c I (asc l) (asc_by hl)
  rw [asc_trim] at ht
  have hd := dec_trim hl
  have hq : Rq I [] (reqs ad ((asc l).map fun (x : Nat) => Value.int .u8 (x : Int))) := Rq.immA (by
    obtain ⟨_, A', c', e, _, _, h5⟩ := h
    intro j u hu
    have h0 : (asc l).length ≠ 0 := fun e0 => by
      rw [List.eq_nil_of_length_eq_zero e0] at hu; simp at hu
    obtain ⟨ad', e2, hc⟩ := h5 (Nat.pos_of_ne_zero h0)
    cases e
    cases e2
    have := hc j u hu
    exact this)
  unfold S
  generalize asc l = a at *
  refine Fn.intro (n := 10) (args := [.slice (some ad) a.length c]) (by kernel_rfl) Tryd.func22 rfl Tryd.ntmps22 (Nat.le_of_ble_eq_true rfl) [(0, .slice (some ad) a.length c)] rfl (fun w0 => ?_)
  generalize hm : l.dropWhile (· == 0) = m at *
  cases he : (asc m).isEmpty with
  | true =>
    have hn : m = [] := by cases m with | nil => rfl | cons _ _ => simp [asc] at he
    repeat' (first
      | ((refine SyL.light (LV.strOf rfl) hq (.none rfl) rfl (ltB rfl) ?_))
      | (rw [he])
      | (refine SyC.seq ?_)
      | (refine SyC.region ?_)
      | (refine SyL.nil ?_)
      | (refine Then.norm ?_)
      | (refine Then.ret ?_)
      | (refine SyC.ret ?_)
      | (refine SyL.light (LV.move rfl) Rq.nil (.none rfl) rfl (ltB rfl) ?_)
      | (refine SyL.light (LV.assign rfl) Rq.nil (.none rfl) rfl (ltB rfl) ?_)
      | (refine SyL.light (LV.eqE rfl rfl) Rq.nil (.none rfl) rfl (ltB rfl) ?_)
      | (refine SyL.heavy (OpT.pcall rfl rfl (ht) ?_) (.none rfl) rfl (ltB rfl); rintro v1 I1 - ⟨rfl, rfl⟩)
      | (refine SyC.condT rfl (by first | assumption | (with_reducible rfl) | decide | (simp only [decide_eq_true_eq, decide_eq_false_iff_not, Bool.not_eq_true', Bool.not_eq_false', beq_iff_eq, bne_iff_ne, ne_eq, beq_eq_false_iff_ne, bne_eq_false_iff_eq, Int.not_lt, Int.not_le, Bool.true_eq_false, Bool.false_eq_true, tb_one, tb_zero]; omega)) ?_))
    refine Ret.one (by simp) Tryd.results22 (.tmp rfl) ?_
    exact ⟨rfl, by rw [hd, if_pos hn]; rfl, rfl⟩
  | false =>
    have hn : m ≠ [] := by rintro rfl; simp [asc] at he
    repeat' (first
      | ((refine SyL.light (LV.strOf rfl) hq (.none rfl) rfl (ltB rfl) ?_))
      | (rw [he])
      | (refine SyC.seq ?_)
      | (refine SyC.region ?_)
      | (refine SyL.nil ?_)
      | (refine Then.norm ?_)
      | (refine SyC.skip ?_)
      | (refine SyC.ret ?_)
      | (refine SyL.light (LV.move rfl) Rq.nil (.none rfl) rfl (ltB rfl) ?_)
      | (refine SyL.light (LV.assign rfl) Rq.nil (.none rfl) rfl (ltB rfl) ?_)
      | (refine SyL.light (LV.eqE rfl rfl) Rq.nil (.none rfl) rfl (ltB rfl) ?_)
      | (refine SyL.heavy (OpT.pcall rfl rfl (ht) ?_) (.none rfl) rfl (ltB rfl); rintro v1 I1 - ⟨rfl, rfl⟩)
      | (refine SyC.condF rfl (by first | assumption | (with_reducible rfl) | decide | (simp only [decide_eq_true_eq, decide_eq_false_iff_not, Bool.not_eq_true', Bool.not_eq_false', beq_iff_eq, bne_iff_ne, ne_eq, beq_eq_false_iff_ne, bne_eq_false_iff_eq, Int.not_lt, Int.not_le, Bool.true_eq_false, Bool.false_eq_true, tb_one, tb_zero]; omega)) ?_))
    refine Ret.one (by simp) Tryd.results22 (.tmp rfl) ?_
    exact ⟨rfl, by rw [hd, if_neg hn], rfl⟩
end Go.Proofs.YtpgkbipnkkeicaaDoor
