import Derived.Test.YtpgkbipnkkeicaaDoorSx10
/-! Where several ways out of a block meet. -/
namespace Go.Sx
open Go
section
variable {P : Program} {n : Nat} {F : Fr} {Q : Pst} {env : Env} {I : IH} {rs : List Row}
theorem SyC.mid {id : Nat} {c y : Code} (J : Env → IH → List Row → Prop)
    (h1 : SyC P n F c (InB id (Then (fun env I rs => ∃ env' rs', Sub env' env ∧ rs'.Sublist rs ∧ J env' I rs') Q)) env I rs)
    (h2 : ∀ env I rs, J env I rs → SyC P n F y Q env I rs) : SyC P n F c (InB id (Then (fun env I rs => SyC P n F y Q env I rs) Q)) env I rs := by
  have h3 : ∀ env I rs, (∃ env' rs', Sub env' env ∧ rs'.Sublist rs ∧ J env' I rs') → SyC P n F y Q env I rs := fun env I rs ⟨env', rs', hs, hr, hj⟩ => SyC.sub env' hs (SyC.rows rs' hr (h2 _ _ _ hj))
  have t : ∀ {e : Exit} {env : Env} {I : IH} {rs : List Row}, Then (fun env I rs => ∃ env' rs', Sub env' env ∧ rs'.Sublist rs ∧ J env' I rs') Q e env I rs → Then (fun env I rs => SyC P n F y Q env I rs) Q e env I rs := by
    intro e env I rs h
    cases h with
    | norm h => exact .norm (h3 _ _ _ h)
    | exit h => exact .exit h
    | goto h => exact .goto h
    | ret h => exact .ret h
  refine ⟨fun a w hh hi => Code.wp_mono ?_ (h1.run a w hh hi)⟩
  rintro e a w ⟨env, I, rs, g1, g2, g3⟩
  refine ⟨env, I, rs, g1, g2, ?_⟩
  cases g3 with
  | norm h => exact .norm (t h)
  | hit h => exact .hit (t h)
  | miss hn h => exact .miss hn (t h)
  | goto h => exact .goto (t h)
  | ret h => exact .ret (t h)
theorem SyC.seqJ {x y : Code} (J : Env → IH → List Row → Prop) (h1 : SyC P n F x (Then (fun env I rs => ∃ env' rs', Sub env' env ∧ rs'.Sublist rs ∧ J env' I rs') Q) env I rs)
    (h2 : ∀ env I rs, J env I rs → SyC P n F y Q env I rs) : SyC P n F (.seq x y) Q env I rs := by
  refine SyC.seq ⟨fun a w hh hi => Code.wp_mono ?_ (h1.run a w hh hi)⟩
  rintro e a w ⟨env, I, rs, g1, g2, g3⟩
  refine ⟨env, I, rs, g1, g2, ?_⟩
  cases g3 with
  | norm h => obtain ⟨env', rs', hs, hr, hj⟩ := h; exact .norm (SyC.sub env' hs (SyC.rows rs' hr (h2 _ _ _ hj)))
  | exit h => exact .exit h
  | goto h => exact .goto h
  | ret h => exact .ret h
theorem SyL.offU {ops : Array Oper} {rest : List Oper} {o : Oper} {d j t : Nat} {want : Bool} (hg : o.guard = some (j, want)) (ht : (ops[j]?).bind (·.dst) = some t) (hl : look env t = some undef) (hd : o.dst = some d) (hdn : d < n)
    (k : SyL P n F ops rest Q ((d, undef) :: env) I rs) : SyL P n F ops (o :: rest) Q env I rs := ⟨fun a w hh hi => by
  refine wpList_step fun K hK => ?_
  have hs := hh.slot t _ hl
  rw [if_neg (by simp [Region.wanted, hg, yielded, ht, hs, undef])]
  rw [hd]
  exact hK _ _ (k.run _ _ (hh.put hdn undef) hi)⟩
variable {d : Option Tmp} {ty : TypeId} {pos : String} {aft : Array Edge} {g : Option (Nat × Bool)}
theorem LV.and1 {T T' : TypeId} {x y : Operand} {m : Nat} (hx : opd env x = some (.int .i64 (m : Int))) (hy : opd env y = some (.int .i64 1)) (hm : m < 9223372036854775808) :
    LV P env ⟨d, .binOp .and T x y T', ty, pos, aft, g⟩ (.int .i64 ((m % 2 : Nat) : Int)) [] := by
  have h := LV.bitsI (P := P) (d := d) (ty := ty) (pos := pos) (aft := aft) (g := g) (T := T) (T' := T') (op := .and) (n := 1) (r := m &&& 1) hx hy rfl hm (by decide)
  rwa [Nat.and_one_is_mod] at h
end
end Go.Sx
