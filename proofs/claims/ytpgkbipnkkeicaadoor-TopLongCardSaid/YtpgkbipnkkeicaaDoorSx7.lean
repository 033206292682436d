import Derived.Test.YtpgkbipnkkeicaaDoorSx6
/-! More rules. -/
namespace Go.Sx
open Go
section
variable {P : Program} {F : Fr} {K : Value → IH → List Row → Prop} {env : Env} {I : IH} {rs : List Row} {d : Option Tmp} {ty : TypeId} {pos : String} {aft : Array Edge} {gd : Option (Nat × Bool)}
/-- A call that takes all rows behind the first ones. -/
theorem OpT.callT (i : Nat) {f : Operand} {args : Array Operand} {ts : Array TypeId} {fid : FuncId} {first caps : Array Value} {vs : List Value} {rsc : List Row} {post : Value → IH → List Row → Prop}
    (hf : opd env f = some (.func (.func fid) first caps)) (ha : opds env args.toList = some vs) (h : Sx.Fn P fid (first ++ vs.toArray ++ caps) I rsc post) (hrs : rs.drop i = rsc)
    (k : ∀ v I' rs', I.le I' → post v I' rs' → K v I' (rs.take i ++ rs')) : OpT P F ⟨d, .call { callee := .value f, args := args, argTypes := ts }, ty, pos, aft, gd⟩ K (blocks rsc) env I rs := .mk fun a w ho hinv QX => by
  have hp : rs.Perm (rsc ++ rs.take i) := by
    have e : rs = rs.take i ++ rsc := by rw [← hrs, List.take_append_drop]
    conv => lhs; rw [e]
    exact List.perm_append_comm
  have hc := OpT.call (P := P) (F := F) (d := d) (ty := ty) (pos := pos) (aft := aft) (gd := gd) (ts := ts) (K := fun v I' r => ∃ rs', r.Perm (rs.take i ++ rs') ∧ K v I' (rs.take i ++ rs')) hf ha h rfl (fun v I' rs' h1 h2 => ⟨rs', List.perm_append_comm, k v I' rs' h1 h2⟩)
  refine Oper.wp_mono ?_ (hc.run a w ho (hinv.perm hp) QX)
  rintro a' w' ⟨v, I', r, h1, h2, h3, rs', h4, h5⟩
  exact ⟨v, I', _, h1, h2.perm h4, h3, h5⟩
end
end Go.Sx
