import Derived.Test.YtpgkbipnkkeicaaDoorSx8
/-! Calls that leave their rows as they are. -/
namespace Go.Sx
open Go
section
variable {P : Program} {F : Fr} {K : Value → IH → List Row → Prop} {env : Env} {I : IH} {rs : List Row} {d : Option Tmp} {ty : TypeId} {pos : String} {aft : Array Edge} {gd : Option (Nat × Bool)}
def Row.isBlk : Row → Bool
  | .blk _ _ _ => true
  | _ => false
theorem OpT.callRO (i j : Nat) {f : Operand} {args : Array Operand} {ts : Array TypeId} {fid : FuncId} {first caps : Array Value} {vs : List Value} {rsc : List Row} {post : Value → IH → List Row → Prop}
    (hf : opd env f = some (.func (.func fid) first caps)) (ha : opds env args.toList = some vs) (h : Sx.Fn P fid (first ++ vs.toArray ++ caps) I rsc post) (hrs : (rs.drop i).take j = rsc) (hall : rsc.all Row.isBlk = true)
    (hpost : ∀ v I' rs', post v I' rs' → rs' = rsc)
    (k : ∀ v I', I.le I' → post v I' rsc → K v I' rs) : OpT P F ⟨d, .call { callee := .value f, args := args, argTypes := ts }, ty, pos, aft, gd⟩ K [] env I rs := .mk fun a w ho hinv QX => by
  have hc := OpT.callW (P := P) (F := F) (d := d) (ty := ty) (pos := pos) (aft := aft) (gd := gd) (ts := ts) (K := fun v I' r => r = rs ∧ K v I' rs) i j hf ha h hrs (fun v I' rs' h1 h2 => by
    have e := hpost _ _ _ h2
    subst e
    refine ⟨?_, k v I' h1 h2⟩
    rw [← hrs, ← List.drop_drop, List.take_append_drop, List.take_append_drop])
  refine Oper.wp_mono ?_ (hc.run a w ho hinv QX)
  rintro a' w' ⟨v, I', r, h1, h2, h3, rfl, h5⟩
  refine ⟨v, I', r, h1, h2, fun ad u _ hu => ?_, h5⟩
  by_cases hb : ad.block ∈ blocks rsc
  · obtain ⟨x, hx, hxb⟩ := mem_blocks.1 hb
    have hx' : x ∈ r := by
      rw [← hrs] at hx
      exact List.mem_of_mem_drop (List.mem_of_mem_take hx)
    have h6 := hinv.mem.rows x hx'
    have h7 := h2.mem.rows x hx'
    have h8 := List.all_eq_true.1 hall x hx
    cases x with
    | own A c T sz n xs => cases h8
    | blk g T cs =>
      cases hxb
      have e : w'.heap[ad.block]? = w.heap[ad.block]? := (show w'.heap[ad.block]? = _ from h7).trans (show w.heap[ad.block]? = _ from h6).symm
      rw [World.cell?_of_block e]; exact hu
  · exact h3 ad u hb hu
end
end Go.Sx
