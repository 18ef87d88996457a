/- A net among the arguments of the second form: its lists are short. -/
import Derived.Test.YtmigejcejnofiaaBulk
namespace Go.Proofs.Ytmigejcejnofiaa
open Go.RowKit Go.Tok Go.ChangeShapes Go.WideShapes Go.ChangeAt
set_option linter.unusedVariables false

section
variable {H : Type} {enc : TypeId × Value → H}
theorem netLen_bulk {d : DataW H} {N : NetD} (h : NetLen d N) (hb : Rows.uptoBulk d ≤ 1048576) : ∀ k, k < N.trans.length → (N.tr k).pre.length + (N.tr k).post.length ≤ 1048576 := by
  obtain ⟨d0, d1, rfl, h2⟩ := h
  intro k hk
  rcases h2 with ⟨_, h3⟩ | ⟨es, sp, rfl, h3, h4⟩
  · rw [h3] at hk; simp at hk
  · obtain ⟨e0, e1, e2, k1, k2, k3⟩ := h4 k hk
    have hm : DataW.agg [e0, e1, e2] ∈ es := List.mem_of_getElem? k1
    have b1 := bulk_mem hm
    have l1 := LenOf.bulk k2
    have l2 := LenOf.bulk k3
    simp only [Rows.uptoBulk, Rows.uptoBulkAll] at b1 hb
    omega
set_option maxRecDepth 100000 in
theorem netB_argU (W : World) {base : Nat} {v : Value} {d : DataW H} {ps : List MemPlace} (hval : Value.okWide Try.prog W .any base 24 v) (hd : DataW.Trod enc Try.prog W 0 (fun _ => true) true 24 v d ps)
    (hb : Rows.uptoBulk d ≤ 1048576) : ∃ N, NetR W v N ∧ ∀ k, k < N.trans.length → (N.tr k).pre.length + (N.tr k).post.length ≤ 1048576 := by
  obtain ⟨fn, ft, T⟩ := netTy
  obtain ⟨N, h1, h2⟩ := net_open T hval hd
  exact ⟨N, h1, netLen_bulk h2 hb⟩
end
end Go.Proofs.Ytmigejcejnofiaa
