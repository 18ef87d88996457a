/- Contract of shape.walk: which nodes it finds. -/
import Derived.Test.YtmigejcejnofiaaMSet
import Derived.Test.YtmigejcejnofiaaDfsLaw
import Derived.Test.YtmigejcejnofiaaNet
import Derived.Test.YtmigejcejnofiaaSkip
namespace Go.Proofs.Ytmigejcejnofiaa
open Go.RowKit Go.Tok
open Go.WideMaps (KeyLaw)
open Go.WideElems
set_option linter.unusedVariables false

def nodeV (x : NodeD) : Value := .agg #[.bool x.tran, .int .i64 (x.n : Int)]
theorem nodeV_inj {x y : NodeD} (h : nodeV x = nodeV y) : x = y := by
  obtain ⟨a, m⟩ := x
  obtain ⟨b, n⟩ := y
  simp only [nodeV, Value.agg.injEq, Array.mk.injEq, List.cons.injEq, Value.bool.injEq, Value.int.injEq, true_and, and_true] at h
  simp only [NodeD.mk.injEq]
  exact ⟨h.1, by omega⟩
theorem node_in {vis : List NodeD} {x : NodeD} : nodeV x ∈ vis.map nodeV ↔ x ∈ vis := by
  rw [List.mem_map]
  constructor
  · rintro ⟨y, hy, h⟩; rw [← nodeV_inj h]; exact hy
  · exact fun h => ⟨x, h, rfl⟩
set_option maxRecDepth 100000 in
theorem nodeLaidOut : laidOutB Try.prog = true := by kernel_rfl
set_option maxRecDepth 100000 in
theorem nodeRow : 126 < Try.prog.types.size := of_decide_eq_true (by kernel_rfl)
set_option maxRecDepth 100000 in
theorem nodeWide : (match Try.prog.underlying 126 with | some (.array _ _) | some (.struct _) => true | _ => false) = true := by kernel_rfl
set_option maxRecDepth 100000 in
theorem nodeLaw : KeyLaw Try.prog 126 := deep_law_laid nodeLaidOut (m := 2) (by omega) nodeRow (by kernel_rfl) nodeWide
set_option maxRecDepth 100000 in
theorem zeroInt (u : World) : (zeroValue 3).run Try.prog u = .ok (.int .i64 0) u := by kernel_rfl
theorem key_pair {P : Program} {k : TypeId} {fs : Array Field} {f0 f1 : Field} (hk : P.underlying k = some (.struct fs)) (hfs : fs = #[f0, f1]) (o0 : f0.offset = 0) (o1 : f1.offset = 1) (h0 : P.underlying f0.type = some .bool) (h1 : P.underlying f1.type = some (.int .i64))
    (c0 : P.cellsOf f0.type = 1) (c1 : P.cellsOf f1.type = 1) (ck : P.cellsOf k = 2) (hn : fs.all (·.name != "_") = true) (hkt : P.keyType k = true) (m : Nat) (hsz : P.types.size = m + 1) (b : Bool) (n : Int) (hw : (Lit.int .i64 n).wf = true) : ∃ l, keyOf P k (.agg #[.bool b, .int .i64 n]) = some l := by
  subst hfs
  have hf : (Value.agg #[.bool b, .int .i64 n]).formed P k = true := by simp [Value.formed, hk, ck]
  have hl : P.keyLits (P.types.size + 1) k (Value.agg #[.bool b, .int .i64 n]).cells.toList = some [.bool b, .int .i64 n] := by
    rw [hsz]
    unfold Program.keyLits
    rw [hk]
    have hn' := hn
    simp only [Value.cells, List.length_cons, List.length_nil, ck, hn, and_self, if_true]
    simp [o0, o1, c0, c1, Program.keyLits, h0, h1, hw]
  have : keyOf P k (Value.agg #[.bool b, .int .i64 n]) = some (.string (keyBytes [.bool b, .int .i64 n])) := by
    unfold keyOf
    rw [hk]
    simp [hkt, hf, hl]
  exact ⟨_, this⟩
set_option maxRecDepth 100000 in
theorem node_key (x : NodeD) (h : x.n ≤ 1000) : ∃ l, keyOf Try.prog 126 (nodeV x) = some l := by
  obtain ⟨t, n⟩ := x
  have hw : (Lit.int .i64 (n : Int)).wf = true := by
    simp [Lit.wf, IntKind.min, IntKind.max, IntKind.bits, IntKind.signed]
    simp at h
    omega
  exact key_pair Try.underlying126 rfl rfl rfl Try.underlying4 Try.underlying3 (by kernel_rfl) (by kernel_rfl) (by kernel_rfl) (by kernel_rfl) (by kernel_rfl) (Try.prog.types.size - 1) (by kernel_rfl) t n hw
end Go.Proofs.Ytmigejcejnofiaa
