/- HallKept: for every input the law returns true, and each argument reads behind the call as it read before; the input of bulk at most 1048576. -/
import Derived.Test.YtidpppfimkhgkaaRows
import Derived.Test.YtidpppfimkhgkaaPD
import Derived.Test.YtidpppfimkhgkaaWHallKept
import Derived.Test.YtidpppfimkhgkaaBulk
import Derived.Test.YtidpppfimkhgkaaOpenH
namespace Go.Proofs.Ytidpppfimkhgkaa.lawHallKept
open Go.RowKit Go.Tok Go.ChangeShapes Go.WideShapes Go.ChangeAt
set_option linter.unusedVariables false

theorem readablesHallKept : ∀ t ∈ Try.f10.params.toList, Try.prog.readableRec t = true ∧ t < Try.prog.types.size := by
  have h : (Try.f10.params.toList.all fun t => Try.prog.readableRec t && decide (t < Try.prog.types.size)) = true := by kernel_rfl
  intro t ht
  simpa using List.all_eq_true.1 h t ht

set_option maxRecDepth 100000 in
theorem contract (H : Type) (enc : TypeId × Value → H) (W : World) (base : Nat) (args : Array Value) (ds gs : List (DataW H)) (before : List MemPlace)
    (hval : ∀ (j : Nat) t v, Try.f10.params[j]? = some t → args[j]? = some v → Value.okWide Try.prog W .any base t v)
    (hW : DataW.Whole enc Try.prog Try.f10.params.toList Rows.hallKeptSpec.vars false W args.toList ds gs before)
    (hz : ∀ n ∈ DataW.weightsEach Try.prog Try.f10.params.toList ds, n ≤ reachBytes) (hk : Rows.uptoBulkAll ds ≤ 1048576) :
    Calls Try.prog 10 args W fun e W' => ∃ v, e = .returned v ∧ Rows.hallKeptSpec.post enc Try.prog Try.f10 false true false false W args v W' := by
  have hW' := hW
  obtain ⟨p, q, hA0, hV, rfl, hfz, hnd⟩ := hW
  have hA : DataW.TrodAll enc Try.prog W 0 (fun _ => true) true Try.f10.params.toList args.toList ds p := hA0
  rw [Try.params10] at hA hval hz
  obtain ⟨v0, vs0, d0, ds0, p0, q0, hargs, rfl, rfl, h0, r0⟩ := trodAll_cons hA
  obtain ⟨v1, vs1, d1, ds1, p1, q1, rfl, rfl, rfl, h1, r1⟩ := trodAll_cons r0
  obtain ⟨v2, vs2, d2, ds2, p2, q2, rfl, rfl, rfl, h2, r2⟩ := trodAll_cons r1
  obtain ⟨v3, vs3, d3, ds3, p3, q3, rfl, rfl, rfl, h3, r3⟩ := trodAll_cons r2
  obtain ⟨v4, vs4, d4, ds4, p4, q4, rfl, rfl, rfl, h4, r4⟩ := trodAll_cons r3
  obtain ⟨v5, vs5, d5, ds5, p5, q5, rfl, rfl, rfl, h5, r5⟩ := trodAll_cons r4
  obtain ⟨rfl, rfl, rfl⟩ := trodAll_nil r5
  obtain rfl : args = #[v0, v1, v2, v3, v4, v5] := by cases args; simp_all
  obtain ⟨rfl, rfl⟩ := trodVars_none hV
  clear hA0
  simp only [List.append_nil] at hW'
  obtain ⟨x0, i0⟩ := net_argU W (hval 0 28 v0 rfl rfl) h0 (Nat.le_trans (bulk_mem (l := [d0, d1, d2, d3, d4, d5]) (by simp)) hk)
  obtain ⟨n1, rfl, b1⟩ := int_open Try.underlying3 (hval 1 3 v1 rfl rfl) h1
  obtain ⟨x2, i2⟩ := mat_argU W (hval 2 55 v2 rfl rfl) h2 (Nat.le_trans (bulk_mem (l := [d0, d1, d2, d3, d4, d5]) (by simp)) hk)
  obtain ⟨x3, i3⟩ := hops_argU W (hval 3 56 v3 rfl rfl) h3 (Nat.le_trans (bulk_mem (l := [d0, d1, d2, d3, d4, d5]) (by simp)) hk)
  obtain ⟨x4, i4⟩ := hops_argU W (hval 4 56 v4 rfl rfl) h4 (Nat.le_trans (bulk_mem (l := [d0, d1, d2, d3, d4, d5]) (by simp)) hk)
  obtain ⟨n5, rfl, b5⟩ := int_open Try.underlying3 (hval 5 3 v5 rfl rfl) h5
  refine (HallKept_walk W i0 b1 i2 i3 i4 b5).mono fun e W' ⟨he, hg⟩ => ⟨.bool true, he, ?_⟩
  exact law_post laidOut (fun t ht => readablesHallKept t ht) Try.underlying4 rfl rfl rfl hW' hg

set_option maxRecDepth 100000 in
theorem lifted (os : Os) (started : os.Started) (H : Type) (enc : TypeId × Value → H) (F : Stop.Interp) :
    ReturnsInHanded {} Try.checked os 10 .any ((Rows.OpenSpec.upto Rows.hallKeptSpec).pre6 enc Try.prog Try.f10 Rows.hallKeptUptoRow.domain false) (((Rows.OpenSpec.upto Rows.hallKeptSpec).at F).post enc Try.prog Try.f10 false true false false) := by
  refine returnsInHanded_of_cond_sized (C := Try.checked) (s := Rows.OpenSpec.upto Rows.hallKeptSpec) (k := Rows.uptoSmall) rfl own started (by kernel_rfl) Try.func10
    (OpenSpec.witness (enc := enc) (C := Try.checked) (s := Rows.OpenSpec.upto Rows.hallKeptSpec) (k := Rows.uptoSmall) rfl false ⟨#[], #[.agg #[.int .i64 0, .slice none 0 0], .int .i64 0, .slice none 0 0, .slice none 0 0, .slice none 0 0, .int .i64 0], []⟩ 8 (by kernel_rfl) (by kernel_rfl) (by kernel_rfl)
      (x := ([.agg [.lit (.int .i64 0), .nil], .lit (.int .i64 0), .nil, .nil, .nil, .lit (.int .i64 0)], [], [])) (by kernel_rfl) rfl (by kernel_rfl)) ?_
  intro W base args ds gs before hval hW _ hk hz _
  have hgs : gs = [] := by obtain ⟨p, q, _, hV, _⟩ := hW; exact (trodVars_none hV).1
  subst hgs
  rw [List.append_nil] at hk
  exact contract H enc W base args ds [] before hval hW (fun n hn => of_decide_eq_true (List.all_eq_true.1 hz n (by show n ∈ DataW.weightsEach Try.prog (Try.f10.params.toList ++ []) (ds ++ []); rw [weightsEach_nil]; exact hn))) (of_decide_eq_true hk)

theorem proved : Rows.HallKeptUptoSaid :=
  OpenClaim.holds_of_cond 10 Try.f10 rfl rfl rfl rfl rfl rfl rfl ⟨rfl, rfl, rfl, rfl, rfl⟩ rfl rfl rfl rfl rfl (by kernel_rfl) Try.func10 (by kernel_rfl)
    (of_decide_eq_true (by kernel_rfl)) (by unfold Func.isWrapper; first | (rw [if_pos (by decide +kernel)]; kernel_rfl) | (rw [if_neg (by decide +kernel)]; exact ⟨rfl, rfl⟩))
    (fun os started H enc _ F => lifted os started H enc F)

end Go.Proofs.Ytidpppfimkhgkaa.lawHallKept
