/- ReduceSound: for every input the law returns true, and each argument reads behind the call as it read before. -/
import Derived.Test.YtjpapgbdhflgnaaRows
import Derived.Test.YtjpapgbdhflgnaaPD
import Derived.Test.YtjpapgbdhflgnaaWReduceSound
import Derived.Test.YtjpapgbdhflgnaaOpen
namespace Go.Proofs.Ytjpapgbdhflgnaa.lawReduceSound
open Go.RowKit Go.Tok Go.ChangeShapes Go.WideShapes Go.ChangeAt
set_option linter.unusedVariables false

theorem readablesReduceSound : ∀ t ∈ Try.f5.params.toList, Try.prog.readableRec t = true ∧ t < Try.prog.types.size := by
  have h : (Try.f5.params.toList.all fun t => Try.prog.readableRec t && decide (t < Try.prog.types.size)) = true := by kernel_rfl
  intro t ht
  simpa using List.all_eq_true.1 h t ht

set_option maxRecDepth 100000 in
theorem contract (H : Type) (enc : TypeId × Value → H) (W : World) (base : Nat) (args : Array Value) (ds gs : List (DataW H)) (before : List MemPlace)
    (hval : ∀ (j : Nat) t v, Try.f5.params[j]? = some t → args[j]? = some v → Value.okWide Try.prog W .any base t v)
    (hW : DataW.Whole enc Try.prog Try.f5.params.toList Rows.reduceSoundSpec.vars false W args.toList ds gs before)
    (hz : ∀ n ∈ DataW.weightsEach Try.prog Try.f5.params.toList ds, n ≤ reachBytes) :
    Calls Try.prog 5 args W fun e W' => ∃ v, e = .returned v ∧ Rows.reduceSoundSpec.post enc Try.prog Try.f5 false true false false W args v W' := by
  have hW' := hW
  obtain ⟨p, q, hA0, hV, rfl, hfz, hnd⟩ := hW
  have hA : DataW.TrodAll enc Try.prog W 0 (fun _ => true) true Try.f5.params.toList args.toList ds p := hA0
  rw [Try.params5] at hA hval hz
  obtain ⟨v0, vs0, d0, ds0, p0, q0, hargs, rfl, rfl, h0, r0⟩ := trodAll_cons hA
  obtain ⟨v1, vs1, d1, ds1, p1, q1, rfl, rfl, rfl, h1, r1⟩ := trodAll_cons r0
  obtain ⟨v2, vs2, d2, ds2, p2, q2, rfl, rfl, rfl, h2, r2⟩ := trodAll_cons r1
  obtain ⟨v3, vs3, d3, ds3, p3, q3, rfl, rfl, rfl, h3, r3⟩ := trodAll_cons r2
  obtain ⟨rfl, rfl, rfl⟩ := trodAll_nil r3
  obtain rfl : args = #[v0, v1, v2, v3] := by cases args; simp_all
  obtain ⟨rfl, rfl⟩ := trodVars_none hV
  clear hA0
  simp only [List.append_nil] at hW'
  obtain ⟨x0, i0⟩ := net_arg W (hval 0 28 v0 rfl rfl) h0 (fun n hn => hz n (DataW.weights_mem_each (j := 0) rfl rfl n hn))
  obtain ⟨n1, rfl, b1⟩ := int_open Try.underlying3 (hval 1 3 v1 rfl rfl) h1
  obtain ⟨n2, rfl, b2⟩ := int_open Try.underlying3 (hval 2 3 v2 rfl rfl) h2
  obtain ⟨n3, rfl, b3⟩ := int_open Try.underlying3 (hval 3 3 v3 rfl rfl) h3
  refine (ReduceSound_walk W i0 b1 b2 b3).mono fun e W' ⟨he, hg⟩ => ⟨.bool true, he, ?_⟩
  exact law_post laidOut (fun t ht => readablesReduceSound t ht) Try.underlying4 rfl rfl rfl hW' hg

set_option maxRecDepth 100000 in
theorem lifted (os : Os) (started : os.Started) (H : Type) (enc : TypeId × Value → H) :
    ReturnsInHanded {} Try.checked os 5 .any (Rows.reduceSoundSpec.pre6 enc Try.prog Try.f5 Rows.reduceSoundRow.domain false) (Rows.reduceSoundSpec.post enc Try.prog Try.f5 false true false false) := by
  refine returnsInHanded_of_change_sized (C := Try.checked) own started (by kernel_rfl) Try.func5
    (ChangeSpec.witness6 (enc := enc) (C := Try.checked) false ⟨#[], #[.agg #[.int .i64 0, .slice none 0 0], .int .i64 0, .int .i64 0, .int .i64 0], []⟩ 8 (by kernel_rfl) (by kernel_rfl) (by kernel_rfl) (by kernel_rfl)) ?_
  intro W base args ds gs before hval hW _ hz _
  have hgs : gs = [] := by obtain ⟨p, q, _, hV, _⟩ := hW; exact (trodVars_none hV).1
  subst hgs
  exact contract H enc W base args ds [] before hval hW (fun n hn => of_decide_eq_true (List.all_eq_true.1 hz n (by show n ∈ DataW.weightsEach Try.prog (Try.f5.params.toList ++ []) (ds ++ []); rw [weightsEach_nil]; exact hn)))

theorem proved : Rows.ReduceSoundSaid :=
  OpenClaim.holds_of_wide 5 Try.f5 rfl rfl rfl rfl rfl rfl rfl ⟨rfl, rfl, rfl, rfl, rfl⟩ rfl rfl rfl rfl rfl (by kernel_rfl) Try.func5 (by kernel_rfl)
    (of_decide_eq_true (by kernel_rfl)) (by unfold Func.isWrapper; first | (rw [if_pos (by decide +kernel)]; kernel_rfl) | (rw [if_neg (by decide +kernel)]; exact ⟨rfl, rfl⟩))
    (fun os started H enc _ => lifted os started H enc)

end Go.Proofs.Ytjpapgbdhflgnaa.lawReduceSound
