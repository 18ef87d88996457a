/- The call JournalOnly answers true at any bytes that read as data (at most 1048576); nothing that lay there turns. -/
import Derived.Test.YtkpbhkfpkoiilaaAlive18
import Derived.Test.YtkpbhkfpkoiilaaStr
namespace Go.Proofs.Ytkpbhkfpkoiilaa
open Go.RowKit Go.Tok
set_option linter.unusedVariables false

set_option maxHeartbeats 4000000 in
theorem JournalOnly_walk {v : Value} {b : List Nat} (w : World) (h1 : Rd byteK w v b ∧ b.length ≤ 1048576) :
    Calls Try.prog 3 #[v] w fun e w' => e = .returned (.bool true) ∧ Gr w w' := by
  obtain ⟨hv, lm⟩ := h1
  obtain ⟨a, cap, rfl, ll, ll'⟩ := hv.len
  obtain ⟨n, e, hr⟩ := readsTo_ex b
  have hle := hr.le
  obtain ⟨j1, j2⟩ := journal_only (bytes_mk hv.bytes) hr
  have hm : n * 40 ≤ 140737488355328 := by omega
  have hT := hv.take (m := 7 * n) hle
  have HR := Lib.hid hr
  have HJ := Lib.hid j2
  have n1 : (0 : Int) ≤ 7 * (n : Int) := by omega
  have n2 : 7 * (n : Int) ≤ (b.length : Int) := by omega
  have n3 : ((7 * (n : Int)).toNat) = 7 * n := by omega
  have n4 : 7 * (n : Int) ≤ (cap : Int) := by omega
  clear hr j2
  go_enter Try.func3, Try.ntmps3
  go_wp2_with fail
  refine (alive18_calls _).mono ?_
  rintro _ w1 ⟨rfl, g1⟩
  go_wp2_with fail
  refine (Read_calls _ b n e _ (hv.gr (by (repeat (first | exact Gr.refl _ | assumption | apply Gr.alloc | apply Gr.drew | apply Gr.drewN | refine Gr.trans ?_ (by assumption))))) HR.out hm).mono ?_
  rintro _ w2 ⟨v2, rfl, o2, g2⟩
  obtain ⟨a2, c2, rfl, q1, q2⟩ := o2.len
  have hol := opsTo_len b n
  rw [hol] at o2 q1 ⊢
  clear hol
  go_wp2_with fail
  refine (written_calls _ (opsTo b n) _ o2.rd (by rw [opsTo_len]; omega)).mono ?_
  intro e3 w3 hr3
  rcases hr3 with ⟨_, v3, rfl, o3, g3⟩ | ⟨hbad, _, _⟩
  case inr => rw [j1] at hbad; cases hbad
  obtain ⟨a3, c3, rfl, q3, q4⟩ := o3.len
  have hw7 : (wrL (opsTo b n)).length = 7 * n := by rw [wrL_len, opsTo_len]
  rw [hw7] at o3 q3 ⊢
  rw [HJ.out] at o3
  clear hw7
  have G : Gr w w3 := by (repeat (first | exact Gr.refl _ | assumption | apply Gr.alloc | apply Gr.drew | apply Gr.drewN | refine Gr.trans ?_ (by assumption)))
  have s1 : ∀ k, (convert 22 9 (.slice a3 (7 * n) c3)).run Try.prog (w3.drewN k) = .ok (.string (strOf (b.take (7 * n)))) (w3.drewN k) := fun k => (o3.rd.gr ((Gr.refl _).drewN k)).str Try.underlying22 Try.underlying5 Try.underlying9
  have s2 : ∀ k, (convert 22 9 (.slice a (7 * n) cap)).run Try.prog (w3.drewN k) = .ok (.string (strOf (b.take (7 * n)))) (w3.drewN k) := fun k => ((hT.gr G).gr ((Gr.refl _).drewN k)).str Try.underlying22 Try.underlying5 Try.underlying9
  go_wp2_with fail
  go_quiet (fail)
  go_wp2_with fail
  go_ret
  exact ⟨rfl, G.trans ((Gr.refl _).drewN _)⟩
end Go.Proofs.Ytkpbhkfpkoiilaa
