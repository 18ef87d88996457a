/- The call JournalSpoilt answers true at any operations, number and byte that read as data (at most 3518437208873 operations); nothing that lay there turns. -/
import Derived.Test.YtkpbhkfpkoiilaaAlive18
namespace Go.Proofs.Ytkpbhkfpkoiilaa
open Go.RowKit Go.Tok
set_option linter.unusedVariables false

set_option maxHeartbeats 4000000 in
theorem JournalSpoilt_walk {v : Value} {l : List OpD} {n : Int} {c : Nat} (w : World) (h1 : Rd opK w v l ∧ l.length ≤ 3518437208873) (hn : I64 n) (hc : c < 256) :
    Calls Try.prog 5 #[v, .int .i64 n, .int .u8 (c : Int)] w fun e w' => e = .returned (.bool true) ∧ Gr w w' := by
  obtain ⟨hv, lm⟩ := h1
  obtain ⟨la, lc, rfl, ll, ll'⟩ := hv.len
  have hn1 := hn.1
  have hn2 := hn.2
  go_enter Try.func5, Try.ntmps5
  go_wp2_with fail
  refine (alive18_calls _).mono ?_
  rintro _ w1 ⟨rfl, g1⟩
  go_wp2_with fail
  refine (written_calls _ l _ (hv.gr (by (repeat (first | exact Gr.refl _ | assumption | apply Gr.alloc | apply Gr.drew | apply Gr.drewN | refine Gr.trans ?_ (by assumption))))) (by omega)).mono ?_
  intro e2 w2 hr2
  rcases hr2 with ⟨hok, v2, rfl, o2, g2⟩ | ⟨hbad, rfl, g2⟩
  case inr => 
    go_wp2_with fail
    go_ret
    exact ⟨rfl, by (repeat (first | exact Gr.refl _ | assumption | apply Gr.alloc | apply Gr.drew | apply Gr.drewN | refine Gr.trans ?_ (by assumption)))⟩
  have hL := wrL_len l
  by_cases p0 : n < 0
  · go_wp2_with fail
    go_ret
    exact ⟨rfl, by (repeat (first | exact Gr.refl _ | assumption | apply Gr.alloc | apply Gr.drew | apply Gr.drewN | refine Gr.trans ?_ (by assumption)))⟩
  by_cases p1 : ((7 * l.length : Nat) : Int) ≤ n
  · have p0' : 0 ≤ n := by omega
    obtain ⟨a2, c2, rfl, q1, q2⟩ := o2.len
    rw [hL] at o2 q1 ⊢
    go_wp2_with fail
    go_ret
    exact ⟨rfl, by (repeat (first | exact Gr.refl _ | assumption | apply Gr.alloc | apply Gr.drew | apply Gr.drewN | refine Gr.trans ?_ (by assumption)))⟩
  obtain ⟨k, rfl⟩ := Int.eq_ofNat_of_zero_le (show 0 ≤ n by omega)
  have hk : k < 7 * l.length := by omega
  rcases o2.form with ⟨_, h⟩ | ⟨g, c2, rfl, q0, q1, q2, q3⟩
  · rw [h] at hL; simp at hL; omega
  obtain ⟨_, _, hb, cell, h256⟩ := o2.rd.byte (i := k) (by omega)
  cases hb
  rw [Nat.zero_add] at cell
  have fz := o2.frozen k
  have ki : (k : Int) < ((7 * l.length : Nat) : Int) := by omega
  have k0 : (0 : Int) ≤ (k : Int) := by omega
  have ki2 : (k : Int) < 7 * (l.length : Int) := by omega
  have hlen := hL
  rw [hL] at o2 q2 ⊢
  have HL := Lib.hid hL
  clear p0 p1 hL hlen
  by_cases heq : ix (wrL l) k = c
  · have e1 : (((ix (wrL l) k : Nat) : Int) == (c : Int)) = true := by simp [heq]
    have e2 : (ix (wrL l) k == c) = true := by simp [heq]
    clear heq
    go_wp2_with fail
    go_ret
    exact ⟨rfl, by (repeat (first | exact Gr.refl _ | assumption | apply Gr.alloc | apply Gr.drew | apply Gr.drewN | refine Gr.trans ?_ (by assumption)))⟩
  have e1 : (((ix (wrL l) k : Nat) : Int) == (c : Int)) = false := by simpa [Int.natCast_inj] using heq
  have e2 : (ix (wrL l) k == c) = false := by simpa using heq
  obtain ⟨r1, r2⟩ := journal_spoilt hok hk hc heq
  have oS := o2.set1 rfl k (u := .int .u8 (c : Int)) (x := c) (on_byte hc)
  have hm : k / 7 * 40 ≤ 140737488355328 := by omega
  have hl7 : k / 7 ≤ l.length := by omega
  have G2 : Gr w w2 := by (repeat (first | exact Gr.refl _ | assumption | apply Gr.alloc | apply Gr.drew | apply Gr.drewN | refine Gr.trans ?_ (by assumption)))
  have GS : Gr w (w2.setCell ⟨g, k, none⟩ (.int .u8 (c : Int))) := G2.setCell (Nat.le_trans g1.le q0) _
  have hLT := (hv.gr GS).take (m := k / 7) hl7
  have R1 := Lib.hid r1
  have R2 := Lib.hid r2
  clear r1 r2 heq
  go_wp2_with fail
  refine (Read_calls _ _ (k / 7) 8 _ oS.rd R1.out hm).mono ?_
  rw [R2.out]; rintro _ w3 ⟨v3, rfl, o3, g3⟩
  obtain ⟨a3, c3, rfl, s1, s2⟩ := o3.len
  have hlt : (l.take (k / 7)).length = k / 7 := by rw [List.length_take]; omega
  rw [hlt] at o3 s1 ⊢
  clear hlt
  have hq : (7 * ((k / 7 : Nat) : Int) == (k : Int) / 7 * 7) = true := by simp; omega
  go_wp2_with fail
  refine (EqualOps_calls _ _ (l.take (k / 7)) _ o3.rd (hLT.gr (by (repeat (first | exact Gr.refl _ | assumption | apply Gr.alloc | apply Gr.drew | apply Gr.drewN | refine Gr.trans ?_ (by assumption)))))).mono ?_
  rintro _ w4 ⟨rfl, g4⟩
  go_wp2_with fail
  go_ret
  exact ⟨rfl, by (repeat (first | exact Gr.refl _ | assumption | apply Gr.alloc | apply Gr.drew | apply Gr.drewN | refine Gr.trans ?_ (by assumption)))⟩
end Go.Proofs.Ytkpbhkfpkoiilaa
