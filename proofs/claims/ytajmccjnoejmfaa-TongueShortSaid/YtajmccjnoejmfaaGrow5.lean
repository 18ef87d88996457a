/- Contracts of grow.grow as a whole, and of weights. -/
import Derived.Test.YtajmccjnoejmfaaGrow4
import Derived.Test.YtajmccjnoejmfaaGrowLaw2
import Derived.Test.YtajmccjnoejmfaaBlock4
namespace Go.Proofs.Ytajmccjnoejmfaa
open Go.RowKit Go.Tok
set_option linter.unusedVariables false
theorem grow_calls (w0 : World) (gb : Nat) : ∀ n, GrowC w0 gb n := by
  intro n
  induction n with
  | zero =>
    rintro b a cap w lv s f t hb
    exact hb.elim
  | succ n ih =>
    rintro b a cap w lv s f t hb ⟨m, hm, hB⟩ h ok hf0 hf1 ht0 ht1
    cases hm
    have k1 := hb.1
    have k2 := hb.2.1
    by_cases c1 : b.kind = 1 ∨ b.kind = 2
    · exact grow_leaf c1 hb h ok hf0 hf1 ht0 ht1
    by_cases c3 : b.kind = 3
    · exact grow_seq ih c3 hb hB h ok hf0 hf1 ht0 ht1
    by_cases c4 : b.kind = 4
    · exact grow_choice ih c4 hb hB h ok hf0 hf1 ht0 ht1
    by_cases c5 : b.kind = 5
    · exact grow_both ih c5 hb hB h ok hf0 hf1 ht0 ht1
    exact grow_loop ih (by omega) hb hB h ok hf0 hf1 ht0 ht1
def setsF (n : Nat) (l : List Int) : List Int := l.foldl (fun out p => out.set p.toNat 1) (List.replicate n 0)
theorem setsF_snoc (n : Nat) (l : List Int) (p : Int) : setsF n (l ++ [p]) = (setsF n l).set p.toNat 1 := by unfold setsF; rw [List.foldl_append]; rfl
theorem setsF_len (n : Nat) (l : List Int) : (setsF n l).length = n := weights_len n l
theorem take_nth {l : List Int} {k : Nat} (h : k < l.length) : l.take (k + 1) = l.take k ++ [nth l k] := by rw [List.take_succ_eq_append_getElem h, nth_lt h]
set_option maxHeartbeats 4000000 in
set_option maxRecDepth 100000 in
theorem weights_calls (n : Nat) (v : Value) (l : List Int) (w : World) (hn : n ≤ 16) (hv : Ints w v l) (hl : PlIn n l) :
    Calls Try.prog 36 #[.int .i64 (n : Int), v] w fun e w' => ∃ v', e = .returned v' ∧ OwnI 3 w.heap.size w' v' (weightsF n l) ∧ Gr w w' := by
  obtain ⟨a, cap, rfl, hl1, hl2⟩ := hv.len
  go_enter Try.func36, Try.ntmps36
  go_wp2_with (refine mk_ints intTy _ _ w.heap.size n _ _ (by rfl) (by rfl) (by rfl) (by rfl) rfl rfl (by omega) (Nat.le_refl _) ?_; intro w1 ho1 hg1 hlt1)
  go_loopw [12] (fun i wr => ∃ k : Nat, i = .int .i64 k ∧ k ≤ l.length ∧ OwnI 3 w.heap.size wr (.slice (some ⟨w.heap.size, 0, none⟩) n n) (setsF n (l.take k)) ∧ Gr w wr) (fun i _ => l.length - (intOf i).toNat)
  case atStart => exact ⟨0, rfl, Nat.zero_le _, by simpa [setsF] using ho1, hg1⟩
  case round =>
    rename World => wr
    obtain ⟨k, rfl, hkl, ho, hg⟩ := hrel
    by_cases hlt : k < l.length
    · obtain ⟨lb, lo, rfl, c0⟩ := (hv.gr hg).cell hlt
      have hkI : (k : Int) < (l.length : Int) := by omega
      have hp := hl (nth l k) (by rw [nth_lt hlt]; exact List.getElem_mem hlt)
      obtain ⟨q, hq⟩ := Int.eq_ofNat_of_zero_le hp.1
      have hqn : q < n := by omega
      have hqI : (q : Int) < (n : Int) := by omega
      have hs := ho.set q 1 (by decide)
      have ht : (setsF n (l.take k)).set q 1 = setsF n (l.take (k + 1)) := by rw [take_nth hlt, setsF_snoc, hq, Int.toNat_natCast]
      rw [ht] at hs
      have d0 := ho.cell (i := q) (by rw [setsF_len]; exact hqn)
      have f0 := ho.frozen q
      rw [hq] at c0
      clear ht hq hp
      go_wp2_with fail
      go_roundw
      case rel => exact ⟨k + 1, by go_num, by omega, hs, hg.setCell (Nat.le_refl _) _⟩
      case measure => simp [intOf]; omega
    · obtain rfl : k = l.length := by omega
      go_wp2_with fail
      go_ret
      exact ⟨_, rfl, by rw [List.take_length] at ho; exact ho, hg⟩
end Go.Proofs.Ytajmccjnoejmfaa
