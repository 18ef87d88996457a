/- Contract of the library's slices.DeleteFunc at a row of ints of the call's own. -/
import Derived.Test.YtkekamffmmokmaaDelS
import Derived.Test.YtkekamffmmokmaaSortRow
import Derived.Test.YtkekamffmmokmaaFnInt
namespace Go.Proofs.Ytkekamffmmokmaa
open Go.RowKit Go.Tok Go.Sort
set_option linter.unusedVariables false
set_option maxHeartbeats 1000000 in
theorem DeleteFuncI_none (g : Nat) (lb : Array Value) (w : World) (eg : ∀ args w, (callFunc g args).run Try.prog w = .ok (.enter g args) w) :
    Calls Try.prog 42 #[.slice none 0 0, .func (.func g) #[] lb] w fun e w' => e = .returned (.slice none 0 0) ∧ Gr w w' := by
  have hg : AnswersI Try.prog g lb [] (fun _ => false) w := fun W x hx => by simp at hx
  go_enter Try.func42, Try.ntmps42
  go_wp2_with fail
  refine (IndexFuncI_calls _ [] g lb _ _ eg (Ints.nil _) hg).mono ?_
  have e : firstOf (fun _ => false) [] = -1 := by unfold firstOf; rfl
  rw [e]; rintro _ w1 ⟨rfl, g1⟩
  go_wp2_with fail
  go_ret
  exact ⟨rfl, g1⟩
/-- p's function reads only -/
def GivesI (g : Nat) (lb : Array Value) (p : Int → Bool) (w0 : World) : Prop :=
  ∀ (W : World) (x : Int), Gr w0 W → Calls Try.prog g (#[.int .i64 x] ++ lb) W fun e w' => e = .returned (.bool (p x)) ∧ ∃ q, w' = W.drewN q
set_option maxHeartbeats 1000000 in
theorem DeleteFuncI_calls (v : Value) (xs : List Int) (g : Nat) (lb : Array Value) (p : Int → Bool) (w0 w : World) (base : Nat) (eg : ∀ args w, (callFunc g args).run Try.prog w = .ok (.enter g args) w)
    (h : OwnI 3 base w v xs) (hb : w0.heap.size ≤ base) (h0 : Gr w0 w) (hp : GivesI g lb p w0) (hl : xs.length ≤ 9223372036854775807) :
    Calls Try.prog 42 #[v, .func (.func g) #[] lb] w fun e w' => ∃ v', e = .returned v' ∧ OwnI 3 base w' v' (xs.filter fun x => !p x) ∧ Gr w0 w' := by
  have hI := h
  unfold OwnI at h
  obtain ⟨⟨e1, h1⟩, h2⟩ := h
  rcases h1 with ⟨rfl, hz⟩ | ⟨b, cap, cur, rfl, hbb, hh, hn, hc, hs, ht⟩
  · obtain rfl : xs = [] := List.eq_nil_of_length_eq_zero hz
    refine (DeleteFuncI_none g lb w eg).mono ?_
    rintro _ w' ⟨rfl, g1⟩
    exact ⟨_, rfl, by simpa using OwnI.nil _ _ _, h0.trans g1⟩
  · have hgr : ∀ (n : Nat) (os : Array Obj) (dk : Array Int), Gr w0 (sortWorld (Value.int .i64) w b 0 n dk os) := fun n os dk => h0.grown sortWorld_grown fun k hk => by cases hk; omega
    refine (Try.slices_DeleteFunc_int (Value.int .i64) (fun _ => rfl) p g lb eg 0 (by intro w; kernel_rfl) b 0 cap xs.toArray w (fun W x hB => hp W x (h0.trans (by unfold Gr; exact hB))) (fun n os dk x _ => hp _ x (hgr n os dk)) (holds_of_blockI hh (by simpa using ht)) (by simpa using hl) (by simpa using hn)).mono ?_
    rintro _ w' ⟨rfl, q, rfl⟩
    have e2 : putRow (Value.int .i64) (Sort.ahead w q) b 0 ((xs.toArray.toList.filter fun x => !p x) ++ List.replicate (xs.toArray.size - (xs.toArray.toList.filter fun x => !p x).length) 0).toArray = grow (putRow (Value.int .i64) (Sort.ahead w q) b 0 ((xs.filter fun x => !p x) ++ List.replicate (xs.length - (xs.filter fun x => !p x).length) 0).toArray) #[] := by rw [grow_empty]; simp
    rw [e2]
    have hfl : (xs.filter fun x => !p x).length ≤ xs.length := List.length_filter_le _ _
    have hlen : ((xs.filter fun x => !p x) ++ List.replicate (xs.length - (xs.filter fun x => !p x).length) 0).length = xs.length := by simp; omega
    refine ⟨_, rfl, ?_, h0.grown (grownBy_sortedI _) fun k hk => by cases hk; omega⟩
    unfold OwnI
    refine ⟨⟨by simp, .inr ⟨b, cap, _, rfl, hbb, heap_sortedI _ hh, by omega, hc, by simp [putCells, hs], ?_⟩⟩, fun x hx => h2 x (List.mem_filter.1 hx).1⟩
    have := take_putCellsI cur ((xs.filter fun x => !p x) ++ List.replicate (xs.length - (xs.filter fun x => !p x).length) 0) (by rw [hlen]; omega)
    rw [hlen] at this
    have h5 := congrArg (List.take (xs.filter fun x => !p x).length) this
    rw [List.take_take, Nat.min_eq_left hfl, List.map_append, List.take_append_of_le_length (by simp), List.take_of_length_le (l := (xs.filter fun x => !p x).map (Value.int .i64)) (by simp)] at h5
    rw [Nat.mul_one]
    exact h5
end Go.Proofs.Ytkekamffmmokmaa
