/- The library's slices.Reverse at moves: its contract at this program, at a row of the call's own (the laying written by the kit's lay-plain; numbers by names). -/
import Derived.Ground.SlgnProg
import Derived.Shelf.SlicesQ.Reverse
import Derived.Test.YtkanaoebpajbfaaAlignLaw
import Derived.Test.YtkanaoebpajbfaaPA
import Derived.Sort.OwnSortedInts
import Derived.Test.YtkanaoebpajbfaaProg
namespace Go.Proofs
open Go.Shelf Go.RowKit Go.Lib Go.Sort
def Try.laysRevM_ren : Go.Shelf.Ren := ⟨fun | 35 => 97 | n => n, fun | 22 => 79 | 23 => 162 | 3 => 3 | 4 => 4 | 0 => 0 | n => n, fun | n => n⟩
theorem Try.laysRevM : Go.Proofs.SlLaysE0.n35 Try.prog Try.laysRevM_ren := {
  mixed := by kernel_rfl
  f35 := ⟨Try.f97.name, by decide, Try.func97.trans (congrArg some (by kernel_rfl))⟩
  t0 := Try.underlying0
  a0 := Try.isAgg0
  z0 := Try.sizeOf0
  v0 := Try.zeroValue0
  t3 := Try.underlying3
  a3 := Try.isAgg3
  z3 := Try.sizeOf3
  v3 := Try.zeroValue3
  t4 := Try.underlying4
  a4 := Try.isAgg4
  z4 := Try.sizeOf4
  v4 := Try.zeroValue4
  t22 := Try.underlying79
  a22 := Try.isAgg79
  z22 := Try.sizeOf79
  v22 := Try.zeroValue79 }

end Go.Proofs
namespace Go.Tok
open Go.RowKit Go.Sort
set_option linter.unusedVariables false
def moveCells (p : MoveD) : List Value := [.int .i64 p.kind, .int .i64 p.label, .int .i64 p.tran]
def moveI (p : MoveD) : Prop := I64 p.kind ∧ I64 p.label ∧ I64 p.tran
def moveK : Kind MoveD := flat 3 moveCells moveI (fun _ => rfl) (by intro x u hu; simp [moveCells] at hu; rcases hu with rfl | rfl | rfl <;> rfl)
theorem Rd.move {w : World} {a : Option Addr} {n cap : Nat} {xs : List MoveD} (h : Rd moveK w (.slice a n cap) xs) {i : Nat} (hi : i < xs.length) :
    ∃ b o, a = some ⟨b, o, none⟩ ∧ w.cell? ⟨b, o + i * 3, none⟩ = some (.int .i64 (ix xs i).kind) ∧ w.cell? ⟨b, o + i * 3 + 1, none⟩ = some (.int .i64 (ix xs i).label) ∧ w.cell? ⟨b, o + i * 3 + 2, none⟩ = some (.int .i64 (ix xs i).tran) ∧ moveI (ix xs i) := by
  obtain ⟨b, o, vs, ha, ⟨rfl, hr⟩, hc⟩ := h.at_ hi
  exact ⟨b, o, ha, hc 0 _ rfl, hc 1 _ rfl, hc 2 _ rfl, hr⟩
theorem cellsOf_flat {α : Type} {cells : α → List Value} : ∀ (rows : List (α × List Value)), (∀ r ∈ rows, r.2 = cells r.1) → cellsOf rows = (rows.map (·.1)).flatMap cells := by
  intro rows
  induction rows with
  | nil => intro _; rfl
  | cons r rest ih =>
    intro h
    have e : cellsOf (r :: rest) = r.2 ++ cellsOf rest := by simp [cellsOf]
    rw [e, ih (fun r' hr' => h r' (by simp [hr'])), h r (by simp)]; rfl
/-- an own row of flat elements, cell by cell -/
theorem own_flat {α : Type} {size : Nat} {cells : α → List Value} {ok : α → Prop} {h1 : ∀ x, (cells x).length = size} {h2 : ∀ x, ∀ u ∈ cells x, u.oneCell' = true} {e base : Nat} {S : Nat → Prop} {w : World} {v : Value} {xs : List α} : OwnR (flat size cells ok h1 h2) e base S w v xs ↔ w.ownsRow base e size v xs.length (xs.flatMap cells) ∧ ∀ x ∈ xs, ok x := by
  unfold OwnR
  constructor
  · rintro ⟨rows, rfl, hr, hall⟩
    have h1 : ∀ r ∈ rows, r.2 = cells r.1 ∧ ok r.1 := fun r hr => (hall r hr).now
    refine ⟨?_, fun x hx => ?_⟩
    · rw [List.length_map, ← cellsOf_flat rows fun r hr => (h1 r hr).1]; exact hr
    · obtain ⟨r, hr, rfl⟩ := List.mem_map.1 hx
      exact (h1 r hr).2
  · rintro ⟨g1, g2⟩
    refine ⟨xs.map fun x => (x, cells x), by rw [List.map_map]; exact (List.map_id _).symm, ?_, fun r hr => ?_⟩
    · rw [List.length_map, cellsOf_flat _ (fun r hr => by obtain ⟨x, _, rfl⟩ := List.mem_map.1 hr; rfl), List.map_map]
      have e : List.map ((fun x : α × List Value => x.1) ∘ fun x => (x, cells x)) xs = xs := List.map_id _
      rw [e]; exact g1
    · obtain ⟨x, hx, rfl⟩ := List.mem_map.1 hr
      exact On.true (p := cells x = cells x ∧ ok x) ⟨rfl, g2 x hx⟩
theorem own_moves {e base : Nat} {S : Nat → Prop} {w : World} {v : Value} {xs : List MoveD} : OwnR moveK e base S w v xs ↔ w.ownsRow base e 3 v xs.length (xs.flatMap moveCells) ∧ ∀ x ∈ xs, moveI x := own_flat
set_option linter.unusedSectionVars false
section
variable {α : Type} [Inhabited α] {n : Nat} {cells : α → List Value}
theorem flat_len (h1 : ∀ x, (cells x).length = n) : ∀ xs : List α, (xs.flatMap cells).length = xs.length * n := by
  intro xs
  induction xs with
  | nil => simp
  | cons x xs ih => rw [List.flatMap_cons, List.length_append, ih, List.length_cons, h1, Nat.add_mul]; omega
theorem flat_at (h1 : ∀ x, (cells x).length = n) (hn : 0 < n) : ∀ (xs : List α) (t : Nat), t < xs.length * n → (xs.flatMap cells)[t]? = some ((cells (ix xs (t / n)))[t % n]!) := by
  intro xs
  induction xs with
  | nil => intro t ht; simp at ht
  | cons x xs ih =>
    intro t ht
    rw [List.flatMap_cons]
    by_cases h : t < n
    · rw [Nat.div_eq_of_lt h, Nat.mod_eq_of_lt h, ix_zero, List.getElem?_append_left (by rw [h1]; exact h)]
      have : t < (cells x).length := by rw [h1]; exact h
      simp [this]
    · obtain ⟨q, rfl⟩ : ∃ q, t = q + n := ⟨t - n, by omega⟩
      rw [List.getElem?_append_right (by rw [h1]; omega), h1, Nat.add_sub_cancel, Nat.add_div_right q hn, Nat.add_mod_right, ix_succ]
      exact ih q (by rw [List.length_cons, Nat.add_mul] at ht; omega)
theorem put_flat (h1 : ∀ x, (cells x).length = n) (hn : 0 < n) (cur : Array Value) (ts : List α) (h : ts.length * n ≤ cur.size) : (putCells id 0 (flatK cells n ts.toArray) cur).toList.take (ts.length * n) = ts.flatMap cells := by
  apply List.ext_getElem?
  intro j
  by_cases hj : j < ts.length * n
  · rw [List.getElem?_take_of_lt hj, Array.getElem?_toList, flat_at h1 hn ts j hj]
    have hd : j / n < ts.length := Nat.div_lt_of_lt_mul (by rw [Nat.mul_comm]; exact hj)
    have e := get_flatK cells n ts.toArray j (by simpa using hj)
    rw [getElem!_pos _ j (by simpa using hj)] at e
    simp [putCells, hj, show j < cur.size by omega, e, ix_lt hd, hd]
  · rw [List.getElem?_take_eq_none (by omega), List.getElem?_eq_none (by rw [flat_len h1]; omega)]
theorem holds_flat (h1 : ∀ x, (cells x).length = n) (hn : 0 < n) {w : World} {g : Nat} {cur : Array Value} {e : TypeId} {xs : List α} (hh : w.heap[g]? = some (.cells cur e (0, 0))) (ht : cur.toList.take (xs.length * n) = xs.flatMap cells) : HoldsK cells n w g 0 xs.toArray := by
  intro j hj
  have hj' : j < xs.length * n := by rw [size_flatK] at hj; simpa using hj
  refine ⟨?_, by simp [World.frozen?, hh]⟩
  have h2 : (cur.toList.take (xs.length * n))[j]? = (xs.flatMap cells)[j]? := congrArg (·[j]?) ht
  rw [List.getElem?_take_of_lt hj', flat_at h1 hn xs j hj'] at h2
  simp only [World.cell?, hh, Nat.zero_add]
  simp only [Option.isSome_none, Bool.false_eq_true, if_false]
  rw [← Array.getElem?_toList, h2, get_flatK _ _ _ j (by simpa using hj')]
  have hq : j / n < xs.length := Nat.div_lt_of_lt_mul (by rw [Nat.mul_comm]; exact hj')
  simp [ix_lt hq, hq]
end
end Go.Tok
namespace Go.Proofs.Ytkanaoebpajbfaa
open Go.RowKit Go.Tok Go.Sort
set_option linter.unusedVariables false
theorem moveTy : KTy Try.prog 79 162 moveK 24 (.agg #[.int .i64 0, .int .i64 0, .int .i64 0]) := ⟨Try.underlying79, by kernel_rfl, rfl, by decide⟩
theorem ReverseMove_calls (v : Value) (xs : List MoveD) (base : Nat) (S : Nat → Prop) (w : World) (h : OwnR moveK 162 base S w v xs) :
    Calls Try.prog 97 #[v] w fun e w' => e = .returned (.tuple #[]) ∧ OwnR moveK 162 base S w' v xs.reverse ∧ w.grownBy w' v.ownBlock := by
  have h0 := h
  rw [own_moves] at h
  obtain ⟨⟨e1, h1⟩, h2⟩ := h
  rcases h1 with ⟨rfl, hz⟩ | ⟨g, cap, cur, rfl, hb, hh, hn, hc, hs, ht⟩
  · obtain rfl : xs = [] := List.eq_nil_of_length_eq_zero hz
    refine (AnyQ.slices_Reverse_empty Try.laysRevM none 0 w).mono ?_
    rintro _ w' ⟨rfl, rfl⟩
    exact ⟨rfl, h0, ⟨rfl, rfl, rfl, Nat.le_refl _, fun _ _ _ => rfl⟩⟩
  · have hcon := AnyQ.slices_Reverse Try.laysRevM 3 (by intro w; kernel_rfl) (by intro w; kernel_rfl) moveCells (fun _ => rfl) (fun x v hv => by simp [moveCells] at hv; rcases hv with rfl | rfl | rfl <;> rfl) g 0 cap xs.toArray w (holds_flat (n := 3) (cells := moveCells) (fun _ => rfl) (by omega) hh ht) (by simp; unfold maxLen at hc; omega)
    have e : xs.toArray.size = xs.length := by simp
    rw [e] at hcon
    refine hcon.mono ?_
    rintro _ w' ⟨rfl, n, rfl⟩
    have er : xs.toArray.reverse = xs.reverse.toArray := by simp
    have hg : putRowK moveCells 3 (Sort.ahead w n) g 0 xs.toArray.reverse = grow (putRow id (Sort.ahead w n) g 0 (flatK moveCells 3 xs.reverse.toArray)) #[] := by rw [grow_empty, er]; rfl
    refine ⟨rfl, ?_, ?_⟩
    · rw [own_moves]
      refine ⟨?_, fun x hx => h2 x (List.mem_reverse.1 hx)⟩
      rw [List.length_reverse, hg]
      refine ⟨by rw [flat_len (n := 3) (fun _ => rfl), List.length_reverse], .inr ⟨g, cap, putCells id 0 (flatK moveCells 3 xs.reverse.toArray) cur, rfl, hb, ?_, hn, hc, by simp [putCells, hs], ?_⟩⟩
      · rw [heap_grow_old _ _ (by have := (Array.getElem?_eq_some_iff.1 hh).1; simpa using this)]
        simp [putRow, mapBlock, Sort.ahead, Array.getElem?_modify, hh, onCells]
      · have := put_flat (n := 3) (cells := moveCells) (fun _ => rfl) (by omega) cur xs.reverse (by rw [List.length_reverse, hs]; omega)
        rw [List.length_reverse] at this
        exact this
    · rw [hg]
      refine ⟨rfl, rfl, rfl, by simp, fun k hk hne => ?_⟩
      rw [heap_grow_old _ _ (by simpa using hk)]
      have : g ≠ k := fun e => hne (by rw [e]; rfl)
      simp [putRow, mapBlock, Sort.ahead, Array.getElem?_modify, this]
end Go.Proofs.Ytkanaoebpajbfaa
