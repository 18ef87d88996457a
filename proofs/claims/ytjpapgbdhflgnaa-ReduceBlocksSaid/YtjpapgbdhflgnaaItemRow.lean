/- Rows of elements of three cells: a store into one; 'append' at a row that is full. No program is in sight here. -/
import Derived.Test.YtjpapgbdhflgnaaPA
import Derived.Deep.RegionLawGrows
namespace Go.Tok
open Go.RowKit
set_option linter.unusedVariables false
section
variable {α : Type} {K : Kind α} {e base : Nat} {S : Nat → Prop} {w : World} {xs : List α}
theorem cellsOf_set3 {rows : List (α × List Value)} : ∀ {i : Nat} {x : α} {a b c : Value}, (∀ r ∈ rows, r.2.length = 3) → cellsOf (rows.set i (x, [a, b, c])) = (((cellsOf rows).set (i * 3) a).set (i * 3 + 1) b).set (i * 3 + 2) c := by
  induction rows with
  | nil => intro i x a b c _; simp [cellsOf]
  | cons r rest ih =>
    intro i x a b c hall
    have hr := hall r (by simp)
    obtain ⟨p, q, s, hq⟩ : ∃ p q s, r.2 = [p, q, s] := by
      match h : r.2, hr with
      | [p, q, s], _ => exact ⟨p, q, s, rfl⟩
    have e : ∀ r : α × List Value, ∀ rest, cellsOf (r :: rest) = r.2 ++ cellsOf rest := fun r rest => by simp [cellsOf]
    cases i with
    | zero => rw [List.set_cons_zero, e, e, hq]; rfl
    | succ i =>
      rw [List.set_cons_succ, e, e, hq, ih (fun r' h => hall r' (by simp [h]))]
      rw [show (i + 1) * 3 = i * 3 + 1 + 1 + 1 by omega]
      rfl
theorem OwnR.set3 (hK : K.size = 3) {g n cap : Nat} (h : OwnR K e base S w (.slice (some ⟨g, 0, none⟩) n cap) xs) (i : Nat) {a b c : Value} {x : α} (hx : On (fun b => S b ∧ b ≠ g) (fun w => K.R w [a, b, c] x) w) :
    OwnR K e base S (((w.setCell ⟨g, i * 3, none⟩ a).setCell ⟨g, i * 3 + 1, none⟩ b).setCell ⟨g, i * 3 + 2, none⟩ c) (.slice (some ⟨g, 0, none⟩) n cap) (xs.set i x) := by
  unfold OwnR at *
  obtain ⟨rows, rfl, hr, hall⟩ := h
  have hlen : ∀ r ∈ rows, r.2.length = 3 := fun r hr => by rw [K.len (hall r hr).now, hK]
  have hn : n = rows.length := by
    rcases hr.2 with ⟨h1, _⟩ | ⟨_, _, _, h1, _⟩
    · cases h1
    · cases h1; rfl
  subst hn
  refine ⟨rows.set i (x, [a, b, c]), by rw [List.map_set], ?_, fun r hr' => ?_⟩
  · rw [List.length_set, cellsOf_set3 hlen]
    exact (((hr.stored _ a).1.stored _ b).1.stored _ c).1
  · have hk : ∀ {p : World → Prop}, On (fun b => S b ∧ b ≠ g) p w → On (fun b => S b ∧ (Value.slice (some ⟨g, 0, none⟩) rows.length cap).ownBlock ≠ some b) p (((w.setCell ⟨g, i * 3, none⟩ a).setCell ⟨g, i * 3 + 1, none⟩ b).setCell ⟨g, i * 3 + 2, none⟩ c) := by
      intro p hp
      refine hp.moved (by simp [World.setCell]) fun b' hb hs => ⟨⟨hs.1, fun e => hs.2 (own_eq e)⟩, ?_⟩
      rw [Below.heap_setCell _ _ _ b' hs.2, Below.heap_setCell _ _ _ b' hs.2, Below.heap_setCell _ _ _ b' hs.2]
    rcases List.mem_or_eq_of_mem_set hr' with h1 | h1
    · exact hk ((hall r h1).mono fun b' _ hb => ⟨hb.1, fun e => hb.2 (by rw [e]; rfl)⟩)
    · rw [h1]; exact hk hx
end
section
variable {α : Type} [Inhabited α] {size : Nat} {cells : α → List Value} {ok : α → Prop} {h1 : ∀ x, (cells x).length = size} {h2 : ∀ x, ∀ u ∈ cells x, u.oneCell' = true} {P : Program} {t e : TypeId} {bytes : Nat} {z : Value}
omit [Inhabited α] in
theorem own_of_cells {w : World} {base : Nat} {v : Value} {n : Nat} {ys : List α} (hok : ∀ y ∈ ys, ok y) (hn : n = ys.length) (ho : w.ownsRow base e size v n (ys.map cells).flatten) : OwnR (flat size cells ok h1 h2) e base (fun _ => False) w v ys := by
  subst hn
  unfold OwnR
  refine ⟨ys.map fun y => (y, cells y), by rw [List.map_map]; exact (List.map_id _).symm, ?_, fun r hr => ?_⟩
  · have : cellsOf (ys.map fun y => (y, cells y)) = (ys.map cells).flatten := by
      unfold cellsOf; rw [List.flatMap_map, List.flatMap_def]
    rw [this, List.length_map]; exact ho
  · obtain ⟨y, hy, rfl⟩ := List.mem_map.1 hr
    exact On.true (p := cells y = cells y ∧ ok y) ⟨rfl, hok y hy⟩
/-- 'append(xs, y)' at a row that is full: a new row, the old one stands as it stood -/
theorem step_grow_one (T : KTy P t e (flat size cells ok h1 h2) bytes z) {ops : Array Oper} {o : Oper} {a : Act} {w : World} {KK : Act → World → Prop} {Q : Exit → Act → World → Prop} {E : Prop} (hgd : o.guard = none) (s x : Operand)
    (ho : o.op = .call { callee := .builtin .append, args := #[s, x], argTypes := #[t, t] }) (ao : Option Addr) (xs : List α) (ad : Addr) (y : α) (hs : a.eval s = .slice ao xs.length xs.length) (hx : a.eval x = .slice (some ad) 1 1)
    (hr : Rd (flat size cells ok h1 h2) w (.slice ao xs.length xs.length) xs) (hxs : ∀ y ∈ xs, ok y) (hcell : ∀ j u, (cells y)[j]? = some u → w.cell? (ad.add j) = some u) (hy : ok y) (hn : (xs.length + 1) * bytes ≤ 140737488355328) (hn' : xs.length + 1 ≤ maxLen)
    (hK : ∀ g cap w', OwnR (flat size cells ok h1 h2) e w.heap.size (fun _ => False) w' (.slice (some ⟨g, 0, none⟩) (xs.length + 1) cap) (xs ++ [y]) → Gr w w' → KK (a.put o.dst (.slice (some ⟨g, 0, none⟩) (xs.length + 1) cap)) w') :
    if Region.wanted o (yielded ops a.tmps) = true then Oper.wp P o a w KK Q else E := by
  obtain ⟨i, hi, hz, hsz, hb⟩ := info_parts T.info
  have hnone : ao = none → xs.length = 0 ∧ xs.length = 0 := fun h => by
    subst h
    rcases hr.form with ⟨_, h0⟩ | ⟨_, _, h0, _⟩
    · rw [h0]; exact ⟨rfl, rfl⟩
    · cases h0
  refine step_append_grows hgd s x t ho e i z size bytes T.und hi hz hsz hb T.zs T.pos ao xs.length xs.length (xs.map cells).flatten hs hnone ?_ ?_ ad 1 1 (cells y) hx (by rw [h1]; simp) hcell (h2 y) (by omega) hn' hn ?_
  · rw [List.length_flatten, List.map_map]
    clear hs hr hxs hn hn' hK hnone
    induction xs with
    | nil => simp
    | cons q r ih => simp [h1, Nat.add_mul, ih]; omega
  · intro b hb j u hj
    subst hb
    exact hr.flat_cells T.pos j u hj
  · intro v' w' ho' hg'
    have how : OwnR (flat size cells ok h1 h2) e w.heap.size (fun _ => False) w' v' (xs ++ [y]) := by
      refine own_of_cells (n := xs.length + 1) ?_ (by simp) ?_
      · intro q hq
        rcases List.mem_append.1 hq with h | h
        · exact hxs q h
        · rw [List.mem_singleton.1 h]; exact hy
      · rw [List.map_append, List.flatten_append, List.map_singleton, List.flatten_singleton]; exact ho'
    rcases how.form with ⟨_, h0⟩ | ⟨g, cap, rfl, _, _, _, _⟩
    · simp at h0
    · rw [List.length_append, List.length_singleton] at how ⊢
      exact hK g cap w' how ((Gr.refl w).grown hg' (fun k hk => by cases hk))
end
end Go.Tok
