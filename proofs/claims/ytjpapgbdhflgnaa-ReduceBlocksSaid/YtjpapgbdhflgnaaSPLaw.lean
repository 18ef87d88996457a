/- Graphs that are put together one behind the other and beside each other: what goes away leaves such a graph. No program is in sight here. -/
namespace Go.Tok
set_option linter.unusedVariables false
/-- the vertices of some edges -/
def vsOf (E : List (Nat × Nat)) (v : Nat) : Prop := ∃ e ∈ E, e.1 = v ∨ e.2 = v
inductive SP : Nat → Nat → List (Nat × Nat) → Prop
  | edge {x y : Nat} : x ≠ y → SP x y [(x, y)]
  | ser {x z y : Nat} {E1 E2 : List (Nat × Nat)} : SP x z E1 → SP z y E2 → (∀ v, vsOf E1 v → vsOf E2 v → v = z) → SP x y (E1 ++ E2)
  | par {x y : Nat} {E1 E2 : List (Nat × Nat)} : SP x y E1 → SP x y E2 → (∀ v, vsOf E1 v → vsOf E2 v → v = x ∨ v = y) → SP x y (E1 ++ E2)
  | perm {x y : Nat} {E E' : List (Nat × Nat)} : SP x y E → E.Perm E' → SP x y E'
theorem vs_sub {E E' : List (Nat × Nat)} {v : Nat} (h : ∀ e ∈ E, e ∈ E') (hv : vsOf E v) : vsOf E' v := by
  obtain ⟨e, he, h1⟩ := hv; exact ⟨e, h e he, h1⟩
theorem vs_app {E E' : List (Nat × Nat)} {v : Nat} : vsOf (E ++ E') v ↔ vsOf E v ∨ vsOf E' v := by
  constructor
  · rintro ⟨e, he, h1⟩
    rcases List.mem_append.1 he with h | h
    · exact .inl ⟨e, h, h1⟩
    · exact .inr ⟨e, h, h1⟩
  · rintro (h | h)
    · exact vs_sub (fun e he => List.mem_append_left _ he) h
    · exact vs_sub (fun e he => List.mem_append_right _ he) h
theorem vs_cons {E : List (Nat × Nat)} {a b v : Nat} : vsOf ((a, b) :: E) v ↔ a = v ∨ b = v ∨ vsOf E v := by
  constructor
  · rintro ⟨e, he, h1⟩
    rcases List.mem_cons.1 he with rfl | h
    · rcases h1 with h1 | h1
      · exact .inl h1
      · exact .inr (.inl h1)
    · exact .inr (.inr ⟨e, h, h1⟩)
  · rintro (h | h | h)
    · exact ⟨(a, b), by simp, .inl h⟩
    · exact ⟨(a, b), by simp, .inr h⟩
    · exact vs_sub (fun e he => List.mem_cons_of_mem _ he) h
theorem vs_perm {E E' : List (Nat × Nat)} (h : E.Perm E') {v : Nat} (hv : vsOf E v) : vsOf E' v := vs_sub (fun e he => h.mem_iff.1 he) hv
theorem vs_of1 {E : List (Nat × Nat)} {a b : Nat} (h : (a, b) ∈ E) : vsOf E a := ⟨_, h, .inl rfl⟩
theorem vs_of2 {E : List (Nat × Nat)} {a b : Nat} (h : (a, b) ∈ E) : vsOf E b := ⟨_, h, .inr rfl⟩
structure EndsOk (x y : Nat) (E : List (Nat × Nat)) : Prop where
  vx : vsOf E x
  vy : vsOf E y
  ne : x ≠ y
  inn : ∀ e ∈ E, e.2 ≠ x
  out : ∀ e ∈ E, e.1 ≠ y
  loop : ∀ e ∈ E, e.1 ≠ e.2
theorem SP.ends {x y : Nat} {E : List (Nat × Nat)} (h : SP x y E) : EndsOk x y E := by
  induction h with
  | edge hne =>
    refine ⟨⟨_, List.mem_singleton.2 rfl, .inl rfl⟩, ⟨_, List.mem_singleton.2 rfl, .inr rfl⟩, hne, fun e he => ?_, fun e he => ?_, fun e he => ?_⟩
    all_goals (rw [List.mem_singleton.1 he]; first | exact hne | exact fun e => hne e.symm)
  | @ser x z y E1 E2 h1 h2 hd i1 i2 =>
    have hxy : x ≠ y := fun e => i1.ne (hd x i1.vx (e ▸ i2.vy))
    refine ⟨vs_app.2 (.inl i1.vx), vs_app.2 (.inr i2.vy), hxy, fun e he hx => ?_, fun e he hy => ?_, fun e he => ?_⟩
    · rcases List.mem_append.1 he with h | h
      · exact i1.inn e h hx
      · exact i1.ne (hd x i1.vx ⟨e, h, .inr hx⟩)
    · rcases List.mem_append.1 he with h | h
      · exact i2.ne (hd y ⟨e, h, .inl hy⟩ i2.vy).symm
      · exact i2.out e h hy
    · rcases List.mem_append.1 he with h | h
      · exact i1.loop e h
      · exact i2.loop e h
  | @par x y E1 E2 h1 h2 hd i1 i2 =>
    refine ⟨vs_app.2 (.inl i1.vx), vs_app.2 (.inl i1.vy), i1.ne, fun e he => ?_, fun e he => ?_, fun e he => ?_⟩
    all_goals
      rcases List.mem_append.1 he with h | h
      · first | exact i1.inn e h | exact i1.out e h | exact i1.loop e h
      · first | exact i2.inn e h | exact i2.out e h | exact i2.loop e h
  | perm h hp ih => exact ⟨vs_perm hp ih.vx, vs_perm hp ih.vy, ih.ne, fun e he => ih.inn e (hp.mem_iff.2 he), fun e he => ih.out e (hp.mem_iff.2 he), fun e he => ih.loop e (hp.mem_iff.2 he)⟩
theorem SP.pos {x y : Nat} {E : List (Nat × Nat)} (h : SP x y E) : 1 ≤ E.length := by
  obtain ⟨e, he, _⟩ := h.ends.vx
  exact List.length_pos_of_mem he
theorem SP.one {x y : Nat} {E : List (Nat × Nat)} (h : SP x y E) (hl : E.length = 1) : E = [(x, y)] := by
  obtain ⟨⟨a, b⟩, rfl⟩ := List.length_eq_one_iff.1 hl
  have he := h.ends
  have h1 := he.inn (a, b) (by simp)
  have h2 := he.out (a, b) (by simp)
  have ax : a = x := by
    obtain ⟨e, hm, hc⟩ := he.vx
    rw [List.mem_singleton.1 hm] at hc
    rcases hc with hc | hc
    · exact hc
    · exact absurd hc h1
  have ay : b = y := by
    obtain ⟨e, hm, hc⟩ := he.vy
    rw [List.mem_singleton.1 hm] at hc
    rcases hc with hc | hc
    · exact absurd hc h2
    · exact hc
  rw [ax, ay]
/-- an edge from end to end may go -/
theorem SP.direct {x y : Nat} {E : List (Nat × Nat)} (h : SP x y E) : (x, y) ∈ E → E.length = 1 ∨ SP x y (E.erase (x, y)) := by
  induction h with
  | edge _ => exact fun _ => .inl rfl
  | @ser x z y E1 E2 h1 h2 hd i1 i2 =>
    intro hm
    rcases List.mem_append.1 hm with h | h
    · exact absurd (hd y (vs_of2 h) h2.ends.vy) h2.ends.ne.symm
    · exact absurd (hd x h1.ends.vx (vs_of1 h)) h1.ends.ne
  | @par x y E1 E2 h1 h2 hd i1 i2 =>
    intro hm
    by_cases h : (x, y) ∈ E1
    · rw [List.erase_append_left _ h]
      rcases i1 h with h3 | h3
      · obtain rfl := h1.one h3
        right; simpa using h2
      · exact .inr (.par h3 h2 fun v hv => hd v (vs_sub (fun e he => List.mem_of_mem_erase he) hv))
    · have h' : (x, y) ∈ E2 := (List.mem_append.1 hm).resolve_left h
      rw [List.erase_append_right _ h]
      rcases i2 h' with h3 | h3
      · obtain rfl := h2.one h3
        right; simpa using h1
      · exact .inr (.par h1 h3 fun v hv hw => hd v hv (vs_sub (fun e he => List.mem_of_mem_erase he) hw))
  | perm h hp ih =>
    intro hm
    rcases ih (hp.mem_iff.2 hm) with h1 | h1
    · exact .inl (by rw [← hp.length_eq]; exact h1)
    · exact .inr (.perm h1 (hp.erase _))
/-- one of two like edges may go -/
theorem SP.dup {x y : Nat} {E : List (Nat × Nat)} (h : SP x y E) : ∀ e, 2 ≤ E.count e → SP x y (E.erase e) := by
  induction h with
  | edge _ =>
    intro e he
    have h1 := Nat.le_trans he (List.count_le_length (a := e))
    simp at h1
  | @ser x z y E1 E2 h1 h2 hd i1 i2 =>
    rintro ⟨u, v⟩ he
    rw [List.count_append] at he
    by_cases ha : (u, v) ∈ E1
    · have hb : (u, v) ∉ E2 := fun hb => h1.ends.loop _ ha ((hd u (vs_of1 ha) (vs_of1 hb)).trans (hd v (vs_of2 ha) (vs_of2 hb)).symm)
      rw [List.count_eq_zero.2 hb] at he
      rw [List.erase_append_left _ ha]
      exact .ser (i1 _ (by omega)) h2 fun v hv => hd v (vs_sub (fun e he => List.mem_of_mem_erase he) hv)
    · rw [List.count_eq_zero.2 ha] at he
      rw [List.erase_append_right _ ha]
      exact .ser h1 (i2 _ (by omega)) fun v hv hw => hd v hv (vs_sub (fun e he => List.mem_of_mem_erase he) hw)
  | @par x y E1 E2 h1 h2 hd i1 i2 =>
    rintro ⟨u, v⟩ he
    rw [List.count_append] at he
    by_cases ha : (u, v) ∈ E1
    · rw [List.erase_append_left _ ha]
      by_cases hb : (u, v) ∈ E2
      · have e1 : u = x := (hd u (vs_of1 ha) (vs_of1 hb)).resolve_right (h1.ends.out _ ha)
        have e2 : v = y := (hd v (vs_of2 ha) (vs_of2 hb)).resolve_left (h1.ends.inn _ ha)
        subst e1 e2
        rcases h1.direct ha with h3 | h3
        · obtain rfl := h1.one h3
          simpa using h2
        · exact .par h3 h2 fun v hv => hd v (vs_sub (fun e he => List.mem_of_mem_erase he) hv)
      · rw [List.count_eq_zero.2 hb] at he
        exact .par (i1 _ (by omega)) h2 fun v hv => hd v (vs_sub (fun e he => List.mem_of_mem_erase he) hv)
    · rw [List.count_eq_zero.2 ha] at he
      rw [List.erase_append_right _ ha]
      exact .par h1 (i2 _ (by omega)) fun v hv hw => hd v hv (vs_sub (fun e he => List.mem_of_mem_erase he) hw)
  | perm h hp ih =>
    intro e he
    exact .perm (ih e (by rw [hp.count_eq]; exact he)) (hp.erase _)
/-- the one edge out of the beginning may go -/
theorem SP.fore {z y : Nat} {E : List (Nat × Nat)} (h : SP z y E) : ∀ v R, E.Perm ((z, v) :: R) → ¬ vsOf R z → (R = [] ∧ v = y) ∨ SP v y R := by
  induction h with
  | @edge x y hne =>
    intro v R hp _
    have hl := hp.length_eq
    simp at hl
    subst hl
    have := hp.mem_iff.1 (List.mem_singleton.2 rfl)
    simp at this
    exact .inl ⟨rfl, this.symm⟩
  | @ser x z y E1 E2 h1 h2 hd i1 i2 =>
    intro v R hp hz
    have hm : (x, v) ∈ E1 := by
      rcases List.mem_append.1 (hp.mem_iff.2 (by simp : (x, v) ∈ (x, v) :: R)) with h | h
      · exact h
      · exact absurd (hd x h1.ends.vx (vs_of1 h)) h1.ends.ne
    have p1 := List.perm_cons_erase hm
    have p2 : R.Perm (E1.erase (x, v) ++ E2) := ((hp.symm.trans (p1.append_right E2)) : ((x, v) :: R).Perm _).cons_inv
    have hz1 : ¬ vsOf (E1.erase (x, v)) x := fun h => hz (vs_perm p2.symm (vs_app.2 (.inl h)))
    right
    rcases i1 v _ p1 hz1 with ⟨e1, rfl⟩ | h3
    · rw [e1] at p2
      exact .perm h2 p2.symm
    · exact .perm (.ser h3 h2 fun w hw => hd w (vs_sub (fun e he => List.mem_of_mem_erase he) hw)) p2.symm
  | @par x y E1 E2 h1 h2 hd i1 i2 =>
    intro v R hp hz
    exfalso
    rcases List.mem_append.1 (hp.mem_iff.2 (by simp : (x, v) ∈ (x, v) :: R)) with h | h
    · have p2 : R.Perm (E1.erase (x, v) ++ E2) := ((hp.symm.trans ((List.perm_cons_erase h).append_right E2)) : ((x, v) :: R).Perm _).cons_inv
      exact hz (vs_perm p2.symm (vs_app.2 (.inr h2.ends.vx)))
    · have p2 : R.Perm (E2.erase (x, v) ++ E1) := ((hp.symm.trans (List.perm_append_comm.trans ((List.perm_cons_erase h).append_right E1))) : ((x, v) :: R).Perm _).cons_inv
      exact hz (vs_perm p2.symm (vs_app.2 (.inr h1.ends.vx)))
  | perm h hp ih => exact fun v R hq hz => ih v R (hp.trans hq) hz
/-- the one edge into the end may go -/
theorem SP.back {x z : Nat} {E : List (Nat × Nat)} (h : SP x z E) : ∀ u R, E.Perm ((u, z) :: R) → ¬ vsOf R z → (R = [] ∧ u = x) ∨ SP x u R := by
  induction h with
  | @edge x y hne =>
    intro u R hp _
    have hl := hp.length_eq
    simp at hl
    subst hl
    have := hp.mem_iff.1 (List.mem_singleton.2 rfl)
    simp at this
    exact .inl ⟨rfl, this.symm⟩
  | @ser x z y E1 E2 h1 h2 hd i1 i2 =>
    intro u R hp hz
    have hm : (u, y) ∈ E2 := by
      rcases List.mem_append.1 (hp.mem_iff.2 (by simp : (u, y) ∈ (u, y) :: R)) with h | h
      · exact absurd (hd y (vs_of2 h) h2.ends.vy) h2.ends.ne.symm
      · exact h
    have p1 := List.perm_cons_erase hm
    have p2 : R.Perm (E2.erase (u, y) ++ E1) := ((hp.symm.trans (List.perm_append_comm.trans (p1.append_right E1))) : ((u, y) :: R).Perm _).cons_inv
    have hz1 : ¬ vsOf (E2.erase (u, y)) y := fun h => hz (vs_perm p2.symm (vs_app.2 (.inl h)))
    right
    rcases i2 u _ p1 hz1 with ⟨e1, rfl⟩ | h3
    · rw [e1] at p2
      exact .perm h1 p2.symm
    · exact .perm (.ser h1 h3 fun w hw hw' => hd w hw (vs_sub (fun e he => List.mem_of_mem_erase he) hw')) (List.perm_append_comm.trans p2.symm)
  | @par x y E1 E2 h1 h2 hd i1 i2 =>
    intro u R hp hz
    exfalso
    rcases List.mem_append.1 (hp.mem_iff.2 (by simp : (u, y) ∈ (u, y) :: R)) with h | h
    · have p2 : R.Perm (E1.erase (u, y) ++ E2) := ((hp.symm.trans ((List.perm_cons_erase h).append_right E2)) : ((u, y) :: R).Perm _).cons_inv
      exact hz (vs_perm p2.symm (vs_app.2 (.inr h2.ends.vy)))
    · have p2 : R.Perm (E2.erase (u, y) ++ E1) := ((hp.symm.trans (List.perm_append_comm.trans ((List.perm_cons_erase h).append_right E1))) : ((u, y) :: R).Perm _).cons_inv
      exact hz (vs_perm p2.symm (vs_app.2 (.inr h1.ends.vy)))
  | perm h hp ih => exact fun u R hq hz => ih u R (hp.trans hq) hz
theorem two_of {E : List (Nat × Nat)} {u p v : Nat} (h1 : (u, p) ∈ E) (h2 : (p, v) ∈ E) (hne : u ≠ p) : ∃ R, E.Perm ((u, p) :: (p, v) :: R) := by
  have p1 := List.perm_cons_erase h1
  have h3 : (p, v) ∈ E.erase (u, p) := (List.mem_erase_of_ne (fun e => hne (by cases e; rfl))).2 h2
  exact ⟨_, p1.trans ((List.perm_cons_erase h3).cons _)⟩
/-- a vertex with one edge in and one out may go, and its edges are one -/
theorem SP.series {x y : Nat} {E : List (Nat × Nat)} (h : SP x y E) : ∀ p u v R, p ≠ x → p ≠ y → E.Perm ((u, p) :: (p, v) :: R) → ¬ vsOf R p → SP x y ((u, v) :: R) := by
  induction h with
  | edge _ =>
    intro p u v R _ _ hp _
    have hl := hp.length_eq
    simp at hl
  | @ser x z y E1 E2 h1 h2 hd i1 i2 =>
    intro p u v R hx hy hp hR
    have hE := SP.ser h1 h2 hd
    have m1 : (u, p) ∈ E1 ++ E2 := hp.mem_iff.2 (by simp)
    have m2 : (p, v) ∈ E1 ++ E2 := hp.mem_iff.2 (by simp)
    have nu : u ≠ p := hE.ends.loop _ m1
    have nv : p ≠ v := hE.ends.loop _ m2
    by_cases hz : p = z
    · subst hz
      have a1 : (u, p) ∈ E1 := (List.mem_append.1 m1).resolve_right fun h => h2.ends.inn _ h rfl
      have a2 : (p, v) ∈ E2 := (List.mem_append.1 m2).resolve_left fun h => h1.ends.out _ h rfl
      have p1 := List.perm_cons_erase a1
      have p2 := List.perm_cons_erase a2
      have q : R.Perm (E1.erase (u, p) ++ E2.erase (p, v)) := by
        have h3 : ((u, p) :: (p, v) :: R).Perm ((u, p) :: (p, v) :: (E1.erase (u, p) ++ E2.erase (p, v))) := hp.symm.trans ((p1.append p2).trans ((List.perm_middle).cons _))
        exact h3.cons_inv.cons_inv
      have n1 : ¬ vsOf (E1.erase (u, p)) p := fun h => hR (vs_perm q.symm (vs_app.2 (.inl h)))
      have n2 : ¬ vsOf (E2.erase (p, v)) p := fun h => hR (vs_perm q.symm (vs_app.2 (.inr h)))
      have s1 : ∀ {w}, vsOf (E1.erase (u, p)) w → vsOf E1 w := fun h => vs_sub (fun e he => List.mem_of_mem_erase he) h
      have s2 : ∀ {w}, vsOf (E2.erase (p, v)) w → vsOf E2 w := fun h => vs_sub (fun e he => List.mem_of_mem_erase he) h
      have vu := vs_of1 a1
      have vv := vs_of2 a2
      refine .perm ?_ (q.symm.cons _)
      rcases h1.back u _ p1 n1 with ⟨e1, rfl⟩ | g1
      · rw [e1, List.nil_append]
        rcases h2.fore v _ p2 n2 with ⟨e2, rfl⟩ | g2
        · rw [e2]; exact .edge hE.ends.ne
        · refine .ser (E1 := [(u, v)]) (.edge fun e => nu (hd u vu (e ▸ vv))) g2 fun w hw hw' => ?_
          rcases vs_cons.1 hw with rfl | rfl | h
          · exact absurd (hd _ vu (s2 hw')) nu
          · rfl
          · obtain ⟨_, h, _⟩ := h; cases h
      · rcases h2.fore v _ p2 n2 with ⟨e2, rfl⟩ | g2
        · rw [e2, List.append_nil]
          have h3 : SP x v (E1.erase (u, p) ++ [(u, v)]) := .ser g1 (.edge fun e => nu (hd u vu (e ▸ vv))) fun w hw hw' => by
            rcases vs_cons.1 hw' with rfl | rfl | h
            · rfl
            · exact absurd (hd _ (s1 hw) vv).symm nv
            · obtain ⟨_, h, _⟩ := h; cases h
          exact .perm h3 (List.perm_append_singleton _ _)
        · have h3 : SP u y ([(u, v)] ++ E2.erase (p, v)) := .ser (.edge fun e => nu (hd u vu (e ▸ vv))) g2 fun w hw hw' => by
            rcases vs_cons.1 hw with rfl | rfl | h
            · exact absurd (hd _ vu (s2 hw')) nu
            · rfl
            · obtain ⟨_, h, _⟩ := h; cases h
          have h4 : SP x y (E1.erase (u, p) ++ ([(u, v)] ++ E2.erase (p, v))) := .ser g1 h3 fun w hw hw' => by
            rcases vs_cons.1 (show vsOf ((u, v) :: E2.erase (p, v)) w from hw') with rfl | rfl | h
            · rfl
            · exact absurd (hd _ (s1 hw) vv).symm nv
            · exact absurd (hd _ (s1 hw) (s2 h)) fun e => by rw [e] at hw; exact n1 hw
          exact .perm h4 List.perm_middle
    · have ex : ∀ {w}, vsOf E1 w → vsOf E2 w → w = z := fun {w} => hd w
      by_cases a1 : (u, p) ∈ E1
      · have a2 : (p, v) ∈ E1 := (List.mem_append.1 m2).resolve_right fun h => hz (ex (vs_of2 a1) (vs_of1 h))
        obtain ⟨R1, p1⟩ := two_of a1 a2 nu
        have q : R.Perm (R1 ++ E2) := (hp.symm.trans (p1.append_right E2) : ((u, p) :: (p, v) :: R).Perm ((u, p) :: (p, v) :: (R1 ++ E2))).cons_inv.cons_inv
        have n1 : ¬ vsOf R1 p := fun h => hR (vs_perm q.symm (vs_app.2 (.inl h)))
        have g := i1 p u v R1 hx hz p1 n1
        refine .perm (.ser g h2 fun w hw => hd w ?_) (show ((u, v) :: R1 ++ E2).Perm _ from q.symm.cons _)
        rcases vs_cons.1 hw with rfl | rfl | h
        · exact vs_of1 a1
        · exact vs_of2 a2
        · exact vs_perm p1.symm (vs_cons.2 (.inr (.inr (vs_cons.2 (.inr (.inr h))))))
      · have a1 : (u, p) ∈ E2 := (List.mem_append.1 m1).resolve_left a1
        have a2 : (p, v) ∈ E2 := (List.mem_append.1 m2).resolve_left fun h => hz (ex (vs_of1 h) (vs_of2 a1))
        obtain ⟨R1, p1⟩ := two_of a1 a2 nu
        have q : R.Perm (R1 ++ E1) := (hp.symm.trans (List.perm_append_comm.trans (p1.append_right E1)) : ((u, p) :: (p, v) :: R).Perm ((u, p) :: (p, v) :: (R1 ++ E1))).cons_inv.cons_inv
        have n1 : ¬ vsOf R1 p := fun h => hR (vs_perm q.symm (vs_app.2 (.inl h)))
        have g := i2 p u v R1 hz hy p1 n1
        refine .perm (.ser h1 g fun w hw hw' => hd w hw ?_) (List.perm_append_comm.trans (show ((u, v) :: R1 ++ E1).Perm _ from q.symm.cons _))
        rcases vs_cons.1 hw' with rfl | rfl | h
        · exact vs_of1 a1
        · exact vs_of2 a2
        · exact vs_perm p1.symm (vs_cons.2 (.inr (.inr (vs_cons.2 (.inr (.inr h))))))
  | @par x y E1 E2 h1 h2 hd i1 i2 =>
    intro p u v R hx hy hp hR
    have hE := SP.par h1 h2 hd
    have m1 : (u, p) ∈ E1 ++ E2 := hp.mem_iff.2 (by simp)
    have m2 : (p, v) ∈ E1 ++ E2 := hp.mem_iff.2 (by simp)
    have nu : u ≠ p := hE.ends.loop _ m1
    have ex : vsOf E1 p → vsOf E2 p → False := fun h h' => by rcases hd p h h' with e | e <;> contradiction
    by_cases a1 : (u, p) ∈ E1
    · have a2 : (p, v) ∈ E1 := (List.mem_append.1 m2).resolve_right fun h => ex (vs_of2 a1) (vs_of1 h)
      obtain ⟨R1, p1⟩ := two_of a1 a2 nu
      have q : R.Perm (R1 ++ E2) := (hp.symm.trans (p1.append_right E2) : ((u, p) :: (p, v) :: R).Perm ((u, p) :: (p, v) :: (R1 ++ E2))).cons_inv.cons_inv
      have n1 : ¬ vsOf R1 p := fun h => hR (vs_perm q.symm (vs_app.2 (.inl h)))
      have g := i1 p u v R1 hx hy p1 n1
      refine .perm (.par g h2 fun w hw => hd w ?_) (show ((u, v) :: R1 ++ E2).Perm _ from q.symm.cons _)
      rcases vs_cons.1 hw with rfl | rfl | h
      · exact vs_of1 a1
      · exact vs_of2 a2
      · exact vs_perm p1.symm (vs_cons.2 (.inr (.inr (vs_cons.2 (.inr (.inr h))))))
    · have a1 : (u, p) ∈ E2 := (List.mem_append.1 m1).resolve_left a1
      have a2 : (p, v) ∈ E2 := (List.mem_append.1 m2).resolve_left fun h => ex (vs_of1 h) (vs_of2 a1)
      obtain ⟨R1, p1⟩ := two_of a1 a2 nu
      have q : R.Perm (R1 ++ E1) := (hp.symm.trans (List.perm_append_comm.trans (p1.append_right E1)) : ((u, p) :: (p, v) :: R).Perm ((u, p) :: (p, v) :: (R1 ++ E1))).cons_inv.cons_inv
      have n1 : ¬ vsOf R1 p := fun h => hR (vs_perm q.symm (vs_app.2 (.inl h)))
      have g := i2 p u v R1 hx hy p1 n1
      refine .perm (.par h1 g fun w hw hw' => hd w hw ?_) (List.perm_append_comm.trans (show ((u, v) :: R1 ++ E1).Perm _ from q.symm.cons _))
      rcases vs_cons.1 hw' with rfl | rfl | h
      · exact vs_of1 a1
      · exact vs_of2 a2
      · exact vs_perm p1.symm (vs_cons.2 (.inr (.inr (vs_cons.2 (.inr (.inr h))))))
  | perm h hp ih => exact fun p u v R hx hy hq hR => ih p u v R hx hy (hp.trans hq) hR
/-- where there is more than one edge, two are alike, or one vertex has one in and one out -/
theorem SP.more {x y : Nat} {E : List (Nat × Nat)} (h : SP x y E) : 2 ≤ E.length → (∃ e, 2 ≤ E.count e) ∨ ∃ p u v R, p ≠ x ∧ p ≠ y ∧ E.Perm ((u, p) :: (p, v) :: R) ∧ ¬ vsOf R p := by
  induction h with
  | edge _ => intro hl; simp at hl
  | @ser x z y E1 E2 h1 h2 hd i1 i2 =>
    intro _
    by_cases l1 : 2 ≤ E1.length
    · rcases i1 l1 with ⟨e, he⟩ | ⟨p, u, v, R, e1, e2, hp, hR⟩
      · exact .inl ⟨e, by rw [List.count_append]; omega⟩
      · have hv : vsOf E1 p := vs_perm hp.symm (vs_cons.2 (.inr (.inl rfl)))
        refine .inr ⟨p, u, v, R ++ E2, e1, fun e => ?_, hp.append_right E2, fun h => ?_⟩
        · subst e; exact e2 (hd _ hv h2.ends.vy)
        · rcases vs_app.1 h with h | h
          · exact hR h
          · exact e2 (hd p hv h)
    · by_cases l2 : 2 ≤ E2.length
      · rcases i2 l2 with ⟨e, he⟩ | ⟨p, u, v, R, e1, e2, hp, hR⟩
        · exact .inl ⟨e, by rw [List.count_append]; omega⟩
        · have hv : vsOf E2 p := vs_perm hp.symm (vs_cons.2 (.inr (.inl rfl)))
          refine .inr ⟨p, u, v, R ++ E1, fun e => ?_, e2, List.perm_append_comm.trans (hp.append_right E1), fun h => ?_⟩
          · subst e; exact e1 (hd _ h1.ends.vx hv)
          · rcases vs_app.1 h with h | h
            · exact hR h
            · exact e1 (hd p h hv)
      · have := h1.pos
        have := h2.pos
        obtain rfl := h1.one (by omega)
        obtain rfl := h2.one (by omega)
        exact .inr ⟨z, x, y, [], h1.ends.ne.symm, h2.ends.ne, .refl _, fun ⟨_, h, _⟩ => by cases h⟩
  | @par x y E1 E2 h1 h2 hd i1 i2 =>
    intro _
    by_cases l1 : 2 ≤ E1.length
    · rcases i1 l1 with ⟨e, he⟩ | ⟨p, u, v, R, e1, e2, hp, hR⟩
      · exact .inl ⟨e, by rw [List.count_append]; omega⟩
      · have hv : vsOf E1 p := vs_perm hp.symm (vs_cons.2 (.inr (.inl rfl)))
        refine .inr ⟨p, u, v, R ++ E2, e1, e2, hp.append_right E2, fun h => ?_⟩
        rcases vs_app.1 h with h | h
        · exact hR h
        · rcases hd p hv h with e | e <;> contradiction
    · by_cases l2 : 2 ≤ E2.length
      · rcases i2 l2 with ⟨e, he⟩ | ⟨p, u, v, R, e1, e2, hp, hR⟩
        · exact .inl ⟨e, by rw [List.count_append]; omega⟩
        · have hv : vsOf E2 p := vs_perm hp.symm (vs_cons.2 (.inr (.inl rfl)))
          refine .inr ⟨p, u, v, R ++ E1, e1, e2, List.perm_append_comm.trans (hp.append_right E1), fun h => ?_⟩
          rcases vs_app.1 h with h | h
          · exact hR h
          · rcases hd p h hv with e | e <;> contradiction
      · have := h1.pos
        have := h2.pos
        obtain rfl := h1.one (by omega)
        obtain rfl := h2.one (by omega)
        exact .inl ⟨(x, y), by simp⟩
  | perm h hp ih =>
    intro hl
    rcases ih (by rw [hp.length_eq]; exact hl) with ⟨e, he⟩ | ⟨p, u, v, R, e1, e2, hq, hR⟩
    · exact .inl ⟨e, by rw [← hp.count_eq]; exact he⟩
    · exact .inr ⟨p, u, v, R, e1, e2, hp.symm.trans hq, hR⟩
/-- other names for the vertices -/
theorem SP.named {x y : Nat} {E : List (Nat × Nat)} (h : SP x y E) {f : Nat → Nat} : (∀ a b, vsOf E a → vsOf E b → f a = f b → a = b) → SP (f x) (f y) (E.map fun e => (f e.1, f e.2)) := by
  have vm : ∀ {E : List (Nat × Nat)} {w}, vsOf (E.map fun e => (f e.1, f e.2)) w → ∃ v, vsOf E v ∧ f v = w := fun {E w} ⟨e, he, hc⟩ => by
    obtain ⟨e', he', rfl⟩ := List.mem_map.1 he
    rcases hc with hc | hc
    · exact ⟨e'.1, ⟨e', he', .inl rfl⟩, hc⟩
    · exact ⟨e'.2, ⟨e', he', .inr rfl⟩, hc⟩
  induction h with
  | @edge x y hne =>
    intro hi
    exact .edge fun e => hne (hi x y (vs_cons.2 (.inl rfl)) (vs_cons.2 (.inr (.inl rfl))) e)
  | @ser x z y E1 E2 h1 h2 hd i1 i2 =>
    intro hi
    rw [List.map_append]
    refine .ser (i1 fun a b ha hb => hi a b (vs_app.2 (.inl ha)) (vs_app.2 (.inl hb))) (i2 fun a b ha hb => hi a b (vs_app.2 (.inr ha)) (vs_app.2 (.inr hb))) fun w hw hw' => ?_
    obtain ⟨a, ha, rfl⟩ := vm hw
    obtain ⟨b, hb, e⟩ := vm hw'
    obtain rfl := hi b a (vs_app.2 (.inr hb)) (vs_app.2 (.inl ha)) e
    rw [hd _ ha hb]
  | @par x y E1 E2 h1 h2 hd i1 i2 =>
    intro hi
    rw [List.map_append]
    refine .par (i1 fun a b ha hb => hi a b (vs_app.2 (.inl ha)) (vs_app.2 (.inl hb))) (i2 fun a b ha hb => hi a b (vs_app.2 (.inr ha)) (vs_app.2 (.inr hb))) fun w hw hw' => ?_
    obtain ⟨a, ha, rfl⟩ := vm hw
    obtain ⟨b, hb, e⟩ := vm hw'
    obtain rfl := hi b a (vs_app.2 (.inr hb)) (vs_app.2 (.inl ha)) e
    rcases hd _ ha hb with rfl | rfl
    · exact .inl rfl
    · exact .inr rfl
  | perm h hp ih => exact fun hi => .perm (ih fun a b ha hb => hi a b (vs_perm hp ha) (vs_perm hp hb)) (hp.map _)
end Go.Tok
