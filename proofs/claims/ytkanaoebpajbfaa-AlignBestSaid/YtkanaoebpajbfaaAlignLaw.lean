/- Traces beside nets, as plain functions and relations: moves, what they cost; a search that always leaves the spot that costs least finds the least cost. No program is in sight here. -/
import Derived.Test.YtkanaoebpajbfaaTongLaw
namespace Go.Tok
set_option linter.unusedVariables false
set_option linter.unusedSimpArgs false
structure SpotD where
  seen : Nat
  mark : Nat
deriving DecidableEq
instance : Inhabited SpotD := ⟨⟨0, 0⟩⟩
structure MoveD where
  kind : Int
  label : Int
  tran : Int
deriving DecidableEq
instance : Inhabited MoveD := ⟨⟨0, 0, 0⟩⟩
structure StpD where
  cost : Nat
  src : SpotD
  move : MoveD
  fin : Bool
deriving DecidableEq
instance : Inhabited StpD := ⟨⟨0, ⟨0, 0⟩, ⟨0, 0, 0⟩, false⟩⟩
theorem nodup_at {α : Type} {l : List α} (h : l.Nodup) {i j : Nat} (hi : i < l.length) (hj : j < l.length) (e : l[i] = l[j]) : i = j := by
  rcases Nat.lt_trichotomy i j with h1 | h1 | h1
  · exact absurd e (List.pairwise_iff_getElem.1 h i j hi hj h1)
  · exact h1
  · exact absurd e.symm (List.pairwise_iff_getElem.1 h j i hj hi h1)
def spot0 : SpotD := ⟨0, 0⟩
def stp0 : StpD := ⟨0, ⟨0, 0⟩, ⟨0, 0, 0⟩, false⟩
def one1 (a : Int) : Nat := if 0 < a then 1 else 0
theorem one1_le (a : Int) : one1 a ≤ 1 := by unfold one1; split <;> omega

section
variable {lab : List Int} {arcs : List ArcD} {tr : List Int}
/-- one move, and what it costs -/
inductive Mv (lab : List Int) (arcs : List ArcD) (tr : List Int) : SpotD → MoveD → SpotD → Nat → Prop
  | skip {k m : Nat} (h : k < tr.length) : Mv lab arcs tr ⟨k, m⟩ ⟨2, nth tr k, 0⟩ ⟨k + 1, m⟩ 1
  | net {k m t m' : Nat} (h : (⟨(m : Int), (t : Int), (m' : Int)⟩ : ArcD) ∈ arcs) : Mv lab arcs tr ⟨k, m⟩ ⟨3, nth lab t, (t : Int)⟩ ⟨k, m'⟩ (one1 (nth lab t))
  | both {k m t m' : Nat} (h : (⟨(m : Int), (t : Int), (m' : Int)⟩ : ArcD) ∈ arcs) (h1 : 0 < nth lab t) (h2 : k < tr.length) (h3 : nth tr k = nth lab t) : Mv lab arcs tr ⟨k, m⟩ ⟨1, nth lab t, (t : Int)⟩ ⟨k + 1, m'⟩ 0
theorem Mv.le1 {s u : SpotD} {mv : MoveD} {e : Nat} (h : Mv lab arcs tr s mv u e) : e ≤ 1 := by
  cases h with
  | skip _ => exact Nat.le_refl _
  | net _ => exact one1_le _
  | both _ _ _ _ => exact Nat.zero_le _
/-- moves one behind the other -/
inductive Pth (lab : List Int) (arcs : List ArcD) (tr : List Int) (s : SpotD) : List MoveD → SpotD → Nat → Prop
  | nil : Pth lab arcs tr s [] s 0
  | snoc {l : List MoveD} {u v : SpotD} {c e : Nat} {mv : MoveD} (h : Pth lab arcs tr s l u c) (h1 : Mv lab arcs tr u mv v e) : Pth lab arcs tr s (l ++ [mv]) v (c + e)
theorem Pth.cons {s u v : SpotD} {l : List MoveD} {mv : MoveD} {c e : Nat} (h1 : Mv lab arcs tr s mv u e) (h : Pth lab arcs tr u l v c) : Pth lab arcs tr s (mv :: l) v (e + c) := by
  induction h with
  | nil =>
    have := Pth.snoc (Pth.nil (lab := lab) (arcs := arcs) (tr := tr) (s := s)) h1
    simpa using this
  | snoc _ h2 ih =>
    have := Pth.snoc ih h2
    simpa [Nat.add_assoc] using this
theorem Pth.append {s u v : SpotD} {l l' : List MoveD} {c c' : Nat} (h : Pth lab arcs tr s l u c) (h' : Pth lab arcs tr u l' v c') : Pth lab arcs tr s (l ++ l') v (c + c') := by
  induction h' with
  | nil => simpa using h
  | snoc _ h2 ih =>
    have := Pth.snoc ih h2
    simpa [Nat.add_assoc] using this

/-! ### what is known of spots -/
abbrev Kvs := List (SpotD × StpD)
def lookF (kvs : Kvs) (s : SpotD) : Option StpD := (kvs.find? fun e => decide (e.1 = s)).map (·.2)
def setF (kvs : Kvs) (s : SpotD) (x : StpD) : Kvs := kvs.map fun e => if e.1 = s then (s, x) else e
def offerF (kvs : Kvs) (s : SpotD) (x : StpD) : Kvs :=
  match lookF kvs s with
  | none => kvs ++ [(s, x)]
  | some y => if x.cost < y.cost then setF kvs s x else kvs
theorem look_nil (s : SpotD) : lookF [] s = none := rfl
theorem look_cons (e : SpotD × StpD) (kvs : Kvs) (s : SpotD) : lookF (e :: kvs) s = if e.1 = s then some e.2 else lookF kvs s := by
  unfold lookF
  rw [List.find?_cons]
  by_cases h : e.1 = s
  · simp [h]
  · simp [h]
theorem look_mem {kvs : Kvs} {s : SpotD} {x : StpD} (h : lookF kvs s = some x) : (s, x) ∈ kvs := by
  induction kvs with
  | nil => cases h
  | cons e kvs ih =>
    rw [look_cons] at h
    by_cases he : e.1 = s
    · rw [if_pos he] at h
      cases h
      rw [← he]; exact List.mem_cons_self ..
    · rw [if_neg he] at h
      exact List.mem_cons_of_mem _ (ih h)
theorem look_of {kvs : Kvs} (hn : (kvs.map (·.1)).Nodup) {s : SpotD} {x : StpD} (h : (s, x) ∈ kvs) : lookF kvs s = some x := by
  induction kvs with
  | nil => cases h
  | cons e kvs ih =>
    rw [List.map_cons, List.nodup_cons] at hn
    rw [look_cons]
    rcases List.mem_cons.1 h with rfl | h
    · simp
    · have : e.1 ≠ s := fun he => hn.1 (by rw [he]; exact List.mem_map.2 ⟨_, h, rfl⟩)
      rw [if_neg this]
      exact ih hn.2 h
theorem look_none {kvs : Kvs} {s : SpotD} (h : lookF kvs s = none) : ∀ e ∈ kvs, e.1 ≠ s := by
  induction kvs with
  | nil => simp
  | cons e kvs ih =>
    rw [look_cons] at h
    by_cases he : e.1 = s
    · rw [if_pos he] at h; cases h
    · rw [if_neg he] at h
      intro e' he'
      rcases List.mem_cons.1 he' with rfl | h'
      · exact he
      · exact ih h _ h'
theorem look_append (a b : Kvs) (s : SpotD) : lookF (a ++ b) s = (lookF a s).or (lookF b s) := by
  induction a with
  | nil => simp [look_nil]
  | cons e a ih =>
    rw [List.cons_append, look_cons, look_cons, ih]
    by_cases he : e.1 = s
    · simp [he]
    · simp [he]
theorem set_keys (kvs : Kvs) (s : SpotD) (x : StpD) : (setF kvs s x).map (·.1) = kvs.map (·.1) := by
  unfold setF
  rw [List.map_map]
  apply List.map_congr_left
  intro e _
  show (if e.1 = s then (s, x) else e).1 = e.1
  by_cases h : e.1 = s
  · rw [if_pos h]; exact h.symm
  · rw [if_neg h]
theorem look_set (kvs : Kvs) (s : SpotD) (x : StpD) (u : SpotD) : lookF (setF kvs s x) u = if u = s then (lookF kvs s).map (fun _ => x) else lookF kvs u := by
  induction kvs with
  | nil => simp [setF, look_nil]
  | cons e kvs ih =>
    have e1 : setF (e :: kvs) s x = (if e.1 = s then (s, x) else e) :: setF kvs s x := rfl
    rw [e1, look_cons, look_cons, look_cons, ih]
    by_cases h1 : e.1 = s
    · by_cases h2 : u = s
      · simp [h1, h2]
      · have h3 : ¬ s = u := fun h => h2 h.symm
        simp [h1, h2, h3]
    · by_cases h2 : u = s
      · subst h2; simp [h1]
      · by_cases h3 : e.1 = u
        · simp [h1, h2, h3]
        · simp [h1, h2, h3]
theorem look_offer (kvs : Kvs) (s : SpotD) (x : StpD) (u : SpotD) :
    lookF (offerF kvs s x) u = if u = s then (match lookF kvs s with | none => some x | some y => if x.cost < y.cost then some x else some y) else lookF kvs u := by
  unfold offerF
  cases h : lookF kvs s with
  | none =>
    simp only []
    rw [look_append, look_cons, look_nil]
    by_cases h2 : u = s
    · subst h2; simp [h]
    · have h3 : ¬ s = u := fun h => h2 h.symm
      simp [h2, h3]
  | some y =>
    simp only []
    by_cases hc : x.cost < y.cost
    · rw [if_pos hc, if_pos hc, look_set, h]
      by_cases h2 : u = s
      · simp [h2]
      · simp [h2]
    · rw [if_neg hc, if_neg hc]
      by_cases h2 : u = s
      · simp [h2, h]
      · simp [h2]
theorem offer_nodup {kvs : Kvs} (hn : (kvs.map (·.1)).Nodup) (s : SpotD) (x : StpD) : ((offerF kvs s x).map (·.1)).Nodup := by
  unfold offerF
  cases h : lookF kvs s with
  | none =>
    simp only [List.map_append, List.map_cons, List.map_nil]
    refine List.nodup_append.2 ⟨hn, by simp, fun a ha b hb e => ?_⟩
    rw [List.mem_singleton.1 hb] at e
    obtain ⟨z, hz, rfl⟩ := List.mem_map.1 ha
    exact look_none h z hz e
  | some y =>
    simp only []
    split
    · rw [set_keys]; exact hn
    · exact hn

/-- what the search has, spots left in the order of D -/
structure AInv (lab : List Int) (arcs : List ArcD) (tr : List Int) (kvs : Kvs) (D : List SpotD) : Prop where
  nd : (kvs.map (·.1)).Nodup
  dnd : D.Nodup
  fin : ∀ s x, lookF kvs s = some x → (x.fin = true ↔ s ∈ D)
  inD : ∀ s ∈ D, ∃ x, lookF kvs s = some x
  zero : ∃ x, lookF kvs spot0 = some x ∧ x.cost = 0
  back : ∀ s x, lookF kvs s = some x → s ≠ spot0 → (∀ i : Nat, D[i]? = some s → ∃ j : Nat, j < i ∧ D[j]? = some x.src) ∧ x.src ∈ D ∧ ∃ y e, lookF kvs x.src = some y ∧ Mv lab arcs tr x.src x.move s e ∧ y.cost + e = x.cost
  low : ∀ s x, lookF kvs s = some x → s ∈ D → ∀ u y, lookF kvs u = some y → u ∉ D → x.cost ≤ y.cost
  le : ∀ s x, lookF kvs s = some x → x.cost ≤ D.length
/-- each spot of D has told of all its moves -/
def Clo (lab : List Int) (arcs : List ArcD) (tr : List Int) (kvs : Kvs) (D : List SpotD) : Prop :=
  ∀ s ∈ D, ∀ x, lookF kvs s = some x → ∀ mv u e, Mv lab arcs tr s mv u e → ∃ y, lookF kvs u = some y ∧ y.cost ≤ x.cost + e
theorem AInv.start : AInv lab arcs tr [(spot0, stp0)] [] where
  nd := by simp
  dnd := by simp
  fin := fun s x h => by
    have := look_mem h
    simp at this
    rw [this.2]; simp [stp0]
  inD := by simp
  zero := ⟨stp0, by rw [look_cons]; simp, rfl⟩
  back := fun s x h hs => by
    have := look_mem h
    simp at this
    exact absurd this.1 hs
  low := by simp
  le := fun s x h => by
    have := look_mem h
    simp at this
    rw [this.2]; simp [stp0]
/-- the nearest of those not left yet -/
def NearR (kvs : Kvs) (s : SpotD) : Prop := ∃ x, lookF kvs s = some x ∧ x.fin = false ∧ ∀ u y, lookF kvs u = some y → y.fin = false → x.cost ≤ y.cost
variable {kvs : Kvs} {D : List SpotD}
theorem AInv.not_in (h : AInv lab arcs tr kvs D) {s : SpotD} {x : StpD} (hx : lookF kvs s = some x) (hf : x.fin = false) : s ∉ D := fun hD => by
  have := (h.fin s x hx).2 hD
  rw [hf] at this; cases this
theorem AInv.fin_no (h : AInv lab arcs tr kvs D) {s : SpotD} {x : StpD} (hx : lookF kvs s = some x) (hD : s ∉ D) : x.fin = false := by
  cases hf : x.fin with
  | false => rfl
  | true => exact absurd ((h.fin s x hx).1 hf) hD
/-- the nearest one is left -/
theorem AInv.pop (h : AInv lab arcs tr kvs D) {s : SpotD} {x : StpD} (hx : lookF kvs s = some x) (hf : x.fin = false) (hm : ∀ u y, lookF kvs u = some y → y.fin = false → x.cost ≤ y.cost) :
    AInv lab arcs tr (setF kvs s { x with fin := true }) (D ++ [s]) := by
  have hs := h.not_in hx hf
  have hl : ∀ u y, lookF (setF kvs s { x with fin := true }) u = some y → ∃ y0, lookF kvs u = some y0 ∧ y.cost = y0.cost ∧ y.src = y0.src ∧ y.move = y0.move ∧ (u = s → y.fin = true) ∧ (u ≠ s → y = y0) := by
    intro u y hy
    rw [look_set] at hy
    by_cases hu : u = s
    · rw [if_pos hu, hx] at hy
      cases hy
      exact ⟨x, by rw [hu]; exact hx, rfl, rfl, rfl, fun _ => rfl, fun h => absurd hu h⟩
    · rw [if_neg hu] at hy
      exact ⟨y, hy, rfl, rfl, rfl, fun h => absurd h hu, fun _ => rfl⟩
  have hr : ∀ u y0, lookF kvs u = some y0 → ∃ y, lookF (setF kvs s { x with fin := true }) u = some y ∧ y.cost = y0.cost := by
    intro u y0 hy0
    rw [look_set]
    by_cases hu : u = s
    · rw [if_pos hu, hx]
      rw [hu, hx] at hy0
      cases hy0
      exact ⟨_, rfl, rfl⟩
    · rw [if_neg hu]; exact ⟨y0, hy0, rfl⟩
  refine ⟨by rw [set_keys]; exact h.nd, ?_, ?_, ?_, ?_, ?_, ?_, ?_⟩
  · refine List.nodup_append.2 ⟨h.dnd, by simp, fun a ha b hb e => ?_⟩
    rw [List.mem_singleton.1 hb] at e
    exact hs (e ▸ ha)
  · intro u y hy
    obtain ⟨y0, h0, _, _, _, h1, h2⟩ := hl u y hy
    rw [List.mem_append, List.mem_singleton]
    by_cases hu : u = s
    · exact ⟨fun _ => .inr hu, fun _ => h1 hu⟩
    · rw [h2 hu, h.fin u y0 h0]
      exact ⟨fun h => .inl h, fun h => h.resolve_right hu⟩
  · intro u hu
    rcases List.mem_append.1 hu with h1 | h1
    · obtain ⟨y0, h0⟩ := h.inD u h1
      obtain ⟨y, hy, _⟩ := hr u y0 h0
      exact ⟨y, hy⟩
    · rw [List.mem_singleton.1 h1]
      obtain ⟨y, hy, _⟩ := hr s x hx
      exact ⟨y, hy⟩
  · obtain ⟨z, hz, hc⟩ := h.zero
    obtain ⟨y, hy, he⟩ := hr _ z hz
    exact ⟨y, hy, he.trans hc⟩
  · intro u y hy hu
    obtain ⟨y0, h0, hc, hsrc, hmv, _, _⟩ := hl u y hy
    obtain ⟨h1, h2, z, e, h3, h4, h5⟩ := h.back u y0 h0 hu
    obtain ⟨z', hz', hcz⟩ := hr _ z h3
    rw [hsrc, hmv]
    refine ⟨fun i hi => ?_, List.mem_append_left _ h2, z', e, hz', h4, by omega⟩
    rcases Nat.lt_or_ge i D.length with hlt | hge
    · rw [List.getElem?_append_left hlt] at hi
      obtain ⟨j, hj, hdj⟩ := h1 i hi
      exact ⟨j, hj, by rw [List.getElem?_append_left (by omega)]; exact hdj⟩
    · obtain ⟨j, hj, hjd⟩ := List.getElem_of_mem h2
      exact ⟨j, by omega, by rw [List.getElem?_append_left hj, List.getElem?_eq_getElem hj, hjd]⟩
  · intro u y hy hu v z hz hv
    obtain ⟨y0, h0, hc, _⟩ := hl u y hy
    obtain ⟨z0, g0, hcz, _⟩ := hl v z hz
    have hv1 : v ∉ D := fun h => hv (List.mem_append_left _ h)
    rw [hc, hcz]
    rcases List.mem_append.1 hu with h1 | h1
    · exact h.low u y0 h0 h1 v z0 g0 hv1
    · rw [List.mem_singleton.1 h1, hx] at h0
      cases h0
      exact hm v z0 g0 (h.fin_no g0 hv1)
  · intro u y hy
    obtain ⟨y0, h0, hc, _⟩ := hl u y hy
    have := h.le u y0 h0
    rw [hc, List.length_append]; simp; omega
/-- a spot that was just left tells of a move -/
theorem AInv.offer (h : AInv lab arcs tr kvs D) {s : SpotD} {x : StpD} (hx : lookF kvs s = some x) (hs : s ∈ D) (hmax : ∀ u ∈ D, ∀ y, lookF kvs u = some y → y.cost ≤ x.cost) (hle : x.cost + 1 ≤ D.length) {mv : MoveD} {u : SpotD} {e : Nat} (hmv : Mv lab arcs tr s mv u e) :
    AInv lab arcs tr (offerF kvs u ⟨x.cost + e, s, mv, false⟩) D ∧ (∀ v ∈ D, lookF (offerF kvs u ⟨x.cost + e, s, mv, false⟩) v = lookF kvs v) ∧ (∀ v y, lookF kvs v = some y → ∃ y', lookF (offerF kvs u ⟨x.cost + e, s, mv, false⟩) v = some y' ∧ y'.cost ≤ y.cost) ∧
      ∃ y, lookF (offerF kvs u ⟨x.cost + e, s, mv, false⟩) u = some y ∧ y.cost ≤ x.cost + e := by
  have he := hmv.le1
  have hlk := look_offer kvs u ⟨x.cost + e, s, mv, false⟩
  obtain ⟨kv2, hkv⟩ : ∃ k, k = offerF kvs u ⟨x.cost + e, s, mv, false⟩ := ⟨_, rfl⟩
  have hnd := offer_nodup h.nd u ⟨x.cost + e, s, mv, false⟩
  rw [← hkv] at hlk hnd ⊢
  clear hkv
  have keep : ∀ v ∈ D, lookF kv2 v = lookF kvs v := by
    intro v hv
    rw [hlk]
    by_cases hvu : v = u
    · rw [if_pos hvu]
      obtain ⟨y, hy⟩ := h.inD v hv
      have := hmax v hv y hy
      rw [hvu] at hy
      rw [hvu, hy]
      simp only []
      rw [if_neg (by simp; omega)]
    · rw [if_neg hvu]
  have new : ∀ v y, lookF kv2 v = some y → lookF kvs v = some y ∨ (v = u ∧ v ∉ D ∧ y = ⟨x.cost + e, s, mv, false⟩) := by
    intro v y hy
    by_cases hv : v ∈ D
    · rw [keep v hv] at hy; exact .inl hy
    · rw [hlk] at hy
      by_cases hvu : v = u
      · rw [if_pos hvu] at hy
        cases hk : lookF kvs u with
        | none => rw [hk] at hy; simp only [] at hy; cases hy; exact .inr ⟨hvu, hv, rfl⟩
        | some z =>
          rw [hk] at hy
          simp only [] at hy
          split at hy
          · cases hy; exact .inr ⟨hvu, hv, rfl⟩
          · cases hy; rw [hvu]; exact .inl hk
      · rw [if_neg hvu] at hy; exact .inl hy
  have old : ∀ v y, lookF kvs v = some y → ∃ y', lookF kv2 v = some y' ∧ y'.cost ≤ y.cost := by
    intro v y hy
    rw [hlk]
    by_cases hvu : v = u
    · rw [if_pos hvu, ← hvu, hy]
      simp only []
      split
      · exact ⟨_, rfl, by simp at *; omega⟩
      · exact ⟨y, rfl, Nat.le_refl _⟩
    · rw [if_neg hvu]; exact ⟨y, hy, Nat.le_refl _⟩
  refine ⟨⟨hnd, h.dnd, ?_, ?_, ?_, ?_, ?_, ?_⟩, keep, old, ?_⟩
  · intro v y hy
    rcases new v y hy with h1 | ⟨_, h2, rfl⟩
    · exact h.fin v y h1
    · exact ⟨(fun h => (by cases h)), fun h => absurd h h2⟩
  · intro v hv
    obtain ⟨y, hy⟩ := h.inD v hv
    exact ⟨y, by rw [keep v hv]; exact hy⟩
  · obtain ⟨z, hz, hc⟩ := h.zero
    obtain ⟨y, hy, hle'⟩ := old _ z hz
    exact ⟨y, hy, by omega⟩
  · intro v y hy hv0
    rcases new v y hy with h1 | ⟨h1, h2, rfl⟩
    · obtain ⟨b1, b2, z, e', b3, b4, b5⟩ := h.back v y h1 hv0
      exact ⟨b1, b2, z, e', by rw [keep _ b2]; exact b3, b4, b5⟩
    · refine ⟨fun i hi => absurd (List.mem_of_getElem? hi) h2, hs, x, e, by rw [keep s hs]; exact hx, by rw [h1]; exact hmv, rfl⟩
  · intro v y hy hv w z hz hw
    rw [keep v hv] at hy
    rcases new w z hz with h1 | ⟨_, _, rfl⟩
    · exact h.low v y hy hv w z h1 hw
    · have := hmax v hv y hy
      simp; omega
  · intro v y hy
    rcases new v y hy with h1 | ⟨_, _, rfl⟩
    · exact h.le v y h1
    · simp; omega
  · rw [hlk, if_pos rfl]
    cases hk : lookF kvs u with
    | none => exact ⟨_, rfl, Nat.le_refl _⟩
    | some z =>
      simp only []
      split
      · exact ⟨_, rfl, Nat.le_refl _⟩
      · exact ⟨z, rfl, by simp at *; omega⟩
/-- moves tell of ways: what is reached at a cost is known at no more, or something nearer is not left yet -/
theorem AInv.reach (h : AInv lab arcs tr kvs D) (hc : Clo lab arcs tr kvs D) {l : List MoveD} {u : SpotD} {c : Nat} (hp : Pth lab arcs tr spot0 l u c) :
    (∃ x, lookF kvs u = some x ∧ x.cost ≤ c) ∨ ∃ v y, lookF kvs v = some y ∧ y.fin = false ∧ y.cost ≤ c := by
  induction hp with
  | nil =>
    obtain ⟨z, hz, h0⟩ := h.zero
    exact .inl ⟨z, hz, by omega⟩
  | snoc _ hmv ih =>
    rcases ih with ⟨x, hx, hxc⟩ | ⟨v, y, h1, h2, h3⟩
    · cases hf : x.fin with
      | true =>
        obtain ⟨y, hy, hle⟩ := hc _ ((h.fin _ x hx).1 hf) x hx _ _ _ hmv
        exact .inl ⟨y, hy, by omega⟩
      | false => exact .inr ⟨_, x, hx, hf, by omega⟩
    · exact .inr ⟨v, y, h1, h2, by omega⟩
/-- the way back from a spot -/
theorem AInv.way (h : AInv lab arcs tr kvs D) : ∀ (i : Nat) (s : SpotD) (x : StpD), D[i]? = some s → lookF kvs s = some x → ∃ l, Pth lab arcs tr spot0 l s x.cost := by
  intro i
  induction i using Nat.strongRecOn with
  | _ i ih =>
    intro s x hi hx
    by_cases hs : s = spot0
    · obtain ⟨z, hz, h0⟩ := h.zero
      rw [hs, hz] at hx
      cases hx
      rw [hs, h0]
      exact ⟨[], .nil⟩
    · obtain ⟨b1, b2, y, e, b3, b4, b5⟩ := h.back s x hx hs
      obtain ⟨j, hj, hjd⟩ := b1 i hi
      obtain ⟨l, hl⟩ := ih j hj _ y hjd b3
      exact ⟨l ++ [x.move], by rw [← b5]; exact .snoc hl b4⟩
/-- a way by the moves that are known, to the end -/
structure BackI (lab : List Int) (arcs : List ArcD) (tr : List Int) (kvs : Kvs) (D : List SpotD) (goal : SpotD) (cg : Nat) (at_ : SpotD) (out : List MoveD) : Prop where
  here : at_ ∈ D
  way : ∃ x c, lookF kvs at_ = some x ∧ Pth lab arcs tr at_ out.reverse goal c ∧ x.cost + c = cg
theorem BackI.start {goal : SpotD} {x : StpD} (hg : goal ∈ D) (hx : lookF kvs goal = some x) : BackI lab arcs tr kvs D goal x.cost goal [] := ⟨hg, x, 0, hx, .nil, rfl⟩
theorem BackI.next {goal at_ : SpotD} {cg : Nat} {out : List MoveD} (h : AInv lab arcs tr kvs D) (hb : BackI lab arcs tr kvs D goal cg at_ out) (h0 : at_ ≠ spot0) : ∃ x, lookF kvs at_ = some x ∧ BackI lab arcs tr kvs D goal cg x.src (out ++ [x.move]) ∧ D.idxOf x.src < D.idxOf at_ := by
  obtain ⟨x, c, hx, hp, hc⟩ := hb.way
  obtain ⟨b1, b2, y, e, b3, b4, b5⟩ := h.back _ x hx h0
  refine ⟨x, hx, ⟨b2, y, e + c, b3, ?_, by omega⟩, ?_⟩
  · rw [List.reverse_append, List.reverse_singleton, List.singleton_append]
    exact Pth.cons b4 hp
  · have hi := List.idxOf_lt_length_of_mem hb.here
    obtain ⟨j, hj, hjd⟩ := b1 (D.idxOf at_) (by rw [List.getElem?_eq_getElem hi, List.getElem_idxOf hi])
    have hjl : j < D.length := by omega
    rw [List.getElem?_eq_getElem hjl] at hjd
    have h2 : D.idxOf x.src = j := by
      have := Option.some.inj hjd
      rw [← this]
      exact nodup_at h.dnd _ _ (List.getElem_idxOf (by rw [List.idxOf_lt_length_iff]; exact List.getElem_mem hjl))
    omega
theorem BackI.done {goal : SpotD} {cg : Nat} {out : List MoveD} (h : AInv lab arcs tr kvs D) (hb : BackI lab arcs tr kvs D goal cg spot0 out) : Pth lab arcs tr spot0 out.reverse goal cg := by
  obtain ⟨x, c, hx, hp, hc⟩ := hb.way
  obtain ⟨z, hz, h0⟩ := h.zero
  rw [hz] at hx
  cases hx
  rw [← hc, h0, Nat.zero_add]; exact hp
end
end Go.Tok
