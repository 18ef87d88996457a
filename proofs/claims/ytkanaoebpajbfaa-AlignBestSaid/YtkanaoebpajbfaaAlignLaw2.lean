/- Traces beside nets: a spot that is left tells of all its moves; how many spots there are; what is found at the end. No program is in sight here. -/
import Derived.Test.YtkanaoebpajbfaaAlignLaw
import Derived.Test.YtkanaoebpajbfaaPB
namespace Go.Tok
set_option linter.unusedVariables false
section
variable {lab : List Int} {arcs : List ArcD} {tr : List Int} {kvs : Kvs} {D : List SpotD}
theorem Clo.pop (h : Clo lab arcs tr kvs D) {s : SpotD} {x : StpD} (hx : lookF kvs s = some x) (hs : s ∉ D) : Clo lab arcs tr (setF kvs s { x with fin := true }) D := by
  intro v hv y hy mv u e hm
  have hvs : v ≠ s := fun e => hs (e ▸ hv)
  rw [look_set, if_neg hvs] at hy
  obtain ⟨z, hz, hc⟩ := h v hv y hy mv u e hm
  rw [look_set]
  by_cases hu : u = s
  · rw [if_pos hu, hx]
    rw [hu, hx] at hz
    cases hz
    exact ⟨_, rfl, hc⟩
  · rw [if_neg hu]; exact ⟨z, hz, hc⟩
/-- only spots that can be -/
def OkS (n T : Nat) (kvs : Kvs) : Prop := ∀ s x, lookF kvs s = some x → s.seen ≤ T ∧ s.mark < n
theorem OkS.start {n T : Nat} (hn : 0 < n) : OkS n T [(spot0, stp0)] := fun s x h => by
  have := look_mem h
  simp at this
  rw [this.1]; exact ⟨Nat.zero_le _, hn⟩
theorem OkS.set {n T : Nat} (h : OkS n T kvs) {s : SpotD} {x : StpD} : OkS n T (setF kvs s x) := fun u y hy => by
  rw [look_set] at hy
  by_cases hu : u = s
  · rw [if_pos hu] at hy
    cases hk : lookF kvs s with
    | none => rw [hk] at hy; cases hy
    | some z => rw [hu]; exact h s z hk
  · rw [if_neg hu] at hy; exact h u y hy
theorem OkS.offer {n T : Nat} (h : OkS n T kvs) {s : SpotD} {x : StpD} (hs : s.seen ≤ T ∧ s.mark < n) : OkS n T (offerF kvs s x) := fun u y hy => by
  rw [look_offer] at hy
  by_cases hu : u = s
  · rw [hu]; exact hs
  · rw [if_neg hu] at hy; exact h u y hy
def allSpots (n T : Nat) : List SpotD := (List.range ((T + 1) * n)).map fun i => ⟨i / n, i % n⟩
theorem spot_in {n T : Nat} {s : SpotD} (h : s.seen ≤ T ∧ s.mark < n) : s ∈ allSpots n T := by
  refine List.mem_map.2 ⟨s.seen * n + s.mark, ?_, ?_⟩
  · rw [List.mem_range, Nat.add_mul, Nat.one_mul]
    have := Nat.mul_le_mul_right n h.1
    omega
  · have hn : 0 < n := by omega
    have h1 : (s.seen * n + s.mark) / n = s.seen := by rw [Nat.mul_comm, Nat.mul_add_div hn, Nat.div_eq_of_lt h.2, Nat.add_zero]
    have h2 : (s.seen * n + s.mark) % n = s.mark := by rw [Nat.mul_comm, Nat.mul_add_mod, Nat.mod_eq_of_lt h.2]
    rw [h1, h2]
theorem AInv.few {n T : Nat} (h : AInv lab arcs tr kvs D) (ho : OkS n T kvs) : D.length ≤ (T + 1) * n := by
  have := nodup_sub D (allSpots n T) h.dnd fun s hs => by
    obtain ⟨x, hx⟩ := h.inD s hs
    exact spot_in (ho s x hx)
  simpa [allSpots] using this
theorem AInv.more {n T : Nat} (h : AInv lab arcs tr kvs D) (ho : OkS n T kvs) {s : SpotD} {x : StpD} (hx : lookF kvs s = some x) (hs : s ∉ D) : D.length + 1 ≤ (T + 1) * n := by
  have hn : (D ++ [s]).Nodup := List.nodup_append.2 ⟨h.dnd, by simp, fun a ha b hb e => by
    rw [List.mem_singleton.1 hb] at e
    exact hs (e ▸ ha)⟩
  have := nodup_sub (D ++ [s]) (allSpots n T) hn fun u hu => by
    rcases List.mem_append.1 hu with h1 | h1
    · obtain ⟨y, hy⟩ := h.inD u h1
      exact spot_in (ho u y hy)
    · rw [List.mem_singleton.1 h1]; exact spot_in (ho s x hx)
  simpa [allSpots] using this
/-- spot s is being left: what it has told of, of the arcs ahead of number q -/
structure LeaveI (lab : List Int) (arcs : List ArcD) (tr : List Int) (n : Nat) (kvs : Kvs) (D : List SpotD) (s : SpotD) (x : StpD) (q : Nat) (kv' : Kvs) : Prop where
  inv : AInv lab arcs tr kv' D
  ok : OkS n tr.length kv'
  keep : ∀ v ∈ D, lookF kv' v = lookF kvs v
  old : ∀ v y, lookF kvs v = some y → ∃ y', lookF kv' v = some y' ∧ y'.cost ≤ y.cost
  skip : s.seen < tr.length → ∃ y, lookF kv' ⟨s.seen + 1, s.mark⟩ = some y ∧ y.cost ≤ x.cost + 1
  told : ∀ i, i < q → ∀ t m' : Nat, ix arcs i = ⟨(s.mark : Int), (t : Int), (m' : Int)⟩ → (∃ y, lookF kv' ⟨s.seen, m'⟩ = some y ∧ y.cost ≤ x.cost + one1 (nth lab t)) ∧ (0 < nth lab t → s.seen < tr.length → nth tr s.seen = nth lab t → ∃ y, lookF kv' ⟨s.seen + 1, m'⟩ = some y ∧ y.cost ≤ x.cost)
/-- what is given where a spot is left -/
structure LeaveG (lab : List Int) (arcs : List ArcD) (tr : List Int) (n : Nat) (kvs : Kvs) (D : List SpotD) (s : SpotD) (x : StpD) : Prop where
  look : lookF kvs s = some x
  mem : s ∈ D
  max : ∀ u ∈ D, ∀ y, lookF kvs u = some y → y.cost ≤ x.cost
  le : x.cost + 1 ≤ D.length
variable {n : Nat} {s : SpotD} {x : StpD} {q : Nat} {kv' : Kvs}
theorem LeaveG.offer (g : LeaveG lab arcs tr n kvs D s x) (hi : AInv lab arcs tr kv' D) (hk : ∀ v ∈ D, lookF kv' v = lookF kvs v) {mv : MoveD} {u : SpotD} {e : Nat} (hmv : Mv lab arcs tr s mv u e) :
    AInv lab arcs tr (offerF kv' u ⟨x.cost + e, s, mv, false⟩) D ∧ (∀ v ∈ D, lookF (offerF kv' u ⟨x.cost + e, s, mv, false⟩) v = lookF kv' v) ∧ (∀ v y, lookF kv' v = some y → ∃ y', lookF (offerF kv' u ⟨x.cost + e, s, mv, false⟩) v = some y' ∧ y'.cost ≤ y.cost) ∧
      ∃ y, lookF (offerF kv' u ⟨x.cost + e, s, mv, false⟩) u = some y ∧ y.cost ≤ x.cost + e :=
  hi.offer (s := s) (x := x) (by rw [hk s g.mem]; exact g.look) g.mem (fun v hv y hy => g.max v hv y (by rw [← hk v hv]; exact hy)) g.le hmv
theorem LeaveI.start (g : LeaveG lab arcs tr n kvs D s x) (hi : AInv lab arcs tr kvs D) (ho : OkS n tr.length kvs) (h : ¬ s.seen < tr.length) : LeaveI lab arcs tr n kvs D s x 0 kvs :=
  ⟨hi, ho, fun _ _ => rfl, fun v y hy => ⟨y, hy, Nat.le_refl _⟩, fun h' => absurd h' h, fun i hi => by omega⟩
theorem LeaveI.start1 (g : LeaveG lab arcs tr n kvs D s x) (hi : AInv lab arcs tr kvs D) (ho : OkS n tr.length kvs) (h : s.seen < tr.length) :
    LeaveI lab arcs tr n kvs D s x 0 (offerF kvs ⟨s.seen + 1, s.mark⟩ ⟨x.cost + 1, s, ⟨2, nth tr s.seen, 0⟩, false⟩) := by
  obtain ⟨h1, h2, h3, h4⟩ := g.offer hi (fun _ _ => rfl) (Mv.skip (lab := lab) (arcs := arcs) (m := s.mark) h)
  have := ho s x g.look
  exact ⟨h1, ho.offer ⟨by simp; omega, this.2⟩, h2, h3, fun _ => h4, fun i hi => by omega⟩
/-- an arc that begins elsewhere -/
theorem LeaveI.no (h : LeaveI lab arcs tr n kvs D s x q kv') (hne : (ix arcs q).src ≠ (s.mark : Int)) : LeaveI lab arcs tr n kvs D s x (q + 1) kv' :=
  ⟨h.inv, h.ok, h.keep, h.old, h.skip, fun i hi t m' hix => by
    by_cases e : i = q
    · subst e
      rw [hix] at hne
      exact absurd rfl hne
    · exact h.told i (by omega) t m' hix⟩
theorem mono_told {kv1 kv2 : Kvs} {u : SpotD} {c : Nat} (ho : ∀ v y, lookF kv1 v = some y → ∃ y', lookF kv2 v = some y' ∧ y'.cost ≤ y.cost) (h : ∃ y, lookF kv1 u = some y ∧ y.cost ≤ c) : ∃ y, lookF kv2 u = some y ∧ y.cost ≤ c := by
  obtain ⟨y, hy, hc⟩ := h
  obtain ⟨y', h1, h2⟩ := ho u y hy
  exact ⟨y', h1, by omega⟩
theorem LeaveI.more {kv2 : Kvs} (h : LeaveI lab arcs tr n kvs D s x q kv') (hi : AInv lab arcs tr kv2 D) (ho : OkS n tr.length kv2) (hk : ∀ v ∈ D, lookF kv2 v = lookF kv' v) (hm : ∀ v y, lookF kv' v = some y → ∃ y', lookF kv2 v = some y' ∧ y'.cost ≤ y.cost) : LeaveI lab arcs tr n kvs D s x q kv2 :=
  ⟨hi, ho, fun v hv => (hk v hv).trans (h.keep v hv), fun v y hy => by
    obtain ⟨y', h1, h2⟩ := h.old v y hy
    obtain ⟨y2, h3, h4⟩ := hm v y' h1
    exact ⟨y2, h3, by omega⟩, fun hs => mono_told hm (h.skip hs), fun i hi t m' hix => by
    obtain ⟨h1, h2⟩ := h.told i hi t m' hix
    exact ⟨mono_told hm h1, fun a b c => mono_told hm (h2 a b c)⟩⟩
/-- an arc that begins here, its letter not the trace's -/
theorem LeaveI.net (g : LeaveG lab arcs tr n kvs D s x) (h : LeaveI lab arcs tr n kvs D s x q kv') {t m' : Nat} (hq : q < arcs.length) (hix : ix arcs q = ⟨(s.mark : Int), (t : Int), (m' : Int)⟩) (hm' : m' < n) :
    LeaveI lab arcs tr n kvs D s x q (offerF kv' ⟨s.seen, m'⟩ ⟨x.cost + one1 (nth lab t), s, ⟨3, nth lab t, (t : Int)⟩, false⟩) ∧ ∃ y, lookF (offerF kv' ⟨s.seen, m'⟩ ⟨x.cost + one1 (nth lab t), s, ⟨3, nth lab t, (t : Int)⟩, false⟩) ⟨s.seen, m'⟩ = some y ∧ y.cost ≤ x.cost + one1 (nth lab t) := by
  have ha : (⟨(s.mark : Int), (t : Int), (m' : Int)⟩ : ArcD) ∈ arcs := by rw [← hix]; exact ix_mem hq
  obtain ⟨h1, h2, h3, h4⟩ := g.offer h.inv h.keep (Mv.net (tr := tr) (k := s.seen) ha)
  have hs := h.ok s x (by rw [h.keep s g.mem]; exact g.look)
  exact ⟨h.more h1 (h.ok.offer ⟨hs.1, hm'⟩) h2 h3, h4⟩
theorem LeaveI.both (g : LeaveG lab arcs tr n kvs D s x) (h : LeaveI lab arcs tr n kvs D s x q kv') {t m' : Nat} (hq : q < arcs.length) (hix : ix arcs q = ⟨(s.mark : Int), (t : Int), (m' : Int)⟩) (hm' : m' < n) (h1 : 0 < nth lab t) (h2 : s.seen < tr.length) (h3 : nth tr s.seen = nth lab t) :
    LeaveI lab arcs tr n kvs D s x q (offerF kv' ⟨s.seen + 1, m'⟩ ⟨x.cost, s, ⟨1, nth lab t, (t : Int)⟩, false⟩) ∧ (∃ y, lookF (offerF kv' ⟨s.seen + 1, m'⟩ ⟨x.cost, s, ⟨1, nth lab t, (t : Int)⟩, false⟩) ⟨s.seen + 1, m'⟩ = some y ∧ y.cost ≤ x.cost) ∧
      ∀ v y, lookF kv' v = some y → ∃ y', lookF (offerF kv' ⟨s.seen + 1, m'⟩ ⟨x.cost, s, ⟨1, nth lab t, (t : Int)⟩, false⟩) v = some y' ∧ y'.cost ≤ y.cost := by
  have ha : (⟨(s.mark : Int), (t : Int), (m' : Int)⟩ : ArcD) ∈ arcs := by rw [← hix]; exact ix_mem hq
  obtain ⟨h4, h5, h6, h7⟩ := g.offer h.inv h.keep (Mv.both ha h1 h2 h3)
  exact ⟨h.more h4 (h.ok.offer ⟨by simp; omega, hm'⟩) h5 h6, h7, h6⟩
theorem LeaveI.succ (h : LeaveI lab arcs tr n kvs D s x q kv') {t m' : Nat} (hix : ix arcs q = ⟨(s.mark : Int), (t : Int), (m' : Int)⟩) (h1 : ∃ y, lookF kv' ⟨s.seen, m'⟩ = some y ∧ y.cost ≤ x.cost + one1 (nth lab t))
    (h2 : 0 < nth lab t → s.seen < tr.length → nth tr s.seen = nth lab t → ∃ y, lookF kv' ⟨s.seen + 1, m'⟩ = some y ∧ y.cost ≤ x.cost) : LeaveI lab arcs tr n kvs D s x (q + 1) kv' :=
  ⟨h.inv, h.ok, h.keep, h.old, h.skip, fun i hi t1 m1 hix1 => by
    by_cases e : i = q
    · subst e
      rw [hix] at hix1
      have e1 : t = t1 := by have := congrArg ArcD.tran hix1; simp at this; omega
      have e2 : m' = m1 := by have := congrArg ArcD.dst hix1; simp at this; omega
      subst e1 e2
      exact ⟨h1, h2⟩
    · exact h.told i (by omega) t1 m1 hix1⟩
theorem arc_at {arcs : List ArcD} {a : ArcD} (h : a ∈ arcs) : ∃ i, i < arcs.length ∧ ix arcs i = a := by
  obtain ⟨i, hi, rfl⟩ := List.getElem_of_mem h
  exact ⟨i, hi, ix_lt hi⟩
/-- all has been told -/
theorem LeaveI.done (g : LeaveG lab arcs tr n kvs D s x) (h : LeaveI lab arcs tr n kvs D s x arcs.length kv') (hc : ∀ D0, D = D0 ++ [s] → Clo lab arcs tr kvs D0) {D0 : List SpotD} (hD : D = D0 ++ [s]) : Clo lab arcs tr kv' D := by
  intro v hv y hy mv u e hm
  rw [h.keep v hv] at hy
  by_cases hvs : v = s
  · subst hvs
    rw [g.look] at hy
    cases hy
    cases hm with
    | skip hk => exact h.skip hk
    | net ha =>
      obtain ⟨i, hi, hix⟩ := arc_at ha
      exact (h.told i hi _ _ hix).1
    | both ha h1 h2 h3 =>
      obtain ⟨i, hi, hix⟩ := arc_at ha
      exact (h.told i hi _ _ hix).2 h1 h2 h3
  · have hv0 : v ∈ D0 := by
      rw [hD, List.mem_append, List.mem_singleton] at hv
      exact hv.resolve_right hvs
    obtain ⟨z, hz, hcz⟩ := hc D0 hD v hv0 y hy mv u e hm
    exact mono_told h.old ⟨z, hz, hcz⟩
end
/-- the least that it costs to come to a spot -/
def Least1 (lab : List Int) (arcs : List ArcD) (tr : List Int) (goal : SpotD) (c : Nat) : Prop := ∀ l c', Pth lab arcs tr spot0 l goal c' → c ≤ c'
section
variable {lab : List Int} {arcs : List ArcD} {tr : List Int} {kvs : Kvs} {D : List SpotD}
theorem AInv.least (h : AInv lab arcs tr kvs D) (hc : Clo lab arcs tr kvs D) {goal : SpotD} {x : StpD} (hx : lookF kvs goal = some x) (hm : ∀ u y, lookF kvs u = some y → y.fin = false → x.cost ≤ y.cost) : Least1 lab arcs tr goal x.cost := by
  intro l c' hp
  rcases h.reach hc hp with ⟨y, hy, hle⟩ | ⟨v, y, h1, h2, h3⟩
  · rw [hx] at hy
    cases hy
    exact hle
  · exact Nat.le_trans (hm v y h1 h2) h3
theorem AInv.none (h : AInv lab arcs tr kvs D) (hc : Clo lab arcs tr kvs D) {goal : SpotD} (hg : goal ∉ D) (hf : ∀ u y, lookF kvs u = some y → y.fin = true) : ∀ l c, ¬ Pth lab arcs tr spot0 l goal c := by
  intro l c hp
  rcases h.reach hc hp with ⟨y, hy, _⟩ | ⟨v, y, h1, h2, _⟩
  · exact hg ((h.fin _ y hy).1 (hf _ y hy))
  · rw [hf v y h1] at h2; cases h2
end
end Go.Tok
namespace Go.Tok
section
variable {lab : List Int} {arcs : List ArcD} {tr : List Int} {kvs : Kvs} {D : List SpotD}
/-- the nearest one, once it is left, may tell of its moves -/
theorem AInv.leaveG (h : AInv lab arcs tr kvs D) (n : Nat) {s : SpotD} {x : StpD} (hx : lookF kvs s = some x) (hf : x.fin = false) : LeaveG lab arcs tr n (setF kvs s { x with fin := true }) (D ++ [s]) s { x with fin := true } := by
  have hs := h.not_in hx hf
  refine ⟨by rw [look_set, if_pos rfl, hx]; rfl, by simp, fun u hu y hy => ?_, ?_⟩
  · rw [look_set] at hy
    by_cases hus : u = s
    · rw [if_pos hus, hx] at hy
      cases hy
      exact Nat.le_refl _
    · rw [if_neg hus] at hy
      have hD : u ∈ D := by
        rw [List.mem_append, List.mem_singleton] at hu
        exact hu.resolve_right hus
      exact h.low u y hy hD s x hx hs
  · have := h.le s x hx
    simp; omega
theorem AInv.zero_look (h : AInv lab arcs tr kvs D) : ∃ z, lookF kvs spot0 = some z := by
  obtain ⟨z, hz, _⟩ := h.zero
  exact ⟨z, hz⟩
end
end Go.Tok
