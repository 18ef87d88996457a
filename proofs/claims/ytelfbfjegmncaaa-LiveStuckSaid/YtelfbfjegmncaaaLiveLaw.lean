/- What is live, dead, stuck, home in a space, as plain functions on lists. No program is in sight here. -/
import Derived.Test.YtelfbfjegmncaaaReachLaw
namespace Go.Tok
set_option linter.unusedVariables false

/-! ### links -/
abbrev Edges := List (Int × Int)
def edgesF (arcs : List ArcD) (back : Bool) : Edges := arcs.map fun a => if back then (a.dst, a.src) else (a.src, a.dst)
def linkRow (es : Edges) (k : Nat) : List Int := (es.filter fun e => decide (e.1 = (k : Int))).map (·.2)
def linksF (n : Nat) (es : Edges) : List (List Int) := (List.range n).map fun k => linkRow es k
theorem linksF_len (n : Nat) (es : Edges) : (linksF n es).length = n := by simp [linksF]
theorem linksF_ix {n : Nat} (es : Edges) {k : Nat} (h : k < n) : ix (linksF n es) k = linkRow es k := by
  rw [ix_lt (by rw [linksF_len]; exact h)]; simp [linksF]
theorem linkRow_mem {es : Edges} {k : Nat} {t : Int} : t ∈ linkRow es k ↔ ((k : Int), t) ∈ es := by
  unfold linkRow
  rw [List.mem_map]
  constructor
  · rintro ⟨⟨a, b⟩, h, rfl⟩
    rw [List.mem_filter] at h
    obtain ⟨h1, h2⟩ := h
    have : a = (k : Int) := by simpa using h2
    subst this; exact h1
  · intro h
    exact ⟨_, List.mem_filter.2 ⟨h, by simp⟩, rfl⟩
theorem linksF_nil (n : Nat) : linksF n [] = List.replicate n [] := by
  apply List.ext_getElem <;> simp [linksF, linkRow]
theorem linksF_snoc (n : Nat) (es : Edges) {f : Nat} (t : Int) (h : f < n) : linksF n (es ++ [((f : Int), t)]) = (linksF n es).set f (linkRow es f ++ [t]) := by
  apply List.ext_getElem
  · simp [linksF]
  · intro i h1 h2
    rw [List.getElem_set]
    simp only [linksF, List.getElem_map, List.getElem_range]
    unfold linkRow
    rw [List.filter_append]
    by_cases hi : f = i
    · subst hi; simp
    · rw [if_neg hi]
      have : decide ((f : Int) = (i : Int)) = false := by simp; omega
      simp [this]

/-! ### whatever links lead to -/
inductive Rch (L : List (List Int)) : Nat → Nat → Prop
  | refl (k : Nat) : Rch L k k
  | step {i j k : Nat} (h : Rch L i j) (hk : (k : Int) ∈ ix L j) : Rch L i k
theorem Rch.trans {L : List (List Int)} {i j k : Nat} (h : Rch L i j) (h' : Rch L j k) : Rch L i k := by
  induction h' with
  | refl => exact h
  | step _ hk ih => exact .step ih hk

def todoW (L : List (List Int)) (inn : List Bool) : Nat := ((List.range L.length).map fun k => if ix inn k then 0 else (ix L k).length + 1).sum
/-- the search: the last one of those that wait is the next one -/
def spreadL (L : List (List Int)) : Nat → List Bool → List Int → List Bool
  | 0, inn, _ => inn
  | f + 1, inn, T =>
    match T.getLast? with
    | none => inn
    | some k => if ix inn k.toNat then spreadL L f inn T.dropLast else spreadL L f (inn.set k.toNat true) (T.dropLast ++ ix L k.toNat)
def spreadF (L : List (List Int)) (from_ : List Int) : List Bool := spreadL L (todoW L (List.replicate L.length false) + from_.length + 1) (List.replicate L.length false) from_

theorem sum_map_set {L : List (List Int)} {inn : List Bool} {k : Nat} (hk : k < L.length) (hl : inn.length = L.length) (hn : ix inn k = false) : todoW L (inn.set k true) + (ix L k).length + 1 = todoW L inn := by
  unfold todoW
  have key : ∀ n, n ≤ L.length → ((List.range n).map fun j => if ix (inn.set k true) j then 0 else (ix L j).length + 1).sum + (if k < n then (ix L k).length + 1 else 0) = ((List.range n).map fun j => if ix inn j then 0 else (ix L j).length + 1).sum := by
    intro n
    induction n with
    | zero => intro _; simp
    | succ n ih =>
      intro h
      have ih := ih (by omega)
      rw [List.range_succ, List.map_append, List.sum_append, List.map_append, List.sum_append]
      simp only [List.map_cons, List.map_nil, List.sum_cons, List.sum_nil]
      by_cases hkn : k = n
      · subst hkn
        have e1 : ix (inn.set k true) k = true := by rw [ix_lt (by simp; omega)]; simp
        have a1 : (if k < k then (ix L k).length + 1 else 0) = 0 := if_neg (by omega)
        have a2 : (if k < k + 1 then (ix L k).length + 1 else 0) = (ix L k).length + 1 := if_pos (by omega)
        have a3 : (if ix (inn.set k true) k = true then 0 else (ix L k).length + 1) = 0 := if_pos e1
        have a4 : (if ix inn k = true then 0 else (ix L k).length + 1) = (ix L k).length + 1 := if_neg (by rw [hn]; decide)
        rw [a2, a3, a4]
        rw [a1] at ih
        omega
      · have e1 : ix (inn.set k true) n = ix inn n := by
          rw [ix_lt (by simp; omega), ix_lt (by omega), List.getElem_set_ne (by omega)]
        rw [e1]
        by_cases h2 : k < n
        · have a1 : (if k < n then (ix L k).length + 1 else 0) = (ix L k).length + 1 := if_pos h2
          have a2 : (if k < n + 1 then (ix L k).length + 1 else 0) = (ix L k).length + 1 := if_pos (by omega)
          rw [a2]
          rw [a1] at ih
          omega
        · have a1 : (if k < n then (ix L k).length + 1 else 0) = 0 := if_neg h2
          have a2 : (if k < n + 1 then (ix L k).length + 1 else 0) = 0 := if_neg (by omega)
          rw [a2]
          rw [a1] at ih
          omega
  have := key L.length (Nat.le_refl _)
  rw [if_pos hk] at this
  omega

/-- while it goes on -/
structure Spr (L : List (List Int)) (from_ : List Int) (inn : List Bool) (T : List Int) : Prop where
  len : inn.length = L.length
  todo : ∀ t ∈ T, ∃ k : Nat, t = k ∧ k < L.length ∧ ∃ f : Nat, (f : Int) ∈ from_ ∧ Rch L f k
  marked : ∀ k, k < L.length → ix inn k = true → ∃ f : Nat, (f : Int) ∈ from_ ∧ Rch L f k
  start : ∀ f ∈ from_, ix inn f.toNat = true ∨ f ∈ T
  closed : ∀ k, k < L.length → ix inn k = true → ∀ t ∈ ix L k, ix inn t.toNat = true ∨ t ∈ T
/-- links lead to marks -/
def LinksOk (L : List (List Int)) : Prop := ∀ k, k < L.length → ∀ t ∈ ix L k, ∃ j : Nat, t = j ∧ j < L.length
theorem Spr.zero {L : List (List Int)} {from_ : List Int} (h : ∀ f ∈ from_, ∃ k : Nat, f = k ∧ k < L.length) : Spr L from_ (List.replicate L.length false) from_ := by
  have hf : ∀ k, ix (List.replicate L.length false) k = false := fun k => by
    by_cases hk : k < L.length
    · rw [ix_lt (by simpa using hk)]; simp
    · rw [ix_ge (by simpa using hk)]; rfl
  refine ⟨by simp, fun t ht => ?_, fun k _ hk => ?_, fun f hf => .inr hf, fun k _ hk => ?_⟩
  · obtain ⟨k, rfl, hk⟩ := h t ht
    exact ⟨k, rfl, hk, k, ht, .refl k⟩
  · rw [hf] at hk; cases hk
  · rw [hf] at hk; cases hk
theorem ix_set_self {inn : List Bool} {k : Nat} (h : k < inn.length) (b : Bool) : ix (inn.set k b) k = b := by rw [ix_lt (by simpa using h)]; simp
theorem ix_set_ne {inn : List Bool} {k j : Nat} (h : k ≠ j) (b : Bool) : ix (inn.set k b) j = ix inn j := by
  by_cases hj : j < inn.length
  · rw [ix_lt (by simpa using hj), ix_lt hj, List.getElem_set_ne h]
  · rw [ix_ge (by simpa using hj), ix_ge (by omega)]
theorem Spr.pop {L : List (List Int)} {from_ T : List Int} {inn : List Bool} {k : Nat} (h : Spr L from_ inn (T ++ [(k : Int)])) (hk : ix inn k = true) : Spr L from_ inn T := by
  refine ⟨h.len, fun t ht => h.todo t (List.mem_append_left _ ht), h.marked, fun f hf => ?_, fun j hj hij t ht => ?_⟩
  · rcases h.start f hf with h1 | h1
    · exact .inl h1
    · rcases List.mem_append.1 h1 with h1 | h1
      · exact .inr h1
      · rw [List.mem_singleton.1 h1]; exact .inl hk
  · rcases h.closed j hj hij t ht with h1 | h1
    · exact .inl h1
    · rcases List.mem_append.1 h1 with h1 | h1
      · exact .inr h1
      · rw [List.mem_singleton.1 h1]; exact .inl hk
theorem Spr.push {L : List (List Int)} {from_ T : List Int} {inn : List Bool} {k : Nat} (hL : LinksOk L) (h : Spr L from_ inn (T ++ [(k : Int)])) (hkl : k < L.length) : Spr L from_ (inn.set k true) (T ++ ix L k) := by
  obtain ⟨k', hk', _, f0, hf0, hr⟩ := h.todo (k : Int) (by simp)
  have : k = k' := by omega
  subst this
  have hlen : k < inn.length := by rw [h.len]; exact hkl
  have hset : ∀ j, ix inn j = true → ix (inn.set k true) j = true := fun j hj => by
    by_cases e : k = j
    · subst e; exact ix_set_self hlen true
    · rw [ix_set_ne e]; exact hj
  have hmem : ∀ t, (ix inn t.toNat = true ∨ t ∈ T ++ [(k : Int)]) → ix (inn.set k true) t.toNat = true ∨ t ∈ T ++ ix L k := by
    intro t ht
    rcases ht with h1 | h1
    · exact .inl (hset _ h1)
    · rcases List.mem_append.1 h1 with h1 | h1
      · exact .inr (List.mem_append_left _ h1)
      · rw [List.mem_singleton.1 h1, Int.toNat_natCast]; exact .inl (ix_set_self hlen true)
  refine ⟨by simpa using h.len, fun t ht => ?_, fun j hj hij => ?_, fun f hf => hmem f (h.start f hf), fun j hj hij t ht => ?_⟩
  · rcases List.mem_append.1 ht with h1 | h1
    · exact h.todo t (List.mem_append_left _ h1)
    · obtain ⟨j, rfl, hj⟩ := hL k hkl t h1
      exact ⟨j, rfl, hj, f0, hf0, .step hr h1⟩
  · by_cases e : k = j
    · subst e; exact ⟨f0, hf0, hr⟩
    · rw [ix_set_ne e] at hij; exact h.marked j hj hij
  · by_cases e : k = j
    · subst e; exact .inr (List.mem_append_right _ ht)
    · rw [ix_set_ne e] at hij; exact hmem t (h.closed j hj hij t ht)
theorem Spr.done {L : List (List Int)} {from_ : List Int} {inn : List Bool} (h : Spr L from_ inn []) {k : Nat} (hk : k < L.length) : ix inn k = true ↔ ∃ f : Nat, (f : Int) ∈ from_ ∧ Rch L f k := by
  refine ⟨h.marked k hk, ?_⟩
  rintro ⟨f, hf, hr⟩
  have h0 : ix inn f = true := by
    rcases h.start _ hf with h1 | h1
    · simpa using h1
    · simp at h1
  clear hf hk
  induction hr with
  | refl => exact h0
  | @step j k hr' hk' ih =>
    have hj := ih
    have hjl : j < L.length := by
      rcases Nat.lt_or_ge j L.length with h1 | h1
      · exact h1
      · rw [ix_ge (by rw [h.len]; exact h1)] at hj; cases hj
    rcases h.closed j hjl hj _ hk' with h1 | h1
    · simpa using h1
    · simp at h1
theorem spreadL_spec {L : List (List Int)} {from_ : List Int} (hL : LinksOk L) : ∀ (f : Nat) (inn : List Bool) (T : List Int), Spr L from_ inn T → todoW L inn + T.length < f → Spr L from_ (spreadL L f inn T) [] := by
  intro f
  induction f with
  | zero => intro inn T _ h; omega
  | succ f ih =>
    intro inn T h hf
    rcases List.eq_nil_or_concat T with rfl | ⟨T', t, rfl⟩
    · simp only [spreadL, List.getLast?_nil]; exact h
    · rw [List.concat_eq_append] at h hf ⊢
      obtain ⟨k, rfl, hk, _⟩ := h.todo t (by simp)
      simp only [spreadL, List.getLast?_append, List.getLast?_singleton, Option.some_or, Int.toNat_natCast, List.dropLast_concat]
      rw [List.length_append, List.length_singleton] at hf
      cases hi : ix inn k
      · rw [if_neg (by decide)]
        have := sum_map_set hk h.len hi
        exact ih _ _ (h.push hL hk) (by rw [List.length_append]; omega)
      · rw [if_pos rfl]
        exact ih _ _ (h.pop hi) (by omega)
theorem spreadF_len {L : List (List Int)} {from_ : List Int} (hL : LinksOk L) (h : ∀ f ∈ from_, ∃ k : Nat, f = k ∧ k < L.length) : (spreadF L from_).length = L.length :=
  (spreadL_spec hL _ _ _ (Spr.zero h) (by omega)).len
theorem spreadF_iff {L : List (List Int)} {from_ : List Int} (hL : LinksOk L) (h : ∀ f ∈ from_, ∃ k : Nat, f = k ∧ k < L.length) {k : Nat} (hk : k < L.length) : ix (spreadF L from_) k = true ↔ ∃ f : Nat, (f : Int) ∈ from_ ∧ Rch L f k :=
  (spreadL_spec hL _ _ _ (Spr.zero h) (by omega)).done hk
theorem spread_nil {L : List (List Int)} {f : Nat} {inn : List Bool} : spreadL L f inn [] = inn := by cases f <;> rfl
theorem spread_in {L : List (List Int)} {f : Nat} {inn : List Bool} {T : List Int} {k : Nat} (h : ix inn k = true) : spreadL L (f + 1) inn (T ++ [(k : Int)]) = spreadL L f inn T := by
  simp only [spreadL, List.getLast?_append, List.getLast?_singleton, Option.some_or, Int.toNat_natCast, List.dropLast_concat]
  rw [if_pos h]
theorem spread_out {L : List (List Int)} {f : Nat} {inn : List Bool} {T : List Int} {k : Nat} (h : ix inn k = false) : spreadL L (f + 1) inn (T ++ [(k : Int)]) = spreadL L f (inn.set k true) (T ++ ix L k) := by
  simp only [spreadL, List.getLast?_append, List.getLast?_singleton, Option.some_or, Int.toNat_natCast, List.dropLast_concat]
  rw [if_neg (by rw [h]; decide)]

/-! ### right spaces; what is live, dead, stuck, home -/
def arcBad (n : Nat) (a : ArcD) : Bool := decide (a.src < 0) || decide (a.dst < 0) || decide ((n : Int) ≤ a.src) || decide ((n : Int) ≤ a.dst)
def sRightB (S : SpaceD) : Bool := !(S.arcs.any (arcBad S.marks.length))
theorem sRight_arc {S : SpaceD} (h : sRightB S = true) {a : ArcD} (ha : a ∈ S.arcs) : ∃ i j : Nat, a.src = i ∧ a.dst = j ∧ i < S.marks.length ∧ j < S.marks.length := by
  unfold sRightB at h
  rw [Bool.not_eq_true', List.any_eq_false] at h
  have := h a ha
  unfold arcBad at this
  simp at this
  exact ⟨a.src.toNat, a.dst.toNat, by omega, by omega, by omega, by omega⟩
def backL (S : SpaceD) : List (List Int) := linksF S.marks.length (edgesF S.arcs true)
def allIn (bs : List Bool) : Bool := !(bs.contains false)
def froms (S : SpaceD) (t : Int) : List Int := (S.arcs.filter fun a => decide (a.tran = t)).map (·.src)
def upTo (trans : Int) : Nat := (min trans 24).toNat
def liveF (S : SpaceD) (trans : Int) : List Int := if sRightB S then ((List.range (upTo trans)).filter fun (t : Nat) => allIn (spreadF (backL S) (froms S (t : Int)))).map Int.ofNat else []
def deadF (S : SpaceD) (trans : Int) : List Int := ((List.range (upTo trans)).filter fun (t : Nat) => !(S.arcs.any fun a => decide (a.tran = (t : Int)))).map Int.ofNat
def homeF (S : SpaceD) : List Int := if sRightB S then ((List.range S.marks.length).filter fun (k : Nat) => allIn (spreadF (backL S) [(k : Int)])).map Int.ofNat else []
def srcOk (n : Nat) (a : ArcD) : Bool := decide (0 ≤ a.src) && decide (a.src < (n : Int))
def onL (S : SpaceD) : List (List Int) := linksF S.marks.length (edgesF (S.arcs.filter (srcOk S.marks.length)) false)
def stuckF (S : SpaceD) : List Int := ((List.range S.marks.length).filter fun k => (ix (onL S) k).isEmpty).map Int.ofNat
theorem back_len (S : SpaceD) : (backL S).length = S.marks.length := linksF_len _ _
theorem mem_edges {arcs : List ArcD} {f t : Int} : (f, t) ∈ edgesF arcs true ↔ ∃ a ∈ arcs, a.dst = f ∧ a.src = t := by
  unfold edgesF
  rw [List.mem_map]
  constructor
  · rintro ⟨a, ha, h⟩; simp at h; exact ⟨a, ha, h.1, h.2⟩
  · rintro ⟨a, ha, h1, h2⟩; exact ⟨a, ha, by simp [h1, h2]⟩
theorem back_mem {S : SpaceD} {j : Nat} (hj : j < S.marks.length) {t : Int} : t ∈ ix (backL S) j ↔ ∃ a ∈ S.arcs, a.dst = j ∧ a.src = t := by
  unfold backL
  rw [linksF_ix _ hj, linkRow_mem, mem_edges]
theorem back_ok {S : SpaceD} (h : sRightB S = true) : LinksOk (backL S) := by
  intro k hk t ht
  rw [back_len] at hk
  obtain ⟨a, ha, h1, h2⟩ := (back_mem hk).1 ht
  obtain ⟨i, j, h3, h4, h5, h6⟩ := sRight_arc h ha
  exact ⟨i, by omega, by rw [back_len]; exact h5⟩
theorem froms_ok {S : SpaceD} (h : sRightB S = true) (t : Int) : ∀ f ∈ froms S t, ∃ k : Nat, f = k ∧ k < (backL S).length := by
  intro f hf
  unfold froms at hf
  obtain ⟨a, ha, rfl⟩ := List.mem_map.1 hf
  obtain ⟨i, j, h3, h4, h5, h6⟩ := sRight_arc h (List.mem_filter.1 ha).1
  exact ⟨i, h3, by rw [back_len]; exact h5⟩
/-- from i one comes to j, by arcs -/
inductive Goes (S : SpaceD) : Nat → Nat → Prop
  | refl (k : Nat) : Goes S k k
  | step {i j k : Nat} {a : ArcD} (ha : a ∈ S.arcs) (h1 : a.src = i) (h2 : a.dst = j) (h : Goes S j k) : Goes S i k
theorem rch_goes {S : SpaceD} (h : sRightB S = true) {i j : Nat} (hi : i < S.marks.length) (hr : Rch (backL S) i j) : Goes S j i ∧ j < S.marks.length := by
  induction hr with
  | refl => exact ⟨.refl _, hi⟩
  | @step j k hr hk ih =>
    obtain ⟨g, hj⟩ := ih
    obtain ⟨a, ha, h1, h2⟩ := (back_mem hj).1 hk
    obtain ⟨i', j', h3, h4, h5, h6⟩ := sRight_arc h ha
    exact ⟨.step ha h2 h1 g, by omega⟩
theorem goes_rch {S : SpaceD} (h : sRightB S = true) {i j : Nat} (hg : Goes S j i) : i < S.marks.length → Rch (backL S) i j ∧ j < S.marks.length := by
  induction hg with
  | refl => exact fun hi => ⟨.refl _, hi⟩
  | @step i j k a ha h1 h2 _ ih =>
    intro hk
    obtain ⟨hr, hj⟩ := ih hk
    obtain ⟨i', j', h3, h4, h5, h6⟩ := sRight_arc h ha
    exact ⟨.step hr ((back_mem hj).2 ⟨a, ha, h2, h1⟩), by omega⟩
theorem allIn_iff {bs : List Bool} : allIn bs = true ↔ ∀ k, k < bs.length → ix bs k = true := by
  unfold allIn
  rw [Bool.not_eq_true']
  constructor
  · intro h k hk
    cases hb : ix bs k
    · exact absurd (List.contains_iff_mem.2 (hb ▸ ix_mem hk)) (by rw [h]; decide)
    · rfl
  · intro h
    rw [Bool.eq_false_iff]
    intro hc
    obtain ⟨k, hk, he⟩ := List.getElem_of_mem (List.contains_iff_mem.1 hc)
    have := h k hk
    rw [ix_lt hk, he] at this
    cases this
/-- live: from every mark one comes to where it fires -/
theorem live_iff {S : SpaceD} (h : sRightB S = true) {t : Nat} : allIn (spreadF (backL S) (froms S t)) = true ↔ ∀ k, k < S.marks.length → ∃ a ∈ S.arcs, a.tran = t ∧ ∃ f : Nat, a.src = f ∧ Goes S k f := by
  rw [allIn_iff, spreadF_len (back_ok h) (froms_ok h _), back_len]
  constructor
  · intro ha k hk
    obtain ⟨f, hf, hr⟩ := (spreadF_iff (back_ok h) (froms_ok h _) (by rw [back_len]; exact hk)).1 (ha k hk)
    obtain ⟨f', h1, h2⟩ := froms_ok h _ _ hf
    have : f = f' := by omega
    subst this
    rw [back_len] at h2
    unfold froms at hf
    obtain ⟨a, h3, h4⟩ := List.mem_map.1 hf
    obtain ⟨h5, h6⟩ := List.mem_filter.1 h3
    exact ⟨a, h5, by simpa using h6, f, h4, (rch_goes h h2 hr).1⟩
  · intro ha k hk
    obtain ⟨a, h1, h2, f, h3, h4⟩ := ha k hk
    obtain ⟨i, j, h5, h6, h7, h8⟩ := sRight_arc h h1
    have : f = i := by omega
    subst this
    refine (spreadF_iff (back_ok h) (froms_ok h _) (by rw [back_len]; exact hk)).2 ⟨f, ?_, (goes_rch h h4 h7).1⟩
    unfold froms
    exact List.mem_map.2 ⟨a, List.mem_filter.2 ⟨h1, by simpa using h2⟩, h3⟩
theorem home_iff {S : SpaceD} (h : sRightB S = true) {i : Nat} (hi : i < S.marks.length) : allIn (spreadF (backL S) [(i : Int)]) = true ↔ ∀ k, k < S.marks.length → Goes S k i := by
  have h1 : ∀ f ∈ [(i : Int)], ∃ k : Nat, f = k ∧ k < (backL S).length := by
    intro f hf; rw [List.mem_singleton.1 hf]; exact ⟨i, rfl, by rw [back_len]; exact hi⟩
  rw [allIn_iff, spreadF_len (back_ok h) h1, back_len]
  constructor
  · intro ha k hk
    obtain ⟨f, hf, hr⟩ := (spreadF_iff (back_ok h) h1 (by rw [back_len]; exact hk)).1 (ha k hk)
    have : f = i := by simp at hf; omega
    subst this
    exact (rch_goes h hi hr).1
  · intro ha k hk
    exact (spreadF_iff (back_ok h) h1 (by rw [back_len]; exact hk)).2 ⟨i, by simp, (goes_rch h (ha k hk) hi).1⟩
theorem mem_range_map {n : Nat} {p : Nat → Bool} {x : Int} : x ∈ ((List.range n).filter p).map Int.ofNat ↔ ∃ k : Nat, x = k ∧ k < n ∧ p k = true := by
  rw [List.mem_map]
  constructor
  · rintro ⟨k, h, rfl⟩; rw [List.mem_filter, List.mem_range] at h; exact ⟨k, rfl, h.1, h.2⟩
  · rintro ⟨k, rfl, h1, h2⟩; exact ⟨k, List.mem_filter.2 ⟨List.mem_range.2 h1, h2⟩, rfl⟩
theorem mem_live {S : SpaceD} {trans t : Int} : t ∈ liveF S trans ↔ sRightB S = true ∧ ∃ k : Nat, t = k ∧ k < upTo trans ∧ ∀ j, j < S.marks.length → ∃ a ∈ S.arcs, a.tran = k ∧ ∃ f : Nat, a.src = f ∧ Goes S j f := by
  unfold liveF
  cases h : sRightB S
  · simp
  · rw [if_pos rfl, mem_range_map]
    constructor
    · rintro ⟨k, h1, h2, h3⟩; exact ⟨rfl, k, h1, h2, (live_iff h).1 h3⟩
    · rintro ⟨_, k, h1, h2, h3⟩; exact ⟨k, h1, h2, (live_iff h).2 h3⟩
theorem mem_home {S : SpaceD} {x : Int} : x ∈ homeF S ↔ sRightB S = true ∧ ∃ i : Nat, x = i ∧ i < S.marks.length ∧ ∀ k, k < S.marks.length → Goes S k i := by
  unfold homeF
  cases h : sRightB S
  · simp
  · rw [if_pos rfl, mem_range_map]
    constructor
    · rintro ⟨k, h1, h2, h3⟩; exact ⟨rfl, k, h1, h2, (home_iff h h2).1 h3⟩
    · rintro ⟨_, k, h1, h2, h3⟩; exact ⟨k, h1, h2, (home_iff h h2).2 h3⟩
theorem mem_dead {S : SpaceD} {trans t : Int} : t ∈ deadF S trans ↔ ∃ k : Nat, t = k ∧ k < upTo trans ∧ ∀ a ∈ S.arcs, a.tran ≠ k := by
  unfold deadF
  rw [mem_range_map]
  constructor
  · rintro ⟨k, h1, h2, h3⟩
    exact ⟨k, h1, h2, by simpa using h3⟩
  · rintro ⟨k, h1, h2, h3⟩
    exact ⟨k, h1, h2, by simpa using h3⟩
theorem mem_stuck {S : SpaceD} {x : Int} : x ∈ stuckF S ↔ ∃ k : Nat, x = k ∧ k < S.marks.length ∧ ∀ a ∈ S.arcs, a.src ≠ k := by
  unfold stuckF
  rw [mem_range_map]
  have key : ∀ k : Nat, k < S.marks.length → ((ix (onL S) k).isEmpty = true ↔ ∀ a ∈ S.arcs, a.src ≠ k) := by
    intro k hk
    unfold onL
    rw [linksF_ix _ hk, List.isEmpty_iff, List.eq_nil_iff_forall_not_mem]
    constructor
    · intro h a ha he
      refine h a.dst (linkRow_mem.2 ?_)
      unfold edgesF
      exact List.mem_map.2 ⟨a, List.mem_filter.2 ⟨ha, by unfold srcOk; simp; omega⟩, by simp [he]⟩
    · intro h t ht
      have := linkRow_mem.1 ht
      unfold edgesF at this
      obtain ⟨a, ha, he⟩ := List.mem_map.1 this
      simp at he
      exact h a (List.mem_filter.1 ha).1 he.1
  constructor
  · rintro ⟨k, h1, h2, h3⟩; exact ⟨k, h1, h2, (key k h2).1 h3⟩
  · rintro ⟨k, h1, h2, h3⟩; exact ⟨k, h1, h2, (key k h2).2 h3⟩
/-- where one is stuck nothing is live, and home is there alone -/
theorem stuck_goes {S : SpaceD} {i j : Nat} (h : ∀ a ∈ S.arcs, a.src ≠ (i : Int)) (hg : Goes S i j) : i = j := by
  cases hg with
  | refl => rfl
  | step ha h1 => exact absurd h1 (h _ ha)
theorem stuck_live {S : SpaceD} {x : Int} (h : x ∈ stuckF S) (trans : Int) : liveF S trans = [] := by
  obtain ⟨k, rfl, hk, hs⟩ := mem_stuck.1 h
  rw [List.eq_nil_iff_forall_not_mem]
  intro t ht
  obtain ⟨_, u, _, _, hl⟩ := mem_live.1 ht
  obtain ⟨a, h1, _, f, h2, h3⟩ := hl k hk
  rw [← stuck_goes hs h3] at h2
  exact hs a h1 h2
theorem range_filter_one {n : Nat} {p : Nat → Bool} {i : Nat} (hi : i < n) (hp : p i = true) (h : ∀ j, j < n → p j = true → j = i) : (List.range n).filter p = [i] := by
  have hnd : ((List.range n).filter p).Nodup := List.nodup_range.filter _
  have hmem : ∀ x, x ∈ (List.range n).filter p ↔ x = i := by
    intro x
    rw [List.mem_filter, List.mem_range]
    exact ⟨fun hx => h x hx.1 hx.2, fun hx => by subst hx; exact ⟨hi, hp⟩⟩
  match hl : (List.range n).filter p with
  | [] => exact absurd ((hmem i).2 rfl) (by rw [hl]; simp)
  | [a] => rw [(hmem a).1 (by rw [hl]; simp)]
  | a :: b :: r =>
    rw [hl] at hnd hmem
    have e1 := (hmem a).1 (by simp)
    have e2 := (hmem b).1 (by simp)
    subst e1
    rw [List.nodup_cons] at hnd
    exact absurd (by rw [e2]; simp) hnd.1
theorem stuck_home {S : SpaceD} {x : Int} (h : x ∈ stuckF S) (hh : x ∈ homeF S) : (homeF S).length = 1 ∧ (stuckF S).length = 1 := by
  obtain ⟨k, rfl, hk, hs⟩ := mem_stuck.1 h
  obtain ⟨hr, i, hi, hil, hg⟩ := mem_home.1 hh
  have : k = i := by omega
  subst this
  constructor
  · unfold homeF
    rw [if_pos hr, range_filter_one hk ((home_iff hr hk).2 hg) fun j hj hp => (stuck_goes hs ((home_iff hr hj).1 hp k hk)).symm]
    rfl
  · have hp : ∀ j, j < S.marks.length → (ix (onL S) j).isEmpty = true → j = k := by
      intro j hj hp
      have hm : (j : Int) ∈ stuckF S := by unfold stuckF; exact mem_range_map.2 ⟨j, rfl, hj, hp⟩
      obtain ⟨j', hj', _, hs'⟩ := mem_stuck.1 hm
      have : j = j' := by omega
      subst this
      exact stuck_goes hs' (hg j hj)
    have hpk : (ix (onL S) k).isEmpty = true := by
      unfold stuckF at h
      obtain ⟨k', h1, _, h3⟩ := mem_range_map.1 h
      have : k = k' := by omega
      subst this
      exact h3
    unfold stuckF
    rw [range_filter_one hk hpk hp]; rfl
end Go.Tok
