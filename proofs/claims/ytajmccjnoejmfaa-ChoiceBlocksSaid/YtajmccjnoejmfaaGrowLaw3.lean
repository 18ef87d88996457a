/- Of what grows of a block: every place has a weighing of noughts and ones that no link changes; so no place ever has more than one token. No program is in sight here. -/
import Derived.Test.YtajmccjnoejmfaaGrowLaw2
namespace Go.Tok
open Go.RowKit
set_option linter.unusedVariables false
abbrev Wt := Int → Int
/-- no link of L changes what Y weighs -/
def InvL (Y : Wt) (L : List TranD) : Prop := ∀ l ∈ L, (l.pre.map Y).sum = (l.post.map Y).sum
theorem InvL.congr {Y Z : Wt} {L : List TranD} (h : InvL Y L) (he : ∀ l ∈ L, (∀ p ∈ l.pre, Z p = Y p) ∧ ∀ p ∈ l.post, Z p = Y p) : InvL Z L := fun l hl => by
  rw [List.map_congr_left (he l hl).1, List.map_congr_left (he l hl).2]
  exact h l hl
theorem sum_zero : ∀ {l : List Int} {Y : Wt}, (∀ p ∈ l, Y p = 0) → (l.map Y).sum = 0 := by
  intro l
  induction l with
  | nil => intro Y _; rfl
  | cons a r ih => intro Y h; rw [List.map_cons, List.sum_cons, h a (by simp), ih fun p hp => h p (by simp [hp])]; rfl
theorem InvL.zero {Z : Wt} {L : List TranD} (he : ∀ l ∈ L, (∀ p ∈ l.pre, Z p = 0) ∧ ∀ p ∈ l.post, Z p = 0) : InvL Z L := fun l hl => by
  rw [sum_zero (he l hl).1, sum_zero (he l hl).2]
theorem InvL.app {Y : Wt} {L M : List TranD} (h : InvL Y L) (k : InvL Y M) : InvL Y (L ++ M) := fun l hl => (List.mem_append.1 hl).elim (h l) (k l)
theorem InvL.one {Y : Wt} {l : TranD} (h : (l.pre.map Y).sum = (l.post.map Y).sum) : InvL Y [l] := fun m hm => by rw [List.mem_singleton.1 hm]; exact h
/-- noughts and ones -/
def W01 (Y : Wt) : Prop := ∀ p, Y p = 0 ∨ Y p = 1
/-- all rows of L lie in S, each place at most once in a row -/
def SupL (S : Int → Prop) (L : List TranD) : Prop := ∀ l ∈ L, (l.pre.Nodup ∧ ∀ p ∈ l.pre, S p) ∧ l.post.Nodup ∧ ∀ p ∈ l.post, S p
theorem SupL.mono {S T : Int → Prop} {L : List TranD} (h : SupL S L) (k : ∀ p, S p → T p) : SupL T L := fun l hl => ⟨⟨(h l hl).1.1, fun p hp => k p ((h l hl).1.2 p hp)⟩, (h l hl).2.1, fun p hp => k p ((h l hl).2.2 p hp)⟩
theorem SupL.app {S : Int → Prop} {L M : List TranD} (h : SupL S L) (k : SupL S M) : SupL S (L ++ M) := fun l hl => (List.mem_append.1 hl).elim (h l) (k l)
theorem SupL.one {S : Int → Prop} {l : TranD} (h1 : l.pre.Nodup) (h2 : ∀ p ∈ l.pre, S p) (h3 : l.post.Nodup) (h4 : ∀ p ∈ l.post, S p) : SupL S [l] := fun m hm => by rw [List.mem_singleton.1 hm]; exact ⟨⟨h1, h2⟩, h3, h4⟩
theorem InvL.on {Y Z : Wt} {S : Int → Prop} {L : List TranD} (h : InvL Y L) (hs : SupL S L) (he : ∀ p, S p → Z p = Y p) : InvL Z L := h.congr fun l hl => ⟨fun p hp => he p ((hs l hl).1.2 p hp), fun p hp => he p ((hs l hl).2.2 p hp)⟩
theorem InvL.off {Z : Wt} {S : Int → Prop} {L : List TranD} (hs : SupL S L) (he : ∀ p, S p → Z p = 0) : InvL Z L := InvL.zero fun l hl => ⟨fun p hp => he p ((hs l hl).1.2 p hp), fun p hp => he p ((hs l hl).2.2 p hp)⟩

/-- what grew between f and t -/
def SafeG (f t : Int) (s s' : GS) : Prop := s.places ≤ s'.places ∧ ∃ L, s'.links = s.links ++ L ∧ SupL (fun p => p = f ∨ p = t ∨ s.places ≤ p ∧ p < s'.places) L ∧
  ∀ q, q = f ∨ s.places ≤ q ∧ q < s'.places → ∃ Y : Wt, W01 Y ∧ Y f = 1 ∧ Y t = 1 ∧ Y q = 1 ∧ InvL Y L
def SafeF (f : GF) (P : BlockD → Prop) : Prop := ∀ b x y s s', P b → x < s.places → y < s.places → f b x y s = some s' → SafeG x y s s'
theorem ones : W01 (fun _ => 1) := fun _ => .inr rfl
theorem safe_link {x y lab : Int} {s s' : GS} (e : linkF ⟨lab, [x], [y]⟩ s = some s') : SafeG x y s s' := by
  obtain ⟨rfl, _⟩ := link_some e
  refine ⟨Int.le_refl _, [⟨lab, [x], [y]⟩], rfl, SupL.one (by simp) (fun p hp => .inl (List.mem_singleton.1 hp)) (by simp) (fun p hp => .inr (.inl (List.mem_singleton.1 hp))), fun q _ => ⟨fun _ => 1, ones, rfl, rfl, rfl, InvL.one (by simp)⟩⟩
theorem seq_safe {f : GF} {P : BlockD → Prop} (hf : SafeF f P) : ∀ {ks : List BlockD} {x y : Int} {s s' : GS}, (∀ k ∈ ks, P k) → x < s.places → y < s.places → seqF f ks x y s = some s' → SafeG x y s s' := by
  intro ks
  induction ks with
  | nil => intro x y s s' _ _ _ e; cases e
  | cons k r ih =>
    intro x y s s' hP hx hy e
    cases r with
    | nil => exact hf k x y s s' (hP k (by simp)) hx hy e
    | cons k2 ks =>
      unfold seqF at e
      replace e := Option.bind_eq_some_iff.1 e
      obtain ⟨s1, e1, e⟩ := e
      replace e := Option.bind_eq_some_iff.1 e
      obtain ⟨s2, e2, e⟩ := e
      obtain ⟨rfl, _⟩ := place_some e1
      obtain ⟨l1, L1, hL1, S1, I1⟩ := hf k x s.places _ s2 (hP k (by simp)) (by simp only []; omega) (by simp only []; omega) e2
      simp only [] at l1 hL1 S1 I1
      obtain ⟨l2, L2, hL2, S2, I2⟩ := ih (fun k hk => hP k (List.mem_cons_of_mem _ hk)) (show s.places < s2.places by omega) (show y < s2.places by omega) e
      refine ⟨by omega, L1 ++ L2, by rw [hL2, hL1, List.append_assoc], (S1.mono fun p hp => by omega).app (S2.mono fun p hp => by omega), fun q hq => ?_⟩
      have key : ∃ Y1 Y2 : Wt, (W01 Y1 ∧ Y1 x = 1 ∧ Y1 s.places = 1 ∧ InvL Y1 L1) ∧ (W01 Y2 ∧ Y2 s.places = 1 ∧ Y2 y = 1 ∧ InvL Y2 L2) ∧ (q = x ∨ q = s.places ∨ (s.places + 1 ≤ q ∧ q < s2.places ∧ Y1 q = 1) ∨ (s2.places ≤ q ∧ Y2 q = 1)) := by
        by_cases c1 : s.places + 1 ≤ q ∧ q < s2.places
        · obtain ⟨Y1, a1, a2, a3, a4, a5⟩ := I1 q (.inr c1)
          obtain ⟨Y2, b1, b2, b3, b4, b5⟩ := I2 s.places (.inl rfl)
          exact ⟨Y1, Y2, ⟨a1, a2, a3, a5⟩, ⟨b1, b2, b3, b5⟩, .inr (.inr (.inl ⟨c1.1, c1.2, a4⟩))⟩
        · obtain ⟨Y1, a1, a2, a3, a4, a5⟩ := I1 x (.inl rfl)
          by_cases c2 : s2.places ≤ q ∧ q < s'.places
          · obtain ⟨Y2, b1, b2, b3, b4, b5⟩ := I2 q (.inr c2)
            exact ⟨Y1, Y2, ⟨a1, a2, a3, a5⟩, ⟨b1, b2, b3, b5⟩, .inr (.inr (.inr ⟨c2.1, b4⟩))⟩
          · obtain ⟨Y2, b1, b2, b3, b4, b5⟩ := I2 s.places (.inl rfl)
            exact ⟨Y1, Y2, ⟨a1, a2, a3, a5⟩, ⟨b1, b2, b3, b5⟩, by omega⟩
      obtain ⟨Y1, Y2, ⟨a1, a2, a3, a4⟩, ⟨b1, b2, b3, b4⟩, hc⟩ := key
      refine ⟨fun p => if p = x ∨ p = y ∨ p = s.places then 1 else if p < s2.places then Y1 p else Y2 p, fun p => ?_, by simp, by simp, ?_, (a4.on S1 fun p hp => ?_).app (b4.on S2 fun p hp => ?_)⟩
      · try simp only []
        split
        · exact .inr rfl
        · split
          · exact a1 p
          · exact b1 p
      · try simp only []
        split
        · rfl
        · split
          · rcases hc with h | h | ⟨_, _, h⟩ | ⟨h1, h⟩
            · omega
            · omega
            · exact h
            · omega
          · rcases hc with h | h | ⟨_, _, h⟩ | ⟨h1, h⟩
            · omega
            · omega
            · omega
            · exact h
      · try simp only []
        rcases hp with rfl | rfl | hp
        · simp [a2]
        · simp [a3]
        · rw [if_neg (by omega), if_pos (by omega)]
      · try simp only []
        rcases hp with rfl | rfl | hp
        · simp [b2]
        · simp [b3]
        · rw [if_neg (by omega), if_neg (by omega)]
theorem choice_safe {f : GF} {P : BlockD → Prop} (hf : SafeF f P) : ∀ {ks : List BlockD} {x y : Int} {s s' : GS}, (∀ k ∈ ks, P k) → x < s.places → y < s.places → choiceF f ks x y s = some s' → SafeG x y s s' := by
  intro ks
  induction ks with
  | nil => intro x y s s' _ _ _ e; cases e; exact ⟨Int.le_refl _, [], by simp, (fun l hl => by simp at hl), fun q _ => ⟨fun _ => 1, ones, rfl, rfl, rfl, fun l hl => by simp at hl⟩⟩
  | cons k r ih =>
    intro x y s s' hP hx hy e
    unfold choiceF at e
    replace e := Option.bind_eq_some_iff.1 e
    obtain ⟨s1, e1, e⟩ := e
    obtain ⟨l1, L1, hL1, S1, I1⟩ := hf k x y s s1 (hP k (by simp)) hx hy e1
    obtain ⟨l2, L2, hL2, S2, I2⟩ := ih (fun k hk => hP k (List.mem_cons_of_mem _ hk)) (show x < s1.places by omega) (show y < s1.places by omega) e
    refine ⟨by omega, L1 ++ L2, by rw [hL2, hL1, List.append_assoc], (S1.mono fun p hp => by omega).app (S2.mono fun p hp => by omega), fun q hq => ?_⟩
    have key : ∃ Y1 Y2 : Wt, (W01 Y1 ∧ Y1 x = 1 ∧ Y1 y = 1 ∧ InvL Y1 L1) ∧ (W01 Y2 ∧ Y2 x = 1 ∧ Y2 y = 1 ∧ InvL Y2 L2) ∧ (q = x ∨ (s.places ≤ q ∧ q < s1.places ∧ Y1 q = 1) ∨ (s1.places ≤ q ∧ Y2 q = 1)) := by
      by_cases c1 : s.places ≤ q ∧ q < s1.places
      · obtain ⟨Y1, a1, a2, a3, a4, a5⟩ := I1 q (.inr c1)
        obtain ⟨Y2, b1, b2, b3, b4, b5⟩ := I2 x (.inl rfl)
        exact ⟨Y1, Y2, ⟨a1, a2, a3, a5⟩, ⟨b1, b2, b3, b5⟩, .inr (.inl ⟨c1.1, c1.2, a4⟩)⟩
      · obtain ⟨Y1, a1, a2, a3, a4, a5⟩ := I1 x (.inl rfl)
        by_cases c2 : s1.places ≤ q ∧ q < s'.places
        · obtain ⟨Y2, b1, b2, b3, b4, b5⟩ := I2 q (.inr c2)
          exact ⟨Y1, Y2, ⟨a1, a2, a3, a5⟩, ⟨b1, b2, b3, b5⟩, .inr (.inr ⟨c2.1, b4⟩)⟩
        · obtain ⟨Y2, b1, b2, b3, b4, b5⟩ := I2 x (.inl rfl)
          exact ⟨Y1, Y2, ⟨a1, a2, a3, a5⟩, ⟨b1, b2, b3, b5⟩, by omega⟩
    obtain ⟨Y1, Y2, ⟨a1, a2, a3, a4⟩, ⟨b1, b2, b3, b4⟩, hc⟩ := key
    refine ⟨fun p => if p = x ∨ p = y then 1 else if p < s1.places then Y1 p else Y2 p, fun p => ?_, by simp, by simp, ?_, (a4.on S1 fun p hp => ?_).app (b4.on S2 fun p hp => ?_)⟩
    · try simp only []
      split
      · exact .inr rfl
      · split
        · exact a1 p
        · exact b1 p
    · try simp only []
      split
      · rfl
      · split
        · rcases hc with h | ⟨_, _, h⟩ | ⟨h1, h⟩
          · omega
          · exact h
          · omega
        · rcases hc with h | ⟨_, _, h⟩ | ⟨h1, h⟩
          · omega
          · omega
          · exact h
    · try simp only []
      rcases hp with rfl | rfl | hp
      · simp [a2]
      · simp [a3]
      · rw [if_neg (by omega), if_pos (by omega)]
    · try simp only []
      rcases hp with rfl | rfl | hp
      · simp [b2]
      · simp [b3]
      · rw [if_neg (by omega), if_neg (by omega)]
theorem insL_cons (p : Int) (k : Nat) : insL p (k + 1) = p :: insL (p + 2) k := by
  unfold insL
  rw [List.range_succ_eq_map, List.map_cons, List.map_map]
  refine congr (by simp) (List.map_congr_left fun i _ => ?_)
  simp; omega
theorem outsL_cons (p : Int) (k : Nat) : outsL p (k + 1) = (p + 1) :: outsL (p + 2) k := by
  unfold outsL
  rw [List.range_succ_eq_map, List.map_cons, List.map_map]
  refine congr (by simp) (List.map_congr_left fun i _ => ?_)
  simp; omega
theorem insL_nodup (p : Int) (k : Nat) : (insL p k).Nodup := by
  unfold insL
  rw [List.Nodup, List.pairwise_map]
  exact List.nodup_range.imp fun h e => h (by omega)
theorem outsL_nodup (p : Int) (k : Nat) : (outsL p k).Nodup := by
  unfold outsL
  rw [List.Nodup, List.pairwise_map]
  exact List.nodup_range.imp fun h e => h (by omega)
theorem both_safe {f : GF} {P : BlockD → Prop} (hf : SafeF f P) : ∀ {ks : List BlockD} {p : Int} {s s' : GS}, (∀ k ∈ ks, P k) → p + 2 * (ks.length : Int) ≤ s.places → bothF f ks p s = some s' →
    s.places ≤ s'.places ∧ ∃ L, s'.links = s.links ++ L ∧ SupL (fun q => p ≤ q ∧ q < p + 2 * (ks.length : Int) ∨ s.places ≤ q ∧ q < s'.places) L ∧
      ∀ q, (p ≤ q ∧ q < p + 2 * (ks.length : Int) ∨ ks ≠ [] ∧ s.places ≤ q ∧ q < s'.places) → ∃ Y : Wt, W01 Y ∧ Y q = 1 ∧ ((insL p ks.length).map Y).sum = 1 ∧ ((outsL p ks.length).map Y).sum = 1 ∧ InvL Y L := by
  intro ks
  induction ks with
  | nil => intro p s s' _ _ e; cases e; exact ⟨Int.le_refl _, [], by simp, (fun l hl => by simp at hl), fun q hq => by simp at hq; omega⟩
  | cons k r ih =>
    intro p s s' hP hx e
    unfold bothF at e
    rw [List.length_cons] at hx
    replace e := Option.bind_eq_some_iff.1 e
    obtain ⟨s1, e1, e⟩ := e
    obtain ⟨l1, L1, hL1, S1, I1⟩ := hf k p (p + 1) s s1 (hP k (by simp)) (by omega) (by omega) e1
    obtain ⟨l2, L2, hL2, S2, I2⟩ := ih (fun k hk => hP k (List.mem_cons_of_mem _ hk)) (show p + 2 + 2 * (r.length : Int) ≤ s1.places by omega) e
    have hr0 : r = [] → s'.places = s1.places := by rintro rfl; cases e; rfl
    refine ⟨by omega, L1 ++ L2, by rw [hL2, hL1, List.append_assoc], (S1.mono fun q hq => by simp only [List.length_cons]; omega).app (S2.mono fun q hq => by simp only [List.length_cons]; omega), fun q hq => ?_⟩
    rw [List.length_cons] at hq
    rw [List.length_cons, insL_cons, outsL_cons]
    simp only [List.map_cons, List.sum_cons]
    by_cases c1 : q = p ∨ q = p + 1 ∨ s.places ≤ q ∧ q < s1.places
    · obtain ⟨Y, a1, a2, a3, a4, a5⟩ := I1 (if q = p + 1 then p else q) (by split <;> omega)
      refine ⟨fun z => if z = p ∨ z = p + 1 ∨ s.places ≤ z ∧ z < s1.places then Y z else 0, fun z => ?_, ?_, ?_, ?_, (a5.on S1 fun z hz => ?_).app (InvL.off S2 fun z hz => ?_)⟩
      · try simp only []
        split
        · exact a1 z
        · exact .inl rfl
      · try simp only []
        rw [if_pos c1]
        by_cases h : q = p + 1
        · rw [h]; exact a3
        · rw [if_neg h] at a4; exact a4
      · rw [sum_zero fun z hz => ?_]
        · simp [a2]
        · obtain ⟨i, h1, h2, h3⟩ := mem_ins hz
          rw [if_neg (by omega)]
      · rw [sum_zero fun z hz => ?_]
        · simp [a3]
        · obtain ⟨i, h1, h2, h3⟩ := mem_outs hz
          rw [if_neg (by omega)]
      · try simp only []
        rw [if_pos (by omega)]
      · try simp only []
        rw [if_neg (by omega)]
    · have hq2 : p + 2 ≤ q ∧ q < p + 2 + 2 * (r.length : Int) ∨ r ≠ [] ∧ s1.places ≤ q ∧ q < s'.places := by
        by_cases hr : r = []
        · have := hr0 hr
          subst hr
          simp at hq; omega
        · have : s'.places = s'.places := rfl
          rcases hq with h | ⟨_, h⟩
          · left; simp at h; omega
          · right; exact ⟨hr, by omega, by omega⟩
      obtain ⟨Y, a1, a2, a3, a4, a5⟩ := I2 q hq2
      refine ⟨fun z => if p + 2 ≤ z ∧ z < p + 2 + 2 * (r.length : Int) ∨ s1.places ≤ z then Y z else 0, fun z => ?_, ?_, ?_, ?_, (InvL.off S1 fun z hz => ?_).app (a5.on S2 fun z hz => ?_)⟩
      · try simp only []
        split
        · exact a1 z
        · exact .inl rfl
      · try simp only []
        rw [if_pos (by omega)]; exact a2
      · rw [List.map_congr_left (g := Y) fun z hz => ?_, a3]
        · simp only []; rw [if_neg (by omega)]; rfl
        · obtain ⟨i, h1, h2, h3⟩ := mem_ins hz
          rw [if_pos (by omega)]
      · rw [List.map_congr_left (g := Y) fun z hz => ?_, a4]
        · simp only []; rw [if_neg (by omega)]; rfl
        · obtain ⟨i, h1, h2, h3⟩ := mem_outs hz
          rw [if_pos (by omega)]
      · try simp only []
        rw [if_neg (by omega)]
      · try simp only []
        rw [if_pos (by omega)]
theorem grow_safe : ∀ (n : Nat), SafeF (growF n) (OkB n) := by
  intro n
  induction n with
  | zero => intro b x y s s' h; exact h.elim
  | succ n ih =>
    intro b x y s s' hb hx hy e
    obtain ⟨k1, k2, k3, k4, k5, k6, k7⟩ := hb
    unfold growF at e
    split at e
    · exact safe_link e
    · split at e
      · exact safe_link e
      · split at e
        · exact seq_safe ih k7 hx hy e
        · split at e
          · exact choice_safe ih k7 hx hy e
          · split at e
            · obtain ⟨s1, e1, e⟩ := Option.bind_eq_some_iff.1 e
              replace e := Option.bind_eq_some_iff.1 e
              obtain ⟨s2, e2, e⟩ := e
              replace e := Option.bind_eq_some_iff.1 e
              obtain ⟨s3, e3, e⟩ := e
              obtain ⟨rfl, _⟩ := places_some e1
              obtain ⟨rfl, _⟩ := link_some e2
              obtain ⟨l3, L, hL, S, I⟩ := both_safe ih k7 (by simp only []; omega) e3
              obtain ⟨rfl, _⟩ := link_some e
              simp only [] at l3 hL S I
              have hne : b.kids ≠ [] := k5 (by omega)
              have hlen : 0 < b.kids.length := by cases h : b.kids with | nil => exact absurd h hne | cons => simp
              refine ⟨by simp only []; omega, [⟨0, [x], insL s.places b.kids.length⟩] ++ L ++ [⟨0, outsL s.places b.kids.length, [y]⟩], by simp [hL], ?_, fun q hq => ?_⟩
              · try simp only []
                refine ((SupL.one (by simp) (fun p hp => .inl (List.mem_singleton.1 hp)) (insL_nodup _ _) fun p hp => ?_).app (S.mono fun p hp => by omega)).app (SupL.one (outsL_nodup _ _) (fun p hp => ?_) (by simp) fun p hp => .inr (.inl (List.mem_singleton.1 hp)))
                · obtain ⟨i, h1, h2, h3⟩ := mem_ins hp; omega
                · obtain ⟨i, h1, h2, h3⟩ := mem_outs hp; omega
              · simp only [] at hq
                obtain ⟨Y, a1, a2, a3, a4, a5⟩ := I (if q = x then s.places else q) (by split <;> (try simp only [hne, ne_eq, not_false_eq_true, true_and]) <;> omega)
                refine ⟨fun z => if z = x ∨ z = y then 1 else Y z, fun z => ?_, by simp, by simp, ?_, ((InvL.one ?_).app (a5.on S fun z hz => ?_)).app (InvL.one ?_)⟩
                · try simp only []
                  split
                  · exact .inr rfl
                  · exact a1 z
                · try simp only []
                  split
                  · rfl
                  · rw [if_neg (by omega)] at a2; exact a2
                · try simp only []
                  rw [List.map_congr_left (g := Y) (l := insL _ _) fun z hz => ?_, a3]
                  · simp
                  · obtain ⟨i, h1, h2, h3⟩ := mem_ins hz
                    rw [if_neg (by omega)]
                · try simp only []
                  rw [if_neg (by omega)]
                · try simp only []
                  rw [List.map_congr_left (g := Y) (l := outsL _ _) fun z hz => ?_, a4]
                  · simp
                  · obtain ⟨i, h1, h2, h3⟩ := mem_outs hz
                    rw [if_neg (by omega)]
            · obtain ⟨s1, e1, e⟩ := Option.bind_eq_some_iff.1 e
              replace e := Option.bind_eq_some_iff.1 e
              obtain ⟨s2, e2, e⟩ := e
              replace e := Option.bind_eq_some_iff.1 e
              obtain ⟨s3, e3, e⟩ := e
              replace e := Option.bind_eq_some_iff.1 e
              obtain ⟨s4, e4, e⟩ := e
              replace e := Option.bind_eq_some_iff.1 e
              obtain ⟨s5, e5, e⟩ := e
              have hlen := k6 (by omega)
              obtain ⟨rfl, _⟩ := place_some e1
              obtain ⟨rfl, _⟩ := place_some e2
              obtain ⟨rfl, _⟩ := link_some e3
              obtain ⟨l4, L1, hL1, S1, I1⟩ := ih _ _ _ _ _ (k7 _ (ix_mem (by omega))) (by simp only []; omega) (by simp only []; omega) e4
              simp only [] at l4 hL1 S1 I1
              obtain ⟨l5, L2, hL2, S2, I2⟩ := ih _ _ _ _ _ (k7 _ (ix_mem (by omega))) (by omega) (by omega) e5
              obtain ⟨rfl, _⟩ := link_some e
              refine ⟨by simp only []; omega, [⟨0, [x], [s.places]⟩] ++ (L1 ++ L2) ++ [⟨0, [s.places + 1], [y]⟩], by simp [hL2, hL1], ?_, fun q hq => ?_⟩
              · try simp only []
                refine ((SupL.one (by simp) (fun p hp => .inl (List.mem_singleton.1 hp)) (by simp) fun p hp => ?_).app ((S1.mono fun p hp => by omega).app (S2.mono fun p hp => by omega))).app (SupL.one (by simp) (fun p hp => ?_) (by simp) fun p hp => .inr (.inl (List.mem_singleton.1 hp)))
                · have := List.mem_singleton.1 hp; omega
                · have := List.mem_singleton.1 hp; omega
              · simp only [] at hq
                have key : ∃ Y1 Y2 : Wt, (W01 Y1 ∧ Y1 s.places = 1 ∧ Y1 (s.places + 1) = 1 ∧ InvL Y1 L1) ∧ (W01 Y2 ∧ Y2 (s.places + 1) = 1 ∧ Y2 s.places = 1 ∧ InvL Y2 L2) ∧ (q = x ∨ q = s.places ∨ q = s.places + 1 ∨ (s.places + 2 ≤ q ∧ q < s4.places ∧ Y1 q = 1) ∨ (s4.places ≤ q ∧ Y2 q = 1)) := by
                  by_cases c1 : s.places + 1 + 1 ≤ q ∧ q < s4.places
                  · obtain ⟨Y1, a1, a2, a3, a4, a5⟩ := I1 q (.inr c1)
                    obtain ⟨Y2, b1, b2, b3, b4, b5⟩ := I2 (s.places + 1) (.inl rfl)
                    exact ⟨Y1, Y2, ⟨a1, a2, a3, a5⟩, ⟨b1, b2, b3, b5⟩, .inr (.inr (.inr (.inl ⟨by omega, c1.2, a4⟩)))⟩
                  · obtain ⟨Y1, a1, a2, a3, a4, a5⟩ := I1 s.places (.inl rfl)
                    by_cases c2 : s4.places ≤ q ∧ q < s5.places
                    · obtain ⟨Y2, b1, b2, b3, b4, b5⟩ := I2 q (.inr c2)
                      exact ⟨Y1, Y2, ⟨a1, a2, a3, a5⟩, ⟨b1, b2, b3, b5⟩, .inr (.inr (.inr (.inr ⟨c2.1, b4⟩)))⟩
                    · obtain ⟨Y2, b1, b2, b3, b4, b5⟩ := I2 (s.places + 1) (.inl rfl)
                      exact ⟨Y1, Y2, ⟨a1, a2, a3, a5⟩, ⟨b1, b2, b3, b5⟩, by omega⟩
                obtain ⟨Y1, Y2, ⟨a1, a2, a3, a4⟩, ⟨b1, b2, b3, b4⟩, hc⟩ := key
                refine ⟨fun p => if p = x ∨ p = y ∨ p = s.places ∨ p = s.places + 1 then 1 else if p < s4.places then Y1 p else Y2 p, fun p => ?_, by simp, by simp, ?_, ((InvL.one (by simp)).app ((a4.on S1 fun p hp => ?_).app (b4.on S2 fun p hp => ?_))).app (InvL.one (by simp))⟩
                · try simp only []
                  split
                  · exact .inr rfl
                  · split
                    · exact a1 p
                    · exact b1 p
                · try simp only []
                  split
                  · rfl
                  · split
                    · rcases hc with h | h | h | ⟨_, _, h⟩ | ⟨h1, h⟩
                      · omega
                      · omega
                      · omega
                      · exact h
                      · omega
                    · rcases hc with h | h | h | ⟨_, _, h⟩ | ⟨h1, h⟩
                      · omega
                      · omega
                      · omega
                      · omega
                      · exact h
                · try simp only []
                  rcases hp with rfl | rfl | hp
                  · simp [a2]
                  · simp [a3]
                  · rw [if_neg (by omega), if_pos (by omega)]
                · try simp only []
                  rcases hp with rfl | rfl | hp
                  · simp [b2]
                  · simp [b3]
                  · rw [if_neg (by omega), if_neg (by omega)]
/-! ### the weighing as a row -/
def yL (Y : Wt) (n : Nat) : List Int := (List.range n).map fun (p : Nat) => Y (p : Int)
theorem yL_len (Y : Wt) (n : Nat) : (yL Y n).length = n := by simp [yL]
theorem yL_nth {Y : Wt} {n p : Nat} (h : p < n) : nth (yL Y n) p = Y (p : Int) := by rw [nth_lt (by rw [yL_len]; exact h)]; simp [yL]
theorem weigh_delta {y a b : List Int} {q : Nat} : ∀ n, (∀ p, p < n → nth a p = nth b p + (if p = q then 1 else 0)) → weighTo y a n = weighTo y b n + (if q < n then nth y q else 0) := by
  intro n
  induction n with
  | zero => intro _; simp [weighTo_zero]
  | succ n ih =>
    intro h
    rw [weighTo_succ, weighTo_succ, ih fun p hp => h p (by omega), h n (by omega)]
    by_cases h1 : n = q
    · subst h1; simp; rw [Int.mul_add]; omega
    · rw [if_neg h1]
      by_cases h2 : q < n
      · rw [if_pos h2, if_pos (by omega), Int.add_zero (nth b n)]; omega
      · rw [if_neg h2, if_neg (by omega), Int.add_zero (nth b n)]; omega
theorem weigh_zero {y a : List Int} : ∀ n, (∀ p, p < n → nth a p = 0) → weighTo y a n = 0 := by
  intro n
  induction n with
  | zero => intro _; exact weighTo_zero _ _
  | succ n ih => intro h; rw [weighTo_succ, ih fun p hp => h p (by omega), h n (by omega)]; simp
theorem weigh_list {Y : Wt} {n : Nat} : ∀ {l : List Int}, l.Nodup → PlIn n l → weighTo (yL Y n) (weightsF n l) n = (l.map Y).sum := by
  intro l
  induction l with
  | nil => intro _ _; rw [weigh_zero n fun p hp => by rw [weights_nth (by simp) hp]; simp]; rfl
  | cons a r ih =>
    intro hn hp
    obtain ⟨h1, h2⟩ := List.nodup_cons.1 hn
    have ha := hp a (by simp)
    have hr : PlIn n r := fun q hq => hp q (by simp [hq])
    rw [weigh_delta (b := weightsF n r) (q := a.toNat) n fun p hpn => ?_, ih h2 hr, if_pos (by omega), yL_nth (by omega), List.map_cons, List.sum_cons, Int.toNat_of_nonneg ha.1]
    · omega
    · rw [weights_nth (fun q hq => (hp q hq).1) hpn, weights_nth (fun q hq => (hr q hq).1) hpn]
      by_cases c1 : p = a.toNat
      · have e : (p : Int) = a := by omega
        rw [e, if_pos (by simp), if_neg h1, if_pos c1]; rfl
      · have e : (p : Int) ≠ a := by omega
        rw [if_neg c1]
        simp [e]
/-- every place has its weighing -/
theorem grown_kept {n : Nat} {b : BlockD} {s : GS} (hb : OkB n b) (h : growF n b 0 1 ⟨2, []⟩ = some s) {q : Nat} (hq : (q : Int) < s.places) : ∃ y : List Int, keptB (netOf s) y = true ∧ (y.length : Int) = s.places ∧ (∀ p, 0 ≤ nth y p) ∧ nth y q = 1 ∧ nth y 0 = 1 := by
  have ok := grow_ok hb h
  obtain ⟨hl, L, hL, hS, hI⟩ := grow_safe n b 0 1 ⟨2, []⟩ s hb (by simp) (by simp) h
  simp only [] at hl hL hS hI
  rw [List.nil_append] at hL
  subst hL
  have hlo := ok.lo
  have hhi := ok.hi
  obtain ⟨Y, a1, a2, a3, a4, a5⟩ : ∃ Y : Wt, W01 Y ∧ Y 0 = 1 ∧ Y 1 = 1 ∧ Y (q : Int) = 1 ∧ InvL Y s.links := by
    by_cases h1 : q = 1
    · obtain ⟨Y, a1, a2, a3, a4, a5⟩ := hI 0 (.inl rfl)
      exact ⟨Y, a1, a2, a3, by rw [h1]; exact a3, a5⟩
    · exact hI q (by omega)
  have hle : (s.places.toNat : Int) = s.places := Int.toNat_of_nonneg (by omega)
  refine ⟨yL Y s.places.toNat, ?_, by rw [yL_len]; exact hle, fun p => ?_, ?_, ?_⟩
  · have hup : ∀ k, k ≤ s.links.length → KeptUpto (netOf s) (yL Y s.places.toNat) k := by
      intro k
      induction k with
      | zero => intro _; exact KeptUpto.zero _ _
      | succ i ih =>
        intro hi
        refine (ih (by omega)).succ ?_
        rw [net_tr (show i < s.links.length by omega)]
        try simp only []
        have m := ix_mem (show i < s.links.length by omega)
        obtain ⟨⟨n1, _⟩, n2, _⟩ := hS _ m
        rw [weighF_def, weighF_def, yL_len, weights_len, weights_len, Nat.min_self, weigh_list n1 (by rw [hle]; exact ok.pre _ m), weigh_list n2 (by rw [hle]; exact ok.post _ m)]
        exact a5 _ m
    refine (hup _ (Nat.le_refl _)).all (by simp [netOf]) (grown_net ok) ?_
    · refine boundedB_yes (by rw [yL_len]; exact hle) fun x hx => ?_
      unfold yL at hx
      obtain ⟨p, hp, rfl⟩ := List.mem_map.1 hx
      rcases a1 p with e | e <;> rw [e] <;> omega
  · by_cases hp : p < s.places.toNat
    · rw [yL_nth hp]; rcases a1 p with e | e <;> rw [e] <;> omega
    · rw [nth_ge (by rw [yL_len]; omega)]; omega
  · rw [yL_nth (by omega)]; exact a4
  · rw [yL_nth (by omega)]; exact a2
/-- GrowSafe's law -/
theorem net_safe {n : Nat} {b : BlockD} {s : GS} (hb : OkB n b) (h : growF n b 0 1 ⟨2, []⟩ = some s) {m seq x : List Int} (hm : (m.length : Int) = s.places) (hm0 : nth m 0 = 1) (hm1 : ∀ p, 0 < p → nth m p = 0) (hr : runF (netOf s) m seq = (x, 0)) : ∀ k ∈ x, k ≤ 1 := by
  intro k hk
  obtain ⟨q, hq, rfl⟩ := List.getElem_of_mem hk
  have ok := grow_ok hb h
  obtain ⟨hf, hrs⟩ := runF_of hr
  have hx := fits_len (hrs.fits hf)
  have e1 : (netOf s).places = s.places := rfl
  rw [e1] at hx
  obtain ⟨y, h1, h2, h3, h4, h5⟩ := grown_kept hb h (q := q) (by omega)
  have hb' := flow_bound (p := q) hr h1 (by omega) (by omega) h3
  rw [nth_lt hq] at hb'
  have hw : weighF y m = 1 := by
    rw [weighF_def]
    have hlo := ok.lo
    obtain ⟨k, hk⟩ : ∃ k, min y.length m.length = k + 1 := ⟨min y.length m.length - 1, by omega⟩
    rw [hk]
    have : ∀ j, weighTo y m (j + 1) = 1 := by
      intro j
      induction j with
      | zero => rw [weighTo_succ, weighTo_zero, h5, hm0]; rfl
      | succ j ih => rw [weighTo_succ, ih, hm1 (j + 1) (by omega)]; simp
    exact this k
  omega
end Go.Tok
