/- Of what grows of a block: who shares a place shares all; every place has a weighing of noughts and ones that no link changes. No program is in sight here. -/
import Derived.Test.YtajmccjnoejmfaaGrowLaw
import Derived.Test.YtajmccjnoejmfaaFlowLaw2
namespace Go.Tok
open Go.RowKit
set_option linter.unusedVariables false
/-! ### who shares a place -/
/-- rows that share a place are one -/
def DJ (C : List Int → Prop) : Prop := ∀ a b p, C a → C b → p ∈ a → p ∈ b → a = b
theorem DJ.one (l : List Int) : DJ (fun a => a = l) := fun a b p ha hb _ _ => by rw [ha, hb]
theorem DJ.or {C D : List Int → Prop} (h1 : DJ C) (h2 : DJ D) (h : ∀ a b q, C a → D b → q ∈ a → q ∈ b → False) : DJ (fun a => C a ∨ D a) := by
  intro a b p ha hb hp hq
  rcases ha with ha | ha <;> rcases hb with hb | hb
  · exact h1 a b p ha hb hp hq
  · exact (h a b p ha hb hp hq).elim
  · exact (h b a p hb ha hq hp).elim
  · exact h2 a b p ha hb hp hq
/-- what grew from f on: all rows but [f] lie in new places, and those that share a place are one -/
def FreeG (f : Int) (s s' : GS) : Prop := s.places ≤ s'.places ∧ ∃ L, s'.links = s.links ++ L ∧ ∃ C : List Int → Prop, (∀ a, C a → ∀ p ∈ a, s.places ≤ p ∧ p < s'.places) ∧ DJ C ∧ ∀ l ∈ L, l.pre = [f] ∨ C l.pre
def FreeF (f : GF) (P : BlockD → Prop) : Prop := ∀ b x y s s', P b → x < s.places → f b x y s = some s' → FreeG x s s'
theorem free_link {x : Int} {l : TranD} {s s' : GS} (hl : l.pre = [x]) (e : linkF l s = some s') : FreeG x s s' := by
  obtain ⟨rfl, _⟩ := link_some e
  exact ⟨Int.le_refl _, [l], rfl, fun _ => False, fun a h => h.elim, fun a b p h => h.elim, fun m hm => .inl (by rw [List.mem_singleton.1 hm]; exact hl)⟩
theorem seq_free {f : GF} {P : BlockD → Prop} (hf : FreeF f P) : ∀ {ks : List BlockD} {x y : Int} {s s' : GS}, (∀ k ∈ ks, P k) → x < s.places → seqF f ks x y s = some s' → FreeG x s s' := by
  intro ks
  induction ks with
  | nil => intro x y s s' _ _ e; cases e
  | cons k r ih =>
    intro x y s s' hP hx e
    cases r with
    | nil => exact hf k x y s s' (hP k (by simp)) hx e
    | cons k2 ks =>
      unfold seqF at e
      replace e := Option.bind_eq_some_iff.1 e
      obtain ⟨s1, e1, e⟩ := e
      replace e := Option.bind_eq_some_iff.1 e
      obtain ⟨s2, e2, e⟩ := e
      obtain ⟨rfl, _⟩ := place_some e1
      obtain ⟨l1, L1, hL1, C1, hC1, hD1, hm1⟩ := hf k x s.places _ s2 (hP k (by simp)) (by simp only []; omega) e2
      simp only [] at l1 hL1 hC1
      obtain ⟨l2, L2, hL2, C2, hC2, hD2, hm2⟩ := ih (fun k hk => hP k (List.mem_cons_of_mem _ hk)) (show s.places < s2.places by omega) e
      refine ⟨by omega, L1 ++ L2, by rw [hL2, hL1, List.append_assoc], fun a => (a = [s.places] ∨ C1 a) ∨ C2 a, ?_, ?_, ?_⟩
      · rintro a ((rfl | h) | h) p hp
        · rw [List.mem_singleton.1 hp]; omega
        · have := hC1 a h p hp; omega
        · have := hC2 a h p hp; omega
      · refine ((DJ.one _).or hD1 ?_).or hD2 ?_
        · rintro a b q rfl hb ha hq
          rw [List.mem_singleton.1 ha] at hq
          have := hC1 b hb _ hq; omega
        · rintro a b q (rfl | ha) hb hqa hqb
          · rw [List.mem_singleton.1 hqa] at hqb
            have := hC2 b hb _ hqb; omega
          · have := hC1 a ha q hqa
            have := hC2 b hb q hqb; omega
      · intro l hl
        rcases List.mem_append.1 hl with h | h
        · rcases hm1 l h with h | h
          · exact .inl h
          · exact .inr (.inl (.inr h))
        · rcases hm2 l h with h | h
          · exact .inr (.inl (.inl h))
          · exact .inr (.inr h)
theorem choice_free {f : GF} {P : BlockD → Prop} (hf : FreeF f P) : ∀ {ks : List BlockD} {x y : Int} {s s' : GS}, (∀ k ∈ ks, P k) → x < s.places → choiceF f ks x y s = some s' → FreeG x s s' := by
  intro ks
  induction ks with
  | nil => intro x y s s' _ _ e; cases e; exact ⟨Int.le_refl _, [], by simp, fun _ => False, fun a h => h.elim, fun a b p h => h.elim, by simp⟩
  | cons k r ih =>
    intro x y s s' hP hx e
    unfold choiceF at e
    replace e := Option.bind_eq_some_iff.1 e
    obtain ⟨s1, e1, e⟩ := e
    obtain ⟨l1, L1, hL1, C1, hC1, hD1, hm1⟩ := hf k x y s s1 (hP k (by simp)) hx e1
    obtain ⟨l2, L2, hL2, C2, hC2, hD2, hm2⟩ := ih (fun k hk => hP k (List.mem_cons_of_mem _ hk)) (show x < s1.places by omega) e
    refine ⟨by omega, L1 ++ L2, by rw [hL2, hL1, List.append_assoc], fun a => C1 a ∨ C2 a, ?_, hD1.or hD2 ?_, ?_⟩
    · rintro a (h | h) p hp
      · have := hC1 a h p hp; omega
      · have := hC2 a h p hp; omega
    · intro a b q ha hb hqa hqb
      have := hC1 a ha q hqa
      have := hC2 b hb q hqb; omega
    · intro l hl
      rcases List.mem_append.1 hl with h | h
      · exact (hm1 l h).imp id .inl
      · exact (hm2 l h).imp id .inr
theorem both_free {f : GF} {P : BlockD → Prop} (hf : FreeF f P) : ∀ {ks : List BlockD} {p : Int} {s s' : GS}, (∀ k ∈ ks, P k) → p + 2 * (ks.length : Int) ≤ s.places → bothF f ks p s = some s' →
    s.places ≤ s'.places ∧ ∃ L, s'.links = s.links ++ L ∧ ∃ C : List Int → Prop, (∀ a, C a → ∀ q ∈ a, (∃ i : Int, q = p + 2 * i ∧ 0 ≤ i ∧ i < ks.length) ∨ (s.places ≤ q ∧ q < s'.places)) ∧ DJ C ∧ ∀ l ∈ L, C l.pre := by
  intro ks
  induction ks with
  | nil => intro p s s' _ _ e; cases e; exact ⟨Int.le_refl _, [], by simp, fun _ => False, fun a h => h.elim, fun a b p h => h.elim, by simp⟩
  | cons k r ih =>
    intro p s s' hP hx e
    unfold bothF at e
    rw [List.length_cons] at hx
    replace e := Option.bind_eq_some_iff.1 e
    obtain ⟨s1, e1, e⟩ := e
    obtain ⟨l1, L1, hL1, C1, hC1, hD1, hm1⟩ := hf k p (p + 1) s s1 (hP k (by simp)) (by omega) e1
    obtain ⟨l2, L2, hL2, C2, hC2, hD2, hm2⟩ := ih (fun k hk => hP k (List.mem_cons_of_mem _ hk)) (show p + 2 + 2 * (r.length : Int) ≤ s1.places by omega) e
    refine ⟨by omega, L1 ++ L2, by rw [hL2, hL1, List.append_assoc], fun a => (a = [p] ∨ C1 a) ∨ C2 a, ?_, ((DJ.one _).or hD1 ?_).or hD2 ?_, ?_⟩
    · rintro a ((rfl | h) | h) q hq
      · rw [List.mem_singleton.1 hq]; exact .inl ⟨0, by omega, by omega, by simp⟩
      · have := hC1 a h q hq; exact .inr (by omega)
      · rcases hC2 a h q hq with ⟨i, h1, h2, h3⟩ | h
        · exact .inl ⟨i + 1, by omega, by omega, by simp; omega⟩
        · exact .inr (by omega)
    · rintro a b q rfl hb ha hq
      rw [List.mem_singleton.1 ha] at hq
      have := hC1 b hb _ hq; omega
    · rintro a b q (rfl | ha) hb hqa hqb
      · rw [List.mem_singleton.1 hqa] at hqb
        rcases hC2 b hb _ hqb with ⟨i, h1, h2, h3⟩ | h <;> omega
      · have := hC1 a ha q hqa
        rcases hC2 b hb q hqb with ⟨i, h1, h2, h3⟩ | h <;> omega
    · intro l hl
      rcases List.mem_append.1 hl with h | h
      · rcases hm1 l h with h | h
        · exact .inl (.inl h)
        · exact .inl (.inr h)
      · exact .inr (hm2 l h)
theorem mem_outs {p q : Int} {k : Nat} (h : q ∈ outsL p k) : ∃ i : Int, q = p + 2 * i + 1 ∧ 0 ≤ i ∧ i < k := by
  unfold outsL at h
  obtain ⟨i, hi, rfl⟩ := List.mem_map.1 h
  exact ⟨i, rfl, by omega, by have := List.mem_range.1 hi; omega⟩
theorem mem_ins {p q : Int} {k : Nat} (h : q ∈ insL p k) : ∃ i : Int, q = p + 2 * i ∧ 0 ≤ i ∧ i < k := by
  unfold insL at h
  obtain ⟨i, hi, rfl⟩ := List.mem_map.1 h
  exact ⟨i, rfl, by omega, by have := List.mem_range.1 hi; omega⟩
theorem grow_free : ∀ (n : Nat), FreeF (growF n) (OkB n) := by
  intro n
  induction n with
  | zero => intro b x y s s' h; exact h.elim
  | succ n ih =>
    intro b x y s s' hb hx e
    obtain ⟨k1, k2, k3, k4, k5, k6, k7⟩ := hb
    unfold growF at e
    split at e
    · exact free_link rfl e
    · split at e
      · exact free_link rfl e
      · split at e
        · exact seq_free ih k7 hx e
        · split at e
          · exact choice_free ih k7 hx e
          · split at e
            · obtain ⟨s1, e1, e⟩ := Option.bind_eq_some_iff.1 e
              replace e := Option.bind_eq_some_iff.1 e
              obtain ⟨s2, e2, e⟩ := e
              replace e := Option.bind_eq_some_iff.1 e
              obtain ⟨s3, e3, e⟩ := e
              obtain ⟨rfl, _⟩ := places_some e1
              obtain ⟨rfl, _⟩ := link_some e2
              obtain ⟨l3, L, hL, C, hC, hD, hm⟩ := both_free ih k7 (by simp only []; omega) e3
              obtain ⟨rfl, _⟩ := link_some e
              simp only [] at l3 hL hC
              refine ⟨by simp only []; omega, ⟨0, [x], insL s.places b.kids.length⟩ :: L ++ [⟨0, outsL s.places b.kids.length, [y]⟩], by simp [hL], fun a => C a ∨ a = outsL s.places b.kids.length, ?_, hD.or (DJ.one _) ?_, ?_⟩
              · simp only []
                rintro a (h | rfl) q hq
                · rcases hC a h q hq with ⟨i, h1, h2, h3⟩ | h <;> omega
                · obtain ⟨i, h1, h2, h3⟩ := mem_outs hq; omega
              · rintro a b' q ha rfl hqa hqb
                obtain ⟨j, h4, h5, h6⟩ := mem_outs hqb
                rcases hC a ha q hqa with ⟨i, h1, h2, h3⟩ | h <;> omega
              · intro l hl
                rcases List.mem_append.1 hl with h | h
                · rcases List.mem_cons.1 h with rfl | h
                  · exact .inl rfl
                  · exact .inr (.inl (hm l h))
                · rw [List.mem_singleton.1 h]; exact .inr (.inr rfl)
            · obtain ⟨s1, e1, e⟩ := Option.bind_eq_some_iff.1 e
              replace e := Option.bind_eq_some_iff.1 e
              obtain ⟨s2, e2, e⟩ := e
              replace e := Option.bind_eq_some_iff.1 e
              obtain ⟨s3, e3, e⟩ := e
              replace e := Option.bind_eq_some_iff.1 e
              obtain ⟨s4, e4, e⟩ := e
              replace e := Option.bind_eq_some_iff.1 e
              obtain ⟨s5, e5, e⟩ := e
              have hlen := k6 (by omega)
              obtain ⟨rfl, _⟩ := place_some e1
              obtain ⟨rfl, _⟩ := place_some e2
              obtain ⟨rfl, _⟩ := link_some e3
              obtain ⟨l4, L1, hL1, C1, hC1, hD1, hm1⟩ := ih _ _ _ _ _ (k7 _ (ix_mem (by omega))) (by simp only []; omega) e4
              simp only [] at l4 hL1 hC1
              obtain ⟨l5, L2, hL2, C2, hC2, hD2, hm2⟩ := ih _ _ _ _ _ (k7 _ (ix_mem (by omega))) (by omega) e5
              obtain ⟨rfl, _⟩ := link_some e
              refine ⟨by simp only []; omega, ⟨0, [x], [s.places]⟩ :: (L1 ++ L2) ++ [⟨0, [s.places + 1], [y]⟩], by simp [hL2, hL1], fun a => ((a = [s.places] ∨ a = [s.places + 1]) ∨ C1 a) ∨ C2 a, ?_, (((DJ.one _).or (DJ.one _) ?_).or hD1 ?_).or hD2 ?_, ?_⟩
              · simp only []
                rintro a (((rfl | rfl) | h) | h) q hq
                · rw [List.mem_singleton.1 hq]; omega
                · rw [List.mem_singleton.1 hq]; omega
                · have := hC1 a h q hq; omega
                · have := hC2 a h q hq; omega
              · rintro a b' q rfl rfl h1 h2
                rw [List.mem_singleton.1 h1] at h2
                have := List.mem_singleton.1 h2; omega
              · rintro a b' q (rfl | rfl) hb h1 h2
                · rw [List.mem_singleton.1 h1] at h2
                  have := hC1 b' hb _ h2; omega
                · rw [List.mem_singleton.1 h1] at h2
                  have := hC1 b' hb _ h2; omega
              · rintro a b' q ((rfl | rfl) | ha) hb h1 h2
                · rw [List.mem_singleton.1 h1] at h2
                  have := hC2 b' hb _ h2; omega
                · rw [List.mem_singleton.1 h1] at h2
                  have := hC2 b' hb _ h2; omega
                · have := hC1 a ha q h1
                  have := hC2 b' hb q h2; omega
              · intro l hl
                rcases List.mem_append.1 hl with h | h
                · rcases List.mem_cons.1 h with rfl | h
                  · exact .inl rfl
                  · rcases List.mem_append.1 h with h | h
                    · rcases hm1 l h with h | h
                      · exact .inr (.inl (.inl (.inl h)))
                      · exact .inr (.inl (.inr h))
                    · rcases hm2 l h with h | h
                      · exact .inr (.inl (.inl (.inr h)))
                      · exact .inr (.inr h)
                · rw [List.mem_singleton.1 h]; exact .inr (.inl (.inl (.inr rfl)))
/-- of what has grown, links that take from one place take from the same -/
theorem grown_free {n : Nat} {b : BlockD} {s : GS} (hb : OkB n b) (h : growF n b 0 1 ⟨2, []⟩ = some s) : ∀ l ∈ s.links, ∀ m ∈ s.links, ∀ p, p ∈ l.pre → p ∈ m.pre → l.pre = m.pre := by
  obtain ⟨_, L, hL, C, hC, hD, hm⟩ := grow_free n b 0 1 ⟨2, []⟩ s hb (by simp) h
  simp only [] at hL hC
  rw [List.nil_append] at hL
  rw [hL]
  intro l hl m hm' p hp hq
  rcases hm l hl with h1 | h1 <;> rcases hm m hm' with h2 | h2
  · rw [h1, h2]
  · rw [h1] at hp
    rw [List.mem_singleton.1 hp] at hq
    have := hC _ h2 _ hq; omega
  · rw [h2] at hq
    rw [List.mem_singleton.1 hq] at hp
    have := hC _ h1 _ hp; omega
  · exact hD _ _ p h1 h2 hp hq

/-! ### weights -/
theorem nth_setp (xs : List Int) (i : Nat) (v : Int) (p : Nat) : nth (xs.set i v) p = if i = p ∧ p < xs.length then v else nth xs p := by
  unfold nth
  rw [List.getD_eq_getElem?_getD, List.getD_eq_getElem?_getD, List.getElem?_set]
  split
  · rename_i h
    subst h
    split
    · rename_i h; simp [h]
    · rename_i h; simp [h]
  · rename_i h; simp [h]
theorem fold_nth : ∀ (l out : List Int) (p : Nat), p < out.length → (∀ q ∈ l, 0 ≤ q) → nth (l.foldl (fun out q => out.set q.toNat 1) out) p = if (p : Int) ∈ l then 1 else nth out p := by
  intro l
  induction l with
  | nil => intro out p _ _; simp
  | cons a r ih =>
    intro out p hp hq
    rw [List.foldl_cons, ih _ p (by rw [List.length_set]; exact hp) (fun q h => hq q (by simp [h])), nth_setp]
    have ha := hq a (by simp)
    by_cases h1 : (p : Int) ∈ r
    · simp [h1]
    · by_cases h2 : (p : Int) = a
      · have : a.toNat = p := by omega
        simp [h2, this, hp]
      · have : ¬ a.toNat = p := by omega
        simp [h1, h2, this]
theorem fold_len : ∀ (l out : List Int), (l.foldl (fun out q => out.set q.toNat 1) out).length = out.length := by
  intro l
  induction l with
  | nil => intro out; rfl
  | cons a r ih => intro out; rw [List.foldl_cons, ih, List.length_set]
theorem weights_len (n : Nat) (l : List Int) : (weightsF n l).length = n := by unfold weightsF; rw [fold_len]; simp
theorem weights_nth {n : Nat} {l : List Int} (h : ∀ q ∈ l, 0 ≤ q) {p : Nat} (hp : p < n) : nth (weightsF n l) p = if (p : Int) ∈ l then 1 else 0 := by
  unfold weightsF
  rw [fold_nth l _ p (by simpa using hp) h]
  congr 1
  rw [nth_lt (by simpa using hp)]; simp
theorem weights_mem {n : Nat} {l : List Int} (h : ∀ q ∈ l, 0 ≤ q) : ∀ x ∈ weightsF n l, x = 0 ∨ x = 1 := by
  intro x hx
  obtain ⟨i, hi, rfl⟩ := List.getElem_of_mem hx
  have := weights_nth h (show i < n by rw [weights_len] at hi; exact hi)
  rw [nth_lt hi] at this
  rw [this]
  split <;> simp
theorem net_tr {s : GS} {i : Nat} (h : i < s.links.length) : (netOf s).tr i = ⟨(ix s.links i).label, weightsF s.places.toNat (ix s.links i).pre, weightsF s.places.toNat (ix s.links i).post⟩ := by
  unfold NetD.tr netOf
  simp [h, ix_lt]
theorem grown_net {s : GS} (h : GOk s) : netOkB (netOf s) = true := by
  unfold netOkB
  have h1 := h.lo
  have h2 := h.hi
  have h3 := h.len
  have e1 : (netOf s).places = s.places := rfl
  have e2 : (netOf s).trans.length = s.links.length := by simp [netOf]
  rw [e1, e2]
  simp only [show 0 ≤ s.places by omega, h2, h3, decide_true, Bool.true_and, List.all_eq_true]
  intro t ht
  unfold netOf at ht
  obtain ⟨l, hl, rfl⟩ := List.mem_map.1 ht
  obtain ⟨a1, a2⟩ := h.lab l hl
  have n1 : ∀ q ∈ l.pre, 0 ≤ q := fun q hq => (h.pre l hl q hq).1
  have n2 : ∀ q ∈ l.post, 0 ≤ q := fun q hq => (h.post l hl q hq).1
  have hbad : ∀ {xs : List Int}, (∀ q ∈ xs, 0 ≤ q) → ((weightsF s.places.toNat xs).any badW) = false := fun {xs} hx => by
    rw [Bool.eq_false_iff]
    intro e
    obtain ⟨x, hx', hb⟩ := List.any_eq_true.1 e
    rcases weights_mem hx x hx' with rfl | rfl <;> simp [badW] at hb
  unfold tranOkB
  simp only [a1, a2, weights_len, hbad n1, hbad n2, decide_true, Bool.not_false, Bool.and_true, Int.toNat_of_nonneg (show 0 ≤ s.places by omega)]
/-- GrowFree's law -/
theorem net_free {n : Nat} {b : BlockD} {s : GS} (hb : OkB n b) (h : growF n b 0 1 ⟨2, []⟩ = some s) {i j p : Nat} (hi : i < (netOf s).trans.length) (hj : j < (netOf s).trans.length) (h1 : 0 < nth ((netOf s).tr i).pre p) (h2 : 0 < nth ((netOf s).tr j).pre p) : ((netOf s).tr i).pre = ((netOf s).tr j).pre := by
  have ok := grow_ok hb h
  have e2 : (netOf s).trans.length = s.links.length := by simp [netOf]
  rw [e2] at hi hj
  rw [net_tr hi] at h1
  rw [net_tr hj] at h2
  rw [net_tr hi, net_tr hj]
  simp only [] at h1 h2 ⊢
  have mi : ix s.links i ∈ s.links := ix_mem hi
  have mj : ix s.links j ∈ s.links := ix_mem hj
  by_cases hp : p < s.places.toNat
  · rw [weights_nth (fun q hq => (ok.pre _ mi q hq).1) hp] at h1
    rw [weights_nth (fun q hq => (ok.pre _ mj q hq).1) hp] at h2
    by_cases q1 : (p : Int) ∈ (ix s.links i).pre
    · by_cases q2 : (p : Int) ∈ (ix s.links j).pre
      · rw [grown_free hb h _ mi _ mj _ q1 q2]
      · rw [if_neg q2] at h2; omega
    · rw [if_neg q1] at h1; omega
  · rw [nth_ge (by rw [weights_len]; omega)] at h1; omega
end Go.Tok
