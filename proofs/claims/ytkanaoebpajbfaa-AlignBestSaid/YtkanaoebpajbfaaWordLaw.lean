/- Plain laws of tongue.Words: what is heard, and the words, as functions. -/
import Derived.Test.YtkanaoebpajbfaaFarLaw
import Derived.Test.YtkanaoebpajbfaaTong5
namespace Go.Tok
open Go.RowKit
set_option linter.unusedVariables false
theorem ext_bool {n : Nat} {xs ys : List Bool} (hx : xs.length = n) (hy : ys.length = n) (h : ∀ k, k < n → (ix xs k = true ↔ ix ys k = true)) : xs = ys := by
  refine ext_ix (by omega) fun k hk => ?_
  have := h k (by omega)
  cases h1 : ix xs k <;> cases h2 : ix ys k <;> simp_all
theorem set_same {xs : List Bool} {k : Nat} (h : ix xs k = true) : xs.set k true = xs := by
  by_cases hk : k < xs.length
  · refine ext_ix (by simp) fun j hj => ?_
    rw [List.length_set] at hj
    rw [ix_setB hk hj]
    split
    · rename_i e; rw [e, h]
    · rfl
  · exact List.set_eq_of_length_le (by omega)
/-! ### where transitions that nobody sees lead -/
def stepS (lab : List Int) (c : List Bool) (x : ArcD) : List Bool := if nth lab x.tran.toNat = 0 ∧ ix c x.src.toNat = true then c.set x.dst.toNat true else c
def passS (lab : List Int) (arcs : List ArcD) (c : List Bool) : List Bool := arcs.foldl (stepS lab) c
def spreadT (lab : List Int) (arcs : List ArcD) : Nat → List Bool → List Bool
  | 0, c => c
  | f + 1, c => spreadT lab arcs f (passS lab arcs c)
theorem stepS_yes {lab : List Int} {c : List Bool} {j t k : Nat} (h1 : nth lab t = 0) (h2 : ix c j = true) : stepS lab c ⟨(j : Int), (t : Int), (k : Int)⟩ = c.set k true := if_pos ⟨by simpa using h1, by simpa using h2⟩
theorem stepS_no {lab : List Int} {c : List Bool} {j t k : Nat} (h : ¬ (nth lab t = 0 ∧ ix c j = true)) : stepS lab c ⟨(j : Int), (t : Int), (k : Int)⟩ = c := if_neg (by simpa using h)
theorem passS_inv {n m : Nat} {lab : List Int} {arcs : List ArcD} {xs c : List Bool} (hok : ArcsOk n m arcs) (h : SprI n lab arcs xs c) : ∀ q, q ≤ arcs.length → SprI n lab arcs xs ((arcs.take q).foldl (stepS lab) c) ∧ ∃ again, TurnI lab arcs q (falsesB c) ((arcs.take q).foldl (stepS lab) c) again := by
  intro q
  induction q with
  | zero => intro _; rw [List.take_zero]; exact ⟨h, false, .inl ⟨rfl, ClosedTo.zero _ _ _, rfl⟩⟩
  | succ q ih =>
    intro hq
    obtain ⟨i1, again, i2⟩ := ih (by omega)
    obtain ⟨j, t, d, he, hj, ht, hd⟩ := hok.at_ (show q < arcs.length by omega)
    have hm : (⟨(j : Int), (t : Int), (d : Int)⟩ : ArcD) ∈ arcs := by rw [← he]; exact ix_mem (by omega)
    rw [take_ix (by omega), List.foldl_append]
    generalize (arcs.take q).foldl (stepS lab) c = cur at *
    simp only [List.foldl_cons, List.foldl_nil]
    rw [he]
    by_cases hc : nth lab t = 0 ∧ ix cur j = true
    · rw [stepS_yes hc.1 hc.2]
      have hS := i1.set hm hc.1 hj hd hc.2
      have hl := i1.len
      cases hb : ix cur d
      · have := falses_set cur d (by omega) hb
        have hfl : falsesB cur ≤ falsesB c := by rcases i2 with ⟨_, _, h⟩ | ⟨_, h⟩ <;> omega
        exact ⟨hS, true, .inr ⟨rfl, by omega⟩⟩
      · rw [set_same hb] at hS ⊢
        exact ⟨hS, again, i2.imp (fun h => ⟨h.1, h.2.1.succ he (fun _ _ => hb), h.2.2⟩) id⟩
    · rw [stepS_no hc]
      exact ⟨i1, again, i2.imp (fun h => ⟨h.1, h.2.1.succ he (fun h1 h2 => absurd ⟨h1, h2⟩ hc), h.2.2⟩) id⟩
theorem passS_turn {n m : Nat} {lab : List Int} {arcs : List ArcD} {xs c : List Bool} (hok : ArcsOk n m arcs) (h : SprI n lab arcs xs c) : SprI n lab arcs xs (passS lab arcs c) ∧ (ClosedTo lab arcs arcs.length (passS lab arcs c) ∨ falsesB (passS lab arcs c) < falsesB c) := by
  obtain ⟨h1, again, h2⟩ := passS_inv hok h arcs.length (Nat.le_refl _)
  rw [List.take_length] at h1 h2
  exact ⟨h1, h2.imp (fun h => h.2.1) (fun h => h.2)⟩
theorem passS_closed {n m : Nat} {lab : List Int} {arcs : List ArcD} {c : List Bool} (hok : ArcsOk n m arcs) (h : ClosedTo lab arcs arcs.length c) : passS lab arcs c = c := by
  have : ∀ q, q ≤ arcs.length → (arcs.take q).foldl (stepS lab) c = c := by
    intro q
    induction q with
    | zero => intro _; simp
    | succ q ih =>
      intro hq
      obtain ⟨j, t, d, he, hj, ht, hd⟩ := hok.at_ (show q < arcs.length by omega)
      rw [take_ix (by omega), List.foldl_append, ih (by omega)]
      simp only [List.foldl_cons, List.foldl_nil]
      rw [he]
      by_cases hc : nth lab t = 0 ∧ ix c j = true
      · rw [stepS_yes hc.1 hc.2, set_same (h q (by omega) j t d he hc.1 hc.2)]
      · rw [stepS_no hc]
  have h1 := this arcs.length (Nat.le_refl _)
  rwa [List.take_length] at h1
theorem spread_fix {lab : List Int} {arcs : List ArcD} {c : List Bool} (h : passS lab arcs c = c) : ∀ f, spreadT lab arcs f c = c
  | 0 => rfl
  | f + 1 => by rw [spreadT, h]; exact spread_fix h f
theorem spread_ok {n m : Nat} {lab : List Int} {arcs : List ArcD} {xs : List Bool} (hok : ArcsOk n m arcs) : ∀ (f : Nat) (c : List Bool), SprI n lab arcs xs c → falsesB c < f → SprI n lab arcs xs (spreadT lab arcs f c) ∧ ClosedTo lab arcs arcs.length (spreadT lab arcs f c) := by
  intro f
  induction f with
  | zero => intro c _ h; omega
  | succ f ih =>
    intro c hS hf
    obtain ⟨h1, h2⟩ := passS_turn hok hS
    rw [spreadT]
    rcases h2 with h2 | h2
    · rw [spread_fix (passS_closed hok h2)]; exact ⟨h1, h2⟩
    · exact ih _ h1 (by omega)
theorem spread_iff {n m : Nat} {lab : List Int} {arcs : List ArcD} {xs : List Bool} (hok : ArcsOk n m arcs) (hl : xs.length = n) : (spreadT lab arcs (n + 1) xs).length = n ∧ ∀ k, k < n → (ix (spreadT lab arcs (n + 1) xs) k = true ↔ Quiet lab arcs (InS n xs) k) := by
  obtain ⟨h1, h2⟩ := spread_ok hok (n + 1) xs (SprI.zero hl) (by have := falses_le xs; omega)
  exact ⟨h1.len, fun k hk => h1.done hok h2 hk⟩
/-! ### what is heard -/
def heardB (lab : List Int) (s : List Bool) (a : Int) (x : ArcD) : Bool := decide (nth lab x.tran.toNat = a) && (decide (0 < a) && ix s x.src.toNat)
def markH (lab : List Int) (arcs : List ArcD) (s : List Bool) (a : Int) (q : Nat) : List Bool := (arcs.take q).foldl (fun c x => if heardB lab s a x = true then c.set x.dst.toNat true else c) (List.replicate s.length false)
def hearF (lab : List Int) (arcs : List ArcD) (s : List Bool) (a : Int) : List Bool × Bool := (spreadT lab arcs (s.length + 1) (markH lab arcs s a arcs.length), arcs.any (heardB lab s a))
theorem any_take {α : Type} [Inhabited α] (f : α → Bool) (l : List α) {q : Nat} (h : q < l.length) : (l.take (q + 1)).any f = ((l.take q).any f || f (ix l q)) := by
  rw [take_ix h, List.any_append]; simp
theorem markH_inv {n m : Nat} {lab : List Int} {arcs : List ArcD} {s : List Bool} (a : Int) (hok : ArcsOk n m arcs) (hs : s.length = n) : ∀ q, q ≤ arcs.length → HearI n lab arcs s a q (markH lab arcs s a q) ((arcs.take q).any (heardB lab s a)) := by
  intro q
  induction q with
  | zero => intro _; unfold markH; rw [List.take_zero]; simp only [List.foldl_nil, List.any_nil]; rw [hs]; exact HearI.zero _ _ _ _ _
  | succ q ih =>
    intro hq
    have i1 := ih (by omega)
    obtain ⟨j, t, d, he, hj, ht, hd⟩ := hok.at_ (show q < arcs.length by omega)
    rw [any_take _ _ (by omega)]
    unfold markH at i1 ⊢
    rw [take_ix (by omega), List.foldl_append]
    simp only [List.foldl_cons, List.foldl_nil]
    rw [he]
    generalize hcur : (arcs.take q).foldl (fun c x => if heardB lab s a x = true then c.set x.dst.toNat true else c) (List.replicate s.length false) = cur at *
    by_cases hc : nth lab t = a ∧ 0 < a ∧ ix s j = true
    · have hb : heardB lab s a ⟨(j : Int), (t : Int), (d : Int)⟩ = true := by unfold heardB; simp [hc.1, hc.2.1, hc.2.2]
      rw [if_pos hb, hb, Bool.or_true]
      exact i1.yes he hd hc.1 hc.2.1 hc.2.2
    · have hb : heardB lab s a ⟨(j : Int), (t : Int), (d : Int)⟩ = false := by
        unfold heardB
        cases h : (decide (nth lab ((t : Int)).toNat = a) && (decide (0 < a) && ix s ((j : Int)).toNat))
        · rfl
        · simp at h; exact absurd h hc
      rw [if_neg (by rw [hb]; simp), hb, Bool.or_false]
      exact i1.no he hc
theorem hearF_ok {n m : Nat} {lab : List Int} {arcs : List ArcD} {s : List Bool} (a : Int) (hok : ArcsOk n m arcs) (hs : s.length = n) : HearR n lab arcs s a (hearF lab arcs s a).1 (hearF lab arcs s a).2 := by
  have h := markH_inv (lab := lab) a hok hs arcs.length (Nat.le_refl _)
  rw [List.take_length] at h
  obtain ⟨h1, h2⟩ := spread_iff (lab := lab) hok h.len
  unfold hearF
  simp only []
  rw [hs]
  exact h.done hok h1 h2
theorem hearF_eq {n m : Nat} {lab : List Int} {arcs : List ArcD} {s ys : List Bool} {a : Int} {b : Bool} (hok : ArcsOk n m arcs) (hs : s.length = n) (h : HearR n lab arcs s a ys b) : hearF lab arcs s a = (ys, b) := by
  have h0 := hearF_ok (lab := lab) a hok hs
  refine Prod.ext ?_ ?_
  · exact ext_bool h0.1 h.1 fun k hk => by rw [h0.2.1 k hk, h.2.1 k hk]
  · have h1 := h0.2.2
    have h2 := h.2.2
    have : ((hearF lab arcs s a).2 = true ↔ b = true) := by rw [h1, h2]
    cases h3 : (hearF lab arcs s a).2 <;> cases b <;> simp_all
def firstF (n : Nat) (lab : List Int) (arcs : List ArcD) : List Bool := spreadT lab arcs (n + 1) ((List.replicate n false).set 0 true)
theorem firstF_behind {n m : Nat} {lab : List Int} {arcs : List ArcD} (hok : ArcsOk n m arcs) (hn : 0 < n) : Behind n lab arcs [] (firstF n lab arcs) := by
  obtain ⟨h1, h2⟩ := spread_iff (lab := lab) (xs := (List.replicate n false).set 0 true) hok (by simp)
  exact Behind.first h1 h2 hn
theorem behind_eq {n : Nat} {lab : List Int} {arcs : List ArcD} {w : List Int} {s s' : List Bool} (h : Behind n lab arcs w s) (h' : Behind n lab arcs w s') : s = s' :=
  ext_bool h.1 h'.1 fun k hk => by rw [h.2 k hk, h'.2 k hk]
/-! ### the words -/
abbrev StD := List Int × List Bool
structure SayD where
  lab : List Int
  arcs : List ArcD
  en : List Bool
  far : List Int
  letters : List Int
  most : Int
def SayD.hope (D : SayD) (s : List Bool) : Int := hopeTo D.far s D.en.length
def SayD.ends (D : SayD) (s : List Bool) : Bool := (List.range D.en.length).any fun k => ix s k && ix D.en k
theorem SayD.ends_iff (D : SayD) (s : List Bool) : D.ends s = true ↔ ∃ k, k < D.en.length ∧ ix s k = true ∧ ix D.en k = true := by
  unfold SayD.ends
  rw [List.any_eq_true]
  constructor
  · rintro ⟨k, h1, h2⟩
    rw [Bool.and_eq_true] at h2
    exact ⟨k, List.mem_range.1 h1, h2.1, h2.2⟩
  · rintro ⟨k, h1, h2, h3⟩
    exact ⟨k, List.mem_range.2 h1, by rw [h2, h3]; rfl⟩
/-- the letter a behind s, at length k -/
def SayD.goB (D : SayD) (k : Nat) (s : StD) (a : Int) : Bool := (hearF D.lab D.arcs s.2 a).2 && (decide (0 ≤ D.hope (hearF D.lab D.arcs s.2 a).1) && decide ((k : Int) + 1 + D.hope (hearF D.lab D.arcs s.2 a).1 ≤ D.most))
def SayD.go (D : SayD) (k : Nat) (s : StD) (a : Int) : List StD := if D.goB k s a = true then [(s.1 ++ [a], (hearF D.lab D.arcs s.2 a).1)] else []
def SayD.moreOf (D : SayD) (k : Nat) (s : StD) (q : Nat) : List StD := (D.letters.take q).flatMap (D.go k s)
def SayD.outTo (D : SayD) (now : List StD) (j : Nat) : List (List Int) := (now.take j).flatMap fun s => if D.ends s.2 = true then [s.1] else []
def SayD.moreTo (D : SayD) (k : Nat) (now : List StD) (j : Nat) : List StD := (now.take j).flatMap fun s => D.moreOf k s D.letters.length
/-- none: there are too many -/
def SayD.wordsF (D : SayD) : Nat → Nat → List StD → List (List Int) → Option (List (List Int))
  | 0, _, _, out => some out
  | f + 1, k, now, out => if 400 < (out ++ D.outTo now now.length).length ∨ 400 < (D.moreTo k now now.length).length then none else D.wordsF f (k + 1) (D.moreTo k now now.length) (out ++ D.outTo now now.length)
theorem SayD.moreOf_zero (D : SayD) (k : Nat) (s : StD) : D.moreOf k s 0 = [] := by simp [SayD.moreOf]
theorem SayD.moreOf_succ (D : SayD) (k : Nat) (s : StD) {q : Nat} (h : q < D.letters.length) : D.moreOf k s (q + 1) = D.moreOf k s q ++ D.go k s (nth D.letters q) := by
  unfold SayD.moreOf
  rw [List.take_succ_eq_append_getElem h, List.flatMap_append, nth_lt h]; simp
theorem SayD.outTo_zero (D : SayD) (now : List StD) : D.outTo now 0 = [] := by simp [SayD.outTo]
theorem SayD.outTo_succ (D : SayD) {now : List StD} {j : Nat} (h : j < now.length) : D.outTo now (j + 1) = D.outTo now j ++ (if D.ends (ix now j).2 = true then [(ix now j).1] else []) := by
  unfold SayD.outTo; rw [take_ix h, List.flatMap_append]; simp
theorem SayD.moreTo_zero (D : SayD) (k : Nat) (now : List StD) : D.moreTo k now 0 = [] := by simp [SayD.moreTo]
theorem SayD.moreTo_succ (D : SayD) (k : Nat) {now : List StD} {j : Nat} (h : j < now.length) : D.moreTo k now (j + 1) = D.moreTo k now j ++ D.moreOf k (ix now j) D.letters.length := by
  unfold SayD.moreTo; rw [take_ix h, List.flatMap_append]; simp
theorem flatMap_take_le {α β : Type} (f : α → List β) (l : List α) (j : Nat) : ((l.take j).flatMap f).length ≤ (l.flatMap f).length := by
  conv => rhs; rw [← List.take_append_drop j l, List.flatMap_append, List.length_append]
  omega
theorem SayD.full (D : SayD) {f k j : Nat} {now : List StD} {out : List (List Int)} (h : 400 < (out ++ D.outTo now j).length ∨ 400 < (D.moreTo k now j).length) : D.wordsF (f + 1) k now out = none := by
  have h1 := flatMap_take_le (fun s : StD => if D.ends s.2 = true then [s.1] else []) now j
  have h2 := flatMap_take_le (fun s : StD => D.moreOf k s D.letters.length) now j
  rw [SayD.wordsF, if_pos]
  unfold SayD.outTo SayD.moreTo at *
  rw [List.take_length]
  rw [List.length_append] at *
  rcases h with h | h
  · left; omega
  · right; omega
theorem SayD.next (D : SayD) {f k : Nat} {now : List StD} {out : List (List Int)} (h1 : (out ++ D.outTo now now.length).length ≤ 400) (h2 : (D.moreTo k now now.length).length ≤ 400) : D.wordsF (f + 1) k now out = D.wordsF f (k + 1) (D.moreTo k now now.length) (out ++ D.outTo now now.length) := by
  rw [SayD.wordsF, if_neg (by omega)]
theorem SayD.go_mem (D : SayD) {n m k : Nat} {s x : StD} {a : Int} (hok : ArcsOk n m D.arcs) (hs : s.2.length = n) (h : x ∈ D.go k s a) : x.2.length = n ∧ x.1.length = s.1.length + 1 := by
  unfold SayD.go at h
  split at h
  · rw [List.mem_singleton.1 h]
    exact ⟨(hearF_ok a hok hs).1, by simp⟩
  · simp at h
theorem SayD.moreTo_mem (D : SayD) {n m k j c : Nat} {now : List StD} {x : StD} (hok : ArcsOk n m D.arcs) (hs : ∀ x ∈ now, x.2.length = n ∧ x.1.length ≤ c) (h : x ∈ D.moreTo k now j) : x.2.length = n ∧ x.1.length ≤ c + 1 := by
  unfold SayD.moreTo at h
  obtain ⟨s, h1, h2⟩ := List.mem_flatMap.1 h
  unfold SayD.moreOf at h2
  obtain ⟨a, h3, h4⟩ := List.mem_flatMap.1 h2
  have hs' := hs s (List.mem_of_mem_take h1)
  have := D.go_mem hok hs'.1 h4
  exact ⟨this.1, by omega⟩
theorem SayD.go_no (D : SayD) {k : Nat} {s : StD} {a : Int} {y : List Bool} {b : Bool} (he : hearF D.lab D.arcs s.2 a = (y, b)) (h : ¬ (b = true ∧ 0 ≤ D.hope y ∧ (k : Int) + 1 + D.hope y ≤ D.most)) : D.go k s a = [] := by
  unfold SayD.go SayD.goB
  rw [he]
  simp only [Bool.and_eq_true, decide_eq_true_eq]
  rw [if_neg h]
theorem SayD.go_yes (D : SayD) {k : Nat} {s : StD} {a : Int} {y : List Bool} (he : hearF D.lab D.arcs s.2 a = (y, true)) (h1 : 0 ≤ D.hope y) (h2 : (k : Int) + 1 + D.hope y ≤ D.most) : D.go k s a = [(s.1 ++ [a], y)] := by
  unfold SayD.go SayD.goB
  rw [he]
  simp only [Bool.and_eq_true, decide_eq_true_eq]
  simp [h1, h2]
theorem SayD.hope_le (D : SayD) {n : Nat} {y : List Bool} (hf : ∀ k, k < n → nth D.far k ≤ n) (he : D.en.length = n) (h : 0 ≤ D.hope y) : D.hope y ≤ n := by
  unfold SayD.hope at *
  obtain ⟨⟨j, h1, _, h3⟩, _⟩ := (hopeTo_is D.far y D.en.length).2 h
  rw [← h3]; exact hf j (by omega)
end Go.Tok
