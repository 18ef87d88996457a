/- Contracts of the library's slices.SortFunc with tracks' two orders, at rows of the call's own; rows of pairs. -/
import Derived.Test.YtkanaoebpajbfaaTrk1
import Derived.Test.YtkanaoebpajbfaaSortP
import Derived.Test.YtkanaoebpajbfaaSortRow
namespace Go.Tok
open Go.RowKit Go.Sort
set_option linter.unusedVariables false
def pairCells (p : Int × Int) : List Value := [.int .i64 p.1, .int .i64 p.2]
def pairI (p : Int × Int) : Prop := I64 p.1 ∧ I64 p.2
def pairK : Kind (Int × Int) := flat 2 pairCells pairI (fun _ => rfl) (by intro x u hu; simp [pairCells] at hu; rcases hu with rfl | rfl <;> rfl)
abbrev NoS : Nat → Prop := fun _ => False
theorem cellsOf_pairs : ∀ (rows : List ((Int × Int) × List Value)), (∀ r ∈ rows, r.2 = pairCells r.1) → cellsOf rows = (rows.map (·.1)).flatMap pairCells := by
  intro rows
  induction rows with
  | nil => intro _; rfl
  | cons r rest ih =>
    intro h
    have e : cellsOf (r :: rest) = r.2 ++ cellsOf rest := by simp [cellsOf]
    rw [e, ih (fun r' hr' => h r' (by simp [hr'])), h r (by simp)]; rfl
/-- an own row of pairs, cell by cell -/
theorem own_pairs {e base : Nat} {S : Nat → Prop} {w : World} {v : Value} {xs : List (Int × Int)} : OwnR pairK e base S w v xs ↔ w.ownsRow base e 2 v xs.length (xs.flatMap pairCells) ∧ ∀ x ∈ xs, pairI x := by
  unfold OwnR
  constructor
  · rintro ⟨rows, rfl, hr, hall⟩
    have h1 : ∀ r ∈ rows, r.2 = pairCells r.1 ∧ pairI r.1 := fun r hr => (hall r hr).now
    refine ⟨?_, fun x hx => ?_⟩
    · rw [List.length_map, ← cellsOf_pairs rows fun r hr => (h1 r hr).1]; exact hr
    · obtain ⟨r, hr, rfl⟩ := List.mem_map.1 hx
      exact (h1 r hr).2
  · rintro ⟨h1, h2⟩
    refine ⟨xs.map fun x => (x, pairCells x), by rw [List.map_map]; exact (List.map_id _).symm, ?_, fun r hr => ?_⟩
    · rw [List.length_map, cellsOf_pairs _ (fun r hr => by obtain ⟨x, _, rfl⟩ := List.mem_map.1 hr; rfl), List.map_map]
      have e : List.map ((fun x : (Int × Int) × List Value => x.1) ∘ fun x => (x, pairCells x)) xs = xs := List.map_id _
      rw [e]; exact h1
    · obtain ⟨x, hx, rfl⟩ := List.mem_map.1 hr
      exact On.true (p := pairCells x = pairCells x ∧ pairI x) ⟨rfl, h2 x hx⟩
theorem pairs_at : ∀ (xs : List (Int × Int)) (t : Nat), t < xs.length * 2 → (xs.flatMap pairCells)[t]? = some ((pairCells (ix xs (t / 2)))[t % 2]!) := by
  intro xs
  induction xs with
  | nil => intro t ht; simp at ht
  | cons x xs ih =>
    intro t ht
    rw [List.flatMap_cons]
    by_cases h : t < 2
    · have h1 : t / 2 = 0 := by omega
      rw [h1, ix_zero, List.getElem?_append_left (by simpa [pairCells] using h)]
      have : t = 0 ∨ t = 1 := by omega
      rcases this with rfl | rfl <;> simp [pairCells]
    · obtain ⟨q, rfl⟩ : ∃ q, t = q + 2 := ⟨t - 2, by omega⟩
      rw [List.getElem?_append_right (by simp [pairCells])]
      have e1 : q + 2 - (pairCells x).length = q := by simp [pairCells]
      have e2 : (q + 2) / 2 = q / 2 + 1 := by omega
      have e3 : (q + 2) % 2 = q % 2 := by omega
      rw [e1, e2, e3, ix_succ]
      exact ih q (by simp at ht; omega)
theorem put_pairs (cur : Array Value) (ts : List (Int × Int)) (h : ts.length * 2 ≤ cur.size) : (putCells id 0 (flatK pairCells 2 ts.toArray) cur).toList.take (ts.length * 2) = ts.flatMap pairCells := by
  have hl : (ts.flatMap pairCells).length = ts.length * 2 := by
    clear h
    induction ts with
    | nil => rfl
    | cons x xs ih => rw [List.flatMap_cons, List.length_append, ih, List.length_cons]; simp [pairCells]; omega
  apply List.ext_getElem?
  intro j
  by_cases hj : j < ts.length * 2
  · rw [List.getElem?_take_of_lt hj, Array.getElem?_toList, pairs_at ts j hj]
    have hd : j / 2 < ts.length := by omega
    have e := get_flatK pairCells 2 ts.toArray j (by simpa using hj)
    rw [getElem!_pos _ j (by simpa using hj)] at e
    simp [putCells, hj, show j < cur.size by omega, e, ix_lt hd, hd]
  · rw [List.getElem?_take_eq_none (by omega), List.getElem?_eq_none (by omega)]
theorem lex_pair (a b : Int × Int) : (¬ lexC [b.1, b.2] [a.1, a.2] < 0) ↔ leP a b := by
  unfold leP
  simp only [lexC, cmpI]
  by_cases h1 : b.1 < a.1
  · simp [h1]; omega
  · by_cases h2 : a.1 < b.1
    · simp [h1, h2]
    · have h3 : b.1 = a.1 := by omega
      by_cases h4 : b.2 < a.2
      · simp [h3, h4]
      · by_cases h5 : a.2 < b.2
        · simp [h3, h4, h5]; omega
        · simp [h3, h4, h5]; omega
end Go.Tok
namespace Go.Proofs.Ytkanaoebpajbfaa
open Go.RowKit Go.Tok Go.Sort
set_option linter.unusedVariables false
theorem pairTy : KTy Try.prog 64 71 pairK 16 (.agg #[.int .i64 0, .int .i64 0]) := ⟨Try.underlying64, by kernel_rfl, rfl, by decide⟩
theorem swo_num {n : Nat} (f : Fin n → Int) : SWO (ltOf fun i j => f i - f j) where
  irrefl x := by
    show decide (f x - f x < 0) = false
    simp
  trans x y z h1 h2 := by
    simp only [ltOf, decide_eq_true_eq] at *
    omega
  ntrans x y z h1 h2 := by
    simp only [ltOf, decide_eq_false_iff_not] at *
    omega
theorem asc_pairwise {α : Type} [Inhabited α] {R : α → α → Prop} {l : List α} (h : ∀ i j, i < j → j < l.length → R (ix l i) (ix l j)) : l.Pairwise R := by
  rw [List.pairwise_iff_getElem]
  intro i j hi hj hij
  have := h i j hij hj
  rwa [ix_lt hi, ix_lt hj] at this
theorem extract_all {α : Type} (q : Array α) {n : Nat} (hq : q.size = n) : q.extract 0 n = q := by
  apply Array.ext
  · simp [hq]
  · intro i h1 h2; simp
set_option maxHeartbeats 1000000 in
/-- slices.SortFunc(xs, number) -/
theorem SortFuncI_calls (g cap base : Nat) (xs : List Int) (w : World) (h : OwnI 3 base w (.slice (some ⟨g, 0, none⟩) xs.length cap) xs) (h0 : 0 < xs.length) (hl : xs.length ≤ 1000000) (hx : ∀ x ∈ xs, 0 ≤ x ∧ x ≤ 1000000) :
    Calls Try.prog 136 #[.slice (some ⟨g, 0, none⟩) xs.length cap, .func (.func 83) #[] #[]] w fun e w' => e = .returned (.tuple #[]) ∧ OwnI 3 base w' (.slice (some ⟨g, 0, none⟩) xs.length cap) (sortI xs) ∧ w.grownBy w' (some g) := by
  unfold OwnI at h
  obtain ⟨⟨e1, h1⟩, h2⟩ := h
  rcases h1 with ⟨hv, _⟩ | ⟨g', cap', cur, hv, hb, hh, hn, hc, hs, ht⟩
  · cases hv
  cases hv
  haveI : Inhabited (Fin xs.length) := ⟨⟨0, h0⟩⟩
  let enc : Fin xs.length → Value := fun i => .int .i64 xs[i]
  let d : Array (Fin xs.length) := Array.ofFn id
  have hd : d.size = xs.length := by simp [d]
  have hHolds : Holds enc w g 0 d := by
    intro j hj
    have hj' : j < xs.length := by omega
    refine ⟨?_, by simp [World.frozen?, hh]⟩
    have h1 : (cur.toList.take (xs.length * 1))[j]? = (xs.map (Value.int .i64))[j]? := congrArg (·[j]?) ht
    rw [List.getElem?_take_of_lt (by omega)] at h1
    simp only [World.cell?, hh, Nat.zero_add]
    simp only [Option.isSome_none, Bool.false_eq_true, if_false]
    rw [← Array.getElem?_toList, h1]
    have hdj : d[j]! = ⟨j, hj'⟩ := by simp [d, hj']
    rw [hdj]
    simp [enc, hj']
  have hcmp : CmpLays1 Try.prog 83 #[] enc (fun i j => xs[i] - xs[j]) g 0 d.size w := by
    intro m os dk hk x y
    change Calls Try.prog 83 #[enc x, enc y] _ _
    refine (number_calls _ _ (hx _ (List.getElem_mem x.2)) (hx _ (List.getElem_mem y.2)) _).mono ?_
    rintro _ w' ⟨rfl, rfl⟩
    exact ⟨rfl, 0, #[], by rw [grow_empty]; rfl⟩
  have hcon := Try.slices_SortFunc_f136 enc (fun i => rfl) (fun i j => xs[i] - xs[j]) (swo_num fun i => xs[i]) 83 #[] g 0 cap d w (Go.Proofs.enters_of Try.func83 (by kernel_rfl) rfl) hcmp hHolds (Array.getElem?_eq_some_iff.1 hh).1 (by omega)
  rw [hd] at hcon
  refine hcon.mono ?_
  rintro _ w' ⟨rfl, d', n, os, ⟨hp1, _, hp3⟩, hS, rfl⟩
  have hd' : d'.size = xs.length := by rw [hp1, hd]
  have hperm : d'.toList.Perm d.toList := by
    rw [extract_all d' hd', extract_all d hd] at hp3
    exact hp3
  have hdl : d.toList.map (fun i => xs[i]) = xs := by
    apply List.ext_getElem
    · simp [d]
    · intro i h1 h2; simp [d]
  have hrows : (d'.toList.map fun i => xs[i]).Perm xs := by
    have := hperm.map fun i => xs[i]
    rwa [hdl] at this
  have hix : ∀ j, j < xs.length → ix (d'.toList.map fun i => xs[i]) j = xs[d'[j]!] := fun j hj => by
    rw [ix_lt (by simp; omega)]
    simp [hd', hj]
  have hsrt : sortI xs = d'.toList.map fun i => xs[i] := sortI_is hrows (asc_pairwise fun i j hij hj => by
    have hj' : j < xs.length := by simpa [hd'] using hj
    rw [hix j hj', hix i (by omega)]
    have := hS i j (Nat.zero_le _) hij hj'
    simp only [ltOf, decide_eq_false_iff_not] at this
    omega)
  refine ⟨rfl, ?_, sortWorld_grown⟩
  rw [hsrt]
  unfold OwnI
  refine ⟨?_, fun x hx => h2 x (hrows.mem_iff.1 hx)⟩
  have hl' : (d'.toList.map fun i => xs[i]).length = xs.length := by simp [hd']
  rw [hl']
  refine ⟨by simp [hd'], .inr ⟨g, cap, _, rfl, hb, heap_put d' hh, hn, hc, by simp [putCells]; omega, ?_⟩⟩
  have tk := take_put (enc := enc) cur d' (by rw [hd', hs]; omega)
  rw [hd'] at tk
  rw [Nat.mul_one, tk, List.map_map]
  rfl
set_option maxHeartbeats 1000000 in
/-- slices.SortFunc(xs, pair) -/
theorem SortFuncP_calls (F0 : Nat) (eg : ∀ args w, (callFunc F0 args).run Try.prog w = .ok (.enter F0 args) w) (hF : ∀ (a b : Int × Int), pairI a → pairI b → ∀ w, Calls Try.prog F0 #[.agg #[.int .i64 a.1, .int .i64 a.2], .agg #[.int .i64 b.1, .int .i64 b.2]] w fun e w' => e = .returned (.int .i64 (lexC [a.1, a.2] [b.1, b.2])) ∧ ∃ q, w' = ((w.alloc (.cells #[.int .i64 a.1, .int .i64 a.2] 71)).alloc (.cells #[.int .i64 b.1, .int .i64 b.2] 71)).drewN q)
    (g cap base : Nat) (S : Nat → Prop) (xs : List (Int × Int)) (w : World) (h : OwnR pairK 71 base S w (.slice (some ⟨g, 0, none⟩) xs.length cap) xs) (h0 : 0 < xs.length) (hl : xs.length ≤ 1000000) :
    Calls Try.prog 32 #[.slice (some ⟨g, 0, none⟩) xs.length cap, .func (.func F0) #[] #[]] w fun e w' => e = .returned (.tuple #[]) ∧ OwnR pairK 71 base S w' (.slice (some ⟨g, 0, none⟩) xs.length cap) (sortP xs) ∧ w.grownBy w' (some g) := by
  rw [own_pairs] at h
  obtain ⟨⟨e1, h1⟩, h2⟩ := h
  rcases h1 with ⟨hv, _⟩ | ⟨g', cap', cur, hv, hb, hh, hn, hc, hs, ht⟩
  · cases hv
  cases hv
  haveI : Inhabited (Fin xs.length) := ⟨⟨0, h0⟩⟩
  let enc : Fin xs.length → List Value := fun i => pairCells xs[i]
  let d : Array (Fin xs.length) := Array.ofFn id
  have hd : d.size = xs.length := by simp [d]
  have hflat : ∀ (q : Array (Fin xs.length)), flatK enc 2 q = flatK pairCells 2 (q.toList.map fun i => xs[i]).toArray := by
    intro q
    refine ext_get! (by simp) fun t ht => ?_
    have ht' : t < q.size * 2 := by simpa using ht
    rw [get_flatK _ _ _ t ht', get_flatK _ _ _ t (by simpa using ht')]
    have hq : t / 2 < q.size := by omega
    simp [enc, hq]
  have hdl : d.toList.map (fun i => xs[i]) = xs := by
    apply List.ext_getElem
    · simp [d]
    · intro i h1 h2; simp [d]
  have hHolds : HoldsK enc 2 w g 0 d := by
    intro j hj
    have hj' : j < xs.length * 2 := by rw [size_flatK, hd] at hj; exact hj
    refine ⟨?_, by simp [World.frozen?, hh]⟩
    have h1 : (cur.toList.take (xs.length * 2))[j]? = (xs.flatMap pairCells)[j]? := congrArg (·[j]?) ht
    rw [List.getElem?_take_of_lt hj', pairs_at xs j hj'] at h1
    simp only [World.cell?, hh, Nat.zero_add]
    simp only [Option.isSome_none, Bool.false_eq_true, if_false]
    rw [← Array.getElem?_toList, h1, hflat, hdl, get_flatK _ _ _ j (by simpa using hj')]
    have hq : j / 2 < xs.length := by omega
    simp [ix_lt hq, hq]
  have hcmp : CmpLays Try.prog F0 #[] enc 2 (fun i j => lexC [xs[i].1, xs[i].2] [xs[j].1, xs[j].2]) g 0 d.size w := by
    intro m os dk hk x y
    refine (hF xs[x] xs[y] (h2 _ (List.getElem_mem x.2)) (h2 _ (List.getElem_mem y.2)) _).mono ?_
    rintro _ w' ⟨rfl, q, rfl⟩
    refine ⟨rfl, q, #[.cells #[.int .i64 xs[x].1, .int .i64 xs[x].2] 71, .cells #[.int .i64 xs[y].1, .int .i64 xs[y].2] 71], ?_⟩
    rw [alloc_eq_grow, alloc_eq_grow, grow_grow]
    rfl
  have hcon := Try.slices_SortFunc_pair 2 (by intro w; kernel_rfl) (by intro w; kernel_rfl) enc (fun _ => rfl) (fun x v hv => by simp [enc, pairCells] at hv; rcases hv with rfl | rfl <;> rfl) (fun i j => lexC [xs[i].1, xs[i].2] [xs[j].1, xs[j].2]) (swo_lex fun i => [xs[i].1, xs[i].2]) F0 #[] g 0 cap d w eg hcmp hHolds (Array.getElem?_eq_some_iff.1 hh).1 (by omega)
  rw [hd] at hcon
  refine hcon.mono ?_
  rintro _ w' ⟨rfl, d', n, os, ⟨hp1, _, hp3⟩, hS, rfl⟩
  have hd' : d'.size = xs.length := by rw [hp1, hd]
  have hperm : d'.toList.Perm d.toList := by
    rw [extract_all d' hd', extract_all d hd] at hp3
    exact hp3
  have hrows : (d'.toList.map fun i => xs[i]).Perm xs := by
    have := hperm.map fun i => xs[i]
    rwa [hdl] at this
  have hix : ∀ j, j < xs.length → ix (d'.toList.map fun i => xs[i]) j = xs[d'[j]!] := fun j hj => by
    rw [ix_lt (by simp; omega)]
    simp [hd', hj]
  have hsrt : sortP xs = d'.toList.map fun i => xs[i] := sortP_is hrows (asc_pairwise fun i j hij hj => by
    have hj' : j < xs.length := by simpa [hd'] using hj
    rw [hix j hj', hix i (by omega)]
    have := hS i j (Nat.zero_le _) hij hj'
    simp only [ltOf, decide_eq_false_iff_not] at this
    exact (lex_pair _ _).1 this)
  refine ⟨rfl, ?_, sortWorld_grown (enc := id) (d := flatK enc 2 d')⟩
  rw [hsrt, own_pairs]
  refine ⟨?_, fun x hx => h2 x (hrows.mem_iff.1 hx)⟩
  have hl' : (d'.toList.map fun i => xs[i]).length = xs.length := by simp [hd']
  rw [hl']
  refine ⟨?_, .inr ⟨g, cap, _, rfl, hb, heap_put (enc := id) (flatK enc 2 d') hh, hn, hc, by simp [putCells]; omega, ?_⟩⟩
  · have : ∀ l : List (Int × Int), (l.flatMap pairCells).length = l.length * 2 := by
      intro l
      induction l with
      | nil => rfl
      | cons x xs ih => rw [List.flatMap_cons, List.length_append, ih, List.length_cons]; simp [pairCells]; omega
    rw [this, hl']
  · rw [hflat]
    have tk := put_pairs cur (d'.toList.map fun i => xs[i]) (by rw [hl', hs]; omega)
    rw [hl'] at tk
    exact tk
end Go.Proofs.Ytkanaoebpajbfaa
