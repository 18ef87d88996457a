/- The contract of the library's slices.SortFunc with slices.Compare at rows of ints: the rows of a row of the call's own, in another order, none behind a greater one. -/
import Derived.Test.YtkekamffmmokmaaCmpI
import Derived.Test.YtkekamffmmokmaaPA
import Derived.Test.YtkekamffmmokmaaGM
import Derived.Test.YtkekamffmmokmaaGR
namespace Go.Tok
open Go.RowKit Go.Sort Go.Proofs
/-- none stands ahead of one that is less -/
def AscC (l : List (List Int)) : Prop := ∀ i j, i < j → j < l.length → ¬ lexC (ix l j) (ix l i) < 0
theorem swo_lex {n : Nat} (f : Fin n → List Int) : SWO (ltOf fun i j => lexC (f i) (f j)) where
  irrefl x := by
    show decide (lexC (f x) (f x) < 0) = false
    rw [lex_self]; decide
  trans x y z h1 h2 := by
    have h1' : lexC (f x) (f y) < 0 := by simpa [ltOf] using h1
    have h2' : lexC (f y) (f z) < 0 := by simpa [ltOf] using h2
    have := lex_trans _ _ _ h1' h2'
    simpa [ltOf] using this
  ntrans x y z h1 h2 := by
    have h1' : ¬ lexC (f x) (f y) < 0 := by simpa [ltOf] using h1
    have h2' : ¬ lexC (f y) (f z) < 0 := by simpa [ltOf] using h2
    have := lex_ge_trans _ _ _ h1' h2'
    simpa [ltOf] using this
theorem heap_put {α : Type} [Inhabited α] {enc : α → Value} {w : World} {g n : Nat} {os : Array Obj} {cur : Array Value} {e : TypeId} {fr : Nat × Nat} (d : Array α) (hb : w.heap[g]? = some (.cells cur e fr)) :
    (sortWorld enc w g 0 n d os).heap[g]? = some (.cells (putCells enc 0 d cur) e fr) := by
  have hg : g < w.heap.size := (Array.getElem?_eq_some_iff.1 hb).1
  unfold sortWorld
  rw [heap_grow_old _ _ (by simpa using hg)]
  simp [putRow, mapBlock, Sort.ahead, Array.getElem?_modify, hb, onCells]
theorem take_put {α : Type} [Inhabited α] {enc : α → Value} (cur : Array Value) (d : Array α) (h : d.size ≤ cur.size) : (putCells enc 0 d cur).toList.take d.size = d.toList.map enc := by
  apply List.ext_getElem?
  intro j
  by_cases hj : j < d.size
  · rw [List.getElem?_take_of_lt hj, Array.getElem?_toList]
    simp [putCells, hj, show j < cur.size by omega]
  · rw [List.getElem?_take_eq_none (by omega), List.getElem?_eq_none (by simp; omega)]
theorem cellsOf_one {α : Type} : ∀ (rows : List (α × List Value)) (f : α × List Value → Value), (∀ r ∈ rows, r.2 = [f r]) → cellsOf rows = rows.map f := by
  intro rows f
  induction rows with
  | nil => intro _; rfl
  | cons r rest ih =>
    intro h
    have e : cellsOf (r :: rest) = r.2 ++ cellsOf rest := by simp [cellsOf]
    rw [e, ih (fun r' hr' => h r' (by simp [hr'])), h r (by simp)]; rfl
end Go.Tok
namespace Go.Proofs.Ytkekamffmmokmaa
open Go.RowKit Go.Tok Go.Sort
set_option linter.unusedVariables false
theorem sortWorld_grown {α : Type} [Inhabited α] {enc : α → Value} {w : World} {g m : Nat} {d : Array α} {os : Array Obj} : w.grownBy (sortWorld enc w g 0 m d os) (some g) := by
  unfold sortWorld
  refine ⟨rfl, rfl, rfl, by simp, fun k hk hne => ?_⟩
  rw [heap_grow_old _ _ (by simpa using hk)]
  have : g ≠ k := fun e => hne (by rw [e])
  simp [putRow, mapBlock, Sort.ahead, Array.getElem?_modify, this]
theorem SortFuncRow_calls (g cap base : Nat) (S : Nat → Prop) (out : List (List Int)) (w : World) (h : OwnR rowK 25 base S w (.slice (some ⟨g, 0, none⟩) out.length cap) out) (h0 : 0 < out.length) (hl : out.length ≤ 1000) :
    Calls Try.prog 98 #[.slice (some ⟨g, 0, none⟩) out.length cap, .func (.func 58) #[] #[]] w fun e w' => e = .returned (.tuple #[]) ∧
      ∃ out', out'.Perm out ∧ AscC out' ∧ OwnR rowK 25 base S w' (.slice (some ⟨g, 0, none⟩) out.length cap) out' ∧ w.grownBy w' (some g) := by
  unfold OwnR at h
  obtain ⟨rows, rfl, ⟨hsz, hrow⟩, hall⟩ := h
  rw [List.length_map] at *
  rcases hrow with ⟨hv, _⟩ | ⟨g', cap', cur, hv, hb, hh, hn, hc, hs, ht⟩
  · cases hv
  cases hv
  have hne : ∀ r ∈ rows, ∃ u, r.2 = [u] := fun r hr => by
    obtain ⟨u, hu, _⟩ := (hall r hr).now
    exact ⟨u, hu⟩
  let f : List Int × List Value → Value := fun r => r.2.headD undef
  have hf : ∀ r ∈ rows, r.2 = [f r] := fun r hr => by
    obtain ⟨u, hu⟩ := hne r hr
    show r.2 = [r.2.headD undef]
    rw [hu]; rfl
  haveI : Inhabited (Fin rows.length) := ⟨⟨0, h0⟩⟩
  let enc : Fin rows.length → Value := fun i => f rows[i]
  let d : Array (Fin rows.length) := Array.ofFn id
  have hd : d.size = rows.length := by simp [d]
  have hcells := cellsOf_one rows f hf
  have hHolds : Holds enc w g 0 d := by
    intro j hj
    have hj' : j < rows.length := by omega
    refine ⟨?_, by simp [World.frozen?, hh]⟩
    have h1 : (cur.toList.take (rows.length * 1))[j]? = (rows.map f)[j]? := by rw [← hcells]; exact congrArg (·[j]?) ht
    rw [List.getElem?_take_of_lt (by omega)] at h1
    simp only [World.cell?, hh, Nat.zero_add]
    simp only [Option.isSome_none, Bool.false_eq_true, if_false]
    rw [← Array.getElem?_toList, h1]
    have hdj : d[j]! = ⟨j, hj'⟩ := by simp [d, hj']
    rw [hdj]
    simp [enc, hj']
  have hkp : ∀ (m : Nat) (os : Array Obj) (dk : Array (Fin rows.length)), Kp (fun b => S b ∧ (Value.slice (some ⟨g, 0, none⟩) rows.length cap).ownBlock ≠ some b) w (sortWorld enc w g 0 m dk os) := fun m os dk =>
    grown_kp sortWorld_grown fun b hb e => hb.2 (by rw [e]; rfl)
  have hread : ∀ (i : Fin rows.length) (W : World), Kp (fun b => S b ∧ (Value.slice (some ⟨g, 0, none⟩) rows.length cap).ownBlock ≠ some b) w W → Ints W (enc i) rows[i].1 := fun i W k => by
    obtain ⟨u, hu, hi⟩ := ((hall rows[i] (List.getElem_mem i.2)).kp k).now
    show Ints W (rows[i].2.headD undef) _
    rw [hu]; exact hi
  have hcmp : CmpLays1 Try.prog 58 #[] enc (fun i j => lexC rows[i].1 rows[j].1) g 0 d.size w := by
    intro m os dk hk x y
    change Calls Try.prog 58 #[enc x, enc y] _ _
    refine (SCompare_calls _ _ _ _ _ (hread x _ (hkp m os dk)) (hread y _ (hkp m os dk))).mono ?_
    rintro _ w' ⟨rfl, rfl⟩
    exact ⟨rfl, 0, #[], by rw [grow_empty]; rfl⟩
  have hone : OneCell enc := fun i => by
    obtain ⟨a, c, hv, _⟩ := (hread i w (Kp.refl _ _)).len
    rw [hv]; rfl
  have hcon := Try.slices_SortFunc_f98 enc hone (fun i j => lexC rows[i].1 rows[j].1) (swo_lex fun i => rows[i].1) 58 #[] g 0 cap d w (Go.Proofs.enters_of Try.func58 (by kernel_rfl) rfl) hcmp hHolds (Array.getElem?_eq_some_iff.1 hh).1 (by omega)
  rw [hd] at hcon
  refine hcon.mono ?_
  rintro _ w' ⟨rfl, d', n, os, ⟨hp1, _, hp3⟩, hS, rfl⟩
  have hd' : d'.size = rows.length := by rw [hp1, hd]
  have hperm : d'.toList.Perm d.toList := by
    have ex : ∀ (q : Array (Fin rows.length)), q.size = rows.length → q.extract 0 rows.length = q := fun q hq => by
      apply Array.ext
      · simp [hq]
      · intro i h1 h2; simp
    have e1 := ex d' hd'
    have e2 := ex d hd
    rw [e1, e2] at hp3
    exact hp3
  have hdl : d.toList.map (fun i => rows[i]) = rows := by
    apply List.ext_getElem
    · simp [d]
    · intro i h1 h2; simp [d]
  have hrows : (d'.toList.map fun i => rows[i]).Perm rows := by
    have := hperm.map fun i => rows[i]
    rwa [hdl] at this
  have hix : ∀ j, j < rows.length → ix ((d'.toList.map fun i => rows[i]).map (·.1)) j = rows[d'[j]!].1 := fun j hj => by
    rw [ix_lt (by simp; omega)]
    simp [hd', hj]
  refine ⟨rfl, (d'.toList.map fun i => rows[i]).map (·.1), hrows.map _, ?_, ?_, sortWorld_grown⟩
  · intro i j hij hj
    have hj' : j < rows.length := by simpa [hd'] using hj
    rw [hix j hj', hix i (by omega)]
    have := hS i j (Nat.zero_le _) hij hj'
    simpa [ltOf] using this
  · unfold OwnR
    refine ⟨d'.toList.map fun i => rows[i], rfl, ?_, fun r hr => (hall r (hrows.mem_iff.1 hr)).kp (hkp n os d')⟩
    have hl' : (d'.toList.map fun i => rows[i]).length = rows.length := by simp [hd']
    have hc' := cellsOf_one (d'.toList.map fun i => rows[i]) f (fun r hr => hf r (hrows.mem_iff.1 hr))
    rw [hl', hc']
    refine ⟨by simp [hd']; (try show rows.length = rows.length * 1); (try omega), .inr ⟨g, cap, _, rfl, hb, heap_put d' hh, hn, hc, by simp [putCells]; exact hs, ?_⟩⟩
    show ((putCells enc 0 d' cur).toList.take (rows.length * 1)) = _
    have tk := take_put (enc := enc) cur d' (by rw [hd', hs]; show rows.length ≤ cap * 1; omega)
    rw [hd'] at tk
    rw [Nat.mul_one, tk, List.map_map]
    rfl
end Go.Proofs.Ytkekamffmmokmaa
