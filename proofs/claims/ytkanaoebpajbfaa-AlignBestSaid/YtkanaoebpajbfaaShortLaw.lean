/- The words that are listed, and the shortest one. No program is in sight here. -/
import Derived.Test.YtkanaoebpajbfaaTong8
namespace Go.Tok
open Go.RowKit Go.Proofs.Ytkanaoebpajbfaa
set_option linter.unusedVariables false
section
variable {lab : List Int} {arcs : List ArcD} {en : List Bool} {i j k n : Nat} {u p r : List Int} {c : Int}
theorem way_trans (h1 : Way lab arcs i p j) (h2 : Way lab arcs j r k) : Way lab arcs i (p ++ r) k := by
  induction h2 with
  | here => rw [List.append_nil]; exact h1
  | quiet _ ha hl ih => exact .quiet ih ha hl
  | heard _ ha hl ih => rw [← List.append_assoc]; exact .heard ih ha hl
theorem way_split (h : Way lab arcs i u k) : ∀ p r, u = p ++ r → ∃ j, Way lab arcs i p j ∧ Way lab arcs j r k := by
  induction h with
  | here =>
    intro p r hr
    obtain ⟨rfl, rfl⟩ : p = [] ∧ r = [] := by simpa using hr.symm
    exact ⟨i, .here, .here⟩
  | quiet _ ha hl ih =>
    intro p r hr
    obtain ⟨j, h1, h2⟩ := ih p r hr
    exact ⟨j, h1, .quiet h2 ha hl⟩
  | heard h ha hl ih =>
    intro p r hr
    rcases List.eq_nil_or_concat r with rfl | ⟨r', x, rfl⟩
    · rw [List.append_nil] at hr
      exact ⟨_, by rw [← hr]; exact .heard h ha hl, .here⟩
    · rw [List.concat_eq_append, ← List.append_assoc] at hr
      obtain ⟨h1, h2⟩ := List.append_inj' hr rfl
      obtain ⟨j, h3, h4⟩ := ih p r' h1
      refine ⟨j, h3, ?_⟩
      rw [List.concat_eq_append, ← h2]
      exact .heard h4 ha hl
theorem way_far (h : Way lab arcs i u k) : ∀ {c : Int}, FarP lab arcs en k c → FarP lab arcs en i (u.length + c) := by
  induction h with
  | here => intro c h; simpa using h
  | quiet _ ha hl ih =>
    intro c h
    have := FarP.step ha h
    rw [cost_no (by omega), Int.add_zero] at this
    exact ih this
  | heard _ ha hl ih =>
    intro c h
    have := FarP.step ha h
    rw [cost_yes hl] at this
    have := ih this
    rw [List.length_append, List.length_singleton]
    rename_i w j t k h' this'
    have e : ((w.length + 1 : Nat) : Int) + c = (w.length : Int) + (c + 1) := by omega
    rw [e]; exact this
theorem far_way (hok : ArcsOk n lab.length arcs) (hl0 : ∀ t, t < lab.length → 0 ≤ nth lab t) (h : FarP lab arcs en k c) : ∃ u k', Way lab arcs k u k' ∧ k' < en.length ∧ ix en k' = true ∧ (u.length : Int) = c := by
  induction h with
  | base h1 h2 => exact ⟨[], _, .here, h1, h2, rfl⟩
  | step ha _ ih =>
    obtain ⟨u, k', h1, h2, h3, h4⟩ := ih
    rename_i j t k c _
    have ht := hl0 t (hok.of ha).2.1
    by_cases h0 : 0 < nth lab t
    · refine ⟨[nth lab t] ++ u, k', way_trans (Way.heard .here ha h0) h1, h2, h3, ?_⟩
      rw [cost_yes h0, List.length_append, List.length_singleton]; omega
    · refine ⟨[] ++ u, k', way_trans (Way.quiet .here ha (by omega)) h1, h2, h3, ?_⟩
      rw [cost_no h0]; simpa using h4
end
theorem mem_compact {l : List Int} {x : Int} (h : x ∈ l) : x ∈ Go.Lib.compact l := by
  unfold Go.Lib.compact Go.Lib.compactUpTo
  rw [List.mem_map]
  have hex : ∃ j, j < l.length ∧ l.toArray[j]! = x := by
    obtain ⟨j, hj, e⟩ := List.getElem_of_mem h
    exact ⟨j, hj, by rw [getElem!_pos _ j (by simpa using hj)]; simpa using e⟩
  obtain ⟨m, ⟨h1, h2⟩, h3⟩ : ∃ m, (m < l.length ∧ l.toArray[m]! = x) ∧ ∀ j, j < m → ¬ (j < l.length ∧ l.toArray[j]! = x) := by
    obtain ⟨j, hj⟩ := hex
    induction j using Nat.strongRecOn with
    | _ j ih =>
      by_cases hh : ∃ j', j' < j ∧ (j' < l.length ∧ l.toArray[j']! = x)
      · obtain ⟨j', a, b⟩ := hh; exact ih j' a b
      · exact ⟨j, hj, fun j' a b => hh ⟨j', a, b⟩⟩
  refine ⟨m, List.mem_filter.2 ⟨List.mem_range.2 h1, ?_⟩, h2⟩
  unfold Go.Lib.keeps
  rw [decide_eq_true_eq]
  by_cases h0 : m = 0
  · exact .inl h0
  · right
    rw [h2]
    intro he
    exact h3 (m - 1) (by omega) ⟨by omega, he.symm⟩
/-- u leads from the first mark to an end -/
def AccW (lab : List Int) (arcs : List ArcD) (en : List Bool) (u : List Int) : Prop := ∃ k, Way lab arcs 0 u k ∧ k < en.length ∧ ix en k = true
theorem passTo_left {lab : List Int} {arcs : List ArcD} {en : List Bool} {o : List Int} (h : FarI lab arcs en o) (hok : ArcsOk en.length lab.length arcs) : ∀ q, q ≤ arcs.length → leftF o.length (passTo lab arcs q o) ≤ leftF o.length o ∧ (leftF o.length (passTo lab arcs q o) = leftF o.length o → passTo lab arcs q o = o) := by
  intro q
  induction q with
  | zero => intro _; rw [passTo_zero]; exact ⟨Nat.le_refl _, fun _ => rfl⟩
  | succ q ih =>
    intro hq
    obtain ⟨i1, i2⟩ := ih (by omega)
    obtain ⟨j, t, d, he, hj, ht, hd⟩ := hok.at_ (show q < arcs.length by omega)
    have hI := h.passTo hok q (by omega)
    have hl : (passTo lab arcs q o).length = o.length := by rw [hI.len, h.len]
    rw [passTo_succ o (by omega), he]
    rcases step_turn (t := t) hI (by rw [hI.len]; exact hj) (by rw [hI.len]; exact hd) with ⟨e1, _⟩ | e
    · rw [e1]; exact ⟨i1, i2⟩
    · rw [hl] at e
      exact ⟨by omega, fun hh => by omega⟩
theorem passN_done {lab : List Int} {arcs : List ArcD} {en : List Bool} (hok : ArcsOk en.length lab.length arcs) : ∀ (f : Nat) (o : List Int), FarI lab arcs en o → leftF o.length o ≤ f → passA lab arcs (passN lab arcs f o) = passN lab arcs f o := by
  intro f
  induction f with
  | zero =>
    intro o h hf
    have h1 := passTo_left h hok arcs.length (Nat.le_refl _)
    rw [passTo_all] at h1
    exact h1.2 (by omega)
  | succ f ih =>
    intro o h hf
    have h1 := passTo_left h hok arcs.length (Nat.le_refl _)
    rw [passTo_all] at h1
    by_cases he : passA lab arcs o = o
    · rw [passN_fix he]; exact he
    · have hp := h.pass hok
      have hl : (passA lab arcs o).length = o.length := by rw [hp.len, h.len]
      have h2 : leftF o.length (passA lab arcs o) < leftF o.length o := by
        have : leftF o.length (passA lab arcs o) ≠ leftF o.length o := fun e => he (h1.2 e)
        omega
      rw [passN]
      exact ih _ hp (by rw [hl]; omega)
section
variable {D : SayD} {n : Nat}
/-- what the lists of Words stand on -/
structure SayOk (D : SayD) (n : Nat) : Prop where
  n0 : 0 < n
  arcs : ArcsOk n D.lab.length D.arcs
  lab0 : ∀ t, t < D.lab.length → 0 ≤ nth D.lab t
  en : D.en.length = n
  far : D.far = farN D.lab D.arcs D.en
  lets : ∀ t, t < D.lab.length → nth D.lab t ∈ D.letters
theorem SayOk.least (h : SayOk D n) {k : Nat} {c : Int} (hp : FarP D.lab D.arcs D.en k c) : k < n ∧ 0 ≤ nth D.far k ∧ nth D.far k ≤ c := by
  have hok : ArcsOk D.en.length D.lab.length D.arcs := by rw [h.en]; exact h.arcs
  have hI := passN_I hok (D.en.length * (D.en.length + 1))
  have hfix : passA D.lab D.arcs (farN D.lab D.arcs D.en) = farN D.lab D.arcs D.en := by
    refine passN_done hok _ _ (FarI.init _ _ _) ?_
    have h1 := left_le D.en.length (initF D.en) (fun k hk => by
      have h2 := (FarI.init D.lab D.arcs D.en).lt k hk
      have h3 := cnt_le (initF D.en)
      rw [init_len] at h3
      omega)
    rw [init_len] at h1 ⊢
    exact h1
  have := far_least hI hok hfix hp
  rw [h.far]
  refine ⟨?_, this.2⟩
  have h1 := this.1
  rw [hI.len, h.en] at h1
  exact h1
theorem SayOk.is (h : SayOk D n) {k : Nat} (hk : k < n) (h0 : 0 ≤ nth D.far k) : FarP D.lab D.arcs D.en k (nth D.far k) := by
  have hok : ArcsOk D.en.length D.lab.length D.arcs := by rw [h.en]; exact h.arcs
  have hI := passN_I hok (D.en.length * (D.en.length + 1))
  rw [h.far] at h0 ⊢
  exact hI.is k (by rw [hI.len, h.en]; exact hk) h0
theorem SayOk.hope_up (h : SayOk D n) {w r : List Int} {s : List Bool} (hb : Behind n D.lab D.arcs w s) {k : Nat} (hw : Way D.lab D.arcs 0 (w ++ r) k) (hk : k < D.en.length) (he : ix D.en k = true) : 0 ≤ D.hope s ∧ D.hope s ≤ r.length := by
  obtain ⟨j, h1, h2⟩ := way_split hw w r rfl
  have h3 := way_far h2 (.base hk he)
  rw [Int.add_zero] at h3
  obtain ⟨h4, h5, h6⟩ := h.least h3
  have h7 := (hb.2 j h4).2 h1
  have h8 := hopeTo_is D.far s D.en.length
  have h9 : 0 ≤ D.hope s := by
    apply Classical.byContradiction
    intro hn
    have := h8.1 (by unfold SayD.hope at hn; omega) j (by rw [h.en]; exact h4) h7
    omega
  refine ⟨h9, ?_⟩
  have := (h8.2 h9).2 j (by rw [h.en]; exact h4) h7 h5
  unfold SayD.hope
  omega
theorem SayOk.hope_ex (h : SayOk D n) {w : List Int} {s : List Bool} (hb : Behind n D.lab D.arcs w s) (h0 : 0 ≤ D.hope s) : ∃ r, AccW D.lab D.arcs D.en (w ++ r) ∧ (r.length : Int) = D.hope s := by
  obtain ⟨⟨j, h1, h2, h3⟩, _⟩ := (hopeTo_is D.far s D.en.length).2 h0
  rw [h.en] at h1
  have h3' : nth D.far j = D.hope s := h3
  have h4 := h.is h1 (by omega)
  obtain ⟨r, k, h5, h6, h7, h8⟩ := far_way h.arcs h.lab0 h4
  exact ⟨r, ⟨k, way_trans ((hb.2 j h1).1 h2) h5, h6, h7⟩, by rw [h8]; exact h3'⟩
/-- what is listed when all words shorter than r are -/
structure WInv (D : SayD) (n r : Nat) (now : List StD) (out : List (List Int)) : Prop where
  nowB : ∀ x ∈ now, Behind n D.lab D.arcs x.1 x.2 ∧ x.1.length = r
  nowC : ∀ u, AccW D.lab D.arcs D.en u → (u.length : Int) ≤ D.most → r ≤ u.length → ∃ x ∈ now, x.1 = u.take r
  outA : ∀ u ∈ out, AccW D.lab D.arcs D.en u ∧ u.length < r
  outC : ∀ u, AccW D.lab D.arcs D.en u → (u.length : Int) ≤ D.most → u.length < r → u ∈ out
  outS : out.Pairwise (fun a b => a.length ≤ b.length)
theorem WInv.zero (h : SayOk D n) : WInv D n 0 [([], firstF n D.lab D.arcs)] [] :=
  ⟨fun x hx => by rw [List.mem_singleton.1 hx]; exact ⟨firstF_behind h.arcs h.n0, rfl⟩, fun u _ _ _ => ⟨_, List.mem_singleton.2 rfl, by simp⟩, fun u hu => by simp at hu, fun u _ _ hu => by omega, .nil⟩
theorem mem_out {now : List StD} {u : List Int} : u ∈ D.outTo now now.length ↔ ∃ x ∈ now, D.ends x.2 = true ∧ u = x.1 := by
  unfold SayD.outTo
  rw [List.take_length, List.mem_flatMap]
  constructor
  · rintro ⟨x, h1, h2⟩
    by_cases he : D.ends x.2 = true
    · rw [if_pos he] at h2; exact ⟨x, h1, he, List.mem_singleton.1 h2⟩
    · rw [if_neg he] at h2; simp at h2
  · rintro ⟨x, h1, h2, rfl⟩
    exact ⟨x, h1, by rw [if_pos h2]; simp⟩
theorem mem_more {now : List StD} {k : Nat} {y : StD} : y ∈ D.moreTo k now now.length ↔ ∃ x ∈ now, ∃ a ∈ D.letters, y ∈ D.go k x a := by
  unfold SayD.moreTo SayD.moreOf
  rw [List.take_length, List.mem_flatMap, List.take_length]
  simp only [List.mem_flatMap]
theorem ends_acc (h : SayOk D n) {w : List Int} {s : List Bool} (hb : Behind n D.lab D.arcs w s) : D.ends s = true ↔ AccW D.lab D.arcs D.en w := by
  rw [D.ends_iff]
  constructor
  · rintro ⟨k, h1, h2, h3⟩
    exact ⟨k, (hb.2 k (by rw [← h.en]; exact h1)).1 h2, h1, h3⟩
  · rintro ⟨k, h1, h2, h3⟩
    exact ⟨k, h2, (hb.2 k (by rw [← h.en]; exact h2)).2 h1, h3⟩
theorem WInv.step (h : SayOk D n) {r : Nat} {now : List StD} {out : List (List Int)} (hw : WInv D n r now out) : WInv D n (r + 1) (D.moreTo r now now.length) (out ++ D.outTo now now.length) := by
  refine ⟨?_, ?_, ?_, ?_, ?_⟩
  · intro y hy
    obtain ⟨x, hx, a, ha, hg⟩ := mem_more.1 hy
    obtain ⟨h1, h2⟩ := hw.nowB x hx
    unfold SayD.go at hg
    split at hg
    · rw [List.mem_singleton.1 hg]
      exact ⟨h1.next h.arcs h.n0 (hearF_ok a h.arcs h1.1), by simp [h2]⟩
    · simp at hg
  · intro u hu hm hl
    obtain ⟨x, hx, hxu⟩ := hw.nowC u hu hm (by omega)
    obtain ⟨h1, h2⟩ := hw.nowB x hx
    obtain ⟨k, hk, hke, hki⟩ := hu
    have hr : r < u.length := by omega
    have ht : u.take (r + 1) = x.1 ++ [nth u r] := by rw [List.take_succ_eq_append_getElem hr, hxu, nth_lt hr]
    have hsp : u = (x.1 ++ [nth u r]) ++ u.drop (r + 1) := by rw [← ht, List.take_append_drop]
    obtain ⟨j, hj, hj2⟩ := way_split hk _ _ hsp
    have hq := way_snoc.1 hj
    have hH : ∃ q, Heard D.lab D.arcs (Way D.lab D.arcs 0 x.1) (nth u r) q := by
      clear hj hj2
      induction hq with
      | base hb => exact ⟨_, hb⟩
      | step _ _ _ ih => exact ih
    obtain ⟨q, hq2⟩ := hH
    obtain ⟨ha0, j', t', hj', harc, hlab⟩ := id hq2
    have hq3 : q < n := (h.arcs.of harc).2.2
    have ht' := (h.arcs.of harc).2.1
    have hR := hearF_ok (lab := D.lab) (nth u r) h.arcs h1.1
    have hS : InS n x.2 = Way D.lab D.arcs 0 x.1 := funext fun k => propext (h1.iff h.arcs h.n0 k)
    have hsome : (hearF D.lab D.arcs x.2 (nth u r)).2 = true := hR.2.2.2 ⟨q, hq3, by rw [hS]; exact hq2⟩
    have hB := h1.next h.arcs h.n0 hR
    have hhope := h.hope_up hB (r := u.drop (r + 1)) (by rw [← hsp]; exact hk) hke hki
    rw [List.length_drop] at hhope
    refine ⟨(x.1 ++ [nth u r], (hearF D.lab D.arcs x.2 (nth u r)).1), mem_more.2 ⟨x, hx, nth u r, by rw [← hlab]; exact h.lets t' ht', ?_⟩, ht.symm⟩
    rw [D.go_yes (y := (hearF D.lab D.arcs x.2 (nth u r)).1) (by rw [← hsome]) hhope.1 (by omega)]
    exact List.mem_singleton.2 rfl
  · intro u hu
    rcases List.mem_append.1 hu with h1 | h1
    · have := hw.outA u h1; exact ⟨this.1, by omega⟩
    · obtain ⟨x, hx, he, rfl⟩ := mem_out.1 h1
      obtain ⟨h2, h3⟩ := hw.nowB x hx
      exact ⟨(ends_acc h h2).1 he, by omega⟩
  · intro u hu hm hl
    rw [List.mem_append]
    by_cases hlt : u.length < r
    · exact .inl (hw.outC u hu hm hlt)
    · right
      obtain ⟨x, hx, hxu⟩ := hw.nowC u hu hm (by omega)
      rw [List.take_of_length_le (by omega)] at hxu
      subst hxu
      exact mem_out.2 ⟨x, hx, (ends_acc h (hw.nowB x hx).1).2 hu, rfl⟩
  · rw [List.pairwise_append]
    have hlen : ∀ u ∈ D.outTo now now.length, u.length = r := fun u hu => by
      obtain ⟨x, hx, _, rfl⟩ := mem_out.1 hu
      exact (hw.nowB x hx).2
    refine ⟨hw.outS, ?_, fun a ha b hb => ?_⟩
    · exact List.pairwise_of_forall_mem_list fun a ha b hb => by rw [hlen a ha, hlen b hb]; exact Nat.le_refl _
    · have := (hw.outA a ha).2
      rw [hlen b hb]; omega
theorem WInv.all (h : SayOk D n) : ∀ (f r : Nat) (now : List StD) (out res : List (List Int)), WInv D n r now out → D.wordsF f r now out = some res → ∃ now', WInv D n (r + f) now' res
  | 0, r, now, out, res, hw, hr => by
    rw [SayD.wordsF] at hr
    cases hr
    exact ⟨now, hw⟩
  | f + 1, r, now, out, res, hw, hr => by
    rw [SayD.wordsF] at hr
    split at hr
    · cases hr
    · obtain ⟨now', h'⟩ := WInv.all h f (r + 1) _ _ res (hw.step h) hr
      exact ⟨now', by rwa [show r + (f + 1) = r + 1 + f by omega]⟩
/-- the listed words: those that are not longer than most, the shortest first -/
theorem words_are (h : SayOk D n) (hm : 0 ≤ D.most) {res : List (List Int)} (hr : D.wordsF (D.most.toNat + 1) 0 [([], firstF n D.lab D.arcs)] [] = some res) : (∀ u, u ∈ res ↔ AccW D.lab D.arcs D.en u ∧ (u.length : Int) ≤ D.most) ∧ res.Pairwise (fun a b => a.length ≤ b.length) := by
  obtain ⟨now', hw⟩ := WInv.all h _ _ _ _ _ (WInv.zero h) hr
  refine ⟨fun u => ⟨fun hu => ?_, fun hu => hw.outC u hu.1 hu.2 (by omega)⟩, hw.outS⟩
  have := hw.outA u hu
  exact ⟨this.1, by omega⟩
end
end Go.Tok
