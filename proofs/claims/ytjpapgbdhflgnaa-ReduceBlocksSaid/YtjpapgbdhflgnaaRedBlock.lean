/- Nets of plain blocks are made smaller to one transition. No program is in sight here. -/
import Derived.Test.YtjpapgbdhflgnaaRedLaw3
import Derived.Test.YtjpapgbdhflgnaaSPLaw
import Derived.Test.YtjpapgbdhflgnaaGrowShape
namespace Go.Tok
open Go.RowKit Go.Proofs.Ytjpapgbdhflgnaa
set_option linter.unusedVariables false
theorem erase_perm {α : Type} : ∀ {l : List α} {i : Nat} (h : i < l.length), l.Perm (l[i] :: l.eraseIdx i)
  | a :: l, 0, _ => .refl _
  | a :: l, i + 1, h => by
    have := erase_perm (l := l) (i := i) (by simpa using h)
    simp only [List.getElem_cons_succ, List.eraseIdx_cons_succ]
    exact (this.cons a).trans (.swap _ _ _)
theorem map_erase {α β : Type} (f : α → β) : ∀ (l : List α) (i : Nat), (l.eraseIdx i).map f = (l.map f).eraseIdx i
  | [], _ => by simp
  | a :: l, 0 => by simp
  | a :: l, i + 1 => by simp [map_erase f l i]
/-! ### transitions with one token in, and one out -/
def ed (t : TranD) : Nat × Nat := (t.pre.idxOf 1, t.post.idxOf 1)
structure LinT (P : Nat) (t : TranD) : Prop where
  a : (ed t).1 < P
  b : (ed t).2 < P
  pre : t.pre = oneN P ((ed t).1 : Int)
  post : t.post = oneN P ((ed t).2 : Int)
theorem one_idx {P a : Nat} (h : a < P) : (oneN P (a : Int)).idxOf 1 = a := by
  have hm : (1 : Int) ∈ oneN P (a : Int) := by
    have h1 : a < (oneN P (a : Int)).length := by rw [oneN_len]; exact h
    have h2 : (oneN P (a : Int))[a] = 1 := by rw [← nth_lt h1, nth_oneN _ _ _ h, if_pos rfl]
    exact h2 ▸ List.getElem_mem h1
  have hl := List.idxOf_lt_length_of_mem hm
  have hg := List.getElem_idxOf hl
  rw [← nth_lt hl, nth_oneN _ _ _ h] at hg
  split at hg
  · assumption
  · cases hg
theorem lin_of {P a b : Nat} {t : TranD} (ha : a < P) (hb : b < P) (h1 : t.pre = oneN P (a : Int)) (h2 : t.post = oneN P (b : Int)) : ed t = (a, b) ∧ LinT P t := by
  have e : ed t = (a, b) := by unfold ed; rw [h1, h2, one_idx ha, one_idx hb]
  exact ⟨e, by rw [e]; exact ha, by rw [e]; exact hb, by rw [e]; exact h1, by rw [e]; exact h2⟩
theorem LinT.npre {P : Nat} {t : TranD} (h : LinT P t) (q : Nat) : nth t.pre q = if q = (ed t).1 then 1 else 0 := by
  have := nth_oneN P (ed t).1 q h.a
  rw [← h.pre] at this; exact this
theorem LinT.npost {P : Nat} {t : TranD} (h : LinT P t) (q : Nat) : nth t.post q = if q = (ed t).2 then 1 else 0 := by
  have := nth_oneN P (ed t).2 q h.b
  rw [← h.post] at this; exact this
structure SPN (s : SmD) : Prop where
  i0 : s.i = 0
  o1 : s.o = 1
  ok : netOkB s.net = true
  lin : ∀ t ∈ s.net.trans, LinT s.net.places.toNat t
  sp : SP 0 1 (s.net.trans.map ed)
  all : ∀ v, v < s.net.places.toNat → vsOf (s.net.trans.map ed) v
theorem SPN.in_ {s : SmD} (h : SPN s) {k : Nat} (hk : k < s.net.trans.length) : ix s.net.trans k ∈ s.net.trans := by rw [ix_lt hk]; exact List.getElem_mem hk
theorem SPN.vs {s : SmD} (h : SPN s) {v : Nat} (hv : vsOf (s.net.trans.map ed) v) : v < s.net.places.toNat := by
  obtain ⟨e, he, hc⟩ := hv
  obtain ⟨t, ht, rfl⟩ := List.mem_map.1 he
  have := h.lin t ht
  rcases hc with rfl | rfl
  · exact this.a
  · exact this.b
theorem SPN.p2 {s : SmD} (h : SPN s) : 2 ≤ s.net.places.toNat := h.vs h.sp.ends.vy
theorem ed_same {t u : TranD} (h1 : t.pre = u.pre) (h2 : t.post = u.post) : ed t = ed u := by unfold ed; rw [h1, h2]
theorem spn_dropT {s : SmD} (h : SPN s) {k : Nat} (hk : k < s.net.trans.length) (hd : dupB s.net.trans k = true) : SPN (dropT s k) := by
  obtain ⟨j, hj, e1, e2⟩ := dup_at hd
  have hE : (dropT s k).net.trans.map ed = (s.net.trans.map ed).eraseIdx k := map_erase ed s.net.trans k
  have hkE : k < (s.net.trans.map ed).length := by rw [List.length_map]; exact hk
  have p1 := erase_perm hkE
  have hj' : j < s.net.trans.length := by omega
  have hm : (s.net.trans.map ed)[k] ∈ (s.net.trans.map ed).eraseIdx k := by
    refine List.mem_eraseIdx_iff_getElem.2 ⟨j, by rw [List.length_map]; exact hj', by omega, ?_⟩
    rw [List.getElem_map, List.getElem_map]
    rw [ix_lt hk, ix_lt hj'] at e1 e2
    exact (ed_same e1 e2).symm
  have hc : 2 ≤ (s.net.trans.map ed).count (s.net.trans.map ed)[k] := by
    rw [p1.count_eq, List.count_cons_self]
    have := List.count_pos_iff.2 hm
    omega
  have p2 : ((s.net.trans.map ed).erase (s.net.trans.map ed)[k]).Perm ((s.net.trans.map ed).eraseIdx k) := ((List.perm_cons_erase (List.getElem_mem hkE)).symm.trans p1).cons_inv
  refine ⟨h.i0, h.o1, ok_dropT h.ok k, fun t ht => h.lin t (List.mem_of_mem_eraseIdx ht), ?_, fun v hv => ?_⟩
  · rw [hE]; exact .perm (h.sp.dup _ hc) p2
  · rw [hE]
    obtain ⟨e, he, hc⟩ := h.all v hv
    rcases List.mem_cons.1 (p1.mem_iff.1 he) with rfl | h3
    · exact ⟨_, hm, hc⟩
    · exact ⟨e, h3, hc⟩
theorem spn_twin {s : SmD} (h : SPN s) {q p : Nat} (hq : q < s.net.places.toNat) (hpq : p < q) (hp : pairB s q p = true) : False := by
  obtain ⟨_, _, hcol⟩ := pair_at hp
  obtain ⟨e, he, hc⟩ := h.all q hq
  obtain ⟨t, ht, rfl⟩ := List.mem_map.1 he
  have hl := h.lin t ht
  obtain ⟨c1, c2⟩ := hcol t ht
  rcases hc with hc | hc
  · rw [hl.npre, hl.npre, if_pos hc.symm, if_neg (by omega)] at c1; cases c1
  · rw [hl.npost, hl.npost, if_pos hc.symm, if_neg (by omega)] at c2; cases c2
theorem spn_serie {s s' : SmD} (h : SPN s) {p k l : Nat} (a : SerieAt s p k l s') : SPN s' := by
  have W := a.w h.ok
  have hok := ser_ok h.ok a
  have hk := h.lin _ (h.in_ W.hk)
  have hl := h.lin _ (h.in_ W.hl)
  have n0 : p ≠ 0 := fun e => W.pi (by rw [h.i0, e]; rfl)
  have n1 : p ≠ 1 := fun e => W.po (by rw [h.o1, e]; rfl)
  obtain ⟨u, hu⟩ : ∃ u, u = (ed (ix s.net.trans k)).1 := ⟨_, rfl⟩
  obtain ⟨v, hv⟩ : ∃ v, v = (ed (ix s.net.trans l)).2 := ⟨_, rfl⟩
  have ek2 : (ed (ix s.net.trans k)).2 = p := by have := W.k1; rw [hk.npost] at this; split at this; · next e => exact e.symm
                                                 · cases this
  have el1 : (ed (ix s.net.trans l)).1 = p := by have := W.l1; rw [hl.npre] at this; split at this; · next e => exact e.symm
                                                 · cases this
  have ek : ed (ix s.net.trans k) = (u, p) := by rw [hu, ← ek2]
  have el : ed (ix s.net.trans l) = (p, v) := by rw [hv, ← el1]
  have hkE : k < (s.net.trans.map ed).length := by rw [List.length_map]; exact W.hk
  have hlE : l < (s.net.trans.map ed).length := by rw [List.length_map]; exact W.hl
  have eEk : (s.net.trans.map ed)[k] = (u, p) := by rw [List.getElem_map, ← ix_lt W.hk]; exact ek
  have eEl : (s.net.trans.map ed)[l] = (p, v) := by rw [List.getElem_map, ← ix_lt W.hl]; exact el
  have nu : u ≠ p := h.sp.ends.loop (u, p) (eEk ▸ List.getElem_mem hkE)
  have nv : p ≠ v := h.sp.ends.loop (p, v) (eEl ▸ List.getElem_mem hlE)
  have hu' : u < s.net.places.toNat := by rw [hu]; exact hk.a
  have hv' : v < s.net.places.toNat := by rw [hv]; exact hl.b
  -- the merged one
  have hM : ed (mergeT s p k l) = (u, v) ∧ LinT s.net.places.toNat (mergeT s p k l) := by
    refine lin_of hu' hv' ?_ ?_
    · show (ix s.net.trans k).pre = _
      rw [hk.pre, ← hu]
    · refine nth_ext ?_ fun q => ?_
      · show (joinF _ _ p).length = _
        rw [joinF_len, hk.post, oneN_len, oneN_len]
      · rw [nth_oneN _ _ _ hv']
        by_cases e : q = p
        · subst e
          rw [if_neg nv]
          show nth (joinF _ _ q) q = 0
          rw [join_nth (by rw [hk.post, oneN_len]; exact W.hp), if_pos rfl]
        · rw [merge_post h.ok W.hk W.hl e, hk.npost, hl.npost, ek2, if_neg e, ← hv]
          simp
  obtain ⟨E2, hE2⟩ : ∃ E2, E2 = ((s.net.trans.map ed).set k (u, v)).eraseIdx l := ⟨_, rfl⟩
  have hset : ((s.net.trans.set k (mergeT s p k l)).eraseIdx l).map ed = E2 := by rw [hE2, map_erase, List.map_set, hM.1]
  have hkS : k < ((s.net.trans.map ed).set k (u, v)).length := by rw [List.length_set]; exact hkE
  have hlS : l < ((s.net.trans.map ed).set k (u, v)).length := by rw [List.length_set]; exact hlE
  have hc : (u, v) ∈ E2 := by
    rw [hE2]
    exact List.mem_eraseIdx_iff_getElem.2 ⟨k, hkS, W.ne, by simp⟩
  have pR := List.perm_cons_erase hc
  have q1 := erase_perm hlS
  have e1 : ((s.net.trans.map ed).set k (u, v))[l] = (p, v) := by rw [List.getElem_set_ne W.ne]; exact eEl
  rw [e1, ← hE2] at q1
  have q2 := erase_perm hkS
  have e2 : ((s.net.trans.map ed).set k (u, v))[k] = (u, v) := by simp
  rw [e2, List.eraseIdx_set_eq] at q2
  have q3 : ((s.net.trans.map ed).eraseIdx k).Perm ((p, v) :: E2.erase (u, v)) := by
    have : ((u, v) :: (s.net.trans.map ed).eraseIdx k).Perm ((u, v) :: (p, v) :: E2.erase (u, v)) := q2.symm.trans (q1.trans ((pR.cons _).trans (.swap _ _ _)))
    exact this.cons_inv
  have q4 := erase_perm hkE
  rw [eEk] at q4
  have hp2 : (s.net.trans.map ed).Perm ((u, p) :: (p, v) :: E2.erase (u, v)) := q4.trans (q3.cons _)
  have hE2p : ¬ vsOf E2 p := by
    rintro ⟨e, he, hc⟩
    rw [hE2] at he
    obtain ⟨j, hj, hjl, hje⟩ := List.mem_eraseIdx_iff_getElem.1 he
    by_cases ejk : j = k
    · subst ejk
      rw [e2] at hje
      rw [← hje] at hc
      rcases hc with hc | hc
      · exact nu hc
      · exact nv hc.symm
    · rw [List.getElem_set_ne (fun e => ejk e.symm), List.getElem_map] at hje
      have hjT : j < s.net.trans.length := by rw [List.length_set, List.length_map] at hj; exact hj
      rw [← ix_lt hjT] at hje
      have hjl' := h.lin _ (h.in_ hjT)
      have z1 := W.ko j hjT ejk
      have z2 := W.lo j hjT hjl
      rw [hjl'.npost] at z1
      rw [hjl'.npre] at z2
      rw [← hje] at hc
      rcases hc with hc | hc
      · rw [if_pos hc.symm] at z2; cases z2
      · rw [if_pos hc.symm] at z1; cases z1
  have hR : ¬ vsOf (E2.erase (u, v)) p := fun hh => hE2p (vs_sub (fun e he => List.mem_of_mem_erase he) hh)
  have hsp : SP 0 1 E2 := .perm (h.sp.series p u v _ n0 n1 hp2 hR) pR.symm
  have hpl : s'.net.places.toNat = s.net.places.toNat - 1 := by rw [a.eq]; show (s.net.places - 1).toNat = _; omega
  have hmid : ∀ t ∈ (s.net.trans.set k (mergeT s p k l)).eraseIdx l, LinT s.net.places.toNat t ∧ (ed t).1 ≠ p ∧ (ed t).2 ≠ p := fun t ht => by
    have he : ed t ∈ E2 := by rw [← hset]; exact List.mem_map.2 ⟨t, ht, rfl⟩
    refine ⟨?_, fun e => hE2p ⟨_, he, .inl e⟩, fun e => hE2p ⟨_, he, .inr e⟩⟩
    rcases List.mem_or_eq_of_mem_set (List.mem_of_mem_eraseIdx ht) with h4 | rfl
    · exact h.lin t h4
    · exact hM.2
  have hless : ∀ t ∈ (s.net.trans.set k (mergeT s p k l)).eraseIdx l, ed (lessP p t) = (sh p (ed t).1, sh p (ed t).2) ∧ LinT (s.net.places.toNat - 1) (lessP p t) := fun t ht => by
    obtain ⟨g1, g2, g3⟩ := hmid t ht
    refine lin_of (sh_lt W.hp g1.a g2) (sh_lt W.hp g1.b g3) ?_ ?_
    · show t.pre.eraseIdx p = _
      have := erase_one g1.a W.hp g2
      rw [← g1.pre] at this; exact this
    · show t.post.eraseIdx p = _
      have := erase_one g1.b W.hp g3
      rw [← g1.post] at this; exact this
  have htr : s'.net.trans = ((s.net.trans.set k (mergeT s p k l)).eraseIdx l).map (lessP p) := by rw [a.eq]; rfl
  have hE' : s'.net.trans.map ed = E2.map fun e => (sh p e.1, sh p e.2) := by
    rw [htr, List.map_map, ← hset, List.map_map]
    exact List.map_congr_left fun t ht => (hless t ht).1
  have hsh0 : sh p 0 = 0 := by unfold sh; rw [if_pos (by omega)]
  have hsh1 : sh p 1 = 1 := by unfold sh; rw [if_pos (by omega)]
  refine ⟨?_, ?_, hok, fun t ht => ?_, ?_, fun x hx => ?_⟩
  · rw [a.eq]; show shiftP p s.i = 0
    rw [h.i0, show (0 : Int) = ((0 : Nat) : Int) from rfl, shiftP_sh (fun e => n0 e.symm), hsh0]
  · rw [a.eq]; show shiftP p s.o = 1
    rw [h.o1, show (1 : Int) = ((1 : Nat) : Int) from rfl, shiftP_sh (fun e => n1 e.symm), hsh1]
  · rw [htr] at ht
    obtain ⟨t', ht', rfl⟩ := List.mem_map.1 ht
    rw [hpl]; exact (hless t' ht').2
  · rw [hE']
    have := hsp.named (f := sh p) fun a b ha hb e => sh_inj (fun e => hE2p (by rw [e] at ha; exact ha)) (fun e => hE2p (by rw [e] at hb; exact hb)) e
    rw [hsh0, hsh1] at this
    exact this
  · rw [hpl] at hx
    have hy := h.all (un p x) (un_lt W.hp hx)
    have hy2 : vsOf E2 (un p x) := by
      rcases vs_cons.1 (vs_perm hp2 hy) with e | e | h5
      · exact vs_perm pR.symm (vs_cons.2 (.inl e))
      · exact absurd e.symm (un_ne p x)
      · rcases vs_cons.1 h5 with e | e | h6
        · exact absurd e.symm (un_ne p x)
        · exact vs_perm pR.symm (vs_cons.2 (.inr (.inl e)))
        · exact vs_sub (fun e he => List.mem_of_mem_erase he) h6
    rw [hE']
    obtain ⟨e, he, hc⟩ := hy2
    refine ⟨_, List.mem_map.2 ⟨e, he, rfl⟩, ?_⟩
    rcases hc with hc | hc
    · left; show sh p e.1 = x; rw [hc, sh_un]
    · right; show sh p e.2 = x; rw [hc, sh_un]
theorem SPN.step {s s' : SmD} (h : SPN s) (e : redStep s = some s') : SPN s' := by
  rcases red_cases e with ⟨k, hk, hd, rfl⟩ | ⟨q, p, hq, hpq, hp, rfl⟩ | ⟨p, k, l, a⟩
  · exact spn_dropT h hk hd
  · exact (spn_twin h hq hpq hp).elim
  · exact spn_serie h a
/-! ### where nothing goes any more -/
theorem count_two {α : Type} [BEq α] [LawfulBEq α] {e : α} : ∀ {l : List α}, 2 ≤ l.count e → ∃ (j k : Nat) (hj : j < l.length) (hk : k < l.length), j < k ∧ l[j] = e ∧ l[k] = e
  | [], h => by simp at h
  | a :: l, h => by
    by_cases ha : a = e
    · subst ha
      rw [List.count_cons_self] at h
      have hm : a ∈ l := List.count_pos_iff.1 (by omega)
      obtain ⟨k, hk, e⟩ := List.getElem_of_mem hm
      exact ⟨0, k + 1, by simp, by simpa using hk, by omega, rfl, by simpa using e⟩
    · rw [List.count_cons_of_ne ha] at h
      obtain ⟨j, k, hj, hk, h1, h2, h3⟩ := count_two h
      exact ⟨j + 1, k + 1, by simpa using hj, by simpa using hk, by omega, by simpa using h2, by simpa using h3⟩
theorem sum_one : ∀ (n a : Nat), a < n → sumF ((List.replicate n 0).set a 1) = 1
  | n + 1, 0, _ => by
    rw [List.replicate_succ, List.set_cons_zero, sumF_cons]
    have : ∀ m, sumF (List.replicate m 0) = 0 := fun m => by
      induction m with
      | zero => rfl
      | succ m ih => rw [List.replicate_succ, sumF_cons, ih]; rfl
    rw [this]; rfl
  | n + 1, a + 1, h => by
    rw [List.replicate_succ, List.set_cons_succ, sumF_cons, sum_one n a (by omega)]; rfl
theorem only_is {f : TranD → Int} {ts : List TranD} {k : Nat} (hk : k < ts.length) (h1 : f (ix ts k) = 1) (h0 : ∀ j, j < ts.length → j ≠ k → f (ix ts j) ≤ 0) : onlyF f ts = some k := by
  unfold onlyF
  have hf : (List.range ts.length).find? (fun k => decide (0 < f (ix ts k))) = some k := by
    refine find_is hk (fun j hj => ?_) (by simp [h1])
    have := h0 j (by omega) (by omega)
    simp; exact this
  rw [hf]
  simp only
  rw [if_pos]
  refine ⟨h1, ?_⟩
  rw [List.any_eq_false]
  intro t ht
  obtain ⟨j, hj, rfl⟩ := List.getElem_of_mem ht
  rw [List.length_drop] at hj
  rw [List.getElem_drop]
  have := h0 (k + 1 + j) (by omega) (by omega)
  rw [ix_lt (by omega)] at this
  simp; exact this
theorem spn_done {s : SmD} (h : SPN s) (hd : redStep s = none) : s.net.places = 2 ∧ s.net.trans.length = 1 := by
  obtain ⟨d1, _, d3⟩ := red_stop hd
  have hone : (s.net.trans.map ed).length = 1 := by
    have := h.sp.pos
    refine Classical.byContradiction fun hne => ?_
    rcases h.sp.more (by omega) with ⟨e, he⟩ | ⟨p, u, v, R, px, py, hp, hR⟩
    · obtain ⟨j, k, hj, hk, hjk, ej, ek⟩ := count_two he
      rw [List.length_map] at hj hk
      rw [List.getElem_map, ← ix_lt hj] at ej
      rw [List.getElem_map, ← ix_lt hk] at ek
      have lj := h.lin _ (h.in_ hj)
      have lk := h.lin _ (h.in_ hk)
      have hdup : dupB s.net.trans k = true := by
        unfold dupB
        rw [List.any_eq_true]
        refine ⟨j, List.mem_range.2 hjk, ?_⟩
        unfold dupT
        rw [Bool.and_eq_true, eqB_iff, eqB_iff, lj.pre, lk.pre, lj.post, lk.post, ej, ek]
        exact ⟨rfl, rfl⟩
      unfold transF at d1
      rw [Option.map_eq_none_iff, List.find?_eq_none] at d1
      exact d1 k (List.mem_range.2 hk) hdup
    · obtain ⟨k, hk, ek⟩ := List.getElem_of_mem (hp.mem_iff.2 (by simp : (u, p) ∈ (u, p) :: (p, v) :: R))
      obtain ⟨l, hl, el⟩ := List.getElem_of_mem (hp.mem_iff.2 (by simp : (p, v) ∈ (u, p) :: (p, v) :: R))
      have hkE := hk
      have hlE := hl
      have ekE := ek
      have elE := el
      rw [List.length_map] at hk hl
      rw [List.getElem_map, ← ix_lt hk] at ek
      rw [List.getElem_map, ← ix_lt hl] at el
      have nu : u ≠ p := h.sp.ends.loop (u, p) (ekE ▸ List.getElem_mem hkE)
      have nv : p ≠ v := h.sp.ends.loop (p, v) (elE ▸ List.getElem_mem hlE)
      have hkl : k ≠ l := fun e => by subst e; rw [ek] at el; cases el; exact nu rfl
      have lk := h.lin _ (h.in_ hk)
      have ll := h.lin _ (h.in_ hl)
      have hpP : p < s.net.places.toNat := by have := lk.b; rw [ek] at this; exact this
      -- no other one knows p
      have hoth : ∀ j, j < s.net.trans.length → j ≠ k → j ≠ l → (ed (ix s.net.trans j)).1 ≠ p ∧ (ed (ix s.net.trans j)).2 ≠ p := fun j hj hjk hjl => by
        have p1 := erase_perm hkE
        rw [ekE] at p1
        have hin : (p, v) ∈ (s.net.trans.map ed).eraseIdx k := List.mem_eraseIdx_iff_getElem.2 ⟨l, hlE, hkl.symm, elE⟩
        -- what is left but for both
        have hl2 : (if l < k then l else l - 1) < ((s.net.trans.map ed).eraseIdx k).length := by rw [List.length_eraseIdx_of_lt hkE, List.length_map]; split <;> omega
        have el2 : ((s.net.trans.map ed).eraseIdx k)[if l < k then l else l - 1] = (p, v) := by
          rw [List.getElem_eraseIdx]
          by_cases hlk : l < k
          · simp only [if_pos hlk, dif_pos hlk]; exact elE
          · simp only [if_neg hlk]
            rw [dif_neg (by omega)]
            have : l - 1 + 1 = l := by omega
            simp only [this]; exact elE
        have p2 := erase_perm hl2
        rw [el2] at p2
        have hRp : R.Perm (((s.net.trans.map ed).eraseIdx k).eraseIdx (if l < k then l else l - 1)) := (hp.symm.trans (p1.trans (p2.cons _))).cons_inv.cons_inv
        have hjm : ed (ix s.net.trans j) ∈ R := by
          refine hRp.mem_iff.2 (List.mem_eraseIdx_iff_getElem.2 ⟨if j < k then j else j - 1, ?_, ?_, ?_⟩)
          · rw [List.length_eraseIdx_of_lt hkE, List.length_map]; split <;> omega
          · split <;> split <;> omega
          · rw [List.getElem_eraseIdx]
            by_cases hjk' : j < k
            · simp only [if_pos hjk', dif_pos hjk']
              rw [List.getElem_map, ← ix_lt hj]
            · simp only [if_neg hjk']
              rw [dif_neg (by omega)]
              have : j - 1 + 1 = j := by omega
              simp only [this]
              rw [List.getElem_map, ← ix_lt hj]
        exact ⟨fun e => hR ⟨_, hjm, .inl e⟩, fun e => hR ⟨_, hjm, .inr e⟩⟩
      have npk : ∀ q, nth (ix s.net.trans k).post q = if q = p then 1 else 0 := fun q => by rw [lk.npost, ek]
      have npl : ∀ q, nth (ix s.net.trans l).pre q = if q = p then 1 else 0 := fun q => by rw [ll.npre, el]
      have o1 : onlyF (fun t => nth t.post p) s.net.trans = some k := only_is hk (by rw [npk, if_pos rfl]) fun j hj hjk => by
        have hjl := h.lin _ (h.in_ hj)
        rw [hjl.npost]
        by_cases e : j = l
        · subst e; rw [el]; simp only; rw [if_neg nv]; exact Int.le_refl _
        · rw [if_neg fun e' => (hoth j hj hjk e).2 e'.symm]; exact Int.le_refl _
      have o2 : onlyF (fun t => nth t.pre p) s.net.trans = some l := only_is hl (by rw [npl, if_pos rfl]) fun j hj hjl' => by
        have hjl := h.lin _ (h.in_ hj)
        rw [hjl.npre]
        by_cases e : j = k
        · subst e; rw [ek]; simp only; rw [if_neg fun e => nu e.symm]; exact Int.le_refl _
        · rw [if_neg fun e' => (hoth j hj e hjl').1 e'.symm]; exact Int.le_refl _
      have hser : serieF s p ≠ none := by
        rw [serie_is o1 o2, if_pos]
        · exact fun e => by cases e
        · refine ⟨?_, hkl, ?_, ?_⟩
          · unfold innerB
            rw [h.i0, h.o1]
            simp only [Bool.and_eq_true, bne_iff_ne, ne_eq]
            omega
          · rw [ll.pre, el]
            simp only
            have hp0 : (0 : Int) ≤ (p : Int) := by omega
            rw [← oneN_in hp0 (by omega), Int.toNat_natCast]
            exact sum_one _ _ hpP
          · rw [maxF_def, maxTo_le, joinF_len]
            have hlen : (ix s.net.trans k).post.length = s.net.places.toNat := by rw [lk.post, oneN_len]
            intro q hq
            rw [join_nth (by omega), npk, ll.npost]
            split
            · omega
            · split <;> omega
      unfold seriesF at d3
      rw [List.findSome?_eq_none_iff] at d3
      exact hser (d3 p (List.mem_range.2 hpP))
  have h1 : s.net.trans.length = 1 := by rw [List.length_map] at hone; exact hone
  refine ⟨?_, h1⟩
  have hE := h.sp.one hone
  have h2 := h.p2
  have : s.net.places.toNat ≤ 2 := Classical.byContradiction fun hc => by
    have := h.all 2 (by omega)
    rw [hE] at this
    rcases vs_cons.1 this with e | e | ⟨_, h, _⟩
    · omega
    · omega
    · cases h
  omega
theorem reduce_spn {s : SmD} (h : SPN s) : SPN (reduceF s).1 := redF_ind (P := fun s _ => SPN s) (fun s s' _ hP e => hP.step e) (meas s) s 0 h
theorem reduce_plain {s : SmD} (h : SPN s) : (reduceF s).1.i = 0 ∧ (reduceF s).1.o = 1 ∧ (reduceF s).1.net.places = 2 ∧ (reduceF s).1.net.trans.length = 1 := by
  have h1 := reduce_spn h
  have h2 := spn_done h1 (redF_done _ _ _ (Nat.le_refl _))
  exact ⟨h1.i0, h1.o1, h2.1, h2.2⟩
/-! ### what grows of a plain block -/
/-- neither loops, nor what is side by side within -/
def PlainB : Nat → BlockD → Prop
  | 0, _ => False
  | n + 1, b => b.kind < 5 ∧ ∀ k ∈ b.kids, PlainB n k
/-- links with one place ahead and one behind -/
def edL (l : TranD) : Nat × Nat := ((nth l.pre 0).toNat, (nth l.post 0).toNat)
def OneL (l : TranD) : Prop := ∃ a b : Nat, l.pre = [(a : Int)] ∧ l.post = [(b : Int)]
/-- from s to s' a graph between x and y has grown, of new places -/
structure SPG (x y : Nat) (s s' : GS) : Prop where
  le : s.places ≤ s'.places
  new : ∃ L, s'.links = s.links ++ L ∧ (∀ l ∈ L, OneL l) ∧ SP x y (L.map edL) ∧ ∀ v, vsOf (L.map edL) v ↔ v = x ∨ v = y ∨ s.places ≤ (v : Int) ∧ (v : Int) < s'.places
def GrowsP (f : GF) (P : BlockD → Prop) : Prop := ∀ b (x y : Nat) s s', P b → 0 ≤ s.places → (x : Int) < s.places → (y : Int) < s.places → x ≠ y → f b x y s = some s' → SPG x y s s'
theorem seq_sp {f : GF} {P : BlockD → Prop} (hf : GrowsP f P) : ∀ {ks : List BlockD} {x y : Nat} {s s' : GS}, (∀ k ∈ ks, P k) → 0 ≤ s.places → (x : Int) < s.places → (y : Int) < s.places → x ≠ y → seqF f ks x y s = some s' → SPG x y s s' := by
  intro ks
  induction ks with
  | nil => intro x y s s' _ _ _ _ _ h; cases h
  | cons k r ih =>
    intro x y s s' hP h0 hx hy hne e
    cases r with
    | nil => exact hf k x y s s' (hP k (by simp)) h0 hx hy hne e
    | cons k2 ks =>
      unfold seqF at e
      replace e := Option.bind_eq_some_iff.1 e
      obtain ⟨s1, e1, e⟩ := e
      replace e := Option.bind_eq_some_iff.1 e
      obtain ⟨s2, e2, e⟩ := e
      obtain ⟨rfl, b⟩ := place_some e1
      obtain ⟨z, hz⟩ := Int.eq_ofNat_of_zero_le h0
      rw [hz] at e2 e
      obtain ⟨l1, L1, a1, a2, a3, a4⟩ := hf k x z _ s2 (hP k (by simp)) (by simp only; omega) (by simp only; omega) (by simp only; omega) (by omega) e2
      simp only at l1 a1 a4
      obtain ⟨l2, L2, b1, b2, b3, b4⟩ := ih (fun k hk => hP k (List.mem_cons_of_mem _ hk)) (by omega) (by omega) (by omega) (by omega) e
      refine ⟨by omega, L1 ++ L2, by rw [b1, a1, List.append_assoc], fun l hl => ?_, ?_, fun v => ?_⟩
      · rcases List.mem_append.1 hl with h | h
        · exact a2 l h
        · exact b2 l h
      · rw [List.map_append]
        refine .ser a3 b3 fun v hv hw => ?_
        have c1 := (a4 v).1 hv
        have c2 := (b4 v).1 hw
        omega
      · rw [List.map_append, vs_app, a4, b4]
        omega
theorem choice_sp {f : GF} {P : BlockD → Prop} (hf : GrowsP f P) : ∀ {ks : List BlockD} {x y : Nat} {s s' : GS}, ks ≠ [] → (∀ k ∈ ks, P k) → 0 ≤ s.places → (x : Int) < s.places → (y : Int) < s.places → x ≠ y → choiceF f ks x y s = some s' → SPG x y s s' := by
  intro ks
  induction ks with
  | nil => intro x y s s' h; exact absurd rfl h
  | cons k r ih =>
    intro x y s s' _ hP h0 hx hy hne e
    unfold choiceF at e
    replace e := Option.bind_eq_some_iff.1 e
    obtain ⟨s1, e1, e⟩ := e
    obtain ⟨l1, L1, a1, a2, a3, a4⟩ := hf k x y s s1 (hP k (by simp)) h0 hx hy hne e1
    cases r with
    | nil =>
      cases e
      exact ⟨l1, L1, a1, a2, a3, a4⟩
    | cons k2 ks =>
      obtain ⟨l2, L2, b1, b2, b3, b4⟩ := ih (by simp) (fun k hk => hP k (List.mem_cons_of_mem _ hk)) (by omega) (by omega) (by omega) hne e
      refine ⟨by omega, L1 ++ L2, by rw [b1, a1, List.append_assoc], fun l hl => ?_, ?_, fun v => ?_⟩
      · rcases List.mem_append.1 hl with h | h
        · exact a2 l h
        · exact b2 l h
      · rw [List.map_append]
        refine .par a3 b3 fun v hv hw => ?_
        have c1 := (a4 v).1 hv
        have c2 := (b4 v).1 hw
        omega
      · rw [List.map_append, vs_app, a4, b4]
        omega
theorem link_sp {l : TranD} {x y : Nat} {s s' : GS} (h1 : l.pre = [(x : Int)]) (h2 : l.post = [(y : Int)]) (hne : x ≠ y) (e : linkF l s = some s') : SPG x y s s' := by
  obtain ⟨rfl, _⟩ := link_some e
  have he : edL l = (x, y) := by unfold edL; rw [h1, h2, nth_def, nth_def]; rfl
  refine ⟨Int.le_refl _, [l], rfl, fun t ht => by rw [List.mem_singleton.1 ht]; exact ⟨x, y, h1, h2⟩, ?_, fun v => ?_⟩
  · rw [List.map_singleton, he]; exact .edge hne
  · rw [List.map_singleton, he, vs_cons]
    have : ¬ vsOf [] v := fun ⟨_, h, _⟩ => by cases h
    simp only [this, or_false]
    omega
theorem grow_sp : ∀ (n : Nat), GrowsP (growF n) (fun b => OkB n b ∧ PlainB n b)
  | 0 => fun b x y s s' hP => hP.1.elim
  | n + 1 => fun b x y s s' hP h0 hx hy hne e => by
    obtain ⟨⟨k1, k6, kl, kn, kk, k2⟩, k5, kp⟩ := hP
    unfold growF at e
    by_cases e1 : b.kind = 1
    · rw [if_pos e1] at e; exact link_sp rfl rfl hne e
    rw [if_neg e1] at e
    by_cases e2 : b.kind = 2
    · rw [if_pos e2] at e; exact link_sp rfl rfl hne e
    rw [if_neg e2] at e
    by_cases e3 : b.kind = 3
    · rw [if_pos e3] at e
      exact seq_sp (grow_sp n) (fun k hk => ⟨k2.2 k hk, kp k hk⟩) h0 hx hy hne e
    rw [if_neg e3] at e
    by_cases e4 : b.kind = 4
    · rw [if_pos e4] at e
      exact choice_sp (grow_sp n) (kk (by omega)) (fun k hk => ⟨k2.2 k hk, kp k hk⟩) h0 hx hy hne e
    · omega
theorem weights_one {n a : Nat} (h : a < n) : weightsF n [(a : Int)] = oneN n (a : Int) := by
  have hp0 : (0 : Int) ≤ (a : Int) := by omega
  rw [← oneN_in hp0 (by omega), Int.toNat_natCast]
  rfl
theorem grown_spn {n : Nat} {b : BlockD} {s : GS} (ok : GOk s) (hb : OkB n b) (hp : PlainB n b) (h : growF n b 0 1 ⟨2, []⟩ = some s) : SPN ⟨netOf s, 0, 1⟩ := by
  obtain ⟨hle, L, h1, h2, h3, h4⟩ := grow_sp n b 0 1 ⟨2, []⟩ s ⟨hb, hp⟩ (by simp) (by simp) (by simp) (by omega) h
  simp only [List.nil_append] at h1 hle h4
  subst h1
  have hin : ∀ l ∈ s.links, ∃ a b : Nat, l.pre = [(a : Int)] ∧ l.post = [(b : Int)] ∧ a < s.places.toNat ∧ b < s.places.toNat := fun l hl => by
    obtain ⟨a, b, e1, e2⟩ := h2 l hl
    have p1 := ok.pre l hl (a : Int) (by rw [e1]; simp)
    have p2 := ok.post l hl (b : Int) (by rw [e2]; simp)
    exact ⟨a, b, e1, e2, by omega, by omega⟩
  have hlin : ∀ l ∈ s.links, ed ⟨l.label, weightsF s.places.toNat l.pre, weightsF s.places.toNat l.post⟩ = edL l ∧ LinT s.places.toNat ⟨l.label, weightsF s.places.toNat l.pre, weightsF s.places.toNat l.post⟩ := fun l hl => by
    obtain ⟨a, b, e1, e2, h5, h6⟩ := hin l hl
    have := lin_of (t := ⟨l.label, weightsF s.places.toNat l.pre, weightsF s.places.toNat l.post⟩) h5 h6 (by rw [e1]; exact weights_one h5) (by rw [e2]; exact weights_one h6)
    refine ⟨?_, this.2⟩
    rw [this.1]; unfold edL; rw [e1, e2, nth_def, nth_def]; rfl
  have hE : (netOf s).trans.map ed = s.links.map edL := by
    show (s.links.map _).map ed = _
    rw [List.map_map]
    exact List.map_congr_left fun l hl => (hlin l hl).1
  refine ⟨rfl, rfl, grown_net ok, fun t ht => ?_, ?_, fun v hv => ?_⟩
  · obtain ⟨l, hl, rfl⟩ := List.mem_map.1 (show t ∈ s.links.map _ from ht)
    exact (hlin l hl).2
  · show SP 0 1 ((netOf s).trans.map ed)
    rw [hE]; exact h3
  · show vsOf ((netOf s).trans.map ed) v
    rw [hE, h4]
    have : v < s.places.toNat := hv
    omega
end Go.Tok
