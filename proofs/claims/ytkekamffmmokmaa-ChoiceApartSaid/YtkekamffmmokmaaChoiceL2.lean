/- Plain laws of clusters: who is enabled in one of them. -/
import Derived.Test.YtkekamffmmokmaaWChoiceParts
namespace Go.Tok
open Go.RowKit
theorem flat_one {l : List (List Int)} (hn : l.flatten.Nodup) {a b : List Int} {x : Int} (ha : a ∈ l) (hb : b ∈ l) (hxa : x ∈ a) (hxb : x ∈ b) : a = b := by
  induction l with
  | nil => simp at ha
  | cons c r ih =>
    rw [List.flatten_cons, List.nodup_append] at hn
    obtain ⟨_, h2, h3⟩ := hn
    rcases List.mem_cons.1 ha with e1 | ha'
    · rcases List.mem_cons.1 hb with e2 | hb'
      · rw [e1, e2]
      · exact absurd rfl (h3 x (e1 ▸ hxa) x (List.mem_flatten.2 ⟨b, hb', hxb⟩))
    · rcases List.mem_cons.1 hb with e2 | hb'
      · exact absurd rfl (h3 x (e2 ▸ hxb) x (List.mem_flatten.2 ⟨a, ha', hxa⟩))
      · exact ih h2 ha' hb'
theorem clus_nodup (N : NetD) (k : Nat) : (clusN N k).flatten.Nodup := by
  rw [(clus_perm N k).nodup_iff]
  exact List.Pairwise.map _ (fun a b h e => h (Int.ofNat.inj e)) List.nodup_range
theorem enab_pre {N : NetD} {m : List Int} {i j : Nat} (hi : i < N.trans.length) (hj : j < N.trans.length) (h : (N.tr i).pre = (N.tr j).pre) : hasB (enabledL N m) i = hasB (enabledL N m) j := by
  have key : ∀ a b : Nat, a < N.trans.length → b < N.trans.length → (N.tr a).pre = (N.tr b).pre → hasB (enabledL N m) a = true → hasB (enabledL N m) b = true := by
    intro a b ha hb he h
    obtain ⟨k, hk, h1, h2⟩ := (enabled_has _).1 h
    have : a = k := by omega
    subst this
    exact (enabled_has _).2 ⟨b, rfl, hb, by rw [← he]; exact h2⟩
  rw [Bool.eq_iff_iff]
  exact ⟨key i j hi hj h, key j i hj hi h.symm⟩
end Go.Tok
namespace Go.Proofs.Ytkekamffmmokmaa
open Go.RowKit Go.Tok
set_option linter.unusedVariables false
theorem ans_mem {N : NetD} {out : List (List Int)} {c : List Int} (h : ClusAns N out) (hc : c ∈ out) : netOkB N = true ∧ c ∈ clusN N N.trans.length := by
  rcases h with ⟨_, rfl⟩ | ⟨h, hp, _⟩
  · simp at hc
  · exact ⟨h, hp.mem_iff.1 hc⟩
theorem ans_in {N : NetD} {out : List (List Int)} {c : List Int} {x : Int} (h : ClusAns N out) (hc : c ∈ out) (hx : x ∈ c) : ∃ i : Nat, x = i ∧ i < N.trans.length := by
  obtain ⟨i, h1, h2⟩ := clus_mem.1 (List.mem_flatten.2 ⟨c, (ans_mem h hc).2, hx⟩)
  exact ⟨i, h2, h1⟩
theorem ans_same {N : NetD} {out : List (List Int)} {m c : List Int} {x y : Int} (h : ClusAns N out) (hf : freeN N = true) (hc : c ∈ out) (hx : x ∈ c) (hy : y ∈ c) : hasB (enabledL N m) x = hasB (enabledL N m) y := by
  obtain ⟨h0, hcc⟩ := ans_mem h hc
  obtain ⟨i, rfl, hi⟩ := ans_in h hc hx
  obtain ⟨j, rfl, hj⟩ := ans_in h hc hy
  have hfb : freeB N = true := by unfold freeN at hf; rw [h0] at hf; exact hf
  have := free_same h0 hfb _ (Nat.le_refl _) c hcc _ hx _ hy
  simp only [Int.toNat_natCast] at this
  exact enab_pre hi hj this
theorem ans_apart {N : NetD} {out : List (List Int)} {m y c : List Int} {t : Int} {u : Int} (h : ClusAns N out) (hfit : fitsB N m = true) (hf : fireF N m t = (y, 0)) (hc : c ∈ out) (hu : u ∈ c) (ht : hasB c t = false) (he : hasB (enabledL N m) u = true) : hasB (enabledL N y) u = true := by
  obtain ⟨h0, hcc⟩ := ans_mem h hc
  obtain ⟨k, rfl, hF⟩ := fire_ok hfit hf
  obtain ⟨i, rfl, hi⟩ := ans_in h hc hu
  obtain ⟨i', e, _, hpre⟩ := (enabled_has _).1 he
  have : i = i' := by omega
  subst this
  refine (enabled_has _).2 ⟨i, rfl, hi, fun p => ?_⟩
  have hk := w_nth (netOk_tr h0 hF.lt) p
  have hpi := w_nth (netOk_tr h0 hi) p
  have hp := hpre p
  have hm := fits_nth hfit p
  have hkp := hF.pre p
  rw [hF.eq p]
  by_cases hz : 0 < nth (N.tr k).pre p ∧ 0 < nth (N.tr i).pre p
  · exfalso
    have hpl : p < (N.tr i).pre.length := by
      apply Classical.byContradiction
      intro hn
      have := nth_ge (xs := (N.tr i).pre) (p := p) (by omega)
      omega
    obtain ⟨l, hl, h1, h2⟩ := tog_shares h0 _ (Nat.le_refl _) i k hi hF.lt (shares_iff.2 ⟨p, hpl, hz.2, hz.1⟩)
    have := flat_one (clus_nodup N _) hcc hl hu h1
    subst this
    rw [(hasB_iff _ _).2 h2] at ht
    cases ht
  · omega
end Go.Proofs.Ytkekamffmmokmaa
