/- The verdict on what grows of a block: sound. No program is in sight here. -/
import Derived.Test.YtajmccjnoejmfaaGrowLaw5
import Derived.Test.YtajmccjnoejmfaaGU
namespace Go.Tok
open Go.RowKit Go.Proofs.Ytajmccjnoejmfaa
set_option linter.unusedVariables false
section
variable {s : GS} {A : Mk → Prop}
theorem grown_shape (ok : GOk s) (hA : SoundA 0 1 2 s.places s.links A) : shapeC (netOf s) 0 1 = 0 := by
  have hlo := ok.lo
  have hok := grown_net ok
  have e1 : (netOf s).places = s.places := rfl
  have he : (netOf s).trans.any (endB 0 1) = false := by
    rw [List.any_eq_false]
    intro t ht hb
    obtain ⟨k, hk, rfl⟩ := List.getElem_of_mem ht
    have hk' : k < s.links.length := by rwa [net_len] at hk
    have hm := ix_mem hk'
    have ht' : (netOf s).trans[k] = (netOf s).tr k := by unfold NetD.tr; simp [hk]
    rw [ht'] at hb
    unfold endB at hb
    rw [link_post ok hk', link_pre ok hk'] at hb
    have z1 : useM (ix s.links k).post ((0 : Nat) : Int) = 0 := useM_out fun h => by
      rcases hA.post _ hm with e | ⟨_, e⟩
      · rw [e] at h; have := List.mem_singleton.1 h; omega
      · have := e _ h; omega
    have z2 : useM (ix s.links k).pre ((1 : Nat) : Int) = 0 := useM_out fun h => by
      rcases hA.pre _ hm with e | ⟨_, e⟩
      · rw [e] at h; have := List.mem_singleton.1 h; omega
      · have := e _ h; omega
    rw [z1, z2] at hb
    simp at hb
  have := shapeC_walk hok (i := 0) (o := 1) (by rw [e1]; simp; omega) he
  have e2 : shapeC (netOf s) 0 1 = shapeC (netOf s) ((0 : Nat) : Int) ((1 : Nat) : Int) := rfl
  rw [e2, this, if_neg (by have := fore_full ok hA; have := back_full ok hA; omega)]
theorem start_mark (ok : GOk s) : netM (oneN (startLen (netOf s)) 0) = oneM 0 := by
  have hlo := ok.lo
  have hok := grown_net ok
  have e1 : (netOf s).places = s.places := rfl
  funext q
  by_cases hq : 0 ≤ q
  · obtain ⟨p, rfl⟩ := Int.eq_ofNat_of_zero_le hq
    rw [netM_nat, startLen_ok hok, e1]
    have := nth_oneN s.places.toNat 0 p (by omega)
    rw [show ((0 : Nat) : Int) = 0 from rfl] at this
    rw [this]
    unfold oneM
    by_cases hp : p = 0
    · subst hp; rfl
    · rw [if_neg hp, if_neg (by omega)]
  · rw [netM_neg (by omega), oneM_ne (by omega)]
theorem end_mark (ok : GOk s) : netM (oneN (startLen (netOf s)) 1) = oneM 1 := by
  have hlo := ok.lo
  have hok := grown_net ok
  have e1 : (netOf s).places = s.places := rfl
  funext q
  by_cases hq : 0 ≤ q
  · obtain ⟨p, rfl⟩ := Int.eq_ofNat_of_zero_le hq
    rw [netM_nat, startLen_ok hok, e1]
    have := nth_oneN s.places.toNat 1 p (by omega)
    rw [show ((1 : Nat) : Int) = 1 from rfl] at this
    rw [this]
    unfold oneM
    by_cases hp : p = 1
    · subst hp; rfl
    · rw [if_neg hp, if_neg (by omega)]
  · rw [netM_neg (by omega), oneM_ne (by omega)]
/-- a way of markings is a run -/
theorem way_marks (ok : GOk s) {m0 : List Int} {most : Nat} {F : FinD} (hW : Whole (netOf s) m0 most F) {a c : Mk} (h : RunM s.links a c) : ∀ {x : List Int}, x ∈ F.marks → netM x = a → ∃ q y, Runs (netOf s) x q y ∧ y ∈ F.marks ∧ netM y = c := by
  induction h with
  | nil => intro x hx he; exact ⟨[], x, .nil _, hx, he⟩
  | @cons l M M' hl hc _ ih =>
    intro x hx he
    obtain ⟨k, hk, rfl⟩ := ix_of_mem hl
    obtain ⟨y, hF, hy⟩ := hW.fires hx (k := k) (by rw [net_len]; exact hk) (fun p => by
      rw [link_pre ok hk]
      by_cases hp : (p : Int) ∈ (ix s.links k).pre
      · rw [useM_in hp]
        have := hc _ hp
        rw [← he, netM_nat] at this
        exact this
      · rw [useM_out hp]
        have := fits_nth (hW.fit x hx) p
        omega)
    obtain ⟨_, h2⟩ := fires_after ok hF
    obtain ⟨q, z, h3, h4, h5⟩ := ih hy (by rw [h2, he])
    exact ⟨_, z, .cons hF h3, h4, h5⟩
theorem grown_judge (ok : GOk s) (hA : SoundA 0 1 2 s.places s.links A) {v : VerdD} {f : Int} (h : judgeF (netOf s) 0 1 300 = (v, f)) : f = 4 ∨ f = 0 ∧ v.kind = 1 := by
  have hsh := grown_shape ok hA
  have hlo := ok.lo
  have hok := grown_net ok
  have e1 : (netOf s).places = s.places := rfl
  obtain ⟨a, c, ha, hc, hS⟩ := shape_ok hsh
  have hfit := hS.fits hS.hi
  rw [← ha] at hfit
  by_cases hf : f = 0
  · subst hf
    obtain ⟨a', b', F, ea, eb, hS', _, hs, _, _, _, hW, _, rfl⟩ := judge_ok h
    refine .inr ⟨rfl, ?_⟩
    have ea0 : ((a' : Nat) : Int) = 0 := ea.symm
    have eb1 : ((b' : Nat) : Int) = 1 := eb.symm
    rw [ea0] at hs hW
    rw [eb1]
    have hin : ∀ x ∈ F.marks, A (netM x) := fun x hx => by
      obtain ⟨q, hq⟩ := hW.reach hx
      exact runs_in ok hA hq (by rw [start_mark ok]; exact hA.start)
    have hlen : ∀ x ∈ F.marks, x.length = (oneN (startLen (netOf s)) 1).length := fun x hx => by
      have := fits_len (hW.fit x hx)
      rw [oneN_len, startLen_ok hok]; omega
    refine kind_sound hW (fun x hx => ?_) (fun x hx => ?_) ?_
    · rw [Bool.eq_false_iff]
      intro he
      obtain ⟨h1, h2⟩ := extra_iff.1 he
      have h3 := h1 1
      have h4 : nth (oneN (startLen (netOf s)) 1) 1 = 1 := by
        have := congrFun (end_mark ok) ((1 : Nat) : Int)
        rw [netM_nat] at this
        rw [this]; rfl
      rw [h4] at h3
      refine h2 (mark_ext (hlen x hx) ?_)
      rw [end_mark ok]
      refine hA.onlyT _ (hin x hx) ?_
      have := netM_nat x 1
      rw [show ((1 : Nat) : Int) = 1 from rfl] at this
      omega
    · obtain ⟨q, y, h1, h2, h3⟩ := way_marks ok hW (hA.ends _ (hin x hx)) hx rfl
      refine ⟨q, ?_⟩
      have : y = oneN (startLen (netOf s)) 1 := mark_ext (hlen y h2) (by rw [h3, end_mark ok])
      rw [← this]; exact h1
    · rw [List.eq_nil_iff_forall_not_mem]
      intro t ht
      obtain ⟨k, rfl, hk, hno⟩ := hW.dead.1 ht
      have hk' : k < s.links.length := by rwa [net_len] at hk
      obtain ⟨M, h1, _, h3⟩ := hA.live _ (ix_mem hk')
      obtain ⟨q, y, h4, h5, h6⟩ := way_marks ok hW h1 hW.start (start_mark ok)
      obtain ⟨z, hF, _⟩ := hW.fires h5 hk (fun p => by
        rw [link_pre ok hk']
        by_cases hp : (p : Int) ∈ (ix s.links k).pre
        · rw [useM_in hp]
          have := h3 _ hp
          rw [← h6, netM_nat] at this
          exact this
        · rw [useM_out hp]
          have := fits_nth (hW.fit y h5) p
          omega)
      exact hno y h5 z hF
  · left
    unfold judgeF at h
    rw [if_neg (by rw [hsh]; simp)] at h
    rcases search_bad (N := netOf s) (m := oneN (startLen (netOf s)) 0) (most := 300) with h1 | ⟨h1, _⟩ | ⟨_, h1⟩
    · have : (graphF (netOf s) (oneN (startLen (netOf s)) 0) 300).2 = 0 := by unfold graphF; rw [if_pos h1]
      rw [if_neg (by rw [this]; simp)] at h
      exact absurd (Prod.mk.inj h).2.symm hf
    · have : (graphF (netOf s) (oneN (startLen (netOf s)) 0) 300).2 = 4 := by unfold graphF; rw [if_neg (by rw [h1]; decide)]; exact h1
      rw [if_pos (by rw [this]; decide)] at h
      rw [← (Prod.mk.inj h).2, this]
    · exact absurd ⟨by omega, by omega, hfit⟩ h1
end
end Go.Tok
