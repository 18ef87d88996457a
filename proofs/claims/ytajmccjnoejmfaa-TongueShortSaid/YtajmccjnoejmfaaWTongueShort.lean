/- The walk of TongueShort: at every net, marks, bound and word it answers true. -/
import Derived.Test.YtajmccjnoejmfaaAlive12
import Derived.Test.YtajmccjnoejmfaaShortLaw
import Derived.Deep.RegionHeld3
namespace Go.Tok
open Go.RowKit Go.Proofs.Ytajmccjnoejmfaa
set_option linter.unusedVariables false
theorem hasErr_ne (N : NetD) (i o : Int) : hasErr N i o ≠ 3 := by
  unfold hasErr
  by_cases h : shapeC N i o ≠ 0
  · rw [if_pos h]
    unfold shapeC
    split
    · split
      · decide
      · split
        · decide
        · split <;> decide
    · decide
  · rw [if_neg h]
    unfold graphF
    have := search_bad (N := N) (m := oneN (startLen N) i) (most := 300)
    split
    · show (0 : Int) ≠ 3; decide
    · rcases this with h1 | ⟨h1, _⟩ | ⟨h1, _⟩
      · rename_i h2; exact absurd h1 h2
      · rw [h1]; decide
      · rw [h1]; decide
section
variable {N : NetD} {i o most k e f : Int} {w : List Int} {out : List (List Int)} {b : Bool} {A : SpaceD}
theorem say_ok (hK : HasOk N i o A) (hs : shapeC N i o = 0) : SayOk (sayN N o most A) A.marks.length := by
  obtain ⟨_, _, _, _, hO⟩ := shape_ok hs
  refine ⟨hK.n0, hK.arcs, fun t ht => ?_, endsN_len N o A, rfl, fun t ht => ?_⟩
  · have ht' : t < N.trans.length := by rw [← labN_len]; exact ht
    show 0 ≤ nth (labN N) t
    rw [labN_nth ht']
    exact (netOk_tr hO.ok ht').lab0
  · refine mem_compact (mem_sortI.2 ?_)
    rw [nth_lt ht]
    exact List.getElem_mem _
theorem acc_iff (hK : HasOk N i o A) (u : List Int) : AccW (labN N) A.arcs (endsN N o A) u ↔ ∃ k, Way (labN N) A.arcs 0 u k ∧ ix A.marks k = oneN (startLen N) o := by
  constructor
  · rintro ⟨k, h1, h2, h3⟩
    rw [endsN_len] at h2
    unfold endsN at h3
    rw [ix_mapB h2] at h3
    exact ⟨k, h1, (eqB_iff _ _).1 h3⟩
  · rintro ⟨k, h1, h2⟩
    have hk := way_lt hK.arcs hK.n0 h1
    refine ⟨k, h1, by rw [endsN_len]; exact hk, ?_⟩
    unfold endsN
    rw [ix_mapB hk]
    exact (eqB_iff _ _).2 h2
theorem has_acc (hK : HasOk N i o A) (h0 : hasErr N i o = 0) (hm : HasMeans N i o w b) : b = true ↔ AccW (labN N) A.arcs (endsN N o A) w := by
  classical
  rw [acc_iff hK]
  have h2 := hK.mean w (decide (∃ k, Way (labN N) A.arcs 0 w k ∧ ix A.marks k = oneN (startLen N) o)) (by simp)
  obtain ⟨a, c, s, e1, e2, _, _, hb⟩ := hm.2 h0
  obtain ⟨a', c', s', e3, e4, _, _, hb'⟩ := h2.2 h0
  obtain rfl : a = a' := by omega
  obtain rfl : c = c' := by omega
  rw [hb, ← hb']
  simp
/-- what the three answers say of one another -/
theorem short_law (hL : LeastIs N i o k e) (hW : WordsIs N i o most out f) (hH : HasMeans N i o w b) :
    (hasErr N i o ≠ 0 ∧ e = hasErr N i o ∧ e ≠ 3) ∨ (hasErr N i o = 0 ∧ e = 3 ∧ b = false ∧ (f ≠ 0 ∨ out = [])) ∨
      (hasErr N i o = 0 ∧ e = 0 ∧ (b = true → k ≤ w.length) ∧ (f ≠ 0 ∨ ((out = [] ∧ most < k) ∨ (∃ u r, out = u :: r ∧ k ≤ most ∧ (u.length : Int) = k)))) := by
  rcases hL with ⟨h1, _, h3⟩ | ⟨h0, A, hK, hs, hg, hL⟩
  · exact .inl ⟨h1, h3, by rw [h3]; exact hasErr_ne N i o⟩
  right
  have hS0 := say_ok (most := 0) hK hs
  have hF := firstF_behind (lab := labN N) hK.arcs hK.n0
  have hb := has_acc hK h0 hH
  have hwords : f ≠ 0 ∨ ((∀ u, u ∈ out ↔ AccW (labN N) A.arcs (endsN N o A) u ∧ (u.length : Int) ≤ most) ∧ out.Pairwise (fun a b => a.length ≤ b.length)) := by
    rcases hW with ⟨h1, _⟩ | ⟨_, ⟨_, _, h3⟩ | ⟨hm0, hm8, A', _, _, hg', h4⟩⟩
    · exact absurd h0 h1
    · left; omega
    · rw [hg] at hg'
      cases hg'
      rcases h4 with ⟨_, _, h5⟩ | ⟨h4, _⟩
      · left; omega
      · right
        have := words_are (say_ok (most := most) hK hs) hm0 (res := out) h4
        exact this
  rcases hL with ⟨h1, _, h3⟩ | ⟨h1, h2, h3⟩
  · have hno : ∀ u, ¬ AccW (labN N) A.arcs (endsN N o A) u := by
      rintro u ⟨q, hq, hq1, hq2⟩
      have := (hS0.hope_up (w := []) (r := u) hF (by rw [List.nil_append]; exact hq) hq1 hq2).1
      unfold leastN firstN at h1
      omega
    refine .inl ⟨h0, h3, ?_, hwords.imp id fun h => ?_⟩
    · cases b
      · rfl
      · exact absurd (hb.1 rfl) (hno w)
    · rw [List.eq_nil_iff_forall_not_mem]
      exact fun u hu => hno u ((h.1 u).1 hu).1
  · have hall : ∀ u, AccW (labN N) A.arcs (endsN N o A) u → k ≤ u.length := by
      rintro u ⟨q, hq, hq1, hq2⟩
      have := (hS0.hope_up (w := []) (r := u) hF (by rw [List.nil_append]; exact hq) hq1 hq2).2
      rw [h2]; exact this
    obtain ⟨r, hr1, hr2⟩ := hS0.hope_ex (w := []) hF h1
    rw [List.nil_append] at hr1
    have hr3 : (r.length : Int) = k := by rw [h2]; exact hr2
    refine .inr ⟨h0, h3, fun h => hall w (hb.1 h), hwords.imp id fun h => ?_⟩
    cases hout : out with
    | nil =>
      left
      refine ⟨rfl, ?_⟩
      apply Classical.byContradiction
      intro hn
      have := (h.1 r).2 ⟨hr1, by omega⟩
      rw [hout] at this
      simp at this
    | cons u t =>
      right
      rw [hout] at h
      have hu := (h.1 u).1 (by simp)
      have hku := hall u hu.1
      have hkm : k ≤ most := by have := hu.2; omega
      refine ⟨u, t, rfl, hkm, ?_⟩
      have hrm := (h.1 r).2 ⟨hr1, by omega⟩
      rcases List.mem_cons.1 hrm with e | e
      · rw [← e]; exact hr3
      · have := (List.pairwise_cons.1 h.2).1 r e
        omega
end
end Go.Tok
namespace Go.Proofs.Ytajmccjnoejmfaa
open Go.RowKit Go.Tok
set_option linter.unusedVariables false
set_option maxHeartbeats 8000000 in
set_option maxRecDepth 100000 in
theorem TongueShort_walk {v z : Value} {N : NetD} {i o most : Int} {u : List Int} (w : World) (hN : NetR w v N) (hi : I64 i) (ho : I64 o) (hm : I64 most) (h2 : Ints w z u ∧ u.length ≤ 17592186043904) : Calls Try.prog 10 #[v, .int .i64 i, .int .i64 o, .int .i64 most, z] w fun e w' => e = .returned (.bool true) ∧ Gr w w' := by
  obtain ⟨hs, ls⟩ := h2
  have hN' := hN
  obtain ⟨a, cap, rfl, hnl, hncap, hpl, hT⟩ := hN.open_
  have hpl1 := hpl.1
  have hpl2 := hpl.2
  obtain ⟨sa, sc, rfl, sl, sl'⟩ := hs.len
  have b0 : Blk (w.alloc (.cells #[.int .i64 N.places, .slice a N.trans.length cap] 28)) w.heap.size 28 #[.int .i64 N.places, .slice a N.trans.length cap] := Blk.new rfl
  have GA : Gr w (w.alloc (.cells #[.int .i64 N.places, .slice a N.trans.length cap] 28)) := (Gr.refl _).alloc _
  go_enter Try.func10, Try.ntmps10
  go_wp2_with fail
  refine (alive12_calls _).mono ?_
  rintro _ w1 ⟨rfl, g1⟩
  have b1 := b0.gr g1
  have GB := GA.trans g1
  have K1 := hN'.gr GB
  have S1 := hs.gr GB
  have B0 := b1.cell (i := 0) (v := .int .i64 N.places) rfl
  have B1 := b1.cell (i := 1) (v := .slice a N.trans.length cap) rfl
  clear g1 b0 GA
  go_wp2_with fail
  refine (Least_calls _ N i o _ K1 hi ho).mono ?_
  rintro _ w2 ⟨k, e, rfl, g2, hL⟩
  replace B0 := cell_gr B0 g2
  replace B1 := cell_gr B1 g2
  go_wp2_with fail
  refine (Words_calls _ N i o most _ (K1.gr g2) hi ho hm).mono ?_
  rintro _ w3 ⟨v3, out, f, rfl, g3, hR, hW⟩
  replace B0 := cell_gr B0 g3
  replace B1 := cell_gr B1 g3
  obtain ⟨la, lc, rfl, _, _⟩ := hR.len
  go_wp2_with fail
  refine (Has_calls _ _ N i o u _ (K1.gr (g2.trans g3)) hi ho (S1.gr (g2.trans g3)) (by omega)).mono ?_
  rintro _ w4 ⟨b, rfl, g4, hH⟩
  have hlaw := short_law hL hW hH
  have GZ := ((GB.trans g2).trans g3).trans g4
  have hR4 := hR.gr g4
  clear hL hW hH B0 B1 K1 S1 b1 GB g2 g3 g4 hR
  rcases hlaw with ⟨h1, h3, h4⟩ | ⟨h0, rfl, rfl, h4⟩ | ⟨h0, rfl, h4, h5⟩
  · rw [← h3]
    have q1 : (e == 3) = false := by simpa using h4
    have q2 : (e != 0) = true := by rw [h3]; simpa using h1
    have q3 : (e == e) = true := by simp
    clear h1 h3 h4
    go_wp2_with fail
    go_ret
    exact ⟨rfl, GZ⟩
  · rw [h0]
    rcases h4 with h4 | rfl
    · have q1 : (f != 0) = true := by simpa using h4
      clear h4 h0
      go_wp2_with fail
      go_ret
      exact ⟨rfl, GZ⟩
    · clear h0
      by_cases hf : f = 0
      · subst hf
        go_wp2_with fail
        go_ret
        exact ⟨rfl, GZ⟩
      · have q1 : (f != 0) = true := by simpa using hf
        clear hf
        go_wp2_with fail
        go_ret
        exact ⟨rfl, GZ⟩
  · rw [h0]
    clear h0
    have hbk : b = false ∨ (b = true ∧ k ≤ (u.length : Int)) := by
      cases b
      · exact .inl rfl
      · exact .inr ⟨rfl, h4 rfl⟩
    clear h4
    by_cases hf : f = 0
    case neg =>
      have q1 : (f != 0) = true := by simpa using hf
      clear h5 hf
      rcases hbk with rfl | ⟨rfl, hk⟩
      · skip
        go_wp2_with fail
        go_ret
        exact ⟨rfl, GZ⟩
      · have q2 : decide (k ≤ (u.length : Int)) = true := by simpa using hk
        clear hk
        go_wp2_with fail
        go_ret
        exact ⟨rfl, GZ⟩
    subst hf
    rcases h5 with h5 | ⟨rfl, h5⟩ | ⟨x, r, rfl, hkm, hx⟩
    · exact absurd rfl h5
    · have q3 : decide (k ≤ most) = false := by simpa using h5
      clear h5
      rcases hbk with rfl | ⟨rfl, hk⟩
      · skip
        go_wp2_with fail
        go_ret
        exact ⟨rfl, GZ⟩
      · have q2 : decide (k ≤ (u.length : Int)) = true := by simpa using hk
        clear hk
        go_wp2_with fail
        go_ret
        exact ⟨rfl, GZ⟩
    · obtain ⟨rb, ro, rv, rfl, c0, hI⟩ := hR4.row (i := 0) (by simp)
      rw [ix_zero] at hI
      obtain ⟨xa, xc, rfl, _, _⟩ := hI.len
      rw [List.length_cons] at hR4 ⊢
      have q3 : decide (k ≤ most) = true := by simpa using hkm
      have q4 : ((x.length : Int) == k) = true := by simpa using hx
      have q5 : (0 : Int) < ((r.length + 1 : Nat) : Int) := by omega
      have q6 : (((r.length + 1 : Nat) : Int) == 0) = false := by simp; omega
      rw [Nat.add_zero] at c0
      clear hI hkm hx hR4
      rcases hbk with rfl | ⟨rfl, hk⟩
      · skip
        go_wp2_with fail
        go_ret
        exact ⟨rfl, GZ⟩
      · have q2 : decide (k ≤ (u.length : Int)) = true := by simpa using hk
        clear hk
        go_wp2_with fail
        go_ret
        exact ⟨rfl, GZ⟩
end Go.Proofs.Ytajmccjnoejmfaa
