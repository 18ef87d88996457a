/- Contract of the search's walk from mark to mark (explore). -/
import Derived.Test.YtelfbfjegmncaaaReach3
import Derived.Test.YtelfbfjegmncaaaNet3
namespace Go.Proofs.Ytelfbfjegmncaaa
open Go.RowKit Go.Tok
set_option linter.unusedVariables false
section
variable {N : NetD} {na : Option Addr} {ncap : Nat} {most : Nat} {fb : Nat} {w0 w : World} {R : Nat → Prop} {s : FinD}
def RetFind (N : NetD) (na : Option Addr) (ncap : Nat) (most : Int) (fb : Nat) (w0 : World) (R : Nat → Prop) (w : World) (k : Nat) (s' : FinD) (e : Ending) (w' : World) : Prop :=
  ∃ R', e = .returned (.tuple #[.int .i64 (k : Int), .bool true]) ∧ FinW N na ncap most fb w0 R' w' s' ∧ Bes R R' w w'
theorem right_all {m : List Int} (h : rightB m = true) : ∀ x ∈ m, 0 ≤ x ∧ x ≤ 1000000 := (rightB_iff m).1 h
theorem FinW.lt (h : FinW N na ncap most fb w0 R w s) : ∀ b, R b → b < w.heap.size := by
  obtain ⟨mb, vm, va, vf, rfl, hO⟩ := h
  exact fun b hb => hO.lt hb
theorem FinW.gr (h : FinW N na ncap most fb w0 R w s) {w' : World} (g : Gr w w') : FinW N na ncap most fb w0 R w' s := by
  obtain ⟨mb, vm, va, vf, h1, hO⟩ := h
  exact ⟨mb, vm, va, vf, h1, hO.gr' g⟩
theorem FinW.old (h : FinW N na ncap most fb w0 R w s) : Gr w0 w := by
  obtain ⟨mb, vm, va, vf, h1, hO⟩ := h
  exact hO.gr
theorem find_some {mv : Value} {m : List Int} {c : Int} {k : Nat} {s' : FinD} (h : FinW N na ncap most fb w0 R w s) (hm : On (fun b => ¬ R b) (fun w => Ints w mv m) w) (hr : rightB m = true) (hl : m.length ≤ 100) (hms : ∀ y ∈ s.marks, rightB y = true) (hc : I64 c) (hml : s.marks.length ≤ 1000) (hfl : s.first.length ≤ 1000) (hf : findF most s m c = some (k, s')) :
    Calls Try.prog 109 #[.pointer (some ⟨fb, 0, none⟩), mv, .int .i64 c] w (RetFind N na ncap most fb w0 R w k s') := by
  have hm' := hm.now
  obtain ⟨mb, vm, va, vf, rfl, hO⟩ := h
  unfold findF at hf
  by_cases hin : m ∈ s.marks
  · rw [if_pos hin] at hf
    cases hf
    refine (find_old hO hm' (right_all hr) hl hin hc).mono ?_
    rintro _ w' ⟨rfl, g⟩
    exact ⟨_, rfl, ⟨mb, vm, va, vf, rfl, hO.gr' g⟩, g.bes⟩
  · rw [if_neg hin] at hf
    by_cases hmo : s.marks.length = most
    · rw [if_pos hmo] at hf; cases hf
    · rw [if_neg hmo] at hf
      cases hf
      refine (find_new hO hm (right_all hr) hl hin (fun y hy => right_all (hms y hy)) hc (by omega) hml hfl).mono ?_
      rintro _ w' ⟨vm', vf', rfl, h1, h2⟩
      exact ⟨_, rfl, ⟨mb, vm', va, vf', rfl, h1⟩, h2⟩
theorem find_none {mv : Value} {m : List Int} {c : Int} (h : FinW N na ncap most fb w0 R w s) (hm : Ints w mv m) (hr : rightB m = true) (hl : m.length ≤ 100) (hms : ∀ y ∈ s.marks, rightB y = true) (hc : I64 c) (hf : findF most s m c = none) :
    Calls Try.prog 109 #[.pointer (some ⟨fb, 0, none⟩), mv, .int .i64 c] w fun e w' => e = .returned (.tuple #[.int .i64 0, .bool false]) ∧ Gr w w' := by
  obtain ⟨mb, vm, va, vf, rfl, hO⟩ := h
  unfold findF at hf
  by_cases hin : m ∈ s.marks
  · rw [if_pos hin] at hf; cases hf
  · rw [if_neg hin] at hf
    by_cases hmo : s.marks.length = most
    · exact find_full hO hm (right_all hr) hl hin (fun y hy => right_all (hms y hy)) hc (by omega)
    · rw [if_neg hmo] at hf; cases hf
end
section
variable {N : NetD} {na : Option Addr} {ncap : Nat} {most : Int} {fb mb : Nat} {vm va vf : Value} {w0 w : World} {marks : List (List Int)} {kvs : List (Value × Value)} {arcs : List ArcD} {first : List Int}
theorem FinO.mark_at (h : FinO N na ncap most fb mb vm va vf w0 w marks kvs arcs first) {i : Nat} (hi : i < marks.length) :
    ∃ g cap u, vm = .slice (some ⟨g, 0, none⟩) marks.length cap ∧ marks.length ≤ cap ∧ cap ≤ 9223372036854775807 ∧ w.cell? ⟨g, i, none⟩ = some u ∧ On (fun b => ¬ FinB w0.heap.size fb mb vm va vf b) (fun w => Ints w u (ix marks i)) w := by
  rcases h.ms.form with ⟨_, h1⟩ | ⟨g, cap, rfl, _, _, h2, h3⟩
  · rw [h1] at hi; simp at hi
  · obtain ⟨vs, h4, h5⟩ := h.ms.at_ hi
    obtain ⟨u, rfl, _⟩ := h4.now
    refine ⟨g, cap, u, rfl, h2, h3, by simpa [rowK] using h5 0 u rfl, ?_⟩
    refine (h4.mono (S' := fun b => ¬ FinB w0.heap.size fb mb (.slice (some ⟨g, 0, none⟩) marks.length cap) va vf b) fun b _ hb hB => ?_).imp fun w hw => ?_
    · rcases hB with h6 | h6 | h6 | h6 | h6 | h6
      · have := hb.1.1; omega
      · exact hb.1.2.1 h6
      · exact hb.1.2.2.1 h6
      · exact hb.2 (by simpa [Value.ownBlock] using h6.symm)
      · exact hb.1.2.2.2.1 h6
      · exact hb.1.2.2.2.2 h6
    · obtain ⟨u', h6, h7⟩ := hw
      cases h6; exact h7
end
theorem enabled_len (N : NetD) (m : List Int) : (enabledL N m).length ≤ N.trans.length := by rw [← enUpto_all]; exact enUpto_len _ _ _
theorem take_nth {l : List Int} {j : Nat} (h : j < l.length) : l.take (j + 1) = l.take j ++ [nth l j] := by rw [List.take_succ_eq_append_getElem h, nth_lt h]
theorem step_some {N : NetD} {most : Nat} {m : List Int} {i : Nat} {s s1 : FinD} {t : Int} {x : List Int} {k : Nat} (hf : fireF N m t = (x, 0)) (h : findF most s x s.arcs.length = some (k, s1)) : stepF N most m i s t = (⟨s1.marks, s1.arcs ++ [⟨i, t, k⟩], s1.first⟩, 0) := by
  unfold stepF; rw [hf]; simp only [if_true]; rw [h]; rfl
theorem step_none {N : NetD} {most : Nat} {m : List Int} {i : Nat} {s : FinD} {t : Int} {x : List Int} (hf : fireF N m t = (x, 0)) (h : findF most s x s.arcs.length = none) : stepF N most m i s t = (s, 4) := by
  unfold stepF; rw [hf]; simp only [if_true]; rw [h]; rfl
theorem step_bad {N : NetD} {most : Nat} {m : List Int} {i : Nat} {s : FinD} {t : Int} {x : List Int} {e : Int} (hf : fireF N m t = (x, e)) (he : e ≠ 0) : stepF N most m i s t = (s, e) := by
  unfold stepF; rw [hf, if_neg he]
theorem steps_ok {N : NetD} {most : Nat} {m : List Int} {i : Nat} {s s1 : FinD} {l : List Int} {j : Nat} (hj : j < l.length) (h : stepF N most m i s (nth l j) = (s1, 0)) : stepsF N most m i s (l.drop j) = stepsF N most m i s1 (l.drop (j + 1)) := by
  rw [drop_cons hj, steps_cons, h]; rfl
theorem steps_bad {N : NetD} {most : Nat} {m : List Int} {i : Nat} {s s1 : FinD} {l : List Int} {j : Nat} {e : Int} (hj : j < l.length) (h : stepF N most m i s (nth l j) = (s1, e)) (he : e ≠ 0) : stepsF N most m i s (l.drop j) = (s1, e) := by
  rw [drop_cons hj, steps_cons, h, if_neg he]
theorem expl_step {N : NetD} {most f i : Nat} {s s1 : FinD} {m : List Int} (hi : i < s.marks.length) (hm : ix s.marks i = m) (h : stepsF N most m i s (enabledL N m) = (s1, 0)) : explF N most (f + 1) i s = explF N most f (i + 1) s1 := by
  subst hm
  rw [expl_succ, if_pos hi, h]; rfl
theorem expl_bad {N : NetD} {most f i : Nat} {s s1 : FinD} {m : List Int} {e : Int} (hi : i < s.marks.length) (hm : ix s.marks i = m) (h : stepsF N most m i s (enabledL N m) = (s1, e)) (he : e ≠ 0) : explF N most (f + 1) i s = (s1, e) := by
  subst hm
  rw [expl_succ, if_pos hi, h, if_neg he]
theorem row_cells (w : World) (cs : Array Value) (t : TypeId) : ∀ (j : Nat) (u : Value), cs.toList[j]? = some u → (w.alloc (.cells cs t)).cell? ((⟨w.heap.size, 0, none⟩ : Addr).add j) = some u := by
  intro j u hj
  rw [add_none, Nat.zero_add]
  exact box_cell (Gr.refl _) (by rw [← Array.getElem?_toList]; exact hj)
def RetEx (N : NetD) (na : Option Addr) (ncap : Nat) (most : Int) (fb : Nat) (w0 : World) (r : FinD × Int) (e : Ending) (w' : World) : Prop :=
  e = .returned (.int .i64 r.2) ∧ Gr w0 w' ∧ (r.2 = 0 → ∃ R, FinW N na ncap most fb w0 R w' r.1)
theorem RetEx.bad {N : NetD} {na : Option Addr} {ncap : Nat} {most : Int} {fb : Nat} {w0 : World} {r : FinD × Int} {s : FinD} {x : Int} {w' : World} (hr : r = (s, x)) (hx : x ≠ 0) (g : Gr w0 w') : RetEx N na ncap most fb w0 r (.returned (.int .i64 x)) w' := by
  subst hr; exact ⟨rfl, g, fun h => absurd h hx⟩
theorem RetEx.good {N : NetD} {na : Option Addr} {ncap : Nat} {most : Int} {fb : Nat} {w0 : World} {R : Nat → Prop} {r : FinD × Int} {s : FinD} {w' : World} (hr : r = (s, 0)) (h : FinW N na ncap most fb w0 R w' s) (g : Gr w0 w') : RetEx N na ncap most fb w0 r (.returned (.int .i64 0)) w' := by
  subst hr; exact ⟨rfl, g, fun _ => ⟨R, h⟩⟩
set_option maxHeartbeats 8000000 in
set_option maxRecDepth 100000 in
theorem explore_calls {N : NetD} {na : Option Addr} {ncap : Nat} {most : Nat} {fb : Nat} {w0 w : World} {R : Nat → Prop} {s0 : FinD} {m0 : List Int} (hN0 : NetR w0 (.agg #[.int .i64 N.places, .slice na N.trans.length ncap]) N) (h : FinW N na ncap most fb w0 R w s0) (hF0 : FoundS N m0 most s0 0 []) (ha0 : s0.arcs.length = 0) (hmost : most ≤ 300) :
    Calls Try.prog 110 #[.pointer (some ⟨fb, 0, none⟩)] w (RetEx N na ncap most fb w0 (explF N most 301 0 s0)) := by
  have T := intTy
  have HA := Lib.hid arcTy
  obtain ⟨r, hr⟩ : ∃ r, r = explF N most 301 0 s0 := ⟨_, rfl⟩
  rw [← hr]
  have HR := Lib.hid hr
  clear hr
  go_enter Try.func110, Try.ntmps110
  go_wp2_with fail
  go_loopw [3] (fun q wr => ∃ (i : Nat) (s : FinD) (R : Nat → Prop), q = .int .i64 i ∧ FinW N na ncap most fb w0 R wr s ∧ FoundS N m0 most s i [] ∧ s.arcs.length ≤ 24 * i ∧ i ≤ s.marks.length ∧ explF N most (301 - i) i s = r) (fun q _ => 300 - (intOf q).toNat)
  case atStart => exact ⟨0, s0, R, rfl, h, hF0, by omega, Nat.zero_le _, HR.out.symm⟩
  case round =>
    rename World => wo
    obtain ⟨i, s, R1, rfl, hW, hF, hal, hil, hx⟩ := hrel
    have hle := hF.le
    have HX := Lib.hid hx
    clear hx
    by_cases hlt : i < s.marks.length
    · obtain ⟨mb, vm, va, vf, rfl, hO⟩ := hW
      obtain ⟨g, cap, mv, rfl, hc1, hc2, hmc, hOn⟩ := hO.mark_at hlt
      have c0 := hO.blk.cell (i := 0) rfl
      have c1 := hO.blk.cell (i := 1) rfl
      have c4 := hO.blk.cell (i := 4) rfl
      have hfit := hF.fit _ (ix_mem hlt)
      have HFI := Lib.hid (enabledF_fit hfit)
      have hcI : (i : Int) < (s.marks.length : Int) := by omega
      go_wp2_with fail
      refine (Enabled_own _ _ N (ix s.marks i) _ (hN0.gr hO.gr) hOn.now).mono ?_
      rw [HFI.out]; rintro _ w1 ⟨vl, rfl, ol, g1⟩
      have hOl : On (fun b => ¬ FinB w0.heap.size fb mb (.slice (some ⟨g, 0, none⟩) s.marks.length cap) va vf b) (fun w => Ints w vl (enabledL N (ix s.marks i))) w1 := On.own ol (fun b hb => hO.lt hb)
      replace hOn := hOn.gr g1
      have hW : FinW N na ncap most fb w0 (FinB w0.heap.size fb mb (.slice (some ⟨g, 0, none⟩) s.marks.length cap) va vf) w1 s := ⟨mb, _, va, vf, rfl, hO.gr' g1⟩
      obtain ⟨la, lc, rfl, _, _⟩ := ol.ints.len
      have hll : (enabledL N (ix s.marks i)).length ≤ 24 := Nat.le_trans (enabled_len _ _) (fits_sizes hfit).1
      obtain ⟨m, hm⟩ : ∃ m, m = ix s.marks i := ⟨_, rfl⟩
      rw [← hm] at hOn hOl hll ⊢
      obtain ⟨l, hl⟩ : ∃ l, l = enabledL N m := ⟨_, rfl⟩
      rw [← hl] at hOl hll ⊢
      have HMI := Lib.hid hm
      have HLI := Lib.hid hl
      obtain ⟨R2, hR2⟩ : ∃ R, R = FinB w0.heap.size fb mb (.slice (some ⟨g, 0, none⟩) s.marks.length cap) va vf := ⟨_, rfl⟩
      rw [← hR2] at hOn hOl hW
      clear hm hl hO c0 c1 c4 hmc ol g1 hR2 HFI
      go_wp2_with fail
      obtain ⟨rs, hrs⟩ : ∃ rs, rs = stepsF N most m i s l := ⟨_, rfl⟩
      have HRS := Lib.hid hrs
      clear hrs
      have hf24 : s.arcs.length ≤ 7200 := by omega
      go_loopw [45] (fun q wr => ∃ (j : Nat) (s' : FinD) (R' : Nat → Prop), q = .int .i64 j ∧ j ≤ l.length ∧ FinW N na ncap most fb w0 R' wr s' ∧ FoundS N m0 most s' i (l.take j) ∧ s'.arcs.length ≤ 24 * i + j ∧ On (fun b => ¬ R' b) (fun w => Ints w mv m) wr ∧ On (fun b => ¬ R' b) (fun w => Ints w (.slice la l.length lc) l) wr ∧ i < s'.marks.length ∧ Hid (ix s'.marks i = m) ∧ Hid (stepsF N most m i s' (l.drop j) = rs)) (fun q _ => l.length - (intOf q).toNat)
      case atStart => exact ⟨0, s, R2, rfl, Nat.zero_le _, hW, hF, by omega, hOn, hOl, hlt, Lib.hid HMI.out.symm, Lib.hid HRS.out.symm⟩
      case round =>
        rename_i wr
        obtain ⟨j, s', R', rfl, hj, hW', hF', hal', hOm, hOl', hi', HM', HS'⟩ := hrel
        by_cases hjl : j < l.length
        · obtain ⟨lb, lo, rfl, hlc⟩ := hOl'.now.cell hjl
          obtain ⟨mb', vm', va', vf', rfl, hO'⟩ := hW'
          have c0 := hO'.blk.cell (i := 0) rfl
          have c1 := hO'.blk.cell (i := 1) rfl
          obtain ⟨aa, ac, rfl, _, _⟩ := hO'.ar.len
          have c5 := hO'.blk.cell (i := 5) rfl
          have hjI : (j : Int) < (l.length : Int) := by omega
          have htI : I64 (nth l j) := hOl'.now.range j
          rcases hff : fireF N m (nth l j) with ⟨x, e⟩
          have HFF := Lib.hid hff
          clear hff
          go_wp2_with fail
          refine (Fire_own _ _ N m _ _ (hN0.gr hO'.gr) hOm.now htI).mono ?_
          rw [HFF.out]; rintro _ w2 ⟨vx, rfl, ox, g2⟩
          obtain ⟨xa, xc, rfl, _, _⟩ := ox.ints.len
          have hfm : fitsB N m = true := by rw [← HM'.out]; exact hF'.fit _ (ix_mem hi')
          have hbad : ∀ (s2 : FinD) (e2 : Int), stepF N most m i s' (nth l j) = (s2, e2) → e2 ≠ 0 → r = (s2, e2) := by
            intro s2 e2 h1 h2
            have h3 := steps_bad hjl h1 h2
            rw [HS'.out] at h3
            have h4 : stepsF N most m i s (enabledL N m) = (s2, e2) := by rw [← HLI.out, ← HRS.out]; exact h3
            have h5 := HX.out
            rw [show 301 - i = (300 - i) + 1 by omega, expl_bad hlt HMI.out.symm h4 h2] at h5
            exact h5.symm
          have HB := Lib.hid hbad
          clear hbad
          by_cases he : e = 0
          · subst he
            obtain ⟨kk, hkk, hFi⟩ := fire_ok hfm HFF.out
            have hxf := hFi.fits hfm
            have hxr := (fits_sizes hxf).2.2.2.2.2.1
            have hx16 := (fits_sizes hxf).2.2.2.1
            have hW2 : FinW N na ncap most fb w0 (FinB w0.heap.size fb mb' vm' (.slice aa s'.arcs.length ac) vf') w2 s' := ⟨mb', _, _, _, rfl, hO'.gr' g2⟩
            have hms : ∀ y ∈ s'.marks, rightB y = true := fun y hy => (fits_sizes (hF'.fit y hy)).2.2.2.2.2.1
            have hcI : I64 ((s'.arcs.length : Nat) : Int) := by unfold I64; omega
            have hml : s'.marks.length ≤ 1000 := by have := hF'.le; omega
            have hfl : s'.first.length ≤ 1000 := by have := hF'.flen; omega
            have c5' := cell_gr c5 g2
            have hOx : On (fun b => ¬ FinB w0.heap.size fb mb' vm' (.slice aa s'.arcs.length ac) vf' b) (fun w => Ints w (.slice xa x.length xc) x) w2 := On.own ox (fun b hb => hO'.lt hb)
            have hOm2 := hOm.gr g2
            have hOl2 := hOl'.gr g2
            clear hkk hFi hxf c0 c1 c5 hO' hOm hOl' hfm
            rcases hfd : findF most s' x s'.arcs.length with _ | ⟨k, s1⟩
            · have HN := Lib.hid (HB.out _ _ (step_none (i := i) HFF.out hfd) (by decide))
              have HFD := Lib.hid hfd
              clear hfd
              go_wp2_with fail
              refine (find_none hW2 hOx.now hxr (by omega) hms hcI HFD.out).mono ?_
              rintro _ w3 ⟨rfl, g3⟩
              have gw := hW2.old.trans g3
              go_wp2_with fail
              go_ret
              exact RetEx.bad HN.out (by decide) gw
            · have hst := step_some (i := i) HFF.out hfd
              have hHS := steps_ok hjl hst
              have HFD := Lib.hid hfd
              have hk300 : k ≤ 1000 := by
                unfold findF at hfd
                split at hfd
                · cases hfd; rename_i hin; have := (mem_idx hin).1; omega
                · split at hfd
                  · cases hfd
                  · cases hfd; omega
              have HST := Lib.hid hst
              rw [← HM'.out] at hst
              obtain ⟨hF2, ⟨rr, hrr⟩, hal2⟩ := step_found hF' hi' hst
              rw [← take_nth hjl] at hF2
              have hi2 : i < s1.marks.length := by simp only [] at hrr; rw [hrr, List.length_append]; omega
              have hm2 : ix s1.marks i = m := by simp only [] at hrr; rw [hrr, ix_append_left hi', HM'.out]
              have HM2 := Lib.hid hm2
              have HRR := Lib.hid hrr
              rw [HS'.out] at hHS
              have HHS := Lib.hid hHS.symm
              clear hfd hst hm2 hrr hHS
              go_wp2_with fail
              refine (find_some hW2 hOx hxr (by omega) hms hcI hml hfl HFD.out).mono ?_
              rintro _ w3 ⟨R3, rfl, hW3, bs3⟩
              have hOm3 := hOm2.bes bs3
              have hOl3 := hOl2.bes bs3
              obtain ⟨mb3, vm3, va3, vf3, rfl, hO3⟩ := hW3
              obtain ⟨a3, n3, rfl, _, _⟩ := hO3.ar.len
              have c5 := hO3.blk.cell (i := 5) rfl
              have GA : Gr w3 (w3.alloc (.cells #[.int .i64 (i : Int), .int .i64 (nth l j), .int .i64 (k : Int)] 56)) := (Gr.refl _).alloc _
              have h3a := hO3.gr' GA
              have hal3 : s1.arcs.length + 1 ≤ 24 * i + (j + 1) := by simp only [List.length_append, List.length_singleton] at hal2; omega
              have hy : On (fun b => (fun _ => False) b ∧ (Value.slice a3 s1.arcs.length n3).ownBlock ≠ some b) (fun w => arcK.R w [.int .i64 (i : Int), .int .i64 (nth l j), .int .i64 (k : Int)] ⟨i, nth l j, k⟩) (w3.alloc (.cells #[.int .i64 (i : Int), .int .i64 (nth l j), .int .i64 (k : Int)] 56)) := On.true (p := arcCells ⟨i, nth l j, k⟩ = arcCells ⟨i, nth l j, k⟩ ∧ arcI ⟨i, nth l j, k⟩) ⟨rfl, i64_nat (by omega), htI, i64_nat (by omega)⟩
              clear bs3 hW2 hOm2 hOl2 c5' hOx hO3
              go_upto_region 18 with (at_builtin; refine app_one HA.out _ _ w0.heap.size _ (.slice a3 s1.arcs.length n3) s1.arcs ⟨w3.heap.size, 0, none⟩ ⟨i, nth l j, k⟩ [.int .i64 (i : Int), .int .i64 (nth l j), .int .i64 (k : Int)] (by rfl) (by rfl) (by rfl) (by rfl) h3a.ar (row_cells _ _ _) hy (by omega) (by unfold maxLen; omega) h3a.gr.le ?_; intro v' w5 ho hgs hgb hat; obtain ⟨a5, n5, rfl⟩ := ho.len1; have bk5 : Blk w5 fb _ _ := h3a.blk.grown hgb (fun e => h3a.ap.vaf e.symm); have f5 := bk5.frozen 5; have d5 := bk5.cell (i := 5) rfl)
              obtain ⟨h5, bs5⟩ := h3a.put_arc hgb ho hat
              have hOm5 := (hOm3.gr GA).bes bs5
              have hOl5 := (hOl3.gr GA).bes bs5
              clear hgs hgb hat bk5 f5 d5 ho bs5 h3a hOm3 hOl3 GA c5 hy
              generalize (w5.setCell ⟨fb, 5, none⟩ _) = w6 at h5 hOm5 hOl5 ⊢
              go_wp2_with fail
              go_roundw
              case rel => exact ⟨j + 1, _, _, by go_num, by omega, ⟨mb3, _, _, _, rfl, h5⟩, hF2, by simp only [List.length_append, List.length_singleton]; omega, hOm5, hOl5, hi2, HM2, Lib.hid HHS.out⟩
              case measure => simp [intOf]; omega
          · have hst := step_bad (most := most) (i := i) (s := s') HFF.out he
            have HN := Lib.hid (HB.out _ _ hst he)
            have q1 : (e != 0) = true := by simpa using he
            have gw := hO'.gr.trans g2
            clear hst
            go_wp2_with fail
            go_ret
            exact RetEx.bad HN.out he gw
        · obtain rfl : j = l.length := by omega
          have hrs := HS'.out
          rw [List.drop_length, steps_nil] at hrs
          have h4 : stepsF N most m i s (enabledL N m) = (s', 0) := by rw [← HLI.out, ← HRS.out]; exact hrs.symm
          have h5 := HX.out
          rw [show 301 - i = (300 - i) + 1 by omega, expl_step hlt HMI.out.symm h4] at h5
          have H5 := Lib.hid h5
          have hF2 : FoundS N m0 most s' (i + 1) [] := by
            rw [List.take_length, HLI.out] at hF'
            rw [← HM'.out] at hF'
            exact found_next hF'
          clear hrs h4 h5
          go_wp2_with fail
          go_roundw
          case rel => exact ⟨i + 1, s', R', by go_num, hW', hF2, by omega, by omega, by rw [show 301 - (i + 1) = 300 - i by omega]; exact H5.out⟩
          case measure => simp [intOf]; omega
    · have hxe := HX.out
      rw [expl_end (by omega)] at hxe
      have HE := Lib.hid hxe.symm
      clear hxe
      obtain ⟨mb, vm, va, vf, rfl, hO⟩ := hW
      obtain ⟨vma, vmc, rfl, _, _⟩ := hO.ms.len
      have c4 := hO.blk.cell (i := 4) rfl
      have hcI : (s.marks.length : Int) ≤ (i : Int) := by omega
      go_wp2_with fail
      go_ret
      exact RetEx.good HE.out ⟨mb, _, va, vf, rfl, hO⟩ hO.gr
end Go.Proofs.Ytelfbfjegmncaaa
