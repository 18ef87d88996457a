/- Contract of tongue.Has. -/
import Derived.Test.YtkekamffmmokmaaTong3
import Derived.Test.YtkekamffmmokmaaGS
namespace Go.Tok
open Go.RowKit Go.Proofs.Ytkekamffmmokmaa
set_option linter.unusedVariables false
/-- what Has says -/
def HasMeans (N : NetD) (i o : Int) (u : List Int) (b : Bool) : Prop :=
  (hasErr N i o ≠ 0 → b = false) ∧ (hasErr N i o = 0 → ∃ (a c : Nat) (s : FinD), i = a ∧ o = c ∧ ShapeOk N a c ∧ Whole N (oneN (startLen N) (a : Int)) 300 s ∧ (b = true ↔ IsWord N (oneN (startLen N) (a : Int)) (oneN (startLen N) (c : Int)) u))
theorem HasMeans.bad {N : NetD} {i o : Int} {u : List Int} (h : hasErr N i o ≠ 0) : HasMeans N i o u false := ⟨fun _ => rfl, fun e => absurd e h⟩
/-- what the walk of Has stands on -/
structure HasOk (N : NetD) (i o : Int) (A : SpaceD) : Prop where
  n0 : 0 < A.marks.length
  nl : A.marks.length ≤ 300
  al : A.arcs.length ≤ 7300
  arcs : ArcsOk A.marks.length (labN N).length A.arcs
  mean : ∀ (u : List Int) (b : Bool), (b = true ↔ ∃ k, Way (labN N) A.arcs 0 u k ∧ ix A.marks k = oneN (startLen N) o) → HasMeans N i o u b
theorem hasOk_mk {N : NetD} {i o : Int} {A : SpaceD} (h0 : hasErr N i o = 0) (hs : shapeC N i o = 0) (hg : graphF N (oneN (startLen N) i) 300 = (A, 0)) : HasOk N i o A := by
  obtain ⟨a, c, rfl, rfl, hO⟩ := shape_ok hs
  obtain ⟨s, h1, rfl, h2, h3, h4, hW⟩ := search_of_graph hg
  refine ⟨hW.zero.1, by have := hW.le; simp only []; omega, search_arcs h1, by rw [labN_len]; exact hW.arcsOk, fun u b hb => ⟨fun e => absurd h0 e, fun _ => ⟨a, c, s, rfl, rfl, hO, hW, ?_⟩⟩⟩
  rw [hb]
  exact hW.says hO.ok _ _
end Go.Tok
namespace Go.Proofs.Ytkekamffmmokmaa
open Go.RowKit Go.Tok
set_option linter.unusedVariables false
def RetHas (N : NetD) (i o : Int) (u : List Int) (w : World) (e : Ending) (w' : World) : Prop := ∃ b, e = .returned (.tuple #[.bool b, .int .i64 (hasErr N i o)]) ∧ Gr w w' ∧ HasMeans N i o u b
theorem RetHas.mk {N : NetD} {i o : Int} {u : List Int} {w w' : World} {b : Bool} {x : Int} (hx : hasErr N i o = x) (g : Gr w w') (h : HasMeans N i o u b) : RetHas N i o u w (.returned (.tuple #[.bool b, .int .i64 x])) w' := by subst hx; exact ⟨b, rfl, g, h⟩
set_option maxHeartbeats 4000000 in
set_option maxRecDepth 100000 in
theorem Has_calls (v vu : Value) (N : NetD) (i o : Int) (u : List Int) (w : World) (hN : NetR w v N) (hi : I64 i) (ho : I64 o) (hu : Ints w vu u) (hul : u.length ≤ 17592186044416) :
    Calls Try.prog 36 #[v, .int .i64 i, .int .i64 o, vu] w (RetHas N i o u w) := by
  have hN' := hN
  obtain ⟨a, cap, rfl, hnl, hncap, hpl, hT⟩ := hN.open_
  have hpl1 := hpl.1
  have hpl2 := hpl.2
  obtain ⟨ua, uc, rfl, ul, ul'⟩ := hu.len
  have GA : Gr w (w.alloc (.cells #[.int .i64 N.places, .slice a N.trans.length cap] 24)) := (Gr.refl _).alloc _
  have A0 : (w.alloc (.cells #[.int .i64 N.places, .slice a N.trans.length cap] 24)).cell? ⟨w.heap.size, 0, none⟩ = some (.int .i64 N.places) := box_cell (Gr.refl _) (i := 0) rfl
  have A1 : (w.alloc (.cells #[.int .i64 N.places, .slice a N.trans.length cap] 24)).cell? ⟨w.heap.size, 1, none⟩ = some (.slice a N.trans.length cap) := box_cell (Gr.refl _) (i := 1) rfl
  go_enter Try.func36, Try.ntmps36
  go_wp2_with fail
  refine (speak_calls _ N i o _ (hN'.gr GA) hi ho).mono ?_
  rintro _ w1 ⟨g1, h1⟩
  rcases h1 with ⟨hne, rfl⟩ | ⟨h0, pb, A, rfl, hs, hg, hS⟩
  · have q1 : (hasErr N i o != 0) = true := by simpa using hne
    have HM := Lib.hid (HasMeans.bad (u := u) hne)
    have GZ := GA.trans g1
    obtain ⟨x, hx⟩ : ∃ x, x = hasErr N i o := ⟨_, rfl⟩
    rw [← hx] at q1 ⊢
    have HX := Lib.hid hx.symm
    clear hne hx A0 A1 g1
    go_wp2_with fail
    go_ret2
    exact RetHas.mk HX.out GZ HM.out
  · have HK := Lib.hid (hasOk_mk h0 hs hg)
    have HX := Lib.hid h0
    have hn0 := HK.out.n0
    have hnl := HK.out.nl
    have hal := HK.out.al
    have GZ := GA.trans g1
    clear h0 hs hg A0 A1 g1 GA
    go_wp2_with fail
    refine (first_calls hS HK.out.arcs hn0 (by omega) (by omega)).mono ?_
    rintro _ w2 ⟨v2, ys, rfl, oy, hB, g2⟩
    obtain ⟨ya, yc, hyv, _, _⟩ := OwnR.len oy
    rw [hB.1] at hyv
    subst hyv
    have HR := oy.rd
    have HGR0 := g2
    clear oy
    go_wp2_with fail
    go_loopw [12, 31] (fun sv q wr => ∃ (k : Nat) (ys : List Bool) (sa : Option Addr) (sc : Nat), q = .int .i64 k ∧ k ≤ u.length ∧ sv = .slice sa A.marks.length sc ∧ Rd boolK wr (.slice sa A.marks.length sc) ys ∧ Behind A.marks.length (labN N) A.arcs (u.take k) ys ∧ Gr w1 wr) (fun _ q _ => u.length - (intOf q).toNat)
    case atStart => exact ⟨0, ys, ya, yc, rfl, Nat.zero_le _, rfl, HR, by rw [List.take_zero]; exact hB, g2⟩
    case round =>
      rename World => wr
      obtain ⟨k, zs, sa, sc, rfl, hk, rfl, hR, hBk, hgr⟩ := hrel
      by_cases hlt : k < u.length
      · obtain ⟨lb, lo, rfl, c0⟩ := ((hu.gr GZ).gr hgr).cell hlt
        have hkI : (k : Int) < (u.length : Int) := by omega
        have hI := hu.range k
        have HBK := Lib.hid hBk
        clear hBk
        go_wp2_with fail
        refine (hear_calls (hS.gr hgr) HK.out.arcs hR HBK.out.1 (by omega) (by omega) hI).mono ?_
        rintro _ w3 ⟨v3, y3, b, rfl, o3, hH, g3⟩
        obtain ⟨za, zc, hzv, _, _⟩ := OwnR.len o3
        rw [hH.1] at hzv
        subst hzv
        have HR3 := o3.rd
        have htk : u.take (k + 1) = u.take k ++ [nth u k] := by rw [List.take_succ_eq_append_getElem hlt, nth_lt hlt]
        cases b
        · have HM := Lib.hid (HK.out.mean u false ⟨(fun e => by cases e), fun ⟨p, hp, _⟩ => absurd hp (by
            have h5 := HBK.out.none HK.out.arcs hn0 hH (u.drop (k + 1)) p
            have h6 : u.take k ++ nth u k :: u.drop (k + 1) = u := by
              rw [nth_lt hlt, List.getElem_cons_drop, List.take_append_drop]
            rwa [h6] at h5)⟩)
          have GZ2 := (GZ.trans hgr).trans g3
          clear hH o3 hR htk
          go_wp2_with fail
          go_ret2
          exact RetHas.mk HX.out GZ2 HM.out
        · have HB2 := Lib.hid (show Behind A.marks.length (labN N) A.arcs (u.take (k + 1)) y3 by rw [htk]; exact HBK.out.next HK.out.arcs hn0 hH)
          have g4 := hgr.trans g3
          clear hH o3 hR htk
          go_wp2_with fail
          go_roundw
          case rel => exact ⟨k + 1, y3, za, zc, by go_num, by omega, rfl, HR3, HB2.out, g4⟩
          case measure => simp [intOf]; omega
      · obtain rfl : k = u.length := by omega
        rw [List.take_length] at hBk
        have HBK := Lib.hid hBk
        clear hBk
        go_wp2_with fail
        refine (ends_calls (hS.gr hgr) hR HBK.out.1 (by simp) (by omega)).mono ?_
        rintro _ _ ⟨b, rfl, hb, rfl⟩
        have HM := Lib.hid (HK.out.mean u b (by
          rw [hb]
          constructor
          · rintro ⟨p, h1, h2, h3⟩
            rw [ix_mapB h1] at h3
            exact ⟨p, (HBK.out.2 p h1).1 h2, (eqB_iff _ _).1 h3⟩
          · rintro ⟨p, h1, h2⟩
            have hp := way_lt HK.out.arcs hn0 h1
            exact ⟨p, hp, (HBK.out.2 p hp).2 h1, by rw [ix_mapB hp]; exact (eqB_iff _ _).2 h2⟩))
        have GZ2 := GZ.trans hgr
        clear hb
        go_wp2_with fail
        go_ret2
        exact RetHas.mk HX.out GZ2 HM.out
end Go.Proofs.Ytkekamffmmokmaa
