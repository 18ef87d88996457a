/- Contract of tongue.Least. -/
import Derived.Test.YtkekamffmmokmaaTong4
import Derived.Test.YtkekamffmmokmaaTong6
import Derived.Test.YtkekamffmmokmaaWordLaw
import Derived.Test.YtkekamffmmokmaaCompI
namespace Go.Tok
open Go.RowKit Go.Proofs.Ytkekamffmmokmaa
set_option linter.unusedVariables false
def endsN (N : NetD) (o : Int) (A : SpaceD) : List Bool := A.marks.map fun m => eqB m (oneN (startLen N) o)
def sayN (N : NetD) (o most : Int) (A : SpaceD) : SayD := ⟨labN N, A.arcs, endsN N o A, farN (labN N) A.arcs (endsN N o A), Go.Lib.compact (sortI (labN N)), most⟩
def firstN (N : NetD) (A : SpaceD) : List Bool := firstF A.marks.length (labN N) A.arcs
theorem endsN_len (N : NetD) (o : Int) (A : SpaceD) : (endsN N o A).length = A.marks.length := by simp [endsN]
def leastN (N : NetD) (o : Int) (A : SpaceD) : Int := (sayN N o 0 A).hope (firstN N A)
/-- what Least answers -/
def LeastIs (N : NetD) (i o k e : Int) : Prop :=
  (hasErr N i o ≠ 0 ∧ k = 0 ∧ e = hasErr N i o) ∨ (hasErr N i o = 0 ∧ ∃ A, HasOk N i o A ∧ shapeC N i o = 0 ∧ graphF N (oneN (startLen N) i) 300 = (A, 0) ∧ ((leastN N o A < 0 ∧ k = 0 ∧ e = 3) ∨ (0 ≤ leastN N o A ∧ k = leastN N o A ∧ e = 0)))
end Go.Tok
namespace Go.Proofs.Ytkekamffmmokmaa
open Go.RowKit Go.Tok
set_option linter.unusedVariables false
def RetLe (N : NetD) (i o : Int) (w : World) (e : Ending) (w' : World) : Prop := ∃ k x, e = .returned (.tuple #[.int .i64 k, .int .i64 x]) ∧ Gr w w' ∧ LeastIs N i o k x
set_option maxHeartbeats 4000000 in
set_option maxRecDepth 100000 in
theorem Least_calls (v : Value) (N : NetD) (i o : Int) (w : World) (hN : NetR w v N) (hi : I64 i) (ho : I64 o) :
    Calls Try.prog 37 #[v, .int .i64 i, .int .i64 o] w (RetLe N i o w) := by
  have hN' := hN
  obtain ⟨a, cap, rfl, hnl, hncap, hpl, hT⟩ := hN.open_
  have hpl1 := hpl.1
  have hpl2 := hpl.2
  have GA : Gr w (w.alloc (.cells #[.int .i64 N.places, .slice a N.trans.length cap] 24)) := (Gr.refl _).alloc _
  have A0 : (w.alloc (.cells #[.int .i64 N.places, .slice a N.trans.length cap] 24)).cell? ⟨w.heap.size, 0, none⟩ = some (.int .i64 N.places) := box_cell (Gr.refl _) (i := 0) rfl
  have A1 : (w.alloc (.cells #[.int .i64 N.places, .slice a N.trans.length cap] 24)).cell? ⟨w.heap.size, 1, none⟩ = some (.slice a N.trans.length cap) := box_cell (Gr.refl _) (i := 1) rfl
  go_enter Try.func37, Try.ntmps37
  go_wp2_with fail
  refine (speak_calls _ N i o _ (hN'.gr GA) hi ho).mono ?_
  rintro _ w1 ⟨g1, h1⟩
  rcases h1 with ⟨hne, rfl⟩ | ⟨h0, pb, A, rfl, hs, hg, hS⟩
  · have q1 : (hasErr N i o != 0) = true := by simpa using hne
    have HM := Lib.hid hne
    have GZ := GA.trans g1
    obtain ⟨x, hx⟩ : ∃ x, x = hasErr N i o := ⟨_, rfl⟩
    rw [← hx] at q1 ⊢
    have HX := Lib.hid hx
    clear hne hx A0 A1 g1
    go_wp2_with fail
    go_ret2
    exact ⟨0, x, rfl, GZ, .inl ⟨HM.out, rfl, HX.out⟩⟩
  · have HK := Lib.hid (hasOk_mk h0 hs hg)
    have HX := Lib.hid h0
    have HSH := Lib.hid hs
    have HG := Lib.hid hg
    have hn0 := HK.out.n0
    have hnl := HK.out.nl
    have hal := HK.out.al
    have GZ := GA.trans g1
    have hel := endsN_len N o A
    have HEL := Lib.hid hel
    change Spk w1 pb A.marks A.arcs (labN N) (endsN N o A) at hS
    clear h0 hs hg A0 A1 g1 GA hel
    go_wp2_with fail
    refine (far_calls hS (by rw [HEL.out]; exact HK.out.arcs) (by omega) (by rw [HEL.out]; omega)).mono ?_
    rintro _ w2 ⟨v2, rfl, o2, g2⟩
    have hS2 := hS.gr g2
    go_wp2_with fail
    refine (first_calls hS2 HK.out.arcs hn0 (by omega) (by omega)).mono ?_
    rintro _ w3 ⟨v3, ys, rfl, oy, hB, g3⟩
    obtain ⟨ya, yc, hyv, _, _⟩ := OwnR.len oy
    rw [hB.1] at hyv
    subst hyv
    have HR := oy.rd
    have hF := (o2.gr g3).ints
    obtain ⟨fa, fc, rfl, _, _⟩ := hF.len
    have HFL : Hid ((farN (labN N) A.arcs (endsN N o A)).length = A.marks.length) := Lib.hid (by rw [← HEL.out]; exact (passN_I (by rw [HEL.out]; exact HK.out.arcs) _).len)
    rw [HFL.out] at hF ⊢
    obtain rfl : ys = firstN N A := behind_eq hB (firstF_behind HK.out.arcs hn0)
    have HYL := Lib.hid hB.1
    clear oy o2 hB
    go_wp2_with fail
    refine (hope_calls hF HFL.out HR HYL.out (by omega)).mono ?_
    rintro _ w4 ⟨rfl, g4⟩
    have hk : hopeTo (farN (labN N) A.arcs (endsN N o A)) (firstN N A) A.marks.length = leastN N o A := by
      unfold leastN SayD.hope sayN
      rw [HEL.out]
    rw [hk]
    have HLN : Hid (∀ k x, ((leastN N o A < 0 ∧ k = 0 ∧ x = 3) ∨ (0 ≤ leastN N o A ∧ k = leastN N o A ∧ x = 0)) → LeastIs N i o k x) := Lib.hid fun k x h => .inr ⟨HX.out, A, HK.out, HSH.out, HG.out, h⟩
    have GQ := ((GZ.trans g2).trans g3).trans g4
    generalize leastN N o A = k at *
    clear hk g2 g3 g4 hF HR
    by_cases h0 : k < 0
    · go_wp2_with fail
      go_ret2
      exact ⟨0, 3, rfl, GQ, HLN.out _ _ (.inl ⟨h0, rfl, rfl⟩)⟩
    · go_wp2_with fail
      go_ret2
      exact ⟨k, 0, rfl, GQ, HLN.out _ _ (.inr ⟨by omega, rfl, rfl⟩)⟩
end Go.Proofs.Ytkekamffmmokmaa
