/- Contract of tongue.Words. -/
import Derived.Test.YtkanaoebpajbfaaTong7
import Derived.Test.YtkanaoebpajbfaaStartRow
namespace Go.Tok
open Go.RowKit Go.Proofs.Ytkanaoebpajbfaa
set_option linter.unusedVariables false
def wordsN (N : NetD) (o most : Int) (A : SpaceD) : Option (List (List Int)) := (sayN N o most A).wordsF (most.toNat + 1) 0 [([], firstN N A)] []
/-- what Words answers -/
def WordsIs (N : NetD) (i o most : Int) (out : List (List Int)) (e : Int) : Prop :=
  (hasErr N i o ≠ 0 ∧ out = [] ∧ e = hasErr N i o) ∨ (hasErr N i o = 0 ∧ (((most < 0 ∨ 8 < most) ∧ out = [] ∧ e = 2) ∨ (0 ≤ most ∧ most ≤ 8 ∧ ∃ A, HasOk N i o A ∧ shapeC N i o = 0 ∧ graphF N (oneN (startLen N) i) 300 = (A, 0) ∧ ((wordsN N o most A = none ∧ out = [] ∧ e = 4) ∨ (wordsN N o most A = some out ∧ e = 0)))))
/-- between two lengths -/
structure OuterI (D : SayD) (n M : Nat) (R : Option (List (List Int))) (k : Nat) (now : List StD) (out : List (List Int)) : Prop where
  le : k ≤ M + 1
  is : D.wordsF (M + 1 - k) k now out = R
  nl : now.length ≤ 400
  ol : out.length ≤ 400
  sets : ∀ x ∈ now, x.2.length = n ∧ x.1.length ≤ k
end Go.Tok
namespace Go.Proofs.Ytkanaoebpajbfaa
open Go.RowKit Go.Tok
set_option linter.unusedVariables false
/-- the box of a beginning, and what it holds -/
def BoxP (bx : Nat) (uv vv : Value) (wd : List Int) (st : List Bool) (p : World → Prop) (w : World) : Prop := (Ints w uv wd ∧ Rd boolK w vv st) ∧ (w.cell? ⟨bx, 0, none⟩ = some uv ∧ w.cell? ⟨bx, 1, none⟩ = some vv) ∧ p w
theorem two_cell (w : World) (u v : Value) (t : TypeId) : ∀ (j : Nat) (x : Value), [u, v][j]? = some x → (w.alloc (.cells #[u, v] t)).cell? ((⟨w.heap.size, 0, none⟩ : Addr).add j) = some x := by
  intro j x hj
  rw [add_none, Nat.zero_add]
  exact box_cell (Gr.refl _) (i := j) (by simpa using hj)
theorem startTy : KTy Try.prog 186 185 startK 48 (.agg #[.slice none 0 0, .slice none 0 0]) := ⟨Try.underlying186, by kernel_rfl, by rfl, by decide⟩
theorem Clip_calls (a : Option Addr) (n c : Nat) (xs : List Int) (w : World) (hv : Ints w (.slice a n c) xs) (hl : xs.length = n) :
    Calls Try.prog 106 #[.slice a n c] w fun e w' => e = .returned (.slice a n n) ∧ Ints w (.slice a n n) xs ∧ w = w' := by
  subst hl
  have hl : xs.length ≤ c ∧ c ≤ 9223372036854775807 := by
    obtain ⟨a', c', h, h1, h2⟩ := hv.len
    cases h; exact ⟨h1, h2⟩
  have HR : Hid (Ints w (.slice a xs.length xs.length) xs) := Lib.hid (by
    refine Ints.intro (a := a) rfl (Nat.le_refl _) (by unfold maxLen; omega) (fun z hz => ?_) (fun h => ?_) (fun i hi => hv.cell hi)
    · obtain ⟨k, hk, rfl⟩ := List.getElem_of_mem hz
      have := hv.range k
      rwa [nth_lt hk] at this
    · subst h
      rcases hv.form with ⟨_, h0⟩ | ⟨_, _, h0, _⟩
      · rw [h0]; rfl
      · cases h0)
  rcases hv.form with ⟨h, hx⟩ | ⟨ad, cap, h, h1, h2⟩
  · subst hx
    cases h
    go_enter Try.func106, Try.ntmps106
    go_wp2
    go_ret
    exact ⟨rfl, HR.out, rfl⟩
  · cases h
    go_enter Try.func106, Try.ntmps106
    go_wp2
    go_ret
    exact ⟨rfl, HR.out, rfl⟩
def RetWo (N : NetD) (i o most : Int) (w : World) (e : Ending) (w' : World) : Prop := ∃ v out x, e = .returned (.tuple #[v, .int .i64 x]) ∧ Gr w w' ∧ Rd rowK w' v out ∧ WordsIs N i o most out x
set_option maxHeartbeats 8000000 in
set_option maxRecDepth 100000 in
theorem Words_calls (v : Value) (N : NetD) (i o most : Int) (w : World) (hN : NetR w v N) (hi : I64 i) (ho : I64 o) (hm : I64 most) :
    Calls Try.prog 40 #[v, .int .i64 i, .int .i64 o, .int .i64 most] w (RetWo N i o most w) := by
  have hN' := hN
  obtain ⟨a, cap, rfl, hnl, hncap, hpl, hT⟩ := hN.open_
  have hpl1 := hpl.1
  have hpl2 := hpl.2
  have GA : Gr w (w.alloc (.cells #[.int .i64 N.places, .slice a N.trans.length cap] 24)) := (Gr.refl _).alloc _
  have A0 : (w.alloc (.cells #[.int .i64 N.places, .slice a N.trans.length cap] 24)).cell? ⟨w.heap.size, 0, none⟩ = some (.int .i64 N.places) := box_cell (Gr.refl _) (i := 0) rfl
  have A1 : (w.alloc (.cells #[.int .i64 N.places, .slice a N.trans.length cap] 24)).cell? ⟨w.heap.size, 1, none⟩ = some (.slice a N.trans.length cap) := box_cell (Gr.refl _) (i := 1) rfl
  have hm1 := hm.1
  have hm2 := hm.2
  go_enter Try.func40, Try.ntmps40
  go_wp2_with fail
  refine (speak_calls _ N i o _ (hN'.gr GA) hi ho).mono ?_
  rintro _ w1 ⟨g1, h1⟩
  rcases h1 with ⟨hne, rfl⟩ | ⟨h0, pb, A, rfl, hs, hg, hS⟩
  · have q1 : (hasErr N i o != 0) = true := by simpa using hne
    have HM := Lib.hid hne
    have GZ := GA.trans g1
    obtain ⟨x, hx⟩ : ∃ x, x = hasErr N i o := ⟨_, rfl⟩
    rw [← hx] at q1 ⊢
    have HX := Lib.hid hx
    clear hne hx A0 A1 g1
    go_wp2_with fail
    go_ret2
    exact ⟨_, [], x, rfl, GZ, Rd.nil _, .inl ⟨HM.out, rfl, HX.out⟩⟩
  · have HK := Lib.hid (hasOk_mk h0 hs hg)
    have HX := Lib.hid h0
    have HSH := Lib.hid hs
    have HG := Lib.hid hg
    have hn0 := HK.out.n0
    have hnl := HK.out.nl
    have hal := HK.out.al
    have GZ := GA.trans g1
    have hel := endsN_len N o A
    have HEL := Lib.hid hel
    change Spk w1 pb A.marks A.arcs (labN N) (endsN N o A) at hS
    have hll : (labN N).length ≤ 24 := by
      rw [labN_len]; obtain ⟨_, _, _, _, hO⟩ := shape_ok hs; exact netOk_n24 hO.ok
    clear h0 hs hg A0 A1 g1 GA hel
    by_cases c1 : most < 0
    · have q1 : decide (most < 0) = true := by simpa using c1
      go_wp2_with fail
      go_ret2
      exact ⟨_, [], 2, rfl, GZ, Rd.nil _, .inr ⟨HX.out, .inl ⟨.inl c1, rfl, rfl⟩⟩⟩
    by_cases c2 : 8 < most
    · have q1 : decide (most < 0) = false := by simpa using c1
      have q2 : decide (8 < most) = true := by simpa using c2
      go_wp2_with fail
      go_ret2
      exact ⟨_, [], 2, rfl, GZ, Rd.nil _, .inr ⟨HX.out, .inl ⟨.inr c2, rfl, rfl⟩⟩⟩
    obtain ⟨M, rfl⟩ : ∃ M : Nat, most = M := ⟨most.toNat, by omega⟩
    have hM : M ≤ 8 := by omega
    clear c1 c2 hm1 hm2 hm
    have hS' := hS
    obtain ⟨ma, aa, la, ea, mc, ac, lc, ec, bP, hMk, hA, hL, hE⟩ := hS
    have P2 := bP.cell (i := 2) (v := .slice la (labN N).length lc) rfl
    clear hMk hA hE
    go_wp2_with fail
    refine (values_calls _ _ _ _).mono ?_
    rintro _ w2 ⟨rfl, hw2⟩
    have G2 : Gr w1 w2 := by rw [hw2]; exact (Gr.refl _).alloc _
    have cV : w2.cell? ⟨w1.heap.size, 0, none⟩ = some (.slice la (labN N).length lc) := by rw [hw2]; exact box_cell (Gr.refl _) (i := 0) rfl
    have lV : w1.heap.size < w2.heap.size := by rw [hw2]; simp
    clear hw2
    go_wp2_with fail
    refine (sorted_calls w1.heap.size la (labN N).length lc (labN N) (by omega) w1 w2 hL rfl lV G2.below cV).mono ?_
    rintro _ w3 ⟨v3, rfl, o3, g3⟩
    have hl3 : (sortI (labN N)).length = (labN N).length := (sortI_perm _).length_eq
    go_wp2_with fail
    refine (Compact_calls v3 _ _ _ o3 (by omega)).mono ?_
    rintro _ w4 ⟨v4, rfl, o4, ob4, g4⟩
    have G4 : Gr w1 w4 := (G2.trans g3).grown g4 (fun k e => Nat.le_trans (Nat.le_of_lt lV) (o3.lt e).1)
    have hlc := compact_len (sortI (labN N))
    obtain ⟨D, hD⟩ : ∃ D, D = sayN N o (M : Int) A := ⟨_, rfl⟩
    have HD := Lib.hid hD
    have IL : Ints w4 v4 D.letters := by rw [hD]; exact o4.ints
    have hll2 : D.letters.length ≤ 24 := by rw [hD]; show (Go.Lib.compact (sortI (labN N))).length ≤ 24; omega
    obtain ⟨lda, ldc, rfl, _, _⟩ := IL.len
    have hS4 := hS'.gr G4
    clear o3 o4 ob4 g3 g4 hlc hl3 cV lV hL bP P2 hD hS'
    go_wp2_with fail
    refine (far_calls hS4 (by rw [HEL.out]; exact HK.out.arcs) (by omega) (by rw [HEL.out]; omega)).mono ?_
    rintro _ w5 ⟨v5, rfl, o5, g5⟩
    have hS5 := hS4.gr g5
    go_wp2_with fail
    refine (first_calls hS5 HK.out.arcs hn0 (by omega) (by omega)).mono ?_
    rintro _ w6 ⟨v6, ys, rfl, oy, hB, g6⟩
    obtain ⟨ya, yc, hyv, _, _⟩ := OwnR.len oy
    rw [hB.1] at hyv
    subst hyv
    have HR := oy.rd
    have hF := (o5.gr g6).ints
    have hFL : (farN (labN N) A.arcs (endsN N o A)).length = A.marks.length := by rw [← HEL.out]; exact (passN_I (by rw [HEL.out]; exact HK.out.arcs) _).len
    obtain rfl : ys = firstN N A := behind_eq hB (firstF_behind HK.out.arcs hn0)
    have hFD : D.far = farN (labN N) A.arcs (endsN N o A) := by rw [HD.out]; rfl
    rw [← hFD] at hF hFL
    obtain ⟨fa, fc, rfl, _, _⟩ := hF.len
    rw [hFL] at hF ⊢
    have HFL := Lib.hid hFL
    have HYL := Lib.hid hB.1
    have hS6 := hS5.gr g6
    have IL6 := (IL.gr g5).gr g6
    have G6 := ((GZ.trans G4).trans g5).trans g6
    have HDF : Hid (D.lab = labN N ∧ D.arcs = A.arcs ∧ D.en = endsN N o A ∧ D.most = (M : Int)) := Lib.hid (by rw [HD.out]; exact ⟨rfl, rfl, rfl, rfl⟩)
    clear oy o5 hB hFL hFD hS4 hS5 IL G4 g5 g6 GZ G2
    obtain ⟨wb, hwb⟩ : ∃ wb, wb = w6.alloc (.cells #[.slice none 0 0, .slice ya A.marks.length yc] 185) := ⟨_, rfl⟩
    have gb : Gr w6 wb := by rw [hwb]; exact (Gr.refl _).alloc _
    have hn00 : Rd startK wb (.slice (some ⟨w6.heap.size, 0, none⟩) 1 1) [([], firstN N A)] := by
      refine rd_mk (a := some ⟨w6.heap.size, 0, none⟩) rfl (Nat.le_refl _) (by decide) (fun h => by cases h) fun i hi => ?_
      obtain rfl : i = 0 := by simpa using hi
      refine ⟨w6.heap.size, 0, [.slice none 0 0, .slice ya A.marks.length yc], rfl, (by rw [ix_zero]; exact ⟨_, _, rfl, Ints.nil _, HR.gr gb⟩), fun j u hj => ?_⟩
      rw [hwb]
      have := box_cell (w := w6) (cs := #[.slice none 0 0, .slice ya A.marks.length yc]) (t := 185) (Gr.refl _) (i := j) (v := u) (by simpa using hj)
      simpa using this
    have hW0 : WI 25 185 wb wb (fun w => Rd startK w (.slice (some ⟨w6.heap.size, 0, none⟩) 1 1) [([], firstN N A)]) (.slice none 0 0) (.slice none 0 0) [] [] :=
      ⟨by unfold On; exact fun w' k => hn00.kp (k.mono fun b _ _ => ⟨by simp [Value.ownBlock], by simp [Value.ownBlock]⟩), OwnR.nil _ _ _ _, OwnR.nil _ _ _ _, fun b h => by simp [Value.ownBlock] at h, Gr.refl _⟩
    have hSb := hS6.gr gb
    have ILb := IL6.gr gb
    have hFb := hF.gr gb
    have GB := G6.trans gb
    obtain ⟨n, hn⟩ : ∃ n, n = A.marks.length := ⟨_, rfl⟩
    obtain ⟨R, hR⟩ : ∃ R, R = D.wordsF (M + 1) 0 [([], firstN N A)] [] := ⟨_, rfl⟩
    have hRN : wordsN N o (M : Int) A = R := by rw [hR, HD.out]; rfl
    have HFIN : Hid (∀ out, R = some out → WordsIs N i o M out 0) := Lib.hid fun out h => .inr ⟨HX.out, .inr ⟨by omega, by omega, A, HK.out, HSH.out, HG.out, .inr ⟨by rw [hRN]; exact h, rfl⟩⟩⟩
    have HFUL : Hid (R = none → WordsIs N i o M [] 4) := Lib.hid fun h => .inr ⟨HX.out, .inr ⟨by omega, by omega, A, HK.out, HSH.out, HG.out, .inl ⟨by rw [hRN]; exact h, rfl, rfl⟩⟩⟩
    have hO0 : OuterI D n M R 0 [([], firstN N A)] [] := ⟨by omega, hR.symm, by simp, by simp, fun x hx => by rw [List.mem_singleton.1 hx]; exact ⟨by rw [hn]; exact HYL.out, Nat.le_refl _⟩⟩
    obtain ⟨d1, d2, d3, d4⟩ := HDF.out
    have HOKD := Lib.hid (show ArcsOk n D.lab.length D.arcs by rw [d1, d2, hn]; exact HK.out.arcs)
    have HEND := Lib.hid (show D.en.length = n by rw [d3, hn]; exact HEL.out)
    have HFLD := Lib.hid (show D.far.length = n by rw [hn]; exact HFL.out)
    have HFAR := Lib.hid (show ∀ k, k < n → nth D.far k ≤ n by
      intro k hk
      have h1 := passN_I (lab := labN N) (arcs := A.arcs) (en := endsN N o A) (by rw [HEL.out]; exact HK.out.arcs) ((endsN N o A).length * ((endsN N o A).length + 1))
      have h2 : (farN (labN N) A.arcs (endsN N o A)).length = n := by rw [hn, ← HEL.out]; exact h1.len
      have h3 := h1.lt k (by show k < (farN (labN N) A.arcs (endsN N o A)).length; omega)
      have h4 := cnt_le (farN (labN N) A.arcs (endsN N o A))
      rw [HD.out]
      show nth (farN (labN N) A.arcs (endsN N o A)) k ≤ n
      unfold farN at *
      omega)
    have HALD := Lib.hid (show D.arcs.length ≤ 7300 by rw [d2]; exact hal)
    have HMOD := Lib.hid d4
    rw [← d1, ← d2, ← d3] at hSb
    rw [← hn] at hFb hnl hwb ⊢
    clear hn00 HR hF hS6 IL6 G6 gb HD HK HX HSH HG HEL HFL HYL HDF hR hRN d1 d2 d3 d4 hal hn0 hn hll
    go_wp2_with fail
    rw [← hwb]
    clear hwb
    go_loopw [16, 14, 15] (fun q nv ov wr => ∃ (k : Nat) (now : List StD) (out : List (List Int)), q = .int .i64 k ∧ WI 25 185 wb wr (fun w => Rd startK w nv now) ov (.slice none 0 0) out [] ∧ OuterI D n M R k now out) (fun q _ _ _ => M + 1 - (intOf q).toNat)
    case atStart => exact ⟨0, _, _, rfl, hW0, hO0⟩
    case round =>
      rename World => wr
      obtain ⟨k, now, out, rfl, hW, hO⟩ := hrel
      by_cases hkM : k ≤ M
      · have hkI : (k : Int) ≤ (M : Int) := by omega
        obtain ⟨na, nc, hnv, hnc, hnc2⟩ := hW.n.now.len
        subst hnv
        obtain ⟨f, hf⟩ : ∃ f, M + 1 - k = f + 1 := ⟨M - k, by omega⟩
        have his := hO.is
        rw [hf] at his
        have HIS := Lib.hid his
        have hnl2 := hO.nl
        have HOL := Lib.hid hO.ol
        have HSET := Lib.hid hO.sets
        clear his hO
        go_wp2_with fail
        go_loopw [60, 15, 17] (fun q ov' mv' wi => ∃ (j : Nat) (ov mv : Value), ov = ov' ∧ mv = mv' ∧ q = .int .i64 j ∧ j ≤ now.length ∧ WI 25 185 wb wi (fun w => Rd startK w (.slice na now.length nc) now) ov mv (out ++ D.outTo now j) (D.moreTo k now j) ∧ ((out ++ D.outTo now j).length ≤ 400 ∧ (D.moreTo k now j).length ≤ 400)) (fun q _ _ _ => now.length - (intOf q).toNat)
        case atStart => exact ⟨0, _, _, rfl, rfl, rfl, Nat.zero_le _, by rw [D.outTo_zero, D.moreTo_zero, List.append_nil]; exact hW, by rw [D.outTo_zero, D.moreTo_zero, List.append_nil]; exact ⟨HOL.out, by simp⟩⟩
        case round =>
          rename World => wi
          obtain ⟨j, ov, mv, rfl, rfl, rfl, hj, hW, hl4⟩ := hrel
          by_cases hjl : j < now.length
          · have hjI : (j : Int) < (now.length : Int) := by omega
            obtain ⟨b, o2, u, v, hna, c0, c1, hU, hV⟩ := on_start hW.n hjl
            subst hna
            have hset := HSET.out _ (ix_mem hjl)
            have hout1 := D.outTo_succ hjl
            have hmore1 := D.moreTo_succ k hjl
            have HLN := Lib.hid hl4
            obtain ⟨s, hs⟩ : ∃ s, s = ix now j := ⟨_, rfl⟩
            rw [← hs] at hU hV hset hout1 hmore1
            obtain ⟨wd, st⟩ := s
            obtain ⟨ua, uc, rfl, huc, huc2⟩ := hU.now.len
            obtain ⟨va, vc, rfl, hvc, hvc2⟩ := hV.now.len
            have hsl : st.length = n := hset.1
            have hwl : wd.length ≤ k := hset.2
            rw [hsl] at hV hvc c1
            have HSL := Lib.hid hsl
            have HWL := Lib.hid hwl
            have HO1 := Lib.hid hout1
            have HM1 := Lib.hid hmore1
            obtain ⟨out2, hout2⟩ : ∃ l, l = out ++ D.outTo now j := ⟨_, rfl⟩
            obtain ⟨more2, hmore2⟩ : ∃ l, l = D.moreTo k now j := ⟨_, rfl⟩
            rw [← hout2, ← hmore2] at hW
            have HO2 := Lib.hid hout2
            have HM2 := Lib.hid hmore2
            clear hs hset hsl hwl hout1 hmore1 hout2 hmore2 hl4
            have gk : Gr wi (wi.alloc (.cells #[.slice ua wd.length uc, .slice va n vc] 185)) := (Gr.refl _).alloc _
            have hWk := hW.later gk
            have B1 : (wi.alloc (.cells #[.slice ua wd.length uc, .slice va n vc] 185)).cell? ⟨wi.heap.size, 1, none⟩ = some (.slice va n vc) := box_cell (Gr.refl _) (i := 1) rfl
            have B0 : (wi.alloc (.cells #[.slice ua wd.length uc, .slice va n vc] 185)).cell? ⟨wi.heap.size, 0, none⟩ = some (.slice ua wd.length uc) := box_cell (Gr.refl _) (i := 0) rfl
            have hoff := hW.off (Nat.le_refl wi.heap.size)
            have hW2 := hWk.with ((((hU.gr gk).and (hV.gr gk)).and ((on_cell B0 hoff).and (on_cell B1 hoff))).and hWk.n)
            have hW3 : WI 25 185 wb (wi.alloc (.cells #[.slice ua wd.length uc, .slice va n vc] 185)) (BoxP wi.heap.size (.slice ua wd.length uc) (.slice va n vc) wd st (fun w => Rd startK w (.slice (some ⟨b, o2, none⟩) now.length nc) now)) ov mv out2 more2 := hW2.with (hW2.n.imp fun w h => ⟨h.1.1, h.1.2, h.2⟩)
            have hV2 := (hV.gr gk).now
            have hl3 := HLN.out
            rw [← HO2.out, ← HM2.out] at hl3
            clear hW hWk hU hV hoff hW2
            go_wp2_with fail
            refine (ends_calls (hSb.gr (hW3.gr)) hV2 HSL.out HEND.out (by omega)).mono ?_
            rintro _ _ ⟨bb, rfl, hbb, rfl⟩
            obtain rfl : bb = D.ends st := by
              have h1 := D.ends_iff st
              rw [HEND.out] at h1
              rw [← h1] at hbb
              cases bb <;> cases h : D.ends st <;> simp_all
            clear hbb hV2
            generalize wi.alloc (.cells #[.slice ua wd.length uc, .slice va n vc] 185) = wk at *
            generalize wi.heap.size = bx at *
            cases hE : D.ends st
            · obtain ⟨out3, ho3⟩ : ∃ l, l = out2 := ⟨_, rfl⟩
              have H3 : Hid (out3 = out ++ D.outTo now (j + 1)) := Lib.hid (by rw [ho3, HO2.out, HO1.out]; simp [hE])
              rw [← ho3] at hW3 hl3
              clear ho3 hE
              obtain ⟨ov1, hov1⟩ : ∃ u, u = ov := ⟨_, rfl⟩
              rw [← hov1] at hW3 ⊢
              clear hov1
              have HL3 := Lib.hid hl3
              clear hl3
              go_wp2_with fail
              go_loopw [75, 17] (fun q mv' wi2 => ∃ (q' : Nat) (mv : Value), mv = mv' ∧ q = .int .i64 q' ∧ q' ≤ D.letters.length ∧ WI 25 185 wb wi2 (BoxP bx (.slice ua wd.length uc) (.slice va n vc) wd st (fun w => Rd startK w (.slice (some ⟨b, o2, none⟩) now.length nc) now)) (ov1) mv out3 (more2 ++ D.moreOf k (wd, st) q')) (fun q _ _ => D.letters.length - (intOf q).toNat)
              case atStart => exact ⟨0, _, rfl, rfl, Nat.zero_le _, by rw [D.moreOf_zero, List.append_nil]; exact hW3⟩
              case round =>
                rename World => wl
                clear hW3
                obtain ⟨q', mv, rfl, rfl, hq, hW4⟩ := hrel
                by_cases hql : q' < D.letters.length
                · obtain ⟨⟨hU4, hV4⟩, ⟨C0, C1⟩, hN4⟩ := hW4.n.now
                  obtain ⟨lb, lo, rfl, L0⟩ := (ILb.gr hW4.gr).cell hql
                  have hqI : (q' : Int) < (D.letters.length : Int) := by omega
                  have hI := ILb.range q'
                  have HMO := Lib.hid (D.moreOf_succ k (wd, st) hql)
                  have hal := HALD.out
                  clear hU4 hN4
                  go_wp2_with fail
                  refine (hear_calls (hSb.gr hW4.gr) HOKD.out hV4 HSL.out (by omega) (by omega) hI).mono ?_
                  rintro _ w7 ⟨v7, y7, b7, rfl, o7, hH, g7⟩
                  have HEQ := Lib.hid (hearF_eq HOKD.out HSL.out hH)
                  have hyl : y7.length = n := hH.1
                  obtain ⟨za, zc, hzv, _, _⟩ := OwnR.len o7
                  rw [hyl] at hzv
                  subst hzv
                  have HY7 := Lib.hid hyl
                  have hW5 := hW4.later g7
                  clear hyl hH hV4 C0 C1 L0
                  cases b7
                  · have HNO : Hid (D.moreOf k (wd, st) (q' + 1) = D.moreOf k (wd, st) q') := Lib.hid (by rw [HMO.out, D.go_no HEQ.out (by rintro ⟨h, _⟩; cases h), List.append_nil])
                    clear o7
                    go_wp2_with fail
                    go_roundw
                    case rel => exact ⟨q' + 1, _, rfl, by go_num, by omega, by rw [HNO.out]; exact hW5⟩
                    case measure => simp [intOf]; omega
                  · have HR7 := o7.rd
                    go_wp2_with fail
                    refine (hope_calls (hFb.gr hW5.gr) HFLD.out HR7 HY7.out (by omega)).mono ?_
                    rintro _ w8 ⟨rfl, g8⟩
                    have hh : hopeTo D.far y7 n = D.hope y7 := by unfold SayD.hope; rw [HEND.out]
                    rw [hh]
                    have hhb := D.hope_le (y := y7) HFAR.out HEND.out
                    obtain ⟨h, hhe⟩ : ∃ h, h = D.hope y7 := ⟨_, rfl⟩
                    rw [← hhe] at hhb ⊢
                    have HH := Lib.hid hhe
                    have HHO := Lib.hid (hh.trans hhe.symm)
                    have hW6 := hW5.later g8
                    clear hh hhe hW5
                    by_cases p1 : 0 ≤ h
                    case neg =>
                      have q1 : decide (0 ≤ h) = false := by simpa using p1
                      have HNO : Hid (D.moreOf k (wd, st) (q' + 1) = D.moreOf k (wd, st) q') := Lib.hid (by rw [HMO.out, D.go_no HEQ.out (by rintro ⟨_, h1, _⟩; rw [← HH.out] at h1; exact p1 h1), List.append_nil])
                      clear o7
                      go_wp2_with fail
                      go_roundw
                      case rel => exact ⟨q' + 1, _, rfl, by go_num, by omega, by rw [HNO.out]; exact hW6⟩
                      case measure => simp [intOf]; omega
                    have q1 : decide (0 ≤ h) = true := by simpa using p1
                    have hhn := hhb p1
                    clear hhb
                    go_wp2_with fail
                    refine (hope_calls (hFb.gr hW6.gr) HFLD.out (HR7.gr g8) HY7.out (by omega)).mono ?_
                    rintro _ w9 ⟨rfl, g9⟩
                    rw [HHO.out]
                    have hW7 := hW6.later g9
                    clear hW6
                    by_cases p2 : (k : Int) + 1 + h ≤ (M : Int)
                    case neg =>
                      have q2 : decide ((k : Int) + 1 + h ≤ (M : Int)) = false := by simpa using p2
                      have HNO : Hid (D.moreOf k (wd, st) (q' + 1) = D.moreOf k (wd, st) q') := Lib.hid (by rw [HMO.out, D.go_no HEQ.out (by rintro ⟨_, _, h1⟩; rw [← HH.out, HMOD.out] at h1; exact p2 h1), List.append_nil])
                      clear o7
                      go_wp2_with fail
                      go_roundw
                      case rel => exact ⟨q' + 1, _, rfl, by go_num, by omega, by rw [HNO.out]; exact hW7⟩
                      case measure => simp [intOf]; omega
                    have q2 : decide ((k : Int) + 1 + h ≤ (M : Int)) = true := by simpa using p2
                    have HYES : Hid (D.moreOf k (wd, st) (q' + 1) = D.moreOf k (wd, st) q' ++ [(wd ++ [nth D.letters q'], y7)]) := Lib.hid (by rw [HMO.out, D.go_yes HEQ.out (by rw [← HH.out]; exact p1) (by rw [← HH.out, HMOD.out]; exact p2)])
                    have o9 := (o7.gr g8).gr g9
                    have hoff : ∀ b, wl.heap.size ≤ b → Off ov1 mv b := fun b hb => hW4.off hb
                    have hle9 : wl.heap.size ≤ w9.heap.size := ((g7.trans g8).trans g9).le
                    obtain ⟨⟨hU7, hV7⟩, ⟨C0, C1⟩, hN7⟩ := hW7.n.now
                    have hwl := HWL.out
                    have HOFF := Lib.hid hoff
                    have HLE := Lib.hid hle9
                    have hml := D.moreOf_len k (wd, st) q'
                    have hmr : (more2 ++ D.moreOf k (wd, st) q').length ≤ 424 := by rw [List.length_append]; have := HL3.out.2; omega
                    clear o7 hoff hle9 hV7 C1 hN7 hW4 hml
                    go_wp2_with fail
                    refine (Clip_calls _ _ _ wd _ hU7 rfl).mono ?_
                    rintro _ _ ⟨rfl, hU8, rfl⟩
                    clear hU7
                    go_upto_region 25 with (first | (at_builtin; refine app_full intTy _ _ ua wd ⟨w9.heap.size, 0, none⟩ (nth D.letters q') (by rfl) (by rfl) (by rfl) (by rfl) (hU8.alloc _) (lit_cell rfl) hI (by omega) ?_; intro g cp w10 o10 g10) | (at_builtin; refine app_one startTy _ _ wb.heap.size (fun b => ov1.ownBlock ≠ some b) _ (more2 ++ D.moreOf k (wd, st) q') ⟨w10.heap.size, 0, none⟩ (wd ++ [nth D.letters q'], y7) [.slice (some ⟨g, 0, none⟩) (wd.length + 1) cp, .slice za n zc] (by rfl) (by rfl) (by rfl) (by rfl) (((hW7.later ((Gr.refl _).alloc _)).later g10).later ((Gr.refl _).alloc _)).m (two_cell _ _ _ _) ((((((Ints.on_fresh o10).mono (fun b _ hb => Nat.le_trans HLE.out (Nat.le_trans (by simp) hb))).gr ((Gr.refl _).alloc _)).and (((OwnR.fresh o9 (fun _ _ h => h.elim)).gr (((Gr.refl _).alloc _).trans g10)).gr ((Gr.refl _).alloc _))).imp (fun w h => ⟨_, _, rfl, h.1, h.2⟩)).mono (fun b _ hb => HOFF.out b hb)) (by omega) (by unfold maxLen; omega) (((hW7.later ((Gr.refl _).alloc _)).later g10).later ((Gr.refl _).alloc _)).gr.le ?_; intro v' w11 ho hgs hgb hat))
                    have hW9 := (((hW7.later ((Gr.refl _).alloc _)).later g10).later ((Gr.refl _).alloc _)).putM ho hgb hat
                    rw [List.append_assoc, ← HYES.out] at hW9
                    go_wp2_with fail
                    go_roundw
                    case rel => exact ⟨q' + 1, _, rfl, by go_num, by omega, hW9⟩
                    case measure => simp [intOf]; omega
                · obtain rfl : q' = D.letters.length := by omega
                  obtain ⟨oa, oc, hov, hoc1, hoc2⟩ := OwnR.len hW4.o
                  obtain ⟨ma3, mc3, hmv, hmc1, hmc2⟩ := OwnR.len hW4.m
                  obtain ⟨more3, hm3⟩ : ∃ l, l = more2 ++ D.moreOf k (wd, st) D.letters.length := ⟨_, rfl⟩
                  rw [← hm3] at hW4 hmv hmc1
                  have HM4 : Hid (more3 = D.moreTo k now (j + 1)) := Lib.hid (by rw [hm3, HM2.out, HM1.out])
                  clear hm3
                  have hW9 := hW4.with (hW4.n.imp fun w h => h.2.2)
                  clear hW4
                  rw [hov] at hW9 ⊢
                  rw [hmv] at hW9 ⊢
                  clear hov hmv
                  have HW9 := Lib.hid hW9
                  clear hW9
                  by_cases p5 : 400 < out3.length ∨ 400 < more3.length
                  · have hfull : R = none := by rw [← HIS.out]; exact D.full (j := j + 1) (by rw [← H3.out, ← HM4.out]; exact p5)
                    have HFU := Lib.hid (HFUL.out hfull)
                    have HGZ := Lib.hid (GB.trans HW9.out.gr)
                    have q5 : (400 : Int) < max (out3.length : Int) (more3.length : Int) := by omega
                    clear hfull p5
                    go_wp2_with fail
                    go_ret2
                    exact ⟨_, [], _, rfl, HGZ.out, Rd.nil _, HFU.out⟩
                  · have q5 : ¬ (400 : Int) < max (out3.length : Int) (more3.length : Int) := by omega
                    have HL5 : Hid ((out ++ D.outTo now (j + 1)).length ≤ 400 ∧ (D.moreTo k now (j + 1)).length ≤ 400) := Lib.hid (by rw [← H3.out, ← HM4.out]; omega)
                    clear p5
                    go_wp2_with fail
                    go_roundw
                    case rel => exact ⟨j + 1, _, _, rfl, rfl, by go_num, by omega, by rw [← H3.out, ← HM4.out]; exact HW9.out, HL5.out⟩
                    case measure => simp [intOf]; omega
            · obtain ⟨⟨hU3, hV3⟩, ⟨C0, C1⟩, hN3⟩ := hW3.n.now
              have hlo := hl3.1
              clear hU3 hV3 hN3
              go_upto_region 19 with (at_builtin; refine app_one rowTy _ _ wb.heap.size (fun b => mv.ownBlock ≠ some b) _ out2 ⟨wk.heap.size, 0, none⟩ wd [.slice ua wd.length uc] (by rfl) (by rfl) (by rfl) (by rfl) (hW3.later ((Gr.refl _).alloc _)).o (one_cell _ _ _) (((hW3.n.gr ((Gr.refl _).alloc _)).imp (fun w h => ⟨_, rfl, h.1.1⟩)).mono (fun b _ hb => ⟨hb.2, hb.1⟩)) (by omega) (by unfold maxLen; omega) (hW3.later ((Gr.refl _).alloc _)).gr.le ?_; intro ov1 w10 ho hgs hgb hat)
              have hW4 := (hW3.later ((Gr.refl _).alloc _)).putO ho hgb hat
              clear hW3
              obtain ⟨out3, ho3⟩ : ∃ l, l = out2 ++ [wd] := ⟨_, rfl⟩
              have H3 : Hid (out3 = out ++ D.outTo now (j + 1)) := Lib.hid (by rw [ho3, HO2.out, HO1.out]; simp [hE])
              have hW3 := hW4
              rw [← ho3] at hW3
              clear ho3 hE hW4 ho hgs hgb hat hlo C0 C1
              have HL3 := Lib.hid hl3
              clear hl3
              go_wp2_with fail
              go_loopw [75, 17] (fun q mv' wi2 => ∃ (q' : Nat) (mv : Value), mv = mv' ∧ q = .int .i64 q' ∧ q' ≤ D.letters.length ∧ WI 25 185 wb wi2 (BoxP bx (.slice ua wd.length uc) (.slice va n vc) wd st (fun w => Rd startK w (.slice (some ⟨b, o2, none⟩) now.length nc) now)) (ov1) mv out3 (more2 ++ D.moreOf k (wd, st) q')) (fun q _ _ => D.letters.length - (intOf q).toNat)
              case atStart => exact ⟨0, _, rfl, rfl, Nat.zero_le _, by rw [D.moreOf_zero, List.append_nil]; exact hW3⟩
              case round =>
                rename World => wl
                clear hW3
                obtain ⟨q', mv, rfl, rfl, hq, hW4⟩ := hrel
                by_cases hql : q' < D.letters.length
                · obtain ⟨⟨hU4, hV4⟩, ⟨C0, C1⟩, hN4⟩ := hW4.n.now
                  obtain ⟨lb, lo, rfl, L0⟩ := (ILb.gr hW4.gr).cell hql
                  have hqI : (q' : Int) < (D.letters.length : Int) := by omega
                  have hI := ILb.range q'
                  have HMO := Lib.hid (D.moreOf_succ k (wd, st) hql)
                  have hal := HALD.out
                  clear hU4 hN4
                  go_wp2_with fail
                  refine (hear_calls (hSb.gr hW4.gr) HOKD.out hV4 HSL.out (by omega) (by omega) hI).mono ?_
                  rintro _ w7 ⟨v7, y7, b7, rfl, o7, hH, g7⟩
                  have HEQ := Lib.hid (hearF_eq HOKD.out HSL.out hH)
                  have hyl : y7.length = n := hH.1
                  obtain ⟨za, zc, hzv, _, _⟩ := OwnR.len o7
                  rw [hyl] at hzv
                  subst hzv
                  have HY7 := Lib.hid hyl
                  have hW5 := hW4.later g7
                  clear hyl hH hV4 C0 C1 L0
                  cases b7
                  · have HNO : Hid (D.moreOf k (wd, st) (q' + 1) = D.moreOf k (wd, st) q') := Lib.hid (by rw [HMO.out, D.go_no HEQ.out (by rintro ⟨h, _⟩; cases h), List.append_nil])
                    clear o7
                    go_wp2_with fail
                    go_roundw
                    case rel => exact ⟨q' + 1, _, rfl, by go_num, by omega, by rw [HNO.out]; exact hW5⟩
                    case measure => simp [intOf]; omega
                  · have HR7 := o7.rd
                    go_wp2_with fail
                    refine (hope_calls (hFb.gr hW5.gr) HFLD.out HR7 HY7.out (by omega)).mono ?_
                    rintro _ w8 ⟨rfl, g8⟩
                    have hh : hopeTo D.far y7 n = D.hope y7 := by unfold SayD.hope; rw [HEND.out]
                    rw [hh]
                    have hhb := D.hope_le (y := y7) HFAR.out HEND.out
                    obtain ⟨h, hhe⟩ : ∃ h, h = D.hope y7 := ⟨_, rfl⟩
                    rw [← hhe] at hhb ⊢
                    have HH := Lib.hid hhe
                    have HHO := Lib.hid (hh.trans hhe.symm)
                    have hW6 := hW5.later g8
                    clear hh hhe hW5
                    by_cases p1 : 0 ≤ h
                    case neg =>
                      have q1 : decide (0 ≤ h) = false := by simpa using p1
                      have HNO : Hid (D.moreOf k (wd, st) (q' + 1) = D.moreOf k (wd, st) q') := Lib.hid (by rw [HMO.out, D.go_no HEQ.out (by rintro ⟨_, h1, _⟩; rw [← HH.out] at h1; exact p1 h1), List.append_nil])
                      clear o7
                      go_wp2_with fail
                      go_roundw
                      case rel => exact ⟨q' + 1, _, rfl, by go_num, by omega, by rw [HNO.out]; exact hW6⟩
                      case measure => simp [intOf]; omega
                    have q1 : decide (0 ≤ h) = true := by simpa using p1
                    have hhn := hhb p1
                    clear hhb
                    go_wp2_with fail
                    refine (hope_calls (hFb.gr hW6.gr) HFLD.out (HR7.gr g8) HY7.out (by omega)).mono ?_
                    rintro _ w9 ⟨rfl, g9⟩
                    rw [HHO.out]
                    have hW7 := hW6.later g9
                    clear hW6
                    by_cases p2 : (k : Int) + 1 + h ≤ (M : Int)
                    case neg =>
                      have q2 : decide ((k : Int) + 1 + h ≤ (M : Int)) = false := by simpa using p2
                      have HNO : Hid (D.moreOf k (wd, st) (q' + 1) = D.moreOf k (wd, st) q') := Lib.hid (by rw [HMO.out, D.go_no HEQ.out (by rintro ⟨_, _, h1⟩; rw [← HH.out, HMOD.out] at h1; exact p2 h1), List.append_nil])
                      clear o7
                      go_wp2_with fail
                      go_roundw
                      case rel => exact ⟨q' + 1, _, rfl, by go_num, by omega, by rw [HNO.out]; exact hW7⟩
                      case measure => simp [intOf]; omega
                    have q2 : decide ((k : Int) + 1 + h ≤ (M : Int)) = true := by simpa using p2
                    have HYES : Hid (D.moreOf k (wd, st) (q' + 1) = D.moreOf k (wd, st) q' ++ [(wd ++ [nth D.letters q'], y7)]) := Lib.hid (by rw [HMO.out, D.go_yes HEQ.out (by rw [← HH.out]; exact p1) (by rw [← HH.out, HMOD.out]; exact p2)])
                    have o9 := (o7.gr g8).gr g9
                    have hoff : ∀ b, wl.heap.size ≤ b → Off ov1 mv b := fun b hb => hW4.off hb
                    have hle9 : wl.heap.size ≤ w9.heap.size := ((g7.trans g8).trans g9).le
                    obtain ⟨⟨hU7, hV7⟩, ⟨C0, C1⟩, hN7⟩ := hW7.n.now
                    have hwl := HWL.out
                    have HOFF := Lib.hid hoff
                    have HLE := Lib.hid hle9
                    have hml := D.moreOf_len k (wd, st) q'
                    have hmr : (more2 ++ D.moreOf k (wd, st) q').length ≤ 424 := by rw [List.length_append]; have := HL3.out.2; omega
                    clear o7 hoff hle9 hV7 C1 hN7 hW4 hml
                    go_wp2_with fail
                    refine (Clip_calls _ _ _ wd _ hU7 rfl).mono ?_
                    rintro _ _ ⟨rfl, hU8, rfl⟩
                    clear hU7
                    go_upto_region 25 with (first | (at_builtin; refine app_full intTy _ _ ua wd ⟨w9.heap.size, 0, none⟩ (nth D.letters q') (by rfl) (by rfl) (by rfl) (by rfl) (hU8.alloc _) (lit_cell rfl) hI (by omega) ?_; intro g cp w10 o10 g10) | (at_builtin; refine app_one startTy _ _ wb.heap.size (fun b => ov1.ownBlock ≠ some b) _ (more2 ++ D.moreOf k (wd, st) q') ⟨w10.heap.size, 0, none⟩ (wd ++ [nth D.letters q'], y7) [.slice (some ⟨g, 0, none⟩) (wd.length + 1) cp, .slice za n zc] (by rfl) (by rfl) (by rfl) (by rfl) (((hW7.later ((Gr.refl _).alloc _)).later g10).later ((Gr.refl _).alloc _)).m (two_cell _ _ _ _) ((((((Ints.on_fresh o10).mono (fun b _ hb => Nat.le_trans HLE.out (Nat.le_trans (by simp) hb))).gr ((Gr.refl _).alloc _)).and (((OwnR.fresh o9 (fun _ _ h => h.elim)).gr (((Gr.refl _).alloc _).trans g10)).gr ((Gr.refl _).alloc _))).imp (fun w h => ⟨_, _, rfl, h.1, h.2⟩)).mono (fun b _ hb => HOFF.out b hb)) (by omega) (by unfold maxLen; omega) (((hW7.later ((Gr.refl _).alloc _)).later g10).later ((Gr.refl _).alloc _)).gr.le ?_; intro v' w11 ho hgs hgb hat))
                    have hW9 := (((hW7.later ((Gr.refl _).alloc _)).later g10).later ((Gr.refl _).alloc _)).putM ho hgb hat
                    rw [List.append_assoc, ← HYES.out] at hW9
                    go_wp2_with fail
                    go_roundw
                    case rel => exact ⟨q' + 1, _, rfl, by go_num, by omega, hW9⟩
                    case measure => simp [intOf]; omega
                · obtain rfl : q' = D.letters.length := by omega
                  obtain ⟨oa, oc, hov, hoc1, hoc2⟩ := OwnR.len hW4.o
                  obtain ⟨ma3, mc3, hmv, hmc1, hmc2⟩ := OwnR.len hW4.m
                  obtain ⟨more3, hm3⟩ : ∃ l, l = more2 ++ D.moreOf k (wd, st) D.letters.length := ⟨_, rfl⟩
                  rw [← hm3] at hW4 hmv hmc1
                  have HM4 : Hid (more3 = D.moreTo k now (j + 1)) := Lib.hid (by rw [hm3, HM2.out, HM1.out])
                  clear hm3
                  have hW9 := hW4.with (hW4.n.imp fun w h => h.2.2)
                  clear hW4
                  rw [hov] at hW9 ⊢
                  rw [hmv] at hW9 ⊢
                  clear hov hmv
                  have HW9 := Lib.hid hW9
                  clear hW9
                  by_cases p5 : 400 < out3.length ∨ 400 < more3.length
                  · have hfull : R = none := by rw [← HIS.out]; exact D.full (j := j + 1) (by rw [← H3.out, ← HM4.out]; exact p5)
                    have HFU := Lib.hid (HFUL.out hfull)
                    have HGZ := Lib.hid (GB.trans HW9.out.gr)
                    have q5 : (400 : Int) < max (out3.length : Int) (more3.length : Int) := by omega
                    clear hfull p5
                    go_wp2_with fail
                    go_ret2
                    exact ⟨_, [], _, rfl, HGZ.out, Rd.nil _, HFU.out⟩
                  · have q5 : ¬ (400 : Int) < max (out3.length : Int) (more3.length : Int) := by omega
                    have HL5 : Hid ((out ++ D.outTo now (j + 1)).length ≤ 400 ∧ (D.moreTo k now (j + 1)).length ≤ 400) := Lib.hid (by rw [← H3.out, ← HM4.out]; omega)
                    clear p5
                    go_wp2_with fail
                    go_roundw
                    case rel => exact ⟨j + 1, _, _, rfl, rfl, by go_num, by omega, by rw [← H3.out, ← HM4.out]; exact HW9.out, HL5.out⟩
                    case measure => simp [intOf]; omega
          · obtain rfl : j = now.length := by omega
            have hO2 : Hid (OuterI D n M R (k + 1) (D.moreTo k now now.length) (out ++ D.outTo now now.length)) := Lib.hid ⟨by omega, by
                rw [← HIS.out, D.next hl4.1 hl4.2, show M + 1 - (k + 1) = f by omega], hl4.2, hl4.1, fun x hx => by
                  exact D.moreTo_mem HOKD.out HSET.out hx⟩
            have hT := hW.turn
            have HT := Lib.hid hT
            clear hW hT hl4
            go_wp2_with fail
            go_roundw
            case rel => exact ⟨k + 1, _, _, by go_num, HT.out, hO2.out⟩
            case measure => simp [intOf]; omega
      · have hkI : ¬ (k : Int) ≤ (M : Int) := by omega
        have hfin : R = some out := by
          have h1 := hO.is
          have h2 := hO.le
          rw [show M + 1 - k = 0 by omega] at h1
          exact h1.symm
        have HFI := Lib.hid (HFIN.out out hfin)
        have HRD := Lib.hid hW.o.rd
        have HGZ := Lib.hid (GB.trans hW.gr)
        clear hfin hW hO
        go_wp2_with fail
        go_ret2
        exact ⟨_, _, _, rfl, HGZ.out, HRD.out, HFI.out⟩
end Go.Proofs.Ytkanaoebpajbfaa
