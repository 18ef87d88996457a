/- The call DeskBusy answers true at any net, place, roles and operations that read as data; nothing that lay there turns. -/
import Derived.Test.YtbopachnkbjmfaaAlive17
import Derived.Test.YtbopachnkbjmfaaDeskLaw4
namespace Go.Proofs.Ytbopachnkbjmfaa
open Go.RowKit Go.Tok
set_option linter.unusedVariables false
set_option maxHeartbeats 8000000 in
set_option maxRecDepth 100000 in
theorem DeskBusy_walk {v vr u : Value} {N : NetD} {i : Int} {roles : List (List Int)} {ops : List OpD} (w : World) (hN : NetR w v N) (hi : I64 i) (hr0 : Rd rowK w vr roles ∧ roles.length ≤ 5864062014805) (hu0 : Rd opK w u ops ∧ ops.length ≤ 3518437208873) :
    Calls Try.prog 6 #[v, .int .i64 i, vr, u] w fun e w' => e = .returned (.bool true) ∧ Gr w w' := by
  have T := intTy
  obtain ⟨hr, _⟩ := hr0
  obtain ⟨hu, hul⟩ := hu0
  have hN' := hN
  obtain ⟨a, cap, rfl, hnl, hncap, hpl, hT⟩ := hN.open_
  have hpl1 := hpl.1
  have hpl2 := hpl.2
  obtain ⟨ua, uc, rfl, ul, ul'⟩ := hu.len
  obtain ⟨ra, rc, rfl, rl, rl'⟩ := hr.len
  rcases hp : deskPlay N i roles ops with ⟨⟨k, l⟩, e⟩
  have HP := Lib.hid hp
  by_cases he : e = 0
  case neg =>
    have q1 : (e != 0) = true := by simpa using he
    clear hp he
    go_enter Try.func6, Try.ntmps6
    go_wp2_with fail
    refine (alive17_calls _).mono ?_
    rintro _ w1 ⟨rfl, g1⟩
    have B0 := box_cell g1 (i := 0) rfl
    have B1 := box_cell g1 (i := 1) rfl
    have GW : Gr w w1 := ((Gr.refl w).alloc _).trans g1
    go_wp2_with fail
    refine (DeskPlay_calls _ _ _ N i roles ops _ (hN'.gr GW) hi (hr.gr GW) (hu.gr GW) hul).mono ?_
    rw [HP.out]; rintro _ w2 ⟨v2, u2, rfl, i2, j2, g2⟩
    simp only [] at i2 j2
    have i3 := i2
    obtain ⟨ma, mn, ba, bn, ia, jn, rfl, _, _, _, _, hil, hil2, iM, iB, iI⟩ := i2.open_
    obtain ⟨la, lc, rfl, hll, hlc⟩ := j2.len
    have GE : Gr w2 (w2.alloc (.cells #[.slice ma k.case.mark.length mn, .slice ba k.case.busy.length bn, .slice ia k.items.length jn] 48)) := (Gr.refl _).alloc _
    have bk : Blk (w2.alloc (.cells #[.slice ma k.case.mark.length mn, .slice ba k.case.busy.length bn, .slice ia k.items.length jn] 48)) w2.heap.size 48 #[.slice ma k.case.mark.length mn, .slice ba k.case.busy.length bn, .slice ia k.items.length jn] := Blk.new rfl
    replace B0 := cell_gr (cell_gr B0 g2) GE
    replace B1 := cell_gr (cell_gr B1 g2) GE
    replace GW := (GW.trans g2).trans GE
    replace iM := iM.gr GE
    replace iB := iB.gr GE
    replace iI := iI.gr GE
    replace i3 := i3.gr GE
    replace j2 := j2.gr GE
    have K0 := bk.cell (i := 0) rfl
    have K1 := bk.cell (i := 1) rfl
    have K2 := bk.cell (i := 2) rfl
    clear g1 g2 GE i2
    go_wp2_with fail
    generalize w2.alloc (.cells #[.slice ma k.case.mark.length mn, .slice ba k.case.busy.length bn, .slice ia k.items.length jn] 48) = w3 at bk B0 B1 GW iM iB iI i3 j2 K0 K1 K2 ⊢
    generalize w2.heap.size = kb at bk K0 K1 K2 ⊢
    go_wp2_with fail
    go_ret
    exact ⟨rfl, GW⟩
  case pos =>
    subst he
    have hgood := desk_good hp
    have HG := Lib.hid hgood.1
    have HBU := Lib.hid (openTo_busy hgood.2)
    have hn24 : N.trans.length ≤ 24 := netOk_24 (desk_begun hp).1
    have HKL := Lib.hid (show k.items.length ≤ 3518437208873 from by
      obtain ⟨_, c, _, hd⟩ := desk_begun hp
      have := deskTo_items N roles c ops ops.length
      rw [hd] at this; simp only [] at this; omega)
    have ee := eqB_yes (rfl : k.case.busy = k.case.busy)
    clear hp hgood
    go_enter Try.func6, Try.ntmps6
    go_wp2_with fail
    refine (alive17_calls _).mono ?_
    rintro _ w1 ⟨rfl, g1⟩
    have B0 := box_cell g1 (i := 0) rfl
    have B1 := box_cell g1 (i := 1) rfl
    have GW : Gr w w1 := ((Gr.refl w).alloc _).trans g1
    go_wp2_with fail
    refine (DeskPlay_calls _ _ _ N i roles ops _ (hN'.gr GW) hi (hr.gr GW) (hu.gr GW) hul).mono ?_
    rw [HP.out]; rintro _ w2 ⟨v2, u2, rfl, i2, j2, g2⟩
    simp only [] at i2 j2
    have i3 := i2
    obtain ⟨ma, mn, ba, bn, ia, jn, rfl, _, _, _, _, hil, hil2, iM, iB, iI⟩ := i2.open_
    obtain ⟨la, lc, rfl, hll, hlc⟩ := j2.len
    have GE : Gr w2 (w2.alloc (.cells #[.slice ma k.case.mark.length mn, .slice ba k.case.busy.length bn, .slice ia k.items.length jn] 48)) := (Gr.refl _).alloc _
    have bk : Blk (w2.alloc (.cells #[.slice ma k.case.mark.length mn, .slice ba k.case.busy.length bn, .slice ia k.items.length jn] 48)) w2.heap.size 48 #[.slice ma k.case.mark.length mn, .slice ba k.case.busy.length bn, .slice ia k.items.length jn] := Blk.new rfl
    replace B0 := cell_gr (cell_gr B0 g2) GE
    replace B1 := cell_gr (cell_gr B1 g2) GE
    replace GW := (GW.trans g2).trans GE
    replace iM := iM.gr GE
    replace iB := iB.gr GE
    replace iI := iI.gr GE
    replace i3 := i3.gr GE
    replace j2 := j2.gr GE
    have K0 := bk.cell (i := 0) rfl
    have K1 := bk.cell (i := 1) rfl
    have K2 := bk.cell (i := 2) rfl
    clear g1 g2 GE i2
    clear iM i3 j2 K0 B0
    go_wp2_with (at_make; go_loud (refine mk_ints T _ _ (w2.heap.size + 1) N.trans.length _ _ rfl rfl rfl rfl (by omega) (by omega) (by omega) (by simp) ?_; intro w4 hown hb hsz; have K2' := cell_gr K2 hb))
    rw [← openTo_nil] at hown
    have hs3 : (w2.alloc (.cells #[.slice ma k.case.mark.length mn, .slice ba k.case.busy.length bn, .slice ia k.items.length jn] 48)).heap.size = w2.heap.size + 1 := by simp
    generalize w2.alloc (.cells #[.slice ma k.case.mark.length mn, .slice ba k.case.busy.length bn, .slice ia k.items.length jn] 48) = w3 at bk B1 GW iB iI K1 K2 hb hs3
    have HS3 := Lib.hid (Nat.le_of_eq hs3)
    clear K2 B1 bk hs3 K2' hsz
    go_loopw [35] (fun q wr => ∃ x : Nat, q = .int .i64 x ∧ x ≤ k.items.length ∧ OwnI 3 (w2.heap.size + 1) wr (.slice (some ⟨w2.heap.size + 1, 0, none⟩) N.trans.length N.trans.length) (openTo N.trans.length (k.items.take x)) ∧ Gr w3 wr) (fun q _ => k.items.length - (intOf q).toNat)
    case atStart => exact ⟨0, rfl, Nat.zero_le _, by simpa using hown, hb⟩
    case round =>
      rename World => wo
      obtain ⟨x, rfl, hx, ho, hgr⟩ := hrel
      by_cases hlt : x < k.items.length
      · obtain ⟨b, o, rfl, c0, c1, c2, hI⟩ := (iI.gr hgr).item hlt
        obtain ⟨j, hj, hjl, hm⟩ := HG.out.tran _ (ix_mem hlt)
        have HTK := Lib.hid (take_ix hlt)
        have HJ := Lib.hid hj
        rw [hj] at c1
        have hxI : (x : Int) < (k.items.length : Int) := by omega
        have hjI : (j : Int) < (N.trans.length : Int) := by omega
        have hj0 : (0 : Int) ≤ (j : Int) := by omega
        have GA : Gr wo (wo.alloc (.cells #[.int .i64 (ix k.items x).user, .int .i64 (j : Int), .bool (ix k.items x).opened] 53)) := (Gr.refl _).alloc _
        have X1 : (wo.alloc (.cells #[.int .i64 (ix k.items x).user, .int .i64 (j : Int), .bool (ix k.items x).opened] 53)).cell? ⟨wo.heap.size, 1, none⟩ = some (.int .i64 (j : Int)) := box_cell (Gr.refl _) (i := 1) rfl
        have X2 : (wo.alloc (.cells #[.int .i64 (ix k.items x).user, .int .i64 (j : Int), .bool (ix k.items x).opened] 53)).cell? ⟨wo.heap.size, 2, none⟩ = some (.bool (ix k.items x).opened) := box_cell (Gr.refl _) (i := 2) rfl
        have ho2 := ho.gr GA
        have GG := hgr.trans GA
        clear hm hI hj
        cases hop : (ix k.items x).opened
        · have HOP := Lib.hid hop
          rw [hop] at c2
          go_wp2_with fail
          go_roundw
          case rel => exact ⟨x + 1, by go_num, by omega, by rw [HTK.out, openTo_shut HOP.out]; rw [hop] at ho2; exact ho2, by rw [hop] at GG; exact GG⟩
          case measure => simp [intOf]; omega
        · have HOP := Lib.hid hop
          rw [hop] at c2 X1 X2 ho2 GG
          clear ho GA hop
          have c := ho2.cell (i := j) (by rw [openTo_len]; exact hjl)
          have fz := ho2.frozen j
          have hcl := cntI_le j (k.items.take x)
          rw [← openTo_nth (n := N.trans.length) _ hjl] at hcl
          have hcl1 := hcl.1
          have hcl2 : nth (openTo N.trans.length (k.items.take x)) j ≤ 17592186044416 := by have h9 := hcl.2; rw [List.length_take] at h9; have := HKL.out; omega
          clear hcl
          have o1 := ho2.set j (nth (openTo N.trans.length (k.items.take x)) j + 1) (by unfold I64; omega)
          rw [← openTo_hit HOP.out HJ.out hjl] at o1
          go_wp2_with fail
          go_roundw
          case rel => exact ⟨x + 1, by go_num, by omega, by rw [HTK.out]; exact o1, GG.setCell HS3.out _⟩
          case measure => simp [intOf]; omega
      · obtain rfl : x = k.items.length := by omega
        rw [List.take_length, HBU.out] at ho
        have K1'' := cell_gr K1 hgr
        go_wp2_with fail
        refine (Equal_calls _ _ k.case.busy k.case.busy _ ho.ints (iB.gr hgr)).mono ?_
        rw [ee]; rintro _ w6 ⟨rfl, g6⟩
        go_wp2_with fail
        go_ret
        exact ⟨rfl, (GW.trans hgr).trans g6⟩
end Go.Proofs.Ytbopachnkbjmfaa
