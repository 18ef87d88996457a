/- The call HallKept answers true at any net, place, roles, operations and number that read as data; nothing that lay there turns. -/
import Derived.Test.YtidpppfimkhgkaaAlive19
import Derived.Test.YtidpppfimkhgkaaNextR
import Derived.Test.YtidpppfimkhgkaaTwoApp
import Derived.Test.YtidpppfimkhgkaaKeptFn
import Derived.Test.YtidpppfimkhgkaaConcatHO
import Derived.Test.YtidpppfimkhgkaaAcked
import Derived.Deep.RegionHeld3
import Derived.Deep.DeepCutAuto
namespace Go.Tok
open Go.RowKit
/-- all that is played -/
def keptAll (b a : List HopD) : List HopD := (b ++ [⟨2, 0, zeroOp⟩]) ++ a
theorem keptAll_len (b a : List HopD) : (keptAll b a).length = b.length + 1 + a.length := by simp [keptAll]; omega
theorem keptAll_flat (b a : List HopD) : [b, [⟨2, 0, zeroOp⟩], a].flatten = keptAll b a := by simp [keptAll]
theorem kept_bad {N : NetD} {i : Int} {roles : List (List Int)} {x y : List HopD} (h : (hallPlay N i roles x).2 ≠ 0) : (hallPlay N i roles y).2 = (hallPlay N i roles x).2 := by
  rcases hb : beginF N i with ⟨c, e⟩
  by_cases he : e = 0
  · subst he
    rw [hallPlay_ok hb] at h
    exact absurd rfl h
  · rw [hallPlay_bad hb he, hallPlay_bad hb he]
theorem any_no {b : List HopD} (h : (b.any fun t => !decide (t.kind = 1)) = false) : ∀ o ∈ b, o.kind = 1 := by
  intro o ho
  have := List.any_eq_false.1 h o ho
  simpa using this
end Go.Tok
namespace Go.Proofs.Ytidpppfimkhgkaa
open Go.RowKit Go.Tok
set_option linter.unusedVariables false
set_option linter.unusedSimpArgs false
theorem zero_opI : opI zeroOp := by unfold opI zeroOp; decide
set_option maxHeartbeats 8000000 in
set_option maxRecDepth 100000 in
theorem HallKept_walk {v vr u1 u2 : Value} {N : NetD} {i keep : Int} {roles : List (List Int)} {before after : List HopD} (w : World) (hN : NetR w v N) (hi : I64 i) (hr0 : Rd rowK w vr roles ∧ roles.length ≤ 1048576) (hb0 : Rd hopK w u1 before ∧ before.length ≤ 1048576) (ha0 : Rd hopK w u2 after ∧ after.length ≤ 1048576) (hke : I64 keep) :
    Calls Try.prog 10 #[v, .int .i64 i, vr, u1, u2, .int .i64 keep] w fun e w' => e = .returned (.bool true) ∧ Gr w w' := by
  obtain ⟨hr, _⟩ := hr0
  obtain ⟨hb, hbl⟩ := hb0
  obtain ⟨ha, hal⟩ := ha0
  have hN' := hN
  obtain ⟨a, cap, rfl, hnl, hncap, hpl, hT⟩ := hN.open_
  have hpl1 := hpl.1
  have hpl2 := hpl.2
  obtain ⟨ba, bc, rfl, bl, bl'⟩ := hb.len
  obtain ⟨aa, ac, rfl, al, al'⟩ := ha.len
  obtain ⟨ra, rc, rfl, rl, rl'⟩ := hr.len
  have eg : ∀ args w, (callFunc 37 args).run Try.prog w = .ok (.enter 37 args) w := (Go.Proofs.enters_of Try.func37 (by kernel_rfl) rfl)
  go_enter Try.func10, Try.ntmps10
  go_wp2_with fail
  refine (alive19_calls _).mono ?_
  rintro _ w1 ⟨rfl, g1⟩
  have B0 := box_cell g1 (i := 0) rfl
  have B1 := box_cell g1 (i := 1) rfl
  have GW : Gr w w1 := ((Gr.refl w).alloc _).trans g1
  have HGW := Lib.hid GW
  clear g1
  go_wp2_with fail
  refine (HallKept1_calls _ before _ (hb.gr GW)).mono ?_
  rcases hqb : (before.any fun t => !decide (t.kind = 1)) with _ | _
  · rintro _ w2 ⟨rfl, g2⟩
    go_wp2_with fail
    refine (HallKept1_calls _ after _ (ha.gr (GW.trans g2))).mono ?_
    rcases hqa : (after.any fun t => !decide (t.kind = 1)) with _ | _
    · rintro _ w3 ⟨rfl, g3⟩
      have h1b := Lib.hid (any_no hqb)
      have h1a := Lib.hid (any_no hqa)
      clear hqb hqa
      have G3 := g2.trans g3
      have GL3 : Gr w1 (w3.alloc (.cells #[.int .i64 2, .int .i64 0, .int .i64 0, .int .i64 0, .int .i64 0, .int .i64 0, .int .i64 0] 61)) := G3.alloc _
      have RS : Rd hopK (w3.alloc (.cells #[.int .i64 2, .int .i64 0, .int .i64 0, .int .i64 0, .int .i64 0, .int .i64 0, .int .i64 0] 61)) (.slice (some ⟨w3.heap.size, 0, none⟩) 1 1) [⟨2, 0, zeroOp⟩] := Rd.blkFlat (α := HopD) (size := 7) (cells := hopCells) (ok := hopI) (xs := [⟨2, 0, zeroOp⟩]) (Blk.new rfl) rfl (by simp) (by simp [hopCells, cellsOf, zeroOp]) (by intro y hy; rw [List.mem_singleton.1 hy]; exact ⟨(by decide : I64 2), (by decide : I64 0), zero_opI⟩)
      have MM := MatK.lit3 (t := 56) (World.size_alloc w3 (.cells #[.int .i64 2, .int .i64 0, .int .i64 0, .int .i64 0, .int .i64 0, .int .i64 0, .int .i64 0] 61)) (hb.gr (GW.trans GL3)) RS (ha.gr (GW.trans GL3))
      have GM : Gr w1 ((w3.alloc (.cells #[.int .i64 2, .int .i64 0, .int .i64 0, .int .i64 0, .int .i64 0, .int .i64 0, .int .i64 0] 61)).alloc (.cells #[.slice ba before.length bc, .slice (some ⟨w3.heap.size, 0, none⟩) 1 1, .slice aa after.length ac] 56)) := GL3.alloc _
      go_wp2_with fail
      refine (ConcatHop_calls _ _ _ MM (by rw [keptAll_flat, keptAll_len]; omega)).mono ?_
      rw [keptAll_flat]; rintro _ w4 ⟨v4, rfl, o4, g4⟩
      obtain ⟨a4, c4, hv4, -, -⟩ := o4.len
      obtain ⟨n, hn⟩ : ∃ n, n = (keptAll before after).length := ⟨_, rfl⟩
      rw [← hn] at hv4
      subst hv4
      have HNL := Lib.hid hn
      have RA := Lib.hid o4.rd
      have GZ := GM.trans g4
      clear hn o4 MM RS GL3 g4 GM g2 g3 G3
      have C0 := cell_gr B0 GZ
      have C1 := cell_gr B1 GZ
      have hnb : n ≤ 2513169434915 := by have := HNL.out; rw [keptAll_len] at this; omega
      have hnL : (keptAll before after).length ≤ 2513169434916 := by rw [← HNL.out]; omega
      rcases hp : hallPlay N i roles (keptAll before after) with ⟨⟨kd, l⟩, e⟩
      have HP := Lib.hid hp
      clear hp
      go_wp2_with fail
      refine (HallPlay_calls _ _ _ N i roles (keptAll before after) _ (hN'.gr (GW.trans GZ)) hi (hr.gr (GW.trans GZ)) RA.out hnL).mono ?_
      rw [HP.out]; rintro _ w5 ⟨v5, u5, rfl, i5, j5, g5⟩
      simp only [] at i5 j5
      obtain ⟨ma, mn, mb, bn, mi, jn, rfl, -⟩ := i5.open_
      obtain ⟨la, lc, rfl, -, -⟩ := j5.len
      have GE : Gr w5 (w5.alloc (.cells #[.slice ma kd.case.mark.length mn, .slice mb kd.case.busy.length bn, .slice mi kd.items.length jn] 66)) := (Gr.refl _).alloc _
      have HGZ := Lib.hid (GZ.trans (g5.trans GE))
      have HJ := Lib.hid (j5.gr GE)
      have HRA := Lib.hid (RA.out.gr (g5.trans GE))
      clear i5 j5 RA C0 C1 GZ g5
      go_upto_region 8 with fail
      generalize w5.alloc (.cells #[.slice ma kd.case.mark.length mn, .slice mb kd.case.busy.length bn, .slice mi kd.items.length jn] 66) = w0 at HGZ HJ HRA GE ⊢
      clear GE
      rcases hp2 : hallPlay N i roles (keptAll before after ++ [⟨3, keep, zeroOp⟩]) with ⟨⟨k2, l2⟩, e2⟩
      have HP2 := Lib.hid hp2
      clear hp2
      have HB0 := Lib.hid B0
      have HB1 := Lib.hid B1
      clear B0 B1
      go_cut [18, 19, 20] (fun pk sx se wx => ∃ (X : Nat) (na nb nc : Option Addr) (mn7 bn7 jn7 : Nat), pk = .pointer (some ⟨X, 0, none⟩) ∧ se = .int .i64 e2 ∧
        Blk wx X 66 #[.slice na k2.case.mark.length mn7, .slice nb k2.case.busy.length bn7, .slice nc k2.items.length jn7] ∧ DeskR wx (.agg #[.slice na k2.case.mark.length mn7, .slice nb k2.case.busy.length bn7, .slice nc k2.items.length jn7]) k2 ∧ Gr w0 wx)
      case first =>
        have HN := Lib.hid (hN'.gr (HGW.out.trans HGZ.out))
        have HR := Lib.hid (hr.gr (HGW.out.trans HGZ.out))
        have HC0 := Lib.hid (cell_gr HB0.out HGZ.out)
        have HC1 := Lib.hid (cell_gr HB1.out HGZ.out)
        have hn3 : ((keptAll before after).length + 1) * 56 ≤ 140737488355328 := by rw [← HNL.out]; omega
        have hn4 : (keptAll before after).length + 1 ≤ maxLen := by rw [← HNL.out]; unfold maxLen; omega
        have hn5 : (keptAll before after ++ [(⟨3, keep, zeroOp⟩ : HopD)]).length ≤ 2513169434916 := by rw [List.length_append, ← HNL.out]; simp only [List.length_singleton]; omega
        refine wp_region_held_drew (S := fun w' => w'.cell? ⟨w.heap.size, 0, none⟩ = some (.int .i64 N.places) ∧ w'.cell? ⟨w.heap.size, 1, none⟩ = some (.slice a N.trans.length cap)) (by kernel_rfl) ⟨cell_gr HC0.out ((Gr.refl _).drew), cell_gr HC1.out ((Gr.refl _).drew)⟩ (fun hHeld => ?_)
        obtain ⟨y0, hy⟩ : ∃ y, y = w0.drew := ⟨_, rfl⟩
        have G : Gr w0 y0 := by rw [hy]; exact (Gr.refl _).drew
        rw [← hy] at hHeld ⊢
        clear hy
        (refine hold0 (v := ?_) (by kernel_rfl) (by kernel_rfl) (by kernel_rfl) (fun _ _ _ h => h) (by rfl) (fun w' hSw => ?_) (by assumption) ?_; rotate_left 1; · ((try dsimp only at hSw); (try go_simp); (try (with_reducible rfl))); (try simp only [Act.put, List.setIfInBounds_toArray, List.set_cons_zero, List.set_cons_succ]))
        (refine hold1 (v := ?_) (by kernel_rfl) (by kernel_rfl) (by kernel_rfl) (fun _ _ _ h => h) (by rfl) (fun w' hSw => ?_) (by assumption) ?_; rotate_left 1; · ((try dsimp only at hSw); (try go_simp); (try (with_reducible rfl))); (try simp only [Act.put, List.setIfInBounds_toArray, List.set_cons_zero, List.set_cons_succ]))
        (refine hold2 (v := ?_) (by kernel_rfl) (by kernel_rfl) (by kernel_rfl) (fun _ _ _ h => h) (by rfl) (fun w' hSw => ?_) (by assumption) ?_; rotate_left 1; · ((try dsimp only at hSw); (try go_simp); (try (with_reducible rfl))); (try simp only [Act.put, List.setIfInBounds_toArray, List.set_cons_zero, List.set_cons_succ]))
        (refine hold3 (v := ?_) (by kernel_rfl) (by kernel_rfl) (by kernel_rfl) (fun _ _ _ h => h) (by rfl) (fun w' hSw => ?_) (by assumption) ?_; rotate_left 1; · ((try dsimp only at hSw); (try go_simp); (try (with_reducible rfl))); (try simp only [Act.put, List.setIfInBounds_toArray, List.set_cons_zero, List.set_cons_succ]))
        (refine hold5 (v := ?_) (by kernel_rfl) (by kernel_rfl) (by kernel_rfl) (fun _ _ _ h => h) (by rfl) (fun w' hSw => ?_) (by assumption) ?_; rotate_left 1; · ((try dsimp only at hSw); (try go_simp); (try (with_reducible rfl))); (try simp only [Act.put, List.setIfInBounds_toArray, List.set_cons_zero, List.set_cons_succ]))
        (refine hold6 (v := ?_) (by kernel_rfl) (by kernel_rfl) (by kernel_rfl) (fun _ _ _ h => h) (by rfl) (fun w' hSw => ?_) (by assumption) ?_; rotate_left 1; · ((try dsimp only at hSw); (try go_simp); (try (with_reducible rfl))); (try simp only [Act.put, List.setIfInBounds_toArray, List.set_cons_zero, List.set_cons_succ]))
        refine next4p7p14 (by kernel_rfl) (fun K hK => ?_) (fun K hK => ?_) (fun K hK => ?_)
        · skip
          go_simp
          go_at_call 30
          (with_reducible refine (CloneHop_calls _ (keptAll before after) _ (HRA.out.gr ?_) hnL).mono ?_)
          · exact G
          rintro _ y1 ⟨vC, rfl, oC0, gC⟩
          have oC := oC0.low G.le
          obtain ⟨aC, cC, hvC, -, -⟩ := oC.len
          rw [← HNL.out] at hvC
          subst hvC
          clear oC0
          replace G := G.trans gC
          (refine hK.out _ _ ?_ (fun hHeld => ?_); · (exact ⟨cell_gr HC0.out (G), cell_gr HC1.out (G)⟩))
          clear hK K
          try simp only [Act.put, List.setIfInBounds_toArray, List.set_cons_zero, List.set_cons_succ]
          refine next7p14 (by kernel_rfl) (fun K hK => ?_) (fun K hK => ?_)
          · skip
            go_simp
            (refine hK.out _ _ ?_ (fun hHeld => ?_); · (exact ⟨cell_gr HC0.out (G.alloc _), cell_gr HC1.out (G.alloc _)⟩))
            clear hK K
            try simp only [Act.put, List.setIfInBounds_toArray, List.set_cons_zero, List.set_cons_succ]
            obtain ⟨XL, hXL⟩ : ∃ X, X = y1.heap.size := ⟨_, rfl⟩
            obtain ⟨y2, hw⟩ : ∃ y, y = y1.alloc (.cells #[.int .i64 3, .int .i64 keep, .int .i64 0, .int .i64 0, .int .i64 0, .int .i64 0, .int .i64 0] 61) := ⟨_, rfl⟩
            have gA : Gr y1 y2 := by rw [hw]; exact (Gr.refl _).alloc _
            have hL : ∀ (j : Nat) (u : Value), ([.int .i64 3, .int .i64 keep, .int .i64 0, .int .i64 0, .int .i64 0, .int .i64 0, .int .i64 0] : List Value)[j]? = some u → y2.cell? ((⟨XL, 0, none⟩ : Addr).add j) = some u := by rw [hw]; exact lit_cellsH hXL.symm
            replace G := G.trans gA
            replace oC := oC.gr gA
            rw [← hw, ← hXL]
            clear hw hXL gA
            refine next8p14 (by kernel_rfl) (fun K hK => ?_) (fun K hK => ?_)
            · skip
              refine step_app_one hopTy ?_ (.tmp 57) (.tmp 60) ?_ w0.heap.size NoB (.slice aC n cC) (keptAll before after) ⟨XL, 0, none⟩ ⟨3, keep, zeroOp⟩ [.int .i64 3, .int .i64 keep, .int .i64 0, .int .i64 0, .int .i64 0, .int .i64 0, .int .i64 0] ?_ ?_ ?_ ?_ ?_ ?_ ?_ ?_ ?_
              · rfl
              · rfl
              · rfl
              · rfl
              · exact oC
              · exact hL
              · exact On.true (p := [Value.int .i64 3, .int .i64 keep, .int .i64 0, .int .i64 0, .int .i64 0, .int .i64 0, .int .i64 0] = hopCells ⟨3, keep, zeroOp⟩ ∧ hopI ⟨3, keep, zeroOp⟩) ⟨rfl, (by decide : I64 3), hke, zero_opI⟩
              · exact hn3
              · exact hn4
              · exact G.le
              intro g6 cp6 y3 o6 hgs6 hgb6 hat6 hlt6
              replace G : Gr w0 y3 := hgs6 w0 (Nat.le_refl _) G
              clear hgs6 hgb6 hat6 hlt6 oC hL
              (refine hK.out _ _ ?_ (fun hHeld => ?_); · (exact ⟨cell_gr HC0.out (G), cell_gr HC1.out (G)⟩))
              clear hK K
              try simp only [Act.put, List.setIfInBounds_toArray, List.set_cons_zero, List.set_cons_succ]
              refine next9p14 (by kernel_rfl) (fun K hK => ?_) (fun K hK => ?_)
              · skip
                go_simp
                go_at_call 31
                have KO := OwnR.rd o6
                clear o6
                (with_reducible refine (HallPlay2_calls _ _ _ N i roles (keptAll before after ++ [⟨3, keep, zeroOp⟩]) _ (HN.out.gr ?_) hi (HR.out.gr ?_) (KO.gr ?_) hn5).mono ?_)
                · exact G
                · exact G
                · exact Gr.refl _
                rw [HP2.out]; rintro _ y4 ⟨v7, u7, rfl, i7, j7, g7⟩
                simp only [] at i7 j7
                obtain ⟨na, mn7, nb, bn7, nc, jn7, rfl, -⟩ := i7.now.open_
                obtain ⟨la7, lc7, rfl, -, -⟩ := j7.now.len
                clear KO
                replace G := G.trans g7
                (refine hK.out _ _ ?_ (fun hHeld => ?_); · (exact ⟨cell_gr HC0.out (G), cell_gr HC1.out (G)⟩))
                clear hK K
                try simp only [Act.put, List.setIfInBounds_toArray, List.set_cons_zero, List.set_cons_succ]
                (refine hold10 (v := ?_) (by kernel_rfl) (by kernel_rfl) (by kernel_rfl) (fun _ _ _ h => h) (by rfl) (fun w' hSw => ?_) (by assumption) ?_; rotate_left 1; · ((try dsimp only at hSw); (try go_simp); (try (with_reducible rfl))); (try simp only [Act.put, List.setIfInBounds_toArray, List.set_cons_zero, List.set_cons_succ]))
                (refine hold11 (v := ?_) (by kernel_rfl) (by kernel_rfl) (by kernel_rfl) (fun _ _ _ h => h) (by rfl) (fun w' hSw => ?_) (by assumption) ?_; rotate_left 1; · ((try dsimp only at hSw); (try go_simp); (try (with_reducible rfl))); (try simp only [Act.put, List.setIfInBounds_toArray, List.set_cons_zero, List.set_cons_succ]))
                (refine hold12 (v := ?_) (by kernel_rfl) (by kernel_rfl) (by kernel_rfl) (fun _ _ _ h => h) (by rfl) (fun w' hSw => ?_) (by assumption) ?_; rotate_left 1; · ((try dsimp only at hSw); (try go_simp); (try (with_reducible rfl))); (try simp only [Act.put, List.setIfInBounds_toArray, List.set_cons_zero, List.set_cons_succ]))
                (refine hold13 (v := ?_) (by kernel_rfl) (by kernel_rfl) (by kernel_rfl) (fun _ _ _ h => h) (by rfl) (fun w' hSw => ?_) (by assumption) ?_; rotate_left 1; · ((try dsimp only at hSw); (try go_simp); (try (with_reducible rfl))); (try simp only [Act.put, List.setIfInBounds_toArray, List.set_cons_zero, List.set_cons_succ]))
                refine next14 (by kernel_rfl) (fun K hK => ?_)
                go_simp
                (refine hK.out _ _ ?_ (fun hHeld => ?_); · (exact ⟨cell_gr HC0.out (G.alloc _), cell_gr HC1.out (G.alloc _)⟩))
                clear hK K
                try simp only [Act.put, List.setIfInBounds_toArray, List.set_cons_zero, List.set_cons_succ]
                obtain ⟨XD, hXD⟩ : ∃ X, X = y4.heap.size := ⟨_, rfl⟩
                obtain ⟨y5, hw⟩ : ∃ y, y = y4.alloc (.cells #[.slice none 0 0, .slice none 0 0, .slice none 0 0] 66) := ⟨_, rfl⟩
                have gA : Gr y4 y5 := by rw [hw]; exact (Gr.refl _).alloc _
                have bD : Blk y5 XD 66 #[.slice none 0 0, .slice none 0 0, .slice none 0 0] := by rw [hw]; exact Blk.new hXD.symm
                have HXD := Lib.hid (show w0.heap.size ≤ XD from hXD ▸ G.le)
                have HX7 := Lib.hid (show y4.heap.size ≤ XD from Nat.le_of_eq hXD.symm)
                have g78 := gA
                replace G := G.trans gA
                rw [← hw, ← hXD]
                clear hw hXD gA
                have S0 := bD.cell (i := 0) (v := .slice none 0 0) rfl
                have SF0 := bD.frozen 0
                have bs0 := bD.set 0 (.slice na k2.case.mark.length mn7)
                have S1 := bs0.cell (i := 1) (v := .slice none 0 0) rfl
                have SF1 := bs0.frozen 1
                have bs1 := bs0.set 1 (.slice nb k2.case.busy.length bn7)
                have S2 := bs1.cell (i := 2) (v := .slice none 0 0) rfl
                have SF2 := bs1.frozen 2
                have bs2 := bs1.set 2 (.slice nc k2.items.length jn7)
                have GF : Gr w0 (((y5.setCell ⟨XD, 0, none⟩ (.slice na k2.case.mark.length mn7)).setCell ⟨XD, 1, none⟩ (.slice nb k2.case.busy.length bn7)).setCell ⟨XD, 2, none⟩ (.slice nc k2.items.length jn7)) := ((G.setCell HXD.out _).setCell HXD.out _).setCell HXD.out _
                have DF := (i7.gr (((g78.setCell HX7.out _).setCell HX7.out _).setCell HX7.out _)).now (w := ((y5.setCell ⟨XD, 0, none⟩ (.slice na k2.case.mark.length mn7)).setCell ⟨XD, 1, none⟩ (.slice nb k2.case.busy.length bn7)).setCell ⟨XD, 2, none⟩ (.slice nc k2.items.length jn7))
                refine next15 (by kernel_rfl) (fun K hK => ?_)
                go_simp
                (refine hK.out _ _ ?_ (fun hHeld => ?_); · (exact ⟨cell_gr HC0.out (GF), cell_gr HC1.out (GF)⟩))
                clear hK K
                try simp only [Act.put, List.setIfInBounds_toArray, List.set_cons_zero, List.set_cons_succ]
                (refine hold16 (v := ?_) (by kernel_rfl) (by kernel_rfl) (by kernel_rfl) (fun _ _ _ h => h) (by rfl) (fun w' hSw => ?_) (by assumption) ?_; rotate_left 1; · ((try dsimp only at hSw); (try go_simp); (try (with_reducible rfl))); (try simp only [Act.put, List.setIfInBounds_toArray, List.set_cons_zero, List.set_cons_succ]))
                (refine hold17 (v := ?_) (by kernel_rfl) (by kernel_rfl) (by kernel_rfl) (fun _ _ _ h => h) (by rfl) (fun w' hSw => ?_) (by assumption) ?_; rotate_left 1; · ((try dsimp only at hSw); (try go_simp); (try (with_reducible rfl))); (try simp only [Act.put, List.setIfInBounds_toArray, List.set_cons_zero, List.set_cons_succ]))
                refine wpAnyH_done (by kernel_rfl) ?_ _
                clear hHeld
                go_wp2_with fail
                go_meet
                case rel => exact ⟨_, _, _, _, _, _, _, rfl, rfl, bs2, DF, GF⟩
              · skip
                go_simp
                (refine hK.out _ _ ?_ (fun hHeld => ?_); · (exact ⟨cell_gr HC0.out (G.alloc _), cell_gr HC1.out (G.alloc _)⟩))
                clear hK K
                try simp only [Act.put, List.setIfInBounds_toArray, List.set_cons_zero, List.set_cons_succ]
                obtain ⟨XD, hXD⟩ : ∃ X, X = y3.heap.size := ⟨_, rfl⟩
                obtain ⟨y6, hw⟩ : ∃ y, y = y3.alloc (.cells #[.slice none 0 0, .slice none 0 0, .slice none 0 0] 66) := ⟨_, rfl⟩
                have gA : Gr y3 y6 := by rw [hw]; exact (Gr.refl _).alloc _
                have bD : Blk y6 XD 66 #[.slice none 0 0, .slice none 0 0, .slice none 0 0] := by rw [hw]; exact Blk.new hXD.symm
                have HXD := Lib.hid (show w0.heap.size ≤ XD from hXD ▸ G.le)
                replace G := G.trans gA
                replace o6 := o6.gr gA
                rw [← hw, ← hXD]
                clear hw hXD gA
                refine next9 (by kernel_rfl) (fun K hK => ?_)
                go_simp
                go_at_call 31
                have KO := OwnR.rd o6
                clear o6
                (with_reducible refine (HallPlay2_calls _ _ _ N i roles (keptAll before after ++ [⟨3, keep, zeroOp⟩]) _ (HN.out.gr ?_) hi (HR.out.gr ?_) (KO.gr ?_) hn5).mono ?_)
                · exact G
                · exact G
                · exact Gr.refl _
                rw [HP2.out]; rintro _ y7 ⟨v7, u7, rfl, i7, j7, g7⟩
                simp only [] at i7 j7
                obtain ⟨na, mn7, nb, bn7, nc, jn7, rfl, -⟩ := i7.now.open_
                obtain ⟨la7, lc7, rfl, -, -⟩ := j7.now.len
                have HEN := bD.lt
                clear KO
                replace G := G.trans g7
                replace bD := bD.gr g7
                (refine hK.out _ _ ?_ (fun hHeld => ?_); · (exact ⟨cell_gr HC0.out (G), cell_gr HC1.out (G)⟩))
                clear hK K
                try simp only [Act.put, List.setIfInBounds_toArray, List.set_cons_zero, List.set_cons_succ]
                (refine hold10 (v := ?_) (by kernel_rfl) (by kernel_rfl) (by kernel_rfl) (fun _ _ _ h => h) (by rfl) (fun w' hSw => ?_) (by assumption) ?_; rotate_left 1; · ((try dsimp only at hSw); (try go_simp); (try (with_reducible rfl))); (try simp only [Act.put, List.setIfInBounds_toArray, List.set_cons_zero, List.set_cons_succ]))
                (refine hold11 (v := ?_) (by kernel_rfl) (by kernel_rfl) (by kernel_rfl) (fun _ _ _ h => h) (by rfl) (fun w' hSw => ?_) (by assumption) ?_; rotate_left 1; · ((try dsimp only at hSw); (try go_simp); (try (with_reducible rfl))); (try simp only [Act.put, List.setIfInBounds_toArray, List.set_cons_zero, List.set_cons_succ]))
                (refine hold12 (v := ?_) (by kernel_rfl) (by kernel_rfl) (by kernel_rfl) (fun _ _ _ h => h) (by rfl) (fun w' hSw => ?_) (by assumption) ?_; rotate_left 1; · ((try dsimp only at hSw); (try go_simp); (try (with_reducible rfl))); (try simp only [Act.put, List.setIfInBounds_toArray, List.set_cons_zero, List.set_cons_succ]))
                (refine hold13 (v := ?_) (by kernel_rfl) (by kernel_rfl) (by kernel_rfl) (fun _ _ _ h => h) (by rfl) (fun w' hSw => ?_) (by assumption) ?_; rotate_left 1; · ((try dsimp only at hSw); (try go_simp); (try (with_reducible rfl))); (try simp only [Act.put, List.setIfInBounds_toArray, List.set_cons_zero, List.set_cons_succ]))
                have S0 := bD.cell (i := 0) (v := .slice none 0 0) rfl
                have SF0 := bD.frozen 0
                have bs0 := bD.set 0 (.slice na k2.case.mark.length mn7)
                have S1 := bs0.cell (i := 1) (v := .slice none 0 0) rfl
                have SF1 := bs0.frozen 1
                have bs1 := bs0.set 1 (.slice nb k2.case.busy.length bn7)
                have S2 := bs1.cell (i := 2) (v := .slice none 0 0) rfl
                have SF2 := bs1.frozen 2
                have bs2 := bs1.set 2 (.slice nc k2.items.length jn7)
                have GF : Gr w0 (((y7.setCell ⟨XD, 0, none⟩ (.slice na k2.case.mark.length mn7)).setCell ⟨XD, 1, none⟩ (.slice nb k2.case.busy.length bn7)).setCell ⟨XD, 2, none⟩ (.slice nc k2.items.length jn7)) := ((G.setCell HXD.out _).setCell HXD.out _).setCell HXD.out _
                have hne7 : ∀ j : Nat, ¬ ((fun b => y6.heap.size ≤ b) (⟨XD, j, none⟩ : Addr).block) := fun j h => by simp at h; omega
                have DF := (i7.kp (((set_kp (a := ⟨XD, 0, none⟩) (hne7 0) _).trans (set_kp (a := ⟨XD, 1, none⟩) (hne7 1) _)).trans (set_kp (a := ⟨XD, 2, none⟩) (hne7 2) _))).now (w := ((y7.setCell ⟨XD, 0, none⟩ (.slice na k2.case.mark.length mn7)).setCell ⟨XD, 1, none⟩ (.slice nb k2.case.busy.length bn7)).setCell ⟨XD, 2, none⟩ (.slice nc k2.items.length jn7))
                clear hne7
                refine next15 (by kernel_rfl) (fun K hK => ?_)
                go_simp
                (refine hK.out _ _ ?_ (fun hHeld => ?_); · (exact ⟨cell_gr HC0.out (GF), cell_gr HC1.out (GF)⟩))
                clear hK K
                try simp only [Act.put, List.setIfInBounds_toArray, List.set_cons_zero, List.set_cons_succ]
                (refine hold16 (v := ?_) (by kernel_rfl) (by kernel_rfl) (by kernel_rfl) (fun _ _ _ h => h) (by rfl) (fun w' hSw => ?_) (by assumption) ?_; rotate_left 1; · ((try dsimp only at hSw); (try go_simp); (try (with_reducible rfl))); (try simp only [Act.put, List.setIfInBounds_toArray, List.set_cons_zero, List.set_cons_succ]))
                (refine hold17 (v := ?_) (by kernel_rfl) (by kernel_rfl) (by kernel_rfl) (fun _ _ _ h => h) (by rfl) (fun w' hSw => ?_) (by assumption) ?_; rotate_left 1; · ((try dsimp only at hSw); (try go_simp); (try (with_reducible rfl))); (try simp only [Act.put, List.setIfInBounds_toArray, List.set_cons_zero, List.set_cons_succ]))
                refine wpAnyH_done (by kernel_rfl) ?_ _
                clear hHeld
                go_wp2_with fail
                go_meet
                case rel => exact ⟨_, _, _, _, _, _, _, rfl, rfl, bs2, DF, GF⟩
            · skip
              go_simp
              (refine hK.out _ _ ?_ (fun hHeld => ?_); · (exact ⟨cell_gr HC0.out (G.alloc _), cell_gr HC1.out (G.alloc _)⟩))
              clear hK K
              try simp only [Act.put, List.setIfInBounds_toArray, List.set_cons_zero, List.set_cons_succ]
              obtain ⟨XD, hXD⟩ : ∃ X, X = y2.heap.size := ⟨_, rfl⟩
              obtain ⟨y8, hw⟩ : ∃ y, y = y2.alloc (.cells #[.slice none 0 0, .slice none 0 0, .slice none 0 0] 66) := ⟨_, rfl⟩
              have gA : Gr y2 y8 := by rw [hw]; exact (Gr.refl _).alloc _
              have bD : Blk y8 XD 66 #[.slice none 0 0, .slice none 0 0, .slice none 0 0] := by rw [hw]; exact Blk.new hXD.symm
              have HXD := Lib.hid (show w0.heap.size ≤ XD from hXD ▸ G.le)
              have HND := Lib.hid (show some XD ≠ (Value.slice aC n cC).ownBlock from fun e => by have h1 := (oC.lt e.symm).2; omega)
              replace G := G.trans gA
              replace oC := oC.gr gA
              replace hL : ∀ (j : Nat) (u : Value), ([.int .i64 3, .int .i64 keep, .int .i64 0, .int .i64 0, .int .i64 0, .int .i64 0, .int .i64 0] : List Value)[j]? = some u → y8.cell? ((⟨XL, 0, none⟩ : Addr).add j) = some u := fun j u h => cell_gr (hL j u h) gA
              rw [← hw, ← hXD]
              clear hw hXD gA
              refine next8 (by kernel_rfl) (fun K hK => ?_)
              refine step_app_one hopTy ?_ (.tmp 57) (.tmp 60) ?_ w0.heap.size NoB (.slice aC n cC) (keptAll before after) ⟨XL, 0, none⟩ ⟨3, keep, zeroOp⟩ [.int .i64 3, .int .i64 keep, .int .i64 0, .int .i64 0, .int .i64 0, .int .i64 0, .int .i64 0] ?_ ?_ ?_ ?_ ?_ ?_ ?_ ?_ ?_
              · rfl
              · rfl
              · rfl
              · rfl
              · exact oC
              · exact hL
              · exact On.true (p := [Value.int .i64 3, .int .i64 keep, .int .i64 0, .int .i64 0, .int .i64 0, .int .i64 0, .int .i64 0] = hopCells ⟨3, keep, zeroOp⟩ ∧ hopI ⟨3, keep, zeroOp⟩) ⟨rfl, (by decide : I64 3), hke, zero_opI⟩
              · exact hn3
              · exact hn4
              · exact G.le
              intro g6 cp6 y9 o6 hgs6 hgb6 hat6 hlt6
              replace G : Gr w0 y9 := hgs6 w0 (Nat.le_refl _) G
              replace bD := bD.grown hgb6 HND.out
              clear hgs6 hgb6 hat6 hlt6 oC hL
              (refine hK.out _ _ ?_ (fun hHeld => ?_); · (exact ⟨cell_gr HC0.out (G), cell_gr HC1.out (G)⟩))
              clear hK K
              try simp only [Act.put, List.setIfInBounds_toArray, List.set_cons_zero, List.set_cons_succ]
              refine next9 (by kernel_rfl) (fun K hK => ?_)
              go_simp
              go_at_call 31
              have KO := OwnR.rd o6
              clear o6
              (with_reducible refine (HallPlay2_calls _ _ _ N i roles (keptAll before after ++ [⟨3, keep, zeroOp⟩]) _ (HN.out.gr ?_) hi (HR.out.gr ?_) (KO.gr ?_) hn5).mono ?_)
              · exact G
              · exact G
              · exact Gr.refl _
              rw [HP2.out]; rintro _ y10 ⟨v7, u7, rfl, i7, j7, g7⟩
              simp only [] at i7 j7
              obtain ⟨na, mn7, nb, bn7, nc, jn7, rfl, -⟩ := i7.now.open_
              obtain ⟨la7, lc7, rfl, -, -⟩ := j7.now.len
              have HEN := bD.lt
              clear KO
              replace G := G.trans g7
              replace bD := bD.gr g7
              (refine hK.out _ _ ?_ (fun hHeld => ?_); · (exact ⟨cell_gr HC0.out (G), cell_gr HC1.out (G)⟩))
              clear hK K
              try simp only [Act.put, List.setIfInBounds_toArray, List.set_cons_zero, List.set_cons_succ]
              (refine hold10 (v := ?_) (by kernel_rfl) (by kernel_rfl) (by kernel_rfl) (fun _ _ _ h => h) (by rfl) (fun w' hSw => ?_) (by assumption) ?_; rotate_left 1; · ((try dsimp only at hSw); (try go_simp); (try (with_reducible rfl))); (try simp only [Act.put, List.setIfInBounds_toArray, List.set_cons_zero, List.set_cons_succ]))
              (refine hold11 (v := ?_) (by kernel_rfl) (by kernel_rfl) (by kernel_rfl) (fun _ _ _ h => h) (by rfl) (fun w' hSw => ?_) (by assumption) ?_; rotate_left 1; · ((try dsimp only at hSw); (try go_simp); (try (with_reducible rfl))); (try simp only [Act.put, List.setIfInBounds_toArray, List.set_cons_zero, List.set_cons_succ]))
              (refine hold12 (v := ?_) (by kernel_rfl) (by kernel_rfl) (by kernel_rfl) (fun _ _ _ h => h) (by rfl) (fun w' hSw => ?_) (by assumption) ?_; rotate_left 1; · ((try dsimp only at hSw); (try go_simp); (try (with_reducible rfl))); (try simp only [Act.put, List.setIfInBounds_toArray, List.set_cons_zero, List.set_cons_succ]))
              (refine hold13 (v := ?_) (by kernel_rfl) (by kernel_rfl) (by kernel_rfl) (fun _ _ _ h => h) (by rfl) (fun w' hSw => ?_) (by assumption) ?_; rotate_left 1; · ((try dsimp only at hSw); (try go_simp); (try (with_reducible rfl))); (try simp only [Act.put, List.setIfInBounds_toArray, List.set_cons_zero, List.set_cons_succ]))
              have S0 := bD.cell (i := 0) (v := .slice none 0 0) rfl
              have SF0 := bD.frozen 0
              have bs0 := bD.set 0 (.slice na k2.case.mark.length mn7)
              have S1 := bs0.cell (i := 1) (v := .slice none 0 0) rfl
              have SF1 := bs0.frozen 1
              have bs1 := bs0.set 1 (.slice nb k2.case.busy.length bn7)
              have S2 := bs1.cell (i := 2) (v := .slice none 0 0) rfl
              have SF2 := bs1.frozen 2
              have bs2 := bs1.set 2 (.slice nc k2.items.length jn7)
              have GF : Gr w0 (((y10.setCell ⟨XD, 0, none⟩ (.slice na k2.case.mark.length mn7)).setCell ⟨XD, 1, none⟩ (.slice nb k2.case.busy.length bn7)).setCell ⟨XD, 2, none⟩ (.slice nc k2.items.length jn7)) := ((G.setCell HXD.out _).setCell HXD.out _).setCell HXD.out _
              have hne7 : ∀ j : Nat, ¬ ((fun b => y9.heap.size ≤ b) (⟨XD, j, none⟩ : Addr).block) := fun j h => by simp at h; omega
              have DF := (i7.kp (((set_kp (a := ⟨XD, 0, none⟩) (hne7 0) _).trans (set_kp (a := ⟨XD, 1, none⟩) (hne7 1) _)).trans (set_kp (a := ⟨XD, 2, none⟩) (hne7 2) _))).now (w := ((y10.setCell ⟨XD, 0, none⟩ (.slice na k2.case.mark.length mn7)).setCell ⟨XD, 1, none⟩ (.slice nb k2.case.busy.length bn7)).setCell ⟨XD, 2, none⟩ (.slice nc k2.items.length jn7))
              clear hne7
              refine next15 (by kernel_rfl) (fun K hK => ?_)
              go_simp
              (refine hK.out _ _ ?_ (fun hHeld => ?_); · (exact ⟨cell_gr HC0.out (GF), cell_gr HC1.out (GF)⟩))
              clear hK K
              try simp only [Act.put, List.setIfInBounds_toArray, List.set_cons_zero, List.set_cons_succ]
              (refine hold16 (v := ?_) (by kernel_rfl) (by kernel_rfl) (by kernel_rfl) (fun _ _ _ h => h) (by rfl) (fun w' hSw => ?_) (by assumption) ?_; rotate_left 1; · ((try dsimp only at hSw); (try go_simp); (try (with_reducible rfl))); (try simp only [Act.put, List.setIfInBounds_toArray, List.set_cons_zero, List.set_cons_succ]))
              (refine hold17 (v := ?_) (by kernel_rfl) (by kernel_rfl) (by kernel_rfl) (fun _ _ _ h => h) (by rfl) (fun w' hSw => ?_) (by assumption) ?_; rotate_left 1; · ((try dsimp only at hSw); (try go_simp); (try (with_reducible rfl))); (try simp only [Act.put, List.setIfInBounds_toArray, List.set_cons_zero, List.set_cons_succ]))
              refine wpAnyH_done (by kernel_rfl) ?_ _
              clear hHeld
              go_wp2_with fail
              go_meet
              case rel => exact ⟨_, _, _, _, _, _, _, rfl, rfl, bs2, DF, GF⟩
          · skip
            go_simp
            (refine hK.out _ _ ?_ (fun hHeld => ?_); · (exact ⟨cell_gr HC0.out (G.alloc _), cell_gr HC1.out (G.alloc _)⟩))
            clear hK K
            try simp only [Act.put, List.setIfInBounds_toArray, List.set_cons_zero, List.set_cons_succ]
            obtain ⟨XD, hXD⟩ : ∃ X, X = y1.heap.size := ⟨_, rfl⟩
            obtain ⟨y11, hw⟩ : ∃ y, y = y1.alloc (.cells #[.slice none 0 0, .slice none 0 0, .slice none 0 0] 66) := ⟨_, rfl⟩
            have gA : Gr y1 y11 := by rw [hw]; exact (Gr.refl _).alloc _
            have bD : Blk y11 XD 66 #[.slice none 0 0, .slice none 0 0, .slice none 0 0] := by rw [hw]; exact Blk.new hXD.symm
            have HXD := Lib.hid (show w0.heap.size ≤ XD from hXD ▸ G.le)
            have HND := Lib.hid (show some XD ≠ (Value.slice aC n cC).ownBlock from fun e => by have h1 := (oC.lt e.symm).2; omega)
            replace G := G.trans gA
            replace oC := oC.gr gA
            rw [← hw, ← hXD]
            clear hw hXD gA
            refine next7 (by kernel_rfl) (fun K hK => ?_)
            go_simp
            (refine hK.out _ _ ?_ (fun hHeld => ?_); · (exact ⟨cell_gr HC0.out (G.alloc _), cell_gr HC1.out (G.alloc _)⟩))
            clear hK K
            try simp only [Act.put, List.setIfInBounds_toArray, List.set_cons_zero, List.set_cons_succ]
            obtain ⟨XL, hXL⟩ : ∃ X, X = y11.heap.size := ⟨_, rfl⟩
            obtain ⟨y12, hw⟩ : ∃ y, y = y11.alloc (.cells #[.int .i64 3, .int .i64 keep, .int .i64 0, .int .i64 0, .int .i64 0, .int .i64 0, .int .i64 0] 61) := ⟨_, rfl⟩
            have gA : Gr y11 y12 := by rw [hw]; exact (Gr.refl _).alloc _
            have hL : ∀ (j : Nat) (u : Value), ([.int .i64 3, .int .i64 keep, .int .i64 0, .int .i64 0, .int .i64 0, .int .i64 0, .int .i64 0] : List Value)[j]? = some u → y12.cell? ((⟨XL, 0, none⟩ : Addr).add j) = some u := by rw [hw]; exact lit_cellsH hXL.symm
            replace G := G.trans gA
            replace oC := oC.gr gA
            replace bD := bD.gr gA
            rw [← hw, ← hXL]
            clear hw hXL gA
            refine next8 (by kernel_rfl) (fun K hK => ?_)
            refine step_app_one hopTy ?_ (.tmp 57) (.tmp 60) ?_ w0.heap.size NoB (.slice aC n cC) (keptAll before after) ⟨XL, 0, none⟩ ⟨3, keep, zeroOp⟩ [.int .i64 3, .int .i64 keep, .int .i64 0, .int .i64 0, .int .i64 0, .int .i64 0, .int .i64 0] ?_ ?_ ?_ ?_ ?_ ?_ ?_ ?_ ?_
            · rfl
            · rfl
            · rfl
            · rfl
            · exact oC
            · exact hL
            · exact On.true (p := [Value.int .i64 3, .int .i64 keep, .int .i64 0, .int .i64 0, .int .i64 0, .int .i64 0, .int .i64 0] = hopCells ⟨3, keep, zeroOp⟩ ∧ hopI ⟨3, keep, zeroOp⟩) ⟨rfl, (by decide : I64 3), hke, zero_opI⟩
            · exact hn3
            · exact hn4
            · exact G.le
            intro g6 cp6 y13 o6 hgs6 hgb6 hat6 hlt6
            replace G : Gr w0 y13 := hgs6 w0 (Nat.le_refl _) G
            replace bD := bD.grown hgb6 HND.out
            clear hgs6 hgb6 hat6 hlt6 oC hL
            (refine hK.out _ _ ?_ (fun hHeld => ?_); · (exact ⟨cell_gr HC0.out (G), cell_gr HC1.out (G)⟩))
            clear hK K
            try simp only [Act.put, List.setIfInBounds_toArray, List.set_cons_zero, List.set_cons_succ]
            refine next9 (by kernel_rfl) (fun K hK => ?_)
            go_simp
            go_at_call 31
            have KO := OwnR.rd o6
            clear o6
            (with_reducible refine (HallPlay2_calls _ _ _ N i roles (keptAll before after ++ [⟨3, keep, zeroOp⟩]) _ (HN.out.gr ?_) hi (HR.out.gr ?_) (KO.gr ?_) hn5).mono ?_)
            · exact G
            · exact G
            · exact Gr.refl _
            rw [HP2.out]; rintro _ y14 ⟨v7, u7, rfl, i7, j7, g7⟩
            simp only [] at i7 j7
            obtain ⟨na, mn7, nb, bn7, nc, jn7, rfl, -⟩ := i7.now.open_
            obtain ⟨la7, lc7, rfl, -, -⟩ := j7.now.len
            have HEN := bD.lt
            clear KO
            replace G := G.trans g7
            replace bD := bD.gr g7
            (refine hK.out _ _ ?_ (fun hHeld => ?_); · (exact ⟨cell_gr HC0.out (G), cell_gr HC1.out (G)⟩))
            clear hK K
            try simp only [Act.put, List.setIfInBounds_toArray, List.set_cons_zero, List.set_cons_succ]
            (refine hold10 (v := ?_) (by kernel_rfl) (by kernel_rfl) (by kernel_rfl) (fun _ _ _ h => h) (by rfl) (fun w' hSw => ?_) (by assumption) ?_; rotate_left 1; · ((try dsimp only at hSw); (try go_simp); (try (with_reducible rfl))); (try simp only [Act.put, List.setIfInBounds_toArray, List.set_cons_zero, List.set_cons_succ]))
            (refine hold11 (v := ?_) (by kernel_rfl) (by kernel_rfl) (by kernel_rfl) (fun _ _ _ h => h) (by rfl) (fun w' hSw => ?_) (by assumption) ?_; rotate_left 1; · ((try dsimp only at hSw); (try go_simp); (try (with_reducible rfl))); (try simp only [Act.put, List.setIfInBounds_toArray, List.set_cons_zero, List.set_cons_succ]))
            (refine hold12 (v := ?_) (by kernel_rfl) (by kernel_rfl) (by kernel_rfl) (fun _ _ _ h => h) (by rfl) (fun w' hSw => ?_) (by assumption) ?_; rotate_left 1; · ((try dsimp only at hSw); (try go_simp); (try (with_reducible rfl))); (try simp only [Act.put, List.setIfInBounds_toArray, List.set_cons_zero, List.set_cons_succ]))
            (refine hold13 (v := ?_) (by kernel_rfl) (by kernel_rfl) (by kernel_rfl) (fun _ _ _ h => h) (by rfl) (fun w' hSw => ?_) (by assumption) ?_; rotate_left 1; · ((try dsimp only at hSw); (try go_simp); (try (with_reducible rfl))); (try simp only [Act.put, List.setIfInBounds_toArray, List.set_cons_zero, List.set_cons_succ]))
            have S0 := bD.cell (i := 0) (v := .slice none 0 0) rfl
            have SF0 := bD.frozen 0
            have bs0 := bD.set 0 (.slice na k2.case.mark.length mn7)
            have S1 := bs0.cell (i := 1) (v := .slice none 0 0) rfl
            have SF1 := bs0.frozen 1
            have bs1 := bs0.set 1 (.slice nb k2.case.busy.length bn7)
            have S2 := bs1.cell (i := 2) (v := .slice none 0 0) rfl
            have SF2 := bs1.frozen 2
            have bs2 := bs1.set 2 (.slice nc k2.items.length jn7)
            have GF : Gr w0 (((y14.setCell ⟨XD, 0, none⟩ (.slice na k2.case.mark.length mn7)).setCell ⟨XD, 1, none⟩ (.slice nb k2.case.busy.length bn7)).setCell ⟨XD, 2, none⟩ (.slice nc k2.items.length jn7)) := ((G.setCell HXD.out _).setCell HXD.out _).setCell HXD.out _
            have hne7 : ∀ j : Nat, ¬ ((fun b => y13.heap.size ≤ b) (⟨XD, j, none⟩ : Addr).block) := fun j h => by simp at h; omega
            have DF := (i7.kp (((set_kp (a := ⟨XD, 0, none⟩) (hne7 0) _).trans (set_kp (a := ⟨XD, 1, none⟩) (hne7 1) _)).trans (set_kp (a := ⟨XD, 2, none⟩) (hne7 2) _))).now (w := ((y14.setCell ⟨XD, 0, none⟩ (.slice na k2.case.mark.length mn7)).setCell ⟨XD, 1, none⟩ (.slice nb k2.case.busy.length bn7)).setCell ⟨XD, 2, none⟩ (.slice nc k2.items.length jn7))
            clear hne7
            refine next15 (by kernel_rfl) (fun K hK => ?_)
            go_simp
            (refine hK.out _ _ ?_ (fun hHeld => ?_); · (exact ⟨cell_gr HC0.out (GF), cell_gr HC1.out (GF)⟩))
            clear hK K
            try simp only [Act.put, List.setIfInBounds_toArray, List.set_cons_zero, List.set_cons_succ]
            (refine hold16 (v := ?_) (by kernel_rfl) (by kernel_rfl) (by kernel_rfl) (fun _ _ _ h => h) (by rfl) (fun w' hSw => ?_) (by assumption) ?_; rotate_left 1; · ((try dsimp only at hSw); (try go_simp); (try (with_reducible rfl))); (try simp only [Act.put, List.setIfInBounds_toArray, List.set_cons_zero, List.set_cons_succ]))
            (refine hold17 (v := ?_) (by kernel_rfl) (by kernel_rfl) (by kernel_rfl) (fun _ _ _ h => h) (by rfl) (fun w' hSw => ?_) (by assumption) ?_; rotate_left 1; · ((try dsimp only at hSw); (try go_simp); (try (with_reducible rfl))); (try simp only [Act.put, List.setIfInBounds_toArray, List.set_cons_zero, List.set_cons_succ]))
            refine wpAnyH_done (by kernel_rfl) ?_ _
            clear hHeld
            go_wp2_with fail
            go_meet
            case rel => exact ⟨_, _, _, _, _, _, _, rfl, rfl, bs2, DF, GF⟩
        · skip
          go_simp
          (refine hK.out _ _ ?_ (fun hHeld => ?_); · (exact ⟨cell_gr HC0.out (G.alloc _), cell_gr HC1.out (G.alloc _)⟩))
          clear hK K
          try simp only [Act.put, List.setIfInBounds_toArray, List.set_cons_zero, List.set_cons_succ]
          obtain ⟨XL, hXL⟩ : ∃ X, X = y0.heap.size := ⟨_, rfl⟩
          obtain ⟨y15, hw⟩ : ∃ y, y = y0.alloc (.cells #[.int .i64 3, .int .i64 keep, .int .i64 0, .int .i64 0, .int .i64 0, .int .i64 0, .int .i64 0] 61) := ⟨_, rfl⟩
          have gA : Gr y0 y15 := by rw [hw]; exact (Gr.refl _).alloc _
          have hL : ∀ (j : Nat) (u : Value), ([.int .i64 3, .int .i64 keep, .int .i64 0, .int .i64 0, .int .i64 0, .int .i64 0, .int .i64 0] : List Value)[j]? = some u → y15.cell? ((⟨XL, 0, none⟩ : Addr).add j) = some u := by rw [hw]; exact lit_cellsH hXL.symm
          replace G := G.trans gA
          rw [← hw, ← hXL]
          clear hw hXL gA
          refine next4p14 (by kernel_rfl) (fun K hK => ?_) (fun K hK => ?_)
          · skip
            go_simp
            go_at_call 30
            (with_reducible refine (CloneHop_calls _ (keptAll before after) _ (HRA.out.gr ?_) hnL).mono ?_)
            · exact G
            rintro _ y16 ⟨vC, rfl, oC0, gC⟩
            have oC := oC0.low G.le
            obtain ⟨aC, cC, hvC, -, -⟩ := oC.len
            rw [← HNL.out] at hvC
            subst hvC
            clear oC0
            replace G := G.trans gC
            replace hL : ∀ (j : Nat) (u : Value), ([.int .i64 3, .int .i64 keep, .int .i64 0, .int .i64 0, .int .i64 0, .int .i64 0, .int .i64 0] : List Value)[j]? = some u → y16.cell? ((⟨XL, 0, none⟩ : Addr).add j) = some u := fun j u h => cell_gr (hL j u h) gC
            (refine hK.out _ _ ?_ (fun hHeld => ?_); · (exact ⟨cell_gr HC0.out (G), cell_gr HC1.out (G)⟩))
            clear hK K
            try simp only [Act.put, List.setIfInBounds_toArray, List.set_cons_zero, List.set_cons_succ]
            refine next8p14 (by kernel_rfl) (fun K hK => ?_) (fun K hK => ?_)
            · skip
              refine step_app_one hopTy ?_ (.tmp 57) (.tmp 60) ?_ w0.heap.size NoB (.slice aC n cC) (keptAll before after) ⟨XL, 0, none⟩ ⟨3, keep, zeroOp⟩ [.int .i64 3, .int .i64 keep, .int .i64 0, .int .i64 0, .int .i64 0, .int .i64 0, .int .i64 0] ?_ ?_ ?_ ?_ ?_ ?_ ?_ ?_ ?_
              · rfl
              · rfl
              · rfl
              · rfl
              · exact oC
              · exact hL
              · exact On.true (p := [Value.int .i64 3, .int .i64 keep, .int .i64 0, .int .i64 0, .int .i64 0, .int .i64 0, .int .i64 0] = hopCells ⟨3, keep, zeroOp⟩ ∧ hopI ⟨3, keep, zeroOp⟩) ⟨rfl, (by decide : I64 3), hke, zero_opI⟩
              · exact hn3
              · exact hn4
              · exact G.le
              intro g6 cp6 y17 o6 hgs6 hgb6 hat6 hlt6
              replace G : Gr w0 y17 := hgs6 w0 (Nat.le_refl _) G
              clear hgs6 hgb6 hat6 hlt6 oC hL
              (refine hK.out _ _ ?_ (fun hHeld => ?_); · (exact ⟨cell_gr HC0.out (G), cell_gr HC1.out (G)⟩))
              clear hK K
              try simp only [Act.put, List.setIfInBounds_toArray, List.set_cons_zero, List.set_cons_succ]
              refine next9p14 (by kernel_rfl) (fun K hK => ?_) (fun K hK => ?_)
              · skip
                go_simp
                go_at_call 31
                have KO := OwnR.rd o6
                clear o6
                (with_reducible refine (HallPlay2_calls _ _ _ N i roles (keptAll before after ++ [⟨3, keep, zeroOp⟩]) _ (HN.out.gr ?_) hi (HR.out.gr ?_) (KO.gr ?_) hn5).mono ?_)
                · exact G
                · exact G
                · exact Gr.refl _
                rw [HP2.out]; rintro _ y18 ⟨v7, u7, rfl, i7, j7, g7⟩
                simp only [] at i7 j7
                obtain ⟨na, mn7, nb, bn7, nc, jn7, rfl, -⟩ := i7.now.open_
                obtain ⟨la7, lc7, rfl, -, -⟩ := j7.now.len
                clear KO
                replace G := G.trans g7
                (refine hK.out _ _ ?_ (fun hHeld => ?_); · (exact ⟨cell_gr HC0.out (G), cell_gr HC1.out (G)⟩))
                clear hK K
                try simp only [Act.put, List.setIfInBounds_toArray, List.set_cons_zero, List.set_cons_succ]
                (refine hold10 (v := ?_) (by kernel_rfl) (by kernel_rfl) (by kernel_rfl) (fun _ _ _ h => h) (by rfl) (fun w' hSw => ?_) (by assumption) ?_; rotate_left 1; · ((try dsimp only at hSw); (try go_simp); (try (with_reducible rfl))); (try simp only [Act.put, List.setIfInBounds_toArray, List.set_cons_zero, List.set_cons_succ]))
                (refine hold11 (v := ?_) (by kernel_rfl) (by kernel_rfl) (by kernel_rfl) (fun _ _ _ h => h) (by rfl) (fun w' hSw => ?_) (by assumption) ?_; rotate_left 1; · ((try dsimp only at hSw); (try go_simp); (try (with_reducible rfl))); (try simp only [Act.put, List.setIfInBounds_toArray, List.set_cons_zero, List.set_cons_succ]))
                (refine hold12 (v := ?_) (by kernel_rfl) (by kernel_rfl) (by kernel_rfl) (fun _ _ _ h => h) (by rfl) (fun w' hSw => ?_) (by assumption) ?_; rotate_left 1; · ((try dsimp only at hSw); (try go_simp); (try (with_reducible rfl))); (try simp only [Act.put, List.setIfInBounds_toArray, List.set_cons_zero, List.set_cons_succ]))
                (refine hold13 (v := ?_) (by kernel_rfl) (by kernel_rfl) (by kernel_rfl) (fun _ _ _ h => h) (by rfl) (fun w' hSw => ?_) (by assumption) ?_; rotate_left 1; · ((try dsimp only at hSw); (try go_simp); (try (with_reducible rfl))); (try simp only [Act.put, List.setIfInBounds_toArray, List.set_cons_zero, List.set_cons_succ]))
                refine next14 (by kernel_rfl) (fun K hK => ?_)
                go_simp
                (refine hK.out _ _ ?_ (fun hHeld => ?_); · (exact ⟨cell_gr HC0.out (G.alloc _), cell_gr HC1.out (G.alloc _)⟩))
                clear hK K
                try simp only [Act.put, List.setIfInBounds_toArray, List.set_cons_zero, List.set_cons_succ]
                obtain ⟨XD, hXD⟩ : ∃ X, X = y18.heap.size := ⟨_, rfl⟩
                obtain ⟨y19, hw⟩ : ∃ y, y = y18.alloc (.cells #[.slice none 0 0, .slice none 0 0, .slice none 0 0] 66) := ⟨_, rfl⟩
                have gA : Gr y18 y19 := by rw [hw]; exact (Gr.refl _).alloc _
                have bD : Blk y19 XD 66 #[.slice none 0 0, .slice none 0 0, .slice none 0 0] := by rw [hw]; exact Blk.new hXD.symm
                have HXD := Lib.hid (show w0.heap.size ≤ XD from hXD ▸ G.le)
                have HX7 := Lib.hid (show y18.heap.size ≤ XD from Nat.le_of_eq hXD.symm)
                have g78 := gA
                replace G := G.trans gA
                rw [← hw, ← hXD]
                clear hw hXD gA
                have S0 := bD.cell (i := 0) (v := .slice none 0 0) rfl
                have SF0 := bD.frozen 0
                have bs0 := bD.set 0 (.slice na k2.case.mark.length mn7)
                have S1 := bs0.cell (i := 1) (v := .slice none 0 0) rfl
                have SF1 := bs0.frozen 1
                have bs1 := bs0.set 1 (.slice nb k2.case.busy.length bn7)
                have S2 := bs1.cell (i := 2) (v := .slice none 0 0) rfl
                have SF2 := bs1.frozen 2
                have bs2 := bs1.set 2 (.slice nc k2.items.length jn7)
                have GF : Gr w0 (((y19.setCell ⟨XD, 0, none⟩ (.slice na k2.case.mark.length mn7)).setCell ⟨XD, 1, none⟩ (.slice nb k2.case.busy.length bn7)).setCell ⟨XD, 2, none⟩ (.slice nc k2.items.length jn7)) := ((G.setCell HXD.out _).setCell HXD.out _).setCell HXD.out _
                have DF := (i7.gr (((g78.setCell HX7.out _).setCell HX7.out _).setCell HX7.out _)).now (w := ((y19.setCell ⟨XD, 0, none⟩ (.slice na k2.case.mark.length mn7)).setCell ⟨XD, 1, none⟩ (.slice nb k2.case.busy.length bn7)).setCell ⟨XD, 2, none⟩ (.slice nc k2.items.length jn7))
                refine next15 (by kernel_rfl) (fun K hK => ?_)
                go_simp
                (refine hK.out _ _ ?_ (fun hHeld => ?_); · (exact ⟨cell_gr HC0.out (GF), cell_gr HC1.out (GF)⟩))
                clear hK K
                try simp only [Act.put, List.setIfInBounds_toArray, List.set_cons_zero, List.set_cons_succ]
                (refine hold16 (v := ?_) (by kernel_rfl) (by kernel_rfl) (by kernel_rfl) (fun _ _ _ h => h) (by rfl) (fun w' hSw => ?_) (by assumption) ?_; rotate_left 1; · ((try dsimp only at hSw); (try go_simp); (try (with_reducible rfl))); (try simp only [Act.put, List.setIfInBounds_toArray, List.set_cons_zero, List.set_cons_succ]))
                (refine hold17 (v := ?_) (by kernel_rfl) (by kernel_rfl) (by kernel_rfl) (fun _ _ _ h => h) (by rfl) (fun w' hSw => ?_) (by assumption) ?_; rotate_left 1; · ((try dsimp only at hSw); (try go_simp); (try (with_reducible rfl))); (try simp only [Act.put, List.setIfInBounds_toArray, List.set_cons_zero, List.set_cons_succ]))
                refine wpAnyH_done (by kernel_rfl) ?_ _
                clear hHeld
                go_wp2_with fail
                go_meet
                case rel => exact ⟨_, _, _, _, _, _, _, rfl, rfl, bs2, DF, GF⟩
              · skip
                go_simp
                (refine hK.out _ _ ?_ (fun hHeld => ?_); · (exact ⟨cell_gr HC0.out (G.alloc _), cell_gr HC1.out (G.alloc _)⟩))
                clear hK K
                try simp only [Act.put, List.setIfInBounds_toArray, List.set_cons_zero, List.set_cons_succ]
                obtain ⟨XD, hXD⟩ : ∃ X, X = y17.heap.size := ⟨_, rfl⟩
                obtain ⟨y20, hw⟩ : ∃ y, y = y17.alloc (.cells #[.slice none 0 0, .slice none 0 0, .slice none 0 0] 66) := ⟨_, rfl⟩
                have gA : Gr y17 y20 := by rw [hw]; exact (Gr.refl _).alloc _
                have bD : Blk y20 XD 66 #[.slice none 0 0, .slice none 0 0, .slice none 0 0] := by rw [hw]; exact Blk.new hXD.symm
                have HXD := Lib.hid (show w0.heap.size ≤ XD from hXD ▸ G.le)
                replace G := G.trans gA
                replace o6 := o6.gr gA
                rw [← hw, ← hXD]
                clear hw hXD gA
                refine next9 (by kernel_rfl) (fun K hK => ?_)
                go_simp
                go_at_call 31
                have KO := OwnR.rd o6
                clear o6
                (with_reducible refine (HallPlay2_calls _ _ _ N i roles (keptAll before after ++ [⟨3, keep, zeroOp⟩]) _ (HN.out.gr ?_) hi (HR.out.gr ?_) (KO.gr ?_) hn5).mono ?_)
                · exact G
                · exact G
                · exact Gr.refl _
                rw [HP2.out]; rintro _ y21 ⟨v7, u7, rfl, i7, j7, g7⟩
                simp only [] at i7 j7
                obtain ⟨na, mn7, nb, bn7, nc, jn7, rfl, -⟩ := i7.now.open_
                obtain ⟨la7, lc7, rfl, -, -⟩ := j7.now.len
                have HEN := bD.lt
                clear KO
                replace G := G.trans g7
                replace bD := bD.gr g7
                (refine hK.out _ _ ?_ (fun hHeld => ?_); · (exact ⟨cell_gr HC0.out (G), cell_gr HC1.out (G)⟩))
                clear hK K
                try simp only [Act.put, List.setIfInBounds_toArray, List.set_cons_zero, List.set_cons_succ]
                (refine hold10 (v := ?_) (by kernel_rfl) (by kernel_rfl) (by kernel_rfl) (fun _ _ _ h => h) (by rfl) (fun w' hSw => ?_) (by assumption) ?_; rotate_left 1; · ((try dsimp only at hSw); (try go_simp); (try (with_reducible rfl))); (try simp only [Act.put, List.setIfInBounds_toArray, List.set_cons_zero, List.set_cons_succ]))
                (refine hold11 (v := ?_) (by kernel_rfl) (by kernel_rfl) (by kernel_rfl) (fun _ _ _ h => h) (by rfl) (fun w' hSw => ?_) (by assumption) ?_; rotate_left 1; · ((try dsimp only at hSw); (try go_simp); (try (with_reducible rfl))); (try simp only [Act.put, List.setIfInBounds_toArray, List.set_cons_zero, List.set_cons_succ]))
                (refine hold12 (v := ?_) (by kernel_rfl) (by kernel_rfl) (by kernel_rfl) (fun _ _ _ h => h) (by rfl) (fun w' hSw => ?_) (by assumption) ?_; rotate_left 1; · ((try dsimp only at hSw); (try go_simp); (try (with_reducible rfl))); (try simp only [Act.put, List.setIfInBounds_toArray, List.set_cons_zero, List.set_cons_succ]))
                (refine hold13 (v := ?_) (by kernel_rfl) (by kernel_rfl) (by kernel_rfl) (fun _ _ _ h => h) (by rfl) (fun w' hSw => ?_) (by assumption) ?_; rotate_left 1; · ((try dsimp only at hSw); (try go_simp); (try (with_reducible rfl))); (try simp only [Act.put, List.setIfInBounds_toArray, List.set_cons_zero, List.set_cons_succ]))
                have S0 := bD.cell (i := 0) (v := .slice none 0 0) rfl
                have SF0 := bD.frozen 0
                have bs0 := bD.set 0 (.slice na k2.case.mark.length mn7)
                have S1 := bs0.cell (i := 1) (v := .slice none 0 0) rfl
                have SF1 := bs0.frozen 1
                have bs1 := bs0.set 1 (.slice nb k2.case.busy.length bn7)
                have S2 := bs1.cell (i := 2) (v := .slice none 0 0) rfl
                have SF2 := bs1.frozen 2
                have bs2 := bs1.set 2 (.slice nc k2.items.length jn7)
                have GF : Gr w0 (((y21.setCell ⟨XD, 0, none⟩ (.slice na k2.case.mark.length mn7)).setCell ⟨XD, 1, none⟩ (.slice nb k2.case.busy.length bn7)).setCell ⟨XD, 2, none⟩ (.slice nc k2.items.length jn7)) := ((G.setCell HXD.out _).setCell HXD.out _).setCell HXD.out _
                have hne7 : ∀ j : Nat, ¬ ((fun b => y20.heap.size ≤ b) (⟨XD, j, none⟩ : Addr).block) := fun j h => by simp at h; omega
                have DF := (i7.kp (((set_kp (a := ⟨XD, 0, none⟩) (hne7 0) _).trans (set_kp (a := ⟨XD, 1, none⟩) (hne7 1) _)).trans (set_kp (a := ⟨XD, 2, none⟩) (hne7 2) _))).now (w := ((y21.setCell ⟨XD, 0, none⟩ (.slice na k2.case.mark.length mn7)).setCell ⟨XD, 1, none⟩ (.slice nb k2.case.busy.length bn7)).setCell ⟨XD, 2, none⟩ (.slice nc k2.items.length jn7))
                clear hne7
                refine next15 (by kernel_rfl) (fun K hK => ?_)
                go_simp
                (refine hK.out _ _ ?_ (fun hHeld => ?_); · (exact ⟨cell_gr HC0.out (GF), cell_gr HC1.out (GF)⟩))
                clear hK K
                try simp only [Act.put, List.setIfInBounds_toArray, List.set_cons_zero, List.set_cons_succ]
                (refine hold16 (v := ?_) (by kernel_rfl) (by kernel_rfl) (by kernel_rfl) (fun _ _ _ h => h) (by rfl) (fun w' hSw => ?_) (by assumption) ?_; rotate_left 1; · ((try dsimp only at hSw); (try go_simp); (try (with_reducible rfl))); (try simp only [Act.put, List.setIfInBounds_toArray, List.set_cons_zero, List.set_cons_succ]))
                (refine hold17 (v := ?_) (by kernel_rfl) (by kernel_rfl) (by kernel_rfl) (fun _ _ _ h => h) (by rfl) (fun w' hSw => ?_) (by assumption) ?_; rotate_left 1; · ((try dsimp only at hSw); (try go_simp); (try (with_reducible rfl))); (try simp only [Act.put, List.setIfInBounds_toArray, List.set_cons_zero, List.set_cons_succ]))
                refine wpAnyH_done (by kernel_rfl) ?_ _
                clear hHeld
                go_wp2_with fail
                go_meet
                case rel => exact ⟨_, _, _, _, _, _, _, rfl, rfl, bs2, DF, GF⟩
            · skip
              go_simp
              (refine hK.out _ _ ?_ (fun hHeld => ?_); · (exact ⟨cell_gr HC0.out (G.alloc _), cell_gr HC1.out (G.alloc _)⟩))
              clear hK K
              try simp only [Act.put, List.setIfInBounds_toArray, List.set_cons_zero, List.set_cons_succ]
              obtain ⟨XD, hXD⟩ : ∃ X, X = y16.heap.size := ⟨_, rfl⟩
              obtain ⟨y22, hw⟩ : ∃ y, y = y16.alloc (.cells #[.slice none 0 0, .slice none 0 0, .slice none 0 0] 66) := ⟨_, rfl⟩
              have gA : Gr y16 y22 := by rw [hw]; exact (Gr.refl _).alloc _
              have bD : Blk y22 XD 66 #[.slice none 0 0, .slice none 0 0, .slice none 0 0] := by rw [hw]; exact Blk.new hXD.symm
              have HXD := Lib.hid (show w0.heap.size ≤ XD from hXD ▸ G.le)
              have HND := Lib.hid (show some XD ≠ (Value.slice aC n cC).ownBlock from fun e => by have h1 := (oC.lt e.symm).2; omega)
              replace G := G.trans gA
              replace hL : ∀ (j : Nat) (u : Value), ([.int .i64 3, .int .i64 keep, .int .i64 0, .int .i64 0, .int .i64 0, .int .i64 0, .int .i64 0] : List Value)[j]? = some u → y22.cell? ((⟨XL, 0, none⟩ : Addr).add j) = some u := fun j u h => cell_gr (hL j u h) gA
              replace oC := oC.gr gA
              rw [← hw, ← hXD]
              clear hw hXD gA
              refine next8 (by kernel_rfl) (fun K hK => ?_)
              refine step_app_one hopTy ?_ (.tmp 57) (.tmp 60) ?_ w0.heap.size NoB (.slice aC n cC) (keptAll before after) ⟨XL, 0, none⟩ ⟨3, keep, zeroOp⟩ [.int .i64 3, .int .i64 keep, .int .i64 0, .int .i64 0, .int .i64 0, .int .i64 0, .int .i64 0] ?_ ?_ ?_ ?_ ?_ ?_ ?_ ?_ ?_
              · rfl
              · rfl
              · rfl
              · rfl
              · exact oC
              · exact hL
              · exact On.true (p := [Value.int .i64 3, .int .i64 keep, .int .i64 0, .int .i64 0, .int .i64 0, .int .i64 0, .int .i64 0] = hopCells ⟨3, keep, zeroOp⟩ ∧ hopI ⟨3, keep, zeroOp⟩) ⟨rfl, (by decide : I64 3), hke, zero_opI⟩
              · exact hn3
              · exact hn4
              · exact G.le
              intro g6 cp6 y23 o6 hgs6 hgb6 hat6 hlt6
              replace G : Gr w0 y23 := hgs6 w0 (Nat.le_refl _) G
              replace bD := bD.grown hgb6 HND.out
              clear hgs6 hgb6 hat6 hlt6 oC hL
              (refine hK.out _ _ ?_ (fun hHeld => ?_); · (exact ⟨cell_gr HC0.out (G), cell_gr HC1.out (G)⟩))
              clear hK K
              try simp only [Act.put, List.setIfInBounds_toArray, List.set_cons_zero, List.set_cons_succ]
              refine next9 (by kernel_rfl) (fun K hK => ?_)
              go_simp
              go_at_call 31
              have KO := OwnR.rd o6
              clear o6
              (with_reducible refine (HallPlay2_calls _ _ _ N i roles (keptAll before after ++ [⟨3, keep, zeroOp⟩]) _ (HN.out.gr ?_) hi (HR.out.gr ?_) (KO.gr ?_) hn5).mono ?_)
              · exact G
              · exact G
              · exact Gr.refl _
              rw [HP2.out]; rintro _ y24 ⟨v7, u7, rfl, i7, j7, g7⟩
              simp only [] at i7 j7
              obtain ⟨na, mn7, nb, bn7, nc, jn7, rfl, -⟩ := i7.now.open_
              obtain ⟨la7, lc7, rfl, -, -⟩ := j7.now.len
              have HEN := bD.lt
              clear KO
              replace G := G.trans g7
              replace bD := bD.gr g7
              (refine hK.out _ _ ?_ (fun hHeld => ?_); · (exact ⟨cell_gr HC0.out (G), cell_gr HC1.out (G)⟩))
              clear hK K
              try simp only [Act.put, List.setIfInBounds_toArray, List.set_cons_zero, List.set_cons_succ]
              (refine hold10 (v := ?_) (by kernel_rfl) (by kernel_rfl) (by kernel_rfl) (fun _ _ _ h => h) (by rfl) (fun w' hSw => ?_) (by assumption) ?_; rotate_left 1; · ((try dsimp only at hSw); (try go_simp); (try (with_reducible rfl))); (try simp only [Act.put, List.setIfInBounds_toArray, List.set_cons_zero, List.set_cons_succ]))
              (refine hold11 (v := ?_) (by kernel_rfl) (by kernel_rfl) (by kernel_rfl) (fun _ _ _ h => h) (by rfl) (fun w' hSw => ?_) (by assumption) ?_; rotate_left 1; · ((try dsimp only at hSw); (try go_simp); (try (with_reducible rfl))); (try simp only [Act.put, List.setIfInBounds_toArray, List.set_cons_zero, List.set_cons_succ]))
              (refine hold12 (v := ?_) (by kernel_rfl) (by kernel_rfl) (by kernel_rfl) (fun _ _ _ h => h) (by rfl) (fun w' hSw => ?_) (by assumption) ?_; rotate_left 1; · ((try dsimp only at hSw); (try go_simp); (try (with_reducible rfl))); (try simp only [Act.put, List.setIfInBounds_toArray, List.set_cons_zero, List.set_cons_succ]))
              (refine hold13 (v := ?_) (by kernel_rfl) (by kernel_rfl) (by kernel_rfl) (fun _ _ _ h => h) (by rfl) (fun w' hSw => ?_) (by assumption) ?_; rotate_left 1; · ((try dsimp only at hSw); (try go_simp); (try (with_reducible rfl))); (try simp only [Act.put, List.setIfInBounds_toArray, List.set_cons_zero, List.set_cons_succ]))
              have S0 := bD.cell (i := 0) (v := .slice none 0 0) rfl
              have SF0 := bD.frozen 0
              have bs0 := bD.set 0 (.slice na k2.case.mark.length mn7)
              have S1 := bs0.cell (i := 1) (v := .slice none 0 0) rfl
              have SF1 := bs0.frozen 1
              have bs1 := bs0.set 1 (.slice nb k2.case.busy.length bn7)
              have S2 := bs1.cell (i := 2) (v := .slice none 0 0) rfl
              have SF2 := bs1.frozen 2
              have bs2 := bs1.set 2 (.slice nc k2.items.length jn7)
              have GF : Gr w0 (((y24.setCell ⟨XD, 0, none⟩ (.slice na k2.case.mark.length mn7)).setCell ⟨XD, 1, none⟩ (.slice nb k2.case.busy.length bn7)).setCell ⟨XD, 2, none⟩ (.slice nc k2.items.length jn7)) := ((G.setCell HXD.out _).setCell HXD.out _).setCell HXD.out _
              have hne7 : ∀ j : Nat, ¬ ((fun b => y23.heap.size ≤ b) (⟨XD, j, none⟩ : Addr).block) := fun j h => by simp at h; omega
              have DF := (i7.kp (((set_kp (a := ⟨XD, 0, none⟩) (hne7 0) _).trans (set_kp (a := ⟨XD, 1, none⟩) (hne7 1) _)).trans (set_kp (a := ⟨XD, 2, none⟩) (hne7 2) _))).now (w := ((y24.setCell ⟨XD, 0, none⟩ (.slice na k2.case.mark.length mn7)).setCell ⟨XD, 1, none⟩ (.slice nb k2.case.busy.length bn7)).setCell ⟨XD, 2, none⟩ (.slice nc k2.items.length jn7))
              clear hne7
              refine next15 (by kernel_rfl) (fun K hK => ?_)
              go_simp
              (refine hK.out _ _ ?_ (fun hHeld => ?_); · (exact ⟨cell_gr HC0.out (GF), cell_gr HC1.out (GF)⟩))
              clear hK K
              try simp only [Act.put, List.setIfInBounds_toArray, List.set_cons_zero, List.set_cons_succ]
              (refine hold16 (v := ?_) (by kernel_rfl) (by kernel_rfl) (by kernel_rfl) (fun _ _ _ h => h) (by rfl) (fun w' hSw => ?_) (by assumption) ?_; rotate_left 1; · ((try dsimp only at hSw); (try go_simp); (try (with_reducible rfl))); (try simp only [Act.put, List.setIfInBounds_toArray, List.set_cons_zero, List.set_cons_succ]))
              (refine hold17 (v := ?_) (by kernel_rfl) (by kernel_rfl) (by kernel_rfl) (fun _ _ _ h => h) (by rfl) (fun w' hSw => ?_) (by assumption) ?_; rotate_left 1; · ((try dsimp only at hSw); (try go_simp); (try (with_reducible rfl))); (try simp only [Act.put, List.setIfInBounds_toArray, List.set_cons_zero, List.set_cons_succ]))
              refine wpAnyH_done (by kernel_rfl) ?_ _
              clear hHeld
              go_wp2_with fail
              go_meet
              case rel => exact ⟨_, _, _, _, _, _, _, rfl, rfl, bs2, DF, GF⟩
          · skip
            go_simp
            (refine hK.out _ _ ?_ (fun hHeld => ?_); · (exact ⟨cell_gr HC0.out (G.alloc _), cell_gr HC1.out (G.alloc _)⟩))
            clear hK K
            try simp only [Act.put, List.setIfInBounds_toArray, List.set_cons_zero, List.set_cons_succ]
            obtain ⟨XD, hXD⟩ : ∃ X, X = y15.heap.size := ⟨_, rfl⟩
            obtain ⟨y25, hw⟩ : ∃ y, y = y15.alloc (.cells #[.slice none 0 0, .slice none 0 0, .slice none 0 0] 66) := ⟨_, rfl⟩
            have gA : Gr y15 y25 := by rw [hw]; exact (Gr.refl _).alloc _
            have bD : Blk y25 XD 66 #[.slice none 0 0, .slice none 0 0, .slice none 0 0] := by rw [hw]; exact Blk.new hXD.symm
            have HXD := Lib.hid (show w0.heap.size ≤ XD from hXD ▸ G.le)
            replace G := G.trans gA
            replace hL : ∀ (j : Nat) (u : Value), ([.int .i64 3, .int .i64 keep, .int .i64 0, .int .i64 0, .int .i64 0, .int .i64 0, .int .i64 0] : List Value)[j]? = some u → y25.cell? ((⟨XL, 0, none⟩ : Addr).add j) = some u := fun j u h => cell_gr (hL j u h) gA
            rw [← hw, ← hXD]
            clear hw hXD gA
            refine next4 (by kernel_rfl) (fun K hK => ?_)
            go_simp
            go_at_call 30
            (with_reducible refine (CloneHop_calls _ (keptAll before after) _ (HRA.out.gr ?_) hnL).mono ?_)
            · exact G
            rintro _ y26 ⟨vC, rfl, oC0, gC⟩
            have oC := oC0.low G.le
            obtain ⟨aC, cC, hvC, -, -⟩ := oC.len
            rw [← HNL.out] at hvC
            subst hvC
            have HND := Lib.hid (show some XD ≠ (Value.slice aC n cC).ownBlock from fun e => by have h1 := (oC0.lt e.symm).1; have h2 := bD.lt; omega)
            clear oC0
            replace G := G.trans gC
            replace hL : ∀ (j : Nat) (u : Value), ([.int .i64 3, .int .i64 keep, .int .i64 0, .int .i64 0, .int .i64 0, .int .i64 0, .int .i64 0] : List Value)[j]? = some u → y26.cell? ((⟨XL, 0, none⟩ : Addr).add j) = some u := fun j u h => cell_gr (hL j u h) gC
            replace bD := bD.gr gC
            (refine hK.out _ _ ?_ (fun hHeld => ?_); · (exact ⟨cell_gr HC0.out (G), cell_gr HC1.out (G)⟩))
            clear hK K
            try simp only [Act.put, List.setIfInBounds_toArray, List.set_cons_zero, List.set_cons_succ]
            refine next8 (by kernel_rfl) (fun K hK => ?_)
            refine step_app_one hopTy ?_ (.tmp 57) (.tmp 60) ?_ w0.heap.size NoB (.slice aC n cC) (keptAll before after) ⟨XL, 0, none⟩ ⟨3, keep, zeroOp⟩ [.int .i64 3, .int .i64 keep, .int .i64 0, .int .i64 0, .int .i64 0, .int .i64 0, .int .i64 0] ?_ ?_ ?_ ?_ ?_ ?_ ?_ ?_ ?_
            · rfl
            · rfl
            · rfl
            · rfl
            · exact oC
            · exact hL
            · exact On.true (p := [Value.int .i64 3, .int .i64 keep, .int .i64 0, .int .i64 0, .int .i64 0, .int .i64 0, .int .i64 0] = hopCells ⟨3, keep, zeroOp⟩ ∧ hopI ⟨3, keep, zeroOp⟩) ⟨rfl, (by decide : I64 3), hke, zero_opI⟩
            · exact hn3
            · exact hn4
            · exact G.le
            intro g6 cp6 y27 o6 hgs6 hgb6 hat6 hlt6
            replace G : Gr w0 y27 := hgs6 w0 (Nat.le_refl _) G
            replace bD := bD.grown hgb6 HND.out
            clear hgs6 hgb6 hat6 hlt6 oC hL
            (refine hK.out _ _ ?_ (fun hHeld => ?_); · (exact ⟨cell_gr HC0.out (G), cell_gr HC1.out (G)⟩))
            clear hK K
            try simp only [Act.put, List.setIfInBounds_toArray, List.set_cons_zero, List.set_cons_succ]
            refine next9 (by kernel_rfl) (fun K hK => ?_)
            go_simp
            go_at_call 31
            have KO := OwnR.rd o6
            clear o6
            (with_reducible refine (HallPlay2_calls _ _ _ N i roles (keptAll before after ++ [⟨3, keep, zeroOp⟩]) _ (HN.out.gr ?_) hi (HR.out.gr ?_) (KO.gr ?_) hn5).mono ?_)
            · exact G
            · exact G
            · exact Gr.refl _
            rw [HP2.out]; rintro _ y28 ⟨v7, u7, rfl, i7, j7, g7⟩
            simp only [] at i7 j7
            obtain ⟨na, mn7, nb, bn7, nc, jn7, rfl, -⟩ := i7.now.open_
            obtain ⟨la7, lc7, rfl, -, -⟩ := j7.now.len
            have HEN := bD.lt
            clear KO
            replace G := G.trans g7
            replace bD := bD.gr g7
            (refine hK.out _ _ ?_ (fun hHeld => ?_); · (exact ⟨cell_gr HC0.out (G), cell_gr HC1.out (G)⟩))
            clear hK K
            try simp only [Act.put, List.setIfInBounds_toArray, List.set_cons_zero, List.set_cons_succ]
            (refine hold10 (v := ?_) (by kernel_rfl) (by kernel_rfl) (by kernel_rfl) (fun _ _ _ h => h) (by rfl) (fun w' hSw => ?_) (by assumption) ?_; rotate_left 1; · ((try dsimp only at hSw); (try go_simp); (try (with_reducible rfl))); (try simp only [Act.put, List.setIfInBounds_toArray, List.set_cons_zero, List.set_cons_succ]))
            (refine hold11 (v := ?_) (by kernel_rfl) (by kernel_rfl) (by kernel_rfl) (fun _ _ _ h => h) (by rfl) (fun w' hSw => ?_) (by assumption) ?_; rotate_left 1; · ((try dsimp only at hSw); (try go_simp); (try (with_reducible rfl))); (try simp only [Act.put, List.setIfInBounds_toArray, List.set_cons_zero, List.set_cons_succ]))
            (refine hold12 (v := ?_) (by kernel_rfl) (by kernel_rfl) (by kernel_rfl) (fun _ _ _ h => h) (by rfl) (fun w' hSw => ?_) (by assumption) ?_; rotate_left 1; · ((try dsimp only at hSw); (try go_simp); (try (with_reducible rfl))); (try simp only [Act.put, List.setIfInBounds_toArray, List.set_cons_zero, List.set_cons_succ]))
            (refine hold13 (v := ?_) (by kernel_rfl) (by kernel_rfl) (by kernel_rfl) (fun _ _ _ h => h) (by rfl) (fun w' hSw => ?_) (by assumption) ?_; rotate_left 1; · ((try dsimp only at hSw); (try go_simp); (try (with_reducible rfl))); (try simp only [Act.put, List.setIfInBounds_toArray, List.set_cons_zero, List.set_cons_succ]))
            have S0 := bD.cell (i := 0) (v := .slice none 0 0) rfl
            have SF0 := bD.frozen 0
            have bs0 := bD.set 0 (.slice na k2.case.mark.length mn7)
            have S1 := bs0.cell (i := 1) (v := .slice none 0 0) rfl
            have SF1 := bs0.frozen 1
            have bs1 := bs0.set 1 (.slice nb k2.case.busy.length bn7)
            have S2 := bs1.cell (i := 2) (v := .slice none 0 0) rfl
            have SF2 := bs1.frozen 2
            have bs2 := bs1.set 2 (.slice nc k2.items.length jn7)
            have GF : Gr w0 (((y28.setCell ⟨XD, 0, none⟩ (.slice na k2.case.mark.length mn7)).setCell ⟨XD, 1, none⟩ (.slice nb k2.case.busy.length bn7)).setCell ⟨XD, 2, none⟩ (.slice nc k2.items.length jn7)) := ((G.setCell HXD.out _).setCell HXD.out _).setCell HXD.out _
            have hne7 : ∀ j : Nat, ¬ ((fun b => y27.heap.size ≤ b) (⟨XD, j, none⟩ : Addr).block) := fun j h => by simp at h; omega
            have DF := (i7.kp (((set_kp (a := ⟨XD, 0, none⟩) (hne7 0) _).trans (set_kp (a := ⟨XD, 1, none⟩) (hne7 1) _)).trans (set_kp (a := ⟨XD, 2, none⟩) (hne7 2) _))).now (w := ((y28.setCell ⟨XD, 0, none⟩ (.slice na k2.case.mark.length mn7)).setCell ⟨XD, 1, none⟩ (.slice nb k2.case.busy.length bn7)).setCell ⟨XD, 2, none⟩ (.slice nc k2.items.length jn7))
            clear hne7
            refine next15 (by kernel_rfl) (fun K hK => ?_)
            go_simp
            (refine hK.out _ _ ?_ (fun hHeld => ?_); · (exact ⟨cell_gr HC0.out (GF), cell_gr HC1.out (GF)⟩))
            clear hK K
            try simp only [Act.put, List.setIfInBounds_toArray, List.set_cons_zero, List.set_cons_succ]
            (refine hold16 (v := ?_) (by kernel_rfl) (by kernel_rfl) (by kernel_rfl) (fun _ _ _ h => h) (by rfl) (fun w' hSw => ?_) (by assumption) ?_; rotate_left 1; · ((try dsimp only at hSw); (try go_simp); (try (with_reducible rfl))); (try simp only [Act.put, List.setIfInBounds_toArray, List.set_cons_zero, List.set_cons_succ]))
            (refine hold17 (v := ?_) (by kernel_rfl) (by kernel_rfl) (by kernel_rfl) (fun _ _ _ h => h) (by rfl) (fun w' hSw => ?_) (by assumption) ?_; rotate_left 1; · ((try dsimp only at hSw); (try go_simp); (try (with_reducible rfl))); (try simp only [Act.put, List.setIfInBounds_toArray, List.set_cons_zero, List.set_cons_succ]))
            refine wpAnyH_done (by kernel_rfl) ?_ _
            clear hHeld
            go_wp2_with fail
            go_meet
            case rel => exact ⟨_, _, _, _, _, _, _, rfl, rfl, bs2, DF, GF⟩
        · skip
          go_simp
          (refine hK.out _ _ ?_ (fun hHeld => ?_); · (exact ⟨cell_gr HC0.out (G.alloc _), cell_gr HC1.out (G.alloc _)⟩))
          clear hK K
          try simp only [Act.put, List.setIfInBounds_toArray, List.set_cons_zero, List.set_cons_succ]
          obtain ⟨XD, hXD⟩ : ∃ X, X = y0.heap.size := ⟨_, rfl⟩
          obtain ⟨y29, hw⟩ : ∃ y, y = y0.alloc (.cells #[.slice none 0 0, .slice none 0 0, .slice none 0 0] 66) := ⟨_, rfl⟩
          have gA : Gr y0 y29 := by rw [hw]; exact (Gr.refl _).alloc _
          have bD : Blk y29 XD 66 #[.slice none 0 0, .slice none 0 0, .slice none 0 0] := by rw [hw]; exact Blk.new hXD.symm
          have HXD := Lib.hid (show w0.heap.size ≤ XD from hXD ▸ G.le)
          replace G := G.trans gA
          rw [← hw, ← hXD]
          clear hw hXD gA
          refine next4p7 (by kernel_rfl) (fun K hK => ?_) (fun K hK => ?_)
          · skip
            go_simp
            go_at_call 30
            (with_reducible refine (CloneHop_calls _ (keptAll before after) _ (HRA.out.gr ?_) hnL).mono ?_)
            · exact G
            rintro _ y30 ⟨vC, rfl, oC0, gC⟩
            have oC := oC0.low G.le
            obtain ⟨aC, cC, hvC, -, -⟩ := oC.len
            rw [← HNL.out] at hvC
            subst hvC
            have HND := Lib.hid (show some XD ≠ (Value.slice aC n cC).ownBlock from fun e => by have h1 := (oC0.lt e.symm).1; have h2 := bD.lt; omega)
            clear oC0
            replace G := G.trans gC
            replace bD := bD.gr gC
            (refine hK.out _ _ ?_ (fun hHeld => ?_); · (exact ⟨cell_gr HC0.out (G), cell_gr HC1.out (G)⟩))
            clear hK K
            try simp only [Act.put, List.setIfInBounds_toArray, List.set_cons_zero, List.set_cons_succ]
            refine next7 (by kernel_rfl) (fun K hK => ?_)
            go_simp
            (refine hK.out _ _ ?_ (fun hHeld => ?_); · (exact ⟨cell_gr HC0.out (G.alloc _), cell_gr HC1.out (G.alloc _)⟩))
            clear hK K
            try simp only [Act.put, List.setIfInBounds_toArray, List.set_cons_zero, List.set_cons_succ]
            obtain ⟨XL, hXL⟩ : ∃ X, X = y30.heap.size := ⟨_, rfl⟩
            obtain ⟨y31, hw⟩ : ∃ y, y = y30.alloc (.cells #[.int .i64 3, .int .i64 keep, .int .i64 0, .int .i64 0, .int .i64 0, .int .i64 0, .int .i64 0] 61) := ⟨_, rfl⟩
            have gA : Gr y30 y31 := by rw [hw]; exact (Gr.refl _).alloc _
            have hL : ∀ (j : Nat) (u : Value), ([.int .i64 3, .int .i64 keep, .int .i64 0, .int .i64 0, .int .i64 0, .int .i64 0, .int .i64 0] : List Value)[j]? = some u → y31.cell? ((⟨XL, 0, none⟩ : Addr).add j) = some u := by rw [hw]; exact lit_cellsH hXL.symm
            replace G := G.trans gA
            replace bD := bD.gr gA
            replace oC := oC.gr gA
            rw [← hw, ← hXL]
            clear hw hXL gA
            refine next8 (by kernel_rfl) (fun K hK => ?_)
            refine step_app_one hopTy ?_ (.tmp 57) (.tmp 60) ?_ w0.heap.size NoB (.slice aC n cC) (keptAll before after) ⟨XL, 0, none⟩ ⟨3, keep, zeroOp⟩ [.int .i64 3, .int .i64 keep, .int .i64 0, .int .i64 0, .int .i64 0, .int .i64 0, .int .i64 0] ?_ ?_ ?_ ?_ ?_ ?_ ?_ ?_ ?_
            · rfl
            · rfl
            · rfl
            · rfl
            · exact oC
            · exact hL
            · exact On.true (p := [Value.int .i64 3, .int .i64 keep, .int .i64 0, .int .i64 0, .int .i64 0, .int .i64 0, .int .i64 0] = hopCells ⟨3, keep, zeroOp⟩ ∧ hopI ⟨3, keep, zeroOp⟩) ⟨rfl, (by decide : I64 3), hke, zero_opI⟩
            · exact hn3
            · exact hn4
            · exact G.le
            intro g6 cp6 y32 o6 hgs6 hgb6 hat6 hlt6
            replace G : Gr w0 y32 := hgs6 w0 (Nat.le_refl _) G
            replace bD := bD.grown hgb6 HND.out
            clear hgs6 hgb6 hat6 hlt6 oC hL
            (refine hK.out _ _ ?_ (fun hHeld => ?_); · (exact ⟨cell_gr HC0.out (G), cell_gr HC1.out (G)⟩))
            clear hK K
            try simp only [Act.put, List.setIfInBounds_toArray, List.set_cons_zero, List.set_cons_succ]
            refine next9 (by kernel_rfl) (fun K hK => ?_)
            go_simp
            go_at_call 31
            have KO := OwnR.rd o6
            clear o6
            (with_reducible refine (HallPlay2_calls _ _ _ N i roles (keptAll before after ++ [⟨3, keep, zeroOp⟩]) _ (HN.out.gr ?_) hi (HR.out.gr ?_) (KO.gr ?_) hn5).mono ?_)
            · exact G
            · exact G
            · exact Gr.refl _
            rw [HP2.out]; rintro _ y33 ⟨v7, u7, rfl, i7, j7, g7⟩
            simp only [] at i7 j7
            obtain ⟨na, mn7, nb, bn7, nc, jn7, rfl, -⟩ := i7.now.open_
            obtain ⟨la7, lc7, rfl, -, -⟩ := j7.now.len
            have HEN := bD.lt
            clear KO
            replace G := G.trans g7
            replace bD := bD.gr g7
            (refine hK.out _ _ ?_ (fun hHeld => ?_); · (exact ⟨cell_gr HC0.out (G), cell_gr HC1.out (G)⟩))
            clear hK K
            try simp only [Act.put, List.setIfInBounds_toArray, List.set_cons_zero, List.set_cons_succ]
            (refine hold10 (v := ?_) (by kernel_rfl) (by kernel_rfl) (by kernel_rfl) (fun _ _ _ h => h) (by rfl) (fun w' hSw => ?_) (by assumption) ?_; rotate_left 1; · ((try dsimp only at hSw); (try go_simp); (try (with_reducible rfl))); (try simp only [Act.put, List.setIfInBounds_toArray, List.set_cons_zero, List.set_cons_succ]))
            (refine hold11 (v := ?_) (by kernel_rfl) (by kernel_rfl) (by kernel_rfl) (fun _ _ _ h => h) (by rfl) (fun w' hSw => ?_) (by assumption) ?_; rotate_left 1; · ((try dsimp only at hSw); (try go_simp); (try (with_reducible rfl))); (try simp only [Act.put, List.setIfInBounds_toArray, List.set_cons_zero, List.set_cons_succ]))
            (refine hold12 (v := ?_) (by kernel_rfl) (by kernel_rfl) (by kernel_rfl) (fun _ _ _ h => h) (by rfl) (fun w' hSw => ?_) (by assumption) ?_; rotate_left 1; · ((try dsimp only at hSw); (try go_simp); (try (with_reducible rfl))); (try simp only [Act.put, List.setIfInBounds_toArray, List.set_cons_zero, List.set_cons_succ]))
            (refine hold13 (v := ?_) (by kernel_rfl) (by kernel_rfl) (by kernel_rfl) (fun _ _ _ h => h) (by rfl) (fun w' hSw => ?_) (by assumption) ?_; rotate_left 1; · ((try dsimp only at hSw); (try go_simp); (try (with_reducible rfl))); (try simp only [Act.put, List.setIfInBounds_toArray, List.set_cons_zero, List.set_cons_succ]))
            have S0 := bD.cell (i := 0) (v := .slice none 0 0) rfl
            have SF0 := bD.frozen 0
            have bs0 := bD.set 0 (.slice na k2.case.mark.length mn7)
            have S1 := bs0.cell (i := 1) (v := .slice none 0 0) rfl
            have SF1 := bs0.frozen 1
            have bs1 := bs0.set 1 (.slice nb k2.case.busy.length bn7)
            have S2 := bs1.cell (i := 2) (v := .slice none 0 0) rfl
            have SF2 := bs1.frozen 2
            have bs2 := bs1.set 2 (.slice nc k2.items.length jn7)
            have GF : Gr w0 (((y33.setCell ⟨XD, 0, none⟩ (.slice na k2.case.mark.length mn7)).setCell ⟨XD, 1, none⟩ (.slice nb k2.case.busy.length bn7)).setCell ⟨XD, 2, none⟩ (.slice nc k2.items.length jn7)) := ((G.setCell HXD.out _).setCell HXD.out _).setCell HXD.out _
            have hne7 : ∀ j : Nat, ¬ ((fun b => y32.heap.size ≤ b) (⟨XD, j, none⟩ : Addr).block) := fun j h => by simp at h; omega
            have DF := (i7.kp (((set_kp (a := ⟨XD, 0, none⟩) (hne7 0) _).trans (set_kp (a := ⟨XD, 1, none⟩) (hne7 1) _)).trans (set_kp (a := ⟨XD, 2, none⟩) (hne7 2) _))).now (w := ((y33.setCell ⟨XD, 0, none⟩ (.slice na k2.case.mark.length mn7)).setCell ⟨XD, 1, none⟩ (.slice nb k2.case.busy.length bn7)).setCell ⟨XD, 2, none⟩ (.slice nc k2.items.length jn7))
            clear hne7
            refine next15 (by kernel_rfl) (fun K hK => ?_)
            go_simp
            (refine hK.out _ _ ?_ (fun hHeld => ?_); · (exact ⟨cell_gr HC0.out (GF), cell_gr HC1.out (GF)⟩))
            clear hK K
            try simp only [Act.put, List.setIfInBounds_toArray, List.set_cons_zero, List.set_cons_succ]
            (refine hold16 (v := ?_) (by kernel_rfl) (by kernel_rfl) (by kernel_rfl) (fun _ _ _ h => h) (by rfl) (fun w' hSw => ?_) (by assumption) ?_; rotate_left 1; · ((try dsimp only at hSw); (try go_simp); (try (with_reducible rfl))); (try simp only [Act.put, List.setIfInBounds_toArray, List.set_cons_zero, List.set_cons_succ]))
            (refine hold17 (v := ?_) (by kernel_rfl) (by kernel_rfl) (by kernel_rfl) (fun _ _ _ h => h) (by rfl) (fun w' hSw => ?_) (by assumption) ?_; rotate_left 1; · ((try dsimp only at hSw); (try go_simp); (try (with_reducible rfl))); (try simp only [Act.put, List.setIfInBounds_toArray, List.set_cons_zero, List.set_cons_succ]))
            refine wpAnyH_done (by kernel_rfl) ?_ _
            clear hHeld
            go_wp2_with fail
            go_meet
            case rel => exact ⟨_, _, _, _, _, _, _, rfl, rfl, bs2, DF, GF⟩
          · skip
            go_simp
            (refine hK.out _ _ ?_ (fun hHeld => ?_); · (exact ⟨cell_gr HC0.out (G.alloc _), cell_gr HC1.out (G.alloc _)⟩))
            clear hK K
            try simp only [Act.put, List.setIfInBounds_toArray, List.set_cons_zero, List.set_cons_succ]
            obtain ⟨XL, hXL⟩ : ∃ X, X = y29.heap.size := ⟨_, rfl⟩
            obtain ⟨y34, hw⟩ : ∃ y, y = y29.alloc (.cells #[.int .i64 3, .int .i64 keep, .int .i64 0, .int .i64 0, .int .i64 0, .int .i64 0, .int .i64 0] 61) := ⟨_, rfl⟩
            have gA : Gr y29 y34 := by rw [hw]; exact (Gr.refl _).alloc _
            have hL : ∀ (j : Nat) (u : Value), ([.int .i64 3, .int .i64 keep, .int .i64 0, .int .i64 0, .int .i64 0, .int .i64 0, .int .i64 0] : List Value)[j]? = some u → y34.cell? ((⟨XL, 0, none⟩ : Addr).add j) = some u := by rw [hw]; exact lit_cellsH hXL.symm
            replace G := G.trans gA
            replace bD := bD.gr gA
            rw [← hw, ← hXL]
            clear hw hXL gA
            refine next4 (by kernel_rfl) (fun K hK => ?_)
            go_simp
            go_at_call 30
            (with_reducible refine (CloneHop_calls _ (keptAll before after) _ (HRA.out.gr ?_) hnL).mono ?_)
            · exact G
            rintro _ y35 ⟨vC, rfl, oC0, gC⟩
            have oC := oC0.low G.le
            obtain ⟨aC, cC, hvC, -, -⟩ := oC.len
            rw [← HNL.out] at hvC
            subst hvC
            have HND := Lib.hid (show some XD ≠ (Value.slice aC n cC).ownBlock from fun e => by have h1 := (oC0.lt e.symm).1; have h2 := bD.lt; omega)
            clear oC0
            replace G := G.trans gC
            replace bD := bD.gr gC
            replace hL : ∀ (j : Nat) (u : Value), ([.int .i64 3, .int .i64 keep, .int .i64 0, .int .i64 0, .int .i64 0, .int .i64 0, .int .i64 0] : List Value)[j]? = some u → y35.cell? ((⟨XL, 0, none⟩ : Addr).add j) = some u := fun j u h => cell_gr (hL j u h) gC
            (refine hK.out _ _ ?_ (fun hHeld => ?_); · (exact ⟨cell_gr HC0.out (G), cell_gr HC1.out (G)⟩))
            clear hK K
            try simp only [Act.put, List.setIfInBounds_toArray, List.set_cons_zero, List.set_cons_succ]
            refine next8 (by kernel_rfl) (fun K hK => ?_)
            refine step_app_one hopTy ?_ (.tmp 57) (.tmp 60) ?_ w0.heap.size NoB (.slice aC n cC) (keptAll before after) ⟨XL, 0, none⟩ ⟨3, keep, zeroOp⟩ [.int .i64 3, .int .i64 keep, .int .i64 0, .int .i64 0, .int .i64 0, .int .i64 0, .int .i64 0] ?_ ?_ ?_ ?_ ?_ ?_ ?_ ?_ ?_
            · rfl
            · rfl
            · rfl
            · rfl
            · exact oC
            · exact hL
            · exact On.true (p := [Value.int .i64 3, .int .i64 keep, .int .i64 0, .int .i64 0, .int .i64 0, .int .i64 0, .int .i64 0] = hopCells ⟨3, keep, zeroOp⟩ ∧ hopI ⟨3, keep, zeroOp⟩) ⟨rfl, (by decide : I64 3), hke, zero_opI⟩
            · exact hn3
            · exact hn4
            · exact G.le
            intro g6 cp6 y36 o6 hgs6 hgb6 hat6 hlt6
            replace G : Gr w0 y36 := hgs6 w0 (Nat.le_refl _) G
            replace bD := bD.grown hgb6 HND.out
            clear hgs6 hgb6 hat6 hlt6 oC hL
            (refine hK.out _ _ ?_ (fun hHeld => ?_); · (exact ⟨cell_gr HC0.out (G), cell_gr HC1.out (G)⟩))
            clear hK K
            try simp only [Act.put, List.setIfInBounds_toArray, List.set_cons_zero, List.set_cons_succ]
            refine next9 (by kernel_rfl) (fun K hK => ?_)
            go_simp
            go_at_call 31
            have KO := OwnR.rd o6
            clear o6
            (with_reducible refine (HallPlay2_calls _ _ _ N i roles (keptAll before after ++ [⟨3, keep, zeroOp⟩]) _ (HN.out.gr ?_) hi (HR.out.gr ?_) (KO.gr ?_) hn5).mono ?_)
            · exact G
            · exact G
            · exact Gr.refl _
            rw [HP2.out]; rintro _ y37 ⟨v7, u7, rfl, i7, j7, g7⟩
            simp only [] at i7 j7
            obtain ⟨na, mn7, nb, bn7, nc, jn7, rfl, -⟩ := i7.now.open_
            obtain ⟨la7, lc7, rfl, -, -⟩ := j7.now.len
            have HEN := bD.lt
            clear KO
            replace G := G.trans g7
            replace bD := bD.gr g7
            (refine hK.out _ _ ?_ (fun hHeld => ?_); · (exact ⟨cell_gr HC0.out (G), cell_gr HC1.out (G)⟩))
            clear hK K
            try simp only [Act.put, List.setIfInBounds_toArray, List.set_cons_zero, List.set_cons_succ]
            (refine hold10 (v := ?_) (by kernel_rfl) (by kernel_rfl) (by kernel_rfl) (fun _ _ _ h => h) (by rfl) (fun w' hSw => ?_) (by assumption) ?_; rotate_left 1; · ((try dsimp only at hSw); (try go_simp); (try (with_reducible rfl))); (try simp only [Act.put, List.setIfInBounds_toArray, List.set_cons_zero, List.set_cons_succ]))
            (refine hold11 (v := ?_) (by kernel_rfl) (by kernel_rfl) (by kernel_rfl) (fun _ _ _ h => h) (by rfl) (fun w' hSw => ?_) (by assumption) ?_; rotate_left 1; · ((try dsimp only at hSw); (try go_simp); (try (with_reducible rfl))); (try simp only [Act.put, List.setIfInBounds_toArray, List.set_cons_zero, List.set_cons_succ]))
            (refine hold12 (v := ?_) (by kernel_rfl) (by kernel_rfl) (by kernel_rfl) (fun _ _ _ h => h) (by rfl) (fun w' hSw => ?_) (by assumption) ?_; rotate_left 1; · ((try dsimp only at hSw); (try go_simp); (try (with_reducible rfl))); (try simp only [Act.put, List.setIfInBounds_toArray, List.set_cons_zero, List.set_cons_succ]))
            (refine hold13 (v := ?_) (by kernel_rfl) (by kernel_rfl) (by kernel_rfl) (fun _ _ _ h => h) (by rfl) (fun w' hSw => ?_) (by assumption) ?_; rotate_left 1; · ((try dsimp only at hSw); (try go_simp); (try (with_reducible rfl))); (try simp only [Act.put, List.setIfInBounds_toArray, List.set_cons_zero, List.set_cons_succ]))
            have S0 := bD.cell (i := 0) (v := .slice none 0 0) rfl
            have SF0 := bD.frozen 0
            have bs0 := bD.set 0 (.slice na k2.case.mark.length mn7)
            have S1 := bs0.cell (i := 1) (v := .slice none 0 0) rfl
            have SF1 := bs0.frozen 1
            have bs1 := bs0.set 1 (.slice nb k2.case.busy.length bn7)
            have S2 := bs1.cell (i := 2) (v := .slice none 0 0) rfl
            have SF2 := bs1.frozen 2
            have bs2 := bs1.set 2 (.slice nc k2.items.length jn7)
            have GF : Gr w0 (((y37.setCell ⟨XD, 0, none⟩ (.slice na k2.case.mark.length mn7)).setCell ⟨XD, 1, none⟩ (.slice nb k2.case.busy.length bn7)).setCell ⟨XD, 2, none⟩ (.slice nc k2.items.length jn7)) := ((G.setCell HXD.out _).setCell HXD.out _).setCell HXD.out _
            have hne7 : ∀ j : Nat, ¬ ((fun b => y36.heap.size ≤ b) (⟨XD, j, none⟩ : Addr).block) := fun j h => by simp at h; omega
            have DF := (i7.kp (((set_kp (a := ⟨XD, 0, none⟩) (hne7 0) _).trans (set_kp (a := ⟨XD, 1, none⟩) (hne7 1) _)).trans (set_kp (a := ⟨XD, 2, none⟩) (hne7 2) _))).now (w := ((y37.setCell ⟨XD, 0, none⟩ (.slice na k2.case.mark.length mn7)).setCell ⟨XD, 1, none⟩ (.slice nb k2.case.busy.length bn7)).setCell ⟨XD, 2, none⟩ (.slice nc k2.items.length jn7))
            clear hne7
            refine next15 (by kernel_rfl) (fun K hK => ?_)
            go_simp
            (refine hK.out _ _ ?_ (fun hHeld => ?_); · (exact ⟨cell_gr HC0.out (GF), cell_gr HC1.out (GF)⟩))
            clear hK K
            try simp only [Act.put, List.setIfInBounds_toArray, List.set_cons_zero, List.set_cons_succ]
            (refine hold16 (v := ?_) (by kernel_rfl) (by kernel_rfl) (by kernel_rfl) (fun _ _ _ h => h) (by rfl) (fun w' hSw => ?_) (by assumption) ?_; rotate_left 1; · ((try dsimp only at hSw); (try go_simp); (try (with_reducible rfl))); (try simp only [Act.put, List.setIfInBounds_toArray, List.set_cons_zero, List.set_cons_succ]))
            (refine hold17 (v := ?_) (by kernel_rfl) (by kernel_rfl) (by kernel_rfl) (fun _ _ _ h => h) (by rfl) (fun w' hSw => ?_) (by assumption) ?_; rotate_left 1; · ((try dsimp only at hSw); (try go_simp); (try (with_reducible rfl))); (try simp only [Act.put, List.setIfInBounds_toArray, List.set_cons_zero, List.set_cons_succ]))
            refine wpAnyH_done (by kernel_rfl) ?_ _
            clear hHeld
            go_wp2_with fail
            go_meet
            case rel => exact ⟨_, _, _, _, _, _, _, rfl, rfl, bs2, DF, GF⟩
      case rest =>
        obtain ⟨X, na, nb, nc, mn7, bn7, jn7, rfl, rfl, bX, iX, gX⟩ := hcut
        have HBX := Lib.hid bX
        have HIX := Lib.hid iX
        have HGX := Lib.hid gX
        clear bX iX gX
        by_cases he : e = 0
        · subst he
          obtain ⟨t1, kk, t2, t3, t4, t5⟩ := hall_kept (N := N) (roles := roles) (i := i) (z := zeroOp) (o' := zeroOp) (keep := keep) h1b.out h1a.out HP.out
          rw [show (before ++ [⟨2, 0, zeroOp⟩]) ++ after = keptAll before after from rfl, HP2.out] at t2 t3
          simp only [] at t2 t3
          subst t2 t3
          obtain ⟨xs, hxs⟩ : ∃ xs, xs = ackTo before l before.length := ⟨_, rfl⟩
          obtain ⟨ys, hys⟩ : ∃ ys, ys = ackTo after (l.drop (before.length + 1)) after.length := ⟨_, rfl⟩
          rw [← hxs, ← hys] at t4 t5
          have hln : l.length = n := by rw [t1, HNL.out, keptAll_len]
          have HLN := Lib.hid hln
          have HXS := Lib.hid hxs
          have HYS := Lib.hid hys
          have HT4 := Lib.hid t4
          have HT5 := Lib.hid t5
          clear t1 t4 t5 hxs hys
          rw [hln]
          clear hln
          have HJX := Lib.hid (show Rd ansK wc (.slice la n lc) l by rw [← HLN.out]; exact HJ.out.gr HGX.out)
          go_wp2_with fail
          refine (acked_calls _ _ before l _ (hb.gr ((HGW.out.trans HGZ.out).trans HGX.out)) HJX.out (by omega)).mono ?_
          rw [← HXS.out]
          rintro _ wb ⟨vx, rfl, ox, gb⟩
          obtain ⟨xa, xc, rfl, -, -⟩ := ox.len
          have HOB := Lib.hid ox.rd
          have HGB := Lib.hid gb
          clear ox gb
          have hn0 : before.length + 1 ≤ n := by rw [HNL.out, keptAll_len]; omega
          have HN1 := Lib.hid (show n = before.length + 1 + after.length by rw [HNL.out, keptAll_len])
          obtain ⟨lb, lo, vs0, hla, -, -⟩ := HJX.out.at_ (i := 0) (by rw [HLN.out]; omega)
          subst hla
          have HJB := Lib.hid (HJX.out.gr HGB.out)
          obtain ⟨_, _, hcc, hlc1, hlc2⟩ := HJX.out.len
          simp only [Value.slice.injEq] at hcc
          obtain ⟨-, -, rfl⟩ := hcc
          rw [HLN.out] at hlc1
          go_upto_region 12 with fail
          go_cut [22] (fun sy wy => ∃ (ya : Option Addr) (yc : Nat), sy = .slice ya ys.length yc ∧ Rd opK wy (.slice ya ys.length yc) ys ∧ Gr wb wy)
          case first =>
            have HA2 := Lib.hid (ha.gr (((HGW.out.trans HGZ.out).trans HGX.out).trans HGB.out))
            by_cases hlc : lc = before.length + 1
            · have HRD := Lib.hid (show Rd ansK wb (.slice (some ⟨lb, lo, none⟩) 0 0) (l.drop (before.length + 1)) by
                have h := HJB.out.sub (i := 0) (m := 0) (c := 0) (o' := lo) (by omega) (Nat.le_refl _) (by omega) (by simp)
                rw [show l.drop (before.length + 1) = [] from List.drop_eq_nil_of_le (by rw [HLN.out]; omega)]
                simpa using h)
              subst hlc
              go_wp2_with fail
              (with_reducible refine (acked_calls _ _ after (l.drop (before.length + 1)) _ HA2.out HRD.out (by omega)).mono ?_)
              rw [← HYS.out]; rintro _ wy ⟨vy, rfl, oy, gy⟩
              obtain ⟨ya, yc, rfl, -, -⟩ := oy.len
              go_wp2_with fail
              go_meet
              case rel => exact ⟨_, _, rfl, oy.rd, gy⟩
            · have HRD := Lib.hid (show Rd ansK wb (.slice (some ⟨lb, lo + (before.length + 1) * 2, none⟩) (n - (before.length + 1)) (lc - (before.length + 1))) (l.drop (before.length + 1)) by
                have h := HJB.out.sub (i := before.length + 1) (m := n - (before.length + 1)) (c := lc - (before.length + 1)) (o' := lo + (before.length + 1) * 2) (by rw [HLN.out]; omega) (by omega) (by omega) rfl
                rw [List.take_of_length_le (by rw [List.length_drop, HLN.out]; omega)] at h
                exact h)
              have hlc3 : ¬ before.length + 1 = lc := fun h => hlc h.symm
              go_wp2_with fail
              (with_reducible refine (acked_calls _ _ after (l.drop (before.length + 1)) _ HA2.out HRD.out (by omega)).mono ?_)
              rw [← HYS.out]; rintro _ wy ⟨vy, rfl, oy, gy⟩
              obtain ⟨ya, yc, rfl, -, -⟩ := oy.len
              go_wp2_with fail
              go_meet
              case rel => exact ⟨_, _, rfl, oy.rd, gy⟩
          case rest =>
            obtain ⟨ya, yc, rfl, oY, gY⟩ := hcut
            have HOY := Lib.hid oY
            have HOX := Lib.hid (HOB.out.gr gY)
            have HGY := Lib.hid gY
            clear oY gY
            obtain ⟨mx, hmx, hrun⟩ : ∃ m : Int, (0 ≤ m ∧ m = max keep 0) ∧ ∀ w, (Builtin.max_ #[3, 3] 3 #[.int .i64 keep, .int .i64 0]).run Try.prog w = .ok (.int .i64 m) w := by
              refine ⟨max keep 0, ⟨Int.le_max_right _ _, rfl⟩, fun w => ?_⟩
              by_cases h : keep < 0
              · rw [Int.max_eq_right (by omega)]; simp [Builtin.max_, Builtin.max2, h]
              · rw [Int.max_eq_left (by omega)]; simp [Builtin.max_, Builtin.max2, h]
            have HM := Lib.hid hmx
            clear hmx
            go_upto_region 14 with fail
            obtain ⟨kz, hkz, hkm⟩ : ∃ kz : Nat, (if (ys.length : Int) < wrap64 (mx.tdiv 7) then (ys.length : Int) else wrap64 (mx.tdiv 7)) = (kz : Int) ∧ kz = (min (max keep 0 / 7) (ys.length : Int)).toNat := by
              have h := HM.out
              have h1 : wrap64 (mx.tdiv 7) = mx / 7 := by
                rw [Int.tdiv_eq_ediv_of_nonneg h.1]
                have hk := hke
                unfold I64 at hk
                unfold wrap64; omega
              rw [h1, ← h.2]
              exact ⟨_, by split <;> omega, rfl⟩
            rw [hkz]
            have hky : kz ≤ ys.length := by rw [hkm]; omega
            have hxl : xs.length ≤ 1048576 := by rw [HXS.out]; have := ackTo_len before l before.length; omega
            have hyl : ys.length ≤ 1048576 := by rw [HYS.out]; have := ackTo_len after (l.drop (before.length + 1)) after.length; omega
            have hfl : [xs, ys.take kz].flatten.length ≤ 2097152 := by simp; omega
            obtain ⟨l3, hq⟩ : ∃ l3, deskPlay N i roles [xs, ys.take kz].flatten = ((k2, l3), 0) := by
              rcases hq0 : deskPlay N i roles [xs, ys.take kz].flatten with ⟨⟨k3, l3⟩, e3⟩
              have h4 := HT4.out
              have h5 := HT5.out
              rw [← hkm, show xs ++ ys.take kz = [xs, ys.take kz].flatten by simp, hq0] at h4 h5
              simp only [] at h4 h5
              rw [h4, h5]
              exact ⟨_, rfl⟩
            obtain ⟨zs, hzs⟩ : ∃ zs, zs = [xs, ys.take kz].flatten := ⟨_, rfl⟩
            rw [← hzs] at hq hfl
            have HZS := Lib.hid hzs
            have HQ := Lib.hid hq
            have HFL := Lib.hid hfl
            have HKY := Lib.hid hky
            have GWC := ((HGZ.out.trans HGX.out).trans HGB.out).trans HGY.out
            have HGC := Lib.hid (HGW.out.trans GWC)
            have HE0 := Lib.hid (cell_gr HB0.out GWC)
            have HE1 := Lib.hid (cell_gr HB1.out GWC)
            have HBC := Lib.hid (HBX.out.gr (HGB.out.trans HGY.out))
            have HIC := Lib.hid (HIX.out.gr (HGB.out.trans HGY.out))
            clear hq hzs hfl hky GWC hkz hkm hrun hxl hyl
            go_cut [24, 25, 26] (fun pk sx se wx => ∃ (Y : Nat) (na nb nc : Option Addr) (mn7 bn7 jn7 : Nat), pk = .pointer (some ⟨Y, 0, none⟩) ∧ se = .int .i64 0 ∧
              Blk wx Y 66 #[.slice na k2.case.mark.length mn7, .slice nb k2.case.busy.length bn7, .slice nc k2.items.length jn7] ∧ DeskR wx (.agg #[.slice na k2.case.mark.length mn7, .slice nb k2.case.busy.length bn7, .slice nc k2.items.length jn7]) k2 ∧ Gr wc wx)
            case first =>
              have HN2 := Lib.hid (hN'.gr HGC.out)
              have HR2 := Lib.hid (hr.gr HGC.out)
              have hn3 : [xs, ys.take kz].flatten.length ≤ 2513169434916 := by rw [← HZS.out]; have := HFL.out; omega
              have hn5 : zs.length ≤ 3518437208873 := by have := HFL.out; omega
              refine wp_region_held_drew (S := fun w' => w'.cell? ⟨w.heap.size, 0, none⟩ = some (.int .i64 N.places) ∧ w'.cell? ⟨w.heap.size, 1, none⟩ = some (.slice a N.trans.length cap)) (by kernel_rfl) ⟨cell_gr HE0.out ((Gr.refl _).drew), cell_gr HE1.out ((Gr.refl _).drew)⟩ (fun hHeld => ?_)
              obtain ⟨y0, hy⟩ : ∃ y, y = World.drew wc := ⟨_, rfl⟩
              have G : Gr wc y0 := by rw [hy]; exact (Gr.refl _).drew
              rw [← hy] at hHeld ⊢
              clear hy
              have hky := HKY.out
              have hkI : (kz : Int) ≤ (ys.length : Int) := by omega
              have hk0 : (0 : Int) ≤ (kz : Int) := by omega
              have hkc : kz ≤ yc := by
                obtain ⟨_, _, hcc, hc1, -⟩ := HOY.out.len
                simp only [Value.slice.injEq] at hcc
                obtain ⟨-, -, rfl⟩ := hcc
                omega
              (refine hold0 (v := ?_) (by kernel_rfl) (by kernel_rfl) (by kernel_rfl) (fun _ _ _ h => h) (by rfl) (fun w' hSw => ?_) (by assumption) ?_; rotate_left 1; · ((try dsimp only at hSw); (try go_simp); (try (with_reducible rfl))); (try simp only [Act.put, List.setIfInBounds_toArray, List.set_cons_zero, List.set_cons_succ]))
              (refine hold1 (v := ?_) (by kernel_rfl) (by kernel_rfl) (by kernel_rfl) (fun _ _ _ h => h) (by rfl) (fun w' hSw => ?_) (by assumption) ?_; rotate_left 1; · ((try dsimp only at hSw); (try go_simp); (try (with_reducible rfl))); (try simp only [Act.put, List.setIfInBounds_toArray, List.set_cons_zero, List.set_cons_succ]))
              (refine hold2 (v := ?_) (by kernel_rfl) (by kernel_rfl) (by kernel_rfl) (fun _ _ _ h => h) (by rfl) (fun w' hSw => ?_) (by assumption) ?_; rotate_left 1; · ((try dsimp only at hSw); (try go_simp); (try (with_reducible rfl))); (try simp only [Act.put, List.setIfInBounds_toArray, List.set_cons_zero, List.set_cons_succ]))
              (refine hold3 (v := ?_) (by kernel_rfl) (by kernel_rfl) (by kernel_rfl) (fun _ _ _ h => h) (by rfl) (fun w' hSw => ?_) (by assumption) ?_; rotate_left 1; · ((try dsimp only at hSw); (try go_simp); (try (with_reducible rfl))); (try simp only [Act.put, List.setIfInBounds_toArray, List.set_cons_zero, List.set_cons_succ]))
              (refine hold4 (v := ?_) (by kernel_rfl) (by kernel_rfl) (by kernel_rfl) (fun _ _ _ h => h) (by rfl) (fun w' hSw => ?_) (by assumption) ?_; rotate_left 1; · ((try dsimp only at hSw); (try go_simp); (try (with_reducible rfl))); (try simp only [Act.put, List.setIfInBounds_toArray, List.set_cons_zero, List.set_cons_succ]))
              (refine hold5 (v := ?_) (by kernel_rfl) (by kernel_rfl) (by kernel_rfl) (fun _ _ _ h => h) (by rfl) (fun w' hSw => ?_) (by assumption) ?_; rotate_left 1; · ((try dsimp only at hSw); (try go_simp); (try (with_reducible rfl))); (try simp only [Act.put, List.setIfInBounds_toArray, List.set_cons_zero, List.set_cons_succ]))
              (refine hold6 (v := ?_) (by kernel_rfl) (by kernel_rfl) (by kernel_rfl) (fun _ _ _ h => h) (by rfl) (fun w' hSw => ?_) (by assumption) ?_; rotate_left 1; · ((try dsimp only at hSw); (try go_simp); (try (with_reducible rfl))); (try simp only [Act.put, List.setIfInBounds_toArray, List.set_cons_zero, List.set_cons_succ]))
              refine next7p14 (by kernel_rfl) (fun K hK => ?_) (fun K hK => ?_)
              · skip
                go_simp
                (refine hK.out _ _ ?_ (fun hHeld => ?_); · (exact ⟨cell_gr HE0.out (G.alloc _), cell_gr HE1.out (G.alloc _)⟩))
                clear hK K
                try simp only [Act.put, List.setIfInBounds_toArray, List.set_cons_zero, List.set_cons_succ]
                obtain ⟨XL, hXL⟩ : ∃ X, X = y0.heap.size := ⟨_, rfl⟩
                obtain ⟨y1, hw⟩ : ∃ y, y = y0.alloc (.cells #[.slice xa xs.length xc, .slice ya kz yc] 72) := ⟨_, rfl⟩
                have gA : Gr y0 y1 := by rw [hw]; exact (Gr.refl _).alloc _
                have hL : MatK opK y1 (.slice (some ⟨XL, 0, none⟩) 2 2) [xs, ys.take kz] := by rw [hw]; exact MatK.lit2 hXL.symm (HOX.out.gr G) ((HOY.out.take HKY.out).gr G)
                replace G := G.trans gA
                rw [← hw, ← hXL]
                clear hw hXL gA
                refine next8p14 (by kernel_rfl) (fun K hK => ?_) (fun K hK => ?_)
                · skip
                  go_simp
                  go_at_call 42
                  (with_reducible refine (ConcatOp_calls _ [xs, ys.take kz] _ hL hn3).mono ?_)
                  rw [← HZS.out]
                  rintro _ y2 ⟨vC, rfl, o6, gC⟩
                  obtain ⟨aC, cC, hvC, -, -⟩ := o6.len
                  subst hvC
                  clear hL
                  replace G := G.trans gC
                  (refine hK.out _ _ ?_ (fun hHeld => ?_); · (exact ⟨cell_gr HE0.out (G), cell_gr HE1.out (G)⟩))
                  clear hK K
                  try simp only [Act.put, List.setIfInBounds_toArray, List.set_cons_zero, List.set_cons_succ]
                  refine next9p14 (by kernel_rfl) (fun K hK => ?_) (fun K hK => ?_)
                  · skip
                    go_simp
                    go_at_call 33
                    have KO := OwnR.rd o6
                    clear o6
                    (with_reducible refine (DeskPlay2_calls _ _ _ N i roles zs _ (HN2.out.gr ?_) hi (HR2.out.gr ?_) (KO.gr ?_) hn5).mono ?_)
                    · exact G
                    · exact G
                    · exact Gr.refl _
                    rw [HQ.out]; rintro _ y3 ⟨v7, u7, rfl, i7, j7, g7⟩
                    simp only [] at i7 j7
                    obtain ⟨na, mn7, nb, bn7, nc, jn7, rfl, -⟩ := i7.now.open_
                    obtain ⟨la7, lc7, rfl, -, -⟩ := j7.now.len
                    clear KO
                    replace G := G.trans g7
                    (refine hK.out _ _ ?_ (fun hHeld => ?_); · (exact ⟨cell_gr HE0.out (G), cell_gr HE1.out (G)⟩))
                    clear hK K
                    try simp only [Act.put, List.setIfInBounds_toArray, List.set_cons_zero, List.set_cons_succ]
                    (refine hold10 (v := ?_) (by kernel_rfl) (by kernel_rfl) (by kernel_rfl) (fun _ _ _ h => h) (by rfl) (fun w' hSw => ?_) (by assumption) ?_; rotate_left 1; · ((try dsimp only at hSw); (try go_simp); (try (with_reducible rfl))); (try simp only [Act.put, List.setIfInBounds_toArray, List.set_cons_zero, List.set_cons_succ]))
                    (refine hold11 (v := ?_) (by kernel_rfl) (by kernel_rfl) (by kernel_rfl) (fun _ _ _ h => h) (by rfl) (fun w' hSw => ?_) (by assumption) ?_; rotate_left 1; · ((try dsimp only at hSw); (try go_simp); (try (with_reducible rfl))); (try simp only [Act.put, List.setIfInBounds_toArray, List.set_cons_zero, List.set_cons_succ]))
                    (refine hold12 (v := ?_) (by kernel_rfl) (by kernel_rfl) (by kernel_rfl) (fun _ _ _ h => h) (by rfl) (fun w' hSw => ?_) (by assumption) ?_; rotate_left 1; · ((try dsimp only at hSw); (try go_simp); (try (with_reducible rfl))); (try simp only [Act.put, List.setIfInBounds_toArray, List.set_cons_zero, List.set_cons_succ]))
                    (refine hold13 (v := ?_) (by kernel_rfl) (by kernel_rfl) (by kernel_rfl) (fun _ _ _ h => h) (by rfl) (fun w' hSw => ?_) (by assumption) ?_; rotate_left 1; · ((try dsimp only at hSw); (try go_simp); (try (with_reducible rfl))); (try simp only [Act.put, List.setIfInBounds_toArray, List.set_cons_zero, List.set_cons_succ]))
                    refine next14 (by kernel_rfl) (fun K hK => ?_)
                    go_simp
                    (refine hK.out _ _ ?_ (fun hHeld => ?_); · (exact ⟨cell_gr HE0.out (G.alloc _), cell_gr HE1.out (G.alloc _)⟩))
                    clear hK K
                    try simp only [Act.put, List.setIfInBounds_toArray, List.set_cons_zero, List.set_cons_succ]
                    obtain ⟨XD, hXD⟩ : ∃ X, X = y3.heap.size := ⟨_, rfl⟩
                    obtain ⟨y4, hw⟩ : ∃ y, y = y3.alloc (.cells #[.slice none 0 0, .slice none 0 0, .slice none 0 0] 66) := ⟨_, rfl⟩
                    have gA : Gr y3 y4 := by rw [hw]; exact (Gr.refl _).alloc _
                    have bD : Blk y4 XD 66 #[.slice none 0 0, .slice none 0 0, .slice none 0 0] := by rw [hw]; exact Blk.new hXD.symm
                    have HXD := Lib.hid (show wc.heap.size ≤ XD from hXD ▸ G.le)
                    have HX7 := Lib.hid (show y3.heap.size ≤ XD from Nat.le_of_eq hXD.symm)
                    have g78 := gA
                    replace G := G.trans gA
                    rw [← hw, ← hXD]
                    clear hw hXD gA
                    have S0 := bD.cell (i := 0) (v := .slice none 0 0) rfl
                    have SF0 := bD.frozen 0
                    have bs0 := bD.set 0 (.slice na k2.case.mark.length mn7)
                    have S1 := bs0.cell (i := 1) (v := .slice none 0 0) rfl
                    have SF1 := bs0.frozen 1
                    have bs1 := bs0.set 1 (.slice nb k2.case.busy.length bn7)
                    have S2 := bs1.cell (i := 2) (v := .slice none 0 0) rfl
                    have SF2 := bs1.frozen 2
                    have bs2 := bs1.set 2 (.slice nc k2.items.length jn7)
                    have GF : Gr wc (((y4.setCell ⟨XD, 0, none⟩ (.slice na k2.case.mark.length mn7)).setCell ⟨XD, 1, none⟩ (.slice nb k2.case.busy.length bn7)).setCell ⟨XD, 2, none⟩ (.slice nc k2.items.length jn7)) := ((G.setCell HXD.out _).setCell HXD.out _).setCell HXD.out _
                    have DF := (i7.gr (((g78.setCell HX7.out _).setCell HX7.out _).setCell HX7.out _)).now (w := ((y4.setCell ⟨XD, 0, none⟩ (.slice na k2.case.mark.length mn7)).setCell ⟨XD, 1, none⟩ (.slice nb k2.case.busy.length bn7)).setCell ⟨XD, 2, none⟩ (.slice nc k2.items.length jn7))
                    refine next15 (by kernel_rfl) (fun K hK => ?_)
                    go_simp
                    (refine hK.out _ _ ?_ (fun hHeld => ?_); · (exact ⟨cell_gr HE0.out (GF), cell_gr HE1.out (GF)⟩))
                    clear hK K
                    try simp only [Act.put, List.setIfInBounds_toArray, List.set_cons_zero, List.set_cons_succ]
                    (refine hold16 (v := ?_) (by kernel_rfl) (by kernel_rfl) (by kernel_rfl) (fun _ _ _ h => h) (by rfl) (fun w' hSw => ?_) (by assumption) ?_; rotate_left 1; · ((try dsimp only at hSw); (try go_simp); (try (with_reducible rfl))); (try simp only [Act.put, List.setIfInBounds_toArray, List.set_cons_zero, List.set_cons_succ]))
                    (refine hold17 (v := ?_) (by kernel_rfl) (by kernel_rfl) (by kernel_rfl) (fun _ _ _ h => h) (by rfl) (fun w' hSw => ?_) (by assumption) ?_; rotate_left 1; · ((try dsimp only at hSw); (try go_simp); (try (with_reducible rfl))); (try simp only [Act.put, List.setIfInBounds_toArray, List.set_cons_zero, List.set_cons_succ]))
                    refine wpAnyH_done (by kernel_rfl) ?_ _
                    clear hHeld
                    go_wp2_with fail
                    go_meet
                    case rel => exact ⟨_, _, _, _, _, _, _, rfl, rfl, bs2, DF, GF⟩
                  · skip
                    go_simp
                    (refine hK.out _ _ ?_ (fun hHeld => ?_); · (exact ⟨cell_gr HE0.out (G.alloc _), cell_gr HE1.out (G.alloc _)⟩))
                    clear hK K
                    try simp only [Act.put, List.setIfInBounds_toArray, List.set_cons_zero, List.set_cons_succ]
                    obtain ⟨XD, hXD⟩ : ∃ X, X = y2.heap.size := ⟨_, rfl⟩
                    obtain ⟨y5, hw⟩ : ∃ y, y = y2.alloc (.cells #[.slice none 0 0, .slice none 0 0, .slice none 0 0] 66) := ⟨_, rfl⟩
                    have gA : Gr y2 y5 := by rw [hw]; exact (Gr.refl _).alloc _
                    have bD : Blk y5 XD 66 #[.slice none 0 0, .slice none 0 0, .slice none 0 0] := by rw [hw]; exact Blk.new hXD.symm
                    have HXD := Lib.hid (show wc.heap.size ≤ XD from hXD ▸ G.le)
                    replace G := G.trans gA
                    replace o6 := o6.gr gA
                    rw [← hw, ← hXD]
                    clear hw hXD gA
                    refine next9 (by kernel_rfl) (fun K hK => ?_)
                    go_simp
                    go_at_call 33
                    have KO := OwnR.rd o6
                    clear o6
                    (with_reducible refine (DeskPlay2_calls _ _ _ N i roles zs _ (HN2.out.gr ?_) hi (HR2.out.gr ?_) (KO.gr ?_) hn5).mono ?_)
                    · exact G
                    · exact G
                    · exact Gr.refl _
                    rw [HQ.out]; rintro _ y6 ⟨v7, u7, rfl, i7, j7, g7⟩
                    simp only [] at i7 j7
                    obtain ⟨na, mn7, nb, bn7, nc, jn7, rfl, -⟩ := i7.now.open_
                    obtain ⟨la7, lc7, rfl, -, -⟩ := j7.now.len
                    have HEN := bD.lt
                    clear KO
                    replace G := G.trans g7
                    replace bD := bD.gr g7
                    (refine hK.out _ _ ?_ (fun hHeld => ?_); · (exact ⟨cell_gr HE0.out (G), cell_gr HE1.out (G)⟩))
                    clear hK K
                    try simp only [Act.put, List.setIfInBounds_toArray, List.set_cons_zero, List.set_cons_succ]
                    (refine hold10 (v := ?_) (by kernel_rfl) (by kernel_rfl) (by kernel_rfl) (fun _ _ _ h => h) (by rfl) (fun w' hSw => ?_) (by assumption) ?_; rotate_left 1; · ((try dsimp only at hSw); (try go_simp); (try (with_reducible rfl))); (try simp only [Act.put, List.setIfInBounds_toArray, List.set_cons_zero, List.set_cons_succ]))
                    (refine hold11 (v := ?_) (by kernel_rfl) (by kernel_rfl) (by kernel_rfl) (fun _ _ _ h => h) (by rfl) (fun w' hSw => ?_) (by assumption) ?_; rotate_left 1; · ((try dsimp only at hSw); (try go_simp); (try (with_reducible rfl))); (try simp only [Act.put, List.setIfInBounds_toArray, List.set_cons_zero, List.set_cons_succ]))
                    (refine hold12 (v := ?_) (by kernel_rfl) (by kernel_rfl) (by kernel_rfl) (fun _ _ _ h => h) (by rfl) (fun w' hSw => ?_) (by assumption) ?_; rotate_left 1; · ((try dsimp only at hSw); (try go_simp); (try (with_reducible rfl))); (try simp only [Act.put, List.setIfInBounds_toArray, List.set_cons_zero, List.set_cons_succ]))
                    (refine hold13 (v := ?_) (by kernel_rfl) (by kernel_rfl) (by kernel_rfl) (fun _ _ _ h => h) (by rfl) (fun w' hSw => ?_) (by assumption) ?_; rotate_left 1; · ((try dsimp only at hSw); (try go_simp); (try (with_reducible rfl))); (try simp only [Act.put, List.setIfInBounds_toArray, List.set_cons_zero, List.set_cons_succ]))
                    have S0 := bD.cell (i := 0) (v := .slice none 0 0) rfl
                    have SF0 := bD.frozen 0
                    have bs0 := bD.set 0 (.slice na k2.case.mark.length mn7)
                    have S1 := bs0.cell (i := 1) (v := .slice none 0 0) rfl
                    have SF1 := bs0.frozen 1
                    have bs1 := bs0.set 1 (.slice nb k2.case.busy.length bn7)
                    have S2 := bs1.cell (i := 2) (v := .slice none 0 0) rfl
                    have SF2 := bs1.frozen 2
                    have bs2 := bs1.set 2 (.slice nc k2.items.length jn7)
                    have GF : Gr wc (((y6.setCell ⟨XD, 0, none⟩ (.slice na k2.case.mark.length mn7)).setCell ⟨XD, 1, none⟩ (.slice nb k2.case.busy.length bn7)).setCell ⟨XD, 2, none⟩ (.slice nc k2.items.length jn7)) := ((G.setCell HXD.out _).setCell HXD.out _).setCell HXD.out _
                    have hne7 : ∀ j : Nat, ¬ ((fun b => y5.heap.size ≤ b) (⟨XD, j, none⟩ : Addr).block) := fun j h => by simp at h; omega
                    have DF := (i7.kp (((set_kp (a := ⟨XD, 0, none⟩) (hne7 0) _).trans (set_kp (a := ⟨XD, 1, none⟩) (hne7 1) _)).trans (set_kp (a := ⟨XD, 2, none⟩) (hne7 2) _))).now (w := ((y6.setCell ⟨XD, 0, none⟩ (.slice na k2.case.mark.length mn7)).setCell ⟨XD, 1, none⟩ (.slice nb k2.case.busy.length bn7)).setCell ⟨XD, 2, none⟩ (.slice nc k2.items.length jn7))
                    clear hne7
                    refine next15 (by kernel_rfl) (fun K hK => ?_)
                    go_simp
                    (refine hK.out _ _ ?_ (fun hHeld => ?_); · (exact ⟨cell_gr HE0.out (GF), cell_gr HE1.out (GF)⟩))
                    clear hK K
                    try simp only [Act.put, List.setIfInBounds_toArray, List.set_cons_zero, List.set_cons_succ]
                    (refine hold16 (v := ?_) (by kernel_rfl) (by kernel_rfl) (by kernel_rfl) (fun _ _ _ h => h) (by rfl) (fun w' hSw => ?_) (by assumption) ?_; rotate_left 1; · ((try dsimp only at hSw); (try go_simp); (try (with_reducible rfl))); (try simp only [Act.put, List.setIfInBounds_toArray, List.set_cons_zero, List.set_cons_succ]))
                    (refine hold17 (v := ?_) (by kernel_rfl) (by kernel_rfl) (by kernel_rfl) (fun _ _ _ h => h) (by rfl) (fun w' hSw => ?_) (by assumption) ?_; rotate_left 1; · ((try dsimp only at hSw); (try go_simp); (try (with_reducible rfl))); (try simp only [Act.put, List.setIfInBounds_toArray, List.set_cons_zero, List.set_cons_succ]))
                    refine wpAnyH_done (by kernel_rfl) ?_ _
                    clear hHeld
                    go_wp2_with fail
                    go_meet
                    case rel => exact ⟨_, _, _, _, _, _, _, rfl, rfl, bs2, DF, GF⟩
                · skip
                  go_simp
                  (refine hK.out _ _ ?_ (fun hHeld => ?_); · (exact ⟨cell_gr HE0.out (G.alloc _), cell_gr HE1.out (G.alloc _)⟩))
                  clear hK K
                  try simp only [Act.put, List.setIfInBounds_toArray, List.set_cons_zero, List.set_cons_succ]
                  obtain ⟨XD, hXD⟩ : ∃ X, X = y1.heap.size := ⟨_, rfl⟩
                  obtain ⟨y7, hw⟩ : ∃ y, y = y1.alloc (.cells #[.slice none 0 0, .slice none 0 0, .slice none 0 0] 66) := ⟨_, rfl⟩
                  have gA : Gr y1 y7 := by rw [hw]; exact (Gr.refl _).alloc _
                  have bD : Blk y7 XD 66 #[.slice none 0 0, .slice none 0 0, .slice none 0 0] := by rw [hw]; exact Blk.new hXD.symm
                  have HXD := Lib.hid (show wc.heap.size ≤ XD from hXD ▸ G.le)
                  replace G := G.trans gA
                  replace hL := hL.gr gA
                  rw [← hw, ← hXD]
                  clear hw hXD gA
                  refine next8 (by kernel_rfl) (fun K hK => ?_)
                  go_simp
                  go_at_call 42
                  (with_reducible refine (ConcatOp_calls _ [xs, ys.take kz] _ hL hn3).mono ?_)
                  rw [← HZS.out]
                  rintro _ y8 ⟨vC, rfl, o6, gC⟩
                  obtain ⟨aC, cC, hvC, -, -⟩ := o6.len
                  subst hvC
                  clear hL
                  replace G := G.trans gC
                  replace bD := bD.gr gC
                  (refine hK.out _ _ ?_ (fun hHeld => ?_); · (exact ⟨cell_gr HE0.out (G), cell_gr HE1.out (G)⟩))
                  clear hK K
                  try simp only [Act.put, List.setIfInBounds_toArray, List.set_cons_zero, List.set_cons_succ]
                  refine next9 (by kernel_rfl) (fun K hK => ?_)
                  go_simp
                  go_at_call 33
                  have KO := OwnR.rd o6
                  clear o6
                  (with_reducible refine (DeskPlay2_calls _ _ _ N i roles zs _ (HN2.out.gr ?_) hi (HR2.out.gr ?_) (KO.gr ?_) hn5).mono ?_)
                  · exact G
                  · exact G
                  · exact Gr.refl _
                  rw [HQ.out]; rintro _ y9 ⟨v7, u7, rfl, i7, j7, g7⟩
                  simp only [] at i7 j7
                  obtain ⟨na, mn7, nb, bn7, nc, jn7, rfl, -⟩ := i7.now.open_
                  obtain ⟨la7, lc7, rfl, -, -⟩ := j7.now.len
                  have HEN := bD.lt
                  clear KO
                  replace G := G.trans g7
                  replace bD := bD.gr g7
                  (refine hK.out _ _ ?_ (fun hHeld => ?_); · (exact ⟨cell_gr HE0.out (G), cell_gr HE1.out (G)⟩))
                  clear hK K
                  try simp only [Act.put, List.setIfInBounds_toArray, List.set_cons_zero, List.set_cons_succ]
                  (refine hold10 (v := ?_) (by kernel_rfl) (by kernel_rfl) (by kernel_rfl) (fun _ _ _ h => h) (by rfl) (fun w' hSw => ?_) (by assumption) ?_; rotate_left 1; · ((try dsimp only at hSw); (try go_simp); (try (with_reducible rfl))); (try simp only [Act.put, List.setIfInBounds_toArray, List.set_cons_zero, List.set_cons_succ]))
                  (refine hold11 (v := ?_) (by kernel_rfl) (by kernel_rfl) (by kernel_rfl) (fun _ _ _ h => h) (by rfl) (fun w' hSw => ?_) (by assumption) ?_; rotate_left 1; · ((try dsimp only at hSw); (try go_simp); (try (with_reducible rfl))); (try simp only [Act.put, List.setIfInBounds_toArray, List.set_cons_zero, List.set_cons_succ]))
                  (refine hold12 (v := ?_) (by kernel_rfl) (by kernel_rfl) (by kernel_rfl) (fun _ _ _ h => h) (by rfl) (fun w' hSw => ?_) (by assumption) ?_; rotate_left 1; · ((try dsimp only at hSw); (try go_simp); (try (with_reducible rfl))); (try simp only [Act.put, List.setIfInBounds_toArray, List.set_cons_zero, List.set_cons_succ]))
                  (refine hold13 (v := ?_) (by kernel_rfl) (by kernel_rfl) (by kernel_rfl) (fun _ _ _ h => h) (by rfl) (fun w' hSw => ?_) (by assumption) ?_; rotate_left 1; · ((try dsimp only at hSw); (try go_simp); (try (with_reducible rfl))); (try simp only [Act.put, List.setIfInBounds_toArray, List.set_cons_zero, List.set_cons_succ]))
                  have S0 := bD.cell (i := 0) (v := .slice none 0 0) rfl
                  have SF0 := bD.frozen 0
                  have bs0 := bD.set 0 (.slice na k2.case.mark.length mn7)
                  have S1 := bs0.cell (i := 1) (v := .slice none 0 0) rfl
                  have SF1 := bs0.frozen 1
                  have bs1 := bs0.set 1 (.slice nb k2.case.busy.length bn7)
                  have S2 := bs1.cell (i := 2) (v := .slice none 0 0) rfl
                  have SF2 := bs1.frozen 2
                  have bs2 := bs1.set 2 (.slice nc k2.items.length jn7)
                  have GF : Gr wc (((y9.setCell ⟨XD, 0, none⟩ (.slice na k2.case.mark.length mn7)).setCell ⟨XD, 1, none⟩ (.slice nb k2.case.busy.length bn7)).setCell ⟨XD, 2, none⟩ (.slice nc k2.items.length jn7)) := ((G.setCell HXD.out _).setCell HXD.out _).setCell HXD.out _
                  have hne7 : ∀ j : Nat, ¬ ((fun b => y8.heap.size ≤ b) (⟨XD, j, none⟩ : Addr).block) := fun j h => by simp at h; omega
                  have DF := (i7.kp (((set_kp (a := ⟨XD, 0, none⟩) (hne7 0) _).trans (set_kp (a := ⟨XD, 1, none⟩) (hne7 1) _)).trans (set_kp (a := ⟨XD, 2, none⟩) (hne7 2) _))).now (w := ((y9.setCell ⟨XD, 0, none⟩ (.slice na k2.case.mark.length mn7)).setCell ⟨XD, 1, none⟩ (.slice nb k2.case.busy.length bn7)).setCell ⟨XD, 2, none⟩ (.slice nc k2.items.length jn7))
                  clear hne7
                  refine next15 (by kernel_rfl) (fun K hK => ?_)
                  go_simp
                  (refine hK.out _ _ ?_ (fun hHeld => ?_); · (exact ⟨cell_gr HE0.out (GF), cell_gr HE1.out (GF)⟩))
                  clear hK K
                  try simp only [Act.put, List.setIfInBounds_toArray, List.set_cons_zero, List.set_cons_succ]
                  (refine hold16 (v := ?_) (by kernel_rfl) (by kernel_rfl) (by kernel_rfl) (fun _ _ _ h => h) (by rfl) (fun w' hSw => ?_) (by assumption) ?_; rotate_left 1; · ((try dsimp only at hSw); (try go_simp); (try (with_reducible rfl))); (try simp only [Act.put, List.setIfInBounds_toArray, List.set_cons_zero, List.set_cons_succ]))
                  (refine hold17 (v := ?_) (by kernel_rfl) (by kernel_rfl) (by kernel_rfl) (fun _ _ _ h => h) (by rfl) (fun w' hSw => ?_) (by assumption) ?_; rotate_left 1; · ((try dsimp only at hSw); (try go_simp); (try (with_reducible rfl))); (try simp only [Act.put, List.setIfInBounds_toArray, List.set_cons_zero, List.set_cons_succ]))
                  refine wpAnyH_done (by kernel_rfl) ?_ _
                  clear hHeld
                  go_wp2_with fail
                  go_meet
                  case rel => exact ⟨_, _, _, _, _, _, _, rfl, rfl, bs2, DF, GF⟩
              · skip
                go_simp
                (refine hK.out _ _ ?_ (fun hHeld => ?_); · (exact ⟨cell_gr HE0.out (G.alloc _), cell_gr HE1.out (G.alloc _)⟩))
                clear hK K
                try simp only [Act.put, List.setIfInBounds_toArray, List.set_cons_zero, List.set_cons_succ]
                obtain ⟨XD, hXD⟩ : ∃ X, X = y0.heap.size := ⟨_, rfl⟩
                obtain ⟨y10, hw⟩ : ∃ y, y = y0.alloc (.cells #[.slice none 0 0, .slice none 0 0, .slice none 0 0] 66) := ⟨_, rfl⟩
                have gA : Gr y0 y10 := by rw [hw]; exact (Gr.refl _).alloc _
                have bD : Blk y10 XD 66 #[.slice none 0 0, .slice none 0 0, .slice none 0 0] := by rw [hw]; exact Blk.new hXD.symm
                have HXD := Lib.hid (show wc.heap.size ≤ XD from hXD ▸ G.le)
                replace G := G.trans gA
                rw [← hw, ← hXD]
                clear hw hXD gA
                refine next7 (by kernel_rfl) (fun K hK => ?_)
                go_simp
                (refine hK.out _ _ ?_ (fun hHeld => ?_); · (exact ⟨cell_gr HE0.out (G.alloc _), cell_gr HE1.out (G.alloc _)⟩))
                clear hK K
                try simp only [Act.put, List.setIfInBounds_toArray, List.set_cons_zero, List.set_cons_succ]
                obtain ⟨XL, hXL⟩ : ∃ X, X = y10.heap.size := ⟨_, rfl⟩
                obtain ⟨y11, hw⟩ : ∃ y, y = y10.alloc (.cells #[.slice xa xs.length xc, .slice ya kz yc] 72) := ⟨_, rfl⟩
                have gA : Gr y10 y11 := by rw [hw]; exact (Gr.refl _).alloc _
                have hL : MatK opK y11 (.slice (some ⟨XL, 0, none⟩) 2 2) [xs, ys.take kz] := by rw [hw]; exact MatK.lit2 hXL.symm (HOX.out.gr G) ((HOY.out.take HKY.out).gr G)
                replace G := G.trans gA
                replace bD := bD.gr gA
                rw [← hw, ← hXL]
                clear hw hXL gA
                refine next8 (by kernel_rfl) (fun K hK => ?_)
                go_simp
                go_at_call 42
                (with_reducible refine (ConcatOp_calls _ [xs, ys.take kz] _ hL hn3).mono ?_)
                rw [← HZS.out]
                rintro _ y12 ⟨vC, rfl, o6, gC⟩
                obtain ⟨aC, cC, hvC, -, -⟩ := o6.len
                subst hvC
                clear hL
                replace G := G.trans gC
                replace bD := bD.gr gC
                (refine hK.out _ _ ?_ (fun hHeld => ?_); · (exact ⟨cell_gr HE0.out (G), cell_gr HE1.out (G)⟩))
                clear hK K
                try simp only [Act.put, List.setIfInBounds_toArray, List.set_cons_zero, List.set_cons_succ]
                refine next9 (by kernel_rfl) (fun K hK => ?_)
                go_simp
                go_at_call 33
                have KO := OwnR.rd o6
                clear o6
                (with_reducible refine (DeskPlay2_calls _ _ _ N i roles zs _ (HN2.out.gr ?_) hi (HR2.out.gr ?_) (KO.gr ?_) hn5).mono ?_)
                · exact G
                · exact G
                · exact Gr.refl _
                rw [HQ.out]; rintro _ y13 ⟨v7, u7, rfl, i7, j7, g7⟩
                simp only [] at i7 j7
                obtain ⟨na, mn7, nb, bn7, nc, jn7, rfl, -⟩ := i7.now.open_
                obtain ⟨la7, lc7, rfl, -, -⟩ := j7.now.len
                have HEN := bD.lt
                clear KO
                replace G := G.trans g7
                replace bD := bD.gr g7
                (refine hK.out _ _ ?_ (fun hHeld => ?_); · (exact ⟨cell_gr HE0.out (G), cell_gr HE1.out (G)⟩))
                clear hK K
                try simp only [Act.put, List.setIfInBounds_toArray, List.set_cons_zero, List.set_cons_succ]
                (refine hold10 (v := ?_) (by kernel_rfl) (by kernel_rfl) (by kernel_rfl) (fun _ _ _ h => h) (by rfl) (fun w' hSw => ?_) (by assumption) ?_; rotate_left 1; · ((try dsimp only at hSw); (try go_simp); (try (with_reducible rfl))); (try simp only [Act.put, List.setIfInBounds_toArray, List.set_cons_zero, List.set_cons_succ]))
                (refine hold11 (v := ?_) (by kernel_rfl) (by kernel_rfl) (by kernel_rfl) (fun _ _ _ h => h) (by rfl) (fun w' hSw => ?_) (by assumption) ?_; rotate_left 1; · ((try dsimp only at hSw); (try go_simp); (try (with_reducible rfl))); (try simp only [Act.put, List.setIfInBounds_toArray, List.set_cons_zero, List.set_cons_succ]))
                (refine hold12 (v := ?_) (by kernel_rfl) (by kernel_rfl) (by kernel_rfl) (fun _ _ _ h => h) (by rfl) (fun w' hSw => ?_) (by assumption) ?_; rotate_left 1; · ((try dsimp only at hSw); (try go_simp); (try (with_reducible rfl))); (try simp only [Act.put, List.setIfInBounds_toArray, List.set_cons_zero, List.set_cons_succ]))
                (refine hold13 (v := ?_) (by kernel_rfl) (by kernel_rfl) (by kernel_rfl) (fun _ _ _ h => h) (by rfl) (fun w' hSw => ?_) (by assumption) ?_; rotate_left 1; · ((try dsimp only at hSw); (try go_simp); (try (with_reducible rfl))); (try simp only [Act.put, List.setIfInBounds_toArray, List.set_cons_zero, List.set_cons_succ]))
                have S0 := bD.cell (i := 0) (v := .slice none 0 0) rfl
                have SF0 := bD.frozen 0
                have bs0 := bD.set 0 (.slice na k2.case.mark.length mn7)
                have S1 := bs0.cell (i := 1) (v := .slice none 0 0) rfl
                have SF1 := bs0.frozen 1
                have bs1 := bs0.set 1 (.slice nb k2.case.busy.length bn7)
                have S2 := bs1.cell (i := 2) (v := .slice none 0 0) rfl
                have SF2 := bs1.frozen 2
                have bs2 := bs1.set 2 (.slice nc k2.items.length jn7)
                have GF : Gr wc (((y13.setCell ⟨XD, 0, none⟩ (.slice na k2.case.mark.length mn7)).setCell ⟨XD, 1, none⟩ (.slice nb k2.case.busy.length bn7)).setCell ⟨XD, 2, none⟩ (.slice nc k2.items.length jn7)) := ((G.setCell HXD.out _).setCell HXD.out _).setCell HXD.out _
                have hne7 : ∀ j : Nat, ¬ ((fun b => y12.heap.size ≤ b) (⟨XD, j, none⟩ : Addr).block) := fun j h => by simp at h; omega
                have DF := (i7.kp (((set_kp (a := ⟨XD, 0, none⟩) (hne7 0) _).trans (set_kp (a := ⟨XD, 1, none⟩) (hne7 1) _)).trans (set_kp (a := ⟨XD, 2, none⟩) (hne7 2) _))).now (w := ((y13.setCell ⟨XD, 0, none⟩ (.slice na k2.case.mark.length mn7)).setCell ⟨XD, 1, none⟩ (.slice nb k2.case.busy.length bn7)).setCell ⟨XD, 2, none⟩ (.slice nc k2.items.length jn7))
                clear hne7
                refine next15 (by kernel_rfl) (fun K hK => ?_)
                go_simp
                (refine hK.out _ _ ?_ (fun hHeld => ?_); · (exact ⟨cell_gr HE0.out (GF), cell_gr HE1.out (GF)⟩))
                clear hK K
                try simp only [Act.put, List.setIfInBounds_toArray, List.set_cons_zero, List.set_cons_succ]
                (refine hold16 (v := ?_) (by kernel_rfl) (by kernel_rfl) (by kernel_rfl) (fun _ _ _ h => h) (by rfl) (fun w' hSw => ?_) (by assumption) ?_; rotate_left 1; · ((try dsimp only at hSw); (try go_simp); (try (with_reducible rfl))); (try simp only [Act.put, List.setIfInBounds_toArray, List.set_cons_zero, List.set_cons_succ]))
                (refine hold17 (v := ?_) (by kernel_rfl) (by kernel_rfl) (by kernel_rfl) (fun _ _ _ h => h) (by rfl) (fun w' hSw => ?_) (by assumption) ?_; rotate_left 1; · ((try dsimp only at hSw); (try go_simp); (try (with_reducible rfl))); (try simp only [Act.put, List.setIfInBounds_toArray, List.set_cons_zero, List.set_cons_succ]))
                refine wpAnyH_done (by kernel_rfl) ?_ _
                clear hHeld
                go_wp2_with fail
                go_meet
                case rel => exact ⟨_, _, _, _, _, _, _, rfl, rfl, bs2, DF, GF⟩
            case rest =>
              obtain ⟨Y, na', nb', nc', mn8, bn8, jn8, rfl, rfl, bY, iY, gY⟩ := hcut
              have bX := HBC.out.gr gY
              have T0 := bX.cell (i := 0) (v := .slice na k2.case.mark.length mn7) rfl
              have T1 := bX.cell (i := 1) (v := .slice nb k2.case.busy.length bn7) rfl
              have T2 := bX.cell (i := 2) (v := .slice nc k2.items.length jn7) rfl
              have U0 := bY.cell (i := 0) (v := .slice na' k2.case.mark.length mn8) rfl
              have U1 := bY.cell (i := 1) (v := .slice nb' k2.case.busy.length bn8) rfl
              have U2 := bY.cell (i := 2) (v := .slice nc' k2.items.length jn8) rfl
              have HIA := Lib.hid (HIC.out.gr gY)
              have HIB := Lib.hid iY
              have HGF := Lib.hid (HGC.out.trans gY)
              clear bX bY iY gY
              go_wp2_with fail
              refine (SameDesk_self _ _ k2 _ HIA.out HIB.out).mono ?_
              rintro _ w9 ⟨rfl, g9⟩
              go_wp2_with fail
              go_ret
              exact ⟨rfl, HGF.out.trans g9⟩
        · have h2 := kept_bad (N := N) (i := i) (roles := roles) (x := keptAll before after) (y := keptAll before after ++ [⟨3, keep, zeroOp⟩]) (by rw [HP.out]; exact he)
          rw [HP.out, HP2.out] at h2
          simp only [] at h2
          subst h2
          have q1 : (e2 == 0) = false := by simpa using he
          have q2 : (e2 != 0) = true := by simpa using he
          go_wp2_with fail
          go_ret
          exact ⟨rfl, (HGW.out.trans HGZ.out).trans HGX.out⟩
    · rintro _ w3 ⟨rfl, g3⟩
      go_wp2_with fail
      go_ret
      exact ⟨rfl, GW.trans (g2.trans g3)⟩
  · rintro _ w2 ⟨rfl, g2⟩
    go_wp2_with fail
    go_ret
    exact ⟨rfl, GW.trans g2⟩
end Go.Proofs.Ytidpppfimkhgkaa
