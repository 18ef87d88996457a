/- Contracts of a hall's do, and crash. -/
import Derived.Test.YtidpppfimkhgkaaHall4
namespace Go.Proofs.Ytidpppfimkhgkaa
open Go.RowKit Go.Tok
set_option linter.unusedVariables false
set_option linter.unusedSimpArgs false
theorem hdo_calls {fb : Nat} {tF : TypeId} {cF : Array Value} {N : NetD} {i : Int} {roles : List (List Int)} {c : CaseD} {w0 w : World} {hb : Nat} {a ra : Option Addr} {cap rc : Nat} {out : Value} {l : List AnsD} {h : HalD} {o : OpD} (hN0 : NetR w0 (.agg #[.int .i64 N.places, .slice a N.trans.length cap]) N) (hi : I64 i) (hr0 : Rd rowK w0 (.slice ra roles.length rc) roles) (hbg : beginF N i = (c, 0))
    (HH : RetH fb tF cF w0 N a cap i ra roles.length rc hb out l h w) (ho : opI o) (hl : h.done.length + 1 ≤ 3518437208873) {h2 : HalD} {an : AnsD} (hd : Hid (hdoF N roles ⟨c, []⟩ h o = (h2, an))) :
    Calls Try.prog 78 #[.pointer (some ⟨hb, 0, none⟩), .agg #[.int .i64 o.kind, .int .i64 o.user, .int .i64 o.tran, .int .i64 o.item, .int .i64 o.to]] w fun e w' => e = .returned (.agg #[.int .i64 an.err, .int .i64 an.item]) ∧ RetH fb tF cF w0 N a cap i ra roles.length rc hb out l h2 w' := by
  cases hok : opOkB o
  · refine (hdo_bad_calls HH ho hok).mono ?_
    rintro e w' ⟨rfl, hr⟩
    obtain ⟨rfl, rfl⟩ := Prod.mk.inj ((hdo_bad (N := N) (roles := roles) (k0 := ⟨c, []⟩) (h := h) (o := o) hok).symm.trans hd.out)
    exact ⟨rfl, hr⟩
  · refine (hdo_go_calls hN0 hi hr0 hbg HH ho hok hl).mono ?_
    rw [hd.out]
    exact fun e w' h => h
set_option maxHeartbeats 4000000 in
set_option maxRecDepth 100000 in
theorem hcrash_calls {fb : Nat} {tF : TypeId} {cF : Array Value} {N : NetD} {i keep : Int} {w0 w : World} {hb : Nat} {a ra : Option Addr} {cap rn rc : Nat} {out : Value} {l : List AnsD} {hh : HalD} (HH : RetH fb tF cF w0 N a cap i ra rn rc hb out l hh w) (hk : HalOk hh) (hkeep : I64 keep) (hl : hh.done.length ≤ 3518437208873) :
    Calls Try.prog 79 #[.pointer (some ⟨hb, 0, none⟩), .int .i64 keep] w fun e w' => e = .returned (.tuple #[]) ∧ RetH fb tF cF w0 N a cap i ra rn rc hb out l (crashF hh keep) w' := by
  obtain ⟨dv, bv, bH, H⟩ := HH
  obtain ⟨ba, bc, hbv, hbl, hbc⟩ := H.bytes.len
  obtain ⟨da, dc, hdv, -, -⟩ := H.done.len
  have hwl := wrL_len hh.done
  rw [hwl] at hbv hbl
  subst hbv hdv
  obtain ⟨n, hn⟩ : ∃ n, n = keepN hh keep := ⟨_, rfl⟩
  have hkn := keepN_le hk keep
  have hdef := keepN_def hh keep
  have hC := crash_at hh keep
  rw [← hn] at hkn hdef hC
  have HC := Lib.hid hC
  have hsl := hk.le
  have eK : (hh.sure : Int) + min (max keep 0) (((7 * hh.done.length : Nat) : Int) - (hh.sure : Int)) = (n : Int) := by omega
  obtain ⟨r1, r2⟩ := journal_back hk.ok (show n ≤ 7 * hh.done.length from hkn.2)
  have hT := H.bytes.rd.take (m := n) (by rw [hwl]; exact hkn.2)
  have hT2 := H.bytes.rd.take (m := 7 * (n / 7)) (by rw [hwl]; omega)
  have hW := wrL_take (l := hh.done) (k := n / 7) (by omega)
  rw [hW] at hT2
  have R1 := Lib.hid r1
  have R2 := Lib.hid r2
  have C5 := bH.cell (i := 5) (v := .slice ba (7 * hh.done.length) bc) rfl
  have C6 := bH.cell (i := 6) (v := .int .i64 (hh.sure : Int)) rfl
  have hk1 := hkeep.1
  have hk2 := hkeep.2
  have hkn2 := hkn.2
  obtain ⟨q, hq⟩ : ∃ q, q = n / 7 := ⟨_, rfl⟩
  have hq7 : 7 * q ≤ n := by omega
  rw [← hq] at R1 R2 HC hT2
  have hqd : q ≤ hh.done.length := by omega
  have hlq : (hh.done.take q).length = q := by rw [List.length_take]; omega
  have hlw : (wrL (hh.done.take q)).length = 7 * q := by rw [wrL_len, hlq]
  have HLQ := Lib.hid hlq
  have HLW := Lib.hid hlw
  have HH := Lib.hid H
  have HB := Lib.hid bH
  have hWR := wrL_len hh.done
  have hhb := H.hl
  clear hC r1 r2 hW hdef hwl hlq hlw H bH hq
  by_cases p1 : keep < 0
  · have hn1 : n = hh.sure := by omega
    subst hn1
    clear eK hn hWR
    go_enter Try.func79, Try.ntmps79
    go_wp2_with fail
    go_quiet (fail)
    all_goals (try (exfalso; omega))
    go_wp2_with fail
    have g1 : Gr w (w.drewN nq) := (Gr.refl _).drewN _
    have e1 : (w.drewN nq).heap.size = w.heap.size := rfl
    refine (Read_calls _ _ q 0 _ (hT.gr g1) R1.out (by omega)).mono ?_
    rw [R2.out]; rintro _ w3 ⟨v3, rfl, o3, g3⟩
    obtain ⟨a3, c3, hv3, s1, s2⟩ := o3.len
    rw [HLQ.out] at hv3 s1
    subst hv3
    have G3 := g1.trans g3
    have D5 := cell_gr C5 G3
    go_wp2_with fail
    refine (CloneByte_calls _ (wrL (hh.done.take q)) _ (hT2.gr G3) (by rw [HLW.out]; omega)).mono ?_
    rintro _ w4 ⟨v4, rfl, o4, g4⟩
    obtain ⟨a4, c4, hv4, -, -⟩ := o4.len
    rw [HLW.out] at hv4
    subst hv4
    have G4 := G3.trans g4
    have bZ := HB.out.gr G4
    have E4 := bZ.cell (i := 4) (v := .slice da hh.done.length dc) rfl
    have F4 := bZ.frozen 4
    have bZ1 := bZ.set 4 (.slice a3 q c3)
    have E5 := bZ1.cell (i := 5) (v := .slice ba (7 * hh.done.length) bc) rfl
    have F5 := bZ1.frozen 5
    have bZ2 := bZ1.set 5 (.slice a4 (7 * q) c4)
    have E6 := bZ2.cell (i := 6) (v := .int .i64 (hh.sure : Int)) rfl
    have F6 := bZ2.frozen 6
    have bZ3 := bZ2.set 6 (.int .i64 ((7 * q : Nat) : Int))
    have hm3 : ∀ b, (Value.slice a3 q c3).ownBlock = some b → b < w3.heap.size := fun b hb => (o3.lt hb).2
    have HZ := Lib.hid ((((HH.out.anew G4 ((o3.flat_any (S' := NoB)).gr g4) (by rw [e1]; exact Nat.le_refl _) hm3 o4 g3.le).set 4 (.slice a3 q c3)).set 5 (.slice a4 (7 * q) c4)).set 6 (.int .i64 ((7 * q : Nat) : Int)))
    have HBZ := Lib.hid bZ3
    clear bZ bZ1 bZ2 bZ3 hm3 o3 o4 g1 g3 g4
    go_wp2_with fail
    go_end0
    rw [HC.out]
    exact ⟨rfl, _, _, HBZ.out, HZ.out⟩
  · obtain ⟨kk, rfl⟩ := Int.eq_ofNat_of_zero_le (show 0 ≤ keep by omega)
    by_cases p2 : hh.sure + kk ≤ 7 * hh.done.length
    · have hn1 : n = hh.sure + kk := by omega
      subst hn1
      clear eK hn hWR
      go_enter Try.func79, Try.ntmps79
      go_wp2_with fail
      go_quiet (fail)
      all_goals (try (exfalso; omega))
      go_wp2_with fail
      have g1 : Gr w (w.drewN nq) := (Gr.refl _).drewN _
      have e1 : (w.drewN nq).heap.size = w.heap.size := rfl
      refine (Read_calls _ _ q 0 _ (hT.gr g1) R1.out (by omega)).mono ?_
      rw [R2.out]; rintro _ w3 ⟨v3, rfl, o3, g3⟩
      obtain ⟨a3, c3, hv3, s1, s2⟩ := o3.len
      rw [HLQ.out] at hv3 s1
      subst hv3
      have G3 := g1.trans g3
      have D5 := cell_gr C5 G3
      go_wp2_with fail
      refine (CloneByte_calls _ (wrL (hh.done.take q)) _ (hT2.gr G3) (by rw [HLW.out]; omega)).mono ?_
      rintro _ w4 ⟨v4, rfl, o4, g4⟩
      obtain ⟨a4, c4, hv4, -, -⟩ := o4.len
      rw [HLW.out] at hv4
      subst hv4
      have G4 := G3.trans g4
      have bZ := HB.out.gr G4
      have E4 := bZ.cell (i := 4) (v := .slice da hh.done.length dc) rfl
      have F4 := bZ.frozen 4
      have bZ1 := bZ.set 4 (.slice a3 q c3)
      have E5 := bZ1.cell (i := 5) (v := .slice ba (7 * hh.done.length) bc) rfl
      have F5 := bZ1.frozen 5
      have bZ2 := bZ1.set 5 (.slice a4 (7 * q) c4)
      have E6 := bZ2.cell (i := 6) (v := .int .i64 (hh.sure : Int)) rfl
      have F6 := bZ2.frozen 6
      have bZ3 := bZ2.set 6 (.int .i64 ((7 * q : Nat) : Int))
      have hm3 : ∀ b, (Value.slice a3 q c3).ownBlock = some b → b < w3.heap.size := fun b hb => (o3.lt hb).2
      have HZ := Lib.hid ((((HH.out.anew G4 ((o3.flat_any (S' := NoB)).gr g4) (by rw [e1]; exact Nat.le_refl _) hm3 o4 g3.le).set 4 (.slice a3 q c3)).set 5 (.slice a4 (7 * q) c4)).set 6 (.int .i64 ((7 * q : Nat) : Int)))
      have HBZ := Lib.hid bZ3
      clear bZ bZ1 bZ2 bZ3 hm3 o3 o4 g1 g3 g4
      go_wp2_with fail
      go_end0
      rw [HC.out]
      exact ⟨rfl, _, _, HBZ.out, HZ.out⟩
    · have hn1 : n = 7 * hh.done.length := by omega
      subst hn1
      clear eK hn hWR
      go_enter Try.func79, Try.ntmps79
      go_wp2_with fail
      go_quiet (fail)
      all_goals (try (exfalso; omega))
      go_wp2_with fail
      have g1 : Gr w (w.drewN nq) := (Gr.refl _).drewN _
      have e1 : (w.drewN nq).heap.size = w.heap.size := rfl
      refine (Read_calls _ _ q 0 _ (hT.gr g1) R1.out (by omega)).mono ?_
      rw [R2.out]; rintro _ w3 ⟨v3, rfl, o3, g3⟩
      obtain ⟨a3, c3, hv3, s1, s2⟩ := o3.len
      rw [HLQ.out] at hv3 s1
      subst hv3
      have G3 := g1.trans g3
      have D5 := cell_gr C5 G3
      go_wp2_with fail
      refine (CloneByte_calls _ (wrL (hh.done.take q)) _ (hT2.gr G3) (by rw [HLW.out]; omega)).mono ?_
      rintro _ w4 ⟨v4, rfl, o4, g4⟩
      obtain ⟨a4, c4, hv4, -, -⟩ := o4.len
      rw [HLW.out] at hv4
      subst hv4
      have G4 := G3.trans g4
      have bZ := HB.out.gr G4
      have E4 := bZ.cell (i := 4) (v := .slice da hh.done.length dc) rfl
      have F4 := bZ.frozen 4
      have bZ1 := bZ.set 4 (.slice a3 q c3)
      have E5 := bZ1.cell (i := 5) (v := .slice ba (7 * hh.done.length) bc) rfl
      have F5 := bZ1.frozen 5
      have bZ2 := bZ1.set 5 (.slice a4 (7 * q) c4)
      have E6 := bZ2.cell (i := 6) (v := .int .i64 (hh.sure : Int)) rfl
      have F6 := bZ2.frozen 6
      have bZ3 := bZ2.set 6 (.int .i64 ((7 * q : Nat) : Int))
      have hm3 : ∀ b, (Value.slice a3 q c3).ownBlock = some b → b < w3.heap.size := fun b hb => (o3.lt hb).2
      have HZ := Lib.hid ((((HH.out.anew G4 ((o3.flat_any (S' := NoB)).gr g4) (by rw [e1]; exact Nat.le_refl _) hm3 o4 g3.le).set 4 (.slice a3 q c3)).set 5 (.slice a4 (7 * q) c4)).set 6 (.int .i64 ((7 * q : Nat) : Int)))
      have HBZ := Lib.hid bZ3
      clear bZ bZ1 bZ2 bZ3 hm3 o3 o4 g1 g3 g4
      go_wp2_with fail
      go_end0
      rw [HC.out]
      exact ⟨rfl, _, _, HBZ.out, HZ.out⟩
end Go.Proofs.Ytidpppfimkhgkaa
