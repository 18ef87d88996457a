/- The contract of the tree's grow at an empty row; both cases together. -/
import Derived.Test.YtkanaoebpajbfaaCover4
namespace Go.Proofs.Ytkanaoebpajbfaa
open Go.RowKit Go.Tok Go.Shelf
set_option linter.unusedVariables false
set_option linter.unusedSimpArgs false
attribute [local go_sem] Oper.semAt_some
set_option maxRecDepth 100000 in
set_option maxHeartbeats 4000000 in
theorem grow0_calls (tb vc : Nat) (va : Option Addr) (up : Int) (ks : List KnotD) (w0 w : World) (hT : TreeM w0 tb ks) (hG : Gr w0 w) (hv : ∀ W, Ints W (.slice va 0 vc) [])
    (hup : UpOk ks) (hks : 0 < ks.length) (hk : up < ks.length) (hlen : ks.length ≤ 1000) (hml : ∀ j, j < ks.length → (ix ks j).mark.length = 0) :
    Calls Try.prog 47 #[.pointer (some ⟨tb, 0, none⟩), .slice va 0 vc, .int .i64 up] w fun e w' => e = .returned (.slice va 0 vc) ∧ Gr w0 w' := by
  obtain ⟨kn, ko, kc, hc2, hR⟩ := hT
  obtain ⟨mv, hKA, hKM⟩ := hR.knots
  obtain ⟨l0, hch, hanc⟩ := chain_anc hup hk
  refine (callsIn_wide (n := 5)).1 ?_
  refine callsIn_of_wp_marks Try.func47 rfl trivial ?_ rfl
  simp only [Try.ntmps47, List.size_toArray, List.length_cons, List.length_nil, Nat.reduceAdd, Nat.reduceSub, Array.replicate_succ, Array.replicate_zero, List.push_toArray, List.append_toArray, List.nil_append, List.cons_append]
  refine wpIn_wide.2 (calm_wp ?_)
  have HKM := Lib.hid hKM
  have HCH := Lib.hid hch
  have HKA := Lib.hid hKA
  have htbl : tb < w0.heap.size := cell_block hc2
  have hw0 := hG.le
  have HC2 := Lib.hid hc2
  have HUP := Lib.hid hup
  have HML := Lib.hid hml
  have HV := Lib.hid hv
  clear hKM hch hanc hKA hc2 hR hup hml hv
  go_wp2_with fail
  obtain ⟨wz, hwz⟩ : ∃ y, y = (w.alloc (.cells #[.slice va 0 vc] 25)).alloc (.cells #[.bool true] 4) := ⟨_, rfl⟩
  rw [← hwz]
  have GZ : Gr w wz := by rw [hwz]; exact ((Gr.refl w).alloc _).alloc _
  have bM : Blk wz w.heap.size 25 #[.slice va 0 vc] := by rw [hwz]; exact (Blk.new rfl).gr ((Gr.refl _).alloc _)
  have bA : Blk wz (w.heap.size + 1) 4 #[.bool true] := by rw [hwz]; exact Blk.new (by simp)
  refine wp_loop_by (fun f a W => ∃ (ab : Nat) (fl : Bool) (Ds : List Nat) (u8 u9 u10 u11 u12 u13 u14 u15 u16 u17 u18 u19 u20 u21 u22 u23 u24 u25 u26 u27 u28 u29 u30 u31 u32 u33 u34 u35 u36 u37 u38 u39 u40 u41 u42 u43 u44 u45 u46 u47 u48 u49 u50 u51 u52 : Value), a = { tmps := #[.pointer (some ⟨tb, 0, none⟩), .slice va 0 vc, .int .i64 up, undef, .pointer (some ⟨w.heap.size, 0, none⟩), undef, .slice none 0 0, .pointer (some ⟨ab, 0, none⟩), u8, u9, u10, u11, u12, u13, u14, u15, u16, u17, u18, u19, u20, u21, u22, u23, u24, u25, u26, u27, u28, u29, u30, u31, u32, u33, u34, u35, u36, u37, u38, u39, u40, u41, u42, u43, u44, u45, u46, u47, u48, u49, u50, u51, u52], defers := Ds.map markD } ∧
      (fl = true → 0 < f) ∧ W.cell? ⟨w.heap.size, 0, none⟩ = some (.slice va 0 vc) ∧
      W.cell? ⟨ab, 0, none⟩ = some (.bool fl) ∧ W.frozen? ⟨ab, 0, none⟩ = false ∧ w.heap.size < ab ∧ Gr w0 W ∧ Ds.Nodup ∧ ∀ D ∈ Ds, w0.heap.size ≤ D ∧ W.heap[D]? = some (.deferred (some []))) 1 ?start ?round
  case start =>
    exact ⟨w.heap.size + 1, true, [], _, _, _, _, _, _, _, _, _, _, _, _, _, _, _, _, _, _, _, _, _, _, _, _, _, _, _, _, _, _, _, _, _, _, _, _, _, _, _, _, _, _, _, _, _, rfl, fun _ => Nat.zero_lt_one, bM.cell (i := 0) rfl, bA.cell (i := 0) rfl, bA.frozen 0, Nat.lt_succ_self _, hG.trans GZ, List.nodup_nil, fun D hD => by cases hD⟩
  case round =>
    clear hwz bM bA GZ
    rintro f a W ⟨ab, fl, Ds, u8, u9, u10, u11, u12, u13, u14, u15, u16, u17, u18, u19, u20, u21, u22, u23, u24, u25, u26, u27, u28, u29, u30, u31, u32, u33, u34, u35, u36, u37, u38, u39, u40, u41, u42, u43, u44, u45, u46, u47, u48, u49, u50, u51, u52, rfl, h1, cM, cA, fA, hab, gW, hnd, hDs⟩
    have habl : ab < W.heap.size := cell_block cA
    have HH1 := Lib.hid h1
    have HDs := Lib.hid hDs
    have HND := Lib.hid hnd
    clear h1 hDs hnd
    cases fl with
    | false =>
      go_wp2_with fail
      refine leaves_marks Ds W HND.out (fun D hD => (HDs.out D hD).2) fun W' kk => ?_
      exact ⟨_, results_tmp rfl _ _ _, rfl, gW.kpb_on kk fun b hb hbd => by have := (HDs.out b hbd).1; omega⟩
    | true =>
      go_wp2_with (go_at_call 108; refine (ahead_calls _ _ _).mono ?_; rintro _ w2 ⟨rfl, hw2⟩)
      obtain ⟨w2, hw2⟩ : ∃ y, y = ((W.setCell ⟨ab, 0, none⟩ (.bool false)).alloc (.cells #[.pointer (some ⟨tb, 0, none⟩)] 91)).alloc (.cells #[.int .i64 up] 3) := ⟨_, rfl⟩
      rw [← hw2]
      obtain ⟨tx, htx⟩ : ∃ x, x = W.heap.size := ⟨_, rfl⟩
      rw [← htx]
      have hsz : (W.setCell ⟨ab, 0, none⟩ (.bool false)).heap.size = W.heap.size := by simp [World.setCell]
      have hs2 : w2.heap.size = tx + 1 + 1 := by rw [hw2]; simp [htx, World.setCell]
      have k2 : KpB (fun b => b ≠ ab) W w2 := by rw [hw2]; exact (set_kpb _ (by simp)).trans (((Gr.refl _).alloc _).alloc _).kpb
      have g2 : Gr (W.setCell ⟨ab, 0, none⟩ (.bool false)) w2 := by rw [hw2]; exact ((Gr.refl _).alloc _).alloc _
      have g02 : Gr w0 w2 := gW.kpb_on k2 fun b hb => by omega
      have c0 : w2.cell? ⟨tx, 0, none⟩ = some (.pointer (some ⟨tb, 0, none⟩)) := by rw [hw2, htx]; exact ((Blk.new hsz : Blk ((W.setCell ⟨ab, 0, none⟩ (.bool false)).alloc (.cells #[.pointer (some ⟨tb, 0, none⟩)] 91)) W.heap.size 91 #[.pointer (some ⟨tb, 0, none⟩)]).gr ((Gr.refl _).alloc _)).cell (i := 0) rfl
      have bk : Blk w2 (tx + 1) 3 #[.int .i64 up] := by rw [hw2, htx]; exact Blk.new (by simp [World.setCell])
      have cM2 := cell_kp k2.kp cM (by show w.heap.size ≠ ab; omega)
      have cA2 : w2.cell? ⟨ab, 0, none⟩ = some (.bool false) := cell_gr (World.cell?_setCell_same' W _ _ (by rw [cA]; rfl)) g2
      have fA2 : w2.frozen? ⟨ab, 0, none⟩ = false := (World.frozen?_of_block (g2.below.block ab (by rw [hsz]; exact habl))).trans (by rw [World.frozen?_setCell]; exact fA)
      have d2 : ∀ D ∈ Ds, D < W.heap.size ∧ w2.heap[D]? = some (.deferred (some [])) := fun D hD => by
        have h := (HDs.out D hD).2
        have hl := (Array.getElem?_eq_some_iff.1 h).1
        refine ⟨hl, ?_⟩
        rw [hw2]
        exact (((KeepsOthers.setCell W ⟨ab, 0, none⟩ (.bool false)).trans (KeepsOthers.alloc _ _)).trans (KeepsOthers.alloc _ _)).same D _ h rfl
      have HD2 := Lib.hid d2
      have HS2 := Lib.hid hs2
      have HTX := Lib.hid htx
      have hAA : AheadAt w2 tx tb kn ko kc ks mv := ⟨c0, cell_gr HC2.out g02, HKA.out.kp g02.kp (S := All) trivial⟩
      have hknl : kn < w0.heap.size := cell_block (HKA.out 0 hks).1
      have hgwl := gW.le
      refine (wpIn_wide (n := 5)).1 ?_
      refine wpIn_rangeFunc_S (F := Fence.wide) rfl (by omega) (gf := 155) (lb := #[.pointer (some ⟨tx + 1, 0, none⟩), .pointer (some ⟨tx, 0, none⟩)]) rfl trivial (Go.Proofs.enters_of Try.func155 (by kernel_rfl) rfl)
        (encs := fun j : Nat => #[mv j]) (R := AheadR tx tb kn (tx + 1)) (kb := tx + 1) (S := fun xs => xs = l0) (Sp := fun pre => pre <+: l0) ?hR ?hkb
        (ahead1_seq (5 - 1) (by omega) w2 HCH.out hAA (bk.cell (i := 0) rfl) (bk.frozen 0) ?n1 ?n2 ?n3 ?n4 hlen HUP.out) (fun _ => rfl)
        (fun pre W' => Gr w0 W' ∧ W'.cell? ⟨w.heap.size, 0, none⟩ = some (.slice va 0 vc) ∧ W'.cell? ⟨ab, 0, none⟩ = some (.bool false) ∧ W'.frozen? ⟨ab, 0, none⟩ = false ∧ ∀ D ∈ Ds, W'.heap[D]? = some (.deferred (some [])))
        (fun _ _ _ => False) ?hI ?hIx ?h0 (fun x => { tmps := #[.pointer (some ⟨tb, 0, none⟩), .slice va 0 vc, .int .i64 up, undef, .pointer (some ⟨w.heap.size, 0, none⟩), undef, .slice none 0 0, .pointer (some ⟨ab, 0, none⟩), mv x, u9, .bool true, .pointer (some ⟨tb, 0, none⟩), .int .i64 up, .func (.func 155) #[] #[.pointer (some ⟨tx + 1, 0, none⟩), .pointer (some ⟨tx, 0, none⟩)], mv x, u15, u16, u17, u18, u19, u20, u21, u22, u23, u24, u25, u26, u27, u28, u29, u30, u31, u32, u33, u34, u35, u36, u37, u38, u39, u40, u41, u42, u43, u44, u45, u46, u47, u48, u49, u50, u51, u52], defers := [] }) ?assign ?body ?done ?stop
      case hR => rintro b (rfl | rfl | rfl | rfl) <;> omega
      case hkb => omega
      case n1 => omega
      case n2 => omega
      case n3 => omega
      case n4 => exact ⟨by omega, by omega, by omega, by omega⟩
      case h0 => exact ⟨g02, cM2, cA2, fA2, fun D hD => (HD2.out D hD).2⟩
      case hI =>
        rintro s A B ⟨q1, q3, q4, q5, q6⟩ kk
        have haA : ab < A.heap.size := cell_block q4
        refine ⟨q1.kpb_on kk fun b hb => ⟨by omega, by omega⟩, cell_kp kk.kp q3 ⟨by show w.heap.size < _; omega, by show w.heap.size ≠ _; omega⟩, cell_kp kk.kp q4 ⟨by show ab < _; omega, by show ab ≠ _; omega⟩, ?_, fun D hD => ?_⟩
        · exact (World.frozen?_of_block (kk.kp.block haA ⟨by show ab < _; omega, by show ab ≠ _; omega⟩)).trans q5
        · have h1 := (HD2.out D hD).1
          exact (kk.kp.block (Array.getElem?_eq_some_iff.1 (q6 D hD)).1 ⟨by omega, by omega⟩).trans (q6 D hD)
      case hIx => exact fun c s A B h _ => h
      case assign =>
        clear htx hs2 hw2
        intro l x W K hK
        gi_wp2
        exact hK
      case body =>
        rintro l pre x W3 hW3 ⟨q1, q3, q4, q5, q6⟩ hsp
        have hx : x < ks.length := chain_lt HCH.out x (hsp.subset (by simp))
        have hxn : (ix ks x).mark = [] := List.eq_nil_of_length_eq_zero (HML.out x hx)
        have hIX := (HKM.out x hx).gr q1
        rw [hxn] at hIX
        have HIX := Lib.hid hIX
        have HQ6 := Lib.hid q6
        have HQ := Lib.hid (And.intro q3 (And.intro q4 q5))
        clear htx hs2 hw2 hsz k2 g2 c0 bk cM2 cA2 fA2 d2 hAA hIX q6 cA fA cM hxn
        gi_wp2_with (refine ⟨trivial, ?_⟩; gi_at_call 46; refine (CallsIn.inRound l (callsIn_wide.2 (below_calls _ _ [] [] _ HIX.out (HV.out _) (Nat.le_refl _)))).mono ?_; rw [show belowB [] [] = true from rfl]; rintro _ W4 ⟨rfl, rfl⟩)
        gi_loopw [21] (fun q wr => q = .int .i64 0 ∧ wr = W3) (fun _ _ => 0)
        case atStart => exact ⟨rfl, rfl⟩
        case round =>
          rename World => wr
          obtain ⟨rfl, rfl⟩ := hrel
          gi_wp2
          exact ⟨keepsFrom_gr _ (Gr.refl _), Kp.refl _ _, q1, HQ.out.1, HQ.out.2.1, HQ.out.2.2, HQ6.out⟩
      case done =>
        rintro D ys W3 hD rfl ⟨q1, q3, q4, q5, q6⟩ hK
        have HQ6 := Lib.hid q6
        clear htx hs2 hw2 hsz k2 g2 c0 bk cM2 cA2 fA2 d2 hAA q6 cA fA cM
        go_wp2_with fail
        have h1 := HH1.out (by first | rfl | trivial)
        have gE : Gr W3 (W3.alloc (.cells #[.bool false] 4)) := (Gr.refl _).alloc _
        have bE : Blk (W3.alloc (.cells #[.bool false] 4)) W3.heap.size 4 #[.bool false] := Blk.new rfl
        have hDl := (Array.getElem?_eq_some_iff.1 hK).1
        have hs2 := HS2.out
        have htx := HTX.out
        refine ⟨0, by omega, W3.heap.size, false, D :: Ds, _, _, _, _, _, _, _, _, _, _, _, _, _, _, _, _, _, _, _, _, _, _, _, _, _, _, _, _, _, _, _, _, _, _, _, _, _, _, _, _, _, _, _, _, _, rfl, (fun h => by cases h), cell_gr q3 gE, bE.cell (i := 0) rfl, bE.frozen 0, by omega, q1.trans gE, List.nodup_cons.2 ⟨fun h => by have := (HD2.out D h).1; omega, HND.out⟩, fun D' hD' => ?_⟩
        rcases List.mem_cons.1 hD' with rfl | hD'
        · exact ⟨by omega, (gE.below.block _ hDl).trans hK⟩
        · have h := HQ6.out D' hD'
          exact ⟨(HDs.out D' hD').1, (gE.below.block _ (Array.getElem?_eq_some_iff.1 h).1).trans h⟩
      case stop =>
        rintro D c pre W _ _ h _
        exact h.elim
/-- both: a row of the call's own -/
theorem growB_calls (tb : Nat) (v : Value) (up : Int) (ks : List KnotD) (m : List Int) (w0 w : World) (hT : TreeM w0 tb ks) (hG : Gr w0 w) (hm : OwnI 3 w0.heap.size w v m)
    (hup : UpOk ks) (hks : 0 < ks.length) (hk : up < ks.length) (hlen : ks.length ≤ 1000) (hml : ∀ j, j < ks.length → (ix ks j).mark.length = m.length) (hl16 : m.length ≤ 16) :
    Calls Try.prog 47 #[.pointer (some ⟨tb, 0, none⟩), v, .int .i64 up] w fun e w' => e = .returned v ∧ On (fun b => w0.heap.size ≤ b) (fun w => Ints w v (growF (anc ks up) m)) w' ∧ Gr w0 w' := by
  have hI := hm.ints
  have hI' := hI
  unfold Ints at hI'
  obtain ⟨a, cap, rfl, h1, h2, h3, h4, h5⟩ := hI'
  by_cases h0 : 0 < m.length
  · rcases hm.form with ⟨_, rfl⟩ | ⟨g, cap', hv, hg1, hg2, _, _⟩
    · simp at h0
    · cases hv
      refine (grow_calls tb g cap up ks m w0 w hT hG hm.rowO hg1 ⟨h1, h2⟩ h3 h0 hup hks hk hlen hml hl16).mono ?_
      rintro _ w' ⟨rfl, hr, hg⟩
      have hl := growF_len (anc ks up) m
      have hI64 : ∀ x ∈ growF (anc ks up) m, I64 x := fun x hx => by
        obtain ⟨p, hp, rfl⟩ := List.getElem_of_mem hx
        rcases growF_nth (anc ks up) m p with e | e
        · rw [nth_lt hp, nth_lt (by omega)] at e
          rw [e]; exact h3 _ (List.getElem_mem _)
        · rw [nth_lt hp] at e
          rw [e]; exact (by decide : I64 (-1))
      refine ⟨rfl, ?_, hg⟩
      unfold On
      intro W k
      rw [← hl]
      exact (hr.1.kp k hg1 (cell_block (hr.1.1 0 (by omega)))).ints (by omega) h2 hI64
  · obtain rfl : m = [] := List.eq_nil_of_length_eq_zero (by omega)
    have hv : ∀ W, Ints W (.slice a 0 cap) [] := fun W => by
      unfold Ints
      exact ⟨a, cap, rfl, by simp, h2, by simp, h4, fun i hi => by simp at hi⟩
    refine (grow0_calls tb cap a up ks w0 w hT hG hv hup hks hk hlen hml).mono ?_
    rintro _ w' ⟨rfl, hg⟩
    have hn : growF (anc ks up) [] = [] := List.eq_nil_of_length_eq_zero (growF_len _ _)
    exact ⟨rfl, by unfold On; intro W _; rw [hn]; exact hv W, hg⟩
/-- a row that is not empty stays the call's own -/
theorem growO_calls (tb : Nat) (v : Value) (up : Int) (ks : List KnotD) (m : List Int) (w0 w : World) (hT : TreeM w0 tb ks) (hG : Gr w0 w) (hm : OwnI 3 w0.heap.size w v m) (h0 : 0 < m.length)
    (hup : UpOk ks) (hks : 0 < ks.length) (hk : up < ks.length) (hlen : ks.length ≤ 1000) (hml : ∀ j, j < ks.length → (ix ks j).mark.length = m.length) (hl16 : m.length ≤ 16) :
    Calls Try.prog 47 #[.pointer (some ⟨tb, 0, none⟩), v, .int .i64 up] w fun e w' => e = .returned v ∧ OwnI 3 w0.heap.size w' v (growF (anc ks up) m) ∧ Gr w0 w' := by
  have hI := hm.ints
  have hI' := hI
  unfold Ints at hI'
  obtain ⟨a, cap, rfl, h1, h2, h3, h4, h5⟩ := hI'
  rcases hm.form with ⟨_, rfl⟩ | ⟨g, cap', hv, hg1, hg2, _, _⟩
  · simp at h0
  · cases hv
    refine (grow_calls tb g cap up ks m w0 w hT hG hm.rowO hg1 ⟨h1, h2⟩ h3 h0 hup hks hk hlen hml hl16).mono ?_
    rintro _ w' ⟨rfl, hr, hg⟩
    have hl := growF_len (anc ks up) m
    have hI64 : ∀ x ∈ growF (anc ks up) m, I64 x := fun x hx => by
      obtain ⟨p, hp, rfl⟩ := List.getElem_of_mem hx
      rcases growF_nth (anc ks up) m p with e | e
      · rw [nth_lt hp, nth_lt (by omega)] at e
        rw [e]; exact h3 _ (List.getElem_mem _)
      · rw [nth_lt hp] at e
        rw [e]; exact (by decide : I64 (-1))
    refine ⟨rfl, ?_, hg⟩
    rw [← hl]
    exact hr.own hg1 (by omega) h2 hI64
end Go.Proofs.Ytkanaoebpajbfaa
