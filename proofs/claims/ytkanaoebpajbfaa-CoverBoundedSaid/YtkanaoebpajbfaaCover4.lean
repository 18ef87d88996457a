/- The contract of the tree's grow: passes over the way up, until nothing grows. -/
import Derived.Test.YtkanaoebpajbfaaCover3
import Derived.Test.YtkanaoebpajbfaaGrowL
import Derived.Test.YtkanaoebpajbfaaRowO
import Derived.Test.YtkanaoebpajbfaaRoundQ
import Derived.BigQuiet
namespace Go.Proofs.Ytkanaoebpajbfaa
open Go.RowKit Go.Tok Go.Shelf
set_option linter.unusedVariables false
set_option linter.unusedSimpArgs false
attribute [local go_sem] Oper.semAt_some
def markD (D : Nat) : Deferred := { target := .collected D, args := #[] }
theorem leaves_marks {F : Fence} {n : Nat} {P : Program} {fn : Func} {tmps : Array Value} {R : Ending → World → Prop} : ∀ (Ds : List Nat) (W : World), Ds.Nodup → (∀ D ∈ Ds, W.heap[D]? = some (.deferred (some []))) →
    (∀ W', KpB (fun b => b ∉ Ds) W W' → LeavesInM F n P fn tmps R [] .returning W') → LeavesInM F n P fn tmps R (Ds.map markD) .returning W := by
  intro Ds
  induction Ds with
  | nil => intro W _ _ h; exact h W (KpB.refl _ _)
  | cons D Ds ih =>
    intro W hnd hD h
    rw [List.nodup_cons] at hnd
    refine ⟨by simp, .inl ⟨D, W.putObj D (.deferred none), rfl, run_takeDeferred (hD D (by simp)), ?_⟩⟩
    refine ih _ hnd.2 (fun D' hD' => ?_) fun W' k => h W' ?_
    · rw [World.putObj_heap_other (fun e => hnd.1 (by rw [← e]; exact hD'))]
      exact hD D' (by simp [hD'])
    · exact (put_kpb (S := fun b => b ∉ D :: Ds) _ (fun hb => hb (by simp))).trans (k.mono fun b _ hb => fun hb' => hb (by simp [hb']))
theorem keepsOthers_gr {A B : World} (g : Gr A B) : KeepsOthers A B := ⟨g.le, fun k o hk _ => (g.below.block k (Array.getElem?_eq_some_iff.1 hk).1).trans hk⟩
theorem i64_pass {rs : List (List Int)} {m : List Int} (h : ∀ x ∈ m, I64 x) : ∀ x ∈ growPass rs m, I64 x := by
  intro x hx
  obtain ⟨p, hp, rfl⟩ := List.getElem_of_mem hx
  have hl := growPass_len rs m
  rcases growPass_nth rs m p with e | e
  · rw [nth_lt hp, nth_lt (by omega)] at e
    rw [e]; exact h _ (List.getElem_mem _)
  · rw [nth_lt hp] at e
    rw [e]; exact (by decide : I64 (-1))
set_option maxRecDepth 100000 in
set_option maxHeartbeats 4000000 in
theorem grow_calls (tb g cap : Nat) (up : Int) (ks : List KnotD) (m : List Int) (w0 w : World) (hT : TreeM w0 tb ks) (hG : Gr w0 w) (hm : RowO 3 cap w g m) (hg : w0.heap.size ≤ g) (hcap : m.length ≤ cap ∧ cap ≤ maxLen) (hmI : ∀ x ∈ m, I64 x) (hm0 : 0 < m.length)
    (hup : UpOk ks) (hks : 0 < ks.length) (hk : up < ks.length) (hlen : ks.length ≤ 1000) (hml : ∀ j, j < ks.length → (ix ks j).mark.length = m.length) (hl16 : m.length ≤ 16) :
    Calls Try.prog 47 #[.pointer (some ⟨tb, 0, none⟩), .slice (some ⟨g, 0, none⟩) m.length cap, .int .i64 up] w fun e w' => e = .returned (.slice (some ⟨g, 0, none⟩) m.length cap) ∧ RowO 3 cap w' g (growF (anc ks up) m) ∧ Gr w0 w' := by
  obtain ⟨kn, ko, kc, hc2, hR⟩ := hT
  obtain ⟨mv, hKA, hKM⟩ := hR.knots
  obtain ⟨l0, hch, hanc⟩ := chain_anc hup hk
  refine (callsIn_wide (n := 5)).1 ?_
  refine callsIn_of_wp_marks Try.func47 rfl trivial ?_ rfl
  simp only [Try.ntmps47, List.size_toArray, List.length_cons, List.length_nil, Nat.reduceAdd, Nat.reduceSub, Array.replicate_succ, Array.replicate_zero, List.push_toArray, List.append_toArray, List.nil_append, List.cons_append]
  refine wpIn_wide.2 (calm_wp ?_)
  have HKM := Lib.hid hKM
  have HCH := Lib.hid hch
  have HAN := Lib.hid hanc
  have HKA := Lib.hid hKA
  have htbl : tb < w0.heap.size := cell_block hc2
  have hw0 := hG.le
  have hgl : g < w.heap.size := cell_block (hm.1.1 0 hm0)
  have HC2 := Lib.hid hc2
  have HUP := Lib.hid hup
  have HML := Lib.hid hml
  have HMI := Lib.hid hmI
  clear hKM hch hanc hKA hc2 hR hup hml hmI
  go_wp2_with fail
  obtain ⟨wz, hwz⟩ : ∃ y, y = (w.alloc (.cells #[.slice (some ⟨g, 0, none⟩) m.length cap] 25)).alloc (.cells #[.bool true] 4) := ⟨_, rfl⟩
  rw [← hwz]
  have GZ : Gr w wz := by rw [hwz]; exact ((Gr.refl w).alloc _).alloc _
  have bM : Blk wz w.heap.size 25 #[.slice (some ⟨g, 0, none⟩) m.length cap] := by rw [hwz]; exact (Blk.new rfl).gr ((Gr.refl _).alloc _)
  have bA : Blk wz (w.heap.size + 1) 4 #[.bool true] := by rw [hwz]; exact Blk.new (by simp)
  have hRZ : RowO 3 cap wz g m := hm.kp GZ.kp (S := All) trivial hgl
  refine wp_loop_by (fun f a W => ∃ (ab : Nat) (m' : List Int) (fl : Bool) (Ds : List Nat) (u8 u9 u10 u11 u12 u13 u14 u15 u16 u17 u18 u19 u20 u21 u22 u23 u24 u25 u26 u27 u28 u29 u30 u31 u32 u33 u34 u35 u36 u37 u38 u39 u40 u41 u42 u43 u44 u45 u46 u47 u48 u49 u50 u51 u52 : Value), a = { tmps := #[.pointer (some ⟨tb, 0, none⟩), .slice (some ⟨g, 0, none⟩) m.length cap, .int .i64 up, undef, .pointer (some ⟨w.heap.size, 0, none⟩), undef, .slice none 0 0, .pointer (some ⟨ab, 0, none⟩), u8, u9, u10, u11, u12, u13, u14, u15, u16, u17, u18, u19, u20, u21, u22, u23, u24, u25, u26, u27, u28, u29, u30, u31, u32, u33, u34, u35, u36, u37, u38, u39, u40, u41, u42, u43, u44, u45, u46, u47, u48, u49, u50, u51, u52], defers := Ds.map markD } ∧
      (fl = true → growN (anc ks up) f m' = growF (anc ks up) m ∧ cnt m' < f) ∧ (fl = false → m' = growF (anc ks up) m) ∧ m'.length = m.length ∧ (∀ x ∈ m', I64 x) ∧ RowO 3 cap W g m' ∧ W.cell? ⟨w.heap.size, 0, none⟩ = some (.slice (some ⟨g, 0, none⟩) m.length cap) ∧
      W.cell? ⟨ab, 0, none⟩ = some (.bool fl) ∧ W.frozen? ⟨ab, 0, none⟩ = false ∧ w.heap.size < ab ∧ Gr w0 W ∧ Ds.Nodup ∧ ∀ D ∈ Ds, w0.heap.size ≤ D ∧ W.heap[D]? = some (.deferred (some []))) (m.length + 1) ?start ?round
  case start =>
    exact ⟨w.heap.size + 1, m, true, [], _, _, _, _, _, _, _, _, _, _, _, _, _, _, _, _, _, _, _, _, _, _, _, _, _, _, _, _, _, _, _, _, _, _, _, _, _, _, _, _, _, _, _, _, _, rfl, fun _ => ⟨rfl, by have := cnt_le_len m; omega⟩, (fun h => by cases h), rfl, HMI.out, hRZ, bM.cell (i := 0) rfl, bA.cell (i := 0) rfl, bA.frozen 0, Nat.lt_succ_self _, hG.trans GZ, List.nodup_nil, fun D hD => by cases hD⟩
  case round =>
    clear hwz bM bA hRZ hm GZ
    rintro f a W ⟨ab, m', fl, Ds, u8, u9, u10, u11, u12, u13, u14, u15, u16, u17, u18, u19, u20, u21, u22, u23, u24, u25, u26, u27, u28, u29, u30, u31, u32, u33, u34, u35, u36, u37, u38, u39, u40, u41, u42, u43, u44, u45, u46, u47, u48, u49, u50, u51, u52, rfl, h1, h2, hml', hI', hRow, cM, cA, fA, hab, gW, hnd, hDs⟩
    have habl : ab < W.heap.size := cell_block cA
    have HH1 := Lib.hid h1
    have HH2 := Lib.hid h2
    have HRow := Lib.hid hRow
    have HDs := Lib.hid hDs
    have HND := Lib.hid hnd
    have HI := Lib.hid hI'
    clear h1 h2 hRow hDs hnd hI'
    cases fl with
    | false =>
      go_wp2_with fail
      have hgD : g ∉ Ds := fun hgd => by
        obtain ⟨o, ho, hc⟩ := cells_of_cell (HRow.out.1.1 0 (by omega))
        rw [(HDs.out g hgd).2] at ho
        cases ho; cases hc
      refine leaves_marks Ds W HND.out (fun D hD => (HDs.out D hD).2) fun W' kk => ?_
      refine ⟨_, results_tmp rfl _ _ _, rfl, ?_, gW.kpb_on kk fun b hb hbd => by have := (HDs.out b hbd).1; omega⟩
      rw [← HH2.out (by first | rfl | trivial)]
      exact HRow.out.kp kk.kp hgD (cell_block (HRow.out.1.1 0 (by omega)))
    | true =>
      go_wp2_with (go_at_call 108; refine (ahead_calls _ _ _).mono ?_; rintro _ w2 ⟨rfl, hw2⟩)
      obtain ⟨w2, hw2⟩ : ∃ y, y = ((W.setCell ⟨ab, 0, none⟩ (.bool false)).alloc (.cells #[.pointer (some ⟨tb, 0, none⟩)] 91)).alloc (.cells #[.int .i64 up] 3) := ⟨_, rfl⟩
      rw [← hw2]
      obtain ⟨tx, htx⟩ : ∃ x, x = W.heap.size := ⟨_, rfl⟩
      rw [← htx]
      have hsz : (W.setCell ⟨ab, 0, none⟩ (.bool false)).heap.size = W.heap.size := by simp [World.setCell]
      have hs2 : w2.heap.size = tx + 1 + 1 := by rw [hw2]; simp [htx, World.setCell]
      have k2 : KpB (fun b => b ≠ ab) W w2 := by rw [hw2]; exact (set_kpb _ (by simp)).trans (((Gr.refl _).alloc _).alloc _).kpb
      have g2 : Gr (W.setCell ⟨ab, 0, none⟩ (.bool false)) w2 := by rw [hw2]; exact ((Gr.refl _).alloc _).alloc _
      have g02 : Gr w0 w2 := gW.kpb_on k2 fun b hb => by omega
      have hneg : g ≠ ab := by omega
      have c0 : w2.cell? ⟨tx, 0, none⟩ = some (.pointer (some ⟨tb, 0, none⟩)) := by rw [hw2, htx]; exact ((Blk.new hsz : Blk ((W.setCell ⟨ab, 0, none⟩ (.bool false)).alloc (.cells #[.pointer (some ⟨tb, 0, none⟩)] 91)) W.heap.size 91 #[.pointer (some ⟨tb, 0, none⟩)]).gr ((Gr.refl _).alloc _)).cell (i := 0) rfl
      have bk : Blk w2 (tx + 1) 3 #[.int .i64 up] := by rw [hw2, htx]; exact Blk.new (by simp [World.setCell])
      have r2 := HRow.out.kp k2.kp hneg (by omega)
      have cM2 := cell_kp k2.kp cM (by show w.heap.size ≠ ab; omega)
      have cA2 : w2.cell? ⟨ab, 0, none⟩ = some (.bool false) := cell_gr (World.cell?_setCell_same' W _ _ (by rw [cA]; rfl)) g2
      have fA2 : w2.frozen? ⟨ab, 0, none⟩ = false := (World.frozen?_of_block (g2.below.block ab (by rw [hsz]; exact habl))).trans (by rw [World.frozen?_setCell]; exact fA)
      have d2 : ∀ D ∈ Ds, D < W.heap.size ∧ w2.heap[D]? = some (.deferred (some [])) := fun D hD => by
        have h := (HDs.out D hD).2
        have hl := (Array.getElem?_eq_some_iff.1 h).1
        refine ⟨hl, ?_⟩
        rw [hw2]
        exact (((KeepsOthers.setCell W ⟨ab, 0, none⟩ (.bool false)).trans (KeepsOthers.alloc _ _)).trans (KeepsOthers.alloc _ _)).same D _ h rfl
      have HD2 := Lib.hid d2
      have HS2 := Lib.hid hs2
      have HTX := Lib.hid htx
      have hAA : AheadAt w2 tx tb kn ko kc ks mv := ⟨c0, cell_gr HC2.out g02, HKA.out.kp g02.kp (S := All) trivial⟩
      have hknl : kn < w0.heap.size := by
        exact cell_block (HKA.out 0 hks).1
      have hgwl := gW.le
      refine (wpIn_wide (n := 5)).1 ?_
      refine wpIn_rangeFunc_S (F := Fence.wide) rfl (by omega) (gf := 155) (lb := #[.pointer (some ⟨tx + 1, 0, none⟩), .pointer (some ⟨tx, 0, none⟩)]) rfl trivial (Go.Proofs.enters_of Try.func155 (by kernel_rfl) rfl)
        (encs := fun j : Nat => #[mv j]) (R := AheadR tx tb kn (tx + 1)) (kb := tx + 1) (S := fun xs => xs = l0) (Sp := fun pre => pre <+: l0) ?hR ?hkb
        (ahead1_seq (5 - 1) (by omega) w2 HCH.out hAA (bk.cell (i := 0) rfl) (bk.frozen 0) ?n1 ?n2 ?n3 ?n4 hlen HUP.out) (fun _ => rfl)
        (fun pre W' => Gr w0 W' ∧ RowO 3 cap W' g (growPass (pre.map fun j => (ix ks j).mark) m') ∧ W'.cell? ⟨w.heap.size, 0, none⟩ = some (.slice (some ⟨g, 0, none⟩) m.length cap) ∧ W'.cell? ⟨ab, 0, none⟩ = some (.bool (decide (growPass (pre.map fun j => (ix ks j).mark) m' ≠ m'))) ∧ W'.frozen? ⟨ab, 0, none⟩ = false ∧ ∀ D ∈ Ds, W'.heap[D]? = some (.deferred (some [])))
        (fun _ _ _ => False) ?hI ?hIx ?h0 (fun x => { tmps := #[.pointer (some ⟨tb, 0, none⟩), .slice (some ⟨g, 0, none⟩) m.length cap, .int .i64 up, undef, .pointer (some ⟨w.heap.size, 0, none⟩), undef, .slice none 0 0, .pointer (some ⟨ab, 0, none⟩), mv x, u9, .bool true, .pointer (some ⟨tb, 0, none⟩), .int .i64 up, .func (.func 155) #[] #[.pointer (some ⟨tx + 1, 0, none⟩), .pointer (some ⟨tx, 0, none⟩)], mv x, u15, u16, u17, u18, u19, u20, u21, u22, u23, u24, u25, u26, u27, u28, u29, u30, u31, u32, u33, u34, u35, u36, u37, u38, u39, u40, u41, u42, u43, u44, u45, u46, u47, u48, u49, u50, u51, u52], defers := [] }) ?assign ?body ?done ?stop
      case hR => rintro b (rfl | rfl | rfl | rfl) <;> omega
      case hkb => omega
      case n1 => omega
      case n2 => omega
      case n3 => omega
      case n4 => exact ⟨by omega, by omega, by omega, by omega⟩
      case h0 => exact ⟨g02, by simpa [growPass] using r2, cM2, by simpa [growPass] using cA2, fA2, fun D hD => (HD2.out D hD).2⟩
      case hI =>
        rintro s A B ⟨q1, q2, q3, q4, q5, q6⟩ kk
        have hgA : g < A.heap.size := cell_block (q2.1.1 0 (by rw [growPass_len]; omega))
        have haA : ab < A.heap.size := cell_block q4
        refine ⟨q1.kpb_on kk fun b hb => ⟨by omega, by omega⟩, q2.kp kk.kp ⟨by omega, by omega⟩ hgA, cell_kp kk.kp q3 ⟨by show w.heap.size < _; omega, by show w.heap.size ≠ _; omega⟩, cell_kp kk.kp q4 ⟨by show ab < _; omega, by show ab ≠ _; omega⟩, ?_, fun D hD => ?_⟩
        · exact (World.frozen?_of_block (kk.kp.block haA ⟨by show ab < _; omega, by show ab ≠ _; omega⟩)).trans q5
        · have h1 := (HD2.out D hD).1
          exact (kk.kp.block (Array.getElem?_eq_some_iff.1 (q6 D hD)).1 ⟨by omega, by omega⟩).trans (q6 D hD)
      case hIx => exact fun c s A B h _ => h
      case assign =>
        clear htx hs2 hw2
        intro l x W K hK
        gi_wp2
        exact hK
      case body =>
        rintro l pre x W3 hW3 ⟨q1, q2, q3, q4, q5, q6⟩ hsp
        have hx : x < ks.length := chain_lt HCH.out x (hsp.subset (by simp))
        obtain ⟨mm, hmm⟩ : ∃ mm, mm = growPass (pre.map fun j => (ix ks j).mark) m' := ⟨_, rfl⟩
        rw [← hmm] at q2 q4
        obtain ⟨b0, hb0⟩ : ∃ b, b = decide (mm ≠ m') := ⟨_, rfl⟩
        rw [← hb0] at q4
        have hmml : mm.length = m.length := by rw [hmm, growPass_len]; exact hml'
        have hmmI : ∀ y ∈ mm, I64 y := by rw [hmm]; exact i64_pass HI.out
        have hxl : (ix ks x).mark.length = m.length := HML.out x hx
        have hIM : Ints W3 (.slice (some ⟨g, 0, none⟩) m.length cap) mm := by rw [← hmml]; exact q2.1.ints (by omega) hcap.2 hmmI
        have hIX := (HKM.out x hx).gr q1
        have hnext : growPass ((pre ++ [x]).map fun j => (ix ks j).mark) m' = growRow (ix ks x).mark mm := by rw [List.map_append, List.map_cons, List.map_nil, pass_snoc, ← hmm]
        have hflag : decide (growPass ((pre ++ [x]).map fun j => (ix ks j).mark) m' ≠ m') = (b0 || decide (growRow (ix ks x).mark mm ≠ mm)) := by rw [List.map_append, List.map_cons, List.map_nil, ← pass_flag, ← hmm, ← hb0]
        have HNX := Lib.hid hnext
        have HFL := Lib.hid hflag
        have HIM := Lib.hid hIM
        have HIX := Lib.hid hIX
        have HQ2 := Lib.hid q2
        have HQ6 := Lib.hid q6
        have HML2 := Lib.hid hmml
        have HXL := Lib.hid hxl
        clear htx hs2 hw2 hsz k2 g2 c0 bk r2 cM2 cA2 fA2 d2 hAA hnext hflag hIM hIX hmm hb0 hmmI hmml q6 cA fA cM hml' hxl
        rcases hb : belowB (ix ks x).mark mm with _ | _
        · have HB := Lib.hid hb
          gi_wp2_with (refine ⟨trivial, ?_⟩; gi_at_call 46; refine (CallsIn.inRound l (callsIn_wide.2 (below_calls _ _ (ix ks x).mark mm _ HIX.out HIM.out (by rw [HXL.out, HML2.out]; exact Nat.le_refl _)))).mono ?_; rw [HB.out]; rintro _ W4 ⟨rfl, rfl⟩)
          exact ⟨keepsFrom_gr _ (Gr.refl _), Kp.refl _ _, q1, by rw [HNX.out, growRow_no HB.out]; exact HQ2.out, q3, by rw [HFL.out, growRow_no HB.out]; simpa using q4, q5, HQ6.out⟩
        · have HB := Lib.hid hb
          obtain ⟨pa, pc, hmv, -, -⟩ := HIX.out.len
          rw [HXL.out] at hmv
          have HMV := Lib.hid hmv
          rw [hmv]
          clear hmv hb
          gi_wp2_with (refine ⟨trivial, ?_⟩; gi_at_call 46; refine (CallsIn.inRound l (callsIn_wide.2 (below_calls _ _ (ix ks x).mark mm _ (by rw [← HMV.out]; exact HIX.out) HIM.out (by rw [HXL.out, HML2.out]; exact Nat.le_refl _)))).mono ?_; rw [HB.out]; rintro _ W4 ⟨rfl, rfl⟩)
          gi_loopw [21] (fun q wr => ∃ k : Nat, k ≤ m.length ∧ q = .int .i64 k ∧ RowO 3 cap wr g (mixG (ix ks x).mark mm k) ∧ wr.cell? ⟨ab, 0, none⟩ = some (.bool (b0 || growAny (ix ks x).mark mm k)) ∧ wr.frozen? ⟨ab, 0, none⟩ = false ∧ KpB (fun b => b ≠ g ∧ b ≠ ab) W3 wr ∧ KeepsOthers W3 wr) (fun q _ => m.length - (intOf q).toNat)
          case atStart => exact ⟨0, Nat.zero_le _, rfl, by rw [mixG_zero]; exact HQ2.out, by rw [growAny_zero]; simpa using q4, q5, KpB.refl _ _, KeepsOthers.refl _⟩
          case round =>
            rename World => wr
            obtain ⟨k, hk', rfl, hr, ha, hfa, hkb, hko⟩ := hrel
            by_cases hlt : k < m.length
            · have gwr : Gr w0 wr := q1.kpb_on hkb fun b hb => ⟨by omega, by omega⟩
              have cMr := cell_kp hkb.kp q3 ⟨by show w.heap.size ≠ g; omega, by show w.heap.size ≠ ab; omega⟩
              have hIXr : Ints wr (.slice pa m.length pc) (ix ks x).mark := by rw [← HMV.out]; exact (HKM.out x hx).gr gwr
              obtain ⟨xb, xo, rfl, X0⟩ := hIXr.cell (i := k) (by rw [HXL.out]; exact hlt)
              have R0 := hr.1.1 k (by rw [mixG_len, HML2.out]; exact hlt)
              rw [mixG_at _ (by rw [HML2.out]; exact hlt)] at R0
              have RF := hr.1.2 k
              obtain ⟨A, hA⟩ : ∃ A, A = nth mm k := ⟨_, rfl⟩
              obtain ⟨B, hB⟩ : ∃ B, B = nth (ix ks x).mark k := ⟨_, rfl⟩
              rw [← hA] at R0
              rw [← hB] at X0
              have hkI : (k : Int) < (m.length : Int) := by omega
              have hk0 : (0 : Int) ≤ (k : Int) := by omega
              have HR := Lib.hid hr
              have HK := Lib.hid hkb
              have HO := Lib.hid hko
              have HA := Lib.hid ha
              have hga : growsAt (ix ks x).mark mm k = (!decide (A = -1) && (decide (B < A) && !decide (B = -1))) := by unfold growsAt; rw [← hA, ← hB]
              have HGA := Lib.hid hga
              have HSU := Lib.hid (growAny_succ (ix ks x).mark mm k)
              have hmx : Try.prog.follows .mixedOrders = true := by kernel_rfl
              clear hr hkb hko gwr hIXr hA hB hga q1 q2 q3 q4 q5
              by_cases e1 : A = -1
              · have t1 : (A != -1) = false := by simpa using e1
                have hgf : growsAt (ix ks x).mark mm k = false := by rw [HGA.out]; simp [e1]
                have HS := Lib.hid (mixG_skip (x := (ix ks x).mark) (m := mm) (k := k) (by rw [HML2.out]; exact hlt) hgf)
                have HSA := Lib.hid (show (b0 || growAny (ix ks x).mark mm (k + 1)) = (b0 || growAny (ix ks x).mark mm k) by rw [HSU.out, hgf]; simp)
                clear hgf
                gi_wp2
                refine round_quiet (by kernel_rfl) (by kernel_rfl) (by kernel_rfl) ?_
                repeat (go_big_quiet_step (fail))
                refine wpQuiet_nil ?_
                intro _ hw'
                obtain ⟨nq, hw''⟩ := hw'
                subst hw''
                gi_wp2
                have gq : Gr wr (wr.drewN nq) := (Gr.refl _).drewN nq
                refine ⟨⟨k + 1, by omega, by go_num, by rw [HS.out]; exact HR.out.kp gq.kp (S := All) trivial (cell_block R0), by rw [HSA.out]; exact cell_gr HA.out gq, (World.frozen?_of_block (gq.below.block _ (cell_block HA.out))).trans hfa, HK.out.trans gq.kpb, HO.out.trans (keepsOthers_gr gq)⟩, by simp [intOf]; omega⟩
              · have t1 : (A != -1) = true := by simpa using e1
                by_cases e2 : B < A
                · have t2 : decide (B < A) = true := by simpa using e2
                  by_cases e3 : B = -1
                  · have t3 : (B != -1) = false := by simpa using e3
                    have hgf : growsAt (ix ks x).mark mm k = false := by rw [HGA.out]; simp [e3]
                    clear e3
                    have HS := Lib.hid (mixG_skip (x := (ix ks x).mark) (m := mm) (k := k) (by rw [HML2.out]; exact hlt) hgf)
                    have HSA := Lib.hid (show (b0 || growAny (ix ks x).mark mm (k + 1)) = (b0 || growAny (ix ks x).mark mm k) by rw [HSU.out, hgf]; simp)
                    clear hgf
                    gi_wp2
                    refine round_quiet (by kernel_rfl) (by kernel_rfl) (by kernel_rfl) ?_
                    repeat (go_big_quiet_step (fail))
                    refine wpQuiet_nil ?_
                    intro _ hw'
                    obtain ⟨nq, hw''⟩ := hw'
                    subst hw''
                    gi_wp2
                    have gq : Gr wr (wr.drewN nq) := (Gr.refl _).drewN nq
                    refine ⟨⟨k + 1, by omega, by go_num, by rw [HS.out]; exact HR.out.kp gq.kp (S := All) trivial (cell_block R0), by rw [HSA.out]; exact cell_gr HA.out gq, (World.frozen?_of_block (gq.below.block _ (cell_block HA.out))).trans hfa, HK.out.trans gq.kpb, HO.out.trans (keepsOthers_gr gq)⟩, by simp [intOf]; omega⟩
                  · have t3 : (B != -1) = true := by simpa using e3
                    have hgt : growsAt (ix ks x).mark mm k = true := by rw [HGA.out]; simp [e1, e2, e3]
                    have HS := Lib.hid (mixG_set (x := (ix ks x).mark) (m := mm) (k := k) (by rw [HML2.out]; exact hlt) hgt)
                    have HSA := Lib.hid (show (b0 || growAny (ix ks x).mark mm (k + 1)) = true by rw [HSU.out, hgt]; simp)
                    clear hgt e1 e3 ha
                    have haC := HA.out
                    gi_wp2
                    refine round_quiet (by kernel_rfl) (by kernel_rfl) (by kernel_rfl) ?_
                    repeat (go_big_quiet_step (fail))
                    refine wpQuiet_nil ?_
                    intro _ hw'
                    obtain ⟨nq, hw''⟩ := hw'
                    subst hw''
                    gi_wp2
                    have gq : Gr wr (wr.drewN nq) := (Gr.refl _).drewN nq
                    have r1 := (HR.out.kp gq.kp (S := All) trivial (cell_block R0)).set (k := k) (by rw [mixG_len, HML2.out]; exact hlt) (-1)
                    rw [HS.out] at r1
                    have r2 := r1.kp (set_kp (S := fun b => b ≠ ab) (a := ⟨ab, 0, none⟩) (by simp) (.bool true)) hneg (by have := cell_block (r1.1.1 0 (by rw [mixG_len, HML2.out]; omega)); exact this)
                    have k1 := ((HK.out.trans gq.kpb).trans (set_kpb (S := fun b => b ≠ g ∧ b ≠ ab) (W := wr.drewN nq) (a := ⟨g, k, none⟩) (.int .i64 (-1)) (by simp))).trans (set_kpb (S := fun b => b ≠ g ∧ b ≠ ab) (a := ⟨ab, 0, none⟩) (.bool true) (by simp))
                    have ca1 : ((wr.drewN nq).setCell ⟨g, k, none⟩ (.int .i64 (-1))).cell? ⟨ab, 0, none⟩ = some (.bool (b0 || growAny (ix ks x).mark mm k)) := cell_kp (set_kp (S := fun b => b ≠ g) (a := ⟨g, k, none⟩) (by simp) _) (cell_gr HA.out gq) (by show ab ≠ g; omega)
                    refine ⟨⟨k + 1, by omega, by go_num, r2, by rw [HSA.out]; exact World.cell?_setCell_same' _ _ _ (by rw [ca1]; rfl), ?_, k1, ((HO.out.trans (keepsOthers_gr gq)).trans (KeepsOthers.setCell _ _ _)).trans (KeepsOthers.setCell _ _ _)⟩, by simp [intOf]; omega⟩
                    rw [World.frozen?_setCell, World.frozen?_setCell]
                    exact (World.frozen?_of_block (gq.below.block _ (cell_block HA.out))).trans hfa
                · have t2 : decide (B < A) = false := by simpa using e2
                  have hgf : growsAt (ix ks x).mark mm k = false := by rw [HGA.out]; simp [e2]
                  have HS := Lib.hid (mixG_skip (x := (ix ks x).mark) (m := mm) (k := k) (by rw [HML2.out]; exact hlt) hgf)
                  have HSA := Lib.hid (show (b0 || growAny (ix ks x).mark mm (k + 1)) = (b0 || growAny (ix ks x).mark mm k) by rw [HSU.out, hgf]; simp)
                  clear hgf
                  gi_wp2
                  refine round_quiet (by kernel_rfl) (by kernel_rfl) (by kernel_rfl) ?_
                  repeat (go_big_quiet_step (fail))
                  refine wpQuiet_nil ?_
                  intro _ hw'
                  obtain ⟨nq, hw''⟩ := hw'
                  subst hw''
                  gi_wp2
                  have gq : Gr wr (wr.drewN nq) := (Gr.refl _).drewN nq
                  refine ⟨⟨k + 1, by omega, by go_num, by rw [HS.out]; exact HR.out.kp gq.kp (S := All) trivial (cell_block R0), by rw [HSA.out]; exact cell_gr HA.out gq, (World.frozen?_of_block (gq.below.block _ (cell_block HA.out))).trans hfa, HK.out.trans gq.kpb, HO.out.trans (keepsOthers_gr gq)⟩, by simp [intOf]; omega⟩
            · obtain rfl : k = m.length := by omega
              have gwr : Gr w0 wr := q1.kpb_on hkb fun b hb => ⟨by omega, by omega⟩
              have cMr := cell_kp hkb.kp q3 ⟨by show w.heap.size ≠ g; omega, by show w.heap.size ≠ ab; omega⟩
              have hml3 : m.length = mm.length := HML2.out.symm
              have hany : (b0 || growAny (ix ks x).mark mm m.length) = (b0 || decide (growRow (ix ks x).mark mm ≠ mm)) := by rw [hml3, growAny_all HB.out]
              have hall : mixG (ix ks x).mark mm m.length = growRow (ix ks x).mark mm := by rw [hml3, mixG_all HB.out]
              have HANY := Lib.hid hany
              have HALL := Lib.hid hall
              have HR := Lib.hid hr
              have HK := Lib.hid hkb
              have HO := Lib.hid hko
              have HA := Lib.hid ha
              have HMR := Lib.hid cMr
              clear hany hall hr hkb hko ha hml3 cMr q3 q4
              gi_wp2
              refine ⟨HO.out.from _, HK.out.kp.mono ?_, gwr, by rw [HNX.out, ← HALL.out]; exact HR.out, HMR.out, by rw [HFL.out, ← HANY.out]; exact HA.out, hfa, fun D hD => HO.out.same D _ (HQ6.out D hD) rfl⟩
              rintro b hbl (rfl | rfl | rfl | rfl)
              all_goals (have htx := HTX.out; exact ⟨by omega, by omega⟩)
      case done =>
        rintro D ys W3 hD rfl ⟨q1, q2, q3, q4, q5, q6⟩ hK
        rw [HAN.out] at q2 q4
        obtain ⟨m2, hm2⟩ : ∃ m2, m2 = growPass (anc ks up) m' := ⟨_, rfl⟩
        rw [← hm2] at q2 q4
        obtain ⟨fl2, hfl⟩ : ∃ b, b = decide (m2 ≠ m') := ⟨_, rfl⟩
        rw [← hfl] at q4
        have HQ2 := Lib.hid q2
        have HQ6 := Lib.hid q6
        have HM2 := Lib.hid hm2
        have HFL := Lib.hid hfl
        clear htx hs2 hw2 hsz k2 g2 c0 bk r2 cM2 cA2 fA2 d2 hAA hm2 hfl q6 cA fA cM
        go_wp2_with fail
        have h1 := HH1.out (by first | rfl | trivial)
        have hf : f - 1 + 1 = f := by omega
        have hstep : (if m2 = m' then m' else growN (anc ks up) (f - 1) m2) = growF (anc ks up) m := by rw [HM2.out, ← growN_step, hf]; exact h1.1
        have hc := cnt_pass (anc ks up) m'
        rw [← HM2.out] at hc
        have gE : Gr W3 (W3.alloc (.cells #[.bool fl2] 4)) := (Gr.refl _).alloc _
        have bE : Blk (W3.alloc (.cells #[.bool fl2] 4)) W3.heap.size 4 #[.bool fl2] := Blk.new rfl
        have hDl := (Array.getElem?_eq_some_iff.1 hK).1
        have hs2 := HS2.out
        have htx := HTX.out
        refine ⟨f - 1, by omega, W3.heap.size, m2, fl2, D :: Ds, _, _, _, _, _, _, _, _, _, _, _, _, _, _, _, _, _, _, _, _, _, _, _, _, _, _, _, _, _, _, _, _, _, _, _, _, _, _, _, _, _, _, _, _, _, rfl, fun h => ?_, fun h => ?_, by rw [HM2.out, growPass_len]; exact hml', by rw [HM2.out]; exact i64_pass HI.out, HQ2.out.kp gE.kp (S := All) trivial (by omega), cell_gr q3 gE, bE.cell (i := 0) rfl, bE.frozen 0, by omega, q1.trans gE, List.nodup_cons.2 ⟨fun h => by have := (HD2.out D h).1; omega, HND.out⟩, fun D' hD' => ?_⟩
        · have hne : m2 ≠ m' := by rw [HFL.out] at h; simpa using h
          rw [if_neg hne] at hstep
          exact ⟨hstep, by have := hc.2 hne; omega⟩
        · have he : m2 = m' := by rw [HFL.out] at h; simpa using h
          rw [if_pos he] at hstep
          rw [he]; exact hstep
        · rcases List.mem_cons.1 hD' with rfl | hD'
          · exact ⟨by omega, (gE.below.block _ hDl).trans hK⟩
          · have h := HQ6.out D' hD'
            exact ⟨(HDs.out D' hD').1, (gE.below.block _ (Array.getElem?_eq_some_iff.1 h).1).trans h⟩
      case stop =>
        rintro D c pre W _ _ h _
        exact h.elim
end Go.Proofs.Ytkanaoebpajbfaa
