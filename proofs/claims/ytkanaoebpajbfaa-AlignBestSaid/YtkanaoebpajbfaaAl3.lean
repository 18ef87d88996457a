/- Contract of the aligner's leave: a spot tells of all its moves. -/
import Derived.Test.YtkanaoebpajbfaaAl2
import Derived.Deep.RegionHeld3
import Derived.Deep.DeepCutAuto
namespace Go.Proofs.Ytkanaoebpajbfaa
open Go.RowKit Go.Tok
set_option linter.unusedVariables false
variable {N : NetD} {na : Option Addr} {nc : Nat} {A : SpaceD} {ma : Option Addr} {mc : Nat} {aa : Option Addr} {ac : Nat} {tr : List Int} {ta : Option Addr} {tc : Nat} {w0 w w' : World} {ab mb : Nat} {kvs : Kvs} {D : List SpotD}
theorem offer_at (s : SpotD) (x : StpD) {i1 i2 i3 i4 i5 i6 i7 i8 : Int} (hs : s.seen ≤ 1000000 ∧ s.mark ≤ 1000000) (h : AlS N na nc A ma mc aa ac tr ta tc w0 ab mb w kvs)
    (h1 : i1 = (s.seen : Int)) (h2 : i2 = (s.mark : Int)) (h3 : i3 = (x.cost : Int)) (h4 : i4 = (x.src.seen : Int)) (h5 : i5 = (x.src.mark : Int)) (h6 : i6 = x.move.kind) (h7 : i7 = x.move.label) (h8 : i8 = x.move.tran) (h9 : x.fin = false) :
    Calls Try.prog 150 #[.pointer (some ⟨ab, 0, none⟩), .agg #[.int .i64 i1, .int .i64 i2], .agg #[.int .i64 i3, .int .i64 i4, .int .i64 i5, .int .i64 i6, .int .i64 i7, .int .i64 i8, .bool false]] w fun e w' => e = .returned (.tuple #[]) ∧ AlS N na nc A ma mc aa ac tr ta tc w0 ab mb w' (offerF kvs s x) ∧ w.grownBy w' (some mb) := by
  subst h1 h2 h3 h4 h5 h6 h7 h8
  rw [← h9]
  exact offer_calls s x hs h
/-- what the aligner's parts read as -/
structure AlG (N : NetD) (na : Option Addr) (nc : Nat) (A : SpaceD) (aa : Option Addr) (ac : Nat) (tr : List Int) (ta : Option Addr) (tc : Nat) (w0 : World) : Prop where
  trans : TransR w0 (.slice na N.trans.length nc) N.trans
  arcs : Rd arcK w0 (.slice aa A.arcs.length ac) A.arcs
  trace : Ints w0 (.slice ta tr.length tc) tr
  ok : ArcsOk A.marks.length N.trans.length A.arcs
  lab : ∀ t, t < N.trans.length → 0 ≤ (N.tr t).label ∧ (N.tr t).label ≤ 26
  tl : tr.length ≤ 60
  ml : A.marks.length ≤ 300
  al : A.arcs.length ≤ 7300
  tcl : tr.length ≤ tc
  ncl : N.trans.length ≤ nc
  nl : N.trans.length ≤ 24
def RetLv (N : NetD) (na : Option Addr) (nc : Nat) (A : SpaceD) (ma : Option Addr) (mc : Nat) (aa : Option Addr) (ac : Nat) (tr : List Int) (ta : Option Addr) (tc : Nat) (w0 : World) (ab mb : Nat) (kvs : Kvs) (D : List SpotD) (s : SpotD) (x : StpD) (w : World) (e : Ending) (w' : World) : Prop :=
  e = .returned (.tuple #[]) ∧ ∃ kv', AlS N na nc A ma mc aa ac tr ta tc w0 ab mb w' kv' ∧ LeaveI (labN N) A.arcs tr A.marks.length kvs D s x A.arcs.length kv' ∧ w.grownBy w' (some mb)
theorem grown_two {a b c : World} {row : Option Nat} (h : a.grownBy b row) (g : b.grownBy c row) : a.grownBy c row :=
  ⟨g.os.trans h.os, g.tape.trans h.tape, g.output.trans h.output, Nat.le_trans h.size g.size, fun k hk hne => (g.block k (Nat.lt_of_lt_of_le hk h.size) hne).trans (h.block k hk hne)⟩
set_option maxHeartbeats 8000000 in
set_option maxRecDepth 100000 in
theorem leave_calls (s : SpotD) (x : StpD) (h : AlS N na nc A ma mc aa ac tr ta tc w0 ab mb w kvs) (G : AlG N na nc A aa ac tr ta tc w0) (g : LeaveG (labN N) A.arcs tr A.marks.length kvs D s x) (hi : AInv (labN N) A.arcs tr kvs D) (ho : OkS A.marks.length tr.length kvs) (hDl : D.length ≤ 100000) :
    Calls Try.prog 96 #[.pointer (some ⟨ab, 0, none⟩), .agg #[.int .i64 (s.seen : Int), .int .i64 (s.mark : Int)]] w (RetLv N na nc A ma mc aa ac tr ta tc w0 ab mb kvs D s x w) := by
  have hok := ho s x g.look
  have hml := G.ml
  have htl := G.tl
  have hle := g.le
  obtain ⟨w1, hw1⟩ : ∃ w1, w1 = w.alloc (.cells #[.int .i64 (s.seen : Int), .int .i64 (s.mark : Int)] 160) := ⟨_, rfl⟩
  have G1 : Gr w w1 := by rw [hw1]; exact (Gr.refl _).alloc _
  have bs : Blk w1 w.heap.size 160 #[.int .i64 (s.seen : Int), .int .i64 (s.mark : Int)] := by rw [hw1]; exact Blk.new rfl
  have h1 := h.gr' G1
  have c5 := h1.blk.cell (i := 5) (v := .map (some mb)) rfl
  have s0 := bs.cell (i := 0) (v := .int .i64 (s.seen : Int)) rfl
  have s1 := bs.cell (i := 1) (v := .int .i64 (s.mark : Int)) rfl
  obtain ⟨l, hk⟩ := spot_key s (by omega) (by omega)
  have HL : ∀ w', Gr w1 w' → (Instr.lookup 165 (.map (some mb)) (.agg #[.int .i64 (s.seen : Int), .int .i64 (s.mark : Int)]) false).run Try.prog w' = .ok (.agg #[.int .i64 (x.cost : Int), .int .i64 (x.src.seen : Int), .int .i64 (x.src.mark : Int), .int .i64 x.move.kind, .int .i64 x.move.label, .int .i64 x.move.tran, .bool x.fin]) w' := fun w' gg => (MAt.gr h1.map gg).look_yes spotKeyed Try.underlying165 hk (kvV_mem g.look)
  have l0 := HL w1.drew ((Gr.refl _).drew)
  have KS := Lib.hid (show ∀ w', Gr w1 w' → w'.cell? ⟨ab, 5, none⟩ = some (.map (some mb)) ∧ w'.cell? ⟨w.heap.size, 0, none⟩ = some (.int .i64 (s.seen : Int)) ∧ w'.cell? ⟨w.heap.size, 1, none⟩ = some (.int .i64 (s.mark : Int)) ∧ (Instr.lookup 165 (.map (some mb)) (.agg #[.int .i64 (s.seen : Int), .int .i64 (s.mark : Int)]) false).run Try.prog w' = .ok (.agg #[.int .i64 (x.cost : Int), .int .i64 (x.src.seen : Int), .int .i64 (x.src.mark : Int), .int .i64 x.move.kind, .int .i64 x.move.label, .int .i64 x.move.tran, .bool x.fin]) w' from fun w' g => ⟨cell_gr c5 g, cell_gr s0 g, cell_gr s1 g, HL w' g⟩)
  have H := Lib.hid h
  have HN1 := Lib.hid (show w.heap.size ≠ mb by have := h.map.lt; omega)
  have HML := Lib.hid h.map.lt
  clear hk h h1 HL
  go_enter Try.func96, Try.ntmps96
  go_wp2_with fail
  rw [← hw1]
  clear hw1
  go_upto_region 1 with fail
  go_cut [4] (fun px wx => ∃ X : Nat, px = .pointer (some ⟨X, 0, none⟩) ∧ X ≠ mb ∧ Blk wx X 164 #[.int .i64 (x.cost : Int), .int .i64 (x.src.seen : Int), .int .i64 (x.src.mark : Int), .int .i64 x.move.kind, .int .i64 x.move.label, .int .i64 x.move.tran, .bool x.fin] ∧ Gr w1 wx)
  case first =>
    have hX : w1.heap.size ≠ mb := by have := HML.out; have := G1.le; omega
    go_region_held3 (fun w' => w'.cell? ⟨ab, 5, none⟩ = some (.map (some mb)) ∧ w'.cell? ⟨w.heap.size, 0, none⟩ = some (.int .i64 (s.seen : Int)) ∧ w'.cell? ⟨w.heap.size, 1, none⟩ = some (.int .i64 (s.mark : Int)) ∧ (Instr.lookup 165 (.map (some mb)) (.agg #[.int .i64 (s.seen : Int), .int .i64 (s.mark : Int)]) false).run Try.prog w' = .ok (.agg #[.int .i64 (x.cost : Int), .int .i64 (x.src.seen : Int), .int .i64 (x.src.mark : Int), .int .i64 x.move.kind, .int .i64 x.move.label, .int .i64 x.move.tran, .bool x.fin]) w') (first | ((refine KS.out _ ?_); ((focus ((repeat (first | exact Gr.refl _ | assumption | apply Gr.alloc | apply Gr.drew | apply Gr.drewN | refine Gr.trans ?_ (by assumption))); done)))) | go_keep) (fail)
    all_goals (
      have hb : Blk (w1.alloc (.cells #[.int .i64 (x.cost : Int), .int .i64 (x.src.seen : Int), .int .i64 (x.src.mark : Int), .int .i64 x.move.kind, .int .i64 x.move.label, .int .i64 x.move.tran, .bool x.fin] 164)).drew w1.heap.size 164 #[.int .i64 (x.cost : Int), .int .i64 (x.src.seen : Int), .int .i64 (x.src.mark : Int), .int .i64 x.move.kind, .int .i64 x.move.label, .int .i64 x.move.tran, .bool x.fin] := (Blk.new rfl).gr ((Gr.refl _).drew)
      have hg : Gr w1 (w1.alloc (.cells #[.int .i64 (x.cost : Int), .int .i64 (x.src.seen : Int), .int .i64 (x.src.mark : Int), .int .i64 x.move.kind, .int .i64 x.move.label, .int .i64 x.move.tran, .bool x.fin] 164)).drew := ((Gr.refl _).alloc _).drew
      go_wp2_with fail
      go_meet
      case rel => exact ⟨_, rfl, hX, hb, hg⟩)
  case rest =>
    obtain ⟨X, rfl, hX, bx, gx⟩ := hcut
    have GW := G1.trans gx
    have h1 := H.out.gr' GW
    have bs1 := bs.gr gx
    clear KS c5 s0 s1 l0 bs gx G1
    have s0 := bs1.cell (i := 0) (v := .int .i64 (s.seen : Int)) rfl
    have s1 := bs1.cell (i := 1) (v := .int .i64 (s.mark : Int)) rfl
    have c4 := h1.blk.cell (i := 4) (v := .slice ta tr.length tc) rfl
    go_wp2_with fail
    go_quiet (fail)
    have gd : Gr wc (wc.drewN nq) := (Gr.refl _).drewN _
    generalize wc.drewN nq = wd at gd ⊢
    replace GW := GW.trans gd
    replace h1 := h1.gr' gd
    replace bs1 := bs1.gr gd
    replace bx := bx.gr gd
    clear gd c4 s0 s1
    have s0 := bs1.cell (i := 0) (v := .int .i64 (s.seen : Int)) rfl
    have s1 := bs1.cell (i := 1) (v := .int .i64 (s.mark : Int)) rfl
    have c4 := h1.blk.cell (i := 4) (v := .slice ta tr.length tc) rfl
    have x0 := bx.cell (i := 0) (v := .int .i64 (x.cost : Int)) rfl
    go_upto_if 23 with fail
    go_cut [] (fun wy => ∃ kv', AlS N na nc A ma mc aa ac tr ta tc w0 ab mb wy kv' ∧ LeaveI (labN N) A.arcs tr A.marks.length kvs D s x 0 kv' ∧ Blk wy w.heap.size 160 #[.int .i64 (s.seen : Int), .int .i64 (s.mark : Int)] ∧ Blk wy X 164 #[.int .i64 (x.cost : Int), .int .i64 (x.src.seen : Int), .int .i64 (x.src.mark : Int), .int .i64 x.move.kind, .int .i64 x.move.label, .int .i64 x.move.tran, .bool x.fin] ∧ w.grownBy wy (some mb))
    case first =>
      by_cases hlt : s.seen < tr.length
      · have q1 : decide ((s.seen : Int) < (tr.length : Int)) = true := by simpa using hlt
        have q2 : (s.seen : Int) < (tr.length : Int) := by omega
        have q3 : (0 : Int) ≤ (s.seen : Int) := by omega
        have HS := Lib.hid (LeaveI.start1 g hi ho hlt)
        obtain ⟨tb, to_, rfl, d0⟩ := (G.trace.gr h1.gr).cell hlt
        have HLT := Lib.hid hlt
        clear hlt
        go_wp2_with fail
        go_quiet (fail)
        have gd : Gr wd (wd.drewN nq) := (Gr.refl _).drewN _
        generalize wd.drewN nq = we at gd ⊢
        replace GW := GW.trans gd
        replace h1 := h1.gr' gd
        replace bs1 := bs1.gr gd
        replace bx := bx.gr gd
        clear gd c4 s0 s1 x0 d0
        have s0 := bs1.cell (i := 0) (v := .int .i64 (s.seen : Int)) rfl
        have s1 := bs1.cell (i := 1) (v := .int .i64 (s.mark : Int)) rfl
        have x0 := bx.cell (i := 0) (v := .int .i64 (x.cost : Int)) rfl
        have hlt := HLT.out
        go_wp2_with fail
        refine (offer_at ⟨s.seen + 1, s.mark⟩ ⟨x.cost + 1, s, ⟨2, nth tr s.seen, 0⟩, false⟩ ⟨by simp; omega, by simp; omega⟩ h1 (by simp) (by simp) (by simp) (by simp) (by simp) (by simp) (by simp) (by simp) rfl).mono ?_
        rintro _ wf ⟨rfl, h3, g3⟩
        have HG := Lib.hid (gr_then GW g3)
        have hsb : w.heap.size ≠ mb := HN1.out
        have bs2 := bs1.grown g3 (by simpa using hsb)
        have bx2 := bx.grown g3 (by simpa using hX)
        go_wp2_with fail
        go_meet
        case rel => exact ⟨_, h3, HS.out, bs2, bx2, HG.out⟩
      · have q1 : decide ((s.seen : Int) < (tr.length : Int)) = false := by simp; omega
        have q2 : ¬ (s.seen : Int) < (tr.length : Int) := by omega
        have HS := Lib.hid (LeaveI.start g hi ho hlt)
        have HG := Lib.hid (gr_then (row := some mb) GW ⟨rfl, rfl, rfl, Nat.le_refl _, fun _ _ _ => rfl⟩)
        clear hlt
        go_wp2_with fail
        go_meet
        case rel => exact ⟨kvs, h1, HS.out, bs1, bx, HG.out⟩
    case rest =>
      obtain ⟨kv0, h2, hL0, bs2, bx2, hg2⟩ := hcut
      clear s0 s1 c4 x0 bs1 bx h1 GW
      have c3 := h2.blk.cell (i := 3) (v := .slice aa A.arcs.length ac) rfl
      have hal := G.al
      go_wp2_with fail
      clear c3
      go_loopw [53] (fun i wr => ∃ q kv', q ≤ A.arcs.length ∧ i = .int .i64 (q : Nat) ∧ AlS N na nc A ma mc aa ac tr ta tc w0 ab mb wr kv' ∧ LeaveI (labN N) A.arcs tr A.marks.length kvs D s x q kv' ∧ Blk wr w.heap.size 160 #[.int .i64 (s.seen : Int), .int .i64 (s.mark : Int)] ∧ Blk wr X 164 #[.int .i64 (x.cost : Int), .int .i64 (x.src.seen : Int), .int .i64 (x.src.mark : Int), .int .i64 x.move.kind, .int .i64 x.move.label, .int .i64 x.move.tran, .bool x.fin] ∧ w.grownBy wr (some mb)) (fun i _ => A.arcs.length - (intOf i).toNat)
      case atStart => exact ⟨0, kv0, Nat.zero_le _, rfl, h2, hL0, bs2, bx2, hg2⟩
      case round =>
        rename World => wr
        clear h2 hL0 bs2 bx2 hg2
        obtain ⟨q, kv', hq, rfl, h2, hL, bs2, bx2, hg2⟩ := hrel
        by_cases hlt : q < A.arcs.length
        · obtain ⟨j, t, k, hix, hj, ht, hk⟩ := G.ok.at_ hlt
          obtain ⟨pb, po, rfl, c0, c1, c2, hI⟩ := (G.arcs.gr h2.gr).arc hlt
          rw [hix] at c0 c1 c2
          simp only [] at c0 c1 c2
          have hqI : (q : Int) < (A.arcs.length : Int) := by omega
          have hq0 : (0 : Int) ≤ (q : Int) := by omega
          have ba : Blk (wr.alloc (.cells #[.int .i64 (j : Int), .int .i64 (t : Int), .int .i64 (k : Int)] 214)) wr.heap.size 214 #[.int .i64 (j : Int), .int .i64 (t : Int), .int .i64 (k : Int)] := Blk.new rfl
          have ga : Gr wr (wr.alloc (.cells #[.int .i64 (j : Int), .int .i64 (t : Int), .int .i64 (k : Int)] 214)) := (Gr.refl _).alloc _
          have h3 := h2.gr' ga
          have bs3 := bs2.gr ga
          have bx3 := bx2.gr ga
          have hg3 := grown_two hg2 (gr_then (row := some mb) ga ⟨rfl, rfl, rfl, Nat.le_refl _, fun _ _ _ => rfl⟩)
          have hab : wr.heap.size ≠ mb := by have := h2.map.lt; omega
          have s1 := bs3.cell (i := 1) (v := .int .i64 (s.mark : Int)) rfl
          by_cases hsj : j = s.mark
          case neg =>
            have q1 : ((j : Int) == (s.mark : Int)) = false := by simp; omega
            have HL := Lib.hid (hL.no (by rw [hix]; simp; omega))
            have HH := Lib.hid (show AlS N na nc A ma mc _ ac tr ta tc w0 ab mb _ kv' ∧ Blk _ w.heap.size 160 #[.int .i64 (s.seen : Int), .int .i64 (s.mark : Int)] ∧ Blk _ X 164 #[.int .i64 (x.cost : Int), .int .i64 (x.src.seen : Int), .int .i64 (x.src.mark : Int), .int .i64 x.move.kind, .int .i64 x.move.label, .int .i64 x.move.tran, .bool x.fin] ∧ w.grownBy _ (some mb) from ⟨h3, bs3, bx3, hg3⟩)
            clear hL hsj h3 bs3 bx3 hg3 h2 bs2 bx2 hg2 ga hix
            go_wp2_with fail
            go_roundw
            case rel => exact ⟨q + 1, kv', by omega, by go_num, HH.out.1, HL.out, HH.out.2.1, HH.out.2.2.1, HH.out.2.2.2⟩
            case measure => simp [intOf]; omega
          case pos =>
            subst hsj
            obtain ⟨nb, no, vp, vq, rfl, lb, _, _, hlab, _, _⟩ := (G.trans.gr h3.gr).at_ ht
            obtain ⟨lab, hlb⟩ : ∃ l, l = (N.tr t).label := ⟨_, rfl⟩
            rw [← hlb] at lb
            have hl0 := (G.lab t ht).1
            have hl26 := (G.lab t ht).2
            rw [← hlb] at hl0 hl26
            have hln : nth (labN N) t = lab := by rw [labN_nth ht]; exact hlb.symm
            have htn : t < N.trans.length := ht
            have htI : (t : Int) < (N.trans.length : Int) := by omega
            have ht0 : (0 : Int) ≤ (t : Int) := by omega
            have hnl := G.nl
            have n1 := h3.blk.cell (i := 1) (v := .slice (some ⟨nb, no, none⟩) N.trans.length nc) rfl
            have a1 := ba.cell (i := 1) (v := .int .i64 (t : Int)) rfl
            have q1 : ((s.mark : Int) == (s.mark : Int)) = true := by simp
            have HT1 := Lib.hid (hL.net g hlt hix hk)
            rw [hln] at HT1
            have HIX := Lib.hid hix
            have HLN := Lib.hid hln
            have HGW := Lib.hid h2.gr
            clear hL hix hln hlb hlab hI h2 bs2 bx2 hg2 ga
            go_wp2_with fail
            go_quiet (fail)
            have gd : Gr (wr.alloc (.cells #[.int .i64 (s.mark : Int), .int .i64 (t : Int), .int .i64 (k : Int)] 214)) ((wr.alloc (.cells #[.int .i64 (s.mark : Int), .int .i64 (t : Int), .int .i64 (k : Int)] 214)).drewN nq) := (Gr.refl _).drewN _
            generalize (wr.alloc (.cells #[.int .i64 (s.mark : Int), .int .i64 (t : Int), .int .i64 (k : Int)] 214)).drewN nq = we at gd ⊢
            replace h3 := h3.gr' gd
            replace bs3 := bs3.gr gd
            replace bx3 := bx3.gr gd
            replace ba := ba.gr gd
            replace hg3 := grown_two hg3 (gr_then (row := some mb) gd ⟨rfl, rfl, rfl, Nat.le_refl _, fun _ _ _ => rfl⟩)
            clear gd
            clear lb s1 n1 a1
            have hcap : x.cost + 1 ≤ 100000 := by omega
            by_cases hz : lab = 0
            · subst hz
              have e0 : one1 0 = 0 := by decide
              rw [e0] at HT1
              have s0 := bs3.cell (i := 0) (v := .int .i64 (s.seen : Int)) rfl
              have s1 := bs3.cell (i := 1) (v := .int .i64 (s.mark : Int)) rfl
              have x0 := bx3.cell (i := 0) (v := .int .i64 (x.cost : Int)) rfl
              have a1 := ba.cell (i := 1) (v := .int .i64 (t : Int)) rfl
              have a2 := ba.cell (i := 2) (v := .int .i64 (k : Int)) rfl
              go_wp2_with fail
              refine (offer_at ⟨s.seen, k⟩ ⟨x.cost + 0, s, ⟨3, 0, (t : Int)⟩, false⟩ ⟨by simp; omega, by simp; omega⟩ h3 (by simp) (by simp) (by simp) (by simp) (by simp) (by simp) (by simp) (by simp) rfl).mono ?_
              rintro _ wg ⟨rfl, h4, g4⟩
              have hsb : w.heap.size ≠ mb := HN1.out
              have bs4 := bs3.grown g4 (by simpa using hsb)
              have bx4 := bx3.grown g4 (by simpa using hX)
              have ba4 := ba.grown g4 (by simpa using hab)
              have hg4 := grown_two hg3 g4
              clear s0 s1 x0 a1 a2 g4 bs3 bx3 ba hg3 h3 hsb
              have HL := Lib.hid (HT1.out.1.succ HIX.out (by rw [HLN.out, e0]; exact HT1.out.2) (fun h => by rw [HLN.out] at h; cases h))
              clear HT1
              have s0 := bs4.cell (i := 0) (v := .int .i64 (s.seen : Int)) rfl
              have c4 := h4.blk.cell (i := 4) (v := .slice ta tr.length tc) rfl
              go_wp2_with fail
              go_quiet (fail)
              have gd : Gr wg (wg.drewN nq) := (Gr.refl _).drewN _
              have HH := Lib.hid (show AlS N (some ⟨nb, no, none⟩) nc A ma mc (some ⟨pb, po, none⟩) ac tr _ tc w0 ab mb (wg.drewN nq) _ ∧ Blk (wg.drewN nq) w.heap.size 160 #[.int .i64 (s.seen : Int), .int .i64 (s.mark : Int)] ∧ Blk (wg.drewN nq) X 164 #[.int .i64 (x.cost : Int), .int .i64 (x.src.seen : Int), .int .i64 (x.src.mark : Int), .int .i64 x.move.kind, .int .i64 x.move.label, .int .i64 x.move.tran, .bool x.fin] ∧ w.grownBy (wg.drewN nq) (some mb) from ⟨h4.gr' gd, bs4.gr gd, bx4.gr gd, grown_two hg4 (gr_then (row := some mb) gd ⟨rfl, rfl, rfl, Nat.le_refl _, fun _ _ _ => rfl⟩)⟩)
              clear h4 bs4 bx4 hg4 ba4 gd s0 c4
              go_wp2_with fail
              go_roundw
              case rel => exact ⟨q + 1, _, hlt, by go_num, HH.out.1, HL.out, HH.out.2.1, HH.out.2.2.1, HH.out.2.2.2⟩
              case measure => simp [intOf]; omega
            · have hpos : 0 < lab := by omega
              have e0 : one1 lab = 1 := by unfold one1; rw [if_pos hpos]
              rw [e0] at HT1
              by_cases h1 : lab = 1
              · subst h1
                have HPOS := Lib.hid hpos
                clear hpos hz
                have s0 := bs3.cell (i := 0) (v := .int .i64 (s.seen : Int)) rfl
                have s1 := bs3.cell (i := 1) (v := .int .i64 (s.mark : Int)) rfl
                have x0 := bx3.cell (i := 0) (v := .int .i64 (x.cost : Int)) rfl
                have a1 := ba.cell (i := 1) (v := .int .i64 (t : Int)) rfl
                have a2 := ba.cell (i := 2) (v := .int .i64 (k : Int)) rfl
                go_wp2_with fail
                refine (offer_at ⟨s.seen, k⟩ ⟨x.cost + 1, s, ⟨3, 1, (t : Int)⟩, false⟩ ⟨by simp; omega, by simp; omega⟩ h3 (by simp) (by simp) (by simp) (by simp) (by simp) (by simp) (by simp) (by simp) rfl).mono ?_
                rintro _ wg ⟨rfl, h4, g4⟩
                have hsb : w.heap.size ≠ mb := HN1.out
                have bs4 := bs3.grown g4 (by simpa using hsb)
                have bx4 := bx3.grown g4 (by simpa using hX)
                have ba4 := ba.grown g4 (by simpa using hab)
                have hg4 := grown_two hg3 g4
                clear s0 s1 x0 a1 a2 g4 bs3 bx3 ba hg3 h3 hsb
                have p1 : decide ((0 : Int) < 1) = true := by simp
                by_cases hs : s.seen < tr.length
                case neg =>
                  have r1 : decide ((s.seen : Int) < (tr.length : Int)) = false := by simp; omega
                  have r2 : ¬ (s.seen : Int) < (tr.length : Int) := by omega
                  have HL := Lib.hid (HT1.out.1.succ HIX.out (by rw [HLN.out, e0]; exact HT1.out.2) (fun _ h _ => absurd h hs))
                  clear HT1
                  have s0 := bs4.cell (i := 0) (v := .int .i64 (s.seen : Int)) rfl
                  have c4 := h4.blk.cell (i := 4) (v := .slice ta tr.length tc) rfl
                  go_wp2_with fail
                  go_quiet (fail)
                  have gd : Gr wg (wg.drewN nq) := (Gr.refl _).drewN _
                  have HH := Lib.hid (show AlS N (some ⟨nb, no, none⟩) nc A ma mc (some ⟨pb, po, none⟩) ac tr _ tc w0 ab mb (wg.drewN nq) _ ∧ Blk (wg.drewN nq) w.heap.size 160 #[.int .i64 (s.seen : Int), .int .i64 (s.mark : Int)] ∧ Blk (wg.drewN nq) X 164 #[.int .i64 (x.cost : Int), .int .i64 (x.src.seen : Int), .int .i64 (x.src.mark : Int), .int .i64 x.move.kind, .int .i64 x.move.label, .int .i64 x.move.tran, .bool x.fin] ∧ w.grownBy (wg.drewN nq) (some mb) from ⟨h4.gr' gd, bs4.gr gd, bx4.gr gd, grown_two hg4 (gr_then (row := some mb) gd ⟨rfl, rfl, rfl, Nat.le_refl _, fun _ _ _ => rfl⟩)⟩)
                  clear h4 bs4 bx4 hg4 ba4 gd s0 c4
                  go_wp2_with fail
                  go_roundw
                  case rel => exact ⟨q + 1, _, hlt, by go_num, HH.out.1, HL.out, HH.out.2.1, HH.out.2.2.1, HH.out.2.2.2⟩
                  case measure => simp [intOf]; omega
                case pos =>
                  by_cases he : nth tr s.seen = 1
                  case neg =>
                    have HNE := Lib.hid (fun h : nth tr s.seen = nth (labN N) t => he (h.trans HLN.out))
                    have r1 : decide ((s.seen : Int) < (tr.length : Int)) = true := by simpa using hs
                    have r2 : (s.seen : Int) < (tr.length : Int) := by omega
                    have r3 : (0 : Int) ≤ (s.seen : Int) := by omega
                    have r4 : (nth tr s.seen == 1) = false := by simpa using he
                    obtain ⟨tb, to_, rfl, d0⟩ := (G.trace.gr h4.gr).cell hs
                    clear he
                    
                    have HL := Lib.hid (HT1.out.1.succ HIX.out (by rw [HLN.out, e0]; exact HT1.out.2) (fun _ _ h => absurd h HNE.out))
                    clear HT1
                    have s0 := bs4.cell (i := 0) (v := .int .i64 (s.seen : Int)) rfl
                    have c4 := h4.blk.cell (i := 4) (v := .slice (some ⟨tb, to_, none⟩) tr.length tc) rfl
                    go_wp2_with fail
                    go_quiet (fail)
                    have gd : Gr wg (wg.drewN nq) := (Gr.refl _).drewN _
                    have HH := Lib.hid (show AlS N (some ⟨nb, no, none⟩) nc A ma mc (some ⟨pb, po, none⟩) ac tr _ tc w0 ab mb (wg.drewN nq) _ ∧ Blk (wg.drewN nq) w.heap.size 160 #[.int .i64 (s.seen : Int), .int .i64 (s.mark : Int)] ∧ Blk (wg.drewN nq) X 164 #[.int .i64 (x.cost : Int), .int .i64 (x.src.seen : Int), .int .i64 (x.src.mark : Int), .int .i64 x.move.kind, .int .i64 x.move.label, .int .i64 x.move.tran, .bool x.fin] ∧ w.grownBy (wg.drewN nq) (some mb) from ⟨h4.gr' gd, bs4.gr gd, bx4.gr gd, grown_two hg4 (gr_then (row := some mb) gd ⟨rfl, rfl, rfl, Nat.le_refl _, fun _ _ _ => rfl⟩)⟩)
                    clear h4 bs4 bx4 hg4 ba4 gd s0 c4
                    go_wp2_with fail
                    go_roundw
                    case rel => exact ⟨q + 1, _, hlt, by go_num, HH.out.1, HL.out, HH.out.2.1, HH.out.2.2.1, HH.out.2.2.2⟩
                    case measure => simp [intOf]; omega
                  case pos =>
                    have HT2 := Lib.hid (HT1.out.1.both g hlt HIX.out hk (by rw [HLN.out]; exact HPOS.out) hs (by rw [HLN.out]; exact he))
                    rw [HLN.out] at HT2
                    have HL := Lib.hid (HT2.out.1.succ HIX.out (by rw [HLN.out, e0]; exact mono_told HT2.out.2.2 HT1.out.2) (fun _ _ _ => HT2.out.2.1))
                    clear HT1 HT2
                    have r1 : decide ((s.seen : Int) < (tr.length : Int)) = true := by simpa using hs
                    have r2 : (s.seen : Int) < (tr.length : Int) := by omega
                    have r3 : (0 : Int) ≤ (s.seen : Int) := by omega
                    have r4 : (nth tr s.seen == 1) = true := by simpa using he
                    obtain ⟨tb, to_, rfl, d0⟩ := (G.trace.gr h4.gr).cell hs
                    have s0 := bs4.cell (i := 0) (v := .int .i64 (s.seen : Int)) rfl
                    have c4 := h4.blk.cell (i := 4) (v := .slice (some ⟨tb, to_, none⟩) tr.length tc) rfl
                    have HS := Lib.hid hs
                    clear hs he
                    go_wp2_with fail
                    go_quiet (fail)
                    have gd : Gr wg (wg.drewN nq) := (Gr.refl _).drewN _
                    generalize wg.drewN nq = wh at gd ⊢
                    replace h4 := h4.gr' gd
                    replace bs4 := bs4.gr gd
                    replace bx4 := bx4.gr gd
                    replace ba4 := ba4.gr gd
                    replace hg4 := grown_two hg4 (gr_then (row := some mb) gd ⟨rfl, rfl, rfl, Nat.le_refl _, fun _ _ _ => rfl⟩)
                    clear gd s0 c4 d0 r1 r2 r3 r4
                    have s0 := bs4.cell (i := 0) (v := .int .i64 (s.seen : Int)) rfl
                    have s1 := bs4.cell (i := 1) (v := .int .i64 (s.mark : Int)) rfl
                    have x0 := bx4.cell (i := 0) (v := .int .i64 (x.cost : Int)) rfl
                    have a1 := ba4.cell (i := 1) (v := .int .i64 (t : Int)) rfl
                    have a2 := ba4.cell (i := 2) (v := .int .i64 (k : Int)) rfl
                    have hs := HS.out
                    go_wp2_with fail
                    refine (offer_at ⟨s.seen + 1, k⟩ ⟨x.cost, s, ⟨1, 1, (t : Int)⟩, false⟩ ⟨by simp; omega, by simp; omega⟩ h4 (by simp) (by simp) (by simp) (by simp) (by simp) (by simp) (by simp) (by simp) rfl).mono ?_
                    rintro _ wi ⟨rfl, h5, g5⟩
                    have hsb : w.heap.size ≠ mb := HN1.out
                    have HH := Lib.hid (show AlS N (some ⟨nb, no, none⟩) nc A ma mc (some ⟨pb, po, none⟩) ac tr _ tc w0 ab mb wi _ ∧ Blk wi w.heap.size 160 #[.int .i64 (s.seen : Int), .int .i64 (s.mark : Int)] ∧ Blk wi X 164 #[.int .i64 (x.cost : Int), .int .i64 (x.src.seen : Int), .int .i64 (x.src.mark : Int), .int .i64 x.move.kind, .int .i64 x.move.label, .int .i64 x.move.tran, .bool x.fin] ∧ w.grownBy wi (some mb) from ⟨h5, bs4.grown g5 (by simpa using hsb), bx4.grown g5 (by simpa using hX), grown_two hg4 g5⟩)
                    clear h5 h4 bs4 bx4 hg4 ba4 g5 s0 s1 x0 a1 a2 hsb
                    go_wp2_with fail
                    go_roundw
                    case rel => exact ⟨q + 1, _, hlt, by go_num, HH.out.1, HL.out, HH.out.2.1, HH.out.2.2.1, HH.out.2.2.2⟩
                    case measure => simp [intOf]; omega
              · have h2 : 1 < lab := by omega
                have HPOS := Lib.hid hpos
                clear hpos hz h1
                have s0 := bs3.cell (i := 0) (v := .int .i64 (s.seen : Int)) rfl
                have s1 := bs3.cell (i := 1) (v := .int .i64 (s.mark : Int)) rfl
                have x0 := bx3.cell (i := 0) (v := .int .i64 (x.cost : Int)) rfl
                have a1 := ba.cell (i := 1) (v := .int .i64 (t : Int)) rfl
                have a2 := ba.cell (i := 2) (v := .int .i64 (k : Int)) rfl
                go_wp2_with fail
                refine (offer_at ⟨s.seen, k⟩ ⟨x.cost + 1, s, ⟨3, lab, (t : Int)⟩, false⟩ ⟨by simp; omega, by simp; omega⟩ h3 (by simp) (by simp) (by simp) (by simp) (by simp) (by simp) (by simp) (by simp) rfl).mono ?_
                rintro _ wg ⟨rfl, h4, g4⟩
                have hsb : w.heap.size ≠ mb := HN1.out
                have bs4 := bs3.grown g4 (by simpa using hsb)
                have bx4 := bx3.grown g4 (by simpa using hX)
                have ba4 := ba.grown g4 (by simpa using hab)
                have hg4 := grown_two hg3 g4
                clear s0 s1 x0 a1 a2 g4 bs3 bx3 ba hg3 h3 hsb
                have p1 : decide ((0 : Int) < lab) = true := by simpa using HPOS.out
                by_cases hs : s.seen < tr.length
                case neg =>
                  have r1 : decide ((s.seen : Int) < (tr.length : Int)) = false := by simp; omega
                  have r2 : ¬ (s.seen : Int) < (tr.length : Int) := by omega
                  have HL := Lib.hid (HT1.out.1.succ HIX.out (by rw [HLN.out, e0]; exact HT1.out.2) (fun _ h _ => absurd h hs))
                  clear HT1
                  have s0 := bs4.cell (i := 0) (v := .int .i64 (s.seen : Int)) rfl
                  have c4 := h4.blk.cell (i := 4) (v := .slice ta tr.length tc) rfl
                  go_wp2_with fail
                  go_quiet (fail)
                  have gd : Gr wg (wg.drewN nq) := (Gr.refl _).drewN _
                  have HH := Lib.hid (show AlS N (some ⟨nb, no, none⟩) nc A ma mc (some ⟨pb, po, none⟩) ac tr _ tc w0 ab mb (wg.drewN nq) _ ∧ Blk (wg.drewN nq) w.heap.size 160 #[.int .i64 (s.seen : Int), .int .i64 (s.mark : Int)] ∧ Blk (wg.drewN nq) X 164 #[.int .i64 (x.cost : Int), .int .i64 (x.src.seen : Int), .int .i64 (x.src.mark : Int), .int .i64 x.move.kind, .int .i64 x.move.label, .int .i64 x.move.tran, .bool x.fin] ∧ w.grownBy (wg.drewN nq) (some mb) from ⟨h4.gr' gd, bs4.gr gd, bx4.gr gd, grown_two hg4 (gr_then (row := some mb) gd ⟨rfl, rfl, rfl, Nat.le_refl _, fun _ _ _ => rfl⟩)⟩)
                  clear h4 bs4 bx4 hg4 ba4 gd s0 c4
                  go_wp2_with fail
                  go_roundw
                  case rel => exact ⟨q + 1, _, hlt, by go_num, HH.out.1, HL.out, HH.out.2.1, HH.out.2.2.1, HH.out.2.2.2⟩
                  case measure => simp [intOf]; omega
                case pos =>
                  by_cases he : nth tr s.seen = lab
                  case neg =>
                    have HNE := Lib.hid (fun h : nth tr s.seen = nth (labN N) t => he (h.trans HLN.out))
                    have r1 : decide ((s.seen : Int) < (tr.length : Int)) = true := by simpa using hs
                    have r2 : (s.seen : Int) < (tr.length : Int) := by omega
                    have r3 : (0 : Int) ≤ (s.seen : Int) := by omega
                    have r4 : (nth tr s.seen == lab) = false := by simpa using he
                    obtain ⟨tb, to_, rfl, d0⟩ := (G.trace.gr h4.gr).cell hs
                    clear he
                    
                    have HL := Lib.hid (HT1.out.1.succ HIX.out (by rw [HLN.out, e0]; exact HT1.out.2) (fun _ _ h => absurd h HNE.out))
                    clear HT1
                    have s0 := bs4.cell (i := 0) (v := .int .i64 (s.seen : Int)) rfl
                    have c4 := h4.blk.cell (i := 4) (v := .slice (some ⟨tb, to_, none⟩) tr.length tc) rfl
                    go_wp2_with fail
                    go_quiet (fail)
                    have gd : Gr wg (wg.drewN nq) := (Gr.refl _).drewN _
                    have HH := Lib.hid (show AlS N (some ⟨nb, no, none⟩) nc A ma mc (some ⟨pb, po, none⟩) ac tr _ tc w0 ab mb (wg.drewN nq) _ ∧ Blk (wg.drewN nq) w.heap.size 160 #[.int .i64 (s.seen : Int), .int .i64 (s.mark : Int)] ∧ Blk (wg.drewN nq) X 164 #[.int .i64 (x.cost : Int), .int .i64 (x.src.seen : Int), .int .i64 (x.src.mark : Int), .int .i64 x.move.kind, .int .i64 x.move.label, .int .i64 x.move.tran, .bool x.fin] ∧ w.grownBy (wg.drewN nq) (some mb) from ⟨h4.gr' gd, bs4.gr gd, bx4.gr gd, grown_two hg4 (gr_then (row := some mb) gd ⟨rfl, rfl, rfl, Nat.le_refl _, fun _ _ _ => rfl⟩)⟩)
                    clear h4 bs4 bx4 hg4 ba4 gd s0 c4
                    go_wp2_with fail
                    go_roundw
                    case rel => exact ⟨q + 1, _, hlt, by go_num, HH.out.1, HL.out, HH.out.2.1, HH.out.2.2.1, HH.out.2.2.2⟩
                    case measure => simp [intOf]; omega
                  case pos =>
                    have HT2 := Lib.hid (HT1.out.1.both g hlt HIX.out hk (by rw [HLN.out]; exact HPOS.out) hs (by rw [HLN.out]; exact he))
                    rw [HLN.out] at HT2
                    have HL := Lib.hid (HT2.out.1.succ HIX.out (by rw [HLN.out, e0]; exact mono_told HT2.out.2.2 HT1.out.2) (fun _ _ _ => HT2.out.2.1))
                    clear HT1 HT2
                    have r1 : decide ((s.seen : Int) < (tr.length : Int)) = true := by simpa using hs
                    have r2 : (s.seen : Int) < (tr.length : Int) := by omega
                    have r3 : (0 : Int) ≤ (s.seen : Int) := by omega
                    have r4 : (nth tr s.seen == lab) = true := by simpa using he
                    obtain ⟨tb, to_, rfl, d0⟩ := (G.trace.gr h4.gr).cell hs
                    have s0 := bs4.cell (i := 0) (v := .int .i64 (s.seen : Int)) rfl
                    have c4 := h4.blk.cell (i := 4) (v := .slice (some ⟨tb, to_, none⟩) tr.length tc) rfl
                    have HS := Lib.hid hs
                    clear hs he
                    go_wp2_with fail
                    go_quiet (fail)
                    have gd : Gr wg (wg.drewN nq) := (Gr.refl _).drewN _
                    generalize wg.drewN nq = wh at gd ⊢
                    replace h4 := h4.gr' gd
                    replace bs4 := bs4.gr gd
                    replace bx4 := bx4.gr gd
                    replace ba4 := ba4.gr gd
                    replace hg4 := grown_two hg4 (gr_then (row := some mb) gd ⟨rfl, rfl, rfl, Nat.le_refl _, fun _ _ _ => rfl⟩)
                    clear gd s0 c4 d0 r1 r2 r3 r4
                    have s0 := bs4.cell (i := 0) (v := .int .i64 (s.seen : Int)) rfl
                    have s1 := bs4.cell (i := 1) (v := .int .i64 (s.mark : Int)) rfl
                    have x0 := bx4.cell (i := 0) (v := .int .i64 (x.cost : Int)) rfl
                    have a1 := ba4.cell (i := 1) (v := .int .i64 (t : Int)) rfl
                    have a2 := ba4.cell (i := 2) (v := .int .i64 (k : Int)) rfl
                    have hs := HS.out
                    go_wp2_with fail
                    refine (offer_at ⟨s.seen + 1, k⟩ ⟨x.cost, s, ⟨1, lab, (t : Int)⟩, false⟩ ⟨by simp; omega, by simp; omega⟩ h4 (by simp) (by simp) (by simp) (by simp) (by simp) (by simp) (by simp) (by simp) rfl).mono ?_
                    rintro _ wi ⟨rfl, h5, g5⟩
                    have hsb : w.heap.size ≠ mb := HN1.out
                    have HH := Lib.hid (show AlS N (some ⟨nb, no, none⟩) nc A ma mc (some ⟨pb, po, none⟩) ac tr _ tc w0 ab mb wi _ ∧ Blk wi w.heap.size 160 #[.int .i64 (s.seen : Int), .int .i64 (s.mark : Int)] ∧ Blk wi X 164 #[.int .i64 (x.cost : Int), .int .i64 (x.src.seen : Int), .int .i64 (x.src.mark : Int), .int .i64 x.move.kind, .int .i64 x.move.label, .int .i64 x.move.tran, .bool x.fin] ∧ w.grownBy wi (some mb) from ⟨h5, bs4.grown g5 (by simpa using hsb), bx4.grown g5 (by simpa using hX), grown_two hg4 g5⟩)
                    clear h5 h4 bs4 bx4 hg4 ba4 g5 s0 s1 x0 a1 a2 hsb
                    go_wp2_with fail
                    go_roundw
                    case rel => exact ⟨q + 1, _, hlt, by go_num, HH.out.1, HL.out, HH.out.2.1, HH.out.2.2.1, HH.out.2.2.2⟩
                    case measure => simp [intOf]; omega
        · obtain rfl : q = A.arcs.length := by omega
          go_wp2_with fail
          refine bodyPost_end (results_none rfl _ _ _) rfl ?_
          exact ⟨rfl, kv', h2, hL, hg2⟩
end Go.Proofs.Ytkanaoebpajbfaa
