/- Contract of reduce's dropPlace. -/
import Derived.Test.YtjpapgbdhflgnaaRW1
import Derived.Test.YtjpapgbdhflgnaaSO
import Derived.Test.YtjpapgbdhflgnaaPC
import Derived.Test.YtjpapgbdhflgnaaTwoApp
import Derived.Deep.RegionHeld3
import Derived.Test.YtjpapgbdhflgnaaGM
import Derived.Test.YtjpapgbdhflgnaaPairEq
import Derived.BigQuiet
import Derived.Laws.EntriesVeiled
namespace Go.Tok
open Go.RowKit
set_option linter.unusedVariables false
theorem less_succ {ts : List TranD} {k p : Nat} (h : k < ts.length) : (ts.take (k + 1)).map (lessP p) = (ts.take k).map (lessP p) ++ [lessP p (ix ts k)] := by
  rw [List.take_succ_eq_append_getElem h, List.map_append, ix_lt h]; rfl
end Go.Tok
namespace Go.Proofs.Ytjpapgbdhflgnaa
open Go.RowKit Go.Tok
set_option linter.unusedVariables false
theorem cell_grownR {W W' : World} {a : Addr} {v : Value} {row : Option Nat} (h : W.cell? a = some v) (g : W.grownBy W' row) (hne : some a.block ≠ row) : W'.cell? a = some v := (World.cell?_of_block (g.block a.block (cell_block h) hne)).trans h
set_option maxHeartbeats 4000000 in
set_option maxRecDepth 100000 in
theorem dropPlace_calls (w0 w : World) (sb p : Nat) (s : SmD) (h : SmW w0 w sb s) (hp : ∀ k, k < s.net.trans.length → (p < (ix s.net.trans k).pre.length ∧ p < (ix s.net.trans k).post.length) ∧ (ix s.net.trans k).pre.length ≤ 1000 ∧ (ix s.net.trans k).post.length ≤ 1000) (hl : s.net.trans.length ≤ 1000) (hp2 : p ≤ 1000)
    (hP : 0 ≤ s.net.places ∧ s.net.places ≤ 1000) (hio : (0 ≤ s.i ∧ s.i ≤ 1000) ∧ 0 ≤ s.o ∧ s.o ≤ 1000) :
    Calls Try.prog 48 #[.pointer (some ⟨sb, 0, none⟩), .int .i64 p] w fun e w' => e = .returned (.tuple #[]) ∧ SmW w0 w' sb (dropP s p) := by
  obtain ⟨tv, hb, hT⟩ := h.ex
  obtain ⟨a, cap, rfl, _, _⟩ := hT.len
  have c1 := hb.cell (i := 1) (v := .slice a s.net.trans.length cap) rfl
  have HT := Lib.hid hT
  have HP := Lib.hid hp
  have HB := Lib.hid hb
  have HH := Lib.hid h
  have hsl := hb.lt
  obtain ⟨ts, hts⟩ : ∃ ts, ts = s.net.trans := ⟨_, rfl⟩
  rw [← hts] at HT HP hl c1
  rw [← hts] at HB
  have HTS := Lib.hid hts
  clear h hb hT hp hts
  go_enter Try.func48, Try.ntmps48
  go_wp2_with fail
  go_loopw [4, 15] (fun out q wr => ∃ k : Nat, q = .int .i64 k ∧ k ≤ ts.length ∧ OwnR trK 48 w.heap.size (fun b => w.heap.size ≤ b) wr out ((ts.take k).map (lessP p)) ∧ Gr w wr) (fun _ q _ => ts.length - (intOf q).toNat)
  case atStart => exact ⟨0, rfl, Nat.zero_le _, OwnR.nil _ _ _ _, Gr.refl _⟩
  case round =>
    rename World => wr
    obtain ⟨k, rfl, hk, ho, hgr⟩ := hrel
    by_cases hlt : k < ts.length
    · have hkI : (k : Int) < (ts.length : Int) := by omega
      have hk0 : (0 : Int) ≤ (k : Int) := by omega
      obtain ⟨b, o, vp, vq, rfl, d0, d1, d2, hlab, hop, hoq⟩ := (HT.out.gr hgr).at_ hlt
      have hpp := hop.now
      have hqq := hoq.now
      obtain ⟨⟨h1, h2⟩, h3, h4⟩ := HP.out k hlt
      have HN := Lib.hid (less_succ (p := p) hlt)
      have hol : ((ts.take k).map (lessP p)).length = k := by rw [List.length_map, List.length_take, Nat.min_eq_left hk]
      obtain ⟨tk, htk⟩ : ∃ t, t = ix ts k := ⟨_, rfl⟩
      rw [← htk] at d0 hpp hqq h1 h2 h3 h4 HN hlab
      clear htk hop hoq
      obtain ⟨pa, pc, rfl, _, _⟩ := hpp.len
      obtain ⟨qa, qc, rfl, _, _⟩ := hqq.len
      obtain ⟨wa, hwa⟩ : ∃ wa, wa = wr.alloc (.cells #[.int .i64 tk.label, .slice pa tk.pre.length pc, .slice qa tk.post.length qc] 48) := ⟨_, rfl⟩
      have GA : Gr wr wa := by rw [hwa]; exact (Gr.refl _).alloc _
      have bX : Blk wa wr.heap.size 48 #[.int .i64 tk.label, .slice pa tk.pre.length pc, .slice qa tk.post.length qc] := by rw [hwa]; exact Blk.new rfl
      have X0 := bX.cell (i := 0) (v := .int .i64 tk.label) rfl
      have X1 := bX.cell (i := 1) (v := .slice pa tk.pre.length pc) rfl
      have X2 := bX.cell (i := 2) (v := .slice qa tk.post.length qc) rfl
      have HWA := Lib.hid hwa
      have HPP := Lib.hid (hpp.gr GA)
      have HQQ := Lib.hid (hqq.gr GA)
      have HOA := Lib.hid (ho.gr GA)
      have HGA := Lib.hid (hgr.trans GA)
      obtain ⟨oa, oc, rfl, _, _⟩ := ho.len
      have hob : ∀ b, (Value.slice oa ((ts.take k).map (lessP p)).length oc).ownBlock = some b → b < wr.heap.size := fun b hb => (ho.lt hb).2
      have HOB := Lib.hid hob
      have HLAB := Lib.hid hlab
      have hwl : wr.heap.size ≤ wa.heap.size := GA.le
      rw [hol] at HOA HOB ⊢
      generalize hL : (ts.take k).map (lessP p) = L at HOA hol HN ⊢
      have HOL := Lib.hid hol
      clear bX hpp hqq ho hob hlab hL GA hwa hol
      go_wp2_with fail
      rw [← HWA.out]
      clear d0 d1 d2
      have HS0 := Lib.hid (And.intro X0 (And.intro X1 X2))
      refine cut14 (S := fun w' => w'.cell? ⟨wr.heap.size, 0, none⟩ = some (.int .i64 tk.label) ∧ w'.cell? ⟨wr.heap.size, 1, none⟩ = some (.slice pa tk.pre.length pc) ∧ w'.cell? ⟨wr.heap.size, 2, none⟩ = some (.slice qa tk.post.length qc)) (by kernel_rfl) (by kernel_rfl) ⟨cell_gr X0 ((Gr.refl _).drew), cell_gr X1 ((Gr.refl _).drew), cell_gr X2 ((Gr.refl _).drew)⟩ (fun hHeld => ?_)
      obtain ⟨y0, hy⟩ : ∃ y, y = wa.drew := ⟨_, rfl⟩
      have G : Gr wa y0 := by rw [hy]; exact (Gr.refl _).drew
      rw [← hy] at hHeld ⊢
      clear hy X0 X1 X2
      (refine hold0 (v := ?_) (by kernel_rfl) (by kernel_rfl) (by kernel_rfl) (fun _ _ _ h => h) (by rfl) (fun w' hSw => ?_) (by assumption) ?_; rotate_left 1; · ((try dsimp only at hSw); (try go_simp); (try (with_reducible rfl))); (try simp only [Act.put, List.setIfInBounds_toArray, List.set_cons_zero, List.set_cons_succ]))
      (refine hold1 (v := ?_) (by kernel_rfl) (by kernel_rfl) (by kernel_rfl) (fun _ _ _ h => h) (by rfl) (fun w' hSw => ?_) (by assumption) ?_; rotate_left 1; · ((try dsimp only at hSw); (try go_simp); (try (with_reducible rfl))); (try simp only [Act.put, List.setIfInBounds_toArray, List.set_cons_zero, List.set_cons_succ]))
      (refine hold2 (v := ?_) (by kernel_rfl) (by kernel_rfl) (by kernel_rfl) (fun _ _ _ h => h) (by rfl) (fun w' hSw => ?_) (by assumption) ?_; rotate_left 1; · ((try dsimp only at hSw); (try go_simp); (try (with_reducible rfl))); (try simp only [Act.put, List.setIfInBounds_toArray, List.set_cons_zero, List.set_cons_succ]))
      (refine hold3 (v := ?_) (by kernel_rfl) (by kernel_rfl) (by kernel_rfl) (fun _ _ _ h => h) (by rfl) (fun w' hSw => ?_) (by assumption) ?_; rotate_left 1; · ((try dsimp only at hSw); (try go_simp); (try (with_reducible rfl))); (try simp only [Act.put, List.setIfInBounds_toArray, List.set_cons_zero, List.set_cons_succ]))
      (refine hold4 (v := ?_) (by kernel_rfl) (by kernel_rfl) (by kernel_rfl) (fun _ _ _ h => h) (by rfl) (fun w' hSw => ?_) (by assumption) ?_; rotate_left 1; · ((try dsimp only at hSw); (try go_simp); (try (with_reducible rfl))); (try simp only [Act.put, List.setIfInBounds_toArray, List.set_cons_zero, List.set_cons_succ]))
      (refine hold5 (v := ?_) (by kernel_rfl) (by kernel_rfl) (by kernel_rfl) (fun _ _ _ h => h) (by rfl) (fun w' hSw => ?_) (by assumption) ?_; rotate_left 1; · ((try dsimp only at hSw); (try go_simp); (try (with_reducible rfl))); (try simp only [Act.put, List.setIfInBounds_toArray, List.set_cons_zero, List.set_cons_succ]))
      (refine hold7 (v := ?_) (by kernel_rfl) (by kernel_rfl) (by kernel_rfl) (fun _ _ _ h => h) (by rfl) (fun w' hSw => ?_) (by assumption) ?_; rotate_left 1; · ((try dsimp only at hSw); (try go_simp); (try (with_reducible rfl))); (try simp only [Act.put, List.setIfInBounds_toArray, List.set_cons_zero, List.set_cons_succ]))
      (refine hold8 (v := ?_) (by kernel_rfl) (by kernel_rfl) (by kernel_rfl) (fun _ _ _ h => h) (by rfl) (fun w' hSw => ?_) (by assumption) ?_; rotate_left 1; · ((try dsimp only at hSw); (try go_simp); (try (with_reducible rfl))); (try simp only [Act.put, List.setIfInBounds_toArray, List.set_cons_zero, List.set_cons_succ]))
      (refine hold9 (v := ?_) (by kernel_rfl) (by kernel_rfl) (by kernel_rfl) (fun _ _ _ h => h) (by rfl) (fun w' hSw => ?_) (by assumption) ?_; rotate_left 1; · ((try dsimp only at hSw); (try go_simp); (try (with_reducible rfl))); (try simp only [Act.put, List.setIfInBounds_toArray, List.set_cons_zero, List.set_cons_succ]))
      refine next6 (by kernel_rfl) (fun K hK => ?_)
      go_simp
      (with_reducible refine (without_calls _ tk.pre p _ (HPP.out.gr ?_) h1 h3).mono ?_)
      · exact G
      rintro _ y1 ⟨v1, rfl, o1, g1⟩
      obtain ⟨pa1, pc1, rfl, _, _⟩ := o1.ints.len
      have hy0 : wa.heap.size ≤ y0.heap.size := G.le
      replace G := G.trans g1
      (refine hK.out _ _ ?_ (fun hHeld => ?_); · (exact ⟨cell_gr HS0.out.1 G, cell_gr HS0.out.2.1 G, cell_gr HS0.out.2.2 G⟩))
      clear hK K
      try simp only [Act.put, List.setIfInBounds_toArray, List.set_cons_zero, List.set_cons_succ]
      have O1 := Lib.hid o1
      clear o1
      refine next10 (by kernel_rfl) (fun K hK => ?_)
      go_simp
      (with_reducible refine (without_calls _ tk.post p _ (HQQ.out.gr ?_) h2 h4).mono ?_)
      · exact G
      rintro _ y2 ⟨v2, rfl, o2, g2⟩
      obtain ⟨qa1, qc1, rfl, _, _⟩ := o2.ints.len
      have hy1 : wa.heap.size ≤ y1.heap.size := G.le
      replace G := G.trans g2
      (refine hK.out _ _ ?_ (fun hHeld => ?_); · (exact ⟨cell_gr HS0.out.1 G, cell_gr HS0.out.2.1 G, cell_gr HS0.out.2.2 G⟩))
      clear hK K
      try simp only [Act.put, List.setIfInBounds_toArray, List.set_cons_zero, List.set_cons_succ]
      have O2 := Lib.hid o2
      have HG2 := Lib.hid g2
      clear o2 g1 g2
      (refine hold11 (v := ?_) (by kernel_rfl) (by kernel_rfl) (by kernel_rfl) (fun _ _ _ h => h) (by rfl) (fun w' hSw => ?_) (by assumption) ?_; rotate_left 1; · ((try dsimp only at hSw); (try go_simp); (try (with_reducible rfl))); (try simp only [Act.put, List.setIfInBounds_toArray, List.set_cons_zero, List.set_cons_succ]))
      refine next12 (by kernel_rfl) (fun K hK => ?_)
      go_simp
      (refine hK.out _ _ ?_ (fun hHeld => ?_); · (exact ⟨cell_gr HS0.out.1 (G.alloc _), cell_gr HS0.out.2.1 (G.alloc _), cell_gr HS0.out.2.2 (G.alloc _)⟩))
      clear hK K
      try simp only [Act.put, List.setIfInBounds_toArray, List.set_cons_zero, List.set_cons_succ]
      obtain ⟨H, hH⟩ : ∃ x, x = y2.heap.size := ⟨_, rfl⟩
      obtain ⟨y3, hy3⟩ : ∃ y, y = y2.alloc (.cells #[.int .i64 tk.label, .slice pa1 (tk.pre.eraseIdx p).length pc1, .slice qa1 (tk.post.eraseIdx p).length qc1] 48) := ⟨_, rfl⟩
      rw [← hy3] at hHeld
      rw [← hy3, ← hH]
      have gz : Gr y2 y3 := by rw [hy3]; exact (Gr.refl _).alloc _
      have hLit : ∀ (j : Nat) (u : Value), ([.int .i64 tk.label, .slice pa1 (tk.pre.eraseIdx p).length pc1, .slice qa1 (tk.post.eraseIdx p).length qc1] : List Value)[j]? = some u → y3.cell? ((⟨H, 0, none⟩ : Addr).add j) = some u := by rw [hy3]; exact lit_cellsH hH.symm
      have G3 := G.trans gz
      have o13 := (O1.out.gr HG2.out).gr gz
      have o23 := O2.out.gr gz
      have hww : w.heap.size ≤ wr.heap.size := hgr.le
      have onK : On (fun b => w.heap.size ≤ b ∧ (Value.slice oa k oc).ownBlock ≠ some b) (fun W => trK.R W [.int .i64 tk.label, .slice pa1 (tk.pre.eraseIdx p).length pc1, .slice qa1 (tk.post.eraseIdx p).length qc1] (lessP p tk)) y3 := by
        have a1 : On (fun b => w.heap.size ≤ b ∧ (Value.slice oa k oc).ownBlock ≠ some b) (fun W => Ints W (.slice pa1 (tk.pre.eraseIdx p).length pc1) (tk.pre.eraseIdx p)) y3 := (Ints.on_fresh o13).mono fun b _ hb => ⟨by omega, fun e => by have := HOB.out b e; omega⟩
        have a2 : On (fun b => w.heap.size ≤ b ∧ (Value.slice oa k oc).ownBlock ≠ some b) (fun W => Ints W (.slice qa1 (tk.post.eraseIdx p).length qc1) (tk.post.eraseIdx p)) y3 := (Ints.on_fresh o23).mono fun b _ hb => ⟨by omega, fun e => by have := HOB.out b e; omega⟩
        exact (a1.and a2).imp fun W hW => ⟨_, _, rfl, HLAB.out, hW.1, hW.2⟩
      have HO3 := Lib.hid (HOA.out.gr G3)
      have HG3 := Lib.hid (HGA.out.trans G3)
      have HLT := Lib.hid hLit
      have HON := Lib.hid onK
      clear hy3 hH gz hLit o13 o23 onK
      refine next13 (by kernel_rfl) (fun K hK => ?_)
      refine step_app_one trKTy ?_ (.tmp 19) (.tmp 31) ?_ w.heap.size (fun b => w.heap.size ≤ b) (.slice oa k oc) L ⟨H, 0, none⟩ (lessP p tk) [.int .i64 tk.label, .slice pa1 (tk.pre.eraseIdx p).length pc1, .slice qa1 (tk.post.eraseIdx p).length qc1] ?_ ?_ ?_ ?_ ?_ ?_ ?_ ?_ ?_
      · rfl
      · rfl
      · rfl
      · rfl
      · exact HO3.out
      · exact HLT.out
      · exact HON.out
      · have := HOL.out; omega
      · have := HOL.out; unfold maxLen; omega
      · exact HG3.out.le
      intro g6 cp6 y4 o6 hgs6 hgb6 hat6 hlt6
      have G6 : Gr w y4 := hgs6 w (Nat.le_refl _) HG3.out
      have hxn : some wr.heap.size ≠ (Value.slice oa k oc).ownBlock := fun e => by have := HOB.out _ e.symm; omega
      (refine hK.out _ _ ?_ (fun hHeld => ?_); · (exact ⟨cell_grownR (cell_gr HS0.out.1 G3) hgb6 hxn, cell_grownR (cell_gr HS0.out.2.1 G3) hgb6 hxn, cell_grownR (cell_gr HS0.out.2.2 G3) hgb6 hxn⟩))
      clear hK K
      try simp only [Act.put, List.setIfInBounds_toArray, List.set_cons_zero, List.set_cons_succ]
      have HO6 := Lib.hid o6
      have HG6 := Lib.hid G6
      clear o6 hgs6 hgb6 hat6 hlt6 G6 G3 G
      refine ends14 (by kernel_rfl) (fun K hK => ?_)
      go_simp
      refine hK.out _ _ ?_
      clear hK K
      go_wp2_with fail
      exact ⟨⟨k + 1, by go_num, by omega, by rw [HN.out]; exact HO6.out, HG6.out⟩, by simp [intOf]; omega⟩
    · obtain rfl : k = ts.length := by omega
      rw [List.take_length] at ho
      obtain ⟨la, lc, rfl, _, _⟩ := ho.len
      have hlm : (ts.map (lessP p)).length = ts.length := List.length_map ..
      have b0 := HB.out.gr hgr
      have e0 := b0.cell (i := 0) (v := .int .i64 s.net.places) rfl
      have e1 := b0.cell (i := 1) (v := .slice a ts.length cap) rfl
      have f0 := b0.frozen 0
      have f1 := b0.frozen 1
      have hPw : I64 (s.net.places - 1) := by constructor <;> omega
      have hPa := hP.1
      have hPb := hP.2
      obtain ⟨⟨hia, hib⟩, hoa, hob⟩ := hio
      have HO := Lib.hid ho
      have B0 := Lib.hid b0
      rw [hlm] at HO ⊢
      have HGR := Lib.hid hgr
      clear ho b0 hlm
      go_wp2_with fail
      obtain ⟨w5, hw5⟩ : ∃ w5, w5 = (wr.setCell ⟨sb, 0, none⟩ (.int .i64 (s.net.places - 1))).setCell ⟨sb, 1, none⟩ (.slice la ts.length lc) := ⟨_, rfl⟩
      rw [← hw5]
      have b5 : Blk w5 sb 65 #[.int .i64 (s.net.places - 1), .slice la ts.length lc, .int .i64 s.i, .int .i64 s.o] := by
        have := (B0.out.set 0 (.int .i64 (s.net.places - 1))).set 1 (.slice la ts.length lc)
        rw [hw5]
        simp only [List.setIfInBounds_toArray, List.set_cons_zero, List.set_cons_succ] at this
        exact this
      have hle := HH.out.le
      have g5 : Gr w0 w5 := by rw [hw5]; exact (((HH.out.gr.trans HGR.out)).setCell hle _).setCell hle _
      have hne : (Value.slice la ts.length lc).ownBlock ≠ some sb := fun e => by have := (HO.out.lt e).1; omega
      have t5 : TrO (fun b => b ≠ sb ∧ w0.heap.size ≤ b) w5 (.slice la ts.length lc) (ts.map (lessP p)) := by
        rw [hw5]
        have h1 := (HO.out.other (a := ⟨sb, 0, none⟩) hne (by show ¬ w.heap.size ≤ sb; omega) (.int .i64 (s.net.places - 1))).other (a := ⟨sb, 1, none⟩) hne (by show ¬ w.heap.size ≤ sb; omega) (.slice la ts.length lc)
        have hw0 := HH.out.gr.le
        exact TrO.own h1 (fun b hb => ⟨fun e => by subst e; exact hne hb, by have := (HO.out.lt hb).1; omega⟩) (fun b _ hb => ⟨by omega, by omega⟩)
      have B5 := Lib.hid b5
      have G5 := Lib.hid g5
      have T5 := Lib.hid t5
      clear hw5 b5 g5 t5 e0 e1 f0 f1 c1
      go_region_held3 (fun _ => True) (first | trivial) (first | fail)
      obtain ⟨w6, hw6⟩ : ∃ w6, w6 = (w5.alloc (.cells #[.pointer (some ⟨sb, 2, none⟩), .pointer (some ⟨sb, 3, none⟩)] 117)).drew := ⟨_, rfl⟩
      rw [← hw6]
      have g56 : Gr w5 w6 := by rw [hw6]; exact ((Gr.refl _).alloc _).drew
      have b6 : Blk w6 w5.heap.size 117 #[.pointer (some ⟨sb, 2, none⟩), .pointer (some ⟨sb, 3, none⟩)] := by rw [hw6]; exact (Blk.new rfl).gr ((Gr.refl _).drew)
      have p0 := b6.cell (i := 0) (v := .pointer (some ⟨sb, 2, none⟩)) rfl
      have p1 := b6.cell (i := 1) (v := .pointer (some ⟨sb, 3, none⟩)) rfl
      have hlb : w5.heap.size ≠ sb := by have := B5.out.lt; omega
      have B6 := Lib.hid (B5.out.gr g56)
      have G6 := Lib.hid (G5.out.trans g56)
      have T6 := Lib.hid (T5.out.gr g56)
      clear hw6 b6 g56
      go_wp2_with fail
      go_loopw [53] (fun q wq => ∃ k : Nat, q = .int .i64 k ∧ k ≤ 2 ∧ Blk wq sb 65 #[.int .i64 (s.net.places - 1), .slice la ts.length lc, .int .i64 (if k = 0 then s.i else shiftP p s.i), .int .i64 (if k = 2 then shiftP p s.o else s.o)] ∧ Kp (fun b => b ≠ sb) w6 wq ∧ Gr w0 wq) (fun q _ => 2 - (intOf q).toNat)
      case atStart => exact ⟨0, rfl, by omega, B6.out, Kp.refl _ _, G6.out⟩
      case round =>
        rename World => wq
        obtain ⟨k, rfl, hk2, hbq, hkq, hgq⟩ := hrel
        have q0 := cell_kp hkq p0 hlb
        have q1 := cell_kp hkq p1 hlb
        have hle := HH.out.le
        rcases k with _ | _ | _ | k
        · rw [if_pos rfl, if_neg (by omega)] at hbq
          have d2 := hbq.cell (i := 2) (v := .int .i64 s.i) rfl
          have f2 := hbq.frozen 2
          have BQ := Lib.hid hbq
          clear hbq
          by_cases hpi : (p : Int) < s.i
          · have hs : shiftP p s.i = s.i - 1 := by unfold shiftP; rw [if_pos hpi]
            have hI1 : I64 (s.i - 1) := by constructor <;> omega
            have hnb := BQ.out.set 2 (.int .i64 (s.i - 1))
            simp only [List.setIfInBounds_toArray, List.set_cons_zero, List.set_cons_succ] at hnb
            have NB := Lib.hid hnb
            have HS := Lib.hid hs
            clear hs hnb
            go_wp2_with fail
            go_roundw
            case rel => exact ⟨1, by go_num, by omega, by rw [if_neg (by omega), if_neg (by omega), HS.out]; exact NB.out, hkq.trans (set_kp (a := ⟨sb, 2, none⟩) (by simp) _), hgq.setCell hle _⟩
            case measure => simp [intOf]
          · have hs : shiftP p s.i = s.i := by unfold shiftP; rw [if_neg hpi]
            have HS := Lib.hid hs
            clear hs
            go_wp2_with fail
            go_roundw
            case rel => exact ⟨1, by go_num, by omega, by rw [if_neg (by omega), if_neg (by omega), HS.out]; exact BQ.out, hkq, hgq⟩
            case measure => simp [intOf]
        · rw [if_neg (by omega), if_neg (by omega)] at hbq
          have d2 := hbq.cell (i := 3) (v := .int .i64 s.o) rfl
          have f2 := hbq.frozen 3
          have BQ := Lib.hid hbq
          clear hbq
          by_cases hpi : (p : Int) < s.o
          · have hs : shiftP p s.o = s.o - 1 := by unfold shiftP; rw [if_pos hpi]
            have hI1 : I64 (s.o - 1) := by constructor <;> omega
            have hnb := BQ.out.set 3 (.int .i64 (s.o - 1))
            simp only [List.setIfInBounds_toArray, List.set_cons_zero, List.set_cons_succ] at hnb
            have NB := Lib.hid hnb
            have HS := Lib.hid hs
            clear hs hnb
            go_wp2_with fail
            go_roundw
            case rel => exact ⟨2, by go_num, by omega, by rw [if_neg (by omega), if_pos rfl, HS.out]; exact NB.out, hkq.trans (set_kp (a := ⟨sb, 3, none⟩) (by simp) _), hgq.setCell hle _⟩
            case measure => simp [intOf]
          · have hs : shiftP p s.o = s.o := by unfold shiftP; rw [if_neg hpi]
            have HS := Lib.hid hs
            clear hs
            go_wp2_with fail
            go_roundw
            case rel => exact ⟨2, by go_num, by omega, by rw [if_neg (by omega), if_pos rfl, HS.out]; exact BQ.out, hkq, hgq⟩
            case measure => simp [intOf]
        · rw [if_neg (by omega), if_pos rfl] at hbq
          have BQ := Lib.hid hbq
          clear hbq
          go_wp2_with fail
          first | refine bodyPost_end (results_none rfl _ _ _) rfl ?_ | refine bodyPost_ret (results_none rfl _ _ _) rfl ?_
          refine ⟨rfl, ⟨⟨.slice la ts.length lc, BQ.out, ?_⟩, hgq, hle⟩⟩
          have := T6.out.kp (hkq.mono fun b _ hs => hs.1)
          rw [HTS.out] at this
          rw [HTS.out]
          exact this
        · omega
end Go.Proofs.Ytjpapgbdhflgnaa

/- Contract of reduce's trans. -/
namespace Go.Tok
open Go.RowKit
set_option linter.unusedVariables false
theorem find_is {p : Nat → Bool} {n k : Nat} (hk : k < n) (h : ∀ j, j < k → p j = false) (hp : p k = true) : (List.range n).find? p = some k := by
  rw [List.find?_range_eq_some]
  exact ⟨hp, List.mem_range.2 hk, fun j hj => by rw [h j hj]; rfl⟩
theorem find_no {p : Nat → Bool} {n : Nat} (h : ∀ j, j < n → p j = false) : (List.range n).find? p = none := by
  rw [List.find?_eq_none]
  intro j hj
  rw [h j (List.mem_range.1 hj)]; simp
theorem any_no {p : Nat → Bool} {n : Nat} (h : ∀ j, j < n → p j = false) : (List.range n).any p = false := by
  rw [List.any_eq_false]
  intro j hj
  rw [h j (List.mem_range.1 hj)]; simp
theorem any_yes {p : Nat → Bool} {n k : Nat} (hk : k < n) (h : p k = true) : (List.range n).any p = true := List.any_eq_true.2 ⟨k, List.mem_range.2 hk, h⟩
end Go.Tok
namespace Go.Proofs.Ytjpapgbdhflgnaa
open Go.RowKit Go.Tok
set_option linter.unusedVariables false
/-- a step was done, or there is none of its kind -/
def RetSt (w0 : World) (sb : Nat) (s : SmD) (r : Option SmD) (e : Ending) (w' : World) : Prop := e = .returned (.bool r.isSome) ∧ SmW w0 w' sb (r.getD s)
set_option maxHeartbeats 4000000 in
set_option maxRecDepth 100000 in
theorem trans_calls (w0 w : World) (sb : Nat) (s : SmD) (h : SmW w0 w sb s) (hl : s.net.trans.length ≤ 1000) :
    Calls Try.prog 22 #[.pointer (some ⟨sb, 0, none⟩)] w (RetSt w0 sb s (transF s)) := by
  obtain ⟨tv, hb, hT⟩ := h.ex
  obtain ⟨a, cap, rfl, _, _⟩ := hT.len
  have c1 := hb.cell (i := 1) (v := .slice a s.net.trans.length cap) rfl
  have HT := Lib.hid hT
  have HH := Lib.hid h
  obtain ⟨ts, hts⟩ : ∃ ts, ts = s.net.trans := ⟨_, rfl⟩
  obtain ⟨r, hr⟩ : ∃ r, r = transF s := ⟨_, rfl⟩
  rw [← hts] at HT hl c1
  rw [← hr]
  have hr2 : r = ((List.range ts.length).find? (dupB ts)).map (dropT s) := by rw [hr, hts]; rfl
  have HR := Lib.hid hr2
  have HTS := Lib.hid hts
  clear h hb hT hts hr hr2
  go_enter Try.func22, Try.ntmps22
  go_wp2_with fail
  go_loopw [13] (fun q wr => ∃ k : Nat, q = .int .i64 k ∧ k ≤ ts.length ∧ (∀ k', k' < k → dupB ts k' = false) ∧ Gr w wr) (fun q _ => ts.length - (intOf q).toNat)
  case atStart => exact ⟨0, rfl, Nat.zero_le _, fun k' h => by omega, Gr.refl _⟩
  case round =>
    rename World => wr
    obtain ⟨k, rfl, hk, hno, hgr⟩ := hrel
    have HNO := Lib.hid hno
    clear hno
    by_cases hlt : k < ts.length
    · have hkI : (k : Int) < (ts.length : Int) := by omega
      have hk0 : (0 : Int) ≤ (k : Int) := by omega
      have hkc : k ≤ cap := by obtain ⟨_, _, e, h1, _⟩ := HT.out.len; cases e; omega
      have hkcI : (k : Int) ≤ (cap : Int) := by omega
      obtain ⟨b, o, vp, vq, rfl, d0, d1, d2, hlab, hop, hoq⟩ := (HT.out.gr hgr).at_ hlt
      have hpp := hop.now
      have hqq := hoq.now
      obtain ⟨tk, htk⟩ : ∃ t, t = ix ts k := ⟨_, rfl⟩
      rw [← htk] at d0 hpp hqq
      have HTK := Lib.hid htk
      clear htk hop hoq hlab
      obtain ⟨pa, pc, rfl, _, _⟩ := hpp.len
      obtain ⟨qa, qc, rfl, _, _⟩ := hqq.len
      have bX : Blk (wr.alloc (.cells #[.int .i64 tk.label, .slice pa tk.pre.length pc, .slice qa tk.post.length qc] 48)) wr.heap.size 48 #[.int .i64 tk.label, .slice pa tk.pre.length pc, .slice qa tk.post.length qc] := Blk.new rfl
      have GA : Gr wr (wr.alloc (.cells #[.int .i64 tk.label, .slice pa tk.pre.length pc, .slice qa tk.post.length qc] 48)) := (Gr.refl _).alloc _
      have cA := cell_gr c1 (hgr.trans GA)
      go_wp2_with fail
      obtain ⟨wa, hwa⟩ : ∃ wa, wa = wr.alloc (.cells #[.int .i64 tk.label, .slice pa tk.pre.length pc, .slice qa tk.post.length qc] 48) := ⟨_, rfl⟩
      rw [← hwa] at bX GA cA ⊢
      have HBX := Lib.hid bX
      have HPP := Lib.hid (hpp.gr GA)
      have HQQ := Lib.hid (hqq.gr GA)
      have HGA := Lib.hid (hgr.trans GA)
      clear bX hpp hqq GA hwa d0 d1 d2
      go_loopw [26] (fun q wq => ∃ j : Nat, q = .int .i64 j ∧ j ≤ k ∧ (∀ j', j' < j → dupT (ix ts k) (ix ts j') = false) ∧ Gr wa wq) (fun q _ => k - (intOf q).toNat)
      case atStart => exact ⟨0, rfl, Nat.zero_le _, fun k' h => by omega, Gr.refl _⟩
      case round =>
        rename World => wq
        obtain ⟨j, rfl, hj, hnj, hgq⟩ := hrel
        have HNJ0 := Lib.hid hnj
        clear hnj
        by_cases hjk : j < k
        · have hjI : (j : Int) < (k : Int) := by omega
          have hj0 : (0 : Int) ≤ (j : Int) := by omega
          obtain ⟨b', o', vp, vq, hbo, e0, e1, e2, _, hop, hoq⟩ := (HT.out.gr (HGA.out.trans hgq)).at_ (show j < ts.length by omega)
          cases hbo
          have hpp := hop.now
          have hqq := hoq.now
          obtain ⟨tj, htj⟩ : ∃ t, t = ix ts j := ⟨_, rfl⟩
          rw [← htj] at e0 hpp hqq
          have HTJ := Lib.hid htj
          clear htj hop hoq
          obtain ⟨pa', pc', rfl, _, _⟩ := hpp.len
          obtain ⟨qa', qc', rfl, _, _⟩ := hqq.len
          have bY : Blk (wq.alloc (.cells #[.int .i64 tj.label, .slice pa' tj.pre.length pc', .slice qa' tj.post.length qc'] 48)) wq.heap.size 48 #[.int .i64 tj.label, .slice pa' tj.pre.length pc', .slice qa' tj.post.length qc'] := Blk.new rfl
          have GB : Gr wq (wq.alloc (.cells #[.int .i64 tj.label, .slice pa' tj.pre.length pc', .slice qa' tj.post.length qc'] 48)) := (Gr.refl _).alloc _
          have x1 := cell_gr (cell_gr (HBX.out.cell (i := 1) (v := .slice pa tk.pre.length pc) rfl) hgq) GB
          have x2 := cell_gr (cell_gr (HBX.out.cell (i := 2) (v := .slice qa tk.post.length qc) rfl) hgq) GB
          have y1 := bY.cell (i := 1) (v := .slice pa' tj.pre.length pc') rfl
          have y2 := bY.cell (i := 2) (v := .slice qa' tj.post.length qc') rfl
          have HG2 := Lib.hid (hgq.trans GB)
          have HE1 := Lib.hid (Equal_calls (.slice pa tk.pre.length pc) (.slice pa' tj.pre.length pc') tk.pre tj.pre _ (HPP.out.gr (hgq.trans GB)) (hpp.gr GB))
          have HQ2 := Lib.hid (hqq.gr GB)
          clear hpp hqq bY GB
          rcases h1 : eqB tk.pre tj.pre with _ | _
          · have HNJ : Hid (∀ j', j' < j + 1 → dupT (ix ts k) (ix ts j') = false) := Lib.hid fun j' hj' => by
              by_cases e : j' = j
              · subst e; rw [← HTK.out, ← HTJ.out]; unfold dupT; rw [h1]; rfl
              · exact HNJ0.out j' (by omega)
            rw [h1] at HE1
            clear h1
            go_wp2_with fail
            refine HE1.out.mono ?_
            rintro _ w3 ⟨rfl, g3⟩
            have HGJ := Lib.hid (HG2.out.trans g3)
            go_wp2_with fail
            go_roundw
            case rel => exact ⟨j + 1, by go_num, by omega, HNJ.out, HGJ.out⟩
            case measure => simp [intOf]; omega
          · rw [h1] at HE1
            rcases h2 : eqB tk.post tj.post with _ | _
            · have HNJ : Hid (∀ j', j' < j + 1 → dupT (ix ts k) (ix ts j') = false) := Lib.hid fun j' hj' => by
                by_cases e : j' = j
                · subst e; rw [← HTK.out, ← HTJ.out]; unfold dupT; rw [h1, h2]; rfl
                · exact HNJ0.out j' (by omega)
              go_wp2_with fail
              refine HE1.out.mono ?_
              rintro _ w3 ⟨rfl, g3⟩
              replace x2 := cell_gr x2 g3
              replace y2 := cell_gr y2 g3
              have HE2 := Lib.hid (Equal_calls (.slice qa tk.post.length qc) (.slice qa' tj.post.length qc') tk.post tj.post _ (HQQ.out.gr (HG2.out.trans g3)) (HQ2.out.gr g3))
              rw [h2] at HE2
              clear h1 h2
              go_wp2_with fail
              refine HE2.out.mono ?_
              rintro _ w4 ⟨rfl, g4⟩
              have HGJ := Lib.hid ((HG2.out.trans g3).trans g4)
              go_wp2_with fail
              go_roundw
              case rel => exact ⟨j + 1, by go_num, by omega, HNJ.out, HGJ.out⟩
              case measure => simp [intOf]; omega
            · have hdup : dupB ts k = true := any_yes hjk (by rw [← HTK.out, ← HTJ.out]; unfold dupT; rw [h1, h2]; rfl)
              have hrs : r = some (dropT s k) := by rw [HR.out, find_is hlt HNO.out hdup]; rfl
              have HRS := Lib.hid hrs
              go_wp2_with fail
              refine HE1.out.mono ?_
              rintro _ w3 ⟨rfl, g3⟩
              replace x2 := cell_gr x2 g3
              replace y2 := cell_gr y2 g3
              have HE2 := Lib.hid (Equal_calls (.slice qa tk.post.length qc) (.slice qa' tj.post.length qc') tk.post tj.post _ (HQQ.out.gr (HG2.out.trans g3)) (HQ2.out.gr g3))
              rw [h2] at HE2
              clear h1 h2 hdup hrs
              go_wp2_with fail
              refine HE2.out.mono ?_
              rintro _ w4 ⟨rfl, g4⟩
              have HD := Lib.hid (dropTran_calls w0 w4 sb k s (HH.out.mv ((HGA.out.trans (HG2.out.trans g3)).trans g4)) (by rw [← HTS.out]; exact hlt) (by rw [← HTS.out]; exact hl))
              go_wp2_with fail
              refine HD.out.mono ?_
              rintro _ w5 ⟨rfl, hs5⟩
              go_wp2_with fail
              go_ret
              unfold RetSt
              rw [HRS.out]
              exact ⟨rfl, hs5⟩
        · obtain rfl : j = k := by omega
          have HNK : Hid (∀ k', k' < j + 1 → dupB ts k' = false) := Lib.hid fun k' hk' => by
            by_cases e : k' = j
            · subst e; exact any_no HNJ0.out
            · exact HNO.out k' (by omega)
          have HG3 := Lib.hid (HGA.out.trans hgq)
          go_wp2_with fail
          go_roundw
          case rel => exact ⟨j + 1, by go_num, by omega, HNK.out, HG3.out⟩
          case measure => simp [intOf]; omega
    · obtain rfl : k = ts.length := by omega
      have HRS : Hid (r = none) := Lib.hid (by rw [HR.out, find_no HNO.out]; rfl)
      go_wp2_with fail
      go_ret
      unfold RetSt
      rw [HRS.out]
      exact ⟨rfl, HH.out.mv hgr⟩
end Go.Proofs.Ytjpapgbdhflgnaa

/- Contract of reduce's places. -/
namespace Go.Tok
open Go.RowKit
set_option linter.unusedVariables false
/-- what a small net's numbers are bounded by -/
structure SmB (s : SmD) : Prop where
  pl : 0 ≤ s.net.places ∧ s.net.places ≤ 1000
  tl : s.net.trans.length ≤ 1000
  rows : ∀ k, k < s.net.trans.length → ((ix s.net.trans k).pre.length : Int) = s.net.places ∧ ((ix s.net.trans k).post.length : Int) = s.net.places
  io : (0 ≤ s.i ∧ s.i ≤ 1000) ∧ 0 ≤ s.o ∧ s.o ≤ 1000
end Go.Tok
namespace Go.Proofs.Ytjpapgbdhflgnaa
open Go.RowKit Go.Tok
set_option linter.unusedVariables false
set_option maxHeartbeats 4000000 in
set_option maxRecDepth 100000 in
theorem places_calls (w0 w : World) (sb : Nat) (s : SmD) (h : SmW w0 w sb s) (hB : SmB s) :
    Calls Try.prog 23 #[.pointer (some ⟨sb, 0, none⟩)] w (RetSt w0 sb s (twinF s)) := by
  obtain ⟨tv, hb, hT⟩ := h.ex
  have c0 := hb.cell (i := 0) (v := .int .i64 s.net.places) rfl
  have HH := Lib.hid h
  have HB := Lib.hid hB
  obtain ⟨P, hP⟩ := Int.eq_ofNat_of_zero_le hB.pl.1
  have hP1 := hB.pl.2
  rw [hP] at c0 hP1
  have hPn : P ≤ 1000 := by omega
  obtain ⟨r, hr⟩ : ∃ r, r = twinF s := ⟨_, rfl⟩
  rw [← hr]
  have hr2 : r = ((List.range P).find? fun q => (List.range q).any (pairB s q)).map (dropP s) := by
    rw [hr]; unfold twinF; rw [hP]; rfl
  have hrow : ∀ q, q < P → ∀ k, k < s.net.trans.length → (q < (ix s.net.trans k).pre.length ∧ q < (ix s.net.trans k).post.length) ∧ (ix s.net.trans k).pre.length ≤ 1000 ∧ (ix s.net.trans k).post.length ≤ 1000 := fun q hq k hk => by
    obtain ⟨h1, h2⟩ := hB.rows k hk
    rw [hP] at h1 h2
    omega
  have HR := Lib.hid hr2
  have HROW := Lib.hid hrow
  clear h hb hT hr hr2 hP hB hrow hP1
  go_enter Try.func23, Try.ntmps23
  go_wp2_with fail
  go_loopw [10] (fun q wr => ∃ k : Nat, q = .int .i64 k ∧ k ≤ P ∧ (∀ k', k' < k → (List.range k').any (pairB s k') = false) ∧ Gr w wr) (fun q _ => P - (intOf q).toNat)
  case atStart => exact ⟨0, rfl, Nat.zero_le _, fun k' h => by omega, Gr.refl _⟩
  case round =>
    rename World => wr
    obtain ⟨k, rfl, hk, hno, hgr⟩ := hrel
    have HNO := Lib.hid hno
    clear hno
    by_cases hlt : k < P
    · have hkI : (k : Int) < (P : Int) := by omega
      go_wp2_with fail
      go_loopw [14] (fun q wq => ∃ j : Nat, q = .int .i64 j ∧ j ≤ k ∧ (∀ j', j' < j → pairB s k j' = false) ∧ Gr wr wq) (fun q _ => k - (intOf q).toNat)
      case atStart => exact ⟨0, rfl, Nat.zero_le _, fun k' h => by omega, Gr.refl _⟩
      case round =>
        rename World => wq
        obtain ⟨j, rfl, hj, hnj, hgq⟩ := hrel
        have HNJ0 := Lib.hid hnj
        clear hnj
        by_cases hjk : j < k
        · have hjI : (j : Int) < (k : Int) := by omega
          have HSQ := Lib.hid (HH.out.mv (hgr.trans hgq))
          have HI1 := Lib.hid (inner_calls w0 wq sb s (j : Int) HSQ.out)
          have HI2 := Lib.hid (inner_calls w0 wq sb s (k : Int) HSQ.out)
          have hnext : pairB s k j = false → ∀ j', j' < j + 1 → pairB s k j' = false := fun hf j' hj' => by
            by_cases e : j' = j
            · subst e; exact hf
            · exact HNJ0.out j' (by omega)
          have hpr : pairB s k j = (innerB s j && (innerB s k && eqB (colF s.net.trans j) (colF s.net.trans k))) := rfl
          rcases h1 : innerB s (j : Int) with _ | _
          · have HNJ := Lib.hid (hnext (by rw [hpr, h1]; rfl))
            rw [h1] at HI1
            clear h1 hpr hnext
            go_wp2_with fail
            refine HI1.out.mono ?_
            rintro _ _ ⟨rfl, rfl⟩
            have HGJ := Lib.hid (hgq)
            go_wp2_with fail
            go_roundw
            case rel => exact ⟨j + 1, by go_num, by omega, HNJ.out, HGJ.out⟩
            case measure => simp [intOf]; omega
          · rw [h1] at HI1
            rcases h2 : innerB s (k : Int) with _ | _
            · have HNJ := Lib.hid (hnext (by rw [hpr, h1, h2]; rfl))
              rw [h2] at HI2
              clear h1 h2 hpr hnext
              go_wp2_with fail
              refine HI1.out.mono ?_
              rintro _ _ ⟨rfl, rfl⟩
              go_wp2_with fail
              refine HI2.out.mono ?_
              rintro _ _ ⟨rfl, rfl⟩
              have HGJ := Lib.hid (hgq)
              go_wp2_with fail
              go_roundw
              case rel => exact ⟨j + 1, by go_num, by omega, HNJ.out, HGJ.out⟩
              case measure => simp [intOf]; omega
            · rw [h2] at HI2
              have HC1 := Lib.hid (column_calls w0 wq sb j s HSQ.out (fun k' hk' => (HROW.out j (by omega) k' hk').1) HB.out.tl (by omega))
              rcases h3 : eqB (colF s.net.trans j) (colF s.net.trans k) with _ | _
              · have HNJ := Lib.hid (hnext (by rw [hpr, h1, h2, h3]; rfl))
                have H3 := Lib.hid h3
                clear h1 h2 h3 hpr hnext
                go_wp2_with fail
                refine HI1.out.mono ?_
                rintro _ _ ⟨rfl, rfl⟩
                go_wp2_with fail
                refine HI2.out.mono ?_
                rintro _ _ ⟨rfl, rfl⟩
                go_wp2_with fail
                refine HC1.out.mono ?_
                rintro _ w3 ⟨v3, rfl, o3, g3⟩
                have HC2 := Lib.hid (column_calls w0 w3 sb k s (HSQ.out.mv g3) (fun k' hk' => (HROW.out k hlt k' hk').1) HB.out.tl (by omega))
                have O3 := Lib.hid o3.ints
                clear o3
                go_wp2_with fail
                refine HC2.out.mono ?_
                rintro _ w4 ⟨v4, rfl, o4, g4⟩
                have HE := Lib.hid (Equal_calls v3 v4 _ _ w4 (O3.out.gr g4) o4.ints)
                rw [H3.out] at HE
                clear o4
                go_wp2_with fail
                refine HE.out.mono ?_
                rintro _ w5 ⟨rfl, g5⟩
                have HGJ := Lib.hid (((hgq.trans g3).trans g4).trans g5)
                go_wp2_with fail
                go_roundw
                case rel => exact ⟨j + 1, by go_num, by omega, HNJ.out, HGJ.out⟩
                case measure => simp [intOf]; omega
              · have hrs : r = some (dropP s k) := by rw [HR.out, find_is hlt HNO.out (any_yes hjk (by rw [hpr, h1, h2, h3]; rfl))]; rfl
                have HRS := Lib.hid hrs
                have H3 := Lib.hid h3
                clear h1 h2 h3 hpr hnext hrs
                go_wp2_with fail
                refine HI1.out.mono ?_
                rintro _ _ ⟨rfl, rfl⟩
                go_wp2_with fail
                refine HI2.out.mono ?_
                rintro _ _ ⟨rfl, rfl⟩
                go_wp2_with fail
                refine HC1.out.mono ?_
                rintro _ w3 ⟨v3, rfl, o3, g3⟩
                have HC2 := Lib.hid (column_calls w0 w3 sb k s (HSQ.out.mv g3) (fun k' hk' => (HROW.out k hlt k' hk').1) HB.out.tl (by omega))
                have O3 := Lib.hid o3.ints
                clear o3
                go_wp2_with fail
                refine HC2.out.mono ?_
                rintro _ w4 ⟨v4, rfl, o4, g4⟩
                have HE := Lib.hid (Equal_calls v3 v4 _ _ w4 (O3.out.gr g4) o4.ints)
                rw [H3.out] at HE
                clear o4
                go_wp2_with fail
                refine HE.out.mono ?_
                rintro _ w5 ⟨rfl, g5⟩
                have HD := Lib.hid (dropPlace_calls w0 w5 sb k s (((HSQ.out.mv g3).mv g4).mv g5) (HROW.out k hlt) HB.out.tl (by omega) HB.out.pl HB.out.io)
                go_wp2_with fail
                refine HD.out.mono ?_
                rintro _ w6 ⟨rfl, hs6⟩
                go_wp2_with fail
                go_ret
                unfold RetSt
                rw [HRS.out]
                exact ⟨rfl, hs6⟩
        · obtain rfl : j = k := by omega
          have HNK : Hid (∀ k', k' < j + 1 → (List.range k').any (pairB s k') = false) := Lib.hid fun k' hk' => by
            by_cases e : k' = j
            · subst e; exact any_no HNJ0.out
            · exact HNO.out k' (by omega)
          have HG3 := Lib.hid (hgr.trans hgq)
          go_wp2_with fail
          go_roundw
          case rel => exact ⟨j + 1, by go_num, by omega, HNK.out, HG3.out⟩
          case measure => simp [intOf]; omega
    · obtain rfl : k = P := by omega
      have HRS : Hid (r = none) := Lib.hid (by rw [HR.out, find_no HNO.out]; rfl)
      go_wp2_with fail
      go_ret
      unfold RetSt
      rw [HRS.out]
      exact ⟨rfl, HH.out.mv hgr⟩
end Go.Proofs.Ytjpapgbdhflgnaa

/- Contracts of reduce's only, with the closures that it hands on, and of sum. -/
namespace Go.Tok
open Go.RowKit
set_option linter.unusedVariables false
def onlyV (f : TranD → Int) (ts : List TranD) : Int := match onlyF f ts with
  | none => -1
  | some k => (k : Int)
theorem first_or (p : TranD → Bool) (ts : List TranD) : (firstI p ts = -1 ∧ (List.range ts.length).find? (fun k => p (ix ts k)) = none) ∨ ∃ k, k < ts.length ∧ firstI p ts = (k : Int) ∧ p (ix ts k) = true ∧ (List.range ts.length).find? (fun k => p (ix ts k)) = some k := by
  rcases h : (List.range ts.length).find? (fun k => p (ix ts k)) with _ | k
  · left
    refine ⟨firstI_miss (NoneI.intro fun j hj => ?_), rfl⟩
    have := List.find?_eq_none.1 h j (List.mem_range.2 hj)
    simpa using this
  · right
    rw [List.find?_range_eq_some] at h
    obtain ⟨h1, h2, h3⟩ := h
    have hk := List.mem_range.1 h2
    refine ⟨k, hk, firstI_hit (NoneI.intro fun j hj => ?_) hk h1, h1, rfl⟩
    have := h3 j hj
    simpa using this
end Go.Tok
namespace Go.Proofs.Ytjpapgbdhflgnaa
open Go.RowKit Go.Tok
set_option linter.unusedVariables false
/-- the function g, bound to lb, has f of each transition of ts, in w0 and in every later world -/
def GivesTr (P : Program) (g : Nat) (lb : Array Value) (ts : List TranD) (f : TranD → Int) (w0 : World) : Prop :=
  ∀ (W : World) (vp vq : Value) (t : TranD), t ∈ ts → Gr w0 W → I64 t.label → Ints W vp t.pre → Ints W vq t.post → Calls P g (#[.agg #[.int .i64 t.label, vp, vq]] ++ lb) W fun e w' => e = .returned (.int .i64 (f t)) ∧ Gr W w'
theorem only1_answers (w0 : World) (g fb : Nat) (lb : Array Value) (ts : List TranD) (f : TranD → Int) (eg : ∀ args w, (callFunc g args).run Try.prog w = .ok (.enter g args) w) (hc : w0.cell? ⟨fb, 0, none⟩ = some (.func (.func g) #[] lb)) (hf : GivesTr Try.prog g lb ts f w0) :
    AnswersTr Try.prog 66 #[.pointer (some ⟨fb, 0, none⟩)] ts (fun t => decide (0 < f t)) w0 := by
  intro W vp vq t ht hg hl hp hq
  obtain ⟨pa, pc, rfl, _, _⟩ := hp.len
  obtain ⟨qa, qc, rfl, _, _⟩ := hq.len
  have GA : Gr W (W.alloc (.cells #[.int .i64 t.label, .slice pa t.pre.length pc, .slice qa t.post.length qc] 48)) := (Gr.refl _).alloc _
  have bX : Blk (W.alloc (.cells #[.int .i64 t.label, .slice pa t.pre.length pc, .slice qa t.post.length qc] 48)) W.heap.size 48 #[.int .i64 t.label, .slice pa t.pre.length pc, .slice qa t.post.length qc] := Blk.new rfl
  have x0 := bX.cell (i := 0) (v := .int .i64 t.label) rfl
  have x1 := bX.cell (i := 1) (v := .slice pa t.pre.length pc) rfl
  have x2 := bX.cell (i := 2) (v := .slice qa t.post.length qc) rfl
  have c := cell_gr (cell_gr hc hg) GA
  have hcall := hf _ _ _ t ht (hg.trans GA) hl (hp.gr GA) (hq.gr GA)
  clear bX hc
  rcases h1 : decide (0 < f t) with _ | _
  · have h2 : ¬ (0 < f t) := by simpa using h1
    have HB := Lib.hid h1
    clear h1
    go_enter Try.func66, Try.ntmps66
    go_wp2_with (go_at_fn g; refine hcall.mono ?_; rintro e w' ⟨rfl, g2⟩)
    go_ret
    first | exact ⟨ret_bool HB.out.symm, GA.trans g2⟩ | exact ⟨ret_bool rfl, GA.trans g2⟩
  · have h2 : 0 < f t := by simpa using h1
    have HB := Lib.hid h1
    clear h1
    go_enter Try.func66, Try.ntmps66
    go_wp2_with (go_at_fn g; refine hcall.mono ?_; rintro e w' ⟨rfl, g2⟩)
    go_ret
    first | exact ⟨ret_bool HB.out.symm, GA.trans g2⟩ | exact ⟨ret_bool rfl, GA.trans g2⟩
theorem only2_answers (w0 : World) (g fb : Nat) (lb : Array Value) (ts : List TranD) (f : TranD → Int) (eg : ∀ args w, (callFunc g args).run Try.prog w = .ok (.enter g args) w) (hc : w0.cell? ⟨fb, 0, none⟩ = some (.func (.func g) #[] lb)) (hf : GivesTr Try.prog g lb ts f w0) :
    AnswersTr Try.prog 67 #[.pointer (some ⟨fb, 0, none⟩)] ts (fun t => decide (0 < f t)) w0 := by
  intro W vp vq t ht hg hl hp hq
  obtain ⟨pa, pc, rfl, _, _⟩ := hp.len
  obtain ⟨qa, qc, rfl, _, _⟩ := hq.len
  have GA : Gr W (W.alloc (.cells #[.int .i64 t.label, .slice pa t.pre.length pc, .slice qa t.post.length qc] 48)) := (Gr.refl _).alloc _
  have bX : Blk (W.alloc (.cells #[.int .i64 t.label, .slice pa t.pre.length pc, .slice qa t.post.length qc] 48)) W.heap.size 48 #[.int .i64 t.label, .slice pa t.pre.length pc, .slice qa t.post.length qc] := Blk.new rfl
  have x0 := bX.cell (i := 0) (v := .int .i64 t.label) rfl
  have x1 := bX.cell (i := 1) (v := .slice pa t.pre.length pc) rfl
  have x2 := bX.cell (i := 2) (v := .slice qa t.post.length qc) rfl
  have c := cell_gr (cell_gr hc hg) GA
  have hcall := hf _ _ _ t ht (hg.trans GA) hl (hp.gr GA) (hq.gr GA)
  clear bX hc
  rcases h1 : decide (0 < f t) with _ | _
  · have h2 : ¬ (0 < f t) := by simpa using h1
    have HB := Lib.hid h1
    clear h1
    go_enter Try.func67, Try.ntmps67
    go_wp2_with (go_at_fn g; refine hcall.mono ?_; rintro e w' ⟨rfl, g2⟩)
    go_ret
    first | exact ⟨ret_bool HB.out.symm, GA.trans g2⟩ | exact ⟨ret_bool rfl, GA.trans g2⟩
  · have h2 : 0 < f t := by simpa using h1
    have HB := Lib.hid h1
    clear h1
    go_enter Try.func67, Try.ntmps67
    go_wp2_with (go_at_fn g; refine hcall.mono ?_; rintro e w' ⟨rfl, g2⟩)
    go_ret
    first | exact ⟨ret_bool HB.out.symm, GA.trans g2⟩ | exact ⟨ret_bool rfl, GA.trans g2⟩
theorem sum_calls (v : Value) (xs : List Int) (w : World) (hv : Ints w v xs) (hx : ∀ x ∈ xs, 0 ≤ x ∧ x ≤ 1000) (hl : xs.length ≤ 1000) : Calls Try.prog 52 #[v] w fun e w' => e = .returned (.int .i64 (sumF xs)) ∧ w = w' := by
  obtain ⟨a, cap, rfl, _, _⟩ := hv.len
  have hs : ∀ k, k ≤ xs.length → 0 ≤ (xs.take k).foldl (· + ·) 0 ∧ (xs.take k).foldl (· + ·) 0 ≤ 1000 * (k : Int) := by
    intro k
    induction k with
    | zero => intro _; simp
    | succ k ih =>
      intro hk
      have h1 := ih (by omega)
      have h2 := hx _ (List.getElem_mem (show k < xs.length by omega))
      rw [List.take_succ_eq_append_getElem (by omega), List.foldl_append]
      simp only [List.foldl_cons, List.foldl_nil]
      omega
  have HS := Lib.hid hs
  clear hs hx
  go_enter Try.func52, Try.ntmps52
  go_wp2
  go_loop [3, 8] (fun n i => ∃ k : Nat, k ≤ xs.length ∧ i = .int .i64 k ∧ n = .int .i64 ((xs.take k).foldl (· + ·) 0)) (fun _ i => xs.length - (intOf i).toNat)
  case atStart => exact ⟨0, Nat.zero_le _, rfl, rfl⟩
  case round =>
    obtain ⟨k, hk, rfl, rfl⟩ := hrel
    by_cases hlt : k < xs.length
    · obtain ⟨b, o, rfl, c0⟩ := hv.cell hlt
      have h1 := HS.out k hk
      have h2 := HS.out (k + 1) hlt
      have hN : (xs.take (k + 1)).foldl (· + ·) 0 = (xs.take k).foldl (· + ·) 0 + nth xs k := by
        rw [List.take_succ_eq_append_getElem hlt, List.foldl_append, nth_lt hlt]; rfl
      have HN := Lib.hid hN
      rw [hN] at h2
      clear hN
      generalize (xs.take k).foldl (· + ·) 0 = S at h1 h2 HN ⊢
      have hkI : (k : Int) < (xs.length : Int) := by omega
      obtain ⟨h1a, h1b⟩ := h1
      obtain ⟨h2a, h2b⟩ := h2
      have hbnd : I64 (S + nth xs k) := by constructor <;> omega
      go_wp2
      go_round
      case rel => exact ⟨k + 1, by omega, by go_num, by rw [HN.out]⟩
      case measure => simp [intOf]; omega
    · obtain rfl : k = xs.length := by omega
      have hE : (xs.take xs.length).foldl (· + ·) 0 = sumF xs := by rw [List.take_length]; rfl
      rw [hE]
      go_wp2
      go_ret
      exact ⟨rfl, rfl⟩
end Go.Proofs.Ytjpapgbdhflgnaa

/- Contract of reduce's only. -/
namespace Go.Tok
open Go.RowKit
set_option linter.unusedVariables false
theorem TransR.tail {w : World} {b o n cap k : Nat} {ts : List TranD} (h : TransR w (.slice (some ⟨b, o, none⟩) n cap) ts) (hk : k + 1 ≤ ts.length) {A : Addr} (hA : A = if cap = k + 1 then ⟨b, o, none⟩ else ⟨b, o + (k + 1) * 3, none⟩) : TransR w (.slice (some A) (ts.length - (k + 1)) (cap - (k + 1))) (ts.drop (k + 1)) := by
  have h0 := h
  unfold TransR at h0
  obtain ⟨a', cap', h1, h2, h3, _⟩ := h0
  cases h1
  refine TransR.intro (by rw [List.length_drop]) (by rw [List.length_drop]; omega) (by omega) fun i hi => ?_
  rw [List.length_drop] at hi
  obtain ⟨b', o', vp, vq, ha, c0, c1, c2, hl, hp, hq⟩ := h.at_ix (show k + 1 + i < ts.length by omega)
  cases ha
  have e : (ts.drop (k + 1)).getD i default = ix ts (k + 1 + i) := by
    rw [ix_lt (by omega)]
    simp [List.getD, List.getElem?_drop, show k + 1 + i < ts.length by omega]
  rw [e]
  rw [if_neg (by omega)] at hA
  refine ⟨b, o + (k + 1) * 3, vp, vq, by rw [hA], ?_, ?_, ?_, hl, hp, hq⟩
  · rw [show o + (k + 1) * 3 + i * 3 = o + (k + 1 + i) * 3 by omega]; exact c0
  · rw [show o + (k + 1) * 3 + i * 3 + 1 = o + (k + 1 + i) * 3 + 1 by omega]; exact c1
  · rw [show o + (k + 1) * 3 + i * 3 + 2 = o + (k + 1 + i) * 3 + 2 by omega]; exact c2
end Go.Tok
namespace Go.Proofs.Ytjpapgbdhflgnaa
open Go.RowKit Go.Tok
set_option linter.unusedVariables false
theorem run_sliceT {b o n cap k : Nat} (hk : k + 1 ≤ n) (h : n ≤ cap) (h2 : cap ≤ 9223372036854775807) (w : World) :
    (Go.Instr.slice 26 (.slice (some ⟨b, o, none⟩) n cap) (some (.int .i64 ((k : Int) + 1))) none none).run Try.prog w = .ok (.slice (some (if cap = k + 1 then ⟨b, o, none⟩ else ⟨b, o + (k + 1) * 3, none⟩)) (n - (k + 1)) (cap - (k + 1))) w := by
  have h3 : (0 : Int) ≤ (k : Int) + 1 ∧ (k : Int) + 1 ≤ (n : Int) := by omega
  unfold Go.Instr.slice
  simp only [Sem.run_bind, run_underlying Try.underlying26, Result.andThen_ok]
  unfold Go.Instr.sliceBounds Go.Instr.sliceBound
  simp only [Sem.run_bind, Sem.run_pure, asIntOf, Result.andThen_ok, if_pos h3, Try.sizeOf48]
  have e : ((k : Int) + 1).toNat = k + 1 := by omega
  rw [e]
  by_cases hc : cap = k + 1
  · rw [if_pos hc, if_pos hc]
  · rw [if_neg hc, if_neg hc]; simp [Addr.add]
set_option maxHeartbeats 4000000 in
set_option maxRecDepth 100000 in
theorem only_calls (v : Value) (ts : List TranD) (g : Nat) (lb : Array Value) (f : TranD → Int) (w : World) (eg : ∀ args w, (callFunc g args).run Try.prog w = .ok (.enter g args) w) (hv : TransR w v ts) (hf : GivesTr Try.prog g lb ts f w) (hl : ts.length ≤ 1000) :
    Calls Try.prog 49 #[v, .func (.func g) #[] lb] w fun e w' => e = .returned (.int .i64 (onlyV f ts)) ∧ Gr w w' := by
  obtain ⟨a, cap, rfl, hc1, hc2⟩ := hv.len
  have GA : Gr w (w.alloc (.cells #[.func (.func g) #[] lb] 94)) := (Gr.refl _).alloc _
  have x0 : (w.alloc (.cells #[.func (.func g) #[] lb] 94)).cell? ⟨w.heap.size, 0, none⟩ = some (.func (.func g) #[] lb) := box_cell (Gr.refl _) (i := 0) rfl
  obtain ⟨wa, hwa⟩ : ∃ wa, wa = w.alloc (.cells #[.func (.func g) #[] lb] 94) := ⟨_, rfl⟩
  rw [← hwa] at GA x0
  have hfa : GivesTr Try.prog g lb ts f wa := fun W vp vq t h1 h2 => hf W vp vq t h1 (GA.trans h2)
  have eg1 : ∀ args w, (callFunc 66 args).run Try.prog w = .ok (.enter 66 args) w := (Go.Proofs.enters_of Try.func66 (by kernel_rfl) rfl)
  have eg2 : ∀ args w, (callFunc 67 args).run Try.prog w = .ok (.enter 67 args) w := (Go.Proofs.enters_of Try.func67 (by kernel_rfl) rfl)
  have HI := Lib.hid (IndexFuncTr_calls _ ts 66 #[.pointer (some ⟨w.heap.size, 0, none⟩)] (fun t => decide (0 < f t)) wa eg1 (hv.gr GA) (only1_answers wa g w.heap.size lb ts f eg x0 hfa))
  have HA2 := Lib.hid (only2_answers wa g w.heap.size lb ts f eg x0 hfa)
  have HF := Lib.hid hfa
  have HV := Lib.hid (hv.gr GA)
  have HEG2 := Lib.hid eg2
  have HWA := Lib.hid hwa
  obtain ⟨val, hval⟩ : ∃ val, val = onlyV f ts := ⟨_, rfl⟩
  rw [← hval]
  have HVAL := Lib.hid hval
  clear hfa hval hwa eg1 eg2 hf
  rcases first_or (fun t => decide (0 < f t)) ts with ⟨hi, hfd⟩ | ⟨k, hk, hi, hpk, hfd⟩
  · have hV : val = -1 := by rw [HVAL.out]; unfold onlyV onlyF; rw [hfd]
    subst hV
    rw [hi] at HI
    clear hi hfd
    go_enter Try.func49, Try.ntmps49
    go_wp2_with fail
    rw [← HWA.out]
    refine HI.out.mono ?_
    rintro _ w2 ⟨rfl, g2⟩
    go_wp2_with fail
    go_quiet (fail)
    go_wp2_with fail
    go_ret
    exact ⟨rfl, (GA.trans g2).drewN _⟩
  · have hkI : (k : Int) < (ts.length : Int) := by omega
    have hk0 : (0 : Int) ≤ (k : Int) := by omega
    have hk00 : ¬ ((k : Int) < 0) := by omega
    have hkd : decide ((k : Int) < 0) = false := by simp
    have hkb : (k : Int) ≤ 1000 := by omega
    have hkw : IntKind.i64.wrap ((k : Int) + 1) = (k : Int) + 1 := Go.IntWalk.i64_in _ (by omega)
    rw [hi] at HI
    clear hi
    obtain ⟨b, o, vp, vq, rfl, d0, d1, d2, hlab, hp, hq⟩ := HV.out.at_ix hk
    obtain ⟨A, hA⟩ : ∃ A : Addr, A = if cap = k + 1 then ⟨b, o, none⟩ else ⟨b, o + (k + 1) * 3, none⟩ := ⟨_, rfl⟩
    have S1 := fun w => run_sliceT (b := b) (o := o) hk hc1 hc2 w
    rw [← hA] at S1
    have HTL := Lib.hid (HV.out.tail hk hA)
    obtain ⟨tk, htk⟩ : ∃ t, t = ix ts k := ⟨_, rfl⟩
    rw [← htk] at d0 hp hq hlab hpk
    have htm : tk ∈ ts := by rw [htk]; exact ix_mem hk
    obtain ⟨pa, pc, rfl, _, _⟩ := hp.len
    obtain ⟨qa, qc, rfl, _, _⟩ := hq.len
    have HCALL := Lib.hid (fun W (g : Gr wa W) => HF.out W _ _ tk htm g hlab (hp.gr g) (hq.gr g))
    have KS : Hid (∀ w', Gr wa w' → w'.cell? ⟨w.heap.size, 0, none⟩ = some (.func (.func g) #[] lb) ∧ w'.cell? ⟨b, o + k * 3, none⟩ = some (.int .i64 tk.label) ∧ w'.cell? ⟨b, o + k * 3 + 1, none⟩ = some (.slice pa tk.pre.length pc) ∧ w'.cell? ⟨b, o + k * 3 + 2, none⟩ = some (.slice qa tk.post.length qc)) := Lib.hid fun w' g => ⟨cell_gr x0 g, cell_gr d0 g, cell_gr d1 g, cell_gr d2 g⟩
    have hVal : val = if f tk = 1 ∧ (ts.drop (k + 1)).any (fun t => decide (0 < f t)) = false then (k : Int) else -1 := by
      rw [HVAL.out]
      unfold onlyV onlyF
      rw [hfd]
      show (match (if f (ix ts k) = 1 ∧ (ts.drop (k + 1)).any (fun t => decide (0 < f t)) = false then some k else none) with | none => -1 | some k => (k : Int)) = _
      rw [← htk]
      by_cases h : f tk = 1 ∧ (ts.drop (k + 1)).any (fun t => decide (0 < f t)) = false
      · rw [if_pos h, if_pos h]
      · rw [if_neg h, if_neg h]
    clear hA hfd htk htm hp hq hlab hpk d0 d1 d2
    by_cases h1 : f tk = 1
    case neg =>
      have hV : val = -1 := by rw [hVal, if_neg (fun h => h1 h.1)]
      subst hV
      have q1 : (f tk != 1) = true := by simpa using h1
      clear hVal h1
      go_enter Try.func49, Try.ntmps49
      go_wp2_with fail
      rw [← HWA.out]
      refine HI.out.mono ?_
      rintro _ w2 ⟨rfl, g2⟩
      have g2' := GA.trans g2
      go_wp2_with fail
      refine cut18 (S := fun w' => w'.cell? ⟨w.heap.size, 0, none⟩ = some (.func (.func g) #[] lb) ∧ w'.cell? ⟨b, o + k * 3, none⟩ = some (.int .i64 tk.label) ∧ w'.cell? ⟨b, o + k * 3 + 1, none⟩ = some (.slice pa tk.pre.length pc) ∧ w'.cell? ⟨b, o + k * 3 + 2, none⟩ = some (.slice qa tk.post.length qc)) (by kernel_rfl) (by kernel_rfl) (KS.out _ (g2.drew)) (fun hHeld => ?_)
      obtain ⟨y0, hy⟩ : ∃ y, y = w2.drew := ⟨_, rfl⟩
      have G : Gr wa y0 := by rw [hy]; exact g2.drew
      rw [← hy] at hHeld ⊢
      clear hy
      (refine hold0 (v := ?_) (by kernel_rfl) (by kernel_rfl) (by kernel_rfl) (fun _ _ _ h => h) (by rfl) (fun w' hSw => ?_) (by assumption) ?_; rotate_left 1; · ((try dsimp only at hSw); (try go_simp); (try (with_reducible rfl))); (try simp only [Act.put, List.setIfInBounds_toArray, List.set_cons_zero, List.set_cons_succ]))
      (refine hold1 (v := ?_) (by kernel_rfl) (by kernel_rfl) (by kernel_rfl) (fun _ _ _ h => h) (by rfl) (fun w' hSw => ?_) (by assumption) ?_; rotate_left 1; · ((try dsimp only at hSw); (try go_simp); (try (with_reducible rfl))); (try simp only [Act.put, List.setIfInBounds_toArray, List.set_cons_zero, List.set_cons_succ]))
      (refine hold2 (v := ?_) (by kernel_rfl) (by kernel_rfl) (by kernel_rfl) (fun _ _ _ h => h) (by rfl) (fun w' hSw => ?_) (by assumption) ?_; rotate_left 1; · ((try dsimp only at hSw); (try go_simp); (try (with_reducible rfl))); (try simp only [Act.put, List.setIfInBounds_toArray, List.set_cons_zero, List.set_cons_succ]))
      (refine hold3 (v := ?_) (by kernel_rfl) (by kernel_rfl) (by kernel_rfl) (fun _ _ _ h => h) (by kernel_rfl) (fun w' hSw => ?_) (by assumption) ?_; rotate_left 1; · ((try dsimp only at hSw); (try go_simp); (try (with_reducible rfl))); (try simp only [Act.put, List.setIfInBounds_toArray, List.set_cons_zero, List.set_cons_succ]))
      (refine hold4 (v := ?_) (by kernel_rfl) (by kernel_rfl) (by kernel_rfl) (fun _ _ _ h => h) (by kernel_rfl) (fun w' hSw => ?_) (by assumption) ?_; rotate_left 1; · ((try dsimp only at hSw); (try go_simp); (try (with_reducible rfl))); (try simp only [Act.put, List.setIfInBounds_toArray, List.set_cons_zero, List.set_cons_succ]))
      (refine hold5 (v := ?_) (by kernel_rfl) (by kernel_rfl) (by kernel_rfl) (fun _ _ _ h => h) (by kernel_rfl) (fun w' hSw => ?_) (by assumption) ?_; rotate_left 1; · ((try dsimp only at hSw); (try go_simp); (try (with_reducible rfl))); (try simp only [Act.put, List.setIfInBounds_toArray, List.set_cons_zero, List.set_cons_succ]))
      (refine hold6 (v := ?_) (by kernel_rfl) (by kernel_rfl) (by kernel_rfl) (fun _ _ _ h => h) (by kernel_rfl) (fun w' hSw => ?_) (by assumption) ?_; rotate_left 1; · ((try dsimp only at hSw); (try go_simp); (try (with_reducible rfl))); (try simp only [Act.put, List.setIfInBounds_toArray, List.set_cons_zero, List.set_cons_succ]))
      (refine hold7 (v := ?_) (by kernel_rfl) (by kernel_rfl) (by kernel_rfl) (fun _ _ _ h => h) (by kernel_rfl) (fun w' hSw => ?_) (by assumption) ?_; rotate_left 1; · ((try dsimp only at hSw); (try go_simp); (try (with_reducible rfl))); (try simp only [Act.put, List.setIfInBounds_toArray, List.set_cons_zero, List.set_cons_succ]))
      refine next8 (by kernel_rfl) (fun K hK => ?_)
      go_simp
      go_at_fn g
      (refine (HCALL.out _ ?_).mono ?_)
      · exact G
      rintro _ w3 ⟨rfl, g3⟩
      (refine hK.out _ _ ?_ (fun hHeld => ?_); · (exact KS.out _ (G.trans g3)))
      clear hK K
      try simp only [Act.put, List.setIfInBounds_toArray, List.set_cons_zero, List.set_cons_succ]
      (refine hold9 (v := ?_) (by kernel_rfl) (by kernel_rfl) (by kernel_rfl) (fun _ _ _ h => h) (by kernel_rfl) (fun w' hSw => ?_) (by assumption) ?_; rotate_left 1; · ((try dsimp only at hSw); (try go_simp); (try (with_reducible rfl))); (try simp only [Act.put, List.setIfInBounds_toArray, List.set_cons_zero, List.set_cons_succ]))
      (refine hold10 (v := ?_) (by kernel_rfl) (by kernel_rfl) (by kernel_rfl) (fun _ _ _ h => h) (by rfl) (fun w' hSw => ?_) (by assumption) ?_; rotate_left 1; · ((try dsimp only at hSw); (try go_simp); (try (with_reducible rfl))); (try simp only [Act.put, List.setIfInBounds_toArray, List.set_cons_zero, List.set_cons_succ]))
      (refine hold11 (v := ?_) (by kernel_rfl) (by kernel_rfl) (by kernel_rfl) (fun _ _ _ h => h) (by rfl) (fun w' hSw => ?_) (by assumption) ?_; rotate_left 1; · ((try dsimp only at hSw); (try go_simp); (try (with_reducible rfl))); (try simp only [Act.put, List.setIfInBounds_toArray, List.set_cons_zero, List.set_cons_succ]))
      (refine skip12 (by kernel_rfl) (by kernel_rfl) (by kernel_rfl) (fun _ _ _ h => h) (by kernel_rfl) (by assumption) ?_; (try simp only [Act.put, List.setIfInBounds_toArray, List.set_cons_zero, List.set_cons_succ]))
      (refine skip13 (by kernel_rfl) (by kernel_rfl) (by kernel_rfl) (fun _ _ _ h => h) (by kernel_rfl) (by assumption) ?_; (try simp only [Act.put, List.setIfInBounds_toArray, List.set_cons_zero, List.set_cons_succ]))
      (refine skip14 (by kernel_rfl) (by kernel_rfl) (by kernel_rfl) (fun _ _ _ h => h) (by kernel_rfl) (by assumption) ?_; (try simp only [Act.put, List.setIfInBounds_toArray, List.set_cons_zero, List.set_cons_succ]))
      (refine skip15 (by kernel_rfl) (by kernel_rfl) (by kernel_rfl) (fun _ _ _ h => h) (by kernel_rfl) (by assumption) ?_; (try simp only [Act.put, List.setIfInBounds_toArray, List.set_cons_zero, List.set_cons_succ]))
      (refine skip16 (by kernel_rfl) (by kernel_rfl) (by kernel_rfl) (fun _ _ _ h => h) (by kernel_rfl) (by assumption) ?_; (try simp only [Act.put, List.setIfInBounds_toArray, List.set_cons_zero, List.set_cons_succ]))
      (refine skip17 (by kernel_rfl) (by kernel_rfl) (by kernel_rfl) (fun _ _ _ h => h) (by kernel_rfl) (by assumption) ?_; (try simp only [Act.put, List.setIfInBounds_toArray, List.set_cons_zero, List.set_cons_succ]))
      refine ends18 (by kernel_rfl) (fun K hK => ?_)
      go_simp
      refine hK.out _ _ ?_
      clear hK K
      go_wp2_with fail
      go_ret
      exact ⟨rfl, GA.trans (G.trans g3)⟩
    rcases h2 : (ts.drop (k + 1)).any (fun t => decide (0 < f t)) with _ | _
    · have hV : val = (k : Int) := by rw [hVal, if_pos ⟨h1, h2⟩]
      subst hV
      rw [h1] at HCALL
      have HC2 := Lib.hid (fun W (g : Gr wa W) => ContainsFuncTr_calls _ (ts.drop (k + 1)) 67 #[.pointer (some ⟨w.heap.size, 0, none⟩)] (fun t => decide (0 < f t)) W HEG2.out (HTL.out.gr g) (fun W' vp vq t h3 h4 => HA2.out W' vp vq t (List.mem_of_mem_drop h3) (g.trans h4)))
      rw [h2] at HC2
      clear hVal h1 h2
      go_enter Try.func49, Try.ntmps49
      go_wp2_with fail
      rw [← HWA.out]
      refine HI.out.mono ?_
      rintro _ w2 ⟨rfl, g2⟩
      have g2' := GA.trans g2
      go_wp2_with fail
      go_region_held3 (fun w' => w'.cell? ⟨w.heap.size, 0, none⟩ = some (.func (.func g) #[] lb) ∧ w'.cell? ⟨b, o + k * 3, none⟩ = some (.int .i64 tk.label) ∧ w'.cell? ⟨b, o + k * 3 + 1, none⟩ = some (.slice pa tk.pre.length pc) ∧ w'.cell? ⟨b, o + k * 3 + 2, none⟩ = some (.slice qa tk.post.length qc)) (first | ((refine KS.out _ ?_); ((focus ((repeat (first | exact Gr.refl _ | assumption | apply Gr.alloc | apply Gr.drew | apply Gr.drewN | refine Gr.trans ?_ (by assumption))); done))))) (first | (go_at_fn g; (refine (HCALL.out _ ?_).mono ?_); ((focus ((repeat (first | exact Gr.refl _ | assumption | apply Gr.alloc | apply Gr.drew | apply Gr.drewN | refine Gr.trans ?_ (by assumption))); done))); rintro _ w3 ⟨rfl, g3⟩) | (go_at_call 26; (with_reducible refine (HC2.out _ ?_).mono ?_); ((focus ((repeat (first | exact Gr.refl _ | assumption | apply Gr.alloc | apply Gr.drew | apply Gr.drewN | refine Gr.trans ?_ (by assumption))); done))); rintro _ w4 ⟨rfl, g4⟩))
      all_goals go_wp2_with fail
      all_goals go_ret
      all_goals exact ⟨rfl, by (repeat (first | exact Gr.refl _ | assumption | apply Gr.alloc | apply Gr.drew | apply Gr.drewN | refine Gr.trans ?_ (by assumption)))⟩
    · have hV : val = -1 := by rw [hVal, if_neg (fun h => by rw [h2] at h; exact absurd h.2 (by simp))]
      subst hV
      rw [h1] at HCALL
      have HC2 := Lib.hid (fun W (g : Gr wa W) => ContainsFuncTr_calls _ (ts.drop (k + 1)) 67 #[.pointer (some ⟨w.heap.size, 0, none⟩)] (fun t => decide (0 < f t)) W HEG2.out (HTL.out.gr g) (fun W' vp vq t h3 h4 => HA2.out W' vp vq t (List.mem_of_mem_drop h3) (g.trans h4)))
      rw [h2] at HC2
      clear hVal h1 h2
      go_enter Try.func49, Try.ntmps49
      go_wp2_with fail
      rw [← HWA.out]
      refine HI.out.mono ?_
      rintro _ w2 ⟨rfl, g2⟩
      have g2' := GA.trans g2
      go_wp2_with fail
      go_region_held3 (fun w' => w'.cell? ⟨w.heap.size, 0, none⟩ = some (.func (.func g) #[] lb) ∧ w'.cell? ⟨b, o + k * 3, none⟩ = some (.int .i64 tk.label) ∧ w'.cell? ⟨b, o + k * 3 + 1, none⟩ = some (.slice pa tk.pre.length pc) ∧ w'.cell? ⟨b, o + k * 3 + 2, none⟩ = some (.slice qa tk.post.length qc)) (first | ((refine KS.out _ ?_); ((focus ((repeat (first | exact Gr.refl _ | assumption | apply Gr.alloc | apply Gr.drew | apply Gr.drewN | refine Gr.trans ?_ (by assumption))); done))))) (first | (go_at_fn g; (refine (HCALL.out _ ?_).mono ?_); ((focus ((repeat (first | exact Gr.refl _ | assumption | apply Gr.alloc | apply Gr.drew | apply Gr.drewN | refine Gr.trans ?_ (by assumption))); done))); rintro _ w3 ⟨rfl, g3⟩) | (go_at_call 26; (with_reducible refine (HC2.out _ ?_).mono ?_); ((focus ((repeat (first | exact Gr.refl _ | assumption | apply Gr.alloc | apply Gr.drew | apply Gr.drewN | refine Gr.trans ?_ (by assumption))); done))); rintro _ w4 ⟨rfl, g4⟩))
      all_goals go_wp2_with fail
      all_goals go_ret
      all_goals exact ⟨rfl, by (repeat (first | exact Gr.refl _ | assumption | apply Gr.alloc | apply Gr.drew | apply Gr.drewN | refine Gr.trans ?_ (by assumption)))⟩
end Go.Proofs.Ytjpapgbdhflgnaa

/- What series hands on to only; its joining of two rows. -/
namespace Go.Proofs.Ytjpapgbdhflgnaa
open Go.RowKit Go.Tok
set_option linter.unusedVariables false
theorem ser1_gives (w0 : World) (pb p : Nat) (ts : List TranD) (hc : w0.cell? ⟨pb, 0, none⟩ = some (.int .i64 p)) (hp : ∀ t ∈ ts, p < t.post.length) : GivesTr Try.prog 50 #[.pointer (some ⟨pb, 0, none⟩)] ts (fun t => nth t.post p) w0 := by
  intro W vp vq t ht hg hl hpp hqq
  have hlt := hp t ht
  have hI := hqq.len
  obtain ⟨pa, pc, rfl, _, _⟩ := hpp.len
  obtain ⟨qa, qc, rfl, _, _⟩ := hqq.len
  have GA : Gr W (W.alloc (.cells #[.int .i64 t.label, .slice pa t.pre.length pc, .slice qa t.post.length qc] 48)) := (Gr.refl _).alloc _
  have bX : Blk (W.alloc (.cells #[.int .i64 t.label, .slice pa t.pre.length pc, .slice qa t.post.length qc] 48)) W.heap.size 48 #[.int .i64 t.label, .slice pa t.pre.length pc, .slice qa t.post.length qc] := Blk.new rfl
  have x1 := bX.cell (i := 1) (v := .slice pa t.pre.length pc) rfl
  have x2 := bX.cell (i := 2) (v := .slice qa t.post.length qc) rfl
  have c := cell_gr (cell_gr hc hg) GA
  obtain ⟨b, o, rfl, y0⟩ := (hqq.gr GA).cell hlt
  have hpI : (p : Int) < (t.post.length : Int) := by omega
  have hp0 : (0 : Int) ≤ (p : Int) := by omega
  clear bX hc hI
  go_enter Try.func50, Try.ntmps50
  go_wp2
  go_ret
  exact ⟨rfl, GA⟩
theorem ser2_gives (w0 : World) (pb p : Nat) (ts : List TranD) (hc : w0.cell? ⟨pb, 0, none⟩ = some (.int .i64 p)) (hp : ∀ t ∈ ts, p < t.pre.length) : GivesTr Try.prog 51 #[.pointer (some ⟨pb, 0, none⟩)] ts (fun t => nth t.pre p) w0 := by
  intro W vp vq t ht hg hl hpp hqq
  have hlt := hp t ht
  have hI := hpp.len
  obtain ⟨pa, pc, rfl, _, _⟩ := hpp.len
  obtain ⟨qa, qc, rfl, _, _⟩ := hqq.len
  have GA : Gr W (W.alloc (.cells #[.int .i64 t.label, .slice pa t.pre.length pc, .slice qa t.post.length qc] 48)) := (Gr.refl _).alloc _
  have bX : Blk (W.alloc (.cells #[.int .i64 t.label, .slice pa t.pre.length pc, .slice qa t.post.length qc] 48)) W.heap.size 48 #[.int .i64 t.label, .slice pa t.pre.length pc, .slice qa t.post.length qc] := Blk.new rfl
  have x1 := bX.cell (i := 1) (v := .slice pa t.pre.length pc) rfl
  have x2 := bX.cell (i := 2) (v := .slice qa t.post.length qc) rfl
  have c := cell_gr (cell_gr hc hg) GA
  obtain ⟨b, o, rfl, y0⟩ := (hpp.gr GA).cell hlt
  have hpI : (p : Int) < (t.pre.length : Int) := by omega
  have hp0 : (0 : Int) ≤ (p : Int) := by omega
  clear bX hc hI
  go_enter Try.func51, Try.ntmps51
  go_wp2
  go_ret
  exact ⟨rfl, GA⟩
end Go.Proofs.Ytjpapgbdhflgnaa
