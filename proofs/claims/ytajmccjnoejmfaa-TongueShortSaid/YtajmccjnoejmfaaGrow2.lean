/- Contract of grow.grow, kind by kind: leaves, choices, one behind the other. -/
import Derived.Test.YtajmccjnoejmfaaGrow1
namespace Go.Proofs.Ytajmccjnoejmfaa
open Go.RowKit Go.Tok
set_option linter.unusedVariables false
def KidsR (n : Nat) (w0 : World) (sl : Value) (b : BlockD) : Prop := ∃ m, n = m + 1 ∧ Rd (blkK m) w0 sl b.kids
def GrowC (w0 : World) (gb n : Nat) : Prop := ∀ (b : BlockD) (a : Option Addr) (cap : Nat) (w : World) (lv : Value) (s : GS) (f t : Int), OkB n b → KidsR n w0 (.slice a b.kids.length cap) b → GW w0 w gb lv s → GOk s → 0 ≤ f → f < s.places → 0 ≤ t → t < s.places →
  Calls Try.prog 35 #[.pointer (some ⟨gb, 0, none⟩), .agg #[.int .i64 b.kind, .int .i64 b.label, .slice a b.kids.length cap], .int .i64 f, .int .i64 t] w (RetG w0 w gb lv (growF n b f t s) (.tuple #[]))
/-- kid i, at a later world -/
theorem kid_in {n : Nat} {w0 w : World} {a : Option Addr} {l cap : Nat} {ks : List BlockD} (h : Rd (blkK n) w0 (.slice a l cap) ks) (g : Gr w0 w) {i : Nat} (hi : i < ks.length) :
    ∃ p o ka kc, a = some ⟨p, o, none⟩ ∧ w.cell? ⟨p, o + i * 3, none⟩ = some (.int .i64 (ix ks i).kind) ∧ w.cell? ⟨p, o + i * 3 + 1, none⟩ = some (.int .i64 (ix ks i).label) ∧ w.cell? ⟨p, o + i * 3 + 2, none⟩ = some (.slice ka (ix ks i).kids.length kc) ∧ KidsR n w0 (.slice ka (ix ks i).kids.length kc) (ix ks i) := by
  obtain ⟨m, p, o, s, rfl, rfl, c0, c1, c2, hr⟩ := kid_at h hi
  obtain ⟨_, _, ka, kc, e, _, _, hk⟩ := hr.open_
  obtain rfl : s = .slice ka (ix ks i).kids.length kc := by
    have := congrArg (fun v => match v with | .agg cs => cs[2]? | _ => none) e
    simpa using this
  exact ⟨p, o, ka, kc, rfl, cell_gr c0 g, cell_gr c1 g, cell_gr c2 g, m, rfl, hk⟩
theorem GW.lt {w0 w : World} {gb : Nat} {lv : Value} {s : GS} (h : GW w0 w gb lv s) {base : Nat} (hb : w.heap.size ≤ base) : gb < base ∧ ∀ k, lv.ownBlock = some k → k < base := ⟨Nat.lt_of_lt_of_le h.blk.lt hb, fun k hk => Nat.lt_of_lt_of_le (h.row.lt hk).2 hb⟩
/-- a row made behind hangs on none of the grower's blocks -/
theorem fresh_on {w0 : World} {e base gb : Nat} {w : World} {lv v : Value} {xs : List Int} (hlo : w0.heap.size ≤ gb) (h : OwnI e base w v xs) (hb : gb < base ∧ ∀ k, lv.ownBlock = some k → k < base) : On (fun b => w0.heap.size ≤ b ∧ b ≠ gb ∧ lv.ownBlock ≠ some b) (fun w => Ints w v xs) w :=
  (Ints.on_fresh h).mono fun b _ hs => ⟨by omega, by omega, fun e => by have := hb.2 b e; omega⟩
theorem i64_place {s : GS} {p : Int} (h : GOk s) (h0 : 0 ≤ p) (h1 : p < s.places) : I64 p := by have := h.hi; unfold I64; omega
set_option maxHeartbeats 4000000 in
set_option maxRecDepth 100000 in
/-- a link from one place to one -/
theorem grow_leaf {w0 : World} {gb : Nat} {n : Nat} {b : BlockD} {a : Option Addr} {cap : Nat} {w : World} {lv : Value} {s : GS} {f t : Int} (hk : b.kind = 1 ∨ b.kind = 2) (hb : OkB (n + 1) b) (h : GW w0 w gb lv s) (ok : GOk s) (hf0 : 0 ≤ f) (hf1 : f < s.places) (ht0 : 0 ≤ t) (ht1 : t < s.places) :
    Calls Try.prog 35 #[.pointer (some ⟨gb, 0, none⟩), .agg #[.int .i64 b.kind, .int .i64 b.label, .slice a b.kids.length cap], .int .i64 f, .int .i64 t] w (RetG w0 w gb lv (growF (n + 1) b f t s) (.tuple #[])) := by
  have hIf := i64_place ok hf0 hf1
  have hIt := i64_place ok ht0 ht1
  have hlen := ok.len
  obtain ⟨lab, hlab, hg⟩ : ∃ lab, lab = (if b.kind = 1 then 0 else b.label) ∧ growF (n + 1) b f t s = linkF ⟨lab, [f], [t]⟩ s := by
    refine ⟨_, rfl, ?_⟩
    rcases hk with e | e <;> simp [growF, e]
  have hI : I64 lab := by
    have := hb.2.2.1
    unfold I64
    rw [hlab]
    split
    · omega
    · have := this (by omega); omega
  rw [hg]
  clear hg hb
  have GB := (Gr.refl w).alloc (.cells #[.int .i64 b.kind, .int .i64 b.label, .slice a b.kids.length cap] 24)
  have b0 : (w.alloc (.cells #[.int .i64 b.kind, .int .i64 b.label, .slice a b.kids.length cap] 24)).cell? ⟨w.heap.size, 0, none⟩ = some (.int .i64 b.kind) := box_cell (Gr.refl _) (i := 0) rfl
  have b1 : (w.alloc (.cells #[.int .i64 b.kind, .int .i64 b.label, .slice a b.kids.length cap] 24)).cell? ⟨w.heap.size, 1, none⟩ = some (.int .i64 b.label) := box_cell (Gr.refl _) (i := 1) rfl
  rcases hk with e | e
  · rw [if_pos e] at hlab
    subst hlab
    rw [e] at b0 GB b1 ⊢
    go_enter Try.func35, Try.ntmps35
    go_wp2_with fail
    refine (grow1_calls f _ hIf).mono ?_
    rintro _ w1 ⟨v1, rfl, o1, g1⟩
    go_wp2_with fail
    refine (grow1_calls t _ hIt).mono ?_
    rintro _ w2 ⟨v2, rfl, o2, g2⟩
    have GG := (GB.trans g1).trans g2
    have hlt1 := h.lt (Gr.le GB)
    have hlt2 := h.lt (Gr.le (GB.trans g1))
    go_wp2_with fail
    refine (link_calls (l := ⟨0, [f], [t]⟩) (h.gr' GG) hlen hI (fresh_on h.lo (o1.gr g2) hlt1) (fresh_on h.lo o2 hlt2)).mono ?_
    rintro _ w3 hr
    rcases hr.cases with ⟨s', lv', h1, rfl, h2, h3⟩ | ⟨h1, rfl, h2⟩
    · have H1 := Lib.hid h1
      clear h1
      go_wp2_with fail
      refine bodyPost_end (results_none rfl _ _ _) rfl ?_
      exact RetG.yes H1.out h2 ((GStep.of_gr GG).trans h3)
    · have H1 := Lib.hid h1
      clear h1
      go_wp2_with fail
      refine bodyPost_panic rfl ?_
      exact RetG.no H1.out h2
  · rw [if_neg (by omega)] at hlab
    subst hlab
    rw [e] at b0 GB b1 ⊢
    go_enter Try.func35, Try.ntmps35
    go_wp2_with fail
    refine (grow1_calls f _ hIf).mono ?_
    rintro _ w1 ⟨v1, rfl, o1, g1⟩
    go_wp2_with fail
    refine (grow1_calls t _ hIt).mono ?_
    rintro _ w2 ⟨v2, rfl, o2, g2⟩
    have GG := (GB.trans g1).trans g2
    have hlt1 := h.lt (Gr.le GB)
    have hlt2 := h.lt (Gr.le (GB.trans g1))
    go_wp2_with fail
    refine (link_calls (l := ⟨b.label, [f], [t]⟩) (h.gr' GG) hlen hI (fresh_on h.lo (o1.gr g2) hlt1) (fresh_on h.lo o2 hlt2)).mono ?_
    rintro _ w3 hr
    rcases hr.cases with ⟨s', lv', h1, rfl, h2, h3⟩ | ⟨h1, rfl, h2⟩
    · have H1 := Lib.hid h1
      clear h1
      go_wp2_with fail
      refine bodyPost_end (results_none rfl _ _ _) rfl ?_
      exact RetG.yes H1.out h2 ((GStep.of_gr GG).trans h3)
    · have H1 := Lib.hid h1
      clear h1
      go_wp2_with fail
      refine bodyPost_panic rfl ?_
      exact RetG.no H1.out h2
theorem choice_step {f : GF} {ks : List BlockD} {x y : Int} {s : GS} {k : Nat} (h : k < ks.length) : choiceF f (ks.drop k) x y s = (f (ix ks k) x y s).bind fun s1 => choiceF f (ks.drop (k + 1)) x y s1 := by
  rw [drop_ix h, choiceF]
set_option maxHeartbeats 4000000 in
set_option maxRecDepth 100000 in
theorem grow_choice {w0 : World} {gb : Nat} {n : Nat} (ih : GrowC w0 gb n) {b : BlockD} {a : Option Addr} {cap : Nat} {w : World} {lv : Value} {s : GS} {f t : Int} (hk : b.kind = 4) (hb : OkB (n + 1) b) (hB : Rd (blkK n) w0 (.slice a b.kids.length cap) b.kids) (h : GW w0 w gb lv s) (ok : GOk s) (hf0 : 0 ≤ f) (hf1 : f < s.places) (ht0 : 0 ≤ t) (ht1 : t < s.places) :
    Calls Try.prog 35 #[.pointer (some ⟨gb, 0, none⟩), .agg #[.int .i64 b.kind, .int .i64 b.label, .slice a b.kids.length cap], .int .i64 f, .int .i64 t] w (RetG w0 w gb lv (growF (n + 1) b f t s) (.tuple #[])) := by
  have hg : growF (n + 1) b f t s = choiceF (growF n) b.kids f t s := by rw [growF, if_neg (by omega), if_neg (by omega), if_neg (by omega), if_pos hk]
  have hkids : ∀ k ∈ b.kids, OkB n k := hb.2.2.2.2.2.2
  obtain ⟨_, _, e, hcl, hcm⟩ := hB.len
  cases e
  have HG := Lib.hid hg
  have HK := Lib.hid hkids
  clear hg hb hkids
  have GB := (Gr.refl w).alloc (.cells #[.int .i64 b.kind, .int .i64 b.label, .slice a b.kids.length cap] 24)
  have b0 : (w.alloc (.cells #[.int .i64 b.kind, .int .i64 b.label, .slice a b.kids.length cap] 24)).cell? ⟨w.heap.size, 0, none⟩ = some (.int .i64 b.kind) := box_cell (Gr.refl _) (i := 0) rfl
  have b2 : (w.alloc (.cells #[.int .i64 b.kind, .int .i64 b.label, .slice a b.kids.length cap] 24)).cell? ⟨w.heap.size, 2, none⟩ = some (.slice a b.kids.length cap) := box_cell (Gr.refl _) (i := 2) rfl
  rw [hk] at b0 GB b2 ⊢
  go_enter Try.func35, Try.ntmps35
  go_wp2_with fail
  go_loopw [80] (fun i wr => ∃ (k : Nat) (s' : GS) (lv' : Value), i = .int .i64 k ∧ k ≤ b.kids.length ∧ GW w0 wr gb lv' s' ∧ GStep gb lv lv' w wr ∧ GOk s' ∧ s.places ≤ s'.places ∧ growF (n + 1) b f t s = choiceF (growF n) (b.kids.drop k) f t s') (fun i _ => b.kids.length - (intOf i).toNat)
  case atStart => exact ⟨0, s, lv, rfl, Nat.zero_le _, h.gr' GB, GStep.of_gr GB, ok, Int.le_refl _, by rw [List.drop_zero]; exact HG.out⟩
  case round =>
    rename World => wr
    obtain ⟨k, s', lv', rfl, hkl, hw, hst, ok', hpl, hR⟩ := hrel
    have HR := Lib.hid hR
    clear hR
    by_cases hlt : k < b.kids.length
    · obtain ⟨p, o, ka, kc, rfl, c0, c1, c2, hkr⟩ := kid_in hB hw.gr hlt
      have hkI : (k : Int) < (b.kids.length : Int) := by omega
      have GA := (Gr.refl wr).alloc (.cells #[.int .i64 (ix b.kids k).kind, .int .i64 (ix b.kids k).label, .slice ka (ix b.kids k).kids.length kc] 24)
      have A0 : (wr.alloc (.cells #[.int .i64 (ix b.kids k).kind, .int .i64 (ix b.kids k).label, .slice ka (ix b.kids k).kids.length kc] 24)).cell? ⟨wr.heap.size, 0, none⟩ = some (.int .i64 (ix b.kids k).kind) := box_cell (Gr.refl _) (i := 0) rfl
      have A1 : (wr.alloc (.cells #[.int .i64 (ix b.kids k).kind, .int .i64 (ix b.kids k).label, .slice ka (ix b.kids k).kids.length kc] 24)).cell? ⟨wr.heap.size, 1, none⟩ = some (.int .i64 (ix b.kids k).label) := box_cell (Gr.refl _) (i := 1) rfl
      have A2 : (wr.alloc (.cells #[.int .i64 (ix b.kids k).kind, .int .i64 (ix b.kids k).label, .slice ka (ix b.kids k).kids.length kc] 24)).cell? ⟨wr.heap.size, 2, none⟩ = some (.slice ka (ix b.kids k).kids.length kc) := box_cell (Gr.refl _) (i := 2) rfl
      have hcall := ih (ix b.kids k) ka kc _ lv' s' f t (HK.out _ (ix_mem hlt)) hkr (hw.gr' GA) ok' hf0 (by omega) ht0 (by omega)
      have HKeep := Lib.hid (fun s1 e => grow_keep n (ix b.kids k) f t s' s1 (HK.out _ (ix_mem hlt)) ok' hf0 (by omega) ht0 (by omega) e)
      go_wp2_with fail
      refine hcall.mono ?_
      rintro _ w3 hr
      rcases hr.cases with ⟨s1, lv1, h1, rfl, h2, h3⟩ | ⟨h1, rfl, h2⟩
      · have hk1 := HKeep.out s1 h1
        have H1 := Lib.hid h1
        clear h1 hcall
        go_wp2_with fail
        go_roundw
        case rel => exact ⟨k + 1, s1, lv1, by go_num, by omega, h2, (hst.trans (GStep.of_gr GA)).trans h3, hk1.1, by omega, by rw [HR.out, choice_step hlt, H1.out]; rfl⟩
        case measure => simp [intOf]; omega
      · have H1 := Lib.hid h1
        clear h1 hcall
        go_wp2_with fail
        refine bodyPost_panic rfl ?_
        exact RetG.no (by rw [HR.out, choice_step hlt, H1.out]; rfl) h2
    · obtain rfl : k = b.kids.length := by omega
      go_wp2_with fail
      refine bodyPost_end (results_none rfl _ _ _) rfl ?_
      exact RetG.yes (by rw [HR.out, List.drop_length]; rfl) hw hst
theorem seq_step {f : GF} {ks : List BlockD} {x y : Int} {s : GS} {k : Nat} (h : k + 1 < ks.length) : seqF f (ks.drop k) x y s = (placeF s).bind fun s1 => (f (ix ks k) x s.places s1).bind fun s2 => seqF f (ks.drop (k + 1)) s.places y s2 := by
  rw [drop_ix (show k < ks.length by omega), drop_ix h, seqF, ← drop_ix h]
theorem seq_last {f : GF} {ks : List BlockD} {x y : Int} {s : GS} {k : Nat} (h : k + 1 = ks.length) : seqF f (ks.drop k) x y s = f (ix ks k) x y s := by
  rw [drop_ix (show k < ks.length by omega), List.drop_eq_nil_of_le (by omega), seqF]
set_option maxHeartbeats 4000000 in
set_option maxRecDepth 100000 in
theorem grow_seq {w0 : World} {gb : Nat} {n : Nat} (ih : GrowC w0 gb n) {b : BlockD} {a : Option Addr} {cap : Nat} {w : World} {lv : Value} {s : GS} {f t : Int} (hk : b.kind = 3) (hb : OkB (n + 1) b) (hB : Rd (blkK n) w0 (.slice a b.kids.length cap) b.kids) (h : GW w0 w gb lv s) (ok : GOk s) (hf0 : 0 ≤ f) (hf1 : f < s.places) (ht0 : 0 ≤ t) (ht1 : t < s.places) :
    Calls Try.prog 35 #[.pointer (some ⟨gb, 0, none⟩), .agg #[.int .i64 b.kind, .int .i64 b.label, .slice a b.kids.length cap], .int .i64 f, .int .i64 t] w (RetG w0 w gb lv (growF (n + 1) b f t s) (.tuple #[])) := by
  have hg : growF (n + 1) b f t s = seqF (growF n) b.kids f t s := by simp [growF, hk]
  have hkids : ∀ k ∈ b.kids, OkB n k := hb.2.2.2.2.2.2
  have hne : b.kids ≠ [] := hb.2.2.2.2.1 (by omega)
  obtain ⟨L, hL⟩ : ∃ L, b.kids.length = L + 1 := ⟨b.kids.length - 1, by cases hx : b.kids with
    | nil => exact absurd hx hne
    | cons => simp⟩
  obtain ⟨_, _, e, hcl, hcm⟩ := hB.len
  cases e
  obtain ⟨gp, go, ka0, kc0, hadd, _⟩ := kid_in hB (Gr.refl _) (i := 0) (by omega)
  subst hadd
  have HG := Lib.hid hg
  have HK := Lib.hid hkids
  have HL := Lib.hid hL
  have hL1 : (b.kids.length : Int) - 1 = (L : Int) := by omega
  have hLc : (L : Int) ≤ (cap : Int) := by omega
  clear hg hb hkids hne
  have GB := (Gr.refl w).alloc (.cells #[.int .i64 b.kind, .int .i64 b.label, .slice (some ⟨gp, go, none⟩) b.kids.length cap] 24)
  have b0 : (w.alloc (.cells #[.int .i64 b.kind, .int .i64 b.label, .slice (some ⟨gp, go, none⟩) b.kids.length cap] 24)).cell? ⟨w.heap.size, 0, none⟩ = some (.int .i64 b.kind) := box_cell (Gr.refl _) (i := 0) rfl
  have b2 : (w.alloc (.cells #[.int .i64 b.kind, .int .i64 b.label, .slice (some ⟨gp, go, none⟩) b.kids.length cap] 24)).cell? ⟨w.heap.size, 2, none⟩ = some (.slice (some ⟨gp, go, none⟩) b.kids.length cap) := box_cell (Gr.refl _) (i := 2) rfl
  rw [hk] at b0 GB b2 ⊢
  rw [hL] at b0 GB b2 ⊢
  have hLb : L + 1 ≤ cap := by omega
  clear hL hL1
  go_enter Try.func35, Try.ntmps35
  go_wp2_with fail
  have hbx := h.lt (Nat.le_refl w.heap.size)
  go_loopw [2, 50] (fun fv i wr => ∃ (k : Nat) (s' : GS) (lv' : Value) (x : Int), fv = .int .i64 x ∧ i = .int .i64 k ∧ k ≤ L ∧ GW w0 wr gb lv' s' ∧ GStep gb lv lv' (w.alloc (.cells #[.int .i64 3, .int .i64 b.label, .slice (some ⟨gp, go, none⟩) (L + 1) cap] 24)) wr ∧ GOk s' ∧ s.places ≤ s'.places ∧ 0 ≤ x ∧ x < s'.places ∧ growF (n + 1) b f t s = seqF (growF n) (b.kids.drop k) x t s') (fun _ i _ => L - (intOf i).toNat)
  case atStart => exact ⟨0, s, lv, f, rfl, rfl, Nat.zero_le _, h.gr' GB, GStep.refl _ _ _, ok, Int.le_refl _, hf0, hf1, by rw [List.drop_zero]; exact HG.out⟩
  case round =>
    rename World => wr
    obtain ⟨k, s', lv', x, rfl, rfl, hkl, hw, hst, ok', hpl, hx0, hx1, hR⟩ := hrel
    have HR := Lib.hid hR
    clear hR
    by_cases hlt : k < L
    · have hlt' : k < b.kids.length := by have := HL.out; omega
      have hlt2 : k + 1 < b.kids.length := by have := HL.out; omega
      obtain ⟨p, o, ka, kc, ead, c0, c1, c2, hkr⟩ := kid_in hB hw.gr hlt'
      cases ead
      have hkI : (k : Int) < (L : Int) := by omega
      have GA := (Gr.refl wr).alloc (.cells #[.int .i64 (ix b.kids k).kind, .int .i64 (ix b.kids k).label, .slice ka (ix b.kids k).kids.length kc] 24)
      have A0 : (wr.alloc (.cells #[.int .i64 (ix b.kids k).kind, .int .i64 (ix b.kids k).label, .slice ka (ix b.kids k).kids.length kc] 24)).cell? ⟨wr.heap.size, 0, none⟩ = some (.int .i64 (ix b.kids k).kind) := box_cell (Gr.refl _) (i := 0) rfl
      have A1 : (wr.alloc (.cells #[.int .i64 (ix b.kids k).kind, .int .i64 (ix b.kids k).label, .slice ka (ix b.kids k).kids.length kc] 24)).cell? ⟨wr.heap.size, 1, none⟩ = some (.int .i64 (ix b.kids k).label) := box_cell (Gr.refl _) (i := 1) rfl
      have A2 : (wr.alloc (.cells #[.int .i64 (ix b.kids k).kind, .int .i64 (ix b.kids k).label, .slice ka (ix b.kids k).kids.length kc] 24)).cell? ⟨wr.heap.size, 2, none⟩ = some (.slice ka (ix b.kids k).kids.length kc) := box_cell (Gr.refl _) (i := 2) rfl
      have hlo := ok'.lo
      have hhi := ok'.hi
      go_wp2_with fail
      refine (place_calls (hw.gr' GA) (by omega) hhi).mono ?_
      rintro _ w2 hr
      rcases hr.cases with ⟨s1, lv1, h1, rfl, h2, h3⟩ | ⟨h1, rfl, h2⟩
      · have H1 := Lib.hid h1
        have ok1 := ok'.place h1
        obtain ⟨rfl, hp16⟩ := place_some h1
        clear h1
        have hbk := hw.lt (Nat.le_refl wr.heap.size)
        have hS : wr.heap.size ≠ gb ∧ lv'.ownBlock ≠ some wr.heap.size := ⟨by omega, fun e => by have := hbk.2 _ e; omega⟩
        replace A0 := cell_kp h3.1 A0 hS
        replace A1 := cell_kp h3.1 A1 hS
        replace A2 := cell_kp h3.1 A2 hS
        have hcall := ih (ix b.kids k) ka kc _ lv1 ⟨s'.places + 1, s'.links⟩ x s'.places (HK.out _ (ix_mem hlt')) hkr h2 ok1 hx0 (by show x < s'.places + 1; omega) (by omega) (by show s'.places < s'.places + 1; omega)
        have HKeep := Lib.hid (fun s2 e => grow_keep n (ix b.kids k) x s'.places ⟨s'.places + 1, s'.links⟩ s2 (HK.out _ (ix_mem hlt')) ok1 hx0 (by show x < s'.places + 1; omega) (by omega) (by show s'.places < s'.places + 1; omega) e)
        clear hbk hS
        go_wp2_with fail
        refine hcall.mono ?_
        rintro _ w3 hr
        rcases hr.cases with ⟨s2, lv2, h4, rfl, h5, h6⟩ | ⟨h4, rfl, h5⟩
        · obtain ⟨hk1, hk2⟩ := HKeep.out s2 h4
          have hk2 : s'.places + 1 ≤ s2.places := hk2
          have H4 := Lib.hid h4
          clear h4 hcall
          go_wp2_with fail
          go_roundw
          case rel => exact ⟨k + 1, s2, lv2, s'.places, rfl, by go_num, by omega, h5, ((hst.trans (GStep.of_gr GA)).trans h3).trans h6, hk1, by omega, by omega, by omega, by rw [HR.out, seq_step hlt2, H1.out, Option.bind_some, H4.out, Option.bind_some]⟩
          case measure => simp [intOf]; omega
        · have H4 := Lib.hid h4
          clear h4 hcall
          go_wp2_with fail
          refine bodyPost_panic rfl ?_
          exact RetG.no (by rw [HR.out, seq_step hlt2, H1.out, Option.bind_some, H4.out]; rfl) h5
      · have H1 := Lib.hid h1
        clear h1
        go_wp2_with fail
        refine bodyPost_panic rfl ?_
        exact RetG.no (by rw [HR.out, seq_step hlt2, H1.out]; rfl) h2
    · obtain rfl : k = L := by omega
      have hlt' : k < b.kids.length := by have := HL.out; omega
      obtain ⟨p, o, ka, kc, ead, c0, c1, c2, hkr⟩ := kid_in hB hw.gr hlt'
      cases ead
      have hS : w.heap.size ≠ gb ∧ lv.ownBlock ≠ some w.heap.size := ⟨by omega, fun e => by have := hbx.2 _ e; omega⟩
      have B2 := cell_kp hst.1 b2 hS
      have hkk : (k : Int) + 1 - 1 = (k : Int) := by omega
      have hcall := ih (ix b.kids k) ka kc _ lv' s' x t (HK.out _ (ix_mem hlt')) hkr hw ok' hx0 hx1 ht0 (by omega)
      clear hbx hS
      go_wp2_with fail
      refine hcall.mono ?_
      rintro _ w3 hr
      rcases hr.cases with ⟨s2, lv2, h4, rfl, h5, h6⟩ | ⟨h4, rfl, h5⟩
      · have H4 := Lib.hid h4
        clear h4 hcall
        go_wp2_with fail
        refine bodyPost_end (results_none rfl _ _ _) rfl ?_
        exact RetG.yes (by rw [HR.out, seq_last HL.out.symm, H4.out]) h5 (((GStep.of_gr GB).trans hst).trans h6)
      · have H4 := Lib.hid h4
        clear h4 hcall
        go_wp2_with fail
        refine bodyPost_panic rfl ?_
        exact RetG.no (by rw [HR.out, seq_last HL.out.symm, H4.out]) h5
end Go.Proofs.Ytajmccjnoejmfaa
