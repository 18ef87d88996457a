/- Contract of grow.grow: side by side. -/
import Derived.Test.YtajmccjnoejmfaaGrow3
import Derived.Test.YtajmccjnoejmfaaPC
namespace Go.Proofs.Ytajmccjnoejmfaa
open Go.RowKit Go.Tok
set_option linter.unusedVariables false
def RetPl (w : World) (gb : Nat) (p : Int) (e : Ending) (w' : World) : Prop := w' = w.setCell ⟨gb, 0, none⟩ (.int .i64 (p + 1)) ∧ ((16 < p + 1 ∧ e = .panicked fullP) ∨ (p + 1 ≤ 16 ∧ e = .returned (.int .i64 p)))
theorem RetPl.no {w : World} {gb : Nat} {p : Int} (h : 16 < p + 1) : RetPl w gb p (.panicked fullP) (w.setCell ⟨gb, 0, none⟩ (.int .i64 (p + 1))) := ⟨rfl, .inl ⟨h, rfl⟩⟩
theorem RetPl.yes {w : World} {gb : Nat} {p q : Int} (h : p + 1 ≤ 16) (hq : q = p) : RetPl w gb p (.returned (.int .i64 q)) (w.setCell ⟨gb, 0, none⟩ (.int .i64 (p + 1))) := ⟨rfl, .inr ⟨h, by rw [hq]⟩⟩
theorem RetPl.cases {w w' : World} {gb : Nat} {p : Int} {e : Ending} (h : RetPl w gb p e w') : w' = w.setCell ⟨gb, 0, none⟩ (.int .i64 (p + 1)) ∧ ((16 < p + 1 ∧ e = .panicked fullP) ∨ (p + 1 ≤ 16 ∧ e = .returned (.int .i64 p))) := h
attribute [irreducible] RetPl
set_option maxHeartbeats 4000000 in
set_option maxRecDepth 100000 in
theorem place_exact {w : World} {gb : Nat} {lv : Value} {p : Int} (h : Blk w gb 73 #[.int .i64 p, lv]) (h0 : 0 ≤ p) (h1 : p ≤ 16) :
    Calls Try.prog 76 #[.pointer (some ⟨gb, 0, none⟩)] w (RetPl w gb p) := by
  have C0 := h.cell (i := 0) (v := .int .i64 p) rfl
  have F0 := h.frozen 0
  have h2 : Blk (w.setCell ⟨gb, 0, none⟩ (.int .i64 (p + 1))) gb 73 #[.int .i64 (p + 1), lv] := h.set 0 _
  have D0 := h2.cell (i := 0) (v := .int .i64 (p + 1)) rfl
  by_cases hc : 16 < p + 1
  · go_enter Try.func76, Try.ntmps76
    go_wp2_with fail
    refine bodyPost_panic rfl ?_
    exact RetPl.no hc
  · go_enter Try.func76, Try.ntmps76
    go_wp2_with fail
    go_ret
    exact RetPl.yes (by omega) (by simp)
/-- the grower has p places, and the call two rows of its own -/
structure BothS (w0 : World) (gb B : Nat) (lv : Value) (ls : List TranD) (wa : World) (p : Int) (iv ov : Value) (xs ys : List Int) (w : World) : Prop where
  blk : Blk w gb 73 #[.int .i64 p, lv]
  row : OwnR trK 76 w0.heap.size (fun b => w0.heap.size ≤ b ∧ b ≠ gb ∧ b < B) w lv ls
  hiv : OwnI 3 B w iv xs
  hov : OwnI 3 B w ov ys
  ap : ∀ b, iv.ownBlock = some b → ov.ownBlock ≠ some b
  gr : Gr w0 w
  kp : Kp (fun b => b ≠ gb ∧ b < B) wa w
  gbB : gb < B
  lvB : ∀ k, lv.ownBlock = some k → k < B
  lo : w0.heap.size ≤ gb
  ne : lv.ownBlock ≠ some gb
  wB : B ≤ w.heap.size
section
variable {w0 wa w w' : World} {gb B : Nat} {lv iv ov : Value} {ls : List TranD} {p : Int} {xs ys : List Int}
theorem BothS.gr' (h : BothS w0 gb B lv ls wa p iv ov xs ys w) (g : Gr w w') : BothS w0 gb B lv ls wa p iv ov xs ys w' :=
  ⟨h.blk.gr g, h.row.gr g, h.hiv.gr g, h.hov.gr g, h.ap, h.gr.trans g, h.kp.trans g.kp, h.gbB, h.lvB, h.lo, h.ne, Nat.le_trans h.wB g.le⟩
theorem BothS.place (h : BothS w0 gb B lv ls wa p iv ov xs ys w) (q : Int) : BothS w0 gb B lv ls wa q iv ov xs ys (w.setCell ⟨gb, 0, none⟩ (.int .i64 q)) :=
  ⟨h.blk.set 0 _, h.row.other h.ne (fun k => k.2.1 rfl) _, h.hiv.other (fun e => by have h1 : B ≤ gb := (h.hiv.lt e).1; have h2 := h.gbB; omega) _, h.hov.other (fun e => by have h1 : B ≤ gb := (h.hov.lt e).1; have h2 := h.gbB; omega) _, h.ap, h.gr.setCell h.lo _, h.kp.trans (set_kp (fun k => k.1 rfl) _), h.gbB, h.lvB, h.lo, h.ne, by simpa [World.setCell] using h.wB⟩
theorem BothS.grown {row : Option Nat} (h : BothS w0 gb B lv ls wa p iv ov xs ys w) (hg : w.grownBy w' row) (hr : ∀ k, row = some k → B ≤ k) : Blk w' gb 73 #[.int .i64 p, lv] ∧ OwnR trK 76 w0.heap.size (fun b => w0.heap.size ≤ b ∧ b ≠ gb ∧ b < B) w' lv ls ∧ Gr w0 w' ∧ Kp (fun b => b ≠ gb ∧ b < B) wa w' ∧ B ≤ w'.heap.size := by
  refine ⟨h.blk.grown hg (fun e => by have := hr _ e.symm; have := h.gbB; omega), h.row.kept hg ?_ (fun b hb hs => ⟨hs, fun e => by have := hr _ e.symm; have := hs.2.2; omega⟩), h.gr.grown hg (fun k e => by have := hr _ e; have := h.gbB; have := h.lo; omega), h.kp.trans (grown_kp hg fun b hs e => by have := hr _ e.symm; have := hs.2; omega), Nat.le_trans h.wB hg.size⟩
  cases hv : lv.ownBlock with
  | none => exact .inl rfl
  | some k => exact .inr fun e => by have := hr _ e.symm; have := h.lvB _ hv; omega
theorem BothS.ivN {iv' : Value} {y : Int} (h : BothS w0 gb B lv ls wa p iv ov xs ys w) (ho : OwnI 3 B w' iv' (xs ++ [y])) (hg : w.grownBy w' iv.ownBlock) (hat : iv'.ownBlock = iv.ownBlock ∨ iv'.ownBlock = some w.heap.size) : BothS w0 gb B lv ls wa p iv' ov (xs ++ [y]) ys w' := by
  obtain ⟨h1, h2, h3, h4, h5⟩ := h.grown hg (fun k e => (h.hiv.lt e).1)
  refine ⟨h1, h2, ho, h.hov.grown hg ?_, fun b e => ?_, h3, h4, h.gbB, h.lvB, h.lo, h.ne, h5⟩
  · cases hv : ov.ownBlock with
    | none => exact .inl rfl
    | some k => exact .inr fun e => h.ap k e.symm hv
  · rcases hat with k | k
    · rw [k] at e; exact h.ap b e
    · rw [k] at e
      intro e2
      have := (h.hov.lt e2).2
      have := Option.some.inj e
      omega
theorem BothS.ovN {ov' : Value} {y : Int} (h : BothS w0 gb B lv ls wa p iv ov xs ys w) (ho : OwnI 3 B w' ov' (ys ++ [y])) (hg : w.grownBy w' ov.ownBlock) (hat : ov'.ownBlock = ov.ownBlock ∨ ov'.ownBlock = some w.heap.size) : BothS w0 gb B lv ls wa p iv ov' xs (ys ++ [y]) w' := by
  obtain ⟨h1, h2, h3, h4, h5⟩ := h.grown hg (fun k e => (h.hov.lt e).1)
  refine ⟨h1, h2, h.hiv.grown hg ?_, ho, fun b e => ?_, h3, h4, h.gbB, h.lvB, h.lo, h.ne, h5⟩
  · cases hv : iv.ownBlock with
    | none => exact .inl rfl
    | some k => exact .inr fun e => h.ap k hv e.symm
  · rcases hat with k | k
    · rw [k]; exact h.ap b e
    · rw [k]
      intro e2
      have := (h.hiv.lt e).2
      have := Option.some.inj e2
      omega
theorem BothS.gw (h : BothS w0 gb B lv ls wa p iv ov xs ys w) : GW w0 w gb lv ⟨p, ls⟩ := ⟨h.blk, h.row.sets fun b _ hs => ⟨hs.1, hs.2.1⟩, h.gr, h.lo, h.ne⟩
theorem BothS.step (h : BothS w0 gb B lv ls wa p iv ov xs ys w) (hB : wa.heap.size ≤ B) : GStep gb lv lv wa w := ⟨kp_mk (kp_size h.kp) fun b hb hs => kp_block h.kp b hb ⟨hs.1, by omega⟩, fun k e => .inl e⟩
theorem BothS.onI (h : BothS w0 gb B lv ls wa p iv ov xs ys w) : On (fun b => w0.heap.size ≤ b ∧ b ≠ gb ∧ lv.ownBlock ≠ some b) (fun w => Ints w iv xs) w := fresh_on h.lo h.hiv ⟨h.gbB, h.lvB⟩
theorem BothS.onO (h : BothS w0 gb B lv ls wa p iv ov xs ys w) : On (fun b => w0.heap.size ≤ b ∧ b ≠ gb ∧ lv.ownBlock ≠ some b) (fun w => Ints w ov ys) w := fresh_on h.lo h.hov ⟨h.gbB, h.lvB⟩
end
theorem len_is {e base : Nat} {w : World} {v : Value} {xs : List Int} {n : Nat} (h : OwnI e base w v xs) (hn : xs.length = n) : ∃ a c, v = .slice a n c ∧ n ≤ c ∧ c ≤ 9223372036854775807 := by
  subst hn
  exact h.ints.len
theorem places_is {P : Int} {ls : List TranD} : ∀ {n : Nat}, (n = 0 ∨ P + 2 * (n : Int) ≤ 16) → placesF n ⟨P, ls⟩ = some ⟨P + 2 * (n : Int), ls⟩ := by
  intro n
  induction n generalizing P with
  | zero => intro _; simp [placesF]
  | succ n ih =>
    intro h
    have h : P + 2 * ((n + 1 : Nat) : Int) ≤ 16 := by rcases h with h | h <;> omega
    unfold placesF placeF
    simp only []
    rw [if_neg (by omega), Option.bind_some]
    simp only []
    rw [if_neg (by omega), Option.bind_some, ih (by omega)]
    congr 2
    omega
theorem places_step {s : GS} {k n : Nat} (h : k < n) : placesF (n - k) s = (placeF s).bind fun s1 => (placeF s1).bind fun s2 => placesF (n - (k + 1)) s2 := by
  rw [show n - k = (n - (k + 1)) + 1 by omega, placesF]
theorem both_step {f : GF} {ks : List BlockD} {p : Int} {s : GS} {k : Nat} (h : k < ks.length) : bothF f (ks.drop k) p s = (f (ix ks k) p (p + 1) s).bind fun s1 => bothF f (ks.drop (k + 1)) (p + 2) s1 := by
  rw [drop_ix h, bothF]
theorem place_none {p : Int} {ls : List TranD} (h : 16 < p + 1) : placeF ⟨p, ls⟩ = none := by unfold placeF; rw [if_pos h]
theorem place_is {p : Int} {ls : List TranD} (h : p + 1 ≤ 16) : placeF ⟨p, ls⟩ = some ⟨p + 1, ls⟩ := by unfold placeF; rw [if_neg (show ¬ 16 < p + 1 by omega)]
set_option maxHeartbeats 4000000 in
set_option maxRecDepth 100000 in
theorem grow_both {w0 : World} {gb : Nat} {n : Nat} (ih : GrowC w0 gb n) {b : BlockD} {a : Option Addr} {cap : Nat} {w : World} {lv : Value} {s : GS} {f t : Int} (hk : b.kind = 5) (hb : OkB (n + 1) b) (hB : Rd (blkK n) w0 (.slice a b.kids.length cap) b.kids) (h : GW w0 w gb lv s) (ok : GOk s) (hf0 : 0 ≤ f) (hf1 : f < s.places) (ht0 : 0 ≤ t) (ht1 : t < s.places) :
    Calls Try.prog 35 #[.pointer (some ⟨gb, 0, none⟩), .agg #[.int .i64 b.kind, .int .i64 b.label, .slice a b.kids.length cap], .int .i64 f, .int .i64 t] w (RetG w0 w gb lv (growF (n + 1) b f t s) (.tuple #[])) := by
  obtain ⟨P, ls⟩ := s
  have hg : growF (n + 1) b f t ⟨P, ls⟩ = (placesF b.kids.length ⟨P, ls⟩).bind fun s1 => (linkF ⟨0, [f], insL P b.kids.length⟩ s1).bind fun s2 => (bothF (growF n) b.kids P s2).bind fun s3 => linkF ⟨0, outsL P b.kids.length, [t]⟩ s3 := by simp [growF, hk]
  have hkids : ∀ k ∈ b.kids, OkB n k := hb.2.2.2.2.2.2
  obtain ⟨_, _, e, hcl, hcm⟩ := hB.len
  cases e
  have HG := Lib.hid hg
  have HK := Lib.hid hkids
  have hlo := ok.lo
  have hhi := ok.hi
  simp only [] at hlo hhi hf1 ht1
  have hIf := i64_place ok hf0 hf1
  have hIt := i64_place ok ht0 ht1
  have hlen := ok.len
  simp only [] at hlen
  clear hg hb hkids
  have GB := (Gr.refl w).alloc (.cells #[.int .i64 b.kind, .int .i64 b.label, .slice a b.kids.length cap] 24)
  have b0 : (w.alloc (.cells #[.int .i64 b.kind, .int .i64 b.label, .slice a b.kids.length cap] 24)).cell? ⟨w.heap.size, 0, none⟩ = some (.int .i64 b.kind) := box_cell (Gr.refl _) (i := 0) rfl
  have b2 : (w.alloc (.cells #[.int .i64 b.kind, .int .i64 b.label, .slice a b.kids.length cap] 24)).cell? ⟨w.heap.size, 2, none⟩ = some (.slice a b.kids.length cap) := box_cell (Gr.refl _) (i := 2) rfl
  rw [hk] at b0 GB b2 ⊢
  have hbx := h.lt (Nat.le_refl w.heap.size)
  have hS : w.heap.size ≠ gb ∧ lv.ownBlock ≠ some w.heap.size := ⟨by omega, fun e => by have := hbx.2 _ e; omega⟩
  have S0 : BothS w0 gb (w.heap.size + 1) lv ls (w.alloc (.cells #[.int .i64 5, .int .i64 b.label, .slice a b.kids.length cap] 24)) P (.slice none 0 0) (.slice none 0 0) [] [] (w.alloc (.cells #[.int .i64 5, .int .i64 b.label, .slice a b.kids.length cap] 24)) :=
    ⟨h.blk.gr GB, (h.row.sets fun b hb hs => ⟨hs.1, hs.2, by omega⟩).gr GB, OwnI.nil _ _ _, OwnI.nil _ _ _, fun b e => (by simp [Value.ownBlock] at e), h.gr.trans GB, Kp.refl _ _, by omega, fun k e => by have := hbx.2 k e; omega, h.lo, h.ne, by simp⟩
  have hwa : (w.alloc (.cells #[.int .i64 5, .int .i64 b.label, .slice a b.kids.length cap] 24)).heap.size = w.heap.size + 1 := by simp
  have HW := Lib.hid hwa
  clear hbx hwa
  go_enter Try.func35, Try.ntmps35
  go_wp2_with fail
  go_loopw [15, 16, 95] (fun iv ov i wr => ∃ (k : Nat), i = .int .i64 k ∧ k ≤ b.kids.length ∧ (k = 0 ∨ P + 2 * (k : Int) ≤ 16) ∧ BothS w0 gb (w.heap.size + 1) lv ls (w.alloc (.cells #[.int .i64 5, .int .i64 b.label, .slice a b.kids.length cap] 24)) (P + 2 * (k : Int)) iv ov (insL P k) (outsL P k) wr ∧
    growF (n + 1) b f t ⟨P, ls⟩ = (placesF (b.kids.length - k) ⟨P + 2 * (k : Int), ls⟩).bind fun s1 => (linkF ⟨0, [f], insL P b.kids.length⟩ s1).bind fun s2 => (bothF (growF n) b.kids P s2).bind fun s3 => linkF ⟨0, outsL P b.kids.length, [t]⟩ s3) (fun _ _ i _ => b.kids.length - (intOf i).toNat)
  case atStart => exact ⟨0, rfl, Nat.zero_le _, .inl rfl, by simpa [insL, outsL] using S0, by simpa using HG.out⟩
  case round =>
    rename World => wr
    obtain ⟨k, rfl, hkl, hP, hs, hR⟩ := hrel
    have HR := Lib.hid hR
    clear hR
    obtain ⟨ia, ic, rfl, hi1, hi2⟩ := len_is hs.hiv (insL_len P k)
    obtain ⟨oa, oc, rfl, ho1, ho2⟩ := len_is hs.hov (outsL_len P k)
    have hp0 : 0 ≤ P + 2 * (k : Int) := by omega
    have hp16 : P + 2 * (k : Int) ≤ 16 := by rcases hP with rfl | h <;> omega
    by_cases hlt : k < b.kids.length
    · have hkI : (k : Int) < (b.kids.length : Int) := by omega
      have hk8 : k ≤ 8 := by omega
      go_wp2_with fail
      refine (place_exact hs.blk hp0 hp16).mono ?_
      rintro _ w2 hr
      obtain ⟨rfl, ⟨hpc, rfl⟩ | ⟨hpc, rfl⟩⟩ := hr.cases
      · go_wp2_with fail
        refine bodyPost_panic rfl ?_
        exact RetG.no (by rw [HR.out, places_step hlt, place_none hpc]; rfl) (hs.place _).gr
      have hs2 := hs.place (P + 2 * (k : Int) + 1)
      generalize wr.setCell ⟨gb, 0, none⟩ (.int .i64 (P + 2 * (k : Int) + 1)) = w2 at hs2 ⊢
      have hIp : I64 (P + 2 * (k : Int)) := by unfold I64; omega
      have hIq : I64 (P + 2 * (k : Int) + 1) := by unfold I64; omega
      have hins : (insL P k).length = k := insL_len P k
      have houts : (outsL P k).length = k := outsL_len P k
      have hB2 : w.heap.size + 1 ≤ (w2.alloc (.cells #[.int .i64 (P + 2 * (k : Int))] 3)).heap.size := by have := hs2.wB; simp; omega
      go_wp2_with (at_builtin; go_loud (refine app_int intTy _ _ (w.heap.size + 1) _ (insL P k) ⟨w2.heap.size, 0, none⟩ (P + 2 * (k : Int)) (by rfl) (by rfl) (by rfl) (by rfl) (hs2.hiv.alloc _) (lit_cell rfl) hIp (by rw [insL_len]; omega) hB2 ?_; intro v3 w3 ho3 hgs3 hgb3 hat3; have hs3 := (hs2.gr' ((Gr.refl _).alloc _)).ivN ho3 hgb3 hat3; rw [← insL_succ] at hs3 ho3; obtain ⟨ia3, ic3, rfl, hi31, hi32⟩ := len_is ho3 (insL_len P (k + 1))))
      clear hgs3 hgb3 hat3 ho3 hs2 hB2
      refine (place_exact hs3.blk (by omega) hpc).mono ?_
      rintro _ w4 hr
      obtain ⟨rfl, ⟨hpd, rfl⟩ | ⟨hpd, rfl⟩⟩ := hr.cases
      · go_wp2_with fail
        refine bodyPost_panic rfl ?_
        exact RetG.no (by rw [HR.out, places_step hlt, place_is hpc, Option.bind_some, place_none hpd]; rfl) (hs3.place _).gr
      have hs4 := hs3.place (P + 2 * (k : Int) + 1 + 1)
      generalize w3.setCell ⟨gb, 0, none⟩ (.int .i64 (P + 2 * (k : Int) + 1 + 1)) = w4 at hs4 ⊢
      have hB4 : w.heap.size + 1 ≤ (w4.alloc (.cells #[.int .i64 (P + 2 * (k : Int) + 1)] 3)).heap.size := by have := hs4.wB; simp; omega
      clear hs3
      go_wp2_with (at_builtin; go_loud (refine app_int intTy _ _ (w.heap.size + 1) _ (outsL P k) ⟨w4.heap.size, 0, none⟩ (P + 2 * (k : Int) + 1) (by rfl) (by rfl) (by rfl) (by rfl) (hs4.hov.alloc _) (lit_cell rfl) hIq (by rw [outsL_len]; omega) hB4 ?_; intro v5 w5 ho5 hgs5 hgb5 hat5; have hs5 := (hs4.gr' ((Gr.refl _).alloc _)).ovN ho5 hgb5 hat5; rw [← outsL_succ] at hs5 ho5; obtain ⟨oa5, oc5, rfl, ho51, ho52⟩ := len_is ho5 (outsL_len P (k + 1))))
      clear hgs5 hgb5 hat5 ho5 hs4 hB4
      go_roundw
      case rel => exact ⟨k + 1, by go_num, by omega, .inr (by omega), by rw [show P + 2 * ((k + 1 : Nat) : Int) = P + 2 * (k : Int) + 1 + 1 by omega]; exact hs5, by rw [HR.out, places_step hlt, place_is hpc, Option.bind_some, place_is hpd, Option.bind_some, show P + 2 * (k : Int) + 1 + 1 = P + 2 * ((k + 1 : Nat) : Int) by omega]⟩
      case measure => simp [intOf]; omega
    · obtain rfl : k = b.kids.length := by omega
      have hn8 : b.kids.length ≤ 8 := by omega
      have hR2 : (growF (n + 1) b f t ⟨P, ls⟩ = (linkF ⟨0, [f], insL P b.kids.length⟩ ⟨P + 2 * (b.kids.length : Int), ls⟩).bind fun s2 => (bothF (growF n) b.kids P s2).bind fun s3 => linkF ⟨0, outsL P b.kids.length, [t]⟩ s3) := (by rw [HR.out, Nat.sub_self]; rfl)
      have HR2 := Lib.hid hR2
      clear hR2
      have ok1 : GOk ⟨P + 2 * (b.kids.length : Int), ls⟩ := ok.places (n := b.kids.length) (s' := ⟨P + 2 * (b.kids.length : Int), ls⟩) (places_is hP)
      have GW1 := hs.gw
      have T1 := (GStep.of_gr (gb := gb) (lv := lv) GB).trans (hs.step (Nat.le_of_eq HW.out))
      have T1b := hs.step (Nat.le_of_eq HW.out)
      have OI := hs.onI
      have OO := hs.onO
      clear HR hs
      go_wp2_with fail
      refine (grow1_calls f _ hIf).mono ?_
      rintro _ w3 ⟨v3, rfl, o3, g3⟩
      have hlt1 := GW1.lt (Nat.le_refl _)
      go_wp2_with fail
      refine (link_calls (l := ⟨0, [f], insL P b.kids.length⟩) (GW1.gr' g3) hlen (show I64 0 by decide) (fresh_on GW1.lo o3 hlt1) (OI.gr g3)).mono ?_
      rintro _ w4 hr
      rcases hr.cases with ⟨s2, lv2, h2, rfl, G2, T2⟩ | ⟨h2, rfl, G2⟩
      case inr =>
        have H2 := Lib.hid h2
        clear h2
        go_wp2_with fail
        refine bodyPost_panic rfl ?_
        exact RetG.no (by rw [HR2.out, H2.out]; rfl) G2
      have ok2 := ok1.link h2 (by simp) (PlIn.one hf0 (by simp only []; omega)) (insL_in (by omega) (by simp only []; omega))
      have hp2 : s2.places = P + 2 * (b.kids.length : Int) := by obtain ⟨rfl, _⟩ := link_some h2; rfl
      have H2 := Lib.hid h2
      clear h2
      have T12 := (T1b.trans (GStep.of_gr g3)).trans T2
      have B2 := cell_kp T12.1 b2 hS
      replace OI := T2.on (OI.gr g3)
      replace OO := T2.on (OO.gr g3)
      have TA := (T1.trans (GStep.of_gr g3)).trans T2
      clear T1 T1b T2 T12 o3 hlt1 g3 GW1
      go_wp2_with fail
      go_loopw [117] (fun i wr => ∃ (k : Nat) (s' : GS) (lv' : Value), i = .int .i64 k ∧ k ≤ b.kids.length ∧ GW w0 wr gb lv' s' ∧ GStep gb lv lv' w wr ∧ GOk s' ∧ P + 2 * (b.kids.length : Int) ≤ s'.places ∧ On (fun x => w0.heap.size ≤ x ∧ x ≠ gb ∧ lv'.ownBlock ≠ some x) (fun w => Ints w (.slice ia b.kids.length ic) (insL P b.kids.length)) wr ∧ On (fun x => w0.heap.size ≤ x ∧ x ≠ gb ∧ lv'.ownBlock ≠ some x) (fun w => Ints w (.slice oa b.kids.length oc) (outsL P b.kids.length)) wr ∧
        growF (n + 1) b f t ⟨P, ls⟩ = (bothF (growF n) (b.kids.drop k) (P + 2 * (k : Int)) s').bind fun s3 => linkF ⟨0, outsL P b.kids.length, [t]⟩ s3) (fun i _ => b.kids.length - (intOf i).toNat)
      case atStart => exact ⟨0, s2, lv2, rfl, Nat.zero_le _, G2, TA, ok2, by omega, OI, OO, by rw [HR2.out, H2.out, Option.bind_some, List.drop_zero]; simp⟩
      case round =>
        rename World => wq
        obtain ⟨k, s', lv', rfl, hkl', hw, hst, ok', hpl, OI', OO', hR⟩ := hrel
        have HR := Lib.hid hR
        clear hR
        by_cases hlt' : k < b.kids.length
        · obtain ⟨p, o, ka, kc, rfl, c0, c1, c2, hkr⟩ := kid_in hB hw.gr hlt'
          have hkI : (k : Int) < (b.kids.length : Int) := by omega
          have GA := (Gr.refl wq).alloc (.cells #[.int .i64 (ix b.kids k).kind, .int .i64 (ix b.kids k).label, .slice ka (ix b.kids k).kids.length kc] 24)
          have A0 : (wq.alloc (.cells #[.int .i64 (ix b.kids k).kind, .int .i64 (ix b.kids k).label, .slice ka (ix b.kids k).kids.length kc] 24)).cell? ⟨wq.heap.size, 0, none⟩ = some (.int .i64 (ix b.kids k).kind) := box_cell (Gr.refl _) (i := 0) rfl
          have A1 : (wq.alloc (.cells #[.int .i64 (ix b.kids k).kind, .int .i64 (ix b.kids k).label, .slice ka (ix b.kids k).kids.length kc] 24)).cell? ⟨wq.heap.size, 1, none⟩ = some (.int .i64 (ix b.kids k).label) := box_cell (Gr.refl _) (i := 1) rfl
          have A2 : (wq.alloc (.cells #[.int .i64 (ix b.kids k).kind, .int .i64 (ix b.kids k).label, .slice ka (ix b.kids k).kids.length kc] 24)).cell? ⟨wq.heap.size, 2, none⟩ = some (.slice ka (ix b.kids k).kids.length kc) := box_cell (Gr.refl _) (i := 2) rfl
          obtain ⟨ib, io, hia, I0⟩ := (OI'.gr GA).now.cell (i := k) (by rw [insL_len]; exact hlt')
          obtain ⟨ob, oo, hoa, O0⟩ := (OO'.gr GA).now.cell (i := k) (by rw [outsL_len]; exact hlt')
          rw [insL_nth hlt'] at I0
          rw [outsL_nth hlt'] at O0
          cases hia
          cases hoa
          have hcall : ∀ w2, Gr wq w2 → Calls Try.prog 35 #[.pointer (some ⟨gb, 0, none⟩), .agg #[.int .i64 (ix b.kids k).kind, .int .i64 (ix b.kids k).label, .slice ka (ix b.kids k).kids.length kc], .int .i64 (P + 2 * (k : Int)), .int .i64 (P + 2 * (k : Int) + 1)] w2 (RetG w0 w2 gb lv' (growF n (ix b.kids k) (P + 2 * (k : Int)) (P + 2 * (k : Int) + 1) s') (.tuple #[])) :=
            fun w2 g2 => ih (ix b.kids k) ka kc w2 lv' s' _ _ (HK.out _ (ix_mem hlt')) hkr (hw.gr' g2) ok' (by omega) (by omega) (by omega) (by omega)
          have HKeep := Lib.hid (fun s1 e => grow_keep n (ix b.kids k) (P + 2 * (k : Int)) (P + 2 * (k : Int) + 1) s' s1 (HK.out _ (ix_mem hlt')) ok' (by omega) (by omega) (by omega) (by omega) e)
          go_wp2_with fail
          refine cut10 (S := fun w' => w'.cell? ⟨wq.heap.size, 0, none⟩ = some (.int .i64 (ix b.kids k).kind) ∧ w'.cell? ⟨wq.heap.size, 1, none⟩ = some (.int .i64 (ix b.kids k).label) ∧ w'.cell? ⟨wq.heap.size, 2, none⟩ = some (.slice ka (ix b.kids k).kids.length kc) ∧ w'.cell? ⟨ib, io + k, none⟩ = some (.int .i64 (P + 2 * (k : Int))) ∧ w'.cell? ⟨ob, oo + k, none⟩ = some (.int .i64 (P + 2 * (k : Int) + 1))) (by kernel_rfl) (by kernel_rfl) (by exact ⟨cell_gr A0 (by (repeat (first | exact Gr.refl _ | assumption | apply Gr.alloc | apply Gr.drew | apply Gr.drewN | refine Gr.trans ?_ (by assumption)))), cell_gr A1 (by (repeat (first | exact Gr.refl _ | assumption | apply Gr.alloc | apply Gr.drew | apply Gr.drewN | refine Gr.trans ?_ (by assumption)))), cell_gr A2 (by (repeat (first | exact Gr.refl _ | assumption | apply Gr.alloc | apply Gr.drew | apply Gr.drewN | refine Gr.trans ?_ (by assumption)))), cell_gr I0 (by (repeat (first | exact Gr.refl _ | assumption | apply Gr.alloc | apply Gr.drew | apply Gr.drewN | refine Gr.trans ?_ (by assumption)))), cell_gr O0 (by (repeat (first | exact Gr.refl _ | assumption | apply Gr.alloc | apply Gr.drew | apply Gr.drewN | refine Gr.trans ?_ (by assumption))))⟩) (fun hHeld => ?_)
          (refine hold0 (v := ?_) (by kernel_rfl) (by kernel_rfl) (by kernel_rfl) (fun _ _ _ h => h) (by rfl) (fun w' hSw => ?_) (by assumption) ?_; rotate_left 1; · ((try dsimp only at hSw); (try go_simp); (try (with_reducible rfl))); (try simp only [Act.put, List.setIfInBounds_toArray, List.set_cons_zero, List.set_cons_succ]))
          (refine hold1 (v := ?_) (by kernel_rfl) (by kernel_rfl) (by kernel_rfl) (fun _ _ _ h => h) (by rfl) (fun w' hSw => ?_) (by assumption) ?_; rotate_left 1; · ((try dsimp only at hSw); (try go_simp); (try (with_reducible rfl))); (try simp only [Act.put, List.setIfInBounds_toArray, List.set_cons_zero, List.set_cons_succ]))
          (refine hold2 (v := ?_) (by kernel_rfl) (by kernel_rfl) (by kernel_rfl) (fun _ _ _ h => h) (by rfl) (fun w' hSw => ?_) (by assumption) ?_; rotate_left 1; · ((try dsimp only at hSw); (try go_simp); (try (with_reducible rfl))); (try simp only [Act.put, List.setIfInBounds_toArray, List.set_cons_zero, List.set_cons_succ]))
          (refine hold3 (v := ?_) (by kernel_rfl) (by kernel_rfl) (by kernel_rfl) (fun _ _ _ h => h) (by rfl) (fun w' hSw => ?_) (by assumption) ?_; rotate_left 1; · ((try dsimp only at hSw); (try go_simp); (try (with_reducible rfl))); (try simp only [Act.put, List.setIfInBounds_toArray, List.set_cons_zero, List.set_cons_succ]))
          (refine hold4 (v := ?_) (by kernel_rfl) (by kernel_rfl) (by kernel_rfl) (fun _ _ _ h => h) (by rfl) (fun w' hSw => ?_) (by assumption) ?_; rotate_left 1; · ((try dsimp only at hSw); (try go_simp); (try (with_reducible rfl))); (try simp only [Act.put, List.setIfInBounds_toArray, List.set_cons_zero, List.set_cons_succ]))
          (refine hold5 (v := ?_) (by kernel_rfl) (by kernel_rfl) (by kernel_rfl) (fun _ _ _ h => h) (by rfl) (fun w' hSw => ?_) (by assumption) ?_; rotate_left 1; · ((try dsimp only at hSw); (try go_simp); (try (with_reducible rfl))); (try simp only [Act.put, List.setIfInBounds_toArray, List.set_cons_zero, List.set_cons_succ]))
          (refine hold6 (v := ?_) (by kernel_rfl) (by kernel_rfl) (by kernel_rfl) (fun _ _ _ h => h) (by rfl) (fun w' hSw => ?_) (by assumption) ?_; rotate_left 1; · ((try dsimp only at hSw); (try go_simp); (try (with_reducible rfl))); (try simp only [Act.put, List.setIfInBounds_toArray, List.set_cons_zero, List.set_cons_succ]))
          (refine hold7 (v := ?_) (by kernel_rfl) (by kernel_rfl) (by kernel_rfl) (fun _ _ _ h => h) (by rfl) (fun w' hSw => ?_) (by assumption) ?_; rotate_left 1; · ((try dsimp only at hSw); (try go_simp); (try (with_reducible rfl))); (try simp only [Act.put, List.setIfInBounds_toArray, List.set_cons_zero, List.set_cons_succ]))
          (refine hold8 (v := ?_) (by kernel_rfl) (by kernel_rfl) (by kernel_rfl) (fun _ _ _ h => h) (by rfl) (fun w' hSw => ?_) (by assumption) ?_; rotate_left 1; · ((try dsimp only at hSw); (try go_simp); (try (with_reducible rfl))); (try simp only [Act.put, List.setIfInBounds_toArray, List.set_cons_zero, List.set_cons_succ]))
          (refine hold9 (v := ?_) (by kernel_rfl) (by kernel_rfl) (by kernel_rfl) (fun _ _ _ h => h) (by rfl) (fun w' hSw => ?_) (by assumption) ?_; rotate_left 1; · ((try dsimp only at hSw); (try go_simp); (try (with_reducible rfl))); (try simp only [Act.put, List.setIfInBounds_toArray, List.set_cons_zero, List.set_cons_succ]))
          refine ends10 (by kernel_rfl) (fun K hK => ?_)
          go_simp
          refine (hcall _ (by (repeat (first | exact Gr.refl _ | assumption | apply Gr.alloc | apply Gr.drew | apply Gr.drewN | refine Gr.trans ?_ (by assumption))))).mono ?_
          rintro _ w5 hr
          rcases hr.cases with ⟨s1, lv1, h1, rfl, h2, h3⟩ | ⟨h1, rfl, h2⟩
          · obtain ⟨hk1, hk2⟩ := HKeep.out s1 h1
            have H1 := Lib.hid h1
            clear h1 hcall
            refine hK.out _ _ ?_
            go_wp2_with fail
            have TD : GStep gb lv' lv1 wq w5 := (GStep.of_gr (by (repeat (first | exact Gr.refl _ | assumption | apply Gr.alloc | apply Gr.drew | apply Gr.drewN | refine Gr.trans ?_ (by assumption))))).trans h3
            go_roundw
            case rel => exact ⟨k + 1, s1, lv1, by go_num, by omega, h2, hst.trans TD, hk1, by omega, TD.on OI', TD.on OO', by rw [HR.out, both_step hlt', H1.out, Option.bind_some, show P + 2 * (k : Int) + 2 = P + 2 * ((k + 1 : Nat) : Int) by omega]⟩
            case measure => simp [intOf]; omega
          · have H1 := Lib.hid h1
            clear h1 hcall
            refine bodyPost_panic (P := Try.prog) (fn := Try.f35) rfl ?_
            exact RetG.no (by rw [HR.out, both_step hlt', H1.out]; rfl) h2
        · obtain rfl : k = b.kids.length := by omega
          have hR3 : (growF (n + 1) b f t ⟨P, ls⟩ = linkF ⟨0, outsL P b.kids.length, [t]⟩ s') := (by rw [HR.out, List.drop_length]; rfl)
          have HR3 := Lib.hid hR3
          have hlen' := ok'.len
          clear HR hR3
          go_wp2_with fail
          refine (grow1_calls t _ hIt).mono ?_
          rintro _ w6 ⟨v6, rfl, o6, g6⟩
          have hlt1 := hw.lt (Nat.le_refl _)
          go_wp2_with fail
          refine (link_calls (l := ⟨0, outsL P b.kids.length, [t]⟩) (hw.gr' g6) hlen' (show I64 0 by decide) (OO'.gr g6) (fresh_on hw.lo o6 hlt1)).mono ?_
          rintro _ w7 hr
          rcases hr.cases with ⟨s2, lv2, h2, rfl, G7, T7⟩ | ⟨h2, rfl, G7⟩
          case inr =>
            have H2 := Lib.hid h2
            clear h2
            go_wp2_with fail
            refine bodyPost_panic rfl ?_
            exact RetG.no (by rw [HR3.out, H2.out]) G7
          have H2 := Lib.hid h2
          clear h2
          go_wp2_with fail
          refine bodyPost_end (results_none rfl _ _ _) rfl ?_
          exact RetG.yes (by rw [HR3.out, H2.out]) G7 ((hst.trans (GStep.of_gr g6)).trans T7)
end Go.Proofs.Ytajmccjnoejmfaa
