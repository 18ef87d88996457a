/- Contract of reduce's series. -/
import Derived.Test.YtjpapgbdhflgnaaRW2
import Derived.Test.YtjpapgbdhflgnaaGM
import Derived.BigQuiet
import Derived.Deep.CutRange
import Derived.Test.YtjpapgbdhflgnaaPC
import Derived.Test.YtjpapgbdhflgnaaItemRow
namespace Go.Tok
open Go.RowKit
set_option linter.unusedVariables false
theorem serie_no1 {s : SmD} {p : Nat} (h : onlyF (fun t => nth t.post p) s.net.trans = none) : serieF s p = none := by unfold serieF; rw [h]
theorem serie_no2 {s : SmD} {p k : Nat} (h1 : onlyF (fun t => nth t.post p) s.net.trans = some k) (h : onlyF (fun t => nth t.pre p) s.net.trans = none) : serieF s p = none := by unfold serieF; rw [h1, h]
theorem serie_is {s : SmD} {p k l : Nat} (h1 : onlyF (fun t => nth t.post p) s.net.trans = some k) (h2 : onlyF (fun t => nth t.pre p) s.net.trans = some l) : serieF s p =
    if innerB s p = true ∧ k ≠ l ∧ sumF (ix s.net.trans l).pre = 1 ∧ maxF (joinF (ix s.net.trans k).post (ix s.net.trans l).post p) ≤ 9 then
      some (dropP (dropT ⟨⟨s.net.places, s.net.trans.set k ⟨(ix s.net.trans k).label, (ix s.net.trans k).pre, joinF (ix s.net.trans k).post (ix s.net.trans l).post p⟩⟩, s.i, s.o⟩ l) p)
    else none := by unfold serieF; rw [h1, h2]
theorem only_lt {f : TranD → Int} {ts : List TranD} {k : Nat} (h : onlyF f ts = some k) : k < ts.length := by
  unfold onlyF at h
  rcases h1 : (List.range ts.length).find? (fun k => decide (0 < f (ix ts k))) with _ | j
  · rw [h1] at h; cases h
  · rw [h1] at h
    have h2 := List.mem_range.1 (List.mem_of_find?_eq_some h1)
    simp only at h
    split at h
    · cases h; exact h2
    · cases h
def joinK (a b : List Int) (k : Nat) : List Int := (List.range a.length).map fun q => if q < k then nth a q + nth b q else nth a q
theorem joinK_len (a b : List Int) (k : Nat) : (joinK a b k).length = a.length := by simp [joinK]
theorem joinK_nth {a b : List Int} {k q : Nat} (h : q < a.length) : nth (joinK a b k) q = if q < k then nth a q + nth b q else nth a q := by
  rw [nth_lt (by rw [joinK_len]; exact h)]
  simp [joinK]
theorem joinK_zero (a b : List Int) : joinK a b 0 = a := by
  apply List.ext_getElem
  · rw [joinK_len]
  · intro i h1 h2
    have := joinK_nth (a := a) (b := b) (k := 0) h2
    rw [nth_lt h1, if_neg (by omega), nth_lt h2] at this
    exact this
theorem joinK_set {a b : List Int} {k : Nat} (h : k < a.length) : (joinK a b k).set k (nth a k + nth b k) = joinK a b (k + 1) := by
  apply List.ext_getElem
  · rw [List.length_set, joinK_len, joinK_len]
  · intro i h1 h2
    rw [joinK_len] at h2
    have e1 := joinK_nth (a := a) (b := b) (k := k + 1) h2
    have e2 := joinK_nth (a := a) (b := b) (k := k) h2
    rw [nth_lt (by rw [joinK_len]; exact h2)] at e1 e2
    rw [e1, List.getElem_set]
    by_cases e : k = i
    · subst e; rw [if_pos rfl, if_pos (by omega)]
    · rw [if_neg e, e2]
      by_cases h3 : i < k
      · rw [if_pos h3, if_pos (by omega)]
      · rw [if_neg h3, if_neg (by omega)]
theorem joinK_all (a b : List Int) (p : Nat) : (joinK a b a.length).set p 0 = joinF a b p := by
  unfold joinF
  congr 1
  apply List.ext_getElem
  · rw [joinK_len]; simp
  · intro i h1 h2
    rw [joinK_len] at h1
    have e1 := joinK_nth (a := a) (b := b) (k := a.length) h1
    rw [nth_lt (by rw [joinK_len]; exact h1), if_pos h1] at e1
    rw [e1]; simp
theorem joinF_len (a b : List Int) (p : Nat) : (joinF a b p).length = a.length := by rw [← joinK_all, List.length_set, joinK_len]
theorem serie_inner {s : SmD} {p : Nat} (h : innerB s p = false) : serieF s p = none := by
  unfold serieF
  split
  · rw [if_neg (fun hh => by rw [h] at hh; exact absurd hh.1 (by simp))]
  · rfl
theorem findSome_is {α : Type} {f : Nat → Option α} {n k : Nat} {x : α} (hk : k < n) (h : ∀ j, j < k → f j = none) (hp : f k = some x) : (List.range n).findSome? f = some x := by
  obtain ⟨d, rfl⟩ : ∃ d, n = k + (d + 1) := ⟨n - k - 1, by omega⟩
  rw [List.range_add, List.findSome?_append, List.findSome?_eq_none_iff.2 (fun j hj => h j (List.mem_range.1 hj)), List.range_succ_eq_map]
  simp [hp]
theorem SmB.rowM {s : SmD} (h : SmB s) {t : TranD} (ht : t ∈ s.net.trans) : (t.pre.length : Int) = s.net.places ∧ (t.post.length : Int) = s.net.places := by
  obtain ⟨k, hk, rfl⟩ := List.getElem_of_mem ht
  have := h.rows k hk
  rwa [ix_lt hk] at this
theorem SmB.drT {s : SmD} (h : SmB s) (k : Nat) : SmB (dropT s k) := by
  refine ⟨h.pl, ?_, fun j hj => ?_, h.io⟩
  · have := h.tl
    unfold dropT
    simp only
    have := List.length_eraseIdx_le s.net.trans k
    omega
  · rw [ix_lt hj]
    exact h.rowM (List.mem_of_mem_eraseIdx (List.getElem_mem hj))
theorem SmB.setT {s : SmD} (h : SmB s) (k : Nat) {t : TranD} (ht : (t.pre.length : Int) = s.net.places ∧ (t.post.length : Int) = s.net.places) : SmB ⟨⟨s.net.places, s.net.trans.set k t⟩, s.i, s.o⟩ := by
  refine ⟨h.pl, by simp only [List.length_set]; exact h.tl, fun j hj => ?_, h.io⟩
  rw [ix_lt hj]
  rcases List.mem_or_eq_of_mem_set (List.getElem_mem hj) with h1 | h1
  · exact h.rowM h1
  · rw [h1]; exact ht
end Go.Tok
namespace Go.Proofs.Ytjpapgbdhflgnaa
open Go.RowKit Go.Tok
set_option linter.unusedVariables false
set_option maxHeartbeats 1600000 in
set_option maxRecDepth 100000 in
theorem series_calls (w0 w : World) (sb : Nat) (s : SmD) (h : SmW w0 w sb s) (hB : SmB s) (hW : ∀ k, k < s.net.trans.length → (∀ q, 0 ≤ nth (ix s.net.trans k).pre q ∧ nth (ix s.net.trans k).pre q ≤ 9) ∧ ∀ q, 0 ≤ nth (ix s.net.trans k).post q ∧ nth (ix s.net.trans k).post q ≤ 9) :
    Calls Try.prog 24 #[.pointer (some ⟨sb, 0, none⟩)] w (RetSt w0 sb s (seriesF s)) := by
  obtain ⟨tv, hb, hT⟩ := h.ex
  obtain ⟨a, cap, rfl, hcl, hcm⟩ := hT.len
  have c0 := hb.cell (i := 0) (v := .int .i64 s.net.places) rfl
  have c1 := hb.cell (i := 1) (v := .slice a s.net.trans.length cap) rfl
  have HH := Lib.hid h
  have HT := Lib.hid hT
  have HB := Lib.hid hB
  have HWW := Lib.hid hW
  have HBK := Lib.hid hb
  obtain ⟨P, hP⟩ := Int.eq_ofNat_of_zero_le hB.pl.1
  have hP1 := hB.pl.2
  rw [hP] at c0 hP1
  have hPn : P ≤ 1000 := by omega
  have htl := hB.tl
  obtain ⟨r, hr⟩ : ∃ r, r = seriesF s := ⟨_, rfl⟩
  rw [← hr]
  have hr2 : r = (List.range P).findSome? (serieF s) := by rw [hr]; unfold seriesF; rw [hP]; rfl
  have hrow : ∀ q, q < P → ∀ k, k < s.net.trans.length → q < (ix s.net.trans k).pre.length ∧ q < (ix s.net.trans k).post.length := fun q hq k hk => by
    obtain ⟨h1, h2⟩ := hB.rows k hk
    rw [hP] at h1 h2
    omega
  have hlenP : ∀ k, k < s.net.trans.length → (ix s.net.trans k).pre.length = P ∧ (ix s.net.trans k).post.length = P := fun k hk => by
    obtain ⟨h1, h2⟩ := hB.rows k hk
    rw [hP] at h1 h2
    omega
  have hmem : ∀ t ∈ s.net.trans, ∃ k, k < s.net.trans.length ∧ t = ix s.net.trans k := fun t ht => by
    obtain ⟨k, hk, rfl⟩ := List.getElem_of_mem ht
    exact ⟨k, hk, by rw [ix_lt hk]⟩
  have egs1 : ∀ args w, (callFunc 50 args).run Try.prog w = .ok (.enter 50 args) w := (Go.Proofs.enters_of Try.func50 (by kernel_rfl) rfl)
  have egs2 : ∀ args w, (callFunc 51 args).run Try.prog w = .ok (.enter 51 args) w := (Go.Proofs.enters_of Try.func51 (by kernel_rfl) rfl)
  have HR := Lib.hid hr2
  have HROW := Lib.hid hrow
  have HLEN := Lib.hid hlenP
  have HMEM := Lib.hid hmem
  have EG1 := Lib.hid egs1
  have EG2 := Lib.hid egs2
  clear h hb hT hr hr2 hP hB hrow hP1 hlenP hmem egs1 egs2 hW
  go_enter Try.func24, Try.ntmps24
  go_wp2_with fail
  go_loopw [15] (fun q wr => ∃ p : Nat, q = .int .i64 p ∧ p ≤ P ∧ (∀ q, q < p → serieF s q = none) ∧ Gr w wr) (fun q _ => P - (intOf q).toNat)
  case atStart => exact ⟨0, rfl, Nat.zero_le _, fun k' h => by omega, Gr.refl _⟩
  case round =>
    rename World => wr
    obtain ⟨p, rfl, hp, hno, hgr⟩ := hrel
    have HNO := Lib.hid hno
    clear hno
    by_cases hlt : p < P
    · have hpI : (p : Int) < (P : Int) := by omega
      obtain ⟨wa, hwa⟩ : ∃ wa, wa = wr.alloc (.cells #[.int .i64 (p : Int)] 3) := ⟨_, rfl⟩
      have GA : Gr wr wa := by rw [hwa]; exact (Gr.refl _).alloc _
      have x0 : wa.cell? ⟨wr.heap.size, 0, none⟩ = some (.int .i64 p) := by rw [hwa]; exact box_cell (Gr.refl _) (i := 0) rfl
      have cA := cell_gr c1 (hgr.trans GA)
      have HGA := Lib.hid (hgr.trans GA)
      have HWA := Lib.hid hwa
      have HF1 := Lib.hid (only_calls (.slice a s.net.trans.length cap) s.net.trans 50 #[.pointer (some ⟨wr.heap.size, 0, none⟩)] (fun t => nth t.post p) wa EG1.out (HT.out.gr HGA.out).tr (ser1_gives wa wr.heap.size p s.net.trans x0 (fun t ht => by obtain ⟨k, hk, rfl⟩ := HMEM.out t ht; exact (HROW.out p hlt k hk).2)) htl)
      have HF2 := Lib.hid (fun W (g : Gr wa W) => only_calls (.slice a s.net.trans.length cap) s.net.trans 51 #[.pointer (some ⟨wr.heap.size, 0, none⟩)] (fun t => nth t.pre p) W EG2.out (HT.out.gr (HGA.out.trans g)).tr (ser2_gives W wr.heap.size p s.net.trans (cell_gr x0 g) (fun t ht => by obtain ⟨k, hk, rfl⟩ := HMEM.out t ht; exact (HROW.out p hlt k hk).1)) htl)
      have HNX0 : Hid (serieF s p = none → ∀ q, q < p + 1 → serieF s q = none) := Lib.hid fun h0 q hq => by
        by_cases e : q = p
        · subst e; exact h0
        · exact HNO.out q (by omega)
      have cL := cell_gr c1 (hgr.trans ((Gr.refl wr).alloc (.cells #[.int .i64 (p : Int)] 3)))
      clear GA hwa
      go_wp2_with fail
      rw [← HWA.out]
      clear cL
      refine HF1.out.mono ?_
      rintro _ w2 ⟨rfl, g2⟩
      have cB := cell_gr cA g2
      go_wp2_with fail
      refine (HF2.out w2 g2).mono ?_
      rintro _ w3 ⟨rfl, g3⟩
      have x3 := cell_gr x0 (g2.trans g3)
      have cC := cell_gr cB g3
      have HG3 := Lib.hid (g2.trans g3)
      have HSQ := Lib.hid (HH.out.mv (HGA.out.trans HG3.out))
      have HI1 := Lib.hid (inner_calls w0 w3 sb s (p : Int) HSQ.out)
      clear cA cB x0 g2 g3
      rcases h1 : innerB s (p : Int) with _ | _
      · have HNX := Lib.hid (HNX0.out (serie_inner h1))
        rw [h1] at HI1
        clear h1
        go_wp2_with fail
        refine HI1.out.mono ?_
        rintro _ _ ⟨rfl, rfl⟩
        go_wp2_with fail
        go_roundw
        case rel => exact ⟨p + 1, by go_num, by omega, HNX.out, HGA.out.trans HG3.out⟩
        case measure => simp [intOf]; omega
      rw [h1] at HI1
      have H1 := Lib.hid h1
      clear h1
      rcases h2 : onlyF (fun t => nth t.post p) s.net.trans with _ | k
      · have HNX := Lib.hid (HNX0.out (serie_no1 h2))
        have hv : onlyV (fun t => nth t.post p) s.net.trans = -1 := by unfold onlyV; rw [h2]
        rw [hv]
        clear h2 hv
        go_wp2_with fail
        refine HI1.out.mono ?_
        rintro _ _ ⟨rfl, rfl⟩
        go_wp2_with fail
        go_roundw
        case rel => exact ⟨p + 1, by go_num, by omega, HNX.out, HGA.out.trans HG3.out⟩
        case measure => simp [intOf]; omega
      have hv1 : onlyV (fun t => nth t.post p) s.net.trans = (k : Int) := by unfold onlyV; rw [h2]
      rw [hv1]
      have hkl := only_lt h2
      have H2 := Lib.hid h2
      have hk0 : ¬ ((k : Int) < 0) := by omega
      clear h2 hv1
      rcases h3 : onlyF (fun t => nth t.pre p) s.net.trans with _ | l
      · have HNX := Lib.hid (HNX0.out (serie_no2 H2.out h3))
        have hv : onlyV (fun t => nth t.pre p) s.net.trans = -1 := by unfold onlyV; rw [h3]
        rw [hv]
        clear h3 hv
        go_wp2_with fail
        refine HI1.out.mono ?_
        rintro _ _ ⟨rfl, rfl⟩
        go_wp2_with fail
        go_roundw
        case rel => exact ⟨p + 1, by go_num, by omega, HNX.out, HGA.out.trans HG3.out⟩
        case measure => simp [intOf]; omega
      have hv2 : onlyV (fun t => nth t.pre p) s.net.trans = (l : Int) := by unfold onlyV; rw [h3]
      rw [hv2]
      have hll := only_lt h3
      have hl0 : ¬ ((l : Int) < 0) := by omega
      have HIS := Lib.hid (serie_is H2.out h3)
      clear h3 hv2
      by_cases hkleq : k = l
      · have HNX := Lib.hid (HNX0.out (by rw [HIS.out, if_neg (fun hh => hh.2.1 hkleq)]))
        have q1 : ((k : Int) == (l : Int)) = true := by rw [beq_iff_eq]; omega
        clear hkleq
        go_wp2_with fail
        refine HI1.out.mono ?_
        rintro _ _ ⟨rfl, rfl⟩
        go_wp2_with fail
        go_roundw
        case rel => exact ⟨p + 1, by go_num, by omega, HNX.out, HGA.out.trans HG3.out⟩
        case measure => simp [intOf]; omega
      have q1 : ((k : Int) == (l : Int)) = false := by rw [Bool.eq_false_iff]; intro e; rw [beq_iff_eq] at e; omega
      obtain ⟨b, o, vp, vq, rfl, e0, e1, e2, hlabl, hopl, hoql⟩ := (HT.out.gr (HGA.out.trans HG3.out)).at_ hll
      obtain ⟨b', o', vpk, vqk, hbo, d0, d1, d2, hlabk, hopk, hoqk⟩ := (HT.out.gr (HGA.out.trans HG3.out)).at_ hkl
      cases hbo
      have hlI : (l : Int) < (s.net.trans.length : Int) := by omega
      have hkI : (k : Int) < (s.net.trans.length : Int) := by omega
      have hl00 : (0 : Int) ≤ (l : Int) := by omega
      have hk00 : (0 : Int) ≤ (k : Int) := by omega
      have hll3 := HLEN.out l hll
      have hkl3 := HLEN.out k hkl
      have hWl := HWW.out l hll
      have hWk := HWW.out k hkl
      obtain ⟨tl, htl2⟩ : ∃ t, t = ix s.net.trans l := ⟨_, rfl⟩
      obtain ⟨tk, htk2⟩ : ∃ t, t = ix s.net.trans k := ⟨_, rfl⟩
      rw [← htl2] at e0 hlabl hopl hoql hll3 hWl
      rw [← htk2] at d0 hlabk hopk hoqk hkl3 hWk
      rw [← htl2, ← htk2] at HIS
      have hpl := hopl.now
      have hql := hoql.now
      have hpk := hopk.now
      have hqk := hoqk.now
      obtain ⟨pla, plc, rfl, _, _⟩ := hpl.len
      obtain ⟨qla, qlc, rfl, _, _⟩ := hql.len
      obtain ⟨pka, pkc, rfl, _, _⟩ := hpk.len
      obtain ⟨qka, qkc, rfl, _, _⟩ := hqk.len
      have HSUM := Lib.hid (sum_calls (.slice pla tl.pre.length plc) tl.pre w3 hpl (fun x hx => by obtain ⟨i, hi, rfl⟩ := List.getElem_of_mem hx; have := hWl.1 i; rw [nth_lt hi] at this; omega) (by omega))
      have HPK := Lib.hid hopk
      have HQK := Lib.hid hqk
      have HQL := Lib.hid hql
      have HLAB := Lib.hid hlabk
      have HWK := Lib.hid (And.intro hWk hWl)
      have HTK := Lib.hid (And.intro htk2 htl2)
      have HKL := Lib.hid hkleq
      have HL3 := Lib.hid (And.intro hkl3 hll3)
      clear hpl hql hpk hqk hopl hoql hopk hoqk hlabl hlabk htl2 htk2 hWl hWk hkleq hkl3 hll3
      by_cases hs1 : sumF tl.pre = 1
      case neg =>
        have HNX := Lib.hid (HNX0.out (by rw [HIS.out, if_neg (fun hh => hs1 hh.2.2.1)]))
        have q2 : (sumF tl.pre != 1) = true := by simpa using hs1
        clear hs1
        go_wp2_with fail
        refine HI1.out.mono ?_
        rintro _ _ ⟨rfl, rfl⟩
        go_wp2_with fail
        refine HSUM.out.mono ?_
        rintro _ _ ⟨rfl, rfl⟩
        go_wp2_with fail
        go_roundw
        case rel => exact ⟨p + 1, by go_num, by omega, HNX.out, HGA.out.trans HG3.out⟩
        case measure => simp [intOf]; omega
      rw [hs1] at HSUM HIS
      clear hs1
      go_wp2_with fail
      refine HI1.out.mono ?_
      rintro _ _ ⟨rfl, rfl⟩
      go_wp2_with fail
      refine HSUM.out.mono ?_
      rintro _ _ ⟨rfl, rfl⟩
      go_upto_region 7 with fail
      have KS : Hid (∀ w', Gr w3 w' → w'.cell? ⟨sb, 1, none⟩ = some (.slice (some ⟨b, o, none⟩) s.net.trans.length cap) ∧ w'.cell? ⟨b, o + k * 3, none⟩ = some (.int .i64 tk.label) ∧ w'.cell? ⟨b, o + k * 3 + 1, none⟩ = some (.slice pka tk.pre.length pkc) ∧ w'.cell? ⟨b, o + k * 3 + 2, none⟩ = some (.slice qka tk.post.length qkc) ∧ w'.cell? ⟨b, o + l * 3, none⟩ = some (.int .i64 tl.label) ∧ w'.cell? ⟨b, o + l * 3 + 1, none⟩ = some (.slice pla tl.pre.length plc) ∧ w'.cell? ⟨b, o + l * 3 + 2, none⟩ = some (.slice qla tl.post.length qlc)) := Lib.hid fun w' g => ⟨cell_gr cC g, cell_gr d0 g, cell_gr d1 g, cell_gr d2 g, cell_gr e0 g, cell_gr e1 g, cell_gr e2 g⟩
      have L1 : Hid (Blk (((w3.alloc (.cells #[.int .i64 tk.label, .slice pka tk.pre.length pkc, .slice qka tk.post.length qkc] 48)).alloc (.cells #[.int .i64 tl.label, .slice pla tl.pre.length plc, .slice qla tl.post.length qlc] 48)).drew) w3.heap.size 48 #[.int .i64 tk.label, .slice pka tk.pre.length pkc, .slice qka tk.post.length qkc] ∧ Blk (((w3.alloc (.cells #[.int .i64 tk.label, .slice pka tk.pre.length pkc, .slice qka tk.post.length qkc] 48)).alloc (.cells #[.int .i64 tl.label, .slice pla tl.pre.length plc, .slice qla tl.post.length qlc] 48)).drew) (w3.heap.size + 1) 48 #[.int .i64 tl.label, .slice pla tl.pre.length plc, .slice qla tl.post.length qlc] ∧ Gr w3 (((w3.alloc (.cells #[.int .i64 tk.label, .slice pka tk.pre.length pkc, .slice qka tk.post.length qkc] 48)).alloc (.cells #[.int .i64 tl.label, .slice pla tl.pre.length plc, .slice qla tl.post.length qlc] 48)).drew) ∧ w3.heap.size ≤ w3.heap.size) := Lib.hid ⟨(Blk.new rfl).gr (((Gr.refl _).alloc _).drew), (Blk.new (by simp)).gr ((Gr.refl _).drew), (((Gr.refl _).alloc _).alloc _).drew, Nat.le_refl _⟩
      have L2 : Hid (Blk (((w3.alloc (.cells #[.int .i64 tl.label, .slice pla tl.pre.length plc, .slice qla tl.post.length qlc] 48)).alloc (.cells #[.int .i64 tk.label, .slice pka tk.pre.length pkc, .slice qka tk.post.length qkc] 48)).drew) (w3.heap.size + 1) 48 #[.int .i64 tk.label, .slice pka tk.pre.length pkc, .slice qka tk.post.length qkc] ∧ Blk (((w3.alloc (.cells #[.int .i64 tl.label, .slice pla tl.pre.length plc, .slice qla tl.post.length qlc] 48)).alloc (.cells #[.int .i64 tk.label, .slice pka tk.pre.length pkc, .slice qka tk.post.length qkc] 48)).drew) w3.heap.size 48 #[.int .i64 tl.label, .slice pla tl.pre.length plc, .slice qla tl.post.length qlc] ∧ Gr w3 (((w3.alloc (.cells #[.int .i64 tl.label, .slice pla tl.pre.length plc, .slice qla tl.post.length qlc] 48)).alloc (.cells #[.int .i64 tk.label, .slice pka tk.pre.length pkc, .slice qka tk.post.length qkc] 48)).drew) ∧ w3.heap.size ≤ w3.heap.size + 1) := Lib.hid ⟨(Blk.new (by simp)).gr ((Gr.refl _).drew), (Blk.new rfl).gr (((Gr.refl _).alloc _).drew), (((Gr.refl _).alloc _).alloc _).drew, Nat.le_succ _⟩
      go_cut [6, 7] from 16 to 133 (fun ta tb wx => ∃ X Y : Nat, ta = .pointer (some ⟨X, 0, none⟩) ∧ tb = .pointer (some ⟨Y, 0, none⟩) ∧ Blk wx X 48 #[.int .i64 tk.label, .slice pka tk.pre.length pkc, .slice qka tk.post.length qkc] ∧ Blk wx Y 48 #[.int .i64 tl.label, .slice pla tl.pre.length plc, .slice qla tl.post.length qlc] ∧ Gr w3 wx ∧ w3.heap.size ≤ X)
      case first =>
        clear HF1 HF2 HI1 HSQ HSUM HNX0 HIS
        go_region_held3 (fun w' => w'.cell? ⟨sb, 1, none⟩ = some (.slice (some ⟨b, o, none⟩) s.net.trans.length cap) ∧ w'.cell? ⟨b, o + k * 3, none⟩ = some (.int .i64 tk.label) ∧ w'.cell? ⟨b, o + k * 3 + 1, none⟩ = some (.slice pka tk.pre.length pkc) ∧ w'.cell? ⟨b, o + k * 3 + 2, none⟩ = some (.slice qka tk.post.length qkc) ∧ w'.cell? ⟨b, o + l * 3, none⟩ = some (.int .i64 tl.label) ∧ w'.cell? ⟨b, o + l * 3 + 1, none⟩ = some (.slice pla tl.pre.length plc) ∧ w'.cell? ⟨b, o + l * 3 + 2, none⟩ = some (.slice qla tl.post.length qlc)) (first | ((refine KS.out _ ?_); ((focus ((repeat (first | exact Gr.refl _ | assumption | apply Gr.alloc | apply Gr.drew | apply Gr.drewN | (refine Gr.setCell ?_ (by simp) _))); done))))) (fail)
        all_goals (
          go_wp2_with fail
          go_meet
          first | (case rel => exact ⟨_, _, rfl, rfl, L1.out⟩) | (case rel => exact ⟨_, _, rfl, rfl, L2.out⟩))
      case rest =>
        obtain ⟨X, Y, rfl, rfl, bX, bY, gC, hXle⟩ := hcut
        have HXL := Lib.hid hXle
        clear hXle
        have HX3 := Lib.hid (cell_gr x3 gC)
        clear L1 L2 KS d0 d1 d2 e0 e1 e2 cC x3 HF1 HF2 HI1 HSUM
        have X2 := bX.cell (i := 2) (v := .slice qka tk.post.length qkc) rfl
        have HQC := Lib.hid (HQK.out.gr gC)
        have HBX := Lib.hid (And.intro bX bY)
        have HGC := Lib.hid gC
        have HPP : Hid (tk.post.length = P ∧ tl.post.length = P) := Lib.hid ⟨HL3.out.1.2, HL3.out.2.2⟩
        clear bX bY gC
        go_wp2_with fail
        refine (Clone_calls _ tk.post _ HQC.out (by have := HPP.out.1; omega)).mono ?_
        rintro _ w4 ⟨v4, rfl, o4, g4⟩
        rcases o4.form with ⟨_, h00⟩ | ⟨g, gc, rfl, hg1, hg2, _, _⟩
        · have := HPP.out.1
          rw [h00] at this
          simp at this
          omega
        have O4 := Lib.hid o4
        clear o4
        have HG4 := Lib.hid g4
        have HY2 := Lib.hid (cell_gr (HBX.out.2.cell (i := 2) (v := .slice qla tl.post.length qlc) rfl) g4)
        have HQL4 := Lib.hid ((HQL.out.gr HGC.out).gr g4)
        have hPl : tk.post.length ≤ 1000 := by have := HPP.out.1; omega
        have hPp : p < tk.post.length := by have := HPP.out.1; omega
        have HGG := Lib.hid hg1
        have HQLC := Lib.hid (HQL.out.gr HGC.out)
        have HYC := Lib.hid (HBX.out.2.cell (i := 2) (v := .slice qla tl.post.length qlc) rfl)
        clear X2 g4 hg1 hg2
        go_wp2_with fail
        go_loopw [83] (fun i wr' => ∃ q : Nat, i = .int .i64 q ∧ q ≤ tk.post.length ∧ OwnI 3 wc.heap.size wr' (.slice (some ⟨g, 0, none⟩) tk.post.length gc) (joinK tk.post tl.post q) ∧ Gr wc wr' ∧ wr'.cell? ⟨Y, 2, none⟩ = some (.slice qla tl.post.length qlc) ∧ Ints wr' (.slice qla tl.post.length qlc) tl.post) (fun i _ => tk.post.length - (intOf i).toNat)
        case atStart => exact ⟨0, rfl, Nat.zero_le _, by rw [joinK_zero]; exact O4.out, HG4.out, HY2.out, HQL4.out⟩
        case round =>
          rename World => wq
          obtain ⟨q, rfl, hq, hoq, hgq, hyq, hiq⟩ := hrel
          by_cases hqt : q < tk.post.length
          · have hqI : (q : Int) < (tk.post.length : Int) := by omega
            have hq0 : (0 : Int) ≤ (q : Int) := by omega
            have r0 := hoq.cell (i := q) (by rw [joinK_len]; exact hqt)
            have f0 := hoq.frozen q
            rw [joinK_nth hqt, if_neg (by omega)] at r0
            have hql : q < tl.post.length := by have := HPP.out; omega
            obtain ⟨qb, qo, rfl, s0⟩ := hiq.cell hql
            have hqlI : (q : Int) < (tl.post.length : Int) := by omega
            have hb1 := (HWK.out.1.2 q)
            have hb2 := (HWK.out.2.2 q)
            have HJS := Lib.hid (joinK_set (b := tl.post) hqt)
            have HO := Lib.hid hoq
            have HI := Lib.hid hiq
            have HGQ := Lib.hid hgq
            have HY := Lib.hid hyq
            generalize nth tk.post q = ya at r0 hb1 HJS
            generalize nth tl.post q = yb at s0 hb2 HJS
            have hI : I64 (ya + yb) := by constructor <;> omega
            obtain ⟨hb1a, hb1b⟩ := hb1
            obtain ⟨hb2a, hb2b⟩ := hb2
            clear hoq hiq hgq
            go_wp2_with fail
            refine cut11 (S := fun w' => w'.cell? ⟨Y, 2, none⟩ = some (.slice (some ⟨qb, qo, none⟩) tl.post.length qlc) ∧ w'.cell? ⟨g, q, none⟩ = some (.int .i64 ya) ∧ w'.cell? ⟨qb, qo + q, none⟩ = some (.int .i64 yb)) (by kernel_rfl) (by kernel_rfl) ⟨cell_gr hyq ((Gr.refl _).drew), cell_gr r0 ((Gr.refl _).drew), cell_gr s0 ((Gr.refl _).drew)⟩ (fun hHeld => ?_)
            obtain ⟨y0, hy⟩ : ∃ y, y = wq.drew := ⟨_, rfl⟩
            have G : Gr wq y0 := by rw [hy]; exact (Gr.refl _).drew
            rw [← hy] at hHeld ⊢
            have o0 := HO.out.gr G
            have f1 := o0.frozen q
            have r1 := cell_gr r0 G
            have HO0 := Lib.hid (o0.set q (ya + yb) hI)
            have HG0 := Lib.hid (((HGQ.out.trans G)).setCell (p := ⟨g, q, none⟩) HGG.out (.int .i64 (ya + yb)))
            clear hy hyq r0 s0 f0 o0
            (refine hold0 (v := ?_) (by kernel_rfl) (by kernel_rfl) (by kernel_rfl) (fun _ _ _ h => h) (by rfl) (fun w' hSw => ?_) (by assumption) ?_; rotate_left 1; · ((try dsimp only at hSw); (try go_simp); (try (with_reducible rfl))); (try simp only [Act.put, List.setIfInBounds_toArray, List.set_cons_zero, List.set_cons_succ]))
            (refine hold1 (v := ?_) (by kernel_rfl) (by kernel_rfl) (by kernel_rfl) (fun _ _ _ h => h) (by rfl) (fun w' hSw => ?_) (by assumption) ?_; rotate_left 1; · ((try dsimp only at hSw); (try go_simp); (try (with_reducible rfl))); (try simp only [Act.put, List.setIfInBounds_toArray, List.set_cons_zero, List.set_cons_succ]))
            (refine hold2 (v := ?_) (by kernel_rfl) (by kernel_rfl) (by kernel_rfl) (fun _ _ _ h => h) (by rfl) (fun w' hSw => ?_) (by assumption) ?_; rotate_left 1; · ((try dsimp only at hSw); (try go_simp); (try (with_reducible rfl))); (try simp only [Act.put, List.setIfInBounds_toArray, List.set_cons_zero, List.set_cons_succ]))
            (refine hold3 (v := ?_) (by kernel_rfl) (by kernel_rfl) (by kernel_rfl) (fun _ _ _ h => h) (by rfl) (fun w' hSw => ?_) (by assumption) ?_; rotate_left 1; · ((try dsimp only at hSw); (try go_simp); (try (with_reducible rfl))); (try simp only [Act.put, List.setIfInBounds_toArray, List.set_cons_zero, List.set_cons_succ]))
            (refine hold4 (v := ?_) (by kernel_rfl) (by kernel_rfl) (by kernel_rfl) (fun _ _ _ h => h) (by rfl) (fun w' hSw => ?_) (by assumption) ?_; rotate_left 1; · ((try dsimp only at hSw); (try go_simp); (try (with_reducible rfl))); (try simp only [Act.put, List.setIfInBounds_toArray, List.set_cons_zero, List.set_cons_succ]))
            (refine hold5 (v := ?_) (by kernel_rfl) (by kernel_rfl) (by kernel_rfl) (fun _ _ _ h => h) (by rfl) (fun w' hSw => ?_) (by assumption) ?_; rotate_left 1; · ((try dsimp only at hSw); (try go_simp); (try (with_reducible rfl))); (try simp only [Act.put, List.setIfInBounds_toArray, List.set_cons_zero, List.set_cons_succ]))
            (refine hold6 (v := ?_) (by kernel_rfl) (by kernel_rfl) (by kernel_rfl) (fun _ _ _ h => h) (by rfl) (fun w' hSw => ?_) (by assumption) ?_; rotate_left 1; · ((try dsimp only at hSw); (try go_simp); (try (with_reducible rfl))); (try simp only [Act.put, List.setIfInBounds_toArray, List.set_cons_zero, List.set_cons_succ]))
            (refine hold7 (v := ?_) (by kernel_rfl) (by kernel_rfl) (by kernel_rfl) (fun _ _ _ h => h) (by rfl) (fun w' hSw => ?_) (by assumption) ?_; rotate_left 1; · ((try dsimp only at hSw); (try go_simp); (try (with_reducible rfl))); (try simp only [Act.put, List.setIfInBounds_toArray, List.set_cons_zero, List.set_cons_succ]))
            (refine hold8 (v := ?_) (by kernel_rfl) (by kernel_rfl) (by kernel_rfl) (fun _ _ _ h => h) (by rfl) (fun w' hSw => ?_) (by assumption) ?_; rotate_left 1; · ((try dsimp only at hSw); (try go_simp); (try (with_reducible rfl))); (try simp only [Act.put, List.setIfInBounds_toArray, List.set_cons_zero, List.set_cons_succ]))
            (refine hold9 (v := ?_) (by kernel_rfl) (by kernel_rfl) (by kernel_rfl) (fun _ _ _ h => h) (by rfl) (fun w' hSw => ?_) (by assumption) ?_; rotate_left 1; · ((try dsimp only at hSw); (try go_simp); (try (with_reducible rfl))); (try simp only [Act.put, List.setIfInBounds_toArray, List.set_cons_zero, List.set_cons_succ]))
            (refine hold10 (v := ?_) (by kernel_rfl) (by kernel_rfl) (by kernel_rfl) (fun _ _ _ h => h) (by rfl) (fun w' hSw => ?_) (by assumption) ?_; rotate_left 1; · ((try dsimp only at hSw); (try go_simp); (try (with_reducible rfl))); (try simp only [Act.put, List.setIfInBounds_toArray, List.set_cons_zero, List.set_cons_succ]))
            refine ends11 (by kernel_rfl) (fun K hK => ?_)
            clear hHeld
            go_simp
            refine hK.out _ _ ?_
            clear hK K
            go_wp2_with fail
            exact ⟨⟨q + 1, by go_num, by omega, by rw [← HJS.out]; exact HO0.out, HG0.out, cell_gr HYC.out HG0.out, HQLC.out.gr HG0.out⟩, by simp [intOf]; omega⟩
          · obtain rfl : q = tk.post.length := by omega
            have x5 := cell_gr HX3.out hgq
            have hp00 : (0 : Int) ≤ (p : Int) := by omega
            have hpI2 : (p : Int) < (tk.post.length : Int) := by omega
            have r0 := hoq.cell (i := p) (by rw [joinK_len]; exact hPp)
            have f0 := hoq.frozen p
            have h5 := hoq.set p 0 (by decide)
            rw [joinK_all] at h5
            have HJ := Lib.hid h5
            have HG5 := Lib.hid (hgq.setCell (p := ⟨g, p, none⟩) HGG.out (.int .i64 0))
            have HMX := Lib.hid (Max_calls _ (joinF tk.post tl.post p) _ h5.ints (by rw [joinF_len]; omega))
            clear hoq hiq hyq h5
            go_wp2_with fail
            refine HMX.out.mono ?_
            rintro _ _ ⟨rfl, rfl⟩
            obtain ⟨w6, hw6⟩ : ∃ w6, w6 = wq.setCell ⟨g, p, none⟩ (.int .i64 0) := ⟨_, rfl⟩
            rw [← hw6] at HJ HG5 ⊢
            have x6 := cell_gr HX3.out HG5.out
            have HGW : Hid (Gr w w6) := Lib.hid (HGA.out.trans (HG3.out.trans (HGC.out.trans HG5.out)))
            clear HMX r0 f0 x5 hw6
            obtain ⟨mx, hmx⟩ : ∃ mx, mx = maxF (joinF tk.post tl.post p) := ⟨_, rfl⟩
            rw [← hmx] at HIS ⊢
            clear hmx
            by_cases hm9 : mx ≤ 9
            case neg =>
              have HNX := Lib.hid (HNX0.out (by rw [HIS.out, if_neg (fun hh => hm9 hh.2.2.2)]))
              have hm10 : 9 < mx := by omega
              clear hm9
              go_wp2_with fail
              go_roundw
              case rel => exact ⟨p + 1, by go_num, by omega, HNX.out, HGW.out⟩
              case measure => simp [intOf]; omega
            have HRS : Hid (r = some (dropP (dropT ⟨⟨s.net.places, s.net.trans.set k ⟨tk.label, tk.pre, joinF tk.post tl.post p⟩⟩, s.i, s.o⟩ l) p)) := Lib.hid (by
              rw [HR.out]
              refine findSome_is hlt HNO.out ?_
              rw [HIS.out, if_pos ⟨H1.out, HKL.out, by trivial, hm9⟩])
            have HS6 := Lib.hid (HH.out.mv HGW.out)
            have HC6 := Lib.hid (CloneTrO_calls _ _ _ w6 (HT.out.gr HGW.out) (by omega))
            have d1 := cell_gr c1 HGW.out
            clear HIS HNX0 HR HNO
            go_wp2_with fail
            refine HC6.out.mono ?_
            rintro _ w7 ⟨v7, rfl, o7, g7⟩
            rcases o7.form with ⟨_, h00⟩ | ⟨g2, cp2, rfl, hg21, hg22, _, _⟩
            · rw [h00] at hkl; simp at hkl
            have b7 := HBK.out.gr (HGW.out.trans g7)
            have e1 := b7.cell (i := 1) (v := .slice (some ⟨b, o, none⟩) s.net.trans.length cap) rfl
            have f1 := b7.frozen 1
            have h68 : w7.heap.size = (w7.setCell ⟨sb, 1, none⟩ (.slice (some ⟨g2, 0, none⟩) s.net.trans.length cp2)).heap.size := by simp [World.setCell]
            have hsbw := HBK.out.lt
            have hww6 := HGW.out.le
            have hwr6 : wr.heap.size < w6.heap.size := cell_block x6
            have hwwr := hgr.le
            have hw3 := HG3.out.le
            have hwa : w.heap.size ≤ wa.heap.size := HGA.out.le
            have hXl := HXL.out
            have hXlt := (HBX.out.1.gr HG5.out).lt
            have b8 := b7.set 1 (.slice (some ⟨g2, 0, none⟩) s.net.trans.length cp2)
            have o8 := o7.other (a := ⟨sb, 1, none⟩) (fun e => by have : sb = g2 := own_eq e; omega) (fun hh => hh.1.1 rfl) (.slice (some ⟨g2, 0, none⟩) s.net.trans.length cp2)
            have bX8 := (HBX.out.1.gr (HG5.out.trans g7)).other (a := ⟨sb, 1, none⟩) (by simp only; omega) (.slice (some ⟨g2, 0, none⟩) s.net.trans.length cp2)
            have k8 : Kp (fun b => b ≠ sb) w6 (w7.setCell ⟨sb, 1, none⟩ (.slice (some ⟨g2, 0, none⟩) s.net.trans.length cp2)) := g7.kp.trans (set_kp (fun h => h rfl) _)
            have HK8 := Lib.hid k8
            have G08 := Lib.hid ((HS6.out.gr.trans g7).setCell (p := ⟨sb, 1, none⟩) HS6.out.le (.slice (some ⟨g2, 0, none⟩) s.net.trans.length cp2))
            simp only [List.setIfInBounds_toArray, List.set_cons_zero, List.set_cons_succ] at b8
            have HB8 := Lib.hid b8
            have HO8 := Lib.hid o8
            have HX8 := Lib.hid bX8
            have HNE : Hid (sb ≠ g2 ∧ wr.heap.size ≠ g2 ∧ wr.heap.size ≠ sb ∧ w6.heap.size ≤ g2 ∧ w0.heap.size ≤ g2 ∧ w6.heap.size ≤ w7.heap.size) := Lib.hid ⟨by omega, by omega, by omega, hg21, by have := HS6.out.le; omega, g7.le⟩
            clear b7 o7 b8 o8 bX8 k8 HC6 d1 h68 hsbw hww6 hwr6 hwwr hw3 hwa hXl hXlt hg21 hg22 g7
            go_wp2_with fail
            clear e1 f1
            obtain ⟨w8, hw8⟩ : ∃ w8, w8 = w7.setCell ⟨sb, 1, none⟩ (.slice (some ⟨g2, 0, none⟩) s.net.trans.length cp2) := ⟨_, rfl⟩
            rw [← hw8] at HK8 G08 HB8 HO8 HX8 ⊢
            have h78 : w7.heap.size = w8.heap.size := by rw [hw8]; simp [World.setCell]
            have HSZ := Lib.hid h78
            obtain ⟨y0, hy⟩ : ∃ y, y = w8.drew := ⟨_, rfl⟩
            have G : Gr w8 y0 := by rw [hy]; exact (Gr.refl _).drew
            have b9 := HB8.out.gr G
            have o9 := HO8.out.gr G
            have bX9 := HX8.out.gr G
            have k9 : Kp (fun b => b ≠ sb) w6 y0 := HK8.out.trans G.kp
            have G09 := Lib.hid (G08.out.trans G)
            obtain ⟨vs, hR, hc⟩ := o9.at_ hkl
            obtain ⟨p', q', rfl, _, _, _⟩ := hR.now
            have e3 : trK.size = 3 := rfl
            rw [e3] at hc
            have x0' := hc 0 _ rfl
            rw [Nat.add_zero] at x0'
            have x1' := hc 1 _ rfl
            have x2' := hc 2 _ rfl
            clear hc hR e3
            have ff0 := o9.frozen (k * 3)
            have ff1 := o9.frozen (k * 3 + 1)
            have ff2 := o9.frozen (k * 3 + 2)
            have onP : On (fun b => (b ≠ sb ∧ w0.heap.size ≤ b) ∧ b < w6.heap.size) (fun W => Ints W (.slice pka tk.pre.length pkc) tk.pre) w6 := (HPK.out.gr (HGC.out.trans HG5.out)).mono fun b hb hs => ⟨hs, hb⟩
            have onQ : On (fun b => (b ≠ sb ∧ w0.heap.size ≤ b) ∧ b < w6.heap.size) (fun W => Ints W (.slice (some ⟨g, 0, none⟩) tk.post.length gc) (joinF tk.post tl.post p)) w6 := (Ints.on_fresh HJ.out).mono fun b hb hs => ⟨by have := HBK.out.lt; have := (HGA.out.trans (HG3.out.trans HGC.out)).le; have := HH.out.gr.le; omega, hb⟩
            have onK := (((onP.and onQ).mono (S' := fun b => ((b ≠ sb ∧ w0.heap.size ≤ b) ∧ b < w6.heap.size) ∧ b ≠ g2) fun b hb hs => ⟨hs, by have := HNE.out.2.2.2.1; omega⟩).kp (k9.mono fun b hb hs => hs.1.1.1)).imp (q := fun W => trK.R W [.int .i64 tk.label, .slice pka tk.pre.length pkc, .slice (some ⟨g, 0, none⟩) tk.post.length gc] ⟨tk.label, tk.pre, joinF tk.post tl.post p⟩) fun W hW => ⟨_, _, rfl, HLAB.out, hW.1, hW.2⟩
            have o10 := o9.set3 rfl k onK
            have y1' := (World.cell?_setCell_other (w := y0) (a := ⟨g2, k * 3, none⟩) (b := ⟨g2, k * 3 + 1, none⟩) (v := .int .i64 tk.label) (by simp)).trans x1'
            have y2' := (World.cell?_setCell_other (w := y0.setCell ⟨g2, k * 3, none⟩ (.int .i64 tk.label)) (a := ⟨g2, k * 3 + 1, none⟩) (b := ⟨g2, k * 3 + 2, none⟩) (v := .slice pka tk.pre.length pkc) (by simp)).trans ((World.cell?_setCell_other (w := y0) (a := ⟨g2, k * 3, none⟩) (b := ⟨g2, k * 3 + 2, none⟩) (v := .int .i64 tk.label) (by simp)).trans x2')
            have b10 := ((b9.other (a := ⟨g2, k * 3, none⟩) HNE.out.1 (.int .i64 tk.label)).other (a := ⟨g2, k * 3 + 1, none⟩) HNE.out.1 (.slice pka tk.pre.length pkc)).other (a := ⟨g2, k * 3 + 2, none⟩) HNE.out.1 (.slice (some ⟨g, 0, none⟩) tk.post.length gc)
            have k10 : Kp (fun b => b ≠ sb ∧ b ≠ g2) w6 (((y0.setCell ⟨g2, k * 3, none⟩ (.int .i64 tk.label)).setCell ⟨g2, k * 3 + 1, none⟩ (.slice pka tk.pre.length pkc)).setCell ⟨g2, k * 3 + 2, none⟩ (.slice (some ⟨g, 0, none⟩) tk.post.length gc)) := (((k9.mono fun b _ hs => hs.1).trans (set_kp (fun h => h.2 rfl) _)).trans (set_kp (fun h => h.2 rfl) _)).trans (set_kp (fun h => h.2 rfl) _)
            have G10 := ((G09.out.setCell (p := ⟨g2, k * 3, none⟩) HNE.out.2.2.2.2.1 (.int .i64 tk.label)).setCell (p := ⟨g2, k * 3 + 1, none⟩) HNE.out.2.2.2.2.1 (.slice pka tk.pre.length pkc)).setCell (p := ⟨g2, k * 3 + 2, none⟩) HNE.out.2.2.2.2.1 (.slice (some ⟨g, 0, none⟩) tk.post.length gc)
            have p10 := cell_kp k10 x6 ⟨HNE.out.2.2.1, HNE.out.2.1⟩
            have S10 : Hid (SmW w0 (((y0.setCell ⟨g2, k * 3, none⟩ (.int .i64 tk.label)).setCell ⟨g2, k * 3 + 1, none⟩ (.slice pka tk.pre.length pkc)).setCell ⟨g2, k * 3 + 2, none⟩ (.slice (some ⟨g, 0, none⟩) tk.post.length gc)) sb ⟨⟨s.net.places, s.net.trans.set k ⟨tk.label, tk.pre, joinF tk.post tl.post p⟩⟩, s.i, s.o⟩) := Lib.hid ⟨⟨_, b10, by have := TrO.own (S' := fun b => b ≠ sb ∧ w0.heap.size ≤ b) o10 (fun b hb => ⟨fun e => HNE.out.1 (by rw [← e]; exact own_eq hb), by have e : b = g2 := own_eq hb; have := HNE.out.2.2.2.2.1; omega⟩) (fun b _ hb => hb.1); exact this⟩, G10, HS6.out.le⟩
            have HP10 := Lib.hid p10
            have S1 := b9.cell (i := 1) (v := .slice (some ⟨g2, 0, none⟩) s.net.trans.length cp2) rfl
            have S2 := bX9.cell (i := 0) (v := .int .i64 tk.label) rfl
            have S3 := bX9.cell (i := 1) (v := .slice pka tk.pre.length pkc) rfl
            have B1 := HB8.out.cell (i := 1) (v := .slice (some ⟨g2, 0, none⟩) s.net.trans.length cp2) rfl
            clear b9 o9 bX9 k9 o10 b10 k10 G10 p10 onP onQ onK hw8 h78 HB8 HO8 HX8 G08 HK8
            go_wp2_with fail
            refine cut13 (S := fun w' => w'.cell? ⟨sb, 1, none⟩ = some (.slice (some ⟨g2, 0, none⟩) s.net.trans.length cp2) ∧ w'.cell? ⟨X, 0, none⟩ = some (.int .i64 tk.label) ∧ w'.cell? ⟨X, 1, none⟩ = some (.slice pka tk.pre.length pkc)) (by kernel_rfl) (by kernel_rfl) (by rw [← hy]; exact ⟨S1, S2, S3⟩) (fun hHeld => ?_)
            rw [← hy] at hHeld ⊢
            clear hy S1 S2 S3 B1
            (refine hold0 (v := ?_) (by kernel_rfl) (by kernel_rfl) (by kernel_rfl) (fun _ _ _ h => h) (by rfl) (fun w' hSw => ?_) (by assumption) ?_; rotate_left 1; · ((try dsimp only at hSw); (try go_simp); (try (with_reducible rfl))); (try simp only [Act.put, List.setIfInBounds_toArray, List.set_cons_zero, List.set_cons_succ]))
            (refine hold1 (v := ?_) (by kernel_rfl) (by kernel_rfl) (by kernel_rfl) (fun _ _ _ h => h) (by rfl) (fun w' hSw => ?_) (by assumption) ?_; rotate_left 1; · ((try dsimp only at hSw); (try go_simp); (try (with_reducible rfl))); (try simp only [Act.put, List.setIfInBounds_toArray, List.set_cons_zero, List.set_cons_succ]))
            (refine hold2 (v := ?_) (by kernel_rfl) (by kernel_rfl) (by kernel_rfl) (fun _ _ _ h => h) (by rfl) (fun w' hSw => ?_) (by assumption) ?_; rotate_left 1; · ((try dsimp only at hSw); (try go_simp); (try (with_reducible rfl))); (try simp only [Act.put, List.setIfInBounds_toArray, List.set_cons_zero, List.set_cons_succ]))
            (refine hold3 (v := ?_) (by kernel_rfl) (by kernel_rfl) (by kernel_rfl) (fun _ _ _ h => h) (by rfl) (fun w' hSw => ?_) (by assumption) ?_; rotate_left 1; · ((try dsimp only at hSw); (try go_simp); (try (with_reducible rfl))); (try simp only [Act.put, List.setIfInBounds_toArray, List.set_cons_zero, List.set_cons_succ]))
            (refine hold4 (v := ?_) (by kernel_rfl) (by kernel_rfl) (by kernel_rfl) (fun _ _ _ h => h) (by rfl) (fun w' hSw => ?_) (by assumption) ?_; rotate_left 1; · ((try dsimp only at hSw); (try go_simp); (try (with_reducible rfl))); (try simp only [Act.put, List.setIfInBounds_toArray, List.set_cons_zero, List.set_cons_succ]))
            (refine hold5 (v := ?_) (by kernel_rfl) (by kernel_rfl) (by kernel_rfl) (fun _ _ _ h => h) (by rfl) (fun w' hSw => ?_) (by assumption) ?_; rotate_left 1; · ((try dsimp only at hSw); (try go_simp); (try (with_reducible rfl))); (try simp only [Act.put, List.setIfInBounds_toArray, List.set_cons_zero, List.set_cons_succ]))
            (refine hold6 (v := ?_) (by kernel_rfl) (by kernel_rfl) (by kernel_rfl) (fun _ _ _ h => h) (by rfl) (fun w' hSw => ?_) (by assumption) ?_; rotate_left 1; · ((try dsimp only at hSw); (try go_simp); (try (with_reducible rfl))); (try simp only [Act.put, List.setIfInBounds_toArray, List.set_cons_zero, List.set_cons_succ]))
            (refine hold7 (v := ?_) (by kernel_rfl) (by kernel_rfl) (by kernel_rfl) (fun _ _ _ h => h) (by rfl) (fun w' hSw => ?_) (by assumption) ?_; rotate_left 1; · ((try dsimp only at hSw); (try go_simp); (try (with_reducible rfl))); (try simp only [Act.put, List.setIfInBounds_toArray, List.set_cons_zero, List.set_cons_succ]))
            (refine hold8 (v := ?_) (by kernel_rfl) (by kernel_rfl) (by kernel_rfl) (fun _ _ _ h => h) (by rfl) (fun w' hSw => ?_) (by assumption) ?_; rotate_left 1; · ((try dsimp only at hSw); (try go_simp); (try (with_reducible rfl))); (try simp only [Act.put, List.setIfInBounds_toArray, List.set_cons_zero, List.set_cons_succ]))
            (refine hold9 (v := ?_) (by kernel_rfl) (by kernel_rfl) (by kernel_rfl) (fun _ _ _ h => h) (by rfl) (fun w' hSw => ?_) (by assumption) ?_; rotate_left 1; · ((try dsimp only at hSw); (try go_simp); (try (with_reducible rfl))); (try simp only [Act.put, List.setIfInBounds_toArray, List.set_cons_zero, List.set_cons_succ]))
            (refine hold10 (v := ?_) (by kernel_rfl) (by kernel_rfl) (by kernel_rfl) (fun _ _ _ h => h) (by rfl) (fun w' hSw => ?_) (by assumption) ?_; rotate_left 1; · ((try dsimp only at hSw); (try go_simp); (try (with_reducible rfl))); (try simp only [Act.put, List.setIfInBounds_toArray, List.set_cons_zero, List.set_cons_succ]))
            (refine hold11 (v := ?_) (by kernel_rfl) (by kernel_rfl) (by kernel_rfl) (fun _ _ _ h => h) (by rfl) (fun w' hSw => ?_) (by assumption) ?_; rotate_left 1; · ((try dsimp only at hSw); (try go_simp); (try (with_reducible rfl))); (try simp only [Act.put, List.setIfInBounds_toArray, List.set_cons_zero, List.set_cons_succ]))
            (refine hold12 (v := ?_) (by kernel_rfl) (by kernel_rfl) (by kernel_rfl) (fun _ _ _ h => h) (by rfl) (fun w' hSw => ?_) (by assumption) ?_; rotate_left 1; · ((try dsimp only at hSw); (try go_simp); (try (with_reducible rfl))); (try simp only [Act.put, List.setIfInBounds_toArray, List.set_cons_zero, List.set_cons_succ]))
            refine ends13 (by kernel_rfl) (fun K hK => ?_)
            clear hHeld
            go_simp
            refine hK.out _ _ ?_
            clear hK K x0' x1' x2' y1' y2' ff0 ff1 ff2
            generalize (((y0.setCell ⟨g2, k * 3, none⟩ (.int .i64 tk.label)).setCell ⟨g2, k * 3 + 1, none⟩ (.slice pka tk.pre.length pkc)).setCell ⟨g2, k * 3 + 2, none⟩ (.slice (some ⟨g, 0, none⟩) tk.post.length gc)) = w10 at HP10 S10 ⊢
            have HSB : Hid (SmB ⟨⟨s.net.places, s.net.trans.set k ⟨tk.label, tk.pre, joinF tk.post tl.post p⟩⟩, s.i, s.o⟩) := Lib.hid (HB.out.setT k (by have h1 := HB.out.rows k hkl; rw [← HTK.out.1] at h1; simp only [joinF_len]; exact h1))
            have HD := Lib.hid (dropTran_kept w0 w10 sb l _ S10.out (by simp only [List.length_set]; exact hll) HSB.out.tl)
            have hneq : wr.heap.size ≠ sb := HNE.out.2.2.1
            go_wp2_with fail
            refine HD.out.mono ?_
            rintro _ w11 ⟨rfl, s11, k11⟩
            have p11 := cell_kp k11 HP10.out hneq
            have HD2 := Lib.hid (dropPlace_calls w0 w11 sb p _ s11 (fun k' hk' => by
              obtain ⟨h1, h2⟩ := (HSB.out.drT l).rows k' hk'
              have h3 := HPP.out
              have h4 := HB.out.rows k hkl
              rw [← HTK.out.1] at h4
              simp only [dropT] at h1 h2 ⊢
              omega) (HSB.out.drT l).tl (by omega) (HSB.out.drT l).pl (HSB.out.drT l).io)
            clear s11 k11 HD
            go_wp2_with fail
            refine HD2.out.mono ?_
            rintro _ w12 ⟨rfl, s12⟩
            have HSF := Lib.hid s12
            clear s12 HD2
            go_wp2_with fail
            go_ret
            unfold RetSt
            rw [HRS.out]
            exact ⟨rfl, HSF.out⟩
    · obtain rfl : p = P := by omega
      have hrn : r = none := by
        rw [HR.out, List.findSome?_eq_none_iff]
        intro q hq
        exact HNO.out q (List.mem_range.1 hq)
      have HRS := Lib.hid hrn
      clear hrn
      go_wp2_with fail
      go_ret
      unfold RetSt
      rw [HRS.out]
      exact ⟨rfl, HH.out.mv hgr⟩
end Go.Proofs.Ytjpapgbdhflgnaa
