/- Contract of the library's slices.Compact at a row of pairs of the call's own. -/
import Derived.Test.YtkanaoebpajbfaaTrk6
import Derived.Lib.SlicesCompact
import Derived.Lib.SlBuf
import Derived.Deep.LoopGhost
namespace Go.Proofs.Ytkanaoebpajbfaa
open Go.RowKit Go.Tok Go.Lib
set_option linter.unusedVariables false
/-- the row's cells, where dk stands in it -/
structure PW (w0 w : World) (g : Nat) (dk : Array (Int × Int)) : Prop where
  ex : ∃ cs, Blk w g 71 cs ∧ ∀ i, i < dk.size → cs[i * 2]? = some (.int .i64 dk[i]!.1) ∧ cs[i * 2 + 1]? = some (.int .i64 dk[i]!.2)
  gr : Gr w0 w
theorem PW.at_ {w0 w : World} {g : Nat} {dk : Array (Int × Int)} (h : PW w0 w g dk) {i : Nat} (hi : i < dk.size) :
    (w.cell? ⟨g, i * 2, none⟩ = some (.int .i64 dk[i]!.1) ∧ w.cell? ⟨g, i * 2 + 1, none⟩ = some (.int .i64 dk[i]!.2)) ∧ w.frozen? ⟨g, i * 2, none⟩ = false ∧ w.frozen? ⟨g, i * 2 + 1, none⟩ = false := by
  obtain ⟨cs, hb, hc⟩ := h.ex
  exact ⟨⟨hb.cell (hc i hi).1, hb.cell (hc i hi).2⟩, hb.frozen _, hb.frozen _⟩
theorem PW.mv {w0 w w' : World} {g : Nat} {dk : Array (Int × Int)} (h : PW w0 w g dk) (k : Gr w w') : PW w0 w' g dk := by
  obtain ⟨cs, hb, hc⟩ := h.ex
  exact ⟨⟨cs, hb.gr k, hc⟩, h.gr.trans k⟩
theorem PW.put {w0 w : World} {g k : Nat} {dk : Array (Int × Int)} (h : PW w0 w g dk) (hg : w0.heap.size ≤ g) (hk : k < dk.size) (p : Int × Int) :
    PW w0 ((w.setCell ⟨g, k * 2, none⟩ (.int .i64 p.1)).setCell ⟨g, k * 2 + 1, none⟩ (.int .i64 p.2)) g (dk.setIfInBounds k p) := by
  obtain ⟨cs, hb, hc⟩ := h.ex
  have hsz : k * 2 + 1 < cs.size := (Array.getElem?_eq_some_iff.1 (hc k hk).2).1
  refine ⟨⟨_, (hb.set _ _).set _ _, fun i hi => ?_⟩, (h.gr.setCell hg _).setCell hg _⟩
  have hi' : i < dk.size := by simpa using hi
  by_cases e : i = k
  · subst e
    have e1 : (dk.setIfInBounds i p)[i]! = p := by simp [hi']
    rw [e1]
    constructor
    · rw [Array.getElem?_setIfInBounds_ne (by omega), Array.getElem?_setIfInBounds_self_of_lt (by omega)]
    · rw [Array.getElem?_setIfInBounds_self_of_lt (by simp; omega)]
  · have e1 : (dk.setIfInBounds k p)[i]! = dk[i]! := by
      rw [getElem!_pos _ i (by simpa using hi'), getElem!_pos dk i hi', Array.getElem_setIfInBounds_ne hi' (fun h => e h.symm)]
    rw [e1]
    constructor
    · rw [Array.getElem?_setIfInBounds_ne (by omega), Array.getElem?_setIfInBounds_ne (by omega)]; exact (hc i hi').1
    · rw [Array.getElem?_setIfInBounds_ne (by omega), Array.getElem?_setIfInBounds_ne (by omega)]; exact (hc i hi').2
theorem blk_cells {g : Nat} {t : TypeId} : ∀ (vs : List Value) (o : Nat) (w : World) (cs : Array Value), Blk w g t cs → ∃ cs', Blk (w.setCells g o vs) g t cs' ∧ ∀ j, j < o → cs'[j]? = cs[j]?
  | [], o, w, cs, h => ⟨cs, h, fun _ _ => rfl⟩
  | v :: r, o, w, cs, h => by
    obtain ⟨cs', h1, h2⟩ := blk_cells r (o + 1) _ _ (h.set o v)
    exact ⟨cs', h1, fun j hj => by rw [h2 j (by omega), Array.getElem?_setIfInBounds_ne (by omega)]⟩
theorem PW.clr {w0 w : World} {g k c : Nat} {dk : Array (Int × Int)} (h : PW w0 w g dk) (hg : w0.heap.size ≤ g) (hk : k < dk.size) :
    (∀ ty, (Builtin.clear_ #[64] ty #[.slice (some ⟨g, k * 2, none⟩) (dk.size - k) c]).run Try.prog w = .ok (.tuple #[]) (w.setCells g (k * 2) (List.replicate ((dk.size - k) * 2) (.int .i64 0)))) ∧
    Gr w0 (w.setCells g (k * 2) (List.replicate ((dk.size - k) * 2) (.int .i64 0))) ∧ ∀ i, i < k → ((w.setCells g (k * 2) (List.replicate ((dk.size - k) * 2) (.int .i64 0))).cell? ⟨g, i * 2, none⟩ = some (.int .i64 dk[i]!.1) ∧ (w.setCells g (k * 2) (List.replicate ((dk.size - k) * 2) (.int .i64 0))).cell? ⟨g, i * 2 + 1, none⟩ = some (.int .i64 dk[i]!.2)) := by
  obtain ⟨cs, hb, hc⟩ := h.ex
  have hsz : (dk.size - 1) * 2 + 1 < cs.size := (Array.getElem?_eq_some_iff.1 (hc (dk.size - 1) (by omega)).2).1
  obtain ⟨n, hn⟩ : ∃ n, dk.size - k = n + 1 := ⟨dk.size - k - 1, by omega⟩
  refine ⟨fun ty => ?_, ?_, fun i hi => ?_⟩
  · have hv : ∀ w, (zeroValue 71).run Try.prog w = .ok (.agg #[.int .i64 0, .int .i64 0]) w := fun w => by kernel_rfl
    have hzc : (Builtin.zeroCells (Value.agg #[.int .i64 0, .int .i64 0]).cells (dk.size - k)).toList = List.replicate ((dk.size - k) * 2) (.int .i64 0) := by
      have hz2 : (Value.agg #[.int .i64 0, .int .i64 0]).cells = #[.int .i64 0, .int .i64 0] := by rfl
      rw [hz2]
      simp [Builtin.zeroCells]
      apply List.ext_getElem
      · simp
      · intro i h1 h2
        have : i % 2 = 0 ∨ i % 2 = 1 := by omega
        rcases this with h | h <;> simp [h]
    have hst := run_storeCells_cells (P := Try.prog) g (k * 2) (List.replicate ((dk.size - k) * 2) (.int .i64 0)) 0 w (fun j hj => by
        rw [List.length_replicate] at hj
        rw [Nat.add_zero]
        have : k * 2 + j < cs.size := by omega
        rw [hb.cell (Array.getElem?_eq_getElem this)]; rfl) (fun j hj => hb.frozen _) (by intro v hv'; rw [List.eq_of_mem_replicate hv']; rfl)
    simp only [Nat.add_zero] at hst
    rw [hn] at hzc hst ⊢
    simp [Builtin.clear_, run_underlying Try.underlying64, hv, hzc, hst]
  · unfold Gr; exact below_setCells g hg _ _ h.gr.below
  · obtain ⟨cs', h1, h2⟩ := blk_cells (List.replicate ((dk.size - k) * 2) (.int .i64 0)) (k * 2) w cs hb
    exact ⟨h1.cell (by rw [h2 _ (by omega)]; exact (hc i (by omega)).1), h1.cell (by rw [h2 _ (by omega)]; exact (hc i (by omega)).2)⟩
theorem compact_memA {d : Array (Int × Int)} {m : Nat} (hm : m ≤ d.size) {x : Int × Int} (h : x ∈ compactUpTo d m) : ∃ i, i < d.size ∧ x = d[i]! := by
  unfold compactUpTo at h
  obtain ⟨i, hi, rfl⟩ := List.mem_map.1 h
  have := List.mem_range.1 (List.mem_filter.1 hi).1
  exact ⟨i, by omega, rfl⟩
theorem rd_of_cells {w : World} {g k cap : Nat} {ys : List (Int × Int)} {f : Nat → Int × Int} (hl : ys.length = k) (hkc : k ≤ cap) (hcap : cap ≤ 9223372036854775807) (hy : ∀ i, i < k → ys[i]? = some (f i)) (hI : ∀ i, i < k → pairI (f i))
    (hc : ∀ i, i < k → w.cell? ⟨g, i * 2, none⟩ = some (.int .i64 (f i).1) ∧ w.cell? ⟨g, i * 2 + 1, none⟩ = some (.int .i64 (f i).2)) : Rd pairK w (.slice (some ⟨g, 0, none⟩) k cap) ys := by
  subst hl
  unfold Rd
  refine ⟨some ⟨g, 0, none⟩, cap, rfl, hkc, by unfold maxLen; omega, (fun h => by cases h), fun i hi => ?_⟩
  have e : ix ys i = f i := by
    rw [ix_lt hi]
    have := hy i hi
    rw [List.getElem?_eq_getElem hi] at this
    exact Option.some.inj this
  refine ⟨g, 0, pairCells (f i), rfl, by rw [e]; exact ⟨rfl, hI i hi⟩, fun j u hj => ?_⟩
  have hs : pairK.size = 2 := rfl
  rw [hs, Nat.zero_add]
  match j, hj with
  | 0, hj => cases hj; exact (hc i hi).1
  | 1, hj => cases hj; exact (hc i hi).2
  | j + 2, hj => simp [pairCells] at hj
set_option maxHeartbeats 4000000 in
set_option maxRecDepth 100000 in
theorem CompactP_calls (base : Nat) (S : Nat → Prop) (g cap : Nat) (xs : List (Int × Int)) (w0 w : World) (h : OwnR pairK 71 base S w (.slice (some ⟨g, 0, none⟩) xs.length cap) xs) (h0 : Gr w0 w) (hb : w0.heap.size ≤ base) :
    Calls Try.prog 37 #[.slice (some ⟨g, 0, none⟩) xs.length cap] w fun e w' => ∃ v', e = .returned v' ∧ Rd pairK w' v' (compactUpTo xs.toArray xs.length) ∧ Gr w0 w' := by
  obtain ⟨ho, hI⟩ := own_pairs.1 h
  have hrd := h.rd
  have hgb : w0.heap.size ≤ g := Nat.le_trans hb (h.lt (show (Value.slice (some ⟨g, 0, none⟩) xs.length cap).ownBlock = some g from rfl)).1
  obtain ⟨_, _, e, hc1, hc2⟩ := hrd.len
  cases e
  have hcell := fun i (hi : i < xs.length) => hrd.pair hi
  obtain ⟨d, hd⟩ : ∃ d, d = xs.toArray := ⟨_, rfl⟩
  have hds : d.size = xs.length := by rw [hd]; simp
  have hix : ∀ i, i < d.size → d[i]! = ix xs i := fun i hi => by rw [getElem!_pos d i hi, ix_lt (by omega)]; subst hd; simp
  have hP : PW w0 w g d := by
    rcases ho.2 with ⟨h1, _⟩ | ⟨g', c', cur, h1, h2, h3, _⟩
    · cases h1
    · cases h1
      have hb' : Blk w g 71 cur := by unfold Blk; exact h3
      refine ⟨⟨cur, hb', fun i hi => ?_⟩, h0⟩
      obtain ⟨b, o, e, q1, q2, _⟩ := hcell i (by omega)
      cases e
      rw [Nat.zero_add] at q1 q2
      rw [hix i hi]
      have hcs : ∀ j v, w.cell? ⟨g, j, none⟩ = some v → cur[j]? = some v := fun j v hv => by
        rw [cell_of_row _ g j cur 71 (0, 0) h3] at hv
        exact hv
      exact ⟨hcs _ _ q1, hcs _ _ q2⟩
  have hIx : ∀ i, i < d.size → pairI d[i]! := fun i hi => by rw [hix i hi]; exact hI _ (ix_mem (by omega))
  rw [← hd]
  rw [← hds] at hc1 ⊢
  have HI := Lib.hid hIx
  have HRD : Hid ((∀ j, j < d.size → keeps d j = true) → ∀ w', Gr w w' → Rd pairK w' (.slice (some ⟨g, 0, none⟩) d.size cap) (compactUpTo d d.size)) := Lib.hid fun hall w' hg => by
    have e : compactUpTo d d.size = xs := by rw [compactUpTo_all d _ hall, range_map_get, hd]
    rw [e, hds]
    exact hrd.gr hg
  have HP := Lib.hid hP
  have H0 := Lib.hid h0
  clear h ho hI hrd hcell hd hds hix hP hIx h0 hb
  by_cases h2 : d.size < 2
  · have h2' : (d.size : Int) < 2 := by omega
    go_enter Try.func37, Try.ntmps37
    go_wp2_with fail
    go_ret
    exact ⟨_, rfl, HRD.out (fun j hj => keeps_lt_one d j (by omega)) _ (by (repeat (first | exact Gr.refl _ | assumption | apply Gr.alloc | apply Gr.drew | apply Gr.drewN | refine Gr.trans ?_ (by assumption)))), H0.out.trans (by (repeat (first | exact Gr.refl _ | assumption | apply Gr.alloc | apply Gr.drew | apply Gr.drewN | refine Gr.trans ?_ (by assumption))))⟩
  have h2' : ¬ ((d.size : Int) < 2) := by omega
  go_enter Try.func37, Try.ntmps37
  go_wp2_with fail
  go_loopg [3] d.size (fun gh s3 wr => ∃ k : Nat, 1 ≤ k ∧ k ≤ d.size ∧ d.size - k ≤ gh ∧ s3 = .int .i64 k ∧ Gr w wr ∧ ∀ j, j < k → keeps d j = true)
  case atStart => exact ⟨1, Nat.le_refl _, by omega, by omega, rfl, Gr.refl _, keeps_lt_one d⟩
  case round =>
    rename World => wr
    obtain ⟨k, hk1, hk, hg, rfl, hgr, hall⟩ := hrel
    by_cases hlt : k < d.size
    · obtain ⟨⟨c0, c1⟩, _⟩ := (HP.out.mv hgr).at_ hlt
      obtain ⟨⟨d0, d1⟩, _⟩ := (HP.out.mv hgr).at_ (show k - 1 < d.size by omega)
      have A := Lib.hid hall
      clear hall
      generalize hx : d[k]! = x at c0 c1
      generalize hy : d[k - 1]! = y at d0 d1
      have B : Hid (d[k]! = x ∧ d[k - 1]! = y) := Lib.hid ⟨hx, hy⟩
      clear hx hy
      by_cases hdup : x = y
      · subst hdup
        have heq : ∀ w, (Op.equalIn 10000 71 (.agg #[.int .i64 x.1, .int .i64 x.2]) (.agg #[.int .i64 x.1, .int .i64 x.2])).run Try.prog w = .ok true w := fun w => by rw [run_eq_pair]; simp
        go_wp2_with fail
        go_quiet (fail)
        go_wp2_with fail
        clear c0 c1 d0 d1 heq
        go_loopg [3, 5] d.size (fun gh s3 s5 wr => ∃ (kk k2 : Nat) (dk : Array (Int × Int)), s3 = .int .i64 kk ∧ s5 = .int .i64 k2 ∧ 1 ≤ k2 ∧ k + k2 ≤ d.size ∧ d.size - (k + k2) ≤ gh ∧ PW w0 wr g dk ∧ CompInv d (k + k2) kk dk)
        case atStart => exact ⟨k, 1, d, rfl, rfl, Nat.le_refl _, by omega, by omega, (HP.out.mv hgr).mv (by (repeat (first | exact Gr.refl _ | assumption | apply Gr.alloc | apply Gr.drew | apply Gr.drewN | refine Gr.trans ?_ (by assumption)))), CompInv.start A.out (keeps_neg (by omega) (by rw [B.out.1, B.out.2]))⟩
        case round =>
          rename World => wq
          obtain ⟨kk, k2, dk, rfl, rfl, h1, hle, hg2, hPk, hCI⟩ := hrel
          have hkk := hCI.lt
          have hdk := hCI.size
          by_cases hlt2 : k + k2 < d.size
          · obtain ⟨⟨e0, e1⟩, _⟩ := hPk.at_ (show k + k2 < dk.size by omega)
            obtain ⟨⟨f0, f1⟩, _⟩ := hPk.at_ (show k + k2 - 1 < dk.size by omega)
            obtain ⟨⟨l0, l1⟩, m0, m1⟩ := hPk.at_ (show kk < dk.size by omega)
            rw [hCI.high (k + k2) (by omega), Nat.add_mul] at e0 e1
            rw [hCI.high (k + k2 - 1) (by omega), show k + k2 - 1 = k + (k2 - 1) by omega, Nat.add_mul] at f0 f1
            have HPK := Lib.hid hPk
            have HCI := Lib.hid hCI
            clear hPk hCI
            generalize hu : d[k + k2]! = u at e0 e1
            generalize hv : d[k + (k2 - 1)]! = v at f0 f1
            generalize dk[kk]! = old at l0 l1
            have C : Hid (d[k + k2]! = u ∧ d[k + k2 - 1]! = v) := Lib.hid ⟨hu, by rw [← hv, show k + k2 - 1 = k + (k2 - 1) by omega]⟩
            clear hu hv
            by_cases huv : u = v
            · subst huv
              have heq : ∀ w, (Op.equalIn 10000 71 (.agg #[.int .i64 u.1, .int .i64 u.2]) (.agg #[.int .i64 u.1, .int .i64 u.2])).run Try.prog w = .ok true w := fun w => by rw [run_eq_pair]; simp
              go_wp2_with fail
              go_quiet (fail)
              go_wp2_with fail
              go_roundg (d.size - (k + (k2 + 1)))
              case measure => omega
              case rel => exact ⟨kk, k2 + 1, dk, rfl, by go_num, by omega, by omega, Nat.le_refl _, HPK.out.mv (by (repeat (first | exact Gr.refl _ | assumption | apply Gr.alloc | apply Gr.drew | apply Gr.drewN | refine Gr.trans ?_ (by assumption)))), HCI.out.skip (keeps_neg (by omega) (by rw [C.out.1, C.out.2]))⟩
            · have heq : ∀ w, (Op.equalIn 10000 71 (.agg #[.int .i64 u.1, .int .i64 u.2]) (.agg #[.int .i64 v.1, .int .i64 v.2])).run Try.prog w = .ok false w := fun w => by
                rw [run_eq_pair]
                have : ((u.1 == v.1) && (u.2 == v.2)) = false := by
                  rw [Bool.eq_false_iff]; intro h; exact huv (samePB_iff.1 h)
                rw [this]
              go_wp2_with fail
              go_quiet (fail)
              go_wp2_with fail
              go_roundg (d.size - (k + (k2 + 1)))
              case measure => omega
              case rel => exact ⟨kk + 1, k2 + 1, dk.setIfInBounds kk u, by go_num, by go_num, by omega, by omega, Nat.le_refl _, (HPK.out.mv (by (repeat (first | exact Gr.refl _ | assumption | apply Gr.alloc | apply Gr.drew | apply Gr.drewN | refine Gr.trans ?_ (by assumption))))).put hgb (by omega) u, by have := HCI.out.keep hlt2 (keeps_pos (by rw [C.out.1, C.out.2]; exact huv)); rwa [C.out.1] at this⟩
          · have hend : k + k2 = d.size := by omega
            have hcl := (hPk.clr (c := cap - kk) hgb (show kk < dk.size by omega))
            rw [hdk] at hcl
            obtain ⟨r1, r2, r3⟩ := hcl
            have HCI := Lib.hid hCI
            have R2 := Lib.hid r2
            have R3 := Lib.hid r3
            clear hPk hCI r2 r3
            go_wp2_with fail
            go_ret
            have hCI := HCI.out
            rw [hend] at hCI
            refine ⟨_, rfl, rd_of_cells (f := fun i => dk[i]!) hCI.len (by omega) hc2 (fun i hi => hCI.low i hi) (fun i hi => ?_) (fun i hi => R3.out i hi), R2.out⟩
            have hmem : dk[i]! ∈ compactUpTo d d.size := List.mem_of_getElem? (hCI.low i hi)
            obtain ⟨j, hj, e⟩ := compact_memA (Nat.le_refl _) hmem
            rw [e]
            exact HI.out j hj
      · have heq : ∀ w, (Op.equalIn 10000 71 (.agg #[.int .i64 x.1, .int .i64 x.2]) (.agg #[.int .i64 y.1, .int .i64 y.2])).run Try.prog w = .ok false w := fun w => by
          rw [run_eq_pair]
          have : ((x.1 == y.1) && (x.2 == y.2)) = false := by
            rw [Bool.eq_false_iff]; intro h; exact hdup (samePB_iff.1 h)
          rw [this]
        go_wp2_with fail
        go_quiet (fail)
        go_wp2_with fail
        go_roundg (d.size - (k + 1))
        case measure => omega
        case rel =>
          refine ⟨k + 1, by omega, by omega, Nat.le_refl _, by go_num, hgr.trans (by (repeat (first | exact Gr.refl _ | assumption | apply Gr.alloc | apply Gr.drew | apply Gr.drewN | refine Gr.trans ?_ (by assumption)))), fun j hj => ?_⟩
          by_cases e : j = k
          · subst e
            exact keeps_pos (by rw [B.out.1, B.out.2]; exact hdup)
          · exact A.out j (by omega)
    · have : k = d.size := by omega
      subst this
      have A := Lib.hid hall
      clear hall
      go_wp2_with fail
      go_ret
      exact ⟨_, rfl, HRD.out A.out _ hgr, H0.out.trans hgr⟩
end Go.Proofs.Ytkanaoebpajbfaa
