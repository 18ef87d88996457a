/- Contracts of cover.below and cover.fire. -/
import Derived.Test.YtkanaoebpajbfaaCoverLaw
import Derived.Test.YtkanaoebpajbfaaGM
import Derived.Test.YtkanaoebpajbfaaPA
import Derived.Test.YtkanaoebpajbfaaPC
namespace Go.Tok
open Go.RowKit
set_option linter.unusedVariables false
/-- what has been fired at the first k places -/
def mixK (t : TranD) (m : List Int) (k : Nat) : List Int := (List.range m.length).map fun p => if p < k then nth (fireK t m) p else nth m p
theorem mixK_len (t : TranD) (m : List Int) (k : Nat) : (mixK t m k).length = m.length := by simp [mixK]
theorem mixK_nth (t : TranD) {m : List Int} (k : Nat) {p : Nat} (hp : p < m.length) : nth (mixK t m k) p = if p < k then nth (fireK t m) p else nth m p := by
  unfold mixK; rw [nth_mapr hp]
theorem mixK_zero (t : TranD) (m : List Int) : mixK t m 0 = m := ext_nth (mixK_len t m 0) fun p hp => by
  rw [mixK_len] at hp; rw [mixK_nth t 0 hp, if_neg (by omega)]
theorem mixK_all (t : TranD) (m : List Int) : mixK t m m.length = fireK t m := ext_nth (by rw [mixK_len, fireK_len]) fun p hp => by
  rw [mixK_len] at hp; rw [mixK_nth t _ hp, if_pos hp]
theorem mixK_set (t : TranD) {m : List Int} {k : Nat} (hk : k < m.length) (hne : nth m k ≠ -1) : (mixK t m k).set k (nth m k + (nth t.post k - nth t.pre k)) = mixK t m (k + 1) := by
  refine ext_nth (by rw [List.length_set, mixK_len, mixK_len]) fun p hp => ?_
  rw [List.length_set, mixK_len] at hp
  have hl := mixK_len t m k
  rw [mixK_nth t _ hp]
  by_cases e : p = k
  · subst e
    rw [nth_lt (by rw [List.length_set, hl]; exact hp), if_pos (by omega), fireK_nth t hp, if_neg hne]; simp
  · rw [nth_lt (by rw [List.length_set, hl]; exact hp), List.getElem_set_ne (by omega), ← nth_lt, mixK_nth t _ hp]
    by_cases h : p < k
    · rw [if_pos h, if_pos (by omega)]
    · rw [if_neg h, if_neg (by omega)]
theorem mixK_skip (t : TranD) {m : List Int} {k : Nat} (hk : k < m.length) (he : nth m k = -1) : mixK t m (k + 1) = mixK t m k := by
  refine ext_nth (by rw [mixK_len, mixK_len]) fun p hp => ?_
  rw [mixK_len] at hp
  rw [mixK_nth t _ hp, mixK_nth t _ hp]
  by_cases h : p < k
  · rw [if_pos h, if_pos (by omega)]
  · by_cases e : p = k
    · subst e; rw [if_pos (by omega), if_neg h, fireK_nth t hp, if_pos he, he]
    · rw [if_neg h, if_neg (by omega)]
end Go.Tok
namespace Go.Proofs.Ytkanaoebpajbfaa
open Go.RowKit Go.Tok
set_option linter.unusedVariables false
set_option maxHeartbeats 1000000 in
theorem below_calls (v u : Value) (xs ys : List Int) (w : World) (hv : Ints w v xs) (hu : Ints w u ys) (hl : xs.length ≤ ys.length) :
    Calls Try.prog 46 #[v, u] w fun e w' => e = .returned (.bool (belowB xs ys)) ∧ w = w' := by
  obtain ⟨a, cap, rfl, hlc, hcap⟩ := hv.len
  obtain ⟨a', cap', rfl, hlc', hcap'⟩ := hu.len
  go_enter Try.func46, Try.ntmps46
  go_wp2_with fail
  go_loopw [9] (fun i wr => ∃ k : Nat, k ≤ xs.length ∧ i = .int .i64 k ∧ BelowTo xs ys k ∧ w = wr) (fun i _ => xs.length - (intOf i).toNat)
  case atStart => exact ⟨0, Nat.zero_le _, rfl, BelowTo.zero _ _, rfl⟩
  case round =>
    rename World => wr
    obtain ⟨k, hk, rfl, hall, rfl⟩ := hrel
    by_cases hlt : k < xs.length
    · obtain ⟨b, o, rfl, c0⟩ := hv.cell hlt
      obtain ⟨b', o', rfl, c1⟩ := hu.cell (show k < ys.length by omega)
      have hkI : (k : Int) < (xs.length : Int) := by omega
      have hkY : (k : Int) < (ys.length : Int) := by omega
      have hk0 : (0 : Int) ≤ (k : Int) := by omega
      by_cases h1 : nth ys k = -1
      · have q1 : (nth ys k != -1) = false := by rw [h1]; rfl
        have hs := hall.succ (.inl h1)
        clear h1
        go_wp2_with fail
        go_roundw
        case rel => exact ⟨k + 1, by omega, by go_num, hs, trivial⟩
        case measure => simp [intOf]; omega
      · have q1 : (nth ys k != -1) = true := by simpa using h1
        by_cases h2 : nth xs k = -1
        · have q2 : (nth xs k == -1) = true := by rw [h2]; rfl
          have hn := Lib.hid (below_no hlt h1 (.inl h2))
          clear h1 h2
          go_wp2_with fail
          go_ret
          exact ⟨ret_bool hn.out.symm, rfl⟩
        · have q2 : (nth xs k == -1) = false := by simpa using h2
          by_cases h3 : nth ys k < nth xs k
          · have hn := Lib.hid (below_no hlt h1 (.inr h3))
            clear h1 h2
            go_wp2_with fail
            go_ret
            exact ⟨ret_bool hn.out.symm, rfl⟩
          · have hs := hall.succ (.inr ⟨h2, by omega⟩)
            clear h1 h2
            go_wp2_with fail
            go_roundw
            case rel => exact ⟨k + 1, by omega, by go_num, hs, trivial⟩
            case measure => simp [intOf]; omega
    · obtain rfl : k = xs.length := by omega
      have hn := Lib.hid (hall.all (Nat.le_refl _))
      go_wp2_with fail
      go_ret
      exact ⟨ret_bool hn.out.symm, rfl⟩
set_option maxHeartbeats 4000000 in
set_option maxRecDepth 100000 in
theorem Kfire_calls (p q u : Value) (t : TranD) (m : List Int) (w : World) (hp : Ints w p t.pre) (hq : Ints w q t.post) (hu : Ints w u m) (l1 : t.pre.length = m.length) (l2 : t.post.length = m.length) (hl : m.length ≤ 16)
    (hm : ∀ k, -1 ≤ nth m k ∧ nth m k ≤ 4611686018427387904) (h1 : ∀ k, 0 ≤ nth t.pre k ∧ nth t.pre k ≤ 9) (h2 : ∀ k, 0 ≤ nth t.post k ∧ nth t.post k ≤ 9) :
    Calls Try.prog 48 #[.agg #[.int .i64 t.label, p, q], u] w fun e w' => ∃ v', e = .returned v' ∧ OwnI 3 w.heap.size w' v' (fireK t m) ∧ Gr w w' := by
  obtain ⟨pa, pc, rfl, _, _⟩ := hp.len
  obtain ⟨qa, qc, rfl, _, _⟩ := hq.len
  have HL1 := Lib.hid l1
  have HL2 := Lib.hid l2
  clear l1 l2
  have GA : Gr w (w.alloc (.cells #[.int .i64 t.label, .slice pa t.pre.length pc, .slice qa t.post.length qc] 86)) := (Gr.refl _).alloc _
  have b0 : Blk (w.alloc (.cells #[.int .i64 t.label, .slice pa t.pre.length pc, .slice qa t.post.length qc] 86)) w.heap.size 86 #[.int .i64 t.label, .slice pa t.pre.length pc, .slice qa t.post.length qc] := Blk.new rfl
  go_enter Try.func48, Try.ntmps48
  go_wp2_with fail
  refine (Clone_calls _ m _ (hu.gr GA) (by omega)).mono ?_
  rintro _ w1 ⟨v1, rfl, o1, g1⟩
  have T1' := (b0.gr g1).cell (i := 1) rfl
  have T2' := (b0.gr g1).cell (i := 2) rfl
  have hb0 := b0.lt
  have GW := GA.trans g1
  replace o1 := o1.lower (show w.heap.size + 1 ≤ _ from by simp)
  rcases o1.form with ⟨rfl, rfl⟩ | ⟨g, cap, rfl, hg1, hg2, hcl, hcap⟩
  · have HC := Lib.hid (show fireK t [] = [] from rfl)
    clear T1' T2' b0
    go_wp2_with fail
    go_loopw [11] (fun i wr => i = .int .i64 0 ∧ wr = w1) (fun i _ => 0)
    case atStart => exact ⟨rfl, rfl⟩
    case round =>
      rename World => wr
      obtain ⟨rfl, rfl⟩ := hrel
      go_wp2_with fail
      go_ret
      exact ⟨_, rfl, by rw [HC.out]; exact OwnI.nil _ _ _, GW⟩
  · replace o1 : OwnI 3 (w.heap.size + 1) w1 (.slice (some ⟨g, 0, none⟩) m.length cap) (mixK t m 0) := by rw [mixK_zero]; exact o1
    go_wp2_with fail
    go_loopw [11] (fun i wr => ∃ k : Nat, k ≤ m.length ∧ i = .int .i64 k ∧ OwnI 3 (w.heap.size + 1) wr (.slice (some ⟨g, 0, none⟩) m.length cap) (mixK t m k) ∧ Gr (w.alloc (.cells #[.int .i64 t.label, .slice pa t.pre.length pc, .slice qa t.post.length qc] 86)) wr) (fun i _ => m.length - (intOf i).toNat)
    case atStart => exact ⟨0, Nat.zero_le _, rfl, o1, g1⟩
    case round =>
      rename World => wr
      obtain ⟨k, hk, rfl, ho, hgr⟩ := hrel
      by_cases hlt : k < m.length
      · have C0 := ho.cell (i := k) (by rw [mixK_len]; exact hlt)
        rw [mixK_nth t k hlt, if_neg (Nat.lt_irrefl k)] at C0
        have fz := ho.frozen k
        have hkI : (k : Int) < (m.length : Int) := by omega
        have hk0 : (0 : Int) ≤ (k : Int) := by omega
        have T1 := cell_gr (b0.cell (i := 1) rfl) hgr
        have T2 := cell_gr (b0.cell (i := 2) rfl) hgr
        by_cases he : nth m k = -1
        · have q1 : (nth m k != -1) = false := by rw [he]; rfl
          have HS := Lib.hid (mixK_skip t hlt he)
          clear he
          go_wp2_with fail
          go_roundw
          case rel => exact ⟨k + 1, by omega, by go_num, by rw [HS.out]; exact ho, hgr⟩
          case measure => simp [intOf]; omega
        · have q1 : (nth m k != -1) = true := by simpa using he
          obtain ⟨pb, po, rfl, P0⟩ := ((hp.gr GA).gr hgr).cell (i := k) (by rw [HL1.out]; exact hlt)
          obtain ⟨qb, qo, rfl, Q0⟩ := ((hq.gr GA).gr hgr).cell (i := k) (by rw [HL2.out]; exact hlt)
          have hkP : (k : Int) < (t.pre.length : Int) := by rw [HL1.out]; exact hkI
          have hkQ : (k : Int) < (t.post.length : Int) := by rw [HL2.out]; exact hkI
          have HS := Lib.hid (mixK_set t hlt he)
          have a1 := hm k
          have a2 := h1 k
          have a3 := h2 k
          have a11 := a1.1
          have a12 := a1.2
          have a21 := a2.1
          have a22 := a2.2
          have a31 := a3.1
          have a32 := a3.2
          have hI : I64 (nth m k + (nth t.post k - nth t.pre k)) := by unfold I64; omega
          clear he a1 a2 a3
          go_wp2_with fail
          refine cut17 (S := fun w' => w'.cell? ⟨g, k, none⟩ = some (.int .i64 (nth m k)) ∧ w'.cell? ⟨w.heap.size, 1, none⟩ = some (.slice (some ⟨pb, po, none⟩) t.pre.length pc) ∧ w'.cell? ⟨w.heap.size, 2, none⟩ = some (.slice (some ⟨qb, qo, none⟩) t.post.length qc) ∧ w'.cell? ⟨pb, po + k, none⟩ = some (.int .i64 (nth t.pre k)) ∧ w'.cell? ⟨qb, qo + k, none⟩ = some (.int .i64 (nth t.post k))) (by kernel_rfl) (by kernel_rfl) (by exact ⟨C0, T1, T2, P0, Q0⟩) (fun hHeld => ?_)
          (refine hold0 (v := ?_) (by kernel_rfl) (by kernel_rfl) (by kernel_rfl) (fun _ _ _ h => h) (by rfl) (fun w' hSw => ?_) (by assumption) ?_; rotate_left 1; · ((try dsimp only at hSw); (try go_simp); (try (with_reducible rfl))); (try simp only [Act.put, List.setIfInBounds_toArray, List.set_cons_zero, List.set_cons_succ]))
          (refine hold1 (v := ?_) (by kernel_rfl) (by kernel_rfl) (by kernel_rfl) (fun _ _ _ h => h) (by rfl) (fun w' hSw => ?_) (by assumption) ?_; rotate_left 1; · ((try dsimp only at hSw); (try go_simp); (try (with_reducible rfl))); (try simp only [Act.put, List.setIfInBounds_toArray, List.set_cons_zero, List.set_cons_succ]))
          (refine hold2 (v := ?_) (by kernel_rfl) (by kernel_rfl) (by kernel_rfl) (fun _ _ _ h => h) (by rfl) (fun w' hSw => ?_) (by assumption) ?_; rotate_left 1; · ((try dsimp only at hSw); (try go_simp); (try (with_reducible rfl))); (try simp only [Act.put, List.setIfInBounds_toArray, List.set_cons_zero, List.set_cons_succ]))
          (refine hold3 (v := ?_) (by kernel_rfl) (by kernel_rfl) (by kernel_rfl) (fun _ _ _ h => h) (by rfl) (fun w' hSw => ?_) (by assumption) ?_; rotate_left 1; · ((try dsimp only at hSw); (try go_simp); (try (with_reducible rfl))); (try simp only [Act.put, List.setIfInBounds_toArray, List.set_cons_zero, List.set_cons_succ]))
          (refine hold4 (v := ?_) (by kernel_rfl) (by kernel_rfl) (by kernel_rfl) (fun _ _ _ h => h) (by rfl) (fun w' hSw => ?_) (by assumption) ?_; rotate_left 1; · ((try dsimp only at hSw); (try go_simp); (try (with_reducible rfl))); (try simp only [Act.put, List.setIfInBounds_toArray, List.set_cons_zero, List.set_cons_succ]))
          (refine hold5 (v := ?_) (by kernel_rfl) (by kernel_rfl) (by kernel_rfl) (fun _ _ _ h => h) (by rfl) (fun w' hSw => ?_) (by assumption) ?_; rotate_left 1; · ((try dsimp only at hSw); (try go_simp); (try (with_reducible rfl))); (try simp only [Act.put, List.setIfInBounds_toArray, List.set_cons_zero, List.set_cons_succ]))
          (refine hold6 (v := ?_) (by kernel_rfl) (by kernel_rfl) (by kernel_rfl) (fun _ _ _ h => h) (by rfl) (fun w' hSw => ?_) (by assumption) ?_; rotate_left 1; · ((try dsimp only at hSw); (try go_simp); (try (with_reducible rfl))); (try simp only [Act.put, List.setIfInBounds_toArray, List.set_cons_zero, List.set_cons_succ]))
          (refine hold7 (v := ?_) (by kernel_rfl) (by kernel_rfl) (by kernel_rfl) (fun _ _ _ h => h) (by rfl) (fun w' hSw => ?_) (by assumption) ?_; rotate_left 1; · ((try dsimp only at hSw); (try go_simp); (try (with_reducible rfl))); (try simp only [Act.put, List.setIfInBounds_toArray, List.set_cons_zero, List.set_cons_succ]))
          (refine hold8 (v := ?_) (by kernel_rfl) (by kernel_rfl) (by kernel_rfl) (fun _ _ _ h => h) (by rfl) (fun w' hSw => ?_) (by assumption) ?_; rotate_left 1; · ((try dsimp only at hSw); (try go_simp); (try (with_reducible rfl))); (try simp only [Act.put, List.setIfInBounds_toArray, List.set_cons_zero, List.set_cons_succ]))
          (refine hold9 (v := ?_) (by kernel_rfl) (by kernel_rfl) (by kernel_rfl) (fun _ _ _ h => h) (by rfl) (fun w' hSw => ?_) (by assumption) ?_; rotate_left 1; · ((try dsimp only at hSw); (try go_simp); (try (with_reducible rfl))); (try simp only [Act.put, List.setIfInBounds_toArray, List.set_cons_zero, List.set_cons_succ]))
          (refine hold10 (v := ?_) (by kernel_rfl) (by kernel_rfl) (by kernel_rfl) (fun _ _ _ h => h) (by rfl) (fun w' hSw => ?_) (by assumption) ?_; rotate_left 1; · ((try dsimp only at hSw); (try go_simp); (try (with_reducible rfl))); (try simp only [Act.put, List.setIfInBounds_toArray, List.set_cons_zero, List.set_cons_succ]))
          (refine hold11 (v := ?_) (by kernel_rfl) (by kernel_rfl) (by kernel_rfl) (fun _ _ _ h => h) (by rfl) (fun w' hSw => ?_) (by assumption) ?_; rotate_left 1; · ((try dsimp only at hSw); (try go_simp); (try (with_reducible rfl))); (try simp only [Act.put, List.setIfInBounds_toArray, List.set_cons_zero, List.set_cons_succ]))
          (refine hold12 (v := ?_) (by kernel_rfl) (by kernel_rfl) (by kernel_rfl) (fun _ _ _ h => h) (by rfl) (fun w' hSw => ?_) (by assumption) ?_; rotate_left 1; · ((try dsimp only at hSw); (try go_simp); (try (with_reducible rfl))); (try simp only [Act.put, List.setIfInBounds_toArray, List.set_cons_zero, List.set_cons_succ]))
          (refine hold13 (v := ?_) (by kernel_rfl) (by kernel_rfl) (by kernel_rfl) (fun _ _ _ h => h) (by rfl) (fun w' hSw => ?_) (by assumption) ?_; rotate_left 1; · ((try dsimp only at hSw); (try go_simp); (try (with_reducible rfl))); (try simp only [Act.put, List.setIfInBounds_toArray, List.set_cons_zero, List.set_cons_succ]))
          (refine hold14 (v := ?_) (by kernel_rfl) (by kernel_rfl) (by kernel_rfl) (fun _ _ _ h => h) (by rfl) (fun w' hSw => ?_) (by assumption) ?_; rotate_left 1; · ((try dsimp only at hSw); (try go_simp); (try (with_reducible rfl))); (try simp only [Act.put, List.setIfInBounds_toArray, List.set_cons_zero, List.set_cons_succ]))
          (refine hold15 (v := ?_) (by kernel_rfl) (by kernel_rfl) (by kernel_rfl) (fun _ _ _ h => h) (by rfl) (fun w' hSw => ?_) (by assumption) ?_; rotate_left 1; · ((try dsimp only at hSw); (try go_simp); (try (with_reducible rfl))); (try simp only [Act.put, List.setIfInBounds_toArray, List.set_cons_zero, List.set_cons_succ]))
          (refine hold16 (v := ?_) (by kernel_rfl) (by kernel_rfl) (by kernel_rfl) (fun _ _ _ h => h) (by rfl) (fun w' hSw => ?_) (by assumption) ?_; rotate_left 1; · ((try dsimp only at hSw); (try go_simp); (try (with_reducible rfl))); (try simp only [Act.put, List.setIfInBounds_toArray, List.set_cons_zero, List.set_cons_succ]))
          refine ends17 (by kernel_rfl) (fun K hK => ?_)
          go_simp
          refine hK.out _ _ ?_
          go_wp2_with fail
          go_roundw
          case rel =>
            have o5 := ho.set k (nth m k + (nth t.post k - nth t.pre k)) hI
            rw [HS.out] at o5
            exact ⟨k + 1, by omega, by go_num, o5.drew, ((hgr.setCell (p := ⟨g, k, none⟩) (by simp; omega) _)).drew⟩
          case measure => simp [intOf]; omega
      · obtain rfl : k = m.length := by omega
        rw [mixK_all] at ho
        go_wp2_with fail
        go_ret
        exact ⟨_, rfl, ho.lower (Nat.le_succ _), GA.trans hgr⟩
end Go.Proofs.Ytkanaoebpajbfaa
