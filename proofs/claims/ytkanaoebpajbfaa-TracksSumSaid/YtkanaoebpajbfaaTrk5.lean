/- Contract of tracks.Onto: each trace without all labels but some. -/
import Derived.Test.YtkanaoebpajbfaaTrk4
import Derived.Test.YtkanaoebpajbfaaGM
import Derived.Test.YtkanaoebpajbfaaGR
namespace Go.Tok
open Go.RowKit
set_option linter.unusedVariables false
abbrev Fresh (n : Nat) : Nat → Prop := fun b => n ≤ b
theorem ontoT_succ {log : List (List Int)} {labels : List Int} {k : Nat} (h : k < log.length) : ontoT (log.take (k + 1)) labels = ontoT (log.take k) labels ++ [(ix log k).filter fun a => hasB labels a] := by
  unfold ontoT
  rw [take_ix h, List.map_append]; rfl
theorem filt_yes {p : Int → Bool} {t : List Int} {j : Nat} (h : j < t.length) (hp : p (nth t j) = true) : (t.take (j + 1)).filter p = (t.take j).filter p ++ [nth t j] := by
  rw [List.take_succ_eq_append_getElem h, List.filter_append, nth_lt h]
  rw [nth_lt h] at hp
  simp [hp]
theorem filt_no {p : Int → Bool} {t : List Int} {j : Nat} (h : j < t.length) (hp : p (nth t j) = false) : (t.take (j + 1)).filter p = (t.take j).filter p := by
  rw [List.take_succ_eq_append_getElem h, List.filter_append]
  rw [nth_lt h] at hp
  simp [hp]
theorem OwnI.len_eq {e base : Nat} {w : World} {v : Value} {xs : List Int} (h : OwnI e base w v xs) : ∃ a cap, v = .slice a xs.length cap := by
  obtain ⟨a, cap, h1, _⟩ := h.ints.len
  exact ⟨a, cap, h1⟩
end Go.Tok
namespace Go.Proofs.Ytkanaoebpajbfaa
open Go.RowKit Go.Tok
set_option linter.unusedVariables false
set_option maxRecDepth 100000 in
set_option maxHeartbeats 4000000 in
theorem Onto_calls (v u : Value) (log : List (List Int)) (labels : List Int) (w : World) (hv : Rd rowK w v log) (hu : Ints w u labels) (hl : log.length ≤ 5864062014805) (hll : ∀ t ∈ log, t.length ≤ 17592186044415) :
    Calls Try.prog 78 #[v, u] w fun e w' => ∃ v', e = .returned v' ∧ OwnR rowK 25 w.heap.size (Fresh w.heap.size) w' v' (ontoT log labels) ∧ Gr w w' := by
  obtain ⟨a, cap, rfl, hlc, hcap⟩ := hv.len
  obtain ⟨la, lc, rfl, hl1, hl2⟩ := hu.len
  have HLL := Lib.hid hll
  clear hll
  go_enter Try.func78, Try.ntmps78
  go_wp2_with fail
  go_loopw [5, 13] (fun out i wr => ∃ k : Nat, k ≤ log.length ∧ i = .int .i64 k ∧ OwnR rowK 25 w.heap.size (Fresh w.heap.size) wr out (ontoT (log.take k) labels) ∧ Gr w wr) (fun _ i _ => log.length - (intOf i).toNat)
  case atStart => exact ⟨0, Nat.zero_le _, rfl, OwnR.nil _ _ _ _, Gr.refl _⟩
  case round =>
    rename World => wo
    obtain ⟨k, hk, rfl, hO, hgr⟩ := hrel
    by_cases hlt : k < log.length
    · have HN := Lib.hid (ontoT_succ (labels := labels) hlt)
      obtain ⟨b, o, q, rfl, c0, hIw⟩ := (hv.gr hgr).row hlt
      obtain ⟨ta, tc, rfl, htl, htc⟩ := hIw.len
      have hkI : (k : Int) < (log.length : Int) := by omega
      have hk0 : (0 : Int) ≤ (k : Int) := by omega
      have htl6 := HLL.out _ (ix_mem hlt)
      obtain ⟨t, htt⟩ : ∃ t, t = ix log k := ⟨_, rfl⟩
      rw [← htt] at c0 hIw htl htl6
      have HTT := Lib.hid htt
      obtain ⟨done, hdone⟩ : ∃ l, l = ontoT (log.take k) labels := ⟨_, rfl⟩
      rw [← hdone] at hO
      have hdl : done.length = k := by rw [hdone]; unfold ontoT; simp; omega
      have HDL := Lib.hid hdl
      have HDN := Lib.hid hdone
      obtain ⟨oa, oc, rfl, ho1, ho2⟩ := hO.len
      have hO0 := hO.sets (S' := fun b => w.heap.size ≤ b ∧ b < wo.heap.size) fun b hb hs => ⟨hs, hb⟩
      clear htt hdone hdl hO
      have hwo := hgr.le
      go_wp2_with fail
      go_loopw [8, 19] (fun x i wr => ∃ j : Nat, j ≤ t.length ∧ i = .int .i64 j ∧ OwnI 3 wo.heap.size wr x ((t.take j).filter fun a => hasB labels a) ∧ OwnR rowK 25 w.heap.size (fun b => w.heap.size ≤ b ∧ b < wo.heap.size) wr (.slice oa done.length oc) done ∧ Gr wo wr) (fun _ i _ => t.length - (intOf i).toNat)
      case atStart => exact ⟨0, Nat.zero_le _, rfl, OwnI.nil _ _ _, hO0, Gr.refl _⟩
      case round =>
        rename World => wq
        obtain ⟨j, hj, rfl, hX, hO1, hgq⟩ := hrel
        have hoB : ∀ {g : Nat}, wo.heap.size ≤ g → (Value.slice oa done.length oc).ownBlock ≠ some g := fun hg e => by
          have := (hO0.lt e).2; omega
        by_cases hjt : j < t.length
        · obtain ⟨b', o', rfl, d0⟩ := (hIw.gr hgq).cell hjt
          have hjI : (j : Int) < (t.length : Int) := by omega
          have hj0 : (0 : Int) ≤ (j : Int) := by omega
          have hxI : I64 (nth t j) := hIw.range j
          have hu2 := hu.gr (hgr.trans hgq)
          cases hb : hasB labels (nth t j)
          · have HF := Lib.hid (filt_no (p := fun a => hasB labels a) hjt hb)
            go_wp2_with fail
            refine (Contains_calls _ labels (nth t j) _ hu2).mono ?_
            rw [hb]; rintro _ _ ⟨rfl, rfl⟩
            go_wp2_with fail
            go_roundw
            case rel => exact ⟨j + 1, by omega, by go_num, by rw [HF.out]; exact hX, hO1, hgq⟩
            case measure => simp [intOf]; omega
          · have HF := Lib.hid (filt_yes (p := fun a => hasB labels a) hjt hb)
            have hfl : ((t.take j).filter fun a => hasB labels a).length ≤ j := Nat.le_trans (List.length_filter_le _ _) (by simp; omega)
            obtain ⟨xs, hxs⟩ : ∃ xs, xs = (t.take j).filter fun a => hasB labels a := ⟨_, rfl⟩
            rw [← hxs] at hX hfl
            have HXS := Lib.hid hxs
            clear hxs
            obtain ⟨xa, xc, rfl⟩ := hX.len_eq
            have hgq' := hgq.le
            go_wp2_with fail
            refine (Contains_calls _ labels (nth t j) _ hu2).mono ?_
            rw [hb]; rintro _ _ ⟨rfl, rfl⟩
            go_wp2_with (at_builtin; go_loud (refine app_int intTy _ _ wo.heap.size _ xs ⟨wq.heap.size, 0, none⟩ (nth t j) (by rfl) (by rfl) (by rfl) (by rfl) (hX.alloc _) (lit_cell rfl) hxI (by omega) (by simp; omega) ?_; intro v' w3 ho3 hgs hgb hat))
            have hO3 := (hO1.alloc (.cells #[.int .i64 (nth t j)] 3)).kept hgb (S' := fun b => w.heap.size ≤ b ∧ b < wo.heap.size) (by
              by_cases hn : (Value.slice xa xs.length xc).ownBlock = none
              · rw [hn]
                by_cases hm : (Value.slice oa done.length oc).ownBlock = none
                · exact .inl hm
                · exact .inr hm
              · obtain ⟨g, hg⟩ := Option.ne_none_iff_exists'.1 hn
                rw [hg]
                exact .inr (hoB (hX.lt hg).1)) (fun b _ hb => ⟨hb, fun e => by have := (hX.lt e.symm).1; omega⟩)
            go_roundw
            case rel => exact ⟨j + 1, by omega, by go_num, by rw [HF.out, ← HXS.out]; exact ho3, hO3, hgs wo (Nat.le_refl _) (hgq.alloc _)⟩
            case measure => simp [intOf]; omega
        · obtain rfl : j = t.length := by omega
          rw [List.take_length] at hX
          obtain ⟨xs, hxs⟩ : ∃ xs, xs = t.filter fun a => hasB labels a := ⟨_, rfl⟩
          rw [← hxs] at hX
          have HXS := Lib.hid (show ontoT (log.take (k + 1)) labels = done ++ [xs] by rw [HN.out, hxs, HTT.out, ← HDN.out])
          clear hxs
          obtain ⟨xa, xc, rfl⟩ := hX.len_eq
          have hdk := HDL.out
          have hO2 := hO1.sets (S' := Fresh w.heap.size) fun b _ hb => hb.1
          have hgq' := hgq.le
          have hon : On (fun b => Fresh w.heap.size b ∧ (Value.slice oa done.length oc).ownBlock ≠ some b) (fun w => rowK.R w [.slice xa xs.length xc] xs) (wq.alloc (.cells #[.slice xa xs.length xc] 25)) := (((Ints.on_own hX).gr ((Gr.refl _).alloc _)).imp fun w h => ⟨_, rfl, h⟩).mono fun b _ hb => ⟨by have := (hX.lt hb).1; show w.heap.size ≤ b; omega, hoB (hX.lt hb).1⟩
          have hn1 : (done.length + 1) * 24 ≤ 140737488355328 := by omega
          have hn2 : done.length + 1 ≤ maxLen := by unfold maxLen; omega
          have hGq := hgr.trans hgq
          have hle : w.heap.size ≤ (wq.alloc (.cells #[.slice xa xs.length xc] 25)).heap.size := by simp; omega
          clear hdk
          go_wp2_with (at_builtin; go_loud (refine app_one rowTy _ _ w.heap.size (Fresh w.heap.size) _ done ⟨wq.heap.size, 0, none⟩ xs [.slice xa xs.length xc] (by rfl) (by rfl) (by rfl) (by rfl) (hO2.alloc _) (one_cell _ _ _) hon hn1 hn2 hle ?_; intro v' w3 ho3 hgs hgb hat))
          go_roundw
          case rel => exact ⟨k + 1, by omega, by go_num, by rw [HXS.out]; exact ho3, hgs w (Nat.le_refl _) (hGq.alloc _)⟩
          case measure => simp [intOf]; omega
    · obtain rfl : k = log.length := by omega
      rw [List.take_length] at hO
      go_wp2_with fail
      go_ret
      exact ⟨_, rfl, hO, hgr⟩
end Go.Proofs.Ytkanaoebpajbfaa
