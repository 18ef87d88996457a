/- Texts of one family, joined; what the claim does not need is left out. -/
import Derived.Test.YtagdccgbcmnehaaGreatQMRa
import Derived.Test.YtagdccgbcmnehaaGreatQMRb
import Derived.Deep.RegionHeld3
import Derived.OwnWalk
import Derived.StringKeys
import Derived.Deep.DeepCutAuto
import Derived.Lib.AppendZeros
import Derived.Lib.SlKept
import Derived.Lib.SlBuf
import Derived.Lib.SliceRun
import Derived.Deep.LoopGhost
import Derived.Shelf.Sort.Plain
import Derived.Ground.Names2Prog
import Derived.Shelf.Slices.CompactI
import Derived.Ground.SlsfProg
import Derived.Shelf.SlSortCmp.Whole1
import Derived.Test.YtagdccgbcmnehaaGreatProg
import Derived.BigQuiet
import Derived.Deep.QuietTactic
import Derived.IntWalk
import Derived.Sort.OwnSortedInts
namespace Go.Proofs.YtagdccgbcmnehaaGreat
open Go.RowKit Go.Tok

set_option linter.unusedVariables false
theorem rowTy : KTy Tryz.prog 28 24 rowK 24 (.slice none 0 0) := ⟨Tryz.underlying28, by kernel_rfl, rfl, by decide⟩
end Go.Proofs.YtagdccgbcmnehaaGreat

namespace Go.Proofs.YtagdccgbcmnehaaGreat
open Go.RowKit Go.Tok
open Go.WideMaps (keyOf_string_mk)
set_option linter.unusedVariables false
section
variable {N : NetD} {na : Option Addr} {ncap : Nat} {most : Int} {fb mb : Nat} {vm va vf : Value} {w0 w : World} {marks : List (List Int)} {arcs : List ArcD} {first : List Int}
theorem one_cell (w : World) (v : Value) (t : TypeId) : ∀ (j : Nat) (u : Value), [v][j]? = some u → (w.alloc (.cells #[v] t)).cell? ((⟨w.heap.size, 0, none⟩ : Addr).add j) = some u := by
  intro j u hj
  cases j with
  | zero => simp at hj; subst hj; rw [add_none]; exact lit_cell rfl
  | succ j => simp at hj
end
end Go.Proofs.YtagdccgbcmnehaaGreat

namespace Go.Tok
open Go.RowKit
section
variable {α : Type} [Inhabited α] {K : Kind α}
/-- v reads as the rows l in w -/
def MatK (K : Kind α) (w : World) (v : Value) (l : List (List α)) : Prop :=
  ∃ a cap, v = .slice a l.length cap ∧ l.length ≤ cap ∧ cap ≤ maxLen ∧ (a = none → cap = 0) ∧
    ∀ i, i < l.length → ∃ b o u, a = some ⟨b, o, none⟩ ∧ w.cell? ⟨b, o + i, none⟩ = some u ∧ Rd K w u (ix l i)
theorem MatK.len {w : World} {v : Value} {l : List (List α)} (h : MatK K w v l) : ∃ a cap, v = .slice a l.length cap ∧ l.length ≤ cap ∧ cap ≤ 9223372036854775807 := by
  obtain ⟨a, cap, h1, h2, h3, _⟩ := h
  exact ⟨a, cap, h1, h2, by unfold maxLen at h3; omega⟩
theorem MatK.at_ {w : World} {a : Option Addr} {n cap : Nat} {l : List (List α)} (h : MatK K w (.slice a n cap) l) {i : Nat} (hi : i < l.length) :
    ∃ b o u, a = some ⟨b, o, none⟩ ∧ w.cell? ⟨b, o + i, none⟩ = some u ∧ Rd K w u (ix l i) := by
  obtain ⟨a', cap', h1, h2, h3, h4, h5⟩ := h
  cases h1
  exact h5 i hi
theorem MatK.gr {w w' : World} {v : Value} {l : List (List α)} (h : MatK K w v l) (g : Gr w w') : MatK K w' v l := by
  obtain ⟨a, cap, h1, h2, h3, h4, h5⟩ := h
  refine ⟨a, cap, h1, h2, h3, h4, fun i hi => ?_⟩
  obtain ⟨b, o, u, ha, hc, hu⟩ := h5 i hi
  exact ⟨b, o, u, ha, cell_gr hc g, hu.gr g⟩
/-- two rows, as a variadic call lays them -/
theorem MatK.lit2 {w : World} {H : Nat} {t : TypeId} {p q : Value} {a b : List α} (hH : w.heap.size = H) (hp : Rd K w p a) (hq : Rd K w q b) : MatK K (w.alloc (.cells #[p, q] t)) (.slice (some ⟨H, 0, none⟩) 2 2) [a, b] := by
  subst hH
  refine ⟨some ⟨w.heap.size, 0, none⟩, 2, rfl, by simp, by unfold maxLen; omega, (fun h => by cases h), fun i hi => ?_⟩
  rcases i with _ | _ | i
  · exact ⟨_, 0, p, rfl, box_cell (Gr.refl _) rfl, by rw [ix_zero]; exact hp.alloc _⟩
  · exact ⟨_, 0, q, rfl, box_cell (Gr.refl _) rfl, by rw [ix_succ, ix_zero]; exact hq.alloc _⟩
  · simp at hi; omega
end
section
variable {α : Type} {K : Kind α}
def sumK (l : List (List α)) (k : Nat) : Nat := ((l.take k).map List.length).sum
def flatW (l : List (List α)) (k : Nat) : List α := (l.take k).flatten
theorem sumK_zero (l : List (List α)) : sumK l 0 = 0 := by simp [sumK]
theorem flatW_zero (l : List (List α)) : flatW l 0 = [] := by simp [flatW]
theorem takeK_row {l : List (List α)} {k : Nat} (h : k < l.length) : l.take (k + 1) = l.take k ++ [ix l k] := by
  rw [List.take_succ_eq_append_getElem h, ix_lt h]
theorem sumK_succ {l : List (List α)} {k : Nat} (h : k < l.length) : sumK l (k + 1) = sumK l k + (ix l k).length := by
  simp [sumK, takeK_row h]
theorem flatW_succ {l : List (List α)} {k : Nat} (h : k < l.length) : flatW l (k + 1) = flatW l k ++ ix l k := by
  simp [flatW, takeK_row h]
theorem flatW_len (l : List (List α)) (k : Nat) : (flatW l k).length = sumK l k := by
  simp [flatW, sumK, List.length_flatten]
theorem flatW_all (l : List (List α)) : flatW l l.length = l.flatten := by simp [flatW]
theorem sumK_all (l : List (List α)) : sumK l l.length = l.flatten.length := by rw [← flatW_len, flatW_all]
theorem sumK_le (l : List (List α)) (k : Nat) : sumK l k ≤ sumK l l.length := by
  have : l.take l.length = l.take k ++ l.drop k := by simp
  unfold sumK
  rw [this, List.map_append, List.sum_append]
  omega
variable {P : Program} {t e tn : TypeId} {bytes : Nat} {z : Value}
/-- 'append(nil, make([]E, n)...)', cut to nothing: room for n -/
theorem own_roomK {w : World} {n : Nat} (T : KTy P t e K bytes z) (htn : P.underlying tn = some (.int .i64)) (h0 : 0 < n) (hn : n * bytes ≤ 281474976710656) (hn' : n ≤ maxLen) :
    ∃ cap w', (∀ ty, (Builtin.append_ #[t, tn] ty #[.slice none 0 0, .int .i64 n]).run P w = .ok (.slice (some ⟨w.heap.size, 0, none⟩) n cap) w') ∧ n ≤ cap ∧ cap ≤ 9223372036854775807 ∧ (∀ S, OwnR K e w.heap.size S w' (.slice (some ⟨w.heap.size, 0, none⟩) 0 cap) []) ∧ Gr w w' := by
  obtain ⟨i, hi, hz, hs, hb⟩ := info_parts T.info
  have h1 := grownCap_ge w n 0 e
  have h2 := grownCap_le_maxLen w n 0 e hn'
  have hc : (Builtin.zeroCells z.cells n ++ Builtin.zeroCells z.cells (grownCap w n 0 e - n)).size = grownCap w n 0 e * K.size := by
    rw [Array.size_append, size_zeroCells, size_zeroCells, T.zs, ← Nat.add_mul]
    congr 1
    omega
  refine ⟨_, _, fun ty => Lib.run_append_nil_zeros w t tn ty e i _ .i64 .i64 T.und htn hi hz n h0 (by rw [hs]; exact T.pos) (by unfold maxLen at hn'; omega) (by rw [hb]; omega), h1, by unfold maxLen at h2; omega, fun S => ?_, ((Gr.refl _).drew).alloc _⟩
  have := World.ownsRow_made (base := w.heap.size) (e := e) (size := K.size) w.drew _ (grownCap w n 0 e) (Nat.le_refl _) h2 hc
  exact OwnR.empty this
end
attribute [irreducible] MatK sumK flatW
end Go.Tok

namespace Go.Tok
open Go.RowKit
set_option linter.unusedVariables false
/-- room for so many, or nothing at all -/
def RoomV (v : Value) (n tot : Nat) : Prop := (v = .slice none 0 0 ∧ tot = 0 ∧ n = 0) ∨ ∃ g cap, v = .slice (some ⟨g, 0, none⟩) n cap ∧ tot ≤ cap
theorem rows_at {w0 : World} {u : Value} {ys : List (List Int)} (h : Rd rowK w0 u ys) : ∃ us : List Value, us.length = ys.length ∧ (∀ ad n c, u = .slice (some ad) n c → ∀ j x, us[j]? = some x → w0.cell? (ad.add j) = some x) ∧ ∀ i, i < ys.length → Ints w0 (us.getD i (.slice none 0 0)) (ix ys i) := by
  obtain ⟨a, cap, rfl, _, _⟩ := h.len
  have hex : ∀ i, i < ys.length → ∃ x, (∀ ad n c, Value.slice a ys.length cap = .slice (some ad) n c → w0.cell? (ad.add i) = some x) ∧ Ints w0 x (ix ys i) := by
    intro i hi
    obtain ⟨b, o, x, rfl, hc, hI⟩ := h.row hi
    refine ⟨x, fun ad n c e => ?_, hI⟩
    cases e
    rw [add_none]
    exact hc
  obtain ⟨f, hf⟩ : ∃ f : Nat → Value, ∀ i, i < ys.length → (∀ ad n c, Value.slice a ys.length cap = .slice (some ad) n c → w0.cell? (ad.add i) = some (f i)) ∧ Ints w0 (f i) (ix ys i) :=
    ⟨fun i => if h : i < ys.length then (hex i h).choose else .slice none 0 0, fun i hi => by show _ ∧ _; dsimp only; rw [dif_pos hi]; exact (hex i hi).choose_spec⟩
  refine ⟨(List.range ys.length).map f, by simp, fun ad n c e j x hj => ?_, fun i hi => ?_⟩
  · rw [List.getElem?_map] at hj
    by_cases hl : j < ys.length
    · rw [List.getElem?_range hl] at hj
      have : f j = x := by simpa using hj
      rw [← this]
      exact (hf j hl).1 ad n c e
    · rw [List.getElem?_eq_none (by simpa using hl)] at hj
      cases hj
  · have : ((List.range ys.length).map f).getD i (.slice none 0 0) = f i := by simp [hi]
    rw [this]
    exact (hf i hi).2
theorem cellsOf_rowz (rows : List (List Int × List Value)) (zs : List (List Int)) (us : List Value) (h : us.length = zs.length) : cellsOf (rows ++ zs.zip (us.map fun u => [u])) = cellsOf rows ++ us := by
  unfold cellsOf
  rw [List.flatMap_append]
  congr 1
  induction zs generalizing us with
  | nil => cases us with
    | nil => rfl
    | cons u us => simp at h
  | cons z zs ih => cases us with
    | nil => simp at h
    | cons u us => simp only [List.map_cons, List.zip_cons_cons, List.flatMap_cons]; rw [ih us (by simpa using h)]; rfl
/-- 'append(out, ys...)' where there is room, of rows that lay there when the call began -/
theorem app_oldRow {P : Program} {t e : TypeId} {bytes : Nat} {z : Value} (T : KTy P t e rowK bytes z) {w0 w : World} {ops : Array Oper} {rest : List Oper} {o : Oper} {a : Act} {Q : Exit → Act → World → Prop} (s x : Operand)
    (v u : Value) (xs ys : List (List Int)) (tot : Nat) (hg : o.guard = none) (hop : o.op = .call { callee := .builtin .append, args := #[s, x], argTypes := #[t, t] }) (hs : a.eval s = v) (hx : a.eval x = u) (hown : OwnR rowK e w0.heap.size (fun b => b < w0.heap.size) w v xs) (hsrc : Rd rowK w0 u ys) (h0 : Gr w0 w)
    (hroom : RoomV v xs.length tot) (hn : xs.length + ys.length ≤ tot)
    (hK : ∀ v' w', OwnR rowK e w0.heap.size (fun b => b < w0.heap.size) w' v' (xs ++ ys) → RoomV v' (xs.length + ys.length) tot → Gr w0 w' → wpList P ops Q rest (a.put o.dst v') w') : wpList P ops Q (o :: rest) a w := by
  obtain ⟨i, hi, hz, hsz, hb⟩ := info_parts T.info
  obtain ⟨us, hul, hcell, hI⟩ := rows_at hsrc
  obtain ⟨ua, uc, rfl, huc, huc2⟩ := hsrc.len
  unfold OwnR at hown
  obtain ⟨rows, rfl, hr, hall⟩ := hown
  have hS : rowK.size = 1 := rfl
  rw [List.length_map] at hroom hn hK
  have hone : ∀ x ∈ us, x.oneCell' = true := by
    intro y hy
    obtain ⟨j, hj, rfl⟩ := List.getElem_of_mem hy
    have := hI j (by omega)
    rw [show us.getD j (.slice none 0 0) = us[j] by simp [hj]] at this
    obtain ⟨_, _, e, _⟩ := this.len
    rw [e]; rfl
  have hone2 : ∀ (w' : World) (v' : Value), w.grownBy w' v.ownBlock → (v'.ownBlock = v.ownBlock ∨ (v.ownBlock = none ∧ v'.ownBlock = none)) → w'.ownsRow w0.heap.size e 1 v' (rows.length + ys.length) (cellsOf rows ++ us) → OwnR rowK e w0.heap.size (fun b => b < w0.heap.size) w' v' (rows.map (·.1) ++ ys) := by
    intro w' v' hgr hat ho'
    have hvo : v'.ownBlock = v.ownBlock := by rcases hat with h | ⟨h1, h2⟩; exact h; rw [h1, h2]
    unfold OwnR
    refine ⟨rows ++ ys.zip (us.map fun u => [u]), ?_, ?_, fun r hr' => ?_⟩
    · rw [List.map_append, List.map_fst_zip (by simp; omega)]
    · rw [List.length_append, List.length_zip, List.length_map, hul, Nat.min_self, cellsOf_rowz rows ys us hul]; exact ho'
    · have key : On (fun b => b < w0.heap.size ∧ v.ownBlock ≠ some b) (fun w => rowK.R w r.2 r.1) w := by
        rcases List.mem_append.1 hr' with h | h
        · exact hall r h
        · obtain ⟨j, hj, rfl⟩ := List.getElem_of_mem h
          rw [List.length_zip, List.length_map] at hj
          have h1 := hI j (by omega)
          rw [ix_lt (by omega), show us.getD j (.slice none 0 0) = us[j]'(by omega) by simp [show j < us.length by omega]] at h1
          rw [List.getElem_zip, List.getElem_map]
          have h2 : On (fun b => b < w0.heap.size) (fun w => Ints w (us[j]'(by omega)) (ys[j]'(by omega))) w := on_old (fun _ _ k h => h.kp k) h1 h0.kp
          refine (h2.imp fun w hw => ?_).mono fun b _ hb => ⟨hb, fun e => ?_⟩
          · exact ⟨_, rfl, hw⟩
          · have := (hr.lt b e).1
            omega
      refine key.moved hgr.size fun b hb hs => ⟨⟨hs.1, by rw [hvo]; exact hs.2⟩, hgr.block b hb (fun e => hs.2 e.symm)⟩
  rcases hroom with ⟨rfl, rfl, hl0⟩ | ⟨g, cap, rfl, hcap⟩
  · have hy0 : ys = [] := List.eq_nil_of_length_eq_zero (by omega)
    have hr0 : rows = [] := List.eq_nil_of_length_eq_zero hl0
    subst hy0 hr0
    obtain rfl : us = [] := List.eq_nil_of_length_eq_zero (by simpa using hul)
    cases ua with
    | none =>
      obtain rfl : uc = 0 := by
        unfold Rd at hsrc
        obtain ⟨a', c', e1, _, _, e2, _⟩ := hsrc
        cases e1
        exact e2 rfl
      refine wpList_append_own_none hg s x t hop w0.heap.size e i rowK.size T.und hi _ 0 _ hs hr hx ?_
      exact hK _ w (by unfold OwnR; exact ⟨[], rfl, hr, fun r h => by cases h⟩) (.inl ⟨rfl, rfl, rfl⟩) h0
    | some ad =>
      refine wpList_append_own_at w hg s x t hop w0.heap.size e i z rowK.size bytes T.und hi hz hsz hb T.zs T.pos _ 0 _ hs hr ad 0 uc [] hx rfl (fun j u h => by simp at h) (fun u h => by cases h) (by unfold maxLen; omega) (by omega) h0.le ?_
      intro v' w' ho' hgr hnil hat
      have hv' := hnil.2 ⟨rfl, rfl⟩
      subst hv'
      exact hK _ w' (hone2 w' _ hgr (.inl rfl) ho') (.inl ⟨rfl, rfl, rfl⟩) (h0.grown hgr fun k hk => by cases hk)
  · cases ua with
    | none =>
      obtain rfl : uc = 0 := by
        unfold Rd at hsrc
        obtain ⟨a', c', e1, _, _, e2, _⟩ := hsrc
        cases e1
        exact e2 rfl
      have hy0 : ys = [] := List.eq_nil_of_length_eq_zero (by omega)
      subst hy0
      obtain rfl : us = [] := List.eq_nil_of_length_eq_zero (by simpa using hul)
      refine wpList_append_own_none hg s x t hop w0.heap.size e i rowK.size T.und hi _ rows.length _ hs hr hx ?_
      exact hK _ w (by unfold OwnR; exact ⟨rows, by simp, hr, hall⟩) (.inr ⟨g, cap, rfl, hcap⟩) h0
    | some ad =>
      refine Go.wpList_append_fits w hg s x t hop w0.heap.size e i rowK.size T.und hi hsz g rows.length cap _ hs hr ad ys.length uc us hx (by rw [hS]; omega) (fun j y hj => ?_) hone (by omega) ?_
      · exact cell_gr (hcell ad _ _ rfl j y hj) h0
      · intro w' ho' hgr
        refine hK _ w' (hone2 w' _ hgr (.inl rfl) ho') (.inr ⟨g, cap, rfl, hcap⟩) (h0.grown hgr fun k hk => by have := hr.lt k hk; exact this.1)
end Go.Tok
namespace Go.Proofs.YtagdccgbcmnehaaGreat
open Go.RowKit Go.Tok
set_option linter.unusedVariables false
set_option maxHeartbeats 1000000 in
theorem GrowM_calls (n : Nat) (w : World) (hn : n ≤ 11728124029610) :
    Calls Tryz.prog 64 #[.slice none 0 0, .int .i64 n] w fun e w' => ∃ v', e = .returned v' ∧ OwnR rowK 24 w.heap.size (fun b => b < w.heap.size) w' v' [] ∧ RoomV v' 0 n ∧ Gr w w' := by
  have T := rowTy
  by_cases h0 : n = 0
  · subst h0
    go_enter Tryz.func64, Tryz.ntmps64
    go_wp2
    go_ret
    exact ⟨_, rfl, OwnR.nil _ _ _ _, .inl ⟨rfl, rfl, rfl⟩, Gr.refl _⟩
  · obtain ⟨cap, w', hr, h1, h2, ho, g⟩ := own_roomK (w := w) (tn := 3) T Tryz.underlying3 (show 0 < n by omega) (by omega) (by unfold maxLen; omega)
    have HR := Lib.hid hr
    clear hr
    have hn0 : 0 < n := by omega
    have q : ((n : Int) > 0) := by omega
    go_enter Tryz.func64, Tryz.ntmps64
    go_wp2_with (at_builtin; refine Lib.wpList_append_run _ rfl _ _ _ _ rfl _ _ (by rfl) (by rfl) _ _ (HR.out _) ?_)
    go_ret
    exact ⟨_, rfl, ho _, .inr ⟨_, _, rfl, h1⟩, g⟩
set_option maxHeartbeats 2000000 in
theorem ConcatM_calls (v : Value) (l : List (List (List Int))) (w : World) (hv : MatK rowK w v l) (hl : l.flatten.length ≤ 11728124029610) :
    Calls Tryz.prog 26 #[v] w fun e w' => ∃ v', e = .returned v' ∧ Rd rowK w' v' l.flatten ∧ Gr w w' := by
  have T := rowTy
  obtain ⟨a, cap, rfl, hlc, hcap⟩ := hv.len
  have hsum := sumK_all l
  have hle : ∀ k, sumK l k ≤ 11728124029610 := fun k => by have := sumK_le l k; omega
  have HLT := Lib.hid (fun k => sumK_le l k)
  have HLE := Lib.hid hle
  have HSUM := Lib.hid hsum
  clear hsum hle
  go_enter Tryz.func26, Tryz.ntmps26
  go_wp2
  go_loop [3, 11] (fun s i => ∃ k : Nat, k ≤ l.length ∧ i = .int .i64 k ∧ s = .int .i64 (sumK l k)) (fun _ i => l.length - (intOf i).toNat)
  case atStart => exact ⟨0, Nat.zero_le _, rfl, by rw [sumK_zero]; rfl⟩
  case round =>
    obtain ⟨k, hk, rfl, rfl⟩ := hrel
    have b1 := HLE.out k
    by_cases hlt : k < l.length
    · obtain ⟨b, o, u, rfl, hc, hu⟩ := hv.at_ hlt
      obtain ⟨ua, uc, rfl, ul, ul'⟩ := hu.len
      have b2 := HLE.out (k + 1)
      have hs := sumK_succ hlt
      have b3 : sumK l k + (ix l k).length ≤ 11728124029610 := by rw [← hs]; exact b2
      have HS := Lib.hid hs
      clear hs
      go_wp2
      go_round
      case rel => exact ⟨k + 1, by omega, by go_num, by rw [HS.out]; go_num⟩
      case measure => simp [intOf]; omega
    · obtain rfl : k = l.length := by omega
      go_wp2_with fail
      refine (GrowM_calls _ _ b1).mono ?_
      rintro _ w1 ⟨v1, rfl, o1, r1, g1⟩
      go_wp2_with fail
      go_loopw [6, 27] (fun out i wr => ∃ k : Nat, k ≤ l.length ∧ i = .int .i64 k ∧ OwnR rowK 24 w.heap.size (fun b => b < w.heap.size) wr out (flatW l k) ∧ RoomV out (flatW l k).length (sumK l l.length) ∧ Gr w wr) (fun _ i _ => l.length - (intOf i).toNat)
      case atStart => exact ⟨0, Nat.zero_le _, rfl, by rw [flatW_zero]; exact o1, by rw [flatW_zero]; exact r1, g1⟩
      case round =>
        rename_i wr _
        obtain ⟨k, hk, rfl, ho, hro, hgr⟩ := hrel
        have hv2 := hv.gr hgr
        by_cases hlt : k < l.length
        · obtain ⟨b, o, u, rfl, hc, hu⟩ := hv.at_ hlt
          have hc2 := cell_gr hc hgr
          have hs := sumK_succ hlt
          have b3 : (flatW l k).length + (ix l k).length ≤ sumK l l.length := by rw [flatW_len, ← hs]; exact HLT.out _
          have HF := Lib.hid (flatW_succ hlt)
          clear hs
          go_wp2_with (at_builtin; go_loud (refine app_oldRow T _ _ _ u (flatW l k) (ix l k) (sumK l l.length) (by rfl) (by rfl) (by rfl) (by rfl) ho hu hgr hro b3 ?_; intro v' w' ho' hr' hg'))
          go_roundw
          case rel => exact ⟨k + 1, by omega, by go_num, by rw [HF.out]; exact ho', by rw [HF.out, List.length_append]; exact hr', hg'⟩
          case measure => simp [intOf]; omega
        · obtain rfl : k = l.length := by omega
          have HA := Lib.hid (flatW_all l)
          go_wp2_with fail
          go_ret
          exact ⟨_, rfl, by rw [← HA.out]; exact ho.rd, hgr⟩
end Go.Proofs.YtagdccgbcmnehaaGreat

namespace Go.Proofs.YtagdccgbcmnehaaGreat
open Go.RowKit Go.Tok Go.Lib
set_option linter.unusedVariables false
abbrev RowV := Value × List Int
/-- the row's cells, where dk stands in it -/
structure RW (w0 w W : World) (g : Nat) (dk : Array RowV) : Prop where
  ex : ∃ cs, Blk W g 24 cs ∧ ∀ i, i < dk.size → cs[i]? = some dk[i]!.1
  gr : Gr w0 W
  kp : Kp (fun b => b ≠ g) w W
section
variable {w0 w W W' : World} {g : Nat} {dk : Array RowV}
theorem RW.at_ (h : RW w0 w W g dk) {i : Nat} (hi : i < dk.size) : W.cell? ⟨g, i, none⟩ = some dk[i]!.1 ∧ W.frozen? ⟨g, i, none⟩ = false := by
  obtain ⟨cs, hb, hc⟩ := h.ex
  exact ⟨hb.cell (hc i hi), hb.frozen _⟩
theorem RW.mv (h : RW w0 w W g dk) (k : Gr W W') : RW w0 w W' g dk := by
  obtain ⟨cs, hb, hc⟩ := h.ex
  exact ⟨⟨cs, hb.gr k, hc⟩, h.gr.trans k, h.kp.trans k.kp⟩
theorem RW.put {k : Nat} (h : RW w0 w W g dk) (hg : w0.heap.size ≤ g) (hk : k < dk.size) (p : RowV) : RW w0 w (W.setCell ⟨g, k, none⟩ p.1) g (dk.setIfInBounds k p) := by
  obtain ⟨cs, hb, hc⟩ := h.ex
  have hsz : k < cs.size := (Array.getElem?_eq_some_iff.1 (hc k hk)).1
  refine ⟨⟨_, hb.set _ _, fun i hi => ?_⟩, h.gr.setCell hg _, h.kp.trans (set_kp (fun e => e rfl) _)⟩
  have hi' : i < dk.size := by simpa using hi
  by_cases e : i = k
  · subst e
    have e1 : (dk.setIfInBounds i p)[i]! = p := by simp [hi']
    rw [e1, Array.getElem?_setIfInBounds_self_of_lt hsz]
  · have e1 : (dk.setIfInBounds k p)[i]! = dk[i]! := by
      rw [getElem!_pos _ i (by simpa using hi'), getElem!_pos dk i hi', Array.getElem_setIfInBounds_ne hi' (fun h => e h.symm)]
    rw [e1, Array.getElem?_setIfInBounds_ne (fun h => e h.symm)]
    exact hc i hi'
theorem blk_cellsR {t : TypeId} : ∀ (vs : List Value) (o : Nat) (w : World) (cs : Array Value), Blk w g t cs → ∃ cs', Blk (w.setCells g o vs) g t cs' ∧ ∀ j, j < o → cs'[j]? = cs[j]?
  | [], o, w, cs, h => ⟨cs, h, fun _ _ => rfl⟩
  | v :: r, o, w, cs, h => by
    obtain ⟨cs', h1, h2⟩ := blk_cellsR r (o + 1) _ _ (h.set o v)
    exact ⟨cs', h1, fun j hj => by rw [h2 j (by omega), Array.getElem?_setIfInBounds_ne (by omega)]⟩
theorem setCells_kp : ∀ (vs : List Value) (o : Nat) (w : World), Kp (fun b => b ≠ g) w (w.setCells g o vs)
  | [], o, w => Kp.refl _ _
  | v :: r, o, w => (set_kp (a := ⟨g, o, none⟩) (fun e => e rfl) v).trans (setCells_kp r (o + 1) _)
theorem zero_row : ∀ w, (zeroValue 24).run Tryz.prog w = .ok (.slice none 0 0) w := fun w => by kernel_rfl
theorem RW.clr {k c : Nat} (h : RW w0 w W g dk) (hg : w0.heap.size ≤ g) (hk : k < dk.size) :
    (∀ ty, (Builtin.clear_ #[28] ty #[.slice (some ⟨g, k, none⟩) (dk.size - k) c]).run Tryz.prog W = .ok (.tuple #[]) (W.setCells g k (List.replicate (dk.size - k) (.slice none 0 0)))) ∧
    Gr w0 (W.setCells g k (List.replicate (dk.size - k) (.slice none 0 0))) ∧ Kp (fun b => b ≠ g) w (W.setCells g k (List.replicate (dk.size - k) (.slice none 0 0))) ∧
    ∀ i, i < k → (W.setCells g k (List.replicate (dk.size - k) (.slice none 0 0))).cell? ⟨g, i, none⟩ = some dk[i]!.1 := by
  obtain ⟨cs, hb, hc⟩ := h.ex
  refine ⟨fun ty => ?_, ?_, h.kp.trans (setCells_kp _ _ _), fun i hi => ?_⟩
  · refine run_clear_slice W _ _ ty _ Tryz.underlying28 zero_row rfl rfl g k _ _ (by omega) (fun j hj => ?_) (fun j hj => hb.frozen _)
    rw [hb.cell (hc (k + j) (by omega))]; rfl
  · unfold Gr; exact below_setCells g hg _ _ h.gr.below
  · obtain ⟨cs', h1, h2⟩ := blk_cellsR (List.replicate (dk.size - k) (.slice none 0 0)) k W cs hb
    exact h1.cell (by rw [h2 _ (by omega)]; exact hc i (by omega))
end
/-- the function that is handed over answers p at the rows xs, whatever stands in block g -/
def AsksRow (g gf : Nat) (lb : Array Value) (xs : List (List Int)) (p : List Int → Bool) (w : World) : Prop :=
  ∀ (W : World) (u : Value) (x : List Int), x ∈ xs → Kp (fun b => b ≠ g) w W → Ints W u x → Calls Tryz.prog gf (#[u] ++ lb) W fun e w' => e = .returned (.bool (p x)) ∧ Gr W w'
theorem rd_of_rows {w : World} {g k cap : Nat} {ys : List RowV} (hl : ys.length = k) (hkc : k ≤ cap) (hcap : cap ≤ 9223372036854775807) (hI : ∀ y ∈ ys, Ints w y.1 y.2)
    (hc : ∀ i, i < k → ∃ y, ys[i]? = some y ∧ w.cell? ⟨g, i, none⟩ = some y.1) : Rd rowK w (.slice (some ⟨g, 0, none⟩) k cap) (ys.map (·.2)) := by
  subst hl
  refine rd_mk (a := some ⟨g, 0, none⟩) (cap := cap) (by simp) (by simpa using hkc) (by unfold maxLen; omega) (fun h => by cases h) fun i hi => ?_
  have hi' : i < ys.length := by simpa using hi
  obtain ⟨y, hy, hcell⟩ := hc i hi'
  have hyi : ys[i] = y := by
    rw [List.getElem?_eq_getElem hi'] at hy
    exact Option.some.inj hy
  refine ⟨g, 0, [y.1], rfl, ⟨y.1, rfl, ?_⟩, fun j u hj => ?_⟩
  · rw [ix_lt hi, List.getElem_map, hyi]
    exact hI y (List.mem_of_getElem? hy)
  · cases j with
    | zero =>
      have : u = y.1 := by simpa using hj.symm
      rw [this, show 0 + i * rowK.size + 0 = i by show 0 + i * 1 + 0 = i; omega]
      exact hcell
    | succ j => simp at hj
theorem own_rows {e base : Nat} {S : Nat → Prop} {w : World} {g cap : Nat} {xs : List (List Int)} (h : OwnR rowK e base S w (.slice (some ⟨g, 0, none⟩) xs.length cap) xs) :
    ∃ (d : Array RowV) (cs : Array Value), xs = d.toList.map (·.2) ∧ Blk w g e cs ∧ (∀ i, i < d.size → cs[i]? = some d[i]!.1) ∧ ∀ i, i < d.size → ∀ W, Kp (fun b => b ≠ g) w W → Ints W d[i]!.1 d[i]!.2 := by
  unfold OwnR at h
  obtain ⟨rows, rfl, ⟨hsz, hrow⟩, hall⟩ := h
  rw [List.length_map] at *
  rcases hrow with ⟨hv, _⟩ | ⟨g', cap', cur, hv, hb, hh, hn, hc, hs, ht⟩
  · cases hv
  cases hv
  have hf : ∀ r ∈ rows, r.2 = [r.2.headD undef] := fun r hr => by
    obtain ⟨u, hu, _⟩ := (hall r hr).now
    rw [hu]; rfl
  have hcells : cellsOf rows = rows.map fun r => r.2.headD undef := by
    clear hh hn hc hs ht hsz hb hall
    induction rows with
    | nil => rfl
    | cons r rest ih =>
      have e : cellsOf (r :: rest) = r.2 ++ cellsOf rest := by simp [cellsOf]
      rw [e, ih (fun r' hr' => hf r' (by simp [hr'])), List.map_cons]
      rw [hf r (by simp)]; rfl
  refine ⟨(rows.map fun r => (r.2.headD undef, r.1)).toArray, cur, by simp, by unfold Blk; exact hh, fun i hi => ?_, fun i hi W k => ?_⟩
  · have hi' : i < rows.length := by simpa using hi
    have h1 : (cur.toList.take (rows.length * 1))[i]? = (rows.map fun r => r.2.headD undef)[i]? := by rw [← hcells]; exact congrArg (·[i]?) ht
    rw [List.getElem?_take_of_lt (by omega)] at h1
    rw [← Array.getElem?_toList, h1, getElem!_pos _ i hi]
    simp [hi']
  · have hi' : i < rows.length := by simpa using hi
    rw [getElem!_pos _ i hi]
    simp only [List.getElem_toArray, List.getElem_map]
    obtain ⟨u, hu, hI⟩ := ((hall rows[i] (List.getElem_mem hi')).kp (k.mono fun b _ hb e => hb.2 (by rw [e]; rfl))).now
    rw [hu]; exact hI
theorem firstI_ways (p : List Int → Bool) (xs : List (List Int)) : ∀ n, n ≤ xs.length → (∀ i, i < n → p (ix xs i) = false) ∨ ∃ k, k < n ∧ (∀ i, i < k → p (ix xs i) = false) ∧ p (ix xs k) = true := by
  intro n
  induction n with
  | zero => intro _; exact .inl fun i hi => by omega
  | succ n ih =>
    intro hn
    rcases ih (by omega) with h | ⟨k, hk, h1, h2⟩
    · cases hp : p (ix xs n) with
      | true => exact .inr ⟨n, by omega, h, hp⟩
      | false =>
        refine .inl fun i hi => ?_
        by_cases e : i = n
        · rw [e]; exact hp
        · exact h i (by omega)
    · exact .inr ⟨k, by omega, h1, h2⟩
set_option maxHeartbeats 4000000 in
set_option maxRecDepth 100000 in
theorem DeleteFuncR_calls (base : Nat) (S : Nat → Prop) (v : Value) (xs : List (List Int)) (gf : Nat) (lb : Array Value) (p : List Int → Bool) (w0 w : World) (eg : ∀ args w, (callFunc gf args).run Tryz.prog w = .ok (.enter gf args) w)
    (h : OwnR rowK 24 base S w v xs) (h0 : Gr w0 w) (hb : w0.heap.size ≤ base) (hp : ∀ g, base ≤ g → AsksRow g gf lb xs p w) :
    Calls Tryz.prog 105 #[v, .func (.func gf) #[] lb] w fun e w' => ∃ v', e = .returned v' ∧ Rd rowK w' v' (xs.filter fun x => !p x) ∧ Gr w0 w' := by
  have hrd := h.rd
  obtain ⟨va, vc, rfl, hc1, hc2⟩ := hrd.len
  have hidx := IndexFuncRow_calls _ xs gf lb p w eg hrd (fun W u x hx g hi => hp base (Nat.le_refl _) W u x hx g.kp hi)
  by_cases hnone : firstI p xs = -1
  · rw [hnone] at hidx
    have hall : (xs.filter fun x => !p x) = xs := by
      refine List.filter_eq_self.2 fun x hx => ?_
      have := firstI_any p xs
      rw [hnone] at this
      have h2 : xs.any p = false := by rw [← this]; decide
      have h3 := List.any_eq_false.1 h2 x hx
      simpa using h3
    rw [hall]
    have HR := Lib.hid hrd
    have HX := Lib.hid hidx
    have H0 := Lib.hid h0
    clear hrd hidx h h0 hp hnone hall
    go_enter Tryz.func105, Tryz.ntmps105
    go_wp2_with fail
    refine HX.out.mono ?_
    rintro _ w1 ⟨rfl, g1⟩
    go_wp2_with fail
    go_ret
    exact ⟨_, rfl, HR.out.gr g1, H0.out.trans g1⟩
  · rcases firstI_ways p xs xs.length (Nat.le_refl _) with hmiss | ⟨k0, hk0, hno, hyes⟩
    · exact absurd (firstI_miss (NoneI.intro hmiss)) hnone
    have e1 : firstI p xs = (k0 : Int) := firstI_hit (NoneI.intro hno) hk0 hyes
    rw [e1] at hidx
    obtain ⟨ga, hga⟩ : ∃ ga, va = some ⟨ga, 0, none⟩ := by
      rcases h.form with ⟨hv, hx⟩ | ⟨g, cap, hv, _⟩
      · rw [hx] at hk0; simp at hk0
      · cases hv; exact ⟨g, rfl⟩
    subst hga
    have hgb0 : base ≤ ga := (h.lt (show (Value.slice (some ⟨ga, 0, none⟩) xs.length vc).ownBlock = some ga from rfl)).1
    have hgb : w0.heap.size ≤ ga := Nat.le_trans hb hgb0
    have hask := hp ga hgb0
    obtain ⟨d, cs, hxs, hblk, hcs, hread⟩ := own_rows h
    have hds : d.size = xs.length := by rw [hxs]; simp
    have hix : ∀ j, j < d.size → d[j]!.2 = ix xs j := fun j hj => by
      rw [ix_lt (by omega), getElem!_pos d j hj]
      simp [hxs]
    obtain ⟨kp, HK⟩ : ∃ kp : Nat → Bool, Hid (kp = fun j => !p d[j]!.2) := ⟨_, rfl⟩
    have hfil : (xs.filter fun x => !p x) = (keptUpTo kp d d.size).map (·.2) := by
      rw [HK.out, keptUpTo_filter (fun y : RowV => !p y.2) d]
      conv => lhs; rw [hxs]
      rw [List.filter_map]; rfl
    have hkeep : ∀ j, j < k0 → kp j = true := fun j hj => by
      rw [HK.out]
      show (!p d[j]!.2) = true
      rw [hix j (by omega)]
      have := hno j hj
      rw [this]; rfl
    have hdrop : kp k0 = false := by
      rw [HK.out]
      show (!p d[k0]!.2) = false
      rw [hix k0 (by omega), hyes]; rfl
    have hRW : RW w0 w w ga d := ⟨⟨cs, hblk, hcs⟩, h0, Kp.refl _ _⟩
    have hcall : ∀ W j, j < d.size → Kp (fun b => b ≠ ga) w W → Calls Tryz.prog gf (#[d[j]!.1] ++ lb) W fun e w' => e = .returned (.bool (!kp j)) ∧ Gr W w' := fun W j hj k => by
      have := hask W d[j]!.1 d[j]!.2 (by rw [hix j hj]; exact ix_mem (by omega)) k (hread j hj W k)
      have e : p d[j]!.2 = !kp j := by rw [HK.out]; simp
      rw [e] at this; exact this
    rw [hfil]
    have hk0' : k0 < d.size := by omega
    rw [← hds] at hc1 hidx ⊢
    have HC := Lib.hid hcall
    have HR := Lib.hid hread
    have HX := Lib.hid hidx
    have H0 := Lib.hid (hRW)
    have HKE := Lib.hid hkeep
    have HDR := Lib.hid hdrop
    clear hcall hread hidx hRW hkeep hdrop h h0 hp hask hrd hcs hblk hix hds hxs hk0 hno hyes e1 hnone hfil hgb0 hb
    have hne1 : ((k0 : Int) == -1) = false := beq_eq_false_iff_ne.2 (by omega)
    go_enter Tryz.func105, Tryz.ntmps105
    go_wp2_with fail
    refine HX.out.mono ?_
    rintro _ w1 ⟨rfl, g1⟩
    go_wp2_with fail
    go_loopg [5, 6, 7] d.size (fun gg s5 s6 _ wr => ∃ (i j : Nat) (dk : Array RowV), s5 = .int .i64 i ∧ s6 = .int .i64 j ∧ j ≤ d.size ∧ d.size - j ≤ gg ∧ Hid (RW w0 w wr ga dk) ∧ Hid (KeptInv kp d j i dk))
    case atStart => exact ⟨k0, k0 + 1, d, rfl, by go_num, by omega, by omega, Lib.hid (H0.out.mv g1), Lib.hid (KeptInv.start HKE.out HDR.out)⟩
    case round =>
      rename World => wr
      obtain ⟨i, j, dk, rfl, rfl, hjd, hgg, IR, I2⟩ := hrel
      have hij := I2.out.lt
      have hsd := I2.out.size
      by_cases hlt : j < d.size
      · have hltz : (j : Int) < (d.size : Int) := by omega
        have hj0 : (0 : Int) ≤ (j : Int) := by omega
        have hi0 : (0 : Int) ≤ (i : Int) := by omega
        have hid : (i : Int) < (d.size : Int) := by omega
        have hhigh := I2.out.high j (by omega)
        obtain ⟨cj, _⟩ := IR.out.at_ (show j < dk.size by omega)
        obtain ⟨ci, fi⟩ := IR.out.at_ (show i < dk.size by omega)
        rw [hhigh] at cj
        have hcall := HC.out wr j hlt IR.out.kp
        obtain ⟨u, hu⟩ : ∃ u, u = d[j]! := ⟨_, rfl⟩
        rw [← hu] at cj hcall
        obtain ⟨uv, ul⟩ := u
        obtain ⟨ua, uc, huv, _, _⟩ := (HR.out j hlt wr IR.out.kp).len
        rw [← hu] at huv
        have huv : uv = .slice ua ul.length uc := huv
        subst huv
        generalize dk[i]!.1 = old at ci
        have HU := Lib.hid hu
        have hidk : Hid (i < dk.size) := Lib.hid (by omega)
        clear hu hhigh
        cases hq : kp j with
        | true =>
          rw [hq] at hcall
          go_wp2_with (go_at_fn gf; refine hcall.mono ?_; rintro e w' ⟨rfl, g2⟩; have ci2 := cell_gr ci g2; have fi2 : Hid (RW w0 w w' ga dk) := Lib.hid (IR.out.mv g2); have fi3 := (fi2.out.at_ hidk.out).2)
          go_roundg (d.size - (j + 1))
          case measure => omega
          case rel =>
            refine ⟨i + 1, j + 1, dk.setIfInBounds i d[j]!, by go_num, by go_num, by omega, Nat.le_refl _, Lib.hid ?_, Lib.hid (I2.out.keep hlt hq)⟩
            have := fi2.out.put hgb hidk.out d[j]!
            rw [← HU.out] at this ⊢
            exact this
        | false =>
          rw [hq] at hcall
          go_wp2_with (go_at_fn gf; refine hcall.mono ?_; rintro e w' ⟨rfl, g2⟩)
          go_roundg (d.size - (j + 1))
          case measure => omega
          case rel => exact ⟨i, j + 1, dk, rfl, by go_num, by omega, Nat.le_refl _, Lib.hid (IR.out.mv g2), Lib.hid (I2.out.skip hq)⟩
      · obtain rfl : j = d.size := by omega
        have hltz : ¬ (d.size : Int) < (d.size : Int) := by omega
        have hid : (i : Int) ≤ (d.size : Int) := by omega
        have hi0 : (0 : Int) ≤ (i : Int) := by omega
        have hcl := IR.out.clr (k := i) (c := vc - i) hgb (by omega)
        rw [hsd] at hcl
        obtain ⟨r1, r2, r3, r4⟩ := hcl
        have R2 := Lib.hid r2
        have R3 := Lib.hid r3
        have R4 := Lib.hid r4
        clear r2 r3 r4
        go_wp2_with fail
        go_ret
        have hI := I2.out
        refine ⟨_, rfl, rd_of_rows hI.len (by omega) hc2 (fun y hy => ?_) (fun q hq => ⟨_, hI.low q hq, R4.out q hq⟩), R2.out⟩
        unfold keptUpTo at hy
        obtain ⟨q, hq, rfl⟩ := List.mem_map.1 hy
        have := List.mem_range.1 (List.mem_filter.1 hq).1
        exact HR.out q this _ R3.out
end Go.Proofs.YtagdccgbcmnehaaGreat

namespace Go.Proofs.YtagdccgbcmnehaaGreat
open Go.RowKit Go.Tok
set_option linter.unusedVariables false
/-- the function g, bound to lb, answers p at each number of xs, in w0 and in every later world -/
def AnswersI (P : Program) (g : Nat) (lb : Array Value) (xs : List Int) (p : Int → Bool) (w0 : World) : Prop :=
  ∀ (W : World) (x : Int), x ∈ xs → Gr w0 W → I64 x → Calls P g (#[.int .i64 x] ++ lb) W fun e w' => e = .returned (.bool (p x)) ∧ Gr W w'
theorem nth_mem {xs : List Int} {k : Nat} (h : k < xs.length) : nth xs k ∈ xs := by rw [nth_lt h]; exact List.getElem_mem h
set_option maxHeartbeats 400000 in
theorem IndexFuncI_calls (v : Value) (xs : List Int) (g : Nat) (lb : Array Value) (p : Int → Bool) (w : World) (eg : ∀ args w, (callFunc g args).run Tryz.prog w = .ok (.enter g args) w)
    (hv : Ints w v xs) (hg : AnswersI Tryz.prog g lb xs p w) :
    Calls Tryz.prog 39 #[v, .func (.func g) #[] lb] w fun e w' => e = .returned (.int .i64 (firstOf p xs)) ∧ Gr w w' := by
  obtain ⟨a, cap, rfl, hlc, hcap⟩ := hv.len
  go_enter Tryz.func39, Tryz.ntmps39
  go_wp2
  go_loopw [8] (fun i wr => ∃ k : Nat, k ≤ xs.length ∧ i = .int .i64 k ∧ NoneUpto p xs k ∧ Gr w wr) (fun i _ => xs.length - (intOf i).toNat)
  case atStart => exact ⟨0, Nat.zero_le _, rfl, NoneUpto.zero _ _, Gr.refl _⟩
  case round =>
    rename_i wr _
    obtain ⟨k, hk, rfl, hall, hgr⟩ := hrel
    by_cases hlt : k < xs.length
    · obtain ⟨b, o, rfl, hcell⟩ := (hv.gr hgr).cell hlt
      have hr := hv.range k
      have hcall := hg wr (nth xs k) (nth_mem hlt) hgr hr
      cases hp : p (nth xs k)
      · rw [hp] at hcall
        go_wp2_with (go_at_fn g; refine hcall.mono ?_; rintro e w' ⟨rfl, g2⟩)
        go_roundw
        case rel => exact ⟨k + 1, by omega, by go_num, hall.succ hp, hgr.trans g2⟩
        case measure => simp [intOf]; omega
      · rw [hp] at hcall
        go_wp2_with (go_at_fn g; refine hcall.mono ?_; rintro e w' ⟨rfl, g2⟩)
        go_ret
        exact ⟨ret_i64 (firstOf_hit hall hlt hp).symm, hgr.trans g2⟩
    · obtain rfl : k = xs.length := by omega
      go_wp2
      go_ret
      exact ⟨ret_i64 (firstOf_miss hall).symm, hgr⟩
set_option maxHeartbeats 400000 in
theorem ContainsFuncI_calls (v : Value) (xs : List Int) (g : Nat) (lb : Array Value) (p : Int → Bool) (w : World) (eg : ∀ args w, (callFunc g args).run Tryz.prog w = .ok (.enter g args) w)
    (hv : Ints w v xs) (hg : AnswersI Tryz.prog g lb xs p w) :
    Calls Tryz.prog 13 #[v, .func (.func g) #[] lb] w fun e w' => e = .returned (.bool (xs.any p)) ∧ Gr w w' := by
  go_enter Tryz.func13, Tryz.ntmps13
  go_wp2_with (go_at_call 39; refine (IndexFuncI_calls _ _ _ _ _ _ eg hv hg).mono ?_; rintro e w' ⟨rfl, g1⟩)
  go_ret
  exact ⟨ret_bool (firstOf_any p xs), g1⟩
end Go.Proofs.YtagdccgbcmnehaaGreat

namespace Go.Tok
set_option linter.unusedVariables false
def sortI (l : List Int) : List Int := l.mergeSort fun a b => decide (a ≤ b)
theorem mem_sortI {x : Int} {l : List Int} : x ∈ sortI l ↔ x ∈ l := List.mem_mergeSort
theorem sortI_perm (l : List Int) : (sortI l).Perm l := List.mergeSort_perm l _
theorem sortI_sorted (l : List Int) : (sortI l).Pairwise (· ≤ ·) := by
  have h := List.pairwise_mergeSort (le := fun a b : Int => decide (a ≤ b)) (by intro a b c; simp; omega) (by intro a b; simp; omega) l
  exact h.imp fun h => by simpa using h
end Go.Tok

namespace Go.Proofs
open Go.Shelf
def Tryz.lays189_ren : Go.Shelf.Ren := ⟨fun | 189 => 22 | 125 => 63 | 257 => 62 | 128 => 128 | 129 => 129 | 294 => 119 | 295 => 120 | 296 => 121 | 297 => 122 | 298 => 123 | 299 => 124 | 216 => 125 | 300 => 126 | 301 => 127 | 328 => 168 | 329 => 169 | 330 => 170 | 331 => 171 | 332 => 172 | 215 => 173 | 343 => 203 | n => n, fun | 28 => 24 | 3 => 3 | 46 => 134 | 0 => 0 | 51 => 223 | 53 => 225 | 4 => 4 | 183 => 215 | 182 => 214 | 131 => 220 | 5 => 5 | 9 => 9 | 218 => 257 | 222 => 261 | 228 => 282 | 229 => 283 | n => n, fun | n => n⟩
theorem Tryz.lays189 : Go.Proofs.Lays.n189 Tryz.prog Tryz.lays189_ren := {
  mixed := by kernel_rfl
  f125 := Tryz.func63.trans (congrArg some (by kernel_rfl))
  f128 := Tryz.func128.trans (congrArg some (by kernel_rfl))
  f129 := Tryz.func129.trans (congrArg some (by kernel_rfl))
  f189 := Tryz.func22.trans (congrArg some (by kernel_rfl))
  f215 := Tryz.func173.trans (congrArg some (by kernel_rfl))
  f216 := Tryz.func125.trans (congrArg some (by kernel_rfl))
  f257 := Tryz.func62.trans (congrArg some (by kernel_rfl))
  f294 := Tryz.func119.trans (congrArg some (by kernel_rfl))
  f295 := Tryz.func120.trans (congrArg some (by kernel_rfl))
  f296 := Tryz.func121.trans (congrArg some (by kernel_rfl))
  f297 := Tryz.func122.trans (congrArg some (by kernel_rfl))
  f298 := Tryz.func123.trans (congrArg some (by kernel_rfl))
  f299 := Tryz.func124.trans (congrArg some (by kernel_rfl))
  f300 := Tryz.func126.trans (congrArg some (by kernel_rfl))
  f301 := Tryz.func127.trans (congrArg some (by kernel_rfl))
  f328 := Tryz.func168.trans (congrArg some (by kernel_rfl))
  f329 := Tryz.func169.trans (congrArg some (by kernel_rfl))
  f330 := Tryz.func170.trans (congrArg some (by kernel_rfl))
  f331 := Tryz.func171.trans (congrArg some (by kernel_rfl))
  f332 := Tryz.func172.trans (congrArg some (by kernel_rfl))
  f343 := Tryz.func203.trans (congrArg some (by kernel_rfl))
  t0 := Tryz.underlying0
  a0 := Tryz.isAgg0
  z0 := Tryz.sizeOf0
  v0 := Tryz.zeroValue0
  t3 := Tryz.underlying3
  a3 := Tryz.isAgg3
  z3 := Tryz.sizeOf3
  v3 := Tryz.zeroValue3
  t4 := Tryz.underlying4
  a4 := Tryz.isAgg4
  z4 := Tryz.sizeOf4
  v4 := Tryz.zeroValue4
  t5 := Tryz.underlying5
  a5 := Tryz.isAgg5
  z5 := Tryz.sizeOf5
  v5 := Tryz.zeroValue5
  t9 := Tryz.underlying9
  a9 := Tryz.isAgg9
  z9 := Tryz.sizeOf9
  v9 := Tryz.zeroValue9
  t28 := Tryz.underlying24
  a28 := Tryz.isAgg24
  z28 := Tryz.sizeOf24
  v28 := Tryz.zeroValue24
  t46 := Tryz.underlying134
  a46 := Tryz.isAgg134
  z46 := Tryz.sizeOf134
  v46 := Tryz.zeroValue134
  t51 := Tryz.underlying223
  a51 := Tryz.isAgg223
  z51 := Tryz.sizeOf223
  v51 := Tryz.zeroValue223
  t53 := Tryz.underlying225
  a53 := Tryz.isAgg225
  z53 := Tryz.sizeOf225
  v53 := Tryz.zeroValue225
  t131 := Tryz.underlying220
  a131 := Tryz.isAgg220
  z131 := Tryz.sizeOf220
  v131 := Tryz.zeroValue220
  t182 := Tryz.underlying214
  a182 := Tryz.isAgg214
  z182 := Tryz.sizeOf214
  v182 := Tryz.zeroValue214
  t183 := Tryz.underlying215
  a183 := Tryz.isAgg215
  z183 := Tryz.sizeOf215
  v183 := Tryz.zeroValue215
  t218 := Tryz.underlying257
  a218 := Tryz.isAgg257
  z218 := Tryz.sizeOf257
  v218 := Tryz.zeroValue257
  t222 := Tryz.underlying261
  a222 := Tryz.isAgg261
  z222 := Tryz.sizeOf261
  v222 := Tryz.zeroValue261
  t228 := Tryz.underlying282
  a228 := Tryz.isAgg282
  z228 := Tryz.sizeOf282
  v228 := Tryz.zeroValue282
  t229 := Tryz.underlying283
  a229 := Tryz.isAgg283
  z229 := Tryz.sizeOf283
  v229 := Tryz.zeroValue283 }
open Go.Sort Go.RowKit in
theorem Tryz.slices_Sort_int (blk off cap : Nat) (zs : List Int) (w : World) (hH : Holds (Value.int .i64) w blk off zs.toArray) (hblk : blk < w.heap.size) (hsz : zs.length < 4611686018427387904) :
    Calls Tryz.prog 22 #[.slice (some ⟨blk, off, none⟩) zs.length cap] w fun e w' =>
      e = .returned (.tuple #[]) ∧ ∃ n os, w' = grow (putRow (Value.int .i64) (Sort.ahead w n) blk off (zs.mergeSort fun x y => decide (x ≤ y)).toArray) os := Any.slices_Sort_int Tryz.lays189 blk off cap zs w hH hblk hsz
end Go.Proofs

namespace Go.Proofs.YtagdccgbcmnehaaGreat
open Go.RowKit Go.Tok
set_option linter.unusedVariables false

theorem isNaN_calls (x : Int) (w : World) : Calls Tryz.prog 173 #[.int .i64 x] w fun e w' => e = .returned (.bool false) ∧ w = w' := by
  go_enter Tryz.func173, Tryz.ntmps173
  go_wp2
  go_ret
  exact ⟨rfl, rfl⟩
end Go.Proofs.YtagdccgbcmnehaaGreat

namespace Go.Tok
open Go.RowKit
/-- -1, 0, 1 -/
def cmpI (x y : Int) : Int := if x < y then -1 else if y < x then 1 else 0
def lexC : List Int → List Int → Int
  | [], [] => 0
  | [], _ :: _ => -1
  | _ :: _, [] => 1
  | x :: xs, y :: ys => if cmpI x y = 0 then lexC xs ys else cmpI x y
theorem lex_self : ∀ l, lexC l l = 0 := by
  intro l
  induction l with
  | nil => rfl
  | cons a l ih => simp [lexC, cmpI, ih]
theorem lex_zero : ∀ a b, lexC a b = 0 → a = b := by
  intro a
  induction a with
  | nil => intro b h; cases b with
    | nil => rfl
    | cons y ys => simp [lexC] at h
  | cons x xs ih =>
    intro b h
    cases b with
    | nil => simp [lexC] at h
    | cons y ys =>
      unfold lexC at h
      by_cases h1 : x < y
      · simp [cmpI, h1] at h
      · by_cases h2 : y < x
        · simp [cmpI, h1, h2] at h
        · have hxy : x = y := by omega
          simp [cmpI, h1, h2] at h
          rw [hxy, ih ys h]
theorem lex_neg : ∀ a b, lexC b a = - lexC a b := by
  intro a
  induction a with
  | nil => intro b; cases b <;> simp [lexC]
  | cons x xs ih =>
    intro b
    cases b with
    | nil => simp [lexC]
    | cons y ys =>
      unfold lexC
      by_cases h1 : x < y
      · have h2 : ¬ y < x := by omega
        simp [cmpI, h1, h2]
      · by_cases h2 : y < x
        · simp [cmpI, h1, h2]
        · simp [cmpI, h1, h2, ih]
theorem lex_trans : ∀ a b c, lexC a b < 0 → lexC b c < 0 → lexC a c < 0 := by
  intro a
  induction a with
  | nil =>
    intro b c h1 h2
    cases b with
    | nil => simp [lexC] at h1
    | cons y ys => cases c with
      | nil => simp [lexC] at h2
      | cons z zs => simp [lexC]
  | cons x xs ih =>
    intro b c h1 h2
    cases b with
    | nil => simp [lexC] at h1
    | cons y ys =>
      cases c with
      | nil => simp [lexC] at h2
      | cons z zs =>
        unfold lexC at h1 h2 ⊢
        unfold cmpI at *
        by_cases a1 : x < y <;> by_cases a2 : y < x <;> by_cases b1 : y < z <;> by_cases b2 : z < y <;> simp [a1, a2, b1, b2] at h1 h2
        all_goals by_cases c1 : x < z
        all_goals first
          | (simp only [if_pos c1]; simp; done)
          | omega
          | (have c2 : ¬ z < x := by omega
             simp only [if_neg c1, if_neg c2, if_true]
             exact ih ys zs h1 h2)
theorem lex_ge_trans (a b c : List Int) (h1 : ¬ lexC a b < 0) (h2 : ¬ lexC b c < 0) : ¬ lexC a c < 0 := by
  intro h
  have e1 := lex_neg a b
  have e2 := lex_neg b c
  by_cases q1 : lexC a b = 0
  · have := lex_zero a b q1
    subst this
    exact h2 h
  · by_cases q2 : lexC b c = 0
    · have := lex_zero b c q2
      subst this
      exact h1 h
    · have h3 : lexC b a < 0 := by omega
      have h4 : lexC c b < 0 := by omega
      have h5 := lex_trans c b a h4 h3
      have e3 := lex_neg a c
      omega
end Go.Tok
namespace Go.Proofs.YtagdccgbcmnehaaGreat
open Go.RowKit Go.Tok
set_option linter.unusedVariables false
theorem Sort_calls (g cap base : Nat) (xs : List Int) (w : World) (h : OwnI 3 base w (.slice (some ⟨g, 0, none⟩) xs.length cap) xs) (hl : xs.length < 4611686018427387904) :
    Calls Tryz.prog 22 #[.slice (some ⟨g, 0, none⟩) xs.length cap] w fun e w' => e = .returned (.tuple #[]) ∧ OwnI 3 base w' (.slice (some ⟨g, 0, none⟩) xs.length cap) (sortI xs) ∧ w.grownBy w' (some g) := by
  have h0 := h
  unfold OwnI at h
  obtain ⟨⟨e1, h1⟩, h2⟩ := h
  rcases h1 with ⟨hv, _⟩ | ⟨g', cap', cur, hv, hb, hh, hn, hc, hs, ht⟩
  · cases hv
  · cases hv
    refine (Tryz.slices_Sort_int g 0 cap xs w (holds_of_blockI hh (by simpa using ht)) (Array.getElem?_eq_some_iff.1 hh).1 hl).mono ?_
    rintro _ w' ⟨rfl, n, os, rfl⟩
    have hlen : (xs.mergeSort fun x y => decide (x ≤ y)).length = xs.length := List.length_mergeSort _
    refine ⟨rfl, ?_, grownBy_sortedI _⟩
    unfold OwnI
    refine ⟨?_, fun x hx => h2 x (mem_sortI.1 hx)⟩
    unfold sortI
    have := ownsRow_sortedI (n := n) (os := os) (ts := xs.mergeSort fun x y => decide (x ≤ y)) hlen hb hh hn hc hs
    rw [hlen]
    exact this
end Go.Proofs.YtagdccgbcmnehaaGreat

namespace Go.Tok
set_option linter.unusedVariables false

/-- x among l, once -/
def ins {α : Type} [DecidableEq α] (l : List α) (x : α) : List α := if x ∈ l then l else l ++ [x]
section
variable {α : Type} [DecidableEq α]
theorem mem_ins {l : List α} {x y : α} : y ∈ ins l x ↔ y ∈ l ∨ y = x := by
  unfold ins
  by_cases h : x ∈ l
  · rw [if_pos h]
    constructor
    · exact .inl
    · rintro (h1 | rfl)
      · exact h1
      · exact h
  · rw [if_neg h, List.mem_append, List.mem_singleton]
theorem nodup_ins {l : List α} {x : α} (h : l.Nodup) : (ins l x).Nodup := by
  unfold ins
  by_cases hx : x ∈ l
  · rw [if_pos hx]; exact h
  · rw [if_neg hx]
    refine List.nodup_append.2 ⟨h, by simp, fun a ha b hb e => ?_⟩
    rw [List.mem_singleton.1 hb] at e
    exact hx (e ▸ ha)
theorem ins_yes {l : List α} {x : α} (h : x ∈ l) : ins l x = l := by unfold ins; rw [if_pos h]
theorem ins_no {l : List α} {x : α} (h : ¬ x ∈ l) : ins l x = l ++ [x] := by unfold ins; rw [if_neg h]
end

structure TrkD where
  all : List Int
  first : List Int
  last : List Int
  behind : List (Int × Int)
def trkStep (t : List Int) (s : TrkD) (j : Nat) : TrkD :=
  { all := ins s.all (nth t j), first := if j = 0 then ins s.first (nth t j) else s.first, behind := if j = 0 then s.behind else ins s.behind (nth t (j - 1), nth t j), last := if j + 1 = t.length then ins s.last (nth t j) else s.last }
def trkTo (t : List Int) (s : TrkD) (j : Nat) : TrkD := (List.range j).foldl (trkStep t) s
def trkLog (log : List (List Int)) : TrkD := log.foldl (fun s t => trkTo t s t.length) ⟨[], [], [], []⟩
theorem trkTo_zero (t : List Int) (s : TrkD) : trkTo t s 0 = s := rfl
theorem trkTo_succ (t : List Int) (s : TrkD) (j : Nat) : trkTo t s (j + 1) = trkStep t (trkTo t s j) j := by simp [trkTo, List.range_succ]
theorem trkLog_succ {log : List (List Int)} {k : Nat} (h : k < log.length) : trkLog (log.take (k + 1)) = trkTo (ix log k) (trkLog (log.take k)) (ix log k).length := by
  unfold trkLog
  rw [take_ix h, List.foldl_append]; rfl
/-- in w's answer: some label is none, or a trace too long -/
def traceBad (t : List Int) : Bool := decide (60 < t.length) || t.any fun a => decide (a < 1) || decide (26 < a)
def wrongT (log : List (List Int)) : Int := if 60 < log.length then 4 else if log.any traceBad then 2 else 0

def sortP (l : List (Int × Int)) : List (Int × Int) := l.mergeSort fun a b => decide (a.1 < b.1) || (decide (a.1 = b.1) && decide (a.2 ≤ b.2))
structure PrintD where
  labels : List Int
  first : List Int
  last : List Int
  behind : List (Int × Int)
def ofT (log : List (List Int)) : PrintD × Int := if wrongT log = 0 then (⟨sortI (trkLog log).all, sortI (trkLog log).first, sortI (trkLog log).last, sortP (trkLog log).behind⟩, 0) else (⟨[], [], [], []⟩, wrongT log)

def Shows (log : List (List Int)) (s : TrkD) : Prop :=
  (∀ x, x ∈ s.all ↔ ∃ t ∈ log, ∃ j, j < t.length ∧ nth t j = x) ∧ (∀ x, x ∈ s.first ↔ ∃ t ∈ log, 0 < t.length ∧ nth t 0 = x) ∧
  (∀ x, x ∈ s.last ↔ ∃ t ∈ log, ∃ j, j + 1 = t.length ∧ nth t j = x) ∧ (∀ x, x ∈ s.behind ↔ ∃ t ∈ log, ∃ j, j + 1 < t.length ∧ (nth t j, nth t (j + 1)) = x)
def ShowsTo (log : List (List Int)) (t : List Int) (k : Nat) (s : TrkD) : Prop :=
  (∀ x, x ∈ s.all ↔ (∃ t ∈ log, ∃ j, j < t.length ∧ nth t j = x) ∨ ∃ j, j < k ∧ nth t j = x) ∧ (∀ x, x ∈ s.first ↔ (∃ t ∈ log, 0 < t.length ∧ nth t 0 = x) ∨ (0 < k ∧ nth t 0 = x)) ∧
  (∀ x, x ∈ s.last ↔ (∃ t ∈ log, ∃ j, j + 1 = t.length ∧ nth t j = x) ∨ ∃ j, j < k ∧ j + 1 = t.length ∧ nth t j = x) ∧
  (∀ x, x ∈ s.behind ↔ (∃ t ∈ log, ∃ j, j + 1 < t.length ∧ (nth t j, nth t (j + 1)) = x) ∨ ∃ j, j + 1 < k ∧ (nth t j, nth t (j + 1)) = x)
theorem shows_zero {log : List (List Int)} {t : List Int} {s : TrkD} (h : Shows log s) : ShowsTo log t 0 s := by
  obtain ⟨h1, h2, h3, h4⟩ := h
  refine ⟨fun x => ?_, fun x => ?_, fun x => ?_, fun x => ?_⟩
  · rw [h1]; simp
  · rw [h2]; simp
  · rw [h3]; simp
  · rw [h4]; simp
theorem shows_succ {log : List (List Int)} {t : List Int} {k : Nat} {s : TrkD} (h : ShowsTo log t k s) : ShowsTo log t (k + 1) (trkStep t s k) := by
  obtain ⟨h1, h2, h3, h4⟩ := h
  refine ⟨fun x => ?_, fun x => ?_, fun x => ?_, fun x => ?_⟩
  · show x ∈ ins s.all (nth t k) ↔ _
    rw [mem_ins, h1]
    constructor
    · rintro ((h | ⟨j, hj, h⟩) | rfl)
      · exact .inl h
      · exact .inr ⟨j, by omega, h⟩
      · exact .inr ⟨k, by omega, rfl⟩
    · rintro (h | ⟨j, hj, h⟩)
      · exact .inl (.inl h)
      · by_cases e : j = k
        · subst e; exact .inr h.symm
        · exact .inl (.inr ⟨j, by omega, h⟩)
  · show x ∈ (if k = 0 then ins s.first (nth t k) else s.first) ↔ _
    by_cases e : k = 0
    · subst e
      rw [if_pos rfl, mem_ins, h2]
      simp
      constructor
      · rintro (h | rfl)
        · exact .inl h
        · exact .inr rfl
      · rintro (h | rfl)
        · exact .inl h
        · exact .inr rfl
    · rw [if_neg e, h2]
      have : 0 < k := by omega
      simp [this]
  · show x ∈ (if k + 1 = t.length then ins s.last (nth t k) else s.last) ↔ _
    by_cases e : k + 1 = t.length
    · rw [if_pos e, mem_ins, h3]
      constructor
      · rintro ((h | ⟨j, hj, h⟩) | rfl)
        · exact .inl h
        · exact .inr ⟨j, by omega, h⟩
        · exact .inr ⟨k, by omega, e, rfl⟩
      · rintro (h | ⟨j, hj, h5, h⟩)
        · exact .inl (.inl h)
        · have : j = k := by omega
          subst this; exact .inr h.symm
    · rw [if_neg e, h3]
      constructor
      · rintro (h | ⟨j, hj, h⟩)
        · exact .inl h
        · exact .inr ⟨j, by omega, h⟩
      · rintro (h | ⟨j, hj, h5, h⟩)
        · exact .inl h
        · exact .inr ⟨j, by omega, h5, h⟩
  · show x ∈ (if k = 0 then s.behind else ins s.behind (nth t (k - 1), nth t k)) ↔ _
    by_cases e : k = 0
    · subst e
      rw [if_pos rfl, h4]; simp
    · obtain ⟨q, rfl⟩ : ∃ q, k = q + 1 := ⟨k - 1, by omega⟩
      rw [if_neg e, mem_ins, h4, Nat.add_sub_cancel]
      constructor
      · rintro ((h | ⟨j, hj, h⟩) | rfl)
        · exact .inl h
        · exact .inr ⟨j, by omega, h⟩
        · exact .inr ⟨q, by omega, rfl⟩
      · rintro (h | ⟨j, hj, h⟩)
        · exact .inl (.inl h)
        · by_cases e : j = q
          · subst e; exact .inr h.symm
          · exact .inl (.inr ⟨j, by omega, h⟩)
theorem shows_upto {log : List (List Int)} {t : List Int} {s : TrkD} (h : Shows log s) : ∀ k, ShowsTo log t k (trkTo t s k)
  | 0 => shows_zero h
  | k + 1 => by rw [trkTo_succ]; exact shows_succ (shows_upto h k)
theorem shows_more {log : List (List Int)} {t : List Int} {s : TrkD} (h : Shows log s) : Shows (log ++ [t]) (trkTo t s t.length) := by
  obtain ⟨h1, h2, h3, h4⟩ := shows_upto (t := t) h t.length
  refine ⟨fun x => ?_, fun x => ?_, fun x => ?_, fun x => ?_⟩
  · rw [h1]; simp [or_and_right, exists_or]
  · rw [h2]; simp [or_and_right, exists_or]
  · rw [h3]
    constructor
    · rintro (⟨t', h1, h2⟩ | ⟨j, h1, h2, h3⟩)
      · exact ⟨t', by simp [h1], h2⟩
      · exact ⟨t, by simp, j, h2, h3⟩
    · rintro ⟨t', h1, j, h2, h3⟩
      rcases List.mem_append.1 h1 with h | h
      · exact .inl ⟨t', h, j, h2, h3⟩
      · rw [List.mem_singleton.1 h] at h2 h3
        exact .inr ⟨j, by omega, h2, h3⟩
  · rw [h4]; simp [or_and_right, exists_or]
theorem shows_log (log : List (List Int)) : Shows log (trkLog log) := by
  have key : ∀ (l2 l1 : List (List Int)) (s : TrkD), Shows l1 s → Shows (l1 ++ l2) (l2.foldl (fun s t => trkTo t s t.length) s) := by
    intro l2
    induction l2 with
    | nil => intro l1 s h; simpa using h
    | cons t l2 ih =>
      intro l1 s h
      have := ih (l1 ++ [t]) _ (shows_more (t := t) h)
      rwa [List.append_assoc, List.singleton_append] at this
  have := key log [] ⟨[], [], [], []⟩ ⟨by simp, by simp, by simp, by simp⟩
  rw [List.nil_append] at this
  exact this
/-- each stands once -/
def Onces (s : TrkD) : Prop := s.all.Nodup ∧ s.first.Nodup ∧ s.last.Nodup ∧ s.behind.Nodup
theorem onces_step {t : List Int} {s : TrkD} {k : Nat} (h : Onces s) : Onces (trkStep t s k) := by
  obtain ⟨h1, h2, h3, h4⟩ := h
  unfold trkStep
  refine ⟨nodup_ins h1, ?_, ?_, ?_⟩
  · show (if k = 0 then ins s.first (nth t k) else s.first).Nodup
    split
    · exact nodup_ins h2
    · exact h2
  · show (if k + 1 = t.length then ins s.last (nth t k) else s.last).Nodup
    split
    · exact nodup_ins h3
    · exact h3
  · show (if k = 0 then s.behind else ins s.behind (nth t (k - 1), nth t k)).Nodup
    split
    · exact h4
    · exact nodup_ins h4
theorem onces_upto {t : List Int} {s : TrkD} (h : Onces s) : ∀ k, Onces (trkTo t s k)
  | 0 => h
  | k + 1 => by rw [trkTo_succ]; exact onces_step (onces_upto h k)
theorem onces_log (log : List (List Int)) : Onces (trkLog log) := by
  have key : ∀ (l2 : List (List Int)) (s : TrkD), Onces s → Onces (l2.foldl (fun s t => trkTo t s t.length) s) := by
    intro l2
    induction l2 with
    | nil => intro s h; exact h
    | cons t l2 ih => intro s h; exact ih _ (onces_upto h _)
  exact key log _ ⟨by simp, by simp, by simp, by simp⟩

theorem sortP_perm (l : List (Int × Int)) : (sortP l).Perm l := List.mergeSort_perm l _
def leP (a b : Int × Int) : Prop := a.1 < b.1 ∨ (a.1 = b.1 ∧ a.2 ≤ b.2)
theorem sortP_sorted (l : List (Int × Int)) : (sortP l).Pairwise leP := by
  have h := List.pairwise_mergeSort (le := fun a b : Int × Int => decide (a.1 < b.1) || (decide (a.1 = b.1) && decide (a.2 ≤ b.2))) (by intro a b c; simp; omega) (by intro a b; simp; omega) l
  exact h.imp fun h => by simpa [leP] using h
/-- two rows of the same that rise are one -/
theorem rise_one {α : Type} {R : α → α → Prop} (anti : ∀ a b, R a b → R b a → a = b) : ∀ {l1 l2 : List α}, l1.Perm l2 → l1.Pairwise R → l2.Pairwise R → l1 = l2
  | [], l2, hp, _, _ => (List.nil_perm.1 hp).symm
  | a :: l1, l2, hp, h1, h2 => by
    cases l2 with
    | nil => exact absurd hp.length_eq (by simp)
    | cons b l2 =>
      have hab : a = b := by
        rcases List.mem_cons.1 (hp.mem_iff.1 (List.mem_cons_self ..)) with e | ha
        · exact e
        · rcases List.mem_cons.1 (hp.mem_iff.2 (List.mem_cons_self ..)) with e | hb
          · exact e.symm
          · exact anti a b (List.rel_of_pairwise_cons h1 hb) (List.rel_of_pairwise_cons h2 ha)
      subst hab
      rw [rise_one anti (List.Perm.cons_inv hp) (List.Pairwise.of_cons h1) (List.Pairwise.of_cons h2)]
theorem anti_le (a b : Int) (h1 : a ≤ b) (h2 : b ≤ a) : a = b := by omega
theorem anti_leP (a b : Int × Int) (h1 : leP a b) (h2 : leP b a) : a = b := by
  unfold leP at *
  have : a.1 = b.1 ∧ a.2 = b.2 := by omega
  exact Prod.ext this.1 this.2
theorem sortI_is {l out : List Int} (hp : out.Perm l) (hs : out.Pairwise (· ≤ ·)) : sortI l = out := rise_one anti_le ((sortI_perm l).trans hp.symm) (sortI_sorted l) hs
theorem sortP_is {l out : List (Int × Int)} (hp : out.Perm l) (hs : out.Pairwise leP) : sortP l = out := rise_one anti_leP ((sortP_perm l).trans hp.symm) (sortP_sorted l) hs
theorem sortI_same {l m : List Int} (h1 : l.Nodup) (h2 : m.Nodup) (h : ∀ x, x ∈ l ↔ x ∈ m) : sortI l = sortI m := sortI_is ((sortI_perm m).trans ((List.perm_ext_iff_of_nodup h1 h2).2 h).symm) (sortI_sorted m)
theorem sortP_same {l m : List (Int × Int)} (h1 : l.Nodup) (h2 : m.Nodup) (h : ∀ x, x ∈ l ↔ x ∈ m) : sortP l = sortP m := sortP_is ((sortP_perm m).trans ((List.perm_ext_iff_of_nodup h1 h2).2 h).symm) (sortP_sorted m)

def ontoT (log : List (List Int)) (labels : List Int) : List (List Int) := log.map fun t => t.filter fun a => hasB labels a
end Go.Tok

namespace Go.Tok
set_option linter.unusedVariables false

def insI (x : Int) : List Int → List Int
  | [] => [x]
  | y :: r => if x ≤ y then x :: y :: r else y :: insI x r
def isI : List Int → List Int
  | [] => []
  | x :: r => insI x (isI r)
def lePB (a b : Int × Int) : Bool := decide (a.1 < b.1) || (decide (a.1 = b.1) && decide (a.2 ≤ b.2))
def insPr (x : Int × Int) : List (Int × Int) → List (Int × Int)
  | [] => [x]
  | y :: r => if lePB x y then x :: y :: r else y :: insPr x r
def isP : List (Int × Int) → List (Int × Int)
  | [] => []
  | x :: r => insPr x (isP r)
theorem insI_perm (x : Int) : ∀ l, (insI x l).Perm (x :: l)
  | [] => List.Perm.refl _
  | y :: r => by
    unfold insI
    split
    · exact List.Perm.refl _
    · exact (List.Perm.cons y (insI_perm x r)).trans (List.Perm.swap x y r)
theorem isI_perm : ∀ l, (isI l).Perm l
  | [] => List.Perm.refl _
  | x :: r => (insI_perm x _).trans (List.Perm.cons x (isI_perm r))
theorem insI_sorted (x : Int) : ∀ {l : List Int}, l.Pairwise (· ≤ ·) → (insI x l).Pairwise (· ≤ ·)
  | [], _ => List.pairwise_singleton _ _
  | y :: r, h => by
    unfold insI
    split
    · rename_i hxy
      refine List.pairwise_cons.2 ⟨fun z hz => ?_, h⟩
      rcases List.mem_cons.1 hz with rfl | hz
      · exact hxy
      · exact Int.le_trans hxy (List.rel_of_pairwise_cons h hz)
    · rename_i hxy
      refine List.pairwise_cons.2 ⟨fun z hz => ?_, insI_sorted x (List.Pairwise.of_cons h)⟩
      rcases List.mem_cons.1 ((insI_perm x r).mem_iff.1 hz) with rfl | hz
      · omega
      · exact List.rel_of_pairwise_cons h hz
theorem isI_sorted : ∀ l : List Int, (isI l).Pairwise (· ≤ ·)
  | [] => List.Pairwise.nil
  | x :: r => insI_sorted x (isI_sorted r)
theorem sortI_isI (l : List Int) : sortI l = isI l := sortI_is (isI_perm l) (isI_sorted l)
theorem insPr_perm (x : Int × Int) : ∀ l, (insPr x l).Perm (x :: l)
  | [] => List.Perm.refl _
  | y :: r => by
    unfold insPr
    split
    · exact List.Perm.refl _
    · exact (List.Perm.cons y (insPr_perm x r)).trans (List.Perm.swap x y r)
theorem isP_perm : ∀ l, (isP l).Perm l
  | [] => List.Perm.refl _
  | x :: r => (insPr_perm x _).trans (List.Perm.cons x (isP_perm r))
theorem lePB_iff {a b : Int × Int} : lePB a b = true ↔ leP a b := by simp [lePB, leP]
theorem leP_trans {a b c : Int × Int} (h1 : leP a b) (h2 : leP b c) : leP a c := by unfold leP at *; omega
theorem insPr_sorted (x : Int × Int) : ∀ {l : List (Int × Int)}, l.Pairwise leP → (insPr x l).Pairwise leP
  | [], _ => List.pairwise_singleton _ _
  | y :: r, h => by
    unfold insPr
    split
    · rename_i hxy
      refine List.pairwise_cons.2 ⟨fun z hz => ?_, h⟩
      rcases List.mem_cons.1 hz with rfl | hz
      · exact lePB_iff.1 hxy
      · exact leP_trans (lePB_iff.1 hxy) (List.rel_of_pairwise_cons h hz)
    · rename_i hxy
      have hxy' : leP y x := by
        have : ¬ leP x y := fun h => hxy (lePB_iff.2 h)
        unfold leP at *; omega
      refine List.pairwise_cons.2 ⟨fun z hz => ?_, insPr_sorted x (List.Pairwise.of_cons h)⟩
      rcases List.mem_cons.1 ((insPr_perm x r).mem_iff.1 hz) with rfl | hz
      · exact hxy'
      · exact List.rel_of_pairwise_cons h hz
theorem isP_sorted : ∀ l : List (Int × Int), (isP l).Pairwise leP
  | [] => List.Pairwise.nil
  | x :: r => insPr_sorted x (isP_sorted r)
theorem sortP_isP (l : List (Int × Int)) : sortP l = isP l := sortP_is (isP_perm l) (isP_sorted l)

/-- tracks.Of of a log that is right -/
def ofM (log : List (List Int)) : PrintD := ⟨isI (trkLog log).all, isI (trkLog log).first, isI (trkLog log).last, isP (trkLog log).behind⟩
theorem ofM_is {log : List (List Int)} (h : wrongT log = 0) : ofT log = (ofM log, 0) := by
  unfold ofT ofM
  rw [if_pos h, sortI_isI, sortI_isI, sortI_isI, sortP_isP]

def lk2 (lk : Int → Int → Bool) (a b : Int) : Bool := lk a b || lk b a
def groupF (lk : Int → Int → Bool) : Nat → List Int → Nat → List Int → List Int × List Int
  | 0, g, _, l => (g, l)
  | n + 1, g, k, l => if k < g.length then groupF lk n (g ++ l.filter fun b => lk2 lk (nth g k) b) (k + 1) (l.filter fun b => !lk2 lk (nth g k) b) else (g, l)
def groupsF (lk : Int → Int → Bool) : Nat → List Int → List (List Int)
  | 0, _ => []
  | _, [] => []
  | n + 1, a :: l => isI (groupF lk (l.length + 1) [a] 0 l).1 :: groupsF lk n (groupF lk (l.length + 1) [a] 0 l).2

def hasP (s : List (Int × Int)) (a b : Int) : Bool := decide ((a, b) ∈ s)
theorem hasP_iff {s : List (Int × Int)} {a b : Int} : hasP s a b = true ↔ (a, b) ∈ s := by simp [hasP]
def leadB (k a : Int) (s : List (Int × Int)) (b : Int) : List (Int × Int) := if hasP s a k && hasP s k b then ins s (a, b) else s
def leadA (ls : List Int) (k : Int) (s : List (Int × Int)) (a : Int) : List (Int × Int) := ls.foldl (leadB k a) s
def leadK (ls : List Int) (s : List (Int × Int)) (k : Int) : List (Int × Int) := ls.foldl (leadA ls k) s
def leadsF (p : PrintD) : List (Int × Int) := p.labels.foldl (leadK p.labels) (p.behind.foldl ins [])

/-- groups one behind the other -/
def insG (s : List (Int × Int)) (x : List Int) : List (List Int) → List (List Int)
  | [] => [x]
  | y :: r => if hasP s (nth x 0) (nth y 0) then x :: y :: r else y :: insG s x r
def sortG (s : List (Int × Int)) : List (List Int) → List (List Int)
  | [] => []
  | x :: r => insG s x (sortG s r)

inductive CutD where
  | leaf (b : BlockD)
  | opt (log : List (List Int))
  | node (kind : Int) (logs : List (List (List Int)))
def silentD : BlockD := .mk 1 0 []
def stepD (a : Int) : BlockD := .mk 2 a []
def manyD (k : Int) (ks : List BlockD) : BlockD := .mk k 0 ks
def chooseG (p : PrintD) : List (List Int) := groupsF (hasP p.behind) p.labels.length p.labels
def orderG (p : PrintD) : List (List Int) := groupsF (fun a b => hasP (leadsF p) a b == hasP (leadsF p) b a) p.labels.length p.labels
def besideG (p : PrintD) : List (List Int) := groupsF (fun a b => !hasP p.behind a b || !hasP p.behind b a) p.labels.length p.labels
def chooseF (p : PrintD) (log : List (List Int)) : Option (List (List (List Int))) :=
  if (chooseG p).length < 2 then none else some ((chooseG p).map fun g => log.filter fun t => hasB g (nth t 0))
def orderF (p : PrintD) (log : List (List Int)) : Option (List (List (List Int))) :=
  if (orderG p).length < 2 then none else some ((sortG (leadsF p) (orderG p)).map (ontoT log))
def meetsB (g l : List Int) : Bool := g.any (hasB l)
def apartB (p : PrintD) (g : List Int) : Bool := !meetsB g p.first || !meetsB g p.last
def besideF (p : PrintD) (log : List (List Int)) : Option (List (List (List Int))) :=
  if (besideG p).length < 2 ∨ (besideG p).any (apartB p) = true then none else some ((besideG p).map (ontoT log))
def flowerD (p : PrintD) : BlockD := manyD 6 [silentD, manyD 4 (p.labels.map stepD)]
def oneD (p : PrintD) (log : List (List Int)) : BlockD := if log.any (fun t => decide (1 < t.length)) then manyD 6 [stepD (nth p.labels 0), silentD] else stepD (nth p.labels 0)
def fullF (log : List (List Int)) : List (List Int) := log.filter fun t => !decide (t.length = 0)
def cutP (p : PrintD) (full : List (List Int)) : CutD :=
  if p.labels.length = 1 then .leaf (oneD p full)
  else match chooseF p full with
    | some ls => .node 4 ls
    | none => match orderF p full with
      | some ls => .node 3 ls
      | none => match besideF p full with
        | some ls => .node 5 ls
        | none => .leaf (flowerD p)
def cutF (log : List (List Int)) : CutD :=
  if (fullF log).length = 0 then .leaf silentD
  else if (fullF log).length < log.length then .opt (fullF log)
  else cutP (ofM (fullF log)) (fullF log)
def mineF0 : Nat → List (List Int) → BlockD
  | 0, _ => silentD
  | n + 1, log => match cutF log with
    | .leaf b => b
    | .opt l => manyD 4 [silentD, mineF0 n l]
    | .node k ls => manyD k (ls.map (mineF0 n))
/-- n is enough -/
def Fuel : Nat → List (List Int) → Prop
  | 0, _ => False
  | n + 1, log => match cutF log with
    | .leaf _ => True
    | .opt l => Fuel n l
    | .node _ ls => ∀ l ∈ ls, Fuel n l

theorem filter_split {α : Type} (p : α → Bool) : ∀ l : List α, (l.filter p ++ l.filter fun b => !p b).Perm l := by
  intro l
  induction l with
  | nil => simp
  | cons a l ih =>
    by_cases h : p a = true
    · rw [List.filter_cons_of_pos h, List.filter_cons_of_neg (by simp [h])]
      exact List.Perm.cons a ih
    · have h' : p a = false := by simpa using h
      rw [List.filter_cons_of_neg h, List.filter_cons_of_pos (by simp [h'])]
      exact List.perm_middle.trans (List.Perm.cons a ih)
theorem group_perm (lk : Int → Int → Bool) : ∀ (n : Nat) (g : List Int) (k : Nat) (l : List Int), ((groupF lk n g k l).1 ++ (groupF lk n g k l).2).Perm (g ++ l) := by
  intro n
  induction n with
  | zero => intro g k l; exact List.Perm.refl _
  | succ n ih =>
    intro g k l
    unfold groupF
    split
    · refine (ih _ _ _).trans ?_
      rw [List.append_assoc]
      exact List.Perm.append_left _ (filter_split _ l)
    · exact List.Perm.refl _
theorem group_head (lk : Int → Int → Bool) : ∀ (n : Nat) (g : List Int) (k : Nat) (l : List Int), ∃ r, (groupF lk n g k l).1 = g ++ r := by
  intro n
  induction n with
  | zero => intro g k l; exact ⟨[], by simp [groupF]⟩
  | succ n ih =>
    intro g k l
    unfold groupF
    split
    · obtain ⟨r, hr⟩ := ih (g ++ l.filter fun b => lk2 lk (nth g k) b) (k + 1) (l.filter fun b => !lk2 lk (nth g k) b)
      exact ⟨_, by rw [hr, List.append_assoc]⟩
    · exact ⟨[], by simp⟩
/-- of what is left nothing is linked to the group -/
theorem group_apart (lk : Int → Int → Bool) : ∀ (n : Nat) (g : List Int) (k : Nat) (l : List Int), g.length + l.length ≤ n + k → (∀ i, i < k → i < g.length → ∀ b ∈ l, lk2 lk (nth g i) b = false) →
    ∀ a ∈ (groupF lk n g k l).1, ∀ b ∈ (groupF lk n g k l).2, lk2 lk a b = false := by
  intro n
  induction n with
  | zero =>
    intro g k l hn h a ha b hb
    obtain ⟨i, hi, rfl⟩ := List.getElem_of_mem ha
    have hi' : i < g.length := hi
    have := h i (by omega) hi' b hb
    rwa [nth_lt hi'] at this
  | succ n ih =>
    intro g k l hn h
    unfold groupF
    split
    · rename_i hk
      have hlen : (g ++ l.filter fun b => lk2 lk (nth g k) b).length + (l.filter fun b => !lk2 lk (nth g k) b).length = g.length + l.length := by
        have := (filter_split (fun b => lk2 lk (nth g k) b) l).length_eq
        simp only [List.length_append] at *
        omega
      refine ih _ _ _ (by rw [hlen]; omega) ?_
      intro i hi hi2 b hb
      obtain ⟨hb1, hb2⟩ := List.mem_filter.1 hb
      have hg : ∀ j, j < g.length → nth (g ++ l.filter fun b => lk2 lk (nth g k) b) j = nth g j := fun j hj => by
        rw [nth_lt (by simp; omega), nth_lt hj, List.getElem_append_left hj]
      rw [hg i (by omega)]
      by_cases e : i = k
      · subst e; simpa using hb2
      · exact h i (by omega) (by omega) b hb1
    · rename_i hk
      intro a ha b hb
      obtain ⟨i, hi, rfl⟩ := List.getElem_of_mem ha
      have hi' : i < g.length := hi
      have := h i (by omega) hi' b hb
      rwa [nth_lt hi'] at this
theorem group_less (lk : Int → Int → Bool) (n : Nat) (a : Int) (l : List Int) : (groupF lk n [a] 0 l).2.length ≤ l.length := by
  have h := (group_perm lk n [a] 0 l).length_eq
  obtain ⟨r, hr⟩ := group_head lk n [a] 0 l
  rw [hr] at h
  simp at h
  omega
theorem groups_perm (lk : Int → Int → Bool) : ∀ (n : Nat) (l : List Int), l.length ≤ n → (groupsF lk n l).flatten.Perm l := by
  intro n
  induction n with
  | zero => intro l h; rw [show l = [] from List.eq_nil_of_length_eq_zero (by omega)]; exact List.Perm.refl _
  | succ n ih =>
    intro l h
    cases l with
    | nil => exact List.Perm.refl _
    | cons a l =>
      unfold groupsF
      rw [List.flatten_cons]
      have := group_less lk (l.length + 1) a l
      simp at h
      exact ((isI_perm _).append (ih _ (by omega))).trans (group_perm lk (l.length + 1) [a] 0 l)
theorem groups_ne (lk : Int → Int → Bool) : ∀ (n : Nat) (l : List Int), ∀ g ∈ groupsF lk n l, g ≠ [] := by
  intro n
  induction n with
  | zero => intro l g hg; cases hg
  | succ n ih =>
    intro l g hg
    cases l with
    | nil => cases hg
    | cons a l =>
      unfold groupsF at hg
      rcases List.mem_cons.1 hg with rfl | hg
      · intro e
        obtain ⟨r, hr⟩ := group_head lk (l.length + 1) [a] 0 l
        have := (isI_perm (groupF lk (l.length + 1) [a] 0 l).1).length_eq
        rw [e, hr] at this
        simp at this
      · exact ih _ g hg
theorem groups_sorted (lk : Int → Int → Bool) : ∀ (n : Nat) (l : List Int), ∀ g ∈ groupsF lk n l, g.Pairwise (· ≤ ·) := by
  intro n
  induction n with
  | zero => intro l g hg; cases hg
  | succ n ih =>
    intro l g hg
    cases l with
    | nil => cases hg
    | cons a l =>
      unfold groupsF at hg
      rcases List.mem_cons.1 hg with rfl | hg
      · exact isI_sorted _
      · exact ih _ g hg
/-- labels of two groups are not linked -/
theorem groups_apart (lk : Int → Int → Bool) : ∀ (n : Nat) (l : List Int), l.length ≤ n → (groupsF lk n l).Pairwise fun g h => ∀ a ∈ g, ∀ b ∈ h, lk2 lk a b = false := by
  intro n
  induction n with
  | zero => intro l h; exact List.Pairwise.nil
  | succ n ih =>
    intro l h
    cases l with
    | nil => exact List.Pairwise.nil
    | cons a l =>
      unfold groupsF
      have hl := group_less lk (l.length + 1) a l
      simp at h
      refine List.pairwise_cons.2 ⟨fun g hg x hx y hy => ?_, ih _ (by omega)⟩
      refine group_apart lk (l.length + 1) [a] 0 l (by simp; omega) (fun i hi => by omega) x ((isI_perm _).mem_iff.1 hx) y ?_
      exact (groups_perm lk n _ (by omega)).mem_iff.1 (List.mem_flatten.2 ⟨g, hg, hy⟩)
end Go.Tok

