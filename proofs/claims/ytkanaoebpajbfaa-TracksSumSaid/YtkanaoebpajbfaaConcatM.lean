/- Contracts of the library's slices.Grow (at nil) and slices.Concat at rows of ints. -/
import Derived.Test.YtkanaoebpajbfaaMatK
import Derived.Test.YtkanaoebpajbfaaGR
namespace Go.Tok
open Go.RowKit
set_option linter.unusedVariables false
/-- room for so many, or nothing at all -/
def RoomV (v : Value) (n tot : Nat) : Prop := (v = .slice none 0 0 ∧ tot = 0 ∧ n = 0) ∨ ∃ g cap, v = .slice (some ⟨g, 0, none⟩) n cap ∧ tot ≤ cap
theorem rows_at {w0 : World} {u : Value} {ys : List (List Int)} (h : Rd rowK w0 u ys) : ∃ us : List Value, us.length = ys.length ∧ (∀ ad n c, u = .slice (some ad) n c → ∀ j x, us[j]? = some x → w0.cell? (ad.add j) = some x) ∧ ∀ i, i < ys.length → Ints w0 (us.getD i (.slice none 0 0)) (ix ys i) := by
  obtain ⟨a, cap, rfl, _, _⟩ := h.len
  have hex : ∀ i, i < ys.length → ∃ x, (∀ ad n c, Value.slice a ys.length cap = .slice (some ad) n c → w0.cell? (ad.add i) = some x) ∧ Ints w0 x (ix ys i) := by
    intro i hi
    obtain ⟨b, o, x, rfl, hc, hI⟩ := h.row hi
    refine ⟨x, fun ad n c e => ?_, hI⟩
    cases e
    rw [add_none]
    exact hc
  obtain ⟨f, hf⟩ : ∃ f : Nat → Value, ∀ i, i < ys.length → (∀ ad n c, Value.slice a ys.length cap = .slice (some ad) n c → w0.cell? (ad.add i) = some (f i)) ∧ Ints w0 (f i) (ix ys i) :=
    ⟨fun i => if h : i < ys.length then (hex i h).choose else .slice none 0 0, fun i hi => by show _ ∧ _; dsimp only; rw [dif_pos hi]; exact (hex i hi).choose_spec⟩
  refine ⟨(List.range ys.length).map f, by simp, fun ad n c e j x hj => ?_, fun i hi => ?_⟩
  · rw [List.getElem?_map] at hj
    by_cases hl : j < ys.length
    · rw [List.getElem?_range hl] at hj
      have : f j = x := by simpa using hj
      rw [← this]
      exact (hf j hl).1 ad n c e
    · rw [List.getElem?_eq_none (by simpa using hl)] at hj
      cases hj
  · have : ((List.range ys.length).map f).getD i (.slice none 0 0) = f i := by simp [hi]
    rw [this]
    exact (hf i hi).2
theorem cellsOf_rowz (rows : List (List Int × List Value)) (zs : List (List Int)) (us : List Value) (h : us.length = zs.length) : cellsOf (rows ++ zs.zip (us.map fun u => [u])) = cellsOf rows ++ us := by
  unfold cellsOf
  rw [List.flatMap_append]
  congr 1
  induction zs generalizing us with
  | nil => cases us with
    | nil => rfl
    | cons u us => simp at h
  | cons z zs ih => cases us with
    | nil => simp at h
    | cons u us => simp only [List.map_cons, List.zip_cons_cons, List.flatMap_cons]; rw [ih us (by simpa using h)]; rfl
/-- 'append(out, ys...)' where there is room, of rows that lay there when the call began -/
theorem app_oldRow {P : Program} {t e : TypeId} {bytes : Nat} {z : Value} (T : KTy P t e rowK bytes z) {w0 w : World} {ops : Array Oper} {rest : List Oper} {o : Oper} {a : Act} {Q : Exit → Act → World → Prop} (s x : Operand)
    (v u : Value) (xs ys : List (List Int)) (tot : Nat) (hg : o.guard = none) (hop : o.op = .call { callee := .builtin .append, args := #[s, x], argTypes := #[t, t] }) (hs : a.eval s = v) (hx : a.eval x = u) (hown : OwnR rowK e w0.heap.size (fun b => b < w0.heap.size) w v xs) (hsrc : Rd rowK w0 u ys) (h0 : Gr w0 w)
    (hroom : RoomV v xs.length tot) (hn : xs.length + ys.length ≤ tot)
    (hK : ∀ v' w', OwnR rowK e w0.heap.size (fun b => b < w0.heap.size) w' v' (xs ++ ys) → RoomV v' (xs.length + ys.length) tot → Gr w0 w' → wpList P ops Q rest (a.put o.dst v') w') : wpList P ops Q (o :: rest) a w := by
  obtain ⟨i, hi, hz, hsz, hb⟩ := info_parts T.info
  obtain ⟨us, hul, hcell, hI⟩ := rows_at hsrc
  obtain ⟨ua, uc, rfl, huc, huc2⟩ := hsrc.len
  unfold OwnR at hown
  obtain ⟨rows, rfl, hr, hall⟩ := hown
  have hS : rowK.size = 1 := rfl
  rw [List.length_map] at hroom hn hK
  have hone : ∀ x ∈ us, x.oneCell' = true := by
    intro y hy
    obtain ⟨j, hj, rfl⟩ := List.getElem_of_mem hy
    have := hI j (by omega)
    rw [show us.getD j (.slice none 0 0) = us[j] by simp [hj]] at this
    obtain ⟨_, _, e, _⟩ := this.len
    rw [e]; rfl
  have hone2 : ∀ (w' : World) (v' : Value), w.grownBy w' v.ownBlock → (v'.ownBlock = v.ownBlock ∨ (v.ownBlock = none ∧ v'.ownBlock = none)) → w'.ownsRow w0.heap.size e 1 v' (rows.length + ys.length) (cellsOf rows ++ us) → OwnR rowK e w0.heap.size (fun b => b < w0.heap.size) w' v' (rows.map (·.1) ++ ys) := by
    intro w' v' hgr hat ho'
    have hvo : v'.ownBlock = v.ownBlock := by rcases hat with h | ⟨h1, h2⟩; exact h; rw [h1, h2]
    unfold OwnR
    refine ⟨rows ++ ys.zip (us.map fun u => [u]), ?_, ?_, fun r hr' => ?_⟩
    · rw [List.map_append, List.map_fst_zip (by simp; omega)]
    · rw [List.length_append, List.length_zip, List.length_map, hul, Nat.min_self, cellsOf_rowz rows ys us hul]; exact ho'
    · have key : On (fun b => b < w0.heap.size ∧ v.ownBlock ≠ some b) (fun w => rowK.R w r.2 r.1) w := by
        rcases List.mem_append.1 hr' with h | h
        · exact hall r h
        · obtain ⟨j, hj, rfl⟩ := List.getElem_of_mem h
          rw [List.length_zip, List.length_map] at hj
          have h1 := hI j (by omega)
          rw [ix_lt (by omega), show us.getD j (.slice none 0 0) = us[j]'(by omega) by simp [show j < us.length by omega]] at h1
          rw [List.getElem_zip, List.getElem_map]
          have h2 : On (fun b => b < w0.heap.size) (fun w => Ints w (us[j]'(by omega)) (ys[j]'(by omega))) w := on_old (fun _ _ k h => h.kp k) h1 h0.kp
          refine (h2.imp fun w hw => ?_).mono fun b _ hb => ⟨hb, fun e => ?_⟩
          · exact ⟨_, rfl, hw⟩
          · have := (hr.lt b e).1
            omega
      refine key.moved hgr.size fun b hb hs => ⟨⟨hs.1, by rw [hvo]; exact hs.2⟩, hgr.block b hb (fun e => hs.2 e.symm)⟩
  rcases hroom with ⟨rfl, rfl, hl0⟩ | ⟨g, cap, rfl, hcap⟩
  · have hy0 : ys = [] := List.eq_nil_of_length_eq_zero (by omega)
    have hr0 : rows = [] := List.eq_nil_of_length_eq_zero hl0
    subst hy0 hr0
    obtain rfl : us = [] := List.eq_nil_of_length_eq_zero (by simpa using hul)
    cases ua with
    | none =>
      obtain rfl : uc = 0 := by
        unfold Rd at hsrc
        obtain ⟨a', c', e1, _, _, e2, _⟩ := hsrc
        cases e1
        exact e2 rfl
      refine wpList_append_own_none hg s x t hop w0.heap.size e i rowK.size T.und hi _ 0 _ hs hr hx ?_
      exact hK _ w (by unfold OwnR; exact ⟨[], rfl, hr, fun r h => by cases h⟩) (.inl ⟨rfl, rfl, rfl⟩) h0
    | some ad =>
      refine wpList_append_own_at w hg s x t hop w0.heap.size e i z rowK.size bytes T.und hi hz hsz hb T.zs T.pos _ 0 _ hs hr ad 0 uc [] hx rfl (fun j u h => by simp at h) (fun u h => by cases h) (by unfold maxLen; omega) (by omega) h0.le ?_
      intro v' w' ho' hgr hnil hat
      have hv' := hnil.2 ⟨rfl, rfl⟩
      subst hv'
      exact hK _ w' (hone2 w' _ hgr (.inl rfl) ho') (.inl ⟨rfl, rfl, rfl⟩) (h0.grown hgr fun k hk => by cases hk)
  · cases ua with
    | none =>
      obtain rfl : uc = 0 := by
        unfold Rd at hsrc
        obtain ⟨a', c', e1, _, _, e2, _⟩ := hsrc
        cases e1
        exact e2 rfl
      have hy0 : ys = [] := List.eq_nil_of_length_eq_zero (by omega)
      subst hy0
      obtain rfl : us = [] := List.eq_nil_of_length_eq_zero (by simpa using hul)
      refine wpList_append_own_none hg s x t hop w0.heap.size e i rowK.size T.und hi _ rows.length _ hs hr hx ?_
      exact hK _ w (by unfold OwnR; exact ⟨rows, by simp, hr, hall⟩) (.inr ⟨g, cap, rfl, hcap⟩) h0
    | some ad =>
      refine Go.wpList_append_fits w hg s x t hop w0.heap.size e i rowK.size T.und hi hsz g rows.length cap _ hs hr ad ys.length uc us hx (by rw [hS]; omega) (fun j y hj => ?_) hone (by omega) ?_
      · exact cell_gr (hcell ad _ _ rfl j y hj) h0
      · intro w' ho' hgr
        refine hK _ w' (hone2 w' _ hgr (.inl rfl) ho') (.inr ⟨g, cap, rfl, hcap⟩) (h0.grown hgr fun k hk => by have := hr.lt k hk; exact this.1)
end Go.Tok
namespace Go.Proofs.Ytkanaoebpajbfaa
open Go.RowKit Go.Tok
set_option linter.unusedVariables false
set_option maxHeartbeats 1000000 in
theorem GrowM_calls (n : Nat) (w : World) (hn : n ≤ 11728124029610) :
    Calls Try.prog 86 #[.slice none 0 0, .int .i64 n] w fun e w' => ∃ v', e = .returned v' ∧ OwnR rowK 25 w.heap.size (fun b => b < w.heap.size) w' v' [] ∧ RoomV v' 0 n ∧ Gr w w' := by
  have T := rowTy
  by_cases h0 : n = 0
  · subst h0
    go_enter Try.func86, Try.ntmps86
    go_wp2
    go_ret
    exact ⟨_, rfl, OwnR.nil _ _ _ _, .inl ⟨rfl, rfl, rfl⟩, Gr.refl _⟩
  · obtain ⟨cap, w', hr, h1, h2, ho, g⟩ := own_roomK (w := w) (tn := 3) T Try.underlying3 (show 0 < n by omega) (by omega) (by unfold maxLen; omega)
    have HR := Lib.hid hr
    clear hr
    have hn0 : 0 < n := by omega
    have q : ((n : Int) > 0) := by omega
    go_enter Try.func86, Try.ntmps86
    go_wp2_with (at_builtin; refine Lib.wpList_append_run _ rfl _ _ _ _ rfl _ _ (by rfl) (by rfl) _ _ (HR.out _) ?_)
    go_ret
    exact ⟨_, rfl, ho _, .inr ⟨_, _, rfl, h1⟩, g⟩
set_option maxHeartbeats 2000000 in
theorem ConcatM_calls (v : Value) (l : List (List (List Int))) (w : World) (hv : MatK rowK w v l) (hl : l.flatten.length ≤ 11728124029610) :
    Calls Try.prog 30 #[v] w fun e w' => ∃ v', e = .returned v' ∧ Rd rowK w' v' l.flatten ∧ Gr w w' := by
  have T := rowTy
  obtain ⟨a, cap, rfl, hlc, hcap⟩ := hv.len
  have hsum := sumK_all l
  have hle : ∀ k, sumK l k ≤ 11728124029610 := fun k => by have := sumK_le l k; omega
  have HLT := Lib.hid (fun k => sumK_le l k)
  have HLE := Lib.hid hle
  have HSUM := Lib.hid hsum
  clear hsum hle
  go_enter Try.func30, Try.ntmps30
  go_wp2
  go_loop [3, 11] (fun s i => ∃ k : Nat, k ≤ l.length ∧ i = .int .i64 k ∧ s = .int .i64 (sumK l k)) (fun _ i => l.length - (intOf i).toNat)
  case atStart => exact ⟨0, Nat.zero_le _, rfl, by rw [sumK_zero]; rfl⟩
  case round =>
    obtain ⟨k, hk, rfl, rfl⟩ := hrel
    have b1 := HLE.out k
    by_cases hlt : k < l.length
    · obtain ⟨b, o, u, rfl, hc, hu⟩ := hv.at_ hlt
      obtain ⟨ua, uc, rfl, ul, ul'⟩ := hu.len
      have b2 := HLE.out (k + 1)
      have hs := sumK_succ hlt
      have b3 : sumK l k + (ix l k).length ≤ 11728124029610 := by rw [← hs]; exact b2
      have HS := Lib.hid hs
      clear hs
      go_wp2
      go_round
      case rel => exact ⟨k + 1, by omega, by go_num, by rw [HS.out]; go_num⟩
      case measure => simp [intOf]; omega
    · obtain rfl : k = l.length := by omega
      go_wp2_with fail
      refine (GrowM_calls _ _ b1).mono ?_
      rintro _ w1 ⟨v1, rfl, o1, r1, g1⟩
      go_wp2_with fail
      go_loopw [6, 27] (fun out i wr => ∃ k : Nat, k ≤ l.length ∧ i = .int .i64 k ∧ OwnR rowK 25 w.heap.size (fun b => b < w.heap.size) wr out (flatK l k) ∧ RoomV out (flatK l k).length (sumK l l.length) ∧ Gr w wr) (fun _ i _ => l.length - (intOf i).toNat)
      case atStart => exact ⟨0, Nat.zero_le _, rfl, by rw [flatK_zero]; exact o1, by rw [flatK_zero]; exact r1, g1⟩
      case round =>
        rename_i wr _
        obtain ⟨k, hk, rfl, ho, hro, hgr⟩ := hrel
        have hv2 := hv.gr hgr
        by_cases hlt : k < l.length
        · obtain ⟨b, o, u, rfl, hc, hu⟩ := hv.at_ hlt
          have hc2 := cell_gr hc hgr
          have hs := sumK_succ hlt
          have b3 : (flatK l k).length + (ix l k).length ≤ sumK l l.length := by rw [flatK_len, ← hs]; exact HLT.out _
          have HF := Lib.hid (flatK_succ hlt)
          clear hs
          go_wp2_with (at_builtin; go_loud (refine app_oldRow T _ _ _ u (flatK l k) (ix l k) (sumK l l.length) (by rfl) (by rfl) (by rfl) (by rfl) ho hu hgr hro b3 ?_; intro v' w' ho' hr' hg'))
          go_roundw
          case rel => exact ⟨k + 1, by omega, by go_num, by rw [HF.out]; exact ho', by rw [HF.out, List.length_append]; exact hr', hg'⟩
          case measure => simp [intOf]; omega
        · obtain rfl : k = l.length := by omega
          have HA := Lib.hid (flatK_all l)
          go_wp2_with fail
          go_ret
          exact ⟨_, rfl, by rw [← HA.out]; exact ho.rd, hgr⟩
end Go.Proofs.Ytkanaoebpajbfaa
