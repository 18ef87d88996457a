/- The library's IndexFunc and ContainsFunc at knots whose marks lie in blocks of their own, where the function that is handed over writes behind the mark that it is given; the closure of CoverBounded that does so. -/
import Derived.Test.YtkanaoebpajbfaaKnotFn
import Derived.Test.YtkanaoebpajbfaaRowO
import Derived.Test.YtkanaoebpajbfaaGM
import Derived.Test.YtkanaoebpajbfaaPA
namespace Go.Tok
open Go.RowKit
set_option linter.unusedVariables false
/-- the knots from k on stand as they stood -/
structure KI (eI B : Nat) (w0 : World) (xs : List (KnotD × Value)) (kb k : Nat) (W : World) : Prop where
  cells : ∀ j, j < xs.length → W.cell? ⟨kb, j * 3, none⟩ = some (.int .i64 (ix xs j).1.up) ∧ W.cell? ⟨kb, j * 3 + 1, none⟩ = some (.int .i64 (ix xs j).1.tran) ∧ W.cell? ⟨kb, j * 3 + 2, none⟩ = some (ix xs j).2
  own : ∀ j, k ≤ j → j < xs.length → OwnI eI B W (ix xs j).2 (ix xs j).1.mark
  gr : ∀ a : World, a.heap.size ≤ B → Gr a w0 → Gr a W
  le : B ≤ W.heap.size
section
variable {eI B kb k cap : Nat} {w0 W W' : World} {xs : List (KnotD × Value)}
theorem KI.start {eK tb n : Nat} (h : OwnR (knO eI B) eK B (fun b => b ≠ tb) W (.slice (some ⟨kb, 0, none⟩) n cap) xs) (hB : B ≤ W.heap.size) : KI eI B W xs kb 0 W := by
  refine ⟨fun j hj => ?_, fun j _ hj => ?_, fun a _ g => g, hB⟩
  · obtain ⟨vs, hR, hc⟩ := h.at_ hj
    obtain ⟨rfl, _⟩ := hR.now
    have e : (knO eI B).size = 3 := rfl
    rw [e] at hc
    exact ⟨hc 0 _ rfl, hc 1 _ rfl, hc 2 _ rfl⟩
  · obtain ⟨vs, hR, _⟩ := h.at_ hj
    exact hR.now.2
theorem KI.mv (h : KI eI B w0 xs kb k W) (g : Gr W W') : KI eI B w0 xs kb k W' :=
  ⟨fun j hj => ⟨cell_gr (h.cells j hj).1 g, cell_gr (h.cells j hj).2.1 g, cell_gr (h.cells j hj).2.2 g⟩, fun j h1 h2 => (h.own j h1 h2).gr g, fun a ha ga => (h.gr a ha ga).trans g, Nat.le_trans h.le g.le⟩
theorem KI.next (h : KI eI B w0 xs kb k W) (hk : k < xs.length) (hdis : ∀ i j, i < xs.length → j < xs.length → i ≠ j → ∀ b, (ix xs i).2.ownBlock = some b → (ix xs j).2.ownBlock ≠ some b) (hkv : ∀ i, i < xs.length → ∀ b, (ix xs i).2.ownBlock = some b → some kb ≠ some b)
    (kp : Kp (fun c => (ix xs k).2.ownBlock ≠ some c) W W') (g : ∀ a : World, a.heap.size ≤ B → Gr a W → Gr a W') : KI eI B w0 xs kb (k + 1) W' := by
  refine ⟨fun j hj => ?_, fun j h1 h2 => ?_, fun a ha ga => g a ha (h.gr a ha ga), Nat.le_trans h.le (by unfold Kp at kp; exact kp.1)⟩
  · have hb : (ix xs k).2.ownBlock ≠ some kb := fun e => hkv k hk kb e rfl
    exact ⟨cell_kp kp (h.cells j hj).1 hb, cell_kp kp (h.cells j hj).2.1 hb, cell_kp kp (h.cells j hj).2.2 hb⟩
  · exact ((h.own j (by omega) h2).on_block.kp (kp.mono fun b _ hb e => hdis j k h2 hk (by omega) b hb e)).now
end
end Go.Tok
namespace Go.Proofs.Ytkanaoebpajbfaa
open Go.RowKit Go.Tok
set_option linter.unusedVariables false
/-- what the closure does at one knot -/
def WritesKn (P : Program) (g : Nat) (eI B : Nat) (p : KnotD → Bool) (ks : List KnotD) : Prop :=
  ∀ (W : World) (u : Value) (x : KnotD), x ∈ ks → B ≤ W.heap.size → OwnI eI B W u x.mark → Calls P g #[.agg #[.int .i64 x.up, .int .i64 x.tran, u]] W fun e w' => e = .returned (.bool (p x)) ∧ Kp (fun c => u.ownBlock ≠ some c) W w' ∧ ∀ a : World, a.heap.size ≤ B → Gr a W → Gr a w'
set_option maxHeartbeats 2000000 in
theorem IndexFuncO_calls (kb cap B : Nat) (xs : List (KnotD × Value)) (ks : List KnotD) (g : Nat) (p : KnotD → Bool) (w : World) (eg : ∀ args w, (callFunc g args).run Try.prog w = .ok (.enter g args) w)
    (hks : ks = xs.map (·.1)) (hv : KI 3 B w xs kb 0 w) (hc1 : ks.length ≤ cap) (hc2 : cap ≤ 9223372036854775807)
    (hdis : ∀ i j, i < xs.length → j < xs.length → i ≠ j → ∀ b, (ix xs i).2.ownBlock = some b → (ix xs j).2.ownBlock ≠ some b) (hkv : ∀ i, i < xs.length → ∀ b, (ix xs i).2.ownBlock = some b → some kb ≠ some b) (hg : WritesKn Try.prog g 3 B p ks) :
    Calls Try.prog 49 #[.slice (some ⟨kb, 0, none⟩) ks.length cap, .func (.func g) #[] #[]] w fun e w' => e = .returned (.int .i64 (firstI p ks)) ∧ ∀ a : World, a.heap.size ≤ B → Gr a w → Gr a w' := by
  have hL : xs.length = ks.length := by rw [hks, List.length_map]
  have hfst : ∀ j, j < ks.length → (ix xs j).1 = ix ks j := fun j hj => by rw [hks, ix_lt (by omega), ix_lt (by rw [List.length_map]; omega), List.getElem_map]
  have HL := Lib.hid hL
  have HF := Lib.hid hfst
  have HD := Lib.hid (And.intro hdis hkv)
  clear hks hL hfst hdis hkv
  go_enter Try.func49, Try.ntmps49
  go_wp2
  go_loopw [8] (fun i wr => ∃ k : Nat, k ≤ ks.length ∧ i = .int .i64 k ∧ NoneI p ks k ∧ KI 3 B w xs kb k wr) (fun i _ => ks.length - (intOf i).toNat)
  case atStart => exact ⟨0, Nat.zero_le _, rfl, NoneI.zero _ _, hv⟩
  case round =>
    rename_i wr _
    obtain ⟨k, hk, rfl, hall, hKI⟩ := hrel
    by_cases hlt : k < ks.length
    · have hltx : k < xs.length := by rw [HL.out]; exact hlt
      obtain ⟨c0, c1, c2⟩ := hKI.cells k hltx
      have hO := hKI.own k (Nat.le_refl _) hltx
      have hnx := fun W' => hKI.next (W' := W') hltx HD.out.1 HD.out.2
      rw [HF.out k hlt] at c0 c1 hO
      obtain ⟨u, hu⟩ : ∃ u, u = (ix xs k).2 := ⟨_, rfl⟩
      rw [← hu] at c2 hO hnx
      clear hu
      have hcall := hg wr u (ix ks k) (ix_mem hlt) hKI.le hO
      have HGR := Lib.hid hKI.gr
      obtain ⟨ua, uc, rfl, _, _⟩ := hO.ints.len
      have HNX := Lib.hid hnx
      clear hnx hO hKI
      cases hb : p (ix ks k)
      · rw [hb] at hcall
        go_wp2_with (go_at_fn g; refine hcall.mono ?_; rintro e w' ⟨rfl, g2, g3⟩)
        go_roundw
        case rel => exact ⟨k + 1, by omega, by go_num, hall.succ hb, HNX.out _ g2 g3⟩
        case measure => simp [intOf]; omega
      · rw [hb] at hcall
        go_wp2_with (go_at_fn g; refine hcall.mono ?_; rintro e w' ⟨rfl, g2, g3⟩)
        go_ret
        exact ⟨ret_i64 (firstI_hit hall hlt hb).symm, fun a ha ga => g3 a ha (HGR.out a ha ga)⟩
    · obtain rfl : k = ks.length := by omega
      have HGR := Lib.hid hKI.gr
      clear hKI
      go_wp2
      go_ret
      exact ⟨ret_i64 (firstI_miss hall).symm, HGR.out⟩
set_option maxHeartbeats 2000000 in
theorem ContainsFuncO_calls (kb cap B : Nat) (xs : List (KnotD × Value)) (ks : List KnotD) (g : Nat) (p : KnotD → Bool) (w : World) (eg : ∀ args w, (callFunc g args).run Try.prog w = .ok (.enter g args) w)
    (hks : ks = xs.map (·.1)) (hv : KI 3 B w xs kb 0 w) (hc1 : ks.length ≤ cap) (hc2 : cap ≤ 9223372036854775807)
    (hdis : ∀ i j, i < xs.length → j < xs.length → i ≠ j → ∀ b, (ix xs i).2.ownBlock = some b → (ix xs j).2.ownBlock ≠ some b) (hkv : ∀ i, i < xs.length → ∀ b, (ix xs i).2.ownBlock = some b → some kb ≠ some b) (hg : WritesKn Try.prog g 3 B p ks) :
    Calls Try.prog 11 #[.slice (some ⟨kb, 0, none⟩) ks.length cap, .func (.func g) #[] #[]] w fun e w' => e = .returned (.bool (ks.any p)) ∧ ∀ a : World, a.heap.size ≤ B → Gr a w → Gr a w' := by
  have HC := Lib.hid (IndexFuncO_calls kb cap B xs ks g p w eg hks hv hc1 hc2 hdis hkv hg)
  clear hks hv hdis hkv hg
  go_enter Try.func11, Try.ntmps11
  go_wp2_with (go_at_call 49; refine HC.out.mono ?_; rintro e w' ⟨rfl, g1⟩)
  go_ret
  exact ⟨ret_bool (firstI_any p ks), g1⟩
def overB (k : KnotD) : Bool := decide (1000000 < maxF (k.mark ++ [0]))
set_option maxHeartbeats 2000000 in
theorem over2_writes (B : Nat) (ks : List KnotD) (hl : ∀ k ∈ ks, k.mark.length ≤ 100) : WritesKn Try.prog 15 3 B overB ks := by
  intro W u k hk hB hO
  have hkl := hl k hk
  have T := intTy
  obtain ⟨ua, uc, rfl, _, _⟩ := hO.ints.len
  have GA : Gr W (W.alloc (.cells #[.int .i64 k.up, .int .i64 k.tran, .slice ua k.mark.length uc] 33)) := (Gr.refl _).alloc _
  have K2 : (W.alloc (.cells #[.int .i64 k.up, .int .i64 k.tran, .slice ua k.mark.length uc] 33)).cell? ⟨W.heap.size, 2, none⟩ = some (.slice ua k.mark.length uc) := box_cell (Gr.refl _) (i := 2) rfl
  obtain ⟨q, hq⟩ : ∃ q, q = overB k := ⟨_, rfl⟩
  rw [← hq]
  have HQ := Lib.hid hq
  clear hq
  go_enter Try.func15, Try.ntmps15
  go_wp2_with (at_builtin; refine app_int T _ _ B _ k.mark ⟨W.heap.size + 1, 0, none⟩ 0 (by rfl) (by rfl) (by rfl) (by rfl) ((hO.gr GA).alloc _) (lit_cell (by simp)) (by decide) (by omega) (by simp; omega) ?_; intro v' w' ho2 hg' hgb hat)
  have G2 : Gr W ((W.alloc (.cells #[.int .i64 k.up, .int .i64 k.tran, .slice ua k.mark.length uc] 33)).alloc (.cells #[.int .i64 0] 3)) := GA.alloc _
  have KP : Kp (fun c => (Value.slice ua k.mark.length uc).ownBlock ≠ some c) W w' := by
    refine (G2.kp (S := fun c => (Value.slice ua k.mark.length uc).ownBlock ≠ some c)).trans (grown_kp hgb fun b hb e => hb e.symm)
  have HKP := Lib.hid KP
  have HGR : Hid (∀ a : World, a.heap.size ≤ B → Gr a W → Gr a w') := Lib.hid fun a ha ga => hg' a ha (ga.trans G2)
  have HMX := Lib.hid (Max_calls v' (k.mark ++ [0]) w' ho2.ints (by simp))
  have HQ2 : Hid (decide (1000000 < maxF (k.mark ++ [0])) = q) := Lib.hid (by rw [HQ.out]; rfl)
  clear ho2 hg' hgb hat GA K2 G2 KP hO
  refine HMX.out.mono ?_
  rintro _ w2 ⟨rfl, rfl⟩
  generalize maxF (k.mark ++ [0]) = M at HQ2 ⊢
  cases q
  · have t1 : ¬ (1000000 < M) := by simpa using HQ2.out
    have t2 : decide (1000000 < M) = false := HQ2.out
    go_wp2_with fail
    go_ret
    exact ⟨rfl, HKP.out, HGR.out⟩
  · have t1 : 1000000 < M := by simpa using HQ2.out
    have t2 : decide (1000000 < M) = true := HQ2.out
    go_wp2_with fail
    go_ret
    exact ⟨rfl, HKP.out, HGR.out⟩
end Go.Proofs.Ytkanaoebpajbfaa
