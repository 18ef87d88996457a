/- The way up in cover.Tree: the closure that ahead hands out is an iterator with a captured cell (SeqS). -/
import Derived.RangeFuncCalls
import Derived.RangeFuncLeaves
import Derived.Shelf.Abstract
import Derived.Shelf.RegionOpen
import Derived.WalkKit
import Derived.OwnWalkIn
import Derived.TacticsInMore
import Derived.LoopNIn
import Derived.LoopIn
import Derived.Test.YtkanaoebpajbfaaKnot
import Derived.Test.YtkanaoebpajbfaaCover1
namespace Go.Proofs.Ytkanaoebpajbfaa
open Go.RowKit Go.Tok Go.Shelf
set_option linter.unusedVariables false
set_option linter.unusedSimpArgs false
attribute [local go_sem] Oper.semAt_some
/-- what the iterator reads: the box of the tree's pointer, the tree, the knots; and its own cell -/
def AheadR (tx tb kn kb : Nat) (b : Nat) : Prop := b = tx ∨ b = tb ∨ b = kn ∨ b = kb
def AheadAt (w : World) (tx tb kn ko kc : Nat) (ks : List KnotD) (mv : Nat → Value) : Prop :=
  w.cell? ⟨tx, 0, none⟩ = some (.pointer (some ⟨tb, 0, none⟩)) ∧ w.cell? ⟨tb, 2, none⟩ = some (.slice (some ⟨kn, ko, none⟩) ks.length kc) ∧ KnAt w kn ko ks mv
theorem AheadAt.kp {S : Nat → Prop} {w w' : World} {tx tb kn ko kc : Nat} {ks : List KnotD} {mv : Nat → Value} (h : AheadAt w tx tb kn ko kc ks mv) (k : Kp S w w') (h1 : S tx) (h2 : S tb) (h3 : S kn) : AheadAt w' tx tb kn ko kc ks mv :=
  ⟨cell_kp k h.1 h1, cell_kp k h.2.1 h2, h.2.2.kp k h3⟩
/-- how far up it may still go -/
def aheadMu (kb : Nat) (w : World) : Nat := match w.cell? ⟨kb, 0, none⟩ with
  | some v => (intOf v + 1).toNat
  | none => 0
theorem aheadMu_eq {kb : Nat} {w : World} {k : Int} (h : w.cell? ⟨kb, 0, none⟩ = some (.int .i64 k)) : aheadMu kb w = (k + 1).toNat := by unfold aheadMu; rw [h]; simp [intOf]
theorem chain_step {ks : List KnotD} {k : Int} {j : Nat} {l : List Nat} (h : ChainK ks k (j :: l)) : k = (j : Int) ∧ j < ks.length ∧ ChainK ks (ix ks j).up l := h
set_option maxRecDepth 100000 in
set_option maxHeartbeats 2000000 in
theorem ahead1_seq (n : Nat) (hn : 1 ≤ n) {tx tb kn ko kc kb : Nat} {ks : List KnotD} {mv : Nat → Value} {k0 : Int} {l0 : List Nat} (w : World) (hch : ChainK ks k0 l0)
    (hA : AheadAt w tx tb kn ko kc ks mv) (hk : w.cell? ⟨kb, 0, none⟩ = some (.int .i64 k0)) (hkf : w.frozen? ⟨kb, 0, none⟩ = false) (h1 : kb ≠ tx) (h2 : kb ≠ tb) (h3' : kb ≠ kn) (hlt0 : kb < w.heap.size ∧ tx < w.heap.size ∧ tb < w.heap.size ∧ kn < w.heap.size) (hlen : ks.length ≤ 1000) (hup : UpOk ks) :
    SeqS Fence.wide n Try.prog 155 #[.pointer (some ⟨kb, 0, none⟩), .pointer (some ⟨tx, 0, none⟩)] (fun j : Nat => #[mv j]) (AheadR tx tb kn kb) kb (fun xs => xs = l0) (fun pre => pre <+: l0) w := by
  intro l J Jx W hW hJ hJx hY h0
  refine callsIn_of_wp Try.func155 rfl trivial ?_ rfl
  simp only [Try.ntmps155, List.size_toArray, List.length_cons, List.length_nil, Nat.reduceAdd, Nat.reduceSub, Array.replicate_succ, Array.replicate_zero, List.push_toArray, List.append_toArray, List.nil_append, List.cons_append]
  have hA0 := hA.kp hW hlt0.2.1 hlt0.2.2.1 hlt0.2.2.2
  have hk0 := cell_kp hW hk hlt0.1
  have hf0 : W.frozen? ⟨kb, 0, none⟩ = false := (World.frozen?_of_block (hW.block hlt0.1 hlt0.1)).trans hkf
  clear hA hk hkf
  have HJ := Lib.hid hJ
  have HJX := Lib.hid hJx
  have HY := Lib.hid hY
  have HUP := Lib.hid hup
  clear hJ hJx hY hup hlt0
  gi_wp2
  gi_loopw [4] (fun p wr => ∃ (pre rest : List Nat) (k : Int), (∃ v : Value, p = v) ∧ l0 = pre ++ rest ∧ ChainK ks k rest ∧ wr.cell? ⟨kb, 0, none⟩ = some (.int .i64 k) ∧ wr.frozen? ⟨kb, 0, none⟩ = false ∧ AheadAt wr tx tb kn ko kc ks mv ∧ J pre wr) (fun _ wr => aheadMu kb wr)
  case atStart => exact ⟨[], l0, k0, ⟨_, rfl⟩, rfl, hch, hk0, hf0, hA0, h0⟩
  case round =>
    rename World => wr
    obtain ⟨pre, rest, k, -, hx, hc, hkc, hfc, hA, hJs⟩ := hrel
    cases rest with
    | nil =>
      have hk : k < 0 := hc
      have hk2 : ¬ (0 ≤ k) := by omega
      clear hA
      have hp : l0 = pre := by rw [hx]; simp
      have HP := Lib.hid hp
      clear hp hx
      gi_wp2
      go_end0
      first | exact ⟨⟨_, rfl⟩, .inl ⟨_, HP.out.symm, hJs⟩⟩ | exact ⟨⟨_, rfl⟩, .inl (HP.out ▸ hJs)⟩
    | cons j rest =>
      obtain ⟨rfl, hj, hc⟩ := chain_step hc
      have HA := Lib.hid hA
      have HK := Lib.hid hkc
      have HF := Lib.hid hfc
      have HX := Lib.hid hx
      have HC := Lib.hid hc
      obtain ⟨a1, a2, a3⟩ := hA
      obtain ⟨b1, b2⟩ := a3 j hj
      clear a3
      have hj0 : (0 : Int) ≤ (j : Int) := by omega
      have hjI : (j : Int) < (ks.length : Int) := by omega
      obtain ⟨fn, tmps, assign, body, hy, hR⟩ := HY.out pre j wr.drew (HJ.out _ _ _ hJs ((Gr.refl wr).drew).kpb) ⟨rest, by rw [HX.out]; simp⟩
      clear hx hc
      have hmx : Try.prog.follows .mixedOrders = true := by kernel_rfl
      have hRb := hR.mono (R' := fun e W' => ∃ b, e = .returned (.bool b) ∧ ((b = true ∧ J (pre ++ [j]) W' ∧ Kp (AheadR tx tb kn kb) wr.drew W') ∨ (b = false ∧ Jx (pre ++ [j]) W'))) (by
        rintro e W' (⟨rfl, h⟩ | ⟨rfl, h⟩)
        · exact ⟨true, rfl, .inl ⟨rfl, h⟩⟩
        · exact ⟨false, rfl, .inr ⟨rfl, h⟩⟩)
      clear hR
      gi_wp2
      gi_region_with_o (refine hRb.mono ?_; clear hRb; rintro e W3 ⟨b, rfl, h3⟩)
      · skip
        clear a1 a2 b1 b2 hkc hfc
        rcases h3 with ⟨rfl, hJ3, hk3⟩ | ⟨rfl, hJx3⟩
        · have hbl : kb < wr.drew.heap.size := cell_block HK.out
          have hk4 := ((Gr.refl wr).drew).kp.trans hk3
          have hA3 := HA.out.kp hk4 (.inl rfl) (.inr (.inl rfl)) (.inr (.inr (.inl rfl)))
          have hK3 := cell_kp hk4 HK.out (.inr (.inr (.inr rfl)))
          have hF3 : W3.frozen? ⟨kb, 0, none⟩ = false := (World.frozen?_of_block (hk3.block hbl (.inr (.inr (.inr rfl))))).trans HF.out
          have HA3 := Lib.hid hA3
          have HK3 := Lib.hid hK3
          obtain ⟨a1, a2, a3⟩ := hA3
          obtain ⟨b1, b2⟩ := a3 j hj
          clear a3 hk3 hk4 hbl
          gi_wp2
          have hcS : ((W3.setCell ⟨kb, 0, none⟩ (.int .i64 (ix ks j).up)).drew).cell? ⟨kb, 0, none⟩ = some (.int .i64 (ix ks j).up) := World.cell?_setCell_same' _ _ _ (by rw [HK3.out]; rfl)
          have hfS : ((W3.setCell ⟨kb, 0, none⟩ (.int .i64 (ix ks j).up)).drew).frozen? ⟨kb, 0, none⟩ = false := by rw [frozen_drew_own, World.frozen?_setCell]; exact hF3
          have hAS : AheadAt ((W3.setCell ⟨kb, 0, none⟩ (.int .i64 (ix ks j).up)).drew) tx tb kn ko kc ks mv := HA3.out.kp ((set_kp (S := fun b => b ≠ kb) (by simp) _).trans ((Gr.refl _).drew).kp) h1.symm h2.symm h3'.symm
          have hJS : J (pre ++ [j]) ((W3.setCell ⟨kb, 0, none⟩ (.int .i64 (ix ks j).up)).drew) := HJ.out _ _ _ hJ3 ((set_kpb _ (by simp)).trans ((Gr.refl _).drew).kpb)
          have hMS : aheadMu kb ((W3.setCell ⟨kb, 0, none⟩ (.int .i64 (ix ks j).up)).drew) < aheadMu kb wr := by
            rw [aheadMu_eq hcS, aheadMu_eq HK.out]
            have := HUP.out j hj
            omega
          have HS := Lib.hid (And.intro hcS (And.intro hfS (And.intro hAS (And.intro hJS hMS))))
          clear hcS hfS hAS hJS hMS hJ3
          gi_region
          · go_roundw
            case rel => exact ⟨_, _, _, _, _, _, _, _, _, _, _, _, _, _, _, _, _, _, _, _, _, ⟨pre ++ [j], rest, (ix ks j).up, ⟨_, rfl⟩, by rw [HX.out]; simp, HC.out, HS.out.1, HS.out.2.1, HS.out.2.2.1, HS.out.2.2.2.1⟩, rfl⟩
            case measure => exact HS.out.2.2.2.2
          · go_roundw
            case rel => exact ⟨_, _, _, _, _, _, _, _, _, _, _, _, _, _, _, _, _, _, _, _, _, ⟨pre ++ [j], rest, (ix ks j).up, ⟨_, rfl⟩, by rw [HX.out]; simp, HC.out, HS.out.1, HS.out.2.1, HS.out.2.2.1, HS.out.2.2.2.1⟩, rfl⟩
            case measure => exact HS.out.2.2.2.2
          · go_roundw
            case rel => exact ⟨_, _, _, _, _, _, _, _, _, _, _, _, _, _, _, _, _, _, _, _, _, ⟨pre ++ [j], rest, (ix ks j).up, ⟨_, rfl⟩, by rw [HX.out]; simp, HC.out, HS.out.1, HS.out.2.1, HS.out.2.2.1, HS.out.2.2.2.1⟩, rfl⟩
            case measure => exact HS.out.2.2.2.2
        · gi_wp2
          refine bodyPost_ret (results_none rfl _ _ _) rfl ?_
          exact ⟨⟨_, rfl⟩, .inr ⟨pre ++ [j], ⟨rest, by rw [HX.out]; simp⟩, hJx3⟩⟩
      · skip
        clear a1 a2 b1 b2 hkc hfc
        rcases h3 with ⟨rfl, hJ3, hk3⟩ | ⟨rfl, hJx3⟩
        · have hbl : kb < wr.drew.heap.size := cell_block HK.out
          have hk4 := ((Gr.refl wr).drew).kp.trans hk3
          have hA3 := HA.out.kp hk4 (.inl rfl) (.inr (.inl rfl)) (.inr (.inr (.inl rfl)))
          have hK3 := cell_kp hk4 HK.out (.inr (.inr (.inr rfl)))
          have hF3 : W3.frozen? ⟨kb, 0, none⟩ = false := (World.frozen?_of_block (hk3.block hbl (.inr (.inr (.inr rfl))))).trans HF.out
          have HA3 := Lib.hid hA3
          have HK3 := Lib.hid hK3
          obtain ⟨a1, a2, a3⟩ := hA3
          obtain ⟨b1, b2⟩ := a3 j hj
          clear a3 hk3 hk4 hbl
          gi_wp2
          have hcS : ((W3.setCell ⟨kb, 0, none⟩ (.int .i64 (ix ks j).up)).drew).cell? ⟨kb, 0, none⟩ = some (.int .i64 (ix ks j).up) := World.cell?_setCell_same' _ _ _ (by rw [HK3.out]; rfl)
          have hfS : ((W3.setCell ⟨kb, 0, none⟩ (.int .i64 (ix ks j).up)).drew).frozen? ⟨kb, 0, none⟩ = false := by rw [frozen_drew_own, World.frozen?_setCell]; exact hF3
          have hAS : AheadAt ((W3.setCell ⟨kb, 0, none⟩ (.int .i64 (ix ks j).up)).drew) tx tb kn ko kc ks mv := HA3.out.kp ((set_kp (S := fun b => b ≠ kb) (by simp) _).trans ((Gr.refl _).drew).kp) h1.symm h2.symm h3'.symm
          have hJS : J (pre ++ [j]) ((W3.setCell ⟨kb, 0, none⟩ (.int .i64 (ix ks j).up)).drew) := HJ.out _ _ _ hJ3 ((set_kpb _ (by simp)).trans ((Gr.refl _).drew).kpb)
          have hMS : aheadMu kb ((W3.setCell ⟨kb, 0, none⟩ (.int .i64 (ix ks j).up)).drew) < aheadMu kb wr := by
            rw [aheadMu_eq hcS, aheadMu_eq HK.out]
            have := HUP.out j hj
            omega
          have HS := Lib.hid (And.intro hcS (And.intro hfS (And.intro hAS (And.intro hJS hMS))))
          clear hcS hfS hAS hJS hMS hJ3
          gi_region
          · go_roundw
            case rel => exact ⟨_, _, _, _, _, _, _, _, _, _, _, _, _, _, _, _, _, _, _, _, _, ⟨pre ++ [j], rest, (ix ks j).up, ⟨_, rfl⟩, by rw [HX.out]; simp, HC.out, HS.out.1, HS.out.2.1, HS.out.2.2.1, HS.out.2.2.2.1⟩, rfl⟩
            case measure => exact HS.out.2.2.2.2
          · go_roundw
            case rel => exact ⟨_, _, _, _, _, _, _, _, _, _, _, _, _, _, _, _, _, _, _, _, _, ⟨pre ++ [j], rest, (ix ks j).up, ⟨_, rfl⟩, by rw [HX.out]; simp, HC.out, HS.out.1, HS.out.2.1, HS.out.2.2.1, HS.out.2.2.2.1⟩, rfl⟩
            case measure => exact HS.out.2.2.2.2
          · go_roundw
            case rel => exact ⟨_, _, _, _, _, _, _, _, _, _, _, _, _, _, _, _, _, _, _, _, _, ⟨pre ++ [j], rest, (ix ks j).up, ⟨_, rfl⟩, by rw [HX.out]; simp, HC.out, HS.out.1, HS.out.2.1, HS.out.2.2.1, HS.out.2.2.2.1⟩, rfl⟩
            case measure => exact HS.out.2.2.2.2
        · gi_wp2
          refine bodyPost_ret (results_none rfl _ _ _) rfl ?_
          exact ⟨⟨_, rfl⟩, .inr ⟨pre ++ [j], ⟨rest, by rw [HX.out]; simp⟩, hJx3⟩⟩
      · skip
        clear a1 a2 b1 b2 hkc hfc
        rcases h3 with ⟨rfl, hJ3, hk3⟩ | ⟨rfl, hJx3⟩
        · have hbl : kb < wr.drew.heap.size := cell_block HK.out
          have hk4 := ((Gr.refl wr).drew).kp.trans hk3
          have hA3 := HA.out.kp hk4 (.inl rfl) (.inr (.inl rfl)) (.inr (.inr (.inl rfl)))
          have hK3 := cell_kp hk4 HK.out (.inr (.inr (.inr rfl)))
          have hF3 : W3.frozen? ⟨kb, 0, none⟩ = false := (World.frozen?_of_block (hk3.block hbl (.inr (.inr (.inr rfl))))).trans HF.out
          have HA3 := Lib.hid hA3
          have HK3 := Lib.hid hK3
          obtain ⟨a1, a2, a3⟩ := hA3
          obtain ⟨b1, b2⟩ := a3 j hj
          clear a3 hk3 hk4 hbl
          gi_wp2
          have hcS : ((W3.setCell ⟨kb, 0, none⟩ (.int .i64 (ix ks j).up)).drew).cell? ⟨kb, 0, none⟩ = some (.int .i64 (ix ks j).up) := World.cell?_setCell_same' _ _ _ (by rw [HK3.out]; rfl)
          have hfS : ((W3.setCell ⟨kb, 0, none⟩ (.int .i64 (ix ks j).up)).drew).frozen? ⟨kb, 0, none⟩ = false := by rw [frozen_drew_own, World.frozen?_setCell]; exact hF3
          have hAS : AheadAt ((W3.setCell ⟨kb, 0, none⟩ (.int .i64 (ix ks j).up)).drew) tx tb kn ko kc ks mv := HA3.out.kp ((set_kp (S := fun b => b ≠ kb) (by simp) _).trans ((Gr.refl _).drew).kp) h1.symm h2.symm h3'.symm
          have hJS : J (pre ++ [j]) ((W3.setCell ⟨kb, 0, none⟩ (.int .i64 (ix ks j).up)).drew) := HJ.out _ _ _ hJ3 ((set_kpb _ (by simp)).trans ((Gr.refl _).drew).kpb)
          have hMS : aheadMu kb ((W3.setCell ⟨kb, 0, none⟩ (.int .i64 (ix ks j).up)).drew) < aheadMu kb wr := by
            rw [aheadMu_eq hcS, aheadMu_eq HK.out]
            have := HUP.out j hj
            omega
          have HS := Lib.hid (And.intro hcS (And.intro hfS (And.intro hAS (And.intro hJS hMS))))
          clear hcS hfS hAS hJS hMS hJ3
          gi_region
          · go_roundw
            case rel => exact ⟨_, _, _, _, _, _, _, _, _, _, _, _, _, _, _, _, _, _, _, _, _, ⟨pre ++ [j], rest, (ix ks j).up, ⟨_, rfl⟩, by rw [HX.out]; simp, HC.out, HS.out.1, HS.out.2.1, HS.out.2.2.1, HS.out.2.2.2.1⟩, rfl⟩
            case measure => exact HS.out.2.2.2.2
          · go_roundw
            case rel => exact ⟨_, _, _, _, _, _, _, _, _, _, _, _, _, _, _, _, _, _, _, _, _, ⟨pre ++ [j], rest, (ix ks j).up, ⟨_, rfl⟩, by rw [HX.out]; simp, HC.out, HS.out.1, HS.out.2.1, HS.out.2.2.1, HS.out.2.2.2.1⟩, rfl⟩
            case measure => exact HS.out.2.2.2.2
          · go_roundw
            case rel => exact ⟨_, _, _, _, _, _, _, _, _, _, _, _, _, _, _, _, _, _, _, _, _, ⟨pre ++ [j], rest, (ix ks j).up, ⟨_, rfl⟩, by rw [HX.out]; simp, HC.out, HS.out.1, HS.out.2.1, HS.out.2.2.1, HS.out.2.2.2.1⟩, rfl⟩
            case measure => exact HS.out.2.2.2.2
        · gi_wp2
          refine bodyPost_ret (results_none rfl _ _ _) rfl ?_
          exact ⟨⟨_, rfl⟩, .inr ⟨pre ++ [j], ⟨rest, by rw [HX.out]; simp⟩, hJx3⟩⟩
end Go.Proofs.Ytkanaoebpajbfaa
