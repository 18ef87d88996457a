/- Contract of the aligner's nearest. -/
import Derived.Test.YtkanaoebpajbfaaAl1
namespace Go.Tok
open Go.RowKit
set_option linter.unusedVariables false
theorem msplit {α β : Type} {f : α → β} {l : List α} {l1 l2 : List β} {x : β} (h : l.map f = l1 ++ x :: l2) : ∃ m1 y m2, l = m1 ++ y :: m2 ∧ (m1 ++ m2).map f = l1 ++ l2 ∧ f y = x := by
  obtain ⟨m1, m3, rfl, h1, h2⟩ := List.map_eq_append_iff.1 h
  obtain ⟨y, m2, rfl, h3, h4⟩ := List.map_eq_cons_iff.1 h2
  exact ⟨m1, y, m2, rfl, by rw [List.map_append, h1, h4], h3⟩
/-- what is known of the nearest one, but for those still to come -/
def NearI (kvs todo : Kvs) (sm : Bool) (b : SpotD) : Prop :=
  (sm = false ∧ b = spot0 ∧ ∀ e ∈ kvs, e ∈ todo ∨ e.2.fin = true) ∨ (sm = true ∧ ∃ x, lookF kvs b = some x ∧ x.fin = false ∧ ∀ e ∈ kvs, e ∈ todo ∨ e.2.fin = true ∨ x.cost ≤ e.2.cost)
theorem NearI.start (kvs : Kvs) : NearI kvs kvs false spot0 := .inl ⟨rfl, rfl, fun e he => .inl he⟩
theorem rest_of {m1 m2 : Kvs} {e0 e : SpotD × StpD} (h : e ∈ m1 ++ e0 :: m2) : e ∈ m1 ++ m2 ∨ e = e0 := by
  simp only [List.mem_append, List.mem_cons] at *
  rcases h with h | rfl | h
  · exact .inl (.inl h)
  · exact .inr rfl
  · exact .inl (.inr h)
theorem NearI.drop {kvs m1 m2 : Kvs} {sm : Bool} {b : SpotD} {e0 : SpotD × StpD} (h : NearI kvs (m1 ++ e0 :: m2) sm b) (hf : e0.2.fin = true ∨ (sm = true ∧ ∀ y, lookF kvs b = some y → y.cost ≤ e0.2.cost)) : NearI kvs (m1 ++ m2) sm b := by
  rcases h with ⟨rfl, rfl, h⟩ | ⟨rfl, x, hx, hxf, h⟩
  · refine .inl ⟨rfl, rfl, fun e he => ?_⟩
    rcases h e he with h1 | h1
    · rcases rest_of h1 with h2 | rfl
      · exact .inl h2
      · rcases hf with h3 | ⟨h3, _⟩
        · exact .inr h3
        · cases h3
    · exact .inr h1
  · refine .inr ⟨rfl, x, hx, hxf, fun e he => ?_⟩
    rcases h e he with h1 | h1 | h1
    · rcases rest_of h1 with h2 | rfl
      · exact .inl h2
      · rcases hf with h3 | ⟨_, h3⟩
        · exact .inr (.inl h3)
        · exact .inr (.inr (h3 x hx))
    · exact .inr (.inl h1)
    · exact .inr (.inr h1)
theorem NearI.take {kvs m1 m2 : Kvs} {sm : Bool} {b : SpotD} {k : SpotD} {x : StpD} (h : NearI kvs (m1 ++ (k, x) :: m2) sm b) (hx : lookF kvs k = some x) (hf : x.fin = false) (hm : sm = true → ∀ y, lookF kvs b = some y → x.cost ≤ y.cost) : NearI kvs (m1 ++ m2) true k := by
  refine .inr ⟨rfl, x, hx, hf, fun e he => ?_⟩
  rcases h with ⟨rfl, rfl, h⟩ | ⟨rfl, y, hy, hyf, h⟩
  · rcases h e he with h1 | h1
    · rcases rest_of h1 with h2 | rfl
      · exact .inl h2
      · exact .inr (.inr (Nat.le_refl _))
    · exact .inr (.inl h1)
  · rcases h e he with h1 | h1 | h1
    · rcases rest_of h1 with h2 | rfl
      · exact .inl h2
      · exact .inr (.inr (Nat.le_refl _))
    · exact .inr (.inl h1)
    · exact .inr (.inr (Nat.le_trans (hm rfl y hy) h1))
/-- what nearest says -/
def NearA (kvs : Kvs) (sm : Bool) (b : SpotD) : Prop :=
  (sm = false ∧ ∀ u y, lookF kvs u = some y → y.fin = true) ∨ (sm = true ∧ ∃ x, lookF kvs b = some x ∧ x.fin = false ∧ ∀ u y, lookF kvs u = some y → y.fin = false → x.cost ≤ y.cost)
theorem NearI.done {kvs : Kvs} {sm : Bool} {b : SpotD} (h : NearI kvs [] sm b) : NearA kvs sm b := by
  rcases h with ⟨rfl, rfl, h⟩ | ⟨rfl, x, hx, hxf, h⟩
  · refine .inl ⟨rfl, fun u y hy => ?_⟩
    rcases h _ (look_mem hy) with h1 | h1
    · cases h1
    · exact h1
  · refine .inr ⟨rfl, x, hx, hxf, fun u y hy hf => ?_⟩
    rcases h _ (look_mem hy) with h1 | h1 | h1
    · cases h1
    · rw [hf] at h1; cases h1
    · exact h1
theorem NearI.true_look {kvs todo : Kvs} {b : SpotD} {y : StpD} (h : NearI kvs todo true b) (hy : lookF kvs b = some y) : y.fin = false := by
  rcases h with ⟨h, _⟩ | ⟨_, x, hx, hf, _⟩
  · cases h
  · rw [hx] at hy; cases hy; exact hf
theorem NearI.some_look {kvs todo : Kvs} {b : SpotD} (h : NearI kvs todo true b) : ∃ y, lookF kvs b = some y := by
  rcases h with ⟨h, _⟩ | ⟨_, x, hx, hf, _⟩
  · cases h
  · exact ⟨x, hx⟩
theorem NearI.false_spot {kvs todo : Kvs} {b : SpotD} (h : NearI kvs todo false b) : b = spot0 := by
  rcases h with ⟨_, h, _⟩ | ⟨h, _⟩
  · exact h
  · cases h
theorem kvV_len (kvs : Kvs) : (kvV kvs).length = kvs.length := by simp [kvV]
attribute [local irreducible] kvV
theorem kvV_split {todo : Kvs} {l1 l2 : List (Value × Value)} {z : Value × Value} (h : kvV todo = l1 ++ z :: l2) : ∃ m1 k x m2, todo = m1 ++ (k, x) :: m2 ∧ kvV (m1 ++ m2) = l1 ++ l2 ∧ z = (spotV k, stpV x) := by
  unfold kvV at *
  obtain ⟨m1, e, m2, h1, h2, h3⟩ := msplit h
  exact ⟨m1, e.1, e.2, m2, h1, h2, h3.symm⟩
theorem stpV_inj {x y : StpD} (h : stpV x = stpV y) : x = y := by
  obtain ⟨a, ⟨b, c⟩, ⟨d, e, f⟩, g⟩ := x
  obtain ⟨a', ⟨b', c'⟩, ⟨d', e', f'⟩, g'⟩ := y
  simp only [stpV, Value.agg.injEq, Array.mk.injEq, List.cons.injEq, Value.int.injEq, Value.bool.injEq, true_and, and_true] at h
  obtain ⟨h1, h2, h3, h4, h5, h6, h7⟩ := h
  simp only [StpD.mk.injEq, SpotD.mk.injEq, MoveD.mk.injEq]
  exact ⟨by omega, ⟨by omega, by omega⟩, ⟨h4, h5, h6⟩, h7⟩
theorem kvV_in {kvs : Kvs} {k : SpotD} {x : StpD} (h : (spotV k, stpV x) ∈ kvV kvs) : (k, x) ∈ kvs := by
  unfold kvV at h
  obtain ⟨e, he, h1⟩ := List.mem_map.1 h
  obtain ⟨a, b⟩ := Prod.mk.inj h1
  have : e = (k, x) := Prod.ext (spotV_inj a) (stpV_inj b)
  rw [← this]; exact he
theorem Rng.sub {P : Program} {k : TypeId} {w : World} {b r : Nat} {kvs todo : List (Value × Value)} (h : Rng P k w b r kvs todo) : ∀ e ∈ todo, e ∈ kvs := by
  unfold Rng at h
  obtain ⟨es, clock, since, seen, c0, h1, h2, h3, h4, h5, h6, h7, h8, h9⟩ := h
  intro e he
  rw [← h9] at he
  obtain ⟨z, hz, rfl⟩ := List.mem_map.1 he
  rw [← h3]
  exact List.mem_map.2 ⟨z, (mem_left hz).1, rfl⟩
theorem kvV_nil {todo : Kvs} (h : kvV todo = []) : todo = [] := by
  unfold kvV at h
  exact List.map_eq_nil_iff.1 h
end Go.Tok
namespace Go.Proofs.Ytkanaoebpajbfaa
open Go.RowKit Go.Tok
set_option linter.unusedVariables false
variable {N : NetD} {na : Option Addr} {nc : Nat} {A : SpaceD} {ma : Option Addr} {mc : Nat} {aa : Option Addr} {ac : Nat} {tr : List Int} {ta : Option Addr} {tc : Nat} {w0 w w' : World} {ab mb : Nat} {kvs : Kvs}
def RetNear (kvs : Kvs) (w : World) (e : Ending) (w' : World) : Prop := ∃ b sm, e = .returned (.tuple #[.agg #[.int .i64 (b.seen : Int), .int .i64 (b.mark : Int)], .bool sm]) ∧ Gr w w' ∧ NearA kvs sm b
theorem _root_.Go.Tok.Rng.set2 {k : TypeId} {w : World} {b r c : Nat} {kvs todo : List (Value × Value)} (h : Rng Try.prog k w b r kvs todo) (hb : b ≠ c) (hr : r ≠ c) (u v : Value) : Rng Try.prog k ((w.setCell ⟨c, 0, none⟩ u).setCell ⟨c, 1, none⟩ v) b r kvs todo := by
  have g : ∀ (w : World) (i : Nat) (u : Value), w.grownBy (w.setCell ⟨c, i, none⟩ u) (some c) := fun w i u => ⟨rfl, rfl, rfl, by simp [World.setCell], fun k hk hne => Below.heap_setCell _ _ _ _ (by intro h; subst h; exact hne rfl)⟩
  exact (h.grown (g w 0 u) (by simpa using hb) (by simpa using hr)).grown (g _ 1 v) (by simpa using hb) (by simpa using hr)
set_option maxHeartbeats 8000000 in
set_option maxRecDepth 100000 in
theorem nearest_calls (h : AlS N na nc A ma mc aa ac tr ta tc w0 ab mb w kvs) (hz : ∃ z, lookF kvs spot0 = some z) (hsm : ∀ s x, lookF kvs s = some x → s.seen ≤ 1000000 ∧ s.mark ≤ 1000000) :
    Calls Try.prog 95 #[.pointer (some ⟨ab, 0, none⟩)] w (RetNear kvs w) := by
  obtain ⟨z0, hz⟩ := hz
  obtain ⟨w1, hw1⟩ : ∃ w1, w1 = (w.alloc (.cells #[.int .i64 0, .int .i64 0] 160)).alloc (.cells #[.int .i64 0, .int .i64 0] 160) := ⟨_, rfl⟩
  have G1 : Gr w w1 := by rw [hw1]; exact ((Gr.refl _).alloc _).alloc _
  have br : Blk w1 w.heap.size 160 #[.int .i64 0, .int .i64 0] := by rw [hw1]; exact (Blk.new rfl).gr ((Gr.refl _).alloc _)
  have bb : Blk w1 (w.heap.size + 1) 160 #[.int .i64 0, .int .i64 0] := by rw [hw1]; exact Blk.new (by simp)
  have hsz : w1.heap.size = w.heap.size + 2 := by rw [hw1]; simp
  have h1 := h.gr' G1
  have hnd := amap_nodup h.map
  have c5 : ((w.alloc (.cells #[.int .i64 0, .int .i64 0] 160)).alloc (.cells #[.int .i64 0, .int .i64 0] 160)).cell? ⟨ab, 5, none⟩ = some (.map (some mb)) := by rw [← hw1]; exact h1.blk.cell (i := 5) rfl
  obtain ⟨o, hrun, hR0⟩ := Rng.start (t := 165) Try.underlying165 h1.map
  have HNE := Lib.hid (show mb ≠ w.heap.size + 1 ∧ w.heap.size + 2 ≠ w.heap.size + 1 by have := h.map.lt; omega)
  have HAB := Lib.hid h.blk
  have hmlt := Lib.hid h.map.lt
  have G2 : Gr w1 (w1.alloc o) := (Gr.refl _).alloc _
  have HI := Lib.hid (show Rng Try.prog 160 (w1.alloc o) mb (w.heap.size + 2) (kvV kvs) (kvV kvs) ∧ Blk (w1.alloc o) (w.heap.size + 1) 160 #[.int .i64 0, .int .i64 0] ∧ Blk (w1.alloc o) w.heap.size 160 #[.int .i64 0, .int .i64 0] ∧ Gr w (w1.alloc o) from ⟨by rw [← hsz]; exact hR0, bb.gr G2, br.gr G2, G1.trans G2⟩)
  rw [hw1] at hrun
  have HW := Lib.hid hw1
  have HND := Lib.hid hnd
  clear hR0 bb br G1 G2 h1 h hw1 hsz hnd
  go_enter Try.func95, Try.ntmps95
  go_wp2_with fail
  rw [← HW.out]
  go_loopw [5] (fun u wr => ∃ todo b sm, Rng Try.prog 160 wr mb (w.heap.size + 2) (kvV kvs) (kvV todo) ∧ Blk wr (w.heap.size + 1) 160 #[.int .i64 (b.seen : Int), .int .i64 (b.mark : Int)] ∧ Blk wr w.heap.size 160 #[.int .i64 0, .int .i64 0] ∧ NearI kvs todo sm b ∧ Gr w wr ∧ u = .bool sm) (fun _ wr => wr.rangeLeft mb (w.heap.size + 2))
  case atStart => exact ⟨kvs, spot0, false, HI.out.1, HI.out.2.1, HI.out.2.2.1, NearI.start _, HI.out.2.2.2, rfl⟩
  case round =>
    rename World => wr
    obtain ⟨todo, b, sm, hR, bb, br, hN, hgr, rfl⟩ := hrel
    rcases hR.next 0 with ⟨hz0, en⟩ | ⟨l1, kv, l2, w2, hz0, en, hg2, hR2, een⟩
    · obtain rfl := kvV_nil hz0
      have HA := Lib.hid hN.done
      have f0 := br.frozen 0
      have hb2 := br.set 0 (.int .i64 (b.seen : Int))
      have f1 := hb2.frozen 1
      have d1 := hb2.cell (i := 1) (v := .int .i64 0) rfl
      have hb3 := hb2.set 1 (.int .i64 (b.mark : Int))
      have E0 := hb3.cell (i := 0) (v := .int .i64 (b.seen : Int)) rfl
      have E1 := hb3.cell (i := 1) (v := .int .i64 (b.mark : Int)) rfl
      have b0 := bb.cell (i := 0) (v := .int .i64 (b.seen : Int)) rfl
      have b1 := bb.cell (i := 1) (v := .int .i64 (b.mark : Int)) rfl
      have d0 := br.cell (i := 0) (v := .int .i64 0) rfl
      have GE := Lib.hid ((hgr.setCell (p := ⟨w.heap.size, 0, none⟩) (Nat.le_refl _) (.int .i64 (b.seen : Int))).setCell (p := ⟨w.heap.size, 1, none⟩) (Nat.le_refl _) (.int .i64 (b.mark : Int)))
      clear hb2 hb3 br bb hR hN hgr
      go_wp2_with fail
      refine bodyPost_ret (v := .tuple #[.agg #[.int .i64 (b.seen : Int), .int .i64 (b.mark : Int)], .bool sm]) (by simp [results, Try.results95, go_sem, E0, E1]) rfl ?_
      exact ⟨b, sm, rfl, GE.out, HA.out⟩
    · obtain ⟨m1, k, x, m2, rfl, e2, rfl⟩ := kvV_split hz0
      have hx : lookF kvs k = some x := look_of HND.out (kvV_in (hR.sub _ (by rw [hz0]; simp)))
      dsimp only at en een
      unfold spotV stpV at en een
      have hle := hR.left_eq
      have HLE := Lib.hid (show wr.rangeLeft mb (w.heap.size + 2) = (m1 ++ m2).length + 1 by rw [hle, kvV_len]; simp; omega)
      rw [← e2] at hR2
      have hrlt := hR.lt
      have g2r : Gr w w2 := hgr.grown hg2 fun k hk => by cases hk; omega
      have bb2 := bb.grown hg2 (by simp)
      have br2 := br.grown hg2 (by simp)
      obtain ⟨w3, hw3⟩ : ∃ w3, w3 = (w2.alloc (.cells #[.int .i64 (k.seen : Int), .int .i64 (k.mark : Int)] 160)).alloc (.cells #[.int .i64 (x.cost : Int), .int .i64 (x.src.seen : Int), .int .i64 (x.src.mark : Int), .int .i64 x.move.kind, .int .i64 x.move.label, .int .i64 x.move.tran, .bool x.fin] 164) := ⟨_, rfl⟩
      have G3 : Gr w2 w3 := by rw [hw3]; exact ((Gr.refl _).alloc _).alloc _
      have bk : Blk w3 w2.heap.size 160 #[.int .i64 (k.seen : Int), .int .i64 (k.mark : Int)] := by rw [hw3]; exact (Blk.new rfl).gr ((Gr.refl _).alloc _)
      have bx : Blk w3 (w2.heap.size + 1) 164 #[.int .i64 (x.cost : Int), .int .i64 (x.src.seen : Int), .int .i64 (x.src.mark : Int), .int .i64 x.move.kind, .int .i64 x.move.label, .int .i64 x.move.tran, .bool x.fin] := by rw [hw3]; exact Blk.new (by simp)
      have hR3 := hR2.gr G3
      have bb3 := bb2.gr G3
      have br3 := br2.gr G3
      have hgr3 := g2r.trans G3
      clear hR hR2 bb bb2 br br2 hg2 hle e2 hz0 hgr g2r hrlt
      cases hf : x.fin with
      | true =>
        have HN := Lib.hid (hN.drop (.inl hf))
        rw [hf] at een en hw3 bx
        have xd : ((w2.alloc (.cells #[.int .i64 (k.seen : Int), .int .i64 (k.mark : Int)] 160)).alloc (.cells #[.int .i64 (x.cost : Int), .int .i64 (x.src.seen : Int), .int .i64 (x.src.mark : Int), .int .i64 x.move.kind, .int .i64 x.move.label, .int .i64 x.move.tran, .bool true] 164)).cell? ⟨w2.heap.size + 1, 6, none⟩ = some (.bool true) := by rw [← hw3]; exact bx.cell (i := 6) rfl
        have HE := Lib.hid (show Rng Try.prog 160 w3 mb (w.heap.size + 2) (kvV kvs) (kvV (m1 ++ m2)) ∧ Blk w3 (w.heap.size + 1) 160 #[.int .i64 (b.seen : Int), .int .i64 (b.mark : Int)] ∧ Blk w3 w.heap.size 160 #[.int .i64 0, .int .i64 0] ∧ Gr w w3 from ⟨hR3, bb3, br3, hgr3⟩)
        have HM := Lib.hid (hR3.left_eq)
        have HW3 := Lib.hid hw3
        clear hw3 bb3 br3 bx bk hR3 G3 hgr3 hN hx
        go_wp2_with fail
        rw [← HW3.out]
        go_roundw
        case rel => exact ⟨m1 ++ m2, b, sm, HE.out.1, HE.out.2.1, HE.out.2.2.1, HN.out, HE.out.2.2.2, rfl⟩
        case measure => rw [HM.out, HLE.out, kvV_len]; omega
      | false =>
        rw [hf] at een en hw3 bx
        have xd : ((w2.alloc (.cells #[.int .i64 (k.seen : Int), .int .i64 (k.mark : Int)] 160)).alloc (.cells #[.int .i64 (x.cost : Int), .int .i64 (x.src.seen : Int), .int .i64 (x.src.mark : Int), .int .i64 x.move.kind, .int .i64 x.move.label, .int .i64 x.move.tran, .bool false] 164)).cell? ⟨w2.heap.size + 1, 6, none⟩ = some (.bool false) := by rw [← hw3]; exact bx.cell (i := 6) rfl
        have c5 := (HAB.out.gr hgr3).cell (i := 5) (v := .map (some mb)) rfl
        have e0 := bb3.cell (i := 0) (v := .int .i64 (b.seen : Int)) rfl
        have e1 := bb3.cell (i := 1) (v := .int .i64 (b.mark : Int)) rfl
        cases sm with
        | false =>
          obtain rfl := hN.false_spot
          obtain ⟨b, hb⟩ : ∃ b, b = spot0 := ⟨_, rfl⟩
          obtain ⟨y, hyl⟩ : ∃ y, lookF kvs b = some y := ⟨z0, by rw [hb]; exact hz⟩
          rw [← hb] at hN bb3 e0 e1
          clear hb
          have HL : ∀ w', Gr w3 w' → (Instr.lookup 165 (.map (some mb)) (.agg #[.int .i64 (b.seen : Int), .int .i64 (b.mark : Int)]) false).run Try.prog w' = .ok (.agg #[.int .i64 (y.cost : Int), .int .i64 (y.src.seen : Int), .int .i64 (y.src.mark : Int), .int .i64 y.move.kind, .int .i64 y.move.label, .int .i64 y.move.tran, .bool y.fin]) w' := fun w' g => by
            obtain ⟨l, hk⟩ := spot_key b (hsm b y hyl).1 (hsm b y hyl).2
            exact (MAt.gr hR3.at_ g).look_yes spotKeyed Try.underlying165 hk (kvV_mem hyl)
          have HN := Lib.hid (hN.take hx hf (fun h => by cases h))
          clear hN hx hyl
          have KS := Lib.hid (show ∀ w', Gr w3 w' → w'.cell? ⟨ab, 5, none⟩ = some (.map (some mb)) ∧ w'.cell? ⟨w.heap.size + 1, 0, none⟩ = some (.int .i64 (b.seen : Int)) ∧ w'.cell? ⟨w.heap.size + 1, 1, none⟩ = some (.int .i64 (b.mark : Int)) ∧ (Instr.lookup 165 (.map (some mb)) (.agg #[.int .i64 (b.seen : Int), .int .i64 (b.mark : Int)]) false).run Try.prog w' = .ok (.agg #[.int .i64 (y.cost : Int), .int .i64 (y.src.seen : Int), .int .i64 (y.src.mark : Int), .int .i64 y.move.kind, .int .i64 y.move.label, .int .i64 y.move.tran, .bool y.fin]) w' from fun w' g => ⟨cell_gr c5 g, cell_gr e0 g, cell_gr e1 g, HL w' g⟩)
          have l0 := HL w3.drew ((Gr.refl _).drew)
          clear HL
          go_wp2_with fail
          rw [← hw3]
          clear hw3
          go_region_held3 (fun w' => w'.cell? ⟨ab, 5, none⟩ = some (.map (some mb)) ∧ w'.cell? ⟨w.heap.size + 1, 0, none⟩ = some (.int .i64 (b.seen : Int)) ∧ w'.cell? ⟨w.heap.size + 1, 1, none⟩ = some (.int .i64 (b.mark : Int)) ∧ (Instr.lookup 165 (.map (some mb)) (.agg #[.int .i64 (b.seen : Int), .int .i64 (b.mark : Int)]) false).run Try.prog w' = .ok (.agg #[.int .i64 (y.cost : Int), .int .i64 (y.src.seen : Int), .int .i64 (y.src.mark : Int), .int .i64 y.move.kind, .int .i64 y.move.label, .int .i64 y.move.tran, .bool y.fin]) w') (first | ((refine KS.out _ ?_); ((focus ((repeat (first | exact Gr.refl _ | assumption | apply Gr.alloc | apply Gr.drew | apply Gr.drewN | refine Gr.trans ?_ (by assumption))); done)))) | go_keep) (fail)
          all_goals (
            obtain ⟨w4, hw4⟩ : ∃ w4, w4 = (w3.alloc (.cells #[.int .i64 (y.cost : Int), .int .i64 (y.src.seen : Int), .int .i64 (y.src.mark : Int), .int .i64 y.move.kind, .int .i64 y.move.label, .int .i64 y.move.tran, .bool y.fin] 164)).drew := ⟨_, rfl⟩
            rw [← hw4]
            have G4 : Gr w3 w4 := by rw [hw4]; exact ((Gr.refl _).alloc _).drew
            have y0 : w4.cell? ⟨w3.heap.size, 0, none⟩ = some (.int .i64 (y.cost : Int)) := by rw [hw4]; exact ((Blk.new rfl).gr ((Gr.refl _).drew)).cell (i := 0) rfl
            have x0 := (bx.gr G4).cell (i := 0) (v := .int .i64 (x.cost : Int)) rfl
            have k0 := (bk.gr G4).cell (i := 0) (v := .int .i64 (k.seen : Int)) rfl
            have k1 := (bk.gr G4).cell (i := 1) (v := .int .i64 (k.mark : Int)) rfl
            have b0 := (bb3.gr G4).cell (i := 0) (v := .int .i64 (b.seen : Int)) rfl
            have b1 := (bb3.gr G4).cell (i := 1) (v := .int .i64 (b.mark : Int)) rfl
            clear hw4 l0 KS c5 e0 e1
            rename_i hHeld; clear hHeld
            have f0 := (bb3.gr G4).frozen 0
            have hb2 := (bb3.gr G4).set 0 (.int .i64 (k.seen : Int))
            have f1 := hb2.frozen 1
            have d0 := (bb3.gr G4).cell (i := 0) (v := .int .i64 (b.seen : Int)) rfl
            have d1 := hb2.cell (i := 1) (v := .int .i64 (b.mark : Int)) rfl
            have hb3 := hb2.set 1 (.int .i64 (k.mark : Int))
            have GE := ((hgr3.trans G4).setCell (p := ⟨w.heap.size + 1, 0, none⟩) (Nat.le_succ _) (.int .i64 (k.seen : Int))).setCell (p := ⟨w.heap.size + 1, 1, none⟩) (Nat.le_succ _) (.int .i64 (k.mark : Int))
            have hR4 := Rng.set2 (hR3.gr G4) HNE.out.1 HNE.out.2 (.int .i64 (k.seen : Int)) (.int .i64 (k.mark : Int))
            have hr4 := ((br3.gr G4).other (a := ⟨w.heap.size + 1, 0, none⟩) (by simp) (.int .i64 (k.seen : Int))).other (a := ⟨w.heap.size + 1, 1, none⟩) (by simp) (.int .i64 (k.mark : Int))
            have HE := Lib.hid (show Rng Try.prog 160 _ mb (w.heap.size + 2) (kvV kvs) (kvV (m1 ++ m2)) ∧ Blk _ (w.heap.size + 1) 160 #[.int .i64 (k.seen : Int), .int .i64 (k.mark : Int)] ∧ Blk _ w.heap.size 160 #[.int .i64 0, .int .i64 0] ∧ Gr w _ from ⟨hR4, hb3, hr4, GE⟩)
            have HM := Lib.hid (hR4.left_eq)
            clear hb2 hb3 GE hR4 hr4 G4 bb3 br3 bx bk hR3
            go_wp2_with fail
            go_roundw
            case rel => exact ⟨m1 ++ m2, k, true, HE.out.1, HE.out.2.1, HE.out.2.2.1, HN.out, HE.out.2.2.2, rfl⟩
            case measure => rw [HM.out, HLE.out, kvV_len]; omega)
        | true =>
          obtain ⟨y, hyl⟩ : ∃ y, lookF kvs b = some y := hN.some_look
          have HL : ∀ w', Gr w3 w' → (Instr.lookup 165 (.map (some mb)) (.agg #[.int .i64 (b.seen : Int), .int .i64 (b.mark : Int)]) false).run Try.prog w' = .ok (.agg #[.int .i64 (y.cost : Int), .int .i64 (y.src.seen : Int), .int .i64 (y.src.mark : Int), .int .i64 y.move.kind, .int .i64 y.move.label, .int .i64 y.move.tran, .bool y.fin]) w' := fun w' g => by
            obtain ⟨l, hk⟩ := spot_key b (hsm b y hyl).1 (hsm b y hyl).2
            exact (MAt.gr hR3.at_ g).look_yes spotKeyed Try.underlying165 hk (kvV_mem hyl)
          by_cases hc1 : x.cost < y.cost
          · have q1 : decide ((x.cost : Int) < (y.cost : Int)) = true := by simp; omega
            have q1n : decide (x.cost < y.cost) = true := by simp; omega
            have HN := Lib.hid (hN.take hx hf (fun _ y' hy' => by rw [hyl] at hy'; cases hy'; omega))
            clear hN hx hyl hc1
            have KS := Lib.hid (show ∀ w', Gr w3 w' → w'.cell? ⟨ab, 5, none⟩ = some (.map (some mb)) ∧ w'.cell? ⟨w.heap.size + 1, 0, none⟩ = some (.int .i64 (b.seen : Int)) ∧ w'.cell? ⟨w.heap.size + 1, 1, none⟩ = some (.int .i64 (b.mark : Int)) ∧ (Instr.lookup 165 (.map (some mb)) (.agg #[.int .i64 (b.seen : Int), .int .i64 (b.mark : Int)]) false).run Try.prog w' = .ok (.agg #[.int .i64 (y.cost : Int), .int .i64 (y.src.seen : Int), .int .i64 (y.src.mark : Int), .int .i64 y.move.kind, .int .i64 y.move.label, .int .i64 y.move.tran, .bool y.fin]) w' from fun w' g => ⟨cell_gr c5 g, cell_gr e0 g, cell_gr e1 g, HL w' g⟩)
            have l0 := HL w3.drew ((Gr.refl _).drew)
            clear HL
            go_wp2_with fail
            rw [← hw3]
            clear hw3
            go_region_held3 (fun w' => w'.cell? ⟨ab, 5, none⟩ = some (.map (some mb)) ∧ w'.cell? ⟨w.heap.size + 1, 0, none⟩ = some (.int .i64 (b.seen : Int)) ∧ w'.cell? ⟨w.heap.size + 1, 1, none⟩ = some (.int .i64 (b.mark : Int)) ∧ (Instr.lookup 165 (.map (some mb)) (.agg #[.int .i64 (b.seen : Int), .int .i64 (b.mark : Int)]) false).run Try.prog w' = .ok (.agg #[.int .i64 (y.cost : Int), .int .i64 (y.src.seen : Int), .int .i64 (y.src.mark : Int), .int .i64 y.move.kind, .int .i64 y.move.label, .int .i64 y.move.tran, .bool y.fin]) w') (first | ((refine KS.out _ ?_); ((focus ((repeat (first | exact Gr.refl _ | assumption | apply Gr.alloc | apply Gr.drew | apply Gr.drewN | refine Gr.trans ?_ (by assumption))); done)))) | go_keep) (fail)
            all_goals (
              obtain ⟨w4, hw4⟩ : ∃ w4, w4 = (w3.alloc (.cells #[.int .i64 (y.cost : Int), .int .i64 (y.src.seen : Int), .int .i64 (y.src.mark : Int), .int .i64 y.move.kind, .int .i64 y.move.label, .int .i64 y.move.tran, .bool y.fin] 164)).drew := ⟨_, rfl⟩
              rw [← hw4]
              have G4 : Gr w3 w4 := by rw [hw4]; exact ((Gr.refl _).alloc _).drew
              have y0 : w4.cell? ⟨w3.heap.size, 0, none⟩ = some (.int .i64 (y.cost : Int)) := by rw [hw4]; exact ((Blk.new rfl).gr ((Gr.refl _).drew)).cell (i := 0) rfl
              have x0 := (bx.gr G4).cell (i := 0) (v := .int .i64 (x.cost : Int)) rfl
              have k0 := (bk.gr G4).cell (i := 0) (v := .int .i64 (k.seen : Int)) rfl
              have k1 := (bk.gr G4).cell (i := 1) (v := .int .i64 (k.mark : Int)) rfl
              have b0 := (bb3.gr G4).cell (i := 0) (v := .int .i64 (b.seen : Int)) rfl
              have b1 := (bb3.gr G4).cell (i := 1) (v := .int .i64 (b.mark : Int)) rfl
              clear hw4 l0 KS c5 e0 e1
              rename_i hHeld; clear hHeld
              have f0 := (bb3.gr G4).frozen 0
              have hb2 := (bb3.gr G4).set 0 (.int .i64 (k.seen : Int))
              have f1 := hb2.frozen 1
              have d0 := (bb3.gr G4).cell (i := 0) (v := .int .i64 (b.seen : Int)) rfl
              have d1 := hb2.cell (i := 1) (v := .int .i64 (b.mark : Int)) rfl
              have hb3 := hb2.set 1 (.int .i64 (k.mark : Int))
              have GE := ((hgr3.trans G4).setCell (p := ⟨w.heap.size + 1, 0, none⟩) (Nat.le_succ _) (.int .i64 (k.seen : Int))).setCell (p := ⟨w.heap.size + 1, 1, none⟩) (Nat.le_succ _) (.int .i64 (k.mark : Int))
              have hR4 := Rng.set2 (hR3.gr G4) HNE.out.1 HNE.out.2 (.int .i64 (k.seen : Int)) (.int .i64 (k.mark : Int))
              have hr4 := ((br3.gr G4).other (a := ⟨w.heap.size + 1, 0, none⟩) (by simp) (.int .i64 (k.seen : Int))).other (a := ⟨w.heap.size + 1, 1, none⟩) (by simp) (.int .i64 (k.mark : Int))
              have HE := Lib.hid (show Rng Try.prog 160 _ mb (w.heap.size + 2) (kvV kvs) (kvV (m1 ++ m2)) ∧ Blk _ (w.heap.size + 1) 160 #[.int .i64 (k.seen : Int), .int .i64 (k.mark : Int)] ∧ Blk _ w.heap.size 160 #[.int .i64 0, .int .i64 0] ∧ Gr w _ from ⟨hR4, hb3, hr4, GE⟩)
              have HM := Lib.hid (hR4.left_eq)
              clear hb2 hb3 GE hR4 hr4 G4 bb3 br3 bx bk hR3
              go_wp2_with fail
              go_roundw
              case rel => exact ⟨m1 ++ m2, k, true, HE.out.1, HE.out.2.1, HE.out.2.2.1, HN.out, HE.out.2.2.2, rfl⟩
              case measure => rw [HM.out, HLE.out, kvV_len]; omega)
          · by_cases hc2 : x.cost = y.cost
            case neg =>
              have q1 : decide ((x.cost : Int) < (y.cost : Int)) = false := by simp; omega
              have q1n : decide (x.cost < y.cost) = false := by simp; omega
              have q2 : ((x.cost : Int) == (y.cost : Int)) = false := by simp; omega
              have HN := Lib.hid (hN.drop (.inr ⟨rfl, fun y' hy' => by rw [hyl] at hy'; cases hy'; simp only []; omega⟩))
              clear hN hx hyl hc1 hc2
              have KS := Lib.hid (show ∀ w', Gr w3 w' → w'.cell? ⟨ab, 5, none⟩ = some (.map (some mb)) ∧ w'.cell? ⟨w.heap.size + 1, 0, none⟩ = some (.int .i64 (b.seen : Int)) ∧ w'.cell? ⟨w.heap.size + 1, 1, none⟩ = some (.int .i64 (b.mark : Int)) ∧ (Instr.lookup 165 (.map (some mb)) (.agg #[.int .i64 (b.seen : Int), .int .i64 (b.mark : Int)]) false).run Try.prog w' = .ok (.agg #[.int .i64 (y.cost : Int), .int .i64 (y.src.seen : Int), .int .i64 (y.src.mark : Int), .int .i64 y.move.kind, .int .i64 y.move.label, .int .i64 y.move.tran, .bool y.fin]) w' from fun w' g => ⟨cell_gr c5 g, cell_gr e0 g, cell_gr e1 g, HL w' g⟩)
              have l0 := HL w3.drew ((Gr.refl _).drew)
              clear HL
              go_wp2_with fail
              rw [← hw3]
              clear hw3
              go_region_held3 (fun w' => w'.cell? ⟨ab, 5, none⟩ = some (.map (some mb)) ∧ w'.cell? ⟨w.heap.size + 1, 0, none⟩ = some (.int .i64 (b.seen : Int)) ∧ w'.cell? ⟨w.heap.size + 1, 1, none⟩ = some (.int .i64 (b.mark : Int)) ∧ (Instr.lookup 165 (.map (some mb)) (.agg #[.int .i64 (b.seen : Int), .int .i64 (b.mark : Int)]) false).run Try.prog w' = .ok (.agg #[.int .i64 (y.cost : Int), .int .i64 (y.src.seen : Int), .int .i64 (y.src.mark : Int), .int .i64 y.move.kind, .int .i64 y.move.label, .int .i64 y.move.tran, .bool y.fin]) w') (first | ((refine KS.out _ ?_); ((focus ((repeat (first | exact Gr.refl _ | assumption | apply Gr.alloc | apply Gr.drew | apply Gr.drewN | refine Gr.trans ?_ (by assumption))); done)))) | go_keep) (fail)
              all_goals (
                obtain ⟨w4, hw4⟩ : ∃ w4, w4 = (w3.alloc (.cells #[.int .i64 (y.cost : Int), .int .i64 (y.src.seen : Int), .int .i64 (y.src.mark : Int), .int .i64 y.move.kind, .int .i64 y.move.label, .int .i64 y.move.tran, .bool y.fin] 164)).drew := ⟨_, rfl⟩
                rw [← hw4]
                have G4 : Gr w3 w4 := by rw [hw4]; exact ((Gr.refl _).alloc _).drew
                have y0 : w4.cell? ⟨w3.heap.size, 0, none⟩ = some (.int .i64 (y.cost : Int)) := by rw [hw4]; exact ((Blk.new rfl).gr ((Gr.refl _).drew)).cell (i := 0) rfl
                have x0 := (bx.gr G4).cell (i := 0) (v := .int .i64 (x.cost : Int)) rfl
                have k0 := (bk.gr G4).cell (i := 0) (v := .int .i64 (k.seen : Int)) rfl
                have k1 := (bk.gr G4).cell (i := 1) (v := .int .i64 (k.mark : Int)) rfl
                have b0 := (bb3.gr G4).cell (i := 0) (v := .int .i64 (b.seen : Int)) rfl
                have b1 := (bb3.gr G4).cell (i := 1) (v := .int .i64 (b.mark : Int)) rfl
                clear hw4 l0 KS c5 e0 e1
                rename_i hHeld; clear hHeld
                have HE := Lib.hid (show Rng Try.prog 160 w4 mb (w.heap.size + 2) (kvV kvs) (kvV (m1 ++ m2)) ∧ Blk w4 (w.heap.size + 1) 160 #[.int .i64 (b.seen : Int), .int .i64 (b.mark : Int)] ∧ Blk w4 w.heap.size 160 #[.int .i64 0, .int .i64 0] ∧ Gr w w4 from ⟨hR3.gr G4, bb3.gr G4, br3.gr G4, hgr3.trans G4⟩)
                have HM := Lib.hid ((hR3.gr G4).left_eq)
                clear G4 bb3 br3 bx bk hR3
                go_wp2_with fail
                go_roundw
                case rel => exact ⟨m1 ++ m2, b, true, HE.out.1, HE.out.2.1, HE.out.2.2.1, HN.out, HE.out.2.2.2, rfl⟩
                case measure => rw [HM.out, HLE.out, kvV_len]; omega)
            case pos =>
              by_cases hc3 : k.seen < b.seen
              · have q1 : decide ((x.cost : Int) < (y.cost : Int)) = false := by simp; omega
                have q1n : decide (x.cost < y.cost) = false := by simp; omega
                have q2 : ((x.cost : Int) == (y.cost : Int)) = true := by simp; omega
                have q3 : decide ((k.seen : Int) < (b.seen : Int)) = true := by simp; omega
                have q3n : decide (k.seen < b.seen) = true := by simp; omega
                have HN := Lib.hid (hN.take hx hf (fun _ y' hy' => by rw [hyl] at hy'; cases hy'; omega))
                clear hN hx hyl hc1 hc2 hc3
                have KS := Lib.hid (show ∀ w', Gr w3 w' → w'.cell? ⟨ab, 5, none⟩ = some (.map (some mb)) ∧ w'.cell? ⟨w.heap.size + 1, 0, none⟩ = some (.int .i64 (b.seen : Int)) ∧ w'.cell? ⟨w.heap.size + 1, 1, none⟩ = some (.int .i64 (b.mark : Int)) ∧ (Instr.lookup 165 (.map (some mb)) (.agg #[.int .i64 (b.seen : Int), .int .i64 (b.mark : Int)]) false).run Try.prog w' = .ok (.agg #[.int .i64 (y.cost : Int), .int .i64 (y.src.seen : Int), .int .i64 (y.src.mark : Int), .int .i64 y.move.kind, .int .i64 y.move.label, .int .i64 y.move.tran, .bool y.fin]) w' from fun w' g => ⟨cell_gr c5 g, cell_gr e0 g, cell_gr e1 g, HL w' g⟩)
                have l0 := HL w3.drew ((Gr.refl _).drew)
                clear HL
                go_wp2_with fail
                rw [← hw3]
                clear hw3
                go_region_held3 (fun w' => w'.cell? ⟨ab, 5, none⟩ = some (.map (some mb)) ∧ w'.cell? ⟨w.heap.size + 1, 0, none⟩ = some (.int .i64 (b.seen : Int)) ∧ w'.cell? ⟨w.heap.size + 1, 1, none⟩ = some (.int .i64 (b.mark : Int)) ∧ (Instr.lookup 165 (.map (some mb)) (.agg #[.int .i64 (b.seen : Int), .int .i64 (b.mark : Int)]) false).run Try.prog w' = .ok (.agg #[.int .i64 (y.cost : Int), .int .i64 (y.src.seen : Int), .int .i64 (y.src.mark : Int), .int .i64 y.move.kind, .int .i64 y.move.label, .int .i64 y.move.tran, .bool y.fin]) w') (first | ((refine KS.out _ ?_); ((focus ((repeat (first | exact Gr.refl _ | assumption | apply Gr.alloc | apply Gr.drew | apply Gr.drewN | refine Gr.trans ?_ (by assumption))); done)))) | go_keep) (fail)
                all_goals (
                  obtain ⟨w4, hw4⟩ : ∃ w4, w4 = (w3.alloc (.cells #[.int .i64 (y.cost : Int), .int .i64 (y.src.seen : Int), .int .i64 (y.src.mark : Int), .int .i64 y.move.kind, .int .i64 y.move.label, .int .i64 y.move.tran, .bool y.fin] 164)).drew := ⟨_, rfl⟩
                  rw [← hw4]
                  have G4 : Gr w3 w4 := by rw [hw4]; exact ((Gr.refl _).alloc _).drew
                  have y0 : w4.cell? ⟨w3.heap.size, 0, none⟩ = some (.int .i64 (y.cost : Int)) := by rw [hw4]; exact ((Blk.new rfl).gr ((Gr.refl _).drew)).cell (i := 0) rfl
                  have x0 := (bx.gr G4).cell (i := 0) (v := .int .i64 (x.cost : Int)) rfl
                  have k0 := (bk.gr G4).cell (i := 0) (v := .int .i64 (k.seen : Int)) rfl
                  have k1 := (bk.gr G4).cell (i := 1) (v := .int .i64 (k.mark : Int)) rfl
                  have b0 := (bb3.gr G4).cell (i := 0) (v := .int .i64 (b.seen : Int)) rfl
                  have b1 := (bb3.gr G4).cell (i := 1) (v := .int .i64 (b.mark : Int)) rfl
                  clear hw4 l0 KS c5 e0 e1
                  rename_i hHeld; clear hHeld
                  have f0 := (bb3.gr G4).frozen 0
                  have hb2 := (bb3.gr G4).set 0 (.int .i64 (k.seen : Int))
                  have f1 := hb2.frozen 1
                  have d0 := (bb3.gr G4).cell (i := 0) (v := .int .i64 (b.seen : Int)) rfl
                  have d1 := hb2.cell (i := 1) (v := .int .i64 (b.mark : Int)) rfl
                  have hb3 := hb2.set 1 (.int .i64 (k.mark : Int))
                  have GE := ((hgr3.trans G4).setCell (p := ⟨w.heap.size + 1, 0, none⟩) (Nat.le_succ _) (.int .i64 (k.seen : Int))).setCell (p := ⟨w.heap.size + 1, 1, none⟩) (Nat.le_succ _) (.int .i64 (k.mark : Int))
                  have hR4 := Rng.set2 (hR3.gr G4) HNE.out.1 HNE.out.2 (.int .i64 (k.seen : Int)) (.int .i64 (k.mark : Int))
                  have hr4 := ((br3.gr G4).other (a := ⟨w.heap.size + 1, 0, none⟩) (by simp) (.int .i64 (k.seen : Int))).other (a := ⟨w.heap.size + 1, 1, none⟩) (by simp) (.int .i64 (k.mark : Int))
                  have HE := Lib.hid (show Rng Try.prog 160 _ mb (w.heap.size + 2) (kvV kvs) (kvV (m1 ++ m2)) ∧ Blk _ (w.heap.size + 1) 160 #[.int .i64 (k.seen : Int), .int .i64 (k.mark : Int)] ∧ Blk _ w.heap.size 160 #[.int .i64 0, .int .i64 0] ∧ Gr w _ from ⟨hR4, hb3, hr4, GE⟩)
                  have HM := Lib.hid (hR4.left_eq)
                  clear hb2 hb3 GE hR4 hr4 G4 bb3 br3 bx bk hR3
                  go_wp2_with fail
                  go_roundw
                  case rel => exact ⟨m1 ++ m2, k, true, HE.out.1, HE.out.2.1, HE.out.2.2.1, HN.out, HE.out.2.2.2, rfl⟩
                  case measure => rw [HM.out, HLE.out, kvV_len]; omega)
              · by_cases hc4 : k.seen = b.seen
                case neg =>
                  have q1 : decide ((x.cost : Int) < (y.cost : Int)) = false := by simp; omega
                  have q1n : decide (x.cost < y.cost) = false := by simp; omega
                  have q2 : ((x.cost : Int) == (y.cost : Int)) = true := by simp; omega
                  have q3 : decide ((k.seen : Int) < (b.seen : Int)) = false := by simp; omega
                  have q3n : decide (k.seen < b.seen) = false := by simp; omega
                  have q4 : ((k.seen : Int) == (b.seen : Int)) = false := by simp; omega
                  have HN := Lib.hid (hN.drop (.inr ⟨rfl, fun y' hy' => by rw [hyl] at hy'; cases hy'; simp only []; omega⟩))
                  clear hN hx hyl hc1 hc2 hc3 hc4
                  have KS := Lib.hid (show ∀ w', Gr w3 w' → w'.cell? ⟨ab, 5, none⟩ = some (.map (some mb)) ∧ w'.cell? ⟨w.heap.size + 1, 0, none⟩ = some (.int .i64 (b.seen : Int)) ∧ w'.cell? ⟨w.heap.size + 1, 1, none⟩ = some (.int .i64 (b.mark : Int)) ∧ (Instr.lookup 165 (.map (some mb)) (.agg #[.int .i64 (b.seen : Int), .int .i64 (b.mark : Int)]) false).run Try.prog w' = .ok (.agg #[.int .i64 (y.cost : Int), .int .i64 (y.src.seen : Int), .int .i64 (y.src.mark : Int), .int .i64 y.move.kind, .int .i64 y.move.label, .int .i64 y.move.tran, .bool y.fin]) w' from fun w' g => ⟨cell_gr c5 g, cell_gr e0 g, cell_gr e1 g, HL w' g⟩)
                  have l0 := HL w3.drew ((Gr.refl _).drew)
                  clear HL
                  go_wp2_with fail
                  rw [← hw3]
                  clear hw3
                  go_region_held3 (fun w' => w'.cell? ⟨ab, 5, none⟩ = some (.map (some mb)) ∧ w'.cell? ⟨w.heap.size + 1, 0, none⟩ = some (.int .i64 (b.seen : Int)) ∧ w'.cell? ⟨w.heap.size + 1, 1, none⟩ = some (.int .i64 (b.mark : Int)) ∧ (Instr.lookup 165 (.map (some mb)) (.agg #[.int .i64 (b.seen : Int), .int .i64 (b.mark : Int)]) false).run Try.prog w' = .ok (.agg #[.int .i64 (y.cost : Int), .int .i64 (y.src.seen : Int), .int .i64 (y.src.mark : Int), .int .i64 y.move.kind, .int .i64 y.move.label, .int .i64 y.move.tran, .bool y.fin]) w') (first | ((refine KS.out _ ?_); ((focus ((repeat (first | exact Gr.refl _ | assumption | apply Gr.alloc | apply Gr.drew | apply Gr.drewN | refine Gr.trans ?_ (by assumption))); done)))) | go_keep) (fail)
                  all_goals (
                    obtain ⟨w4, hw4⟩ : ∃ w4, w4 = (w3.alloc (.cells #[.int .i64 (y.cost : Int), .int .i64 (y.src.seen : Int), .int .i64 (y.src.mark : Int), .int .i64 y.move.kind, .int .i64 y.move.label, .int .i64 y.move.tran, .bool y.fin] 164)).drew := ⟨_, rfl⟩
                    rw [← hw4]
                    have G4 : Gr w3 w4 := by rw [hw4]; exact ((Gr.refl _).alloc _).drew
                    have y0 : w4.cell? ⟨w3.heap.size, 0, none⟩ = some (.int .i64 (y.cost : Int)) := by rw [hw4]; exact ((Blk.new rfl).gr ((Gr.refl _).drew)).cell (i := 0) rfl
                    have x0 := (bx.gr G4).cell (i := 0) (v := .int .i64 (x.cost : Int)) rfl
                    have k0 := (bk.gr G4).cell (i := 0) (v := .int .i64 (k.seen : Int)) rfl
                    have k1 := (bk.gr G4).cell (i := 1) (v := .int .i64 (k.mark : Int)) rfl
                    have b0 := (bb3.gr G4).cell (i := 0) (v := .int .i64 (b.seen : Int)) rfl
                    have b1 := (bb3.gr G4).cell (i := 1) (v := .int .i64 (b.mark : Int)) rfl
                    clear hw4 l0 KS c5 e0 e1
                    rename_i hHeld; clear hHeld
                    have HE := Lib.hid (show Rng Try.prog 160 w4 mb (w.heap.size + 2) (kvV kvs) (kvV (m1 ++ m2)) ∧ Blk w4 (w.heap.size + 1) 160 #[.int .i64 (b.seen : Int), .int .i64 (b.mark : Int)] ∧ Blk w4 w.heap.size 160 #[.int .i64 0, .int .i64 0] ∧ Gr w w4 from ⟨hR3.gr G4, bb3.gr G4, br3.gr G4, hgr3.trans G4⟩)
                    have HM := Lib.hid ((hR3.gr G4).left_eq)
                    clear G4 bb3 br3 bx bk hR3
                    go_wp2_with fail
                    go_roundw
                    case rel => exact ⟨m1 ++ m2, b, true, HE.out.1, HE.out.2.1, HE.out.2.2.1, HN.out, HE.out.2.2.2, rfl⟩
                    case measure => rw [HM.out, HLE.out, kvV_len]; omega)
                case pos =>
                  by_cases hc5 : k.mark < b.mark
                  · have q1 : decide ((x.cost : Int) < (y.cost : Int)) = false := by simp; omega
                    have q1n : decide (x.cost < y.cost) = false := by simp; omega
                    have q2 : ((x.cost : Int) == (y.cost : Int)) = true := by simp; omega
                    have q3 : decide ((k.seen : Int) < (b.seen : Int)) = false := by simp; omega
                    have q3n : decide (k.seen < b.seen) = false := by simp; omega
                    have q4 : ((k.seen : Int) == (b.seen : Int)) = true := by simp; omega
                    have q5 : decide ((k.mark : Int) < (b.mark : Int)) = true := by simp; omega
                    have q5n : decide (k.mark < b.mark) = true := by simp; omega
                    have HN := Lib.hid (hN.take hx hf (fun _ y' hy' => by rw [hyl] at hy'; cases hy'; omega))
                    clear hN hx hyl hc1 hc2 hc3 hc4 hc5
                    have KS := Lib.hid (show ∀ w', Gr w3 w' → w'.cell? ⟨ab, 5, none⟩ = some (.map (some mb)) ∧ w'.cell? ⟨w.heap.size + 1, 0, none⟩ = some (.int .i64 (b.seen : Int)) ∧ w'.cell? ⟨w.heap.size + 1, 1, none⟩ = some (.int .i64 (b.mark : Int)) ∧ (Instr.lookup 165 (.map (some mb)) (.agg #[.int .i64 (b.seen : Int), .int .i64 (b.mark : Int)]) false).run Try.prog w' = .ok (.agg #[.int .i64 (y.cost : Int), .int .i64 (y.src.seen : Int), .int .i64 (y.src.mark : Int), .int .i64 y.move.kind, .int .i64 y.move.label, .int .i64 y.move.tran, .bool y.fin]) w' from fun w' g => ⟨cell_gr c5 g, cell_gr e0 g, cell_gr e1 g, HL w' g⟩)
                    have l0 := HL w3.drew ((Gr.refl _).drew)
                    clear HL
                    go_wp2_with fail
                    rw [← hw3]
                    clear hw3
                    go_region_held3 (fun w' => w'.cell? ⟨ab, 5, none⟩ = some (.map (some mb)) ∧ w'.cell? ⟨w.heap.size + 1, 0, none⟩ = some (.int .i64 (b.seen : Int)) ∧ w'.cell? ⟨w.heap.size + 1, 1, none⟩ = some (.int .i64 (b.mark : Int)) ∧ (Instr.lookup 165 (.map (some mb)) (.agg #[.int .i64 (b.seen : Int), .int .i64 (b.mark : Int)]) false).run Try.prog w' = .ok (.agg #[.int .i64 (y.cost : Int), .int .i64 (y.src.seen : Int), .int .i64 (y.src.mark : Int), .int .i64 y.move.kind, .int .i64 y.move.label, .int .i64 y.move.tran, .bool y.fin]) w') (first | ((refine KS.out _ ?_); ((focus ((repeat (first | exact Gr.refl _ | assumption | apply Gr.alloc | apply Gr.drew | apply Gr.drewN | refine Gr.trans ?_ (by assumption))); done)))) | go_keep) (fail)
                    all_goals (
                      obtain ⟨w4, hw4⟩ : ∃ w4, w4 = (w3.alloc (.cells #[.int .i64 (y.cost : Int), .int .i64 (y.src.seen : Int), .int .i64 (y.src.mark : Int), .int .i64 y.move.kind, .int .i64 y.move.label, .int .i64 y.move.tran, .bool y.fin] 164)).drew := ⟨_, rfl⟩
                      rw [← hw4]
                      have G4 : Gr w3 w4 := by rw [hw4]; exact ((Gr.refl _).alloc _).drew
                      have y0 : w4.cell? ⟨w3.heap.size, 0, none⟩ = some (.int .i64 (y.cost : Int)) := by rw [hw4]; exact ((Blk.new rfl).gr ((Gr.refl _).drew)).cell (i := 0) rfl
                      have x0 := (bx.gr G4).cell (i := 0) (v := .int .i64 (x.cost : Int)) rfl
                      have k0 := (bk.gr G4).cell (i := 0) (v := .int .i64 (k.seen : Int)) rfl
                      have k1 := (bk.gr G4).cell (i := 1) (v := .int .i64 (k.mark : Int)) rfl
                      have b0 := (bb3.gr G4).cell (i := 0) (v := .int .i64 (b.seen : Int)) rfl
                      have b1 := (bb3.gr G4).cell (i := 1) (v := .int .i64 (b.mark : Int)) rfl
                      clear hw4 l0 KS c5 e0 e1
                      rename_i hHeld; clear hHeld
                      have f0 := (bb3.gr G4).frozen 0
                      have hb2 := (bb3.gr G4).set 0 (.int .i64 (k.seen : Int))
                      have f1 := hb2.frozen 1
                      have d0 := (bb3.gr G4).cell (i := 0) (v := .int .i64 (b.seen : Int)) rfl
                      have d1 := hb2.cell (i := 1) (v := .int .i64 (b.mark : Int)) rfl
                      have hb3 := hb2.set 1 (.int .i64 (k.mark : Int))
                      have GE := ((hgr3.trans G4).setCell (p := ⟨w.heap.size + 1, 0, none⟩) (Nat.le_succ _) (.int .i64 (k.seen : Int))).setCell (p := ⟨w.heap.size + 1, 1, none⟩) (Nat.le_succ _) (.int .i64 (k.mark : Int))
                      have hR4 := Rng.set2 (hR3.gr G4) HNE.out.1 HNE.out.2 (.int .i64 (k.seen : Int)) (.int .i64 (k.mark : Int))
                      have hr4 := ((br3.gr G4).other (a := ⟨w.heap.size + 1, 0, none⟩) (by simp) (.int .i64 (k.seen : Int))).other (a := ⟨w.heap.size + 1, 1, none⟩) (by simp) (.int .i64 (k.mark : Int))
                      have HE := Lib.hid (show Rng Try.prog 160 _ mb (w.heap.size + 2) (kvV kvs) (kvV (m1 ++ m2)) ∧ Blk _ (w.heap.size + 1) 160 #[.int .i64 (k.seen : Int), .int .i64 (k.mark : Int)] ∧ Blk _ w.heap.size 160 #[.int .i64 0, .int .i64 0] ∧ Gr w _ from ⟨hR4, hb3, hr4, GE⟩)
                      have HM := Lib.hid (hR4.left_eq)
                      clear hb2 hb3 GE hR4 hr4 G4 bb3 br3 bx bk hR3
                      go_wp2_with fail
                      go_roundw
                      case rel => exact ⟨m1 ++ m2, k, true, HE.out.1, HE.out.2.1, HE.out.2.2.1, HN.out, HE.out.2.2.2, rfl⟩
                      case measure => rw [HM.out, HLE.out, kvV_len]; omega)
                  · have q1 : decide ((x.cost : Int) < (y.cost : Int)) = false := by simp; omega
                    have q1n : decide (x.cost < y.cost) = false := by simp; omega
                    have q2 : ((x.cost : Int) == (y.cost : Int)) = true := by simp; omega
                    have q3 : decide ((k.seen : Int) < (b.seen : Int)) = false := by simp; omega
                    have q3n : decide (k.seen < b.seen) = false := by simp; omega
                    have q4 : ((k.seen : Int) == (b.seen : Int)) = true := by simp; omega
                    have q5 : decide ((k.mark : Int) < (b.mark : Int)) = false := by simp; omega
                    have q5n : decide (k.mark < b.mark) = false := by simp; omega
                    have HN := Lib.hid (hN.drop (.inr ⟨rfl, fun y' hy' => by rw [hyl] at hy'; cases hy'; simp only []; omega⟩))
                    clear hN hx hyl hc1 hc2 hc3 hc4 hc5
                    have KS := Lib.hid (show ∀ w', Gr w3 w' → w'.cell? ⟨ab, 5, none⟩ = some (.map (some mb)) ∧ w'.cell? ⟨w.heap.size + 1, 0, none⟩ = some (.int .i64 (b.seen : Int)) ∧ w'.cell? ⟨w.heap.size + 1, 1, none⟩ = some (.int .i64 (b.mark : Int)) ∧ (Instr.lookup 165 (.map (some mb)) (.agg #[.int .i64 (b.seen : Int), .int .i64 (b.mark : Int)]) false).run Try.prog w' = .ok (.agg #[.int .i64 (y.cost : Int), .int .i64 (y.src.seen : Int), .int .i64 (y.src.mark : Int), .int .i64 y.move.kind, .int .i64 y.move.label, .int .i64 y.move.tran, .bool y.fin]) w' from fun w' g => ⟨cell_gr c5 g, cell_gr e0 g, cell_gr e1 g, HL w' g⟩)
                    have l0 := HL w3.drew ((Gr.refl _).drew)
                    clear HL
                    go_wp2_with fail
                    rw [← hw3]
                    clear hw3
                    go_region_held3 (fun w' => w'.cell? ⟨ab, 5, none⟩ = some (.map (some mb)) ∧ w'.cell? ⟨w.heap.size + 1, 0, none⟩ = some (.int .i64 (b.seen : Int)) ∧ w'.cell? ⟨w.heap.size + 1, 1, none⟩ = some (.int .i64 (b.mark : Int)) ∧ (Instr.lookup 165 (.map (some mb)) (.agg #[.int .i64 (b.seen : Int), .int .i64 (b.mark : Int)]) false).run Try.prog w' = .ok (.agg #[.int .i64 (y.cost : Int), .int .i64 (y.src.seen : Int), .int .i64 (y.src.mark : Int), .int .i64 y.move.kind, .int .i64 y.move.label, .int .i64 y.move.tran, .bool y.fin]) w') (first | ((refine KS.out _ ?_); ((focus ((repeat (first | exact Gr.refl _ | assumption | apply Gr.alloc | apply Gr.drew | apply Gr.drewN | refine Gr.trans ?_ (by assumption))); done)))) | go_keep) (fail)
                    all_goals (
                      obtain ⟨w4, hw4⟩ : ∃ w4, w4 = (w3.alloc (.cells #[.int .i64 (y.cost : Int), .int .i64 (y.src.seen : Int), .int .i64 (y.src.mark : Int), .int .i64 y.move.kind, .int .i64 y.move.label, .int .i64 y.move.tran, .bool y.fin] 164)).drew := ⟨_, rfl⟩
                      rw [← hw4]
                      have G4 : Gr w3 w4 := by rw [hw4]; exact ((Gr.refl _).alloc _).drew
                      have y0 : w4.cell? ⟨w3.heap.size, 0, none⟩ = some (.int .i64 (y.cost : Int)) := by rw [hw4]; exact ((Blk.new rfl).gr ((Gr.refl _).drew)).cell (i := 0) rfl
                      have x0 := (bx.gr G4).cell (i := 0) (v := .int .i64 (x.cost : Int)) rfl
                      have k0 := (bk.gr G4).cell (i := 0) (v := .int .i64 (k.seen : Int)) rfl
                      have k1 := (bk.gr G4).cell (i := 1) (v := .int .i64 (k.mark : Int)) rfl
                      have b0 := (bb3.gr G4).cell (i := 0) (v := .int .i64 (b.seen : Int)) rfl
                      have b1 := (bb3.gr G4).cell (i := 1) (v := .int .i64 (b.mark : Int)) rfl
                      clear hw4 l0 KS c5 e0 e1
                      rename_i hHeld; clear hHeld
                      have HE := Lib.hid (show Rng Try.prog 160 w4 mb (w.heap.size + 2) (kvV kvs) (kvV (m1 ++ m2)) ∧ Blk w4 (w.heap.size + 1) 160 #[.int .i64 (b.seen : Int), .int .i64 (b.mark : Int)] ∧ Blk w4 w.heap.size 160 #[.int .i64 0, .int .i64 0] ∧ Gr w w4 from ⟨hR3.gr G4, bb3.gr G4, br3.gr G4, hgr3.trans G4⟩)
                      have HM := Lib.hid ((hR3.gr G4).left_eq)
                      clear G4 bb3 br3 bx bk hR3
                      go_wp2_with fail
                      go_roundw
                      case rel => exact ⟨m1 ++ m2, b, true, HE.out.1, HE.out.2.1, HE.out.2.2.1, HN.out, HE.out.2.2.2, rfl⟩
                      case measure => rw [HM.out, HLE.out, kvV_len]; omega)
end Go.Proofs.Ytkanaoebpajbfaa
