/- Contracts of tongue's spread, hear, first, ends. -/
import Derived.Test.YtkanaoebpajbfaaTongLaw
import Derived.Test.YtkanaoebpajbfaaBoolRow
import Derived.Test.YtkanaoebpajbfaaGR
import Derived.BigQuiet
import Derived.Deep.QuietTactic
namespace Go.Proofs.Ytkanaoebpajbfaa
open Go.RowKit Go.Tok
set_option linter.unusedVariables false
/-- a speaker at block pb -/
def Spk (w : World) (pb : Nat) (ms : List (List Int)) (arcs : List ArcD) (lab : List Int) (en : List Bool) : Prop :=
  ∃ (ma aa la ea : Option Addr) (mc ac lc ec : Nat), Blk w pb 180 #[.slice ma ms.length mc, .slice aa arcs.length ac, .slice la lab.length lc, .slice ea en.length ec] ∧ Rd rowK w (.slice ma ms.length mc) ms ∧ Rd arcK w (.slice aa arcs.length ac) arcs ∧ Ints w (.slice la lab.length lc) lab ∧ Rd boolK w (.slice ea en.length ec) en
theorem Spk.gr {w w' : World} {pb : Nat} {ms : List (List Int)} {arcs : List ArcD} {lab : List Int} {en : List Bool} (h : Spk w pb ms arcs lab en) (g : Gr w w') : Spk w' pb ms arcs lab en := by
  obtain ⟨ma, aa, la, ea, mc, ac, lc, ec, h1, h2, h3, h4, h5⟩ := h
  exact ⟨ma, aa, la, ea, mc, ac, lc, ec, h1.gr g, h2.gr g, h3.gr g, h4.gr g, h5.gr g⟩
set_option maxHeartbeats 4000000 in
set_option maxRecDepth 100000 in
theorem tspread_calls {w0 w : World} {pb g n cap : Nat} {ms : List (List Int)} {arcs : List ArcD} {lab : List Int} {en xs : List Bool} (h : Spk w0 pb ms arcs lab en) (hok : ArcsOk n lab.length arcs) (G : Gr w0 w) (hx : OwnB 4 w0.heap.size w (.slice (some ⟨g, 0, none⟩) n cap) xs) (hxl : xs.length = n) (ha : arcs.length ≤ 5864062014805) (hn : n ≤ 5864062014805) :
    Calls Try.prog 153 #[.pointer (some ⟨pb, 0, none⟩), .slice (some ⟨g, 0, none⟩) n cap] w fun e w' => e = .returned (.slice (some ⟨g, 0, none⟩) n cap) ∧ Gr w0 w' ∧ ∃ ys, OwnB 4 w0.heap.size w' (.slice (some ⟨g, 0, none⟩) n cap) ys ∧ ys.length = n ∧ ∀ k, k < n → (ix ys k = true ↔ Quiet lab arcs (InS n xs) k) := by
  obtain ⟨ma, aa, la, ea, mc, ac, lc, ec, bP, hM, hA, hL, hE⟩ := h
  obtain ⟨_, _, e1, hac1, hac2⟩ := hA.len
  have HOK := Lib.hid hok
  have hg0 : w0.heap.size ≤ g := (OwnR.lt hx rfl).1
  clear hok e1
  go_enter Try.func153, Try.ntmps153
  go_wp2_with fail
  go_loopg [5] (falsesB xs + 2) (fun f av wr => ∃ (cur : List Bool) (again : Bool), av = .bool again ∧ OwnB 4 w0.heap.size wr (.slice (some ⟨g, 0, none⟩) n cap) cur ∧ SprI n lab arcs xs cur ∧ (again = false → ClosedTo lab arcs arcs.length cur) ∧ (again = true → falsesB cur + 1 < f) ∧ 0 < f ∧ Gr w0 wr)
  case atStart => exact ⟨xs, true, rfl, hx, SprI.zero hxl, (fun e => by cases e), fun _ => Nat.lt_succ_self _, Nat.succ_pos _, G⟩
  case round =>
    obtain ⟨cur, again, rfl, ho, hS, hC, hf, hf0, hgr⟩ := hrel
    cases again
    · have HC := Lib.hid (hC rfl)
      go_wp2_with fail
      go_ret
      exact ⟨rfl, hgr, cur, ho, hS.len, fun k hk => hS.done HOK.out HC.out hk⟩
    · have hf1 := hf rfl
      obtain ⟨f, rfl⟩ : ∃ f, gk = f + 1 := ⟨gk - 1, by omega⟩
      have P1 := (bP.gr hgr).cell (i := 1) (v := .slice aa arcs.length ac) rfl
      clear hf hC
      go_wp2_with fail
      go_loopw [15, 5] (fun q av wi => ∃ (k : Nat) (cur2 : List Bool) (again2 : Bool), q = .int .i64 k ∧ av = .bool again2 ∧ k ≤ arcs.length ∧ OwnB 4 w0.heap.size wi (.slice (some ⟨g, 0, none⟩) n cap) cur2 ∧ SprI n lab arcs xs cur2 ∧ TurnI lab arcs k (falsesB cur) cur2 again2 ∧ Gr w0 wi) (fun q _ _ => arcs.length - (intOf q).toNat)
      case atStart => exact ⟨0, cur, false, rfl, rfl, Nat.zero_le _, ho, hS, .inl ⟨rfl, ClosedTo.zero _ _ _, rfl⟩, hgr⟩
      case round =>
        rename World => wi
        obtain ⟨k, cur2, again2, rfl, rfl, hk, ho2, hS2, hT, hgr2⟩ := hrel
        by_cases hlt : k < arcs.length
        · obtain ⟨ab, ao, rfl, c0, c1, c2, hI⟩ := (hA.gr hgr2).arc hlt
          obtain ⟨j, t, d, hq, hj, ht, hd⟩ := HOK.out.at_ hlt
          rw [hq] at c0 c1 c2
          have hm : (⟨(j : Int), (t : Int), (d : Int)⟩ : ArcD) ∈ arcs := by rw [← hq]; exact ix_mem hlt
          have hkI : (k : Int) < (arcs.length : Int) := by omega
          have hlen2 := hS2.len
          have P2 := (bP.gr (hgr2.trans ((Gr.refl _).alloc (.cells #[.int .i64 (j : Int), .int .i64 (t : Int), .int .i64 (d : Int)] 214)))).cell (i := 2) (v := .slice la lab.length lc) rfl
          obtain ⟨lb, lo, rfl, L0⟩ := ((hL.gr hgr2).gr ((Gr.refl _).alloc (.cells #[.int .i64 (j : Int), .int .i64 (t : Int), .int .i64 (d : Int)] 214))).cell (i := t) ht
          have ob := OwnB.gr ho2 ((Gr.refl wi).alloc (.cells #[.int .i64 (j : Int), .int .i64 (t : Int), .int .i64 (d : Int)] 214))
          have S0 := ob.at_ (i := j) (by omega)
          have S2 := ob.at_ (i := d) (by omega)
          have A0 : (wi.alloc (.cells #[.int .i64 (j : Int), .int .i64 (t : Int), .int .i64 (d : Int)] 214)).cell? ⟨wi.heap.size, 0, none⟩ = some (.int .i64 (j : Int)) := box_cell (Gr.refl _) (i := 0) rfl
          have A1 : (wi.alloc (.cells #[.int .i64 (j : Int), .int .i64 (t : Int), .int .i64 (d : Int)] 214)).cell? ⟨wi.heap.size, 1, none⟩ = some (.int .i64 (t : Int)) := box_cell (Gr.refl _) (i := 1) rfl
          have A2 : (wi.alloc (.cells #[.int .i64 (j : Int), .int .i64 (t : Int), .int .i64 (d : Int)] 214)).cell? ⟨wi.heap.size, 2, none⟩ = some (.int .i64 (d : Int)) := box_cell (Gr.refl _) (i := 2) rfl
          have htI : (t : Int) < (lab.length : Int) := by omega
          have hjI : (j : Int) < (n : Int) := by omega
          have hdI : (d : Int) < (n : Int) := by omega
          by_cases p1 : nth lab t = 0
          case neg =>
            have q1 : (nth lab t == 0) = false := by simpa using p1
            have hT2 : TurnI lab arcs (k + 1) (falsesB cur) cur2 again2 := hT.imp (fun h => ⟨h.1, h.2.1.succ hq (fun e => absurd e p1), h.2.2⟩) id
            clear p1 hq
            go_wp2_with fail
            go_quiet (fail)
            go_wp2_with fail
            go_roundw
            case rel => exact ⟨k + 1, cur2, again2, by go_num, rfl, by omega, OwnB.gr ho2 (by (repeat (first | exact Gr.refl _ | assumption | apply Gr.drewN | apply Gr.drew | apply Gr.alloc | (refine Gr.setCell ?_ (by simp; try omega) _) | refine Gr.trans ?_ (by assumption)))), hS2, hT2, hgr2.trans (by (repeat (first | exact Gr.refl _ | assumption | apply Gr.drewN | apply Gr.drew | apply Gr.alloc | (refine Gr.setCell ?_ (by simp; try omega) _) | refine Gr.trans ?_ (by assumption))))⟩
            case measure => simp [intOf]; omega
          have q1 : (nth lab t == 0) = true := by simpa using p1
          cases hb : ix cur2 j
          · rw [hb] at S0
            have hT2 : TurnI lab arcs (k + 1) (falsesB cur) cur2 again2 := hT.imp (fun h => ⟨h.1, h.2.1.succ hq (fun _ e => by rw [hb] at e; cases e), h.2.2⟩) id
            clear p1 hq hb
            go_wp2_with fail
            go_quiet (fail)
            go_wp2_with fail
            go_roundw
            case rel => exact ⟨k + 1, cur2, again2, by go_num, rfl, by omega, OwnB.gr ho2 (by (repeat (first | exact Gr.refl _ | assumption | apply Gr.drewN | apply Gr.drew | apply Gr.alloc | (refine Gr.setCell ?_ (by simp; try omega) _) | refine Gr.trans ?_ (by assumption)))), hS2, hT2, hgr2.trans (by (repeat (first | exact Gr.refl _ | assumption | apply Gr.drewN | apply Gr.drew | apply Gr.alloc | (refine Gr.setCell ?_ (by simp; try omega) _) | refine Gr.trans ?_ (by assumption))))⟩
            case measure => simp [intOf]; omega
          · rw [hb] at S0
            cases hc : ix cur2 d
            · rw [hc] at S2
              have hS3 := hS2.set hm p1 hj hd hb
              have hfs := falses_set cur2 d (by omega) hc
              have hfl : falsesB cur2 ≤ falsesB cur := by rcases hT with ⟨_, _, h⟩ | ⟨_, h⟩ <;> omega
              have hT2 : TurnI lab arcs (k + 1) (falsesB cur) (cur2.set d true) true := .inr ⟨rfl, by omega⟩
              have SF := OwnR.frozen (K := boolK) ob d
              clear p1 hq hb hc hfs hfl
              go_wp2_with fail
              go_quiet (fail)
              go_wp2_with fail
              go_roundw
              case rel => exact ⟨k + 1, cur2.set d true, true, by go_num, rfl, by omega, OwnB.set (OwnB.gr ho2 (by (repeat (first | exact Gr.refl _ | assumption | apply Gr.drewN | apply Gr.drew | apply Gr.alloc | (refine Gr.setCell ?_ (by simp; try omega) _) | refine Gr.trans ?_ (by assumption))))) d true, hS3, hT2, (hgr2.trans (by (repeat (first | exact Gr.refl _ | assumption | apply Gr.drewN | apply Gr.drew | apply Gr.alloc | (refine Gr.setCell ?_ (by simp; try omega) _) | refine Gr.trans ?_ (by assumption))))).setCell hg0 _⟩
              case measure => simp [intOf]; omega
            · rw [hc] at S2
              have hT2 : TurnI lab arcs (k + 1) (falsesB cur) cur2 again2 := hT.imp (fun h => ⟨h.1, h.2.1.succ hq (fun _ _ => hc), h.2.2⟩) id
              clear p1 hq hb hc
              go_wp2_with fail
              go_quiet (fail)
              go_wp2_with fail
              go_roundw
              case rel => exact ⟨k + 1, cur2, again2, by go_num, rfl, by omega, OwnB.gr ho2 (by (repeat (first | exact Gr.refl _ | assumption | apply Gr.drewN | apply Gr.drew | apply Gr.alloc | (refine Gr.setCell ?_ (by simp; try omega) _) | refine Gr.trans ?_ (by assumption)))), hS2, hT2, hgr2.trans (by (repeat (first | exact Gr.refl _ | assumption | apply Gr.drewN | apply Gr.drew | apply Gr.alloc | (refine Gr.setCell ?_ (by simp; try omega) _) | refine Gr.trans ?_ (by assumption))))⟩
              case measure => simp [intOf]; omega
        · obtain rfl : k = arcs.length := by omega
          have hC2 : again2 = false → ClosedTo lab arcs arcs.length cur2 := fun e => by
            rcases hT with ⟨_, h, _⟩ | ⟨h, _⟩
            · exact h
            · rw [h] at e; cases e
          have hF2 : again2 = true → falsesB cur2 + 1 < f := fun e => by
            rcases hT with ⟨h, _⟩ | ⟨_, h⟩
            · rw [h] at e; cases e
            · omega
          go_wp2_with fail
          go_roundg f
          case measure => omega
          case rel => exact ⟨cur2, again2, rfl, ho2, hS2, hC2, hF2, by omega, hgr2⟩
end Go.Proofs.Ytkanaoebpajbfaa
