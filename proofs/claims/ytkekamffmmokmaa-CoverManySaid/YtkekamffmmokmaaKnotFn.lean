/- Contracts of the library's IndexFunc, ContainsFunc at '[]api.Knot', where the function that is handed over answers at each of the knots; the contract of tokenhallkeep.covers. -/
import Derived.Test.YtkekamffmmokmaaPA
import Derived.Test.YtkekamffmmokmaaGM
import Derived.Test.YtkekamffmmokmaaKnot
import Derived.BigQuiet
import Derived.Deep.QuietTactic
namespace Go.Tok
open Go.RowKit
def covKB (b a : List Int) : Bool := decide (a.length = b.length) && ((List.range a.length).all fun p => decide (nth b p = -1) || decide (nth a p ≤ nth b p))
def CovTo (b a : List Int) (k : Nat) : Prop := ∀ p, p < k → nth b p = -1 ∨ nth a p ≤ nth b p
theorem covers_len {b a : List Int} (h : ¬ a.length = b.length) : covKB b a = false := by simp [covKB, h]
theorem covers_no {b a : List Int} {p : Nat} (hp : p < a.length) (h1 : nth b p ≠ -1) (h2 : nth b p < nth a p) : covKB b a = false := by
  unfold covKB
  rw [Bool.and_eq_false_iff]
  right
  rw [List.all_eq_false]
  exact ⟨p, by simpa using hp, by simp [h1]; omega⟩
theorem covers_all {b a : List Int} (hl : a.length = b.length) (h : CovTo b a a.length) : covKB b a = true := by
  unfold covKB
  rw [Bool.and_eq_true]
  refine ⟨by simpa using hl, List.all_eq_true.2 fun p hp => ?_⟩
  rcases h p (by simpa using hp) with e | e
  · simp [e]
  · simp [e]
theorem covers_iff {b a : List Int} : covKB b a = true ↔ coversK b a := by
  constructor
  · intro h
    unfold covKB at h
    rw [Bool.and_eq_true, List.all_eq_true] at h
    refine ⟨by simpa using h.1, fun p hp => ?_⟩
    have := h.2 p (by simpa using hp)
    simpa using this
  · rintro ⟨hl, h⟩
    exact covers_all hl h
end Go.Tok
namespace Go.Proofs.Ytkekamffmmokmaa
open Go.RowKit Go.Tok
set_option linter.unusedVariables false
/-- the function g, bound to lb, answers p at each knot of ks, in w0 and in every later world -/
def AnswersKn (P : Program) (g : Nat) (lb : Array Value) (ks : List KnotD) (p : KnotD → Bool) (w0 : World) : Prop :=
  ∀ (W : World) (u : Value) (x : KnotD), x ∈ ks → Gr w0 W → Ints W u x.mark → Calls P g (#[.agg #[.int .i64 x.up, .int .i64 x.tran, u]] ++ lb) W fun e w' => e = .returned (.bool (p x)) ∧ Gr W w'
set_option maxHeartbeats 2000000 in
theorem IndexFuncKn_calls (v : Value) (ks : List KnotD) (g : Nat) (lb : Array Value) (p : KnotD → Bool) (w : World) (eg : ∀ args w, (callFunc g args).run Try.prog w = .ok (.enter g args) w)
    (hv : Rd knK w v ks) (hg : AnswersKn Try.prog g lb ks p w) :
    Calls Try.prog 68 #[v, .func (.func g) #[] lb] w fun e w' => e = .returned (.int .i64 (firstI p ks)) ∧ Gr w w' := by
  obtain ⟨a, cap, rfl, hlc, hcap⟩ := hv.len
  go_enter Try.func68, Try.ntmps68
  go_wp2
  go_loopw [8] (fun i wr => ∃ k : Nat, k ≤ ks.length ∧ i = .int .i64 k ∧ NoneI p ks k ∧ Gr w wr) (fun i _ => ks.length - (intOf i).toNat)
  case atStart => exact ⟨0, Nat.zero_le _, rfl, NoneI.zero _ _, Gr.refl _⟩
  case round =>
    rename_i wr _
    obtain ⟨k, hk, rfl, hall, hgr⟩ := hrel
    by_cases hlt : k < ks.length
    · obtain ⟨b, o, u, rfl, c0, c1, c2, hI⟩ := (hv.gr hgr).knot hlt
      have hcall := hg wr u (ix ks k) (ix_mem hlt) hgr hI
      obtain ⟨ua, uc, rfl, _, _⟩ := hI.len
      cases hb : p (ix ks k)
      · rw [hb] at hcall
        go_wp2_with (go_at_fn g; refine hcall.mono ?_; rintro e w' ⟨rfl, g2⟩)
        go_roundw
        case rel => exact ⟨k + 1, by omega, by go_num, hall.succ hb, by (repeat (first | exact Gr.refl _ | assumption | apply Gr.alloc | apply Gr.drew | apply Gr.drewN | refine Gr.trans ?_ (by assumption)))⟩
        case measure => simp [intOf]; omega
      · rw [hb] at hcall
        go_wp2_with (go_at_fn g; refine hcall.mono ?_; rintro e w' ⟨rfl, g2⟩)
        go_ret
        exact ⟨ret_i64 (firstI_hit hall hlt hb).symm, by (repeat (first | exact Gr.refl _ | assumption | apply Gr.alloc | apply Gr.drew | apply Gr.drewN | refine Gr.trans ?_ (by assumption)))⟩
    · obtain rfl : k = ks.length := by omega
      go_wp2
      go_ret
      exact ⟨ret_i64 (firstI_miss hall).symm, hgr⟩
set_option maxHeartbeats 2000000 in
theorem ContainsFuncKn_calls (v : Value) (ks : List KnotD) (g : Nat) (lb : Array Value) (p : KnotD → Bool) (w : World) (eg : ∀ args w, (callFunc g args).run Try.prog w = .ok (.enter g args) w)
    (hv : Rd knK w v ks) (hg : AnswersKn Try.prog g lb ks p w) :
    Calls Try.prog 19 #[v, .func (.func g) #[] lb] w fun e w' => e = .returned (.bool (ks.any p)) ∧ Gr w w' := by
  go_enter Try.func19, Try.ntmps19
  go_wp2_with (go_at_call 68; refine (IndexFuncKn_calls _ _ _ _ _ _ eg hv hg).mono ?_; rintro e w' ⟨rfl, g1⟩)
  go_ret
  exact ⟨ret_bool (firstI_any p ks), g1⟩
set_option maxHeartbeats 1000000 in
theorem covers_calls (v u : Value) (xs ys : List Int) (w : World) (hv : Ints w v xs) (hu : Ints w u ys) :
    Calls Try.prog 21 #[v, u] w fun e w' => e = .returned (.bool (covKB xs ys)) ∧ Gr w w' := by
  obtain ⟨a, cap, rfl, hlc, hcap⟩ := hv.len
  obtain ⟨a', cap', rfl, hlc', hcap'⟩ := hu.len
  by_cases hl : ys.length = xs.length
  · have hlI : ((ys.length : Int) == (xs.length : Int)) = true := by rw [beq_iff_eq]; omega
    have hlN : ((ys.length : Int) != (xs.length : Int)) = false := by rw [bne_eq_false_iff_eq]; omega
    have HL := Lib.hid hl
    clear hl
    go_enter Try.func21, Try.ntmps21
    go_wp2_with fail
    go_loopw [13] (fun i wr => ∃ k : Nat, k ≤ ys.length ∧ i = .int .i64 k ∧ CovTo xs ys k ∧ Gr w wr) (fun i _ => ys.length - (intOf i).toNat)
    case atStart => exact ⟨0, Nat.zero_le _, rfl, fun p hp => by omega, Gr.refl _⟩
    case round =>
      rename World => wr
      obtain ⟨k, hk, rfl, hall, hgr⟩ := hrel
      have HALL := Lib.hid hall
      clear hall
      by_cases hlt : k < ys.length
      · obtain ⟨b, o, rfl, c0⟩ := (hv.gr hgr).cell (i := k) (by rw [← HL.out]; exact hlt)
        obtain ⟨b', o', rfl, c1⟩ := (hu.gr hgr).cell hlt
        have hkI : (k : Int) < (ys.length : Int) := by omega
        have hkX : (k : Int) < (xs.length : Int) := by rw [← HL.out]; omega
        have hk0 : (0 : Int) ≤ (k : Int) := by omega
        have HGR := Lib.hid hgr
        by_cases h1 : nth xs k = -1
        · have t1 : (nth xs k != -1) = false := by simpa using h1
          have hs : CovTo xs ys (k + 1) := fun p hp => by
            by_cases e : p = k
            · subst e; exact .inl h1
            · exact HALL.out p (by omega)
          have HS := Lib.hid hs
          clear h1 hs
          go_wp2_with fail
          go_quiet (fail)
          go_wp2_with fail
          go_roundw
          case rel => exact ⟨k + 1, by omega, by go_num, HS.out, HGR.out.drewN _⟩
          case measure => simp [intOf]; omega
        · have t1 : (nth xs k != -1) = true := by simpa using h1
          by_cases h2 : nth xs k < nth ys k
          · have t2 : decide (nth xs k < nth ys k) = true := by simpa using h2
            have HC := Lib.hid (covers_no hlt h1 h2)
            clear h1
            go_wp2_with fail
            go_quiet (fail)
            go_wp2_with fail
            go_ret
            exact ⟨ret_bool HC.out.symm, HGR.out.drewN _⟩
          · have t2 : decide (nth xs k < nth ys k) = false := by simpa using h2
            have hs : CovTo xs ys (k + 1) := fun p hp => by
              by_cases e : p = k
              · subst e; exact .inr (by omega)
              · exact HALL.out p (by omega)
            have HS := Lib.hid hs
            clear h1 hs
            go_wp2_with fail
            go_quiet (fail)
            go_wp2_with fail
            go_roundw
            case rel => exact ⟨k + 1, by omega, by go_num, HS.out, HGR.out.drewN _⟩
            case measure => simp [intOf]; omega
      · obtain rfl : k = ys.length := by omega
        have HC := Lib.hid (covers_all HL.out HALL.out)
        go_wp2_with fail
        go_ret
        exact ⟨ret_bool HC.out.symm, hgr⟩
  · have hlN : ((ys.length : Int) != (xs.length : Int)) = true := by rw [bne_iff_ne]; omega
    have HC := Lib.hid (covers_len hl)
    clear hl
    go_enter Try.func21, Try.ntmps21
    go_wp2_with fail
    go_ret
    exact ⟨ret_bool HC.out.symm, Gr.refl _⟩
end Go.Proofs.Ytkekamffmmokmaa
