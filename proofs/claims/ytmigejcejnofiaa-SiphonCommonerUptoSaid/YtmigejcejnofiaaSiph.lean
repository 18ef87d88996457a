/- Contracts of package siphon's small functions: set, of, list. -/
import Derived.Test.YtmigejcejnofiaaMark
import Derived.Test.YtmigejcejnofiaaSiphLaw
import Derived.Test.YtmigejcejnofiaaStep
import Derived.Laws.BitsAllLaws
import Derived.Laws.ShiftsVarLaws
import Derived.BigQuiet
import Derived.Deep.QuietTactic
namespace Go.Proofs.Ytmigejcejnofiaa
open Go.RowKit Go.Tok
set_option linter.unusedVariables false

theorem ret_u32 {a b : Int} (h : a = b) : Ending.returned (.int .u32 a) = .returned (.int .u32 b) := by rw [h]
theorem or_bit {s p : Nat} (hs : s < 65536) (hp : p < 16) : bits .or .u32 (s : Int) (2 ^ p % 4294967296) = ((addB s p : Nat) : Int) := by
  have h1 : (2 : Nat) ^ p < 2 ^ 16 := Nat.pow_lt_pow_right (by omega) hp
  have h3 : (2 : Int) ^ p = ((2 ^ p : Nat) : Int) := by simp
  rw [addB_def, h3]
  generalize 2 ^ p = q at h1 ⊢
  have h2 : ((q : Int) % 4294967296) = (q : Int) := by omega
  rw [h2, u32_or_nat _ _ (by omega) (by omega)]

set_option maxHeartbeats 1000000 in
theorem set_calls (v : Value) (l : List Int) (w : World) (hv : Ints w v l) :
    Calls Try.prog 65 #[v] w fun e w' => e = .returned (.int .u32 ((setN l : Nat) : Int)) ∧ w = w' := by
  obtain ⟨a, cap, rfl, hlc, hcap⟩ := hv.len
  go_enter Try.func65, Try.ntmps65
  go_wp2
  go_loop [3, 8] (fun x i => ∃ k : Nat, k ≤ l.length ∧ i = .int .i64 k ∧ x = .int .u32 ((setTo l k : Nat) : Int)) (fun _ i => l.length - (intOf i).toNat)
  case atStart => exact ⟨0, Nat.zero_le _, rfl, by rw [setTo_zero]; rfl⟩
  case round =>
    obtain ⟨k, hk, rfl, rfl⟩ := hrel
    by_cases hlt : k < l.length
    · obtain ⟨b', o, rfl, hcell⟩ := hv.cell hlt
      have r := hv.range k
      by_cases h0 : nth l k < 0
      · go_wp2
        go_round
        case rel => exact ⟨k + 1, by omega, by go_num, by rw [setTo_out (.inl h0)]⟩
        case measure => simp [intOf]; omega
      by_cases h1 : 16 ≤ nth l k
      · have h0' : 0 ≤ nth l k := by omega
        go_wp2
        go_round
        case rel => exact ⟨k + 1, by omega, by go_num, by rw [setTo_out (.inr h1)]⟩
        case measure => simp [intOf]; omega
      obtain ⟨p, hp⟩ := Int.eq_ofNat_of_zero_le (show 0 ≤ nth l k by omega)
      have hp16 : p < 16 := by omega
      have HP := Lib.hid hp
      rw [hp] at hcell
      have hpi : (p : Int) < 16 := by omega
      have hst := setTo_lt l k
      clear h0 h1 hp r
      have e1 := or_bit hst hp16
      have HE := Lib.hid (setTo_in (l := l) (k := k) (by rw [HP.out]; omega) (by rw [HP.out]; omega))
      rw [HP.out] at HE
      go_wp2
      go_round
      case rel => exact ⟨k + 1, by omega, by go_num, by rw [HE.out]; simp⟩
      case measure => simp [intOf]; omega
    · obtain rfl : k = l.length := by omega
      go_wp2
      go_ret
      exact ⟨ret_u32 (by rw [setN_def]), rfl⟩

set_option maxHeartbeats 1000000 in
theorem of_calls (v : Value) (l : List Int) (w : World) (hv : Ints w v l) (hl : l.length ≤ 16) :
    Calls Try.prog 67 #[v] w fun e w' => e = .returned (.int .u32 ((ofN l : Nat) : Int)) ∧ w = w' := by
  obtain ⟨a, cap, rfl, hlc, hcap⟩ := hv.len
  go_enter Try.func67, Try.ntmps67
  go_wp2
  go_loop [3, 8] (fun x i => ∃ k : Nat, k ≤ l.length ∧ i = .int .i64 k ∧ x = .int .u32 ((ofTo l k : Nat) : Int)) (fun _ i => l.length - (intOf i).toNat)
  case atStart => exact ⟨0, Nat.zero_le _, rfl, by rw [ofTo_zero]; rfl⟩
  case round =>
    obtain ⟨k, hk, rfl, rfl⟩ := hrel
    by_cases hlt : k < l.length
    · obtain ⟨b', o, rfl, hcell⟩ := hv.cell hlt
      by_cases h0 : 0 < nth l k
      · have hst := ofTo_lt l k (by omega)
        have e1 := or_bit hst (show k < 16 by omega)
        have HE := Lib.hid (ofTo_in h0)
        go_wp2
        go_round
        case rel => exact ⟨k + 1, by omega, by go_num, by rw [HE.out]⟩
        case measure => simp [intOf]; omega
      · have h1 : nth l k ≤ 0 := by omega
        have HE := Lib.hid (ofTo_out h1)
        go_wp2
        go_round
        case rel => exact ⟨k + 1, by omega, by go_num, by rw [HE.out]⟩
        case measure => simp [intOf]; omega
    · obtain rfl : k = l.length := by omega
      go_wp2
      go_ret
      exact ⟨ret_u32 (by rw [ofN_def]), rfl⟩

theorem bit_test {s k : Nat} (hs : s < 65536) : (bits .and .u32 ((s : Int) / 2 ^ k) 1 == 1) = s.testBit k := by
  have h3 : (2 : Int) ^ k = ((2 ^ k : Nat) : Int) := by simp
  rw [h3, ← Int.natCast_ediv, show (1 : Int) = ((1 : Nat) : Int) from rfl, u32_and_nat _ _ (Nat.lt_of_le_of_lt (Nat.div_le_self _ _) (by omega)) (by omega), Nat.testBit_eq_decide_div_mod_eq, Nat.and_one_is_mod, Bool.eq_iff_iff, beq_iff_eq, decide_eq_true_eq, Int.natCast_inj]
set_option maxHeartbeats 1000000 in
set_option maxRecDepth 100000 in
theorem list_calls (s : Nat) (w : World) (hs : s < 65536) :
    Calls Try.prog 69 #[.int .u32 (s : Int)] w fun e w' => ∃ v, e = .returned v ∧ OwnI 3 w.heap.size w' v (bitsTo s 16) ∧ Gr w w' := by
  have T := intTy
  go_enter Try.func69, Try.ntmps69
  go_wp2
  go_loopw [3, 5] (fun out i wr => ∃ k : Nat, k ≤ 16 ∧ i = .int .i64 k ∧ OwnI 3 w.heap.size wr out (bitsTo s k) ∧ Gr w wr) (fun _ i _ => 16 - (intOf i).toNat)
  case atStart => exact ⟨0, Nat.zero_le _, rfl, by rw [bitsTo_zero]; exact OwnI.nil _ _ _, Gr.refl _⟩
  case round =>
    rename_i wr
    obtain ⟨k, hk, rfl, ho, hgr⟩ := hrel
    by_cases hlt : k < 16
    · have hlen := bitsTo_len s k
      have ht := bit_test (k := k) hs
      cases hb : s.testBit k
      · have HE := Lib.hid (bitsTo_no hb)
        rw [hb] at ht
        clear hb
        go_wp2_with fail
        go_roundw
        case rel => exact ⟨k + 1, by omega, by go_num, by rw [HE.out]; exact ho, hgr⟩
        case measure => simp [intOf]; omega
      · have HE := Lib.hid (bitsTo_yes hb)
        rw [hb] at ht
        clear hb
        go_wp2_with (at_builtin; refine app_int T _ _ w.heap.size _ (bitsTo s k) ⟨wr.heap.size, 0, none⟩ k rfl rfl (by rfl) (by rfl) (ho.alloc _) (lit_cell (by simp)) (i64_nat (by omega)) (by omega) (Gr.le (by (repeat (first | exact Gr.refl _ | assumption | apply Gr.alloc | apply Gr.drew | apply Gr.drewN | refine Gr.trans ?_ (by assumption))))) ?_; intro v' w' ho' hg' _ _)
        go_roundw
        case rel => exact ⟨k + 1, by omega, by go_num, by rw [HE.out]; exact ho', hg' w (Nat.le_refl _) (by (repeat (first | exact Gr.refl _ | assumption | apply Gr.alloc | apply Gr.drew | apply Gr.drewN | refine Gr.trans ?_ (by assumption))))⟩
        case measure => simp [intOf]; omega
    · obtain rfl : k = 16 := by omega
      go_wp2_with fail
      go_ret
      exact ⟨_, rfl, ho, hgr⟩
end Go.Proofs.Ytmigejcejnofiaa
