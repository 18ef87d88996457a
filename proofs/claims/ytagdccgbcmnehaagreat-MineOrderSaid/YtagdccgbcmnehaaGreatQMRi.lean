/- Texts of one family, joined; what the claim does not need is left out. -/
import Derived.Shelf.SlSortCmp.Insertion1
import Derived.Test.YtagdccgbcmnehaaGreatQMRh
import Derived.Test.YtagdccgbcmnehaaGreatQMRa
import Derived.Test.YtagdccgbcmnehaaGreatProg
namespace Go.Proofs.YtagdccgbcmnehaaGreat
open Go.RowKit Go.Tok Go.Sort Go.Stab Go.Lib
set_option linter.unusedVariables false
variable {α : Type} [Inhabited α]
theorem mixedStab : Tryz.prog.follows .mixedOrders = true := by kernel_rfl

set_option maxRecDepth 100000 in
set_option maxHeartbeats 4000000 in
theorem swapRange_calls (enc : α → Value) (blk off cap p q n : Nat) (d0 d : Array α) (w0 w : World) (u : Value) (R : Row1 enc w0 blk off d0) (hs : d0.size = d.size) (S : SW enc w0 blk off d w) (hpq : p + n ≤ q) (hq : q + n ≤ d.size) (hsz : d.size < 4611686018427387904) :
    Calls Tryz.prog 220 #[.slice (some ⟨blk, off, none⟩) d.size cap, .int .i64 p, .int .i64 q, .int .i64 n, u] w fun e w' => e = .returned (.tuple #[]) ∧ ∃ d', SW enc w0 blk off d' w' ∧ SwR d d' p q n ∧ PermIn p (q + n) d d' := by
  have hcl0 := R.hO.cells
  simp only [Value.cells] at hcl0
  have hst := R.hO.store Tryz.prog
  have mixed := mixedStab
  have S0 : Aside (SW enc w0 blk off d w) := S
  clear S
  go_enter Tryz.func220, Tryz.ntmps220
  go_wp2_with fail
  go_loopw [10] (fun vi wr => ∃ (t : Nat) (dk : Array α), vi = .int .i64 t ∧ t ≤ n ∧ dk.size = d.size ∧ Aside (SW enc w0 blk off dk wr) ∧ Hid (SwR d dk p q t ∧ PermIn p (q + n) d dk)) (fun i _ => n - (intOf i).toNat)
  case atStart => exact ⟨0, d, rfl, Nat.zero_le _, rfl, S0, Lib.hid ⟨SwR.zero d p q, permIn_refl d _ _⟩⟩
  case round =>
    clear S0
    obtain ⟨t, dk, rfl, ht, hsk, S1, HP⟩ := hrel
    by_cases hlt : t < n
    · have hltz : (t : Int) < (n : Int) := by omega
      have HN : Hid (SwR d (swp dk (p + t) (q + t)) p q (t + 1) ∧ PermIn p (q + n) d (swp dk (p + t) (q + t))) := Lib.hid ⟨HP.out.1.succ hlt hpq hq, permIn_trans _ _ _ _ _ HP.out.2 (swp_permIn dk p (q + n) (p + t) (q + t) (by omega) (by omega) (by omega) (by omega) (by omega))⟩
      obtain ⟨iN, hiN⟩ : ∃ x, x = p + t := ⟨_, rfl⟩
      obtain ⟨jN, hjN⟩ : ∃ x, x = q + t := ⟨_, rfl⟩
      have ea : ((p : Int) + (t : Int)).toNat = iN := by omega
      have pa : (0 : Int) ≤ (p : Int) + (t : Int) := by omega
      have ba : (p : Int) + (t : Int) < (d.size : Int) := by omega
      have ra : IntKind.i64.wrap ((p : Int) + (t : Int)) = (p : Int) + (t : Int) := by rw [IntKind.wrap_i64]; omega
      have ec : ((q : Int) + (t : Int)).toNat = jN := by omega
      have pc : (0 : Int) ≤ (q : Int) + (t : Int) := by omega
      have bc : (q : Int) + (t : Int) < (d.size : Int) := by omega
      have rc : IntKind.i64.wrap ((q : Int) + (t : Int)) = (q : Int) + (t : Int) := by rw [IntKind.wrap_i64]; omega
      obtain ⟨x1, hx1⟩ : ∃ x, x = dk[p + t]! := ⟨_, rfl⟩
      obtain ⟨y1, hy1⟩ : ∃ x, x = dk[q + t]! := ⟨_, rfl⟩
      have S3 : Aside (SW enc w0 blk off (swp dk (p + t) (q + t)) ((wr.setCell ⟨blk, off + iN, none⟩ (enc y1)).setCell ⟨blk, off + jN, none⟩ (enc x1)).drew) := by rw [hiN, hjN, hx1, hy1]; exact S1.out.swapped R (p + t) (q + t) (by omega) (by omega)
      have c1a := S1.out.c1 R (by omega) (p + t) (by omega)
      have c1b := S1.out.c1 R (by omega) (q + t) (by omega)
      have f1a := S1.out.f1 R (by omega) (p + t) (by omega)
      have f1b := S1.out.f1 R (by omega) (q + t) (by omega)
      obtain ⟨u1, c1c⟩ := S1.out.c2 R (by omega) (p + t) (q + t) (by omega) (by omega) (enc y1)
      rw [← hjN, ← hiN] at c1c
      rw [← hx1, ← hiN] at c1a
      rw [← hy1, ← hjN] at c1b
      rw [← hiN] at f1a
      rw [← hjN] at f1b
      clear S1 hx1 hy1 hiN hjN
      go_wp2_with fail
      go_big_region_o
      clear c1a c1b c1c f1a f1b
      generalize ((wr.setCell ⟨blk, off + iN, none⟩ (enc y1)).setCell ⟨blk, off + jN, none⟩ (enc x1)).drew = w3 at S3 ⊢
      clear ea ec pa ba ra pc bc rc
      go_wp2_with fail
      go_roundw
      case rel => exact ⟨t + 1, _, by go_num, by omega, by rw [size_swp]; exact hsk, S3, HN⟩
      case measure => simp [intOf]; omega
    · obtain rfl : t = n := by omega
      go_wp2_with fail
      go_end0
      exact ⟨rfl, dk, S1.out, HP.out.1, HP.out.2⟩
set_option maxRecDepth 100000 in
set_option maxHeartbeats 4000000 in
theorem rotate_calls (enc : α → Value) (blk off cap a m b : Nat) (d0 d : Array α) (w0 w : World) (u : Value) (R : Row1 enc w0 blk off d0) (hs : d0.size = d.size) (S : SW enc w0 blk off d w) (ham : a < m) (hmb : m < b) (hb : b ≤ d.size) (hsz : d.size < 4611686018427387904) :
    Calls Tryz.prog 217 #[.slice (some ⟨blk, off, none⟩) d.size cap, .int .i64 a, .int .i64 m, .int .i64 b, u] w fun e w' => e = .returned (.tuple #[]) ∧ ∃ d', SW enc w0 blk off d' w' ∧ Rot d d' a m b ∧ PermIn a b d d' := by
  have S0 : Aside (SW enc w0 blk off d w) := S
  clear S
  have HB := Lib.hid hb
  have R1 : IntKind.i64.wrap ((m : Int) - (a : Int)) = ((m - a : Nat) : Int) := by rw [IntKind.wrap_i64]; omega
  have R2 : IntKind.i64.wrap ((b : Int) - (m : Int)) = ((b - m : Nat) : Int) := by rw [IntKind.wrap_i64]; omega
  have R3 : (m : Int) - (a : Int) = ((m - a : Nat) : Int) := by omega
  have R4 : (b : Int) - (m : Int) = ((b - m : Nat) : Int) := by omega
  go_enter Tryz.func217, Tryz.ntmps217
  go_wp2_with fail
  clear R1 R2 R3 R4
  go_loopw [10, 11] (fun vi vj wr => ∃ (i j : Nat) (dk : Array α), vi = .int .i64 i ∧ vj = .int .i64 j ∧ 0 < i ∧ 0 < j ∧ i ≤ m ∧ m + j ≤ d.size ∧ dk.size = d.size ∧ Aside (SW enc w0 blk off dk wr) ∧ Hid (∀ d', Rot dk d' (m - i) m (m + j) → PermIn (m - i) (m + j) dk d' → Rot d d' a m b ∧ PermIn a b d d')) (fun vi vj _ => (intOf vi).toNat + (intOf vj).toNat)
  case atStart => exact ⟨m - a, b - m, d, rfl, rfl, by omega, by omega, by omega, by omega, rfl, S0, Lib.hid fun d' h1 h2 => by
      rw [show m - (m - a) = a by omega, show m + (b - m) = b by omega] at h1 h2
      exact ⟨h1, h2⟩⟩
  case round =>
    clear S0
    obtain ⟨i, j, dk, rfl, rfl, hi0, hj0, him, hjd, hsk, S1, HP⟩ := hrel
    obtain ⟨lo, hlo⟩ : ∃ lo, lo + i = m := ⟨m - i, by omega⟩
    have HLO := Lib.hid hlo
    have r1 : IntKind.i64.wrap ((m : Int) - (i : Int)) = (lo : Int) := by rw [IntKind.wrap_i64]; omega
    have r1' : (m : Int) - (i : Int) = (lo : Int) := by omega
    have e1 : m - i = lo := by omega
    rcases Nat.lt_trichotomy i j with hij | hij | hij
    · have q1 : ((i : Int) != (j : Int)) = true := by simp; omega
      have q2 : decide ((j : Int) < (i : Int)) = false := by simp; omega
      have q3 : ¬ (j : Int) < (i : Int) := by omega
      obtain ⟨hp, hhp⟩ : ∃ x, x = m + j - i := ⟨_, rfl⟩
      obtain ⟨mj, hmj⟩ : ∃ x, x = m + j := ⟨_, rfl⟩
      have r2 : IntKind.i64.wrap ((m : Int) + (j : Int)) = (mj : Int) := by rw [IntKind.wrap_i64]; omega
      have r3 : IntKind.i64.wrap ((mj : Int) - (i : Int)) = (hp : Int) := by rw [IntKind.wrap_i64]; omega
      have r4 : IntKind.i64.wrap ((j : Int) - (i : Int)) = ((j - i : Nat) : Int) := by rw [IntKind.wrap_i64]; omega
      have r2' : (m : Int) + (j : Int) = (mj : Int) := by omega
      have r3' : (mj : Int) - (i : Int) = (hp : Int) := by omega
      have r4' : (j : Int) - (i : Int) = ((j - i : Nat) : Int) := by omega
      have HC := Lib.hid (fun W u (S : SW enc w0 blk off dk W) => swapRange_calls enc blk off cap lo hp i d0 dk w0 W u R (by omega) S (by omega) (by omega) (by omega))
      rw [hsk] at HC
      have HHP := Lib.hid hhp
      clear hlo hhp hmj
      go_wp2_with (go_at_call 220; go_loud (refine (HC.out _ _ S1.out).mono ?_; rintro _ w2 ⟨rfl, d2, S2, h1, h2⟩))
      have hsz2 := h2.1
      go_roundw
      case rel =>
        refine ⟨i, j - i, d2, rfl, rfl, hi0, by omega, him, by omega, by omega, S2, Lib.hid fun d' h3 h4 => ?_⟩
        have hlo := HLO.out
        have hhp := HHP.out
        rw [hhp] at h1 h2
        rw [e1] at h3 h4
        have h5 := HP.out d'
        rw [e1] at h5
        have key := Rot.right (d := dk) (d1 := d2) (d' := d') (m := m) (i := i) (j := j)
        rw [e1] at key
        refine h5 (key h1 h3 him hij) (permIn_trans _ _ _ _ _ (permIn_mono _ _ _ _ _ _ (Nat.le_refl _) (by omega) (by omega) h2) (permIn_mono _ _ _ _ _ _ (Nat.le_refl _) (by omega) (by omega) h4))
      case measure => simp [intOf]; omega
    · have q1 : ((i : Int) != (j : Int)) = false := by simp; omega
      have HC := Lib.hid (fun W u (S : SW enc w0 blk off dk W) => swapRange_calls enc blk off cap lo m i d0 dk w0 W u R (by omega) S (by omega) (by omega) (by omega))
      rw [hsk] at HC
      have HIJ := Lib.hid hij
      clear hlo hij
      go_wp2_with (go_at_call 220; go_loud (refine (HC.out _ _ S1.out).mono ?_; rintro _ w2 ⟨rfl, d2, S2, h1, h2⟩))
      go_end0
      have hij := HIJ.out
      subst hij
      have h5 := HP.out d2
      rw [e1] at h5
      have key := Rot.same (d := dk) (d' := d2) (m := m) (i := i)
      rw [e1] at key
      exact ⟨rfl, d2, S2, h5 (key h1 him) h2⟩
    · have q1 : ((i : Int) != (j : Int)) = true := by simp; omega
      have q2 : decide ((j : Int) < (i : Int)) = true := by simp; omega
      have q3 : (j : Int) < (i : Int) := by omega
      have r4 : IntKind.i64.wrap ((i : Int) - (j : Int)) = ((i - j : Nat) : Int) := by rw [IntKind.wrap_i64]; omega
      have r4' : (i : Int) - (j : Int) = ((i - j : Nat) : Int) := by omega
      have HC := Lib.hid (fun W u (S : SW enc w0 blk off dk W) => swapRange_calls enc blk off cap lo m j d0 dk w0 W u R (by omega) S (by omega) (by omega) (by omega))
      rw [hsk] at HC
      clear hlo
      go_wp2_with (go_at_call 220; go_loud (refine (HC.out _ _ S1.out).mono ?_; rintro _ w2 ⟨rfl, d2, S2, h1, h2⟩))
      have hsz2 := h2.1
      go_roundw
      case rel =>
        refine ⟨i - j, j, d2, rfl, rfl, by omega, hj0, by omega, hjd, by omega, S2, Lib.hid fun d' h3 h4 => ?_⟩
        have hlo := HLO.out
        have h5 := HP.out d'
        rw [e1] at h5
        have key := Rot.left (d := dk) (d1 := d2) (d' := d') (m := m) (i := i) (j := j)
        rw [e1] at key
        refine h5 (key h1 h3 him hij) (permIn_trans _ _ _ _ _ h2 (permIn_mono _ _ _ _ _ _ (by omega) (Nat.le_refl _) (by omega) h4))
      case measure => simp [intOf]; omega
end Go.Proofs.YtagdccgbcmnehaaGreat

namespace Go.Proofs.YtagdccgbcmnehaaGreat
open Go.RowKit Go.Tok Go.Sort Go.Stab Go.Lib
set_option linter.unusedVariables false
variable {α : Type} [Inhabited α]
/-- what is told of the row and of the order -/
structure StabX (enc : α → Value) (cf : α → α → Int) (lt : α → α → Bool) (g : Nat) (cb : Array Value) (blk off : Nat) (d0 : Array α) (w0 : World) : Prop where
  eg : ∀ args w, (callFunc g args).run Tryz.prog w = .ok (.enter g args) w
  hcmp : CmpLays1 Tryz.prog g cb enc cf blk off d0.size w0
  R : Row1 enc w0 blk off d0
  hO : SWO lt
  hsz : d0.size < 4611686018427387904
  agree : ∀ x y, x ≠ y → ltOf cf x y = lt x y
theorem wrap_in {i : Nat} (h : i < 9223372036854775808) : IntKind.i64.wrap (i : Int) = (i : Int) := by rw [IntKind.wrap_i64]; omega
theorem wrap_add {i j : Nat} (h : i + j < 9223372036854775808) : IntKind.i64.wrap ((i : Int) + (j : Int)) = ((i + j : Nat) : Int) := by rw [IntKind.wrap_i64]; omega
set_option maxRecDepth 100000 in
set_option maxHeartbeats 4000000 in
theorem symMerge1_calls (enc : α → Value) (cf : α → α → Int) (lt : α → α → Bool) (g : Nat) (cb : Array Value) (blk off cap : Nat) (d0 : Array α) (w0 : World) (X : StabX enc cf lt g cb blk off d0 w0)
    (a b : Nat) (d : Array α) (w : World) (hs : d0.size = d.size) (S : SW enc w0 blk off d w) (hmb : a + 1 < b) (hb : b ≤ d.size) (hB : SortedIn lt (a + 1) b d) (hD : Dist d) :
    Calls Tryz.prog 210 #[.slice (some ⟨blk, off, none⟩) d.size cap, .int .i64 a, .int .i64 ((a + 1 : Nat) : Int), .int .i64 b, .func (.func g) #[] cb] w fun e w' => e = .returned (.tuple #[]) ∧ ∃ d', SW enc w0 blk off d' w' ∧ PermIn a b d d' ∧ SortedIn lt a b d' := by
  obtain ⟨eg, hcmp, R, hO, hsz, hag⟩ := X
  have HAG := Lib.hid hag
  have HD := Lib.hid hD
  clear hag hD
  have HC : Aside _ := hcmp
  have HO := Lib.hid hO
  have HBS := Lib.hid hB
  have S0 : Aside (SW enc w0 blk off d w) := S
  clear S hcmp hO hB
  obtain ⟨m, hm⟩ : ∃ m, m = a + 1 := ⟨_, rfl⟩
  rw [← hm] at HBS ⊢
  have q1 : IntKind.i64.wrap ((m : Int) - (a : Int)) = 1 := by rw [IntKind.wrap_i64]; omega
  have q1' : (m : Int) - (a : Int) = 1 := by omega
  have HM := Lib.hid hm
  have hmb' : m < b := by omega
  have ham' : a < m := by omega
  clear hm
  have hcl0 := R.hO.cells
  simp only [Value.cells] at hcl0
  have hst := R.hO.store Tryz.prog
  have mixed := mixedStab
  go_enter Tryz.func210, Tryz.ntmps210
  go_wp2_with fail
  go_loopw [10, 11] (fun vi vj wr => ∃ (i j : Nat), vi = .int .i64 i ∧ vj = .int .i64 j ∧ m ≤ i ∧ i ≤ j ∧ j ≤ b ∧ Aside (SW enc w0 blk off d wr) ∧ Hid ((∀ x, m ≤ x → x < i → lt d[x]! d[a]! = true) ∧ ∀ x, j ≤ x → x < b → lt d[x]! d[a]! = false)) (fun vi vj _ => (intOf vj).toNat - (intOf vi).toNat)
  case atStart => exact ⟨m, b, rfl, rfl, Nat.le_refl _, by omega, Nat.le_refl _, S0, Lib.hid ⟨fun x h1 h2 => by omega, fun x h1 h2 => by omega⟩⟩
  case round =>
    clear S0
    obtain ⟨i, j, rfl, rfl, hmi, hij, hjb, S1, HP⟩ := hrel
    by_cases hlt : i < j
    · have hltz : (i : Int) < (j : Int) := by omega
      obtain ⟨ij, hij2⟩ : ∃ x, x = i + j := ⟨_, rfl⟩
      obtain ⟨h, hh⟩ : ∃ h, h = (i + j) / 2 := ⟨_, rfl⟩
      have hih : i ≤ h := by omega
      have hhj : h < j := by omega
      obtain ⟨hN, hhN⟩ : ∃ q, q = h := ⟨_, rfl⟩
      obtain ⟨aN, haN⟩ : ∃ q, q = a := ⟨_, rfl⟩
      have ea : ((h : Int)).toNat = hN := by omega
      have pa : (0 : Int) ≤ (h : Int) := by omega
      have ba : (h : Int) < (d.size : Int) := by omega
      have ec : ((a : Int)).toNat = aN := by omega
      have pc : (0 : Int) ≤ (a : Int) := by omega
      have bc : (a : Int) < (d.size : Int) := by omega
      obtain ⟨x1, hx1⟩ : ∃ x, x = d[h]! := ⟨_, rfl⟩
      obtain ⟨y1, hy1⟩ : ∃ x, x = d[a]! := ⟨_, rfl⟩
      have l1a := S1.out.cl R (by omega) h (by omega)
      have l1b := S1.out.cl R (by omega) a (by omega)
      rw [← hx1, ← hhN] at l1a
      rw [← hy1, ← haN] at l1b
      have hc := S1.out.cmp HC.out (by omega) x1 y1
      have hne : d[h]! ≠ d[a]! := fun e => by have := HD.out h a (by omega) (by omega) e; omega
      have hagr := HAG.out _ _ hne
      clear hne
      cases hlv : ltOf cf d[h]! d[a]! with
      | true =>
        have hv : cf x1 y1 < 0 := by rw [hx1, hy1]; exact of_decide_eq_true hlv
        have hd : decide (cf x1 y1 < 0) = true := decide_eq_true hv
        rw [hagr] at hlv
        have HN := Lib.hid (seekR_up HO.out HBS.out (show h < b by omega) hlv)
        clear hx1 hy1 hhN haN hlv hagr
        have r6 : wrap64 (IntKind.u64.wrap (ij : Int) / 2) = (h : Int) := by rw [IntKind.wrap_u64]; unfold wrap64; omega
        have r2 := wrap_in (show ij < 9223372036854775808 by clear r6; omega)
        have r1 := wrap_add (show i + j < 9223372036854775808 by clear r6 r2; omega)
        rw [← hij2] at r1
        clear hij2 hh
        go_wp2_with fail
        go_quiet_grown (first | (go_at_fn g; refine Calls.grown_of (hc _ _)))
        have S2 : Aside (SW enc w0 blk off d (grow (wr.drewN nq) osq)) := S1.out.grown nq osq
        clear l1a l1b hc S1
        generalize grow (wr.drewN nq) osq = w2 at S2 ⊢
        clear nq osq ea ec pa ba pc bc r1 r2 r6
        go_wp2_with fail
        go_roundw
        case rel => exact ⟨h + 1, j, by go_num, rfl, by omega, by omega, hjb, S2, Lib.hid ⟨HN.out, HP.out.2⟩⟩
        case measure => simp [intOf]; omega
      | false =>
        have hv : ¬ cf x1 y1 < 0 := by rw [hx1, hy1]; exact of_decide_eq_false hlv
        have hd : decide (cf x1 y1 < 0) = false := decide_eq_false hv
        rw [hagr] at hlv
        have HN := Lib.hid (seekR_down HO.out HBS.out (show m ≤ h by omega) hlv)
        clear hx1 hy1 hhN haN hlv hagr
        have r6 : wrap64 (IntKind.u64.wrap (ij : Int) / 2) = (h : Int) := by rw [IntKind.wrap_u64]; unfold wrap64; omega
        have r2 := wrap_in (show ij < 9223372036854775808 by clear r6; omega)
        have r1 := wrap_add (show i + j < 9223372036854775808 by clear r6 r2; omega)
        rw [← hij2] at r1
        clear hij2 hh
        go_wp2_with fail
        go_quiet_grown (first | (go_at_fn g; refine Calls.grown_of (hc _ _)))
        have S2 : Aside (SW enc w0 blk off d (grow (wr.drewN nq) osq)) := S1.out.grown nq osq
        clear l1a l1b hc S1
        generalize grow (wr.drewN nq) osq = w2 at S2 ⊢
        clear nq osq ea ec pa ba pc bc r1 r2 r6
        go_wp2_with fail
        go_roundw
        case rel => exact ⟨i, h, rfl, rfl, hmi, hih, by omega, S2, Lib.hid ⟨HP.out.1, HN.out⟩⟩
        case measure => simp [intOf]; omega
    · have hie : i = j := by omega
      have HIE := Lib.hid hie
      have hltz : ¬ (i : Int) < (j : Int) := by omega
      have hib : i ≤ b := by omega
      clear hie hij hjb
      obtain ⟨ip, hip⟩ : ∃ q, q + 1 = i := ⟨i - 1, by omega⟩
      have r1 : IntKind.i64.wrap ((i : Int) - 1) = (ip : Int) := by rw [IntKind.wrap_i64]; omega
      have r2 : (i : Int) - 1 = (ip : Int) := by omega
      have hap : a ≤ ip := by omega
      have HIP := Lib.hid hip
      have hipb : ip < b := by omega
      clear hip hlt
      go_wp2_with fail
      go_loopw [13] (fun vk wr => ∃ (k : Nat) (dk : Array α), vk = .int .i64 k ∧ a ≤ k ∧ k ≤ ip ∧ dk.size = d.size ∧ Aside (SW enc w0 blk off dk wr) ∧ Hid (Rot d dk a m (k + 1) ∧ PermIn a b d dk)) (fun vk _ => ip - (intOf vk).toNat)
      case atStart => exact ⟨a, d, rfl, Nat.le_refl _, hap, rfl, S1, Lib.hid ⟨by rw [HM.out]; exact Rot.none d (.inr rfl) (by omega) (Nat.le_refl _), permIn_refl d _ _⟩⟩
      case round =>
        rename World => wk
        obtain ⟨k, dk, rfl, hak, hki, hsk, S3, HR⟩ := hrel
        clear S1
        by_cases hk : k < ip
        · have hkz : (k : Int) < (ip : Int) := by omega
          have HN : Hid (Rot d (swp dk k (k + 1)) a m (k + 1 + 1) ∧ PermIn a b d (swp dk k (k + 1))) := Lib.hid ⟨by have := HR.out.1; rw [HM.out] at this ⊢; exact this.push hak (by omega), permIn_trans _ _ _ _ _ HR.out.2 (swp_permIn dk a b k (k + 1) (by omega) (by omega) (by omega) (by omega) (by omega))⟩
          obtain ⟨iN, hiN⟩ : ∃ x, x = k := ⟨_, rfl⟩
          obtain ⟨jN, hjN⟩ : ∃ x, x = k + 1 := ⟨_, rfl⟩
          have ea : ((k : Int)).toNat = iN := by omega
          have pa : (0 : Int) ≤ (k : Int) := by omega
          have ba : (k : Int) < (d.size : Int) := by omega
          have ec : ((k : Int) + 1).toNat = jN := by omega
          have pc : (0 : Int) ≤ (k : Int) + 1 := by omega
          have bc : (k : Int) + 1 < (d.size : Int) := by omega
          have rc : IntKind.i64.wrap ((k : Int) + 1) = (k : Int) + 1 := by rw [IntKind.wrap_i64]; omega
          obtain ⟨x1, hx1⟩ : ∃ x, x = dk[k]! := ⟨_, rfl⟩
          obtain ⟨y1, hy1⟩ : ∃ x, x = dk[k + 1]! := ⟨_, rfl⟩
          have S4 : Aside (SW enc w0 blk off (swp dk k (k + 1)) ((wk.setCell ⟨blk, off + iN, none⟩ (enc y1)).setCell ⟨blk, off + jN, none⟩ (enc x1)).drew) := by rw [hiN, hjN, hx1, hy1]; exact S3.out.swapped R k (k + 1) (by omega) (by omega)
          have c1a := S3.out.c1 R (by omega) k (by omega)
          have c1b := S3.out.c1 R (by omega) (k + 1) (by omega)
          have f1a := S3.out.f1 R (by omega) k (by omega)
          have f1b := S3.out.f1 R (by omega) (k + 1) (by omega)
          obtain ⟨u1, c1c⟩ := S3.out.c2 R (by omega) k (k + 1) (by omega) (by omega) (enc y1)
          rw [← hjN, ← hiN] at c1c
          rw [← hx1, ← hiN] at c1a
          rw [← hy1, ← hjN] at c1b
          rw [← hiN] at f1a
          rw [← hjN] at f1b
          clear S3 hx1 hy1 hiN hjN
          go_wp2_with fail
          go_big_region_o
          clear c1a c1b c1c f1a f1b
          generalize ((wk.setCell ⟨blk, off + iN, none⟩ (enc y1)).setCell ⟨blk, off + jN, none⟩ (enc x1)).drew = w3 at S4 ⊢
          clear ea ec pa ba pc bc rc
          go_wp2_with fail
          go_roundw
          case rel => exact ⟨k + 1, _, by go_num, by omega, by omega, by rw [size_swp]; exact hsk, S4, HN⟩
          case measure => simp [intOf]; omega
        · obtain rfl : k = ip := by omega
          go_wp2_with fail
          refine bodyPost_ret (results_none rfl _ _ _) rfl ?_
          refine ⟨rfl, dk, S3.out, HR.out.2, ?_⟩
          have hr := HR.out.1
          have hB := HBS.out
          have hp := HP.out
          rw [← HIE.out] at hp
          rw [HIP.out] at hr
          rw [HM.out] at hr hB hp
          exact ins_right HO.out hB hp.1 hp.2 hr (by have := HM.out; omega) hib
end Go.Proofs.YtagdccgbcmnehaaGreat

namespace Go.Proofs.YtagdccgbcmnehaaGreat
open Go.RowKit Go.Tok Go.Sort Go.Stab Go.Lib
set_option linter.unusedVariables false
variable {α : Type} [Inhabited α]
set_option maxRecDepth 100000 in
set_option maxHeartbeats 4000000 in
theorem symMerge2_calls (enc : α → Value) (cf : α → α → Int) (lt : α → α → Bool) (g : Nat) (cb : Array Value) (blk off cap : Nat) (d0 : Array α) (w0 : World) (X : StabX enc cf lt g cb blk off d0 w0)
    (a m : Nat) (d : Array α) (w : World) (hs : d0.size = d.size) (S : SW enc w0 blk off d w) (ham : a + 1 < m) (hb : m + 1 ≤ d.size) (hA : SortedIn lt a m d) (hD : Dist d) :
    Calls Tryz.prog 210 #[.slice (some ⟨blk, off, none⟩) d.size cap, .int .i64 a, .int .i64 m, .int .i64 ((m + 1 : Nat) : Int), .func (.func g) #[] cb] w fun e w' => e = .returned (.tuple #[]) ∧ ∃ d', SW enc w0 blk off d' w' ∧ PermIn a (m + 1) d d' ∧ SortedIn lt a (m + 1) d' := by
  obtain ⟨eg, hcmp, R, hO, hsz, hag⟩ := X
  have HAG := Lib.hid hag
  have HD := Lib.hid hD
  clear hag hD
  have HC : Aside _ := hcmp
  have HO := Lib.hid hO
  have HAS := Lib.hid hA
  have S0 : Aside (SW enc w0 blk off d w) := S
  clear S hcmp hO hA
  obtain ⟨b, hm⟩ : ∃ b, b = m + 1 := ⟨_, rfl⟩
  rw [← hm] at hb ⊢
  obtain ⟨ma, hma⟩ : ∃ x, x = m - a := ⟨_, rfl⟩
  have q1 : IntKind.i64.wrap ((m : Int) - (a : Int)) = (ma : Int) := by rw [IntKind.wrap_i64]; omega
  have q1' : (m : Int) - (a : Int) = (ma : Int) := by omega
  have q2 : ((ma : Int) == 1) = false := by simp; omega
  have q2' : ¬ (ma : Int) = 1 := by omega
  have q3 : IntKind.i64.wrap ((b : Int) - (m : Int)) = 1 := by rw [IntKind.wrap_i64]; omega
  have q3' : (b : Int) - (m : Int) = 1 := by omega
  have q4 := wrap_in (show ma < 9223372036854775808 by clear q1 q3; omega)
  have HM := Lib.hid hm
  have ham' : a < m := by omega
  have hmd : m < d.size := by omega
  clear hm hma
  have hcl0 := R.hO.cells
  simp only [Value.cells] at hcl0
  have hst := R.hO.store Tryz.prog
  have mixed := mixedStab
  go_enter Tryz.func210, Tryz.ntmps210
  go_wp2_with fail
  clear q1 q1' q2 q2' q3 q3' q4
  go_loopw [14, 15] (fun vi vj wr => ∃ (i j : Nat), vi = .int .i64 i ∧ vj = .int .i64 j ∧ a ≤ i ∧ i ≤ j ∧ j ≤ m ∧ Aside (SW enc w0 blk off d wr) ∧ Hid ((∀ x, a ≤ x → x < i → lt d[m]! d[x]! = false) ∧ ∀ x, j ≤ x → x < m → lt d[m]! d[x]! = true)) (fun vi vj _ => (intOf vj).toNat - (intOf vi).toNat)
  case atStart => exact ⟨a, m, rfl, rfl, Nat.le_refl _, by omega, Nat.le_refl _, S0, Lib.hid ⟨fun x h1 h2 => by omega, fun x h1 h2 => by omega⟩⟩
  case round =>
    clear S0
    obtain ⟨i, j, rfl, rfl, hmi, hij, hjb, S1, HP⟩ := hrel
    by_cases hlt : i < j
    · have hltz : (i : Int) < (j : Int) := by omega
      obtain ⟨ij, hij2⟩ : ∃ x, x = i + j := ⟨_, rfl⟩
      obtain ⟨h, hh⟩ : ∃ h, h = (i + j) / 2 := ⟨_, rfl⟩
      have hih : i ≤ h := by omega
      have hhj : h < j := by omega
      obtain ⟨hN, hhN⟩ : ∃ q, q = h := ⟨_, rfl⟩
      obtain ⟨aN, haN⟩ : ∃ q, q = m := ⟨_, rfl⟩
      have ea : ((h : Int)).toNat = hN := by omega
      have pa : (0 : Int) ≤ (h : Int) := by omega
      have ba : (h : Int) < (d.size : Int) := by omega
      have ec : ((m : Int)).toNat = aN := by omega
      have pc : (0 : Int) ≤ (m : Int) := by omega
      have bc : (m : Int) < (d.size : Int) := by omega
      obtain ⟨x1, hx1⟩ : ∃ x, x = d[h]! := ⟨_, rfl⟩
      obtain ⟨y1, hy1⟩ : ∃ x, x = d[m]! := ⟨_, rfl⟩
      have l1a := S1.out.cl R (by omega) h (by omega)
      have l1b := S1.out.cl R (by omega) m (by omega)
      rw [← hx1, ← hhN] at l1a
      rw [← hy1, ← haN] at l1b
      have hc := S1.out.cmp HC.out (by omega) y1 x1
      have hne : d[m]! ≠ d[h]! := fun e => by have := HD.out m h (by omega) (by omega) e; omega
      have hagr := HAG.out _ _ hne
      clear hne
      cases hlv : ltOf cf d[m]! d[h]! with
      | true =>
        have hv : cf y1 x1 < 0 := by rw [hx1, hy1]; exact of_decide_eq_true hlv
        have hd : decide (cf y1 x1 < 0) = true := decide_eq_true hv
        rw [hagr] at hlv
        have HN := Lib.hid (seekL_down HO.out HAS.out (show a ≤ h by omega) hlv)
        clear hx1 hy1 hhN haN hlv hagr
        have r6 : wrap64 (IntKind.u64.wrap (ij : Int) / 2) = (h : Int) := by rw [IntKind.wrap_u64]; unfold wrap64; omega
        have r2 := wrap_in (show ij < 9223372036854775808 by clear r6; omega)
        have r1 := wrap_add (show i + j < 9223372036854775808 by clear r6 r2; omega)
        rw [← hij2] at r1
        clear hij2 hh
        go_wp2_with fail
        go_quiet_grown (first | (go_at_fn g; refine Calls.grown_of (hc _ _)))
        have S2 : Aside (SW enc w0 blk off d (grow (wr.drewN nq) osq)) := S1.out.grown nq osq
        clear l1a l1b hc S1
        generalize grow (wr.drewN nq) osq = w2 at S2 ⊢
        clear nq osq ea ec pa ba pc bc r1 r2 r6
        go_wp2_with fail
        go_roundw
        case rel => exact ⟨i, h, rfl, rfl, hmi, hih, by omega, S2, Lib.hid ⟨HP.out.1, HN.out⟩⟩
        case measure => simp [intOf]; omega
      | false =>
        have hv : ¬ cf y1 x1 < 0 := by rw [hx1, hy1]; exact of_decide_eq_false hlv
        have hd : decide (cf y1 x1 < 0) = false := decide_eq_false hv
        rw [hagr] at hlv
        have HN := Lib.hid (seekL_up HO.out HAS.out (show h < m by omega) hlv)
        clear hx1 hy1 hhN haN hlv hagr
        have r6 : wrap64 (IntKind.u64.wrap (ij : Int) / 2) = (h : Int) := by rw [IntKind.wrap_u64]; unfold wrap64; omega
        have r2 := wrap_in (show ij < 9223372036854775808 by clear r6; omega)
        have r1 := wrap_add (show i + j < 9223372036854775808 by clear r6 r2; omega)
        rw [← hij2] at r1
        clear hij2 hh
        go_wp2_with fail
        go_quiet_grown (first | (go_at_fn g; refine Calls.grown_of (hc _ _)))
        have S2 : Aside (SW enc w0 blk off d (grow (wr.drewN nq) osq)) := S1.out.grown nq osq
        clear l1a l1b hc S1
        generalize grow (wr.drewN nq) osq = w2 at S2 ⊢
        clear nq osq ea ec pa ba pc bc r1 r2 r6
        go_wp2_with fail
        go_roundw
        case rel => exact ⟨h + 1, j, by go_num, rfl, by omega, by omega, hjb, S2, Lib.hid ⟨HN.out, HP.out.2⟩⟩
        case measure => simp [intOf]; omega
    · have hie : i = j := by omega
      have HIE := Lib.hid hie
      have hltz : ¬ (i : Int) < (j : Int) := by omega
      have hib : i ≤ m := by omega
      clear hie hij hjb hlt
      go_wp2_with fail
      go_loopw [17] (fun vk wr => ∃ (k : Nat) (dk : Array α), vk = .int .i64 k ∧ i ≤ k ∧ k ≤ m ∧ dk.size = d.size ∧ Aside (SW enc w0 blk off dk wr) ∧ Hid (Rot d dk k m (m + 1) ∧ PermIn a b d dk)) (fun vk _ => (intOf vk).toNat)
      case atStart => exact ⟨m, d, rfl, hib, Nat.le_refl _, rfl, S1, Lib.hid ⟨Rot.none d (.inl rfl) (Nat.le_refl _) (by omega), permIn_refl d _ _⟩⟩
      case round =>
        rename World => wk
        obtain ⟨k, dk, rfl, hak, hki, hsk, S3, HR⟩ := hrel
        clear S1
        by_cases hk : i < k
        · have hkz : (i : Int) < (k : Int) := by omega
          have hbm := HM.out
          have HN : Hid (Rot d (swp dk k (k - 1)) (k - 1) m (m + 1) ∧ PermIn a b d (swp dk k (k - 1))) := Lib.hid ⟨HR.out.1.pull (by omega) hki (by omega), permIn_trans _ _ _ _ _ HR.out.2 (swp_permIn dk a b k (k - 1) (by omega) (by omega) (by omega) (by omega) (by omega))⟩
          clear hbm
          obtain ⟨p, hp⟩ : ∃ p, p + 1 = k := ⟨k - 1, by omega⟩
          have HPK := Lib.hid hp
          have z1 : (k : Int) = (p : Int) + 1 := by omega
          obtain ⟨iN, hiN⟩ : ∃ x, x = k := ⟨_, rfl⟩
          obtain ⟨jN, hjN⟩ : ∃ x, x = k - 1 := ⟨_, rfl⟩
          have ea : ((p : Int) + 1).toNat = iN := by omega
          have pa : (0 : Int) ≤ (p : Int) + 1 := by omega
          have ba : (p : Int) + 1 < (d.size : Int) := by omega
          have ec : ((p : Int)).toNat = jN := by omega
          have pc : (0 : Int) ≤ (p : Int) := by omega
          have bc : (p : Int) < (d.size : Int) := by omega
          have hkz2 : (i : Int) < (p : Int) + 1 := by omega
          obtain ⟨x1, hx1⟩ : ∃ x, x = dk[k]! := ⟨_, rfl⟩
          obtain ⟨y1, hy1⟩ : ∃ x, x = dk[k - 1]! := ⟨_, rfl⟩
          have S4 : Aside (SW enc w0 blk off (swp dk k (k - 1)) ((wk.setCell ⟨blk, off + iN, none⟩ (enc y1)).setCell ⟨blk, off + jN, none⟩ (enc x1)).drew) := by rw [hiN, hjN, hx1, hy1]; exact S3.out.swapped R k (k - 1) (by omega) (by omega)
          have c1a := S3.out.c1 R (by omega) k (by omega)
          have c1b := S3.out.c1 R (by omega) (k - 1) (by omega)
          have f1a := S3.out.f1 R (by omega) k (by omega)
          have f1b := S3.out.f1 R (by omega) (k - 1) (by omega)
          obtain ⟨u1, c1c⟩ := S3.out.c2 R (by omega) k (k - 1) (by omega) (by omega) (enc y1)
          have hkm : k - 1 ≤ m := by omega
          have hik : i ≤ k - 1 := by omega
          have hlt1 : k - 1 < k := by omega
          rw [← hjN, ← hiN] at c1c
          rw [← hx1, ← hiN] at c1a
          rw [← hy1, ← hjN] at c1b
          rw [← hiN] at f1a
          rw [← hjN] at f1b
          have rp : IntKind.i64.wrap ((p : Int) + 1) = (p : Int) + 1 := by rw [IntKind.wrap_i64]; omega
          have rc : IntKind.i64.wrap ((p : Int)) = (p : Int) := by rw [IntKind.wrap_i64]; omega
          clear S3 hx1 hy1 hiN hjN hp hk
          rw [z1]
          go_wp2_with fail
          go_big_region_o
          clear c1a c1b c1c f1a f1b
          generalize ((wk.setCell ⟨blk, off + iN, none⟩ (enc y1)).setCell ⟨blk, off + jN, none⟩ (enc x1)).drew = w3 at S4 ⊢
          clear ea ec pa ba pc bc
          go_wp2_with fail
          go_roundw
          case rel => exact ⟨k - 1, _, by rw [← HPK.out, Nat.add_sub_cancel], hik, hkm, by rw [size_swp]; exact hsk, S4, HN⟩
          case measure => have := HPK.out; (try simp [intOf]); (try omega)
        · obtain rfl : k = i := by omega
          go_wp2_with fail
          refine bodyPost_ret (results_none rfl _ _ _) rfl ?_
          refine ⟨rfl, dk, S3.out, HR.out.2, ?_⟩
          have hp := HP.out
          rw [← HIE.out] at hp
          rw [HM.out]
          exact ins_left HO.out HAS.out hp.1 hp.2 HR.out.1 (by omega) hib
end Go.Proofs.YtagdccgbcmnehaaGreat

