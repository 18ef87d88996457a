/- Texts of one family, joined; what the claim does not need is left out. -/
import Derived.Test.YtagdccgbcmnehaaGreatQMRi
import Derived.Deep.Cut
import Derived.Test.YtagdccgbcmnehaaGreatQMRh
import Derived.Test.YtagdccgbcmnehaaGreatQMRe
import Derived.Test.YtagdccgbcmnehaaGreatQMRb
import Derived.Test.YtagdccgbcmnehaaGreatQMRg
import Derived.Test.YtagdccgbcmnehaaGreatQMRd
import Derived.BigQuiet
import Derived.Deep.QuietTactic
namespace Go.Proofs.YtagdccgbcmnehaaGreat
open Go.RowKit Go.Tok Go.Sort Go.Stab Go.Lib
set_option linter.unusedVariables false
variable {α : Type} [Inhabited α]
theorem wrap_sub {m a x : Nat} (h : x + a = m) (hm : m < 9223372036854775808) : IntKind.i64.wrap ((m : Int) - (a : Int)) = (x : Int) := by rw [IntKind.wrap_i64]; omega
theorem wrap_sum {a b x : Nat} (h : x = a + b) (hm : x < 9223372036854775808) : IntKind.i64.wrap ((a : Int) + (b : Int)) = (x : Int) := by rw [IntKind.wrap_i64]; omega
theorem wrap_pred {m x : Nat} (h : x + 1 = m) (hm : m < 9223372036854775808) : IntKind.i64.wrap ((m : Int) - 1) = (x : Int) := by rw [IntKind.wrap_i64]; omega
theorem mid_wrap {a b ab mid : Nat} (h : ab = a + b) (h2 : mid = (a + b) / 2) (h3 : ab < 9223372036854775808) : wrap64 (IntKind.u64.wrap (ab : Int) / 2) = (mid : Int) := by rw [IntKind.wrap_u64]; unfold wrap64; omega
/-- what merging in place hands back -/
def MergeC (enc : α → Value) (cf : α → α → Int) (lt : α → α → Bool) (g : Nat) (cb : Array Value) (blk off cap : Nat) (d0 : Array α) (w0 : World) (N : Nat) : Prop :=
  ∀ (a m b : Nat) (d : Array α) (w : World), b - a ≤ N → d0.size = d.size → SW enc w0 blk off d w → a < m → m < b → b ≤ d.size → SortedIn lt a m d → SortedIn lt m b d → Dist d →
    Calls Tryz.prog 210 #[.slice (some ⟨blk, off, none⟩) d.size cap, .int .i64 a, .int .i64 m, .int .i64 b, .func (.func g) #[] cb] w fun e w' => e = .returned (.tuple #[]) ∧ ∃ d', SW enc w0 blk off d' w' ∧ PermIn a b d d' ∧ SortedIn lt a b d'
set_option maxRecDepth 100000 in
set_option maxHeartbeats 8000000 in
theorem symMerge3_calls (enc : α → Value) (cf : α → α → Int) (lt : α → α → Bool) (g : Nat) (cb : Array Value) (blk off cap : Nat) (d0 : Array α) (w0 : World) (X : StabX enc cf lt g cb blk off d0 w0)
    (N a m b : Nat) (IH : MergeC enc cf lt g cb blk off cap d0 w0 N) (d : Array α) (w : World) (hN : b - a ≤ N + 1) (hs : d0.size = d.size) (S : SW enc w0 blk off d w) (ham : a + 1 < m) (hmb : m + 1 < b) (hb : b ≤ d.size) (hA : SortedIn lt a m d) (hB : SortedIn lt m b d) (hD : Dist d) :
    Calls Tryz.prog 210 #[.slice (some ⟨blk, off, none⟩) d.size cap, .int .i64 a, .int .i64 m, .int .i64 b, .func (.func g) #[] cb] w fun e w' => e = .returned (.tuple #[]) ∧ ∃ d', SW enc w0 blk off d' w' ∧ PermIn a b d d' ∧ SortedIn lt a b d' := by
  obtain ⟨eg, hcmp, R, hO, hsz, hag⟩ := X
  have HAG := Lib.hid hag
  have HD := Lib.hid hD
  clear hag hD
  have HC : Aside _ := hcmp
  have HO := Lib.hid hO
  have HAS := Lib.hid hA
  have HBS := Lib.hid hB
  have HIH := Lib.hid IH
  have S0 : Aside (SW enc w0 blk off d w) := S
  clear S hcmp hO hA hB IH
  obtain ⟨mid, hmid⟩ : ∃ x, x = (a + b) / 2 := ⟨_, rfl⟩
  obtain ⟨n, hn⟩ : ∃ x, x = mid + m := ⟨_, rfl⟩
  obtain ⟨p, hp⟩ : ∃ x, x + 1 = n := ⟨n - 1, by omega⟩
  obtain ⟨ma, hma⟩ : ∃ x, x = m - a := ⟨_, rfl⟩
  obtain ⟨bm, hbm⟩ : ∃ x, x = b - m := ⟨_, rfl⟩
  obtain ⟨ab, hab⟩ : ∃ x, x = a + b := ⟨_, rfl⟩
  have HMID := Lib.hid hmid
  have HNN := Lib.hid hn
  have HPP := Lib.hid hp
  have HNb := Lib.hid hN
  have q2 : ((ma : Int) == 1) = false := by simp; omega
  have q2' : ¬ (ma : Int) = 1 := by omega
  have q3 : ((bm : Int) == 1) = false := by simp; omega
  have q3' : ¬ (bm : Int) = 1 := by omega
  have LV : Hid (ma < 9223372036854775808 ∧ bm < 9223372036854775808 ∧ ab < 9223372036854775808 ∧ n < 9223372036854775808 ∧ p < 9223372036854775808 ∧ ab = a + b ∧ mid = (a + b) / 2 ∧ ma + a = m ∧ bm + m = b ∧ n = mid + m ∧ p + 1 = n ∧ m < 9223372036854775808 ∧ b < 9223372036854775808) := Lib.hid ⟨by omega, by omega, by omega, by omega, by omega, hab, hmid, by omega, by omega, hn, hp, by omega, by omega⟩
  clear hN hmid hn hp hma hbm hab
  have hcl0 := R.hO.cells
  simp only [Value.cells] at hcl0
  have hst := R.hO.store Tryz.prog
  have mixed := mixedStab
  by_cases hmm : mid < m
  · have hz : (mid : Int) < (m : Int) := by omega
    obtain ⟨lo, hlo⟩ : ∃ x, x + b = n := ⟨n - b, by have := HNN.out; have := HMID.out; omega⟩
    have HLO := Lib.hid hlo
    have hlr : lo ≤ mid := by have := HNN.out; omega
    have hlob : lo < 9223372036854775808 := by have := HNN.out; omega
    have HSK : Hid (Pairs a m b p lo mid ∧ (lo = a ∨ b + lo = p + 1) ∧ (mid = m ∨ m + mid = p + 1) ∧ a ≤ lo ∧ mid ≤ m) := Lib.hid (by
      have h1 := HNN.out
      have h2 := HPP.out
      have h3 := HMID.out
      exact ⟨⟨by omega, by omega, fun c hc1 hc2 => by omega⟩, by omega, by omega, by omega, by omega⟩)
    clear hlo
    have v6 := wrap_in hlob
    have t6 := wrap_sub HLO.out LV.out.2.2.2.1
    clear hlob
    have u1 := mid_wrap LV.out.2.2.2.2.2.1 LV.out.2.2.2.2.2.2.1 LV.out.2.2.1
    have t1 := wrap_sub LV.out.2.2.2.2.2.2.2.1 LV.out.2.2.2.2.2.2.2.2.2.2.2.1
    have t2 := wrap_sub LV.out.2.2.2.2.2.2.2.2.1 LV.out.2.2.2.2.2.2.2.2.2.2.2.2
    have t3 := wrap_sum LV.out.2.2.2.2.2.1 LV.out.2.2.1
    have t4 := wrap_sum LV.out.2.2.2.2.2.2.2.2.2.1 LV.out.2.2.2.1
    have t5 := wrap_pred LV.out.2.2.2.2.2.2.2.2.2.2.1 LV.out.2.2.2.1
    have v1 := wrap_in LV.out.1
    have v2 := wrap_in LV.out.2.1
    have v3 := wrap_in LV.out.2.2.1
    have v4 := wrap_in LV.out.2.2.2.1
    have v5 := wrap_in LV.out.2.2.2.2.1
    go_enter Tryz.func210, Tryz.ntmps210
    go_upto_region 25 with fail
    simp only [u1]
    go_wp2_with fail
    clear q2 q2' q3 q3' t1 t2 t3 t4 t5 u1 v1 v2 v3 v4 v5 hz t6 v6
    go_loopw [20, 21] (fun vi vj wr => ∃ (i j : Nat), vi = .int .i64 i ∧ vj = .int .i64 j ∧ i ≤ j ∧ Aside (SW enc w0 blk off d wr) ∧ Hid (Seek lt d p lo i j mid)) (fun vi vj _ => (intOf vj).toNat - (intOf vi).toNat)
    case atStart => exact ⟨lo, mid, rfl, rfl, hlr, S0, Lib.hid (Seek.start hlr)⟩
    case round =>
      clear S0
      obtain ⟨i, j, rfl, rfl, hij, S1, HP⟩ := hrel
      by_cases hlt : i < j
      · have hltz : (i : Int) < (j : Int) := by omega
        obtain ⟨ij, hij2⟩ : ∃ x, x = i + j := ⟨_, rfl⟩
        obtain ⟨c, hcc⟩ : ∃ c, c = (i + j) / 2 := ⟨_, rfl⟩
        have hih : i ≤ c := by omega
        have hhj : c < j := by omega
        have hk := HP.out
        have hP2 := HSK.out.1
        have hpc := hP2.l3 c (by have := hk.l1; omega) (by have := hk.l3; omega)
        have hcm : c < m := by have := hP2.l2; have := hk.l3; omega
        obtain ⟨pc, hpcc⟩ : ∃ q, q = p - c := ⟨_, rfl⟩
        have hzp : pc + c = p := by omega
        have hpb : p < 9223372036854775808 := LV.out.2.2.2.2.1
        obtain ⟨hN, hhN⟩ : ∃ q, q = c := ⟨_, rfl⟩
        obtain ⟨aN, haN⟩ : ∃ q, q = pc := ⟨_, rfl⟩
        have ea : ((c : Int)).toNat = hN := by omega
        have pa : (0 : Int) ≤ (c : Int) := by omega
        have ba : (c : Int) < (d.size : Int) := by omega
        have ec : ((pc : Int)).toNat = aN := by omega
        have pcc : (0 : Int) ≤ (pc : Int) := by omega
        have bc : (pc : Int) < (d.size : Int) := by omega
        have hpl : pc < 9223372036854775808 := by omega
        obtain ⟨x1, hx1⟩ : ∃ x, x = d[c]! := ⟨_, rfl⟩
        obtain ⟨y1, hy1⟩ : ∃ x, x = d[pc]! := ⟨_, rfl⟩
        have l1a := S1.out.cl R (by omega) c (by omega)
        have l1b := S1.out.cl R (by omega) pc (by omega)
        rw [← hx1, ← hhN] at l1a
        rw [← hy1, ← haN] at l1b
        have hc := S1.out.cmp HC.out (by omega) y1 x1
        have hjb : i + j < 9223372036854775808 := by have := hP2.l2; have := hk.l3; omega
        have hne : d[pc]! ≠ d[c]! := fun e => by have := HD.out pc c (by omega) (by omega) e; omega
        have hagr := HAG.out _ _ hne
        clear hpc hk hP2 hne
        cases hlv : ltOf cf d[pc]! d[c]! with
        | true =>
          have hv : cf y1 x1 < 0 := by rw [hx1, hy1]; exact of_decide_eq_true hlv
          have hd : decide (cf y1 x1 < 0) = true := decide_eq_true hv
          rw [hagr] at hlv
          rw [hpcc] at hlv
          have HN := Lib.hid (HP.out.down HSK.out.1 HO.out HAS.out HBS.out hih hhj hlv)
          clear hx1 hy1 hhN haN hlv hpcc hagr
          have r6 : wrap64 (IntKind.u64.wrap (ij : Int) / 2) = (c : Int) := by rw [IntKind.wrap_u64]; unfold wrap64; omega
          have z1 := wrap_sub hzp hpb
          have r3 := wrap_in hpl
          have r2 := wrap_in (show ij < 9223372036854775808 by rw [hij2]; exact hjb)
          have r1 := wrap_add hjb
          rw [← hij2] at r1
          clear hij2 hcc hjb hpl hzp hpb
          go_wp2_with fail
          go_quiet_grown (first | (go_at_fn g; refine Calls.grown_of (hc _ _)))
          have S2 : Aside (SW enc w0 blk off d (grow (wr.drewN nq) osq)) := S1.out.grown nq osq
          clear l1a l1b hc S1
          generalize grow (wr.drewN nq) osq = w2 at S2 ⊢
          clear nq osq ea ec pa ba pcc bc r1 r2 r6 r3 z1
          go_wp2_with fail
          go_roundw
          case rel => exact ⟨i, c, rfl, rfl, hih, S2, HN⟩
          case measure => simp [intOf]; omega
        | false =>
          have hv : ¬ cf y1 x1 < 0 := by rw [hx1, hy1]; exact of_decide_eq_false hlv
          have hd : decide (cf y1 x1 < 0) = false := decide_eq_false hv
          rw [hagr] at hlv
          rw [hpcc] at hlv
          have HN := Lib.hid (HP.out.up HSK.out.1 HO.out HAS.out HBS.out hih hhj hlv)
          clear hx1 hy1 hhN haN hlv hpcc hagr
          have r6 : wrap64 (IntKind.u64.wrap (ij : Int) / 2) = (c : Int) := by rw [IntKind.wrap_u64]; unfold wrap64; omega
          have z1 := wrap_sub hzp hpb
          have r3 := wrap_in hpl
          have r2 := wrap_in (show ij < 9223372036854775808 by rw [hij2]; exact hjb)
          have r1 := wrap_add hjb
          rw [← hij2] at r1
          clear hij2 hcc hjb hpl hzp hpb
          go_wp2_with fail
          go_quiet_grown (first | (go_at_fn g; refine Calls.grown_of (hc _ _)))
          have S2 : Aside (SW enc w0 blk off d (grow (wr.drewN nq) osq)) := S1.out.grown nq osq
          clear l1a l1b hc S1
          generalize grow (wr.drewN nq) osq = w2 at S2 ⊢
          clear nq osq ea ec pa ba pcc bc r1 r2 r6 r3 z1
          go_wp2_with fail
          go_roundw
          case rel => exact ⟨c + 1, j, by go_num, rfl, by omega, S2, HN⟩
          case measure => simp [intOf]; omega
      · have hie : i = j := by omega
        subst hie
        have hltz : ¬ (i : Int) < (i : Int) := by omega
        have F : Hid (a ≤ i ∧ i ≤ m ∧ (∃ e, e + i = n ∧ m ≤ e ∧ e ≤ b ∧ i + (e - m) = mid ∧ LeR lt d a i e b ∧ LeR lt d m e i m) ∧ a < mid ∧ mid < b ∧ b - a ≤ N + 1) := Lib.hid (by
          obtain ⟨f1, f2, f3, f4, f5⟩ := HSK.out
          have hk := HP.out
          have h1 := HNN.out
          have h2 := HPP.out
          have h3 := HMID.out
          have h4 := HNb.out
          have k1 := hk.l1
          have k3 := hk.l3
          have hlo := HLO.out
          have g1 : ∃ e, e + i = n ∧ m ≤ e ∧ e ≤ b := ⟨n - i, by omega⟩
          obtain ⟨e, he, g2, g3⟩ := g1
          obtain ⟨g4, g5⟩ := seek_le (e := e) HO.out HAS.out HBS.out hk f1 (by omega) f2 f3
          exact ⟨by omega, by omega, ⟨e, he, g2, g3, by omega, g4, g5⟩, by omega, by omega, h4⟩)
        clear HSK HP HNb hlt hij
        have HF := F
        obtain ⟨hai, him, ⟨e, he, hme, heb, hmd, -, -⟩, hamid, hmidb, -⟩ := F.out
        have hen : e < 9223372036854775808 := by omega
        have HEN := Lib.hid he
        clear hltz
        have key1 : ∀ W, SW enc w0 blk off d W → i < m → m < e → Calls Tryz.prog 217 #[.slice (some ⟨blk, off, none⟩) d.size cap, .int .i64 i, .int .i64 m, .int .i64 e, .func (.func g) #[] cb] W fun e' w' => e' = .returned (.tuple #[]) ∧ ∃ d', SW enc w0 blk off d' w' ∧ Rot d d' i m e ∧ PermIn i e d d' := fun W SW1 c1 c2 => rotate_calls enc blk off cap i m e d0 d w0 W _ R hs SW1 c1 c2 (by omega) (by omega)
        have HK1 := Lib.hid key1
        -- what comes behind the rotation
        have key2 : ∀ d1, Rot d d1 i m e → PermIn i e d d1 → d1.size = d.size ∧ PermIn a b d d1 ∧ SortedIn lt a i d1 ∧ SortedIn lt i mid d1 ∧ SortedIn lt mid e d1 ∧ SortedIn lt e b d1 ∧ LeR lt d1 a mid mid b ∧ Dist d1 := by
          intro d1 hr hpm
          obtain ⟨_, _, ⟨e', he', _, _, _, g4, g5⟩, _⟩ := HF.out
          have ee : e' = e := by omega
          subst ee
          have e1 := rot_b1 hr HBS.out heb
          have e2 := rot_a2 hr HAS.out hai him hme
          have e3 := rot_le hr HAS.out HBS.out hai him hme heb HO.out g4 g5
          rw [hmd] at e1 e2 e3
          exact ⟨hpm.1, permIn_mono _ _ _ _ _ _ hai heb hb hpm, rot_a1 hr HAS.out hai him hme, e1, e2, rot_b2 hr HBS.out him hme, e3, dist_perm hpm (by omega) HD.out⟩
        have HK2 := Lib.hid key2
        have key3 : ∀ W d1, d1.size = d.size → SW enc w0 blk off d1 W → a < i → i < mid → SortedIn lt a i d1 → SortedIn lt i mid d1 → Dist d1 → Calls Tryz.prog 210 #[.slice (some ⟨blk, off, none⟩) d.size cap, .int .i64 a, .int .i64 i, .int .i64 mid, .func (.func g) #[] cb] W fun e w' => e = .returned (.tuple #[]) ∧ ∃ d', SW enc w0 blk off d' w' ∧ PermIn a mid d1 d' ∧ SortedIn lt a mid d' := fun W d1 hd1 SW1 c1 c2 s1 s2 sd => by
          have := HIH.out a i mid d1 W (by have := HF.out.2.2.2.2.2; omega) (by omega) SW1 c1 c2 (by omega) s1 s2 sd
          rw [hd1] at this; exact this
        have HK3 := Lib.hid key3
        have key4 : ∀ W d1, d1.size = d.size → SW enc w0 blk off d1 W → mid < e → e < b → SortedIn lt mid e d1 → SortedIn lt e b d1 → Dist d1 → Calls Tryz.prog 210 #[.slice (some ⟨blk, off, none⟩) d.size cap, .int .i64 mid, .int .i64 e, .int .i64 b, .func (.func g) #[] cb] W fun e w' => e = .returned (.tuple #[]) ∧ ∃ d', SW enc w0 blk off d' w' ∧ PermIn mid b d1 d' ∧ SortedIn lt mid b d' := fun W d1 hd1 SW1 c1 c2 s1 s2 sd => by
          have := HIH.out mid e b d1 W (by have := HF.out.2.2.2.2.2; omega) (by omega) SW1 c1 c2 (by omega) s1 s2 sd
          rw [hd1] at this; exact this
        have HK4 := Lib.hid key4
        have HMD := Lib.hid hmd
        clear key1 key2 key3 key4 he hmd F
        have hltz : ¬ (i : Int) < (i : Int) := by omega
        have HENB := Lib.hid hen
        clear hen
        have hmd := HMD.out
        have he := HEN.out
        have hnn := HNN.out
        rcases (show (i < m ∧ m < e) ∨ (i = m ∧ e = mid) ∨ (i < m ∧ e = m ∧ i = mid) by omega) with c1 | c1 | c1
        · have b1 : (i : Int) < (m : Int) := by omega
          have b2 : (m : Int) < (e : Int) := by omega
          have b4 : (i : Int) < (mid : Int) := by omega
          have b5 : (mid : Int) < (e : Int) := by omega
          rcases (show a < i ∨ i = a by omega) with c2 | c2
          · have b3 : (a : Int) < (i : Int) := by omega
            rcases (show e < b ∨ e = b by omega) with c3 | c3
            · have b6 : (e : Int) < (b : Int) := by omega
              have n1 : a ≤ mid := by omega
              have n2 : mid ≤ b := by omega
              have n3 : mid ≤ e := by omega
              have n6 : mid ≤ d.size := by omega
              have i1 : i < m := by omega
              have i2 : m < e := by omega
              have i3 : a < i := by omega
              have i4 : i < mid := by omega
              have i5 : mid < e := by omega
              have i6 : e < b := by omega
              clear c1 him hme hai hamid hmidb hmd he hnn c2 c3
              have v7 := wrap_in HENB.out
              have t7 := wrap_sub HEN.out LV.out.2.2.2.1
              go_wp2_with fail
              refine (HK1.out _ S1.out i1 i2).mono ?_
              rintro _ w2 ⟨rfl, d1, SA, h1, h2⟩
              have HDD := Lib.hid (HK2.out d1 h1 h2)
              have SA : Aside _ := SA
              clear h1 h2
              go_wp2_with fail
              refine (HK3.out _ _ HDD.out.1 SA.out i3 i4 HDD.out.2.2.1 HDD.out.2.2.2.1 HDD.out.2.2.2.2.2.2.2).mono ?_
              rintro _ w3 ⟨rfl, d2, SB, h1, h2⟩
              have HL := Lib.hid (And.intro h1 h2)
              have SB : Aside _ := SB
              clear h1 h2
              have HM2 : Hid (d2.size = d.size ∧ SortedIn lt mid e d2 ∧ SortedIn lt e b d2 ∧ Dist d2) := Lib.hid ⟨HL.out.1.1.trans HDD.out.1, sorted_perm' HDD.out.2.2.2.2.1 HL.out.1, sorted_out HDD.out.2.2.2.2.2.1 HL.out.1 n3, dist_perm HL.out.1 (HDD.out.1 ▸ n6) HDD.out.2.2.2.2.2.2.2⟩
              go_wp2_with fail
              refine (HK4.out _ _ HM2.out.1 SB.out i5 i6 HM2.out.2.1 HM2.out.2.2.1 HM2.out.2.2.2).mono ?_
              rintro _ w4 ⟨rfl, d3, SC, h1, h2⟩
              have HR := Lib.hid (And.intro h1 h2)
              have SC : Aside _ := SC
              clear h1 h2
              go_wp2_with fail
              go_end0
              exact ⟨rfl, d3, SC.out, merge_done n1 n2 hb HDD.out.1 HDD.out.2.1 HL.out.1 HL.out.2 HR.out.1 HR.out.2 HDD.out.2.2.2.2.2.2.1⟩
            · have b6 : ¬ (e : Int) < (b : Int) := by omega
              have n1 : a ≤ mid := by omega
              have n2 : mid ≤ b := by omega
              have n3 : mid ≤ e := by omega
              have n6 : mid ≤ d.size := by omega
              have i1 : i < m := by omega
              have i2 : m < e := by omega
              have i3 : a < i := by omega
              have i4 : i < mid := by omega
              have n5 : Hid (e ≤ mid ∨ b ≤ e) := Lib.hid (by omega)
              clear c1 him hme hai hamid hmidb hmd he hnn c2 c3
              have v7 := wrap_in HENB.out
              have t7 := wrap_sub HEN.out LV.out.2.2.2.1
              go_wp2_with fail
              refine (HK1.out _ S1.out i1 i2).mono ?_
              rintro _ w2 ⟨rfl, d1, SA, h1, h2⟩
              have HDD := Lib.hid (HK2.out d1 h1 h2)
              have SA : Aside _ := SA
              clear h1 h2
              go_wp2_with fail
              refine (HK3.out _ _ HDD.out.1 SA.out i3 i4 HDD.out.2.2.1 HDD.out.2.2.2.1 HDD.out.2.2.2.2.2.2.2).mono ?_
              rintro _ w3 ⟨rfl, d2, SB, h1, h2⟩
              have HL := Lib.hid (And.intro h1 h2)
              have SB : Aside _ := SB
              clear h1 h2
              have HM2 : Hid (d2.size = d.size ∧ SortedIn lt mid e d2 ∧ SortedIn lt e b d2 ∧ Dist d2) := Lib.hid ⟨HL.out.1.1.trans HDD.out.1, sorted_perm' HDD.out.2.2.2.2.1 HL.out.1, sorted_out HDD.out.2.2.2.2.2.1 HL.out.1 n3, dist_perm HL.out.1 (HDD.out.1 ▸ n6) HDD.out.2.2.2.2.2.2.2⟩
              have HR : Hid (PermIn mid b d2 d2 ∧ SortedIn lt mid b d2) := Lib.hid ⟨permIn_refl _ _ _, half_none HM2.out.2.1 HM2.out.2.2.1 n5.out⟩
              go_wp2_with fail
              go_end0
              exact ⟨rfl, d2, SB.out, merge_done n1 n2 hb HDD.out.1 HDD.out.2.1 HL.out.1 HL.out.2 HR.out.1 HR.out.2 HDD.out.2.2.2.2.2.2.1⟩
          · have b3 : ¬ (a : Int) < (i : Int) := by omega
            rcases (show e < b ∨ e = b by omega) with c3 | c3
            · have b6 : (e : Int) < (b : Int) := by omega
              have n1 : a ≤ mid := by omega
              have n2 : mid ≤ b := by omega
              have n3 : mid ≤ e := by omega
              have n6 : mid ≤ d.size := by omega
              have i1 : i < m := by omega
              have i2 : m < e := by omega
              have n4 : Hid (i ≤ a ∨ mid ≤ i) := Lib.hid (by omega)
              have i5 : mid < e := by omega
              have i6 : e < b := by omega
              clear c1 him hme hai hamid hmidb hmd he hnn c2 c3
              have v7 := wrap_in HENB.out
              have t7 := wrap_sub HEN.out LV.out.2.2.2.1
              go_wp2_with fail
              refine (HK1.out _ S1.out i1 i2).mono ?_
              rintro _ w2 ⟨rfl, d1, SA, h1, h2⟩
              have HDD := Lib.hid (HK2.out d1 h1 h2)
              have SA : Aside _ := SA
              clear h1 h2
              have HL : Hid (PermIn a mid d1 d1 ∧ SortedIn lt a mid d1) := Lib.hid ⟨permIn_refl _ _ _, half_none HDD.out.2.2.1 HDD.out.2.2.2.1 n4.out⟩
              have HM2 : Hid (d1.size = d.size ∧ SortedIn lt mid e d1 ∧ SortedIn lt e b d1 ∧ Dist d1) := Lib.hid ⟨HL.out.1.1.trans HDD.out.1, sorted_perm' HDD.out.2.2.2.2.1 HL.out.1, sorted_out HDD.out.2.2.2.2.2.1 HL.out.1 n3, dist_perm HL.out.1 (HDD.out.1 ▸ n6) HDD.out.2.2.2.2.2.2.2⟩
              go_wp2_with fail
              refine (HK4.out _ _ HM2.out.1 SA.out i5 i6 HM2.out.2.1 HM2.out.2.2.1 HM2.out.2.2.2).mono ?_
              rintro _ w4 ⟨rfl, d3, SC, h1, h2⟩
              have HR := Lib.hid (And.intro h1 h2)
              have SC : Aside _ := SC
              clear h1 h2
              go_wp2_with fail
              go_end0
              exact ⟨rfl, d3, SC.out, merge_done n1 n2 hb HDD.out.1 HDD.out.2.1 HL.out.1 HL.out.2 HR.out.1 HR.out.2 HDD.out.2.2.2.2.2.2.1⟩
            · have b6 : ¬ (e : Int) < (b : Int) := by omega
              have n1 : a ≤ mid := by omega
              have n2 : mid ≤ b := by omega
              have n3 : mid ≤ e := by omega
              have n6 : mid ≤ d.size := by omega
              have i1 : i < m := by omega
              have i2 : m < e := by omega
              have n4 : Hid (i ≤ a ∨ mid ≤ i) := Lib.hid (by omega)
              have n5 : Hid (e ≤ mid ∨ b ≤ e) := Lib.hid (by omega)
              clear c1 him hme hai hamid hmidb hmd he hnn c2 c3
              have v7 := wrap_in HENB.out
              have t7 := wrap_sub HEN.out LV.out.2.2.2.1
              go_wp2_with fail
              refine (HK1.out _ S1.out i1 i2).mono ?_
              rintro _ w2 ⟨rfl, d1, SA, h1, h2⟩
              have HDD := Lib.hid (HK2.out d1 h1 h2)
              have SA : Aside _ := SA
              clear h1 h2
              have HL : Hid (PermIn a mid d1 d1 ∧ SortedIn lt a mid d1) := Lib.hid ⟨permIn_refl _ _ _, half_none HDD.out.2.2.1 HDD.out.2.2.2.1 n4.out⟩
              have HM2 : Hid (d1.size = d.size ∧ SortedIn lt mid e d1 ∧ SortedIn lt e b d1 ∧ Dist d1) := Lib.hid ⟨HL.out.1.1.trans HDD.out.1, sorted_perm' HDD.out.2.2.2.2.1 HL.out.1, sorted_out HDD.out.2.2.2.2.2.1 HL.out.1 n3, dist_perm HL.out.1 (HDD.out.1 ▸ n6) HDD.out.2.2.2.2.2.2.2⟩
              have HR : Hid (PermIn mid b d1 d1 ∧ SortedIn lt mid b d1) := Lib.hid ⟨permIn_refl _ _ _, half_none HM2.out.2.1 HM2.out.2.2.1 n5.out⟩
              go_wp2_with fail
              go_end0
              exact ⟨rfl, d1, SA.out, merge_done n1 n2 hb HDD.out.1 HDD.out.2.1 HL.out.1 HL.out.2 HR.out.1 HR.out.2 HDD.out.2.2.2.2.2.2.1⟩
        · exfalso; omega
        · have b1 : (i : Int) < (m : Int) := by omega
          have b2 : ¬ (m : Int) < (e : Int) := by omega
          have b3 : (a : Int) < (i : Int) := by omega
          have b4 : ¬ (i : Int) < (mid : Int) := by omega
          have b5 : (mid : Int) < (e : Int) := by omega
          have b6 : (e : Int) < (b : Int) := by omega
          have HDD := Lib.hid (HK2.out d (Rot.none d (by omega) him hme) (permIn_refl d _ _))
          have n1 : a ≤ mid := by omega
          have n2 : mid ≤ b := by omega
          have n3 : mid ≤ e := by omega
          have n6 : mid ≤ d.size := by omega
          have n4 : Hid (i ≤ a ∨ mid ≤ i) := Lib.hid (by omega)
          have i5 : mid < e := by omega
          have i6 : e < b := by omega
          clear c1 him hme hai hamid hmidb hmd he hnn
          have v7 := wrap_in HENB.out
          have t7 := wrap_sub HEN.out LV.out.2.2.2.1
          have HL : Hid (PermIn a mid d d ∧ SortedIn lt a mid d) := Lib.hid ⟨permIn_refl _ _ _, half_none HDD.out.2.2.1 HDD.out.2.2.2.1 n4.out⟩
          have HM2 : Hid (d.size = d.size ∧ SortedIn lt mid e d ∧ SortedIn lt e b d ∧ Dist d) := Lib.hid ⟨rfl, sorted_perm' HDD.out.2.2.2.2.1 HL.out.1, sorted_out HDD.out.2.2.2.2.2.1 HL.out.1 n3, dist_perm HL.out.1 n6 HDD.out.2.2.2.2.2.2.2⟩
          go_wp2_with fail
          refine (HK4.out _ _ rfl S1.out i5 i6 HM2.out.2.1 HM2.out.2.2.1 HM2.out.2.2.2).mono ?_
          rintro _ w4 ⟨rfl, d3, SC, h1, h2⟩
          have HR := Lib.hid (And.intro h1 h2)
          have SC : Aside _ := SC
          clear h1 h2
          go_wp2_with fail
          go_end0
          exact ⟨rfl, d3, SC.out, merge_done n1 n2 hb rfl HDD.out.2.1 HL.out.1 HL.out.2 HR.out.1 HR.out.2 HDD.out.2.2.2.2.2.2.1⟩
  · have hz : ¬ (mid : Int) < (m : Int) := by omega
    have hlr : a ≤ m := by omega
    have HSK : Hid (Pairs a m b p a m ∧ (a = a ∨ b + a = p + 1) ∧ (m = m ∨ m + m = p + 1) ∧ a ≤ a ∧ m ≤ m) := Lib.hid (by
      have h1 := HNN.out
      have h2 := HPP.out
      have h3 := HMID.out
      exact ⟨⟨by omega, by omega, fun c hc1 hc2 => by omega⟩, .inl rfl, .inl rfl, by omega, by omega⟩)
    have u1 := mid_wrap LV.out.2.2.2.2.2.1 LV.out.2.2.2.2.2.2.1 LV.out.2.2.1
    have t1 := wrap_sub LV.out.2.2.2.2.2.2.2.1 LV.out.2.2.2.2.2.2.2.2.2.2.2.1
    have t2 := wrap_sub LV.out.2.2.2.2.2.2.2.2.1 LV.out.2.2.2.2.2.2.2.2.2.2.2.2
    have t3 := wrap_sum LV.out.2.2.2.2.2.1 LV.out.2.2.1
    have t4 := wrap_sum LV.out.2.2.2.2.2.2.2.2.2.1 LV.out.2.2.2.1
    have t5 := wrap_pred LV.out.2.2.2.2.2.2.2.2.2.2.1 LV.out.2.2.2.1
    have v1 := wrap_in LV.out.1
    have v2 := wrap_in LV.out.2.1
    have v3 := wrap_in LV.out.2.2.1
    have v4 := wrap_in LV.out.2.2.2.1
    have v5 := wrap_in LV.out.2.2.2.2.1
    go_enter Tryz.func210, Tryz.ntmps210
    go_upto_region 25 with fail
    simp only [u1]
    go_wp2_with fail
    clear q2 q2' q3 q3' t1 t2 t3 t4 t5 u1 v1 v2 v3 v4 v5 hz
    go_loopw [20, 21] (fun vi vj wr => ∃ (i j : Nat), vi = .int .i64 i ∧ vj = .int .i64 j ∧ i ≤ j ∧ Aside (SW enc w0 blk off d wr) ∧ Hid (Seek lt d p a i j m)) (fun vi vj _ => (intOf vj).toNat - (intOf vi).toNat)
    case atStart => exact ⟨a, m, rfl, rfl, hlr, S0, Lib.hid (Seek.start hlr)⟩
    case round =>
      clear S0
      obtain ⟨i, j, rfl, rfl, hij, S1, HP⟩ := hrel
      by_cases hlt : i < j
      · have hltz : (i : Int) < (j : Int) := by omega
        obtain ⟨ij, hij2⟩ : ∃ x, x = i + j := ⟨_, rfl⟩
        obtain ⟨c, hcc⟩ : ∃ c, c = (i + j) / 2 := ⟨_, rfl⟩
        have hih : i ≤ c := by omega
        have hhj : c < j := by omega
        have hk := HP.out
        have hP2 := HSK.out.1
        have hpc := hP2.l3 c (by have := hk.l1; omega) (by have := hk.l3; omega)
        have hcm : c < m := by have := hP2.l2; have := hk.l3; omega
        obtain ⟨pc, hpcc⟩ : ∃ q, q = p - c := ⟨_, rfl⟩
        have hzp : pc + c = p := by omega
        have hpb : p < 9223372036854775808 := LV.out.2.2.2.2.1
        obtain ⟨hN, hhN⟩ : ∃ q, q = c := ⟨_, rfl⟩
        obtain ⟨aN, haN⟩ : ∃ q, q = pc := ⟨_, rfl⟩
        have ea : ((c : Int)).toNat = hN := by omega
        have pa : (0 : Int) ≤ (c : Int) := by omega
        have ba : (c : Int) < (d.size : Int) := by omega
        have ec : ((pc : Int)).toNat = aN := by omega
        have pcc : (0 : Int) ≤ (pc : Int) := by omega
        have bc : (pc : Int) < (d.size : Int) := by omega
        have hpl : pc < 9223372036854775808 := by omega
        obtain ⟨x1, hx1⟩ : ∃ x, x = d[c]! := ⟨_, rfl⟩
        obtain ⟨y1, hy1⟩ : ∃ x, x = d[pc]! := ⟨_, rfl⟩
        have l1a := S1.out.cl R (by omega) c (by omega)
        have l1b := S1.out.cl R (by omega) pc (by omega)
        rw [← hx1, ← hhN] at l1a
        rw [← hy1, ← haN] at l1b
        have hc := S1.out.cmp HC.out (by omega) y1 x1
        have hjb : i + j < 9223372036854775808 := by have := hP2.l2; have := hk.l3; omega
        have hne : d[pc]! ≠ d[c]! := fun e => by have := HD.out pc c (by omega) (by omega) e; omega
        have hagr := HAG.out _ _ hne
        clear hpc hk hP2 hne
        cases hlv : ltOf cf d[pc]! d[c]! with
        | true =>
          have hv : cf y1 x1 < 0 := by rw [hx1, hy1]; exact of_decide_eq_true hlv
          have hd : decide (cf y1 x1 < 0) = true := decide_eq_true hv
          rw [hagr] at hlv
          rw [hpcc] at hlv
          have HN := Lib.hid (HP.out.down HSK.out.1 HO.out HAS.out HBS.out hih hhj hlv)
          clear hx1 hy1 hhN haN hlv hpcc hagr
          have r6 : wrap64 (IntKind.u64.wrap (ij : Int) / 2) = (c : Int) := by rw [IntKind.wrap_u64]; unfold wrap64; omega
          have z1 := wrap_sub hzp hpb
          have r3 := wrap_in hpl
          have r2 := wrap_in (show ij < 9223372036854775808 by rw [hij2]; exact hjb)
          have r1 := wrap_add hjb
          rw [← hij2] at r1
          clear hij2 hcc hjb hpl hzp hpb
          go_wp2_with fail
          go_quiet_grown (first | (go_at_fn g; refine Calls.grown_of (hc _ _)))
          have S2 : Aside (SW enc w0 blk off d (grow (wr.drewN nq) osq)) := S1.out.grown nq osq
          clear l1a l1b hc S1
          generalize grow (wr.drewN nq) osq = w2 at S2 ⊢
          clear nq osq ea ec pa ba pcc bc r1 r2 r6 r3 z1
          go_wp2_with fail
          go_roundw
          case rel => exact ⟨i, c, rfl, rfl, hih, S2, HN⟩
          case measure => simp [intOf]; omega
        | false =>
          have hv : ¬ cf y1 x1 < 0 := by rw [hx1, hy1]; exact of_decide_eq_false hlv
          have hd : decide (cf y1 x1 < 0) = false := decide_eq_false hv
          rw [hagr] at hlv
          rw [hpcc] at hlv
          have HN := Lib.hid (HP.out.up HSK.out.1 HO.out HAS.out HBS.out hih hhj hlv)
          clear hx1 hy1 hhN haN hlv hpcc hagr
          have r6 : wrap64 (IntKind.u64.wrap (ij : Int) / 2) = (c : Int) := by rw [IntKind.wrap_u64]; unfold wrap64; omega
          have z1 := wrap_sub hzp hpb
          have r3 := wrap_in hpl
          have r2 := wrap_in (show ij < 9223372036854775808 by rw [hij2]; exact hjb)
          have r1 := wrap_add hjb
          rw [← hij2] at r1
          clear hij2 hcc hjb hpl hzp hpb
          go_wp2_with fail
          go_quiet_grown (first | (go_at_fn g; refine Calls.grown_of (hc _ _)))
          have S2 : Aside (SW enc w0 blk off d (grow (wr.drewN nq) osq)) := S1.out.grown nq osq
          clear l1a l1b hc S1
          generalize grow (wr.drewN nq) osq = w2 at S2 ⊢
          clear nq osq ea ec pa ba pcc bc r1 r2 r6 r3 z1
          go_wp2_with fail
          go_roundw
          case rel => exact ⟨c + 1, j, by go_num, rfl, by omega, S2, HN⟩
          case measure => simp [intOf]; omega
      · have hie : i = j := by omega
        subst hie
        have hltz : ¬ (i : Int) < (i : Int) := by omega
        have F : Hid (a ≤ i ∧ i ≤ m ∧ (∃ e, e + i = n ∧ m ≤ e ∧ e ≤ b ∧ i + (e - m) = mid ∧ LeR lt d a i e b ∧ LeR lt d m e i m) ∧ a < mid ∧ mid < b ∧ b - a ≤ N + 1) := Lib.hid (by
          obtain ⟨f1, f2, f3, f4, f5⟩ := HSK.out
          have hk := HP.out
          have h1 := HNN.out
          have h2 := HPP.out
          have h3 := HMID.out
          have h4 := HNb.out
          have k1 := hk.l1
          have k3 := hk.l3
          skip
          have g1 : ∃ e, e + i = n ∧ m ≤ e ∧ e ≤ b := ⟨n - i, by omega⟩
          obtain ⟨e, he, g2, g3⟩ := g1
          obtain ⟨g4, g5⟩ := seek_le (e := e) HO.out HAS.out HBS.out hk f1 (by omega) (.inl rfl) (.inl rfl)
          exact ⟨by omega, by omega, ⟨e, he, g2, g3, by omega, g4, g5⟩, by omega, by omega, h4⟩)
        clear HSK HP HNb hlt hij
        have HF := F
        obtain ⟨hai, him, ⟨e, he, hme, heb, hmd, -, -⟩, hamid, hmidb, -⟩ := F.out
        have hen : e < 9223372036854775808 := by omega
        have HEN := Lib.hid he
        clear hltz
        have key1 : ∀ W, SW enc w0 blk off d W → i < m → m < e → Calls Tryz.prog 217 #[.slice (some ⟨blk, off, none⟩) d.size cap, .int .i64 i, .int .i64 m, .int .i64 e, .func (.func g) #[] cb] W fun e' w' => e' = .returned (.tuple #[]) ∧ ∃ d', SW enc w0 blk off d' w' ∧ Rot d d' i m e ∧ PermIn i e d d' := fun W SW1 c1 c2 => rotate_calls enc blk off cap i m e d0 d w0 W _ R hs SW1 c1 c2 (by omega) (by omega)
        have HK1 := Lib.hid key1
        -- what comes behind the rotation
        have key2 : ∀ d1, Rot d d1 i m e → PermIn i e d d1 → d1.size = d.size ∧ PermIn a b d d1 ∧ SortedIn lt a i d1 ∧ SortedIn lt i mid d1 ∧ SortedIn lt mid e d1 ∧ SortedIn lt e b d1 ∧ LeR lt d1 a mid mid b ∧ Dist d1 := by
          intro d1 hr hpm
          obtain ⟨_, _, ⟨e', he', _, _, _, g4, g5⟩, _⟩ := HF.out
          have ee : e' = e := by omega
          subst ee
          have e1 := rot_b1 hr HBS.out heb
          have e2 := rot_a2 hr HAS.out hai him hme
          have e3 := rot_le hr HAS.out HBS.out hai him hme heb HO.out g4 g5
          rw [hmd] at e1 e2 e3
          exact ⟨hpm.1, permIn_mono _ _ _ _ _ _ hai heb hb hpm, rot_a1 hr HAS.out hai him hme, e1, e2, rot_b2 hr HBS.out him hme, e3, dist_perm hpm (by omega) HD.out⟩
        have HK2 := Lib.hid key2
        have key3 : ∀ W d1, d1.size = d.size → SW enc w0 blk off d1 W → a < i → i < mid → SortedIn lt a i d1 → SortedIn lt i mid d1 → Dist d1 → Calls Tryz.prog 210 #[.slice (some ⟨blk, off, none⟩) d.size cap, .int .i64 a, .int .i64 i, .int .i64 mid, .func (.func g) #[] cb] W fun e w' => e = .returned (.tuple #[]) ∧ ∃ d', SW enc w0 blk off d' w' ∧ PermIn a mid d1 d' ∧ SortedIn lt a mid d' := fun W d1 hd1 SW1 c1 c2 s1 s2 sd => by
          have := HIH.out a i mid d1 W (by have := HF.out.2.2.2.2.2; omega) (by omega) SW1 c1 c2 (by omega) s1 s2 sd
          rw [hd1] at this; exact this
        have HK3 := Lib.hid key3
        have key4 : ∀ W d1, d1.size = d.size → SW enc w0 blk off d1 W → mid < e → e < b → SortedIn lt mid e d1 → SortedIn lt e b d1 → Dist d1 → Calls Tryz.prog 210 #[.slice (some ⟨blk, off, none⟩) d.size cap, .int .i64 mid, .int .i64 e, .int .i64 b, .func (.func g) #[] cb] W fun e w' => e = .returned (.tuple #[]) ∧ ∃ d', SW enc w0 blk off d' w' ∧ PermIn mid b d1 d' ∧ SortedIn lt mid b d' := fun W d1 hd1 SW1 c1 c2 s1 s2 sd => by
          have := HIH.out mid e b d1 W (by have := HF.out.2.2.2.2.2; omega) (by omega) SW1 c1 c2 (by omega) s1 s2 sd
          rw [hd1] at this; exact this
        have HK4 := Lib.hid key4
        have HMD := Lib.hid hmd
        clear key1 key2 key3 key4 he hmd F
        have hltz : ¬ (i : Int) < (i : Int) := by omega
        have HENB := Lib.hid hen
        clear hen
        have hmd := HMD.out
        have he := HEN.out
        have hnn := HNN.out
        rcases (show (i < m ∧ m < e) ∨ (i = m ∧ e = mid) ∨ (i < m ∧ e = m ∧ i = mid) by omega) with c1 | c1 | c1
        · have b1 : (i : Int) < (m : Int) := by omega
          have b2 : (m : Int) < (e : Int) := by omega
          have b4 : (i : Int) < (mid : Int) := by omega
          have b5 : (mid : Int) < (e : Int) := by omega
          rcases (show a < i ∨ i = a by omega) with c2 | c2
          · have b3 : (a : Int) < (i : Int) := by omega
            rcases (show e < b ∨ e = b by omega) with c3 | c3
            · have b6 : (e : Int) < (b : Int) := by omega
              have n1 : a ≤ mid := by omega
              have n2 : mid ≤ b := by omega
              have n3 : mid ≤ e := by omega
              have n6 : mid ≤ d.size := by omega
              have i1 : i < m := by omega
              have i2 : m < e := by omega
              have i3 : a < i := by omega
              have i4 : i < mid := by omega
              have i5 : mid < e := by omega
              have i6 : e < b := by omega
              clear c1 him hme hai hamid hmidb hmd he hnn c2 c3
              have v7 := wrap_in HENB.out
              have t7 := wrap_sub HEN.out LV.out.2.2.2.1
              go_wp2_with fail
              refine (HK1.out _ S1.out i1 i2).mono ?_
              rintro _ w2 ⟨rfl, d1, SA, h1, h2⟩
              have HDD := Lib.hid (HK2.out d1 h1 h2)
              have SA : Aside _ := SA
              clear h1 h2
              go_wp2_with fail
              refine (HK3.out _ _ HDD.out.1 SA.out i3 i4 HDD.out.2.2.1 HDD.out.2.2.2.1 HDD.out.2.2.2.2.2.2.2).mono ?_
              rintro _ w3 ⟨rfl, d2, SB, h1, h2⟩
              have HL := Lib.hid (And.intro h1 h2)
              have SB : Aside _ := SB
              clear h1 h2
              have HM2 : Hid (d2.size = d.size ∧ SortedIn lt mid e d2 ∧ SortedIn lt e b d2 ∧ Dist d2) := Lib.hid ⟨HL.out.1.1.trans HDD.out.1, sorted_perm' HDD.out.2.2.2.2.1 HL.out.1, sorted_out HDD.out.2.2.2.2.2.1 HL.out.1 n3, dist_perm HL.out.1 (HDD.out.1 ▸ n6) HDD.out.2.2.2.2.2.2.2⟩
              go_wp2_with fail
              refine (HK4.out _ _ HM2.out.1 SB.out i5 i6 HM2.out.2.1 HM2.out.2.2.1 HM2.out.2.2.2).mono ?_
              rintro _ w4 ⟨rfl, d3, SC, h1, h2⟩
              have HR := Lib.hid (And.intro h1 h2)
              have SC : Aside _ := SC
              clear h1 h2
              go_wp2_with fail
              go_end0
              exact ⟨rfl, d3, SC.out, merge_done n1 n2 hb HDD.out.1 HDD.out.2.1 HL.out.1 HL.out.2 HR.out.1 HR.out.2 HDD.out.2.2.2.2.2.2.1⟩
            · have b6 : ¬ (e : Int) < (b : Int) := by omega
              have n1 : a ≤ mid := by omega
              have n2 : mid ≤ b := by omega
              have n3 : mid ≤ e := by omega
              have n6 : mid ≤ d.size := by omega
              have i1 : i < m := by omega
              have i2 : m < e := by omega
              have i3 : a < i := by omega
              have i4 : i < mid := by omega
              have n5 : Hid (e ≤ mid ∨ b ≤ e) := Lib.hid (by omega)
              clear c1 him hme hai hamid hmidb hmd he hnn c2 c3
              have v7 := wrap_in HENB.out
              have t7 := wrap_sub HEN.out LV.out.2.2.2.1
              go_wp2_with fail
              refine (HK1.out _ S1.out i1 i2).mono ?_
              rintro _ w2 ⟨rfl, d1, SA, h1, h2⟩
              have HDD := Lib.hid (HK2.out d1 h1 h2)
              have SA : Aside _ := SA
              clear h1 h2
              go_wp2_with fail
              refine (HK3.out _ _ HDD.out.1 SA.out i3 i4 HDD.out.2.2.1 HDD.out.2.2.2.1 HDD.out.2.2.2.2.2.2.2).mono ?_
              rintro _ w3 ⟨rfl, d2, SB, h1, h2⟩
              have HL := Lib.hid (And.intro h1 h2)
              have SB : Aside _ := SB
              clear h1 h2
              have HM2 : Hid (d2.size = d.size ∧ SortedIn lt mid e d2 ∧ SortedIn lt e b d2 ∧ Dist d2) := Lib.hid ⟨HL.out.1.1.trans HDD.out.1, sorted_perm' HDD.out.2.2.2.2.1 HL.out.1, sorted_out HDD.out.2.2.2.2.2.1 HL.out.1 n3, dist_perm HL.out.1 (HDD.out.1 ▸ n6) HDD.out.2.2.2.2.2.2.2⟩
              have HR : Hid (PermIn mid b d2 d2 ∧ SortedIn lt mid b d2) := Lib.hid ⟨permIn_refl _ _ _, half_none HM2.out.2.1 HM2.out.2.2.1 n5.out⟩
              go_wp2_with fail
              go_end0
              exact ⟨rfl, d2, SB.out, merge_done n1 n2 hb HDD.out.1 HDD.out.2.1 HL.out.1 HL.out.2 HR.out.1 HR.out.2 HDD.out.2.2.2.2.2.2.1⟩
          · have b3 : ¬ (a : Int) < (i : Int) := by omega
            rcases (show e < b ∨ e = b by omega) with c3 | c3
            · have b6 : (e : Int) < (b : Int) := by omega
              have n1 : a ≤ mid := by omega
              have n2 : mid ≤ b := by omega
              have n3 : mid ≤ e := by omega
              have n6 : mid ≤ d.size := by omega
              have i1 : i < m := by omega
              have i2 : m < e := by omega
              have n4 : Hid (i ≤ a ∨ mid ≤ i) := Lib.hid (by omega)
              have i5 : mid < e := by omega
              have i6 : e < b := by omega
              clear c1 him hme hai hamid hmidb hmd he hnn c2 c3
              have v7 := wrap_in HENB.out
              have t7 := wrap_sub HEN.out LV.out.2.2.2.1
              go_wp2_with fail
              refine (HK1.out _ S1.out i1 i2).mono ?_
              rintro _ w2 ⟨rfl, d1, SA, h1, h2⟩
              have HDD := Lib.hid (HK2.out d1 h1 h2)
              have SA : Aside _ := SA
              clear h1 h2
              have HL : Hid (PermIn a mid d1 d1 ∧ SortedIn lt a mid d1) := Lib.hid ⟨permIn_refl _ _ _, half_none HDD.out.2.2.1 HDD.out.2.2.2.1 n4.out⟩
              have HM2 : Hid (d1.size = d.size ∧ SortedIn lt mid e d1 ∧ SortedIn lt e b d1 ∧ Dist d1) := Lib.hid ⟨HL.out.1.1.trans HDD.out.1, sorted_perm' HDD.out.2.2.2.2.1 HL.out.1, sorted_out HDD.out.2.2.2.2.2.1 HL.out.1 n3, dist_perm HL.out.1 (HDD.out.1 ▸ n6) HDD.out.2.2.2.2.2.2.2⟩
              go_wp2_with fail
              refine (HK4.out _ _ HM2.out.1 SA.out i5 i6 HM2.out.2.1 HM2.out.2.2.1 HM2.out.2.2.2).mono ?_
              rintro _ w4 ⟨rfl, d3, SC, h1, h2⟩
              have HR := Lib.hid (And.intro h1 h2)
              have SC : Aside _ := SC
              clear h1 h2
              go_wp2_with fail
              go_end0
              exact ⟨rfl, d3, SC.out, merge_done n1 n2 hb HDD.out.1 HDD.out.2.1 HL.out.1 HL.out.2 HR.out.1 HR.out.2 HDD.out.2.2.2.2.2.2.1⟩
            · have b6 : ¬ (e : Int) < (b : Int) := by omega
              have n1 : a ≤ mid := by omega
              have n2 : mid ≤ b := by omega
              have n3 : mid ≤ e := by omega
              have n6 : mid ≤ d.size := by omega
              have i1 : i < m := by omega
              have i2 : m < e := by omega
              have n4 : Hid (i ≤ a ∨ mid ≤ i) := Lib.hid (by omega)
              have n5 : Hid (e ≤ mid ∨ b ≤ e) := Lib.hid (by omega)
              clear c1 him hme hai hamid hmidb hmd he hnn c2 c3
              have v7 := wrap_in HENB.out
              have t7 := wrap_sub HEN.out LV.out.2.2.2.1
              go_wp2_with fail
              refine (HK1.out _ S1.out i1 i2).mono ?_
              rintro _ w2 ⟨rfl, d1, SA, h1, h2⟩
              have HDD := Lib.hid (HK2.out d1 h1 h2)
              have SA : Aside _ := SA
              clear h1 h2
              have HL : Hid (PermIn a mid d1 d1 ∧ SortedIn lt a mid d1) := Lib.hid ⟨permIn_refl _ _ _, half_none HDD.out.2.2.1 HDD.out.2.2.2.1 n4.out⟩
              have HM2 : Hid (d1.size = d.size ∧ SortedIn lt mid e d1 ∧ SortedIn lt e b d1 ∧ Dist d1) := Lib.hid ⟨HL.out.1.1.trans HDD.out.1, sorted_perm' HDD.out.2.2.2.2.1 HL.out.1, sorted_out HDD.out.2.2.2.2.2.1 HL.out.1 n3, dist_perm HL.out.1 (HDD.out.1 ▸ n6) HDD.out.2.2.2.2.2.2.2⟩
              have HR : Hid (PermIn mid b d1 d1 ∧ SortedIn lt mid b d1) := Lib.hid ⟨permIn_refl _ _ _, half_none HM2.out.2.1 HM2.out.2.2.1 n5.out⟩
              go_wp2_with fail
              go_end0
              exact ⟨rfl, d1, SA.out, merge_done n1 n2 hb HDD.out.1 HDD.out.2.1 HL.out.1 HL.out.2 HR.out.1 HR.out.2 HDD.out.2.2.2.2.2.2.1⟩
        · have b1 : ¬ (i : Int) < (m : Int) := by omega
          have b3 : (a : Int) < (i : Int) := by omega
          have b5 : ¬ (mid : Int) < (e : Int) := by omega
          have HDD := Lib.hid (HK2.out d (Rot.none d (by omega) him hme) (permIn_refl d _ _))
          rcases (show i < mid ∨ i = mid by omega) with c2 | c2
          · have b4 : (i : Int) < (mid : Int) := by omega
            have n1 : a ≤ mid := by omega
            have n2 : mid ≤ b := by omega
            have n3 : mid ≤ e := by omega
            have n6 : mid ≤ d.size := by omega
            have i3 : a < i := by omega
            have i4 : i < mid := by omega
            have n5 : Hid (e ≤ mid ∨ b ≤ e) := Lib.hid (by omega)
            clear c1 him hme hai hamid hmidb hmd he hnn c2
            have v7 := wrap_in HENB.out
            have t7 := wrap_sub HEN.out LV.out.2.2.2.1
            go_wp2_with fail
            refine (HK3.out _ _ rfl S1.out i3 i4 HDD.out.2.2.1 HDD.out.2.2.2.1 HDD.out.2.2.2.2.2.2.2).mono ?_
            rintro _ w3 ⟨rfl, d2, SB, h1, h2⟩
            have HL := Lib.hid (And.intro h1 h2)
            have SB : Aside _ := SB
            clear h1 h2
            have HM2 : Hid (d2.size = d.size ∧ SortedIn lt mid e d2 ∧ SortedIn lt e b d2 ∧ Dist d2) := Lib.hid ⟨HL.out.1.1.trans rfl, sorted_perm' HDD.out.2.2.2.2.1 HL.out.1, sorted_out HDD.out.2.2.2.2.2.1 HL.out.1 n3, dist_perm HL.out.1 n6 HDD.out.2.2.2.2.2.2.2⟩
            have HR : Hid (PermIn mid b d2 d2 ∧ SortedIn lt mid b d2) := Lib.hid ⟨permIn_refl _ _ _, half_none HM2.out.2.1 HM2.out.2.2.1 n5.out⟩
            go_wp2_with fail
            go_end0
            exact ⟨rfl, d2, SB.out, merge_done n1 n2 hb rfl HDD.out.2.1 HL.out.1 HL.out.2 HR.out.1 HR.out.2 HDD.out.2.2.2.2.2.2.1⟩
          · have b4 : ¬ (i : Int) < (mid : Int) := by omega
            have n1 : a ≤ mid := by omega
            have n2 : mid ≤ b := by omega
            have n3 : mid ≤ e := by omega
            have n6 : mid ≤ d.size := by omega
            have n4 : Hid (i ≤ a ∨ mid ≤ i) := Lib.hid (by omega)
            have n5 : Hid (e ≤ mid ∨ b ≤ e) := Lib.hid (by omega)
            clear c1 him hme hai hamid hmidb hmd he hnn c2
            have v7 := wrap_in HENB.out
            have t7 := wrap_sub HEN.out LV.out.2.2.2.1
            have HL : Hid (PermIn a mid d d ∧ SortedIn lt a mid d) := Lib.hid ⟨permIn_refl _ _ _, half_none HDD.out.2.2.1 HDD.out.2.2.2.1 n4.out⟩
            have HM2 : Hid (d.size = d.size ∧ SortedIn lt mid e d ∧ SortedIn lt e b d ∧ Dist d) := Lib.hid ⟨rfl, sorted_perm' HDD.out.2.2.2.2.1 HL.out.1, sorted_out HDD.out.2.2.2.2.2.1 HL.out.1 n3, dist_perm HL.out.1 n6 HDD.out.2.2.2.2.2.2.2⟩
            have HR : Hid (PermIn mid b d d ∧ SortedIn lt mid b d) := Lib.hid ⟨permIn_refl _ _ _, half_none HM2.out.2.1 HM2.out.2.2.1 n5.out⟩
            go_wp2_with fail
            go_end0
            exact ⟨rfl, d, S1.out, merge_done n1 n2 hb rfl HDD.out.2.1 HL.out.1 HL.out.2 HR.out.1 HR.out.2 HDD.out.2.2.2.2.2.2.1⟩
        · exfalso; omega
end Go.Proofs.YtagdccgbcmnehaaGreat

namespace Go.Proofs
open Go.Shelf
def Tryz.laysStab_ren : Go.Shelf.Ren := ⟨fun | 20 => 209 | n => n, fun | 22 => 28 | 24 => 24 | 25 => 212 | 3 => 3 | 4 => 4 | 0 => 0 | n => n, fun | n => n⟩
set_option maxRecDepth 100000 in
theorem Tryz.laysStab : Go.Proofs.SlLaysF.n20 Tryz.prog Tryz.laysStab_ren := {
  mixed := by kernel_rfl
  f20 := ⟨Tryz.f209.name, by decide, Tryz.func209.trans (congrArg some (by kernel_rfl))⟩
  t0 := Tryz.underlying0
  a0 := Tryz.isAgg0
  z0 := Tryz.sizeOf0
  v0 := Tryz.zeroValue0
  t3 := Tryz.underlying3
  a3 := Tryz.isAgg3
  z3 := Tryz.sizeOf3
  v3 := Tryz.zeroValue3
  t4 := Tryz.underlying4
  a4 := Tryz.isAgg4
  z4 := Tryz.sizeOf4
  v4 := Tryz.zeroValue4
  t22 := Tryz.underlying28
  a22 := Tryz.isAgg28
  z22 := Tryz.sizeOf28
  v22 := Tryz.zeroValue28
  a24 := Tryz.isAgg24
  z24 := Tryz.sizeOf24
  t25 := Tryz.underlying212
  a25 := Tryz.isAgg212
  z25 := Tryz.sizeOf212
  v25 := Tryz.zeroValue212 }
end Go.Proofs
namespace Go.Proofs.YtagdccgbcmnehaaGreat
open Go.RowKit Go.Tok Go.Sort Go.Stab Go.Lib
set_option linter.unusedVariables false
variable {α : Type} [Inhabited α]
theorem insSort_calls (enc : α → Value) (cf : α → α → Int) (lt : α → α → Bool) (g : Nat) (cb : Array Value) (blk off cap : Nat) (d0 : Array α) (w0 : World) (X : StabX enc cf lt g cb blk off d0 w0) (a b : Nat) (d : Array α) (w : World) (hs : d0.size = d.size) (S : SW enc w0 blk off d w) (hab : a ≤ b) (hb : b ≤ d.size) (hD : Dist d) :
    Calls Tryz.prog 209 #[.slice (some ⟨blk, off, none⟩) d.size cap, .int .i64 a, .int .i64 b, .func (.func g) #[] cb] w fun e w' => e = .returned (.tuple #[]) ∧ ∃ d', SW enc w0 blk off d' w' ∧ PermIn a b d d' ∧ SortedIn lt a b d' := by
  have h := Any.insertionSortCmpFunc_s Tryz.laysStab enc cf g cb blk off cap a b d0 d w0 w X.eg X.hcmp X.R hs S hab hb (by have := X.hsz; omega)
  refine h.mono ?_
  rintro _ w' ⟨rfl, S'⟩
  have := insertionSort_holds X.hO d a b hab hb
  rw [insertionSort_congr X.agree hb hD] at S'
  exact ⟨rfl, _, S', this.1, this.2⟩
theorem symMerge_calls (enc : α → Value) (cf : α → α → Int) (lt : α → α → Bool) (g : Nat) (cb : Array Value) (blk off cap : Nat) (d0 : Array α) (w0 : World) (X : StabX enc cf lt g cb blk off d0 w0) : ∀ N, MergeC enc cf lt g cb blk off cap d0 w0 N := by
  intro N
  induction N with
  | zero => intro a m b d w hN hs S ham hmb; omega
  | succ N ih =>
    intro a m b d w hN hs S ham hmb hb hA hB hD
    by_cases h1 : m = a + 1
    · subst h1
      exact symMerge1_calls enc cf lt g cb blk off cap d0 w0 X a b d w hs S hmb hb hB hD
    · by_cases h2 : b = m + 1
      · subst h2
        exact symMerge2_calls enc cf lt g cb blk off cap d0 w0 X a m d w hs S (by omega) hb hA hD
      · exact symMerge3_calls enc cf lt g cb blk off cap d0 w0 X N a m b ih d w hN hs S (by omega) (by omega) hb hA hB hD
set_option maxRecDepth 100000 in
set_option maxHeartbeats 4000000 in
theorem stable_calls (enc : α → Value) (cf : α → α → Int) (lt : α → α → Bool) (g : Nat) (cb : Array Value) (blk off cap : Nat) (d0 : Array α) (w0 : World) (X : StabX enc cf lt g cb blk off d0 w0) (hlt : d0.size < 40) (hD : Dist d0) :
    Calls Tryz.prog 185 #[.slice (some ⟨blk, off, none⟩) d0.size cap, .int .i64 d0.size, .func (.func g) #[] cb] w0 fun e w' => e = .returned (.tuple #[]) ∧ ∃ d', SW enc w0 blk off d' w' ∧ PermIn 0 d0.size d0 d' ∧ SortedIn lt 0 d0.size d' := by
  have S0 : SW enc w0 blk off d0 w0 := SW.start X.R.hH
  have HX := Lib.hid X
  obtain ⟨n, hn⟩ : ∃ n, n = d0.size := ⟨_, rfl⟩
  have HI := fun a b (d : Array α) w hs S hab hb hD => insSort_calls enc cf lt g cb blk off cap d0 w0 X a b d w hs S hab hb hD
  have HINS := Lib.hid HI
  have HM := Lib.hid (symMerge_calls enc cf lt g cb blk off cap d0 w0 X 100)
  have HN := Lib.hid hn
  have HD := Lib.hid hD
  clear HI X hD
  by_cases h20 : n < 20
  · have k1 : Calls Tryz.prog 209 #[.slice (some ⟨blk, off, none⟩) n cap, .int .i64 0, .int .i64 n, .func (.func g) #[] cb] w0 fun e w' => e = .returned (.tuple #[]) ∧ ∃ d', SW enc w0 blk off d' w' ∧ PermIn 0 n d0 d' ∧ SortedIn lt 0 n d' := by
      rw [hn]; exact HINS.out 0 d0.size d0 w0 rfl S0 (Nat.zero_le _) (Nat.le_refl _) HD.out
    have K1 := Lib.hid k1
    rw [← hn] at hlt ⊢
    clear k1 hn
    have b1 : ¬ (20 : Int) ≤ (n : Int) := by omega
    have b2 : ¬ (20 : Int) < (n : Int) := by omega
    go_enter Tryz.func185, Tryz.ntmps185
    go_wp2
    refine wp_loop_rounds 1 ?_
    rw [rounds_succ]
    go_wp2_with fail
    refine K1.out.mono ?_
    rintro _ w2 ⟨rfl, d1, S1, h1, h2⟩
    have HH := Lib.hid (And.intro h1 h2)
    clear h1 h2
    go_wp2
    refine wp_loop_rounds 1 ?_
    rw [rounds_succ]
    go_wp2_with fail
    go_end0
    exact ⟨rfl, d1, S1, HH.out.1, HH.out.2⟩
  · have k1 : Calls Tryz.prog 209 #[.slice (some ⟨blk, off, none⟩) n cap, .int .i64 0, .int .i64 20, .func (.func g) #[] cb] w0 fun e w' => e = .returned (.tuple #[]) ∧ ∃ d', SW enc w0 blk off d' w' ∧ PermIn 0 20 d0 d' ∧ SortedIn lt 0 20 d' := by
      have := HINS.out 0 20 d0 w0 rfl S0 (Nat.zero_le _) (by omega) HD.out
      rw [← hn] at this; exact this
    have k2 : ∀ W d, d.size = n → SW enc w0 blk off d W → Dist d → Calls Tryz.prog 209 #[.slice (some ⟨blk, off, none⟩) n cap, .int .i64 20, .int .i64 n, .func (.func g) #[] cb] W fun e w' => e = .returned (.tuple #[]) ∧ ∃ d', SW enc w0 blk off d' w' ∧ PermIn 20 n d d' ∧ SortedIn lt 20 n d' := fun W d hd S sd => by
      have := HINS.out 20 n d W (by omega) S (by omega) (by omega) sd
      rw [hd] at this; exact this
    have k3 : ∀ W d, d.size = n → 20 < n → SW enc w0 blk off d W → SortedIn lt 0 20 d → SortedIn lt 20 n d → Dist d → Calls Tryz.prog 210 #[.slice (some ⟨blk, off, none⟩) n cap, .int .i64 0, .int .i64 20, .int .i64 n, .func (.func g) #[] cb] W fun e w' => e = .returned (.tuple #[]) ∧ ∃ d', SW enc w0 blk off d' w' ∧ PermIn 0 n d d' ∧ SortedIn lt 0 n d' := fun W d hd h20 S s1 s2 sd => by
      have := HM.out 0 20 n d W (by omega) (by omega) S (by omega) h20 (by omega) s1 s2 sd
      rw [hd] at this; exact this
    have K1 := Lib.hid k1
    have K2 := Lib.hid k2
    have K3 := Lib.hid k3
    rw [← hn] at hlt ⊢
    have hsz0 : Hid (d0.size = n) := Lib.hid hn.symm
    have H20 := Lib.hid h20
    clear k1 k2 k3 hn
    have b1 : (20 : Int) ≤ (n : Int) := by omega
    have b2 : ¬ (40 : Int) ≤ (n : Int) := by omega
    have b4 : ¬ (40 : Int) < (n : Int) := by omega
    rcases (show (n = 20) ∨ 20 < n by omega) with h21 | h21
    · have b3 : ¬ (20 : Int) < (n : Int) := by omega
      have H21 := Lib.hid h21
      clear h20 h21
      go_enter Tryz.func185, Tryz.ntmps185
      go_wp2
      refine wp_loop_rounds 2 ?_
      rw [rounds_succ]
      go_wp2_with fail
      refine K1.out.mono ?_
      rintro _ w2 ⟨rfl, d1, S1, h1, h2⟩
      have hd1 : Hid (d1.size = n) := Lib.hid (h1.1.trans hsz0.out)
      have HH := Lib.hid (And.intro h1 h2)
      clear h1 h2
      go_wp2
      rw [rounds_succ]
      go_wp2_with fail
      refine (K2.out _ d1 hd1.out S1 (dist_perm HH.out.1 (by have := hsz0.out; omega) HD.out)).mono ?_
      rintro _ w3 ⟨rfl, d2, S2, h1, h2⟩
      have HG := Lib.hid (And.intro h1 h2)
      clear h1 h2
      go_wp2
      refine wp_loop_rounds 1 ?_
      rw [rounds_succ]
      go_wp2_with fail
      go_end0
      refine ⟨rfl, d2, S2, ?_⟩
      have e := H21.out
      obtain ⟨p1, s1⟩ := HH.out
      obtain ⟨p2, s2⟩ := HG.out
      have z0 := hsz0.out
      have z1 := hd1.out
      refine ⟨permIn_trans _ _ _ _ _ (permIn_mono _ _ _ _ _ _ (Nat.le_refl _) (by omega) (by omega) p1) (permIn_mono _ _ _ _ _ _ (by omega) (Nat.le_refl _) (by omega) p2), ?_⟩
      have := sorted_perm s1 p2
      rw [e]; exact this
    · have b3 : (20 : Int) < (n : Int) := by omega
      clear h20
      go_enter Tryz.func185, Tryz.ntmps185
      go_wp2
      refine wp_loop_rounds 2 ?_
      rw [rounds_succ]
      go_wp2_with fail
      refine K1.out.mono ?_
      rintro _ w2 ⟨rfl, d1, S1, h1, h2⟩
      have hd1 : Hid (d1.size = n) := Lib.hid (h1.1.trans hsz0.out)
      have HH := Lib.hid (And.intro h1 h2)
      clear h1 h2
      go_wp2
      rw [rounds_succ]
      go_wp2_with fail
      refine (K2.out _ d1 hd1.out S1 (dist_perm HH.out.1 (by have := hsz0.out; omega) HD.out)).mono ?_
      rintro _ w3 ⟨rfl, d2, S2, h1, h2⟩
      have hd2 : Hid (d2.size = n) := Lib.hid (h1.1.trans hd1.out)
      have HG := Lib.hid (And.intro h1 h2)
      clear h1 h2
      go_wp2
      refine wp_loop_rounds 2 ?_
      rw [rounds_succ]
      go_wp2
      refine wp_loop_rounds 1 ?_
      rw [rounds_succ]
      go_wp2_with fail
      refine (K3.out _ d2 hd2.out h21 S2 (sorted_perm HH.out.2 HG.out.1) HG.out.2 (dist_perm HG.out.1 (by have := hd1.out; omega) (dist_perm HH.out.1 (by have := hsz0.out; omega) HD.out))).mono ?_
      rintro _ w4 ⟨rfl, d3, S3, h1, h2⟩
      have HF := Lib.hid (And.intro h1 h2)
      clear h1 h2
      go_wp2
      rw [rounds_succ]
      go_wp2_with fail
      go_end0
      refine ⟨rfl, d3, S3, ?_, HF.out.2⟩
      have z0 := hsz0.out
      have z1 := hd1.out
      obtain ⟨p1, s1⟩ := HH.out
      obtain ⟨p2, s2⟩ := HG.out
      exact permIn_trans _ _ _ _ _ (permIn_trans _ _ _ _ _ (permIn_mono _ _ _ _ _ _ (Nat.le_refl _) (by omega) (by omega) p1) (permIn_mono _ _ _ _ _ _ (by omega) (Nat.le_refl _) (by omega) p2)) HF.out.1
set_option maxRecDepth 100000 in
set_option maxHeartbeats 1000000 in
theorem SortStable_calls (enc : α → Value) (cf : α → α → Int) (lt : α → α → Bool) (g : Nat) (cb : Array Value) (blk off cap : Nat) (d0 : Array α) (w0 : World) (X : StabX enc cf lt g cb blk off d0 w0) (hlt : d0.size < 40) (hD : Dist d0) :
    Calls Tryz.prog 158 #[.slice (some ⟨blk, off, none⟩) d0.size cap, .func (.func g) #[] cb] w0 fun e w' => e = .returned (.tuple #[]) ∧ ∃ d', SW enc w0 blk off d' w' ∧ PermIn 0 d0.size d0 d' ∧ SortedIn lt 0 d0.size d' := by
  have k := Lib.hid (stable_calls enc cf lt g cb blk off cap d0 w0 X hlt hD)
  clear X
  go_enter Tryz.func158, Tryz.ntmps158
  go_wp2_with fail
  refine k.out.mono ?_
  rintro _ w2 ⟨rfl, h⟩
  go_wp2_with fail
  go_end0
  exact ⟨rfl, h⟩
end Go.Proofs.YtagdccgbcmnehaaGreat

namespace Go.Tok
open Go.Sort Go.Stab
set_option linter.unusedVariables false
/-- the order of places in a list of groups -/
def ltG (s : List (Int × Int)) {n : Nat} (f : Fin n → List Int) (i j : Fin n) : Bool := decide (i ≠ j) && hasP s (nth (f i) 0) (nth (f j) 0)
def cmpG (s : List (Int × Int)) (x y : List Int) : Int := if hasP s (nth x 0) (nth y 0) then -1 else 1
theorem cmpG_lt {s : List (Int × Int)} {x y : List Int} : decide (cmpG s x y < 0) = hasP s (nth x 0) (nth y 0) := by
  unfold cmpG
  cases hasP s (nth x 0) (nth y 0) <;> simp
theorem ways_at {s : List (Int × Int)} {gs : List (List Int)} (h : OneWay s gs) {i j : Nat} (hi : i < gs.length) (hj : j < gs.length) (hij : i ≠ j) : AheadG s gs[i] gs[j] ∨ AheadG s gs[j] gs[i] := by
  have hp := List.pairwise_iff_getElem.1 h.tot
  rcases Nat.lt_or_ge i j with h1 | h1
  · exact hp i j hi hj h1
  · exact (hp j i hj hi (by omega)).symm
theorem head_one {s : List (Int × Int)} {g h : List Int} (hg : g ≠ []) (hh : h ≠ []) (hw : AheadG s g h ∨ AheadG s h g) : (hasP s (nth g 0) (nth h 0) = true ↔ AheadG s g h) ∧ (hasP s (nth g 0) (nth h 0) = false ↔ AheadG s h g) := by
  have m1 := head_mem hg
  have m2 := head_mem hh
  rcases hw with h1 | h1
  · have e := h1 _ m1 _ m2
    refine ⟨⟨fun _ => h1, fun _ => e.1⟩, fun e2 => ?_, fun h2 => ?_⟩
    · rw [e.1] at e2; cases e2
    · have e3 := h2 _ m2 _ m1
      rw [e.1] at e3; cases e3.2
  · have e := h1 _ m2 _ m1
    refine ⟨⟨fun e2 => ?_, fun h2 => ?_⟩, fun _ => h1, fun _ => e.2⟩
    · rw [e.2] at e2; cases e2
    · have e3 := h2 _ m1 _ m2
      rw [e.2] at e3; cases e3.1
theorem swo_G {s : List (Int × Int)} {gs : List (List Int)} (h : OneWay s gs) : SWO (ltG s fun i : Fin gs.length => gs[i]) := by
  have ne : ∀ i : Fin gs.length, gs[i] ≠ [] := fun i => h.ne _ (List.getElem_mem i.2)
  have hw : ∀ i j : Fin gs.length, i ≠ j → AheadG s gs[i] gs[j] ∨ AheadG s gs[j] gs[i] := fun i j hij => ways_at h i.2 j.2 (fun e => hij (Fin.ext e))
  have yes : ∀ i j : Fin gs.length, ltG s (fun i : Fin gs.length => gs[i]) i j = true ↔ i ≠ j ∧ AheadG s gs[i] gs[j] := fun i j => by
    unfold ltG
    rw [Bool.and_eq_true, decide_eq_true_eq]
    exact ⟨fun ⟨h1, h2⟩ => ⟨h1, (head_one (ne i) (ne j) (hw i j h1)).1.1 h2⟩, fun ⟨h1, h2⟩ => ⟨h1, (head_one (ne i) (ne j) (hw i j h1)).1.2 h2⟩⟩
  have no : ∀ i j : Fin gs.length, ltG s (fun i : Fin gs.length => gs[i]) i j = false ↔ i = j ∨ AheadG s gs[j] gs[i] := fun i j => by
    unfold ltG
    by_cases e : i = j
    · subst e; simp
    · rw [Bool.and_eq_false_iff, decide_eq_false_iff_not]
      constructor
      · rintro (h1 | h1)
        · exact absurd e h1
        · exact .inr ((head_one (ne i) (ne j) (hw i j e)).2.1 h1)
      · rintro (h1 | h1)
        · exact absurd h1 e
        · exact .inr ((head_one (ne i) (ne j) (hw i j e)).2.2 h1)
  have asym : ∀ i j : Fin gs.length, AheadG s gs[i] gs[j] → ¬ AheadG s gs[j] gs[i] := fun i j h1 h2 => by
    have e1 := h1 _ (head_mem (ne i)) _ (head_mem (ne j))
    have e2 := h2 _ (head_mem (ne j)) _ (head_mem (ne i))
    rw [e1.1] at e2; cases e2.2
  refine ⟨fun i => (no i i).2 (.inl rfl), fun i j k h1 h2 => ?_, fun i j k h1 h2 => ?_⟩
  · obtain ⟨n1, a1⟩ := (yes i j).1 h1
    obtain ⟨n2, a2⟩ := (yes j k).1 h2
    have a3 := ahead_trans h.trans (ne j) a1 a2
    refine (yes i k).2 ⟨fun e => ?_, a3⟩
    subst e
    exact asym _ _ a1 a2
  · rcases (no i j).1 h1 with rfl | a1
    · exact h2
    · rcases (no j k).1 h2 with rfl | a2
      · exact h1
      · exact (no i k).2 (.inr (ahead_trans h.trans (ne j) a2 a1))
theorem sortG_is {s : List (Int × Int)} {gs out : List (List Int)} (h : OneWay s gs) (hp : out.Perm gs) (hs : out.Pairwise (AheadG s)) : sortG s gs = out := by
  have ne : ∀ g ∈ gs, g ≠ [] := h.ne
  refine rise_one (R := fun g h => g ≠ [] ∧ h ≠ [] ∧ AheadG s g h) ?_ ((sortG_perm s gs).trans hp.symm) ?_ ?_
  · rintro a b ⟨h1, h2, h3⟩ ⟨_, _, h4⟩
    have e1 := h3 _ (head_mem h1) _ (head_mem h2)
    have e2 := h4 _ (head_mem h2) _ (head_mem h1)
    rw [e1.1] at e2; cases e2.2
  · exact (sortG_ahead h).imp_of_mem fun ha hb hab => ⟨ne _ ((sortG_perm s gs).mem_iff.1 ha), ne _ ((sortG_perm s gs).mem_iff.1 hb), hab⟩
  · exact hs.imp_of_mem fun ha hb hab => ⟨ne _ (hp.mem_iff.1 ha), ne _ (hp.mem_iff.1 hb), hab⟩
end Go.Tok
namespace Go.Proofs.YtagdccgbcmnehaaGreat
open Go.RowKit Go.Tok Go.Sort Go.Stab
set_option linter.unusedVariables false
set_option maxHeartbeats 1000000 in
theorem SortStableRow_calls (g cap base : Nat) (S : Nat → Prop) (out : List (List Int)) (s : List (Int × Int)) (w : World) (h : OwnR rowK 24 base S w (.slice (some ⟨g, 0, none⟩) out.length cap) out) (h0 : 0 < out.length) (hl : out.length < 40) (hW : OneWay s out)
    (gf : Nat) (cb : Array Value) (eg : ∀ args w, (callFunc gf args).run Tryz.prog w = .ok (.enter gf args) w)
    (hcmp : ∀ (W : World) (u v : Value) (x y : List Int), x ∈ out → y ∈ out → Kp (fun b => b ≠ g) w W → Ints W u x → Ints W v y → Calls Tryz.prog gf (#[u, v] ++ cb) W fun e w' => e = .returned (.int .i64 (cmpG s x y)) ∧ ∃ q os', w' = grow (W.drewN q) os') :
    Calls Tryz.prog 158 #[.slice (some ⟨g, 0, none⟩) out.length cap, .func (.func gf) #[] cb] w fun e w' => e = .returned (.tuple #[]) ∧ OwnR rowK 24 base S w' (.slice (some ⟨g, 0, none⟩) out.length cap) (sortG s out) ∧ w.grownBy w' (some g) := by
  unfold OwnR at h
  obtain ⟨rows, hrows0, ⟨hsz, hrow⟩, hall⟩ := h
  have hlen : rows.length = out.length := by rw [hrows0]; simp
  rcases hrow with ⟨hv, _⟩ | ⟨g', cap', cur, hv, hb, hh, hn, hc, hs, ht⟩
  · cases hv
  rw [hlen] at hv
  cases hv
  have hf : ∀ r ∈ rows, r.2 = [r.2.headD undef] := fun r hr => by
    obtain ⟨u, hu, _⟩ := (hall r hr).now
    rw [hu]; rfl
  have hcells := cellsOf_one rows (fun r => r.2.headD undef) hf
  haveI : Inhabited (Fin out.length) := ⟨⟨0, h0⟩⟩
  have hri : ∀ i : Fin out.length, (i : Nat) < rows.length := fun i => by rw [hlen]; exact i.2
  let enc : Fin out.length → Value := fun i => (rows[(i : Nat)]'(hri i)).2.headD undef
  let d : Array (Fin out.length) := Array.ofFn id
  have hd : d.size = out.length := by simp [d]
  have hget : ∀ i : Fin out.length, (rows[(i : Nat)]'(hri i)).1 = out[i] := fun i => by
    have : out[(i : Nat)] = (rows.map (·.1))[(i : Nat)]'(by rw [List.length_map]; exact hri i) := by congr 1
    rw [List.getElem_map] at this
    exact this.symm
  have hHolds : Holds enc w g 0 d := by
    intro j hj
    have hj' : j < out.length := by omega
    refine ⟨?_, by simp [World.frozen?, hh]⟩
    have h1 : (cur.toList.take (out.length * 1))[j]? = (rows.map fun r => r.2.headD undef)[j]? := by rw [← hcells]; have := congrArg (·[j]?) ht; rw [hlen] at this; exact this
    rw [List.getElem?_take_of_lt (by omega)] at h1
    simp only [World.cell?, hh, Nat.zero_add]
    simp only [Option.isSome_none, Bool.false_eq_true, if_false]
    rw [← Array.getElem?_toList, h1]
    have hdj : d[j]! = ⟨j, hj'⟩ := by simp [d, hj']
    rw [hdj]
    simp [enc, hlen, hj']
  have hkp : ∀ (m : Nat) (os : Array Obj) (dk : Array (Fin out.length)), Kp (fun b => b ≠ g) w (sortWorld enc w g 0 m dk os) := fun m os dk => grown_kp sortWorld_grown fun b hb e => hb (by cases e; rfl)
  have hread : ∀ (i : Fin out.length) (W : World), Kp (fun b => b ≠ g) w W → Ints W (enc i) out[i] := fun i W k => by
    obtain ⟨u, hu, hi⟩ := ((hall _ (List.getElem_mem (hri i))).kp (k.mono fun b _ hb e => hb.2 (by rw [e]; rfl))).now
    show Ints W ((rows[(i : Nat)]'(hri i)).2.headD undef) _
    rw [hu, ← hget i]; exact hi
  have hX : StabX enc (fun i j => cmpG s out[i] out[j]) (ltG s fun i : Fin out.length => out[i]) gf cb g 0 d w := by
    refine ⟨eg, ?_, ⟨?_, hHolds, (Array.getElem?_eq_some_iff.1 hh).1⟩, swo_G hW, by omega, fun x y hxy => ?_⟩
    · intro m os dk hk x y
      exact hcmp _ _ _ _ _ (List.getElem_mem x.2) (List.getElem_mem y.2) (hkp m os dk) (hread x _ (hkp m os dk)) (hread y _ (hkp m os dk))
    · intro i
      obtain ⟨a, c, hv, _⟩ := (hread i w (Kp.refl _ _)).len
      rw [hv]; rfl
    · unfold ltOf ltG
      rw [cmpG_lt, decide_eq_true hxy]; simp
  have hdist : Dist d := fun i j hi hj e => by
    have hi' : i < out.length := by omega
    have hj' : j < out.length := by omega
    have e1 : d[i]! = ⟨i, hi'⟩ := by simp [d, hi']
    have e2 : d[j]! = ⟨j, hj'⟩ := by simp [d, hj']
    rw [e1, e2] at e
    exact congrArg Fin.val e
  have hcon := SortStable_calls enc _ _ gf cb g 0 cap d w hX (by omega) hdist
  rw [hd] at hcon
  refine hcon.mono ?_
  rintro _ w' ⟨rfl, d', ⟨n, os, rfl⟩, hp, hS⟩
  have hd' : d'.size = out.length := by rw [hp.1, hd]
  have hperm : d'.toList.Perm d.toList := perm_whole hp (by omega)
  have hdl : d.toList.map (fun i : Fin out.length => rows[(i : Nat)]'(hri i)) = rows := by
    apply List.ext_getElem
    · simp [d, hlen]
    · intro i h1 h2; simp [d]
  have hrows : (d'.toList.map fun i : Fin out.length => rows[(i : Nat)]'(hri i)).Perm rows := by
    have := hperm.map fun i : Fin out.length => rows[(i : Nat)]'(hri i)
    rwa [hdl] at this
  have hdd := dist_perm hp (by omega) hdist
  have hout : sortG s out = (d'.toList.map fun i : Fin out.length => rows[(i : Nat)]'(hri i)).map (·.1) := by
    refine sortG_is hW (by conv => rhs; rw [hrows0]
                           exact hrows.map _) ?_
    rw [List.map_map]
    refine List.pairwise_iff_getElem.2 fun i j hi hj hij => ?_
    have hi' : i < d'.size := by simpa using hi
    have hj' : j < d'.size := by simpa using hj
    have h1 := hS i j (Nat.zero_le _) hij (by omega)
    rw [getElem!_pos d' i hi', getElem!_pos d' j hj'] at h1
    have hne : d'[i] ≠ d'[j] := fun e => by
      have := hdd i j hi' hj' (by rw [getElem!_pos d' i hi', getElem!_pos d' j hj']; exact e)
      omega
    have key : AheadG s out[d'[i]] out[d'[j]] := by
      have hw := ways_at hW d'[i].2 d'[j].2 (fun e => hne (Fin.ext e))
      have ho := head_one (hW.ne _ (List.getElem_mem d'[j].2)) (hW.ne _ (List.getElem_mem d'[i].2)) hw.symm
      unfold ltG at h1
      rw [decide_eq_true (show d'[j] ≠ d'[i] from fun e => hne e.symm), Bool.true_and] at h1
      exact ho.2.1 h1
    simp only [List.getElem_map, Function.comp_apply, Array.getElem_toList]
    rw [hget, hget]; exact key
  refine ⟨rfl, ?_, sortWorld_grown⟩
  rw [hout]
  unfold OwnR
  refine ⟨d'.toList.map fun i : Fin out.length => rows[(i : Nat)]'(hri i), rfl, ?_, fun r hr => (hall r (hrows.mem_iff.1 hr)).kp ((hkp n os d').mono fun b _ hb e => hb.2 (by rw [e]; rfl))⟩
  have hl' : (d'.toList.map fun i : Fin out.length => rows[(i : Nat)]'(hri i)).length = out.length := by simp [hd']
  have hc' := cellsOf_one (d'.toList.map fun i : Fin out.length => rows[(i : Nat)]'(hri i)) (fun r => r.2.headD undef) (fun r hr => hf r (hrows.mem_iff.1 hr))
  rw [hl', hc']
  rw [hlen] at hn
  refine ⟨by simp [hd']; (try show out.length = out.length * 1); (try omega), .inr ⟨g, cap, _, rfl, hb, heap_put d' hh, hn, hc, by simp [putCells]; exact hs, ?_⟩⟩
  show ((putCells enc 0 d' cur).toList.take (out.length * 1)) = _
  have tk := take_put (enc := enc) cur d' (by rw [hd', hs]; show out.length ≤ cap * 1; omega)
  rw [hd'] at tk
  rw [Nat.mul_one, tk, List.map_map]
  rfl
end Go.Proofs.YtagdccgbcmnehaaGreat

namespace Go.Proofs.YtagdccgbcmnehaaGreat
open Go.RowKit Go.Tok
set_option linter.unusedVariables false
theorem flat_ones : ∀ us : List Value, (us.map fun u => [u]).flatten = us
  | [] => rfl
  | a :: r => by rw [List.map_cons, List.flatten_cons, flat_ones r]; rfl
set_option maxHeartbeats 1000000 in
set_option maxRecDepth 100000 in
theorem CloneRow_calls (v : Value) (xs : List (List Int)) (w : World) (hv : Rd rowK w v xs) (hl : xs.length ≤ 5864062014805) :
    Calls Tryz.prog 24 #[v] w fun e w' => ∃ v', e = .returned v' ∧ OwnR rowK 24 w.heap.size (fun b => b < w.heap.size) w' v' xs ∧ Gr w w' := by
  rcases hv.form with ⟨rfl, rfl⟩ | ⟨ad, cap, rfl, h1, h2⟩
  · have he := fun w n c n' c' => Lib.run_eql_slice_nil (P := Tryz.prog) w 28 24 none n c n' c' Tryz.underlying28
    go_enter Tryz.func24, Tryz.ntmps24
    go_wp2
    go_ret
    exact ⟨_, rfl, OwnR.nil _ _ _ _, Gr.refl _⟩
  · have he := fun w n c n' c' => Lib.run_eql_slice_nil (P := Tryz.prog) w 28 24 (some ad) n c n' c' Tryz.underlying28
    obtain ⟨us, l1, l3, l2⟩ := rows_at hv
    have hfl : (us.map fun u => [u]).flatten = us := flat_ones us
    have hvl : (us.map fun u => [u]).length = xs.length := by rw [List.length_map, l1]
    have hy : ∀ i, i < xs.length → On (fun b => b < w.heap.size ∧ (Value.slice (some ⟨w.heap.size, 0, none⟩) 0 0).ownBlock ≠ some b) (fun w => rowK.R w ((us.map fun u => [u]).getD i []) (ix xs i)) (w.alloc (.cells #[] 24)) := fun i hi => by
      have hu : (us.map fun u => [u]).getD i [] = [us.getD i (.slice none 0 0)] := by simp [show i < us.length by omega]
      rw [hu]
      refine ((on_old (fun _ _ k h => Ints.kp h k) (l2 i hi) ((Gr.refl w).alloc _).kp).mono fun b _ hb => ⟨hb, fun e => by have e2 : w.heap.size = b := Option.some.inj e; omega⟩).imp fun w h => ⟨_, rfl, h⟩
    have hown : OwnR rowK 24 w.heap.size (fun b => b < w.heap.size) (w.alloc (.cells #[] 24)) (.slice (some ⟨w.heap.size, 0, none⟩) 0 0) [] := OwnR.lit [] rfl rfl rfl rfl rfl (by simp) (Nat.le_refl _) (by simp)
    have HY := Lib.hid hy
    have hcell : ∀ ad' n c, Value.slice (some ad) xs.length cap = .slice (some ad') n c → ∀ j x, (us.map fun u => [u]).flatten[j]? = some x → (w.alloc (.cells #[] 24)).cell? (ad'.add j) = some x := fun ad' n c e j x hj => by
      rw [hfl] at hj
      exact cell_gr (l3 ad' n c e j x hj) ((Gr.refl w).alloc _)
    have HC := Lib.hid hcell
    clear hy l2 l3 hcell hfl
    go_enter Tryz.func24, Tryz.ntmps24
    go_wp2_with (at_builtin; refine app_many rowTy _ _ w.heap.size (fun b => b < w.heap.size) (.slice (some ⟨w.heap.size, 0, none⟩) 0 0) (.slice (some ad) xs.length cap) [] xs (us.map fun u => [u]) rfl rfl rfl rfl hown (hv.alloc _) hvl HC.out HY.out (by simp only [List.length_nil]; omega) (by simp only [List.length_nil]; unfold maxLen; omega) (by simp) ?_; intro v' w' ho hgr _ _)
    go_ret
    exact ⟨_, rfl, ho, hgr w (Nat.le_refl _) ((Gr.refl _).alloc _)⟩

end Go.Proofs.YtagdccgbcmnehaaGreat

