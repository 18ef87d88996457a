/- The contract of tokenhallkeep.acked: the operations that were done and told so (ackTo). -/
import Derived.Test.YtidpppfimkhgkaaHall1
import Derived.Test.YtidpppfimkhgkaaTwoApp
namespace Go.Proofs.Ytidpppfimkhgkaa
open Go.RowKit Go.Tok
set_option linter.unusedVariables false
theorem ackTo_yes {ops : List HopD} {l : List AnsD} {k : Nat} (h1 : k < l.length) (h2 : (ix ops k).kind = 1) (h3 : (ix l k).err = 0) : ackTo ops l (k + 1) = ackTo ops l k ++ [(ix ops k).op] := by rw [ackTo, if_pos ⟨h1, h2, h3⟩]
theorem ackTo_no {ops : List HopD} {l : List AnsD} {k : Nat} (h : ¬ (k < l.length ∧ (ix ops k).kind = 1 ∧ (ix l k).err = 0)) : ackTo ops l (k + 1) = ackTo ops l k := by rw [ackTo, if_neg h]
set_option maxHeartbeats 2000000 in
theorem acked_calls (v u : Value) (ops : List HopD) (l : List AnsD) (w : World) (hv : Rd hopK w v ops) (hu : Rd ansK w u l) (hl : ops.length ≤ 2513169434916) :
    Calls Try.prog 41 #[v, u] w fun e w' => ∃ v', e = .returned v' ∧ OwnR opK 59 w.heap.size NoB w' v' (ackTo ops l ops.length) ∧ Gr w w' := by
  obtain ⟨a, cap, rfl, hlc, hcap⟩ := hv.len
  obtain ⟨la, lc, rfl, hll, hll'⟩ := hu.len
  go_enter Try.func41, Try.ntmps41
  go_wp2_with fail
  go_loopw [5, 10] (fun out q wr => ∃ k : Nat, k ≤ ops.length ∧ q = .int .i64 k ∧ OwnR opK 59 w.heap.size NoB wr out (ackTo ops l k) ∧ Gr w wr) (fun _ q _ => ops.length - (intOf q).toNat)
  case atStart => exact ⟨0, Nat.zero_le _, rfl, OwnR.nil _ _ _ _, Gr.refl _⟩
  case round =>
    rename World => wr
    obtain ⟨k, hk, rfl, ho, hgr⟩ := hrel
    by_cases hlt : k < ops.length
    · obtain ⟨b, o, rfl, c0, c1, c2, c3, c4, c5, c6, hI⟩ := (hv.gr hgr).hop hlt
      obtain ⟨kk, hkk⟩ : ∃ kk, kk = (ix ops k).kind := ⟨_, rfl⟩
      rw [← hkk] at c0
      have HKK := Lib.hid hkk
      clear hkk
      have bO : Blk (wr.alloc (.cells #[.int .i64 kk, .int .i64 (ix ops k).keep, .int .i64 (ix ops k).op.kind, .int .i64 (ix ops k).op.user, .int .i64 (ix ops k).op.tran, .int .i64 (ix ops k).op.item, .int .i64 (ix ops k).op.to] 61)) wr.heap.size 61 #[.int .i64 kk, .int .i64 (ix ops k).keep, .int .i64 (ix ops k).op.kind, .int .i64 (ix ops k).op.user, .int .i64 (ix ops k).op.tran, .int .i64 (ix ops k).op.item, .int .i64 (ix ops k).op.to] := Blk.new rfl
      have O0 := bO.cell (i := 0) (v := .int .i64 kk) rfl
      have O2 := bO.cell (i := 2) (v := .int .i64 (ix ops k).op.kind) rfl
      have O3 := bO.cell (i := 3) (v := .int .i64 (ix ops k).op.user) rfl
      have O4 := bO.cell (i := 4) (v := .int .i64 (ix ops k).op.tran) rfl
      have O5 := bO.cell (i := 5) (v := .int .i64 (ix ops k).op.item) rfl
      have O6 := bO.cell (i := 6) (v := .int .i64 (ix ops k).op.to) rfl
      have hkI : (k : Int) < (ops.length : Int) := by omega
      have hk0 : (0 : Int) ≤ (k : Int) := by omega
      have hal := ackTo_len ops l k
      clear bO
      by_cases h1 : k < l.length
      · have h1I : (k : Int) < (l.length : Int) := by omega
        obtain ⟨b', o', rfl, d0, d1, hJ⟩ := (hu.gr (hgr.alloc (.cells #[.int .i64 kk, .int .i64 (ix ops k).keep, .int .i64 (ix ops k).op.kind, .int .i64 (ix ops k).op.user, .int .i64 (ix ops k).op.tran, .int .i64 (ix ops k).op.item, .int .i64 (ix ops k).op.to] 61))).ans h1
        by_cases h2 : kk = 1
        · subst h2
          by_cases h3 : (ix l k).err = 0
          · have q3 : ((ix l k).err == 0) = true := by simpa using h3
            have HY := Lib.hid (ackTo_yes h1 HKK.out.symm h3)
            have hn1 : ((ackTo ops l k).length + 1) * 40 ≤ 140737488355328 := by omega
            have hn2 : (ackTo ops l k).length + 1 ≤ maxLen := by unfold maxLen; omega
            have hoL := (ho.alloc (.cells #[.int .i64 1, .int .i64 (ix ops k).keep, .int .i64 (ix ops k).op.kind, .int .i64 (ix ops k).op.user, .int .i64 (ix ops k).op.tran, .int .i64 (ix ops k).op.item, .int .i64 (ix ops k).op.to] 61)).alloc (.cells #[.int .i64 (ix ops k).op.kind, .int .i64 (ix ops k).op.user, .int .i64 (ix ops k).op.tran, .int .i64 (ix ops k).op.item, .int .i64 (ix ops k).op.to] 59)
            have GL : Gr w ((wr.alloc (.cells #[.int .i64 1, .int .i64 (ix ops k).keep, .int .i64 (ix ops k).op.kind, .int .i64 (ix ops k).op.user, .int .i64 (ix ops k).op.tran, .int .i64 (ix ops k).op.item, .int .i64 (ix ops k).op.to] 61)).alloc (.cells #[.int .i64 (ix ops k).op.kind, .int .i64 (ix ops k).op.user, .int .i64 (ix ops k).op.tran, .int .i64 (ix ops k).op.item, .int .i64 (ix ops k).op.to] 59)) := (hgr.alloc _).alloc _
            clear h1 h3
            go_wp2_with (at_builtin; go_loud (refine app_one opTy _ _ w.heap.size NoB _ (ackTo ops l k) ⟨wr.heap.size + 1, 0, none⟩ (ix ops k).op [.int .i64 (ix ops k).op.kind, .int .i64 (ix ops k).op.user, .int .i64 (ix ops k).op.tran, .int .i64 (ix ops k).op.item, .int .i64 (ix ops k).op.to] (by rfl) (by rfl) (by rfl) (by rfl) hoL (lit_cellsH (by simp)) (On.true (p := [Value.int .i64 (ix ops k).op.kind, .int .i64 (ix ops k).op.user, .int .i64 (ix ops k).op.tran, .int .i64 (ix ops k).op.item, .int .i64 (ix ops k).op.to] = opCells (ix ops k).op ∧ opI (ix ops k).op) ⟨rfl, hI.2.2⟩) hn1 hn2 GL.le ?_; intro v' w' ho' hgs hgb hat))
            go_roundw
            case rel => exact ⟨k + 1, by omega, by go_num, by rw [HY.out]; exact ho', hgs w (Nat.le_refl _) GL⟩
            case measure => simp [intOf]; omega
          · have q3 : ((ix l k).err == 0) = false := by simpa using h3
            have HN := Lib.hid (ackTo_no (ops := ops) (l := l) (k := k) (fun h => h3 h.2.2))
            go_wp2_with fail
            go_roundw
            case rel => exact ⟨k + 1, by omega, by go_num, by rw [HN.out]; exact ho.alloc _, hgr.alloc _⟩
            case measure => simp [intOf]; omega
        · have q2 : (kk == 1) = false := by simpa using h2
          have HN := Lib.hid (ackTo_no (ops := ops) (l := l) (k := k) (fun h => h2 (HKK.out.trans h.2.1)))
          go_wp2_with fail
          go_roundw
          case rel => exact ⟨k + 1, by omega, by go_num, by rw [HN.out]; exact ho.alloc _, hgr.alloc _⟩
          case measure => simp [intOf]; omega
      · have h1I : ¬ (k : Int) < (l.length : Int) := by omega
        have HN := Lib.hid (ackTo_no (ops := ops) (l := l) (k := k) (fun h => h1 h.1))
        go_wp2_with fail
        go_roundw
        case rel => exact ⟨k + 1, by omega, by go_num, by rw [HN.out]; exact ho.alloc _, hgr.alloc _⟩
        case measure => simp [intOf]; omega
    · obtain rfl : k = ops.length := by omega
      go_wp2_with fail
      go_ret
      exact ⟨_, rfl, ho, hgr⟩
end Go.Proofs.Ytidpppfimkhgkaa
