/- Contract of the law's own look at whether a block is plain. -/
import Derived.Test.YtjpapgbdhflgnaaBlkFn
import Derived.Test.YtjpapgbdhflgnaaRedBlock
namespace Go.Tok
set_option linter.unusedVariables false
def plainF : Nat → BlockD → Bool
  | 0, _ => false
  | n + 1, b => decide (b.kind < 5) && !(b.kids.any fun k => !plainF n k)
theorem plain_no {n : Nat} {b : BlockD} (h : ¬ b.kind < 5) : plainF (n + 1) b = false := by simp [plainF, h]
theorem plain_yes {n : Nat} {b : BlockD} (h : b.kind < 5) : plainF (n + 1) b = !(b.kids.any fun k => !plainF n k) := by simp [plainF, h]
theorem plainB_of : ∀ {n : Nat} {b : BlockD}, plainF n b = true → PlainB n b
  | 0, _, h => by simp [plainF] at h
  | n + 1, b, h => by
    unfold plainF at h
    simp only [Bool.and_eq_true, decide_eq_true_eq, Bool.not_eq_true', List.any_eq_false] at h
    exact ⟨h.1, fun k hk => plainB_of (by have := h.2 k hk; simpa using this)⟩
end Go.Tok
namespace Go.Proofs.Ytjpapgbdhflgnaa
open Go.RowKit Go.Tok
set_option linter.unusedVariables false
set_option maxHeartbeats 1000000 in
set_option maxRecDepth 100000 in
theorem plain_calls : ∀ (n : Nat) (v : Value) (b : BlockD) (w : World), BlockR n w v b → Calls Try.prog 8 #[v] w fun e w' => e = .returned (.bool (plainF (n + 1) b)) ∧ Gr w w' := by
  intro n
  induction n with
  | zero =>
    intro v b w h
    obtain ⟨_, _, a, cap, rfl, _, _, hK⟩ := h.open_
    have b0 : Blk (w.alloc (.cells #[.int .i64 b.kind, .int .i64 b.label, .slice a b.kids.length cap] 24)) w.heap.size 24 #[.int .i64 b.kind, .int .i64 b.label, .slice a b.kids.length cap] := Blk.new rfl
    have GA : Gr w (w.alloc (.cells #[.int .i64 b.kind, .int .i64 b.label, .slice a b.kids.length cap] 24)) := (Gr.refl _).alloc _
    have c0 := b0.cell (i := 0) (v := .int .i64 b.kind) rfl
    have c2 := b0.cell (i := 2) (v := .slice a b.kids.length cap) rfl
    by_cases h1 : b.kind < 5
    · have HE := Lib.hid (plain_yes (n := 0) h1)
      have HC := Lib.hid (ContainsFuncB_calls _ 0 _ 20 #[] (fun k => !plainF 0 k) _ (Go.Proofs.enters_of Try.func20 (by kernel_rfl) rfl) (hK.gr GA) fun W v x m _ hm _ _ => by omega)
      clear b0 h hK
      go_enter Try.func8, Try.ntmps8
      go_wp2_with fail
      refine HC.out.mono ?_
      rintro _ w1 ⟨rfl, g1⟩
      go_wp2_with fail
      go_ret
      exact ⟨by rw [HE.out]; rfl, GA.trans g1⟩
    · have HE := Lib.hid (plain_no (n := 0) h1)
      clear b0 h hK
      go_enter Try.func8, Try.ntmps8
      go_wp2_with fail
      go_ret
      exact ⟨by rw [HE.out]; rfl, GA⟩
  | succ n ih =>
    intro v b w h
    obtain ⟨_, _, a, cap, rfl, _, _, hK⟩ := h.open_
    have b0 : Blk (w.alloc (.cells #[.int .i64 b.kind, .int .i64 b.label, .slice a b.kids.length cap] 24)) w.heap.size 24 #[.int .i64 b.kind, .int .i64 b.label, .slice a b.kids.length cap] := Blk.new rfl
    have GA : Gr w (w.alloc (.cells #[.int .i64 b.kind, .int .i64 b.label, .slice a b.kids.length cap] 24)) := (Gr.refl _).alloc _
    have c0 := b0.cell (i := 0) (v := .int .i64 b.kind) rfl
    have c2 := b0.cell (i := 2) (v := .slice a b.kids.length cap) rfl
    by_cases h1 : b.kind < 5
    · have HE := Lib.hid (plain_yes (n := n + 1) h1)
      have HA : AnswersB Try.prog 20 #[] (n + 1) b.kids (fun k => !plainF (n + 1) k) (w.alloc (.cells #[.int .i64 b.kind, .int .i64 b.label, .slice a b.kids.length cap] 24)) := fun W v x m _ hm gW hx => by
        obtain rfl : m = n := by omega
        have HX := Lib.hid (fun W' (g : Gr W W') => ih _ x W' (hx.gr g))
        obtain ⟨_, _, xa, xc, rfl, _, _, _⟩ := hx.open_
        have d0 : Blk (W.alloc (.cells #[.int .i64 x.kind, .int .i64 x.label, .slice xa x.kids.length xc] 24)) W.heap.size 24 #[.int .i64 x.kind, .int .i64 x.label, .slice xa x.kids.length xc] := Blk.new rfl
        have GX : Gr W (W.alloc (.cells #[.int .i64 x.kind, .int .i64 x.label, .slice xa x.kids.length xc] 24)) := (Gr.refl _).alloc _
        have e0 := d0.cell (i := 0) (v := .int .i64 x.kind) rfl
        have e1 := d0.cell (i := 1) (v := .int .i64 x.label) rfl
        have e2 := d0.cell (i := 2) (v := .slice xa x.kids.length xc) rfl
        clear d0 hx ih gW hm h1 c0 c2
        show Calls Try.prog 20 #[_] W _
        go_enter Try.func20, Try.ntmps20
        go_wp2_with fail
        refine (HX.out _ GX).mono ?_
        rintro _ w1 ⟨rfl, g1⟩
        go_wp2_with fail
        go_ret
        exact ⟨rfl, GX.trans g1⟩
      have HC := Lib.hid (ContainsFuncB_calls _ (n + 1) _ 20 #[] (fun k => !plainF (n + 1) k) _ (Go.Proofs.enters_of Try.func20 (by kernel_rfl) rfl) (hK.gr GA) HA)
      clear b0 h hK ih HA
      go_enter Try.func8, Try.ntmps8
      go_wp2_with fail
      refine HC.out.mono ?_
      rintro _ w1 ⟨rfl, g1⟩
      go_wp2_with fail
      go_ret
      exact ⟨by rw [HE.out]; rfl, GA.trans g1⟩
    · have HE := Lib.hid (plain_no (n := n + 1) h1)
      clear b0 h hK ih
      go_enter Try.func8, Try.ntmps8
      go_wp2_with fail
      go_ret
      exact ⟨by rw [HE.out]; rfl, GA⟩
end Go.Proofs.Ytjpapgbdhflgnaa
