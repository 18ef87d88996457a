/- Blocks within blocks, how they read, and what is wrong with them, as plain functions. No program is in sight here. -/
import Derived.Test.YtjpapgbdhflgnaaPA
namespace Go.Tok
open Go.RowKit
set_option linter.unusedVariables false
inductive BlockD where
  | mk (kind label : Int) (kids : List BlockD)
namespace BlockD
def kind : BlockD → Int | mk k _ _ => k
def label : BlockD → Int | mk _ l _ => l
def kids : BlockD → List BlockD | mk _ _ ks => ks
end BlockD
instance : Inhabited BlockD := ⟨.mk 0 0 []⟩
/-- a block whose kids are of a given kind -/
def blkOver (K : Kind BlockD) : Kind BlockD :=
  ⟨3, fun w vs b => ∃ s, vs = [.int .i64 b.kind, .int .i64 b.label, s] ∧ I64 b.kind ∧ I64 b.label ∧ Rd K w s b.kids,
    fun ⟨s, h, _⟩ => by rw [h]; rfl,
    fun ⟨s, h, _, _, hs⟩ => by
      subst h
      obtain ⟨a, c, rfl, _⟩ := hs.len
      intro x hx
      rcases List.mem_cons.1 hx with rfl | hx
      · rfl
      · rcases List.mem_cons.1 hx with rfl | hx
        · rfl
        · rw [List.mem_singleton.1 hx]; rfl,
    fun k ⟨s, h, h1, h2, hs⟩ => ⟨s, h, h1, h2, hs.kp k⟩⟩
def blkNone : Kind BlockD := ⟨3, fun _ _ _ => False, fun h => h.elim, fun h => h.elim, fun _ h => h⟩
/-- blocks as elements of rows, at most n deep -/
def blkK : Nat → Kind BlockD
  | 0 => blkNone
  | n + 1 => blkOver (blkK n)
theorem blkK_size (n : Nat) : (blkK n).size = 3 := by cases n <;> rfl
/-- v reads in w as the block b, its kids at most n deep -/
def BlockR (n : Nat) (w : World) (v : Value) (b : BlockD) : Prop := ∃ s, v = .agg #[.int .i64 b.kind, .int .i64 b.label, s] ∧ I64 b.kind ∧ I64 b.label ∧ Rd (blkK n) w s b.kids
theorem BlockR.gr {n : Nat} {w w' : World} {v : Value} {b : BlockD} (h : BlockR n w v b) (g : Gr w w') : BlockR n w' v b := by
  obtain ⟨s, h1, h2, h3, h4⟩ := h
  exact ⟨s, h1, h2, h3, h4.gr g⟩
theorem BlockR.open_ {n : Nat} {w : World} {v : Value} {b : BlockD} (h : BlockR n w v b) : I64 b.kind ∧ I64 b.label ∧ ∃ a cap, v = .agg #[.int .i64 b.kind, .int .i64 b.label, .slice a b.kids.length cap] ∧ b.kids.length ≤ cap ∧ cap ≤ 9223372036854775807 ∧ Rd (blkK n) w (.slice a b.kids.length cap) b.kids := by
  obtain ⟨s, h1, h2, h3, h4⟩ := h
  obtain ⟨a, cap, rfl, h5, h6⟩ := h4.len
  exact ⟨h2, h3, a, cap, h1, h5, h6, h4⟩
theorem BlockR.mk_ {n : Nat} {w : World} {s : Value} {b : BlockD} (h1 : I64 b.kind) (h2 : I64 b.label) (h : Rd (blkK n) w s b.kids) : BlockR n w (.agg #[.int .i64 b.kind, .int .i64 b.label, s]) b := ⟨s, rfl, h1, h2, h⟩
/-- kid i -/
theorem kid_at {n : Nat} {w : World} {a : Option Addr} {l cap : Nat} {ks : List BlockD} (h : Rd (blkK n) w (.slice a l cap) ks) {i : Nat} (hi : i < ks.length) :
    ∃ m g o s, n = m + 1 ∧ a = some ⟨g, o, none⟩ ∧ w.cell? ⟨g, o + i * 3, none⟩ = some (.int .i64 (ix ks i).kind) ∧ w.cell? ⟨g, o + i * 3 + 1, none⟩ = some (.int .i64 (ix ks i).label) ∧ w.cell? ⟨g, o + i * 3 + 2, none⟩ = some s ∧ BlockR m w (.agg #[.int .i64 (ix ks i).kind, .int .i64 (ix ks i).label, s]) (ix ks i) := by
  obtain ⟨g, o, vs, ha, hr, hc⟩ := h.at_ hi
  cases n with
  | zero => exact hr.elim
  | succ m =>
    obtain ⟨s, rfl, h1, h2, h3⟩ := hr
    exact ⟨m, g, o, s, rfl, ha, hc 0 _ rfl, hc 1 _ rfl, hc 2 _ rfl, s, rfl, h1, h2, h3⟩

/-! ### what is wrong with a block -/
/-- what is wrong with the block itself -/
def formF (b : BlockD) : Int :=
  if b.kind < 1 ∨ 6 < b.kind then 5
  else if b.kind = 2 ∧ (b.label < 1 ∨ 26 < b.label) then 2
  else if b.kind < 3 ∧ 0 < b.kids.length ∨ 3 ≤ b.kind ∧ b.kids.length = 0 ∨ b.kind = 6 ∧ b.kids.length ≠ 2 then 1
  else 0
def checkL (f : BlockD → Nat → Nat × Int) : List BlockD → Nat → Nat × Int
  | [], c => (c, 0)
  | k :: ks, c => if (f k c).2 = 0 then checkL f ks (f k c).1 else f k c
/-- how many were counted, and what is wrong -/
def checkF : Nat → BlockD → Nat → Nat × Int
  | 0, _, c => (c + 1, 4)
  | n + 1, b, c => if 40 < c + 1 then (c + 1, 4) else if formF b = 0 then checkL (checkF n) b.kids (c + 1) else (c + 1, formF b)
/-- the block is right, at most n deep -/
def OkB : Nat → BlockD → Prop
  | 0, _ => False
  | n + 1, b => 1 ≤ b.kind ∧ b.kind ≤ 6 ∧ (b.kind = 2 → 1 ≤ b.label ∧ b.label ≤ 26) ∧ (b.kind < 3 → b.kids = []) ∧ (3 ≤ b.kind → b.kids ≠ []) ∧ (b.kind = 6 → b.kids.length = 2) ∧ ∀ k ∈ b.kids, OkB n k
theorem form_ok {b : BlockD} (h : formF b = 0) : 1 ≤ b.kind ∧ b.kind ≤ 6 ∧ (b.kind = 2 → 1 ≤ b.label ∧ b.label ≤ 26) ∧ (b.kind < 3 → b.kids = []) ∧ (3 ≤ b.kind → b.kids ≠ []) ∧ (b.kind = 6 → b.kids.length = 2) := by
  unfold formF at h
  split at h
  · cases h
  · split at h
    · cases h
    · split at h
      · cases h
      · rename_i h1 h2 h3
        refine ⟨by omega, by omega, fun e => by omega, fun e => List.eq_nil_of_length_eq_zero (by omega), fun e e' => ?_, fun e => by omega⟩
        rw [e'] at h3; simp at h3; omega
theorem checkL_ok {f : BlockD → Nat → Nat × Int} : ∀ {ks : List BlockD} {c c' : Nat}, checkL f ks c = (c', 0) → ∀ k ∈ ks, ∃ d d', f k d = (d', 0) := by
  intro ks
  induction ks with
  | nil => intro c c' _ k hk; cases hk
  | cons a r ih =>
    intro c c' h k hk
    unfold checkL at h
    split at h
    · rename_i h0
      rcases List.mem_cons.1 hk with rfl | hk
      · exact ⟨c, (f k c).1, by rw [← h0]⟩
      · exact ih h k hk
    · rename_i h0
      rw [h] at h0; exact absurd rfl h0
theorem check_ok {w : World} : ∀ {n : Nat} {v : Value} {b : BlockD} {c c' : Nat}, BlockR n w v b → checkF (n + 1) b c = (c', 0) → OkB (n + 1) b := by
  intro n
  induction n with
  | zero =>
    intro v b c c' hr h
    obtain ⟨_, _, a, cap, _, _, _, hk⟩ := hr.open_
    have hnil : b.kids = [] := by
      cases hb : b.kids with
      | nil => rfl
      | cons x r =>
        obtain ⟨m, _, _, _, hm, _⟩ := kid_at hk (i := 0) (by rw [hb]; simp)
        cases hm
    unfold checkF at h
    split at h
    · cases h
    · split at h
      · rename_i h0
        obtain ⟨h1, h2, h3, h4, h5, h6⟩ := form_ok h0
        exact ⟨h1, h2, h3, h4, h5, h6, fun k hk => by rw [hnil] at hk; cases hk⟩
      · rename_i h0
        exact absurd (by have := congrArg Prod.snd h; exact this) h0
  | succ n ih =>
    intro v b c c' hr h
    unfold checkF at h
    split at h
    · cases h
    · split at h
      · rename_i h0
        obtain ⟨h1, h2, h3, h4, h5, h6⟩ := form_ok h0
        refine ⟨h1, h2, h3, h4, h5, h6, fun k hk => ?_⟩
        obtain ⟨d, d', hd⟩ := checkL_ok h k hk
        obtain ⟨_, _, a, cap, _, _, _, hks⟩ := hr.open_
        obtain ⟨i, hi, rfl⟩ := List.getElem_of_mem hk
        obtain ⟨m, g, o, s, hm, _, _, _, _, hb⟩ := kid_at hks hi
        cases hm
        rw [ix_lt hi] at hb
        exact ih hb hd
      · rename_i h0
        exact absurd (by have := congrArg Prod.snd h; exact this) h0
/-- blocks.Wrong -/
def wrongB (n : Nat) (b : BlockD) : Int := (checkF n b 0).2
theorem wrongB_ok {w : World} {n : Nat} {v : Value} {b : BlockD} (hr : BlockR n w v b) (h : wrongB (n + 1) b = 0) : OkB (n + 1) b := by
  refine check_ok (c := 0) (c' := (checkF (n + 1) b 0).1) hr ?_
  unfold wrongB at h
  rw [← h]
theorem OkB.more {n : Nat} : ∀ {m : Nat} {b : BlockD}, OkB n b → n ≤ m → OkB m b := by
  induction n with
  | zero => intro m b h; exact h.elim
  | succ n ih =>
    intro m b h hm
    obtain ⟨m, rfl⟩ : ∃ k, m = k + 1 := ⟨m - 1, by omega⟩
    obtain ⟨h1, h2, h3, h4, h5, h6, h7⟩ := h
    exact ⟨h1, h2, h3, h4, h5, h6, fun k hk => ih (h7 k hk) (by omega)⟩
end Go.Tok
