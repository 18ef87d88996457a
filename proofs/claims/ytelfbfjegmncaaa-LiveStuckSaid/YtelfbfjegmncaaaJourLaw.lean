/- The journal as plain data: bytes, operations, what is written and read; the laws of it. No program is in sight here. -/
import Derived.Test.YtelfbfjegmncaaaGen
namespace Go.Tok
open Go.RowKit
set_option linter.unusedVariables false

structure OpD where
  kind : Int
  user : Int
  tran : Int
  item : Int
  to : Int
deriving DecidableEq
instance : Inhabited OpD := ⟨⟨0, 0, 0, 0, 0⟩⟩
def opCells (o : OpD) : List Value := [.int .i64 o.kind, .int .i64 o.user, .int .i64 o.tran, .int .i64 o.item, .int .i64 o.to]
def opI (o : OpD) : Prop := I64 o.kind ∧ I64 o.user ∧ I64 o.tran ∧ I64 o.item ∧ I64 o.to
def opK : Kind OpD := flat 5 opCells opI (fun _ => rfl) (fun o u hu => by
  simp only [opCells, List.mem_cons, List.not_mem_nil, or_false] at hu
  rcases hu with rfl | rfl | rfl | rfl | rfl <;> rfl)
def byteK : Kind Nat := flat 1 (fun n => [.int .u8 (n : Int)]) (fun n => n < 256) (fun _ => rfl) (fun n u hu => by
  rw [List.mem_singleton.1 hu]; rfl)

theorem Rd.byte {w : World} {a : Option Addr} {n cap : Nat} {xs : List Nat} (h : Rd byteK w (.slice a n cap) xs) {i : Nat} (hi : i < xs.length) :
    ∃ b o, a = some ⟨b, o, none⟩ ∧ w.cell? ⟨b, o + i, none⟩ = some (.int .u8 ((ix xs i : Nat) : Int)) ∧ ix xs i < 256 := by
  obtain ⟨b, o, vs, ha, ⟨rfl, hr⟩, hc⟩ := h.at_ hi
  refine ⟨b, o, ha, ?_, hr⟩
  have := hc 0 _ rfl
  rwa [show o + i * byteK.size + 0 = o + i by show o + i * 1 + 0 = _; omega] at this
theorem Rd.op {w : World} {a : Option Addr} {n cap : Nat} {xs : List OpD} (h : Rd opK w (.slice a n cap) xs) {i : Nat} (hi : i < xs.length) :
    ∃ b o, a = some ⟨b, o, none⟩ ∧ w.cell? ⟨b, o + i * 5, none⟩ = some (.int .i64 (ix xs i).kind) ∧ w.cell? ⟨b, o + i * 5 + 1, none⟩ = some (.int .i64 (ix xs i).user) ∧ w.cell? ⟨b, o + i * 5 + 2, none⟩ = some (.int .i64 (ix xs i).tran) ∧
      w.cell? ⟨b, o + i * 5 + 3, none⟩ = some (.int .i64 (ix xs i).item) ∧ w.cell? ⟨b, o + i * 5 + 4, none⟩ = some (.int .i64 (ix xs i).to) ∧ opI (ix xs i) := by
  obtain ⟨b, o, vs, ha, ⟨rfl, hr⟩, hc⟩ := h.at_ hi
  exact ⟨b, o, ha, hc 0 _ rfl, hc 1 _ rfl, hc 2 _ rfl, hc 3 _ rfl, hc 4 _ rfl, hr⟩
theorem Rd.bytes {w : World} {v : Value} {xs : List Nat} (h : Rd byteK w v xs) : ∀ x ∈ xs, x < 256 := by
  intro x hx
  obtain ⟨a, cap, rfl, _⟩ := h.len
  obtain ⟨i, hi, rfl⟩ := List.getElem_of_mem hx
  obtain ⟨_, _, _, _, h⟩ := h.byte hi
  rwa [ix_lt hi] at h
theorem on_byte {S : Nat → Prop} {w : World} {x : Nat} (hx : x < 256) : On S (fun w => byteK.R w [.int .u8 (x : Int)] x) w := On.true (p := ([.int .u8 (x : Int)] : List Value) = [.int .u8 (x : Int)] ∧ x < 256) ⟨rfl, hx⟩
theorem on_op {S : Nat → Prop} {w : World} {o : OpD} (h : opI o) : On S (fun w => opK.R w (opCells o) o) w := On.true (p := opCells o = opCells o ∧ opI o) ⟨rfl, h⟩
theorem own_bytes {w : World} {H n m base e : Nat} {S : Nat → Prop} {xs : List Nat} {cs : Array Value} (hH : w.heap.size = H) (hn : n = xs.length) (hm : m = xs.length) (hcs : cs.toList = xs.map fun (x : Nat) => Value.int .u8 (x : Int)) (hI : ∀ x ∈ xs, x < 256) (hl : xs.length ≤ 1000) (hb : base ≤ w.heap.size) :
    OwnR byteK e base S (w.alloc (.cells cs e)) (.slice (some ⟨H, 0, none⟩) n m) xs := by
  refine OwnR.lit (xs.map fun (x : Nat) => (x, [Value.int .u8 (x : Int)])) (by rw [List.map_map]; exact (List.map_id _).symm) hH hn hm ?_ hl hb ?_
  · rw [hcs]
    clear hcs hI hl hn hm
    induction xs with
    | nil => rfl
    | cons x r ih => simp only [cellsOf, List.map_cons, List.flatMap_cons, List.cons_append, List.nil_append] at ih ⊢; rw [ih]
  · intro r hr
    obtain ⟨x, hx, rfl⟩ := List.mem_map.1 hr
    exact on_byte (hI x hx)
/-! ### sums -/
def rotN (c k : Nat) : Nat := (c * 2 ^ k) % 256 ||| c / 2 ^ (8 - k)
theorem rotN_def (c k : Nat) : rotN c k = ((c * 2 ^ k) % 256 ||| c / 2 ^ (8 - k)) := rfl
def unrot (x k : Nat) : Nat := x / 2 ^ k ||| (x * 2 ^ (8 - k)) % 256
theorem unrot_rot : ∀ k, k < 8 → ∀ c, c < 256 → unrot (rotN c k) k = c ∧ rotN c k < 256 := by decide +kernel
theorem rot_inj {k c d : Nat} (hk : k < 8) (hc : c < 256) (hd : d < 256) (h : rotN c k = rotN d k) : c = d := by
  have h1 := (unrot_rot k hk c hc).1
  have h2 := (unrot_rot k hk d hd).1
  rw [h] at h1; omega
theorem rot_lt {k c : Nat} (hk : k < 8) (hc : c < 256) : rotN c k < 256 := (unrot_rot k hk c hc).2
def sumTo8 (b : List Nat) : Nat → Nat
  | 0 => 90
  | k + 1 => sumTo8 b k ^^^ rotN (ix b k) k
theorem sumTo8_zero (b : List Nat) : sumTo8 b 0 = 90 := rfl
theorem sumTo8_succ (b : List Nat) (k : Nat) : sumTo8 b (k + 1) = sumTo8 b k ^^^ rotN (ix b k) k := rfl
def Bytes (b : List Nat) : Prop := ∀ x ∈ b, x < 256
theorem bytes_mk {b : List Nat} (h : ∀ x ∈ b, x < 256) : Bytes b := h
theorem Bytes.mem {b : List Nat} (h : Bytes b) : ∀ x ∈ b, x < 256 := h
theorem Bytes.ix {b : List Nat} (h : Bytes b) (i : Nat) : Go.Tok.ix b i < 256 := by
  by_cases hi : i < b.length
  · exact h _ (ix_mem hi)
  · rw [ix_ge (by omega)]; decide
theorem sumTo8_lt {b : List Nat} (h : Bytes b) : ∀ k, k ≤ 8 → sumTo8 b k < 256 := by
  intro k
  induction k with
  | zero => intro _; rw [sumTo8_zero]; omega
  | succ k ih =>
    intro hk
    rw [sumTo8_succ]
    exact Nat.xor_lt_two_pow (n := 8) (ih (by omega)) (rot_lt (by omega) (h.ix k))
def sumN (b : List Nat) : Nat := sumTo8 b b.length
theorem sumN_def (b : List Nat) : sumN b = sumTo8 b b.length := rfl
theorem sumTo8_congr {a b : List Nat} : ∀ k, (∀ i, i < k → ix a i = ix b i) → sumTo8 a k = sumTo8 b k := by
  intro k
  induction k with
  | zero => intro _; rfl
  | succ k ih =>
    intro h
    rw [sumTo8_succ, sumTo8_succ, ih (fun i hi => h i (by omega)), h k (by omega)]
theorem ix_set {α : Type} [Inhabited α] (xs : List α) (i j : Nat) (x : α) (h : j < xs.length) : ix (xs.set i x) j = if i = j then x else ix xs j := by
  rw [ix_lt (by simpa using h), List.getElem_set, ix_lt h]
theorem sumTo8_set {b : List Nat} {i c : Nat} (hi : i < b.length) : ∀ k, k ≤ b.length → sumTo8 (b.set i c) k = if i < k then sumTo8 b k ^^^ (rotN (ix b i) i ^^^ rotN c i) else sumTo8 b k := by
  intro k
  induction k with
  | zero => intro _; simp [sumTo8_zero]
  | succ k ih =>
    intro hk
    rw [sumTo8_succ, sumTo8_succ, ih (by omega), ix_set _ _ _ _ (by omega)]
    by_cases h1 : i = k
    · subst h1
      rw [if_neg (Nat.lt_irrefl i), if_pos rfl, if_pos (Nat.lt_succ_self i)]
      rw [Nat.xor_assoc, ← Nat.xor_assoc (rotN (ix b i) i), Nat.xor_self, Nat.zero_xor]
    · rw [if_neg h1]
      by_cases h2 : i < k
      · rw [if_pos h2, if_pos (by omega), Nat.xor_assoc, Nat.xor_comm (rotN (ix b i) i ^^^ rotN c i), ← Nat.xor_assoc]
      · rw [if_neg h2, if_neg (by omega)]
theorem sum_spoilt {b : List Nat} {i c : Nat} (hb : Bytes b) (hl : b.length ≤ 8) (hi : i < b.length) (hc : c < 256) (hne : ix b i ≠ c) : sumN (b.set i c) ≠ sumN b := by
  rw [sumN_def, sumN_def, List.length_set, sumTo8_set hi _ (Nat.le_refl _), if_pos hi]
  intro h
  have h1 : rotN (ix b i) i ^^^ rotN c i = 0 := by
    have : sumTo8 b b.length ^^^ (sumTo8 b b.length ^^^ (rotN (ix b i) i ^^^ rotN c i)) = sumTo8 b b.length ^^^ sumTo8 b b.length := by rw [h]
    rwa [← Nat.xor_assoc, Nat.xor_self, Nat.zero_xor] at this
  have h2 : rotN (ix b i) i = rotN c i := by
    have : (rotN (ix b i) i ^^^ rotN c i) ^^^ rotN c i = 0 ^^^ rotN c i := by rw [h1]
    rwa [Nat.xor_assoc, Nat.xor_self, Nat.xor_zero, Nat.zero_xor] at this
  exact hne (rot_inj (by omega) (hb.ix i) hc h2)

/-! ### one operation -/
def opOkB (o : OpD) : Bool := decide (0 ≤ o.kind) && decide (o.kind ≤ 255) && (decide (0 ≤ o.user) && decide (o.user ≤ 255)) && (decide (0 ≤ o.tran) && decide (o.tran ≤ 255)) && (decide (0 ≤ o.to) && decide (o.to ≤ 255)) && decide (0 ≤ o.item) && decide (o.item ≤ 65535)
theorem opOkB_iff (o : OpD) : opOkB o = true ↔ (0 ≤ o.kind ∧ o.kind ≤ 255) ∧ (0 ≤ o.user ∧ o.user ≤ 255) ∧ (0 ≤ o.tran ∧ o.tran ≤ 255) ∧ (0 ≤ o.to ∧ o.to ≤ 255) ∧ 0 ≤ o.item ∧ o.item ≤ 65535 := by
  unfold opOkB
  simp only [Bool.and_eq_true, decide_eq_true_eq]
  constructor
  · intro h; omega
  · intro h; omega
def smallB (n : Int) : Bool := decide (0 ≤ n) && decide (n ≤ 255)
theorem smallB_def (n : Int) : smallB n = (decide (0 ≤ n) && decide (n ≤ 255)) := rfl
theorem op_cases (o : OpD) : (opOkB o = true ∧ smallB o.kind = true ∧ smallB o.user = true ∧ smallB o.tran = true ∧ smallB o.to = true ∧ 0 ≤ o.item ∧ o.item ≤ 65535) ∨
    (opOkB o = false ∧ (smallB o.kind = false ∨ (smallB o.kind = true ∧ smallB o.user = false) ∨ (smallB o.kind = true ∧ smallB o.user = true ∧ smallB o.tran = false) ∨ (smallB o.kind = true ∧ smallB o.user = true ∧ smallB o.tran = true ∧ smallB o.to = false) ∨
      (smallB o.kind = true ∧ smallB o.user = true ∧ smallB o.tran = true ∧ smallB o.to = true ∧ o.item < 0) ∨ (smallB o.kind = true ∧ smallB o.user = true ∧ smallB o.tran = true ∧ smallB o.to = true ∧ 0 ≤ o.item ∧ 65535 < o.item))) := by
  have hd : opOkB o = (smallB o.kind && smallB o.user && smallB o.tran && smallB o.to && decide (0 ≤ o.item) && decide (o.item ≤ 65535)) := rfl
  cases h1 : smallB o.kind
  · exact .inr ⟨by simp [hd, h1], .inl rfl⟩
  cases h2 : smallB o.user
  · exact .inr ⟨by simp [hd, h2], .inr (.inl ⟨rfl, rfl⟩)⟩
  cases h3 : smallB o.tran
  · exact .inr ⟨by simp [hd, h3], .inr (.inr (.inl ⟨rfl, rfl, rfl⟩))⟩
  cases h4 : smallB o.to
  · exact .inr ⟨by simp [hd, h4], .inr (.inr (.inr (.inl ⟨rfl, rfl, rfl, rfl⟩)))⟩
  by_cases h5 : 0 ≤ o.item
  · by_cases h6 : o.item ≤ 65535
    · exact .inl ⟨by simp [hd, h1, h2, h3, h4, h5, h6], rfl, rfl, rfl, rfl, h5, h6⟩
    · exact .inr ⟨by simp [hd, h6], .inr (.inr (.inr (.inr (.inr ⟨rfl, rfl, rfl, rfl, h5, by omega⟩))))⟩
  · exact .inr ⟨by simp [hd, h5], .inr (.inr (.inr (.inr (.inl ⟨rfl, rfl, rfl, rfl, by omega⟩))))⟩
def six (o : OpD) : List Nat := [o.kind.toNat, o.user.toNat, o.tran.toNat, o.to.toNat, o.item.toNat / 256, o.item.toNat % 256]
def seven (o : OpD) : List Nat := six o ++ [sumN (six o)]
theorem six_len (o : OpD) : (six o).length = 6 := rfl
theorem seven_len (o : OpD) : (seven o).length = 7 := rfl
theorem six_bytes {o : OpD} (h : opOkB o = true) : Bytes (six o) := by
  have := (opOkB_iff o).1 h
  intro x hx
  simp only [six, List.mem_cons, List.not_mem_nil, or_false] at hx
  rcases hx with rfl | rfl | rfl | rfl | rfl | rfl <;> omega
theorem seven_bytes {o : OpD} (h : opOkB o = true) : Bytes (seven o) := by
  intro x hx
  unfold seven at hx
  rcases List.mem_append.1 hx with h1 | h1
  · exact six_bytes h x h1
  · rw [List.mem_singleton.1 h1, sumN_def, six_len]; exact sumTo8_lt (six_bytes h) 6 (by omega)
/-- the operation that seven bytes hold -/
def opOf (g : List Nat) : OpD := ⟨(ix g 0 : Nat), (ix g 1 : Nat), (ix g 2 : Nat), ((ix g 4 * 256 + ix g 5 : Nat) : Int), (ix g 3 : Nat)⟩
theorem seven_six (o : OpD) : ix (seven o) 6 = sumN (six o) := by simp [seven, six, ix_succ, ix_zero]
def goodB (g : List Nat) : Bool := sumN (g.take 6) == ix g 6
theorem goodB_def (g : List Nat) : goodB g = (sumN (g.take 6) == ix g 6) := rfl
theorem good_seven (o : OpD) : goodB (seven o) = true := by
  unfold goodB
  rw [show (seven o).take 6 = six o from rfl]
  rw [seven_six]; exact beq_iff_eq.2 rfl
theorem opOf_seven {o : OpD} (h : opOkB o = true) : opOf (seven o) = o := by
  have := (opOkB_iff o).1 h
  obtain ⟨k, u, t, i, to⟩ := o
  simp only at this
  simp only [opOf, seven, six, List.cons_append, List.nil_append, ix_succ, ix_zero, OpD.mk.injEq]
  omega
theorem seven_form {g : List Nat} (h : g.length = 7) : ∃ a b c d e f s, g = [a, b, c, d, e, f, s] := by
  match g, h with
  | [a, b, c, d, e, f, s], _ => exact ⟨a, b, c, d, e, f, s, rfl⟩
theorem seven_opOf {g : List Nat} (hl : g.length = 7) (hb : Bytes g) (hg : goodB g = true) : opOkB (opOf g) = true ∧ seven (opOf g) = g := by
  obtain ⟨a, b, c, d, e, f, s, rfl⟩ := seven_form hl
  have ha := hb a (by simp)
  have hb' := hb b (by simp)
  have hc := hb c (by simp)
  have hd := hb d (by simp)
  have he := hb e (by simp)
  have hf := hb f (by simp)
  have hs : sumN [a, b, c, d, e, f] = s := by
    have := beq_iff_eq.1 hg
    simpa [ix_succ, ix_zero] using this
  have hop : opOf [a, b, c, d, e, f, s] = ⟨(a : Int), (b : Int), (c : Int), ((e * 256 + f : Nat) : Int), (d : Int)⟩ := by simp [opOf, ix_succ, ix_zero]
  rw [hop]
  refine ⟨(opOkB_iff _).2 (by simp only []; omega), ?_⟩
  have h6 : six ⟨(a : Int), (b : Int), (c : Int), ((e * 256 + f : Nat) : Int), (d : Int)⟩ = [a, b, c, d, e, f] := by
    unfold six
    simp only [Int.toNat_natCast]
    rw [show (e * 256 + f) / 256 = e by omega, show (e * 256 + f) % 256 = f by omega]
  unfold seven
  rw [h6, hs]
  rfl

/-! ### groups of seven -/
def grp (b : List Nat) (j : Nat) : List Nat := (b.drop (7 * j)).take 7
theorem grp_len {b : List Nat} {j : Nat} (h : 7 * j + 7 ≤ b.length) : (grp b j).length = 7 := by simp [grp]; omega
theorem grp_ix {b : List Nat} {j i : Nat} (h : 7 * j + 7 ≤ b.length) (hi : i < 7) : ix (grp b j) i = ix b (7 * j + i) := by
  rw [ix_lt (by rw [grp_len h]; exact hi), ix_lt (by omega)]
  simp [grp]
theorem grp_bytes {b : List Nat} (h : Bytes b) (j : Nat) : Bytes (grp b j) := fun x hx => h x (List.mem_of_mem_drop (List.mem_of_mem_take hx))
def GoodTo (b : List Nat) (k : Nat) : Prop := ∀ j, j < k → goodB (grp b j) = true
theorem GoodTo.zero (b : List Nat) : GoodTo b 0 := fun j hj => by omega
theorem GoodTo.succ {b : List Nat} {k : Nat} (h : GoodTo b k) (hk : goodB (grp b k) = true) : GoodTo b (k + 1) := fun j hj => by
  rcases Nat.lt_or_ge j k with h1 | h1
  · exact h j h1
  · obtain rfl : j = k := by omega
    exact hk
def opsTo (b : List Nat) (k : Nat) : List OpD := (List.range k).map fun j => opOf (grp b j)
theorem opsTo_zero (b : List Nat) : opsTo b 0 = [] := rfl
theorem opsTo_succ (b : List Nat) (k : Nat) : opsTo b (k + 1) = opsTo b k ++ [opOf (grp b k)] := by simp [opsTo, List.range_succ]
theorem opsTo_len (b : List Nat) (k : Nat) : (opsTo b k).length = k := by simp [opsTo]
theorem opsTo_ix (b : List Nat) {k j : Nat} (h : j < k) : ix (opsTo b k) j = opOf (grp b j) := by
  rw [ix_lt (by rw [opsTo_len]; exact h)]; simp [opsTo]
/-- what Read answers: the operations, how many groups, and the error -/
inductive ReadsTo (b : List Nat) : Nat → Int → Prop
  | all (k : Nat) (h : GoodTo b k) (hk : b.length < 7 * k + 7) (hk' : 7 * k ≤ b.length) : ReadsTo b k 0
  | bad (k : Nat) (h : GoodTo b k) (hk : 7 * k + 7 ≤ b.length) (hb : goodB (grp b k) = false) : ReadsTo b k 8
theorem readsTo_ex (b : List Nat) : ∃ k e, ReadsTo b k e := by
  have key : ∀ n, 7 * n ≤ b.length → GoodTo b n ∨ ∃ k, ReadsTo b k 8 := by
    intro n
    induction n with
    | zero => intro _; exact .inl (GoodTo.zero b)
    | succ n ih =>
      intro hn
      rcases ih (by omega) with h | h
      · cases hg : goodB (grp b n)
        · exact .inr ⟨n, .bad n h (by omega) hg⟩
        · exact .inl (h.succ hg)
      · exact .inr h
  rcases key (b.length / 7) (by omega) with h | ⟨k, h⟩
  · exact ⟨_, 0, .all _ h (by omega) (by omega)⟩
  · exact ⟨k, 8, h⟩
theorem ReadsTo.le {b : List Nat} {k : Nat} {e : Int} (h : ReadsTo b k e) : 7 * k ≤ b.length := by
  cases h with
  | all _ _ h => exact h
  | bad _ h _ => omega
theorem ReadsTo.good {b : List Nat} {k : Nat} {e : Int} (h : ReadsTo b k e) : GoodTo b k := by cases h <;> assumption
theorem ReadsTo.lt_of {b : List Nat} {n k : Nat} {e : Int} (h : ReadsTo b n e) (hg : GoodTo b k) (hk : 7 * k + 7 ≤ b.length) (hq : goodB (grp b k) = true) : k < n := by
  rcases Nat.lt_or_ge k n with h1 | h1
  · exact h1
  · cases h with
    | all _ h2 _ => omega
    | bad _ _ hb =>
      rcases Nat.lt_or_ge n k with h3 | h3
      · have := hg n h3; rw [hb] at this; cases this
      · obtain rfl : k = n := by omega
        rw [hb] at hq; cases hq
theorem ReadsTo.uniq {b : List Nat} {k k' : Nat} {e e' : Int} (h : ReadsTo b k e) (h' : ReadsTo b k' e') : k = k' ∧ e = e' := by
  have hlt : ∀ {x y : Nat} {f g : Int}, ReadsTo b x f → ReadsTo b y g → ¬ x < y := by
    intro x y f g hx hy hxy
    have hgg := hy.good x hxy
    have := hy.le
    cases hx with
    | all _ h _ => omega
    | bad _ _ hb => rw [hb] at hgg; cases hgg
  have hk : k = k' := by
    have := hlt h h'
    have := hlt h' h
    omega
  subst hk
  refine ⟨rfl, ?_⟩
  cases h with
  | all _ h1 _ => cases h' with
    | all => rfl
    | bad _ h2 _ => omega
  | bad _ h1 _ => cases h' with
    | all _ h2 _ => omega
    | bad => rfl

/-! ### all that is written -/
def allOk (l : List OpD) : Bool := l.all opOkB
def wrTo (l : List OpD) (k : Nat) : List Nat := (l.take k).flatMap seven
def OkTo (l : List OpD) (k : Nat) : Prop := ∀ j, j < k → opOkB (ix l j) = true
theorem OkTo.zero (l : List OpD) : OkTo l 0 := fun j hj => by omega
theorem OkTo.succ {l : List OpD} {k : Nat} (h : OkTo l k) (hk : opOkB (ix l k) = true) : OkTo l (k + 1) := fun j hj => by
  rcases Nat.lt_or_ge j k with h1 | h1
  · exact h j h1
  · obtain rfl : j = k := by omega
    exact hk
theorem OkTo.all {l : List OpD} (h : OkTo l l.length) : allOk l = true := by
  unfold allOk
  rw [List.all_eq_true]
  intro o ho
  obtain ⟨i, hi, rfl⟩ := List.getElem_of_mem ho
  rw [← ix_lt hi]; exact h i hi
theorem allOk_no {l : List OpD} {k : Nat} (hk : k < l.length) (h : opOkB (ix l k) = false) : allOk l = false := by
  cases hb : allOk l
  · rfl
  · rw [allOk, List.all_eq_true] at hb
    rw [hb _ (ix_mem hk)] at h; cases h
theorem allOk_ix {l : List OpD} (h : allOk l = true) {k : Nat} (hk : k < l.length) : opOkB (ix l k) = true := List.all_eq_true.1 h _ (ix_mem hk)
theorem wrTo_zero (l : List OpD) : wrTo l 0 = [] := by simp [wrTo]
theorem wrTo_succ {l : List OpD} {k : Nat} (h : k < l.length) : wrTo l (k + 1) = wrTo l k ++ seven (ix l k) := by
  simp [wrTo, take_ix h]
theorem wrTo_len {l : List OpD} {k : Nat} (h : k ≤ l.length) : (wrTo l k).length = 7 * k := by
  induction k with
  | zero => simp [wrTo]
  | succ k ih => rw [wrTo_succ h, List.length_append, ih (by omega), seven_len]; omega
def wrL (l : List OpD) : List Nat := wrTo l l.length
theorem wrL_def (l : List OpD) : wrL l = wrTo l l.length := rfl
theorem wrL_len (l : List OpD) : (wrL l).length = 7 * l.length := wrTo_len (Nat.le_refl _)
theorem wrL_cons (o : OpD) (l : List OpD) : wrL (o :: l) = seven o ++ wrL l := by simp [wrL, wrTo]
theorem wrL_bytes {l : List OpD} (h : allOk l = true) : Bytes (wrL l) := by
  induction l with
  | nil => intro x hx; simp [wrL, wrTo] at hx
  | cons o l ih =>
    rw [allOk, List.all_cons, Bool.and_eq_true] at h
    rw [wrL_cons]
    intro x hx
    rcases List.mem_append.1 hx with h1 | h1
    · exact seven_bytes h.1 x h1
    · exact ih h.2 x h1
theorem grp_wrL {l : List OpD} {j : Nat} (hj : j < l.length) : grp (wrL l) j = seven (ix l j) := by
  induction l generalizing j with
  | nil => simp at hj
  | cons o l ih =>
    rw [wrL_cons]
    cases j with
    | zero =>
      unfold grp
      rw [Nat.mul_zero, List.drop_zero, List.take_append_of_le_length (by rw [seven_len]; omega), List.take_of_length_le (by rw [seven_len]; omega), ix_zero]
    | succ j =>
      have : grp (seven o ++ wrL l) (j + 1) = grp (wrL l) j := by
        unfold grp
        rw [show 7 * (j + 1) = (seven o).length + 7 * j by rw [seven_len]; omega, List.drop_append]
        congr 1
        rw [List.drop_of_length_le (by omega), List.nil_append, Nat.add_sub_cancel_left]
      rw [this, ih (by simpa using hj), ix_succ]

/-- what was written is read; torn, all that was whole is -/
theorem journal_back {l : List OpD} {n : Nat} (h : allOk l = true) (hn : n ≤ 7 * l.length) : ReadsTo ((wrL l).take n) (n / 7) 0 ∧ opsTo ((wrL l).take n) (n / 7) = l.take (n / 7) := by
  have hlen : ((wrL l).take n).length = n := by rw [List.length_take, wrL_len]; omega
  have hg : ∀ j, j < n / 7 → grp ((wrL l).take n) j = seven (ix l j) := by
    intro j hj
    rw [← grp_wrL (show j < l.length by omega)]
    unfold grp
    rw [List.drop_take, List.take_take]
    congr 1; omega
  refine ⟨.all _ (fun j hj => by rw [hg j hj]; exact good_seven _) (by omega) (by omega), ?_⟩
  refine ext_ix (by rw [opsTo_len, List.length_take]; omega) fun i hi => ?_
  rw [opsTo_len] at hi
  rw [opsTo_ix _ hi, hg i hi, opOf_seven (allOk_ix h (by omega)), ix_take hi]
/-- a byte that was spoilt is seen -/
theorem journal_spoilt {l : List OpD} {at_ c : Nat} (h : allOk l = true) (ha : at_ < 7 * l.length) (hc : c < 256) (hne : ix (wrL l) at_ ≠ c) : ReadsTo ((wrL l).set at_ c) (at_ / 7) 8 ∧ opsTo ((wrL l).set at_ c) (at_ / 7) = l.take (at_ / 7) := by
  have hL := wrL_len l
  have hg : ∀ j, j < at_ / 7 → grp ((wrL l).set at_ c) j = seven (ix l j) := by
    intro j hj
    rw [← grp_wrL (show j < l.length by omega)]
    refine ext_ix (by rw [grp_len (by rw [List.length_set]; omega), grp_len (by omega)]) fun i hi => ?_
    rw [grp_len (by rw [List.length_set]; omega)] at hi
    rw [grp_ix (by rw [List.length_set]; omega) hi, grp_ix (by omega) hi, ix_set _ _ _ _ (by omega), if_neg (by omega)]
  have hj : at_ / 7 < l.length := by omega
  have hb := seven_bytes (allOk_ix h hj)
  have h0 : grp ((wrL l).set at_ c) (at_ / 7) = (seven (ix l (at_ / 7))).set (at_ % 7) c := by
    rw [← grp_wrL hj]
    refine ext_ix (by rw [List.length_set, grp_len (by rw [List.length_set]; omega), grp_len (by omega)]) fun i hi => ?_
    rw [grp_len (by rw [List.length_set]; omega)] at hi
    rw [grp_ix (by rw [List.length_set]; omega) hi, ix_set _ _ _ _ (by omega), ix_set _ _ _ _ (by rw [grp_len (by omega)]; exact hi), grp_ix (by omega) hi]
    by_cases h1 : at_ = 7 * (at_ / 7) + i
    · rw [if_pos h1, if_pos (by omega)]
    · rw [if_neg h1, if_neg (by omega)]
  have hne' : ix (seven (ix l (at_ / 7))) (at_ % 7) ≠ c := by
    rw [← grp_wrL hj, grp_ix (by omega) (by omega)]
    rw [show 7 * (at_ / 7) + at_ % 7 = at_ by omega]; exact hne
  have hbad : goodB (grp ((wrL l).set at_ c) (at_ / 7)) = false := by
    rw [h0]
    generalize ix l (at_ / 7) = o at *
    cases hgd : goodB ((seven o).set (at_ % 7) c)
    · rfl
    · have h1 : sumN (((seven o).set (at_ % 7) c).take 6) = ix ((seven o).set (at_ % 7) c) 6 := beq_iff_eq.1 hgd
      rw [List.take_set, show (seven o).take 6 = six o from rfl, ix_set _ _ _ _ (by rw [seven_len]; omega)] at h1
      have hsx : ∀ i, i < 6 → ix (seven o) i = ix (six o) i := by
        intro i hi
        rw [ix_lt (by rw [seven_len]; omega), ix_lt (by rw [six_len]; omega)]
        simp only [seven]
        rw [List.getElem_append_left]
      have hs6 : ix (seven o) 6 = sumN (six o) := seven_six o
      by_cases h6 : at_ % 7 = 6
      · rw [if_pos h6, h6, List.set_eq_of_length_le (by rw [six_len]; omega)] at h1
        rw [h6, hs6] at hne'
        exact absurd h1 hne'
      · rw [if_neg h6, hs6] at h1
        exfalso
        refine sum_spoilt (b := six o) (fun x hx => hb x (by unfold seven; exact List.mem_append_left _ hx)) (by rw [six_len]; omega) (by rw [six_len]; omega) hc ?_ h1
        rw [← hsx _ (by omega)]; exact hne'
  refine ⟨.bad _ (fun j hj => by rw [hg j hj]; exact good_seven _) (by rw [List.length_set]; omega) hbad, ?_⟩
  refine ext_ix (by rw [opsTo_len, List.length_take]; omega) fun i hi => ?_
  rw [opsTo_len] at hi
  rw [opsTo_ix _ hi, hg i hi, opOf_seven (allOk_ix h (by omega)), ix_take hi]
/-- nothing is read that was not written -/
theorem journal_only {b : List Nat} {k : Nat} {e : Int} (hb : Bytes b) (h : ReadsTo b k e) : allOk (opsTo b k) = true ∧ wrL (opsTo b k) = b.take (7 * k) := by
  have hle := h.le
  have hg := h.good
  have hs : ∀ j, j < k → opOkB (opOf (grp b j)) = true ∧ seven (opOf (grp b j)) = grp b j := fun j hj => seven_opOf (grp_len (by omega)) (grp_bytes hb j) (hg j hj)
  have hok : allOk (opsTo b k) = true := by
    refine OkTo.all fun j hj => ?_
    rw [opsTo_len] at hj
    rw [opsTo_ix _ hj]; exact (hs j hj).1
  refine ⟨hok, ?_⟩
  have key : ∀ n, n ≤ k → wrTo (opsTo b k) n = b.take (7 * n) := by
    intro n
    induction n with
    | zero => intro _; simp [wrTo]
    | succ n ih =>
      intro hn
      rw [wrTo_succ (by rw [opsTo_len]; omega), ih (by omega), opsTo_ix _ (by omega), (hs n (by omega)).2]
      unfold grp
      rw [show 7 * (n + 1) = 7 * n + 7 by omega, List.take_add]
  rw [wrL_def, opsTo_len]
  exact key k (Nat.le_refl _)
theorem six_def (o : OpD) : six o = [o.kind.toNat, o.user.toNat, o.tran.toNat, o.to.toNat, o.item.toNat / 256, o.item.toNat % 256] := rfl
theorem seven_def (o : OpD) : seven o = six o ++ [sumN (six o)] := rfl
theorem six_cells {o : OpD} (h : opOkB o = true) : (#[.int .u8 (o.kind % 256), .int .u8 (o.user % 256), .int .u8 (o.tran % 256), .int .u8 (o.to % 256), .int .u8 (o.item / 256), .int .u8 (o.item % 256)] : Array Value).toList = (six o).map fun (x : Nat) => Value.int .u8 (x : Int) := by
  have := (opOkB_iff o).1 h
  simp only [six, List.map_cons, List.map_nil, List.cons.injEq, Value.int.injEq, true_and, and_true]
  omega
theorem one_cell {w : World} {ad : Addr} {v : Value} (h : w.cell? ad = some v) : ∀ j u, [v][j]? = some u → w.cell? (ad.add j) = some u := by
  intro j u hj
  cases j with
  | zero => simp at hj; subst hj; rw [show ad.add 0 = ad by unfold Addr.add; split <;> simp_all]; exact h
  | succ j => simp at hj
theorem grp_def (b : List Nat) (j : Nat) : grp b j = (b.drop (7 * j)).take 7 := rfl
theorem or_i64 {x y : Nat} (hx : x < 256) (hy : y < 256) : bits .or .i64 ((x : Int) * 256) (y : Int) = (x : Int) * 256 + (y : Int) := by
  have h : ∀ x, x < 256 → ∀ y, y < 256 → (x * 256 ||| y) = x * 256 + y := by
    intro x hx y hy
    have := Nat.two_pow_add_eq_or_of_lt (i := 8) (b := y) (by omega) x
    rw [Nat.mul_comm x 256, show (256 : Nat) = 2 ^ 8 from rfl, ← this]
  have h2 : (x : Int) * 256 = ((x * 256 : Nat) : Int) := by simp
  rw [h2]
  show IntKind.i64.wrap ((BitVec.ofInt 64 ((x * 256 : Nat) : Int) ||| BitVec.ofInt 64 (y : Int)).toNat : Int) = _
  have e1 : (BitVec.ofInt 64 ((x * 256 : Nat) : Int)).toNat = x * 256 := by simp [BitVec.toNat_ofInt]; omega
  have e2 : (BitVec.ofInt 64 (y : Int)).toNat = y := by simp; omega
  rw [BitVec.toNat_or, e1, e2, h x hx y hy]
  simp [IntKind.wrap, IntKind.bits, IntKind.signed]
  omega
theorem block_news {w : World} {H : Nat} {e : TypeId} {cs : Array Value} (hH : w.heap.size = H) : ∀ j u, cs.toList[j]? = some u → (w.alloc (.cells cs e)).cell? ((⟨H, 0, none⟩ : Addr).add j) = some u := by
  intro j u hj
  subst hH
  have : (⟨w.heap.size, 0, none⟩ : Addr).add j = ⟨w.heap.size, j, none⟩ := by unfold Addr.add; split <;> simp_all
  rw [this]
  exact box_cell (Gr.refl _) (by simpa using hj)
theorem opOf_cells (g : List Nat) : opCells (opOf g) = (#[.int .i64 ((ix g 0 : Nat) : Int), .int .i64 ((ix g 1 : Nat) : Int), .int .i64 ((ix g 2 : Nat) : Int), .int .i64 (((ix g 4 : Nat) : Int) * 256 + ((ix g 5 : Nat) : Int)), .int .i64 ((ix g 3 : Nat) : Int)] : Array Value).toList := by
  simp [opCells, opOf]
theorem opOf_I {g : List Nat} (h : Bytes g) : opI (opOf g) := by
  have h0 := h.ix 0
  have h1 := h.ix 1
  have h2 := h.ix 2
  have h3 := h.ix 3
  have h4 := h.ix 4
  have h5 := h.ix 5
  unfold opI I64 opOf
  simp only []
  omega
attribute [irreducible] smallB six seven rotN sumTo8 sumN opOkB opOf goodB grp opsTo wrTo wrL allOk OkTo GoodTo Bytes
end Go.Tok
