/- What was written is read again as it was. No program is in sight here. -/
import Derived.Test.YtiflolklgmmgeaaDoorTextLaw
import Derived.Test.YtiflolklgmmgeaaDoorPA
namespace Go.Tok
open Go.RowKit
set_option linter.unusedVariables false
/-! ### numerals -/
theorem dec_cases {p : Nat} (h : p < 17) : (∃ a, a < 10 ∧ p = a ∧ Lib.decDigits p = [UInt8.ofNat (48 + a)]) ∨ ∃ a, a < 7 ∧ p = 10 + a ∧ Lib.decDigits p = [49, UInt8.ofNat (48 + a)] := by
  by_cases h1 : p < 10
  · exact .inl ⟨p, h1, rfl, Lib.decDigits_one h1⟩
  · refine .inr ⟨p - 10, by omega, by omega, ?_⟩
    rw [Lib.decDigits_two h1 (by omega), show p / 10 = 1 by omega, show p % 10 = p - 10 by omega]
    rfl
theorem atoi_one : ∀ a : Fin 10, Lib.atoiAll [UInt8.ofNat (48 + a.val)] = .ok (a.val : Int) := by decide +kernel
theorem atoi_two : ∀ a : Fin 7, Lib.atoiAll [49, UInt8.ofNat (48 + a.val)] = .ok ((10 + a.val : Nat) : Int) := by decide +kernel
theorem atoi_dec {p : Nat} (h : p < 17) : Lib.atoiAll (Lib.decDigits p) = .ok (p : Int) := by
  rcases dec_cases h with ⟨a, ha, rfl, e⟩ | ⟨a, ha, rfl, e⟩
  · rw [e]; exact atoi_one ⟨p, ha⟩
  · rw [e]; exact atoi_two ⟨a, ha⟩
def digB (b : UInt8) : Bool := 48 ≤ b && b ≤ 57
theorem dig_one : ∀ a : Fin 10, digB (UInt8.ofNat (48 + a.val)) = true := by decide +kernel
theorem dec_dig {p : Nat} (h : p < 17) : ∀ b ∈ Lib.decDigits p, digB b = true := by
  intro b hb
  rcases dec_cases h with ⟨a, ha, rfl, e⟩ | ⟨a, ha, rfl, e⟩
  · rw [e] at hb
    rw [List.mem_singleton.1 hb]; exact dig_one ⟨p, ha⟩
  · rw [e] at hb
    rcases List.mem_cons.1 hb with rfl | hb
    · decide
    · rw [List.mem_singleton.1 hb]; exact dig_one ⟨a, by omega⟩
theorem dec_ne {p : Nat} (h : p < 17) : Lib.decDigits p ≠ [] := by
  rcases dec_cases h with ⟨a, ha, rfl, e⟩ | ⟨a, ha, rfl, e⟩ <;> rw [e] <;> simp
/-! ### cutting -/
theorem cut_at {A B : List UInt8} {x y : UInt8} (h : y ∉ A) (hxy : x ≠ y) : Lib.cut (A ++ x :: y :: B) [x, y] = (A, B, true) := by
  have hi : Lib.index (A ++ x :: y :: B) [x, y] = A.length := Lib.index_first (by simp) (by simp [Lib.occAt]) fun j hj => by
    rw [Bool.eq_false_iff]
    intro ho
    unfold Lib.occAt at ho
    rw [List.isPrefixOf_iff_prefix] at ho
    obtain ⟨r, hr⟩ := ho
    have h1 : (A ++ x :: y :: B)[j + 1]? = some y := by
      have := congrArg (fun l => l[1]?) hr
      simpa [List.getElem?_drop] using this.symm
    by_cases hj1 : j + 1 < A.length
    · rw [List.getElem?_append_left hj1] at h1
      exact h (List.mem_of_getElem? h1)
    · rw [List.getElem?_append_right (by omega), show j + 1 - A.length = 0 by omega] at h1
      simp at h1
      exact hxy h1
  unfold Lib.cut
  rw [hi, if_pos (by omega)]
  simp
theorem cut_one {A B : List UInt8} {x : UInt8} (h : x ∉ A) : Lib.cut (A ++ x :: B) [x] = (A, B, true) := by
  have hi : Lib.index (A ++ x :: B) [x] = A.length := Lib.index_first (by simp) (by simp [Lib.occAt]) fun j hj => by
    rw [Bool.eq_false_iff]
    intro ho
    unfold Lib.occAt at ho
    rw [List.isPrefixOf_iff_prefix] at ho
    obtain ⟨r, hr⟩ := ho
    have h1 : (A ++ x :: B)[j]? = some x := by
      have := congrArg (fun l => l[0]?) hr
      simpa [List.getElem?_drop] using this.symm
    rw [List.getElem?_append_left hj] at h1
    exact h (List.mem_of_getElem? h1)
  unfold Lib.cut
  rw [hi, if_pos (by omega)]
  simp
theorem cut_none {A : List UInt8} {x : UInt8} (h : x ∉ A) : Lib.cut A [x] = (A, [], false) := by
  have hi : Lib.index A [x] = -1 := Lib.index_none fun j hj => by
    rw [Bool.eq_false_iff]
    intro ho
    unfold Lib.occAt at ho
    rw [List.isPrefixOf_iff_prefix] at ho
    obtain ⟨r, hr⟩ := ho
    have h1 : A[j]? = some x := by
      have := congrArg (fun l => l[0]?) hr
      simpa [List.getElem?_drop] using this.symm
    exact h (List.mem_of_getElem? h1)
  unfold Lib.cut
  rw [hi, if_neg (by omega)]
/-! ### words -/
def wordT (p : Nat) (n : Int) : List UInt8 := if 1 < n then Lib.decDigits n.toNat ++ 42 :: Lib.decDigits p else Lib.decDigits p
theorem sideW_word {p : Nat} {n : Int} : sideW p n = if n = 0 then [] else 32 :: wordT p n := by
  unfold sideW wordT
  split
  · rfl
  · split <;> rfl
def wordsUpto (w : List Int) : Nat → List (List UInt8)
  | 0 => []
  | k + 1 => if nth w k = 0 then wordsUpto w k else wordsUpto w k ++ [wordT k (nth w k)]
theorem side_words (w : List Int) : ∀ k, sideUpto w k = (wordsUpto w k).flatMap fun f => 32 :: f
  | 0 => rfl
  | k + 1 => by
    rw [sideUpto, wordsUpto, side_words w k, sideW_word]
    split
    · simp
    · simp
theorem dig_not {b c : UInt8} (h : digB b = true) (hc : digB c = false) : b ≠ c := fun e => by rw [e, hc] at h; cases h
theorem dec_not {p : Nat} (h : p < 17) {c : UInt8} (hc : digB c = false) : c ∉ Lib.decDigits p := fun hm => dig_not (dec_dig h c hm) hc rfl
/-- the bytes of a word -/
theorem word_bytes {p : Nat} {n : Int} (hp : p < 17) (hn : n ≤ 9) : ∀ b ∈ wordT p n, digB b = true ∨ b = 42 := by
  intro b hb
  unfold wordT at hb
  split at hb
  · rcases List.mem_append.1 hb with h | h
    · exact .inl (dec_dig (by omega) b h)
    · rcases List.mem_cons.1 h with rfl | h
      · exact .inr rfl
      · exact .inl (dec_dig hp b h)
  · exact .inl (dec_dig hp b hb)
theorem word_ne {p : Nat} {n : Int} (hp : p < 17) : wordT p n ≠ [] := by
  unfold wordT
  split
  · simp
  · exact dec_ne hp
theorem word_read {p : Nat} {n : Int} (hp : p < 17) (h1 : 1 ≤ n) (hn : n ≤ 9) : wordF (wordT p n) = some (n, (p : Int)) := by
  unfold wordF wordT
  by_cases h : 1 < n
  · rw [if_pos h, cut_one (dec_not (by omega) (by decide))]
    simp only [if_true]
    rw [atoi_dec (by omega), atoi_dec hp]
    simp only
    rw [show ((n.toNat : Nat) : Int) = n by omega]
  · rw [if_neg h, cut_none (dec_not hp (by decide))]
    simp only [Bool.false_eq_true, if_false]
    rw [show Lib.atoiAll [49] = .ok 1 by decide +kernel, atoi_dec hp]
    simp only
    rw [show n = 1 by omega]
theorem mem_words {w : List Int} : ∀ {k : Nat} {f : List UInt8}, f ∈ wordsUpto w k → ∃ p, p < k ∧ f = wordT p (nth w p)
  | 0, f, h => by cases h
  | k + 1, f, h => by
    unfold wordsUpto at h
    split at h
    · obtain ⟨p, h1, h2⟩ := mem_words h
      exact ⟨p, by omega, h2⟩
    · rcases List.mem_append.1 h with h | h
      · obtain ⟨p, h1, h2⟩ := mem_words h
        exact ⟨p, by omega, h2⟩
      · exact ⟨k, by omega, List.mem_singleton.1 h⟩
/-! ### fields -/
theorem sp_no {b : UInt8} (h : digB b = true ∨ b = 42) : Lib.isSp b = false := by
  rcases h with h | rfl
  · have : ∀ b : UInt8, digB b = true → Lib.isSp b = false := by
      have hk : ∀ n : Fin 256, digB (UInt8.ofNat n.val) = true → Lib.isSp (UInt8.ofNat n.val) = false := by decide +kernel
      intro b hb
      have e : UInt8.ofNat b.toNat = b := UInt8.ofNat_toNat
      have := hk ⟨b.toNat, b.toNat_lt⟩
      simp only [e] at this
      exact this hb
    exact this b h
  · decide +kernel
theorem fields_word : ∀ (f cur rest : List UInt8), (∀ b ∈ f, Lib.isSp b = false) → Lib.fieldsGo cur (f ++ rest) = Lib.fieldsGo (cur ++ f) rest
  | [], cur, rest, _ => by simp
  | b :: f, cur, rest, h => by
    rw [List.cons_append, Lib.fieldsGo_more _ _ _ (h b (by simp)), fields_word f _ rest (fun x hx => h x (List.mem_cons_of_mem _ hx))]
    simp
theorem fields_all : ∀ (fs : List (List UInt8)), (∀ f ∈ fs, f ≠ [] ∧ ∀ b ∈ f, Lib.isSp b = false) → Lib.fields (fs.flatMap fun f => 32 :: f) = fs := by
  have hsp : Lib.isSp 32 = true := by decide +kernel
  have key : ∀ (fs : List (List UInt8)) (cur : List UInt8), cur ≠ [] → (∀ f ∈ fs, f ≠ [] ∧ ∀ b ∈ f, Lib.isSp b = false) → Lib.fieldsGo cur (fs.flatMap fun f => 32 :: f) = cur :: fs := by
    intro fs
    induction fs with
    | nil =>
      intro cur hc _
      simp [Lib.fieldsGo, hc]
    | cons f r ih =>
      intro cur hc h
      rw [List.flatMap_cons, List.cons_append, Lib.fieldsGo_end _ _ _ hsp hc, fields_word f [] _ (h f (by simp)).2, List.nil_append, ih f (h f (by simp)).1 fun g hg => h g (List.mem_cons_of_mem _ hg)]
  intro fs h
  unfold Lib.fields
  cases fs with
  | nil => rfl
  | cons f r =>
    rw [List.flatMap_cons, List.cons_append, Lib.fieldsGo_sp _ _ hsp, fields_word f [] _ (h f (by simp)).2, List.nil_append]
    exact key r f (h f (by simp)).1 fun g hg => h g (List.mem_cons_of_mem _ hg)
/-! ### a side, read again -/
theorem side_byte {w : List Int} {P : Nat} (h : RowT P w) (hP : P ≤ 16) : ∀ b ∈ sideF w, b = 32 ∨ digB b = true ∨ b = 42 := by
  intro b hb
  unfold sideF at hb
  rw [side_words] at hb
  obtain ⟨f, hf, hb⟩ := List.mem_flatMap.1 hb
  rcases List.mem_cons.1 hb with rfl | hb
  · exact .inl rfl
  · obtain ⟨p, hp, rfl⟩ := mem_words hf
    refine .inr (word_bytes (by have := h.len; omega) ?_ b hb)
    rw [nth_lt hp]; exact (h.w _ (List.getElem_mem hp)).2
theorem side_not {w : List Int} {P : Nat} (h : RowT P w) (hP : P ≤ 16) {c : UInt8} (h1 : c ≠ 32) (h2 : digB c = false) (h3 : c ≠ 42) : c ∉ sideF w := fun hm => by
  rcases side_byte h hP c hm with e | e | e
  · exact h1 e
  · rw [h2] at e; cases e
  · exact h3 e
theorem weightsL_app (P : Nat) : ∀ (a b : List (List UInt8)) (out : List Int), weightsL P (a ++ b) out = (weightsL P a out).bind (weightsL P b)
  | [], b, out => rfl
  | f :: r, b, out => by
    rw [List.cons_append, weightsL, weightsL]
    cases weightS P f out with
    | none => rfl
    | some x => exact weightsL_app P r b x
theorem nthx {x y : List Int} (hl : x.length = y.length) (h : ∀ p, nth x p = nth y p) : x = y := by
  apply List.ext_getElem hl
  intro i h1 h2
  have := h i
  rw [nth_lt h1, nth_lt h2] at this
  exact this
theorem words_read {w : List Int} {P : Nat} (h : RowT P w) (hP : P ≤ 16) : ∀ k, k ≤ P → weightsL P (wordsUpto w k) (List.replicate P 0) = some (w.take k ++ List.replicate (P - k) 0)
  | 0, _ => by simp [wordsUpto, weightsL]
  | k + 1, hk => by
    have ih := words_read h hP k (by omega)
    have hl := h.len
    have hx := h.w _ (List.getElem_mem (show k < w.length by omega))
    rw [← nth_lt] at hx
    have hcat : ∀ q, nth (w.take (k + 1) ++ List.replicate (P - (k + 1)) 0) q = if q ≤ k then nth w q else 0 := fun q => by
      rw [nth_def, nth_def, List.getD_eq_getElem?_getD, List.getD_eq_getElem?_getD]
      by_cases hq : q ≤ k
      · rw [if_pos hq, List.getElem?_append_left (by simp; omega), List.getElem?_take_of_lt (by omega)]
      · rw [if_neg hq, List.getElem?_append_right (by simp; omega)]
        cases hr : (List.replicate (P - (k + 1)) (0 : Int))[q - (w.take (k + 1)).length]? with
        | none => rfl
        | some y => rw [(List.mem_replicate.1 (List.mem_of_getElem? hr)).2]; rfl
    have hcat0 : ∀ q, nth (w.take k ++ List.replicate (P - k) 0) q = if q < k then nth w q else 0 := fun q => by
      rw [nth_def, nth_def, List.getD_eq_getElem?_getD, List.getD_eq_getElem?_getD]
      by_cases hq : q < k
      · rw [if_pos hq, List.getElem?_append_left (by simp; omega), List.getElem?_take_of_lt hq]
      · rw [if_neg hq, List.getElem?_append_right (by simp; omega)]
        cases hr : (List.replicate (P - k) (0 : Int))[q - (w.take k).length]? with
        | none => rfl
        | some y => rw [(List.mem_replicate.1 (List.mem_of_getElem? hr)).2]; rfl
    have hlen0 : (w.take k ++ List.replicate (P - k) 0).length = P := by simp; omega
    have hlen1 : (w.take (k + 1) ++ List.replicate (P - (k + 1)) 0).length = P := by simp; omega
    unfold wordsUpto
    by_cases h0 : nth w k = 0
    · rw [if_pos h0, ih]
      congr 1
      refine nthx (by rw [hlen0, hlen1]) fun q => ?_
      rw [hcat0, hcat]
      by_cases hq : q < k
      · rw [if_pos hq, if_pos (by omega)]
      · rw [if_neg hq]
        by_cases hq2 : q = k
        · rw [if_pos (by omega), hq2, h0]
        · rw [if_neg (by omega)]
    · rw [if_neg h0, weightsL_app, ih]
      simp only [Option.bind_some, weightsL]
      unfold weightS
      rw [word_read (by omega) (by omega) (by omega)]
      simp only [Option.bind_some]
      rw [if_pos (by omega)]
      simp only [Option.bind_some, Int.toNat_natCast]
      congr 1
      refine nthx (by rw [List.length_set, hlen0, hlen1]) fun q => ?_
      rw [hcat]
      have hset : nth ((w.take k ++ List.replicate (P - k) 0).set k (nth w k)) q = if q = k then nth w k else nth (w.take k ++ List.replicate (P - k) 0) q := by
        rw [nth_def, nth_def, List.getD_eq_getElem?_getD, List.getD_eq_getElem?_getD, List.getElem?_set]
        by_cases hq : k = q
        · rw [if_pos hq, if_pos hq.symm, if_pos (by rw [hlen0]; omega)]; rfl
        · rw [if_neg hq, if_neg fun e => hq e.symm, nth_def, List.getD_eq_getElem?_getD]
      rw [hset, hcat0]
      by_cases hq : q = k
      · rw [if_pos hq, if_pos (by omega), hq]
      · rw [if_neg hq]
        by_cases hq2 : q < k
        · rw [if_pos hq2, if_pos (by omega)]
        · rw [if_neg hq2, if_neg (by omega)]
theorem side_read {w : List Int} {P : Nat} (h : RowT P w) (hP : P ≤ 16) : weightsT (sideF w) P = some w := by
  have hl := h.len
  have ha : ∀ b ∈ sideF w, b.toNat < 128 := fun b hb => by
    rcases side_byte h hP b hb with rfl | e | rfl
    · decide
    · unfold digB at e
      simp only [Bool.and_eq_true, decide_eq_true_eq] at e
      have := UInt8.le_iff_toNat_le.1 e.2
      simp at this
      omega
    · decide
  have hf : ∀ f ∈ wordsUpto w w.length, f ≠ [] ∧ ∀ b ∈ f, Lib.isSp b = false := fun f hf => by
    obtain ⟨p, hp, rfl⟩ := mem_words hf
    refine ⟨word_ne (by omega), fun b hb => sp_no (word_bytes (by omega) ?_ b hb)⟩
    rw [nth_lt hp]; exact (h.w _ (List.getElem_mem hp)).2
  unfold weightsT
  rw [Lib.fieldsD_ascii _ ha]
  unfold sideF
  rw [side_words, fields_all _ hf, hl, words_read h hP P (Nat.le_refl _), Nat.sub_self, List.replicate_zero, List.append_nil, ← hl, List.take_length]
/-! ### a line, and the head, read again -/
theorem label_cases {n : Int} (h : 0 ≤ n ∧ n ≤ 26) : ∃ c : UInt8, labelF n = [c] ∧ nameLab c = n ∧ c ≠ 32 ∧ c ≠ 58 ∧ c ≠ 10 := by
  have hk : ∀ a : Fin 27, ∃ c : UInt8, labelF (a.val : Int) = [c] ∧ nameLab c = (a.val : Int) ∧ c ≠ 32 ∧ c ≠ 58 ∧ c ≠ 10 := by
    intro a
    refine ⟨(labelF (a.val : Int)).headD 0, ?_⟩
    revert a
    decide +kernel
  have := hk ⟨n.toNat, by omega⟩
  simpa [Int.toNat_of_nonneg h.1] using this
theorem tran_yes {s : List UInt8} {P : Nat} {a b : List Int} {c : UInt8} (h1 : lineCutB s = true) (h2 : weightsT (linePre s) P = some a) (h3 : weightsT (linePost s) P = some b) (hl : (lineName s).headD 0 = c)
    (hc : 0 ≤ nameLab c ∧ nameLab c ≤ 26 ∧ lineF ⟨nameLab c, a, b⟩ = s) : tranT s P = some ⟨nameLab c, a, b⟩ := by
  unfold tranT
  rw [if_pos h1, h2, h3]
  simp only [Option.bind_some]
  subst hl
  rw [if_pos hc]
theorem line_read {t : TranD} {P : Nat} (h : TranT P t) (hP : P ≤ 16) : tranT (lineF t) P = some t := by
  obtain ⟨c, h1, h2, h3, h4, _⟩ := label_cases h.lab
  have hl : lineF t = [c] ++ 32 :: 58 :: (sideF t.pre ++ 32 :: 62 :: sideF t.post) := by unfold lineF; rw [h1]; simp
  have c1 : Lib.cut (lineF t) [32, 58] = ([c], sideF t.pre ++ 32 :: 62 :: sideF t.post, true) := by rw [hl]; exact cut_at (by simp; exact fun e => h4 e.symm) (by decide)
  have c2 : Lib.cut (sideF t.pre ++ 32 :: 62 :: sideF t.post) [32, 62] = (sideF t.pre, sideF t.post, true) := cut_at (side_not h.pre hP (by decide) (by decide) (by decide)) (by decide)
  have r1 : lineName (lineF t) = [c] := by unfold lineName; rw [c1]
  have r2 : lineRest (lineF t) = sideF t.pre ++ 32 :: 62 :: sideF t.post := by unfold lineRest; rw [c1]
  have r3 : linePre (lineF t) = sideF t.pre := by unfold linePre; rw [r2, c2]
  have r4 : linePost (lineF t) = sideF t.post := by unfold linePost; rw [r2, c2]
  have := tran_yes (s := lineF t) (P := P) (a := t.pre) (b := t.post) (c := c) (by unfold lineCutB; rw [r1, r2, c1, c2]; rfl) (by rw [r3]; exact side_read h.pre hP) (by rw [r4]; exact side_read h.post hP) (by rw [r1]; rfl) (by rw [h2]; exact ⟨h.lab.1, h.lab.2, rfl⟩)
  rw [this, h2]
theorem head_read {P : Nat} (hP : P ≤ 16) : headF (headT P) = some P := by
  unfold headF
  have : Lib.trimPrefix (headT P) [110, 101, 116, 32] = Lib.decDigits P := by
    unfold Lib.trimPrefix headT
    rw [if_pos (by unfold Lib.hasPrefix; rw [List.isPrefixOf_iff_prefix]; exact ⟨_, rfl⟩)]
    rfl
  rw [this, atoi_dec (by omega)]
  simp only
  rw [if_pos ⟨by omega, by omega, by simp⟩, Int.toNat_natCast]
theorem line_ten {t : TranD} {P : Nat} (h : TranT P t) (hP : P ≤ 16) : 10 ∉ lineF t := by
  obtain ⟨c, h1, _, _, _, h5⟩ := label_cases h.lab
  unfold lineF
  rw [h1]
  have a := side_not h.pre hP (c := 10) (by decide) (by decide) (by decide)
  have b := side_not h.post hP (c := 10) (by decide) (by decide) (by decide)
  simp [a, b]
  exact fun e => h5 e.symm
theorem head_ten {P : Nat} (hP : P ≤ 16) : 10 ∉ headT P := by
  unfold headT
  have := dec_not (p := P) (by omega) (c := 10) (by decide)
  simp [this]
theorem body_read {P : Nat} (hP : P ≤ 16) : ∀ (ts : List TranD) (N : NetD), N.places.toNat = P → (∀ t ∈ ts, TranT P t) → N.trans.length + ts.length ≤ 24 → parseL (N.trans.length + 1) N (splitL (bodyT ts)) = (⟨N.places, N.trans ++ ts⟩, 0, 0)
  | [], N, _, _, _ => by
    show parseL _ N (splitL []) = _
    rw [splitL, parse_end N (by omega)]
    simp
  | t :: r, N, hN, h, hl => by
    have ht := h t (by simp)
    have hb : bodyT (t :: r) = lineF t ++ 10 :: bodyT r := by unfold bodyT; simp
    simp only [List.length_cons] at hl
    rw [hb, splitL_more (line_ten ht hP), parse_tran _ (by omega) (by omega), hN, line_read ht hP]
    simp only
    have := body_read hP r ⟨N.places, N.trans ++ [t]⟩ hN (fun u hu => h u (List.mem_cons_of_mem _ hu)) (by simp; omega)
    simp only [List.length_append, List.length_singleton] at this
    rw [this]
    simp
theorem netOk_text {N : NetD} (h : netOkB N = true) : (0 ≤ N.places ∧ N.places ≤ 16) ∧ N.trans.length ≤ 24 ∧ ∀ t ∈ N.trans, TranT N.places.toNat t := by
  have hp : 0 ≤ N.places ∧ N.places ≤ 16 ∧ N.trans.length ≤ 24 := by
    unfold netOkB at h
    simp only [Bool.and_eq_true, decide_eq_true_eq] at h
    exact ⟨h.1.1.1, h.1.1.2, h.1.2⟩
  refine ⟨⟨hp.1, hp.2.1⟩, hp.2.2, fun t ht => ?_⟩
  obtain ⟨k, hk, rfl⟩ := List.getElem_of_mem ht
  have F := netOk_tr h hk
  have e : N.tr k = N.trans[k] := by unfold NetD.tr; simp [hk]
  rw [e] at F
  have := F.pre
  have := F.post
  exact ⟨⟨F.lab0, F.lab1⟩, ⟨by omega, F.preW⟩, ⟨by omega, F.postW⟩⟩
theorem text_netOk {N : NetD} (h1 : 0 ≤ N.places ∧ N.places ≤ 16) (h2 : N.trans.length ≤ 24) (h3 : ∀ t ∈ N.trans, TranT N.places.toNat t) : netOkB N = true := by
  unfold netOkB
  simp only [h1.1, h1.2, h2, decide_true, Bool.true_and, List.all_eq_true]
  intro t ht
  have F := h3 t ht
  unfold tranOkB
  have hb : ∀ {P : Nat} {w : List Int}, RowT P w → w.any badW = false := fun hw => by
    rw [List.any_eq_false]
    intro x hx hb
    have := hw.w x hx
    unfold badW at hb; simp at hb; omega
  have l1 : (t.pre.length : Int) = N.places := by have := F.pre.len; omega
  have l2 : (t.post.length : Int) = N.places := by have := F.post.len; omega
  simp [F.lab.1, F.lab.2, l1, l2, hb F.pre, hb F.post]
/-- Parse inverts Print -/
theorem parse_print {N : NetD} (h : netOkB N = true) : parseF (printF N).1 = (N, 0, 0) := by
  obtain ⟨h1, h2, h3⟩ := netOk_text h
  have hP : N.places.toNat ≤ 16 := by omega
  unfold printF
  rw [if_pos h]
  simp only
  unfold parseF
  have e : headT N.places.toNat ++ [10] ++ bodyT N.trans = headT N.places.toNat ++ 10 :: bodyT N.trans := by simp
  rw [e, splitL_more (head_ten hP), parse_head, head_read hP]
  simp only
  have := body_read hP N.trans ⟨(N.places.toNat : Int), []⟩ (by show ((N.places.toNat : Nat) : Int).toNat = _; rw [Int.toNat_natCast]) h3 (by simpa using h2)
  simp only [List.length_nil, List.nil_append] at this
  rw [this]
  have e2 : ((N.places.toNat : Nat) : Int) = N.places := by omega
  rw [e2]
/-- what was read is right, and is written so -/
theorem print_parse {s : List UInt8} {M : NetD} {j : Nat} (e : parseF s = (M, j, 0)) : printF M = (s, 0) := by
  obtain ⟨h1, h2, h3, h4⟩ := parse_good e
  unfold printF
  rw [if_pos (text_netOk h1 h2 h3), ← h4]
end Go.Tok
