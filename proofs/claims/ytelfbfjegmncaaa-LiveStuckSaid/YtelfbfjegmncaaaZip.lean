/- Contracts of the marking functions zip, Plus and Minus: the call answers the plain function's list and error, in new memory. Condition: lists of at most 17592186044416 elements. -/
import Derived.Test.YtelfbfjegmncaaaRetO
import Derived.Test.YtelfbfjegmncaaaMark
import Derived.Test.YtelfbfjegmncaaaMarkLaw
namespace Go.Proofs.Ytelfbfjegmncaaa
open Go.RowKit Go.Tok
set_option linter.unusedVariables false

set_option maxHeartbeats 1000000 in
theorem zip_own (v u : Value) (xs ys : List Int) (g : Nat) (lb : Array Value) (f : Int → Int → Int × Int) (w : World) (eg : ∀ args w, (callFunc g args).run Try.prog w = .ok (.enter g args) w)
    (hv : Ints w v xs) (hu : Ints w u ys) (hf : Answers2 Try.prog g lb f) (hI : ∀ x y, 0 ≤ x → x ≤ 1000000 → 0 ≤ y → y ≤ 1000000 → I64 (f x y).1) (hx : xs.length ≤ 17592186044416) (hy : ys.length ≤ 17592186044416) :
    Calls Try.prog 113 #[v, u, .func (.func g) #[] lb] w (RetIO 3 w (zipF f xs ys)) := by
  obtain ⟨a, cap, rfl, hlc, hcap⟩ := hv.len
  obtain ⟨a', cap', rfl, hlc', hcap'⟩ := hu.len
  obtain ⟨n, hn⟩ : ∃ n, n = max xs.length ys.length := ⟨_, rfl⟩
  have HN := Lib.hid hn
  have hn1 : xs.length ≤ n := by omega
  have hn2 : ys.length ≤ n := by omega
  have hn3 : n ≤ 17592186044416 := by omega
  have T := intTy
  by_cases hr : rightB xs = true
  · by_cases hr' : rightB ys = true
    · have hz : zipF f xs ys = zipB f xs ys := by simp [zipF, hr, hr']
      have HZ := Lib.hid hz
      clear hz
      rcases Nat.lt_or_ge xs.length ys.length with hle | hle
      all_goals
        have HNN : ((max xs.length ys.length : Nat) : Int) = n := by omega
        have HL := Lib.hid HNN
        clear hn HNN
        go_enter Try.func113, Try.ntmps113
        go_wp2_with (first | (go_at_call 105; refine (Right_calls _ _ _ (by assumption)).mono ?_; rintro e w' ⟨rfl, rfl⟩) | (at_make; refine mk_ints T _ _ w.heap.size n _ _ rfl rfl rfl rfl (by have := HN.out; omega) (by have := HN.out; omega) (by omega) (Nat.le_refl _) ?_; intro w1 hown hb hsz))
        rw [fillTo_zero (fun p => (f (nth xs p) (nth ys p)).1)] at hown
        go_loopw [28] (fun i wr => ∃ k : Nat, k ≤ n ∧ i = .int .i64 k ∧ AllOk f xs ys k ∧ OwnI 3 w.heap.size wr (.slice (some ⟨w.heap.size, 0, none⟩) n n) (fillTo (fun p => (f (nth xs p) (nth ys p)).1) n k) ∧ Gr w wr) (fun i _ => n - (intOf i).toNat)
        case atStart => exact ⟨0, Nat.zero_le _, rfl, AllOk.zero _ _ _, hown, hb⟩
        case round =>
          rename_i wr _
          obtain ⟨k, hk, rfl, hall, ho, hbr⟩ := hrel
          have hv' := hv.gr hbr
          have hu' := hu.gr hbr
          have hx1 := rightB_nth hr k
          have hy1 := rightB_nth hr' k
          have hcall := hf wr (nth xs k) (nth ys k) hx1.1 hx1.2 hy1.1 hy1.2
          by_cases hlt : k < n
          · have hc := ho.cell (i := k) (by rw [fillTo_length]; exact hlt)
            have hfz := ho.frozen k
            go_wp2_with (first | (go_at_call 126; refine (at_calls _ _ _ _ (by omega) (by assumption)).mono ?_; rintro e w' ⟨rfl, rfl⟩) | (go_at_fn g; refine hcall.mono ?_; rintro e w' ⟨rfl, rfl⟩))
            · go_ret2
              exact RetIO.nil (by rw [HZ.out]; exact zipB_bad hall (by rw [← HN.out]; exact hlt) (by simpa using ‹((f (nth xs k) (nth ys k)).2 != 0) = true›)) hbr
            · go_roundw
              case rel =>
                refine ⟨k + 1, by omega, by go_num, hall.succ (by simpa using ‹((f (nth xs k) (nth ys k)).2 != 0) = false›), ?_, hbr.setCell (Nat.le_refl _) _⟩
                rw [← fillTo_set]
                exact ho.set k _ (hI _ _ hx1.1 hx1.2 hy1.1 hy1.2)
              case measure => simp [intOf]; omega
          · go_wp2
            go_ret2
            refine RetIO.mk (by rw [HZ.out]; exact zipB_good hall (by rw [← HN.out]; omega)) ?_ (Nat.le_refl _) hbr
            have hi := ho
            rw [fillTo_all _ (by omega), HN.out] at hi
            rw [HN.out]
            exact hi
    · have HZ : Hid (zipF f xs ys = ([], 2)) := by
        have h' : rightB ys = false := by simpa using hr'
        show zipF f xs ys = ([], 2)
        simp [zipF, h']
      have hr'' : rightB ys = false := by simpa using hr'
      go_enter Try.func113, Try.ntmps113
      go_wp2_with (go_at_call 105; refine (Right_calls _ _ _ (by assumption)).mono ?_; rintro e w' ⟨rfl, rfl⟩)
      go_ret2
      exact RetIO.nil HZ.out (Gr.refl _)
  · have HZ : Hid (zipF f xs ys = ([], 2)) := by
      have h' : rightB xs = false := by simpa using hr
      show zipF f xs ys = ([], 2)
      simp [zipF, h']
    have hr' : rightB xs = false := by simpa using hr
    go_enter Try.func113, Try.ntmps113
    go_wp2_with (go_at_call 105; refine (Right_calls _ _ _ (by assumption)).mono ?_; rintro e w' ⟨rfl, rfl⟩)
    go_ret2
    exact RetIO.nil HZ.out (Gr.refl _)


theorem zip_calls (v u : Value) (xs ys : List Int) (g : Nat) (lb : Array Value) (f : Int → Int → Int × Int) (w : World) (eg : ∀ args w, (callFunc g args).run Try.prog w = .ok (.enter g args) w)
    (hv : Ints w v xs) (hu : Ints w u ys) (hf : Answers2 Try.prog g lb f) (hI : ∀ x y, 0 ≤ x → x ≤ 1000000 → 0 ≤ y → y ≤ 1000000 → I64 (f x y).1) (hx : xs.length ≤ 17592186044416) (hy : ys.length ≤ 17592186044416) :
    Calls Try.prog 113 #[v, u, .func (.func g) #[] lb] w (RetIE w (zipF f xs ys)) := (zip_own v u xs ys g lb f w eg hv hu hf hI hx hy).mono fun _ _ h => h.ie
theorem ret_ie {a b c d : Int} {r : Int × Int} (h : r = (c, d)) (ha : a = c) (hb : b = d) : Ending.returned (.tuple #[.int .i64 a, .int .i64 b]) = .returned (.tuple #[.int .i64 r.1, .int .i64 r.2]) := by rw [h, ha, hb]

theorem Plus1_answers : Answers2 Try.prog 115 #[] plusf := by
  intro W x y h1 h2 h3 h4
  by_cases h : x + y > 1000000
  · go_enter Try.func115, Try.ntmps115
    go_wp2
    go_ret2
    exact ⟨ret_ie (plusf_bad (by omega)) rfl rfl, rfl⟩
  · go_enter Try.func115, Try.ntmps115
    go_wp2
    go_ret2
    exact ⟨ret_ie (plusf_ok (by omega)) rfl rfl, rfl⟩

theorem Minus1_answers : Answers2 Try.prog 114 #[] minusf := by
  intro W x y h1 h2 h3 h4
  by_cases h : x < y
  · go_enter Try.func114, Try.ntmps114
    go_wp2
    go_ret2
    exact ⟨ret_ie (minusf_bad (by omega)) rfl rfl, rfl⟩
  · go_enter Try.func114, Try.ntmps114
    go_wp2
    go_ret2
    exact ⟨ret_ie (minusf_ok (by omega)) rfl rfl, rfl⟩

theorem plusf_I64 (x y : Int) (h1 : 0 ≤ x) (h2 : x ≤ 1000000) (h3 : 0 ≤ y) (h4 : y ≤ 1000000) : I64 (plusf x y).1 := by
  unfold plusf I64; split <;> simp only [] <;> omega
theorem minusf_I64 (x y : Int) (h1 : 0 ≤ x) (h2 : x ≤ 1000000) (h3 : 0 ≤ y) (h4 : y ≤ 1000000) : I64 (minusf x y).1 := by
  unfold minusf I64; split <;> simp only [] <;> omega

set_option maxHeartbeats 400000 in
theorem Plus_own (v u : Value) (xs ys : List Int) (w : World) (hv : Ints w v xs) (hu : Ints w u ys) (hx : xs.length ≤ 17592186044416) (hy : ys.length ≤ 17592186044416) :
    Calls Try.prog 80 #[v, u] w (RetIO 3 w (zipF plusf xs ys)) := by
  have hc := zip_own v u xs ys 115 #[] plusf w (Go.Proofs.enters_of Try.func115 (by kernel_rfl) rfl) hv hu Plus1_answers plusf_I64 hx hy
  go_enter Try.func80, Try.ntmps80
  go_wp2_with (go_at_call 113; refine hc.mono ?_; rintro e w' ⟨v', rfl, hi, hb⟩)
  go_ret2
  exact ⟨v', rfl, hi, hb⟩

set_option maxHeartbeats 400000 in
theorem Minus_own (v u : Value) (xs ys : List Int) (w : World) (hv : Ints w v xs) (hu : Ints w u ys) (hx : xs.length ≤ 17592186044416) (hy : ys.length ≤ 17592186044416) :
    Calls Try.prog 79 #[v, u] w (RetIO 3 w (zipF minusf xs ys)) := by
  have hc := zip_own v u xs ys 114 #[] minusf w (Go.Proofs.enters_of Try.func114 (by kernel_rfl) rfl) hv hu Minus1_answers minusf_I64 hx hy
  go_enter Try.func79, Try.ntmps79
  go_wp2_with (go_at_call 113; refine hc.mono ?_; rintro e w' ⟨v', rfl, hi, hb⟩)
  go_ret2
  exact ⟨v', rfl, hi, hb⟩
theorem Plus_calls (v u : Value) (xs ys : List Int) (w : World) (hv : Ints w v xs) (hu : Ints w u ys) (hx : xs.length ≤ 17592186044416) (hy : ys.length ≤ 17592186044416) :
    Calls Try.prog 80 #[v, u] w (RetIE w (zipF plusf xs ys)) := (Plus_own v u xs ys w hv hu hx hy).mono fun _ _ h => h.ie
theorem Minus_calls (v u : Value) (xs ys : List Int) (w : World) (hv : Ints w v xs) (hu : Ints w u ys) (hx : xs.length ≤ 17592186044416) (hy : ys.length ≤ 17592186044416) :
    Calls Try.prog 79 #[v, u] w (RetIE w (zipF minusf xs ys)) := (Minus_own v u xs ys w hv hu hx hy).mono fun _ _ h => h.ie
end Go.Proofs.Ytelfbfjegmncaaa
