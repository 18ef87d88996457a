/- Contracts, for every input that reads as data, of the marking functions at, Covers, Same, Right and of the library's IndexFunc, ContainsFunc at '[]int': what each call answers, the world left as it was. Conditions: none beyond how the arguments read. -/
import Derived.Test.YtjpapgbdhflgnaaProg
import Derived.Test.YtjpapgbdhflgnaaPA
import Derived.BigQuiet
import Derived.Deep.QuietTactic
namespace Go.Proofs.Ytjpapgbdhflgnaa
open Go.RowKit Go.Tok
set_option linter.unusedVariables false

set_option maxHeartbeats 400000 in
theorem at_calls (v : Value) (xs : List Int) (p : Int) (w : World) (h0 : 0 ≤ p) (h : Ints w v xs) :
    Calls Try.prog 61 #[v, .int .i64 p] w fun e w' => e = .returned (.int .i64 (nth xs p.toNat)) ∧ w = w' := by
  obtain ⟨a, cap, rfl, hlc, hcap⟩ := h.len
  obtain ⟨k, rfl⟩ := Int.eq_ofNat_of_zero_le h0
  by_cases hk : k < xs.length
  · obtain ⟨b, o, rfl, hcell⟩ := h.cell hk
    go_enter Try.func61, Try.ntmps61
    go_wp2
    go_ret
    exact ⟨rfl, rfl⟩
  · go_enter Try.func61, Try.ntmps61
    go_wp2
    go_ret
    exact ⟨ret_i64 (nth_ge (by simpa using hk)).symm, rfl⟩

set_option maxHeartbeats 400000 in
theorem Covers_calls (v u : Value) (xs ys : List Int) (w : World) (hv : Ints w v xs) (hu : Ints w u ys) :
    Calls Try.prog 34 #[v, u] w fun e w' => e = .returned (.bool (coversB xs ys)) ∧ w = w' := by
  obtain ⟨a, cap, rfl, hlc, hcap⟩ := hv.len
  obtain ⟨a', cap', rfl, hlc', hcap'⟩ := hu.len
  rcases Nat.lt_or_ge xs.length ys.length with hle | hle
  all_goals
    go_enter Try.func34, Try.ntmps34
    go_wp2
    go_loop [11] (fun i => ∃ k : Nat, k ≤ max xs.length ys.length ∧ i = .int .i64 k ∧ CovUpto xs ys k) (fun i => max xs.length ys.length - (intOf i).toNat)
    case atStart => exact ⟨0, Nat.zero_le _, rfl, CovUpto.zero _ _⟩
    case round =>
      obtain ⟨k, hk, rfl, hall⟩ := hrel
      go_wp2_with (go_at_call 61; refine (at_calls _ _ _ _ (by omega) (by assumption)).mono ?_; rintro e w' ⟨rfl, rfl⟩)
      · go_ret
        exact ⟨ret_bool (coversB_no (k := k) (by assumption)).symm, rfl⟩
      · go_round
        case rel => exact ⟨k + 1, by omega, by go_num, hall.succ (by assumption)⟩
        case measure => simp [intOf]; omega
      · go_ret
        exact ⟨ret_bool (hall.all (by omega)).symm, rfl⟩

set_option maxHeartbeats 400000 in
theorem IndexFunc_calls (v : Value) (xs : List Int) (g : Nat) (lb : Array Value) (p : Int → Bool) (w : World) (eg : ∀ args w, (callFunc g args).run Try.prog w = .ok (.enter g args) w)
    (hv : Ints w v xs) (hg : Answers Try.prog g lb p) :
    Calls Try.prog 68 #[v, .func (.func g) #[] lb] w fun e w' => e = .returned (.int .i64 (firstOf p xs)) ∧ w = w' := by
  obtain ⟨a, cap, rfl, hlc, hcap⟩ := hv.len
  go_enter Try.func68, Try.ntmps68
  go_wp2
  go_loop [8] (fun i => ∃ k : Nat, k ≤ xs.length ∧ i = .int .i64 k ∧ NoneUpto p xs k) (fun i => xs.length - (intOf i).toNat)
  case atStart => exact ⟨0, Nat.zero_le _, rfl, NoneUpto.zero _ _⟩
  case round =>
    obtain ⟨k, hk, rfl, hall⟩ := hrel
    by_cases hlt : k < xs.length
    · obtain ⟨b, o, rfl, hcell⟩ := hv.cell hlt
      have hr := hv.range k
      cases hp : p (nth xs k)
      · have hcall := hg w (nth xs k) hr
        rw [hp] at hcall
        go_wp2_with (go_at_fn g; refine hcall.mono ?_; rintro e w' ⟨rfl, rfl⟩)
        go_round
        case rel => exact ⟨k + 1, by omega, by go_num, hall.succ hp⟩
        case measure => simp [intOf]; omega
      · have hcall := hg w (nth xs k) hr
        rw [hp] at hcall
        go_wp2_with (go_at_fn g; refine hcall.mono ?_; rintro e w' ⟨rfl, rfl⟩)
        go_ret
        exact ⟨ret_i64 (firstOf_hit hall hlt hp).symm, rfl⟩
    · obtain rfl : k = xs.length := by omega
      go_wp2
      go_ret
      exact ⟨ret_i64 (firstOf_miss hall).symm, rfl⟩

set_option maxHeartbeats 400000 in
theorem ContainsFunc_calls (v : Value) (xs : List Int) (g : Nat) (lb : Array Value) (p : Int → Bool) (w : World) (eg : ∀ args w, (callFunc g args).run Try.prog w = .ok (.enter g args) w)
    (hv : Ints w v xs) (hg : Answers Try.prog g lb p) :
    Calls Try.prog 56 #[v, .func (.func g) #[] lb] w fun e w' => e = .returned (.bool (xs.any p)) ∧ w = w' := by
  go_enter Try.func56, Try.ntmps56
  go_wp2_with (go_at_call 68; refine (IndexFunc_calls _ _ _ _ _ _ eg hv hg).mono ?_; rintro e w' ⟨rfl, rfl⟩)
  go_ret
  exact ⟨ret_bool (firstOf_any p xs), rfl⟩

theorem Right1_answers : Answers Try.prog 79 #[] (fun n => decide (n < 0) || decide (n > 1000000)) := by
  intro W x hx
  by_cases h : x < 0
  · go_enter Try.func79, Try.ntmps79
    go_wp2
    go_ret
    exact ⟨ret_bool (by simp [h]), rfl⟩
  · have h : 0 ≤ x := by omega
    go_enter Try.func79, Try.ntmps79
    go_wp2
    all_goals go_ret
    all_goals exact ⟨ret_bool (by rw [Bool.eq_iff_iff]; simp; omega), rfl⟩

set_option maxHeartbeats 400000 in
theorem Right_calls (v : Value) (xs : List Int) (w : World) (hv : Ints w v xs) :
    Calls Try.prog 76 #[v] w fun e w' => e = .returned (.bool (rightB xs)) ∧ w = w' := by
  have eg : ∀ args w, (callFunc 79 args).run Try.prog w = .ok (.enter 79 args) w := (Go.Proofs.enters_of Try.func79 (by kernel_rfl) rfl)
  go_enter Try.func76, Try.ntmps76
  go_wp2_with (go_at_call 56; refine (ContainsFunc_calls _ _ _ _ _ _ eg hv Right1_answers).mono ?_; rintro e w' ⟨rfl, rfl⟩)
  go_ret
  exact ⟨ret_bool (rightB_def xs).symm, rfl⟩


theorem intTy : IntTy Try.prog 39 3 := ⟨Try.underlying39, by kernel_rfl⟩


end Go.Proofs.Ytjpapgbdhflgnaa

/- Contracts of the marking functions zip, Plus and Minus: the call answers the plain function's list and error, in new memory. Condition: lists of at most 17592186044416 elements. -/
namespace Go.Proofs.Ytjpapgbdhflgnaa
open Go.RowKit Go.Tok
set_option linter.unusedVariables false

set_option maxHeartbeats 1000000 in
theorem zip_own (v u : Value) (xs ys : List Int) (g : Nat) (lb : Array Value) (f : Int → Int → Int × Int) (w : World) (eg : ∀ args w, (callFunc g args).run Try.prog w = .ok (.enter g args) w)
    (hv : Ints w v xs) (hu : Ints w u ys) (hf : Answers2 Try.prog g lb f) (hI : ∀ x y, 0 ≤ x → x ≤ 1000000 → 0 ≤ y → y ≤ 1000000 → I64 (f x y).1) (hx : xs.length ≤ 17592186044416) (hy : ys.length ≤ 17592186044416) :
    Calls Try.prog 80 #[v, u, .func (.func g) #[] lb] w (RetIO 3 w (zipF f xs ys)) := by
  obtain ⟨a, cap, rfl, hlc, hcap⟩ := hv.len
  obtain ⟨a', cap', rfl, hlc', hcap'⟩ := hu.len
  obtain ⟨n, hn⟩ : ∃ n, n = max xs.length ys.length := ⟨_, rfl⟩
  have HN := Lib.hid hn
  have hn1 : xs.length ≤ n := by omega
  have hn2 : ys.length ≤ n := by omega
  have hn3 : n ≤ 17592186044416 := by omega
  have T := intTy
  by_cases hr : rightB xs = true
  · by_cases hr' : rightB ys = true
    · have hz : zipF f xs ys = zipB f xs ys := by simp [zipF, hr, hr']
      have HZ := Lib.hid hz
      clear hz
      rcases Nat.lt_or_ge xs.length ys.length with hle | hle
      all_goals
        have HNN : ((max xs.length ys.length : Nat) : Int) = n := by omega
        have HL := Lib.hid HNN
        clear hn HNN
        go_enter Try.func80, Try.ntmps80
        go_wp2_with (first | (go_at_call 76; refine (Right_calls _ _ _ (by assumption)).mono ?_; rintro e w' ⟨rfl, rfl⟩) | (at_make; refine mk_ints T _ _ w.heap.size n _ _ rfl rfl rfl rfl (by have := HN.out; omega) (by have := HN.out; omega) (by omega) (Nat.le_refl _) ?_; intro w1 hown hb hsz))
        rw [fillTo_zero (fun p => (f (nth xs p) (nth ys p)).1)] at hown
        go_loopw [28] (fun i wr => ∃ k : Nat, k ≤ n ∧ i = .int .i64 k ∧ AllOk f xs ys k ∧ OwnI 3 w.heap.size wr (.slice (some ⟨w.heap.size, 0, none⟩) n n) (fillTo (fun p => (f (nth xs p) (nth ys p)).1) n k) ∧ Gr w wr) (fun i _ => n - (intOf i).toNat)
        case atStart => exact ⟨0, Nat.zero_le _, rfl, AllOk.zero _ _ _, hown, hb⟩
        case round =>
          rename_i wr _
          obtain ⟨k, hk, rfl, hall, ho, hbr⟩ := hrel
          have hv' := hv.gr hbr
          have hu' := hu.gr hbr
          have hx1 := rightB_nth hr k
          have hy1 := rightB_nth hr' k
          have hcall := hf wr (nth xs k) (nth ys k) hx1.1 hx1.2 hy1.1 hy1.2
          by_cases hlt : k < n
          · have hc := ho.cell (i := k) (by rw [fillTo_length]; exact hlt)
            have hfz := ho.frozen k
            go_wp2_with (first | (go_at_call 61; refine (at_calls _ _ _ _ (by omega) (by assumption)).mono ?_; rintro e w' ⟨rfl, rfl⟩) | (go_at_fn g; refine hcall.mono ?_; rintro e w' ⟨rfl, rfl⟩))
            · go_ret2
              exact RetIO.nil (by rw [HZ.out]; exact zipB_bad hall (by rw [← HN.out]; exact hlt) (by simpa using ‹((f (nth xs k) (nth ys k)).2 != 0) = true›)) hbr
            · go_roundw
              case rel =>
                refine ⟨k + 1, by omega, by go_num, hall.succ (by simpa using ‹((f (nth xs k) (nth ys k)).2 != 0) = false›), ?_, hbr.setCell (Nat.le_refl _) _⟩
                rw [← fillTo_set]
                exact ho.set k _ (hI _ _ hx1.1 hx1.2 hy1.1 hy1.2)
              case measure => simp [intOf]; omega
          · go_wp2
            go_ret2
            refine RetIO.mk (by rw [HZ.out]; exact zipB_good hall (by rw [← HN.out]; omega)) ?_ (Nat.le_refl _) hbr
            have hi := ho
            rw [fillTo_all _ (by omega), HN.out] at hi
            rw [HN.out]
            exact hi
    · have HZ : Hid (zipF f xs ys = ([], 2)) := by
        have h' : rightB ys = false := by simpa using hr'
        show zipF f xs ys = ([], 2)
        simp [zipF, h']
      have hr'' : rightB ys = false := by simpa using hr'
      go_enter Try.func80, Try.ntmps80
      go_wp2_with (go_at_call 76; refine (Right_calls _ _ _ (by assumption)).mono ?_; rintro e w' ⟨rfl, rfl⟩)
      go_ret2
      exact RetIO.nil HZ.out (Gr.refl _)
  · have HZ : Hid (zipF f xs ys = ([], 2)) := by
      have h' : rightB xs = false := by simpa using hr
      show zipF f xs ys = ([], 2)
      simp [zipF, h']
    have hr' : rightB xs = false := by simpa using hr
    go_enter Try.func80, Try.ntmps80
    go_wp2_with (go_at_call 76; refine (Right_calls _ _ _ (by assumption)).mono ?_; rintro e w' ⟨rfl, rfl⟩)
    go_ret2
    exact RetIO.nil HZ.out (Gr.refl _)


theorem zip_calls (v u : Value) (xs ys : List Int) (g : Nat) (lb : Array Value) (f : Int → Int → Int × Int) (w : World) (eg : ∀ args w, (callFunc g args).run Try.prog w = .ok (.enter g args) w)
    (hv : Ints w v xs) (hu : Ints w u ys) (hf : Answers2 Try.prog g lb f) (hI : ∀ x y, 0 ≤ x → x ≤ 1000000 → 0 ≤ y → y ≤ 1000000 → I64 (f x y).1) (hx : xs.length ≤ 17592186044416) (hy : ys.length ≤ 17592186044416) :
    Calls Try.prog 80 #[v, u, .func (.func g) #[] lb] w (RetIE w (zipF f xs ys)) := (zip_own v u xs ys g lb f w eg hv hu hf hI hx hy).mono fun _ _ h => h.ie
theorem ret_ie {a b c d : Int} {r : Int × Int} (h : r = (c, d)) (ha : a = c) (hb : b = d) : Ending.returned (.tuple #[.int .i64 a, .int .i64 b]) = .returned (.tuple #[.int .i64 r.1, .int .i64 r.2]) := by rw [h, ha, hb]

theorem Plus1_answers : Answers2 Try.prog 82 #[] plusf := by
  intro W x y h1 h2 h3 h4
  by_cases h : x + y > 1000000
  · go_enter Try.func82, Try.ntmps82
    go_wp2
    go_ret2
    exact ⟨ret_ie (plusf_bad (by omega)) rfl rfl, rfl⟩
  · go_enter Try.func82, Try.ntmps82
    go_wp2
    go_ret2
    exact ⟨ret_ie (plusf_ok (by omega)) rfl rfl, rfl⟩

theorem Minus1_answers : Answers2 Try.prog 81 #[] minusf := by
  intro W x y h1 h2 h3 h4
  by_cases h : x < y
  · go_enter Try.func81, Try.ntmps81
    go_wp2
    go_ret2
    exact ⟨ret_ie (minusf_bad (by omega)) rfl rfl, rfl⟩
  · go_enter Try.func81, Try.ntmps81
    go_wp2
    go_ret2
    exact ⟨ret_ie (minusf_ok (by omega)) rfl rfl, rfl⟩

theorem plusf_I64 (x y : Int) (h1 : 0 ≤ x) (h2 : x ≤ 1000000) (h3 : 0 ≤ y) (h4 : y ≤ 1000000) : I64 (plusf x y).1 := by
  unfold plusf I64; split <;> simp only [] <;> omega
theorem minusf_I64 (x y : Int) (h1 : 0 ≤ x) (h2 : x ≤ 1000000) (h3 : 0 ≤ y) (h4 : y ≤ 1000000) : I64 (minusf x y).1 := by
  unfold minusf I64; split <;> simp only [] <;> omega

set_option maxHeartbeats 400000 in
theorem Plus_own (v u : Value) (xs ys : List Int) (w : World) (hv : Ints w v xs) (hu : Ints w u ys) (hx : xs.length ≤ 17592186044416) (hy : ys.length ≤ 17592186044416) :
    Calls Try.prog 78 #[v, u] w (RetIO 3 w (zipF plusf xs ys)) := by
  have hc := zip_own v u xs ys 82 #[] plusf w (Go.Proofs.enters_of Try.func82 (by kernel_rfl) rfl) hv hu Plus1_answers plusf_I64 hx hy
  go_enter Try.func78, Try.ntmps78
  go_wp2_with (go_at_call 80; refine hc.mono ?_; rintro e w' ⟨v', rfl, hi, hb⟩)
  go_ret2
  exact ⟨v', rfl, hi, hb⟩

set_option maxHeartbeats 400000 in
theorem Minus_own (v u : Value) (xs ys : List Int) (w : World) (hv : Ints w v xs) (hu : Ints w u ys) (hx : xs.length ≤ 17592186044416) (hy : ys.length ≤ 17592186044416) :
    Calls Try.prog 77 #[v, u] w (RetIO 3 w (zipF minusf xs ys)) := by
  have hc := zip_own v u xs ys 81 #[] minusf w (Go.Proofs.enters_of Try.func81 (by kernel_rfl) rfl) hv hu Minus1_answers minusf_I64 hx hy
  go_enter Try.func77, Try.ntmps77
  go_wp2_with (go_at_call 80; refine hc.mono ?_; rintro e w' ⟨v', rfl, hi, hb⟩)
  go_ret2
  exact ⟨v', rfl, hi, hb⟩
theorem Plus_calls (v u : Value) (xs ys : List Int) (w : World) (hv : Ints w v xs) (hu : Ints w u ys) (hx : xs.length ≤ 17592186044416) (hy : ys.length ≤ 17592186044416) :
    Calls Try.prog 78 #[v, u] w (RetIE w (zipF plusf xs ys)) := (Plus_own v u xs ys w hv hu hx hy).mono fun _ _ h => h.ie
theorem Minus_calls (v u : Value) (xs ys : List Int) (w : World) (hv : Ints w v xs) (hu : Ints w u ys) (hx : xs.length ≤ 17592186044416) (hy : ys.length ≤ 17592186044416) :
    Calls Try.prog 77 #[v, u] w (RetIE w (zipF minusf xs ys)) := (Minus_own v u xs ys w hv hu hx hy).mono fun _ _ h => h.ie
end Go.Proofs.Ytjpapgbdhflgnaa

/- Contracts of the library's slices functions at '[]int': Clone, Equal, Index, Contains. Condition of Clone: at most 17592186044416 elements. -/
namespace Go.Proofs.Ytjpapgbdhflgnaa
open Go.RowKit Go.Tok
set_option linter.unusedVariables false

set_option maxHeartbeats 1000000 in
theorem Clone_calls (v : Value) (xs : List Int) (w : World) (hv : Ints w v xs) (hl : xs.length ≤ 17592186044416) :
    Calls Try.prog 44 #[v] w fun e w' => ∃ v', e = .returned v' ∧ OwnI 3 w.heap.size w' v' xs ∧ Gr w w' := by
  have T := intTy
  rcases hv.form with ⟨rfl, rfl⟩ | ⟨ad, cap, rfl, h1, h2⟩
  · have he := fun w n c => Lib.run_eql_slice_nil (P := Try.prog) w 39 3 none 0 0 n c Try.underlying39
    go_enter Try.func44, Try.ntmps44
    go_wp2
    go_ret
    exact ⟨_, rfl, OwnI.nil _ _ _, Gr.refl _⟩
  · have he := fun w n c n' c' => Lib.run_eql_slice_nil (P := Try.prog) w 39 3 (some ad) n c n' c' Try.underlying39
    go_enter Try.func44, Try.ntmps44
    go_wp2_with (at_builtin; refine app_ints T _ _ w.heap.size (.slice (some ⟨w.heap.size, 0, none⟩) 0 0) (.slice (some ad) xs.length cap) [] xs rfl rfl rfl rfl (OwnI.lit rfl rfl rfl rfl (by simp) (by simp) (Nat.le_refl _)) (hv.alloc _) (by simpa using hl) (by simp) ?_; intro v' w' ho hgr _ _)
    go_ret
    exact ⟨_, rfl, ho, hgr w (Nat.le_refl _) (by (repeat (first | exact Gr.refl _ | assumption | apply Gr.alloc | apply Gr.drew | apply Gr.drewN | refine Gr.trans ?_ (by assumption))))⟩

set_option maxHeartbeats 1000000 in
theorem Equal_calls (v u : Value) (xs ys : List Int) (w : World) (hv : Ints w v xs) (hu : Ints w u ys) :
    Calls Try.prog 31 #[v, u] w fun e w' => e = .returned (.bool (eqB xs ys)) ∧ Gr w w' := by
  obtain ⟨a, cap, rfl, hlc, hcap⟩ := hv.len
  obtain ⟨a', cap', rfl, hlc', hcap'⟩ := hu.len
  by_cases hl : xs.length = ys.length
  · have hl1 : ((xs.length : Int) != ys.length) = false := by simp [hl]
    have HL := Lib.hid hl
    clear hl
    go_enter Try.func31, Try.ntmps31
    go_wp2
    go_loopw [13] (fun i wr => ∃ k : Nat, k ≤ xs.length ∧ i = .int .i64 k ∧ eqUpto xs ys k ∧ Gr w wr) (fun i _ => xs.length - (intOf i).toNat)
    case atStart => exact ⟨0, Nat.zero_le _, rfl, eqUpto.zero _ _, Gr.refl _⟩
    case round =>
      rename_i wr _
      obtain ⟨k, hk, rfl, hall, hgr⟩ := hrel
      by_cases hlt : k < xs.length
      · obtain ⟨b, o, rfl, hcell⟩ := (hv.gr hgr).cell hlt
        have hlt' : k < ys.length := by rw [← HL.out]; exact hlt
        obtain ⟨b', o', rfl, hcell'⟩ := (hu.gr hgr).cell hlt'
        have i1 : (0 : Int) ≤ (k : Int) := by omega
        have i2 : (k : Int) < (xs.length : Int) := by omega
        have i3 : (k : Int) < (ys.length : Int) := by omega
        go_wp2
        go_quiet (fail)
        go_wp2
        · go_ret
          exact ⟨ret_bool (eqB_no (k := k) (by simpa using ‹(nth xs k != nth ys k) = true›)).symm, hgr.drewN _⟩
        · go_roundw
          case rel => exact ⟨k + 1, by omega, by go_num, hall.succ (by simpa using ‹(nth xs k != nth ys k) = false›), hgr.drewN _⟩
          case measure => simp [intOf]; omega
      · go_wp2
        go_ret
        exact ⟨ret_bool (eqB_yes (hall.all HL.out (by omega))).symm, hgr⟩
  · have hl1 : ((xs.length : Int) != ys.length) = true := by simp; omega
    go_enter Try.func31, Try.ntmps31
    go_wp2
    go_ret
    exact ⟨ret_bool (eqB_len hl).symm, Gr.refl _⟩

end Go.Proofs.Ytjpapgbdhflgnaa

/- Contracts of the library's IndexFunc, ContainsFunc at '[][]int', where the function that is handed over answers at each of the rows. -/
namespace Go.Tok
open Go.RowKit
theorem Rd.row {w : World} {a : Option Addr} {n cap : Nat} {xs : List (List Int)} (h : Rd rowK w (.slice a n cap) xs) {i : Nat} (hi : i < xs.length) :
    ∃ b o u, a = some ⟨b, o, none⟩ ∧ w.cell? ⟨b, o + i, none⟩ = some u ∧ Ints w u (ix xs i) := by
  obtain ⟨b, o, vs, ha, ⟨u, rfl, hu⟩, hc⟩ := h.at_ hi
  refine ⟨b, o, u, ha, ?_, hu⟩
  have := hc 0 u rfl
  rwa [show o + i * rowK.size + 0 = o + i by show o + i * 1 + 0 = _; omega] at this
end Go.Tok
namespace Go.Proofs.Ytjpapgbdhflgnaa
open Go.RowKit Go.Tok
set_option linter.unusedVariables false

/-- the function g, bound to lb, answers p at each row of xs, in w0 and in every later world -/
def AnswersRow (P : Program) (g : Nat) (lb : Array Value) (xs : List (List Int)) (p : List Int → Bool) (w0 : World) : Prop :=
  ∀ (W : World) (u : Value) (x : List Int), x ∈ xs → Gr w0 W → Ints W u x → Calls P g (#[u] ++ lb) W fun e w' => e = .returned (.bool (p x)) ∧ Gr W w'

end Go.Proofs.Ytjpapgbdhflgnaa

/- Contracts of the library's IndexFunc, ContainsFunc at '[]api.Tran', where the function that is handed over answers at each of the transitions. -/
namespace Go.Proofs.Ytjpapgbdhflgnaa
open Go.RowKit Go.Tok
set_option linter.unusedVariables false

/-- the function g, bound to lb, answers p at each transition of ts, in w0 and in every later world -/
def AnswersTr (P : Program) (g : Nat) (lb : Array Value) (ts : List TranD) (p : TranD → Bool) (w0 : World) : Prop :=
  ∀ (W : World) (vp vq : Value) (t : TranD), t ∈ ts → Gr w0 W → I64 t.label → Ints W vp t.pre → Ints W vq t.post → Calls P g (#[.agg #[.int .i64 t.label, vp, vq]] ++ lb) W fun e w' => e = .returned (.bool (p t)) ∧ Gr W w'

set_option maxHeartbeats 400000 in
theorem IndexFuncTr_calls (v : Value) (ts : List TranD) (g : Nat) (lb : Array Value) (p : TranD → Bool) (w : World) (eg : ∀ args w, (callFunc g args).run Try.prog w = .ok (.enter g args) w)
    (hv : TransR w v ts) (hg : AnswersTr Try.prog g lb ts p w) :
    Calls Try.prog 57 #[v, .func (.func g) #[] lb] w fun e w' => e = .returned (.int .i64 (firstI p ts)) ∧ Gr w w' := by
  obtain ⟨a, cap, rfl, hlc, hcap⟩ := hv.len
  go_enter Try.func57, Try.ntmps57
  go_wp2
  go_loopw [8] (fun i wr => ∃ k : Nat, k ≤ ts.length ∧ i = .int .i64 k ∧ NoneI p ts k ∧ Gr w wr) (fun i _ => ts.length - (intOf i).toNat)
  case atStart => exact ⟨0, Nat.zero_le _, rfl, NoneI.zero _ _, Gr.refl _⟩
  case round =>
    rename_i wr _
    obtain ⟨k, hk, rfl, hall, hgr⟩ := hrel
    by_cases hlt : k < ts.length
    · obtain ⟨b, o, vp, vq, rfl, c0, c1, c2, hlab, hp, hq⟩ := (hv.gr hgr).at_ix hlt
      have hcall := hg wr vp vq (ix ts k) (ix_mem hlt) hgr hlab hp hq
      cases hb : p (ix ts k)
      · rw [hb] at hcall
        go_wp2_with (go_at_fn g; refine hcall.mono ?_; rintro e w' ⟨rfl, g2⟩)
        go_roundw
        case rel => exact ⟨k + 1, by omega, by go_num, hall.succ hb, by (repeat (first | exact Gr.refl _ | assumption | apply Gr.alloc | apply Gr.drew | apply Gr.drewN | refine Gr.trans ?_ (by assumption)))⟩
        case measure => simp [intOf]; omega
      · rw [hb] at hcall
        go_wp2_with (go_at_fn g; refine hcall.mono ?_; rintro e w' ⟨rfl, g2⟩)
        go_ret
        exact ⟨ret_i64 (firstI_hit hall hlt hb).symm, by (repeat (first | exact Gr.refl _ | assumption | apply Gr.alloc | apply Gr.drew | apply Gr.drewN | refine Gr.trans ?_ (by assumption)))⟩
    · obtain rfl : k = ts.length := by omega
      go_wp2
      go_ret
      exact ⟨ret_i64 (firstI_miss hall).symm, hgr⟩
set_option maxHeartbeats 400000 in
theorem ContainsFuncTr_calls (v : Value) (ts : List TranD) (g : Nat) (lb : Array Value) (p : TranD → Bool) (w : World) (eg : ∀ args w, (callFunc g args).run Try.prog w = .ok (.enter g args) w)
    (hv : TransR w v ts) (hg : AnswersTr Try.prog g lb ts p w) :
    Calls Try.prog 26 #[v, .func (.func g) #[] lb] w fun e w' => e = .returned (.bool (ts.any p)) ∧ Gr w w' := by
  go_enter Try.func26, Try.ntmps26
  go_wp2_with (go_at_call 57; refine (IndexFuncTr_calls _ _ _ _ _ _ eg hv hg).mono ?_; rintro e w' ⟨rfl, g1⟩)
  go_ret
  exact ⟨ret_bool (firstI_any p ts), g1⟩
end Go.Proofs.Ytjpapgbdhflgnaa

/- The largest of a list; contract of slices.Max at '[]int'. -/
namespace Go.Tok
set_option linter.unusedVariables false

/-- the largest of the first k + 1 -/
def maxTo (xs : List Int) : Nat → Int
  | 0 => nth xs 0
  | k + 1 => max (maxTo xs k) (nth xs (k + 1))
theorem maxTo_zero (xs : List Int) : maxTo xs 0 = nth xs 0 := rfl
theorem maxTo_succ (xs : List Int) (k : Nat) : maxTo xs (k + 1) = max (maxTo xs k) (nth xs (k + 1)) := rfl
theorem maxTo_step (xs : List Int) (k : Nat) : maxTo xs (k + 1) = if maxTo xs k < nth xs (k + 1) then nth xs (k + 1) else maxTo xs k := by
  rw [maxTo_succ]; split <;> omega
theorem maxTo_le (xs : List Int) (b : Int) (k : Nat) : maxTo xs k ≤ b ↔ ∀ i, i ≤ k → nth xs i ≤ b := by
  induction k with
  | zero =>
    rw [maxTo_zero]
    constructor
    · intro h i hi; obtain rfl : i = 0 := by omega
      exact h
    · intro h; exact h 0 (Nat.le_refl _)
  | succ k ih =>
    rw [maxTo_succ]
    constructor
    · intro h i hi
      have h1 := ih.1 (by omega)
      by_cases he : i = k + 1
      · subst he; omega
      · exact h1 i (by omega)
    · intro h
      have h1 := ih.2 fun i hi => h i (by omega)
      have h2 := h (k + 1) (Nat.le_refl _)
      omega
def maxF (xs : List Int) : Int := maxTo xs (xs.length - 1)
theorem maxF_def (xs : List Int) : maxF xs = maxTo xs (xs.length - 1) := rfl
theorem maxF_le {xs : List Int} (b : Int) : maxF (xs ++ [0]) ≤ b ↔ 0 ≤ b ∧ ∀ x ∈ xs, x ≤ b := by
  rw [maxF_def, maxTo_le]
  constructor
  · intro h
    refine ⟨?_, fun x hx => ?_⟩
    · have := h xs.length (by simp)
      rw [nth_lt (by simp)] at this
      simpa using this
    · obtain ⟨i, hi, rfl⟩ := List.getElem_of_mem hx
      have := h i (by simp; omega)
      rw [nth_lt (by simp; omega), List.getElem_append_left hi] at this
      exact this
  · rintro ⟨h0, h⟩ i hi
    by_cases hx : i < xs.length
    · rw [nth_lt (by simp; omega), List.getElem_append_left hx]
      exact h _ (List.getElem_mem hx)
    · by_cases hx2 : i < (xs ++ [0]).length
      · rw [nth_lt hx2, List.getElem_append_right (by omega)]; simpa using h0
      · rw [nth_ge (by omega)]; exact h0
theorem maxF_ge (xs : List Int) : 0 ≤ maxF (xs ++ [0]) := by
  have := (maxF_le (xs := xs) (-1))
  omega
attribute [irreducible] maxTo maxF
end Go.Tok
namespace Go.Proofs.Ytjpapgbdhflgnaa
open Go.RowKit Go.Tok
set_option linter.unusedVariables false

set_option maxHeartbeats 1000000 in
theorem Max_calls (v : Value) (xs : List Int) (w : World) (hv : Ints w v xs) (h0 : 0 < xs.length) :
    Calls Try.prog 53 #[v] w fun e w' => e = .returned (.int .i64 (maxF xs)) ∧ w = w' := by
  obtain ⟨a, cap, rfl, hlc, hcap⟩ := hv.len
  obtain ⟨b, o, rfl, c0⟩ := hv.cell h0
  rw [Nat.add_zero] at c0
  go_enter Try.func53, Try.ntmps53
  go_wp2_with fail
  go_loop [3, 4] (fun m i => ∃ k : Nat, k + 1 ≤ xs.length ∧ i = .int .i64 ((k : Int) + 1) ∧ m = .int .i64 (maxTo xs k)) (fun _ i => xs.length - (intOf i).toNat)
  case atStart => exact ⟨0, h0, rfl, by rw [maxTo_zero]⟩
  case round =>
    obtain ⟨k, hk, rfl, rfl⟩ := hrel
    by_cases hlt : k + 1 < xs.length
    · obtain ⟨_, _, hb, hcell⟩ := hv.cell hlt
      cases hb
      have e1 : ((k : Int) + 1) = ((k + 1 : Nat) : Int) := by simp
      have HE := Lib.hid e1
      have n1 : (0 : Int) ≤ ((k + 1 : Nat) : Int) := by omega
      have n2 : ((k + 1 : Nat) : Int) < (xs.length : Int) := by omega
      rw [e1]
      clear e1
      go_wp2_with fail
      go_round
      case rel => exact ⟨k + 1, by omega, by simp, by rw [maxTo_step]⟩
      case measure => simp [intOf]; omega
    · have hk' : xs.length - 1 = k := by omega
      have HK := Lib.hid hk'
      clear hk'
      go_wp2_with fail
      go_ret
      exact ⟨ret_i64 (by rw [maxF_def, HK.out]), rfl⟩
end Go.Proofs.Ytjpapgbdhflgnaa

/- Contract of the library's Clone at '[]api.Tran'. Condition: at most 1000000 transitions. -/
namespace Go.Proofs.Ytjpapgbdhflgnaa
open Go.RowKit Go.Tok
set_option linter.unusedVariables false

theorem trKTy : KTy Try.prog 26 48 trK 56 (.agg #[.int .i64 0, .slice none 0 0, .slice none 0 0]) := ⟨Try.underlying26, by kernel_rfl, rfl, by decide⟩

set_option maxHeartbeats 1000000 in
set_option maxRecDepth 100000 in
theorem CloneTr_calls (v : Value) (ts : List TranD) (w0 w : World) (hv : TransR w0 v ts) (g : Gr w0 w) (hl : ts.length ≤ 1000000) :
    Calls Try.prog 54 #[v] w fun e w' => ∃ v', e = .returned v' ∧ OwnR trK 48 w.heap.size (fun b => b < w0.heap.size) w' v' ts ∧ Gr w w' := by
  obtain ⟨a, cap, rfl, h1, h2⟩ := hv.len
  cases a with
  | none =>
    obtain ⟨rfl, -⟩ := trans_none hv
    have he := fun w n c n' c' => Lib.run_eql_slice_nil (P := Try.prog) w 26 48 none n c n' c' Try.underlying26
    go_enter Try.func54, Try.ntmps54
    go_wp2
    go_ret
    exact ⟨_, rfl, OwnR.nil _ _ _ _, Gr.refl _⟩
  | some ad =>
    have he := fun w n c n' c' => Lib.run_eql_slice_nil (P := Try.prog) w 26 48 (some ad) n c n' c' Try.underlying26
    have hr := rd_of_trans hv
    obtain ⟨vss, l1, l2, l3⟩ := hr.cells (by decide)
    have hy : ∀ i, i < ts.length → On (fun b => b < w0.heap.size ∧ (Value.slice (some ⟨w.heap.size, 0, none⟩) 0 0).ownBlock ≠ some b) (fun w => trK.R w (vss.getD i []) (ix ts i)) (w.alloc (.cells #[] 48)) := fun i hi =>
      (on_old (fun _ _ k h => trK.mono k h) (l2 i hi) (g.alloc _).kp).mono fun b _ hb => ⟨hb, fun e => by have e2 : w.heap.size = b := Option.some.inj e; have := g.le; omega⟩
    have hown : OwnR trK 48 w.heap.size (fun b => b < w0.heap.size) (w.alloc (.cells #[] 48)) (.slice (some ⟨w.heap.size, 0, none⟩) 0 0) [] := OwnR.lit [] rfl rfl rfl rfl rfl (by simp) (Nat.le_refl _) (by simp)
    have HY := Lib.hid hy
    have L3 := Lib.hid l3
    clear hy l2 l3
    go_enter Try.func54, Try.ntmps54
    go_wp2_with (at_builtin; refine app_many trKTy _ _ w.heap.size (fun b => b < w0.heap.size) (.slice (some ⟨w.heap.size, 0, none⟩) 0 0) (.slice (some ad) ts.length cap) [] ts vss rfl rfl rfl rfl hown ((hr.gr g).alloc _) l1 (fun ad' n c e j x hj => by cases e; exact cell_gr (L3.out j x hj) (g.alloc _)) HY.out (by simp only [List.length_nil]; omega) (by simp only [List.length_nil]; unfold maxLen; omega) (by simp) ?_; intro v' w' ho hgr _ _)
    go_ret
    exact ⟨_, rfl, ho, hgr w (Nat.le_refl _) (by (repeat (first | exact Gr.refl _ | assumption | apply Gr.alloc | apply Gr.drew | apply Gr.drewN | refine Gr.trans ?_ (by assumption))))⟩
end Go.Proofs.Ytjpapgbdhflgnaa
