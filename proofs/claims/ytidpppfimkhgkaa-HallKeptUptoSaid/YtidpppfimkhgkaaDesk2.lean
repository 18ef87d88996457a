/- Contracts of desk's item, of the library's Clip, Clone at '[]api.Item', and of begin. -/
import Derived.Test.YtidpppfimkhgkaaDesk1
namespace Go.Proofs.Ytidpppfimkhgkaa
open Go.RowKit Go.Tok
set_option linter.unusedVariables false
set_option linter.unusedSimpArgs false
set_option maxHeartbeats 1000000 in
set_option maxRecDepth 100000 in
theorem ClipItem_calls (a : Option Addr) (n c : Nat) (xs : List ItemD) (w : World) (hv : Rd itemK w (.slice a n c) xs) :
    Calls Try.prog 162 #[.slice a n c] w fun e w' => e = .returned (.slice a xs.length xs.length) ∧ Rd itemK w (.slice a xs.length xs.length) xs ∧ w = w' := by
  have hl : n = xs.length ∧ xs.length ≤ c ∧ c ≤ 9223372036854775807 := by
    obtain ⟨a', c', h, h1, h2⟩ := hv.len
    cases h; exact ⟨rfl, h1, h2⟩
  obtain ⟨rfl, hc, hc2⟩ := hl
  rcases hv.form with ⟨h, rfl⟩ | ⟨ad, cap, h, h1, h2⟩
  · cases h
    have HR : Rd itemK w (.slice none 0 0) [] := Rd.nil _
    go_enter Try.func162, Try.ntmps162
    go_wp2
    go_ret
    exact ⟨rfl, HR, rfl⟩
  · cases h
    have HR : Rd itemK w (.slice (some ad) xs.length xs.length) xs := by
      by_cases h0 : xs.length = 0
      · obtain rfl : xs = [] := List.eq_nil_of_length_eq_zero h0
        exact rd_mk (a := some ad) rfl (Nat.le_refl _) (by unfold maxLen; simp) (fun h => by cases h) (fun i hi => by simp at hi)
      · obtain ⟨b, o, vs, hb, _⟩ := hv.at_ (i := 0) (by omega)
        cases hb
        have := hv.sub (i := 0) (m := xs.length) (c := xs.length) (o' := o) (by omega) (Nat.le_refl _) (by omega) (by omega)
        rwa [List.drop_zero, List.take_length] at this
    go_enter Try.func162, Try.ntmps162
    go_wp2
    go_ret
    exact ⟨rfl, HR, rfl⟩
theorem item_okI {w : World} {v : Value} {xs : List ItemD} (hv : Rd itemK w v xs) : ∀ y ∈ xs, itemI y := by
  intro y hy
  obtain ⟨a, c, rfl, _, _⟩ := hv.len
  obtain ⟨i, hi, rfl⟩ := List.getElem_of_mem hy
  obtain ⟨_, _, _, _, _, _, h⟩ := hv.item hi
  rwa [ix_lt hi] at h
set_option maxHeartbeats 1000000 in
set_option maxRecDepth 100000 in
theorem CloneItem_calls (v : Value) (xs : List ItemD) (w : World) (hv : Rd itemK w v xs) (hl : xs.length ≤ 5864062014805) :
    Calls Try.prog 164 #[v] w fun e w' => ∃ v', e = .returned v' ∧ OwnR itemK 156 w.heap.size (fun _ => False) w' v' xs ∧ Gr w w' := by
  have T := itemTy
  rcases hv.form with ⟨rfl, rfl⟩ | ⟨ad, cap, rfl, h1, h2⟩
  · have he := fun w n c n' c' => Lib.run_eql_slice_nil (P := Try.prog) w 64 156 none n c n' c' Try.underlying64
    go_enter Try.func164, Try.ntmps164
    go_wp2
    go_ret
    exact ⟨_, rfl, OwnR.nil _ _ _ _, Gr.refl _⟩
  · have he := fun w n c n' c' => Lib.run_eql_slice_nil (P := Try.prog) w 64 156 (some ad) n c n' c' Try.underlying64
    have hown : OwnR itemK 156 w.heap.size (fun _ => False) (w.alloc (.cells #[] 156)) (.slice (some ⟨w.heap.size, 0, none⟩) 0 0) [] := OwnR.lit [] rfl rfl rfl rfl rfl (by simp) (Nat.le_refl _) (by simp)
    have hI := item_okI hv
    go_enter Try.func164, Try.ntmps164
    go_wp2_with (at_builtin; go_loud (refine app_flat T _ _ w.heap.size (fun _ => False) _ _ [] xs (by rfl) (by rfl) (by rfl) (by rfl) hown (hv.alloc _) hI (by simp only [List.length_nil]; omega) (by simp only [List.length_nil]; unfold maxLen; omega) (by simp) ?_; intro v' w' ho hgr _ _))
    go_ret
    exact ⟨_, rfl, ho, hgr w (Nat.le_refl _) ((Gr.refl _).alloc _)⟩
def RetIt (w : World) (r : ItemD × Int) (e : Ending) (w' : World) : Prop := e = .returned (.tuple #[itemV r.1, .int .i64 r.2]) ∧ Gr w w'
theorem RetIt.mk {w w' : World} {x : ItemD} {e : Int} {r : ItemD × Int} (hr : r = (x, e)) (g : Gr w w') : RetIt w r (.returned (.tuple #[itemV x, .int .i64 e])) w' := by subst hr; exact ⟨rfl, g⟩
set_option maxHeartbeats 1000000 in
set_option maxRecDepth 100000 in
theorem item_calls (v : Value) (k : DeskD) (o : OpD) (w : World) (hv : DeskR w v k) (hi : I64 o.item) :
    Calls Try.prog 163 #[v, opV o] w (RetIt w (itemF k o)) := by
  obtain ⟨ma, mc, ba, bc, ia, ic, rfl, _, _, _, _, hil, hic, hM, hB, hI⟩ := hv.open_
  unfold opV
  have hi1 := hi.1
  have hi2 := hi.2
  have GA : Gr w ((w.alloc (.cells #[.slice ma k.case.mark.length mc, .slice ba k.case.busy.length bc, .slice ia k.items.length ic] 66)).alloc (.cells #[.int .i64 o.kind, .int .i64 o.user, .int .i64 o.tran, .int .i64 o.item, .int .i64 o.to] 59)) := ((Gr.refl _).alloc _).alloc _
  have bR : Blk (((w.alloc (.cells #[.slice ma k.case.mark.length mc, .slice ba k.case.busy.length bc, .slice ia k.items.length ic] 66)).alloc (.cells #[.int .i64 o.kind, .int .i64 o.user, .int .i64 o.tran, .int .i64 o.item, .int .i64 o.to] 59)).alloc (.cells #[.int .i64 0, .int .i64 0, .bool false] 156)) (w.heap.size + 2) 156 #[.int .i64 0, .int .i64 0, .bool false] := Blk.new (by simp)
  have b0 : Blk (((w.alloc (.cells #[.slice ma k.case.mark.length mc, .slice ba k.case.busy.length bc, .slice ia k.items.length ic] 66)).alloc (.cells #[.int .i64 o.kind, .int .i64 o.user, .int .i64 o.tran, .int .i64 o.item, .int .i64 o.to] 59)).alloc (.cells #[.int .i64 0, .int .i64 0, .bool false] 156)) w.heap.size 66 #[.slice ma k.case.mark.length mc, .slice ba k.case.busy.length bc, .slice ia k.items.length ic] := ((Blk.new rfl).gr ((Gr.refl _).alloc _)).gr ((Gr.refl _).alloc _)
  have b1 : Blk (((w.alloc (.cells #[.slice ma k.case.mark.length mc, .slice ba k.case.busy.length bc, .slice ia k.items.length ic] 66)).alloc (.cells #[.int .i64 o.kind, .int .i64 o.user, .int .i64 o.tran, .int .i64 o.item, .int .i64 o.to] 59)).alloc (.cells #[.int .i64 0, .int .i64 0, .bool false] 156)) (w.heap.size + 1) 59 #[.int .i64 o.kind, .int .i64 o.user, .int .i64 o.tran, .int .i64 o.item, .int .i64 o.to] := (Blk.new (by simp)).gr ((Gr.refl _).alloc _)
  have C2 := b0.cell (i := 2) rfl
  have O1 := b1.cell (i := 1) rfl
  have O3 := b1.cell (i := 3) rfl
  have GB := GA.alloc (.cells #[.int .i64 0, .int .i64 0, .bool false] 156)
  by_cases h0 : o.item < 0
  · have HC := Lib.hid (item_none (k := k) (o := o) (.inl h0))
    have D0 := bR.cell (i := 0) rfl
    have F0 := bR.frozen 0
    have bq1 := bR.set 0 (.int .i64 0)
    have D1 := bq1.cell (i := 1) rfl
    have F1 := bq1.frozen 1
    have bq2 := bq1.set 1 (.int .i64 0)
    have D2 := bq2.cell (i := 2) rfl
    have F2 := bq2.frozen 2
    have bq3 := bq2.set 2 (.bool false)
    have E0 := bq3.cell (i := 0) rfl
    have E1 := bq3.cell (i := 1) rfl
    have E2 := bq3.cell (i := 2) rfl
    go_enter Try.func163, Try.ntmps163
    go_wp2_with fail
    skip
    refine bodyPost_ret (v := .tuple #[.agg #[.int .i64 0, .int .i64 0, .bool false], .int .i64 3]) (by simp [results, Try.results163, go_sem, E0, E1, E2]) rfl ?_
    exact RetIt.mk (x := zeroI) HC.out GB
  · by_cases h1 : (k.items.length : Int) ≤ o.item
    · have HC := Lib.hid (item_none (k := k) (o := o) (.inr h1))
      have D0 := bR.cell (i := 0) rfl
      have F0 := bR.frozen 0
      have bq1 := bR.set 0 (.int .i64 0)
      have D1 := bq1.cell (i := 1) rfl
      have F1 := bq1.frozen 1
      have bq2 := bq1.set 1 (.int .i64 0)
      have D2 := bq2.cell (i := 2) rfl
      have F2 := bq2.frozen 2
      have bq3 := bq2.set 2 (.bool false)
      have E0 := bq3.cell (i := 0) rfl
      have E1 := bq3.cell (i := 1) rfl
      have E2 := bq3.cell (i := 2) rfl
      go_enter Try.func163, Try.ntmps163
      go_wp2_with fail
      skip
      refine bodyPost_ret (v := .tuple #[.agg #[.int .i64 0, .int .i64 0, .bool false], .int .i64 3]) (by simp [results, Try.results163, go_sem, E0, E1, E2]) rfl ?_
      exact RetIt.mk (x := zeroI) HC.out GB
    · obtain ⟨i, hi⟩ := Int.eq_ofNat_of_zero_le (show 0 ≤ o.item by omega)
      have hl : i < k.items.length := by omega
      have hl' : (i : Int) < (k.items.length : Int) := by omega
      have hl0 : (0 : Int) ≤ (i : Int) := by omega
      obtain ⟨b, q, rfl, c0, c1, c2, hII⟩ := hI.item hl
      have c0' := cell_gr c0 GB
      have c1' := cell_gr c1 GB
      have c2' := cell_gr c2 GB
      cases h2 : (ix k.items i).opened
      · have HC := Lib.hid (item_shut hi hl h2)
        rw [h2] at c2'
        rw [hi] at O3 b1 GA GB bR b0 C2 O1 c0' c1' c2' hi1 hi2 h0 h1
        rw [hi]
        have D0 := bR.cell (i := 0) rfl
        have F0 := bR.frozen 0
        have bq1 := bR.set 0 (.int .i64 0)
        have D1 := bq1.cell (i := 1) rfl
        have F1 := bq1.frozen 1
        have bq2 := bq1.set 1 (.int .i64 0)
        have D2 := bq2.cell (i := 2) rfl
        have F2 := bq2.frozen 2
        have bq3 := bq2.set 2 (.bool false)
        have E0 := bq3.cell (i := 0) rfl
        have E1 := bq3.cell (i := 1) rfl
        have E2 := bq3.cell (i := 2) rfl
        go_enter Try.func163, Try.ntmps163
        go_wp2_with fail
        skip
        refine bodyPost_ret (v := .tuple #[.agg #[.int .i64 0, .int .i64 0, .bool false], .int .i64 3]) (by simp [results, Try.results163, go_sem, E0, E1, E2]) rfl ?_
        exact RetIt.mk (x := zeroI) HC.out GB
      · by_cases h3 : (ix k.items i).user = o.user
        · have HC := Lib.hid (item_ok hi hl h2 h3)
          rw [h2] at c2'
          rw [h3] at c0'
          have H3 := Lib.hid h3
          clear h3 c0
          rw [hi] at O3 b1 GA GB bR b0 C2 O1 c0' c1' c2' hi1 hi2 h0 h1
          rw [hi]
          have D0 := bR.cell (i := 0) rfl
          have F0 := bR.frozen 0
          have bq1 := bR.set 0 (.int .i64 o.user)
          have D1 := bq1.cell (i := 1) rfl
          have F1 := bq1.frozen 1
          have bq2 := bq1.set 1 (.int .i64 (ix k.items i).tran)
          have D2 := bq2.cell (i := 2) rfl
          have F2 := bq2.frozen 2
          have bq3 := bq2.set 2 (.bool true)
          have E0 := bq3.cell (i := 0) rfl
          have E1 := bq3.cell (i := 1) rfl
          have E2 := bq3.cell (i := 2) rfl
          go_enter Try.func163, Try.ntmps163
          go_wp2_with fail
          (go_quiet (fail); go_wp2_with fail)
          refine bodyPost_ret (v := .tuple #[.agg #[.int .i64 o.user, .int .i64 (ix k.items i).tran, .bool true], .int .i64 0]) (by simp [results, Try.results163, go_sem, E0, E1, E2]) rfl ?_
          (rw [show Value.agg #[.int .i64 o.user, .int .i64 (ix k.items i).tran, .bool true] = itemV (ix k.items i) by unfold itemV; rw [h2, H3.out]]; exact RetIt.mk HC.out ((((Gr.drewN GB _).setCell (by simp; try omega) _).setCell (by simp; try omega) _).setCell (by simp; try omega) _))
        · have HC := Lib.hid (item_held hi hl h2 h3)
          rw [h2] at c2'
          have q1 : ((ix k.items i).user != o.user) = true := by simpa using h3
          rw [hi] at O3 b1 GA GB bR b0 C2 O1 c0' c1' c2' hi1 hi2 h0 h1
          rw [hi]
          have D0 := bR.cell (i := 0) rfl
          have F0 := bR.frozen 0
          have bq1 := bR.set 0 (.int .i64 0)
          have D1 := bq1.cell (i := 1) rfl
          have F1 := bq1.frozen 1
          have bq2 := bq1.set 1 (.int .i64 0)
          have D2 := bq2.cell (i := 2) rfl
          have F2 := bq2.frozen 2
          have bq3 := bq2.set 2 (.bool false)
          have E0 := bq3.cell (i := 0) rfl
          have E1 := bq3.cell (i := 1) rfl
          have E2 := bq3.cell (i := 2) rfl
          go_enter Try.func163, Try.ntmps163
          go_wp2_with fail
          (go_quiet (fail); go_wp2_with fail)
          refine bodyPost_ret (v := .tuple #[.agg #[.int .i64 0, .int .i64 0, .bool false], .int .i64 7]) (by simp [results, Try.results163, go_sem, E0, E1, E2]) rfl ?_
          exact RetIt.mk (x := zeroI) HC.out ((((Gr.drewN GB _).setCell (by simp; try omega) _).setCell (by simp; try omega) _).setCell (by simp; try omega) _)
end Go.Proofs.Ytidpppfimkhgkaa
