/- Contract of cases.Busy's inner function: a row, widened by zeros, with a one at a place. -/
import Derived.Test.YtidpppfimkhgkaaBusyLaw
import Derived.Test.YtidpppfimkhgkaaPA
import Derived.Test.YtidpppfimkhgkaaGM
namespace Go.Proofs.Ytidpppfimkhgkaa
open Go.RowKit Go.Tok
set_option linter.unusedVariables false
set_option maxHeartbeats 1000000 in
set_option maxRecDepth 100000 in
theorem Wide_calls (v : Value) (ws : List Int) (n xb : Nat) (i : Int) (w : World) (hv : Ints w v ws) (hx : w.cell? ⟨xb, 0, none⟩ = some (.int .i64 (n : Int))) (hn : n ≤ 16) (hw : ws.length ≤ n) (hi : I64 i) (hin : i < n) :
    Calls Try.prog 138 #[v, .int .i64 i, .pointer (some ⟨xb, 0, none⟩)] w fun e w' => ∃ v', e = .returned v' ∧ OwnI 3 w.heap.size w' v' (wideL n ws i) ∧ Gr w w' := by
  have T := intTy
  have hi1 := hi.1
  have hlen : (ws ++ (List.replicate n (0 : Int)).drop ws.length).length = n := by simp; omega
  have HL := Lib.hid hlen
  have HN := Lib.hid (show ws.length ≤ (List.replicate n (0 : Int)).length by simp; exact hw)
  have HNO := Lib.hid (fun h => wideL_no (n := n) (ws := ws) (i := i) h)
  have HYES := Lib.hid (fun i : Nat => wideL_yes (n := n) (ws := ws) i)
  clear hlen
  by_cases h0 : i < 0
  · have HC := Lib.hid (HNO.out h0)
    go_enter Try.func138, Try.ntmps138
    go_wp2_with (first | (at_make; refine mk_ints T _ _ w.heap.size n _ _ rfl rfl rfl rfl rfl rfl (by omega) (Nat.le_refl _) ?_; intro w1 hown hb hlt) | ((with_reducible show wpList _ _ _ ({ dst := some 11, op := _, type := _, pos := _, after := _, guard := _ } :: _) _ _); (refine copy_ints T (by rfl) _ _ (by rfl) w.heap.size w.heap.size n n (List.replicate n 0) ws v (by rfl) (by rfl) hown (hv.gr hb) HN.out ?_); intro w2 ho2 hg2))
    go_ret
    exact ⟨_, rfl, by rw [HC.out]; exact ho2, hg2 w (Nat.le_refl _) hb⟩
  · obtain ⟨j, rfl⟩ := Int.eq_ofNat_of_zero_le (show 0 ≤ i by omega)
    have HC := Lib.hid (HYES.out j)
    have hj : j < (ws ++ (List.replicate n (0 : Int)).drop ws.length).length := by rw [HL.out]; omega
    have hjn : (j : Int) < (n : Int) := hin
    have hj0 : (0 : Int) ≤ (j : Int) := by omega
    have HJ := Lib.hid hj
    clear hj
    go_enter Try.func138, Try.ntmps138
    go_wp2_with (first | (at_make; refine mk_ints T _ _ w.heap.size n _ _ rfl rfl rfl rfl rfl rfl (by omega) (Nat.le_refl _) ?_; intro w1 hown hb hlt) | ((with_reducible show wpList _ _ _ ({ dst := some 11, op := _, type := _, pos := _, after := _, guard := _ } :: _) _ _); (refine copy_ints T (by rfl) _ _ (by rfl) w.heap.size w.heap.size n n (List.replicate n 0) ws v (by rfl) (by rfl) hown (hv.gr hb) HN.out ?_); intro w2 ho2 hg2; have hcell := ho2.cell HJ.out; have hfz := ho2.frozen j))
    go_ret
    exact ⟨_, rfl, by rw [HC.out]; exact ho2.set j 1 (by decide), (hg2 w (Nat.le_refl _) hb).setCell (Nat.le_refl _) _⟩
end Go.Proofs.Ytidpppfimkhgkaa
