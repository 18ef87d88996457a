/- Contract of the library's slices.Compact at a row of ints of the call's own. -/
import Derived.Test.YtkanaoebpajbfaaSeqV
namespace Go.Proofs.Ytkanaoebpajbfaa
open Go.RowKit Go.Tok Go.Sort
set_option linter.unusedVariables false
theorem compact_len (xs : List Int) : (Go.Lib.compact xs).length ≤ xs.length := by
  unfold Go.Lib.compact Go.Lib.compactUpTo
  rw [List.length_map]
  exact Nat.le_trans (List.length_filter_le _ _) (by simp)
theorem compact_mem {xs : List Int} {x : Int} (h : x ∈ Go.Lib.compact xs) : x ∈ xs := by
  unfold Go.Lib.compact Go.Lib.compactUpTo at h
  obtain ⟨k, hk, rfl⟩ := List.mem_map.1 h
  have hk2 := List.mem_range.1 (List.mem_filter.1 hk).1
  rw [getElem!_pos _ k (by simpa using hk2)]
  simp
theorem Compact_calls (v : Value) (base : Nat) (xs : List Int) (w : World) (h : OwnI 3 base w v xs) (hl : xs.length ≤ 9223372036854775807) :
    Calls Try.prog 93 #[v] w fun e w' => ∃ v', e = .returned v' ∧ OwnI 3 base w' v' (Go.Lib.compact xs) ∧ v'.ownBlock = v.ownBlock ∧ w.grownBy w' v.ownBlock := by
  have h0 := h
  unfold OwnI at h
  obtain ⟨⟨e1, h1⟩, h2⟩ := h
  rcases h1 with ⟨rfl, hz⟩ | ⟨g, cap, cur, rfl, hb, hh, hn, hc, hs, ht⟩
  · obtain rfl : xs = [] := List.eq_nil_of_length_eq_zero hz
    refine (Try.slices_Compact_int_empty none 0 w).mono ?_
    rintro _ w' ⟨rfl, rfl⟩
    exact ⟨_, rfl, h0, rfl, ⟨rfl, rfl, rfl, Nat.le_refl _, fun _ _ _ => rfl⟩⟩
  · refine (Try.slices_Compact_int g 0 cap xs w (holds_of_blockI hh (by simpa using ht)) hl hn).mono ?_
    rintro _ w' ⟨rfl, q, rfl⟩
    have hcl := compact_len xs
    have hlen : (Go.Lib.compact xs ++ List.replicate (xs.length - (Go.Lib.compact xs).length) 0).length = xs.length := by simp; omega
    have hg : putRow (Value.int .i64) (Sort.ahead w q) g 0 (Go.Lib.compact xs ++ List.replicate (xs.length - (Go.Lib.compact xs).length) 0).toArray = grow (putRow (Value.int .i64) (Sort.ahead w q) g 0 (Go.Lib.compact xs ++ List.replicate (xs.length - (Go.Lib.compact xs).length) 0).toArray) #[] := (grow_empty _).symm
    refine ⟨_, rfl, ?_, rfl, by rw [hg]; exact grownBy_sortedI _⟩
    unfold OwnI
    refine ⟨⟨by simp, .inr ⟨g, cap, _, rfl, hb, by rw [hg]; exact heap_sortedI _ hh, by omega, hc, by simp [putCells, hs], ?_⟩⟩, fun x hx => h2 x (compact_mem hx)⟩
    have := take_putCellsI cur (Go.Lib.compact xs ++ List.replicate (xs.length - (Go.Lib.compact xs).length) 0) (by rw [hlen]; omega)
    rw [hlen] at this
    have h5 := congrArg (List.take (Go.Lib.compact xs).length) this
    rw [List.take_take, Nat.min_eq_left hcl, List.map_append, List.take_append_of_le_length (by simp), List.take_of_length_le (l := (Go.Lib.compact xs).map (Value.int .i64)) (by simp)] at h5
    rw [Nat.mul_one]
    exact h5
end Go.Proofs.Ytkanaoebpajbfaa
