/- Operations of a drawn region whose guard fails: they yield nothing, and are passed over. -/
import Derived.Test.YtelfbfjegmncaaaLast
namespace Go.Proofs.Ytelfbfjegmncaaa
open Go.RowKit Go.Tok
set_option linter.unusedVariables false

section
variable {P : Program} {Q : Exit → Act → World → Prop}

theorem skip0 {S : World → Prop} {md : Region.Mode} {o0 : Oper} {rest : List Oper} {fuel : Nat} {listed : Array Bool} {a : Act} {w : World}
    (hs : Region.noSelect (List.toArray (o0 :: rest)) = true) (hf : Region.free md (List.toArray (o0 :: rest)) listed 0 = true) (hr : (Region.ready md (List.toArray (o0 :: rest)) listed).contains 0 = true)
    (hQ : ∀ c a w, Q (.panic c) (a.put o0.dst undef) w → Q (.panic c) a w) (hw : Region.wanted o0 (yielded (List.toArray (o0 :: rest)) a.tmps) = false) (hS : S w)
    (h : wpAnyH P md (List.toArray (o0 :: rest)) Q S fuel (listed.setIfInBounds 0 true) (a.put o0.dst undef) w) : wpAnyH P md (List.toArray (o0 :: rest)) Q S (fuel + 1) listed a w :=
  wpAnyH_take (i := 0) rfl hs hf hr hQ (.inr ⟨hw, rfl⟩) hS h

theorem skip1 {S : World → Prop} {md : Region.Mode} {o0 o1 : Oper} {rest : List Oper} {fuel : Nat} {listed : Array Bool} {a : Act} {w : World}
    (hs : Region.noSelect (List.toArray (o0 :: o1 :: rest)) = true) (hf : Region.free md (List.toArray (o0 :: o1 :: rest)) listed 1 = true) (hr : (Region.ready md (List.toArray (o0 :: o1 :: rest)) listed).contains 1 = true)
    (hQ : ∀ c a w, Q (.panic c) (a.put o1.dst undef) w → Q (.panic c) a w) (hw : Region.wanted o1 (yielded (List.toArray (o0 :: o1 :: rest)) a.tmps) = false) (hS : S w)
    (h : wpAnyH P md (List.toArray (o0 :: o1 :: rest)) Q S fuel (listed.setIfInBounds 1 true) (a.put o1.dst undef) w) : wpAnyH P md (List.toArray (o0 :: o1 :: rest)) Q S (fuel + 1) listed a w :=
  wpAnyH_take (i := 1) rfl hs hf hr hQ (.inr ⟨hw, rfl⟩) hS h

theorem skip2 {S : World → Prop} {md : Region.Mode} {o0 o1 o2 : Oper} {rest : List Oper} {fuel : Nat} {listed : Array Bool} {a : Act} {w : World}
    (hs : Region.noSelect (List.toArray (o0 :: o1 :: o2 :: rest)) = true) (hf : Region.free md (List.toArray (o0 :: o1 :: o2 :: rest)) listed 2 = true) (hr : (Region.ready md (List.toArray (o0 :: o1 :: o2 :: rest)) listed).contains 2 = true)
    (hQ : ∀ c a w, Q (.panic c) (a.put o2.dst undef) w → Q (.panic c) a w) (hw : Region.wanted o2 (yielded (List.toArray (o0 :: o1 :: o2 :: rest)) a.tmps) = false) (hS : S w)
    (h : wpAnyH P md (List.toArray (o0 :: o1 :: o2 :: rest)) Q S fuel (listed.setIfInBounds 2 true) (a.put o2.dst undef) w) : wpAnyH P md (List.toArray (o0 :: o1 :: o2 :: rest)) Q S (fuel + 1) listed a w :=
  wpAnyH_take (i := 2) rfl hs hf hr hQ (.inr ⟨hw, rfl⟩) hS h

theorem skip3 {S : World → Prop} {md : Region.Mode} {o0 o1 o2 o3 : Oper} {rest : List Oper} {fuel : Nat} {listed : Array Bool} {a : Act} {w : World}
    (hs : Region.noSelect (List.toArray (o0 :: o1 :: o2 :: o3 :: rest)) = true) (hf : Region.free md (List.toArray (o0 :: o1 :: o2 :: o3 :: rest)) listed 3 = true) (hr : (Region.ready md (List.toArray (o0 :: o1 :: o2 :: o3 :: rest)) listed).contains 3 = true)
    (hQ : ∀ c a w, Q (.panic c) (a.put o3.dst undef) w → Q (.panic c) a w) (hw : Region.wanted o3 (yielded (List.toArray (o0 :: o1 :: o2 :: o3 :: rest)) a.tmps) = false) (hS : S w)
    (h : wpAnyH P md (List.toArray (o0 :: o1 :: o2 :: o3 :: rest)) Q S fuel (listed.setIfInBounds 3 true) (a.put o3.dst undef) w) : wpAnyH P md (List.toArray (o0 :: o1 :: o2 :: o3 :: rest)) Q S (fuel + 1) listed a w :=
  wpAnyH_take (i := 3) rfl hs hf hr hQ (.inr ⟨hw, rfl⟩) hS h

theorem skip4 {S : World → Prop} {md : Region.Mode} {o0 o1 o2 o3 o4 : Oper} {rest : List Oper} {fuel : Nat} {listed : Array Bool} {a : Act} {w : World}
    (hs : Region.noSelect (List.toArray (o0 :: o1 :: o2 :: o3 :: o4 :: rest)) = true) (hf : Region.free md (List.toArray (o0 :: o1 :: o2 :: o3 :: o4 :: rest)) listed 4 = true) (hr : (Region.ready md (List.toArray (o0 :: o1 :: o2 :: o3 :: o4 :: rest)) listed).contains 4 = true)
    (hQ : ∀ c a w, Q (.panic c) (a.put o4.dst undef) w → Q (.panic c) a w) (hw : Region.wanted o4 (yielded (List.toArray (o0 :: o1 :: o2 :: o3 :: o4 :: rest)) a.tmps) = false) (hS : S w)
    (h : wpAnyH P md (List.toArray (o0 :: o1 :: o2 :: o3 :: o4 :: rest)) Q S fuel (listed.setIfInBounds 4 true) (a.put o4.dst undef) w) : wpAnyH P md (List.toArray (o0 :: o1 :: o2 :: o3 :: o4 :: rest)) Q S (fuel + 1) listed a w :=
  wpAnyH_take (i := 4) rfl hs hf hr hQ (.inr ⟨hw, rfl⟩) hS h

theorem skip5 {S : World → Prop} {md : Region.Mode} {o0 o1 o2 o3 o4 o5 : Oper} {rest : List Oper} {fuel : Nat} {listed : Array Bool} {a : Act} {w : World}
    (hs : Region.noSelect (List.toArray (o0 :: o1 :: o2 :: o3 :: o4 :: o5 :: rest)) = true) (hf : Region.free md (List.toArray (o0 :: o1 :: o2 :: o3 :: o4 :: o5 :: rest)) listed 5 = true) (hr : (Region.ready md (List.toArray (o0 :: o1 :: o2 :: o3 :: o4 :: o5 :: rest)) listed).contains 5 = true)
    (hQ : ∀ c a w, Q (.panic c) (a.put o5.dst undef) w → Q (.panic c) a w) (hw : Region.wanted o5 (yielded (List.toArray (o0 :: o1 :: o2 :: o3 :: o4 :: o5 :: rest)) a.tmps) = false) (hS : S w)
    (h : wpAnyH P md (List.toArray (o0 :: o1 :: o2 :: o3 :: o4 :: o5 :: rest)) Q S fuel (listed.setIfInBounds 5 true) (a.put o5.dst undef) w) : wpAnyH P md (List.toArray (o0 :: o1 :: o2 :: o3 :: o4 :: o5 :: rest)) Q S (fuel + 1) listed a w :=
  wpAnyH_take (i := 5) rfl hs hf hr hQ (.inr ⟨hw, rfl⟩) hS h

theorem skip6 {S : World → Prop} {md : Region.Mode} {o0 o1 o2 o3 o4 o5 o6 : Oper} {rest : List Oper} {fuel : Nat} {listed : Array Bool} {a : Act} {w : World}
    (hs : Region.noSelect (List.toArray (o0 :: o1 :: o2 :: o3 :: o4 :: o5 :: o6 :: rest)) = true) (hf : Region.free md (List.toArray (o0 :: o1 :: o2 :: o3 :: o4 :: o5 :: o6 :: rest)) listed 6 = true) (hr : (Region.ready md (List.toArray (o0 :: o1 :: o2 :: o3 :: o4 :: o5 :: o6 :: rest)) listed).contains 6 = true)
    (hQ : ∀ c a w, Q (.panic c) (a.put o6.dst undef) w → Q (.panic c) a w) (hw : Region.wanted o6 (yielded (List.toArray (o0 :: o1 :: o2 :: o3 :: o4 :: o5 :: o6 :: rest)) a.tmps) = false) (hS : S w)
    (h : wpAnyH P md (List.toArray (o0 :: o1 :: o2 :: o3 :: o4 :: o5 :: o6 :: rest)) Q S fuel (listed.setIfInBounds 6 true) (a.put o6.dst undef) w) : wpAnyH P md (List.toArray (o0 :: o1 :: o2 :: o3 :: o4 :: o5 :: o6 :: rest)) Q S (fuel + 1) listed a w :=
  wpAnyH_take (i := 6) rfl hs hf hr hQ (.inr ⟨hw, rfl⟩) hS h

theorem skip7 {S : World → Prop} {md : Region.Mode} {o0 o1 o2 o3 o4 o5 o6 o7 : Oper} {rest : List Oper} {fuel : Nat} {listed : Array Bool} {a : Act} {w : World}
    (hs : Region.noSelect (List.toArray (o0 :: o1 :: o2 :: o3 :: o4 :: o5 :: o6 :: o7 :: rest)) = true) (hf : Region.free md (List.toArray (o0 :: o1 :: o2 :: o3 :: o4 :: o5 :: o6 :: o7 :: rest)) listed 7 = true) (hr : (Region.ready md (List.toArray (o0 :: o1 :: o2 :: o3 :: o4 :: o5 :: o6 :: o7 :: rest)) listed).contains 7 = true)
    (hQ : ∀ c a w, Q (.panic c) (a.put o7.dst undef) w → Q (.panic c) a w) (hw : Region.wanted o7 (yielded (List.toArray (o0 :: o1 :: o2 :: o3 :: o4 :: o5 :: o6 :: o7 :: rest)) a.tmps) = false) (hS : S w)
    (h : wpAnyH P md (List.toArray (o0 :: o1 :: o2 :: o3 :: o4 :: o5 :: o6 :: o7 :: rest)) Q S fuel (listed.setIfInBounds 7 true) (a.put o7.dst undef) w) : wpAnyH P md (List.toArray (o0 :: o1 :: o2 :: o3 :: o4 :: o5 :: o6 :: o7 :: rest)) Q S (fuel + 1) listed a w :=
  wpAnyH_take (i := 7) rfl hs hf hr hQ (.inr ⟨hw, rfl⟩) hS h

theorem skip8 {S : World → Prop} {md : Region.Mode} {o0 o1 o2 o3 o4 o5 o6 o7 o8 : Oper} {rest : List Oper} {fuel : Nat} {listed : Array Bool} {a : Act} {w : World}
    (hs : Region.noSelect (List.toArray (o0 :: o1 :: o2 :: o3 :: o4 :: o5 :: o6 :: o7 :: o8 :: rest)) = true) (hf : Region.free md (List.toArray (o0 :: o1 :: o2 :: o3 :: o4 :: o5 :: o6 :: o7 :: o8 :: rest)) listed 8 = true) (hr : (Region.ready md (List.toArray (o0 :: o1 :: o2 :: o3 :: o4 :: o5 :: o6 :: o7 :: o8 :: rest)) listed).contains 8 = true)
    (hQ : ∀ c a w, Q (.panic c) (a.put o8.dst undef) w → Q (.panic c) a w) (hw : Region.wanted o8 (yielded (List.toArray (o0 :: o1 :: o2 :: o3 :: o4 :: o5 :: o6 :: o7 :: o8 :: rest)) a.tmps) = false) (hS : S w)
    (h : wpAnyH P md (List.toArray (o0 :: o1 :: o2 :: o3 :: o4 :: o5 :: o6 :: o7 :: o8 :: rest)) Q S fuel (listed.setIfInBounds 8 true) (a.put o8.dst undef) w) : wpAnyH P md (List.toArray (o0 :: o1 :: o2 :: o3 :: o4 :: o5 :: o6 :: o7 :: o8 :: rest)) Q S (fuel + 1) listed a w :=
  wpAnyH_take (i := 8) rfl hs hf hr hQ (.inr ⟨hw, rfl⟩) hS h

theorem skip9 {S : World → Prop} {md : Region.Mode} {o0 o1 o2 o3 o4 o5 o6 o7 o8 o9 : Oper} {rest : List Oper} {fuel : Nat} {listed : Array Bool} {a : Act} {w : World}
    (hs : Region.noSelect (List.toArray (o0 :: o1 :: o2 :: o3 :: o4 :: o5 :: o6 :: o7 :: o8 :: o9 :: rest)) = true) (hf : Region.free md (List.toArray (o0 :: o1 :: o2 :: o3 :: o4 :: o5 :: o6 :: o7 :: o8 :: o9 :: rest)) listed 9 = true) (hr : (Region.ready md (List.toArray (o0 :: o1 :: o2 :: o3 :: o4 :: o5 :: o6 :: o7 :: o8 :: o9 :: rest)) listed).contains 9 = true)
    (hQ : ∀ c a w, Q (.panic c) (a.put o9.dst undef) w → Q (.panic c) a w) (hw : Region.wanted o9 (yielded (List.toArray (o0 :: o1 :: o2 :: o3 :: o4 :: o5 :: o6 :: o7 :: o8 :: o9 :: rest)) a.tmps) = false) (hS : S w)
    (h : wpAnyH P md (List.toArray (o0 :: o1 :: o2 :: o3 :: o4 :: o5 :: o6 :: o7 :: o8 :: o9 :: rest)) Q S fuel (listed.setIfInBounds 9 true) (a.put o9.dst undef) w) : wpAnyH P md (List.toArray (o0 :: o1 :: o2 :: o3 :: o4 :: o5 :: o6 :: o7 :: o8 :: o9 :: rest)) Q S (fuel + 1) listed a w :=
  wpAnyH_take (i := 9) rfl hs hf hr hQ (.inr ⟨hw, rfl⟩) hS h

theorem skip10 {S : World → Prop} {md : Region.Mode} {o0 o1 o2 o3 o4 o5 o6 o7 o8 o9 o10 : Oper} {rest : List Oper} {fuel : Nat} {listed : Array Bool} {a : Act} {w : World}
    (hs : Region.noSelect (List.toArray (o0 :: o1 :: o2 :: o3 :: o4 :: o5 :: o6 :: o7 :: o8 :: o9 :: o10 :: rest)) = true) (hf : Region.free md (List.toArray (o0 :: o1 :: o2 :: o3 :: o4 :: o5 :: o6 :: o7 :: o8 :: o9 :: o10 :: rest)) listed 10 = true) (hr : (Region.ready md (List.toArray (o0 :: o1 :: o2 :: o3 :: o4 :: o5 :: o6 :: o7 :: o8 :: o9 :: o10 :: rest)) listed).contains 10 = true)
    (hQ : ∀ c a w, Q (.panic c) (a.put o10.dst undef) w → Q (.panic c) a w) (hw : Region.wanted o10 (yielded (List.toArray (o0 :: o1 :: o2 :: o3 :: o4 :: o5 :: o6 :: o7 :: o8 :: o9 :: o10 :: rest)) a.tmps) = false) (hS : S w)
    (h : wpAnyH P md (List.toArray (o0 :: o1 :: o2 :: o3 :: o4 :: o5 :: o6 :: o7 :: o8 :: o9 :: o10 :: rest)) Q S fuel (listed.setIfInBounds 10 true) (a.put o10.dst undef) w) : wpAnyH P md (List.toArray (o0 :: o1 :: o2 :: o3 :: o4 :: o5 :: o6 :: o7 :: o8 :: o9 :: o10 :: rest)) Q S (fuel + 1) listed a w :=
  wpAnyH_take (i := 10) rfl hs hf hr hQ (.inr ⟨hw, rfl⟩) hS h

theorem skip11 {S : World → Prop} {md : Region.Mode} {o0 o1 o2 o3 o4 o5 o6 o7 o8 o9 o10 o11 : Oper} {rest : List Oper} {fuel : Nat} {listed : Array Bool} {a : Act} {w : World}
    (hs : Region.noSelect (List.toArray (o0 :: o1 :: o2 :: o3 :: o4 :: o5 :: o6 :: o7 :: o8 :: o9 :: o10 :: o11 :: rest)) = true) (hf : Region.free md (List.toArray (o0 :: o1 :: o2 :: o3 :: o4 :: o5 :: o6 :: o7 :: o8 :: o9 :: o10 :: o11 :: rest)) listed 11 = true) (hr : (Region.ready md (List.toArray (o0 :: o1 :: o2 :: o3 :: o4 :: o5 :: o6 :: o7 :: o8 :: o9 :: o10 :: o11 :: rest)) listed).contains 11 = true)
    (hQ : ∀ c a w, Q (.panic c) (a.put o11.dst undef) w → Q (.panic c) a w) (hw : Region.wanted o11 (yielded (List.toArray (o0 :: o1 :: o2 :: o3 :: o4 :: o5 :: o6 :: o7 :: o8 :: o9 :: o10 :: o11 :: rest)) a.tmps) = false) (hS : S w)
    (h : wpAnyH P md (List.toArray (o0 :: o1 :: o2 :: o3 :: o4 :: o5 :: o6 :: o7 :: o8 :: o9 :: o10 :: o11 :: rest)) Q S fuel (listed.setIfInBounds 11 true) (a.put o11.dst undef) w) : wpAnyH P md (List.toArray (o0 :: o1 :: o2 :: o3 :: o4 :: o5 :: o6 :: o7 :: o8 :: o9 :: o10 :: o11 :: rest)) Q S (fuel + 1) listed a w :=
  wpAnyH_take (i := 11) rfl hs hf hr hQ (.inr ⟨hw, rfl⟩) hS h

theorem skip12 {S : World → Prop} {md : Region.Mode} {o0 o1 o2 o3 o4 o5 o6 o7 o8 o9 o10 o11 o12 : Oper} {rest : List Oper} {fuel : Nat} {listed : Array Bool} {a : Act} {w : World}
    (hs : Region.noSelect (List.toArray (o0 :: o1 :: o2 :: o3 :: o4 :: o5 :: o6 :: o7 :: o8 :: o9 :: o10 :: o11 :: o12 :: rest)) = true) (hf : Region.free md (List.toArray (o0 :: o1 :: o2 :: o3 :: o4 :: o5 :: o6 :: o7 :: o8 :: o9 :: o10 :: o11 :: o12 :: rest)) listed 12 = true) (hr : (Region.ready md (List.toArray (o0 :: o1 :: o2 :: o3 :: o4 :: o5 :: o6 :: o7 :: o8 :: o9 :: o10 :: o11 :: o12 :: rest)) listed).contains 12 = true)
    (hQ : ∀ c a w, Q (.panic c) (a.put o12.dst undef) w → Q (.panic c) a w) (hw : Region.wanted o12 (yielded (List.toArray (o0 :: o1 :: o2 :: o3 :: o4 :: o5 :: o6 :: o7 :: o8 :: o9 :: o10 :: o11 :: o12 :: rest)) a.tmps) = false) (hS : S w)
    (h : wpAnyH P md (List.toArray (o0 :: o1 :: o2 :: o3 :: o4 :: o5 :: o6 :: o7 :: o8 :: o9 :: o10 :: o11 :: o12 :: rest)) Q S fuel (listed.setIfInBounds 12 true) (a.put o12.dst undef) w) : wpAnyH P md (List.toArray (o0 :: o1 :: o2 :: o3 :: o4 :: o5 :: o6 :: o7 :: o8 :: o9 :: o10 :: o11 :: o12 :: rest)) Q S (fuel + 1) listed a w :=
  wpAnyH_take (i := 12) rfl hs hf hr hQ (.inr ⟨hw, rfl⟩) hS h

theorem skip13 {S : World → Prop} {md : Region.Mode} {o0 o1 o2 o3 o4 o5 o6 o7 o8 o9 o10 o11 o12 o13 : Oper} {rest : List Oper} {fuel : Nat} {listed : Array Bool} {a : Act} {w : World}
    (hs : Region.noSelect (List.toArray (o0 :: o1 :: o2 :: o3 :: o4 :: o5 :: o6 :: o7 :: o8 :: o9 :: o10 :: o11 :: o12 :: o13 :: rest)) = true) (hf : Region.free md (List.toArray (o0 :: o1 :: o2 :: o3 :: o4 :: o5 :: o6 :: o7 :: o8 :: o9 :: o10 :: o11 :: o12 :: o13 :: rest)) listed 13 = true) (hr : (Region.ready md (List.toArray (o0 :: o1 :: o2 :: o3 :: o4 :: o5 :: o6 :: o7 :: o8 :: o9 :: o10 :: o11 :: o12 :: o13 :: rest)) listed).contains 13 = true)
    (hQ : ∀ c a w, Q (.panic c) (a.put o13.dst undef) w → Q (.panic c) a w) (hw : Region.wanted o13 (yielded (List.toArray (o0 :: o1 :: o2 :: o3 :: o4 :: o5 :: o6 :: o7 :: o8 :: o9 :: o10 :: o11 :: o12 :: o13 :: rest)) a.tmps) = false) (hS : S w)
    (h : wpAnyH P md (List.toArray (o0 :: o1 :: o2 :: o3 :: o4 :: o5 :: o6 :: o7 :: o8 :: o9 :: o10 :: o11 :: o12 :: o13 :: rest)) Q S fuel (listed.setIfInBounds 13 true) (a.put o13.dst undef) w) : wpAnyH P md (List.toArray (o0 :: o1 :: o2 :: o3 :: o4 :: o5 :: o6 :: o7 :: o8 :: o9 :: o10 :: o11 :: o12 :: o13 :: rest)) Q S (fuel + 1) listed a w :=
  wpAnyH_take (i := 13) rfl hs hf hr hQ (.inr ⟨hw, rfl⟩) hS h

theorem skip14 {S : World → Prop} {md : Region.Mode} {o0 o1 o2 o3 o4 o5 o6 o7 o8 o9 o10 o11 o12 o13 o14 : Oper} {rest : List Oper} {fuel : Nat} {listed : Array Bool} {a : Act} {w : World}
    (hs : Region.noSelect (List.toArray (o0 :: o1 :: o2 :: o3 :: o4 :: o5 :: o6 :: o7 :: o8 :: o9 :: o10 :: o11 :: o12 :: o13 :: o14 :: rest)) = true) (hf : Region.free md (List.toArray (o0 :: o1 :: o2 :: o3 :: o4 :: o5 :: o6 :: o7 :: o8 :: o9 :: o10 :: o11 :: o12 :: o13 :: o14 :: rest)) listed 14 = true) (hr : (Region.ready md (List.toArray (o0 :: o1 :: o2 :: o3 :: o4 :: o5 :: o6 :: o7 :: o8 :: o9 :: o10 :: o11 :: o12 :: o13 :: o14 :: rest)) listed).contains 14 = true)
    (hQ : ∀ c a w, Q (.panic c) (a.put o14.dst undef) w → Q (.panic c) a w) (hw : Region.wanted o14 (yielded (List.toArray (o0 :: o1 :: o2 :: o3 :: o4 :: o5 :: o6 :: o7 :: o8 :: o9 :: o10 :: o11 :: o12 :: o13 :: o14 :: rest)) a.tmps) = false) (hS : S w)
    (h : wpAnyH P md (List.toArray (o0 :: o1 :: o2 :: o3 :: o4 :: o5 :: o6 :: o7 :: o8 :: o9 :: o10 :: o11 :: o12 :: o13 :: o14 :: rest)) Q S fuel (listed.setIfInBounds 14 true) (a.put o14.dst undef) w) : wpAnyH P md (List.toArray (o0 :: o1 :: o2 :: o3 :: o4 :: o5 :: o6 :: o7 :: o8 :: o9 :: o10 :: o11 :: o12 :: o13 :: o14 :: rest)) Q S (fuel + 1) listed a w :=
  wpAnyH_take (i := 14) rfl hs hf hr hQ (.inr ⟨hw, rfl⟩) hS h

theorem skip15 {S : World → Prop} {md : Region.Mode} {o0 o1 o2 o3 o4 o5 o6 o7 o8 o9 o10 o11 o12 o13 o14 o15 : Oper} {rest : List Oper} {fuel : Nat} {listed : Array Bool} {a : Act} {w : World}
    (hs : Region.noSelect (List.toArray (o0 :: o1 :: o2 :: o3 :: o4 :: o5 :: o6 :: o7 :: o8 :: o9 :: o10 :: o11 :: o12 :: o13 :: o14 :: o15 :: rest)) = true) (hf : Region.free md (List.toArray (o0 :: o1 :: o2 :: o3 :: o4 :: o5 :: o6 :: o7 :: o8 :: o9 :: o10 :: o11 :: o12 :: o13 :: o14 :: o15 :: rest)) listed 15 = true) (hr : (Region.ready md (List.toArray (o0 :: o1 :: o2 :: o3 :: o4 :: o5 :: o6 :: o7 :: o8 :: o9 :: o10 :: o11 :: o12 :: o13 :: o14 :: o15 :: rest)) listed).contains 15 = true)
    (hQ : ∀ c a w, Q (.panic c) (a.put o15.dst undef) w → Q (.panic c) a w) (hw : Region.wanted o15 (yielded (List.toArray (o0 :: o1 :: o2 :: o3 :: o4 :: o5 :: o6 :: o7 :: o8 :: o9 :: o10 :: o11 :: o12 :: o13 :: o14 :: o15 :: rest)) a.tmps) = false) (hS : S w)
    (h : wpAnyH P md (List.toArray (o0 :: o1 :: o2 :: o3 :: o4 :: o5 :: o6 :: o7 :: o8 :: o9 :: o10 :: o11 :: o12 :: o13 :: o14 :: o15 :: rest)) Q S fuel (listed.setIfInBounds 15 true) (a.put o15.dst undef) w) : wpAnyH P md (List.toArray (o0 :: o1 :: o2 :: o3 :: o4 :: o5 :: o6 :: o7 :: o8 :: o9 :: o10 :: o11 :: o12 :: o13 :: o14 :: o15 :: rest)) Q S (fuel + 1) listed a w :=
  wpAnyH_take (i := 15) rfl hs hf hr hQ (.inr ⟨hw, rfl⟩) hS h

theorem skip16 {S : World → Prop} {md : Region.Mode} {o0 o1 o2 o3 o4 o5 o6 o7 o8 o9 o10 o11 o12 o13 o14 o15 o16 : Oper} {rest : List Oper} {fuel : Nat} {listed : Array Bool} {a : Act} {w : World}
    (hs : Region.noSelect (List.toArray (o0 :: o1 :: o2 :: o3 :: o4 :: o5 :: o6 :: o7 :: o8 :: o9 :: o10 :: o11 :: o12 :: o13 :: o14 :: o15 :: o16 :: rest)) = true) (hf : Region.free md (List.toArray (o0 :: o1 :: o2 :: o3 :: o4 :: o5 :: o6 :: o7 :: o8 :: o9 :: o10 :: o11 :: o12 :: o13 :: o14 :: o15 :: o16 :: rest)) listed 16 = true) (hr : (Region.ready md (List.toArray (o0 :: o1 :: o2 :: o3 :: o4 :: o5 :: o6 :: o7 :: o8 :: o9 :: o10 :: o11 :: o12 :: o13 :: o14 :: o15 :: o16 :: rest)) listed).contains 16 = true)
    (hQ : ∀ c a w, Q (.panic c) (a.put o16.dst undef) w → Q (.panic c) a w) (hw : Region.wanted o16 (yielded (List.toArray (o0 :: o1 :: o2 :: o3 :: o4 :: o5 :: o6 :: o7 :: o8 :: o9 :: o10 :: o11 :: o12 :: o13 :: o14 :: o15 :: o16 :: rest)) a.tmps) = false) (hS : S w)
    (h : wpAnyH P md (List.toArray (o0 :: o1 :: o2 :: o3 :: o4 :: o5 :: o6 :: o7 :: o8 :: o9 :: o10 :: o11 :: o12 :: o13 :: o14 :: o15 :: o16 :: rest)) Q S fuel (listed.setIfInBounds 16 true) (a.put o16.dst undef) w) : wpAnyH P md (List.toArray (o0 :: o1 :: o2 :: o3 :: o4 :: o5 :: o6 :: o7 :: o8 :: o9 :: o10 :: o11 :: o12 :: o13 :: o14 :: o15 :: o16 :: rest)) Q S (fuel + 1) listed a w :=
  wpAnyH_take (i := 16) rfl hs hf hr hQ (.inr ⟨hw, rfl⟩) hS h

theorem skip17 {S : World → Prop} {md : Region.Mode} {o0 o1 o2 o3 o4 o5 o6 o7 o8 o9 o10 o11 o12 o13 o14 o15 o16 o17 : Oper} {rest : List Oper} {fuel : Nat} {listed : Array Bool} {a : Act} {w : World}
    (hs : Region.noSelect (List.toArray (o0 :: o1 :: o2 :: o3 :: o4 :: o5 :: o6 :: o7 :: o8 :: o9 :: o10 :: o11 :: o12 :: o13 :: o14 :: o15 :: o16 :: o17 :: rest)) = true) (hf : Region.free md (List.toArray (o0 :: o1 :: o2 :: o3 :: o4 :: o5 :: o6 :: o7 :: o8 :: o9 :: o10 :: o11 :: o12 :: o13 :: o14 :: o15 :: o16 :: o17 :: rest)) listed 17 = true) (hr : (Region.ready md (List.toArray (o0 :: o1 :: o2 :: o3 :: o4 :: o5 :: o6 :: o7 :: o8 :: o9 :: o10 :: o11 :: o12 :: o13 :: o14 :: o15 :: o16 :: o17 :: rest)) listed).contains 17 = true)
    (hQ : ∀ c a w, Q (.panic c) (a.put o17.dst undef) w → Q (.panic c) a w) (hw : Region.wanted o17 (yielded (List.toArray (o0 :: o1 :: o2 :: o3 :: o4 :: o5 :: o6 :: o7 :: o8 :: o9 :: o10 :: o11 :: o12 :: o13 :: o14 :: o15 :: o16 :: o17 :: rest)) a.tmps) = false) (hS : S w)
    (h : wpAnyH P md (List.toArray (o0 :: o1 :: o2 :: o3 :: o4 :: o5 :: o6 :: o7 :: o8 :: o9 :: o10 :: o11 :: o12 :: o13 :: o14 :: o15 :: o16 :: o17 :: rest)) Q S fuel (listed.setIfInBounds 17 true) (a.put o17.dst undef) w) : wpAnyH P md (List.toArray (o0 :: o1 :: o2 :: o3 :: o4 :: o5 :: o6 :: o7 :: o8 :: o9 :: o10 :: o11 :: o12 :: o13 :: o14 :: o15 :: o16 :: o17 :: rest)) Q S (fuel + 1) listed a w :=
  wpAnyH_take (i := 17) rfl hs hf hr hQ (.inr ⟨hw, rfl⟩) hS h

theorem skip18 {S : World → Prop} {md : Region.Mode} {o0 o1 o2 o3 o4 o5 o6 o7 o8 o9 o10 o11 o12 o13 o14 o15 o16 o17 o18 : Oper} {rest : List Oper} {fuel : Nat} {listed : Array Bool} {a : Act} {w : World}
    (hs : Region.noSelect (List.toArray (o0 :: o1 :: o2 :: o3 :: o4 :: o5 :: o6 :: o7 :: o8 :: o9 :: o10 :: o11 :: o12 :: o13 :: o14 :: o15 :: o16 :: o17 :: o18 :: rest)) = true) (hf : Region.free md (List.toArray (o0 :: o1 :: o2 :: o3 :: o4 :: o5 :: o6 :: o7 :: o8 :: o9 :: o10 :: o11 :: o12 :: o13 :: o14 :: o15 :: o16 :: o17 :: o18 :: rest)) listed 18 = true) (hr : (Region.ready md (List.toArray (o0 :: o1 :: o2 :: o3 :: o4 :: o5 :: o6 :: o7 :: o8 :: o9 :: o10 :: o11 :: o12 :: o13 :: o14 :: o15 :: o16 :: o17 :: o18 :: rest)) listed).contains 18 = true)
    (hQ : ∀ c a w, Q (.panic c) (a.put o18.dst undef) w → Q (.panic c) a w) (hw : Region.wanted o18 (yielded (List.toArray (o0 :: o1 :: o2 :: o3 :: o4 :: o5 :: o6 :: o7 :: o8 :: o9 :: o10 :: o11 :: o12 :: o13 :: o14 :: o15 :: o16 :: o17 :: o18 :: rest)) a.tmps) = false) (hS : S w)
    (h : wpAnyH P md (List.toArray (o0 :: o1 :: o2 :: o3 :: o4 :: o5 :: o6 :: o7 :: o8 :: o9 :: o10 :: o11 :: o12 :: o13 :: o14 :: o15 :: o16 :: o17 :: o18 :: rest)) Q S fuel (listed.setIfInBounds 18 true) (a.put o18.dst undef) w) : wpAnyH P md (List.toArray (o0 :: o1 :: o2 :: o3 :: o4 :: o5 :: o6 :: o7 :: o8 :: o9 :: o10 :: o11 :: o12 :: o13 :: o14 :: o15 :: o16 :: o17 :: o18 :: rest)) Q S (fuel + 1) listed a w :=
  wpAnyH_take (i := 18) rfl hs hf hr hQ (.inr ⟨hw, rfl⟩) hS h

theorem skip19 {S : World → Prop} {md : Region.Mode} {o0 o1 o2 o3 o4 o5 o6 o7 o8 o9 o10 o11 o12 o13 o14 o15 o16 o17 o18 o19 : Oper} {rest : List Oper} {fuel : Nat} {listed : Array Bool} {a : Act} {w : World}
    (hs : Region.noSelect (List.toArray (o0 :: o1 :: o2 :: o3 :: o4 :: o5 :: o6 :: o7 :: o8 :: o9 :: o10 :: o11 :: o12 :: o13 :: o14 :: o15 :: o16 :: o17 :: o18 :: o19 :: rest)) = true) (hf : Region.free md (List.toArray (o0 :: o1 :: o2 :: o3 :: o4 :: o5 :: o6 :: o7 :: o8 :: o9 :: o10 :: o11 :: o12 :: o13 :: o14 :: o15 :: o16 :: o17 :: o18 :: o19 :: rest)) listed 19 = true) (hr : (Region.ready md (List.toArray (o0 :: o1 :: o2 :: o3 :: o4 :: o5 :: o6 :: o7 :: o8 :: o9 :: o10 :: o11 :: o12 :: o13 :: o14 :: o15 :: o16 :: o17 :: o18 :: o19 :: rest)) listed).contains 19 = true)
    (hQ : ∀ c a w, Q (.panic c) (a.put o19.dst undef) w → Q (.panic c) a w) (hw : Region.wanted o19 (yielded (List.toArray (o0 :: o1 :: o2 :: o3 :: o4 :: o5 :: o6 :: o7 :: o8 :: o9 :: o10 :: o11 :: o12 :: o13 :: o14 :: o15 :: o16 :: o17 :: o18 :: o19 :: rest)) a.tmps) = false) (hS : S w)
    (h : wpAnyH P md (List.toArray (o0 :: o1 :: o2 :: o3 :: o4 :: o5 :: o6 :: o7 :: o8 :: o9 :: o10 :: o11 :: o12 :: o13 :: o14 :: o15 :: o16 :: o17 :: o18 :: o19 :: rest)) Q S fuel (listed.setIfInBounds 19 true) (a.put o19.dst undef) w) : wpAnyH P md (List.toArray (o0 :: o1 :: o2 :: o3 :: o4 :: o5 :: o6 :: o7 :: o8 :: o9 :: o10 :: o11 :: o12 :: o13 :: o14 :: o15 :: o16 :: o17 :: o18 :: o19 :: rest)) Q S (fuel + 1) listed a w :=
  wpAnyH_take (i := 19) rfl hs hf hr hQ (.inr ⟨hw, rfl⟩) hS h

theorem skip20 {S : World → Prop} {md : Region.Mode} {o0 o1 o2 o3 o4 o5 o6 o7 o8 o9 o10 o11 o12 o13 o14 o15 o16 o17 o18 o19 o20 : Oper} {rest : List Oper} {fuel : Nat} {listed : Array Bool} {a : Act} {w : World}
    (hs : Region.noSelect (List.toArray (o0 :: o1 :: o2 :: o3 :: o4 :: o5 :: o6 :: o7 :: o8 :: o9 :: o10 :: o11 :: o12 :: o13 :: o14 :: o15 :: o16 :: o17 :: o18 :: o19 :: o20 :: rest)) = true) (hf : Region.free md (List.toArray (o0 :: o1 :: o2 :: o3 :: o4 :: o5 :: o6 :: o7 :: o8 :: o9 :: o10 :: o11 :: o12 :: o13 :: o14 :: o15 :: o16 :: o17 :: o18 :: o19 :: o20 :: rest)) listed 20 = true) (hr : (Region.ready md (List.toArray (o0 :: o1 :: o2 :: o3 :: o4 :: o5 :: o6 :: o7 :: o8 :: o9 :: o10 :: o11 :: o12 :: o13 :: o14 :: o15 :: o16 :: o17 :: o18 :: o19 :: o20 :: rest)) listed).contains 20 = true)
    (hQ : ∀ c a w, Q (.panic c) (a.put o20.dst undef) w → Q (.panic c) a w) (hw : Region.wanted o20 (yielded (List.toArray (o0 :: o1 :: o2 :: o3 :: o4 :: o5 :: o6 :: o7 :: o8 :: o9 :: o10 :: o11 :: o12 :: o13 :: o14 :: o15 :: o16 :: o17 :: o18 :: o19 :: o20 :: rest)) a.tmps) = false) (hS : S w)
    (h : wpAnyH P md (List.toArray (o0 :: o1 :: o2 :: o3 :: o4 :: o5 :: o6 :: o7 :: o8 :: o9 :: o10 :: o11 :: o12 :: o13 :: o14 :: o15 :: o16 :: o17 :: o18 :: o19 :: o20 :: rest)) Q S fuel (listed.setIfInBounds 20 true) (a.put o20.dst undef) w) : wpAnyH P md (List.toArray (o0 :: o1 :: o2 :: o3 :: o4 :: o5 :: o6 :: o7 :: o8 :: o9 :: o10 :: o11 :: o12 :: o13 :: o14 :: o15 :: o16 :: o17 :: o18 :: o19 :: o20 :: rest)) Q S (fuel + 1) listed a w :=
  wpAnyH_take (i := 20) rfl hs hf hr hQ (.inr ⟨hw, rfl⟩) hS h

theorem skip21 {S : World → Prop} {md : Region.Mode} {o0 o1 o2 o3 o4 o5 o6 o7 o8 o9 o10 o11 o12 o13 o14 o15 o16 o17 o18 o19 o20 o21 : Oper} {rest : List Oper} {fuel : Nat} {listed : Array Bool} {a : Act} {w : World}
    (hs : Region.noSelect (List.toArray (o0 :: o1 :: o2 :: o3 :: o4 :: o5 :: o6 :: o7 :: o8 :: o9 :: o10 :: o11 :: o12 :: o13 :: o14 :: o15 :: o16 :: o17 :: o18 :: o19 :: o20 :: o21 :: rest)) = true) (hf : Region.free md (List.toArray (o0 :: o1 :: o2 :: o3 :: o4 :: o5 :: o6 :: o7 :: o8 :: o9 :: o10 :: o11 :: o12 :: o13 :: o14 :: o15 :: o16 :: o17 :: o18 :: o19 :: o20 :: o21 :: rest)) listed 21 = true) (hr : (Region.ready md (List.toArray (o0 :: o1 :: o2 :: o3 :: o4 :: o5 :: o6 :: o7 :: o8 :: o9 :: o10 :: o11 :: o12 :: o13 :: o14 :: o15 :: o16 :: o17 :: o18 :: o19 :: o20 :: o21 :: rest)) listed).contains 21 = true)
    (hQ : ∀ c a w, Q (.panic c) (a.put o21.dst undef) w → Q (.panic c) a w) (hw : Region.wanted o21 (yielded (List.toArray (o0 :: o1 :: o2 :: o3 :: o4 :: o5 :: o6 :: o7 :: o8 :: o9 :: o10 :: o11 :: o12 :: o13 :: o14 :: o15 :: o16 :: o17 :: o18 :: o19 :: o20 :: o21 :: rest)) a.tmps) = false) (hS : S w)
    (h : wpAnyH P md (List.toArray (o0 :: o1 :: o2 :: o3 :: o4 :: o5 :: o6 :: o7 :: o8 :: o9 :: o10 :: o11 :: o12 :: o13 :: o14 :: o15 :: o16 :: o17 :: o18 :: o19 :: o20 :: o21 :: rest)) Q S fuel (listed.setIfInBounds 21 true) (a.put o21.dst undef) w) : wpAnyH P md (List.toArray (o0 :: o1 :: o2 :: o3 :: o4 :: o5 :: o6 :: o7 :: o8 :: o9 :: o10 :: o11 :: o12 :: o13 :: o14 :: o15 :: o16 :: o17 :: o18 :: o19 :: o20 :: o21 :: rest)) Q S (fuel + 1) listed a w :=
  wpAnyH_take (i := 21) rfl hs hf hr hQ (.inr ⟨hw, rfl⟩) hS h

theorem skip22 {S : World → Prop} {md : Region.Mode} {o0 o1 o2 o3 o4 o5 o6 o7 o8 o9 o10 o11 o12 o13 o14 o15 o16 o17 o18 o19 o20 o21 o22 : Oper} {rest : List Oper} {fuel : Nat} {listed : Array Bool} {a : Act} {w : World}
    (hs : Region.noSelect (List.toArray (o0 :: o1 :: o2 :: o3 :: o4 :: o5 :: o6 :: o7 :: o8 :: o9 :: o10 :: o11 :: o12 :: o13 :: o14 :: o15 :: o16 :: o17 :: o18 :: o19 :: o20 :: o21 :: o22 :: rest)) = true) (hf : Region.free md (List.toArray (o0 :: o1 :: o2 :: o3 :: o4 :: o5 :: o6 :: o7 :: o8 :: o9 :: o10 :: o11 :: o12 :: o13 :: o14 :: o15 :: o16 :: o17 :: o18 :: o19 :: o20 :: o21 :: o22 :: rest)) listed 22 = true) (hr : (Region.ready md (List.toArray (o0 :: o1 :: o2 :: o3 :: o4 :: o5 :: o6 :: o7 :: o8 :: o9 :: o10 :: o11 :: o12 :: o13 :: o14 :: o15 :: o16 :: o17 :: o18 :: o19 :: o20 :: o21 :: o22 :: rest)) listed).contains 22 = true)
    (hQ : ∀ c a w, Q (.panic c) (a.put o22.dst undef) w → Q (.panic c) a w) (hw : Region.wanted o22 (yielded (List.toArray (o0 :: o1 :: o2 :: o3 :: o4 :: o5 :: o6 :: o7 :: o8 :: o9 :: o10 :: o11 :: o12 :: o13 :: o14 :: o15 :: o16 :: o17 :: o18 :: o19 :: o20 :: o21 :: o22 :: rest)) a.tmps) = false) (hS : S w)
    (h : wpAnyH P md (List.toArray (o0 :: o1 :: o2 :: o3 :: o4 :: o5 :: o6 :: o7 :: o8 :: o9 :: o10 :: o11 :: o12 :: o13 :: o14 :: o15 :: o16 :: o17 :: o18 :: o19 :: o20 :: o21 :: o22 :: rest)) Q S fuel (listed.setIfInBounds 22 true) (a.put o22.dst undef) w) : wpAnyH P md (List.toArray (o0 :: o1 :: o2 :: o3 :: o4 :: o5 :: o6 :: o7 :: o8 :: o9 :: o10 :: o11 :: o12 :: o13 :: o14 :: o15 :: o16 :: o17 :: o18 :: o19 :: o20 :: o21 :: o22 :: rest)) Q S (fuel + 1) listed a w :=
  wpAnyH_take (i := 22) rfl hs hf hr hQ (.inr ⟨hw, rfl⟩) hS h

theorem skip23 {S : World → Prop} {md : Region.Mode} {o0 o1 o2 o3 o4 o5 o6 o7 o8 o9 o10 o11 o12 o13 o14 o15 o16 o17 o18 o19 o20 o21 o22 o23 : Oper} {rest : List Oper} {fuel : Nat} {listed : Array Bool} {a : Act} {w : World}
    (hs : Region.noSelect (List.toArray (o0 :: o1 :: o2 :: o3 :: o4 :: o5 :: o6 :: o7 :: o8 :: o9 :: o10 :: o11 :: o12 :: o13 :: o14 :: o15 :: o16 :: o17 :: o18 :: o19 :: o20 :: o21 :: o22 :: o23 :: rest)) = true) (hf : Region.free md (List.toArray (o0 :: o1 :: o2 :: o3 :: o4 :: o5 :: o6 :: o7 :: o8 :: o9 :: o10 :: o11 :: o12 :: o13 :: o14 :: o15 :: o16 :: o17 :: o18 :: o19 :: o20 :: o21 :: o22 :: o23 :: rest)) listed 23 = true) (hr : (Region.ready md (List.toArray (o0 :: o1 :: o2 :: o3 :: o4 :: o5 :: o6 :: o7 :: o8 :: o9 :: o10 :: o11 :: o12 :: o13 :: o14 :: o15 :: o16 :: o17 :: o18 :: o19 :: o20 :: o21 :: o22 :: o23 :: rest)) listed).contains 23 = true)
    (hQ : ∀ c a w, Q (.panic c) (a.put o23.dst undef) w → Q (.panic c) a w) (hw : Region.wanted o23 (yielded (List.toArray (o0 :: o1 :: o2 :: o3 :: o4 :: o5 :: o6 :: o7 :: o8 :: o9 :: o10 :: o11 :: o12 :: o13 :: o14 :: o15 :: o16 :: o17 :: o18 :: o19 :: o20 :: o21 :: o22 :: o23 :: rest)) a.tmps) = false) (hS : S w)
    (h : wpAnyH P md (List.toArray (o0 :: o1 :: o2 :: o3 :: o4 :: o5 :: o6 :: o7 :: o8 :: o9 :: o10 :: o11 :: o12 :: o13 :: o14 :: o15 :: o16 :: o17 :: o18 :: o19 :: o20 :: o21 :: o22 :: o23 :: rest)) Q S fuel (listed.setIfInBounds 23 true) (a.put o23.dst undef) w) : wpAnyH P md (List.toArray (o0 :: o1 :: o2 :: o3 :: o4 :: o5 :: o6 :: o7 :: o8 :: o9 :: o10 :: o11 :: o12 :: o13 :: o14 :: o15 :: o16 :: o17 :: o18 :: o19 :: o20 :: o21 :: o22 :: o23 :: rest)) Q S (fuel + 1) listed a w :=
  wpAnyH_take (i := 23) rfl hs hf hr hQ (.inr ⟨hw, rfl⟩) hS h

end
end Go.Proofs.Ytelfbfjegmncaaa
