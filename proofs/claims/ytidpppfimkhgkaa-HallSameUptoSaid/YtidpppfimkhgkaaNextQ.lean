/- Steps of a drawn region at which one of two operations may be next. -/
import Derived.Test.YtidpppfimkhgkaaPC
namespace Go.Proofs.Ytidpppfimkhgkaa
open Go.RowKit Go.Tok
set_option linter.unusedVariables false
section
variable {P : Program} {Q : Exit → Act → World → Prop} {ops : Array Oper} {o : Oper}
theorem next5p12 {S : World → Prop} {md : Region.Mode} {o0 o1 o2 o3 o4 o5 o6 o7 o8 o9 o10 o11 o12 : Oper} {rest : List Oper} {fuel : Nat} {listed : Array Bool} {a : Act} {w : World}
    (hr : Region.ready md (List.toArray (o0 :: o1 :: o2 :: o3 :: o4 :: o5 :: o6 :: o7 :: o8 :: o9 :: o10 :: o11 :: o12 :: rest)) listed = [5, 12])
    (h5 : ∀ K' : Act → World → Prop, Shut (∀ a w, S w → (S w → wpAnyH P md (List.toArray (o0 :: o1 :: o2 :: o3 :: o4 :: o5 :: o6 :: o7 :: o8 :: o9 :: o10 :: o11 :: o12 :: rest)) Q S fuel (listed.setIfInBounds 5 true) a w) → K' a w) → if Region.wanted o5 (yielded (List.toArray (o0 :: o1 :: o2 :: o3 :: o4 :: o5 :: o6 :: o7 :: o8 :: o9 :: o10 :: o11 :: o12 :: rest)) a.tmps) = true then Oper.wp P o5 a w K' Q else K' (a.put o5.dst undef) w)
    (h12 : ∀ K' : Act → World → Prop, Shut (∀ a w, S w → (S w → wpAnyH P md (List.toArray (o0 :: o1 :: o2 :: o3 :: o4 :: o5 :: o6 :: o7 :: o8 :: o9 :: o10 :: o11 :: o12 :: rest)) Q S fuel (listed.setIfInBounds 12 true) a w) → K' a w) → if Region.wanted o12 (yielded (List.toArray (o0 :: o1 :: o2 :: o3 :: o4 :: o5 :: o6 :: o7 :: o8 :: o9 :: o10 :: o11 :: o12 :: rest)) a.tmps) = true then Oper.wp P o12 a w K' Q else K' (a.put o12.dst undef) w) : wpAnyH P md (List.toArray (o0 :: o1 :: o2 :: o3 :: o4 :: o5 :: o6 :: o7 :: o8 :: o9 :: o10 :: o11 :: o12 :: rest)) Q S (fuel + 1) listed a w :=
  wpAnyH_ready hr (by simp) (AllReadyH.cons (o := o5) rfl h5 (AllReadyH.cons (o := o12) rfl h12 AllReadyH.nil))
theorem next6p12 {S : World → Prop} {md : Region.Mode} {o0 o1 o2 o3 o4 o5 o6 o7 o8 o9 o10 o11 o12 : Oper} {rest : List Oper} {fuel : Nat} {listed : Array Bool} {a : Act} {w : World}
    (hr : Region.ready md (List.toArray (o0 :: o1 :: o2 :: o3 :: o4 :: o5 :: o6 :: o7 :: o8 :: o9 :: o10 :: o11 :: o12 :: rest)) listed = [6, 12])
    (h6 : ∀ K' : Act → World → Prop, Shut (∀ a w, S w → (S w → wpAnyH P md (List.toArray (o0 :: o1 :: o2 :: o3 :: o4 :: o5 :: o6 :: o7 :: o8 :: o9 :: o10 :: o11 :: o12 :: rest)) Q S fuel (listed.setIfInBounds 6 true) a w) → K' a w) → if Region.wanted o6 (yielded (List.toArray (o0 :: o1 :: o2 :: o3 :: o4 :: o5 :: o6 :: o7 :: o8 :: o9 :: o10 :: o11 :: o12 :: rest)) a.tmps) = true then Oper.wp P o6 a w K' Q else K' (a.put o6.dst undef) w)
    (h12 : ∀ K' : Act → World → Prop, Shut (∀ a w, S w → (S w → wpAnyH P md (List.toArray (o0 :: o1 :: o2 :: o3 :: o4 :: o5 :: o6 :: o7 :: o8 :: o9 :: o10 :: o11 :: o12 :: rest)) Q S fuel (listed.setIfInBounds 12 true) a w) → K' a w) → if Region.wanted o12 (yielded (List.toArray (o0 :: o1 :: o2 :: o3 :: o4 :: o5 :: o6 :: o7 :: o8 :: o9 :: o10 :: o11 :: o12 :: rest)) a.tmps) = true then Oper.wp P o12 a w K' Q else K' (a.put o12.dst undef) w) : wpAnyH P md (List.toArray (o0 :: o1 :: o2 :: o3 :: o4 :: o5 :: o6 :: o7 :: o8 :: o9 :: o10 :: o11 :: o12 :: rest)) Q S (fuel + 1) listed a w :=
  wpAnyH_ready hr (by simp) (AllReadyH.cons (o := o6) rfl h6 (AllReadyH.cons (o := o12) rfl h12 AllReadyH.nil))
theorem next7p12 {S : World → Prop} {md : Region.Mode} {o0 o1 o2 o3 o4 o5 o6 o7 o8 o9 o10 o11 o12 : Oper} {rest : List Oper} {fuel : Nat} {listed : Array Bool} {a : Act} {w : World}
    (hr : Region.ready md (List.toArray (o0 :: o1 :: o2 :: o3 :: o4 :: o5 :: o6 :: o7 :: o8 :: o9 :: o10 :: o11 :: o12 :: rest)) listed = [7, 12])
    (h7 : ∀ K' : Act → World → Prop, Shut (∀ a w, S w → (S w → wpAnyH P md (List.toArray (o0 :: o1 :: o2 :: o3 :: o4 :: o5 :: o6 :: o7 :: o8 :: o9 :: o10 :: o11 :: o12 :: rest)) Q S fuel (listed.setIfInBounds 7 true) a w) → K' a w) → if Region.wanted o7 (yielded (List.toArray (o0 :: o1 :: o2 :: o3 :: o4 :: o5 :: o6 :: o7 :: o8 :: o9 :: o10 :: o11 :: o12 :: rest)) a.tmps) = true then Oper.wp P o7 a w K' Q else K' (a.put o7.dst undef) w)
    (h12 : ∀ K' : Act → World → Prop, Shut (∀ a w, S w → (S w → wpAnyH P md (List.toArray (o0 :: o1 :: o2 :: o3 :: o4 :: o5 :: o6 :: o7 :: o8 :: o9 :: o10 :: o11 :: o12 :: rest)) Q S fuel (listed.setIfInBounds 12 true) a w) → K' a w) → if Region.wanted o12 (yielded (List.toArray (o0 :: o1 :: o2 :: o3 :: o4 :: o5 :: o6 :: o7 :: o8 :: o9 :: o10 :: o11 :: o12 :: rest)) a.tmps) = true then Oper.wp P o12 a w K' Q else K' (a.put o12.dst undef) w) : wpAnyH P md (List.toArray (o0 :: o1 :: o2 :: o3 :: o4 :: o5 :: o6 :: o7 :: o8 :: o9 :: o10 :: o11 :: o12 :: rest)) Q S (fuel + 1) listed a w :=
  wpAnyH_ready hr (by simp) (AllReadyH.cons (o := o7) rfl h7 (AllReadyH.cons (o := o12) rfl h12 AllReadyH.nil))
end
end Go.Proofs.Ytidpppfimkhgkaa
