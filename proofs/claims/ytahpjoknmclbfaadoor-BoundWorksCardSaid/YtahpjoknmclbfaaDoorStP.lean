/- The moves of a walk through a region that draws its order, by hand: take an operation first; branch over those that may come up (printed by a program: gen/region.py); Law 36: BoundWorks, walked. -/
import Derived.Deep.RegionHeld3
import Derived.Test.YtahpjoknmclbfaaDoorBwCo
import Derived.Test.YtahpjoknmclbfaaDoorStO
import Derived.Deep.DeepCutAuto
import Derived.LoopN

/- The moves of a walk through a region that draws its order, by hand: take an operation first; branch over those that may come up (printed by a program: gen/region.py). -/
namespace Go.Proofs.YtahpjoknmclbfaaDoor
open Go

section
variable {P : Program} {md : Region.Mode} {Q : Exit → Act → World → Prop} {S : World → Prop} {fuel : Nat} {listed : Array Bool} {a : Act} {w : World}

variable {o0 o1 o2 o3 o4 o5 o6 o7 o8 o9 o10 o11 o12 o13 o14 o15 o16 o17 o18 o19 o20 o21 o22 o23 o24 o25 o26 o27 o28 o29 : Oper}

theorem rtake_0 {r : List Oper} {v : Value} (hs : Region.noSelect (List.toArray (o0::r)) = true) (hf : Region.free md (List.toArray (o0::r)) listed 0 = true) (hr : (Region.ready md (List.toArray (o0::r)) listed).contains 0 = true)
    (hQ : ∀ c a w, Q (.panic c) (a.put o0.dst v) w → Q (.panic c) a w) (hy : YieldsIf P (List.toArray (o0::r)) S o0 v a) (hS : S w) (h : wpAnyH P md (List.toArray (o0::r)) Q S fuel (listed.setIfInBounds 0 true) (a.put o0.dst v) w) : wpAnyH P md (List.toArray (o0::r)) Q S (fuel + 1) listed a w :=
  wpAnyH_take (i := 0) rfl hs hf hr hQ hy hS h
theorem rcons_0 {r : List Oper} {rs : List Nat}
    (h : ∀ K' : Act → World → Prop, Shut (∀ a w, S w → (S w → wpAnyH P md (List.toArray (o0::r)) Q S fuel (listed.setIfInBounds 0 true) a w) → K' a w) → if Region.wanted o0 (yielded (List.toArray (o0::r)) a.tmps) = true then Oper.wp P o0 a w K' Q else K' (a.put o0.dst undef) w)
    (hs : AllReadyH P md (List.toArray (o0::r)) Q S fuel listed a w rs) : AllReadyH P md (List.toArray (o0::r)) Q S fuel listed a w (0 :: rs) :=
  AllReadyH.cons rfl h hs
theorem rtake_1 {r : List Oper} {v : Value} (hs : Region.noSelect (List.toArray (o0::o1::r)) = true) (hf : Region.free md (List.toArray (o0::o1::r)) listed 1 = true) (hr : (Region.ready md (List.toArray (o0::o1::r)) listed).contains 1 = true)
    (hQ : ∀ c a w, Q (.panic c) (a.put o1.dst v) w → Q (.panic c) a w) (hy : YieldsIf P (List.toArray (o0::o1::r)) S o1 v a) (hS : S w) (h : wpAnyH P md (List.toArray (o0::o1::r)) Q S fuel (listed.setIfInBounds 1 true) (a.put o1.dst v) w) : wpAnyH P md (List.toArray (o0::o1::r)) Q S (fuel + 1) listed a w :=
  wpAnyH_take (i := 1) rfl hs hf hr hQ hy hS h
theorem rcons_1 {r : List Oper} {rs : List Nat}
    (h : ∀ K' : Act → World → Prop, Shut (∀ a w, S w → (S w → wpAnyH P md (List.toArray (o0::o1::r)) Q S fuel (listed.setIfInBounds 1 true) a w) → K' a w) → if Region.wanted o1 (yielded (List.toArray (o0::o1::r)) a.tmps) = true then Oper.wp P o1 a w K' Q else K' (a.put o1.dst undef) w)
    (hs : AllReadyH P md (List.toArray (o0::o1::r)) Q S fuel listed a w rs) : AllReadyH P md (List.toArray (o0::o1::r)) Q S fuel listed a w (1 :: rs) :=
  AllReadyH.cons rfl h hs
theorem rtake_2 {r : List Oper} {v : Value} (hs : Region.noSelect (List.toArray (o0::o1::o2::r)) = true) (hf : Region.free md (List.toArray (o0::o1::o2::r)) listed 2 = true) (hr : (Region.ready md (List.toArray (o0::o1::o2::r)) listed).contains 2 = true)
    (hQ : ∀ c a w, Q (.panic c) (a.put o2.dst v) w → Q (.panic c) a w) (hy : YieldsIf P (List.toArray (o0::o1::o2::r)) S o2 v a) (hS : S w) (h : wpAnyH P md (List.toArray (o0::o1::o2::r)) Q S fuel (listed.setIfInBounds 2 true) (a.put o2.dst v) w) : wpAnyH P md (List.toArray (o0::o1::o2::r)) Q S (fuel + 1) listed a w :=
  wpAnyH_take (i := 2) rfl hs hf hr hQ hy hS h
theorem rcons_2 {r : List Oper} {rs : List Nat}
    (h : ∀ K' : Act → World → Prop, Shut (∀ a w, S w → (S w → wpAnyH P md (List.toArray (o0::o1::o2::r)) Q S fuel (listed.setIfInBounds 2 true) a w) → K' a w) → if Region.wanted o2 (yielded (List.toArray (o0::o1::o2::r)) a.tmps) = true then Oper.wp P o2 a w K' Q else K' (a.put o2.dst undef) w)
    (hs : AllReadyH P md (List.toArray (o0::o1::o2::r)) Q S fuel listed a w rs) : AllReadyH P md (List.toArray (o0::o1::o2::r)) Q S fuel listed a w (2 :: rs) :=
  AllReadyH.cons rfl h hs
theorem rtake_3 {r : List Oper} {v : Value} (hs : Region.noSelect (List.toArray (o0::o1::o2::o3::r)) = true) (hf : Region.free md (List.toArray (o0::o1::o2::o3::r)) listed 3 = true) (hr : (Region.ready md (List.toArray (o0::o1::o2::o3::r)) listed).contains 3 = true)
    (hQ : ∀ c a w, Q (.panic c) (a.put o3.dst v) w → Q (.panic c) a w) (hy : YieldsIf P (List.toArray (o0::o1::o2::o3::r)) S o3 v a) (hS : S w) (h : wpAnyH P md (List.toArray (o0::o1::o2::o3::r)) Q S fuel (listed.setIfInBounds 3 true) (a.put o3.dst v) w) : wpAnyH P md (List.toArray (o0::o1::o2::o3::r)) Q S (fuel + 1) listed a w :=
  wpAnyH_take (i := 3) rfl hs hf hr hQ hy hS h
theorem rcons_3 {r : List Oper} {rs : List Nat}
    (h : ∀ K' : Act → World → Prop, Shut (∀ a w, S w → (S w → wpAnyH P md (List.toArray (o0::o1::o2::o3::r)) Q S fuel (listed.setIfInBounds 3 true) a w) → K' a w) → if Region.wanted o3 (yielded (List.toArray (o0::o1::o2::o3::r)) a.tmps) = true then Oper.wp P o3 a w K' Q else K' (a.put o3.dst undef) w)
    (hs : AllReadyH P md (List.toArray (o0::o1::o2::o3::r)) Q S fuel listed a w rs) : AllReadyH P md (List.toArray (o0::o1::o2::o3::r)) Q S fuel listed a w (3 :: rs) :=
  AllReadyH.cons rfl h hs
theorem rtake_4 {r : List Oper} {v : Value} (hs : Region.noSelect (List.toArray (o0::o1::o2::o3::o4::r)) = true) (hf : Region.free md (List.toArray (o0::o1::o2::o3::o4::r)) listed 4 = true) (hr : (Region.ready md (List.toArray (o0::o1::o2::o3::o4::r)) listed).contains 4 = true)
    (hQ : ∀ c a w, Q (.panic c) (a.put o4.dst v) w → Q (.panic c) a w) (hy : YieldsIf P (List.toArray (o0::o1::o2::o3::o4::r)) S o4 v a) (hS : S w) (h : wpAnyH P md (List.toArray (o0::o1::o2::o3::o4::r)) Q S fuel (listed.setIfInBounds 4 true) (a.put o4.dst v) w) : wpAnyH P md (List.toArray (o0::o1::o2::o3::o4::r)) Q S (fuel + 1) listed a w :=
  wpAnyH_take (i := 4) rfl hs hf hr hQ hy hS h
theorem rcons_4 {r : List Oper} {rs : List Nat}
    (h : ∀ K' : Act → World → Prop, Shut (∀ a w, S w → (S w → wpAnyH P md (List.toArray (o0::o1::o2::o3::o4::r)) Q S fuel (listed.setIfInBounds 4 true) a w) → K' a w) → if Region.wanted o4 (yielded (List.toArray (o0::o1::o2::o3::o4::r)) a.tmps) = true then Oper.wp P o4 a w K' Q else K' (a.put o4.dst undef) w)
    (hs : AllReadyH P md (List.toArray (o0::o1::o2::o3::o4::r)) Q S fuel listed a w rs) : AllReadyH P md (List.toArray (o0::o1::o2::o3::o4::r)) Q S fuel listed a w (4 :: rs) :=
  AllReadyH.cons rfl h hs
theorem rtake_5 {r : List Oper} {v : Value} (hs : Region.noSelect (List.toArray (o0::o1::o2::o3::o4::o5::r)) = true) (hf : Region.free md (List.toArray (o0::o1::o2::o3::o4::o5::r)) listed 5 = true) (hr : (Region.ready md (List.toArray (o0::o1::o2::o3::o4::o5::r)) listed).contains 5 = true)
    (hQ : ∀ c a w, Q (.panic c) (a.put o5.dst v) w → Q (.panic c) a w) (hy : YieldsIf P (List.toArray (o0::o1::o2::o3::o4::o5::r)) S o5 v a) (hS : S w) (h : wpAnyH P md (List.toArray (o0::o1::o2::o3::o4::o5::r)) Q S fuel (listed.setIfInBounds 5 true) (a.put o5.dst v) w) : wpAnyH P md (List.toArray (o0::o1::o2::o3::o4::o5::r)) Q S (fuel + 1) listed a w :=
  wpAnyH_take (i := 5) rfl hs hf hr hQ hy hS h
theorem rcons_5 {r : List Oper} {rs : List Nat}
    (h : ∀ K' : Act → World → Prop, Shut (∀ a w, S w → (S w → wpAnyH P md (List.toArray (o0::o1::o2::o3::o4::o5::r)) Q S fuel (listed.setIfInBounds 5 true) a w) → K' a w) → if Region.wanted o5 (yielded (List.toArray (o0::o1::o2::o3::o4::o5::r)) a.tmps) = true then Oper.wp P o5 a w K' Q else K' (a.put o5.dst undef) w)
    (hs : AllReadyH P md (List.toArray (o0::o1::o2::o3::o4::o5::r)) Q S fuel listed a w rs) : AllReadyH P md (List.toArray (o0::o1::o2::o3::o4::o5::r)) Q S fuel listed a w (5 :: rs) :=
  AllReadyH.cons rfl h hs
theorem rtake_6 {r : List Oper} {v : Value} (hs : Region.noSelect (List.toArray (o0::o1::o2::o3::o4::o5::o6::r)) = true) (hf : Region.free md (List.toArray (o0::o1::o2::o3::o4::o5::o6::r)) listed 6 = true) (hr : (Region.ready md (List.toArray (o0::o1::o2::o3::o4::o5::o6::r)) listed).contains 6 = true)
    (hQ : ∀ c a w, Q (.panic c) (a.put o6.dst v) w → Q (.panic c) a w) (hy : YieldsIf P (List.toArray (o0::o1::o2::o3::o4::o5::o6::r)) S o6 v a) (hS : S w) (h : wpAnyH P md (List.toArray (o0::o1::o2::o3::o4::o5::o6::r)) Q S fuel (listed.setIfInBounds 6 true) (a.put o6.dst v) w) : wpAnyH P md (List.toArray (o0::o1::o2::o3::o4::o5::o6::r)) Q S (fuel + 1) listed a w :=
  wpAnyH_take (i := 6) rfl hs hf hr hQ hy hS h
theorem rcons_6 {r : List Oper} {rs : List Nat}
    (h : ∀ K' : Act → World → Prop, Shut (∀ a w, S w → (S w → wpAnyH P md (List.toArray (o0::o1::o2::o3::o4::o5::o6::r)) Q S fuel (listed.setIfInBounds 6 true) a w) → K' a w) → if Region.wanted o6 (yielded (List.toArray (o0::o1::o2::o3::o4::o5::o6::r)) a.tmps) = true then Oper.wp P o6 a w K' Q else K' (a.put o6.dst undef) w)
    (hs : AllReadyH P md (List.toArray (o0::o1::o2::o3::o4::o5::o6::r)) Q S fuel listed a w rs) : AllReadyH P md (List.toArray (o0::o1::o2::o3::o4::o5::o6::r)) Q S fuel listed a w (6 :: rs) :=
  AllReadyH.cons rfl h hs
theorem rtake_7 {r : List Oper} {v : Value} (hs : Region.noSelect (List.toArray (o0::o1::o2::o3::o4::o5::o6::o7::r)) = true) (hf : Region.free md (List.toArray (o0::o1::o2::o3::o4::o5::o6::o7::r)) listed 7 = true) (hr : (Region.ready md (List.toArray (o0::o1::o2::o3::o4::o5::o6::o7::r)) listed).contains 7 = true)
    (hQ : ∀ c a w, Q (.panic c) (a.put o7.dst v) w → Q (.panic c) a w) (hy : YieldsIf P (List.toArray (o0::o1::o2::o3::o4::o5::o6::o7::r)) S o7 v a) (hS : S w) (h : wpAnyH P md (List.toArray (o0::o1::o2::o3::o4::o5::o6::o7::r)) Q S fuel (listed.setIfInBounds 7 true) (a.put o7.dst v) w) : wpAnyH P md (List.toArray (o0::o1::o2::o3::o4::o5::o6::o7::r)) Q S (fuel + 1) listed a w :=
  wpAnyH_take (i := 7) rfl hs hf hr hQ hy hS h
theorem rcons_7 {r : List Oper} {rs : List Nat}
    (h : ∀ K' : Act → World → Prop, Shut (∀ a w, S w → (S w → wpAnyH P md (List.toArray (o0::o1::o2::o3::o4::o5::o6::o7::r)) Q S fuel (listed.setIfInBounds 7 true) a w) → K' a w) → if Region.wanted o7 (yielded (List.toArray (o0::o1::o2::o3::o4::o5::o6::o7::r)) a.tmps) = true then Oper.wp P o7 a w K' Q else K' (a.put o7.dst undef) w)
    (hs : AllReadyH P md (List.toArray (o0::o1::o2::o3::o4::o5::o6::o7::r)) Q S fuel listed a w rs) : AllReadyH P md (List.toArray (o0::o1::o2::o3::o4::o5::o6::o7::r)) Q S fuel listed a w (7 :: rs) :=
  AllReadyH.cons rfl h hs
theorem rtake_8 {r : List Oper} {v : Value} (hs : Region.noSelect (List.toArray (o0::o1::o2::o3::o4::o5::o6::o7::o8::r)) = true) (hf : Region.free md (List.toArray (o0::o1::o2::o3::o4::o5::o6::o7::o8::r)) listed 8 = true) (hr : (Region.ready md (List.toArray (o0::o1::o2::o3::o4::o5::o6::o7::o8::r)) listed).contains 8 = true)
    (hQ : ∀ c a w, Q (.panic c) (a.put o8.dst v) w → Q (.panic c) a w) (hy : YieldsIf P (List.toArray (o0::o1::o2::o3::o4::o5::o6::o7::o8::r)) S o8 v a) (hS : S w) (h : wpAnyH P md (List.toArray (o0::o1::o2::o3::o4::o5::o6::o7::o8::r)) Q S fuel (listed.setIfInBounds 8 true) (a.put o8.dst v) w) : wpAnyH P md (List.toArray (o0::o1::o2::o3::o4::o5::o6::o7::o8::r)) Q S (fuel + 1) listed a w :=
  wpAnyH_take (i := 8) rfl hs hf hr hQ hy hS h
theorem rcons_8 {r : List Oper} {rs : List Nat}
    (h : ∀ K' : Act → World → Prop, Shut (∀ a w, S w → (S w → wpAnyH P md (List.toArray (o0::o1::o2::o3::o4::o5::o6::o7::o8::r)) Q S fuel (listed.setIfInBounds 8 true) a w) → K' a w) → if Region.wanted o8 (yielded (List.toArray (o0::o1::o2::o3::o4::o5::o6::o7::o8::r)) a.tmps) = true then Oper.wp P o8 a w K' Q else K' (a.put o8.dst undef) w)
    (hs : AllReadyH P md (List.toArray (o0::o1::o2::o3::o4::o5::o6::o7::o8::r)) Q S fuel listed a w rs) : AllReadyH P md (List.toArray (o0::o1::o2::o3::o4::o5::o6::o7::o8::r)) Q S fuel listed a w (8 :: rs) :=
  AllReadyH.cons rfl h hs
theorem rtake_9 {r : List Oper} {v : Value} (hs : Region.noSelect (List.toArray (o0::o1::o2::o3::o4::o5::o6::o7::o8::o9::r)) = true) (hf : Region.free md (List.toArray (o0::o1::o2::o3::o4::o5::o6::o7::o8::o9::r)) listed 9 = true) (hr : (Region.ready md (List.toArray (o0::o1::o2::o3::o4::o5::o6::o7::o8::o9::r)) listed).contains 9 = true)
    (hQ : ∀ c a w, Q (.panic c) (a.put o9.dst v) w → Q (.panic c) a w) (hy : YieldsIf P (List.toArray (o0::o1::o2::o3::o4::o5::o6::o7::o8::o9::r)) S o9 v a) (hS : S w) (h : wpAnyH P md (List.toArray (o0::o1::o2::o3::o4::o5::o6::o7::o8::o9::r)) Q S fuel (listed.setIfInBounds 9 true) (a.put o9.dst v) w) : wpAnyH P md (List.toArray (o0::o1::o2::o3::o4::o5::o6::o7::o8::o9::r)) Q S (fuel + 1) listed a w :=
  wpAnyH_take (i := 9) rfl hs hf hr hQ hy hS h
theorem rcons_9 {r : List Oper} {rs : List Nat}
    (h : ∀ K' : Act → World → Prop, Shut (∀ a w, S w → (S w → wpAnyH P md (List.toArray (o0::o1::o2::o3::o4::o5::o6::o7::o8::o9::r)) Q S fuel (listed.setIfInBounds 9 true) a w) → K' a w) → if Region.wanted o9 (yielded (List.toArray (o0::o1::o2::o3::o4::o5::o6::o7::o8::o9::r)) a.tmps) = true then Oper.wp P o9 a w K' Q else K' (a.put o9.dst undef) w)
    (hs : AllReadyH P md (List.toArray (o0::o1::o2::o3::o4::o5::o6::o7::o8::o9::r)) Q S fuel listed a w rs) : AllReadyH P md (List.toArray (o0::o1::o2::o3::o4::o5::o6::o7::o8::o9::r)) Q S fuel listed a w (9 :: rs) :=
  AllReadyH.cons rfl h hs
theorem rtake_10 {r : List Oper} {v : Value} (hs : Region.noSelect (List.toArray (o0::o1::o2::o3::o4::o5::o6::o7::o8::o9::o10::r)) = true) (hf : Region.free md (List.toArray (o0::o1::o2::o3::o4::o5::o6::o7::o8::o9::o10::r)) listed 10 = true) (hr : (Region.ready md (List.toArray (o0::o1::o2::o3::o4::o5::o6::o7::o8::o9::o10::r)) listed).contains 10 = true)
    (hQ : ∀ c a w, Q (.panic c) (a.put o10.dst v) w → Q (.panic c) a w) (hy : YieldsIf P (List.toArray (o0::o1::o2::o3::o4::o5::o6::o7::o8::o9::o10::r)) S o10 v a) (hS : S w) (h : wpAnyH P md (List.toArray (o0::o1::o2::o3::o4::o5::o6::o7::o8::o9::o10::r)) Q S fuel (listed.setIfInBounds 10 true) (a.put o10.dst v) w) : wpAnyH P md (List.toArray (o0::o1::o2::o3::o4::o5::o6::o7::o8::o9::o10::r)) Q S (fuel + 1) listed a w :=
  wpAnyH_take (i := 10) rfl hs hf hr hQ hy hS h
theorem rcons_10 {r : List Oper} {rs : List Nat}
    (h : ∀ K' : Act → World → Prop, Shut (∀ a w, S w → (S w → wpAnyH P md (List.toArray (o0::o1::o2::o3::o4::o5::o6::o7::o8::o9::o10::r)) Q S fuel (listed.setIfInBounds 10 true) a w) → K' a w) → if Region.wanted o10 (yielded (List.toArray (o0::o1::o2::o3::o4::o5::o6::o7::o8::o9::o10::r)) a.tmps) = true then Oper.wp P o10 a w K' Q else K' (a.put o10.dst undef) w)
    (hs : AllReadyH P md (List.toArray (o0::o1::o2::o3::o4::o5::o6::o7::o8::o9::o10::r)) Q S fuel listed a w rs) : AllReadyH P md (List.toArray (o0::o1::o2::o3::o4::o5::o6::o7::o8::o9::o10::r)) Q S fuel listed a w (10 :: rs) :=
  AllReadyH.cons rfl h hs
theorem rtake_11 {r : List Oper} {v : Value} (hs : Region.noSelect (List.toArray (o0::o1::o2::o3::o4::o5::o6::o7::o8::o9::o10::o11::r)) = true) (hf : Region.free md (List.toArray (o0::o1::o2::o3::o4::o5::o6::o7::o8::o9::o10::o11::r)) listed 11 = true) (hr : (Region.ready md (List.toArray (o0::o1::o2::o3::o4::o5::o6::o7::o8::o9::o10::o11::r)) listed).contains 11 = true)
    (hQ : ∀ c a w, Q (.panic c) (a.put o11.dst v) w → Q (.panic c) a w) (hy : YieldsIf P (List.toArray (o0::o1::o2::o3::o4::o5::o6::o7::o8::o9::o10::o11::r)) S o11 v a) (hS : S w) (h : wpAnyH P md (List.toArray (o0::o1::o2::o3::o4::o5::o6::o7::o8::o9::o10::o11::r)) Q S fuel (listed.setIfInBounds 11 true) (a.put o11.dst v) w) : wpAnyH P md (List.toArray (o0::o1::o2::o3::o4::o5::o6::o7::o8::o9::o10::o11::r)) Q S (fuel + 1) listed a w :=
  wpAnyH_take (i := 11) rfl hs hf hr hQ hy hS h
theorem rcons_11 {r : List Oper} {rs : List Nat}
    (h : ∀ K' : Act → World → Prop, Shut (∀ a w, S w → (S w → wpAnyH P md (List.toArray (o0::o1::o2::o3::o4::o5::o6::o7::o8::o9::o10::o11::r)) Q S fuel (listed.setIfInBounds 11 true) a w) → K' a w) → if Region.wanted o11 (yielded (List.toArray (o0::o1::o2::o3::o4::o5::o6::o7::o8::o9::o10::o11::r)) a.tmps) = true then Oper.wp P o11 a w K' Q else K' (a.put o11.dst undef) w)
    (hs : AllReadyH P md (List.toArray (o0::o1::o2::o3::o4::o5::o6::o7::o8::o9::o10::o11::r)) Q S fuel listed a w rs) : AllReadyH P md (List.toArray (o0::o1::o2::o3::o4::o5::o6::o7::o8::o9::o10::o11::r)) Q S fuel listed a w (11 :: rs) :=
  AllReadyH.cons rfl h hs
theorem rtake_12 {r : List Oper} {v : Value} (hs : Region.noSelect (List.toArray (o0::o1::o2::o3::o4::o5::o6::o7::o8::o9::o10::o11::o12::r)) = true) (hf : Region.free md (List.toArray (o0::o1::o2::o3::o4::o5::o6::o7::o8::o9::o10::o11::o12::r)) listed 12 = true) (hr : (Region.ready md (List.toArray (o0::o1::o2::o3::o4::o5::o6::o7::o8::o9::o10::o11::o12::r)) listed).contains 12 = true)
    (hQ : ∀ c a w, Q (.panic c) (a.put o12.dst v) w → Q (.panic c) a w) (hy : YieldsIf P (List.toArray (o0::o1::o2::o3::o4::o5::o6::o7::o8::o9::o10::o11::o12::r)) S o12 v a) (hS : S w) (h : wpAnyH P md (List.toArray (o0::o1::o2::o3::o4::o5::o6::o7::o8::o9::o10::o11::o12::r)) Q S fuel (listed.setIfInBounds 12 true) (a.put o12.dst v) w) : wpAnyH P md (List.toArray (o0::o1::o2::o3::o4::o5::o6::o7::o8::o9::o10::o11::o12::r)) Q S (fuel + 1) listed a w :=
  wpAnyH_take (i := 12) rfl hs hf hr hQ hy hS h
theorem rcons_12 {r : List Oper} {rs : List Nat}
    (h : ∀ K' : Act → World → Prop, Shut (∀ a w, S w → (S w → wpAnyH P md (List.toArray (o0::o1::o2::o3::o4::o5::o6::o7::o8::o9::o10::o11::o12::r)) Q S fuel (listed.setIfInBounds 12 true) a w) → K' a w) → if Region.wanted o12 (yielded (List.toArray (o0::o1::o2::o3::o4::o5::o6::o7::o8::o9::o10::o11::o12::r)) a.tmps) = true then Oper.wp P o12 a w K' Q else K' (a.put o12.dst undef) w)
    (hs : AllReadyH P md (List.toArray (o0::o1::o2::o3::o4::o5::o6::o7::o8::o9::o10::o11::o12::r)) Q S fuel listed a w rs) : AllReadyH P md (List.toArray (o0::o1::o2::o3::o4::o5::o6::o7::o8::o9::o10::o11::o12::r)) Q S fuel listed a w (12 :: rs) :=
  AllReadyH.cons rfl h hs
theorem rtake_13 {r : List Oper} {v : Value} (hs : Region.noSelect (List.toArray (o0::o1::o2::o3::o4::o5::o6::o7::o8::o9::o10::o11::o12::o13::r)) = true) (hf : Region.free md (List.toArray (o0::o1::o2::o3::o4::o5::o6::o7::o8::o9::o10::o11::o12::o13::r)) listed 13 = true) (hr : (Region.ready md (List.toArray (o0::o1::o2::o3::o4::o5::o6::o7::o8::o9::o10::o11::o12::o13::r)) listed).contains 13 = true)
    (hQ : ∀ c a w, Q (.panic c) (a.put o13.dst v) w → Q (.panic c) a w) (hy : YieldsIf P (List.toArray (o0::o1::o2::o3::o4::o5::o6::o7::o8::o9::o10::o11::o12::o13::r)) S o13 v a) (hS : S w) (h : wpAnyH P md (List.toArray (o0::o1::o2::o3::o4::o5::o6::o7::o8::o9::o10::o11::o12::o13::r)) Q S fuel (listed.setIfInBounds 13 true) (a.put o13.dst v) w) : wpAnyH P md (List.toArray (o0::o1::o2::o3::o4::o5::o6::o7::o8::o9::o10::o11::o12::o13::r)) Q S (fuel + 1) listed a w :=
  wpAnyH_take (i := 13) rfl hs hf hr hQ hy hS h
theorem rcons_13 {r : List Oper} {rs : List Nat}
    (h : ∀ K' : Act → World → Prop, Shut (∀ a w, S w → (S w → wpAnyH P md (List.toArray (o0::o1::o2::o3::o4::o5::o6::o7::o8::o9::o10::o11::o12::o13::r)) Q S fuel (listed.setIfInBounds 13 true) a w) → K' a w) → if Region.wanted o13 (yielded (List.toArray (o0::o1::o2::o3::o4::o5::o6::o7::o8::o9::o10::o11::o12::o13::r)) a.tmps) = true then Oper.wp P o13 a w K' Q else K' (a.put o13.dst undef) w)
    (hs : AllReadyH P md (List.toArray (o0::o1::o2::o3::o4::o5::o6::o7::o8::o9::o10::o11::o12::o13::r)) Q S fuel listed a w rs) : AllReadyH P md (List.toArray (o0::o1::o2::o3::o4::o5::o6::o7::o8::o9::o10::o11::o12::o13::r)) Q S fuel listed a w (13 :: rs) :=
  AllReadyH.cons rfl h hs
theorem rtake_14 {r : List Oper} {v : Value} (hs : Region.noSelect (List.toArray (o0::o1::o2::o3::o4::o5::o6::o7::o8::o9::o10::o11::o12::o13::o14::r)) = true) (hf : Region.free md (List.toArray (o0::o1::o2::o3::o4::o5::o6::o7::o8::o9::o10::o11::o12::o13::o14::r)) listed 14 = true) (hr : (Region.ready md (List.toArray (o0::o1::o2::o3::o4::o5::o6::o7::o8::o9::o10::o11::o12::o13::o14::r)) listed).contains 14 = true)
    (hQ : ∀ c a w, Q (.panic c) (a.put o14.dst v) w → Q (.panic c) a w) (hy : YieldsIf P (List.toArray (o0::o1::o2::o3::o4::o5::o6::o7::o8::o9::o10::o11::o12::o13::o14::r)) S o14 v a) (hS : S w) (h : wpAnyH P md (List.toArray (o0::o1::o2::o3::o4::o5::o6::o7::o8::o9::o10::o11::o12::o13::o14::r)) Q S fuel (listed.setIfInBounds 14 true) (a.put o14.dst v) w) : wpAnyH P md (List.toArray (o0::o1::o2::o3::o4::o5::o6::o7::o8::o9::o10::o11::o12::o13::o14::r)) Q S (fuel + 1) listed a w :=
  wpAnyH_take (i := 14) rfl hs hf hr hQ hy hS h
theorem rcons_14 {r : List Oper} {rs : List Nat}
    (h : ∀ K' : Act → World → Prop, Shut (∀ a w, S w → (S w → wpAnyH P md (List.toArray (o0::o1::o2::o3::o4::o5::o6::o7::o8::o9::o10::o11::o12::o13::o14::r)) Q S fuel (listed.setIfInBounds 14 true) a w) → K' a w) → if Region.wanted o14 (yielded (List.toArray (o0::o1::o2::o3::o4::o5::o6::o7::o8::o9::o10::o11::o12::o13::o14::r)) a.tmps) = true then Oper.wp P o14 a w K' Q else K' (a.put o14.dst undef) w)
    (hs : AllReadyH P md (List.toArray (o0::o1::o2::o3::o4::o5::o6::o7::o8::o9::o10::o11::o12::o13::o14::r)) Q S fuel listed a w rs) : AllReadyH P md (List.toArray (o0::o1::o2::o3::o4::o5::o6::o7::o8::o9::o10::o11::o12::o13::o14::r)) Q S fuel listed a w (14 :: rs) :=
  AllReadyH.cons rfl h hs
theorem rtake_15 {r : List Oper} {v : Value} (hs : Region.noSelect (List.toArray (o0::o1::o2::o3::o4::o5::o6::o7::o8::o9::o10::o11::o12::o13::o14::o15::r)) = true) (hf : Region.free md (List.toArray (o0::o1::o2::o3::o4::o5::o6::o7::o8::o9::o10::o11::o12::o13::o14::o15::r)) listed 15 = true) (hr : (Region.ready md (List.toArray (o0::o1::o2::o3::o4::o5::o6::o7::o8::o9::o10::o11::o12::o13::o14::o15::r)) listed).contains 15 = true)
    (hQ : ∀ c a w, Q (.panic c) (a.put o15.dst v) w → Q (.panic c) a w) (hy : YieldsIf P (List.toArray (o0::o1::o2::o3::o4::o5::o6::o7::o8::o9::o10::o11::o12::o13::o14::o15::r)) S o15 v a) (hS : S w) (h : wpAnyH P md (List.toArray (o0::o1::o2::o3::o4::o5::o6::o7::o8::o9::o10::o11::o12::o13::o14::o15::r)) Q S fuel (listed.setIfInBounds 15 true) (a.put o15.dst v) w) : wpAnyH P md (List.toArray (o0::o1::o2::o3::o4::o5::o6::o7::o8::o9::o10::o11::o12::o13::o14::o15::r)) Q S (fuel + 1) listed a w :=
  wpAnyH_take (i := 15) rfl hs hf hr hQ hy hS h
theorem rcons_15 {r : List Oper} {rs : List Nat}
    (h : ∀ K' : Act → World → Prop, Shut (∀ a w, S w → (S w → wpAnyH P md (List.toArray (o0::o1::o2::o3::o4::o5::o6::o7::o8::o9::o10::o11::o12::o13::o14::o15::r)) Q S fuel (listed.setIfInBounds 15 true) a w) → K' a w) → if Region.wanted o15 (yielded (List.toArray (o0::o1::o2::o3::o4::o5::o6::o7::o8::o9::o10::o11::o12::o13::o14::o15::r)) a.tmps) = true then Oper.wp P o15 a w K' Q else K' (a.put o15.dst undef) w)
    (hs : AllReadyH P md (List.toArray (o0::o1::o2::o3::o4::o5::o6::o7::o8::o9::o10::o11::o12::o13::o14::o15::r)) Q S fuel listed a w rs) : AllReadyH P md (List.toArray (o0::o1::o2::o3::o4::o5::o6::o7::o8::o9::o10::o11::o12::o13::o14::o15::r)) Q S fuel listed a w (15 :: rs) :=
  AllReadyH.cons rfl h hs
theorem rtake_16 {r : List Oper} {v : Value} (hs : Region.noSelect (List.toArray (o0::o1::o2::o3::o4::o5::o6::o7::o8::o9::o10::o11::o12::o13::o14::o15::o16::r)) = true) (hf : Region.free md (List.toArray (o0::o1::o2::o3::o4::o5::o6::o7::o8::o9::o10::o11::o12::o13::o14::o15::o16::r)) listed 16 = true) (hr : (Region.ready md (List.toArray (o0::o1::o2::o3::o4::o5::o6::o7::o8::o9::o10::o11::o12::o13::o14::o15::o16::r)) listed).contains 16 = true)
    (hQ : ∀ c a w, Q (.panic c) (a.put o16.dst v) w → Q (.panic c) a w) (hy : YieldsIf P (List.toArray (o0::o1::o2::o3::o4::o5::o6::o7::o8::o9::o10::o11::o12::o13::o14::o15::o16::r)) S o16 v a) (hS : S w) (h : wpAnyH P md (List.toArray (o0::o1::o2::o3::o4::o5::o6::o7::o8::o9::o10::o11::o12::o13::o14::o15::o16::r)) Q S fuel (listed.setIfInBounds 16 true) (a.put o16.dst v) w) : wpAnyH P md (List.toArray (o0::o1::o2::o3::o4::o5::o6::o7::o8::o9::o10::o11::o12::o13::o14::o15::o16::r)) Q S (fuel + 1) listed a w :=
  wpAnyH_take (i := 16) rfl hs hf hr hQ hy hS h
theorem rcons_16 {r : List Oper} {rs : List Nat}
    (h : ∀ K' : Act → World → Prop, Shut (∀ a w, S w → (S w → wpAnyH P md (List.toArray (o0::o1::o2::o3::o4::o5::o6::o7::o8::o9::o10::o11::o12::o13::o14::o15::o16::r)) Q S fuel (listed.setIfInBounds 16 true) a w) → K' a w) → if Region.wanted o16 (yielded (List.toArray (o0::o1::o2::o3::o4::o5::o6::o7::o8::o9::o10::o11::o12::o13::o14::o15::o16::r)) a.tmps) = true then Oper.wp P o16 a w K' Q else K' (a.put o16.dst undef) w)
    (hs : AllReadyH P md (List.toArray (o0::o1::o2::o3::o4::o5::o6::o7::o8::o9::o10::o11::o12::o13::o14::o15::o16::r)) Q S fuel listed a w rs) : AllReadyH P md (List.toArray (o0::o1::o2::o3::o4::o5::o6::o7::o8::o9::o10::o11::o12::o13::o14::o15::o16::r)) Q S fuel listed a w (16 :: rs) :=
  AllReadyH.cons rfl h hs
theorem rtake_17 {r : List Oper} {v : Value} (hs : Region.noSelect (List.toArray (o0::o1::o2::o3::o4::o5::o6::o7::o8::o9::o10::o11::o12::o13::o14::o15::o16::o17::r)) = true) (hf : Region.free md (List.toArray (o0::o1::o2::o3::o4::o5::o6::o7::o8::o9::o10::o11::o12::o13::o14::o15::o16::o17::r)) listed 17 = true) (hr : (Region.ready md (List.toArray (o0::o1::o2::o3::o4::o5::o6::o7::o8::o9::o10::o11::o12::o13::o14::o15::o16::o17::r)) listed).contains 17 = true)
    (hQ : ∀ c a w, Q (.panic c) (a.put o17.dst v) w → Q (.panic c) a w) (hy : YieldsIf P (List.toArray (o0::o1::o2::o3::o4::o5::o6::o7::o8::o9::o10::o11::o12::o13::o14::o15::o16::o17::r)) S o17 v a) (hS : S w) (h : wpAnyH P md (List.toArray (o0::o1::o2::o3::o4::o5::o6::o7::o8::o9::o10::o11::o12::o13::o14::o15::o16::o17::r)) Q S fuel (listed.setIfInBounds 17 true) (a.put o17.dst v) w) : wpAnyH P md (List.toArray (o0::o1::o2::o3::o4::o5::o6::o7::o8::o9::o10::o11::o12::o13::o14::o15::o16::o17::r)) Q S (fuel + 1) listed a w :=
  wpAnyH_take (i := 17) rfl hs hf hr hQ hy hS h
theorem rcons_17 {r : List Oper} {rs : List Nat}
    (h : ∀ K' : Act → World → Prop, Shut (∀ a w, S w → (S w → wpAnyH P md (List.toArray (o0::o1::o2::o3::o4::o5::o6::o7::o8::o9::o10::o11::o12::o13::o14::o15::o16::o17::r)) Q S fuel (listed.setIfInBounds 17 true) a w) → K' a w) → if Region.wanted o17 (yielded (List.toArray (o0::o1::o2::o3::o4::o5::o6::o7::o8::o9::o10::o11::o12::o13::o14::o15::o16::o17::r)) a.tmps) = true then Oper.wp P o17 a w K' Q else K' (a.put o17.dst undef) w)
    (hs : AllReadyH P md (List.toArray (o0::o1::o2::o3::o4::o5::o6::o7::o8::o9::o10::o11::o12::o13::o14::o15::o16::o17::r)) Q S fuel listed a w rs) : AllReadyH P md (List.toArray (o0::o1::o2::o3::o4::o5::o6::o7::o8::o9::o10::o11::o12::o13::o14::o15::o16::o17::r)) Q S fuel listed a w (17 :: rs) :=
  AllReadyH.cons rfl h hs
theorem rtake_18 {r : List Oper} {v : Value} (hs : Region.noSelect (List.toArray (o0::o1::o2::o3::o4::o5::o6::o7::o8::o9::o10::o11::o12::o13::o14::o15::o16::o17::o18::r)) = true) (hf : Region.free md (List.toArray (o0::o1::o2::o3::o4::o5::o6::o7::o8::o9::o10::o11::o12::o13::o14::o15::o16::o17::o18::r)) listed 18 = true) (hr : (Region.ready md (List.toArray (o0::o1::o2::o3::o4::o5::o6::o7::o8::o9::o10::o11::o12::o13::o14::o15::o16::o17::o18::r)) listed).contains 18 = true)
    (hQ : ∀ c a w, Q (.panic c) (a.put o18.dst v) w → Q (.panic c) a w) (hy : YieldsIf P (List.toArray (o0::o1::o2::o3::o4::o5::o6::o7::o8::o9::o10::o11::o12::o13::o14::o15::o16::o17::o18::r)) S o18 v a) (hS : S w) (h : wpAnyH P md (List.toArray (o0::o1::o2::o3::o4::o5::o6::o7::o8::o9::o10::o11::o12::o13::o14::o15::o16::o17::o18::r)) Q S fuel (listed.setIfInBounds 18 true) (a.put o18.dst v) w) : wpAnyH P md (List.toArray (o0::o1::o2::o3::o4::o5::o6::o7::o8::o9::o10::o11::o12::o13::o14::o15::o16::o17::o18::r)) Q S (fuel + 1) listed a w :=
  wpAnyH_take (i := 18) rfl hs hf hr hQ hy hS h
theorem rcons_18 {r : List Oper} {rs : List Nat}
    (h : ∀ K' : Act → World → Prop, Shut (∀ a w, S w → (S w → wpAnyH P md (List.toArray (o0::o1::o2::o3::o4::o5::o6::o7::o8::o9::o10::o11::o12::o13::o14::o15::o16::o17::o18::r)) Q S fuel (listed.setIfInBounds 18 true) a w) → K' a w) → if Region.wanted o18 (yielded (List.toArray (o0::o1::o2::o3::o4::o5::o6::o7::o8::o9::o10::o11::o12::o13::o14::o15::o16::o17::o18::r)) a.tmps) = true then Oper.wp P o18 a w K' Q else K' (a.put o18.dst undef) w)
    (hs : AllReadyH P md (List.toArray (o0::o1::o2::o3::o4::o5::o6::o7::o8::o9::o10::o11::o12::o13::o14::o15::o16::o17::o18::r)) Q S fuel listed a w rs) : AllReadyH P md (List.toArray (o0::o1::o2::o3::o4::o5::o6::o7::o8::o9::o10::o11::o12::o13::o14::o15::o16::o17::o18::r)) Q S fuel listed a w (18 :: rs) :=
  AllReadyH.cons rfl h hs
theorem rtake_19 {r : List Oper} {v : Value} (hs : Region.noSelect (List.toArray (o0::o1::o2::o3::o4::o5::o6::o7::o8::o9::o10::o11::o12::o13::o14::o15::o16::o17::o18::o19::r)) = true) (hf : Region.free md (List.toArray (o0::o1::o2::o3::o4::o5::o6::o7::o8::o9::o10::o11::o12::o13::o14::o15::o16::o17::o18::o19::r)) listed 19 = true) (hr : (Region.ready md (List.toArray (o0::o1::o2::o3::o4::o5::o6::o7::o8::o9::o10::o11::o12::o13::o14::o15::o16::o17::o18::o19::r)) listed).contains 19 = true)
    (hQ : ∀ c a w, Q (.panic c) (a.put o19.dst v) w → Q (.panic c) a w) (hy : YieldsIf P (List.toArray (o0::o1::o2::o3::o4::o5::o6::o7::o8::o9::o10::o11::o12::o13::o14::o15::o16::o17::o18::o19::r)) S o19 v a) (hS : S w) (h : wpAnyH P md (List.toArray (o0::o1::o2::o3::o4::o5::o6::o7::o8::o9::o10::o11::o12::o13::o14::o15::o16::o17::o18::o19::r)) Q S fuel (listed.setIfInBounds 19 true) (a.put o19.dst v) w) : wpAnyH P md (List.toArray (o0::o1::o2::o3::o4::o5::o6::o7::o8::o9::o10::o11::o12::o13::o14::o15::o16::o17::o18::o19::r)) Q S (fuel + 1) listed a w :=
  wpAnyH_take (i := 19) rfl hs hf hr hQ hy hS h
theorem rcons_19 {r : List Oper} {rs : List Nat}
    (h : ∀ K' : Act → World → Prop, Shut (∀ a w, S w → (S w → wpAnyH P md (List.toArray (o0::o1::o2::o3::o4::o5::o6::o7::o8::o9::o10::o11::o12::o13::o14::o15::o16::o17::o18::o19::r)) Q S fuel (listed.setIfInBounds 19 true) a w) → K' a w) → if Region.wanted o19 (yielded (List.toArray (o0::o1::o2::o3::o4::o5::o6::o7::o8::o9::o10::o11::o12::o13::o14::o15::o16::o17::o18::o19::r)) a.tmps) = true then Oper.wp P o19 a w K' Q else K' (a.put o19.dst undef) w)
    (hs : AllReadyH P md (List.toArray (o0::o1::o2::o3::o4::o5::o6::o7::o8::o9::o10::o11::o12::o13::o14::o15::o16::o17::o18::o19::r)) Q S fuel listed a w rs) : AllReadyH P md (List.toArray (o0::o1::o2::o3::o4::o5::o6::o7::o8::o9::o10::o11::o12::o13::o14::o15::o16::o17::o18::o19::r)) Q S fuel listed a w (19 :: rs) :=
  AllReadyH.cons rfl h hs
theorem rtake_20 {r : List Oper} {v : Value} (hs : Region.noSelect (List.toArray (o0::o1::o2::o3::o4::o5::o6::o7::o8::o9::o10::o11::o12::o13::o14::o15::o16::o17::o18::o19::o20::r)) = true) (hf : Region.free md (List.toArray (o0::o1::o2::o3::o4::o5::o6::o7::o8::o9::o10::o11::o12::o13::o14::o15::o16::o17::o18::o19::o20::r)) listed 20 = true) (hr : (Region.ready md (List.toArray (o0::o1::o2::o3::o4::o5::o6::o7::o8::o9::o10::o11::o12::o13::o14::o15::o16::o17::o18::o19::o20::r)) listed).contains 20 = true)
    (hQ : ∀ c a w, Q (.panic c) (a.put o20.dst v) w → Q (.panic c) a w) (hy : YieldsIf P (List.toArray (o0::o1::o2::o3::o4::o5::o6::o7::o8::o9::o10::o11::o12::o13::o14::o15::o16::o17::o18::o19::o20::r)) S o20 v a) (hS : S w) (h : wpAnyH P md (List.toArray (o0::o1::o2::o3::o4::o5::o6::o7::o8::o9::o10::o11::o12::o13::o14::o15::o16::o17::o18::o19::o20::r)) Q S fuel (listed.setIfInBounds 20 true) (a.put o20.dst v) w) : wpAnyH P md (List.toArray (o0::o1::o2::o3::o4::o5::o6::o7::o8::o9::o10::o11::o12::o13::o14::o15::o16::o17::o18::o19::o20::r)) Q S (fuel + 1) listed a w :=
  wpAnyH_take (i := 20) rfl hs hf hr hQ hy hS h
theorem rcons_20 {r : List Oper} {rs : List Nat}
    (h : ∀ K' : Act → World → Prop, Shut (∀ a w, S w → (S w → wpAnyH P md (List.toArray (o0::o1::o2::o3::o4::o5::o6::o7::o8::o9::o10::o11::o12::o13::o14::o15::o16::o17::o18::o19::o20::r)) Q S fuel (listed.setIfInBounds 20 true) a w) → K' a w) → if Region.wanted o20 (yielded (List.toArray (o0::o1::o2::o3::o4::o5::o6::o7::o8::o9::o10::o11::o12::o13::o14::o15::o16::o17::o18::o19::o20::r)) a.tmps) = true then Oper.wp P o20 a w K' Q else K' (a.put o20.dst undef) w)
    (hs : AllReadyH P md (List.toArray (o0::o1::o2::o3::o4::o5::o6::o7::o8::o9::o10::o11::o12::o13::o14::o15::o16::o17::o18::o19::o20::r)) Q S fuel listed a w rs) : AllReadyH P md (List.toArray (o0::o1::o2::o3::o4::o5::o6::o7::o8::o9::o10::o11::o12::o13::o14::o15::o16::o17::o18::o19::o20::r)) Q S fuel listed a w (20 :: rs) :=
  AllReadyH.cons rfl h hs
theorem rtake_21 {r : List Oper} {v : Value} (hs : Region.noSelect (List.toArray (o0::o1::o2::o3::o4::o5::o6::o7::o8::o9::o10::o11::o12::o13::o14::o15::o16::o17::o18::o19::o20::o21::r)) = true) (hf : Region.free md (List.toArray (o0::o1::o2::o3::o4::o5::o6::o7::o8::o9::o10::o11::o12::o13::o14::o15::o16::o17::o18::o19::o20::o21::r)) listed 21 = true) (hr : (Region.ready md (List.toArray (o0::o1::o2::o3::o4::o5::o6::o7::o8::o9::o10::o11::o12::o13::o14::o15::o16::o17::o18::o19::o20::o21::r)) listed).contains 21 = true)
    (hQ : ∀ c a w, Q (.panic c) (a.put o21.dst v) w → Q (.panic c) a w) (hy : YieldsIf P (List.toArray (o0::o1::o2::o3::o4::o5::o6::o7::o8::o9::o10::o11::o12::o13::o14::o15::o16::o17::o18::o19::o20::o21::r)) S o21 v a) (hS : S w) (h : wpAnyH P md (List.toArray (o0::o1::o2::o3::o4::o5::o6::o7::o8::o9::o10::o11::o12::o13::o14::o15::o16::o17::o18::o19::o20::o21::r)) Q S fuel (listed.setIfInBounds 21 true) (a.put o21.dst v) w) : wpAnyH P md (List.toArray (o0::o1::o2::o3::o4::o5::o6::o7::o8::o9::o10::o11::o12::o13::o14::o15::o16::o17::o18::o19::o20::o21::r)) Q S (fuel + 1) listed a w :=
  wpAnyH_take (i := 21) rfl hs hf hr hQ hy hS h
theorem rcons_21 {r : List Oper} {rs : List Nat}
    (h : ∀ K' : Act → World → Prop, Shut (∀ a w, S w → (S w → wpAnyH P md (List.toArray (o0::o1::o2::o3::o4::o5::o6::o7::o8::o9::o10::o11::o12::o13::o14::o15::o16::o17::o18::o19::o20::o21::r)) Q S fuel (listed.setIfInBounds 21 true) a w) → K' a w) → if Region.wanted o21 (yielded (List.toArray (o0::o1::o2::o3::o4::o5::o6::o7::o8::o9::o10::o11::o12::o13::o14::o15::o16::o17::o18::o19::o20::o21::r)) a.tmps) = true then Oper.wp P o21 a w K' Q else K' (a.put o21.dst undef) w)
    (hs : AllReadyH P md (List.toArray (o0::o1::o2::o3::o4::o5::o6::o7::o8::o9::o10::o11::o12::o13::o14::o15::o16::o17::o18::o19::o20::o21::r)) Q S fuel listed a w rs) : AllReadyH P md (List.toArray (o0::o1::o2::o3::o4::o5::o6::o7::o8::o9::o10::o11::o12::o13::o14::o15::o16::o17::o18::o19::o20::o21::r)) Q S fuel listed a w (21 :: rs) :=
  AllReadyH.cons rfl h hs
theorem rtake_22 {r : List Oper} {v : Value} (hs : Region.noSelect (List.toArray (o0::o1::o2::o3::o4::o5::o6::o7::o8::o9::o10::o11::o12::o13::o14::o15::o16::o17::o18::o19::o20::o21::o22::r)) = true) (hf : Region.free md (List.toArray (o0::o1::o2::o3::o4::o5::o6::o7::o8::o9::o10::o11::o12::o13::o14::o15::o16::o17::o18::o19::o20::o21::o22::r)) listed 22 = true) (hr : (Region.ready md (List.toArray (o0::o1::o2::o3::o4::o5::o6::o7::o8::o9::o10::o11::o12::o13::o14::o15::o16::o17::o18::o19::o20::o21::o22::r)) listed).contains 22 = true)
    (hQ : ∀ c a w, Q (.panic c) (a.put o22.dst v) w → Q (.panic c) a w) (hy : YieldsIf P (List.toArray (o0::o1::o2::o3::o4::o5::o6::o7::o8::o9::o10::o11::o12::o13::o14::o15::o16::o17::o18::o19::o20::o21::o22::r)) S o22 v a) (hS : S w) (h : wpAnyH P md (List.toArray (o0::o1::o2::o3::o4::o5::o6::o7::o8::o9::o10::o11::o12::o13::o14::o15::o16::o17::o18::o19::o20::o21::o22::r)) Q S fuel (listed.setIfInBounds 22 true) (a.put o22.dst v) w) : wpAnyH P md (List.toArray (o0::o1::o2::o3::o4::o5::o6::o7::o8::o9::o10::o11::o12::o13::o14::o15::o16::o17::o18::o19::o20::o21::o22::r)) Q S (fuel + 1) listed a w :=
  wpAnyH_take (i := 22) rfl hs hf hr hQ hy hS h
theorem rcons_22 {r : List Oper} {rs : List Nat}
    (h : ∀ K' : Act → World → Prop, Shut (∀ a w, S w → (S w → wpAnyH P md (List.toArray (o0::o1::o2::o3::o4::o5::o6::o7::o8::o9::o10::o11::o12::o13::o14::o15::o16::o17::o18::o19::o20::o21::o22::r)) Q S fuel (listed.setIfInBounds 22 true) a w) → K' a w) → if Region.wanted o22 (yielded (List.toArray (o0::o1::o2::o3::o4::o5::o6::o7::o8::o9::o10::o11::o12::o13::o14::o15::o16::o17::o18::o19::o20::o21::o22::r)) a.tmps) = true then Oper.wp P o22 a w K' Q else K' (a.put o22.dst undef) w)
    (hs : AllReadyH P md (List.toArray (o0::o1::o2::o3::o4::o5::o6::o7::o8::o9::o10::o11::o12::o13::o14::o15::o16::o17::o18::o19::o20::o21::o22::r)) Q S fuel listed a w rs) : AllReadyH P md (List.toArray (o0::o1::o2::o3::o4::o5::o6::o7::o8::o9::o10::o11::o12::o13::o14::o15::o16::o17::o18::o19::o20::o21::o22::r)) Q S fuel listed a w (22 :: rs) :=
  AllReadyH.cons rfl h hs
theorem rtake_23 {r : List Oper} {v : Value} (hs : Region.noSelect (List.toArray (o0::o1::o2::o3::o4::o5::o6::o7::o8::o9::o10::o11::o12::o13::o14::o15::o16::o17::o18::o19::o20::o21::o22::o23::r)) = true) (hf : Region.free md (List.toArray (o0::o1::o2::o3::o4::o5::o6::o7::o8::o9::o10::o11::o12::o13::o14::o15::o16::o17::o18::o19::o20::o21::o22::o23::r)) listed 23 = true) (hr : (Region.ready md (List.toArray (o0::o1::o2::o3::o4::o5::o6::o7::o8::o9::o10::o11::o12::o13::o14::o15::o16::o17::o18::o19::o20::o21::o22::o23::r)) listed).contains 23 = true)
    (hQ : ∀ c a w, Q (.panic c) (a.put o23.dst v) w → Q (.panic c) a w) (hy : YieldsIf P (List.toArray (o0::o1::o2::o3::o4::o5::o6::o7::o8::o9::o10::o11::o12::o13::o14::o15::o16::o17::o18::o19::o20::o21::o22::o23::r)) S o23 v a) (hS : S w) (h : wpAnyH P md (List.toArray (o0::o1::o2::o3::o4::o5::o6::o7::o8::o9::o10::o11::o12::o13::o14::o15::o16::o17::o18::o19::o20::o21::o22::o23::r)) Q S fuel (listed.setIfInBounds 23 true) (a.put o23.dst v) w) : wpAnyH P md (List.toArray (o0::o1::o2::o3::o4::o5::o6::o7::o8::o9::o10::o11::o12::o13::o14::o15::o16::o17::o18::o19::o20::o21::o22::o23::r)) Q S (fuel + 1) listed a w :=
  wpAnyH_take (i := 23) rfl hs hf hr hQ hy hS h
theorem rcons_23 {r : List Oper} {rs : List Nat}
    (h : ∀ K' : Act → World → Prop, Shut (∀ a w, S w → (S w → wpAnyH P md (List.toArray (o0::o1::o2::o3::o4::o5::o6::o7::o8::o9::o10::o11::o12::o13::o14::o15::o16::o17::o18::o19::o20::o21::o22::o23::r)) Q S fuel (listed.setIfInBounds 23 true) a w) → K' a w) → if Region.wanted o23 (yielded (List.toArray (o0::o1::o2::o3::o4::o5::o6::o7::o8::o9::o10::o11::o12::o13::o14::o15::o16::o17::o18::o19::o20::o21::o22::o23::r)) a.tmps) = true then Oper.wp P o23 a w K' Q else K' (a.put o23.dst undef) w)
    (hs : AllReadyH P md (List.toArray (o0::o1::o2::o3::o4::o5::o6::o7::o8::o9::o10::o11::o12::o13::o14::o15::o16::o17::o18::o19::o20::o21::o22::o23::r)) Q S fuel listed a w rs) : AllReadyH P md (List.toArray (o0::o1::o2::o3::o4::o5::o6::o7::o8::o9::o10::o11::o12::o13::o14::o15::o16::o17::o18::o19::o20::o21::o22::o23::r)) Q S fuel listed a w (23 :: rs) :=
  AllReadyH.cons rfl h hs
theorem rtake_24 {r : List Oper} {v : Value} (hs : Region.noSelect (List.toArray (o0::o1::o2::o3::o4::o5::o6::o7::o8::o9::o10::o11::o12::o13::o14::o15::o16::o17::o18::o19::o20::o21::o22::o23::o24::r)) = true) (hf : Region.free md (List.toArray (o0::o1::o2::o3::o4::o5::o6::o7::o8::o9::o10::o11::o12::o13::o14::o15::o16::o17::o18::o19::o20::o21::o22::o23::o24::r)) listed 24 = true) (hr : (Region.ready md (List.toArray (o0::o1::o2::o3::o4::o5::o6::o7::o8::o9::o10::o11::o12::o13::o14::o15::o16::o17::o18::o19::o20::o21::o22::o23::o24::r)) listed).contains 24 = true)
    (hQ : ∀ c a w, Q (.panic c) (a.put o24.dst v) w → Q (.panic c) a w) (hy : YieldsIf P (List.toArray (o0::o1::o2::o3::o4::o5::o6::o7::o8::o9::o10::o11::o12::o13::o14::o15::o16::o17::o18::o19::o20::o21::o22::o23::o24::r)) S o24 v a) (hS : S w) (h : wpAnyH P md (List.toArray (o0::o1::o2::o3::o4::o5::o6::o7::o8::o9::o10::o11::o12::o13::o14::o15::o16::o17::o18::o19::o20::o21::o22::o23::o24::r)) Q S fuel (listed.setIfInBounds 24 true) (a.put o24.dst v) w) : wpAnyH P md (List.toArray (o0::o1::o2::o3::o4::o5::o6::o7::o8::o9::o10::o11::o12::o13::o14::o15::o16::o17::o18::o19::o20::o21::o22::o23::o24::r)) Q S (fuel + 1) listed a w :=
  wpAnyH_take (i := 24) rfl hs hf hr hQ hy hS h
theorem rcons_24 {r : List Oper} {rs : List Nat}
    (h : ∀ K' : Act → World → Prop, Shut (∀ a w, S w → (S w → wpAnyH P md (List.toArray (o0::o1::o2::o3::o4::o5::o6::o7::o8::o9::o10::o11::o12::o13::o14::o15::o16::o17::o18::o19::o20::o21::o22::o23::o24::r)) Q S fuel (listed.setIfInBounds 24 true) a w) → K' a w) → if Region.wanted o24 (yielded (List.toArray (o0::o1::o2::o3::o4::o5::o6::o7::o8::o9::o10::o11::o12::o13::o14::o15::o16::o17::o18::o19::o20::o21::o22::o23::o24::r)) a.tmps) = true then Oper.wp P o24 a w K' Q else K' (a.put o24.dst undef) w)
    (hs : AllReadyH P md (List.toArray (o0::o1::o2::o3::o4::o5::o6::o7::o8::o9::o10::o11::o12::o13::o14::o15::o16::o17::o18::o19::o20::o21::o22::o23::o24::r)) Q S fuel listed a w rs) : AllReadyH P md (List.toArray (o0::o1::o2::o3::o4::o5::o6::o7::o8::o9::o10::o11::o12::o13::o14::o15::o16::o17::o18::o19::o20::o21::o22::o23::o24::r)) Q S fuel listed a w (24 :: rs) :=
  AllReadyH.cons rfl h hs
theorem rtake_25 {r : List Oper} {v : Value} (hs : Region.noSelect (List.toArray (o0::o1::o2::o3::o4::o5::o6::o7::o8::o9::o10::o11::o12::o13::o14::o15::o16::o17::o18::o19::o20::o21::o22::o23::o24::o25::r)) = true) (hf : Region.free md (List.toArray (o0::o1::o2::o3::o4::o5::o6::o7::o8::o9::o10::o11::o12::o13::o14::o15::o16::o17::o18::o19::o20::o21::o22::o23::o24::o25::r)) listed 25 = true) (hr : (Region.ready md (List.toArray (o0::o1::o2::o3::o4::o5::o6::o7::o8::o9::o10::o11::o12::o13::o14::o15::o16::o17::o18::o19::o20::o21::o22::o23::o24::o25::r)) listed).contains 25 = true)
    (hQ : ∀ c a w, Q (.panic c) (a.put o25.dst v) w → Q (.panic c) a w) (hy : YieldsIf P (List.toArray (o0::o1::o2::o3::o4::o5::o6::o7::o8::o9::o10::o11::o12::o13::o14::o15::o16::o17::o18::o19::o20::o21::o22::o23::o24::o25::r)) S o25 v a) (hS : S w) (h : wpAnyH P md (List.toArray (o0::o1::o2::o3::o4::o5::o6::o7::o8::o9::o10::o11::o12::o13::o14::o15::o16::o17::o18::o19::o20::o21::o22::o23::o24::o25::r)) Q S fuel (listed.setIfInBounds 25 true) (a.put o25.dst v) w) : wpAnyH P md (List.toArray (o0::o1::o2::o3::o4::o5::o6::o7::o8::o9::o10::o11::o12::o13::o14::o15::o16::o17::o18::o19::o20::o21::o22::o23::o24::o25::r)) Q S (fuel + 1) listed a w :=
  wpAnyH_take (i := 25) rfl hs hf hr hQ hy hS h
theorem rcons_25 {r : List Oper} {rs : List Nat}
    (h : ∀ K' : Act → World → Prop, Shut (∀ a w, S w → (S w → wpAnyH P md (List.toArray (o0::o1::o2::o3::o4::o5::o6::o7::o8::o9::o10::o11::o12::o13::o14::o15::o16::o17::o18::o19::o20::o21::o22::o23::o24::o25::r)) Q S fuel (listed.setIfInBounds 25 true) a w) → K' a w) → if Region.wanted o25 (yielded (List.toArray (o0::o1::o2::o3::o4::o5::o6::o7::o8::o9::o10::o11::o12::o13::o14::o15::o16::o17::o18::o19::o20::o21::o22::o23::o24::o25::r)) a.tmps) = true then Oper.wp P o25 a w K' Q else K' (a.put o25.dst undef) w)
    (hs : AllReadyH P md (List.toArray (o0::o1::o2::o3::o4::o5::o6::o7::o8::o9::o10::o11::o12::o13::o14::o15::o16::o17::o18::o19::o20::o21::o22::o23::o24::o25::r)) Q S fuel listed a w rs) : AllReadyH P md (List.toArray (o0::o1::o2::o3::o4::o5::o6::o7::o8::o9::o10::o11::o12::o13::o14::o15::o16::o17::o18::o19::o20::o21::o22::o23::o24::o25::r)) Q S fuel listed a w (25 :: rs) :=
  AllReadyH.cons rfl h hs
theorem rtake_26 {r : List Oper} {v : Value} (hs : Region.noSelect (List.toArray (o0::o1::o2::o3::o4::o5::o6::o7::o8::o9::o10::o11::o12::o13::o14::o15::o16::o17::o18::o19::o20::o21::o22::o23::o24::o25::o26::r)) = true) (hf : Region.free md (List.toArray (o0::o1::o2::o3::o4::o5::o6::o7::o8::o9::o10::o11::o12::o13::o14::o15::o16::o17::o18::o19::o20::o21::o22::o23::o24::o25::o26::r)) listed 26 = true) (hr : (Region.ready md (List.toArray (o0::o1::o2::o3::o4::o5::o6::o7::o8::o9::o10::o11::o12::o13::o14::o15::o16::o17::o18::o19::o20::o21::o22::o23::o24::o25::o26::r)) listed).contains 26 = true)
    (hQ : ∀ c a w, Q (.panic c) (a.put o26.dst v) w → Q (.panic c) a w) (hy : YieldsIf P (List.toArray (o0::o1::o2::o3::o4::o5::o6::o7::o8::o9::o10::o11::o12::o13::o14::o15::o16::o17::o18::o19::o20::o21::o22::o23::o24::o25::o26::r)) S o26 v a) (hS : S w) (h : wpAnyH P md (List.toArray (o0::o1::o2::o3::o4::o5::o6::o7::o8::o9::o10::o11::o12::o13::o14::o15::o16::o17::o18::o19::o20::o21::o22::o23::o24::o25::o26::r)) Q S fuel (listed.setIfInBounds 26 true) (a.put o26.dst v) w) : wpAnyH P md (List.toArray (o0::o1::o2::o3::o4::o5::o6::o7::o8::o9::o10::o11::o12::o13::o14::o15::o16::o17::o18::o19::o20::o21::o22::o23::o24::o25::o26::r)) Q S (fuel + 1) listed a w :=
  wpAnyH_take (i := 26) rfl hs hf hr hQ hy hS h
theorem rcons_26 {r : List Oper} {rs : List Nat}
    (h : ∀ K' : Act → World → Prop, Shut (∀ a w, S w → (S w → wpAnyH P md (List.toArray (o0::o1::o2::o3::o4::o5::o6::o7::o8::o9::o10::o11::o12::o13::o14::o15::o16::o17::o18::o19::o20::o21::o22::o23::o24::o25::o26::r)) Q S fuel (listed.setIfInBounds 26 true) a w) → K' a w) → if Region.wanted o26 (yielded (List.toArray (o0::o1::o2::o3::o4::o5::o6::o7::o8::o9::o10::o11::o12::o13::o14::o15::o16::o17::o18::o19::o20::o21::o22::o23::o24::o25::o26::r)) a.tmps) = true then Oper.wp P o26 a w K' Q else K' (a.put o26.dst undef) w)
    (hs : AllReadyH P md (List.toArray (o0::o1::o2::o3::o4::o5::o6::o7::o8::o9::o10::o11::o12::o13::o14::o15::o16::o17::o18::o19::o20::o21::o22::o23::o24::o25::o26::r)) Q S fuel listed a w rs) : AllReadyH P md (List.toArray (o0::o1::o2::o3::o4::o5::o6::o7::o8::o9::o10::o11::o12::o13::o14::o15::o16::o17::o18::o19::o20::o21::o22::o23::o24::o25::o26::r)) Q S fuel listed a w (26 :: rs) :=
  AllReadyH.cons rfl h hs
theorem rtake_27 {r : List Oper} {v : Value} (hs : Region.noSelect (List.toArray (o0::o1::o2::o3::o4::o5::o6::o7::o8::o9::o10::o11::o12::o13::o14::o15::o16::o17::o18::o19::o20::o21::o22::o23::o24::o25::o26::o27::r)) = true) (hf : Region.free md (List.toArray (o0::o1::o2::o3::o4::o5::o6::o7::o8::o9::o10::o11::o12::o13::o14::o15::o16::o17::o18::o19::o20::o21::o22::o23::o24::o25::o26::o27::r)) listed 27 = true) (hr : (Region.ready md (List.toArray (o0::o1::o2::o3::o4::o5::o6::o7::o8::o9::o10::o11::o12::o13::o14::o15::o16::o17::o18::o19::o20::o21::o22::o23::o24::o25::o26::o27::r)) listed).contains 27 = true)
    (hQ : ∀ c a w, Q (.panic c) (a.put o27.dst v) w → Q (.panic c) a w) (hy : YieldsIf P (List.toArray (o0::o1::o2::o3::o4::o5::o6::o7::o8::o9::o10::o11::o12::o13::o14::o15::o16::o17::o18::o19::o20::o21::o22::o23::o24::o25::o26::o27::r)) S o27 v a) (hS : S w) (h : wpAnyH P md (List.toArray (o0::o1::o2::o3::o4::o5::o6::o7::o8::o9::o10::o11::o12::o13::o14::o15::o16::o17::o18::o19::o20::o21::o22::o23::o24::o25::o26::o27::r)) Q S fuel (listed.setIfInBounds 27 true) (a.put o27.dst v) w) : wpAnyH P md (List.toArray (o0::o1::o2::o3::o4::o5::o6::o7::o8::o9::o10::o11::o12::o13::o14::o15::o16::o17::o18::o19::o20::o21::o22::o23::o24::o25::o26::o27::r)) Q S (fuel + 1) listed a w :=
  wpAnyH_take (i := 27) rfl hs hf hr hQ hy hS h
theorem rcons_27 {r : List Oper} {rs : List Nat}
    (h : ∀ K' : Act → World → Prop, Shut (∀ a w, S w → (S w → wpAnyH P md (List.toArray (o0::o1::o2::o3::o4::o5::o6::o7::o8::o9::o10::o11::o12::o13::o14::o15::o16::o17::o18::o19::o20::o21::o22::o23::o24::o25::o26::o27::r)) Q S fuel (listed.setIfInBounds 27 true) a w) → K' a w) → if Region.wanted o27 (yielded (List.toArray (o0::o1::o2::o3::o4::o5::o6::o7::o8::o9::o10::o11::o12::o13::o14::o15::o16::o17::o18::o19::o20::o21::o22::o23::o24::o25::o26::o27::r)) a.tmps) = true then Oper.wp P o27 a w K' Q else K' (a.put o27.dst undef) w)
    (hs : AllReadyH P md (List.toArray (o0::o1::o2::o3::o4::o5::o6::o7::o8::o9::o10::o11::o12::o13::o14::o15::o16::o17::o18::o19::o20::o21::o22::o23::o24::o25::o26::o27::r)) Q S fuel listed a w rs) : AllReadyH P md (List.toArray (o0::o1::o2::o3::o4::o5::o6::o7::o8::o9::o10::o11::o12::o13::o14::o15::o16::o17::o18::o19::o20::o21::o22::o23::o24::o25::o26::o27::r)) Q S fuel listed a w (27 :: rs) :=
  AllReadyH.cons rfl h hs
theorem rtake_28 {r : List Oper} {v : Value} (hs : Region.noSelect (List.toArray (o0::o1::o2::o3::o4::o5::o6::o7::o8::o9::o10::o11::o12::o13::o14::o15::o16::o17::o18::o19::o20::o21::o22::o23::o24::o25::o26::o27::o28::r)) = true) (hf : Region.free md (List.toArray (o0::o1::o2::o3::o4::o5::o6::o7::o8::o9::o10::o11::o12::o13::o14::o15::o16::o17::o18::o19::o20::o21::o22::o23::o24::o25::o26::o27::o28::r)) listed 28 = true) (hr : (Region.ready md (List.toArray (o0::o1::o2::o3::o4::o5::o6::o7::o8::o9::o10::o11::o12::o13::o14::o15::o16::o17::o18::o19::o20::o21::o22::o23::o24::o25::o26::o27::o28::r)) listed).contains 28 = true)
    (hQ : ∀ c a w, Q (.panic c) (a.put o28.dst v) w → Q (.panic c) a w) (hy : YieldsIf P (List.toArray (o0::o1::o2::o3::o4::o5::o6::o7::o8::o9::o10::o11::o12::o13::o14::o15::o16::o17::o18::o19::o20::o21::o22::o23::o24::o25::o26::o27::o28::r)) S o28 v a) (hS : S w) (h : wpAnyH P md (List.toArray (o0::o1::o2::o3::o4::o5::o6::o7::o8::o9::o10::o11::o12::o13::o14::o15::o16::o17::o18::o19::o20::o21::o22::o23::o24::o25::o26::o27::o28::r)) Q S fuel (listed.setIfInBounds 28 true) (a.put o28.dst v) w) : wpAnyH P md (List.toArray (o0::o1::o2::o3::o4::o5::o6::o7::o8::o9::o10::o11::o12::o13::o14::o15::o16::o17::o18::o19::o20::o21::o22::o23::o24::o25::o26::o27::o28::r)) Q S (fuel + 1) listed a w :=
  wpAnyH_take (i := 28) rfl hs hf hr hQ hy hS h
theorem rcons_28 {r : List Oper} {rs : List Nat}
    (h : ∀ K' : Act → World → Prop, Shut (∀ a w, S w → (S w → wpAnyH P md (List.toArray (o0::o1::o2::o3::o4::o5::o6::o7::o8::o9::o10::o11::o12::o13::o14::o15::o16::o17::o18::o19::o20::o21::o22::o23::o24::o25::o26::o27::o28::r)) Q S fuel (listed.setIfInBounds 28 true) a w) → K' a w) → if Region.wanted o28 (yielded (List.toArray (o0::o1::o2::o3::o4::o5::o6::o7::o8::o9::o10::o11::o12::o13::o14::o15::o16::o17::o18::o19::o20::o21::o22::o23::o24::o25::o26::o27::o28::r)) a.tmps) = true then Oper.wp P o28 a w K' Q else K' (a.put o28.dst undef) w)
    (hs : AllReadyH P md (List.toArray (o0::o1::o2::o3::o4::o5::o6::o7::o8::o9::o10::o11::o12::o13::o14::o15::o16::o17::o18::o19::o20::o21::o22::o23::o24::o25::o26::o27::o28::r)) Q S fuel listed a w rs) : AllReadyH P md (List.toArray (o0::o1::o2::o3::o4::o5::o6::o7::o8::o9::o10::o11::o12::o13::o14::o15::o16::o17::o18::o19::o20::o21::o22::o23::o24::o25::o26::o27::o28::r)) Q S fuel listed a w (28 :: rs) :=
  AllReadyH.cons rfl h hs
theorem rtake_29 {r : List Oper} {v : Value} (hs : Region.noSelect (List.toArray (o0::o1::o2::o3::o4::o5::o6::o7::o8::o9::o10::o11::o12::o13::o14::o15::o16::o17::o18::o19::o20::o21::o22::o23::o24::o25::o26::o27::o28::o29::r)) = true) (hf : Region.free md (List.toArray (o0::o1::o2::o3::o4::o5::o6::o7::o8::o9::o10::o11::o12::o13::o14::o15::o16::o17::o18::o19::o20::o21::o22::o23::o24::o25::o26::o27::o28::o29::r)) listed 29 = true) (hr : (Region.ready md (List.toArray (o0::o1::o2::o3::o4::o5::o6::o7::o8::o9::o10::o11::o12::o13::o14::o15::o16::o17::o18::o19::o20::o21::o22::o23::o24::o25::o26::o27::o28::o29::r)) listed).contains 29 = true)
    (hQ : ∀ c a w, Q (.panic c) (a.put o29.dst v) w → Q (.panic c) a w) (hy : YieldsIf P (List.toArray (o0::o1::o2::o3::o4::o5::o6::o7::o8::o9::o10::o11::o12::o13::o14::o15::o16::o17::o18::o19::o20::o21::o22::o23::o24::o25::o26::o27::o28::o29::r)) S o29 v a) (hS : S w) (h : wpAnyH P md (List.toArray (o0::o1::o2::o3::o4::o5::o6::o7::o8::o9::o10::o11::o12::o13::o14::o15::o16::o17::o18::o19::o20::o21::o22::o23::o24::o25::o26::o27::o28::o29::r)) Q S fuel (listed.setIfInBounds 29 true) (a.put o29.dst v) w) : wpAnyH P md (List.toArray (o0::o1::o2::o3::o4::o5::o6::o7::o8::o9::o10::o11::o12::o13::o14::o15::o16::o17::o18::o19::o20::o21::o22::o23::o24::o25::o26::o27::o28::o29::r)) Q S (fuel + 1) listed a w :=
  wpAnyH_take (i := 29) rfl hs hf hr hQ hy hS h
theorem rcons_29 {r : List Oper} {rs : List Nat}
    (h : ∀ K' : Act → World → Prop, Shut (∀ a w, S w → (S w → wpAnyH P md (List.toArray (o0::o1::o2::o3::o4::o5::o6::o7::o8::o9::o10::o11::o12::o13::o14::o15::o16::o17::o18::o19::o20::o21::o22::o23::o24::o25::o26::o27::o28::o29::r)) Q S fuel (listed.setIfInBounds 29 true) a w) → K' a w) → if Region.wanted o29 (yielded (List.toArray (o0::o1::o2::o3::o4::o5::o6::o7::o8::o9::o10::o11::o12::o13::o14::o15::o16::o17::o18::o19::o20::o21::o22::o23::o24::o25::o26::o27::o28::o29::r)) a.tmps) = true then Oper.wp P o29 a w K' Q else K' (a.put o29.dst undef) w)
    (hs : AllReadyH P md (List.toArray (o0::o1::o2::o3::o4::o5::o6::o7::o8::o9::o10::o11::o12::o13::o14::o15::o16::o17::o18::o19::o20::o21::o22::o23::o24::o25::o26::o27::o28::o29::r)) Q S fuel listed a w rs) : AllReadyH P md (List.toArray (o0::o1::o2::o3::o4::o5::o6::o7::o8::o9::o10::o11::o12::o13::o14::o15::o16::o17::o18::o19::o20::o21::o22::o23::o24::o25::o26::o27::o28::o29::r)) Q S fuel listed a w (29 :: rs) :=
  AllReadyH.cons rfl h hs
end

end Go.Proofs.YtahpjoknmclbfaaDoor

/- Law 36: BoundWorks, walked. -/
namespace Go.Proofs.YtahpjoknmclbfaaDoor
open Go.RowKit

theorem hasDb_tab {w : World} (T : Ru.Tab w) : HasDb w := fun j hj => T.2 j _ (by
  have e : Ru.deB = Lib.deBruijn64tab.map fun (n : Nat) => Value.int .u8 (n : Int) := by rfl
  rw [e, List.getElem?_map, List.getD_eq_getElem?_getD, List.getElem?_eq_getElem hj]
  rfl)
/-- The state at the first. -/
def g36 (cap : Nat) : GS := ⟨List.replicate (1 + 16 * (2 + cap)) 0, 0, 0, 0, fun _ => 0, fun _ => 0, 0⟩
theorem mach36 {w : World} {mb wb rb cap : Nat} (hm : Blk w mb 43 #[.slice (some ⟨wb, 0, none⟩) (1 + 16 * (2 + cap)) (1 + 16 * (2 + cap)), .int .u64 0]) (hw : Blk w wb 30 (zeros (U64 0) (1 + 16 * (2 + cap)))) (hr : Blk w rb 50 (rackC cap 0 0 0)) : Mach w mb wb rb cap (g36 cap) := by
  have hg : ∀ i, (List.replicate (1 + 16 * (2 + cap)) 0).getD i 0 = 0 := fun i => by
    rw [List.getD_eq_getElem?_getD]
    cases h : (List.replicate (1 + 16 * (2 + cap)) 0)[i]? with
    | none => rfl
    | some v => exact List.eq_of_mem_replicate (List.mem_of_getElem? h)
  refine ⟨⟨0, by simpa [g36] using hm⟩, ?_, hr, by simp [g36], by simp [g36], by simp [g36], by simp [g36], ?_, fun j hj => ⟨?_, ?_, by simp [g36], by simp [g36], by simp [g36]⟩⟩
  · have e : ((g36 cap).xs.map U64).toArray = zeros (U64 0) (1 + 16 * (2 + cap)) := by
      apply Array.ext'
      simp [g36, zeros]
    rw [e]; exact hw
  · show (List.replicate (1 + 16 * (2 + cap)) 0).getD 0 0 < 256
    rw [hg]; decide
  · exact (hg _).trans (show 0 = enc 0 by decide)
  · exact (hg _).trans (show 0 = enc 0 by decide)
/-- What the loop keeps. -/
def LInv (w wr : World) (mb wb rb ab qb cap i : Nat) : Prop := ∃ g vs rs, ∃ ms : Nat → Nat, Core w wr mb wb rb cap i g vs rs ms ∧ Blk wr ab 34 (arr fun k => ptrOf (vs k)) ∧ Blk wr qb 3 (arr fun k => .int .i64 (ms k)) ∧ w.heap.size ≤ ab ∧ w.heap.size ≤ qb
/-- A worker begins, and the arrays know. -/
theorem LInv.begins {w wr w' : World} {mb wb rb ab qb cap i k m : Nat} {g : GS} {vs : Nat → Option VS} {rs : Nat → Int} {ms : Nat → Nat} {v : VS} (C : Core w wr mb wb rb cap i g vs rs ms) (hab : ∃ f, (∀ j, j < 4 → j ≠ k → f j = ptrOf (vs j)) ∧ Blk wr ab 34 (arr f)) (hqb : Blk wr qb 3 (arr fun k => .int .i64 (ms k))) (ha : w.heap.size ≤ ab) (hq : w.heap.size ≤ qb) (hk : k < 4) (hv : vs k = none) (V : Wmem w' rb v) (L : ∀ g, Live cap g v m) (steps : v.W.steps = 0) (thief : 1 ≤ k → Thief v.W) (new : wr.heap.size ≤ v.kb ∧ wr.heap.size ≤ v.ob) (good : famOf v.W.next = 0 ∨ famOf v.W.next = 2 → GoodAt w.heap.size w' v.W.good) (hop : v.W.next = 31 → v.W.op = .pointer none) (m5 : 5 ≤ m ∧ m ≤ 1000) (kept : Kept [] wr w') :
    LInv w ((w'.setCell ⟨ab, k, none⟩ (.pointer (some ⟨v.kb, 0, none⟩))).setCell ⟨qb, k, none⟩ (.int .i64 m)) mb wb rb ab qb cap i := by
  obtain ⟨f, hf, hab⟩ := hab
  have C1 := C.begins hk hv V (L g) steps thief new good hop m5 kept
  have A1 := hab.kept kept (by simp)
  have Q1 := hqb.kept kept (by simp)
  have hne : ab ≠ qb := A1.ne Q1 (by decide)
  have hk1 : Kept [ab] w' (w'.setCell ⟨ab, k, none⟩ (.pointer (some ⟨v.kb, 0, none⟩))) := (Kept.refl _ _).setCell (.inl (by simp)) _
  have A2 := A1.set k (.pointer (some ⟨v.kb, 0, none⟩))
  have Q2 := Q1.kept hk1 (by simp [Ne.symm hne])
  obtain ⟨um, hm⟩ := C1.mach.mem
  have C2 := C1.far hk1 (fun q hq => by
    simp only [List.mem_singleton] at hq
    subst hq
    exact ⟨ha, _, _, A1, by decide, by decide, by decide, A1.ne hm (by decide), A1.ne C1.mach.words (by decide), A1.ne C1.mach.rack (by decide)⟩)
  have hk2 : Kept [qb] (w'.setCell ⟨ab, k, none⟩ (.pointer (some ⟨v.kb, 0, none⟩))) ((w'.setCell ⟨ab, k, none⟩ (.pointer (some ⟨v.kb, 0, none⟩))).setCell ⟨qb, k, none⟩ (.int .i64 m)) := (Kept.refl _ _).setCell (.inl (by simp)) _
  have Q3 := Q2.set k (.int .i64 (m : Nat))
  have A3 := A2.kept hk2 (by simp [hne])
  obtain ⟨um2, hm2⟩ := C2.mach.mem
  have C3 := C2.far hk2 (fun q hq' => by
    simp only [List.mem_singleton] at hq'
    subst hq'
    exact ⟨hq, _, _, Q2, by decide, by decide, by decide, Q2.ne hm2 (by decide), Q2.ne C2.mach.words (by decide), Q2.ne C2.mach.rack (by decide)⟩)
  rw [arr_set _ _ hk] at A3 Q3
  refine ⟨g, _, _, _, C3, ?_, ?_, ha, hq⟩
  · rw [arr_congr (g := fun j => if j = k then .pointer (some ⟨v.kb, 0, none⟩) else f j) (fun j hj => ?_)]
    · exact A3
    · by_cases h : j = k
      · subst h; simp [put4, ptrOf]
      · simp [put4, h, hf j hj h]
  · rw [arr_congr (g := fun j => if j = k then .int .i64 (m : Nat) else .int .i64 (ms j)) (fun j hj => ?_)]
    · exact Q3
    · by_cases h : j = k
      · subst h; simp [put4]
      · simp [put4, h]
set_option maxRecDepth 100000 in
set_option maxHeartbeats 12800000 in
theorem boundWorks_any (sz : Nat) (hsz : sz < 256) (A : Option Addr) (n c : Nat) (acts : List A36) (w : World) (hr : Reads w 6 A n (acts.flatMap a36)) (hn : n ≤ 9223372036854775807) (hok : ∀ a ∈ acts, OkA w a) (hT : Ru.Tab w) : Calls Tryd.prog 3 #[.int .u8 sz, .slice A n c] w fun e w' => e = .returned (.bool true) ∧ Kept [] w w' := by
  obtain rfl : n = acts.length := hr.lenK a36 6 a36_len (by omega)
  have HR := Lib.hid hr
  have HOK := Lib.hid hok
  have HT := Lib.hid (fun W (hk : Kept [] w W) => hT.kept hk)
  have HD := Lib.hid (fun W (hk : Kept [] w W) => hasDb_tab (hT.kept hk))
  have HGL := Lib.hid hT.1
  have h3 : (0 : Int) ≤ (acts.length : Int) := by omega
  clear hr hok hT
  have hmkA : ∀ W, (Instr.makeSlice 29 (.int .i64 4) (.int .i64 4)).run Tryd.prog W = .ok (.slice (some ⟨W.heap.size, 0, none⟩) 4 4) (W.alloc (.cells (arr fun _ => .pointer none) 34)) := fun W => run_make_n 29 34 (.pointer none) 8 Tryd.underlying29 (by kernel_rfl) rfl 4 4 rfl (by omega) (by omega) W
  have hmkB : ∀ W, (Instr.makeSlice 23 (.int .i64 4) (.int .i64 4)).run Tryd.prog W = .ok (.slice (some ⟨W.heap.size, 0, none⟩) 4 4) (W.alloc (.cells (arr fun _ => .int .i64 0) 3)) := fun W => run_make_n 23 3 (.int .i64 0) 8 Tryd.underlying23 (by kernel_rfl) rfl 4 4 rfl (by omega) (by omega) W
  have HM : Hid ((sz : Int) % 3 = 0 ∨ (sz : Int) % 3 = 1 ∨ (sz : Int) % 3 = 2) := by
    show _ ∨ _
    omega
  go_enter Tryd.func3, Tryd.ntmps3
  go_upto_region 1 with fail
  go_cut [5] (fun s5 wx => ∃ cap : Nat, (cap = 2 ∨ cap = 4 ∨ cap = 8) ∧ s5 = .int .i64 cap ∧ Hid (Kept [] w wx))
  case first =>
    rcases HM.out with hm | hm | hm
    · go_wp2_with (first | simp only [hm] | fail)
      go_meet
      exact ⟨2, .inl rfl, rfl, (Kept.refl [] w).alloc _⟩
    · go_wp2_with (first | simp only [hm] | fail)
      go_meet
      exact ⟨4, .inr (.inl rfl), rfl, (Kept.refl [] w).alloc _⟩
    · go_wp2_with (first | simp only [hm] | fail)
      go_meet
      exact ⟨8, .inr (.inr rfl), rfl, (Kept.refl [] w).alloc _⟩
  case rest =>
    obtain ⟨cap, hc, rfl, HK0⟩ := hcut
    have HC := Lib.hid hc
    have HWo := Lib.hid (words36 cap hc (HT.out _ HK0.out))
    have hcb : cap ≤ 8 := by omega
    clear hc
    go_wp2_with fail
    refine HWo.out.mono ?_
    rintro e w1 ⟨rfl, hk1⟩
    have HK1 := Lib.hid (HK0.out.trans hk1)
    have HMn := Lib.hid (mNew_any (1 + 16 * (2 + cap)) (by omega) w1)
    clear hk1
    go_wp2_with fail
    refine HMn.out.mono ?_
    rintro e w2 ⟨⟨mb, wb, hmb, hwb, rfl, hB, hW⟩, hk2⟩
    have HK2 := Lib.hid (HK1.out.trans hk2)
    have HNw := Lib.hid (kNew_any cap HC.out w2 (HT.out _ HK2.out))
    have HB := Lib.hid hB
    have HW := Lib.hid hW
    have HS1 := Lib.hid (And.intro (Nat.le_trans HK1.out.size hmb) (Nat.le_trans HK1.out.size hwb))
    clear hk2 hB hW hmb hwb
    go_wp2_with fail
    refine HNw.out.mono ?_
    rintro e w3 ⟨⟨rb, hrb, rfl, hR⟩, hk3⟩
    have HK3 := Lib.hid (HK2.out.trans hk3)
    have HM3 := Lib.hid (mach36 (HB.out.kept hk3 (by simp)) (HW.out.kept hk3 (by simp)) hR)
    have HS2 := Lib.hid (Nat.le_trans HK2.out.size hrb)
    clear hk3 hR hrb
    go_wp2_with (first | simp only [hmkA] | simp only [hmkB])
    have HA0 : Hid (Blk ((w3.alloc (.cells (arr fun _ => .pointer none) 34)).alloc (.cells (arr fun _ => .int .i64 0) 3)) w3.heap.size 34 (arr fun _ => .pointer none)) := (Blk.new w3 _ _).alloc _
    have HQ0 : Hid (Blk ((w3.alloc (.cells (arr fun _ => .pointer none) 34)).alloc (.cells (arr fun _ => .int .i64 0) 3)) (w3.heap.size + 1) 3 (arr fun _ => .int .i64 0)) := Blk.newAt (by simp) _ _
    have HK4 : Hid (Kept [] w3 ((w3.alloc (.cells (arr fun _ => .pointer none) 34)).alloc (.cells (arr fun _ => .int .i64 0) 3))) := ((Kept.refl [] w3).alloc _).alloc _
    obtain ⟨ab, hab⟩ : ∃ ab, ab = w3.heap.size := ⟨_, rfl⟩
    obtain ⟨qb, hqb⟩ : ∃ qb, qb = ab + 1 := ⟨_, rfl⟩
    have hszw : w.heap.size ≤ w3.heap.size := HK3.out.size
    generalize ((w3.alloc (.cells (arr fun _ => .pointer none) 34)).alloc (.cells (arr fun _ => .int .i64 0) 3)) = w4 at *
    simp only [← hab]
    simp only [← hqb]
    rw [← hab] at HA0
    rw [← hab, ← hqb] at HQ0
    have HAB : Hid (w.heap.size ≤ ab ∧ w.heap.size ≤ qb) := ⟨by omega, by omega⟩
    have HL0 : Hid (LInv w w4 mb wb rb ab qb cap 0) := ⟨g36 cap, fun _ => none, fun _ => 0, fun _ => 0, ⟨HM3.out.kept HK4.out (by simp) (by simp) (by simp), Nat.le_refl _, HK3.out.trans HK4.out, ⟨HS1.out.1, HS1.out.2, HS2.out⟩, (fun _ _ _ h => by cases h), (fun _ _ _ _ _ _ _ h _ => by cases h)⟩, HA0.out, HQ0.out, HAB.out⟩
    clear hab hqb
    go_loopw [10] (fun iv wr => ∃ i : Nat, i ≤ acts.length ∧ i ≤ 300 ∧ iv = .int .i64 i ∧ Hid (LInv w wr mb wb rb ab qb cap i)) (fun i _ => acts.length - (intOf i).toNat)
    case atStart => exact ⟨0, by omega, by omega, rfl, HL0.out⟩
    case round =>
      obtain ⟨i, hi1, hi2, rfl, HL⟩ := hrel
      obtain ⟨g, vs, rs, ms, C, AB, QB, _, _⟩ := HL.out
      have HKW := Lib.hid C.kept
      by_cases hgo : i < acts.length ∧ i < 300
      · obtain ⟨hg1, hg2⟩ := hgo
        obtain ⟨x, hx⟩ : ∃ x, acts[i]? = some x := ⟨acts[i], List.getElem?_eq_getElem hg1⟩
        obtain ⟨hxw, hxn, hxr⟩ := HOK.out x (List.mem_of_getElem? hx)
        have hxa : 0 < x.n → ∀ ad, x.A = some ad → ad.block < w.heap.size := fun h0 ad e => by
          obtain ⟨b, o, h1, h2, _⟩ := hxr.addr h0 (by omega)
          rw [e] at h1
          cases h1
          exact h2
        obtain ⟨b', o, rfl, hb0, hcc⟩ := HR.out.cellsK a36 6 a36_len (by omega) (by omega)
        have HCL : Hid (∀ W, Kept [] w W → W.cell? ⟨b', o + i * 6, none⟩ = some (.int .u8 x.who) ∧ W.cell? ⟨b', o + i * 6 + 1, none⟩ = some (.int .u8 x.name) ∧ W.cell? ⟨b', o + i * 6 + 2, none⟩ = some (U64 x.x) ∧ W.cell? ⟨b', o + i * 6 + 3, none⟩ = some (.int .i64 x.lv) ∧ W.cell? ⟨b', o + i * 6 + 4, none⟩ = some (.bool x.p) ∧ W.cell? ⟨b', o + i * 6 + 5, none⟩ = some (.slice x.A x.n x.c)) := fun W hk =>
          ⟨hk.cell_some (hcc i x hx 0 (by omega)) (by simp), hk.cell_some (hcc i x hx 1 (by omega)) (by simp), hk.cell_some (hcc i x hx 2 (by omega)) (by simp), hk.cell_some (hcc i x hx 3 (by omega)) (by simp), hk.cell_some (hcc i x hx 4 (by omega)) (by simp), hk.cell_some (hcc i x hx 5 (by omega)) (by simp)⟩
        obtain ⟨xw, xn, xx, xl, xp, xA, xm, xc, xb⟩ := x
        simp only at hxw hxn hxr hxa HCL
        obtain ⟨c0, c1, c2, c3, c4, c5⟩ := HCL.out wr HKW.out
        have hj0 : (0 : Int) ≤ (i : Int) := by omega
        have hj1 : (i : Int) < (acts.length : Int) := by omega
        have hj2 : (i : Int) < 300 := by omega
        obtain ⟨k, hk⟩ : ∃ k : Nat, k = xw % 4 := ⟨_, rfl⟩
        have hk4 : k < 4 := by omega
        have hmod : (xw : Int) % 4 = (k : Int) := by omega
        have hkk0 : (0 : Int) ≤ (k : Int) := by omega
        have hkk1 : (k : Int) < 4 := by omega
        have caa : wr.cell? ⟨ab, k, none⟩ = some (ptrOf (vs k)) := by rw [AB.cell]; exact arr_get _ k hk4
        have cqq : wr.cell? ⟨qb, k, none⟩ = some (.int .i64 (ms k)) := by rw [QB.cell]; exact arr_get (fun k => .int .i64 (ms k)) k hk4
        have HQB := Lib.hid QB
        have HABb := Lib.hid AB
        have HCo := Lib.hid C
        clear hcc hx hb0 hk C QB AB
        cases hv : vs k with
        | none =>
          rw [hv] at caa
          simp only [ptrOf, Option.map_none] at caa
          have hvn := Lib.hid hv
          go_wp2_with (first | simp only [hmod] | fail)
          refine wp_region_held_drew (S := fun w' => w'.cell? ⟨ab, k, none⟩ = some (.pointer none)) (by kernel_rfl) caa (fun hHeld => ?_)
          (refine rtake_0 (v := ?_) (by kernel_rfl) (by kernel_rfl) (by kernel_rfl) (fun _ _ _ h => h) (Or.inl ⟨by rfl, ?_⟩) (by assumption) ?_; rotate_left; focus ((intro w hSw; (try dsimp only at hSw); go_simp); try (with_reducible rfl)); (try simp only [Act.put, List.setIfInBounds_toArray, List.set_cons_zero, List.set_cons_succ]))
          (try simp only [Act.put, List.setIfInBounds_toArray, List.set_cons_zero, List.set_cons_succ])
          (refine rtake_1 (v := ?_) (by kernel_rfl) (by kernel_rfl) (by kernel_rfl) (fun _ _ _ h => h) (Or.inl ⟨by rfl, ?_⟩) (by assumption) ?_; rotate_left; focus ((intro w hSw; (try dsimp only at hSw); go_simp); try (with_reducible rfl)); (try simp only [Act.put, List.setIfInBounds_toArray, List.set_cons_zero, List.set_cons_succ]))
          (try simp only [Act.put, List.setIfInBounds_toArray, List.set_cons_zero, List.set_cons_succ])
          (refine rtake_2 (v := ?_) (by kernel_rfl) (by kernel_rfl) (by kernel_rfl) (fun _ _ _ h => h) (Or.inl ⟨by rfl, ?_⟩) (by assumption) ?_; rotate_left; focus ((intro w hSw; (try dsimp only at hSw); go_simp); try (with_reducible rfl)); (try simp only [Act.put, List.setIfInBounds_toArray, List.set_cons_zero, List.set_cons_succ]))
          (try simp only [Act.put, List.setIfInBounds_toArray, List.set_cons_zero, List.set_cons_succ])
          (refine rtake_3 (v := ?_) (by kernel_rfl) (by kernel_rfl) (by kernel_rfl) (fun _ _ _ h => h) (Or.inl ⟨by rfl, ?_⟩) (by assumption) ?_; rotate_left; focus ((intro w hSw; (try dsimp only at hSw); go_simp); try (with_reducible rfl)); (try simp only [Act.put, List.setIfInBounds_toArray, List.set_cons_zero, List.set_cons_succ]))
          (try simp only [Act.put, List.setIfInBounds_toArray, List.set_cons_zero, List.set_cons_succ])
          (refine rtake_4 (v := ?_) (by kernel_rfl) (by kernel_rfl) (by kernel_rfl) (fun _ _ _ h => h) (Or.inl ⟨by rfl, ?_⟩) (by assumption) ?_; rotate_left; focus ((intro w hSw; (try dsimp only at hSw); go_simp); try (with_reducible rfl)); (try simp only [Act.put, List.setIfInBounds_toArray, List.set_cons_zero, List.set_cons_succ]))
          (try simp only [Act.put, List.setIfInBounds_toArray, List.set_cons_zero, List.set_cons_succ])
          (refine rtake_5 (v := ?_) (by kernel_rfl) (by kernel_rfl) (by kernel_rfl) (fun _ _ _ h => h) (Or.inl ⟨by rfl, ?_⟩) (by assumption) ?_; rotate_left; focus ((intro w hSw; (try dsimp only at hSw); go_simp); try (with_reducible rfl)); (try simp only [Act.put, List.setIfInBounds_toArray, List.set_cons_zero, List.set_cons_succ]))
          (try simp only [Act.put, List.setIfInBounds_toArray, List.set_cons_zero, List.set_cons_succ])
          (refine rtake_6 (v := undef) (by kernel_rfl) (by kernel_rfl) (by kernel_rfl) (fun _ _ _ h => h) (Or.inr ⟨by rfl, rfl⟩) (by assumption) ?_; (try simp only [Act.put, List.setIfInBounds_toArray, List.set_cons_zero, List.set_cons_succ]))
          (refine rtake_7 (v := undef) (by kernel_rfl) (by kernel_rfl) (by kernel_rfl) (fun _ _ _ h => h) (Or.inr ⟨by rfl, rfl⟩) (by assumption) ?_; (try simp only [Act.put, List.setIfInBounds_toArray, List.set_cons_zero, List.set_cons_succ]))
          (refine rtake_8 (v := undef) (by kernel_rfl) (by kernel_rfl) (by kernel_rfl) (fun _ _ _ h => h) (Or.inr ⟨by rfl, rfl⟩) (by assumption) ?_; (try simp only [Act.put, List.setIfInBounds_toArray, List.set_cons_zero, List.set_cons_succ]))
          (refine rtake_9 (v := undef) (by kernel_rfl) (by kernel_rfl) (by kernel_rfl) (fun _ _ _ h => h) (Or.inr ⟨by rfl, rfl⟩) (by assumption) ?_; (try simp only [Act.put, List.setIfInBounds_toArray, List.set_cons_zero, List.set_cons_succ]))
          (refine rtake_10 (v := undef) (by kernel_rfl) (by kernel_rfl) (by kernel_rfl) (fun _ _ _ h => h) (Or.inr ⟨by rfl, rfl⟩) (by assumption) ?_; (try simp only [Act.put, List.setIfInBounds_toArray, List.set_cons_zero, List.set_cons_succ]))
          (refine rtake_11 (v := undef) (by kernel_rfl) (by kernel_rfl) (by kernel_rfl) (fun _ _ _ h => h) (Or.inr ⟨by rfl, rfl⟩) (by assumption) ?_; (try simp only [Act.put, List.setIfInBounds_toArray, List.set_cons_zero, List.set_cons_succ]))
          (refine rtake_12 (v := undef) (by kernel_rfl) (by kernel_rfl) (by kernel_rfl) (fun _ _ _ h => h) (Or.inr ⟨by rfl, rfl⟩) (by assumption) ?_; (try simp only [Act.put, List.setIfInBounds_toArray, List.set_cons_zero, List.set_cons_succ]))
          (refine rtake_13 (v := undef) (by kernel_rfl) (by kernel_rfl) (by kernel_rfl) (fun _ _ _ h => h) (Or.inr ⟨by rfl, rfl⟩) (by assumption) ?_; (try simp only [Act.put, List.setIfInBounds_toArray, List.set_cons_zero, List.set_cons_succ]))
          (refine rtake_14 (v := undef) (by kernel_rfl) (by kernel_rfl) (by kernel_rfl) (fun _ _ _ h => h) (Or.inr ⟨by rfl, rfl⟩) (by assumption) ?_; (try simp only [Act.put, List.setIfInBounds_toArray, List.set_cons_zero, List.set_cons_succ]))
          (refine rtake_15 (v := undef) (by kernel_rfl) (by kernel_rfl) (by kernel_rfl) (fun _ _ _ h => h) (Or.inr ⟨by rfl, rfl⟩) (by assumption) ?_; (try simp only [Act.put, List.setIfInBounds_toArray, List.set_cons_zero, List.set_cons_succ]))
          (refine rtake_16 (v := ?_) (by kernel_rfl) (by kernel_rfl) (by kernel_rfl) (fun _ _ _ h => h) (Or.inl ⟨by rfl, ?_⟩) (by assumption) ?_; rotate_left; focus ((intro w hSw; (try dsimp only at hSw); go_simp); try (with_reducible rfl)); (try simp only [Act.put, List.setIfInBounds_toArray, List.set_cons_zero, List.set_cons_succ]))
          (try simp only [Act.put, List.setIfInBounds_toArray, List.set_cons_zero, List.set_cons_succ])
          refine wpAnyH_done (by kernel_rfl) ?_ _
          have CC := Lib.hid ((HCo.out.old ((Kept.refl [] wr).drew)).later (Nat.le_succ i))
          have FF : Hid (∃ f, (∀ j, j < 4 → j ≠ k → f j = ptrOf (vs j)) ∧ Blk wr.drew ab 34 (arr f)) := ⟨_, fun _ _ _ => rfl, HABb.out⟩
          have QQ : Hid (Blk wr.drew qb 3 (arr fun k => .int .i64 (ms k))) := HQB.out
          have caa : wr.drew.cell? ⟨ab, k, none⟩ = some (.pointer none) := caa
          have cqq : wr.drew.cell? ⟨qb, k, none⟩ = some (.int .i64 (ms k)) := cqq
          clear HCo HQB HABb c0 c1 c2 c3 c4 c5
          generalize wr.drew = w4' at *
          obtain ⟨c0, c1, c2, c3, c4, c5⟩ := HCL.out _ CC.out.kept
          have HBg := Lib.hid (begin36 w.heap.size k xw xn xx xl xp xA xm xc xb HC.out hxn CC.out.mach.rack (hxr.old CC.out.kept) hxa (HT.out _ CC.out.kept))
          go_wp2_with fail
          refine HBg.out.mono ?_
          rintro e w5 ⟨v5, most, rfl, V5, L5, st5, th5, nw5, gd5, hop5, m5, hk5⟩
          have HL5 := Lib.hid (LInv.begins CC.out FF.out QQ.out HAB.out.1 HAB.out.2 hk4 hvn.out V5 L5 st5 th5 nw5 gd5 hop5 m5 hk5)
          have ha5 : w5.cell? ⟨ab, k, none⟩ = some (.pointer none) := hk5.cell_some caa (by simp)
          have hq5 : w5.cell? ⟨qb, k, none⟩ = some (.int .i64 (ms k)) := hk5.cell_some cqq (by simp)
          obtain ⟨ff, _, hff⟩ := FF.out
          have fa5 := (hff.kept hk5 (by simp)).frozen k
          have fq5 := (QQ.out.kept hk5 (by simp)).frozen k
          have hmo : ¬ (most : Int) < 5 := by omega
          have hne5 : ab ≠ qb := hff.ne QQ.out (by decide)
          generalize v5.kb = kb5 at *
          clear V5 L5 st5 th5 nw5 gd5 hop5 m5 hk5 hff c0 c1 c2 c3 c4 c5
          go_wp2_with fail
          go_roundw
          case rel => exact ⟨i + 1, by omega, by omega, by go_num, HL5.out⟩
          case measure => simp [intOf]; omega
        | some v =>
          rw [hv] at caa
          simp only [ptrOf, Option.map_some] at caa
          have hvn := Lib.hid hv
          have W := HCo.out.work k hk4 v hv
          have hb := W.bound
          have hpos := W.live.wok.pos
          have hgl := HGL.out
          have hnew := HCo.out.new
          have hn' := HCo.out.n
          have hWn := W.new
          have HSt := Lib.hid (kWstep_any HCo.out.mach W.mem W.live (by have := HC.out; omega) (by omega) (by omega) (HD.out wr HKW.out) (by omega) (by omega) (Nat.lt_of_lt_of_le hgl HKW.out.size) (N0 := w.heap.size) (fun h => W.good (by rcases h with h | h <;> rw [h] <;> decide)) hWn.1 W.hop)
          have HWk := Lib.hid W
          have HBd := Lib.hid (And.intro hb hpos)
          clear W hb hpos hgl hnew hn' hWn
          go_wp2_with (first | simp only [hmod] | fail)
          refine HSt.out.mono ?_
          rintro e w4' hP
          obtain ⟨g', v', rfl, G', V', kbE, obE, stE, gdE, nE, riseE, thE, lvE, kpE⟩ := hP
          obtain ⟨um, hum⟩ := HCo.out.mach.mem
          obtain ⟨q1, q2⟩ := HWk.out.mem.kinds HABb.out (by decide) (by decide)
          obtain ⟨q3, q4⟩ := HWk.out.mem.kinds HQB.out (by decide) (by decide)
          have ABs := HABb.out.kept kpE (by simp [q1, q2, HABb.out.ne hum (by decide), HABb.out.ne HCo.out.mach.words (by decide), HABb.out.ne HCo.out.mach.rack (by decide)])
          have QBs := HQB.out.kept kpE (by simp [q3, q4, HQB.out.ne hum (by decide), HQB.out.ne HCo.out.mach.words (by decide), HQB.out.ne HCo.out.mach.rack (by decide)])
          have HCS := Lib.hid (HCo.out.step hk4 hv G' V' kbE obE stE gdE nE riseE thE lvE kpE)
          have caa : w4'.cell? ⟨ab, k, none⟩ = some (.pointer (some ⟨v.kb, 0, none⟩)) := by
            rw [ABs.cell]
            have := arr_get (fun k => ptrOf (vs k)) k hk4
            simp only [hv, ptrOf, Option.map_some] at this
            exact this
          have cqq : w4'.cell? ⟨qb, k, none⟩ = some (.int .i64 (ms k)) := by rw [QBs.cell]; exact arr_get (fun k => .int .i64 (ms k)) k hk4
          have hsp := kWsteps_any (V'.kept ((Kept.refl [] w4').drew) (by simp) (by simp))
          rw [kbE, stE] at hsp
          have HSp := Lib.hid hsp
          have HLv : Hid (v'.W.done = false → 1 ≤ rs k - 1) := fun h => (lvE h).1.wok.pos
          have HABs := Lib.hid ABs
          have HQBs := Lib.hid QBs
          have HKb := Lib.hid kbE
          clear hsp G' V' kbE obE stE gdE nE riseE thE lvE kpE ABs QBs hum q1 q2 q3 q4 c0 c1 c2 c3 c4 c5
          cases hd : v'.W.done with
          | false =>
            have hlt : ¬ (ms k : Int) ≤ ((v.W.steps + 1 : Nat) : Int) := by have := HBd.out; have := HLv.out hd; omega
            have HDn := Lib.hid hd
            clear hd
            go_wp2_with fail
            go_region_held3 (fun w' => w'.cell? ⟨ab, k, none⟩ = some (.pointer (some ⟨v.kb, 0, none⟩)) ∧ w'.cell? ⟨qb, k, none⟩ = some (.int .i64 (ms k))) (go_keep) (first | (go_at_call 8; refine HSp.out.mono ?_; rintro e w5 ⟨rfl, rfl⟩))
            all_goals
              have HL5 : Hid (LInv w w4'.drew mb wb rb ab qb cap (i + 1)) := by
                have C5 := HCS.out.old ((Kept.refl [] w4').drew)
                refine ⟨g', _, _, ms, C5, ?_, HQBs.out, HAB.out⟩
                rw [arr_congr (g := fun k => ptrOf (vs k)) (fun j hj => ?_)]
                · exact HABs.out
                · by_cases h : j = k
                  · subst h
                    rw [put4_same, HDn.out, hvn.out]
                    simp [ptrOf, HKb.out]
                  · rw [put4_other _ _ h]
              go_wp2_with fail
              go_roundw
              case rel => exact ⟨i + 1, by omega, by omega, by go_num, HL5.out⟩
              case measure => simp [intOf]; omega
          | true =>
            have hgt : ¬ (ms k : Int) < ((v.W.steps + 1 : Nat) : Int) := by have := HBd.out; omega
            have HDn := Lib.hid hd
            clear hd
            go_wp2_with fail
            go_region_held3 (fun w' => w'.cell? ⟨ab, k, none⟩ = some (.pointer (some ⟨v.kb, 0, none⟩)) ∧ w'.cell? ⟨qb, k, none⟩ = some (.int .i64 (ms k))) (go_keep) (first | (go_at_call 8; refine HSp.out.mono ?_; rintro e w5 ⟨rfl, rfl⟩))
            all_goals
              have CC := Lib.hid (HCS.out.old ((Kept.refl [] w4').drew))
              have FF : Hid (∃ f, (∀ j, j < 4 → j ≠ k → f j = ptrOf (put4 vs k (if v'.W.done = true then none else some v') j)) ∧ Blk w4'.drew ab 34 (arr f)) := ⟨_, fun j _ h => by rw [put4_other _ _ h], HABs.out⟩
              have QQ : Hid (Blk w4'.drew qb 3 (arr fun k => .int .i64 (ms k))) := HQBs.out
              have HVN : Hid (put4 vs k (if v'.W.done = true then none else some v') k = none) := by
                show put4 vs k (if v'.W.done = true then none else some v') k = none
                rw [put4_same, HDn.out]
                rfl
              have caa : w4'.drew.cell? ⟨ab, k, none⟩ = some (.pointer (some ⟨v.kb, 0, none⟩)) := caa
              have cqq : w4'.drew.cell? ⟨qb, k, none⟩ = some (.int .i64 (ms k)) := cqq
              clear HCo HQB HABb HCS HABs HQBs HSt HSp
              generalize w4'.drew = w4'' at *
              obtain ⟨c0, c1, c2, c3, c4, c5⟩ := HCL.out _ CC.out.kept
              have HBg := Lib.hid (begin36 w.heap.size k xw xn xx xl xp xA xm xc xb HC.out hxn CC.out.mach.rack (hxr.old CC.out.kept) hxa (HT.out _ CC.out.kept))
              go_wp2_with fail
              refine HBg.out.mono ?_
              rintro e w5 ⟨v5, most, rfl, V5, L5, st5, th5, nw5, gd5, hop5, m5, hk5⟩
              have HL5 := Lib.hid (LInv.begins CC.out FF.out QQ.out HAB.out.1 HAB.out.2 hk4 HVN.out V5 L5 st5 th5 nw5 gd5 hop5 m5 hk5)
              have ha5 : w5.cell? ⟨ab, k, none⟩ = some (.pointer (some ⟨v.kb, 0, none⟩)) := hk5.cell_some caa (by simp)
              have hq5 : w5.cell? ⟨qb, k, none⟩ = some (.int .i64 (ms k)) := hk5.cell_some cqq (by simp)
              obtain ⟨ff, _, hff⟩ := FF.out
              have fa5 := (hff.kept hk5 (by simp)).frozen k
              have fq5 := (QQ.out.kept hk5 (by simp)).frozen k
              have hmo : ¬ (most : Int) < 5 := by omega
              have hne5 : ab ≠ qb := hff.ne QQ.out (by decide)
              generalize v5.kb = kb5 at *
              clear V5 L5 st5 th5 nw5 gd5 hop5 m5 hk5 hff c0 c1 c2 c3 c4 c5
              go_wp2_with fail
              go_roundw
              case rel => exact ⟨i + 1, by omega, by omega, by go_num, HL5.out⟩
              case measure => simp [intOf]; omega
      · have HAw := Lib.hid (fun W (hk : Kept [] w W) => Ru.awakes36.calls (HT.out W hk))
        rcases (by omega : i = acts.length ∨ (i < acts.length ∧ i = 300)) with h1 | ⟨h1, h2⟩
        · subst h1
          clear hgo
          go_wp2_with fail
          refine (HAw.out _ HKW.out).mono ?_
          rintro e w5 ⟨rfl, hk5⟩
          have HK5 := Lib.hid (HKW.out.trans hk5)
          clear hk5
          go_wp2_with fail
          go_ret
          exact ⟨rfl, HK5.out⟩
        · subst h2
          have hj1 : ((300 : Nat) : Int) < (acts.length : Int) := by omega
          have hj2 : (300 : Int) < (acts.length : Int) := by omega
          clear hgo
          go_wp2_with fail
          refine (HAw.out _ HKW.out).mono ?_
          rintro e w5 ⟨rfl, hk5⟩
          have HK5 := Lib.hid (HKW.out.trans hk5)
          clear hk5
          go_wp2_with fail
          go_ret
          exact ⟨rfl, HK5.out⟩
end Go.Proofs.YtahpjoknmclbfaaDoor

