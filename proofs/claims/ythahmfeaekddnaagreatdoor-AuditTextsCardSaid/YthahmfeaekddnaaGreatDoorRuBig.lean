/- A great row's closed facts, fact by fact: the functions that it reaches are listed once. -/
import Derived.Test.YthahmfeaekddnaaGreatDoorRuOpen
namespace Go.Proofs.YthahmfeaekddnaaGreatDoor
open Go.Joins Go.ChangeShapes Go.WideShapes Go.ChangeAt Go.RowKit Go.Deep

theorem and2 {a b : Bool} (h : a = true) (g : b = true) : (a && b) = true := by rw [h, g]; rfl
def unfOf (P : Program) (L : List FuncId) : Bool := L.any fun g => (P.funcs[g]?).any fun fn => match fn.body with | some c => c.unfollowed | none => entryCalls fn
def goesOf (P : Program) (L : List FuncId) : Bool := L.any fun g => (P.funcs[g]?).any Func.goes
theorem goes_of {P : Program} {c : OpenClaim} {f : FuncId} {n : String} {L : List FuncId} (hs : c.start = .entering) (hc : c.func = n) (hn : P.funcNamed n = some f) (hL : P.closure f = L) (h : goesOf P L = false) (h2 : P.funcs.any Func.goes = false) : false = c.goesBy P := by
  unfold OpenClaim.goesBy Program.goesAt Program.goesFrom
  rw [hc, hn, hs]
  show false = (P.goes f || false)
  unfold Program.goes
  rw [hL, h2, Bool.and_false]
  unfold goesOf at h
  rw [h]; rfl
theorem joined_of {P : Program} {f : FuncId} {fn : Func} {s : ChangeSpec} {c : OpenClaim} {L : List FuncId} (hL : P.closure f = L)
    (h1 : c.wf (OpenSpec.ofChange s) = true) (h2 : laidOutB P = true) (h3 : mapsRowed P = true) (h4 : fn.params.all (P.readableRec ·) = true) (h5 : namedTie P c.named s.vars = true)
    (h6 : (c.stops == []) = true) (h7 : (P.stops == []) = true) (h8 : (c.knobs == []) = true) (h9 : (P.stopKnobs == []) = true)
    (h10 : (c.inPlace == P.inPlaceOf L) = true) (u : unfOf P L = true) (h11 : c.unfollowed = true) (h12 : c.recurses = true) (h13 : (c.named == P.varsOf L) = true)
    (h14 : (c.maps == (fn.params.toList ++ s.plain.varTypes P).any (P.mapsRec ·)) = true) (h15 : (c.ifaces == (fn.params.toList ++ s.plain.varTypes P).any (P.ifacesRec ·)) = true) (h16 : (c.mapsOut == P.mapsAmong fn.resultTypes.toList) = true)
    (h17 : (c.loops == (fn.params.toList ++ s.plain.varTypes P).any (P.loopsFrom ·)) = true) (h18 : (c.wideKeys == (fn.params.toList ++ s.plain.varTypes P ++ fn.resultTypes.toList).any (P.wideKeysFrom ·)) = true)
    (h19 : s.vars.all (P.varReadable ·) = true) (h20 : fn.resultTypes.all (fun t => P.readableRec t && decide (t < P.types.size)) = true) (h21 : (c.ifacesOut == fn.resultTypes.toList.any (P.ifacesRec ·)) = true) (h22 : (c.loopsOut == fn.resultTypes.toList.any (P.loopsFrom ·)) = true)
    (h23 : (c.plainKeys == P.plainKeys) = true) (h24 : c.shortTexts.isNone = true) (h25 : P.stopsHeard = true) (h26 : P.mayEnter = true) (h27 : (c.lifted == P.liftsFinal) = true) (h28 : (P.make == some c.make) = true)
    (h29 : (c.kinds == (if c.domain.isEmpty then [] else fn.params.toList.map fun t => match P.underlying t with | some (.int k) => some k | _ => none)) = true) (h30 : (c.pinned == c.pinnedBy) = true)
    (h31 : (c.veiled == (fn.params.toList ++ s.plain.varTypes P ++ fn.resultTypes.toList).any (P.veiledRec ·)) = true) (h32 : c.veiledFits P fn.params.toList (fn.params.toList ++ s.plain.varTypes P ++ fn.resultTypes.toList) = true) : joinedFacts P f fn s c = true := by
  have eU : P.unfollowed f = true := by
    unfold Program.unfollowed
    rw [hL]; exact u
  have e10 : P.inPlace f = P.inPlaceOf L := by unfold Program.inPlace; rw [hL]; rfl
  have e12 : P.recurses f = true := by unfold Program.recurses; rw [eU]; rfl
  have e13 : P.varsNamed f = P.varsOf L := by unfold Program.varsNamed; rw [hL]; rfl
  unfold joinedFacts
  rw [e10, eU, e12, e13, h11, h12]
  exact and2 (and2 (and2 (and2 (and2 (and2 (and2 (and2 (and2 (and2 (and2 (and2 (and2 (and2 (and2 (and2 (and2 (and2 (and2 (and2 (and2 (and2 (and2 (and2 (and2 (and2 (and2 (and2 (and2 (and2 (and2 h1 h2) h3) h4) h5) h6) h7) h8) h9) h10) rfl) rfl) h13) h14) h15) h16) h17) h18) h19) h20) h21) h22) h23) h24) h25) h26) h27) h28) h29) h30) h31) h32
end Go.Proofs.YthahmfeaekddnaaGreatDoor
