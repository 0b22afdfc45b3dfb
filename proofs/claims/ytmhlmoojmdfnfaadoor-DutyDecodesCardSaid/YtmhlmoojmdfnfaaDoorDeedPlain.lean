/- Package deed, in plain words: what a deed is, which may be, what its line and its bytes are. No program in sight. -/
import Derived.Test.YtmhlmoojmdfnfaaDoorNumsPlain
namespace Go.Proofs.YtmhlmoojmdfnfaaDoor

/-- A deed. -/
structure Dd where
  op : Int
  a : Int
  b : Int
  r : Int
  n : Nat
  mask : Nat
  loose : Bool

def Dd.zero : Dd := ⟨0, 0, 0, 0, 0, 0, false⟩

theorem Dd.ext' {x y : Dd} (h1 : x.op = y.op) (h2 : x.a = y.a) (h3 : x.b = y.b) (h4 : x.r = y.r) (h5 : x.n = y.n) (h6 : x.mask = y.mask) (h7 : x.loose = y.loose) : x = y := by
  cases x; cases y; simp_all

/-- Are two deeds the same? -/
def Dd.same (x y : Dd) : Bool := x.op == y.op && (x.a == y.a && (x.b == y.b && (x.r == y.r && (x.n == y.n && (x.mask == y.mask && x.loose == y.loose)))))
theorem Dd.same_iff (x y : Dd) : x.same y = true ↔ x = y := by
  constructor
  · intro h
    simp only [Dd.same, Bool.and_eq_true, beq_iff_eq] at h
    obtain ⟨h1, h2, h3, h4, h5, h6, h7⟩ := h
    exact Dd.ext' h1 h2 h3 h4 h5 h6 h7
  · rintro rfl; simp [Dd.same]

/-- The parts of a deed, a letter each. -/
def partsL (op : Int) : List UInt8 :=
  if op = 1 then [78] else if op = 2 then [65, 66, 82, 77, 76] else if op = 3 then [78] else if op = 4 then [82] else if op = 5 then [] else if op = 6 then [78] else if op = 7 then [82, 77]
  else if op = 8 then [82, 66] else if op = 9 then [65] else if op = 10 then [65, 78] else if op = 11 then [65] else []

/-- A deed's name. -/
def nameD (op : Int) : List UInt8 :=
  if op = 1 then [119, 111, 114, 107] else if op = 2 then [115, 112, 97, 119, 110] else if op = 3 then [101, 120, 105, 116] else if op = 4 then [106, 111, 105, 110] else if op = 5 then [121, 105, 101, 108, 100]
  else if op = 6 then [115, 108, 101, 101, 112] else if op = 7 then [109, 97, 115, 107] else if op = 8 then [103, 114, 97, 100, 101] else if op = 9 then [108, 111, 99, 107] else if op = 10 then [116, 105, 109, 101, 100]
  else if op = 11 then [117, 110, 108, 111, 99, 107] else [63]

/-- A deed with one more part of another one. -/
def takeP (d e : Dd) (c : UInt8) : Dd :=
  if c = 65 then { e with a := d.a } else if c = 66 then { e with b := d.b } else if c = 82 then { e with r := d.r } else if c = 78 then { e with n := d.n } else if c = 77 then { e with mask := d.mask } else { e with loose := d.loose }
/-- A deed with its parts alone. -/
def onlyD (d : Dd) : Dd := (partsL d.op).foldl (takeP d) ⟨d.op, 0, 0, 0, 0, 0, false⟩

/-- May a deed be? -/
def goodD (d : Dd) : Bool :=
  decide (1 ≤ d.op ∧ d.op ≤ 11) && d.same (onlyD d) && !(decide (d.op = 1) && (decide (d.n < 1) || decide (65536 < d.n))) && decide (0 ≤ d.a ∧ d.a < 64 ∧ 0 ≤ d.b ∧ d.b < 8 ∧ 0 ≤ d.r ∧ d.r < 8)

/-- What a part adds to a deed's line. -/
def pieceL (d : Dd) (c : UInt8) : List UInt8 :=
  if c = 65 then 32 :: dec d.a.toNat else if c = 66 then 32 :: dec d.b.toNat else if c = 82 then 32 :: dec d.r.toNat else if c = 78 then 32 :: dec d.n else if c = 77 then 32 :: hex d.mask
  else if d.loose then [32, 108, 111, 111, 115, 101] else []
/-- A deed's line. -/
def lineD (d : Dd) : List UInt8 := if goodD d then nameD d.op ++ (partsL d.op).flatMap (pieceL d) else [63]

/-- A name's deed; 0: it is none. -/
def opOf (w : List UInt8) : Int :=
  if w = nameD 1 then 1 else if w = nameD 2 then 2 else if w = nameD 3 then 3 else if w = nameD 4 then 4 else if w = nameD 5 then 5 else if w = nameD 6 then 6 else if w = nameD 7 then 7 else if w = nameD 8 then 8
  else if w = nameD 9 then 9 else if w = nameD 10 then 10 else if w = nameD 11 then 11 else 0

/-- Is a word a text of this part? -/
def wordOk (c : UInt8) (w : List UInt8) : Bool := if c = 77 then (readH w).2 == 0 else if c = 76 then w == [108, 111, 111, 115, 101] else (readD w).2 == 0
/-- A deed with a part out of a word; small parts are held below K. -/
def fillP (K : Nat) (d : Dd) (cw : UInt8 × List UInt8) : Dd :=
  if cw.1 = 65 then { d with a := (min (readD cw.2).1 K : Nat) } else if cw.1 = 66 then { d with b := (min (readD cw.2).1 K : Nat) } else if cw.1 = 82 then { d with r := (min (readD cw.2).1 K : Nat) }
  else if cw.1 = 78 then { d with n := (readD cw.2).1 } else if cw.1 = 77 then { d with mask := (readH cw.2).1 } else { d with loose := true }
/-- A line's deed, and what is wrong. -/
def parseD (K : Nat) (l : List UInt8) : Dd × Int :=
  match words l with
  | [] => (Dd.zero, 15)
  | w0 :: ws =>
    if opOf w0 = 0 then (Dd.zero, 15)
    else
      let ps := if opOf w0 = 2 ∧ ws.length = 4 then [65, 66, 82, 77] else partsL (opOf w0)
      if ws.length ≠ ps.length then (Dd.zero, 3)
      else if (ps.zip ws).all (fun cw => wordOk cw.1 cw.2) = false then (Dd.zero, 3)
      else
        let d := (ps.zip ws).foldl (fillP K) ⟨opOf w0, 0, 0, 0, 0, 0, false⟩
        if goodD d then (d, 0) else (Dd.zero, 5)

end Go.Proofs.YtmhlmoojmdfnfaaDoor
