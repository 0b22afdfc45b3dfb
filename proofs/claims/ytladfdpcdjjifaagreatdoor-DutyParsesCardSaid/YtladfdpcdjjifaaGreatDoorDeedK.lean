/- The document's Line of a deed; Packages prog and bosunref08: Steps; Packages prog and bosunref08: Simple; Packages prog and bosunref08: Text; the law's example and awake; The lines of a text, and a program out of its lines, in plain words; a program's text is parsed as that program. No program is walked here. -/
import Derived.Test.YtladfdpcdjjifaaGreatDoorDeedL2
import Derived.Test.YtladfdpcdjjifaaGreatDoorDeedC
import Derived.Deep.RegionHeld3
import Derived.Test.YtladfdpcdjjifaaGreatDoorDeedE
import Derived.Test.YtladfdpcdjjifaaGreatDoorShelf

/- The document's Line of a deed. -/
namespace Go.Proofs.YtladfdpcdjjifaaGreatDoor
open Go.RowKit

theorem str_app2 (s x : List UInt8) : ((⟨s.toArray⟩ : ByteArray) ++ ⟨#[32]⟩) ++ ⟨x.toArray⟩ = ⟨(s ++ 32 :: x).toArray⟩ := by
  rw [show (⟨s.toArray⟩ : ByteArray) ++ ⟨#[32]⟩ = ⟨(s ++ [32]).toArray⟩ from str_append s [32], str_append]
  simp

end Go.Proofs.YtladfdpcdjjifaaGreatDoor

/- Packages prog and bosunref08: Steps. -/
namespace Go.Proofs.YtladfdpcdjjifaaGreatDoor
open Go.RowKit

/-- The last deed; without any: the zero deed. -/
def lastD (p : List Dd) : Dd := p.getLast?.getD Dd.zero
theorem lastD_snoc (p : List Dd) (d : Dd) : lastD (p ++ [d]) = d := by simp [lastD]
theorem endsExit_last (p : List Dd) : endsExit p = ((lastD p).op == 3) := by
  unfold endsExit lastD
  cases p.getLast? with
  | none => rfl
  | some d => rfl
theorem stepsP_ok {p : List Dd} (h : checkP p = 0) : stepsP p = if endsExit p then costs p else addS (costs p) 1 := by rw [stepsP, if_pos h]
theorem stepsP_no {p : List Dd} (h : checkP p ≠ 0) : stepsP p = 0 := by rw [stepsP, if_neg h]

end Go.Proofs.YtladfdpcdjjifaaGreatDoor

/- Packages prog and bosunref08: Simple. -/
namespace Go.Proofs.YtladfdpcdjjifaaGreatDoor
open Go.RowKit

theorem ret_nb {a b : Int} {p q : Bool} (h : a = b) (h' : p = q) : Ending.returned (.tuple #[.int .u64 a, .bool p]) = .returned (.tuple #[.int .u64 b, .bool q]) := by rw [h, h']
theorem simpleP_no {p : List Dd} (h : checkP p ≠ 0) : simpleP p = (0, false) := by rw [simpleP, if_neg h]
theorem simpleP_none {p : List Dd} (h : simL p = none) : simpleP p = (0, false) := by unfold simpleP; rw [h]; split <;> rfl
theorem simpleP_some {p : List Dd} (h0 : checkP p = 0) {lk : Int} {n m : Nat} (h : simL p = some (lk, n, m)) : simpleP p = if lk = -1 then (m, true) else (0, false) := by unfold simpleP; rw [if_pos h0, h]

end Go.Proofs.YtladfdpcdjjifaaGreatDoor

/- Packages prog and bosunref08: Text; the law's example and awake. -/
namespace Go.Proofs.YtladfdpcdjjifaaGreatDoor
open Go.RowKit

/-- A program's text. -/
def textP (p : List Dd) : List UInt8 := p.flatMap fun d => lineD d ++ [10]
theorem textP_snoc (p : List Dd) (d : Dd) : textP (p ++ [d]) = textP p ++ (lineD d ++ [10]) := by simp [textP]
theorem lineD_le (d : Dd) (hn : d.n < 18446744073709551616) : (lineD d).length ≤ 200 := by
  obtain ⟨o, a, b, r, n, m, l⟩ := d
  by_cases hg : goodD ⟨o, a, b, r, n, m, l⟩ = true
  · have hr := goodD_ranges hg
    simp only at hr hn
    rw [lineD, if_pos hg]
    have h1 := nameD_len o
    have h2 : ∀ c, (pieceL ⟨o, a, b, r, n, m, l⟩ c).length ≤ 21 := by
      intro c
      have hx : (hex m).length ≤ 16 := by rw [hex, hexN_len]; omega
      have d1 := dec_len a.toNat (by omega)
      have d2 := dec_len b.toNat (by omega)
      have d3 := dec_len r.toNat (by omega)
      have d4 := dec_len n (by omega)
      unfold pieceL
      (repeat' split) <;> simp <;> omega
    have h3 : ∀ ps : List UInt8, (ps.flatMap (pieceL ⟨o, a, b, r, n, m, l⟩)).length ≤ 21 * ps.length := by
      intro ps
      induction ps with
      | nil => simp
      | cons c t ih => have := h2 c; simp only [List.flatMap_cons, List.length_append, List.length_cons]; omega
    have h4 := h3 (partsL o)
    have h5 := partsL_len o
    simp only [List.length_append]
    omega
  · rw [lineD, if_neg hg]; simp
theorem textP_len : ∀ (p : List Dd), (∀ d ∈ p, d.n < 18446744073709551616) → (textP p).length ≤ p.length * 201
  | [], _ => by simp [textP]
  | d :: t, h => by
    have h1 := textP_len t fun x hx => h x (by simp [hx])
    have h2 := lineD_le d (h d (by simp))
    simp only [textP, List.flatMap_cons, List.length_append, List.length_cons, List.length_nil] at *
    omega
theorem ln_size (ln : List UInt8) : (⟨ln.toArray⟩ : ByteArray).size = ln.length := by simp [ByteArray.size]
theorem ln_cells (tk ln : List UInt8) : Lib.byteCells tk ++ Lib.strCells (⟨ln.toArray⟩ : ByteArray) = Lib.byteCells (tk ++ ln) := by
  simp [Lib.byteCells, Lib.strCells]
theorem nl_cells2 (tk ln : List UInt8) : Lib.byteCells (tk ++ ln) ++ [.int .u8 10] = Lib.byteCells (tk ++ (ln ++ [10])) := by
  simp [Lib.byteCells]

set_option maxHeartbeats 3200000 in
set_option maxRecDepth 100000 in
theorem ptext_any (A : Option Addr) (n c : Nat) (l : List Dd) (w : World) (hr : ReadsD w A n l) (hl : l.length ≤ 1000) (hok : ∀ d ∈ l, d.n < 18446744073709551616 ∧ d.mask < 18446744073709551616) (hP : HasPow w) :
    Calls Tryz.prog 49 #[.slice A n c] w fun e w' => e = .returned (strV (textP l)) ∧ Kept [] w w' := by
  have hn := hr.len
  subst hn
  have HR := Lib.hid hr
  have HP := Lib.hid hP
  have HOK := Lib.hid hok
  clear hr hP hok
  go_enter Tryz.func49, Tryz.ntmps49
  go_wp2_with fail
  go_loopw [8] (fun kv wr => ∃ k : Nat, k ≤ l.length ∧ kv = .int .i64 k ∧ Hid (Lib.IsBuilder 78 5 w.heap.size w.heap.size (Lib.byteCells (textP (l.take k))) wr) ∧ Hid (Below w.heap.size w wr)) (fun k _ => l.length - (intOf k).toNat)
  case atStart => exact ⟨0, by omega, rfl, builder_new w, (Below.refl _ _).alloc (Nat.le_refl _) _⟩
  case round =>
    obtain ⟨k, hk1, rfl, HB, HW⟩ := hrel
    have hsz := HW.out.size
    by_cases hlt : k < l.length
    · obtain ⟨d, b, o, rfl, hx, hb, hc0, hc1, hc2, hc3, hc4, hc5, hc6⟩ := (HR.out.old (Kept.ofBelow HW.out _)).at_ hlt
      have hi0 : (0 : Int) ≤ (k : Int) := by omega
      have hi1 : (k : Int) < (l.length : Int) := by omega
      have hxm : d ∈ l := List.mem_of_getElem? hx
      have hsn : textP (l.take (k + 1)) = textP (l.take k) ++ (lineD d ++ [10]) := by rw [take_snoc hx]; exact textP_snoc _ _
      have hxo := HOK.out d hxm
      have hll := lineD_le d hxo.1
      have htl := textP_len (l.take k) (fun e he => (HOK.out e (List.mem_of_mem_take he)).1)
      have hlk : (l.take k).length ≤ 1000 := Nat.le_trans (List.length_take_le _ _) (by omega)
      have HL := Lib.hid (fun w h => line_any d.op d.a d.b d.r d.n d.mask d.loose w hxo.1 hxo.2 h)
      obtain ⟨o1, a1, b1, r1, n1, m1, l1⟩ := d
      simp only at HL
      simp only at hc0 hc1 hc2 hc3 hc4 hc5 hc6
      generalize lineD ⟨o1, a1, b1, r1, n1, m1, l1⟩ = ln at *
      have HSN := Lib.hid hsn
      generalize textP (l.take k) = tk at *
      have HWS := Lib.hid (fun w1 h hB => writeString_any w.heap.size w.heap.size (Lib.byteCells tk) (⟨ln.toArray⟩ : ByteArray) w1 h (by rw [Lib.byteCells_length, ln_size]; omega) hB)
      rw [ln_cells] at HWS
      have HWB := Lib.hid (fun w1 h hB => writeByte_any w.heap.size w.heap.size (Lib.byteCells (tk ++ ln)) 10 w1 h (by rw [Lib.byteCells_length, List.length_append]; omega) hB)
      rw [nl_cells2] at HWB
      clear hx hsn hxm hxo
      go_wp2_with fail
      refine (HL.out _ (by exact HP.out.old ((Kept.ofBelow HW.out _).alloc _))).mono ?_
      rintro e w1 ⟨rfl, hk2⟩
      have HK2 := Lib.hid hk2
      have HB2 := Lib.hid (builder_kept HB.out (((Kept.refl _ _).alloc _).trans hk2))
      have HW2 := Lib.hid ((HW.out.alloc (by omega) _).trans ((hk2.toBelow).mono (by simp; omega)))
      clear hk2
      go_wp2_with fail
      refine (HWS.out _ HB2.out (by have := HW2.out.size; omega)).mono ?_
      rintro e w2 ⟨rfl, hb3, hw3⟩
      have HB3 := Lib.hid hb3
      have HW3 := Lib.hid (HW2.out.trans hw3)
      clear hb3 hw3
      go_wp2_with fail
      refine (HWB.out _ HB3.out (by have := HW3.out.size; omega)).mono ?_
      rintro e w3 ⟨rfl, hb4, hw4⟩
      have HB4 := Lib.hid hb4
      have HW4 := Lib.hid (HW3.out.trans hw4)
      clear hb4 hw4
      go_wp2_with fail
      go_roundw
      case rel => exact ⟨k + 1, by omega, by go_num, by rw [HSN.out]; exact HB4, HW4⟩
      case measure => simp [intOf]; omega
    · obtain rfl : k = l.length := by omega
      have hfin : l.take l.length = l := List.take_of_length_le (Nat.le_refl _)
      rw [hfin] at HB
      clear hfin
      have HS := Lib.hid (Tryz.Builder_String_any w.heap.size w.heap.size (textP l) wr HB.out (by omega))
      generalize htl : textP l = tl at *
      have HTL := Lib.hid htl
      clear htl
      go_wp2_with fail
      refine (HS.out).mono ?_
      rintro e w2 ⟨rfl, hb⟩
      have HBB := Lib.hid (HW.out.trans hb)
      clear hb
      go_wp2_with fail
      go_ret
      exact ⟨by rw [HTL.out]; rfl, Kept.ofBelow HBB.out _⟩

/-- The page's example. -/
def exP : List Dd := [⟨9, 0, 0, 0, 0, 0, false⟩, ⟨1, 0, 0, 0, 3, 0, false⟩, ⟨11, 0, 0, 0, 0, 0, false⟩]
end Go.Proofs.YtladfdpcdjjifaaGreatDoor

/- The lines of a text, and a program out of its lines, in plain words; a program's text is parsed as that program. No program is walked here. -/
namespace Go.Proofs.YtladfdpcdjjifaaGreatDoor
open Go.RowKit

/-- The lines of a text, the first of which has begun. -/
def linesF : List UInt8 → List UInt8 → List (List UInt8)
  | cur, [] => if cur = [] then [] else [cur]
  | cur, c :: t => if c = 10 then cur :: linesF [] t else linesF (cur ++ [c]) t
theorem linesF_len : ∀ (l cur : List UInt8), (linesF cur l).length ≤ l.length + 1 ∧ ∀ x ∈ linesF cur l, x.length ≤ cur.length + l.length
  | [], cur => by unfold linesF; split <;> simp
  | c :: t, cur => by
    unfold linesF
    split
    · have := linesF_len t []
      refine ⟨by simp; omega, fun x hx => ?_⟩
      rcases List.mem_cons.1 hx with rfl | hx
      · simp
      · have := this.2 x hx; simp at this ⊢; omega
    · have := linesF_len t (cur ++ [c])
      refine ⟨by simp; omega, fun x hx => ?_⟩
      have := this.2 x hx; simp at this ⊢; omega
theorem linesF_line : ∀ (x cur r : List UInt8), (∀ c ∈ x, c ≠ 10) → linesF cur (x ++ 10 :: r) = (cur ++ x) :: linesF [] r
  | [], cur, r, _ => by simp [linesF]
  | c :: t, cur, r, h => by
    rw [List.cons_append, linesF, if_neg (h c (by simp)), linesF_line t _ r (fun y hy => h y (by simp [hy]))]
    simp
theorem linesF_last : ∀ (x cur : List UInt8), (∀ c ∈ x, c ≠ 10) → cur ++ x ≠ [] → linesF cur x = [cur ++ x]
  | [], cur, _, hn => by simp at hn; simp [linesF, hn]
  | c :: t, cur, h, _ => by
    rw [linesF, if_neg (h c (by simp)), linesF_last t _ (fun y hy => h y (by simp [hy])) (by simp)]
    simp

theorem dec_no10 (x : Nat) : ∀ c ∈ dec x, c ≠ 10 := by
  intro c hc
  have h := List.all_eq_true.1 (decN_dig 20 x) c hc
  rw [isDig_iff] at h
  rintro rfl
  simp at h
theorem hex_no10 (x : Nat) : ∀ c ∈ hex x, c ≠ 10 := by
  intro c hc
  have h := List.all_eq_true.1 (hexN_all 16 x) c hc
  rintro rfl
  revert h; decide
theorem nameD_no10 (op : Int) : ∀ c ∈ nameD op, c ≠ 10 := by
  intro c hc
  rintro rfl
  revert hc
  unfold nameD
  (repeat' split) <;> decide
theorem cons_no10 {b : UInt8} {l : List UInt8} (hb : b ≠ 10) (h : ∀ c ∈ l, c ≠ 10) : ∀ c ∈ b :: l, c ≠ 10 := by
  intro c hc
  rcases List.mem_cons.1 hc with rfl | hc
  · exact hb
  · exact h c hc
theorem piece_no10 (d : Dd) (p : UInt8) : ∀ c ∈ pieceL d p, c ≠ 10 := by
  unfold pieceL
  split
  · exact cons_no10 (by decide) (dec_no10 _)
  · split
    · exact cons_no10 (by decide) (dec_no10 _)
    · split
      · exact cons_no10 (by decide) (dec_no10 _)
      · split
        · exact cons_no10 (by decide) (dec_no10 _)
        · split
          · exact cons_no10 (by decide) (hex_no10 _)
          · split
            · decide
            · simp
theorem lineD_no10 (d : Dd) : ∀ c ∈ lineD d, c ≠ 10 := by
  intro c hc
  unfold lineD at hc
  split at hc
  · rcases List.mem_append.1 hc with hc | hc
    · exact nameD_no10 _ c hc
    · obtain ⟨p, _, hp⟩ := List.mem_flatMap.1 hc
      exact piece_no10 d p c hp
  · simp at hc; subst hc; decide
theorem lineD_ne (d : Dd) : lineD d ≠ [] := by
  unfold lineD
  split
  · unfold nameD
    (repeat' split) <;> simp
  · simp
theorem lines_text : ∀ (p : List Dd) (s : List UInt8), linesF [] (textP p ++ s) = p.map lineD ++ linesF [] s
  | [], s => by simp [textP]
  | d :: t, s => by
    have h : textP (d :: t) ++ s = lineD d ++ 10 :: (textP t ++ s) := by simp [textP]
    rw [h, linesF_line _ _ _ (lineD_no10 d), lines_text t s]
    simp
theorem lines_all (p : List Dd) : linesF [] (textP p) = p.map lineD := by
  have := lines_text p []
  simpa [linesF] using this
theorem textP_nil {p : List Dd} (h : textP p = []) : p = [] := by
  cases p with
  | nil => rfl
  | cons d t => simp [textP] at h
theorem lines_cut (p : List Dd) : linesF [] ((textP p).take ((textP p).length - 1)) = p.map lineD := by
  rcases List.eq_nil_or_concat p with rfl | ⟨q, d, rfl⟩
  · simp [textP, linesF]
  · rw [List.concat_eq_append, textP_snoc, ← List.append_assoc, List.length_append]
    simp only [List.length_cons, List.length_nil, Nat.zero_add, Nat.add_sub_cancel]
    rw [List.take_left, lines_text, linesF_last _ _ (lineD_no10 d) (by simpa using lineD_ne d)]
    simp

/-- The program of lines, how many there are up to the first wrong one, and what is wrong. -/
def readsD : List Dd → List (List UInt8) → List Dd × Int × Int
  | acc, [] => (acc, acc.length, 0)
  | acc, l :: t => if (parseD 1048576 l).2 = 0 then readsD (acc ++ [(parseD 1048576 l).1]) t else ([], acc.length, (parseD 1048576 l).2)
theorem readsD_len : ∀ (ls : List (List UInt8)) (acc : List Dd), (readsD acc ls).1.length ≤ acc.length + ls.length
  | [], acc => by simp [readsD]
  | l :: t, acc => by
    unfold readsD
    split
    · have := readsD_len t (acc ++ [(parseD 1048576 l).1]); simp at this ⊢; omega
    · simp
/-- A text's program. -/
def parseP (ls : List (List UInt8)) : List Dd × Int × Int := if 256 < ls.length then ([], 0, 4) else readsD [] ls
theorem parseP_len (ls : List (List UInt8)) : (parseP ls).1.length ≤ 256 := by
  unfold parseP
  split
  · simp
  · have := readsD_len ls []; simp at this; omega
theorem readsD_lines : ∀ (p acc : List Dd), (∀ d ∈ p, goodD d = true ∧ d.n < 18446744073709551616 ∧ d.mask < 18446744073709551616) → readsD acc (p.map lineD) = (acc ++ p, ((acc ++ p).length : Int), 0)
  | [], acc, _ => by simp [readsD]
  | d :: t, acc, h => by
    obtain ⟨h1, h2, h3⟩ := h d (by simp)
    have hp : parseD 1048576 (lineD d) = (d, 0) := by obtain ⟨o, a, b, r, n, m, l⟩ := d; exact parse_line 1048576 (by omega) o a b r n m l h1 h2 h3
    rw [List.map_cons, readsD, hp, if_pos rfl, readsD_lines t _ (fun x hx => h x (by simp [hx]))]
    simp
theorem parse_text (p : List Dd) (hc : checkP p = 0) (h : ∀ d ∈ p, d.n < 18446744073709551616 ∧ d.mask < 18446744073709551616) : parseP (p.map lineD) = (p, (p.length : Int), 0) := by
  obtain ⟨hl, hg⟩ := checkP_zero hc
  rw [parseP, if_neg (by simp; omega), readsD_lines p [] (fun d hd => ⟨hg d hd, h d hd⟩)]
  simp

end Go.Proofs.YtladfdpcdjjifaaGreatDoor

