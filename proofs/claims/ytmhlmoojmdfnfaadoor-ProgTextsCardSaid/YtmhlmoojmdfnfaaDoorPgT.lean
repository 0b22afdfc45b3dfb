/- Packages prog and bosunref08: Text; the law's example and awake. -/
import Derived.Test.YtmhlmoojmdfnfaaDoorBuilderB
import Derived.Test.YtmhlmoojmdfnfaaDoorShelf
import Derived.Test.YtmhlmoojmdfnfaaDoorDeedL2
import Derived.Test.YtmhlmoojmdfnfaaDoorDeedRL
import Derived.Test.YtmhlmoojmdfnfaaDoorPgS
import Derived.Test.YtmhlmoojmdfnfaaDoorPgM
namespace Go.Proofs.YtmhlmoojmdfnfaaDoor
open Go.RowKit

/-- A program's text. -/
def textP (p : List Dd) : List UInt8 := p.flatMap fun d => lineD d ++ [10]
theorem textP_snoc (p : List Dd) (d : Dd) : textP (p ++ [d]) = textP p ++ (lineD d ++ [10]) := by simp [textP]
theorem lineD_le (d : Dd) (hn : d.n < 18446744073709551616) : (lineD d).length ≤ 200 := by
  obtain ⟨o, a, b, r, n, m, l⟩ := d
  by_cases hg : goodD ⟨o, a, b, r, n, m, l⟩ = true
  · have hr := goodD_ranges hg
    simp only at hr hn
    rw [lineD, if_pos hg]
    have h1 := nameD_len o
    have h2 : ∀ c, (pieceL ⟨o, a, b, r, n, m, l⟩ c).length ≤ 21 := by
      intro c
      have hx : (hex m).length ≤ 16 := by rw [hex, hexN_len]; omega
      have d1 := dec_len a.toNat (by omega)
      have d2 := dec_len b.toNat (by omega)
      have d3 := dec_len r.toNat (by omega)
      have d4 := dec_len n (by omega)
      unfold pieceL
      (repeat' split) <;> simp <;> omega
    have h3 : ∀ ps : List UInt8, (ps.flatMap (pieceL ⟨o, a, b, r, n, m, l⟩)).length ≤ 21 * ps.length := by
      intro ps
      induction ps with
      | nil => simp
      | cons c t ih => have := h2 c; simp only [List.flatMap_cons, List.length_append, List.length_cons]; omega
    have h4 := h3 (partsL o)
    have h5 := partsL_len o
    simp only [List.length_append]
    omega
  · rw [lineD, if_neg hg]; simp
theorem textP_len : ∀ (p : List Dd), (∀ d ∈ p, d.n < 18446744073709551616) → (textP p).length ≤ p.length * 201
  | [], _ => by simp [textP]
  | d :: t, h => by
    have h1 := textP_len t fun x hx => h x (by simp [hx])
    have h2 := lineD_le d (h d (by simp))
    simp only [textP, List.flatMap_cons, List.length_append, List.length_cons, List.length_nil] at *
    omega
theorem ln_size (ln : List UInt8) : (⟨ln.toArray⟩ : ByteArray).size = ln.length := by simp [ByteArray.size]
theorem ln_cells (tk ln : List UInt8) : Lib.byteCells tk ++ Lib.strCells (⟨ln.toArray⟩ : ByteArray) = Lib.byteCells (tk ++ ln) := by
  simp [Lib.byteCells, Lib.strCells]
theorem nl_cells2 (tk ln : List UInt8) : Lib.byteCells (tk ++ ln) ++ [.int .u8 10] = Lib.byteCells (tk ++ (ln ++ [10])) := by
  simp [Lib.byteCells]

set_option maxHeartbeats 3200000 in
set_option maxRecDepth 100000 in
theorem ptext_any (A : Option Addr) (n c : Nat) (l : List Dd) (w : World) (hr : ReadsD w A n l) (hl : l.length ≤ 1000) (hok : ∀ d ∈ l, d.n < 18446744073709551616 ∧ d.mask < 18446744073709551616) (hP : HasPow w) :
    Calls Tryd.prog 49 #[.slice A n c] w fun e w' => e = .returned (strV (textP l)) ∧ Kept [] w w' := by
  have hn := hr.len
  subst hn
  have HR := Lib.hid hr
  have HP := Lib.hid hP
  have HOK := Lib.hid hok
  clear hr hP hok
  go_enter Tryd.func49, Tryd.ntmps49
  go_wp2_with fail
  go_loopw [8] (fun kv wr => ∃ k : Nat, k ≤ l.length ∧ kv = .int .i64 k ∧ Hid (Lib.IsBuilder 133 5 w.heap.size w.heap.size (Lib.byteCells (textP (l.take k))) wr) ∧ Hid (Below w.heap.size w wr)) (fun k _ => l.length - (intOf k).toNat)
  case atStart => exact ⟨0, by omega, rfl, builder_new w, (Below.refl _ _).alloc (Nat.le_refl _) _⟩
  case round =>
    obtain ⟨k, hk1, rfl, HB, HW⟩ := hrel
    have hsz := HW.out.size
    by_cases hlt : k < l.length
    · obtain ⟨d, b, o, rfl, hx, hb, hc0, hc1, hc2, hc3, hc4, hc5, hc6⟩ := (HR.out.old (Kept.ofBelow HW.out _)).at_ hlt
      have hi0 : (0 : Int) ≤ (k : Int) := by omega
      have hi1 : (k : Int) < (l.length : Int) := by omega
      have hxm : d ∈ l := List.mem_of_getElem? hx
      have hsn : textP (l.take (k + 1)) = textP (l.take k) ++ (lineD d ++ [10]) := by rw [take_snoc hx]; exact textP_snoc _ _
      have hxo := HOK.out d hxm
      have hll := lineD_le d hxo.1
      have htl := textP_len (l.take k) (fun e he => (HOK.out e (List.mem_of_mem_take he)).1)
      have hlk : (l.take k).length ≤ 1000 := Nat.le_trans (List.length_take_le _ _) (by omega)
      have HL := Lib.hid (fun w h => line_any d.op d.a d.b d.r d.n d.mask d.loose w hxo.1 hxo.2 h)
      obtain ⟨o1, a1, b1, r1, n1, m1, l1⟩ := d
      simp only at HL
      simp only at hc0 hc1 hc2 hc3 hc4 hc5 hc6
      generalize lineD ⟨o1, a1, b1, r1, n1, m1, l1⟩ = ln at *
      have HSN := Lib.hid hsn
      generalize textP (l.take k) = tk at *
      have HWS := Lib.hid (fun w1 h hB => writeString_any w.heap.size w.heap.size (Lib.byteCells tk) (⟨ln.toArray⟩ : ByteArray) w1 h (by rw [Lib.byteCells_length, ln_size]; omega) hB)
      rw [ln_cells] at HWS
      have HWB := Lib.hid (fun w1 h hB => writeByte_any w.heap.size w.heap.size (Lib.byteCells (tk ++ ln)) 10 w1 h (by rw [Lib.byteCells_length, List.length_append]; omega) hB)
      rw [nl_cells2] at HWB
      clear hx hsn hxm hxo
      go_wp2_with fail
      refine (HL.out _ (by exact HP.out.old ((Kept.ofBelow HW.out _).alloc _))).mono ?_
      rintro e w1 ⟨rfl, hk2⟩
      have HK2 := Lib.hid hk2
      have HB2 := Lib.hid (builder_kept HB.out (((Kept.refl _ _).alloc _).trans hk2))
      have HW2 := Lib.hid ((HW.out.alloc (by omega) _).trans ((hk2.toBelow).mono (by simp; omega)))
      clear hk2
      go_wp2_with fail
      refine (HWS.out _ HB2.out (by have := HW2.out.size; omega)).mono ?_
      rintro e w2 ⟨rfl, hb3, hw3⟩
      have HB3 := Lib.hid hb3
      have HW3 := Lib.hid (HW2.out.trans hw3)
      clear hb3 hw3
      go_wp2_with fail
      refine (HWB.out _ HB3.out (by have := HW3.out.size; omega)).mono ?_
      rintro e w3 ⟨rfl, hb4, hw4⟩
      have HB4 := Lib.hid hb4
      have HW4 := Lib.hid (HW3.out.trans hw4)
      clear hb4 hw4
      go_wp2_with fail
      go_roundw
      case rel => exact ⟨k + 1, by omega, by go_num, by rw [HSN.out]; exact HB4, HW4⟩
      case measure => simp [intOf]; omega
    · obtain rfl : k = l.length := by omega
      have hfin : l.take l.length = l := List.take_of_length_le (Nat.le_refl _)
      rw [hfin] at HB
      clear hfin
      have HS := Lib.hid (Tryd.Builder_String_any w.heap.size w.heap.size (textP l) wr HB.out (by omega))
      generalize htl : textP l = tl at *
      have HTL := Lib.hid htl
      clear htl
      go_wp2_with fail
      refine (HS.out).mono ?_
      rintro e w2 ⟨rfl, hb⟩
      have HBB := Lib.hid (HW.out.trans hb)
      clear hb
      go_wp2_with fail
      go_ret
      exact ⟨by rw [HTL.out]; rfl, Kept.ofBelow HBB.out _⟩

set_option maxHeartbeats 3200000 in
set_option maxRecDepth 100000 in
theorem refTextP (A : Option Addr) (n c : Nat) (l : List Dd) (w : World) (hr : ReadsD w A n l) (hl : l.length ≤ 1000) (hok : ∀ d ∈ l, d.n < 18446744073709551616 ∧ d.mask < 18446744073709551616) :
    Calls Tryd.prog 50 #[.slice A n c] w fun e w' => e = .returned (strV (textP l)) ∧ Kept [] w w' := by
  have hn := hr.len
  subst hn
  have HR := Lib.hid hr
  have HOK := Lib.hid hok
  clear hr hok
  go_enter Tryd.func50, Tryd.ntmps50
  go_wp2_with fail
  go_loopw [3, 4] (fun sv kv wr => ∃ (k : Nat) (tk : List UInt8), k ≤ l.length ∧ kv = .int .i64 k ∧ sv = strV tk ∧ Hid (textP (l.take k) = tk) ∧ Hid (Kept [] w wr)) (fun _ k _ => l.length - (intOf k).toNat)
  case atStart => exact ⟨0, [], by omega, rfl, rfl, rfl, Kept.refl _ _⟩
  case round =>
    obtain ⟨k, tk, hk1, rfl, rfl, HT, HK⟩ := hrel
    by_cases hlt : k < l.length
    · obtain ⟨d, b, o, rfl, hx, hb, hc0, hc1, hc2, hc3, hc4, hc5, hc6⟩ := (HR.out.old HK.out).at_ hlt
      have hi0 : (0 : Int) ≤ (k : Int) := by omega
      have hi1 : (k : Int) < (l.length : Int) := by omega
      have hxm : d ∈ l := List.mem_of_getElem? hx
      have hsn : textP (l.take (k + 1)) = tk ++ (lineD d ++ [10]) := by rw [← HT.out, take_snoc hx]; exact textP_snoc _ _
      have hxo := HOK.out d hxm
      have hll := lineD_le d hxo.1
      have htl := textP_len (l.take k) (fun e he => (HOK.out e (List.mem_of_mem_take he)).1)
      rw [HT.out] at htl
      have hlk : (l.take k).length ≤ 1000 := Nat.le_trans (List.length_take_le _ _) (by omega)
      have HL := Lib.hid (fun w => refLine d.op d.a d.b d.r d.n d.mask d.loose w hxo.1 hxo.2)
      obtain ⟨o1, a1, b1, r1, n1, m1, l1⟩ := d
      simp only at HL
      simp only at hc0 hc1 hc2 hc3 hc4 hc5 hc6
      generalize lineD ⟨o1, a1, b1, r1, n1, m1, l1⟩ = ln at *
      have HSN := Lib.hid hsn
      clear hx hsn hxm hxo HT
      go_wp2_with fail
      refine (HL.out _).mono ?_
      rintro e w1 ⟨rfl, hk2⟩
      have HK2 := Lib.hid (HK.out.trans hk2)
      clear hk2
      go_wp2_with fail
      go_roundw
      case rel => exact ⟨k + 1, tk ++ (ln ++ [10]), by omega, by go_num, congrArg Value.string (by apply ByteArray.ext; simp [ByteArray.data_append]), HSN, HK2⟩
      case measure => simp [intOf]; omega
    · obtain rfl : k = l.length := by omega
      have hfin : textP l = tk := by rw [← HT.out, List.take_of_length_le (Nat.le_refl _)]
      have HF := Lib.hid hfin
      clear hfin HT
      go_wp2_with fail
      go_ret
      exact ⟨by rw [HF.out]; rfl, HK.out⟩

/-- The page's example. -/
def exP : List Dd := [⟨9, 0, 0, 0, 0, 0, false⟩, ⟨1, 0, 0, 0, 3, 0, false⟩, ⟨11, 0, 0, 0, 0, 0, false⟩]
set_option maxHeartbeats 1600000 in
set_option maxRecDepth 100000 in
theorem example_any (w : World) : Calls Tryd.prog 61 #[] w fun e w' => e = .returned (.slice (some ⟨w.heap.size, 0, none⟩) 3 3) ∧ ReadsD w' (some ⟨w.heap.size, 0, none⟩) 3 exP ∧ Kept [] w w' := by
  go_enter Tryd.func61, Tryd.ntmps61
  go_wp2_with fail
  go_ret
  refine ⟨rfl, ⟨rfl, fun _ => ⟨_, rfl, fun j u hu => ?_⟩⟩, (Kept.refl _ _).alloc _⟩
  rw [add_mk, Nat.zero_add]
  exact Eq.trans ((Blk.new w 41 (exP.flatMap dL).toArray).cell j) (by simpa using hu)

set_option maxHeartbeats 3200000 in
set_option maxRecDepth 100000 in
theorem awake8 (w : World) (hP : HasPow w) : Calls Tryd.prog 21 #[] w fun e w' => e = .returned (.bool true) ∧ Kept [] w w' := by
  have hnb : ∀ d ∈ exP, d.n < 18446744073709551616 ∧ d.mask < 18446744073709551616 := by
    intro d hd
    simp [exP] at hd
    rcases hd with rfl | rfl | rfl <;> simp
  have H1 : Hid (∀ w A, ReadsD w A 3 exP → Calls Tryd.prog 15 #[.slice A 3 3] w fun e w' => e = .returned (.tuple #[.int .u64 4, .bool true]) ∧ Kept [] w w') := fun w A h => psimple_any A 3 3 exP w h (by omega) (fun d hd => (hnb d hd).1)
  have H2 : Hid (∀ w A, ReadsD w A 3 exP → Calls Tryd.prog 22 #[.slice A 3 3] w fun e w' => e = .returned (.int .u64 6) ∧ Kept [] w w') := fun w A h => psteps_any A 3 3 exP w h (by omega) (fun d hd => (hnb d hd).1)
  have H3 : Hid (∀ w A, ReadsD w A 3 exP → Calls Tryd.prog 17 #[.slice A 3 3] w fun e w' => e = .returned (.int .i64 0) ∧ Kept [] w w') := fun w A h => pcheck_any A 3 3 exP w h (by omega)
  have H4 : Hid (∀ w A, ReadsD w A 3 exP → HasPow w → Calls Tryd.prog 49 #[.slice A 3 3] w fun e w' => e = .returned (strV [108, 111, 99, 107, 32, 48, 10, 119, 111, 114, 107, 32, 51, 10, 117, 110, 108, 111, 99, 107, 32, 48, 10]) ∧ Kept [] w w') := fun w A h hp => ptext_any A 3 3 exP w h (by simp [exP]) hnb hp
  have HP := Lib.hid hP
  clear hnb hP
  go_enter Tryd.func21, Tryd.ntmps21
  go_wp2_with fail
  refine (example_any _).mono ?_
  rintro e w1 ⟨rfl, hr1, hk1⟩
  have HR1 := Lib.hid hr1
  have HK1 := Lib.hid hk1
  clear hr1 hk1
  go_wp2_with fail
  refine (H1.out _ _ HR1.out).mono ?_
  rintro e w2 ⟨rfl, hk2⟩
  have HK2 := Lib.hid (HK1.out.trans hk2)
  clear hk2
  go_wp2_with fail
  refine (example_any _).mono ?_
  rintro e w3 ⟨rfl, hr3, hk3⟩
  have HR3 := Lib.hid hr3
  have HK3 := Lib.hid (HK2.out.trans hk3)
  clear hr3 hk3
  go_wp2_with fail
  refine (H2.out _ _ HR3.out).mono ?_
  rintro e w4 ⟨rfl, hk4⟩
  have HK4 := Lib.hid (HK3.out.trans hk4)
  clear hk4
  go_wp2_with fail
  refine (example_any _).mono ?_
  rintro e w5 ⟨rfl, hr5, hk5⟩
  have HR5 := Lib.hid hr5
  have HK5 := Lib.hid (HK4.out.trans hk5)
  clear hr5 hk5
  go_wp2_with fail
  refine (H3.out _ _ HR5.out).mono ?_
  rintro e w6 ⟨rfl, hk6⟩
  have HK6 := Lib.hid (HK5.out.trans hk6)
  clear hk6
  go_wp2_with fail
  refine (example_any _).mono ?_
  rintro e w7 ⟨rfl, hr7, hk7⟩
  have HR7 := Lib.hid hr7
  have HK7 := Lib.hid (HK6.out.trans hk7)
  clear hr7 hk7
  go_wp2_with fail
  refine (H4.out _ _ HR7.out (HP.out.old HK7.out)).mono ?_
  rintro e w8 ⟨rfl, hk8⟩
  have HK8 := Lib.hid (HK7.out.trans hk8)
  clear hk8
  go_wp2_with fail
  go_ret
  exact ⟨rfl, HK8.out⟩

end Go.Proofs.YtmhlmoojmdfnfaaDoor
