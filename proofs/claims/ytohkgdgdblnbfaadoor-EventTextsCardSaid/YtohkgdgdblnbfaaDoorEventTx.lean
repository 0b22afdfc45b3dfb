/- Package event: Text, and the document's Text. -/
import Derived.Test.YtohkgdgdblnbfaaDoorBuilder
import Derived.Test.YtohkgdgdblnbfaaDoorEventP
import Derived.Test.YtohkgdgdblnbfaaDoorEventRL
namespace Go.Proofs.YtohkgdgdblnbfaaDoor
open Go.RowKit

/-- Events' lines, each with a line feed. -/
def textE (l : List Ev) : List UInt8 := l.flatMap fun e => lineE e ++ [10]
theorem textE_snoc (l : List Ev) (e : Ev) : textE (l ++ [e]) = textE l ++ (lineE e ++ [10]) := by simp [textE]
/-- An event that Go can hold. -/
def EvOk (e : Ev) : Prop := e.step ≤ 9223372036854775807 ∧ e.gen < 4294967296 ∧ e.n < 18446744073709551616
theorem lineE_len (e : Ev) (h : EvOk e) : (lineE e).length ≤ 200 := by
  unfold lineE
  split
  · rename_i hg
    simp only [goodE, decide_eq_true_eq] at hg
    obtain ⟨h1, h2, h3⟩ := h
    have d1 := dec_len e.step.toNat (by omega)
    have d2 := dec_len e.cpu.toNat (by omega)
    have d3 := kindD_len e.kind
    have d4 := dec_len e.slot.toNat (by omega)
    have d5 := dec_len e.gen (by omega)
    have d6 := opE_len e.op
    have d7 := dec_len e.code.toNat (by omega)
    have d8 := dec_len e.n h3
    simp [wordsE, joinS]; omega
  · simp
theorem textE_len : ∀ (l : List Ev), (∀ e ∈ l, EvOk e) → (textE l).length ≤ l.length * 201
  | [], _ => by simp [textE]
  | e :: t, h => by
    have h1 := lineE_len e (h e (by simp))
    have h2 := textE_len t (fun x hx => h x (by simp [hx]))
    simp only [textE, List.flatMap_cons, List.length_append, List.length_cons, List.length_nil] at h2 ⊢
    omega
theorem nl_size (ln : List UInt8) : ((⟨ln.toArray⟩ : ByteArray) ++ ⟨#[10]⟩).size = ln.length + 1 := by rw [ByteArray.size_append]; rfl
theorem nl_cells (tk ln : List UInt8) : Lib.byteCells tk ++ Lib.strCells ((⟨ln.toArray⟩ : ByteArray) ++ ⟨#[10]⟩) = Lib.byteCells (tk ++ (ln ++ [10])) := by
  simp [Lib.byteCells, Lib.strCells, ByteArray.data_append]

set_option maxHeartbeats 3200000 in
set_option maxRecDepth 100000 in
theorem etext_any (A : Option Addr) (n c : Nat) (l : List Ev) (w : World) (hr : ReadsE w A n l) (hl : l.length ≤ 1000) (hok : ∀ e ∈ l, EvOk e) (hP : HasPow w) :
    Calls Tryd.prog 28 #[.slice A n c] w fun e w' => e = .returned (strV (textE l)) ∧ Kept [] w w' := by
  have hn := hr.len
  subst hn
  have HR := Lib.hid hr
  have HP := Lib.hid hP
  have HOK := Lib.hid hok
  clear hr hP hok
  go_enter Tryd.func28, Tryd.ntmps28
  go_wp2_with fail
  go_loopw [8] (fun kv wr => ∃ k : Nat, k ≤ l.length ∧ kv = .int .i64 k ∧ Hid (Lib.IsBuilder 80 5 w.heap.size w.heap.size (Lib.byteCells (textE (l.take k))) wr) ∧ Hid (Below w.heap.size w wr)) (fun k _ => l.length - (intOf k).toNat)
  case atStart => exact ⟨0, by omega, rfl, builder_new w, (Below.refl _ _).alloc (Nat.le_refl _) _⟩
  case round =>
    obtain ⟨k, hk1, rfl, HB, HW⟩ := hrel
    have hsz := HW.out.size
    by_cases hlt : k < l.length
    · obtain ⟨b, o, rfl, hb, hc⟩ := (show ReadsE wr A l.length l from HR.out.old (Kept.ofBelow HW.out _)).cells (by omega)
      obtain ⟨x, hx⟩ : ∃ x, l[k]? = some x := ⟨l[k], List.getElem?_eq_getElem hlt⟩
      have hxm : x ∈ l := List.mem_of_getElem? hx
      have hcc := hc k x hx
      have hc0 : wr.cell? ⟨b, o + k * 8, none⟩ = some (.int .i64 x.step) := hcc 0 (by omega)
      have hc1 : wr.cell? ⟨b, o + k * 8 + 1, none⟩ = some (.int .i64 x.cpu) := hcc 1 (by omega)
      have hc2 : wr.cell? ⟨b, o + k * 8 + 2, none⟩ = some (.int .i64 x.kind) := hcc 2 (by omega)
      have hc3 : wr.cell? ⟨b, o + k * 8 + 3, none⟩ = some (.int .i64 x.slot) := hcc 3 (by omega)
      have hc4 : wr.cell? ⟨b, o + k * 8 + 4, none⟩ = some (.int .u32 x.gen) := hcc 4 (by omega)
      have hc5 : wr.cell? ⟨b, o + k * 8 + 5, none⟩ = some (.int .i64 x.op) := hcc 5 (by omega)
      have hc6 : wr.cell? ⟨b, o + k * 8 + 6, none⟩ = some (.int .i64 x.code) := hcc 6 (by omega)
      have hc7 : wr.cell? ⟨b, o + k * 8 + 7, none⟩ = some (.int .u64 x.n) := hcc 7 (by omega)
      have hsn : textE (l.take (k + 1)) = textE (l.take k) ++ (lineE x ++ [10]) := by rw [List.take_add_one, hx]; exact textE_snoc _ _
      have hxo := HOK.out x hxm
      have hll := lineE_len x hxo
      have htl := textE_len (l.take k) (fun e he => HOK.out e (List.mem_of_mem_take he))
      have hlk : (l.take k).length ≤ 1000 := Nat.le_trans (List.length_take_le _ _) (by omega)
      have HL := Lib.hid (fun w h => eline_any x.step x.cpu x.kind x.slot x.gen x.op x.code x.n w hxo.1 hxo.2.1 hxo.2.2 h)
      obtain ⟨s, cp, kd, t, g, oo, d, nn⟩ := x
      simp only at HL
      simp only at hc0 hc1 hc2 hc3 hc4 hc5 hc6 hc7
      generalize lineE ⟨s, cp, kd, t, g, oo, d, nn⟩ = ln at *
      have HSN := Lib.hid hsn
      generalize textE (l.take k) = tk at *
      have HWS := Lib.hid (fun w1 h hB => writeString_any w.heap.size w.heap.size (Lib.byteCells tk) ((⟨ln.toArray⟩ : ByteArray) ++ ⟨#[10]⟩) w1 h (by rw [Lib.byteCells_length, nl_size]; omega) hB)
      rw [nl_cells] at HWS
      clear hcc hx hsn hc hxm hxo
      go_wp2_with fail
      refine (HL.out _ (by exact HP.out.old ((Kept.ofBelow HW.out _).alloc _))).mono ?_
      rintro e w1 ⟨rfl, hk2⟩
      have HK2 := Lib.hid hk2
      have HB2 := Lib.hid (builder_kept HB.out (((Kept.refl _ _).alloc _).trans hk2))
      have HW2 := Lib.hid ((HW.out.alloc (by omega) _).trans ((hk2.toBelow).mono (by simp; omega)))
      clear hk2
      go_wp2_with fail
      refine (HWS.out _ HB2.out (by have := HW2.out.size; omega)).mono ?_
      rintro e w2 ⟨rfl, hb3, hw3⟩
      have HB3 := Lib.hid hb3
      have HW3 := Lib.hid (HW2.out.trans hw3)
      clear hb3 hw3
      go_wp2_with fail
      go_roundw
      case rel => exact ⟨k + 1, by omega, by go_num, by rw [HSN.out]; exact HB3, HW3⟩
      case measure => simp [intOf]; omega
    · obtain rfl : k = l.length := by omega
      have hfin : l.take l.length = l := List.take_of_length_le (Nat.le_refl _)
      rw [hfin] at HB
      clear hfin
      have HS := Lib.hid (Tryd.Builder_String_any w.heap.size w.heap.size (textE l) wr HB.out (by omega))
      generalize htl : textE l = tl at *
      have HTL := Lib.hid htl
      clear htl
      go_wp2_with fail
      refine (HS.out).mono ?_
      rintro e w2 ⟨rfl, hb⟩
      have HBB := Lib.hid (HW.out.trans hb)
      clear hb
      go_wp2_with fail
      go_ret
      exact ⟨by rw [HTL.out]; rfl, Kept.ofBelow HBB.out _⟩

set_option maxHeartbeats 3200000 in
set_option maxRecDepth 100000 in
theorem refText_any (A : Option Addr) (n c : Nat) (l : List Ev) (w : World) (hr : ReadsE w A n l) (hl : l.length ≤ 1000) (hok : ∀ e ∈ l, EvOk e) :
    Calls Tryd.prog 29 #[.slice A n c] w fun e w' => e = .returned (strV (textE l)) ∧ Kept [] w w' := by
  have hn := hr.len
  subst hn
  have HR := Lib.hid hr
  have HOK := Lib.hid hok
  clear hr hok
  go_enter Tryd.func29, Tryd.ntmps29
  go_wp2_with fail
  go_loopw [3, 4] (fun sv kv wr => ∃ (k : Nat) (tk : List UInt8), k ≤ l.length ∧ kv = .int .i64 k ∧ sv = strV tk ∧ Hid (textE (l.take k) = tk) ∧ Hid (Kept [] w wr)) (fun _ k _ => l.length - (intOf k).toNat)
  case atStart => exact ⟨0, [], by omega, rfl, rfl, rfl, Kept.refl _ _⟩
  case round =>
    obtain ⟨k, tk, hk1, rfl, rfl, HT, HK⟩ := hrel
    by_cases hlt : k < l.length
    · obtain ⟨b, o, rfl, hb, hc⟩ := (show ReadsE wr A l.length l from HR.out.old HK.out).cells (by omega)
      obtain ⟨x, hx⟩ : ∃ x, l[k]? = some x := ⟨l[k], List.getElem?_eq_getElem hlt⟩
      have hxm : x ∈ l := List.mem_of_getElem? hx
      have hcc := hc k x hx
      have hc0 : wr.cell? ⟨b, o + k * 8, none⟩ = some (.int .i64 x.step) := hcc 0 (by omega)
      have hc1 : wr.cell? ⟨b, o + k * 8 + 1, none⟩ = some (.int .i64 x.cpu) := hcc 1 (by omega)
      have hc2 : wr.cell? ⟨b, o + k * 8 + 2, none⟩ = some (.int .i64 x.kind) := hcc 2 (by omega)
      have hc3 : wr.cell? ⟨b, o + k * 8 + 3, none⟩ = some (.int .i64 x.slot) := hcc 3 (by omega)
      have hc4 : wr.cell? ⟨b, o + k * 8 + 4, none⟩ = some (.int .u32 x.gen) := hcc 4 (by omega)
      have hc5 : wr.cell? ⟨b, o + k * 8 + 5, none⟩ = some (.int .i64 x.op) := hcc 5 (by omega)
      have hc6 : wr.cell? ⟨b, o + k * 8 + 6, none⟩ = some (.int .i64 x.code) := hcc 6 (by omega)
      have hc7 : wr.cell? ⟨b, o + k * 8 + 7, none⟩ = some (.int .u64 x.n) := hcc 7 (by omega)
      have hsn : textE (l.take (k + 1)) = tk ++ (lineE x ++ [10]) := by rw [← HT.out, List.take_add_one, hx]; exact textE_snoc _ _
      have hxo := HOK.out x hxm
      have hll := lineE_len x hxo
      have htl := textE_len (l.take k) (fun e he => HOK.out e (List.mem_of_mem_take he))
      rw [HT.out] at htl
      have hlk : (l.take k).length ≤ 1000 := Nat.le_trans (List.length_take_le _ _) (by omega)
      have HL := Lib.hid (fun w => refLineE_any x.step x.cpu x.kind x.slot x.gen x.op x.code x.n w hxo.1 hxo.2.1 hxo.2.2)
      obtain ⟨s, cp, kd, t, g, oo, d, nn⟩ := x
      simp only at HL
      simp only at hc0 hc1 hc2 hc3 hc4 hc5 hc6 hc7
      generalize lineE ⟨s, cp, kd, t, g, oo, d, nn⟩ = ln at *
      have HSN := Lib.hid hsn
      clear hcc hx hsn hc hxm hxo HT
      go_wp2_with fail
      refine (HL.out _).mono ?_
      rintro e w1 ⟨rfl, hk2⟩
      have HK2 := Lib.hid (HK.out.trans hk2)
      clear hk2
      go_wp2_with fail
      go_roundw
      case rel => exact ⟨k + 1, tk ++ (ln ++ [10]), by omega, by go_num, congrArg Value.string (by apply ByteArray.ext; simp [ByteArray.data_append]), HSN, HK2⟩
      case measure => simp [intOf]; omega
    · obtain rfl : k = l.length := by omega
      have hfin : textE l = tk := by rw [← HT.out, List.take_of_length_le (Nat.le_refl _)]
      have HFIN := Lib.hid hfin
      clear hfin
      go_wp2_with fail
      go_ret
      exact ⟨by rw [HFIN.out]; rfl, HK.out⟩

end Go.Proofs.YtohkgdgdblnbfaaDoor
