/- Law 31: EventTexts: the walk. -/
import Derived.Test.YtohkgdgdblnbfaaDoorEventReadsW
import Derived.Test.YtohkgdgdblnbfaaDoorEventTx
namespace Go.Proofs.YtohkgdgdblnbfaaDoor
open Go.RowKit

set_option maxHeartbeats 3200000 in
set_option maxRecDepth 100000 in
theorem eventTexts_walk (A : Option Addr) (n c : Nat) (l : List Ev) (w : World) (hr : ReadsE w A n l) (hc : n ≤ c) (hc2 : c ≤ 9223372036854775807) (hok : ∀ e ∈ l, EvOk e) (hM : HasMax w) (hP : HasPow w) :
    Calls Tryd.prog 7 #[.slice A n c] w fun e w' => e = .returned (.bool true) ∧ Kept [] w w' := by
  have HFEW := Lib.hid (fun w h => few_any A n c l w h hc hc2)
  have HR0 := Lib.hid hr
  have HR := Lib.hid hr.few
  have hl6 : (l.take 60).length ≤ 60 := by simp; omega
  have hok6 : ∀ e ∈ l.take 60, EvOk e := fun e he => hok e (List.mem_of_mem_take he)
  generalize l.take 60 = l6 at *
  have htl := textE_len l6 hok6
  have HT := Lib.hid (fun w h hP => etext_any A l6.length c l6 w h (by omega) hok6 hP)
  have HRT := Lib.hid (fun w h => refText_any A l6.length c l6 w h (by omega) hok6)
  have hres : ∃ r : List Ev × Int × Int, r.1.length ≤ 100000 ∧ (∀ w, HasMax w → Calls Tryd.prog 26 #[strV (textE l6)] w fun e w' => ∃ A n c, e = .returned (.tuple #[.slice A n c, .int .i64 r.2.1, .int .i64 r.2.2]) ∧ FreshE w w' r.1 A n c) ∧
      ∀ w1, Calls Tryd.prog 27 #[strV (textE l6)] w1 fun e w' => ∃ A n c, e = .returned (.tuple #[.slice A n c, .int .i64 r.2.1, .int .i64 r.2.2]) ∧ FreshE w1 w' r.1 A n c := by
    refine ⟨readsE [] (linesF [] (textE l6)), ?_, fun w hM => readE_any (textE l6) w (by omega) hM, fun w1 => refReadE (textE l6) w1 (by omega)⟩
    have h1 := readsE_len (linesF [] (textE l6)) []
    have h2 := (linesF_len (textE l6) []).1
    simp at h1
    omega
  obtain ⟨⟨es, nn, ec⟩, hel, h1, h2⟩ := hres
  simp only at hel h1 h2
  have H1 := Lib.hid h1
  have H2 := Lib.hid h2
  have HM := Lib.hid hM
  have HP := Lib.hid hP
  generalize textE l6 = tx at *
  clear hr hM hP h1 h2 hok hok6 htl
  go_enter Tryd.func7, Tryd.ntmps7
  go_wp2_with fail
  refine (HFEW.out _ HR0.out).mono ?_
  rintro e w0 ⟨rfl, rfl⟩
  go_wp2_with fail
  refine (HT.out _ HR.out HP.out).mono ?_
  rintro e w1 ⟨rfl, hk1⟩
  have HK1 := Lib.hid hk1
  clear hk1
  go_wp2_with fail
  refine (HRT.out _ (HR.out.old HK1.out)).mono ?_
  rintro e w2 ⟨rfl, hk2⟩
  have HK2 := Lib.hid (HK1.out.trans hk2)
  clear hk2
  go_wp2_with fail
  refine (awake31 _ (HP.out.old HK2.out)).mono ?_
  rintro e w3 ⟨rfl, hk3⟩
  have HK3 := Lib.hid (HK2.out.trans hk3)
  clear hk3
  go_wp2_with fail
  refine (H1.out _ (HM.out.old HK3.out)).mono ?_
  rintro e w4 ⟨A1, n1, c1, rfl, hf1⟩
  have HF1 := Lib.hid hf1
  clear hf1
  go_wp2_with fail
  refine (H2.out _).mono ?_
  rintro e w5 ⟨A2, n2, c2, rfl, hf2⟩
  have HS := Lib.hid (refSameE A1 n1 c1 A2 n2 c2 es _ ((reads_fresh HF1.out).old hf2.2.1) (reads_fresh hf2) hel)
  have HK5 := Lib.hid ((HK3.out.trans HF1.out.2.1).trans hf2.2.1)
  clear hf2
  go_wp2_with fail
  refine (HS.out).mono ?_
  rintro e w6 ⟨rfl, hk6⟩
  have HK6 := Lib.hid (HK5.out.trans hk6)
  clear hk6
  go_wp2_with fail
  go_ret
  exact ⟨rfl, HK6.out⟩

end Go.Proofs.YtohkgdgdblnbfaaDoor
