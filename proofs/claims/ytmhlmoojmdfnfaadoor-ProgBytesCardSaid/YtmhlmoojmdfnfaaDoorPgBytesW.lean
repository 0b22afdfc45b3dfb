/- Law 08: ProgBytes: a program between other bytes; the walk. -/
import Derived.Test.YtmhlmoojmdfnfaaDoorPgT
import Derived.Test.YtmhlmoojmdfnfaaDoorPgB
import Derived.Test.YtmhlmoojmdfnfaaDoorPgG
import Derived.Test.YtmhlmoojmdfnfaaDoorPgR
import Derived.Test.YtmhlmoojmdfnfaaDoorPgF
import Derived.Deep.RegionWith
namespace Go.Proofs.YtmhlmoojmdfnfaaDoor
open Go.RowKit

set_option maxHeartbeats 1600000 in
theorem pput_bad (p : Value) (A : Option Addr) (n c : Nat) (l : List Dd) (w : World) (hr : ReadsD w A n l) (hn : n ≤ 9223372036854775807) (hc : checkP l ≠ 0) :
    Calls Tryd.prog 65 #[p, .slice A n c] w fun e w' => e = .returned (.tuple #[]) ∧ Kept [] w w' := by
  have HCK := Lib.hid (pcheck_any A n c l w hr hn)
  generalize checkP l = ck at *
  have hb : (ck != 0) = true := by simp [hc]
  clear hr hc
  go_enter Tryd.func65, Tryd.ntmps65
  go_wp2_with fail
  refine (HCK.out).mono ?_
  rintro e w1 ⟨rfl, hk1⟩
  have HK1 := Lib.hid hk1
  clear hk1
  go_wp2_with fail
  ((try simp only [Exit.inBlock, Exit.then]); refine bodyPost_ret (results_none rfl _ _ _) rfl ?_)
  exact ⟨rfl, HK1.out⟩

/-- A writer made after w. -/
structure WInv (w : World) (g : Nat) (wi : World) (A : Option Addr) (c : Nat) (bs : List UInt8) (room : Nat) : Prop where
  isW : IsW wi g A c 0 bs room
  kept : Kept [] w wi
  far : ∀ k, k ∈ fpW g A → w.heap.size ≤ k
theorem WInv.next {w wi w2 : World} {g : Nat} {A : Option Addr} {c : Nat} {bs bs' : List UInt8} {room room' : Nat} (h : WInv w g wi A c bs room) (hg : WGoes wi g A (0, bs', room') w2) : ∃ A2 c2, WInv w g w2 A2 c2 bs' room' := by
  obtain ⟨A2, c2, h1, h2, h3⟩ := hg
  have := h.kept.size
  exact ⟨A2, c2, h1, h.kept.trans' h2 (fun k hk => .inr (h.far k hk)), fun k hk => by
    rcases h3 k hk with h4 | h4
    · exact h.far k h4
    · omega⟩
theorem WInv.old {w wi w2 : World} {g : Nat} {A : Option Addr} {c : Nat} {bs : List UInt8} {room : Nat} (h : WInv w g wi A c bs room) (hk : Kept [] wi w2) : WInv w g w2 A c bs room := ⟨h.isW.kept hk (by simp), h.kept.trans hk, h.far⟩
theorem WInv.new {w w1 : World} {bs : List UInt8} {room : Nat} (h : IsW w1 w.heap.size none 0 0 bs room) (hk : Kept [] w w1) : WInv w w.heap.size w1 none 0 bs room := ⟨h, hk, fun k hm => by simp [fpW] at hm; omega⟩

set_option maxHeartbeats 3200000 in
set_option maxRecDepth 100000 in
theorem handed_bad (A : Option Addr) (n c : Nat) (l : List Dd) (w : World) (hr : ReadsD w A n l) (hn : n ≤ 9223372036854775807) (hc : checkP l ≠ 0) :
    Calls Tryd.prog 25 #[.slice A n c] w fun e w' => e = .returned (.bool true) ∧ Kept [] w w' := by
  have HPB := Lib.hid (fun p w hr => pput_bad p A n c l w hr hn hc)
  have HCK := Lib.hid (fun w hr => refCheckP A n c l w hr hn)
  generalize checkP l = ck at *
  have hb : (ck != 0) = true := by simp [hc]
  have HR := Lib.hid hr
  clear hr hc
  go_enter Tryd.func25, Tryd.ntmps25
  go_wp2_with fail
  refine (wnew_any 60000 _).mono ?_
  rintro e w1 ⟨rfl, hW1, hk1⟩
  have HI1 : Hid (WInv w w.heap.size w1 none 0 [] 60000) := WInv.new hW1 hk1
  clear hW1 hk1
  go_wp2_with fail
  refine (wbyte_ok w.heap.size none 0 [] 60000 7 _ HI1.out.isW (by omega) (by simp) (by omega) (by omega)).mono ?_
  rintro e w2 ⟨rfl, hg2⟩
  obtain ⟨A2, c2, hI2⟩ := HI1.out.next hg2
  have HI2 := Lib.hid hI2
  clear hg2 hI2
  go_wp2_with fail
  refine (HPB.out _ _ (HR.out.old HI2.out.kept)).mono ?_
  rintro e w3 ⟨rfl, hk3⟩
  have HI3 := Lib.hid (HI2.out.old hk3)
  clear hk3
  go_wp2_with fail
  refine (wbyte_ok w.heap.size A2 c2 _ _ 9 _ HI3.out.isW (by omega) (by simp) (by omega) (by omega)).mono ?_
  rintro e w4 ⟨rfl, hg4⟩
  obtain ⟨A4, c4, hI4⟩ := HI3.out.next hg4
  have HI4 := Lib.hid hI4
  clear hg4 hI4
  go_wp2_with fail
  refine (wdone_ok w.heap.size A4 c4 _ _ w4 HI4.out.isW (by simp)).mono ?_
  rintro e w5 ⟨v, rfl, hn5⟩
  obtain ⟨A5, c5, rfl, _, _⟩ := own_form hn5.1
  have HK5 := Lib.hid (HI4.out.kept.trans hn5.2.1)
  clear hn5
  simp only [List.nil_append, List.cons_append, List.length_cons, List.length_nil]
  go_wp2_with fail
  refine (HCK.out _ (HR.out.old HK5.out)).mono ?_
  rintro e w6 ⟨rfl, hk6⟩
  have HK6 := Lib.hid (HK5.out.trans hk6)
  clear hk6
  go_wp2_with fail
  go_ret
  exact ⟨rfl, HK6.out⟩

set_option maxHeartbeats 3200000 in
set_option maxRecDepth 100000 in
theorem handed_ok (A : Option Addr) (n c : Nat) (l : List Dd) (w : World) (hr : ReadsD w A n l) (hA : ∀ ad, A = some ad → ad.block < w.heap.size) (hc : checkP l = 0) (hok : ∀ d ∈ l, d.n < 18446744073709551616 ∧ d.mask < 18446744073709551616) :
    Calls Tryd.prog 25 #[.slice A n c] w fun e w' => e = .returned (.bool true) ∧ Kept [] w w' := by
  obtain rfl := hr.len
  obtain ⟨hl, hgood⟩ := checkP_zero hc
  have HPP := Lib.hid (fun g A0 c0 bs room w' hW hr' hfar h1 h2 h3 => pput_any g A0 c0 bs room A l.length c l w' hW hr' hfar hc hok h1 h2 h3)
  have HCK := Lib.hid (fun w hr => refCheckP A l.length c l w hr (by omega))
  rw [hc] at HCK
  have HRB := Lib.hid (fun w hr => refBytesP A l.length c l w hr hc hok)
  have HSM := Lib.hid (fun A2 d w ha hb => refSameD A l.length c A2 l.length d l w ha hb (by omega))
  have HGB : Hid (getPr (0, encP l ++ [9]) = ((0, [9]), l, 0)) := getPr_back [9] hc hok
  have HPG := Lib.hid (fun g A c w h => pget_any g A c (0, encP l ++ [9]) w h)
  rw [HGB.out] at HPG
  have HEL : Hid ((encP l).length ≤ 9 + 16 * l.length) := encK_small l.length l hgood
  have hel : (encP l).length ≤ 4105 := by have := HEL.out; omega
  generalize encP l = bs at *
  have HR := Lib.hid hr
  have HA := Lib.hid hA
  clear hr hc hok hgood hA HGB HEL
  go_enter Tryd.func25, Tryd.ntmps25
  go_wp2_with fail
  refine (wnew_any 60000 _).mono ?_
  rintro e w1 ⟨rfl, hW1, hk1⟩
  have HI1 : Hid (WInv w w.heap.size w1 none 0 [] 60000) := WInv.new hW1 hk1
  clear hW1 hk1
  go_wp2_with fail
  refine (wbyte_ok w.heap.size none 0 [] 60000 7 _ HI1.out.isW (by omega) (by simp) (by omega) (by omega)).mono ?_
  rintro e w2 ⟨rfl, hg2⟩
  obtain ⟨A2, c2, hI2⟩ := HI1.out.next hg2
  have HI2 := Lib.hid hI2
  clear hg2 hI2
  go_wp2_with fail
  refine (HPP.out w.heap.size A2 c2 _ _ _ HI2.out.isW (HR.out.old HI2.out.kept) (fun ad e hm => by have h1 := HA.out ad e; have h2 := HI2.out.far _ hm; omega) (by simp) (by omega) (by omega)).mono ?_
  rintro e w3 ⟨rfl, hg3⟩
  obtain ⟨A3, c3, hI3⟩ := HI2.out.next hg3
  have HI3 := Lib.hid hI3
  clear hg3 hI3
  go_wp2_with fail
  refine (wbyte_ok w.heap.size A3 c3 _ _ 9 _ HI3.out.isW (by omega) (by simp; omega) (by omega) (by omega)).mono ?_
  rintro e w4 ⟨rfl, hg4⟩
  obtain ⟨A4, c4, hI4⟩ := HI3.out.next hg4
  have HI4 := Lib.hid hI4
  clear hg4 hI4
  go_wp2_with fail
  refine (wdone_ok w.heap.size A4 c4 _ _ w4 HI4.out.isW (by simp; omega)).mono ?_
  rintro e w5 ⟨v, rfl, hn5⟩
  obtain ⟨A5, c5, rfl, _, _⟩ := own_form hn5.1
  have HK5 := Lib.hid (HI4.out.kept.trans hn5.2.1)
  have HO5 := Lib.hid (Reads.of_own hn5.1)
  have HB5 : Hid (([] ++ [UInt8.ofNat 7] ++ bs ++ [UInt8.ofNat 9]) = 7 :: (bs ++ [9])) := rfl
  have hl5 : ([] ++ [UInt8.ofNat 7] ++ bs ++ [UInt8.ofNat 9]).length = bs.length + 2 := by rw [HB5.out, List.length_cons, List.length_append]; rfl
  rw [hl5, HB5.out] at HO5
  rw [hl5]
  clear hn5 hl5
  go_wp2_with fail
  refine (HCK.out _ (HR.out.old HK5.out)).mono ?_
  rintro e w6 ⟨rfl, hk6⟩
  have HK6 := Lib.hid (HK5.out.trans hk6)
  have HO6 := Lib.hid (HO5.out.old hk6)
  clear hk6
  go_wp2_with fail
  refine (rread_any A5 _ c5 _ _ HO6.out (by simp; omega)).mono ?_
  rintro e w7 ⟨g, A7, c7, rfl, hR7, hk7, hg7, hA7⟩
  have HR7 := Lib.hid hR7
  have HK7 := Lib.hid (HK6.out.trans hk7)
  have hs6 := HK6.out.size
  clear hR7 hk7 hA7
  go_wp2_with fail
  refine (rbyte_any g A7 c7 _ _ HR7.out).mono ?_
  rintro e w8 ⟨rfl, hgo8⟩
  rw [byte_back] at hgo8 ⊢
  obtain ⟨A8, c8, hR8, hk8, _⟩ := hgo8
  have HR8 := Lib.hid hR8
  have HK8 : Hid (Kept [] w w8) := HK7.out.trans' hk8 (fun k hm => .inr (by simp at hm; omega))
  clear hR8 hk8
  go_wp2_with fail
  refine (HPG.out g A8 c8 _ HR8.out).mono ?_
  rintro e w9 ⟨Av, nv, cv, rfl, hgo9, hrow⟩
  obtain ⟨A9, c9, hR9, hk9, _⟩ := hgo9
  have HR9 := Lib.hid hR9
  have HK9 : Hid (Kept [] w w9) := HK8.out.trans' hk9 (fun k hm => .inr (by simp at hm; omega))
  have hnv := hrow.reads.len
  have HRW := Lib.hid hrow.reads
  subst hnv
  clear hR9 hk9 hrow
  go_wp2_with fail
  refine (HRB.out _ (HR.out.old HK9.out)).mono ?_
  rintro e w10 ⟨Ab, nb, cb, rfl, hf10⟩
  have hnb := hf10.len
  subst hnb
  have HK10 := Lib.hid (HK9.out.trans hf10.2.1)
  have HR10 := Lib.hid (HR9.out.kept hf10.2.1 (by simp) (by simp))
  have HRW10 := Lib.hid (HRW.out.old hf10.2.1)
  clear hf10
  go_wp2_with fail
  refine (HSM.out Av cv _ (HR.out.old HK10.out) HRW10.out).mono ?_
  rintro e w11 ⟨rfl, hk11⟩
  have HK11 := Lib.hid (HK10.out.trans hk11)
  have HR11 := Lib.hid (HR10.out.kept hk11 (by simp) (by simp))
  clear hk11
  go_wp2_with fail
  refine (rleft_any g A9 c9 _ _ HR11.out).mono ?_
  rintro e w12 ⟨rfl, rfl⟩
  go_wp2_with fail
  refine (rbyte_any g A9 c9 _ _ HR11.out).mono ?_
  rintro e w13 ⟨rfl, hgo13⟩
  have hk13 : Kept [g] w11 w13 := by obtain ⟨_, _, _, h, _⟩ := hgo13; exact h
  have HK13 : Hid (Kept [] w w13) := HK11.out.trans' hk13 (fun k hm => .inr (by simp at hm; omega))
  clear hgo13 hk13
  go_wp2_with fail
  go_ret
  exact ⟨rfl, HK13.out⟩

set_option maxHeartbeats 3200000 in
set_option maxRecDepth 100000 in
theorem progBytes_bad (A : Option Addr) (n c : Nat) (l0 : List Dd) (w : World) (hr : ReadsD w A n l0) (hc : n ≤ c) (hc2 : c ≤ 9223372036854775807) (hP : HasPow w) (hck : checkP (l0.take 300) ≠ 0) :
    Calls Tryd.prog 4 #[.slice A n c] w fun e w' => e = .returned (.bool true) ∧ Kept [] w w' := by
  have HFEW := Lib.hid (few8_any A n c l0 w hr hc hc2)
  have HR := Lib.hid hr.few
  have hl : (l0.take 300).length ≤ 9223372036854775807 := by rw [List.length_take]; omega
  clear hr
  generalize l0.take 300 = l at *
  have HE := Lib.hid (fun w h => pencode_no A l.length c l w h hl hck)
  have HC := Lib.hid (fun w h => refCheckP A l.length c l w h hl)
  have HH := Lib.hid (fun w h => handed_bad A l.length c l w h hl hck)
  generalize checkP l = ck at *
  have d1 : (ck != ck) = false := by simp
  have d2 : (ck != 0) = true := by simp [hck]
  have HP := Lib.hid hP
  clear hP hck
  go_enter Tryd.func4, Tryd.ntmps4
  go_wp2_with fail
  refine (HFEW.out).mono ?_
  rintro e w0 ⟨rfl, rfl⟩
  go_wp2_with fail
  refine (HE.out _ HR.out).mono ?_
  rintro e w1 ⟨rfl, hk1⟩
  have HK1 := Lib.hid hk1
  clear hk1
  go_wp2_with fail
  refine (HC.out _ (HR.out.old HK1.out)).mono ?_
  rintro e w2 ⟨rfl, hk2⟩
  have HK2 := Lib.hid (HK1.out.trans hk2)
  clear hk2
  go_wp2_with fail
  refine (awake8 _ (HP.out.old HK2.out)).mono ?_
  rintro e w3 ⟨rfl, hk3⟩
  have HK3 := Lib.hid (HK2.out.trans hk3)
  clear hk3
  go_wp2_with fail
  refine (HH.out _ (HR.out.old HK3.out)).mono ?_
  rintro e w4 ⟨rfl, hk4⟩
  have HK4 := Lib.hid (HK3.out.trans hk4)
  clear hk4
  go_wp2_with fail
  go_ret
  exact ⟨rfl, HK4.out⟩

set_option maxHeartbeats 6400000 in
set_option maxRecDepth 100000 in
theorem progBytes_good (A : Option Addr) (n c : Nat) (l0 : List Dd) (w : World) (hr : ReadsD w A n l0) (hc : n ≤ c) (hc2 : c ≤ 9223372036854775807) (hA : ∀ ad, A = some ad → ad.block < w.heap.size) (hok : ∀ d ∈ l0, d.n < 18446744073709551616 ∧ d.mask < 18446744073709551616) (hP : HasPow w) (hck : checkP (l0.take 300) = 0) :
    Calls Tryd.prog 4 #[.slice A n c] w fun e w' => e = .returned (.bool true) ∧ Kept [] w w' := by
  have HFEW := Lib.hid (few8_any A n c l0 w hr hc hc2)
  have HR := Lib.hid hr.few
  have hl : (l0.take 300).length ≤ 9223372036854775807 := by rw [List.length_take]; omega
  have hok2 : ∀ d ∈ l0.take 300, d.n < 18446744073709551616 ∧ d.mask < 18446744073709551616 := fun d hd => hok d (List.mem_of_mem_take hd)
  clear hr hok
  generalize l0.take 300 = l at *
  obtain ⟨hl2, hgood⟩ := checkP_zero hck
  have HE := Lib.hid (fun w h hA => pencode_ok A l.length c l w h hA hck hok2)
  have HC := Lib.hid (fun w h => refCheckP A l.length c l w h hl)
  rw [hck] at HC
  have HH := Lib.hid (fun w h hA => handed_ok A l.length c l w h hA hck hok2)
  have HRB := Lib.hid (fun w hr => refBytesP A l.length c l w hr hck hok2)
  have HSM := Lib.hid (fun A2 d w ha hb => refSameD A l.length c A2 l.length d l w ha hb (by omega))
  have HDB : Hid (decP (encP l) = (l, 0)) := decP_back hck hok2
  have HEL : Hid ((encP l).length ≤ 9 + 16 * l.length) := encK_small l.length l hgood
  have hel : (encP l).length ≤ 4105 := by have := HEL.out; omega
  have HPD := Lib.hid (fun A c w h => pdecode_any A (encP l).length c (encP l) w h (by omega))
  rw [HDB.out] at HPD
  generalize encP l = bs at *
  have HP := Lib.hid hP
  have HA := Lib.hid hA
  clear hP hck hgood hok2 hA HDB HEL
  go_enter Tryd.func4, Tryd.ntmps4
  go_wp2_with fail
  refine (HFEW.out).mono ?_
  rintro e w0 ⟨rfl, rfl⟩
  go_wp2_with fail
  refine (HE.out _ HR.out HA.out).mono ?_
  rintro e w1 ⟨v, rfl, hn1⟩
  obtain ⟨Av, cv, rfl, _, _⟩ := own_form hn1.1
  have HK1 := Lib.hid hn1.2.1
  have HV1 := Lib.hid (Reads.of_own hn1.1)
  clear hn1
  go_wp2_with fail
  refine (HC.out _ (HR.out.old HK1.out)).mono ?_
  rintro e w2 ⟨rfl, hk2⟩
  have HK2 := Lib.hid (HK1.out.trans hk2)
  have HV2 := Lib.hid (HV1.out.old hk2)
  clear hk2
  go_wp2_with fail
  refine (awake8 _ (HP.out.old HK2.out)).mono ?_
  rintro e w3 ⟨rfl, hk3⟩
  have HK3 := Lib.hid (HK2.out.trans hk3)
  have HV3 := Lib.hid (HV2.out.old hk3)
  clear hk3
  go_wp2_with fail
  refine (HH.out _ (HR.out.old HK3.out) (fun ad e => by have := HA.out ad e; have := HK3.out.size; omega)).mono ?_
  rintro e w4 ⟨rfl, hk4⟩
  have HK4 := Lib.hid (HK3.out.trans hk4)
  have HV4 := Lib.hid (HV3.out.old hk4)
  clear hk4
  go_wp2_with fail
  refine (HPD.out Av cv _ HV4.out).mono ?_
  rintro e w5 ⟨Aq, nq, cq, rfl, hrow, hk5⟩
  have hnq := hrow.reads.len
  have HQ5 := Lib.hid hrow.reads
  subst hnq
  have HK5 := Lib.hid (HK4.out.trans hk5)
  have HV5 := Lib.hid (HV4.out.old hk5)
  have HR5 := Lib.hid (HR.out.old HK5.out)
  clear hk5 hrow
  have hst5 := run_string_of (P := Tryd.prog) (w := w5.drew) (c := cv) (HV5.out) 32 9 5 Tryd.underlying32 Tryd.underlying5 Tryd.underlying9
  go_wp2_with fail
  go_region_with (first
    | (go_at_call 27; refine (HRB.out _ (HR5.out.old ((Kept.refl [] _).drew))).mono ?_; rintro e w6 ⟨Ab, nb, cb, rfl, hf6⟩; have hnb := hf6.len; subst hnb; have hst6 := run_string_of (P := Tryd.prog) (c := cb) (Reads.of_own hf6.1) 32 9 5 Tryd.underlying32 Tryd.underlying5 Tryd.underlying9; have hst7 := run_string_of (P := Tryd.prog) (c := cv) (HV5.out.old ((Kept.refl [] _).drew.trans hf6.2.1)) 32 9 5 Tryd.underlying32 Tryd.underlying5 Tryd.underlying9; have HK6 := Lib.hid (HK5.out.drew.trans hf6.2.1); have HQ6 := Lib.hid (HQ5.out.old ((Kept.refl [] _).drew.trans hf6.2.1)); have HR6 := Lib.hid (HR5.out.old ((Kept.refl [] _).drew.trans hf6.2.1)); clear hf6)
    | (go_at_call 28; refine (HSM.out Aq cq _ HR6.out HQ6.out).mono ?_; rintro e w7 ⟨rfl, hk7⟩; have HK7 := Lib.hid (HK6.out.trans hk7); clear hk7))
  all_goals
    go_wp2_with fail
    go_ret
    exact ⟨rfl, HK7.out⟩

theorem progBytes_walk (A : Option Addr) (n c : Nat) (l0 : List Dd) (w : World) (hr : ReadsD w A n l0) (hc : n ≤ c) (hc2 : c ≤ 9223372036854775807) (hA : ∀ ad, A = some ad → ad.block < w.heap.size) (hok : ∀ d ∈ l0, d.n < 18446744073709551616 ∧ d.mask < 18446744073709551616) (hP : HasPow w) :
    Calls Tryd.prog 4 #[.slice A n c] w fun e w' => e = .returned (.bool true) ∧ Kept [] w w' := by
  by_cases h : checkP (l0.take 300) = 0
  · exact progBytes_good A n c l0 w hr hc hc2 hA hok hP h
  · exact progBytes_bad A n c l0 w hr hc hc2 hP h

end Go.Proofs.YtmhlmoojmdfnfaaDoor
