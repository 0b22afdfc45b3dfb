/- Law 03: NumsHexes, NumsWords: the walks. -/
import Derived.Test.YtkgnfnliboahaaaDoorNumsAw
namespace Go.Proofs.YtkgnfnliboahaaaDoor
open Go.RowKit

theorem beq_self_nat (a : Nat) : ((a : Int) == (a : Int)) = true := by simp

theorem readH_lt (l : List UInt8) : (readH l).1 < 18446744073709551616 := by
  unfold readH; split
  · rename_i h
    have := valH_lt l h.2
    rw [h.1] at this
    exact this
  · exact (by decide : 0 < 18446744073709551616)

set_option maxHeartbeats 800000 in
theorem hexes_walk (l : List UInt8) (w : World) (hl : l.length ≤ 9223372036854775807) (hM : HasMax w) :
    Calls Tryd.prog 4 #[strV l] w fun e w' => e = .returned (.bool true) ∧ Kept [] w w' := by
  have HM := Lib.hid hM
  have HC := Lib.hid (cut3 l w hl)
  have hl2 : (l.take 200).length ≤ 200 := by simp; omega
  generalize l.take 200 = s at *
  have HR1 := Lib.hid (readHex_any s w (by omega))
  have HR2 := Lib.hid (refReadHex s w (by omega))
  have hlt := readH_lt s
  have hback := hex_readH s
  generalize hr : readH s = r at *
  obtain ⟨x, e⟩ := r
  simp only at HR1 HR2 hlt hback
  clear hM hr
  by_cases he : e = 0
  · subst he
    have hx := hback rfl
    have hh := hex_any x w hlt
    rw [hx] at hh
    have HH := Lib.hid hh
    clear hback hh hx
    go_enter Tryd.func4, Tryd.ntmps4
    go_wp2_with fail
    refine HC.out.mono ?_
    rintro e w1 ⟨rfl, rfl⟩
    go_wp2_with fail
    refine HR1.out.mono ?_
    rintro e w1 ⟨rfl, rfl⟩
    go_wp2_with fail
    refine HR2.out.mono ?_
    rintro e w1 ⟨rfl, rfl⟩
    go_wp2_with fail
    refine HH.out.mono ?_
    rintro e w1 ⟨rfl, hk1⟩
    go_wp2_with fail
    refine (awake3 _ (HM.out.old hk1)).mono ?_
    rintro e w2 ⟨rfl, hk2⟩
    go_wp2_with fail
    go_ret
    exact ⟨rfl, hk1.trans hk2⟩
  · have hb : (e != 0) = true := by simpa using he
    clear hback he
    go_enter Tryd.func4, Tryd.ntmps4
    go_wp2_with fail
    refine HC.out.mono ?_
    rintro e w1 ⟨rfl, rfl⟩
    go_wp2_with fail
    refine HR1.out.mono ?_
    rintro e w1 ⟨rfl, rfl⟩
    go_wp2_with fail
    refine HR2.out.mono ?_
    rintro e w1 ⟨rfl, rfl⟩
    go_wp2_with fail
    refine (awake3 _ HM.out).mono ?_
    rintro e w2 ⟨rfl, hk2⟩
    go_wp2_with fail
    go_ret
    exact ⟨rfl, hk2⟩

theorem words_len (l : List UInt8) : ∀ cur, (∀ w ∈ wordsF cur l, w.length ≤ cur.length + l.length) ∧ (wordsF cur l).length ≤ l.length + 1 := by
  induction l with
  | nil => intro cur; unfold wordsF; split <;> simp
  | cons c t ih =>
    intro cur
    unfold wordsF
    split
    · split
      · have := ih []
        refine ⟨fun w hw => ?_, ?_⟩
        · have := this.1 w hw; simp at this ⊢; omega
        · have := this.2; simp; omega
      · have := ih []
        refine ⟨fun w hw => ?_, ?_⟩
        · rcases List.mem_cons.1 hw with rfl | hw
          · simp
          · have := this.1 w hw; simp at this ⊢; omega
        · have := this.2; simp; omega
    · have := ih (cur ++ [c])
      refine ⟨fun w hw => ?_, ?_⟩
      · have := this.1 w hw; simp at this ⊢; omega
      · have := this.2; simp; omega

theorem joinS_len (by_ : List UInt8) (m : Nat) : ∀ ws : List (List UInt8), (∀ w ∈ ws, w.length ≤ m) → (joinS by_ ws).length ≤ ws.length * (m + by_.length)
  | [], _ => by simp [joinS]
  | [w], h => by have := h w (by simp); simp [joinS]; omega
  | w :: v :: ws, h => by
    have h1 := h w (by simp)
    have h2 := joinS_len by_ m (v :: ws) (fun x hx => h x (by simp at hx ⊢; exact .inr hx))
    simp only [joinS, List.length_append, List.length_cons] at h2 ⊢
    have e : (ws.length + 1 + 1) * (m + by_.length) = (ws.length + 1) * (m + by_.length) + (m + by_.length) := by rw [Nat.succ_mul]
    omega

theorem joinS_take_len (by_ : List UInt8) (hb : by_.length ≤ 2) (l : List UInt8) (hl : l.length ≤ 200) (k : Nat) : (joinS by_ ((words l).take k)).length ≤ 40602 := by
  have h := words_len l []
  have h1 := joinS_len by_ 200 ((words l).take k) (fun w hw => by have := h.1 w (List.mem_of_mem_take hw); simp at this; omega)
  have h2 : ((words l).take k).length ≤ 201 := by
    rw [List.length_take]
    have h3 := h.2
    unfold words
    omega
  have h4 : ((words l).take k).length * (200 + by_.length) ≤ 201 * 202 := Nat.mul_le_mul h2 (by omega)
  omega

set_option maxHeartbeats 1000000 in
theorem words_walk (l : List UInt8) (w : World) (hl : l.length ≤ 9223372036854775807) (hM : HasMax w) :
    Calls Tryd.prog 3 #[strV l] w fun e w' => e = .returned (.bool true) ∧ Kept [] w w' := by
  have HM := Lib.hid hM
  have HC := Lib.hid (cut3 l w hl)
  have hl2 : (l.take 200).length ≤ 200 := by simp; omega
  generalize l.take 200 = s at *
  have hl1 : (words s).length ≤ 201 := by have := (words_len s []).2; unfold words; omega
  have HALL1 := Lib.hid (joinS_take_len [32] (by decide) s hl2)
  have HALL2 := Lib.hid (joinS_take_len [32, 32] (by decide) s hl2)
  have HONE : Hid (∀ x ∈ words s, x.length ≤ 200) := fun x hx => by
    have := (words_len s []).1 x hx; simp at this; omega
  have HB1 : Hid (words (joinS [32] (words s)) = words s) := by
    have := words_join [32] (.inl rfl) [] (.inl rfl) (words s) (words_all s)
    rw [List.append_nil] at this
    exact this
  have HB2 : Hid (words (joinS [32, 32] (words s) ++ [32]) = words s) := words_join [32, 32] (.inr rfl) [32] (.inr rfl) (words s) (words_all s)
  have HJ1 : Hid ((joinS [32] (words s)).length ≤ 40602) := by
    have := HALL1.out (words s).length
    rw [List.take_of_length_le (Nat.le_refl _)] at this
    exact this
  have HJ2 : Hid ((joinS [32, 32] (words s) ++ [32]).length ≤ 40603) := by
    have := HALL2.out (words s).length
    rw [List.take_of_length_le (Nat.le_refl _)] at this
    rw [List.length_append]
    exact Nat.succ_le_succ this
  have HW := Lib.hid (fun w => words_any s w (by omega))
  have HW1 : Hid (∀ w, HasMax w → Calls Tryd.prog 8 #[strV (joinS [32] (words s))] w fun e w' => ∃ A c, e = .returned (.slice A (words s).length c) ∧ FreshS w w' (words s) A (words s).length c) := by
    intro w hM
    have := words_any (joinS [32] (words s)) w (by have := HJ1.out; omega) hM
    rw [HB1.out] at this
    exact this
  have HW2 : Hid (∀ w, HasMax w → Calls Tryd.prog 8 #[strV (joinS [32, 32] (words s) ++ [32])] w fun e w' => ∃ A c, e = .returned (.slice A (words s).length c) ∧ FreshS w w' (words s) A (words s).length c) := by
    intro w hM
    have := words_any (joinS [32, 32] (words s) ++ [32]) w (by have := HJ2.out; omega) hM
    rw [HB2.out] at this
    exact this
  have HRW := Lib.hid (fun w => refWords s w (by omega))
  have HAP := Lib.hid (str_append (joinS [32, 32] (words s)) [32])
  have HN1 : Hid (∀ A c w, Reads w 1 A (words s).length ((words s).map strV) → Calls Tryd.prog 11 #[.slice A (words s).length c, .string ⟨#[32]⟩] w fun e w' => e = .returned (strV (joinS [32] (words s))) ∧ w = w') := fun A c w hr =>
    refJoin A (words s).length c (words s) [32] w hr (by omega) (by decide) (fun k => Nat.le_trans (HALL1.out k) (by omega)) (fun x hx => Nat.le_trans (HONE.out x hx) (by omega))
  have HN2 : Hid (∀ A c w, Reads w 1 A (words s).length ((words s).map strV) → Calls Tryd.prog 11 #[.slice A (words s).length c, .string ⟨#[32, 32]⟩] w fun e w' => e = .returned (strV (joinS [32, 32] (words s))) ∧ w = w') := fun A c w hr =>
    refJoin A (words s).length c (words s) [32, 32] w hr (by omega) (by decide) (fun k => Nat.le_trans (HALL2.out k) (by omega)) (fun x hx => Nat.le_trans (HONE.out x hx) (by omega))
  have HSM : Hid (∀ A c A2 c2 w, Reads w 1 A (words s).length ((words s).map strV) → Reads w 1 A2 (words s).length ((words s).map strV) → Calls Tryd.prog 9 #[.slice A (words s).length c, .slice A2 (words s).length c2] w fun e w' => e = .returned (.bool true) ∧ Kept [] w w') := fun A c A2 c2 w h1 h2 => by
    have := refSame A (words s).length c A2 (words s).length c2 (words s) (words s) w h1 h2 (by omega) (by omega)
    rw [decide_eq_true rfl] at this
    exact this
  have HJ3 : Hid ((joinS [32, 32] (words s)).length ≤ 40602) := by
    have := HALL2.out (words s).length
    rw [List.take_of_length_le (Nat.le_refl _)] at this
    exact this
  have hj3 := HJ3.out
  clear HB1 HB2 hM HALL1 HALL2 HONE HJ1 HJ2 HJ3
  generalize joinS [32] (words s) = j1 at *
  generalize joinS [32, 32] (words s) = j2 at *
  generalize words s = ws at *
  go_enter Tryd.func3, Tryd.ntmps3
  go_wp2_with fail
  refine HC.out.mono ?_
  rintro e w1 ⟨rfl, rfl⟩
  go_wp2_with fail
  refine (HW.out _ HM.out).mono ?_
  rintro e w1 ⟨A, c, rfl, hf⟩
  have HF := Lib.hid hf
  clear hf
  go_wp2_with fail
  refine (HRW.out _).mono ?_
  rintro e w2 ⟨A2, c2, rfl, hf⟩
  have HF2 := Lib.hid hf
  have hr2 := (Reads.of_own HF.out.1).old HF2.out.2.1
  have hm2 := (HM.out.old HF.out.2.1).old HF2.out.2.1
  have HK2 := Lib.hid (HF.out.2.1.trans HF2.out.2.1)
  clear hf
  go_wp2_with fail
  refine (HSM.out A c A2 c2 _ hr2 (Reads.of_own HF2.out.1)).mono ?_
  rintro e w3 ⟨rfl, hk3⟩
  have hr3 := hr2.old hk3
  have hm3 := hm2.old hk3
  have HK3 := Lib.hid (HK2.out.trans hk3)
  clear hr2 hm2 hk3 HK2 HF HF2
  go_wp2_with fail
  refine (HN1.out A c _ hr3).mono ?_
  rintro e w4 ⟨rfl, rfl⟩
  go_wp2_with fail
  refine (HW1.out _ hm3).mono ?_
  rintro e w4 ⟨A4, c4, rfl, hf⟩
  have HF4 := Lib.hid hf
  have hr4 := hr3.old HF4.out.2.1
  have hm4 := hm3.old HF4.out.2.1
  have HK4 := Lib.hid (HK3.out.trans HF4.out.2.1)
  clear hf hr3 hm3 HK3
  go_wp2_with fail
  refine (HSM.out A4 c4 A c _ (Reads.of_own HF4.out.1) hr4).mono ?_
  rintro e w5 ⟨rfl, hk5⟩
  have hr5 := hr4.old hk5
  have hm5 := hm4.old hk5
  have HK5 := Lib.hid (HK4.out.trans hk5)
  clear hr4 hm4 hk5 HK4 HF4
  go_wp2_with fail
  refine (HN2.out A c _ hr5).mono ?_
  rintro e w6 ⟨rfl, rfl⟩
  go_wp2_with fail
  rw [HAP.out]
  refine (HW2.out _ hm5).mono ?_
  rintro e w7 ⟨A7, c7, rfl, hf⟩
  have HF7 := Lib.hid hf
  have hr7 := hr5.old HF7.out.2.1
  have hm7 := hm5.old HF7.out.2.1
  have HK7 := Lib.hid (HK5.out.trans HF7.out.2.1)
  clear hf hr5 hm5 HK5
  go_wp2_with fail
  refine (HSM.out A7 c7 A c _ (Reads.of_own HF7.out.1) hr7).mono ?_
  rintro e w8 ⟨rfl, hk8⟩
  have hm8 := hm7.old hk8
  have HK8 := Lib.hid (HK7.out.trans hk8)
  clear hr7 hm7 hk8 HK7 HF7
  go_wp2_with fail
  refine (awake3 _ hm8).mono ?_
  rintro e w9 ⟨rfl, hk9⟩
  go_wp2_with fail
  go_ret
  exact ⟨rfl, HK8.out.trans hk9⟩

end Go.Proofs.YtkgnfnliboahaaaDoor
