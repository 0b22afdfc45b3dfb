/- Package nums: Read, and the document's Decimal and Read. -/
import Derived.Test.YtmhlmoojmdfnfaaDoorNumsR
namespace Go.Proofs.YtmhlmoojmdfnfaaDoor
open Go.RowKit

theorem dig_at {l : List UInt8} {k : Nat} (h : k < l.length) (ha : l.all isDig = true) : isDig l[k] = true := (List.all_eq_true.1 ha) _ (List.getElem_mem h)
theorem plain_all {l : List UInt8} (h : plainS l = true) : l.all isDig = true := by
  unfold plainS at h; rw [Bool.and_eq_true] at h; exact h.1

set_option maxHeartbeats 800000 in
theorem read_any (l : List UInt8) (w : World) (hl : l.length ≤ 1000000000) :
    Calls Tryd.prog 150 #[strV l] w fun e w' => e = .returned (.tuple #[.int .u64 (readD l).1, .int .i64 (readD l).2]) ∧ Kept [] w w' := by
  obtain ⟨r, hr⟩ : ∃ r, readD l = r := ⟨_, rfl⟩
  rw [hr]
  unfold readD at hr
  have HR := Lib.hid hr
  have HP := Lib.hid (plain_any l w hl)
  clear hr
  by_cases hp : plainS l = true
  · have hc := HP.out
    rw [hp] at hc
    have HC := Lib.hid hc
    have HALL := Lib.hid (plain_all hp)
    have hr := HR.out
    rw [if_neg (by simp [hp])] at hr
    have HR2 := Lib.hid hr
    clear hc hp HP HR hr
    go_enter Tryd.func150, Tryd.ntmps150
    go_wp2_with fail
    refine HC.out.mono ?_
    rintro e w1 ⟨rfl, hk1⟩
    go_wp2_with fail
    go_loop [4, 12] (fun x i => ∃ k : Nat, k ≤ l.length ∧ i = .int .i64 k ∧ x = .int .u64 (valD (l.take k) : Nat) ∧ valD (l.take k) ≤ 18446744073709551615) (fun _ i => l.length - (intOf i).toNat)
    case atStart => exact ⟨0, by omega, rfl, rfl, by simp [valD]⟩
    case round =>
      obtain ⟨k, hk, rfl, rfl, hv⟩ := hrel
      by_cases hlt : k < l.length
      · obtain ⟨b, hlk⟩ : ∃ b : UInt8, l[k] = b := ⟨_, rfl⟩
        have hidx : (⟨l.toArray⟩ : ByteArray)[k]'(show k < (⟨l.toArray⟩ : ByteArray).size from hlt) = b := hlk
        have hd := dig_at hlt HALL.out
        have hst := valD_step hlt
        rw [hlk] at hd hst
        rw [isDig_iff] at hd
        obtain ⟨hd1, hd2⟩ := hd
        unfold digV at hst
        have hle := valD_take_le l (k + 1)
        rw [hst] at hle
        generalize valD (l.take k) = x at *
        have HS := Lib.hid hst
        clear hst hlk
        by_cases hx : x * 10 + (b.toNat - 48) ≤ 18446744073709551615
        · have hq : (x : Int) ≤ (18446744073709551615 - ((b.toNat : Int) - 48)) / 10 := by omega
          clear hle
          go_wp2_with fail
          exact ⟨⟨k + 1, by omega, by go_num, by rw [HS.out]; go_num, by rw [HS.out]; exact hx⟩, by simp [intOf]; omega⟩
        · have HR3 : Hid (r = (0, 5)) := by rw [← HR2.out, if_pos (by omega)]; exact rfl
          have hq : (18446744073709551615 - ((b.toNat : Int) - 48)) / 10 < (x : Int) := by omega
          clear hle hx
          go_wp2_with fail
          go_ret2
          rw [HR3.out]
          exact ⟨rfl, hk1⟩
      · obtain rfl : k = l.length := by omega
        have ht : l.take l.length = l := List.take_of_length_le (Nat.le_refl _)
        rw [ht] at hv
        have HR3 : Hid (r = (valD l, 0)) := by rw [← HR2.out, if_neg (by omega)]; exact rfl
        clear ht
        go_wp2_with fail
        go_ret2
        rw [HR3.out]
        exact ⟨rfl, hk1⟩
  · have hp' : plainS l = false := by simpa using hp
    have hc := HP.out
    rw [hp'] at hc
    have HC := Lib.hid hc
    have HR2 : Hid (r = (0, 3)) := by rw [← HR.out, if_pos hp']; exact rfl
    clear hc hp hp' HP HR
    go_enter Tryd.func150, Tryd.ntmps150
    go_wp2_with fail
    refine HC.out.mono ?_
    rintro e w1 ⟨rfl, hk1⟩
    go_wp2_with fail
    go_ret2
    rw [HR2.out]
    exact ⟨rfl, hk1⟩

theorem hexV_dig (b : UInt8) : isDig b = decide (hexV b ≤ 9) := by
  unfold isDig hexV
  by_cases h : 48 ≤ b.toNat ∧ b.toNat ≤ 57
  · rw [if_pos h]; simp [h]
  · rw [if_neg h]
    have : (decide (48 ≤ b.toNat) && decide (b.toNat ≤ 57)) = false := by simp; omega
    rw [this]
    split <;> simp <;> omega
theorem hexV_digV (b : UInt8) (h : isDig b = true) : hexV b = digV b := by
  rw [isDig_iff] at h; unfold hexV digV; rw [if_pos h]
theorem plain_one (l : List UInt8) (h : l.length = 1) (ha : l.all isDig = true) : plainS l = true := by
  match l, h with
  | [c], _ => unfold plainS; rw [ha]; by_cases e : c = 48 <;> simp [e]
theorem plain_more (l : List UInt8) (h : 1 < l.length) (ha : l.all isDig = true) : plainS l = (l.headD 48 != 48) := by
  match l, h with
  | c :: d :: t, _ => unfold plainS; rw [ha]; simp
theorem toNat48 (b : UInt8) : (b != 48) = (((b.toNat : Nat) : Int) != 48) := by
  by_cases e : b = 48
  · subst e; rfl
  · have : b.toNat ≠ 48 := fun e2 => e (UInt8.toNat_inj.1 (by simpa using e2))
    rw [bne_iff_ne.2 e, eq_comm, bne_iff_ne]; omega

set_option maxHeartbeats 800000 in
theorem refDecimal (l : List UInt8) (w : World) (hl : l.length ≤ 1000000000) :
    Calls Tryd.prog 128 #[strV l] w fun e w' => e = .returned (.bool (plainS l)) ∧ w = w' := by
  go_enter Tryd.func128, Tryd.ntmps128
  go_wp2_with fail
  go_loop [3] (fun i => ∃ k : Nat, k ≤ l.length ∧ i = .int .i64 k ∧ Hid ((l.take k).all isDig = true)) (fun i => l.length - (intOf i).toNat)
  case atStart => exact ⟨0, by omega, rfl, by simp [Hid]⟩
  case round =>
    obtain ⟨k, hk, rfl, HT⟩ := hrel
    by_cases hlt : k < l.length
    · obtain ⟨b, hlk⟩ : ∃ b : UInt8, l[k] = b := ⟨_, rfl⟩
      have hidx : (⟨l.toArray⟩ : ByteArray)[k]'(show k < (⟨l.toArray⟩ : ByteArray).size from hlt) = b := hlk
      have hb256 := b.toNat_lt
      have hc := refValue b.toNat w hb256
      rw [show UInt8.ofNat b.toNat = b from by simp] at hc
      have hv := hexV_dig b
      by_cases hx : hexV b ≤ 9
      · have HT2 := Lib.hid (all_take_succ hlt HT.out (by rw [hlk, hv]; simpa using hx))
        generalize hexV b = v at *
        have HC := Lib.hid hc
        clear hc hv hlk
        go_wp2_with fail
        refine HC.out.mono ?_
        rintro e w1 ⟨rfl, rfl⟩
        go_wp2_with fail
        exact ⟨⟨k + 1, by omega, by go_num, HT2⟩, by simp [intOf]; omega⟩
      · have HF : Hid (plainS l = false) := by
          unfold plainS Hid; rw [not_all hlt (by rw [hlk, hv]; simpa using hx)]; rfl
        have hv16 : hexV b ≤ 16 := by unfold hexV; (repeat' split) <;> omega
        generalize hexV b = v at *
        have HC := Lib.hid hc
        clear hc hv hlk
        go_wp2_with fail
        refine HC.out.mono ?_
        rintro e w1 ⟨rfl, rfl⟩
        go_wp2_with fail
        go_ret
        rw [HF.out]
        exact ⟨rfl, rfl⟩
    · obtain rfl : k = l.length := by omega
      have hall := HT.out
      rw [List.take_of_length_le (Nat.le_refl _)] at hall
      clear HT
      by_cases hl1 : l.length = 1
      · have HF := Lib.hid (plain_one l hl1 hall)
        have hb1 : ((l.length : Int) == 1) = true := by simp [hl1]
        clear hl1 hall
        go_wp2_with fail
        go_ret
        rw [HF.out]
        exact ⟨rfl, rfl⟩
      · have hb1 : ((l.length : Int) == 1) = false := by simp; omega
        by_cases hl2 : 1 < l.length
        · have hpm := plain_more l hl2 hall
          obtain ⟨b, hb⟩ : ∃ b, l[0] = b := ⟨_, rfl⟩
          have hidx : (⟨l.toArray⟩ : ByteArray)[0]'(show 0 < (⟨l.toArray⟩ : ByteArray).size by show 0 < l.length; omega) = b := hb
          have hhd : l.headD 48 = b := by rw [← hb]; cases l with
            | nil => simp at hl2
            | cons a t => rfl
          rw [hhd, toNat48] at hpm
          have HF := Lib.hid hpm
          clear hl1 hall hpm hhd hb
          go_wp2_with fail
          go_ret
          rw [HF.out]
          exact ⟨rfl, rfl⟩
        · have hl0 : l = [] := List.length_eq_zero_iff.1 (by omega)
          subst hl0
          clear hall
          go_wp2_with fail
          go_ret
          exact ⟨rfl, rfl⟩

set_option maxHeartbeats 800000 in
theorem refRead (l : List UInt8) (w : World) (hl : l.length ≤ 1000000000) :
    Calls Tryd.prog 85 #[strV l] w fun e w' => e = .returned (.tuple #[.int .u64 (readD l).1, .int .i64 (readD l).2]) ∧ w = w' := by
  obtain ⟨r, hr⟩ : ∃ r, readD l = r := ⟨_, rfl⟩
  rw [hr]
  unfold readD at hr
  have HR := Lib.hid hr
  have HP := Lib.hid (refDecimal l w hl)
  clear hr
  by_cases hp : plainS l = true
  · have hc := HP.out
    rw [hp] at hc
    have HC := Lib.hid hc
    have HALL := Lib.hid (plain_all hp)
    have hr := HR.out
    rw [if_neg (by simp [hp])] at hr
    have htg := too_great l hp
    clear hc hp HP HR
    by_cases hg : 18446744073709551616 ≤ valD l
    · rw [if_pos hg] at hr
      subst hr
      have h := htg.2 hg
      clear htg hg
      rcases h with h | ⟨h1, h2, h3⟩
      · go_enter Tryd.func85, Tryd.ntmps85
        go_wp2_with fail
        refine HC.out.mono ?_
        rintro e w1 ⟨rfl, rfl⟩
        go_wp2_with fail
        go_ret2
        exact ⟨rfl, rfl⟩
      · have hb1 : ((l.length : Int) == 20) = true := by simp [h1]
        have hb2 : (l.length : Int) ≤ 20 := by omega
        have hne : (l == greatT) = false := by simpa using h3
        unfold greatT at h2 hne
        clear h1 h3
        go_enter Tryd.func85, Tryd.ntmps85
        go_wp2_with fail
        refine HC.out.mono ?_
        rintro e w1 ⟨rfl, rfl⟩
        go_wp2_with fail
        go_ret2
        exact ⟨rfl, rfl⟩
    · rw [if_neg hg] at hr
      subst hr
      have hl20 : l.length ≤ 20 := by
        apply Nat.le_of_not_lt; intro h; exact hg (htg.1 (.inl h))
      have hcase : (l.length ≤ 19 ∧ ((l.length : Int) == 20) = false) ∨ (((l.length : Int) == 20) = true ∧ Op.bytesLess l greatT = true) ∨ (((l.length : Int) == 20) = true ∧ (l == greatT) = true) := by
        by_cases h20 : l.length = 20
        · right
          have hb1 : ((l.length : Int) == 20) = true := by simp [h20]
          cases hb : Op.bytesLess l greatT with
          | true => exact .inl ⟨hb1, rfl⟩
          | false =>
            right
            refine ⟨hb1, ?_⟩
            by_cases he : l = greatT
            · simpa using he
            · exact absurd (htg.1 (.inr ⟨h20, hb, he⟩)) hg
        · left; exact ⟨by omega, by simp; omega⟩
      unfold greatT at hcase
      have hvl : valD l ≤ 18446744073709551615 := by omega
      clear htg hg
      rcases hcase with ⟨h1, h2⟩ | ⟨h1, h2⟩ | ⟨h1, h2⟩
      all_goals
        go_enter Tryd.func85, Tryd.ntmps85
        go_wp2_with fail
        refine HC.out.mono ?_
        rintro e w1 ⟨rfl, rfl⟩
        go_wp2_with fail
        go_loop [5, 6] (fun x i => ∃ k : Nat, k ≤ l.length ∧ i = .int .i64 k ∧ x = .int .u64 (valD (l.take k) : Nat)) (fun _ i => l.length - (intOf i).toNat)
        case atStart => exact ⟨0, by omega, rfl, rfl⟩
        case round =>
          obtain ⟨k, hk, rfl, rfl⟩ := hrel
          clear h1 h2
          by_cases hlt : k < l.length
          · obtain ⟨b, hlk⟩ : ∃ b : UInt8, l[k] = b := ⟨_, rfl⟩
            have hidx : (⟨l.toArray⟩ : ByteArray)[k]'(show k < (⟨l.toArray⟩ : ByteArray).size from hlt) = b := hlk
            have hd := dig_at hlt HALL.out
            have hst := valD_step hlt
            have hb256 := b.toNat_lt
            have hc := refValue b.toNat w hb256
            rw [show UInt8.ofNat b.toNat = b from by simp] at hc
            rw [hlk] at hd hst
            rw [hexV_digV b hd] at hc
            have hv := digV_lt b hd
            have hle := valD_take_le l (k + 1)
            rw [hst] at hle
            generalize valD (l.take k) = x at *
            generalize digV b = d at *
            have HS := Lib.hid hst
            have HV := Lib.hid hc
            have hx : x * 10 + d ≤ 18446744073709551615 := by omega
            clear hst hlk hc hle hd
            go_wp2_with fail
            refine HV.out.mono ?_
            rintro e w1 ⟨rfl, rfl⟩
            go_wp2_with fail
            exact ⟨⟨k + 1, by omega, by go_num, by rw [HS.out]; go_num⟩, by simp [intOf]; omega⟩
          · obtain rfl : k = l.length := by omega
            have ht : l.take l.length = l := List.take_of_length_le (Nat.le_refl _)
            rw [ht]
            clear ht
            go_wp2_with fail
            go_ret2
            exact ⟨rfl, rfl⟩
  · have hp' : plainS l = false := by simpa using hp
    have hc := HP.out
    rw [hp'] at hc
    have HC := Lib.hid hc
    have HR2 : Hid (r = (0, 3)) := by rw [← HR.out, if_pos hp']; exact rfl
    clear hc hp hp' HP HR
    go_enter Tryd.func85, Tryd.ntmps85
    go_wp2_with fail
    refine HC.out.mono ?_
    rintro e w1 ⟨rfl, rfl⟩
    go_wp2_with fail
    go_ret2
    rw [HR2.out]
    exact ⟨rfl, rfl⟩

end Go.Proofs.YtmhlmoojmdfnfaaDoor
