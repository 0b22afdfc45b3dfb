/- Package nums: Read, and the document's Decimal and Read; Package nums: Int, and the document's Int; Package nums: Print, and the document's Print. -/
import Derived.Test.YtladfdpcdjjifaaGreatDoorNumsR
import Derived.Lib.ItoaMem

/- Package nums: Read, and the document's Decimal and Read. -/
namespace Go.Proofs.YtladfdpcdjjifaaGreatDoor
open Go.RowKit

theorem dig_at {l : List UInt8} {k : Nat} (h : k < l.length) (ha : l.all isDig = true) : isDig l[k] = true := (List.all_eq_true.1 ha) _ (List.getElem_mem h)
theorem plain_all {l : List UInt8} (h : plainS l = true) : l.all isDig = true := by
  unfold plainS at h; rw [Bool.and_eq_true] at h; exact h.1

set_option maxHeartbeats 800000 in
theorem read_any (l : List UInt8) (w : World) (hl : l.length ≤ 1000000000) :
    Calls Tryz.prog 55 #[strV l] w fun e w' => e = .returned (.tuple #[.int .u64 (readD l).1, .int .i64 (readD l).2]) ∧ Kept [] w w' := by
  obtain ⟨r, hr⟩ : ∃ r, readD l = r := ⟨_, rfl⟩
  rw [hr]
  unfold readD at hr
  have HR := Lib.hid hr
  have HP := Lib.hid (plain_any l w hl)
  clear hr
  by_cases hp : plainS l = true
  · have hc := HP.out
    rw [hp] at hc
    have HC := Lib.hid hc
    have HALL := Lib.hid (plain_all hp)
    have hr := HR.out
    rw [if_neg (by simp [hp])] at hr
    have HR2 := Lib.hid hr
    clear hc hp HP HR hr
    go_enter Tryz.func55, Tryz.ntmps55
    go_wp2_with fail
    refine HC.out.mono ?_
    rintro e w1 ⟨rfl, hk1⟩
    go_wp2_with fail
    go_loop [4, 12] (fun x i => ∃ k : Nat, k ≤ l.length ∧ i = .int .i64 k ∧ x = .int .u64 (valD (l.take k) : Nat) ∧ valD (l.take k) ≤ 18446744073709551615) (fun _ i => l.length - (intOf i).toNat)
    case atStart => exact ⟨0, by omega, rfl, rfl, by simp [valD]⟩
    case round =>
      obtain ⟨k, hk, rfl, rfl, hv⟩ := hrel
      by_cases hlt : k < l.length
      · obtain ⟨b, hlk⟩ : ∃ b : UInt8, l[k] = b := ⟨_, rfl⟩
        have hidx : (⟨l.toArray⟩ : ByteArray)[k]'(show k < (⟨l.toArray⟩ : ByteArray).size from hlt) = b := hlk
        have hd := dig_at hlt HALL.out
        have hst := valD_step hlt
        rw [hlk] at hd hst
        rw [isDig_iff] at hd
        obtain ⟨hd1, hd2⟩ := hd
        unfold digV at hst
        have hle := valD_take_le l (k + 1)
        rw [hst] at hle
        generalize valD (l.take k) = x at *
        have HS := Lib.hid hst
        clear hst hlk
        by_cases hx : x * 10 + (b.toNat - 48) ≤ 18446744073709551615
        · have hq : (x : Int) ≤ (18446744073709551615 - ((b.toNat : Int) - 48)) / 10 := by omega
          clear hle
          go_wp2_with fail
          exact ⟨⟨k + 1, by omega, by go_num, by rw [HS.out]; go_num, by rw [HS.out]; exact hx⟩, by simp [intOf]; omega⟩
        · have HR3 : Hid (r = (0, 5)) := by rw [← HR2.out, if_pos (by omega)]; exact rfl
          have hq : (18446744073709551615 - ((b.toNat : Int) - 48)) / 10 < (x : Int) := by omega
          clear hle hx
          go_wp2_with fail
          go_ret2
          rw [HR3.out]
          exact ⟨rfl, hk1⟩
      · obtain rfl : k = l.length := by omega
        have ht : l.take l.length = l := List.take_of_length_le (Nat.le_refl _)
        rw [ht] at hv
        have HR3 : Hid (r = (valD l, 0)) := by rw [← HR2.out, if_neg (by omega)]; exact rfl
        clear ht
        go_wp2_with fail
        go_ret2
        rw [HR3.out]
        exact ⟨rfl, hk1⟩
  · have hp' : plainS l = false := by simpa using hp
    have hc := HP.out
    rw [hp'] at hc
    have HC := Lib.hid hc
    have HR2 : Hid (r = (0, 3)) := by rw [← HR.out, if_pos hp']; exact rfl
    clear hc hp hp' HP HR
    go_enter Tryz.func55, Tryz.ntmps55
    go_wp2_with fail
    refine HC.out.mono ?_
    rintro e w1 ⟨rfl, hk1⟩
    go_wp2_with fail
    go_ret2
    rw [HR2.out]
    exact ⟨rfl, hk1⟩

theorem hexV_dig (b : UInt8) : isDig b = decide (hexV b ≤ 9) := by
  unfold isDig hexV
  by_cases h : 48 ≤ b.toNat ∧ b.toNat ≤ 57
  · rw [if_pos h]; simp [h]
  · rw [if_neg h]
    have : (decide (48 ≤ b.toNat) && decide (b.toNat ≤ 57)) = false := by simp; omega
    rw [this]
    split <;> simp <;> omega
theorem hexV_digV (b : UInt8) (h : isDig b = true) : hexV b = digV b := by
  rw [isDig_iff] at h; unfold hexV digV; rw [if_pos h]
theorem plain_one (l : List UInt8) (h : l.length = 1) (ha : l.all isDig = true) : plainS l = true := by
  match l, h with
  | [c], _ => unfold plainS; rw [ha]; by_cases e : c = 48 <;> simp [e]
theorem plain_more (l : List UInt8) (h : 1 < l.length) (ha : l.all isDig = true) : plainS l = (l.headD 48 != 48) := by
  match l, h with
  | c :: d :: t, _ => unfold plainS; rw [ha]; simp
theorem toNat48 (b : UInt8) : (b != 48) = (((b.toNat : Nat) : Int) != 48) := by
  by_cases e : b = 48
  · subst e; rfl
  · have : b.toNat ≠ 48 := fun e2 => e (UInt8.toNat_inj.1 (by simpa using e2))
    rw [bne_iff_ne.2 e, eq_comm, bne_iff_ne]; omega

set_option maxHeartbeats 800000 in
theorem refDecimal (l : List UInt8) (w : World) (hl : l.length ≤ 1000000000) :
    Calls Tryz.prog 90 #[strV l] w fun e w' => e = .returned (.bool (plainS l)) ∧ w = w' := by
  go_enter Tryz.func90, Tryz.ntmps90
  go_wp2_with fail
  go_loop [3] (fun i => ∃ k : Nat, k ≤ l.length ∧ i = .int .i64 k ∧ Hid ((l.take k).all isDig = true)) (fun i => l.length - (intOf i).toNat)
  case atStart => exact ⟨0, by omega, rfl, by simp [Hid]⟩
  case round =>
    obtain ⟨k, hk, rfl, HT⟩ := hrel
    by_cases hlt : k < l.length
    · obtain ⟨b, hlk⟩ : ∃ b : UInt8, l[k] = b := ⟨_, rfl⟩
      have hidx : (⟨l.toArray⟩ : ByteArray)[k]'(show k < (⟨l.toArray⟩ : ByteArray).size from hlt) = b := hlk
      have hb256 := b.toNat_lt
      have hc := refValue b.toNat w hb256
      rw [show UInt8.ofNat b.toNat = b from by simp] at hc
      have hv := hexV_dig b
      by_cases hx : hexV b ≤ 9
      · have HT2 := Lib.hid (all_take_succ hlt HT.out (by rw [hlk, hv]; simpa using hx))
        generalize hexV b = v at *
        have HC := Lib.hid hc
        clear hc hv hlk
        go_wp2_with fail
        refine HC.out.mono ?_
        rintro e w1 ⟨rfl, rfl⟩
        go_wp2_with fail
        exact ⟨⟨k + 1, by omega, by go_num, HT2⟩, by simp [intOf]; omega⟩
      · have HF : Hid (plainS l = false) := by
          unfold plainS Hid; rw [not_all hlt (by rw [hlk, hv]; simpa using hx)]; rfl
        have hv16 : hexV b ≤ 16 := by unfold hexV; (repeat' split) <;> omega
        generalize hexV b = v at *
        have HC := Lib.hid hc
        clear hc hv hlk
        go_wp2_with fail
        refine HC.out.mono ?_
        rintro e w1 ⟨rfl, rfl⟩
        go_wp2_with fail
        go_ret
        rw [HF.out]
        exact ⟨rfl, rfl⟩
    · obtain rfl : k = l.length := by omega
      have hall := HT.out
      rw [List.take_of_length_le (Nat.le_refl _)] at hall
      clear HT
      by_cases hl1 : l.length = 1
      · have HF := Lib.hid (plain_one l hl1 hall)
        have hb1 : ((l.length : Int) == 1) = true := by simp [hl1]
        clear hl1 hall
        go_wp2_with fail
        go_ret
        rw [HF.out]
        exact ⟨rfl, rfl⟩
      · have hb1 : ((l.length : Int) == 1) = false := by simp; omega
        by_cases hl2 : 1 < l.length
        · have hpm := plain_more l hl2 hall
          obtain ⟨b, hb⟩ : ∃ b, l[0] = b := ⟨_, rfl⟩
          have hidx : (⟨l.toArray⟩ : ByteArray)[0]'(show 0 < (⟨l.toArray⟩ : ByteArray).size by show 0 < l.length; omega) = b := hb
          have hhd : l.headD 48 = b := by rw [← hb]; cases l with
            | nil => simp at hl2
            | cons a t => rfl
          rw [hhd, toNat48] at hpm
          have HF := Lib.hid hpm
          clear hl1 hall hpm hhd hb
          go_wp2_with fail
          go_ret
          rw [HF.out]
          exact ⟨rfl, rfl⟩
        · have hl0 : l = [] := List.length_eq_zero_iff.1 (by omega)
          subst hl0
          clear hall
          go_wp2_with fail
          go_ret
          exact ⟨rfl, rfl⟩

set_option maxHeartbeats 800000 in
theorem refRead (l : List UInt8) (w : World) (hl : l.length ≤ 1000000000) :
    Calls Tryz.prog 65 #[strV l] w fun e w' => e = .returned (.tuple #[.int .u64 (readD l).1, .int .i64 (readD l).2]) ∧ w = w' := by
  obtain ⟨r, hr⟩ : ∃ r, readD l = r := ⟨_, rfl⟩
  rw [hr]
  unfold readD at hr
  have HR := Lib.hid hr
  have HP := Lib.hid (refDecimal l w hl)
  clear hr
  by_cases hp : plainS l = true
  · have hc := HP.out
    rw [hp] at hc
    have HC := Lib.hid hc
    have HALL := Lib.hid (plain_all hp)
    have hr := HR.out
    rw [if_neg (by simp [hp])] at hr
    have htg := too_great l hp
    clear hc hp HP HR
    by_cases hg : 18446744073709551616 ≤ valD l
    · rw [if_pos hg] at hr
      subst hr
      have h := htg.2 hg
      clear htg hg
      rcases h with h | ⟨h1, h2, h3⟩
      · go_enter Tryz.func65, Tryz.ntmps65
        go_wp2_with fail
        refine HC.out.mono ?_
        rintro e w1 ⟨rfl, rfl⟩
        go_wp2_with fail
        go_ret2
        exact ⟨rfl, rfl⟩
      · have hb1 : ((l.length : Int) == 20) = true := by simp [h1]
        have hb2 : (l.length : Int) ≤ 20 := by omega
        have hne : (l == greatT) = false := by simpa using h3
        unfold greatT at h2 hne
        clear h1 h3
        go_enter Tryz.func65, Tryz.ntmps65
        go_wp2_with fail
        refine HC.out.mono ?_
        rintro e w1 ⟨rfl, rfl⟩
        go_wp2_with fail
        go_ret2
        exact ⟨rfl, rfl⟩
    · rw [if_neg hg] at hr
      subst hr
      have hl20 : l.length ≤ 20 := by
        apply Nat.le_of_not_lt; intro h; exact hg (htg.1 (.inl h))
      have hcase : (l.length ≤ 19 ∧ ((l.length : Int) == 20) = false) ∨ (((l.length : Int) == 20) = true ∧ Op.bytesLess l greatT = true) ∨ (((l.length : Int) == 20) = true ∧ (l == greatT) = true) := by
        by_cases h20 : l.length = 20
        · right
          have hb1 : ((l.length : Int) == 20) = true := by simp [h20]
          cases hb : Op.bytesLess l greatT with
          | true => exact .inl ⟨hb1, rfl⟩
          | false =>
            right
            refine ⟨hb1, ?_⟩
            by_cases he : l = greatT
            · simpa using he
            · exact absurd (htg.1 (.inr ⟨h20, hb, he⟩)) hg
        · left; exact ⟨by omega, by simp; omega⟩
      unfold greatT at hcase
      have hvl : valD l ≤ 18446744073709551615 := by omega
      clear htg hg
      rcases hcase with ⟨h1, h2⟩ | ⟨h1, h2⟩ | ⟨h1, h2⟩
      all_goals
        go_enter Tryz.func65, Tryz.ntmps65
        go_wp2_with fail
        refine HC.out.mono ?_
        rintro e w1 ⟨rfl, rfl⟩
        go_wp2_with fail
        go_loop [5, 6] (fun x i => ∃ k : Nat, k ≤ l.length ∧ i = .int .i64 k ∧ x = .int .u64 (valD (l.take k) : Nat)) (fun _ i => l.length - (intOf i).toNat)
        case atStart => exact ⟨0, by omega, rfl, rfl⟩
        case round =>
          obtain ⟨k, hk, rfl, rfl⟩ := hrel
          clear h1 h2
          by_cases hlt : k < l.length
          · obtain ⟨b, hlk⟩ : ∃ b : UInt8, l[k] = b := ⟨_, rfl⟩
            have hidx : (⟨l.toArray⟩ : ByteArray)[k]'(show k < (⟨l.toArray⟩ : ByteArray).size from hlt) = b := hlk
            have hd := dig_at hlt HALL.out
            have hst := valD_step hlt
            have hb256 := b.toNat_lt
            have hc := refValue b.toNat w hb256
            rw [show UInt8.ofNat b.toNat = b from by simp] at hc
            rw [hlk] at hd hst
            rw [hexV_digV b hd] at hc
            have hv := digV_lt b hd
            have hle := valD_take_le l (k + 1)
            rw [hst] at hle
            generalize valD (l.take k) = x at *
            generalize digV b = d at *
            have HS := Lib.hid hst
            have HV := Lib.hid hc
            have hx : x * 10 + d ≤ 18446744073709551615 := by omega
            clear hst hlk hc hle hd
            go_wp2_with fail
            refine HV.out.mono ?_
            rintro e w1 ⟨rfl, rfl⟩
            go_wp2_with fail
            exact ⟨⟨k + 1, by omega, by go_num, by rw [HS.out]; go_num⟩, by simp [intOf]; omega⟩
          · obtain rfl : k = l.length := by omega
            have ht : l.take l.length = l := List.take_of_length_le (Nat.le_refl _)
            rw [ht]
            clear ht
            go_wp2_with fail
            go_ret2
            exact ⟨rfl, rfl⟩
  · have hp' : plainS l = false := by simpa using hp
    have hc := HP.out
    rw [hp'] at hc
    have HC := Lib.hid hc
    have HR2 : Hid (r = (0, 3)) := by rw [← HR.out, if_pos hp']; exact rfl
    clear hc hp hp' HP HR
    go_enter Tryz.func65, Tryz.ntmps65
    go_wp2_with fail
    refine HC.out.mono ?_
    rintro e w1 ⟨rfl, rfl⟩
    go_wp2_with fail
    go_ret2
    rw [HR2.out]
    exact ⟨rfl, rfl⟩

end Go.Proofs.YtladfdpcdjjifaaGreatDoor

/- Package nums: Int, and the document's Int. -/
namespace Go.Proofs.YtladfdpcdjjifaaGreatDoor
open Go.RowKit

/-- What Int answers. -/
def intD (l : List UInt8) (most : Int) : Nat × Int := if (readD l).2 ≠ 0 then (0, (readD l).2) else if most < 0 ∨ most < (readD l).1 then (0, 5) else ((readD l).1, 0)
theorem readD_lt (l : List UInt8) : (readD l).1 ≤ 18446744073709551615 := by
  unfold readD; split
  · exact Nat.zero_le _
  · split
    · exact Nat.zero_le _
    · show valD l ≤ _; omega
theorem readD_code (l : List UInt8) : (readD l).2 = 0 ∨ (readD l).2 = 3 ∨ (readD l).2 = 5 := by
  unfold readD; (repeat' split) <;> simp

end Go.Proofs.YtladfdpcdjjifaaGreatDoor

/- Package nums: Print, and the document's Print. -/
namespace Go.Proofs.YtladfdpcdjjifaaGreatDoor
open Go.RowKit Go.Sort

abbrev U8 : UInt8 → Value := fun (b : UInt8) => Value.int .u8 (b.toNat : Int)

theorem decN_digits : ∀ (f x : Nat), x < 10 ^ f → 0 < f → decN f x = Lib.decDigits x
  | 0, _, _, h => absurd h (by omega)
  | f + 1, x, hx, _ => by
    unfold decN Lib.decDigits
    by_cases h : x < 10
    · simp [h, digB]
    · have hf : 0 < f := by
        rcases f with _ | f
        · simp at hx; omega
        · omega
      rw [if_neg h, dif_neg h, decN_digits f (x / 10) (by rw [Nat.pow_succ] at hx; omega) hf]
      rfl
theorem dec_digits (x : Nat) (hx : x < 18446744073709551616) : Lib.decDigits x = dec x := (decN_digits 20 x (by omega) (by omega)).symm

theorem putRow_kept (w : World) (o : Obj) (dk : Array UInt8) (k : Nat) : Kept [] w ((putRow U8 (w.alloc o) w.heap.size 0 dk).drewN k) := by
  refine Kept.drewN (G := []) ?_ k
  have hk : Kept [] w (w.alloc o) := (Kept.refl _ _).alloc o
  refine ⟨hk.os, hk.tape, hk.output, ?_, fun j hj hn => ?_⟩
  · simp
  · have hne : j ≠ w.heap.size := by omega
    refine Eq.trans ?_ (hk.block j hj hn)
    simp only [putRow, mapBlock, Array.getElem?_modify]
    rw [if_neg (fun h => hne h.symm)]

theorem holds_zero0 (w : World) (T : TypeId) (nd : Nat) (hs : nd ≤ 24) : Holds U8 (w.alloc (.cells Lib.zeros24 T)) w.heap.size 0 (Array.replicate nd (0 : UInt8)) := fun j hj => by
  have hj' : j < nd := by simpa using hj
  refine ⟨?_, World.frozen?_alloc_new _ _ _ _⟩
  rw [World.cell?_alloc_new, Lib.zeros24_at _ (by omega), getElem!_pos _ j hj]
  simp

/-- The table of powers of ten lies. -/
abbrev HasPow (w : World) : Prop := Lib.TabIs Tryz.prog w "internal/strconv.uint64pow10" .u64 Lib.pow10Tab
theorem HasPow.old {w w' : World} (h : HasPow w) (hk : Kept [] w w') : HasPow w' := by
  unfold HasPow Lib.TabIs World.var? at *
  cases hg : Tryz.prog.globalNamed "internal/strconv.uint64pow10" with
  | none => simp [hg] at h
  | some g =>
    simp only [hg, Option.bind_some] at h ⊢
    have hlt : g < w.heap.size := by
      rcases Nat.lt_or_ge g w.heap.size with h' | h'
      · exact h'
      · rw [Array.getElem?_eq_none h'] at h; simp at h
    rw [hk.block g hlt (by simp)]
    exact h

set_option maxHeartbeats 1600000 in
set_option maxRecDepth 100000 in
theorem formatUint (u : Nat) (w : World) (hu64 : u < 18446744073709551616) (htab : HasPow w) :
    Calls Tryz.prog 96 #[.int .u64 u, .int .i64 10] w fun e w' => e = .returned (strV (Lib.decDigits u)) ∧ Kept [] w w' := by
  by_cases hs : u < 100
  · go_enter Tryz.func96, Tryz.ntmps96
    go_wp2_with fail
    refine (Tryz.internal_strconv_small u hs _).mono ?_
    rintro e w' ⟨rfl, rfl⟩
    go_wp2_with fail
    go_ret
    exact ⟨rfl, Kept.refl _ _⟩
  · have hu1 : 1 ≤ u := by omega
    have hnd20 : Lib.nDigits u ≤ 20 := by have := Lib.numDigits_eq u hu1 hu64; split at this <;> omega
    have hb3 : Lib.nDigits u ≤ 24 := by omega
    have hal : Tryz.prog.arrayLen 122 = 24 := by simp [Program.arrayLen, Tryz.underlying122]
    have hsl1 : ∀ W, (Instr.sliceAt 122 (.pointer (some ⟨w.heap.size, 0, none⟩)) none (some (.int .i64 (Lib.nDigits u : Int))) none).run Tryz.prog W = .ok (.slice (some ⟨w.heap.size, 0, none⟩) (Lib.nDigits u) 24) W := fun W => by
      rw [run_sliceAt_array_h W 122 ⟨w.heap.size, 0, none⟩ (by simp [Program.arrayLen, Program.elem, Tryz.underlying122]) .i64 (Lib.nDigits u : Int) (by omega) (by rw [hal]; omega)]
      go_simp
    have hH0 := holds_zero0 w 122 (Lib.nDigits u) (by omega)
    have hfmt := Tryz.internal_strconv_formatBase10 w.heap.size 0 24 u (Array.replicate (Lib.nDigits u) 0) (w.alloc (.cells Lib.zeros24 122)) hH0 (by rw [Array.size_replicate]; exact Lib.lt_pow_nDigits u) hu64 (by rw [Array.size_replicate]; omega)
    rw [Array.size_replicate] at hfmt
    have HH0 := Lib.hid hH0
    have HFM := Lib.hid hfmt
    clear hH0 hal hfmt
    go_enter Tryz.func96, Tryz.ntmps96
    go_wp2_with fail
    refine (Tryz.internal_strconv_numDigits u hu1 hu64 _ (Lib.tabIs_alloc htab _)).mono ?_
    rintro e w' ⟨rfl, rfl⟩
    go_wp2_with fail
    refine HFM.out.mono ?_
    rintro e w' ⟨rfl, k, v', dk, rfl, hF⟩
    have hcv : (convert 76 9 (.slice (some ⟨w.heap.size, 0, none⟩) (Lib.nDigits u) 24)).run Tryz.prog ((putRow U8 (w.alloc (.cells Lib.zeros24 122)) w.heap.size 0 dk).drewN k) = .ok (.string ⟨(Lib.decDigits u).toArray⟩) ((putRow U8 (w.alloc (.cells Lib.zeros24 122)) w.heap.size 0 dk).drewN k) := by
      have h := run_convert_bytes_back (P := Tryz.prog) ((putRow U8 (w.alloc (.cells Lib.zeros24 122)) w.heap.size 0 dk).drewN k) 76 9 5 ⟨w.heap.size, 0, none⟩ 24 (Lib.decDigits u) Tryz.underlying76 Tryz.underlying5 Tryz.underlying9 (fun j hj => by
        rw [Lib.row_is_numeral hF j hj, Lib.add_plain, World.cell?_drewN]
        exact cell?_putRow U8 _ w.heap.size 0 _ dk HH0.out (by rw [hF.size, Array.size_replicate]) j (by rw [hF.size]; rw [Lib.decDigits_length] at hj; exact hj))
      rw [Lib.decDigits_length] at h
      exact h
    go_wp2
    go_ret
    exact ⟨rfl, putRow_kept _ _ _ _⟩

set_option maxHeartbeats 800000 in
theorem print_any (u : Nat) (w : World) (hu64 : u < 18446744073709551616) (htab : HasPow w) :
    Calls Tryz.prog 47 #[.int .u64 u] w fun e w' => e = .returned (strV (dec u)) ∧ Kept [] w w' := by
  have hc := formatUint u w hu64 htab
  rw [dec_digits u hu64] at hc
  have HC := Lib.hid hc
  clear hc
  go_enter Tryz.func47, Tryz.ntmps47
  go_wp2_with (first | (go_at_call 74; go_in) | fail)
  refine HC.out.mono ?_
  rintro e w1 ⟨rfl, hk1⟩
  go_wp2_with fail
  go_ret
  exact ⟨rfl, hk1⟩

theorem digB_hexB (d : Nat) (h : d < 10) : hexB d = digB d := by simp [hexB, h, digB]
/-- A number's digits but the last one. -/
def decPre (x : Nat) : List UInt8 := if x < 10 then [] else Lib.decDigits (x / 10)
theorem decDigits_step (x : Nat) : Lib.decDigits x = decPre x ++ [digB (x % 10)] := by
  unfold decPre
  rw [Lib.decDigits]
  by_cases h : x < 10
  · rw [if_pos h]; simp [h, digB, Nat.mod_eq_of_lt h]
  · rw [if_neg h, dif_neg h]; rfl
theorem decDigits_len (x : Nat) (hx : x < 18446744073709551616) : (Lib.decDigits x).length ≤ 20 := by
  rw [Lib.decDigits_length]
  by_cases h0 : x = 0
  · subst h0; simp [Lib.nDigits]
  · have := Lib.numDigits_eq x (by omega) hx
    split at this <;> omega

end Go.Proofs.YtladfdpcdjjifaaGreatDoor

