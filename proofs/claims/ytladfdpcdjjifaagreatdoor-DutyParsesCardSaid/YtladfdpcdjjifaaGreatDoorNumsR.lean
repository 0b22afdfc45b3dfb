/- Package nums: decimal texts. -/
import Derived.Test.YtladfdpcdjjifaaGreatDoorNumsRef
import Derived.Laws.RangeString
import Derived.Laws.RangeAny
namespace Go.Proofs.YtladfdpcdjjifaaGreatDoor
open Go.RowKit

theorem Kept.iter {G : List Nat} {w : World} (s : ByteArray) (pos : Nat) : Kept G w (w.iter s pos) := (Kept.refl _ _).alloc _

theorem all_take_succ {l : List UInt8} {k : Nat} (h : k < l.length) (ha : (l.take k).all isDig = true) (hb : isDig l[k] = true) : (l.take (k + 1)).all isDig = true := by
  rw [List.take_succ_eq_append_getElem h, List.all_append, ha]; simp [hb]
theorem not_all {l : List UInt8} {k : Nat} (h : k < l.length) (hb : isDig l[k] = false) : l.all isDig = false := by
  rw [List.all_eq_false]; exact ⟨l[k], List.getElem_mem h, by simp [hb]⟩

set_option maxHeartbeats 800000 in
theorem plain_any (l : List UInt8) (w : World) (hl : l.length ≤ 1000000000) :
    Calls Tryz.prog 80 #[strV l] w fun e w' => e = .returned (.bool (plainS l)) ∧ Kept [] w w' := by
  go_enter Tryz.func80, Tryz.ntmps80
  go_wp2_with fail
  go_loopw [4] (fun _ w' => ∃ (pos : Nat), pos ≤ l.length ∧ w' = w.iter ⟨l.toArray⟩ pos ∧ Hid ((l.take pos).all isDig = true)) (fun _ w' => l.length - w'.iterPos w.heap.size)
  case atStart => exact ⟨0, by omega, rfl, by simp [Hid]⟩
  case round =>
    obtain ⟨pos, hpos, rfl, HT⟩ := hrel
    by_cases hp : pos < l.length
    · obtain ⟨b, hb⟩ : ∃ b, l[pos] = b := ⟨_, rfl⟩
      have hsz : pos < (⟨l.toArray⟩ : ByteArray).size := hp
      have hidx : (⟨l.toArray⟩ : ByteArray)[pos]'hsz = b := hb
      by_cases hd : isDig b = true
      · have HT2 := Lib.hid (all_take_succ hp HT.out (by rw [hb]; exact hd))
        rw [isDig_iff] at hd
        obtain ⟨hd1, hd2⟩ := hd
        have hnx : ∀ ty, (Instr.next (.pointer (some ⟨w.heap.size, 0, none⟩)) true ty).run Tryz.prog (w.iter ⟨l.toArray⟩ pos) = _ := fun ty => run_next_ascii w _ pos ty hsz (by rw [hidx]; omega)
        rw [hidx] at hnx
        clear hb hidx
        go_wp2_with fail
        go_roundw
        case rel => exact ⟨pos + 1, by omega, rfl, HT2⟩
        case measure => simp; omega
      · have HF : Hid (plainS l = false) := by
          unfold plainS Hid; rw [not_all hp (by rw [hb]; simpa using hd)]; rfl
        have hd' : isDig b = false := by simpa using hd
        have hbd : b.toNat < 48 ∨ 57 < b.toNat := by simp [isDig] at hd'; omega
        clear hd hd' 
        by_cases ha : b.toNat < 128
        · have hnx : ∀ ty, (Instr.next (.pointer (some ⟨w.heap.size, 0, none⟩)) true ty).run Tryz.prog (w.iter ⟨l.toArray⟩ pos) = _ := fun ty => run_next_ascii w _ pos ty hsz (by rw [hidx]; omega)
          rw [hidx] at hnx
          clear hb hidx
          rcases hbd with hbd | hbd
          · go_wp2_with fail
            go_ret
            rw [HF.out]; exact ⟨rfl, Kept.iter _ _⟩
          · go_wp2_with fail
            go_ret
            rw [HF.out]; exact ⟨rfl, Kept.iter _ _⟩
        · have hnx : ∀ ty, (Instr.next (.pointer (some ⟨w.heap.size, 0, none⟩)) true ty).run Tryz.prog (w.iter ⟨l.toArray⟩ pos) = _ := fun ty => run_next_any w _ pos ty hsz
          have hh := decode_high _ pos hsz (by rw [hidx]; omega)
          generalize Utf8.decode ⟨l.toArray⟩ pos = dd at hnx hh
          obtain ⟨r, wd⟩ := dd
          obtain ⟨hh1, hh2⟩ := hh
          simp only at hh1 hh2 hnx
          clear hb hidx hbd
          go_wp2_with fail
          go_ret
          rw [HF.out]; exact ⟨rfl, Kept.iter _ _⟩
    · obtain rfl : pos = l.length := by omega
      have hsz : ¬ l.length < (⟨l.toArray⟩ : ByteArray).size := by show ¬ l.length < l.length; omega
      have hall := HT.out
      rw [List.take_of_length_le (Nat.le_refl _)] at hall
      clear HT
      by_cases hl0 : l = []
      · subst hl0
        have hnx : ∀ ty, (Instr.next (.pointer (some ⟨w.heap.size, 0, none⟩)) true ty).run Tryz.prog (w.iter ⟨#[]⟩ 0) = _ := fun ty => run_next_end w _ _ ty (by decide)
        clear hall
        go_wp2_with fail
        go_ret
        exact ⟨rfl, Kept.iter _ _⟩
      · have hpos0 : 0 < l.length := List.length_pos_iff.2 hl0
        have hnx : ∀ ty, (Instr.next (.pointer (some ⟨w.heap.size, 0, none⟩)) true ty).run Tryz.prog (w.iter ⟨l.toArray⟩ l.length) = _ := fun ty => run_next_end w _ _ ty hsz
        obtain ⟨b, hb⟩ : ∃ b, l[0] = b := ⟨_, rfl⟩
        have hidx : (⟨l.toArray⟩ : ByteArray)[0]'(show 0 < (⟨l.toArray⟩ : ByteArray).size from hpos0) = b := hb
        have hhd : l.headD 48 = b := by rw [← hb]; cases l with
          | nil => exact absurd rfl hl0
          | cons a t => rfl
        have hem : l.isEmpty = false := by cases l with
          | nil => exact absurd rfl hl0
          | cons a t => rfl
        have hbb : (b != 48) = (((b.toNat : Nat) : Int) != 48) := by
          by_cases e : b = 48
          · subst e; rfl
          · have : b.toNat ≠ 48 := fun e2 => e (UInt8.toNat_inj.1 (by simpa using e2))
            rw [bne_iff_ne.2 e, eq_comm, bne_iff_ne]; omega
        have HF : Hid (plainS l = (l == [48] || (((b.toNat : Nat) : Int) != 48))) := by
          unfold plainS Hid; rw [hall, hhd, hem, ← hbb]; simp
        clear hbb
        clear hall hhd hl0 hb
        by_cases hd : l = [48]
        · have hdd : (l == [48]) = true := by simpa using hd
          rw [hdd] at HF
          have HD := Lib.hid hd
          clear hd
          go_wp2_with fail
          go_ret
          rw [HF.out]
          exact ⟨rfl, Kept.iter _ _⟩
        · have hdd : (l == [48]) = false := by simpa using hd
          rw [hdd] at HF
          clear hd
          go_wp2_with fail
          go_ret
          rw [HF.out]
          exact ⟨rfl, Kept.iter _ _⟩

end Go.Proofs.YtladfdpcdjjifaaGreatDoor
