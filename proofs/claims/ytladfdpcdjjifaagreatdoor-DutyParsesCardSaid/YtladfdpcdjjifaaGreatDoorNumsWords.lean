/- Package nums: words; the document's words, Join and Same. -/
import Derived.Test.YtladfdpcdjjifaaGreatDoorNumsH
namespace Go.Proofs.YtladfdpcdjjifaaGreatDoor
open Go.RowKit

theorem Tryz.info9 : (Tryz.prog.info? 9).map (fun i => (i.zero, i.size, i.bytes)) = some (some (.string ByteArray.empty), 1, 16) := by kernel_rfl

/-- The library's variable MaxLen holds some number. -/
def HasMax (w : World) : Prop := ∃ m, w.cell? ⟨1, 0, none⟩ = some (.int .i64 m)
theorem HasMax.old {w w' : World} (h : HasMax w) (hk : Kept [] w w') : HasMax w' := by
  obtain ⟨m, hm⟩ := h
  exact ⟨m, hk.cell_some hm (by simp)⟩

theorem S_one (l : List (List UInt8)) : ∀ u ∈ l.map strV, u.oneCell' = true := by
  intro u hu
  obtain ⟨b, _, rfl⟩ := List.mem_map.1 hu
  rfl

/-- A slice of texts that was made after w. -/
def FreshS (w w' : World) (l : List (List UInt8)) (A : Option Addr) (n c : Nat) : Prop :=
  w'.ownsRow 0 9 1 (.slice A n c) n (l.map strV) ∧ Kept [] w w' ∧ ∀ k, k ∈ fp (.slice A n c) → w.heap.size ≤ k

theorem map_string (L : List ByteArray) : L.map Value.string = (L.map (·.data.toList)).map strV := by
  rw [List.map_map]; apply List.map_congr_left; intro p _; rfl

/-- strings.Split(s, " "). -/
theorem split_any (l : List UInt8) (w : World) (hl : l.length < 4294967281) (hM : HasMax w) :
    Calls Tryz.prog 8 #[strV l, strV [32]] w fun e w' => e = .returned (.slice (some ⟨w.heap.size, 0, none⟩) (Lib.splitK [32] 0 (Lib.count l [32]) l).length (Lib.splitK [32] 0 (Lib.count l [32]) l).length) ∧
      w' = w.alloc (.cells ((Lib.splitK [32] 0 (Lib.count l [32]) l).map strV).toArray 9) := by
  obtain ⟨m, hm⟩ := hM
  refine (Tryz.strings_Split ⟨l.toArray⟩ ⟨#[32]⟩ m w hl hm (by decide)).mono fun e w' ⟨h1, h2⟩ => ?_
  have hd := Lib.splitB_data ⟨#[32]⟩ 0 (Lib.count l [32]) ⟨l.toArray⟩
  have hlen := Lib.splitB_all ⟨#[32]⟩ (by decide) 0 _ ⟨l.toArray⟩ rfl
  have hcB : Lib.countB ⟨l.toArray⟩ ⟨#[32]⟩ = Lib.count l [32] := rfl
  rw [hcB] at h1 h2 hlen
  have hl2 : (Lib.splitK [32] 0 (Lib.count l [32]) l).length = Lib.count l [32] + 1 := by
    have := congrArg List.length hd
    rw [List.length_map, hlen] at this
    exact this.symm
  refine ⟨by rw [h1, hl2], ?_⟩
  rw [h2, map_string]
  have e2 : (Lib.splitB ⟨#[32]⟩ 0 (Lib.count l [32]) ⟨l.toArray⟩).map (·.data.toList) = Lib.splitK [32] 0 (Lib.count l [32]) l := hd
  rw [e2]

set_option maxHeartbeats 800000 in
theorem words_any (l : List UInt8) (w : World) (hl : l.length ≤ 100000) (hM : HasMax w) :
    Calls Tryz.prog 11 #[strV l] w fun e w' => ∃ A c, e = .returned (.slice A (words l).length c) ∧ FreshS w w' (words l) A (words l).length c := by
  have HS := Lib.hid (split_any l w (by omega) hM)
  have hw := words_of_split l.length l (Nat.le_refl _)
  have hcl : (Lib.splitK [32] 0 (Lib.count l [32]) l).length ≤ 100002 := by
    have h1 := Lib.splitB_length_le ⟨#[32]⟩ 0 (Lib.count l [32]) ⟨l.toArray⟩
    have h2 := congrArg List.length (Lib.splitB_data ⟨#[32]⟩ 0 (Lib.count l [32]) ⟨l.toArray⟩)
    rw [List.length_map] at h2
    have h3 := Lib.count_le l [32]
    have h4 : (Lib.splitK [32] 0 (Lib.count l [32]) l).length = (Lib.splitB ⟨#[32]⟩ 0 (Lib.count l [32]) ⟨l.toArray⟩).length := h2.symm
    omega
  generalize Lib.splitK [32] 0 (Lib.count l [32]) l = ps at *
  have HW := Lib.hid hw
  clear hw hM
  go_enter Tryz.func11, Tryz.ntmps11
  go_wp2_with fail
  refine HS.out.mono ?_
  rintro e w1 ⟨rfl, rfl⟩
  have hB := Blk.new w 9 (ps.map strV).toArray
  have hk1 : Kept [] w (w.alloc (.cells (ps.map strV).toArray 9)) := (Kept.refl _ _).alloc _
  generalize w.alloc (.cells (ps.map strV).toArray 9) = w1 at *
  have HB := Lib.hid hB
  clear hB
  go_wp2_with fail
  go_loopw [3, 9] (fun ov iv wr => ∃ (k : Nat) (A : Option Addr) (n c : Nat), k ≤ ps.length ∧ iv = .int .i64 k ∧ ov = .slice A n c ∧ n ≤ k ∧ Blk wr w.heap.size 9 (ps.map strV).toArray ∧ FreshS w wr ((ps.take k).filter (fun w => !w.isEmpty)) A n c ∧ w.heap.size ∉ fp (.slice A n c)) (fun _ i _ => ps.length - (intOf i).toNat)
  case atStart => exact ⟨0, none, 0, 0, by omega, rfl, rfl, by omega, HB.out, ⟨World.ownsRow_nil _ _ _ _, hk1, by simp [fp, Value.ownBlock]⟩, by simp [fp, Value.ownBlock]⟩
  case round =>
    obtain ⟨k, A, n, c, hk, rfl, rfl, hnk, hblk, hfr, hap⟩ := hrel
    have HK := Lib.hid hblk
    have HF := Lib.hid hfr
    clear hblk hfr
    by_cases hlt : k < ps.length
    · obtain ⟨p, hp⟩ : ∃ p, ps[k] = p := ⟨_, rfl⟩
      have hc : wr.cell? ⟨w.heap.size, k, none⟩ = some (strV p) := by
        rw [HK.out.cell]; simp [List.getElem?_eq_getElem hlt, hp]
      have HP := Lib.hid hp
      clear hp
      have htk : ps.take (k + 1) = ps.take k ++ [p] := by rw [List.take_succ_eq_append_getElem hlt, HP.out]
      by_cases he : p.isEmpty = true
      · have he2 : (!p.isEmpty) = false := by simp [he]
        have HT : Hid ((ps.take (k + 1)).filter (fun w => !w.isEmpty) = (ps.take k).filter (fun w => !w.isEmpty)) := by simp [Hid, htk, List.filter_append, he]
        clear htk he
        go_wp2_with fail
        go_roundw
        case rel => exact ⟨k + 1, A, n, c, by omega, by go_num, rfl, by omega, HK.out, by rw [HT.out]; exact HF.out, hap⟩
        case measure => simp [intOf]; omega
      · have he2 : (!p.isEmpty) = true := by simpa using he
        have HT : Hid (((ps.take (k + 1)).filter (fun w => !w.isEmpty)).map strV = ((ps.take k).filter (fun w => !w.isEmpty)).map strV ++ [strV p]) := by simp [Hid, htk, List.filter_append, he]
        clear htk he
        go_wp2_with (at_builtin; go_must (refine wpList_append_any _ rfl _ _ _ rfl 9 (.string ByteArray.empty) 1 16 Tryz.underlying34 Tryz.info9 rfl (by omega) (.slice A n c) n (((ps.take k).filter (fun w => !w.isEmpty)).map strV) rfl (HF.out.1.alloc _) (some ⟨wr.heap.size, 0, none⟩) 1 1 [strV p] rfl (reads_one _ _ _) (by simp; rfl) (by simp only [maxLen]; omega) (by omega) ?_); intro A2 c2 w2 happ; have HA := Lib.hid happ; clear happ)
        go_roundw
        case rel =>
          have happ := HA.out
          have hF := HF.out
          have hkb : Kept (fp (.slice A n c)) wr w2 := (((Kept.refl _ _).alloc _).trans happ.2.1)
          refine ⟨k + 1, A2, n + 1, c2, by omega, by go_num, rfl, by omega, HK.out.kept hkb hap, ⟨?_, ?_, ?_⟩, ?_⟩
          · rw [HT.out]; exact happ.1
          · exact hF.2.1.trans' hkb fun q hq => .inr (hF.2.2 q hq)
          · intro q hq
            have := hF.2.1.size
            rcases happ.2.2 q hq with h | h
            · exact hF.2.2 q h
            · simp at h; omega
          · intro hq
            rcases happ.2.2 _ hq with h | h
            · exact hap h
            · have := HK.out.lt; simp at h; omega
        case measure => simp [intOf]; omega
    · obtain rfl : k = ps.length := by omega
      have hF := HF.out
      rw [List.take_of_length_le (Nat.le_refl _), HW.out] at hF
      have hn : n = (words l).length := by have := hF.1.1; simpa using this.symm
      subst hn
      have HF2 := Lib.hid hF
      clear hF
      go_wp2_with fail
      go_ret
      exact ⟨A, c, rfl, HF2.out⟩

end Go.Proofs.YtladfdpcdjjifaaGreatDoor
