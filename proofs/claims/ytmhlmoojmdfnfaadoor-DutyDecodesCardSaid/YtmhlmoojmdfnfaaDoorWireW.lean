/- The writer of package wire: what each of its functions does to memory. -/
import Derived.Test.YtmhlmoojmdfnfaaDoorProg
import Derived.Test.YtmhlmoojmdfnfaaDoorWirePlain
namespace Go.Proofs.YtmhlmoojmdfnfaaDoor
open Go.RowKit

theorem Tryd.info5 : (Tryd.prog.info? 5).map (fun i => (i.zero, i.size, i.bytes)) = some (some (.int .u8 0), 1, 1) := by kernel_rfl

theorem zeros_fill (x k : Nat) (h : (be x).length = k) (hk : k ≤ 8) : (zeros (.int .u8 0) (k + 1)).setIfInBounds 0 (.int .u8 k) = fillA x 0 := by
  rw [fillA_zero, h]
  unfold zeros
  rw [← B_ofNat k (by omega)]
  apply Array.ext'
  simp [List.replicate_succ]
  exact .inr rfl

set_option maxHeartbeats 400000 in
theorem number_any (x : Nat) (w : World) (hx : x < 18446744073709551616) :
    Calls Tryd.prog 147 #[.int .u64 x] w fun e w' => ∃ v, e = .returned v ∧ w'.ownsRow 0 5 1 v (encNum x).length ((encNum x).map B) ∧ Kept [] w w' ∧ ∀ k, k ∈ fp v → w.heap.size ≤ k := by
  have hx8 : x < 256 ^ 8 := by simpa using hx
  have HX := Lib.hid hx8
  clear hx8
  go_enter Tryd.func147, Tryd.ntmps147
  go_wp2
  go_loop [3, 4] (fun n y => ∃ k : Nat, k ≤ 8 ∧ n = .int .i64 k ∧ y = .int .u64 (x / 256 ^ k : Nat) ∧ (be x).length = k + (beN (8 - k) (x / 256 ^ k)).length) (fun n _ => 8 - (intOf n).toNat)
  case atStart => exact ⟨0, by omega, rfl, by simp, by simp [be]⟩
  case round =>
    obtain ⟨k, hk, rfl, rfl, hlen⟩ := hrel
    have HL := Lib.hid hlen
    clear hlen
    generalize hy : x / 256 ^ k = y at *
    have hyb : y < 18446744073709551616 := by rw [← hy]; exact Nat.lt_of_le_of_lt (Nat.div_le_self _ _) hx
    have HY := Lib.hid hy
    clear hy
    by_cases h0 : 0 < y
    · go_wp2
      go_round
      case rel =>
        have hs := count_step HX.out (k := k) (by rw [HY.out]; exact h0) (by rw [HY.out]; exact HL.out) hk
        refine ⟨k + 1, by omega, by go_num, ?_, hs.2⟩
        rw [Nat.pow_succ, ← Nat.div_div_eq_div_mul, HY.out]; go_num
      case measure =>
        have hs := count_step HX.out (k := k) (by rw [HY.out]; exact h0) (by rw [HY.out]; exact HL.out) hk
        simp [intOf]; omega
    · have hy0 : y = 0 := by omega
      subst hy0
      have HK : Hid ((be x).length = k) := by have := HL.out; rw [beN_zero] at this; exact this
      clear HL HY h0 hyb
      have hmk := run_make_n (P := Tryd.prog) 32 5 (.int .u8 0) 1 Tryd.underlying32 Tryd.info5 rfl ((k : Int) + 1) (k + 1) (by omega) (by omega) (by omega)
      have hz0 := zeros_get (.int .u8 0) (k + 1) 0 (by omega)
      have hzs := zeros_size (.int .u8 0) (k + 1)
      go_wp2
      go_loopw [0, 6] (fun xv iv wr => ∃ j : Nat, j ≤ k ∧ xv = .int .u64 (x / 256 ^ j : Nat) ∧ iv = .int .i64 ((k - j : Nat) : Int) ∧ Blk wr w.heap.size 5 (fillA x j) ∧ Kept [] w wr) (fun _ i _ => (intOf i).toNat)
      case atStart =>
        refine ⟨0, by omega, by simp, by simp, ?_, (Kept.refl _ _).alloc _⟩
        rw [← zeros_fill x k HK.out hk]; exact Blk.new _ _ _
      case round =>
        obtain ⟨j, hj, rfl, rfl, hblk, hkp⟩ := hrel
        have hcl := hblk.cell
        have hfr := hblk.frozen
        by_cases hlt : j < k
        · obtain ⟨u, hc1⟩ := hblk.cell_lt (i := k - j) (by rw [fillA_size x j (by rw [HK.out]; omega), HK.out]; omega)
          have hfr1 := hfr (k - j)
          have HB := Lib.hid hblk
          clear hcl hfr hblk
          generalize hd : k - j = d at *
          have HD := Lib.hid hd
          have hd1 : 1 ≤ d := by omega
          have hd2 : d ≤ 8 := by omega
          have hd3 : d < k + 1 := by omega
          clear hd
          generalize hy : x / 256 ^ j = y at *
          have hyb : y < 18446744073709551616 := by rw [← hy]; exact Nat.lt_of_le_of_lt (Nat.div_le_self _ _) hx
          have HY := Lib.hid hy
          clear hy hmk hz0 hzs
          go_wp2
          go_roundw
          case rel =>
            refine ⟨j + 1, by omega, ?_, ?_, ?_, hkp.setCell (.inr (Nat.le_refl _)) _⟩
            · rw [Nat.pow_succ, ← Nat.div_div_eq_div_mul, HY.out]; go_num
            · rw [← HD.out]; congr 1; omega
            · rw [← fillA_step x j HX.out (by rw [HK.out]; exact hlt), HK.out, HD.out, HY.out, B_ofNat _ (Nat.mod_lt _ (by omega))]
              exact HB.out.set _ _
          case measure => simp [intOf]; omega
        · obtain rfl : j = k := by omega
          clear hcl hfr
          have HB := Lib.hid hblk
          clear hblk
          go_wp2
          go_ret
          have hb := HB.out
          refine ⟨_, rfl, ?_, hkp, by simp [fp, Value.ownBlock]⟩
          have hl : (encNum x).length = j + 1 := by rw [encNum_len, HK.out]
          have hb2 : Blk wr w.heap.size 5 ((encNum x).map B).toArray := by rw [← fillA_done x, HK.out]; exact hb
          have := own_of_blk hb2 (xs := (encNum x).map B) rfl (by simp only [List.length_map, hl, maxLen]; omega)
          simpa [hl] using this

/-- A writer: the block of its struct, its slice, what is wrong, what was written, the room that is left. -/
def IsW (w : World) (g : Nat) (A : Option Addr) (c : Nat) (err : Int) (bs : List UInt8) (room : Nat) : Prop :=
  Blk w g 143 #[.int .i64 err, .slice A bs.length c, .int .i64 room] ∧ w.ownsRow 0 5 1 (.slice A bs.length c) bs.length (bs.map B)

/-- What a write of the bytes l makes of a writer's state. -/
def putS (s : Int × List UInt8 × Nat) (l : List UInt8) : Int × List UInt8 × Nat :=
  if s.1 ≠ 0 then s else if s.2.2 < l.length then (4, s.2) else (0, s.2.1 ++ l, s.2.2 - l.length)

/-- The blocks of a writer. -/
def fpW (g : Nat) (A : Option Addr) : List Nat := g :: (A.map (·.block)).toList

/-- The writer at g with its slice at A is in w' one with state s; nothing else has turned. -/
def WGoes (w : World) (g : Nat) (A : Option Addr) (s : Int × List UInt8 × Nat) (w' : World) : Prop :=
  ∃ A' c', IsW w' g A' c' s.1 s.2.1 s.2.2 ∧ Kept (fpW g A) w w' ∧ ∀ k, k ∈ fpW g A' → k ∈ fpW g A ∨ w.heap.size ≤ k

theorem IsW.kept {w w' : World} {g : Nat} {A : Option Addr} {c : Nat} {err : Int} {bs : List UInt8} {room : Nat} {G : List Nat} (h : IsW w g A c err bs room) (hk : Kept G w w') (hg : ∀ k, k ∈ fpW g A → k ∉ G) : IsW w' g A c err bs room :=
  ⟨h.1.kept hk (hg g (by simp [fpW])), own_kept h.2 hk fun k hm => hg k (by rw [fp_slice] at hm; simp only [fpW, List.mem_cons]; exact .inr hm)⟩

set_option maxHeartbeats 400000 in
theorem well_any (a : Addr) (n : Int) (w : World) (hc : w.cell? a = some (.int .i64 n)) :
    Calls Tryd.prog 107 #[.pointer (some a)] w fun e w' => e = .returned (.bool (n == 0)) ∧ w = w' := by
  go_enter Tryd.func107, Tryd.ntmps107
  go_wp2
  go_ret
  exact ⟨rfl, rfl⟩

set_option maxHeartbeats 400000 in
theorem fail_any (b o : Nat) (n e0 : Int) (w : World) (hc : w.cell? ⟨b, o, none⟩ = some (.int .i64 n)) (hf : w.frozen? ⟨b, o, none⟩ = false) :
    Calls Tryd.prog 130 #[.pointer (some ⟨b, o, none⟩), .int .i64 e0] w fun e w' => e = .returned (.tuple #[]) ∧ (if n == 0 then w.setCell ⟨b, o, none⟩ (.int .i64 e0) else w) = w' := by
  go_enter Tryd.func130, Tryd.ntmps130
  go_wp2
  all_goals (go_end0; exact ⟨rfl, rfl⟩)

set_option maxHeartbeats 400000 in
theorem put_any (g : Nat) (A0 : Option Addr) (c0 : Nat) (err : Int) (bs : List UInt8) (room : Nat) (A : Option Addr) (m c : Nat) (l : List UInt8) (w : World) (hW : IsW w g A0 c0 err bs room)
    (hr : Reads w 1 A m (l.map B)) (hb : bs.length + l.length ≤ 1000000000) (hroom : room ≤ 9223372036854775807) :
    Calls Tryd.prog 119 #[.pointer (some ⟨g, 0, none⟩), .slice A m c] w fun e w' => e = .returned (.tuple #[]) ∧ WGoes w g A0 (putS (err, bs, room) l) w' := by
  have hm : m = l.length := by have := hr.1; simpa using this.symm
  subst hm
  have HW := Lib.hid hW
  obtain ⟨hB, hown⟩ := hW
  have hc := hB.cell
  have hf := hB.frozen
  have hne : g ∉ fp (.slice A0 bs.length c0) := fun hk => own_blk_ne hown hB (by decide) (mem_fp.1 hk)
  have HB := Lib.hid hB
  have HO := Lib.hid hown
  have HR := Lib.hid hr
  clear hB hown hr
  have hc0 : w.cell? ⟨g, 0, none⟩ = some (.int .i64 err) := by rw [hc]; rfl
  have hf0 : w.frozen? ⟨g, 0, none⟩ = false := hf 0
  by_cases h0 : err = 0
  · subst h0
    by_cases h1 : room < l.length
    · go_enter Tryd.func119, Tryd.ntmps119
      go_wp2_with (first | (go_at_call 107; refine (well_any _ _ _ hc0).mono ?_; rintro e w' ⟨rfl, rfl⟩) | (go_at_call 130; refine (fail_any _ _ _ _ _ hc0 hf0).mono ?_; rintro e w' ⟨rfl, rfl⟩))
      ((try simp only [Exit.inBlock, Exit.then]); refine bodyPost_ret (results_none rfl _ _ _) rfl ?_)
      refine ⟨rfl, A0, c0, ?_, (Kept.refl _ _).setCell (.inl (by simp [fpW])) _, fun k hk => .inl hk⟩
      rw [show putS (0, bs, room) l = (4, bs, room) from by simp [putS, h1]]
      exact ⟨HB.out.set 0 _, own_kept HO.out ((Kept.refl [g] w).setCell (.inl (by simp)) _) (fun k hk => by simp; rintro rfl; exact hne hk)⟩
    · go_enter Tryd.func119, Tryd.ntmps119
      go_wp2_with (first | (go_at_call 107; refine (well_any _ _ _ hc0).mono ?_; rintro e w' ⟨rfl, rfl⟩) | (at_builtin; go_must (refine wpList_append_any _ rfl _ _ _ rfl 5 (.int .u8 0) 1 1 Tryd.underlying32 Tryd.info5 rfl (by omega) (.slice A0 bs.length c0) bs.length (bs.map B) rfl HO.out A l.length c (l.map B) rfl HR.out (B_one l) (by simp only [maxLen]; omega) (by omega) ?_); intro A' c' w' happ; have hB' := HB.out.kept happ.2.1 hne; have hc' := hB'.cell; have hf' := hB'.frozen; have HB' := Lib.hid hB'; clear hB'))
      go_end0
      have HB2 := (HB'.out.set 1 (.slice A' (bs.length + l.length) c')).set 2 (.int .i64 ((room : Int) - (l.length : Int)))
      have hk2 : Kept (g :: fp (.slice A0 bs.length c0)) w ((w'.setCell ⟨g, 1, none⟩ (.slice A' (bs.length + l.length) c')).setCell ⟨g, 2, none⟩ (.int .i64 ((room : Int) - (l.length : Int)))) :=
        ((happ.2.1.mono fun k hk => List.mem_cons_of_mem _ hk).setCell (.inl (by simp)) _).setCell (.inl (by simp)) _
      have hgn : g ∉ fp (.slice A' (bs.length + l.length) c') := fun hk => own_blk_ne happ.1 HB'.out (by decide) (mem_fp.1 hk)
      have ho2 := own_kept happ.1 (((Kept.refl [g] w').setCell (p := ⟨g, 1, none⟩) (.inl (by simp)) (.slice A' (bs.length + l.length) c')).setCell (p := ⟨g, 2, none⟩) (.inl (by simp)) (.int .i64 ((room : Int) - (l.length : Int)))) (fun k hk => by simp; rintro rfl; exact hgn hk)
      refine ⟨rfl, A', c', ?_, by simpa [fpW, fp_slice] using hk2, ?_⟩
      · rw [show putS (0, bs, room) l = (0, bs ++ l, room - l.length) from by simp [putS, h1]]
        refine ⟨?_, by simpa using ho2⟩
        have e1 : ((room - l.length : Nat) : Int) = (room : Int) - (l.length : Int) := by omega
        simp only [List.length_append, e1]
        exact HB2
      · intro k hk
        simp only [fpW, List.mem_cons] at hk ⊢
        rcases hk with rfl | hk
        · exact .inl (.inl rfl)
        · have := happ.2.2 k (by rw [fp_slice]; exact hk)
          rw [fp_slice] at this
          rcases this with h | h
          · exact .inl (.inr h)
          · exact .inr h
  · have h0b : (err == 0) = false := beq_eq_false_iff_ne.2 h0
    go_enter Tryd.func119, Tryd.ntmps119
    go_wp2_with (first | (go_at_call 107; refine (well_any _ _ _ hc0).mono ?_; rintro e w' ⟨rfl, rfl⟩))
    ((try simp only [Exit.inBlock, Exit.then]); refine bodyPost_ret (results_none rfl _ _ _) rfl ?_)
    refine ⟨rfl, A0, c0, ?_, Kept.refl _ _, fun k hk => .inl hk⟩
    rw [show putS (err, bs, room) l = (err, bs, room) from by simp [putS, h0]]
    exact HW.out

theorem fpW_lt {w : World} {g : Nat} {A : Option Addr} {c : Nat} {err : Int} {bs : List UInt8} {room : Nat} (h : IsW w g A c err bs room) : ∀ k, k ∈ fpW g A → k < w.heap.size := by
  intro k hk
  simp only [fpW, List.mem_cons] at hk
  rcases hk with rfl | hk
  · exact h.1.lt
  · exact own_lt h.2 k (by rw [fp_slice]; exact hk)

/-- The same over a world in which something new was made first. -/
theorem WGoes.ahead {w w1 w' : World} {g : Nat} {A : Option Addr} {s : Int × List UInt8 × Nat} (h : WGoes w1 g A s w') (hk : Kept [] w w1) : WGoes w g A s w' := by
  obtain ⟨A', c', h1, h2, h3⟩ := h
  refine ⟨A', c', h1, (hk.mono (by simp)).trans h2, fun k hm => ?_⟩
  have := hk.size
  rcases h3 k hm with h | h
  · exact .inl h
  · exact .inr (by omega)
theorem WGoes.next {w w1 w' : World} {g : Nat} {A : Option Addr} {s s' : Int × List UInt8 × Nat} (h : WGoes w g A s w1) (h' : ∀ A' c', IsW w1 g A' c' s.1 s.2.1 s.2.2 → WGoes w1 g A' s' w') : WGoes w g A s' w' := by
  obtain ⟨A', c', h1, h2, h3⟩ := h
  obtain ⟨A2, c2, k1, k2, k3⟩ := h' A' c' h1
  have := h2.size
  refine ⟨A2, c2, k1, h2.trans' k2 h3, fun k hm => ?_⟩
  rcases k3 k hm with h | h
  · exact h3 k h
  · exact .inr (by omega)

set_option maxHeartbeats 400000 in
theorem wnew_any (most : Int) (w : World) :
    Calls Tryd.prog 53 #[.int .i64 most] w fun e w' => e = .returned (.pointer (some ⟨w.heap.size, 0, none⟩)) ∧ IsW w' w.heap.size none 0 0 [] (max most 0).toNat ∧ Kept [] w w' := by
  go_enter Tryd.func53, Tryd.ntmps53
  go_wp2
  all_goals
    go_ret
    refine ⟨rfl, ⟨?_, World.ownsRow_nil _ _ _ _⟩, (Kept.refl _ _).alloc _⟩
    refine (congrArg (Blk _ _ _) ?_).mp (Blk.new _ _ _)
    simp only [List.length_nil]
    congr 1
    simp only [List.cons.injEq, Value.int.injEq, true_and, and_true]
    omega

set_option maxHeartbeats 400000 in
theorem wbyte_any (g : Nat) (A0 : Option Addr) (c0 : Nat) (err : Int) (bs : List UInt8) (room : Nat) (n : Int) (w : World) (hW : IsW w g A0 c0 err bs room) (h0 : 0 ≤ n) (h1 : n < 256)
    (hb : bs.length ≤ 999999999) (hroom : room ≤ 9223372036854775807) :
    Calls Tryd.prog 66 #[.pointer (some ⟨g, 0, none⟩), .int .u8 n] w fun e w' => e = .returned (.tuple #[]) ∧ WGoes w g A0 (putS (err, bs, room) [UInt8.ofNat n.toNat]) w' := by
  have hv : (.int .u8 n : Value) = B (UInt8.ofNat n.toNat) := by rw [B_ofNat _ (by omega)]; congr 1; omega
  have HW := Lib.hid hW
  have HV := Lib.hid hv
  clear hW hv
  go_enter Tryd.func66, Tryd.ntmps66
  go_wp2_with fail
  have hW1 : IsW (w.alloc (.cells #[.int .u8 n] 5)) g A0 c0 err bs room := HW.out.kept ((Kept.refl [] w).alloc _) (by simp)
  refine (put_any g A0 c0 err bs room _ 1 1 [UInt8.ofNat n.toNat] _ hW1 ?_ (by simp; omega) hroom).mono ?_
  · have := reads_one w 5 (.int .u8 n)
    rw [HV.out] at this ⊢
    exact this
  · rintro e w' ⟨rfl, hg⟩
    go_wp2_with fail
    go_end0
    exact ⟨rfl, hg.ahead ((Kept.refl _ _).alloc _)⟩

end Go.Proofs.YtmhlmoojmdfnfaaDoor
