/- The walk of WireReads: the law itself. -/
import Derived.Test.YtmaiipglojpknaaWireReads
namespace Go.Proofs.Ytmaiipglojpknaa
open Go.RowKit

/-- The program's reader and the document's side by side. -/
structure SRel (w wr : World) (g : Nat) (A : Option Addr) (c : Nat) (gs : Nat) (A1 : Option Addr) (m1 c1 : Nat) (s : RS) : Prop where
  isR : IsR wr g A c s
  isD : IsD wr w.heap.size A1 m1 c1 s
  blk : Blk wr gs 44 #[.slice A1 m1 c1, .int .i64 s.1]
  kept : Kept [] w wr
  newG : w.heap.size ≤ g
  newA : ∀ ad, A = some ad → w.heap.size ≤ ad.block
  newS : w.heap.size ≤ gs
  ne : g ≠ gs
  neA : ∀ ad, A = some ad → ad.block ≠ gs

theorem leftS_rest (s : RS) : leftS s = (restS s).length := by unfold leftS restS; split <;> rfl

theorem IsR.drewN' {w : World} {g : Nat} {A : Option Addr} {c : Nat} {s : RS} (h : IsR w g A c s) (n : Nat) : IsR (w.drewN n) g A c s := h
theorem quiet_left {P : Program} {f : FuncId} {args : Array Value} {w : World} {n : Nat} {v : Value}
    (h : Calls P f args (w.drewN n) fun e w' => e = .returned v ∧ w.drewN n = w') : Calls P f args (w.drewN n) fun e w'' => e = .returned v ∧ ∃ m, w'' = w.drewN m :=
  h.mono fun _ _ ⟨he, hm⟩ => ⟨he, n, hm.symm⟩

set_option maxHeartbeats 2000000 in
theorem wireReads_any (A0 : Option Addr) (m c0 : Nat) (l0 : List UInt8) (A : Option Addr) (n c : Nat) (ts : List Th) (w : World) (hr : Reads w 1 A0 m (l0.map B)) (hmc : m ≤ c0) (hc : c0 ≤ maxLen) (hA0 : ∀ ad, A0 = some ad → ad.block < w.heap.size) (hT : Things w A ts) (hn : ts.length = n) :
    Calls Try.prog 5 #[.slice A0 m c0, .slice A n c] w fun e w' => e = .returned (.bool true) ∧ Kept [] w w' := by
  subst hn
  have hsm := hT.small
  have HT := Lib.hid hT
  clear hT
  have hm : m = l0.length := by have := hr.1; simpa using this.symm
  subst hm
  have HCM := Lib.hid hc
  unfold maxLen at hc
  obtain ⟨l, k0, hl, hlen, hk0, hcase⟩ : ∃ (l : List UInt8) (k0 : Nat), Hid (Reads w 1 A0 k0 (l.map B)) ∧ l.length ≤ 300 ∧ k0 ≤ c0 ∧ (300 < l0.length ∧ k0 = 300 ∨ l0.length ≤ 300 ∧ l0.length = k0) := by
    by_cases h : 300 < l0.length
    · refine ⟨l0.take 300, 300, ?_, by simp; omega, by omega, .inl ⟨h, rfl⟩⟩
      have := hr.upto (k := 300) (by omega)
      simpa [Hid, List.map_take] using this
    · exact ⟨l0, l0.length, hr, by omega, hmc, .inr ⟨by omega, rfl⟩⟩
  have HA0 := Lib.hid hA0
  clear hr hA0
  generalize l0.length = n0 at *
  rcases hcase with ⟨h300, hk300⟩ | ⟨h300, rfl⟩
  case' inl => have hsl := run_cut_h (P := Try.prog) 25 5 (.int .u8 0) 1 Try.underlying25 Try.info5 A0 n0 c0 .i64 300 k0 (by omega) (by omega); clear hk300
  all_goals
    go_enter Try.func5, Try.ntmps5
    go_wp2_with fail
    refine (rread_any A0 _ c0 l w hl.out (by omega)).mono ?_
    rintro e w1 ⟨g, A1, c1, rfl, hR1, hk1, hg1, hA1⟩
    have hrel : SRel w (w1.alloc (.cells #[.slice A0 _ c0, .int .i64 0] 44)) g A1 c1 w1.heap.size A0 _ c0 (0, l) := {
      isR := hR1.old ((Kept.refl _ _).alloc _)
      isD := ⟨(hl.out.old hk1).alloc _, by omega, HCM.out, HA0.out⟩
      blk := Blk.new _ _ _
      kept := hk1.alloc _
      newG := hg1
      newA := hA1
      newS := hk1.size
      ne := by have := hR1.1.lt; omega
      neA := fun ad e => by have := (hR1.2.2.2.2 ad e).2; omega }
    generalize hgs : w1.heap.size = gs at *
    have HR := Lib.hid hrel
    clear hrel hR1 hk1 hg1 hA1
    go_wp2_with fail
    clear hgs
    go_loopw [7, 8] (fun ok i wr => ∃ (k : Nat) (A2 : Option Addr) (c2 : Nat) (A3 : Option Addr) (m3 c3 : Nat) (s : RS), k ≤ 30 ∧ k ≤ ts.length ∧ i = .int .i64 k ∧ ok = .bool true ∧ SRel w wr g A2 c2 gs A3 m3 c3 s) (fun _ i _ => 30 - (intOf i).toNat)
    case atStart => exact ⟨0, _, _, _, _, _, _, by omega, by omega, rfl, rfl, HR.out⟩
    case round =>
      obtain ⟨k, A2, c2, A3, m3, c3, s, hk30, hkn, rfl, rfl, hrel⟩ := hrel
      have HS := Lib.hid hrel
      have cs := hrel.blk.cell
      have fs := hrel.blk.frozen
      have ltS := hrel.blk.lt
      clear hrel
      by_cases hlt : k < ts.length ∧ k < 30
      · obtain ⟨hl1, hl2⟩ := hlt
        obtain ⟨t, ht⟩ : ∃ t, ts[k]? = some t := ⟨_, List.getElem?_eq_getElem hl1⟩
        obtain ⟨b, o, rfl, hlt, h0, h1, h2, h3, hok⟩ := (HT.out.old HS.out.kept).at_ k t ht
        have HOK := Lib.hid hok
        clear ht hok
        have hi1 : (0 : Int) ≤ (k : Int) := by omega
        have hi2 : (k : Int) < (ts.length : Int) := by omega
        go_wp2_with fail
        have hrd : Hid (Calls Try.prog 19 #[.pointer (some ⟨g, 0, none⟩), .agg #[.slice A3 m3 c3, .int .i64 s.1], .agg #[.int .u8 t.kind, .int .u64 t.x, .slice t.A t.m t.c, .int .i64 t.most]] wr.drew fun e w' =>
            ∃ A4 m4 c4, e = .returned (.tuple #[.agg #[.slice A4 m4 c4, .int .i64 (opS t.kind t.x t.most s).1], .bool true]) ∧ IsD w' w.heap.size A4 m4 c4 (opS t.kind t.x t.most s) ∧ RGoes wr.drew g A2 (opS t.kind t.x t.most s) w') :=
          read4 g A2 c2 s w.heap.size A3 m3 c3 t.kind t.x t.A t.m t.c t.most wr.drew HS.out.isR.drew HS.out.isD.drew HS.out.newG HOK.out.kind HOK.out.x HOK.out.most0 HOK.out.most1
        go_region_with (first | (go_at_call 19; refine hrd.out.mono ?_; rintro e w5 ⟨A4, m4, c4, rfl, hD5, hgo5⟩; have hB5 : Blk w5 gs 44 #[.slice A3 m3 c3, .int .i64 s.1] := (by obtain ⟨_, _, _, hk5, _⟩ := hgo5; exact (HS.out.blk.drew).kept hk5 (by simpa using Ne.symm HS.out.ne)); have c5 := hB5.cell; have f5 := hB5.frozen; have lt5 := hB5.lt))
        all_goals
          obtain ⟨s', hs'⟩ : ∃ s', opS t.kind t.x t.most s = s' := ⟨_, rfl⟩
          rw [hs'] at hD5 hgo5 ⊢
          obtain rfl : m4 = leftS s' := by rw [leftS_rest]; exact hD5.len
          have hrel6 : ∃ A6 c6, SRel w ((w5.setCell ⟨gs, 0, none⟩ (.slice A4 (leftS s') c4)).setCell ⟨gs, 1, none⟩ (.int .i64 s'.1)) g A6 c6 gs A4 (leftS s') c4 s' := by
            obtain ⟨A6, c6, hR6, hk6, hA6⟩ := hgo5
            have hk8 : Kept [gs] w5 ((w5.setCell ⟨gs, 0, none⟩ (.slice A4 (leftS s') c4)).setCell ⟨gs, 1, none⟩ (.int .i64 s'.1)) := ((Kept.refl _ _).setCell (.inl (by simp)) _).setCell (.inl (by simp)) _
            have hA : ∀ ad, A6 = some ad → w.heap.size ≤ ad.block ∧ ad.block ≠ gs := fun ad e => by
              obtain ⟨a0, e0, b1⟩ := hA6 ad e
              rw [b1]; exact ⟨HS.out.newA a0 e0, HS.out.neA a0 e0⟩
            refine ⟨A6, c6, ?_⟩
            exact {
              isR := hR6.kept hk8 (by simpa using HS.out.ne) (fun ad e => by simpa using (hA ad e).2)
              isD := hD5.kept hk8 (by simpa using HS.out.newS)
              blk := (hB5.set 0 _).set 1 _
              kept := ((HS.out.kept.drew.trans' hk6 fun q hq => .inr (by simp at hq; subst hq; exact HS.out.newG))).trans' hk8 fun q hq => .inr (by simp at hq; subst hq; exact HS.out.newS)
              newG := HS.out.newG
              newA := fun ad e => (hA ad e).1
              newS := HS.out.newS
              ne := HS.out.ne
              neA := fun ad e => (hA ad e).2 }
          obtain ⟨A6, c6, hrel6⟩ := hrel6
          have H6 := Lib.hid hrel6
          clear hrel6 hs' hD5 hgo5 hrd h0 h1 h2 h3 HS
          go_wp2_with fail
          generalize (w5.setCell ⟨gs, 0, none⟩ (.slice A4 (leftS s') c4)).setCell ⟨gs, 1, none⟩ (.int .i64 s'.1) = W6 at *
          clear hB5 c5 f5 lt5 cs fs ltS
          have c6a := H6.out.blk.cell
          have e1 : (s'.1 != s'.1) = false := by simp
          have e2 : (((leftS s' : Nat) : Int) != ((leftS s' : Nat) : Int)) = false := by simp
          go_quiet ((first | (go_at_call 17; exact quiet_left (rerr_any g A6 c6 s' _ (H6.out.isR.drewN' _))) | (go_at_call 14; exact quiet_left (rleft_any g A6 c6 s' _ (H6.out.isR.drewN' _)))))
          go_wp2_with fail
          go_roundw
          case rel => exact ⟨k + 1, A6, c6, A4, leftS s', c4, s', by omega, by omega, by go_num, rfl, ⟨H6.out.isR, H6.out.isD, H6.out.blk, H6.out.kept.drewN _, H6.out.newG, H6.out.newA, H6.out.newS, H6.out.ne, H6.out.neA⟩⟩
          case measure => simp [intOf]; omega
      · have hcs : (30 ≤ k ∧ k < ts.length) ∨ ts.length ≤ k := by omega
        clear hlt
        have hkw := HS.out.kept
        have c0 : wr.cell? ⟨gs, 0, none⟩ = some (.slice A3 m3 c3) := by rw [cs]; rfl
        have c1 : wr.cell? ⟨gs, 1, none⟩ = some (.int .i64 s.1) := by rw [cs]; rfl
        have HD1 : Hid (∀ w' : World, Kept [] wr w' → Calls Try.prog 20 #[.agg #[.slice A3 m3 c3, .int .i64 s.1]] w' fun e w'' => e = .returned (.int .i64 (doneS s)) ∧ Kept [] w' w'') := fun w' hk' => refDone w.heap.size A3 m3 c3 s w' (HS.out.isD.old hk')
        have HD2 := Lib.hid (rdone_any g A2 c2 s wr.drew HS.out.isR.drew)
        generalize doneS s = ds at *
        clear cs fs
        rcases hcs with ⟨hc1, hc2⟩ | hc1
        all_goals
          go_wp2_with fail
          go_region_held3 (fun w' => w'.cell? ⟨gs, 0, none⟩ = some (.slice A3 m3 c3) ∧ w'.cell? ⟨gs, 1, none⟩ = some (.int .i64 s.1)) (go_keep) (first | (go_at_call 18; refine HD2.out.mono ?_; rintro e w5 ⟨rfl, rfl⟩) | (go_at_call 20; refine (HD1.out _ (Kept.refl [] wr).drew).mono ?_; rintro e w6 ⟨rfl, hk6⟩; have d0 : w6.cell? ⟨gs, 0, none⟩ = some (.slice A3 m3 c3) := hk6.cell_some (by simpa using c0) (by simp); have d1 : w6.cell? ⟨gs, 1, none⟩ = some (.int .i64 s.1) := hk6.cell_some (by simpa using c1) (by simp)) | (go_at_call 12; refine (awake4 _).mono ?_; rintro e w7 ⟨rfl, hk7⟩; have d0 : w7.cell? ⟨gs, 0, none⟩ = some (.slice A3 m3 c3) := hk7.cell_some (by assumption) (by simp); have d1 : w7.cell? ⟨gs, 1, none⟩ = some (.int .i64 s.1) := hk7.cell_some (by assumption) (by simp)))
          go_wp2_with fail
          go_ret
          exact ⟨rfl, ((hkw.drew).trans hk6).trans hk7⟩

end Go.Proofs.Ytmaiipglojpknaa
