/- Package rack: Take, Shed, Rob, Put; Law 36: begin. -/
import Derived.Test.YtahpjoknmclbfaaDoorBwY4
import Derived.Test.YtahpjoknmclbfaaDoorStL
import Derived.Test.YtahpjoknmclbfaaDoorStM

/- Package rack: Take, Shed, Rob, Put. -/
namespace Go.Proofs.YtahpjoknmclbfaaDoor
open Go.RowKit

section
variable {w : World} {mb wb ob rb kb : Nat} {xs : List Nat} {o : OpS} {W : WorkS} {cap s0 s1 turn : Nat}
set_option maxHeartbeats 1600000 in
theorem kTake_any (rb : Nat) (w : World) : Calls Tryd.prog 15 #[.pointer (some ⟨rb, 0, none⟩)] w fun e w' => (∃ kb, w.heap.size ≤ kb ∧ e = .returned (.pointer (some ⟨kb, 0, none⟩)) ∧ Blk w' kb 57 (workC rb ⟨30, .nilFunc, 0, 0, 0, .pointer none, 0, 0, false, false, true, false, 0, false, 0⟩)) ∧ Kept [] w w' := by
  go_enter Tryd.func15, Tryd.ntmps15
  go_wp2
  go_ret
  exact ⟨⟨w.heap.size, Nat.le_refl _, rfl, Blk.new w _ _⟩, (Kept.refl [] w).alloc _⟩
set_option maxHeartbeats 1600000 in
theorem kShed_any (rb : Nat) (w : World) : Calls Tryd.prog 17 #[.pointer (some ⟨rb, 0, none⟩)] w fun e w' => (∃ kb, w.heap.size ≤ kb ∧ e = .returned (.pointer (some ⟨kb, 0, none⟩)) ∧ Blk w' kb 57 (workC rb ⟨31, .nilFunc, 0, 0, 0, .pointer none, 0, 0, false, false, true, true, 0, false, 0⟩)) ∧ Kept [] w w' := by
  go_enter Tryd.func17, Tryd.ntmps17
  go_wp2
  go_ret
  exact ⟨⟨w.heap.size, Nat.le_refl _, rfl, Blk.new w _ _⟩, (Kept.refl [] w).alloc _⟩
set_option maxRecDepth 100000 in
set_option maxHeartbeats 1600000 in
theorem kSure_any (gb : Nat) (w : World) : Calls Tryd.prog 33 #[.func (.func 19) #[] #[.pointer (some ⟨gb, 0, none⟩)]] w fun e w' => e = .returned (.func (.func 19) #[] #[.pointer (some ⟨gb, 0, none⟩)]) ∧ w = w' := by
  have hb : ∀ W, (binOp BinOp.eql 53 (.func (.func 19) #[] #[.pointer (some ⟨gb, 0, none⟩)]) .nilFunc).run Tryd.prog W = .ok (.bool false) W := fun W => rfl
  go_enter Tryd.func33, Tryd.ntmps33
  go_wp2_with (simp only [hb])
  go_ret
  exact ⟨rfl, rfl⟩
set_option maxHeartbeats 1600000 in
theorem kRob_any (rb gb : Nat) (w : World) : Calls Tryd.prog 21 #[.pointer (some ⟨rb, 0, none⟩), .func (.func 19) #[] #[.pointer (some ⟨gb, 0, none⟩)]] w fun e w' => (∃ kb, w.heap.size ≤ kb ∧ e = .returned (.pointer (some ⟨kb, 0, none⟩)) ∧ Blk w' kb 57 (workC rb ⟨32, .func (.func 19) #[] #[.pointer (some ⟨gb, 0, none⟩)], 0, 0, 0, .pointer none, 0, 0, false, false, true, false, 0, false, 0⟩)) ∧ Kept [] w w' := by
  have HS := Lib.hid (kSure_any gb w)
  go_enter Tryd.func21, Tryd.ntmps21
  go_wp2_with fail
  refine HS.out.mono ?_
  rintro e w1 ⟨rfl, rfl⟩
  go_wp2_with fail
  go_ret
  exact ⟨⟨w.heap.size, Nat.le_refl _, rfl, Blk.new w _ _⟩, (Kept.refl [] w).alloc _⟩
theorem hold_nat (l : Int) : ∃ n : Nat, n < 8 ∧ holdL l = (n : Int) := ⟨(holdL l).toNat, by unfold holdL; omega, by unfold holdL; omega⟩
set_option maxHeartbeats 3200000 in
theorem kPut_any (x : Nat) (l : Int) (p : Bool) (gb : Nat) (R : Blk w rb 50 (rackC cap s0 s1 turn)) : Calls Tryd.prog 24 #[.pointer (some ⟨rb, 0, none⟩), U64 x, .int .i64 l, .bool p, .func (.func 19) #[] #[.pointer (some ⟨gb, 0, none⟩)]] w fun e w' => (∃ kb og k n : Nat, k < 2 ∧ n < 8 ∧ w.heap.size ≤ kb ∧ w.heap.size ≤ og ∧ e = .returned (.pointer (some ⟨kb, 0, none⟩)) ∧ Blk w' kb 57 (workC rb ⟨35, .func (.func 19) #[] #[.pointer (some ⟨gb, 0, none⟩)], x, n, k, .pointer (some ⟨og, 0, none⟩), 0, 0, false, false, false, false, 0, false, 0⟩) ∧ Blk w' og 88 (opC ⟨atJ cap (k * 8 + n), cap, 0, 0, 0, 0, x, false, false, 0⟩)) ∧ Kept [] w w' := by
  obtain ⟨n, hn, hl⟩ := hold_nat l
  have HH := Lib.hid (hold_any l w)
  rw [hl] at HH
  have HS := Lib.hid (fun W => kSure_any gb W)
  have HR := Lib.hid R
  have HN := Lib.hid hn
  clear R hl hn
  cases p with
  | false =>
    go_enter Tryd.func24, Tryd.ntmps24
    go_wp2_with fail
    refine HH.out.mono ?_
    rintro e w1 ⟨rfl, rfl⟩
    go_wp2_with fail
    refine (HS.out _).mono ?_
    rintro e w1 ⟨rfl, rfl⟩
    have H0 : Blk (w.alloc (.cells #[.pointer (some ⟨rb, 0, none⟩), .func (.func 35) #[] #[], .func (.func 19) #[] #[.pointer (some ⟨gb, 0, none⟩)], U64 x, .int .i64 n, .int .i64 0, .pointer none, .int .u64 0, .int .u64 0, .bool false, .bool false, .bool false, .bool false, .int .i64 0, .bool false, .int .i64 0] 57)) w.heap.size 57 (workC rb ⟨35, .func (.func 19) #[] #[.pointer (some ⟨gb, 0, none⟩)], x, n, 0, .pointer none, 0, 0, false, false, false, false, 0, false, 0⟩) := Blk.new w _ _
    have hk0 : Kept [] w (w.alloc (.cells #[.pointer (some ⟨rb, 0, none⟩), .func (.func 35) #[] #[], .func (.func 19) #[] #[.pointer (some ⟨gb, 0, none⟩)], U64 x, .int .i64 n, .int .i64 0, .pointer none, .int .u64 0, .int .u64 0, .bool false, .bool false, .bool false, .bool false, .int .i64 0, .bool false, .int .i64 0] 57)) := (Kept.refl [] w).alloc _
    have H1 := H0
    have hk1 := hk0
    clear H0 hk0
    have HDq := Lib.hid (kWdeque_any H1 (HR.out.kept hk1 (by simp)) (by simp) HN.out)
    obtain ⟨aj, haj⟩ : ∃ aj, aj = atJ cap (0 * 8 + n) := ⟨_, rfl⟩
    simp only [← haj] at HDq
    have HAJ := Lib.hid haj
    have HH1 := Lib.hid H1
    have HK1 := Lib.hid hk1
    clear H1 hk1 haj
    go_wp2_with fail
    refine HDq.out.mono ?_
    rintro e w2 ⟨rfl, hk2⟩
    have HP := Lib.hid (qPush_any aj cap x w2)
    have HH2 := Lib.hid (HH1.out.kept hk2 (by simp))
    have HK2 := Lib.hid (HK1.out.trans hk2)
    clear hk2
    go_wp2_with fail
    refine HP.out.mono ?_
    rintro e w3 ⟨⟨og, hog, rfl, N3⟩, hk3⟩
    have H3 := HH2.out.kept hk3 (by simp)
    have HK3 := Lib.hid (HK2.out.trans hk3)
    have c6 := H3.cell 6
    have f6 := H3.frozen 6
    simp [workC] at c6
    have hge := H3.ne N3 (by decide)
    have HH4 : Hid (Blk (w3.setCell ⟨w.heap.size, 6, none⟩ (.pointer (some ⟨og, 0, none⟩))) w.heap.size 57 (workC rb ⟨35, .func (.func 19) #[] #[.pointer (some ⟨gb, 0, none⟩)], x, n, 0, .pointer (some ⟨og, 0, none⟩), 0, 0, false, false, false, false, 0, false, 0⟩)) := H3.set 6 _
    have HN4 := Lib.hid (N3.far (p := ⟨w.heap.size, 6, none⟩) (Ne.symm hge) (.pointer (some ⟨og, 0, none⟩)))
    have HK4 : Hid (Kept [] w (w3.setCell ⟨w.heap.size, 6, none⟩ (.pointer (some ⟨og, 0, none⟩)))) := HK3.out.setCell (.inr (Nat.le_refl _)) _
    have hogw : w.heap.size ≤ og := by have := HK2.out.size; omega
    clear H3 N3 hk3 hog hge
    go_wp2_with fail
    go_ret
    exact ⟨⟨w.heap.size, og, 0, n, by omega, HN.out, Nat.le_refl _, hogw, rfl, HH4.out, HAJ.out ▸ HN4.out⟩, HK4.out⟩
  | true =>
    go_enter Tryd.func24, Tryd.ntmps24
    go_wp2_with fail
    refine HH.out.mono ?_
    rintro e w1 ⟨rfl, rfl⟩
    go_wp2_with fail
    refine (HS.out _).mono ?_
    rintro e w1 ⟨rfl, rfl⟩
    have H1 : Blk (w.alloc (.cells #[.pointer (some ⟨rb, 0, none⟩), .func (.func 35) #[] #[], .func (.func 19) #[] #[.pointer (some ⟨gb, 0, none⟩)], U64 x, .int .i64 n, .int .i64 1, .pointer none, .int .u64 0, .int .u64 0, .bool false, .bool false, .bool false, .bool false, .int .i64 0, .bool false, .int .i64 0] 57)) w.heap.size 57 (workC rb ⟨35, .func (.func 19) #[] #[.pointer (some ⟨gb, 0, none⟩)], x, n, 1, .pointer none, 0, 0, false, false, false, false, 0, false, 0⟩) := Blk.new w _ _
    have hk1 : Kept [] w (w.alloc (.cells #[.pointer (some ⟨rb, 0, none⟩), .func (.func 35) #[] #[], .func (.func 19) #[] #[.pointer (some ⟨gb, 0, none⟩)], U64 x, .int .i64 n, .int .i64 1, .pointer none, .int .u64 0, .int .u64 0, .bool false, .bool false, .bool false, .bool false, .int .i64 0, .bool false, .int .i64 0] 57)) := (Kept.refl [] w).alloc _
    have HDq := Lib.hid (kWdeque_any H1 (HR.out.kept hk1 (by simp)) (by simp) HN.out)
    obtain ⟨aj, haj⟩ : ∃ aj, aj = atJ cap (1 * 8 + n) := ⟨_, rfl⟩
    simp only [← haj] at HDq
    have HAJ := Lib.hid haj
    have HH1 := Lib.hid H1
    have HK1 := Lib.hid hk1
    clear H1 hk1 haj
    go_wp2_with fail
    refine HDq.out.mono ?_
    rintro e w2 ⟨rfl, hk2⟩
    have HP := Lib.hid (qPush_any aj cap x w2)
    have HH2 := Lib.hid (HH1.out.kept hk2 (by simp))
    have HK2 := Lib.hid (HK1.out.trans hk2)
    clear hk2
    go_wp2_with fail
    refine HP.out.mono ?_
    rintro e w3 ⟨⟨og, hog, rfl, N3⟩, hk3⟩
    have H3 := HH2.out.kept hk3 (by simp)
    have HK3 := Lib.hid (HK2.out.trans hk3)
    have c6 := H3.cell 6
    have f6 := H3.frozen 6
    simp [workC] at c6
    have hge := H3.ne N3 (by decide)
    have HH4 : Hid (Blk (w3.setCell ⟨w.heap.size, 6, none⟩ (.pointer (some ⟨og, 0, none⟩))) w.heap.size 57 (workC rb ⟨35, .func (.func 19) #[] #[.pointer (some ⟨gb, 0, none⟩)], x, n, 1, .pointer (some ⟨og, 0, none⟩), 0, 0, false, false, false, false, 0, false, 0⟩)) := H3.set 6 _
    have HN4 := Lib.hid (N3.far (p := ⟨w.heap.size, 6, none⟩) (Ne.symm hge) (.pointer (some ⟨og, 0, none⟩)))
    have HK4 : Hid (Kept [] w (w3.setCell ⟨w.heap.size, 6, none⟩ (.pointer (some ⟨og, 0, none⟩)))) := HK3.out.setCell (.inr (Nat.le_refl _)) _
    have hogw : w.heap.size ≤ og := by have := HK2.out.size; omega
    clear H3 N3 hk3 hog hge
    go_wp2_with fail
    go_ret
    exact ⟨⟨w.heap.size, og, 1, n, by omega, HN.out, Nat.le_refl _, hogw, rfl, HH4.out, HAJ.out ▸ HN4.out⟩, HK4.out⟩
end
end Go.Proofs.YtahpjoknmclbfaaDoor

/- Law 36: begin. -/
namespace Go.Proofs.YtahpjoknmclbfaaDoor
open Go.RowKit

@[go_sem] theorem run_store_fl {a : Addr} {m : Mode} {P : Program} {w : World} (k : FloatKind) (x : Nat) : (store a (.float k x) m).run P w = stored P w a (.float k x) m := run_store P w a _ m rfl
inductive BeginPost (N0 : Nat) (w w' : World) (rb cap k : Nat) (e : Ending) : Prop
  | mk (v : VS) (most : Nat) (he : e = .returned (.tuple #[.pointer (some ⟨v.kb, 0, none⟩), .int .i64 (most : Nat)])) (V : Wmem w' rb v) (L : ∀ g : GS, Live cap g v most) (steps : v.W.steps = 0) (thief : 1 ≤ k → Thief v.W) (new : w.heap.size ≤ v.kb ∧ w.heap.size ≤ v.ob) (good : famOf v.W.next = 0 ∨ famOf v.W.next = 2 → GoodAt N0 w' v.W.good) (hop : v.W.next = 31 → v.W.op = .pointer none) (m5 : 5 ≤ most ∧ most ≤ 1000) (kept : Kept [] w w') : BeginPost N0 w w' rb cap k e
section
variable {w : World} {rb cap s0 s1 turn : Nat}
set_option maxRecDepth 100000 in
set_option maxHeartbeats 6400000 in
theorem begin36 (N0 k who name x : Nat) (lv : Int) (p : Bool) (A : Option Addr) (n c : Nat) (l : List Nat) (hc : cap = 2 ∨ cap = 4 ∨ cap = 8) (hname : name < 256) (R : Blk w rb 50 (rackC cap s0 s1 turn)) (hr : Reads w 1 A n (l.map U64)) (hA : 0 < n → ∀ ad, A = some ad → ad.block < N0) (hT : Ru.Tab w) : Calls Tryd.prog 9 #[.pointer (some ⟨rb, 0, none⟩), .int .i64 cap, .int .i64 k, .agg #[.int .u8 who, .int .u8 name, U64 x, .int .i64 lv, .bool p, .slice A n c]] w fun e w' => BeginPost N0 w w' rb cap k e := by
  have hk0 : (0 : Int) ≤ (k : Int) := by omega
  have HR := Lib.hid R
  have HRd := Lib.hid hr
  have HT := Lib.hid (fun W (hk : Kept [] w W) => hT.kept hk)
  have HA := Lib.hid hA
  have HC := Lib.hid hc
  have HTk := Lib.hid (fun W => kTake_any rb W)
  have HSd := Lib.hid (fun W => kShed_any rb W)
  clear R hr hT hA hc
  by_cases hk : k = 0
  · subst hk
    by_cases h2 : (name : Int) % 4 = 2
    · go_enter Tryd.func9, Tryd.ntmps9
      go_wp2_with fail
      have hkw1 : Kept [] w ((w.alloc (.cells #[.int .u8 who, .int .u8 name, U64 x, .int .i64 lv, .bool p, .slice A n c] 33)).alloc (.cells #[.slice A n c] 31)) := ((Kept.refl [] w).alloc _).alloc _
      have BA : Blk ((w.alloc (.cells #[.int .u8 who, .int .u8 name, U64 x, .int .i64 lv, .bool p, .slice A n c] 33)).alloc (.cells #[.slice A n c] 31)) w.heap.size 33 #[.int .u8 who, .int .u8 name, U64 x, .int .i64 lv, .bool p, .slice A n c] := (Blk.new w _ _).alloc _
      have BG : Blk ((w.alloc (.cells #[.int .u8 who, .int .u8 name, U64 x, .int .i64 lv, .bool p, .slice A n c] 33)).alloc (.cells #[.slice A n c] 31)) (w.heap.size + 1) 31 #[.slice A n c] := Blk.newAt (by simp) _ _
      generalize ((w.alloc (.cells #[.int .u8 who, .int .u8 name, U64 x, .int .i64 lv, .bool p, .slice A n c] 33)).alloc (.cells #[.slice A n c] 31)) = W1 at *
      have HK1 := Lib.hid hkw1
      have HBG := Lib.hid BG
      have b2 := BA.cell 2
      have b3 := BA.cell 3
      have b4 := BA.cell 4
      simp at b2 b3 b4
      clear hkw1 BA BG
      refine (HTk.out _).mono ?_
      rintro e w2 ⟨⟨kb, hkb, rfl, H2⟩, hk2⟩
      have HK2 := Lib.hid (HK1.out.trans hk2)
      have hs1 := HK1.out.size
      have HB := Lib.hid (take36 (HT.out _ HK2.out))
      have HH2 := Lib.hid H2
      have HKB : Hid (w.heap.size ≤ kb) := Nat.le_trans hs1 hkb
      clear H2 hk2 hkb hs1
      go_wp2_with fail
      refine HB.out.mono ?_
      rintro e w3 ⟨rfl, hk3⟩
      have HH3 := Lib.hid (HH2.out.kept hk3 (by simp))
      have HK3 := Lib.hid (HK2.out.trans hk3)
      clear hk3
      go_wp2_with fail
      go_ret2
      exact .mk ⟨kb, kb, _, ⟨0, 0, 0, 0, 0, 0, 0, false, false, 0⟩⟩ 5 rfl ⟨HH3.out, .inl ⟨rfl, rfl, .inl rfl⟩⟩ (fun g => ⟨rfl, by simp, by simp, .choosing rfl (by omega)⟩) rfl (fun h => by omega) ⟨HKB.out, HKB.out⟩ (fun h => by simp [famOf] at h) (fun h => by simp at h) (by omega) HK3.out
    · by_cases h3 : (name : Int) % 4 = 3
      · go_enter Tryd.func9, Tryd.ntmps9
        go_wp2_with fail
        have hkw1 : Kept [] w ((w.alloc (.cells #[.int .u8 who, .int .u8 name, U64 x, .int .i64 lv, .bool p, .slice A n c] 33)).alloc (.cells #[.slice A n c] 31)) := ((Kept.refl [] w).alloc _).alloc _
        have BA : Blk ((w.alloc (.cells #[.int .u8 who, .int .u8 name, U64 x, .int .i64 lv, .bool p, .slice A n c] 33)).alloc (.cells #[.slice A n c] 31)) w.heap.size 33 #[.int .u8 who, .int .u8 name, U64 x, .int .i64 lv, .bool p, .slice A n c] := (Blk.new w _ _).alloc _
        have BG : Blk ((w.alloc (.cells #[.int .u8 who, .int .u8 name, U64 x, .int .i64 lv, .bool p, .slice A n c] 33)).alloc (.cells #[.slice A n c] 31)) (w.heap.size + 1) 31 #[.slice A n c] := Blk.newAt (by simp) _ _
        generalize ((w.alloc (.cells #[.int .u8 who, .int .u8 name, U64 x, .int .i64 lv, .bool p, .slice A n c] 33)).alloc (.cells #[.slice A n c] 31)) = W1 at *
        have HK1 := Lib.hid hkw1
        have HBG := Lib.hid BG
        have b2 := BA.cell 2
        have b3 := BA.cell 3
        have b4 := BA.cell 4
        simp at b2 b3 b4
        clear hkw1 BA BG
        refine (HSd.out _).mono ?_
        rintro e w2 ⟨⟨kb, hkb, rfl, H2⟩, hk2⟩
        have HK2 := Lib.hid (HK1.out.trans hk2)
        have hs1 := HK1.out.size
        have HB := Lib.hid (shed36 (HT.out _ HK2.out))
        have HH2 := Lib.hid H2
        have HKB : Hid (w.heap.size ≤ kb) := Nat.le_trans hs1 hkb
        clear H2 hk2 hkb hs1
        go_wp2_with fail
        refine HB.out.mono ?_
        rintro e w3 ⟨rfl, hk3⟩
        have HH3 := Lib.hid (HH2.out.kept hk3 (by simp))
        have HK3 := Lib.hid (HK2.out.trans hk3)
        clear hk3
        go_wp2_with fail
        go_ret2
        exact .mk ⟨kb, kb, _, ⟨0, 0, 0, 0, 0, 0, 0, false, false, 0⟩⟩ 7 rfl ⟨HH3.out, .inl ⟨rfl, rfl, .inr (.inr rfl)⟩⟩ (fun g => ⟨rfl, by simp, by simp, .worst rfl rfl (by omega)⟩) rfl (fun h => by omega) ⟨HKB.out, HKB.out⟩ (fun h => by simp [famOf] at h) (fun _ => rfl) (by omega) HK3.out
      · go_enter Tryd.func9, Tryd.ntmps9
        go_wp2_with fail
        have hkw1 : Kept [] w ((w.alloc (.cells #[.int .u8 who, .int .u8 name, U64 x, .int .i64 lv, .bool p, .slice A n c] 33)).alloc (.cells #[.slice A n c] 31)) := ((Kept.refl [] w).alloc _).alloc _
        have BA : Blk ((w.alloc (.cells #[.int .u8 who, .int .u8 name, U64 x, .int .i64 lv, .bool p, .slice A n c] 33)).alloc (.cells #[.slice A n c] 31)) w.heap.size 33 #[.int .u8 who, .int .u8 name, U64 x, .int .i64 lv, .bool p, .slice A n c] := (Blk.new w _ _).alloc _
        have BG : Blk ((w.alloc (.cells #[.int .u8 who, .int .u8 name, U64 x, .int .i64 lv, .bool p, .slice A n c] 33)).alloc (.cells #[.slice A n c] 31)) (w.heap.size + 1) 31 #[.slice A n c] := Blk.newAt (by simp) _ _
        generalize ((w.alloc (.cells #[.int .u8 who, .int .u8 name, U64 x, .int .i64 lv, .bool p, .slice A n c] 33)).alloc (.cells #[.slice A n c] 31)) = W1 at *
        have HK1 := Lib.hid hkw1
        have HBG := Lib.hid BG
        have b2 := BA.cell 2
        have b3 := BA.cell 3
        have b4 := BA.cell 4
        simp at b2 b3 b4
        clear hkw1 BA BG
        have hpl := plain36 cap HC.out (HT.out W1 HK1.out)
        simp only [Ru.plainC] at hpl
        have HPl := Lib.hid hpl
        clear hpl
        refine HPl.out.mono ?_
        rintro e w2 ⟨rfl, hk2⟩
        have HK2 := Lib.hid (HK1.out.trans hk2)
        have HBG2 := Lib.hid (HBG.out.kept hk2 (by simp))
        have b2 := hk2.cell_some b2 (by simp)
        have b3 := hk2.cell_some b3 (by simp)
        have b4 := hk2.cell_some b4 (by simp)
        clear hk2
        go_wp2_with fail
        have BD : Blk (w2.alloc (.cells #[.int .i64 1, .int .i64 cap, .int .i64 4, .int .i64 cap, .int .u64 8, .float .f64 4602678819172646912, .float .f64 4611686018427387904, .slice none 0 0, .slice none 0 0] 65)) w2.heap.size 65 #[.int .i64 1, .int .i64 cap, .int .i64 4, .int .i64 cap, .int .u64 8, .float .f64 4602678819172646912, .float .f64 4611686018427387904, .slice none 0 0, .slice none 0 0] := Blk.new w2 _ _
        have hkD : Kept [] w2 (w2.alloc (.cells #[.int .i64 1, .int .i64 cap, .int .i64 4, .int .i64 cap, .int .u64 8, .float .f64 4602678819172646912, .float .f64 4611686018427387904, .slice none 0 0, .slice none 0 0] 65)) := (Kept.refl [] w2).alloc _
        have b2 := hkD.cell_some b2 (by simp)
        have b3 := hkD.cell_some b3 (by simp)
        have b4 := hkD.cell_some b4 (by simp)
        have HK3 := Lib.hid (HK2.out.trans hkD)
        have HBG3 := Lib.hid (HBG2.out.kept hkD (by simp))
        obtain ⟨db, hdb⟩ : ∃ db, db = w2.heap.size := ⟨_, rfl⟩
        rw [← hdb] at BD
        simp only [← hdb]
        generalize w2.alloc (.cells #[.int .i64 1, .int .i64 cap, .int .i64 4, .int .i64 cap, .int .u64 8, .float .f64 4602678819172646912, .float .f64 4611686018427387904, .slice none 0 0, .slice none 0 0] 65) = w3 at *
        have e0 := BD.cell 0
        have e1 := BD.cell 1
        have e2 := BD.cell 2
        have e3 := BD.cell 3
        have e4 := BD.cell 4
        have e5 := BD.cell 5
        have e6 := BD.cell 6
        have e7 := BD.cell 7
        have e8 := BD.cell 8
        simp at e0 e1 e2 e3 e4 e5 e6 e7 e8
        have HPt := Lib.hid (fun W hk => kPut_any x lv p (w.heap.size + 1) (HR.out.kept (HK3.out.trans hk) (by simp) : Blk W rb 50 (rackC cap s0 s1 turn)))
        have HPu : Hid (∀ W, Kept [] w W → Calls Tryd.prog 25 #[.agg #[.int .i64 1, .int .i64 cap, .int .i64 4, .int .i64 cap, .int .u64 8, .float .f64 4602678819172646912, .float .f64 4611686018427387904, .slice none 0 0, .slice none 0 0]] W fun e w' => e = .returned (.int .i64 ((9 * cap + 9 : Nat) : Int)) ∧ Kept [] W w') := fun W hk => put36 cap HC.out (HT.out W hk)
        clear BD hkD hdb
        go_region_held3 (fun w' => w'.cell? ⟨w.heap.size, 2, none⟩ = some (U64 x) ∧ w'.cell? ⟨w.heap.size, 3, none⟩ = some (.int .i64 lv) ∧ w'.cell? ⟨w.heap.size, 4, none⟩ = some (.bool p) ∧ w'.cell? ⟨db, 0, none⟩ = some (.int .i64 1) ∧ w'.cell? ⟨db, 1, none⟩ = some (.int .i64 cap) ∧ w'.cell? ⟨db, 2, none⟩ = some (.int .i64 4) ∧ w'.cell? ⟨db, 3, none⟩ = some (.int .i64 cap) ∧ w'.cell? ⟨db, 4, none⟩ = some (.int .u64 8) ∧ w'.cell? ⟨db, 5, none⟩ = some (.float .f64 4602678819172646912) ∧ w'.cell? ⟨db, 6, none⟩ = some (.float .f64 4611686018427387904) ∧ w'.cell? ⟨db, 7, none⟩ = some (.slice none 0 0) ∧ w'.cell? ⟨db, 8, none⟩ = some (.slice none 0 0)) (first | go_keep | exact hN) (first
          | (go_at_call 24; refine (HPt.out _ ((Kept.refl [] w3).drew)).mono ?_; rintro e w4 ⟨⟨kb, og, kd, nl, hkd, hnl, hkb, hog, rfl, H4, N4⟩, hk4⟩; have hN : w4.cell? ⟨w.heap.size, 2, none⟩ = some (U64 x) ∧ w4.cell? ⟨w.heap.size, 3, none⟩ = some (.int .i64 lv) ∧ w4.cell? ⟨w.heap.size, 4, none⟩ = some (.bool p) ∧ w4.cell? ⟨db, 0, none⟩ = some (.int .i64 1) ∧ w4.cell? ⟨db, 1, none⟩ = some (.int .i64 cap) ∧ w4.cell? ⟨db, 2, none⟩ = some (.int .i64 4) ∧ w4.cell? ⟨db, 3, none⟩ = some (.int .i64 cap) ∧ w4.cell? ⟨db, 4, none⟩ = some (.int .u64 8) ∧ w4.cell? ⟨db, 5, none⟩ = some (.float .f64 4602678819172646912) ∧ w4.cell? ⟨db, 6, none⟩ = some (.float .f64 4611686018427387904) ∧ w4.cell? ⟨db, 7, none⟩ = some (.slice none 0 0) ∧ w4.cell? ⟨db, 8, none⟩ = some (.slice none 0 0) := ⟨hk4.cell_some (w := w3.drew) b2 (by simp), hk4.cell_some (w := w3.drew) b3 (by simp), hk4.cell_some (w := w3.drew) b4 (by simp), hk4.cell_some (w := w3.drew) e0 (by simp), hk4.cell_some (w := w3.drew) e1 (by simp), hk4.cell_some (w := w3.drew) e2 (by simp), hk4.cell_some (w := w3.drew) e3 (by simp), hk4.cell_some (w := w3.drew) e4 (by simp), hk4.cell_some (w := w3.drew) e5 (by simp), hk4.cell_some (w := w3.drew) e6 (by simp), hk4.cell_some (w := w3.drew) e7 (by simp), hk4.cell_some (w := w3.drew) e8 (by simp)⟩; have HH4 := Lib.hid H4; have HN4 := Lib.hid N4; have HK4 := Lib.hid ((HK3.out.drew).trans hk4); have HBG4 := Lib.hid (HBG3.out.kept ((Kept.refl [] w3).drew.trans hk4) (by simp)); have HG4 := Lib.hid (And.intro hkd (And.intro hnl (And.intro (Nat.le_trans HK3.out.size hkb) (Nat.le_trans HK3.out.size hog)))); clear H4 N4 hk4 hkd hnl hkb hog)
          | (go_at_call 25; refine (HPu.out _ HK4.out).mono ?_; rintro e w5 ⟨rfl, hk5⟩; have hN : w5.cell? ⟨w.heap.size, 2, none⟩ = some (U64 x) ∧ w5.cell? ⟨w.heap.size, 3, none⟩ = some (.int .i64 lv) ∧ w5.cell? ⟨w.heap.size, 4, none⟩ = some (.bool p) ∧ w5.cell? ⟨db, 0, none⟩ = some (.int .i64 1) ∧ w5.cell? ⟨db, 1, none⟩ = some (.int .i64 cap) ∧ w5.cell? ⟨db, 2, none⟩ = some (.int .i64 4) ∧ w5.cell? ⟨db, 3, none⟩ = some (.int .i64 cap) ∧ w5.cell? ⟨db, 4, none⟩ = some (.int .u64 8) ∧ w5.cell? ⟨db, 5, none⟩ = some (.float .f64 4602678819172646912) ∧ w5.cell? ⟨db, 6, none⟩ = some (.float .f64 4611686018427387904) ∧ w5.cell? ⟨db, 7, none⟩ = some (.slice none 0 0) ∧ w5.cell? ⟨db, 8, none⟩ = some (.slice none 0 0) := ⟨hk5.cell_some (w := w4) (hN.1) (by simp), hk5.cell_some (w := w4) (hN.2.1) (by simp), hk5.cell_some (w := w4) (hN.2.2.1) (by simp), hk5.cell_some (w := w4) (hN.2.2.2.1) (by simp), hk5.cell_some (w := w4) (hN.2.2.2.2.1) (by simp), hk5.cell_some (w := w4) (hN.2.2.2.2.2.1) (by simp), hk5.cell_some (w := w4) (hN.2.2.2.2.2.2.1) (by simp), hk5.cell_some (w := w4) (hN.2.2.2.2.2.2.2.1) (by simp), hk5.cell_some (w := w4) (hN.2.2.2.2.2.2.2.2.1) (by simp), hk5.cell_some (w := w4) (hN.2.2.2.2.2.2.2.2.2.1) (by simp), hk5.cell_some (w := w4) (hN.2.2.2.2.2.2.2.2.2.2.1) (by simp), hk5.cell_some (w := w4) (hN.2.2.2.2.2.2.2.2.2.2.2) (by simp)⟩; have HH5 := Lib.hid (HH4.out.kept hk5 (by simp)); have HN5 := Lib.hid (HN4.out.kept hk5 (by simp)); have HK5 := Lib.hid (HK4.out.trans hk5); have HBG5 := Lib.hid (HBG4.out.kept hk5 (by simp)); clear hk5))
        all_goals
          have hcb : cap ≤ 8 := by have := HC.out; omega
          go_wp2_with fail
          go_ret2
          exact .mk ⟨kb, og, _, _⟩ (9 * cap + 9) rfl ⟨HH5.out, .inr ⟨rfl, HN5.out⟩⟩ (fun g => ⟨rfl, HG4.out.1, HG4.out.2.1, .push rfl rfl ((OpAt.new (W := ⟨35, .func (.func 19) #[] #[.pointer (some ⟨w.heap.size + 1, 0, none⟩)], x, nl, kd, .pointer (some ⟨og, 0, none⟩), 0, 0, false, false, false, false, 0, false, 0⟩) 0 x (by simp)).up (by omega)) ⟨fun _ => (by show 9 * (cap : Int) + 9 - ((0 : Nat) : Int) ≤ ((9 * cap + 9 : Nat) : Int); omega), (by show 5 - ((0 : Nat) : Int) ≤ ((9 * cap + 9 : Nat) : Int); omega)⟩⟩) rfl (fun h => by omega) HG4.out.2.2 (fun _ => ⟨_, A, n, c, l, rfl, HBG5.out, HRd.out.old HK5.out, HA.out⟩) (fun h => by simp at h) (by omega) HK5.out
  · have hk1 : ¬ ((k : Int) = 0) := by omega
    have hk2 : (0 : Int) < (k : Int) := by omega
    go_enter Tryd.func9, Tryd.ntmps9
    go_wp2_with fail
    have hkw1 : Kept [] w ((w.alloc (.cells #[.int .u8 who, .int .u8 name, U64 x, .int .i64 lv, .bool p, .slice A n c] 33)).alloc (.cells #[.slice A n c] 31)) := ((Kept.refl [] w).alloc _).alloc _
    have BA : Blk ((w.alloc (.cells #[.int .u8 who, .int .u8 name, U64 x, .int .i64 lv, .bool p, .slice A n c] 33)).alloc (.cells #[.slice A n c] 31)) w.heap.size 33 #[.int .u8 who, .int .u8 name, U64 x, .int .i64 lv, .bool p, .slice A n c] := (Blk.new w _ _).alloc _
    have BG : Blk ((w.alloc (.cells #[.int .u8 who, .int .u8 name, U64 x, .int .i64 lv, .bool p, .slice A n c] 33)).alloc (.cells #[.slice A n c] 31)) (w.heap.size + 1) 31 #[.slice A n c] := Blk.newAt (by simp) _ _
    generalize ((w.alloc (.cells #[.int .u8 who, .int .u8 name, U64 x, .int .i64 lv, .bool p, .slice A n c] 33)).alloc (.cells #[.slice A n c] 31)) = W1 at *
    have HK1 := Lib.hid hkw1
    have HBG := Lib.hid BG
    have b2 := BA.cell 2
    have b3 := BA.cell 3
    have b4 := BA.cell 4
    simp at b2 b3 b4
    clear hkw1 BA BG
    have HRb := Lib.hid (kRob_any rb (w.heap.size + 1) W1)
    refine HRb.out.mono ?_
    rintro e w2 ⟨⟨kb, hkb, rfl, H2⟩, hk2'⟩
    have HK2 := Lib.hid (HK1.out.trans hk2')
    have hs1 := HK1.out.size
    have HBG2 := Lib.hid (HBG.out.kept hk2' (by simp))
    have HB := Lib.hid (rob36 (HT.out _ HK2.out))
    have HH2 := Lib.hid H2
    have HKB : Hid (w.heap.size ≤ kb) := Nat.le_trans hs1 hkb
    clear H2 hk2' hkb hs1
    go_wp2_with fail
    refine HB.out.mono ?_
    rintro e w3 ⟨rfl, hk3⟩
    have HH3 := Lib.hid (HH2.out.kept hk3 (by simp))
    have HBG3 := Lib.hid (HBG2.out.kept hk3 (by simp))
    have HK3 := Lib.hid (HK2.out.trans hk3)
    clear hk3
    go_wp2_with fail
    go_ret2
    exact .mk ⟨kb, kb, _, ⟨0, 0, 0, 0, 0, 0, 0, false, false, 0⟩⟩ 6 rfl ⟨HH3.out, .inl ⟨rfl, rfl, .inr (.inl rfl)⟩⟩ (fun g => ⟨rfl, by simp, by simp, .reading rfl (by omega)⟩) rfl (fun _ => .inl rfl) ⟨HKB.out, HKB.out⟩ (fun _ => ⟨_, A, n, c, l, rfl, HBG3.out, HRd.out.old HK3.out, HA.out⟩) (fun h => by simp at h) (by omega) HK3.out
end
end Go.Proofs.YtahpjoknmclbfaaDoor

