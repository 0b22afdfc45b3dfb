/- Package replay: may a code be (may), walked. -/
import Derived.Test.YtccodklfplfleaaRpH
import Derived.Test.YtccodklfplfleaaDuA
import Derived.Deep.DeepCutAuto
namespace Go.Proofs.Ytccodklfplfleaa
open Go.RowKit

theorem selegal_any (m : Nat) {c : Int} (h1 : 1 ≤ c) (h2 : c ≤ 64) (hm : m < 18446744073709551616) (w : World) : Calls Try.prog 93 #[.int .u64 m, .int .i64 c] w fun e w' => e = .returned (.bool (m &&& (2 ^ c.toNat - 1) != 0)) ∧ w = w' := by
  obtain ⟨n, rfl⟩ : ∃ n : Nat, c = n := ⟨c.toNat, by omega⟩
  have HA := Lib.hid (fun W => sall_any n W (by omega) (by omega))
  rw [Int.toNat_natCast]
  have hall : 2 ^ n - 1 < 18446744073709551616 := by
    have : 2 ^ n ≤ 2 ^ 64 := Nat.pow_le_pow_right (by omega) (by omega)
    omega
  generalize 2 ^ n - 1 = all at *
  clear h1 h2
  have HAL : Hid (∀ W, Calls Try.prog 96 #[.int .u64 m, .int .i64 n] W fun e w' => e = .returned (.int .u64 ((m &&& all : Nat) : Int)) ∧ W = w') := fun W => by
    have hand := u64_and_nat m all hm hall
    go_enter Try.func96, Try.ntmps96
    go_wp2_with fail
    refine (HA.out _).mono ?_
    rintro e w1 ⟨rfl, rfl⟩
    go_wp2_with fail
    go_ret
    exact ⟨rfl, rfl⟩
  generalize m &&& all = x at *
  clear HA hall hm
  go_enter Try.func93, Try.ntmps93
  go_wp2_with fail
  refine (HAL.out _).mono ?_
  rintro e w1 ⟨rfl, rfl⟩
  go_wp2_with fail
  go_ret
  refine ⟨?_, rfl⟩
  by_cases hx : x = 0
  · subst hx; rfl
  · have h3 : ((x : Int) != 0) = true := bne_iff_ne.2 (by omega)
    have h4 : (x != 0) = true := bne_iff_ne.2 hx
    rw [h4]
    show Ending.returned (.bool ((x : Int) != 0)) = _
    rw [h3]

theorem mayA_eq (d : Du) (a : Acc) (t : Nat) (code : Int) : mayA d a t code =
  if (a.th t).deed.op = 2 then (if (d.progs.length : Int) ≤ (a.th t).deed.a then code == 1 else if legalU d (a.th t).deed.mask = false then code == 10 else if roomA a = 0 then code == 6 else code == 0)
  else if (a.th t).deed.op = 4 then (if isA a t = false then code == 9 else code == 0 || (code == 12 && !overA a t))
  else if (a.th t).deed.op = 7 ∨ (a.th t).deed.op = 8 then (if isA a t = false ∨ overA a t = true then code == 9 else if (a.th t).deed.op = 7 ∧ legalU d (a.th t).deed.mask = false then code == 10 else code == 0)
  else if (a.th t).deed.op = 9 ∨ (a.th t).deed.op = 10 ∨ (a.th t).deed.op = 11 then mayLk d a t (a.th t).deed code
  else code == 0 := by
  unfold mayA mayLk
  rfl
theorem tgA_of {b : AcA} {a : Acc} {x : Int × Nat} (h : hasA a x.1 x.2 = true) : tgA b a x = .pointer (some (tA b x.1.toNat)) := by unfold tgA; rw [if_pos h]
theorem tgA_not {b : AcA} {a : Acc} {x : Int × Nat} (h : hasA a x.1 x.2 = false) : tgA b a x = .pointer none := by unfold tgA; rw [if_neg (by simp [h])]

set_option maxHeartbeats 6400000 in
set_option maxRecDepth 100000 in
theorem rpmay_any {w : World} {b : AcA} {d : Du} {a : Acc} {K : Array Value} (h : AccAt w b d a K) (hw : AWhole d a) (hd : checkU d = 0) (hn : b.n = d.progs.length) {t : Nat} (ht : t < a.T.length) (hm : (a.th t).deed.mask < 18446744073709551616) (code : Int) :
    Calls Try.prog 80 #[.pointer (some ⟨b.g, 0, none⟩), .int .i64 t, .pointer (some (tA b t)), .int .i64 code] w fun y w' => y = .returned (.bool (mayA d a t code)) ∧ Kept [] w w' := by
  have hx := hw.at_ ht
  obtain ⟨hc1, hc2⟩ := (checkU_parts hd).1
  obtain ⟨r, hr⟩ : ∃ r : Nat, (a.th t).deed.r = r := ⟨(a.th t).deed.r.toNat, by have := hx.deed; omega⟩
  have hr8 : r < 8 := by have := hx.deed; omega
  have hreg : regA a t = (a.th t).regs.getD r (0, 0) := by unfold regA; rw [hr, Int.toNat_natCast]
  have HTG := Lib.hid (fun W (hk : Kept [] w W) => rptarget_any (AccAt.old h hk) hw ht (a.th t).deed hr hr8)
  have HLG := Lib.hid (fun W => selegal_any (a.th t).deed.mask hc1 hc2 hm W)
  have HRM := Lib.hid (fun W (hk : Kept [] w W) => rlRoom_any (AccAt.roll (AccAt.old h hk)) hw.n64)
  have HLK := Lib.hid (fun W (hk : Kept [] w W) => rpmayLock_any (AccAt.old h hk) hw t (a.th t).deed hx.deed.1 code)
  obtain ⟨V, hV⟩ : ∃ V, mayA d a t code = V := ⟨_, rfl⟩
  have HEQ := Lib.hid (hV.symm.trans (mayA_eq d a t code))
  have HF : Hid (∀ W, Kept [] w W → ((W.cell? ⟨b.g, 9, none⟩ = some (.pointer (some ⟨b.gr, 0, none⟩)) ∧ W.cell? ⟨b.g, 10, none⟩ = some (.slice b.AT a.T.length b.cT) ∧ W.cell? ⟨b.g, 11, none⟩ = some (.slice b.AH a.held.length b.cH) ∧ b.g < W.heap.size) ∧ W.cell? ⟨b.g, 0, none⟩ = some (.int .i64 d.cpus) ∧ W.cell? ⟨b.g, 7, none⟩ = some (.slice b.A d.progs.length b.c)) ∧ W.cell? ⟨gT b, t * 31 + 23, none⟩ = some (.int .i64 (a.th t).deed.op) ∧ W.cell? ⟨gT b, t * 31 + 24, none⟩ = some (.int .i64 (a.th t).deed.a) ∧ W.cell? ⟨gT b, t * 31 + 25, none⟩ = some (.int .i64 (a.th t).deed.b) ∧ W.cell? ⟨gT b, t * 31 + 26, none⟩ = some (.int .i64 (a.th t).deed.r) ∧ W.cell? ⟨gT b, t * 31 + 27, none⟩ = some (.int .u64 (a.th t).deed.n) ∧ W.cell? ⟨gT b, t * 31 + 28, none⟩ = some (.int .u64 (a.th t).deed.mask) ∧ W.cell? ⟨gT b, t * 31 + 29, none⟩ = some (.bool (a.th t).deed.loose) ∧ gT b < W.heap.size) := fun W hk => by
    have h1 := AccAt.old h hk
    have h2 := AccAt.cells h1
    obtain ⟨k1, k2, k3, k4, k5, k6, k7⟩ := AccAt.df h1 ht
    exact ⟨⟨AccAt.fact h W hk, h2.1, by rw [← hn]; exact h2.2.2.1⟩, k1, k2, k3, k4, k5, k6, k7, (AccAt.tf h1 ht).2.2.2⟩
  have HST : Hid (isA a t = true → ∀ W, Kept [] w W → W.cell? ⟨gT b, (regA a t).1.toNat * 31 + 2, none⟩ = some (.int .i64 (a.th (regA a t).1.toNat).state) ∧ gT b < W.heap.size) := fun hi W hk => by
    obtain ⟨_, p1, _⟩ := hasA_lt hi
    have h2 := AccAt.tf (AccAt.old h hk) (k := (regA a t).1.toNat) (by rw [hw.tl]; exact p1)
    exact ⟨h2.1.2.2.1, h2.2.2.2⟩
  have HOV : Hid (overA a t = (isA a t && decide ((a.th (regA a t).1.toNat).state = 5))) := rfl
  have HIS : Hid (isA a t = hasA a (regA a t).1 (regA a t).2) := rfl
  have hlg : (((a.th t).deed.mask &&& (2 ^ d.cpus.toNat - 1)) != 0) = legalU d (a.th t).deed.mask := rfl
  rw [hlg] at HLG
  have hrm : roomK a.P a.P.length = roomA a := rfl
  rw [hrm] at HRM
  rw [← hreg] at HTG
  rw [hV]
  unfold tA at HTG ⊢
  generalize legalU d (a.th t).deed.mask = lg at *
  generalize roomA a = rm at *
  generalize mayLk d a t (a.th t).deed code = ml at *
  generalize (regA a t) = rg at *
  generalize hxx : (a.th t).deed = x at *
  obtain ⟨o, xa, xb, xr, xn, xm, xl⟩ := x
  simp only at HTG HLG HLK HF ⊢
  generalize hp : (d.progs.length) = np at *
  clear h hw hd hn ht hm hx hr hr8 hreg hV hlg hrm hxx hc1 hc2 hp
  go_enter Try.func80, Try.ntmps80
  go_upto_region 1 with fail
  go_cut [9, 10] from 12 (fun s9 s10 wx => ∃ n, s9 = .pointer (some ⟨n, 0, none⟩) ∧ s10 = tgA b a rg ∧ Hid (Kept [] w wx) ∧ Hid (Blk wx n 47 #[.int .i64 o, .int .i64 xa, .int .i64 xb, .int .i64 xr, .int .u64 xn, .int .u64 xm, .bool xl]))
  case first =>
    (refine wp_region_held_drew (S := fun W => Kept [] w W) (by kernel_rfl) (Kept.refl _ _).drew (fun hHeld => ?_))
    (refine held_take (i := 0) (v := ?_) (listed := #[false, false, false, false, false, false, false, false, false, false, false, false, false, false]) nth_0 (by kernel_rfl) (by kernel_rfl) (by kernel_rfl) (fun _ _ _ h => h) (Or.inl ⟨by rfl, ?_⟩) (by assumption) ?_; rotate_left; (focus ((intro W hC; go_simp); try (with_reducible rfl))); (try dsimp only [Act.put]); (try simp only [List.setIfInBounds_toArray, List.set_cons_zero, List.set_cons_succ]))
    (refine held_take (i := 1) (v := ?_) (listed := #[true, false, false, false, false, false, false, false, false, false, false, false, false, false]) nth_1 (by kernel_rfl) (by kernel_rfl) (by kernel_rfl) (fun _ _ _ h => h) (Or.inl ⟨by rfl, ?_⟩) (by assumption) ?_; rotate_left; (focus ((intro W hC; go_simp); try (with_reducible rfl))); (try dsimp only [Act.put]); (try simp only [List.setIfInBounds_toArray, List.set_cons_zero, List.set_cons_succ]))
    (refine held_take (i := 2) (v := ?_) (listed := #[true, true, false, false, false, false, false, false, false, false, false, false, false, false]) nth_2 (by kernel_rfl) (by kernel_rfl) (by kernel_rfl) (fun _ _ _ h => h) (Or.inl ⟨by rfl, ?_⟩) (by assumption) ?_; rotate_left; (focus ((intro W hC; go_simp); try (with_reducible rfl))); (try dsimp only [Act.put]); (try simp only [List.setIfInBounds_toArray, List.set_cons_zero, List.set_cons_succ]))
    (refine held_take (i := 3) (v := ?_) (listed := #[true, true, true, false, false, false, false, false, false, false, false, false, false, false]) nth_3 (by kernel_rfl) (by kernel_rfl) (by kernel_rfl) (fun _ _ _ h => h) (Or.inl ⟨by rfl, ?_⟩) (by assumption) ?_; rotate_left; (focus ((intro W hC; have hF := HF.out W hC; go_simp); try (with_reducible rfl))); (try dsimp only [Act.put]); (try simp only [List.setIfInBounds_toArray, List.set_cons_zero, List.set_cons_succ]))
    (refine held_take (i := 4) (v := ?_) (listed := #[true, true, true, true, false, false, false, false, false, false, false, false, false, false]) nth_4 (by kernel_rfl) (by kernel_rfl) (by kernel_rfl) (fun _ _ _ h => h) (Or.inl ⟨by rfl, ?_⟩) (by assumption) ?_; rotate_left; (focus ((intro W hC; go_simp); try (with_reducible rfl))); (try dsimp only [Act.put]); (try simp only [List.setIfInBounds_toArray, List.set_cons_zero, List.set_cons_succ]))
    (refine held_take (i := 5) (v := ?_) (listed := #[true, true, true, true, true, false, false, false, false, false, false, false, false, false]) nth_5 (by kernel_rfl) (by kernel_rfl) (by kernel_rfl) (fun _ _ _ h => h) (Or.inl ⟨by rfl, ?_⟩) (by assumption) ?_; rotate_left; (focus ((intro W hC; go_simp); try (with_reducible rfl))); (try dsimp only [Act.put]); (try simp only [List.setIfInBounds_toArray, List.set_cons_zero, List.set_cons_succ]))
    (refine held_take (i := 6) (v := ?_) (listed := #[true, true, true, true, true, true, false, false, false, false, false, false, false, false]) nth_6 (by kernel_rfl) (by kernel_rfl) (by kernel_rfl) (fun _ _ _ h => h) (Or.inl ⟨by rfl, ?_⟩) (by assumption) ?_; rotate_left; (focus ((intro W hC; go_simp); try (with_reducible rfl))); (try dsimp only [Act.put]); (try simp only [List.setIfInBounds_toArray, List.set_cons_zero, List.set_cons_succ]))
    (refine held_take (i := 7) (v := ?_) (listed := #[true, true, true, true, true, true, true, false, false, false, false, false, false, false]) nth_7 (by kernel_rfl) (by kernel_rfl) (by kernel_rfl) (fun _ _ _ h => h) (Or.inl ⟨by rfl, ?_⟩) (by assumption) ?_; rotate_left; (focus ((intro W hC; go_simp); try (with_reducible rfl))); (try dsimp only [Act.put]); (try simp only [List.setIfInBounds_toArray, List.set_cons_zero, List.set_cons_succ]))
    (refine held_take (i := 8) (v := ?_) (listed := #[true, true, true, true, true, true, true, true, false, false, false, false, false, false]) nth_8 (by kernel_rfl) (by kernel_rfl) (by kernel_rfl) (fun _ _ _ h => h) (Or.inl ⟨by rfl, ?_⟩) (by assumption) ?_; rotate_left; (focus ((intro W hC; go_simp); try (with_reducible rfl))); (try dsimp only [Act.put]); (try simp only [List.setIfInBounds_toArray, List.set_cons_zero, List.set_cons_succ]))
    (refine held_take (i := 9) (v := ?_) (listed := #[true, true, true, true, true, true, true, true, true, false, false, false, false, false]) nth_9 (by kernel_rfl) (by kernel_rfl) (by kernel_rfl) (fun _ _ _ h => h) (Or.inl ⟨by rfl, ?_⟩) (by assumption) ?_; rotate_left; (focus ((intro W hC; have hF := HF.out W hC; go_simp); try (with_reducible rfl))); (try dsimp only [Act.put]); (try simp only [List.setIfInBounds_toArray, List.set_cons_zero, List.set_cons_succ]))
    (refine wpAnyH_ready (rs := [10, 11]) (by kernel_rfl) (by simp) ?_; refine held_cons nth_10 (fun K hK => ?_) (held_cons nth_11 (fun K hK => ?_) AllReadyH.nil))
    · go_simp
      refine (HTG.out _ hHeld).mono ?_
      rintro y w6 ⟨rfl, hk6⟩
      have hk7 := hHeld.trans hk6
      skip
      (refine hK.out _ _ ((by exact hk7)) (fun hHeld => ?_); clear hK K)
      (try dsimp only [Act.put]); (try simp only [List.setIfInBounds_toArray, List.set_cons_zero, List.set_cons_succ])
      (refine wpAnyH_ready (rs := [11]) (by kernel_rfl) (by simp) ?_; refine held_cons nth_11 (fun K hK => ?_) AllReadyH.nil)
      go_simp
      (refine hK.out _ _ ((by exact hHeld.alloc _)) (fun hHeld => ?_); clear hK K)
      (try dsimp only [Act.put]); (try simp only [List.setIfInBounds_toArray, List.set_cons_zero, List.set_cons_succ])
      (refine wpAnyH_ready (rs := [12]) (by kernel_rfl) (by simp) ?_; refine held_cons nth_12 (fun K hK => ?_) AllReadyH.nil)
      go_simp
      (refine hK.out _ _ ((by exact hk7.alloc _)) (fun hHeld => ?_); clear hK K)
      (try dsimp only [Act.put]); (try simp only [List.setIfInBounds_toArray, List.set_cons_zero, List.set_cons_succ])
      (refine held_take (i := 13) (v := ?_) (listed := #[true, true, true, true, true, true, true, true, true, true, true, true, true, false]) nth_13 (by kernel_rfl) (by kernel_rfl) (by kernel_rfl) (fun _ _ _ h => h) (Or.inl ⟨by rfl, ?_⟩) (by assumption) ?_; rotate_left; (focus ((intro W hC; go_simp); try (with_reducible rfl))); (try dsimp only [Act.put]); (try simp only [List.setIfInBounds_toArray, List.set_cons_zero, List.set_cons_succ]))
      (refine wpAnyH_done (by kernel_rfl) ?_ _)
      go_wp2_with fail
      go_meet
      exact ⟨_, rfl, rfl, hk7.alloc _, Blk.new _ _ _⟩
    · skip
      go_simp
      (refine hK.out _ _ ((by exact hHeld.alloc _)) (fun hHeld => ?_); clear hK K)
      (try dsimp only [Act.put]); (try simp only [List.setIfInBounds_toArray, List.set_cons_zero, List.set_cons_succ])
      (refine wpAnyH_ready (rs := [10]) (by kernel_rfl) (by simp) ?_; refine held_cons nth_10 (fun K hK => ?_) AllReadyH.nil)
      go_simp
      refine (HTG.out _ hHeld).mono ?_
      rintro y w6 ⟨rfl, hk6⟩
      have hB6 : Blk w6 w.heap.size 47 #[.int .i64 0, .int .i64 0, .int .i64 0, .int .i64 0, .int .u64 0, .int .u64 0, .bool false] := (Blk.new w.drew 47 #[.int .i64 0, .int .i64 0, .int .i64 0, .int .i64 0, .int .u64 0, .int .u64 0, .bool false]).kept hk6 (by simp)
      have q0 : w6.cell? ⟨w.heap.size, 0, none⟩ = some (.int .i64 0) := hB6.cell 0
      have q1 : w6.cell? ⟨w.heap.size, 1, none⟩ = some (.int .i64 0) := hB6.cell 1
      have q2 : w6.cell? ⟨w.heap.size, 2, none⟩ = some (.int .i64 0) := hB6.cell 2
      have q3 : w6.cell? ⟨w.heap.size, 3, none⟩ = some (.int .i64 0) := hB6.cell 3
      have q4 : w6.cell? ⟨w.heap.size, 4, none⟩ = some (.int .u64 0) := hB6.cell 4
      have q5 : w6.cell? ⟨w.heap.size, 5, none⟩ = some (.int .u64 0) := hB6.cell 5
      have q6 : w6.cell? ⟨w.heap.size, 6, none⟩ = some (.bool false) := hB6.cell 6
      have ql := hB6.lt
      have q7 : ∀ i, w6.frozen? ⟨w.heap.size, i, none⟩ = false := hB6.frozen
      have hk7 := hHeld.trans hk6
      have hs : w.heap.size ≤ w.heap.size := Nat.le_refl _
      (refine hK.out _ _ ((by exact hk7)) (fun hHeld => ?_); clear hK K)
      (try dsimp only [Act.put]); (try simp only [List.setIfInBounds_toArray, List.set_cons_zero, List.set_cons_succ])
      (refine wpAnyH_ready (rs := [12]) (by kernel_rfl) (by simp) ?_; refine held_cons nth_12 (fun K hK => ?_) AllReadyH.nil)
      go_simp
      (refine hK.out _ _ ((by exact ((((((hk7.setCell (.inr hs) _).setCell (.inr hs) _).setCell (.inr hs) _).setCell (.inr hs) _).setCell (.inr hs) _).setCell (.inr hs) _).setCell (.inr hs) _)) (fun hHeld => ?_); clear hK K)
      (try dsimp only [Act.put]); (try simp only [List.setIfInBounds_toArray, List.set_cons_zero, List.set_cons_succ])
      (refine held_take (i := 13) (v := ?_) (listed := #[true, true, true, true, true, true, true, true, true, true, true, true, true, false]) nth_13 (by kernel_rfl) (by kernel_rfl) (by kernel_rfl) (fun _ _ _ h => h) (Or.inl ⟨by rfl, ?_⟩) (by assumption) ?_; rotate_left; (focus ((intro W hC; go_simp); try (with_reducible rfl))); (try dsimp only [Act.put]); (try simp only [List.setIfInBounds_toArray, List.set_cons_zero, List.set_cons_succ]))
      (refine wpAnyH_done (by kernel_rfl) ?_ _)
      go_wp2_with fail
      go_meet
      exact ⟨_, rfl, rfl, ((((((hk7.setCell (.inr hs) _).setCell (.inr hs) _).setCell (.inr hs) _).setCell (.inr hs) _).setCell (.inr hs) _).setCell (.inr hs) _).setCell (.inr hs) _, ((((((hB6.set 0 _).set 1 _).set 2 _).set 3 _).set 4 _).set 5 _).set 6 _⟩
  case rest =>
    obtain ⟨n, rfl, rfl, HK, HB⟩ := hcut
    have HF2 : Hid (∀ W, Kept [] wc W → ((W.cell? ⟨b.g, 9, none⟩ = some (.pointer (some ⟨b.gr, 0, none⟩)) ∧ W.cell? ⟨b.g, 10, none⟩ = some (.slice b.AT a.T.length b.cT) ∧ W.cell? ⟨b.g, 11, none⟩ = some (.slice b.AH a.held.length b.cH) ∧ b.g < W.heap.size) ∧ W.cell? ⟨b.g, 0, none⟩ = some (.int .i64 d.cpus) ∧ W.cell? ⟨b.g, 7, none⟩ = some (.slice b.A np b.c)) ∧ W.cell? ⟨n, 0, none⟩ = some (.int .i64 o) ∧ W.cell? ⟨n, 1, none⟩ = some (.int .i64 xa) ∧ W.cell? ⟨n, 5, none⟩ = some (.int .u64 xm) ∧ n < W.heap.size) := fun W hk => by
      have h1 := HF.out W (HK.out.trans hk)
      have h2 := HB.out.kept hk (by simp)
      exact ⟨h1.1, h2.cell 0, h2.cell 1, h2.cell 5, h2.lt⟩
    have HLG2 : Hid (∀ W, Kept [] wc W → Calls Try.prog 93 #[.int .u64 xm, .int .i64 d.cpus] W fun e w' => e = .returned (.bool lg) ∧ Kept [] W w') := fun W _ => (HLG.out W).mono (fun _ _ h => ⟨h.1, h.2 ▸ Kept.refl _ _⟩)
    have HDD : Hid (∀ W, Kept [] wc W → (W.cell? ⟨n, 0, none⟩ = some (.int .i64 o) ∧ W.cell? ⟨n, 1, none⟩ = some (.int .i64 xa) ∧ W.cell? ⟨n, 2, none⟩ = some (.int .i64 xb) ∧ W.cell? ⟨n, 3, none⟩ = some (.int .i64 xr) ∧ W.cell? ⟨n, 4, none⟩ = some (.int .u64 xn) ∧ W.cell? ⟨n, 5, none⟩ = some (.int .u64 xm) ∧ W.cell? ⟨n, 6, none⟩ = some (.bool xl) ∧ n < W.heap.size)) := fun W hk => by
      have h2 := HB.out.kept hk (by simp)
      exact ⟨h2.cell 0, h2.cell 1, h2.cell 2, h2.cell 3, h2.cell 4, h2.cell 5, h2.cell 6, h2.lt⟩
    go_wp2_with fail
    (refine wp_region_phases (n := 9) (listed := #[false, false, false, false, false, false, false, false, false]) (by kernel_rfl) (by rfl) (by rfl) ?_)
    (refine wpAny_phase (fun W => Kept [] wc W) [(0, false), (1, false), (2, false), (3, false), (4, false), (5, false), (6, false), (7, false), (8, false)] (f := 0) (listed := #[false, false, false, false, false, false, false, false, false]) (listed' := #[true, true, true, true, true, true, true, true, true]) (by kernel_rfl) (by kernel_rfl) (by rfl) (Kept.refl [] _).drew (fun d _ _ _ _ h => by cases d <;> exact h) ?_)
    iterate 7 (refine wpQL_take (v := ?_) rfl (by rfl) ?_ ?_; rotate_left; (focus ((intro W hC; have hF := HF2.out W hC; go_simp); try (with_reducible rfl))); (try dsimp only [Act.put]); (try simp only [List.setIfInBounds_toArray, List.set_cons_zero, List.set_cons_succ]))
    (refine wpQL_call nth_7 (by rfl) ?_ (fun W hC => quiet_call hC (HLG2.out W hC)) ?_; (focus (intro W hC; go_simp; try (with_reducible rfl))); (try dsimp only [Act.put]); (try simp only [List.setIfInBounds_toArray, List.set_cons_zero, List.set_cons_succ]))
    (refine wpQL_take (v := ?_) nth_8 (by rfl) ?_ ?_; rotate_left; (focus ((intro W hC; go_simp); try (with_reducible rfl))); (try dsimp only [Act.put]); (try simp only [List.setIfInBounds_toArray, List.set_cons_zero, List.set_cons_succ]))
    (refine wpQL_nil ?_)
    (intro wq hq)
    (refine wpAny_done (by kernel_rfl) ?_ _)
    have hf := HF2.out _ hq
    have HQ := Lib.hid (HK.out.trans hq)
    clear HLG2 HLG
    rcases (by omega : o = 2 ∨ o = 4 ∨ o = 7 ∨ o = 8 ∨ o = 9 ∨ o = 10 ∨ o = 11 ∨ (o ≠ 2 ∧ o ≠ 4 ∧ o ≠ 7 ∧ o ≠ 8 ∧ o ≠ 9 ∧ o ≠ 10 ∧ o ≠ 11)) with rfl | rfl | rfl | rfl | rfl | rfl | rfl | ⟨h2, h4, h7, h8, h9, h10, h11⟩
    · by_cases hnp : (np : Int) ≤ xa
      · have e1 : decide ((np : Int) ≤ xa) = true := decide_eq_true hnp
        go_wp2_with fail
        (refine wp_region_phases (n := 10) (listed := #[false, false, false, false, false, false, false, false, false, false]) (by kernel_rfl) (by rfl) (by rfl) ?_)
        (refine wpAny_phase (fun W => Kept [] wc W) [(0, false), (1, false), (2, false), (3, false), (4, false), (5, false), (6, false), (7, false), (8, false), (9, false)] (f := 0) (listed := #[false, false, false, false, false, false, false, false, false, false]) (listed' := #[true, true, true, true, true, true, true, true, true, true]) (by kernel_rfl) (by kernel_rfl) (by rfl) (hq).drew (fun d _ _ _ _ h => by cases d <;> exact h) ?_)
        iterate 10 (refine wpQL_take (v := ?_) rfl (by rfl) ?_ ?_; rotate_left; (focus ((intro W hC; have hF := HF2.out W hC; go_simp); try (with_reducible rfl))); (try dsimp only [Act.put]); (try simp only [List.setIfInBounds_toArray, List.set_cons_zero, List.set_cons_succ]))
        (refine wpQL_nil ?_)
        (intro wq hq)
        (refine wpAny_done (by kernel_rfl) ?_ _)
        go_wp2_with fail
        go_ret
        exact ⟨by rw [HEQ.out]; simp [hnp], HK.out.trans hq⟩
      · have e1 : decide ((np : Int) ≤ xa) = false := decide_eq_false hnp
        cases lg with
        | false =>
          go_wp2_with fail
          (refine wp_region_phases (n := 10) (listed := #[false, false, false, false, false, false, false, false, false, false]) (by kernel_rfl) (by rfl) (by rfl) ?_)
          (refine wpAny_phase (fun W => Kept [] wc W) [(0, false), (1, false), (2, false), (3, false), (4, false), (5, false), (6, false), (7, false), (8, false), (9, false)] (f := 0) (listed := #[false, false, false, false, false, false, false, false, false, false]) (listed' := #[true, true, true, true, true, true, true, true, true, true]) (by kernel_rfl) (by kernel_rfl) (by rfl) (hq).drew (fun d _ _ _ _ h => by cases d <;> exact h) ?_)
          iterate 10 (refine wpQL_take (v := ?_) rfl (by rfl) ?_ ?_; rotate_left; (focus ((intro W hC; have hF := HF2.out W hC; go_simp); try (with_reducible rfl))); (try dsimp only [Act.put]); (try simp only [List.setIfInBounds_toArray, List.set_cons_zero, List.set_cons_succ]))
          (refine wpQL_nil ?_)
          (intro wq hq)
          (refine wpAny_done (by kernel_rfl) ?_ _)
          go_wp2_with fail
          go_ret
          exact ⟨by rw [HEQ.out]; simp; intro h; omega, HK.out.trans hq⟩
        | true =>
          by_cases hr0 : rm = 0
          · subst hr0
            go_wp2_with fail
            (refine wp_region_phases (n := 10) (listed := #[false, false, false, false, false, false, false, false, false, false]) (by kernel_rfl) (by rfl) (by rfl) ?_)
            (refine wpAny_phase (fun W => Kept [] wc W) [(0, false), (1, false), (2, false), (3, false), (4, false), (5, false), (6, false), (7, false), (8, false), (9, false)] (f := 0) (listed := #[false, false, false, false, false, false, false, false, false, false]) (listed' := #[true, true, true, true, true, true, true, true, true, true]) (by kernel_rfl) (by kernel_rfl) (by rfl) (hq).drew (fun d _ _ _ _ h => by cases d <;> exact h) ?_)
            iterate 10 (refine wpQL_take (v := ?_) rfl (by rfl) ?_ ?_; rotate_left; (focus ((intro W hC; have hF := HF2.out W hC; go_simp); try (with_reducible rfl))); (try dsimp only [Act.put]); (try simp only [List.setIfInBounds_toArray, List.set_cons_zero, List.set_cons_succ]))
            (refine wpQL_nil ?_)
            (intro wq hq)
            (refine wpAny_done (by kernel_rfl) ?_ _)
            have hf2 := HF2.out _ hq
            have HQ2 := Lib.hid (HK.out.trans hq)
            have HR2 := Lib.hid (HRM.out _ HQ2.out)
            clear hq hf
            go_wp2_with fail
            refine (HR2.out).mono ?_
            rintro y w8 ⟨rfl, hk8⟩
            have HQ3 := Lib.hid (HQ2.out.trans hk8)
            clear hk8 hf2
            go_wp2_with fail
            go_ret
            exact ⟨by rw [HEQ.out]; simp; intro h; omega, HQ3.out⟩
          · have e3 : ((rm : Int) == 0) = false := beq_eq_false_iff_ne.2 (by omega)
            have HR0 := Lib.hid hr0
            clear hr0
            go_wp2_with fail
            (refine wp_region_phases (n := 10) (listed := #[false, false, false, false, false, false, false, false, false, false]) (by kernel_rfl) (by rfl) (by rfl) ?_)
            (refine wpAny_phase (fun W => Kept [] wc W) [(0, false), (1, false), (2, false), (3, false), (4, false), (5, false), (6, false), (7, false), (8, false), (9, false)] (f := 0) (listed := #[false, false, false, false, false, false, false, false, false, false]) (listed' := #[true, true, true, true, true, true, true, true, true, true]) (by kernel_rfl) (by kernel_rfl) (by rfl) (hq).drew (fun d _ _ _ _ h => by cases d <;> exact h) ?_)
            iterate 10 (refine wpQL_take (v := ?_) rfl (by rfl) ?_ ?_; rotate_left; (focus ((intro W hC; have hF := HF2.out W hC; go_simp); try (with_reducible rfl))); (try dsimp only [Act.put]); (try simp only [List.setIfInBounds_toArray, List.set_cons_zero, List.set_cons_succ]))
            (refine wpQL_nil ?_)
            (intro wq hq)
            (refine wpAny_done (by kernel_rfl) ?_ _)
            have hf2 := HF2.out _ hq
            have HQ2 := Lib.hid (HK.out.trans hq)
            have HR2 := Lib.hid (HRM.out _ HQ2.out)
            clear hq hf
            go_wp2_with fail
            refine (HR2.out).mono ?_
            rintro y w8 ⟨rfl, hk8⟩
            have HQ3 := Lib.hid (HQ2.out.trans hk8)
            clear hk8
            go_wp2_with fail
            go_ret
            exact ⟨by rw [HEQ.out]; simp [HR0.out]; intro h; omega, HQ3.out⟩
    · cases hi : hasA a rg.1 rg.2 with
      | false =>
        have HI := Lib.hid (HIS.out.trans hi)
        rw [tgA_not hi]
        clear hi HST HOV HIS
        go_wp2_with fail
        go_ret
        exact ⟨by rw [HEQ.out]; simp [HI.out], HQ.out⟩
      | true =>
        have HI := Lib.hid (HIS.out.trans hi)
        have hs := HST.out HI.out _ HQ.out
        rw [tgA_of hi]
        unfold tA
        have HV := HOV
        rw [HI.out, Bool.true_and] at HV
        generalize (a.th rg.1.toNat).state = z at *
        clear hi HST HOV HIS
        by_cases hz : z = 5
        · have hz1 : (z != 5) = false := by simp [hz]
          have HZ := Lib.hid hz
          clear hz
          go_wp2_with fail
          all_goals (go_ret; refine ⟨?_, HQ.out⟩)
          all_goals (rw [HEQ.out]; simp [*, HI.out, HV.out, HZ.out])
        · have hz1 : (z != 5) = true := bne_iff_ne.2 hz
          have HZ := Lib.hid hz
          clear hz
          go_wp2_with fail
          all_goals (go_ret; refine ⟨?_, HQ.out⟩)
          all_goals (rw [HEQ.out]; simp [*, HI.out, HV.out, HZ.out])
    · cases hi : hasA a rg.1 rg.2 with
      | false =>
        have HI := Lib.hid (HIS.out.trans hi)
        rw [tgA_not hi]
        clear hi HST HOV HIS
        go_wp2_with fail
        go_ret
        exact ⟨by rw [HEQ.out]; simp [HI.out], HQ.out⟩
      | true =>
        have HI := Lib.hid (HIS.out.trans hi)
        have hs := HST.out HI.out _ HQ.out
        rw [tgA_of hi]
        unfold tA
        have HV := HOV
        rw [HI.out, Bool.true_and] at HV
        generalize (a.th rg.1.toNat).state = z at *
        clear hi HST HOV HIS
        by_cases hz : z = 5
        · have hz1 : (z == 5) = true := by simp [hz]
          have HZ := Lib.hid hz
          clear hz
          go_wp2_with fail
          go_ret
          exact ⟨by rw [HEQ.out]; simp [HI.out, HV.out, HZ.out], HQ.out⟩
        · have hz1 : (z == 5) = false := beq_eq_false_iff_ne.2 hz
          have HZ := Lib.hid hz
          clear hz
          cases lg
          · go_wp2_with fail
            go_ret
            exact ⟨by rw [HEQ.out]; simp [HI.out, HV.out, HZ.out], HQ.out⟩
          · go_wp2_with fail
            go_ret
            exact ⟨by rw [HEQ.out]; simp [HI.out, HV.out, HZ.out], HQ.out⟩
    · cases hi : hasA a rg.1 rg.2 with
      | false =>
        have HI := Lib.hid (HIS.out.trans hi)
        rw [tgA_not hi]
        clear hi HST HOV HIS
        go_wp2_with fail
        go_ret
        exact ⟨by rw [HEQ.out]; simp [HI.out], HQ.out⟩
      | true =>
        have HI := Lib.hid (HIS.out.trans hi)
        have hs := HST.out HI.out _ HQ.out
        rw [tgA_of hi]
        unfold tA
        have HV := HOV
        rw [HI.out, Bool.true_and] at HV
        generalize (a.th rg.1.toNat).state = z at *
        clear hi HST HOV HIS
        by_cases hz : z = 5
        · have hz1 : (z == 5) = true := by simp [hz]
          have HZ := Lib.hid hz
          clear hz
          go_wp2_with fail
          go_ret
          exact ⟨by rw [HEQ.out]; simp [HI.out, HV.out, HZ.out], HQ.out⟩
        · have hz1 : (z == 5) = false := beq_eq_false_iff_ne.2 hz
          have HZ := Lib.hid hz
          clear hz
          cases lg
          · go_wp2_with fail
            go_ret
            exact ⟨by rw [HEQ.out]; simp [HI.out, HV.out, HZ.out], HQ.out⟩
          · go_wp2_with fail
            go_ret
            exact ⟨by rw [HEQ.out]; simp [HI.out, HV.out, HZ.out], HQ.out⟩
    · have HL2 := Lib.hid (HLK.out _ HQ.out)
      have hdd := HDD.out _ hq
      clear hq hf
      go_wp2_with fail
      refine (HL2.out).mono ?_
      rintro y w8 ⟨rfl, hk8⟩
      have HQ3 := Lib.hid (HQ.out.trans hk8)
      clear hk8
      go_wp2_with fail
      go_ret
      exact ⟨by rw [HEQ.out]; simp, HQ3.out⟩
    · have HL2 := Lib.hid (HLK.out _ HQ.out)
      have hdd := HDD.out _ hq
      clear hq hf
      go_wp2_with fail
      refine (HL2.out).mono ?_
      rintro y w8 ⟨rfl, hk8⟩
      have HQ3 := Lib.hid (HQ.out.trans hk8)
      clear hk8
      go_wp2_with fail
      go_ret
      exact ⟨by rw [HEQ.out]; simp, HQ3.out⟩
    · have HL2 := Lib.hid (HLK.out _ HQ.out)
      have hdd := HDD.out _ hq
      clear hq hf
      go_wp2_with fail
      refine (HL2.out).mono ?_
      rintro y w8 ⟨rfl, hk8⟩
      have HQ3 := Lib.hid (HQ.out.trans hk8)
      clear hk8
      go_wp2_with fail
      go_ret
      exact ⟨by rw [HEQ.out]; simp, HQ3.out⟩
    · have e2 : (o == 2) = false := beq_eq_false_iff_ne.2 h2
      have e4 : (o == 4) = false := beq_eq_false_iff_ne.2 h4
      have e7 : (o == 7) = false := beq_eq_false_iff_ne.2 h7
      have e8 : (o == 8) = false := beq_eq_false_iff_ne.2 h8
      have e9 : (o == 9) = false := beq_eq_false_iff_ne.2 h9
      have e10 : (o == 10) = false := beq_eq_false_iff_ne.2 h10
      have e11 : (o == 11) = false := beq_eq_false_iff_ne.2 h11
      have HH := Lib.hid (And.intro h2 (And.intro h4 (And.intro h7 (And.intro h8 (And.intro h9 (And.intro h10 h11))))))
      clear h2 h4 h7 h8 h9 h10 h11
      go_wp2_with fail
      go_ret
      obtain ⟨h2, h4, h7, h8, h9, h10, h11⟩ := HH.out
      exact ⟨by rw [HEQ.out]; simp [h2, h4, h7, h8, h9, h10, h11], HQ.out⟩

end Go.Proofs.Ytccodklfplfleaa
