/- Package replay: exits, walked on. -/
import Derived.Test.YtccodklfplfleaaRpY
import Derived.Deep.CutBlock
namespace Go.Proofs.Ytccodklfplfleaa
open Go.RowKit

def heldO (a : Acc) (t : Int) (k : Nat) : Acc := { a with held := offK a.held t k }
theorem heldO_zero (a : Acc) (t : Int) : heldO a t 0 = a := by unfold heldO; rw [offK_zero]
theorem heldO_succ {a : Acc} {t : Int} {k : Nat} (hk : k < a.held.length) : heldO a t (k + 1) = if a.hl k = t then { heldO a t k with held := (heldO a t k).held.set k (-1) } else heldO a t k := by
  unfold heldO Acc.hl
  rw [offK_succ hk]
  split <;> rfl

def joinQ (a : Acc) (s : Int) (g : Nat) (x : Int × Nat) : Bool := decide ((a.th x.1.toNat).call = 3) && (decide ((a.th x.1.toNat).deed.op = 4) && regA a x.1.toNat == (s, g))
theorem joinL_take {a : Acc} {s : Int} {g : Nat} {L : List (Int × Nat)} {i : Nat} {x : Int × Nat} (hx : L[i]? = some x) : joinL a s g (L.take (i + 1)) = (joinL a s g (L.take i) || joinQ a s g x) := by
  obtain ⟨hi, hxx⟩ := List.getElem?_eq_some_iff.1 hx
  unfold joinL joinQ
  rw [List.take_succ_eq_append_getElem hi, List.any_append, hxx]
  simp
theorem joinL_yes {a : Acc} {s : Int} {g : Nat} {L : List (Int × Nat)} {i : Nat} {x : Int × Nat} (hx : L[i]? = some x) (hp : joinQ a s g x = true) : joinL a s g L = true := by
  unfold joinL
  exact List.any_eq_true.2 ⟨x, List.mem_of_getElem? hx, hp⟩

set_option maxHeartbeats 6400000 in
set_option maxRecDepth 100000 in
theorem rpexits_yes {w0 w : World} {b : AcA} {d : Du} {a : Acc} {K : Array Value} (h : AccIs w0 w b d a K) (hw : AWhole d a) (e : Ev) (hr : runsA a e = true)
    (c1 : (a.th e.slot.toNat).call = 2) (c2 : (a.th e.slot.toNat).code = 0) (c3 : (a.th e.slot.toNat).deed.op = 3) (c4 : (a.th e.slot.toNat).deed.n = e.n) :
    Calls Try.prog 65 #[.pointer (some ⟨b.g, 0, none⟩), .agg (eC e.step e.cpu e.kind e.slot e.gen e.op e.code e.n)] w fun x w' => x = .returned (.bool true) ∧ AccIs w0 w' b d (exitsA a e.slot.toNat) K := by
  obtain ⟨wb, hwb⟩ : ∃ wb, w.alloc (.cells (eC e.step e.cpu e.kind e.slot e.gen e.op e.code e.n) 55) = wb := ⟨_, rfl⟩
  have h0 : Kept [] w wb := by rw [← hwb]; exact (Kept.refl _ _).alloc _
  have HRU := Lib.hid (rpruns_any (AccAt.old h.at' h0) hw e)
  have hlt := AccAt.fp_lt h.at'
  have HEV : Hid (∀ W, Kept (aF b) wb W → (W.cell? ⟨w.heap.size, 0, none⟩ = some (.int .i64 e.step) ∧ W.cell? ⟨w.heap.size, 1, none⟩ = some (.int .i64 e.cpu) ∧ W.cell? ⟨w.heap.size, 2, none⟩ = some (.int .i64 e.kind) ∧ W.cell? ⟨w.heap.size, 3, none⟩ = some (.int .i64 e.slot) ∧ W.cell? ⟨w.heap.size, 4, none⟩ = some (.int .u32 e.gen) ∧ W.cell? ⟨w.heap.size, 5, none⟩ = some (.int .i64 e.op) ∧ W.cell? ⟨w.heap.size, 6, none⟩ = some (.int .i64 e.code) ∧ W.cell? ⟨w.heap.size, 7, none⟩ = some (.int .u64 e.n) ∧ w.heap.size < W.heap.size)) := ev_boxG hwb (fun k hk => hlt k (by unfold accFp; simp [hk]))
  have hev := HEV.out wb (Kept.refl _ _)
  have HFIN : Hid (∀ W, Kept [] wb W → AccIs w0 W b d a K) := fun W hk => h.old (h0.trans hk)
  rw [hr, if_pos rfl] at HRU
  obtain ⟨p0, p1, p2, p3⟩ := hasA_lt (runsA_has hr)
  have ht : e.slot.toNat < a.T.length := by rw [hw.tl]; exact p1
  have HF : Hid (∀ W, Kept [] wb W → (W.cell? ⟨w.heap.size, 7, none⟩ = some (.int .u64 e.n) ∧ w.heap.size < W.heap.size) ∧ W.cell? ⟨gT b, e.slot.toNat * 31 + 22, none⟩ = some (.int .i64 2) ∧ W.cell? ⟨gT b, e.slot.toNat * 31 + 30, none⟩ = some (.int .i64 0) ∧ W.cell? ⟨gT b, e.slot.toNat * 31 + 23, none⟩ = some (.int .i64 3) ∧ W.cell? ⟨gT b, e.slot.toNat * 31 + 27, none⟩ = some (.int .u64 e.n) ∧ gT b < W.heap.size) := fun W hk => by
    have h1 := AccAt.old h.at' (h0.trans hk)
    have k8 := AccAt.tf h1 ht
    obtain ⟨k1, k2, k3, k4, k5, k6, k7⟩ := AccAt.df h1 ht
    have k9 := HEV.out W (hk.mono (by simp))
    rw [c1, c2] at k8
    rw [c3] at k1
    rw [c4] at k5
    exact ⟨⟨k9.2.2.2.2.2.2.2.1, k9.2.2.2.2.2.2.2.2⟩, k8.2.1, k8.2.2.1, k1, k5, k8.2.2.2⟩
  -- the holders
  obtain ⟨nh, hnh⟩ : ∃ nh, a.held.length = nh := ⟨_, rfl⟩
  have hn64 : nh ≤ 64 := by rw [← hnh]; exact hw.h64
  have HH : Hid (∀ W k, AccIs w0 W b d (heldO a e.slot k) K → (W.cell? ⟨b.g, 11, none⟩ = some (.slice b.AH nh b.cH) ∧ b.g < W.heap.size) ∧ (k < nh → ∃ g, b.AH = some ⟨g, 0, none⟩ ∧ W.cell? ⟨g, k, none⟩ = some (.int .i64 (a.hl k)) ∧ g < W.heap.size ∧ (∀ j, W.frozen? ⟨g, j, none⟩ = false) ∧ g ∈ aF b ∧ AccIs w0 (if a.hl k = e.slot then W.setCell ⟨g, k, none⟩ (.int .i64 (-1)) else W) b d (heldO a e.slot (k + 1)) K)) := fun W k hA => by
    have hl : (heldO a e.slot k).held.length = nh := by unfold heldO; simp only [offK_len]; exact hnh
    have hfc := AccAt.fact hA.at' W (Kept.refl _ _)
    rw [hl] at hfc
    refine ⟨⟨hfc.2.2.1, hfc.2.2.2⟩, fun hk => ?_⟩
    obtain ⟨g, e1, e2, e3, e4⟩ := AccAt.hld hA.at' k (by rw [hl]; exact hk)
    have e5 : (heldO a e.slot k).hl k = a.hl k := by unfold heldO Acc.hl; exact offK_at (by rw [hnh]; exact hk)
    rw [e5] at e2
    refine ⟨g, e1, e2, e3, e4, by unfold aF; rw [e1]; simp, ?_⟩
    rw [heldO_succ (by rw [hnh]; exact hk)]
    split
    · exact hA.setH e1 k (-1)
    · exact hA
  have h00 : AccIs w0 wb b d (heldO a e.slot 0) K := by rw [heldO_zero]; exact h.old h0
  have HG0 : Hid (∀ W, Kept [] wb W → AccIs w0 W b d (heldO a e.slot 0) K) := fun W hk => h00.old hk
  unfold tA at HRU
  clear h00 h0 c1 c2 c3 c4 hlt
  obtain ⟨V, hV⟩ : ∃ V, exitsA a e.slot.toNat = V := ⟨_, rfl⟩
  have HV := Lib.hid hV
  rw [hV]
  go_enter Try.func65, Try.ntmps65
  go_wp2_with fail
  go_step3
  go_wp2_with fail
  try rw [hwb]
  go_wp2_with fail
  refine (HRU.out).mono ?_
  rintro x w1 ⟨rfl, hk1⟩
  go_wp2_with fail
  (refine wp_region_phases (n := 34) (listed := #[false, false, false, false, false, false, false, false, false, false, false, false, false, false, false, false, false, false, false, false, false, false, false, false, false, false, false, false, false, false, false, false, false, false]) (by kernel_rfl) (by rfl) (by rfl) ?_)
  (refine wpAny_phase (fun W => Kept [] wb W) [(0, false), (1, false), (2, false), (3, false), (4, false), (5, false), (6, false), (7, false), (8, false), (9, false), (10, false), (11, false), (12, false), (13, false), (14, false), (15, false), (16, false), (17, false), (18, false), (19, false), (20, false), (21, false), (22, false), (23, false), (24, false), (25, false), (26, false), (27, false), (28, false), (29, false), (30, false), (31, false), (32, false), (33, false)] (f := 0) (listed := #[false, false, false, false, false, false, false, false, false, false, false, false, false, false, false, false, false, false, false, false, false, false, false, false, false, false, false, false, false, false, false, false, false, false]) (listed' := #[true, true, true, true, true, true, true, true, true, true, true, true, true, true, true, true, true, true, true, true, true, true, true, true, true, true, true, true, true, true, true, true, true, true]) (by kernel_rfl) (by kernel_rfl) (by rfl) (hk1).drew (fun d _ _ _ _ h => by cases d <;> exact h) ?_)
  iterate 34 (first | (refine wpQL_take (v := ?_) rfl ?_ ?_ ?_; rotate_left; (focus (first | rfl | (go_simp; done))); (focus ((intro W hC; have hF := HF.out W hC; go_simp); try (with_reducible rfl))); (try dsimp only [Act.put]); (try simp only [List.setIfInBounds_toArray, List.set_cons_zero, List.set_cons_succ])) | (refine wpQL_not rfl ?_ ?_; (focus (go_simp; done)); (try dsimp only [Act.put]); (try simp only [List.setIfInBounds_toArray, List.set_cons_zero, List.set_cons_succ])))
  (refine wpQL_nil ?_)
  (intro wq hq)
  (refine wpAny_done (by kernel_rfl) ?_ _)
  have HQ := Lib.hid hq
  obtain ⟨⟨f11, fl⟩, _⟩ := HH.out wq 0 (HG0.out _ hq)
  clear hk1 hq
  go_wp2_with fail
  go_loopw [54] (fun kv wr => ∃ k : Nat, k ≤ nh ∧ kv = .int .i64 k ∧ Hid (AccIs w0 wr b d (heldO a e.slot k) K) ∧ Hid (Kept (aF b) wq wr)) (fun k _ => nh - (intOf k).toNat)
  case atStart => exact ⟨0, by omega, rfl, HG0.out _ HQ.out, Kept.refl _ _⟩
  case round =>
    obtain ⟨k, hk, rfl, HA, HK⟩ := hrel
    obtain ⟨⟨q1, q2⟩, HN⟩ := HH.out wr k HA.out
    have hev2 := HEV.out wr ((HQ.out.mono (by simp)).trans HK.out)
    by_cases hlt : k < nh
    · obtain ⟨g, e1, e2, e3, e4, e5, e6⟩ := HN hlt
      have hin : (k : Int) < (nh : Int) := by omega
      have hi0 : (0 : Int) ≤ (k : Int) := by omega
      rw [e1] at q1 ⊢
      by_cases hh : a.hl k = e.slot
      · rw [if_pos hh] at e6
        rw [hh] at e2
        have HA6 := Lib.hid e6
        have HG5 := Lib.hid e5
        clear e6 e5 hh HN
        go_wp2_with fail
        go_roundw
        case rel => exact ⟨k + 1, by omega, by go_num, HA6.out, HK.out.setCell (.inl HG5.out) _⟩
        case measure => simp [intOf]; omega
      · rw [if_neg hh] at e6
        have hb : (a.hl k == e.slot) = false := beq_eq_false_iff_ne.2 hh
        have HA6 := Lib.hid e6
        clear e6 e5 hh HN
        generalize a.hl k = hv at *
        go_wp2_with fail
        go_roundw
        case rel => exact ⟨k + 1, by omega, by go_num, HA6.out, HK.out⟩
        case measure => simp [intOf]; omega
    · obtain rfl : k = nh := by omega
      clear HN
      obtain ⟨aH, haH⟩ : ∃ aH, heldO a e.slot k = aH := ⟨_, rfl⟩
      have hPH : aH.P = a.P := by rw [← haH]; rfl
      have hTH : aH.T = a.T := by rw [← haH]; rfl
      have hthH : ∀ u, aH.th u = a.th u := fun u => by unfold Acc.th; rw [hTH]
      rw [haH] at HA
      have htH : e.slot.toNat < aH.T.length := by rw [hTH]; exact ht
      have HL : Hid (∀ W, Kept [] wr W → (W.cell? ⟨b.g, 9, none⟩ = some (.pointer (some ⟨b.gr, 0, none⟩)) ∧ W.cell? ⟨b.g, 10, none⟩ = some (.slice (some ⟨gT b, 0, none⟩) a.T.length b.cT) ∧ b.g < W.heap.size) ∧ ((W.cell? ⟨w.heap.size, 0, none⟩ = some (.int .i64 e.step) ∧ W.cell? ⟨w.heap.size, 1, none⟩ = some (.int .i64 e.cpu) ∧ W.cell? ⟨w.heap.size, 2, none⟩ = some (.int .i64 e.kind) ∧ W.cell? ⟨w.heap.size, 3, none⟩ = some (.int .i64 e.slot) ∧ W.cell? ⟨w.heap.size, 4, none⟩ = some (.int .u32 e.gen) ∧ W.cell? ⟨w.heap.size, 5, none⟩ = some (.int .i64 e.op) ∧ W.cell? ⟨w.heap.size, 6, none⟩ = some (.int .i64 e.code) ∧ W.cell? ⟨w.heap.size, 7, none⟩ = some (.int .u64 e.n) ∧ w.heap.size < W.heap.size)) ∧ W.cell? ⟨gT b, e.slot.toNat * 31 + 5, none⟩ = some (.bool (a.th e.slot.toNat).loose) ∧ gT b < W.heap.size) := fun W hk => by
        have hA := HA.out.old hk
        have h2 := AccAt.fact HA.out.at' W hk
        have h3 := AccAt.tf hA.at' htH
        rw [hthH] at h3
        rw [hTH, AccAt.gt HA.out.at' htH] at h2
        exact ⟨⟨h2.1, h2.2.1, h2.2.2.2⟩, HEV.out W (((HQ.out.mono (by simp)).trans HK.out).trans (hk.mono (by simp))), h3.1.2.2.2.2.2, h3.2.2.2⟩
      have HALL := Lib.hid (rlAll_any (AccAt.roll HA.out.at') (by rw [hPH]; exact hw.n64))
      rw [hPH] at HALL
      have hl0 := HL.out wr (Kept.refl _ _)
      clear q1 q2 hev2
      go_wp2_with fail
      go_step3
      go_wp2_with fail
      refine (HALL.out).mono ?_
      rintro y w5 ⟨A5, c5, rfl, hF5⟩
      obtain ⟨L, hLd⟩ : ∃ L, allK a.P a.P.length = L := ⟨_, rfl⟩
      have HMEM : Hid (∀ x ∈ L, ∃ u : Nat, x.1 = u ∧ u < a.T.length) := fun x hx => by
        rw [← hLd] at hx
        obtain ⟨u, rfl, h1, _⟩ := allK_mem _ _ x hx
        exact ⟨u, rfl, by rw [hw.tl]; exact h1⟩
      have hVe : V = if (a.th e.slot.toNat).loose || joinL a e.slot e.gen L then freeP { aH with T := a.T.set e.slot.toNat { a.th e.slot.toNat with state := 5 } } e.slot.toNat else { aH with T := a.T.set e.slot.toNat { a.th e.slot.toNat with state := 5 } } := by
        rw [← HV.out, ← hLd, joinL_all, ← haH]
        unfold exitsA heldO
        rw [← hnh, offK_end]
        have es : ((e.slot.toNat : Nat) : Int) = e.slot := Int.toNat_of_nonneg p0
        rw [es]
        rw [p3]
      have HVE := Lib.hid hVe
      obtain ⟨ln, hln⟩ : ∃ ln, L.length = ln := ⟨_, rfl⟩
      have hl64 : ln ≤ 64 := by rw [← hln, ← hLd]; exact Nat.le_trans (allK_len _ _) hw.n64
      rw [hLd, hln] at hF5
      rw [hLd, hln]
      have HF5 := Lib.hid hF5
      have HTC : Hid (∀ W, Kept [] w5 W → ∀ u, u < a.T.length → ((W.cell? ⟨gT b, u * 31 + 22, none⟩ = some (.int .i64 (a.th u).call) ∧ W.cell? ⟨gT b, u * 31 + 23, none⟩ = some (.int .i64 (a.th u).deed.op) ∧ W.cell? ⟨gT b, u * 31 + 26, none⟩ = some (.int .i64 (a.th u).deed.r)) ∧ (W.cell? ⟨gT b, u * 31 + 6 + (a.th u).deed.r.toNat * 2, none⟩ = some (.int .i64 (regA a u).1) ∧ W.cell? ⟨gT b, u * 31 + 6 + (a.th u).deed.r.toNat * 2 + 1, none⟩ = some (.int .u32 (regA a u).2)) ∧ (0 ≤ (a.th u).deed.r ∧ (a.th u).deed.r < 8) ∧ (W.cell? ⟨b.g, 10, none⟩ = some (.slice (some ⟨gT b, 0, none⟩) a.T.length b.cT) ∧ b.g < W.heap.size) ∧ (W.cell? ⟨w.heap.size, 3, none⟩ = some (.int .i64 e.slot) ∧ W.cell? ⟨w.heap.size, 4, none⟩ = some (.int .u32 e.gen) ∧ w.heap.size < W.heap.size) ∧ gT b < W.heap.size)) := fun W hk u hu => by
        have huH : u < aH.T.length := by rw [hTH]; exact hu
        have hkk : Kept [] wr W := HF5.out.2.1.trans hk
        have hA := HA.out.old hkk
        have h2 := AccAt.fact HA.out.at' W hkk
        have h3 := AccAt.tf hA.at' huH
        have h4 := AccAt.df hA.at' huH
        have h6 := hw.deed u hu
        have h5 := AccAt.rf hA.at' huH (r := (a.th u).deed.r.toNat) (by omega)
        rw [hthH] at h3 h4 h5
        rw [hTH, AccAt.gt HA.out.at' htH] at h2
        have h7 := HEV.out W (((HQ.out.mono (by simp)).trans HK.out).trans (hkk.mono (by simp)))
        exact ⟨⟨h3.2.1, h4.1, h4.2.2.2.1⟩, h5, h6.2, ⟨h2.2.1, h2.2.2.2⟩, ⟨h7.2.2.2.1, h7.2.2.2.2.1, h7.2.2.2.2.2.2.2.2⟩, h3.2.2.2⟩
      have HJT := Lib.hid (fun (i : Nat) (x : Int × Nat) (hx : L[i]? = some x) => joinL_take (a := a) (s := e.slot) (g := e.gen) hx)
      have HJY := Lib.hid (fun (i : Nat) (x : Int × Nat) (hx : L[i]? = some x) (hp : joinQ a e.slot e.gen x = true) => joinL_yes (a := a) (s := e.slot) (g := e.gen) hx hp)
      have HJE : Hid (joinL a e.slot e.gen L = joinL a e.slot e.gen (L.take ln)) := by rw [← hln, List.take_length]; exact rfl
      obtain ⟨lo, hlo⟩ : ∃ lo, (a.th e.slot.toNat).loose = lo := ⟨_, rfl⟩
      rw [hlo] at HVE
      rw [hlo]
      have HLN := Lib.hid hln
      clear hF5 hl0 hLd hVe hln hlo HALL
      go_upto_block 2 with fail
      go_cut [8] from 82 (fun s8 wx => s8 = .bool (lo || joinL a e.slot e.gen L) ∧ Hid (Kept [] w5 wx))
      case first =>
        go_wp2_with fail
        go_loopw [8, 81] (fun s8 iv wr => s8 = .bool lo ∧ ∃ i : Nat, i ≤ ln ∧ iv = .int .i64 i ∧ Hid (joinL a e.slot e.gen (L.take i) = false) ∧ Hid (Kept [] w5 wr)) (fun _ i _ => ln - (intOf i).toNat)
        case atStart => exact ⟨rfl, 0, by omega, rfl, Lib.hid (by simp [joinL]), Kept.refl _ _⟩
        case round =>
          obtain ⟨rfl, i, hi, rfl, HN, HK3⟩ := hrel
          have HF2 := Lib.hid (HF5.out.later HK3.out)
          by_cases hlt : i < ln
          · have hlt' : i < L.length := by rw [HLN.out]; exact hlt
            obtain ⟨x, hx⟩ : ∃ x, L[i]? = some x := ⟨_, List.getElem?_eq_getElem hlt'⟩
            obtain ⟨u, ht, hun⟩ := HMEM.out x (List.mem_of_getElem? hx)
            obtain ⟨bb, oo, e1, hb1, hcc⟩ := (Reads.of_own HF2.out.1).cellsK idL 2 idL_len (by omega) (by omega)
            have d0 : wr.cell? ⟨bb, oo + i * 2, none⟩ = some (.int .i64 x.1) := hcc i x hx 0 (by omega)
            have d1 : wr.cell? ⟨bb, oo + i * 2 + 1, none⟩ = some (.int .u32 x.2) := hcc i x hx 1 (by omega)
            have HX := Lib.hid hx
            have HJ := Lib.hid (HJT.out i x hx)
            have HY := Lib.hid (HJY.out i x hx)
            subst e1
            obtain ⟨x1, x2⟩ := x
            simp only at ht d0 d1
            subst ht
            have hin : (i : Int) < (ln : Int) := by omega
            have hi0 : (0 : Int) ≤ (i : Int) := by omega
            have hu0 : (0 : Int) ≤ (u : Int) := by omega
            have hu1 : (u : Int) < (a.T.length : Int) := by omega
            obtain ⟨wc, hwc⟩ : ∃ wc, wr.alloc (.cells #[.int .i64 u, .int .u32 x2] 53) = wc := ⟨_, rfl⟩
            have hB : Blk wc wr.heap.size 53 #[.int .i64 u, .int .u32 x2] := by rw [← hwc]; exact Blk.new wr _ _
            have HKC : Hid (Kept [] wr wc) := by rw [← hwc]; exact (Kept.refl [] _).alloc _
            have HKD := Lib.hid (HK3.out.trans HKC.out)
            have HF14 : Hid (∀ W, Kept [] wc W → (W.cell? ⟨b.g, 10, none⟩ = some (.slice (some ⟨gT b, 0, none⟩) a.T.length b.cT) ∧ b.g < W.heap.size) ∧ W.cell? ⟨wr.heap.size, 0, none⟩ = some (.int .i64 u) ∧ wr.heap.size < W.heap.size) := fun W hk => by
              have h1 := HTC.out W (HKD.out.trans hk) u hun
              have h2 := hB.kept hk (by simp)
              exact ⟨h1.2.2.2.1, h2.cell 0, h2.lt⟩
            have HF15 : Hid (∀ W, Kept [] wc W → ((W.cell? ⟨gT b, u * 31 + 22, none⟩ = some (.int .i64 (a.th u).call) ∧ W.cell? ⟨gT b, u * 31 + 23, none⟩ = some (.int .i64 (a.th u).deed.op) ∧ W.cell? ⟨gT b, u * 31 + 26, none⟩ = some (.int .i64 (a.th u).deed.r)) ∧ (W.cell? ⟨gT b, u * 31 + 6 + (a.th u).deed.r.toNat * 2, none⟩ = some (.int .i64 (regA a u).1) ∧ W.cell? ⟨gT b, u * 31 + 6 + (a.th u).deed.r.toNat * 2 + 1, none⟩ = some (.int .u32 (regA a u).2)) ∧ (W.cell? ⟨w.heap.size, 3, none⟩ = some (.int .i64 e.slot) ∧ W.cell? ⟨w.heap.size, 4, none⟩ = some (.int .u32 e.gen) ∧ w.heap.size < W.heap.size) ∧ gT b < W.heap.size)) := fun W hk => by
              have h1 := HTC.out W (HKD.out.trans hk) u hun
              exact ⟨h1.1, h1.2.1, h1.2.2.2.2⟩
            have hr8 := (HTC.out wc HKD.out u hun).2.2.1
            obtain ⟨r0, r1⟩ := hr8
            have hQ : joinQ a e.slot e.gen ((u : Int), x2) = (decide ((a.th u).call = 3) && (decide ((a.th u).deed.op = 4) && regA a u == (e.slot, e.gen))) := rfl
            rw [hQ] at HJ HY
            clear hcc hx hQ hB
            generalize regA a u = rg at *
            obtain ⟨rg1, rg2⟩ := rg
            simp only at HF15
            go_wp2_with fail
            try rw [hwc]
            (refine wp_region_phases (n := 8) (listed := #[false, false, false, false, false, false, false, false]) (by kernel_rfl) (by rfl) (by rfl) ?_)
            (refine wpAny_phase (fun W => Kept [] wc W) [(0, false), (1, false), (2, false), (3, false), (4, false), (5, false), (6, false), (7, false)] (f := 0) (listed := #[false, false, false, false, false, false, false, false]) (listed' := #[true, true, true, true, true, true, true, true]) (by kernel_rfl) (by kernel_rfl) (by rfl) (Kept.refl [] _).drew (fun d _ _ _ _ h => by cases d <;> exact h) ?_)
            iterate 8 (refine wpQL_take (v := ?_) rfl (by rfl) ?_ ?_; rotate_left; (focus ((intro W hC; have hF := HF14.out W hC; go_simp); try (with_reducible rfl))); (try dsimp only [Act.put]); (try simp only [List.setIfInBounds_toArray, List.set_cons_zero, List.set_cons_succ]))
            (refine wpQL_nil ?_)
            (intro wq hq)
            (refine wpAny_done (by kernel_rfl) ?_ _)
            have HW6 : Hid (∀ W, Kept [] wc W → Kept [] w5 W) := fun W hk => HKD.out.trans hk
            obtain ⟨zc, hzc⟩ : ∃ zc, (a.th u).call = zc := ⟨_, rfl⟩
            obtain ⟨zo, hzo⟩ : ∃ zo, (a.th u).deed.op = zo := ⟨_, rfl⟩
            obtain ⟨zr, hzr⟩ : ∃ zr, (a.th u).deed.r = zr := ⟨_, rfl⟩
            rw [hzc, hzo, hzr] at HF15
            rw [hzc, hzo] at HJ HY
            rw [hzr] at r0 r1
            clear hzc hzo hzr
            by_cases g1 : zc = 3
            · by_cases g2 : zo = 4
              · subst g1
                subst g2
                by_cases g3 : rg1 = e.slot ∧ rg2 = e.gen
                · have hyy := HY.out (by simp [g3])
                  have HYY := Lib.hid hyy
                  obtain ⟨rfl, rfl⟩ := g3
                  clear HJ hyy HY
                  go_wp2_with fail
                  (refine wp_region_phases (n := 28) (listed := #[false, false, false, false, false, false, false, false, false, false, false, false, false, false, false, false, false, false, false, false, false, false, false, false, false, false, false, false]) (by kernel_rfl) (by rfl) (by rfl) ?_)
                  (refine wpAny_phase (fun W => Kept [] wc W) [(0, false), (1, false), (2, false), (3, false), (4, false), (5, false), (6, false), (7, false), (8, false), (9, false), (10, false), (11, false), (12, false), (13, false), (14, false), (15, false), (16, false), (17, false), (18, false), (19, false), (20, false), (21, false), (22, false), (23, false), (24, false), (25, false), (26, false), (27, false)] (f := 0) (listed := #[false, false, false, false, false, false, false, false, false, false, false, false, false, false, false, false, false, false, false, false, false, false, false, false, false, false, false, false]) (listed' := #[true, true, true, true, true, true, true, true, true, true, true, true, true, true, true, true, true, true, true, true, true, true, true, true, true, true, true, true]) (by kernel_rfl) (by kernel_rfl) (by rfl) (hq).drew (fun d _ _ _ _ h => by cases d <;> exact h) ?_)
                  iterate 28 (first | (refine wpQL_take (v := ?_) rfl ?_ ?_ ?_; rotate_left; (focus (first | rfl | (go_simp; done))); (focus ((intro W hC; have hF := HF15.out W hC; go_simp); try (with_reducible rfl))); (try dsimp only [Act.put]); (try simp only [List.setIfInBounds_toArray, List.set_cons_zero, List.set_cons_succ])) | (refine wpQL_not rfl ?_ ?_; (focus (go_simp; done)); (try dsimp only [Act.put]); (try simp only [List.setIfInBounds_toArray, List.set_cons_zero, List.set_cons_succ])))
                  (refine wpQL_nil ?_)
                  (intro wq hq)
                  (refine wpAny_done (by kernel_rfl) ?_ _)
                  have HQ3 := Lib.hid hq
                  go_wp2_with fail
                  go_meet
                  exact ⟨by rw [HYY.out]; simp, HW6.out _ HQ3.out⟩
                · have HR : Hid (joinL a e.slot e.gen (L.take (i + 1)) = false) := Lib.hid (by
                    rw [HJ.out, HN.out]
                    have : ((rg1, rg2) == (e.slot, e.gen)) = false := beq_eq_false_iff_ne.2 (fun hh => g3 ⟨congrArg Prod.fst hh, congrArg Prod.snd hh⟩)
                    rw [this]; rfl)
                  clear HJ HY
                  by_cases g4 : rg1 = e.slot
                  · have g5 : rg2 ≠ e.gen := fun hh => g3 ⟨g4, hh⟩
                    have g6 : ((rg2 : Int) == (e.gen : Int)) = false := beq_eq_false_iff_ne.2 (fun hh => g5 (by omega))
                    subst g4
                    clear g3
                    go_wp2_with fail
                    (refine wp_region_phases (n := 28) (listed := #[false, false, false, false, false, false, false, false, false, false, false, false, false, false, false, false, false, false, false, false, false, false, false, false, false, false, false, false]) (by kernel_rfl) (by rfl) (by rfl) ?_)
                    (refine wpAny_phase (fun W => Kept [] wc W) [(0, false), (1, false), (2, false), (3, false), (4, false), (5, false), (6, false), (7, false), (8, false), (9, false), (10, false), (11, false), (12, false), (13, false), (14, false), (15, false), (16, false), (17, false), (18, false), (19, false), (20, false), (21, false), (22, false), (23, false), (24, false), (25, false), (26, false), (27, false)] (f := 0) (listed := #[false, false, false, false, false, false, false, false, false, false, false, false, false, false, false, false, false, false, false, false, false, false, false, false, false, false, false, false]) (listed' := #[true, true, true, true, true, true, true, true, true, true, true, true, true, true, true, true, true, true, true, true, true, true, true, true, true, true, true, true]) (by kernel_rfl) (by kernel_rfl) (by rfl) (hq).drew (fun d _ _ _ _ h => by cases d <;> exact h) ?_)
                    iterate 28 (first | (refine wpQL_take (v := ?_) rfl ?_ ?_ ?_; rotate_left; (focus (first | rfl | (go_simp; done))); (focus ((intro W hC; have hF := HF15.out W hC; go_simp); try (with_reducible rfl))); (try dsimp only [Act.put]); (try simp only [List.setIfInBounds_toArray, List.set_cons_zero, List.set_cons_succ])) | (refine wpQL_not rfl ?_ ?_; (focus (go_simp; done)); (try dsimp only [Act.put]); (try simp only [List.setIfInBounds_toArray, List.set_cons_zero, List.set_cons_succ])))
                    (refine wpQL_nil ?_)
                    (intro wq hq)
                    (refine wpAny_done (by kernel_rfl) ?_ _)
                    have HQ3 := Lib.hid hq
                    go_wp2_with fail
                    go_roundw
                    case rel => exact ⟨rfl, i + 1, by omega, by go_num, HR.out, HW6.out _ HQ3.out⟩
                    case measure => simp [intOf]; omega
                  · have g6 : (rg1 == e.slot) = false := beq_eq_false_iff_ne.2 g4
                    clear g3 g4
                    go_wp2_with fail
                    (refine wp_region_phases (n := 28) (listed := #[false, false, false, false, false, false, false, false, false, false, false, false, false, false, false, false, false, false, false, false, false, false, false, false, false, false, false, false]) (by kernel_rfl) (by rfl) (by rfl) ?_)
                    (refine wpAny_phase (fun W => Kept [] wc W) [(0, false), (1, false), (2, false), (3, false), (4, false), (5, false), (6, false), (7, false), (8, false), (9, false), (10, false), (11, false), (12, false), (13, false), (14, false), (15, false), (16, false), (17, false), (18, false), (19, false), (20, false), (21, false), (22, false), (23, false), (24, false), (25, false), (26, false), (27, false)] (f := 0) (listed := #[false, false, false, false, false, false, false, false, false, false, false, false, false, false, false, false, false, false, false, false, false, false, false, false, false, false, false, false]) (listed' := #[true, true, true, true, true, true, true, true, true, true, true, true, true, true, true, true, true, true, true, true, true, true, true, true, true, true, true, true]) (by kernel_rfl) (by kernel_rfl) (by rfl) (hq).drew (fun d _ _ _ _ h => by cases d <;> exact h) ?_)
                    iterate 28 (first | (refine wpQL_take (v := ?_) rfl ?_ ?_ ?_; rotate_left; (focus (first | rfl | (go_simp; done))); (focus ((intro W hC; have hF := HF15.out W hC; go_simp); try (with_reducible rfl))); (try dsimp only [Act.put]); (try simp only [List.setIfInBounds_toArray, List.set_cons_zero, List.set_cons_succ])) | (refine wpQL_not rfl ?_ ?_; (focus (go_simp; done)); (try dsimp only [Act.put]); (try simp only [List.setIfInBounds_toArray, List.set_cons_zero, List.set_cons_succ])))
                    (refine wpQL_nil ?_)
                    (intro wq hq)
                    (refine wpAny_done (by kernel_rfl) ?_ _)
                    have HQ3 := Lib.hid hq
                    go_wp2_with fail
                    go_roundw
                    case rel => exact ⟨rfl, i + 1, by omega, by go_num, HR.out, HW6.out _ HQ3.out⟩
                    case measure => simp [intOf]; omega
              · have f2 : (zo == 4) = false := beq_eq_false_iff_ne.2 g2
                have HR : Hid (joinL a e.slot e.gen (L.take (i + 1)) = false) := Lib.hid (by rw [HJ.out, HN.out]; simp [g2])
                clear g2 HJ HY
                subst g1
                go_wp2_with fail
                (refine wp_region_phases (n := 28) (listed := #[false, false, false, false, false, false, false, false, false, false, false, false, false, false, false, false, false, false, false, false, false, false, false, false, false, false, false, false]) (by kernel_rfl) (by rfl) (by rfl) ?_)
                (refine wpAny_phase (fun W => Kept [] wc W) [(0, false), (1, false), (2, false), (3, false), (4, false), (5, false), (6, false), (7, false), (8, false), (9, false), (10, false), (11, false), (12, false), (13, false), (14, false), (15, false), (16, false), (17, false), (18, false), (19, false), (20, false), (21, false), (22, false), (23, false), (24, false), (25, false), (26, false), (27, false)] (f := 0) (listed := #[false, false, false, false, false, false, false, false, false, false, false, false, false, false, false, false, false, false, false, false, false, false, false, false, false, false, false, false]) (listed' := #[true, true, true, true, true, true, true, true, true, true, true, true, true, true, true, true, true, true, true, true, true, true, true, true, true, true, true, true]) (by kernel_rfl) (by kernel_rfl) (by rfl) (hq).drew (fun d _ _ _ _ h => by cases d <;> exact h) ?_)
                iterate 28 (first | (refine wpQL_take (v := ?_) rfl ?_ ?_ ?_; rotate_left; (focus (first | rfl | (go_simp; done))); (focus ((intro W hC; have hF := HF15.out W hC; go_simp); try (with_reducible rfl))); (try dsimp only [Act.put]); (try simp only [List.setIfInBounds_toArray, List.set_cons_zero, List.set_cons_succ])) | (refine wpQL_not rfl ?_ ?_; (focus (go_simp; done)); (try dsimp only [Act.put]); (try simp only [List.setIfInBounds_toArray, List.set_cons_zero, List.set_cons_succ])))
                (refine wpQL_nil ?_)
                (intro wq hq)
                (refine wpAny_done (by kernel_rfl) ?_ _)
                have HQ3 := Lib.hid hq
                go_wp2_with fail
                go_roundw
                case rel => exact ⟨rfl, i + 1, by omega, by go_num, HR.out, HW6.out _ HQ3.out⟩
                case measure => simp [intOf]; omega
            · have f1 : (zc == 3) = false := beq_eq_false_iff_ne.2 g1
              have HR : Hid (joinL a e.slot e.gen (L.take (i + 1)) = false) := Lib.hid (by rw [HJ.out, HN.out]; simp [g1])
              clear g1 HJ HY
              go_wp2_with fail
              (refine wp_region_phases (n := 28) (listed := #[false, false, false, false, false, false, false, false, false, false, false, false, false, false, false, false, false, false, false, false, false, false, false, false, false, false, false, false]) (by kernel_rfl) (by rfl) (by rfl) ?_)
              (refine wpAny_phase (fun W => Kept [] wc W) [(0, false), (1, false), (2, false), (3, false), (4, false), (5, false), (6, false), (7, false), (8, false), (9, false), (10, false), (11, false), (12, false), (13, false), (14, false), (15, false), (16, false), (17, false), (18, false), (19, false), (20, false), (21, false), (22, false), (23, false), (24, false), (25, false), (26, false), (27, false)] (f := 0) (listed := #[false, false, false, false, false, false, false, false, false, false, false, false, false, false, false, false, false, false, false, false, false, false, false, false, false, false, false, false]) (listed' := #[true, true, true, true, true, true, true, true, true, true, true, true, true, true, true, true, true, true, true, true, true, true, true, true, true, true, true, true]) (by kernel_rfl) (by kernel_rfl) (by rfl) (hq).drew (fun d _ _ _ _ h => by cases d <;> exact h) ?_)
              iterate 28 (first | (refine wpQL_take (v := ?_) rfl ?_ ?_ ?_; rotate_left; (focus (first | rfl | (go_simp; done))); (focus ((intro W hC; have hF := HF15.out W hC; go_simp); try (with_reducible rfl))); (try dsimp only [Act.put]); (try simp only [List.setIfInBounds_toArray, List.set_cons_zero, List.set_cons_succ])) | (refine wpQL_not rfl ?_ ?_; (focus (go_simp; done)); (try dsimp only [Act.put]); (try simp only [List.setIfInBounds_toArray, List.set_cons_zero, List.set_cons_succ])))
              (refine wpQL_nil ?_)
              (intro wq hq)
              (refine wpAny_done (by kernel_rfl) ?_ _)
              have HQ3 := Lib.hid hq
              go_wp2_with fail
              go_roundw
              case rel => exact ⟨rfl, i + 1, by omega, by go_num, HR.out, HW6.out _ HQ3.out⟩
              case measure => simp [intOf]; omega
          · obtain rfl : i = ln := by omega
            have HR := Lib.hid (HJE.out.trans HN.out)
            go_wp2_with fail
            go_meet
            exact ⟨by rw [HR.out]; simp, HK3.out⟩
      case rest =>
        obtain ⟨rfl, HC⟩ := hcut
        have HKS : Hid (Kept [] wr wc) := HF5.out.2.1.trans HC.out
        obtain ⟨q, hqq⟩ : ∃ q, (lo || joinL a e.slot e.gen L) = q := ⟨_, rfl⟩
        obtain ⟨a5, ha5⟩ : ∃ a5 : Acc, aH.setT e.slot.toNat { a.th e.slot.toNat with state := 5 } = a5 := ⟨_, rfl⟩
        have HA0 : AccIs w0 wc b d aH K := HA.out.old HKS.out
        have hst := HA0.st (Kept.refl _ _) htH 2 (by omega) (.int .i64 5) { a.th e.slot.toNat with state := 5 } (by rw [hthH]; rfl) wc (Kept.refl _ _)
        rw [ha5] at hst
        obtain ⟨⟨v2, s1⟩, s2, s3⟩ := hst
        have s4 := (AccAt.tf HA0.at' htH).2.2.2
        have HA5 := Lib.hid s3
        have HVQ := HVE.out
        have ha6 : ({ aH with T := a.T.set e.slot.toNat { a.th e.slot.toNat with state := 5 } } : Acc) = a5 := by rw [← ha5, ← hTH]; rfl
        rw [ha6] at HVQ
        rw [hqq] at HVQ ⊢
        have HVR := Lib.hid HVQ
        have hbs : b.g ∉ [gT b] := by simp; exact fun hh => (AccAt.gT_ne HA0.at' htH).1 hh.symm
        obtain ⟨w6, hw6⟩ : ∃ w6, wc.setCell ⟨gT b, e.slot.toNat * 31 + 2, none⟩ (.int .i64 5) = w6 := ⟨_, rfl⟩
        clear s3 HVQ HA0
        rw [hw6] at HA5
        have es : ((e.slot.toNat : Nat) : Int) = e.slot := Int.toNat_of_nonneg p0
        have HFR : Hid (∀ W, Kept [] w6 W → Calls Try.prog 86 #[.pointer (some ⟨b.gr, 0, none⟩), .agg #[.int .i64 e.slot, .int .u32 e.gen]] W fun y w' => y = .returned (.bool true) ∧ AccIs w0 w' b d (freeP a5 e.slot.toNat) K) := fun W hk => by
          have e1 := HA5.out.old hk
          have hh : hasP a5.P e.slot.toNat e.gen = true := by rw [← ha5]; show hasP aH.P e.slot.toNat e.gen = true; rw [hPH, es]; exact runsA_has hr
          have h1 := rlFree_ok (AccAt.roll e1.at') e.slot.toNat e.gen hh
          rw [es] at h1
          refine h1.mono fun y w' hy => ⟨hy.1, ?_⟩
          exact e1.setP (by simp) hy.2.1 hy.2.2
        have HK6 : Hid (Kept (aF b) wb w6) := by
          rw [← hw6]
          exact (((HQ.out.mono (by simp)).trans HK.out).trans (HKS.out.mono (by simp))).setCell (.inl (gT_aF h.at' ht)) _
        have HF20 : Hid (∀ W, Kept [] w6 W → (W.cell? ⟨b.g, 9, none⟩ = some (.pointer (some ⟨b.gr, 0, none⟩)) ∧ b.g < W.heap.size) ∧ W.cell? ⟨w.heap.size, 3, none⟩ = some (.int .i64 e.slot) ∧ W.cell? ⟨w.heap.size, 4, none⟩ = some (.int .u32 e.gen) ∧ w.heap.size < W.heap.size) := fun W hk => by
          have h2 := AccAt.fact HA5.out.at' W hk
          have h7 := HEV.out W (HK6.out.trans (hk.mono (by simp)))
          exact ⟨⟨h2.1, h2.2.2.2⟩, h7.2.2.2.1, h7.2.2.2.2.1, h7.2.2.2.2.2.2.2.2⟩
        cases q
        · rw [if_neg (by simp)] at HVR
          go_wp2_with fail
          (try simp only [Exit.noGoto])
          go_ret
          exact ⟨rfl, by rw [HVR.out]; exact HA5.out⟩
        · rw [if_pos rfl] at HVR
          go_wp2_with fail
          try rw [hw6]
          (refine wp_region_phases (n := 7) (listed := #[false, false, false, false, false, false, false]) (by kernel_rfl) (by rfl) (by rfl) ?_)
          (refine wpAny_phase (fun W => Kept [] w6 W) [(0, false), (1, false), (2, false), (3, false), (4, false), (5, false)] (f := 1) (listed := #[false, false, false, false, false, false, false]) (listed' := #[true, true, true, true, true, true, false]) (by kernel_rfl) (by kernel_rfl) (by rfl) (Kept.refl [] _).drew (fun d _ _ _ _ h => by cases d <;> exact h) ?_)
          iterate 6 (refine wpQL_take (v := ?_) rfl (by rfl) ?_ ?_; rotate_left; (focus ((intro W hC; have hF := HF20.out W hC; go_simp); try (with_reducible rfl))); (try dsimp only [Act.put]); (try simp only [List.setIfInBounds_toArray, List.set_cons_zero, List.set_cons_succ]))
          (refine wpQL_nil ?_)
          (intro wq hq)
          (refine wpAny_loud 6 (fuel := 0) (listed := #[true, true, true, true, true, true, false]) (listed' := #[true, true, true, true, true, true, true]) (by kernel_rfl) (by rfl) nth_6 (fun K hK => ?_))
          go_simp
          refine (HFR.out _ hq).mono ?_
          rintro y w8 ⟨rfl, hA8⟩
          have HA8 := Lib.hid hA8
          clear hA8
          (refine hK.out _ _ ?_; clear hK K)
          (try simp only [Act.put, List.setIfInBounds_toArray, List.set_cons_zero, List.set_cons_succ])
          (refine wpAny_done (by kernel_rfl) ?_ _)
          go_wp2_with fail
          (try simp only [Exit.noGoto])
          go_ret
          exact ⟨rfl, by rw [HVR.out]; exact HA8.out⟩

end Go.Proofs.Ytccodklfplfleaa
