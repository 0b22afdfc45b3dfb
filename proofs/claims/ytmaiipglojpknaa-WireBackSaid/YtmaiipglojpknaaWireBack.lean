/- The walk of WireBack. -/
import Derived.Test.YtmaiipglojpknaaWireT
import Derived.Test.YtmaiipglojpknaaWireTh
import Derived.Test.YtmaiipglojpknaaWirePlain2
import Derived.Deep.RegionHeld3
import Derived.Deep.RegionWith
namespace Go.Proofs.Ytmaiipglojpknaa
open Go.RowKit

def encAll (ts : List Th) : List UInt8 := ts.flatMap fun t => encT t.kind t.x t.b
theorem encAll_len (ts : List Th) : (encAll ts).length ≤ 69 * ts.length := by
  induction ts with
  | nil => simp [encAll]
  | cons t ts ih =>
    have := encT_len t.kind t.x t.b
    simp only [encAll, List.flatMap_cons, List.length_append, List.length_cons] at ih ⊢
    omega
theorem encAll_snoc {ts : List Th} {k : Nat} {t : Th} (h : ts[k]? = some t) : encAll (ts.take (k + 1)) = encAll (ts.take k) ++ encT t.kind t.x t.b := by
  obtain ⟨hk, rfl⟩ := List.getElem?_eq_some_iff.1 h
  unfold encAll
  rw [List.take_succ_eq_append_getElem hk, List.flatMap_append]
  simp
theorem encAll_next {ts : List Th} {N k : Nat} {t : Th} (h : ts[k]? = some t) (hN : k < N) : encAll ((ts.take N).drop k) = encT t.kind t.x t.b ++ encAll ((ts.take N).drop (k + 1)) := by
  obtain ⟨hk, rfl⟩ := List.getElem?_eq_some_iff.1 h
  have hk2 : k < (ts.take N).length := by simp; omega
  rw [List.drop_eq_getElem_cons hk2]
  simp [encAll]

theorem IsR.drewN {w : World} {g : Nat} {A : Option Addr} {c : Nat} {s : RS} (h : IsR w g A c s) (n : Nat) : IsR (w.drewN n) g A c s := h
theorem IsR.alloc {w : World} {g : Nat} {A : Option Addr} {c : Nat} {s : RS} (h : IsR w g A c s) (o : Obj) : IsR (w.alloc o) g A c s := h.kept ((Kept.refl [] w).alloc o) (by simp) (by simp)

/-- What holds at the head of each round that reads. -/
structure BRel (w wr : World) (bs : List UInt8) (g : Nat) (A : Option Addr) (c : Nat) : Prop where
  isR : IsR wr g A c (0, bs)
  kept : Kept [] w wr
  newG : w.heap.size ≤ g
  newA : ∀ ad, A = some ad → w.heap.size ≤ ad.block

theorem BRel.goes {w wr w2 w3 : World} {bs bs' : List UInt8} {g : Nat} {A : Option Addr} {c : Nat} (h : BRel w wr bs g A c) (h2 : Kept [] wr w2) (h3 : RGoes w2 g A (0, bs') w3) : ∃ A' c', BRel w w3 bs' g A' c' := by
  obtain ⟨A', c', k1, k2, k3⟩ := h3
  refine ⟨A', c', k1, (h.kept.trans h2).trans' k2 fun q hq => .inr (by simp at hq; subst hq; exact h.newG), h.newG, fun ad e => ?_⟩
  obtain ⟨a0, e0, b0⟩ := k3 ad e
  rw [b0]; exact h.newA a0 e0

theorem remB4 {kind r : Nat} (h : kind % 4 = r) (q : Nat) : (((kind : Int) % 4) == (q : Int)) = decide (r = q) := by
  rw [Bool.eq_iff_iff]; simp; omega

theorem IsR.drew {w : World} {g : Nat} {A : Option Addr} {c : Nat} {s : RS} (h : IsR w g A c s) : IsR w.drew g A c s := h

/-- What a reading call leaves: the reader goes on, and the cells of block b are as they were. -/
def Left (W w' : World) (g : Nat) (A : Option Addr) (s : RS) (b : Nat) : Prop := RGoes W g A s w' ∧ ∀ i, w'.cell? ⟨b, i, none⟩ = W.cell? ⟨b, i, none⟩
theorem left_of {W w' : World} {g : Nat} {A : Option Addr} {s : RS} {b : Nat} (h : RGoes W g A s w') (hb : b < W.heap.size) (hne : g ≠ b) : Left W w' g A s b := by
  refine ⟨h, fun i => ?_⟩
  obtain ⟨_, _, _, hk, _⟩ := h
  exact hk.cell hb (by simpa using Ne.symm hne)

set_option maxHeartbeats 2000000 in
theorem wireBack_any (A : Option Addr) (n c : Nat) (ts : List Th) (w : World) (hT : Things w A ts) (hn : ts.length = n) :
    Calls Try.prog 6 #[.slice A n c] w fun e w' => e = .returned (.bool true) ∧ Kept [] w w' := by
  subst hn
  have hsm := hT.small
  have HT := Lib.hid hT
  clear hT
  obtain ⟨N, hN1, hN2, hcase⟩ : ∃ N : Nat, N ≤ 30 ∧ N ≤ ts.length ∧ (30 < ts.length ∧ 30 ≤ N ∨ ts.length ≤ 30 ∧ ts.length ≤ N) := by
    by_cases h : 30 < ts.length
    · exact ⟨30, by omega, by omega, .inl ⟨h, by omega⟩⟩
    · exact ⟨ts.length, by omega, by omega, .inr ⟨by omega, by omega⟩⟩
  go_enter Try.func6, Try.ntmps6
  go_wp2_with fail
  refine (wnew_any 4000 w).mono ?_
  rintro e w1 ⟨rfl, hW1, hk1⟩
  have HW1 := Lib.hid hW1
  clear hW1
  obtain ⟨g, hg⟩ : ∃ g, w.heap.size = g := ⟨_, rfl⟩
  rw [hg]
  have HG := Lib.hid hg
  have hgw : w.heap.size ≤ g := by omega
  clear hg
  rcases hcase with ⟨hc1, hc2⟩ | ⟨hc1, hc2⟩
  all_goals
    go_wp2_with fail
    go_loopw [5] (fun i wr => ∃ (k : Nat) (A0 : Option Addr) (c0 : Nat), k ≤ N ∧ i = .int .i64 k ∧ IsW wr g A0 c0 0 (encAll (ts.take k)) (4000 - (encAll (ts.take k)).length) ∧ Kept [] w wr ∧ ∀ q, q ∈ fpW g A0 → w.heap.size ≤ q) (fun i _ => 30 - (intOf i).toNat)
    case atStart =>
      refine ⟨0, none, 0, by omega, rfl, HG.out ▸ HW1.out, hk1, fun q hq => ?_⟩
      simp [fpW] at hq; omega
    case round =>
      obtain ⟨k, A0, c0, hkN, rfl, hW, hkw, hnew⟩ := hrel
      have hlen : (encAll (ts.take k)).length ≤ 2070 := by
        have := encAll_len (ts.take k)
        have h2 : (ts.take k).length ≤ 30 := by simp; omega
        omega
      have HW := Lib.hid hW
      clear hW
      by_cases hlt : k < N
      · obtain ⟨t, ht⟩ : ∃ t, ts[k]? = some t := ⟨_, List.getElem?_eq_getElem (by omega)⟩
        obtain ⟨b, o, rfl, hlt3, h0, h1, h2, h3, hok⟩ := (HT.out.old hkw).at_ k t ht
        have HOK := Lib.hid hok
        have HTK := Lib.hid ht
        clear ht hok
        generalize hbs : encAll (ts.take k) = bs at *
        have HBS := Lib.hid hbs
        clear hbs
        go_wp2_with fail
        refine (write4 g A0 c0 0 bs (4000 - bs.length) t.kind t.x t.A t.m t.c t.most t.b wr HW.out (by omega) (by omega) HOK.out.kind HOK.out.x HOK.out.reads HOK.out.mc HOK.out.cm).mono ?_
        rintro e w2 ⟨rfl, hgo⟩
        have HGO := Lib.hid hgo
        clear hgo h0 h1 h2 h3
        go_wp2_with fail
        go_roundw
        case rel =>
          obtain ⟨A2, c2, k1, k2, k3⟩ := HGO.out
          have hl69 := encT_len t.kind t.x t.b
          have hst : putS (0, bs, 4000 - bs.length) (encT t.kind t.x t.b) = (0, bs ++ encT t.kind t.x t.b, 4000 - bs.length - (encT t.kind t.x t.b).length) := by
            unfold putS; rw [if_neg (by simp), if_neg (by simp only; omega)]
          rw [hst] at k1
          refine ⟨k + 1, A2, c2, by omega, by go_num, ?_, hkw.trans' k2 fun q hq => .inr (hnew q hq), fun q hq => ?_⟩
          · rw [encAll_snoc HTK.out, HBS.out, List.length_append, Nat.sub_add_eq]; exact k1
          · have := hkw.size
            rcases k3 q hq with h | h
            · exact hnew q h
            · omega
        case measure => simp [intOf]; omega
      · obtain rfl : k = N := by omega
        generalize hbs : encAll (ts.take k) = bs at *
        have HBS := Lib.hid hbs
        clear hbs
        go_wp2_with fail
        refine (wdone_ok g A0 c0 bs (4000 - bs.length) wr HW.out (by omega)).mono ?_
        rintro e w2 ⟨v, rfl, hown, hk2, hnew2⟩
        obtain ⟨A2, c2, rfl, _, _⟩ := own_form hown
        have HR2 := Lib.hid (Reads.of_own hown)
        have hkw2 := hkw.trans hk2
        clear hown hnew2 hk2 hkw HW hnew
        go_wp2_with fail
        refine (rread_any A2 _ c2 bs w2 HR2.out (by omega)).mono ?_
        rintro e w3 ⟨gr, A3, c3, rfl, hR3, hk3, hg3, hA3⟩
        have hs2 := hkw2.size
        have hrel3 : BRel w w3 bs gr A3 c3 := ⟨hR3, hkw2.trans hk3, by omega, fun ad e => by have := hA3 ad e; omega⟩
        have HB3 := Lib.hid hrel3
        clear hrel3 hR3 hk3 hg3 hA3 HR2 hkw2 hs2
        go_wp2_with fail
        go_loopw [9] (fun i wr => ∃ (j : Nat) (A4 : Option Addr) (c4 : Nat), j ≤ k ∧ i = .int .i64 j ∧ BRel w wr (encAll ((ts.take k).drop j)) gr A4 c4) (fun i _ => 30 - (intOf i).toNat)
        case atStart => exact ⟨0, A3, c3, by omega, rfl, by rw [List.drop_zero, HBS.out]; exact HB3.out⟩
        case round =>
          obtain ⟨j, A4, c4, hjk, rfl, hrel4⟩ := hrel
          have HB := Lib.hid hrel4
          clear hrel4
          by_cases hlt4 : j < k
          · obtain ⟨t, ht⟩ : ∃ t, ts[j]? = some t := ⟨_, List.getElem?_eq_getElem (by omega)⟩
            obtain ⟨b, o, rfl, hlt3, h0, h1, h2, h3, hok⟩ := (HT.out.old HB.out.kept).at_ j t ht
            obtain ⟨rest, hrest⟩ : ∃ rest, encAll ((ts.take k).drop (j + 1)) = rest := ⟨_, rfl⟩
            have hbs4 : BRel w wr (encT t.kind t.x t.b ++ rest) gr A4 c4 := by rw [← hrest, ← encAll_next ht hlt4]; exact HB.out
            have HB4 := Lib.hid hbs4
            have HRE := Lib.hid hrest
            have hkd := hok.kind
            have hx := hok.x
            have HOW : Hid (ThOk w t) := by obtain ⟨_, _, _, _, _, _, _, _, hok0⟩ := HT.out.at_ j t ht; exact hok0
            clear ht hok hbs4 hrest HB
            obtain ⟨kind, x, At, m, ct, most, tb⟩ := t
            simp only at h0 h1 h2 h3 hkd hx HB4 HOW
            obtain ⟨q, hq⟩ : ∃ q, kind % 4 = q := ⟨_, rfl⟩
            have hq4 : q < 4 := by omega
            have b0 := remB4 hq 0
            have b1 := remB4 hq 1
            have b2 := remB4 hq 2
            have HQ := Lib.hid hq
            clear hq
            have hwb : wr.heap.size < (wr.alloc (.cells #[.int .u8 kind, .int .u64 x, .slice At m ct, .int .i64 most] 29)).heap.size := by simp
            have hgr : gr < wr.heap.size := HB4.out.isR.1.lt
            match q, hq4 with
            | 0, _ =>
              simp at b0 b1 b2
              have he : encT kind x tb = [UInt8.ofNat (x % 256)] := by unfold encT; rw [if_pos HQ.out]
              have hb5 := HB4.out
              rw [he] at hb5
              have HB5 := Lib.hid hb5
              have HC : Hid (Calls Try.prog 21 #[.pointer (some ⟨gr, 0, none⟩)] (wr.alloc (.cells #[.int .u8 kind, .int .u64 x, .slice At m ct, .int .i64 most] 29)).drew fun e w' => e = .returned (.int .u8 ((x : Int) % 256)) ∧ Left (wr.alloc (.cells #[.int .u8 kind, .int .u64 x, .slice At m ct, .int .i64 most] 29)).drew w' gr A4 (0, rest) wr.heap.size) := by
                refine (rbyte_any gr A4 c4 (0, [UInt8.ofNat (x % 256)] ++ rest) _ (HB5.out.isR.alloc _).drew).mono fun e w' ⟨h1, h2⟩ => ?_
                have e1 : byteS (0, [UInt8.ofNat (x % 256)] ++ rest) = ((0, rest), UInt8.ofNat (x % 256)) := byte_back _ _
                rw [e1] at h1 h2
                exact ⟨by rw [h1, mod256]; rfl, left_of h2 (by simp) (by omega)⟩
              clear hb5 he HB4
              have hwr : IntKind.u8.wrap (x : Int) = (x : Int) % 256 := by simp [IntKind.wrap, IntKind.bits, IntKind.signed]
              go_wp2_with fail
              go_region_held3 (fun w' => w'.cell? ⟨wr.heap.size, 1, none⟩ = some (.int .u64 x)) (go_keep) (first | (go_at_call 21; refine HC.out.mono ?_; rintro e w5 ⟨rfl, hgo5, hc5⟩))
              go_wp2_with fail
              go_roundw
              case rel =>
                obtain ⟨A', c', hh⟩ := HB5.out.goes ((Kept.refl [] wr).alloc (.cells #[.int .u8 kind, .int .u64 x, .slice At m ct, .int .i64 most] 29)).drew hgo5
                exact ⟨j + 1, A', c', by omega, by go_num, by rw [HRE.out]; exact hh⟩
              case measure => simp [intOf]; omega
            | 1, _ =>
              simp at b0 b1 b2
              have he : encT kind x tb = encNum x := by unfold encT; rw [if_neg (by rw [HQ.out]; omega), if_pos HQ.out]
              have hb5 := HB4.out
              rw [he] at hb5
              have HB5 := Lib.hid hb5
              have HC : Hid (Calls Try.prog 16 #[.pointer (some ⟨gr, 0, none⟩)] (wr.alloc (.cells #[.int .u8 kind, .int .u64 x, .slice At m ct, .int .i64 most] 29)).drew fun e w' => e = .returned (.int .u64 x) ∧ Left (wr.alloc (.cells #[.int .u8 kind, .int .u64 x, .slice At m ct, .int .i64 most] 29)).drew w' gr A4 (0, rest) wr.heap.size) := by
                refine (rnum_any gr A4 c4 (0, encNum x ++ rest) _ (HB5.out.isR.alloc _).drew).mono fun e w' ⟨h1, h2⟩ => ?_
                rw [num_back x rest hx] at h1 h2
                exact ⟨h1, left_of h2 (by simp) (by omega)⟩
              clear hb5 he HB4
              go_wp2_with fail
              go_region_held3 (fun w' => w'.cell? ⟨wr.heap.size, 1, none⟩ = some (.int .u64 x)) (go_keep) (first | (go_at_call 16; refine HC.out.mono ?_; rintro e w5 ⟨rfl, hgo5, hc5⟩))
              go_wp2_with fail
              go_roundw
              case rel =>
                obtain ⟨A', c', hh⟩ := HB5.out.goes ((Kept.refl [] wr).alloc (.cells #[.int .u8 kind, .int .u64 x, .slice At m ct, .int .i64 most] 29)).drew hgo5
                exact ⟨j + 1, A', c', by omega, by go_num, by rw [HRE.out]; exact hh⟩
              case measure => simp [intOf]; omega
            | 2, _ =>
              simp at b0 b1 b2
              have he : encT kind x tb = encTruth (x % 2 == 1) := by unfold encT; rw [if_neg (by rw [HQ.out]; omega), if_neg (by rw [HQ.out]; omega), if_pos HQ.out]
              have hb5 := HB4.out
              rw [he] at hb5
              have HB5 := Lib.hid hb5
              have ht : (x % 2 == 1) = ((x : Int).tmod 2 == 1) := by rw [Int.tmod_eq_emod_of_nonneg (by omega), Bool.eq_iff_iff]; simp; omega
              have HC : Hid (Calls Try.prog 22 #[.pointer (some ⟨gr, 0, none⟩)] (wr.alloc (.cells #[.int .u8 kind, .int .u64 x, .slice At m ct, .int .i64 most] 29)).drew fun e w' => e = .returned (.bool ((x : Int).tmod 2 == 1)) ∧ Left (wr.alloc (.cells #[.int .u8 kind, .int .u64 x, .slice At m ct, .int .i64 most] 29)).drew w' gr A4 (0, rest) wr.heap.size) := by
                refine (rtruth_any gr A4 c4 (0, encTruth (x % 2 == 1) ++ rest) _ (HB5.out.isR.alloc _).drew).mono fun e w' ⟨h1, h2⟩ => ?_
                rw [truth_back] at h1 h2
                rw [ht] at h1
                exact ⟨h1, left_of h2 (by simp) (by omega)⟩
              clear hb5 he HB4 ht
              go_wp2_with fail
              go_region_held3 (fun w' => w'.cell? ⟨wr.heap.size, 1, none⟩ = some (.int .u64 x)) (go_keep) (first | (go_at_call 22; refine HC.out.mono ?_; rintro e w5 ⟨rfl, hgo5, hc5⟩))
              go_wp2_with fail
              go_roundw
              case rel =>
                obtain ⟨A', c', hh⟩ := HB5.out.goes ((Kept.refl [] wr).alloc (.cells #[.int .u8 kind, .int .u64 x, .slice At m ct, .int .i64 most] 29)).drew hgo5
                exact ⟨j + 1, A', c', by omega, by go_num, by rw [HRE.out]; exact hh⟩
              case measure => simp [intOf]; omega
            | 3, _ =>
              simp at b0 b1 b2
              have he : encT kind x tb = encBytes (tb.take 60) := by unfold encT; rw [if_neg (by rw [HQ.out]; omega), if_neg (by rw [HQ.out]; omega), if_neg (by rw [HQ.out]; omega)]
              have hb5 := HB4.out
              rw [he] at hb5
              have hl6 : (tb.take 60).length ≤ 60 := by simp; omega
              have HS : Hid (∀ w' : World, Kept [] w w' → Calls Try.prog 24 #[.slice At m ct] w' fun e w'' => (e = .returned (.slice At (tb.take 60).length ct) ∧ Reads w' 1 At (tb.take 60).length ((tb.take 60).map B)) ∧ w' = w'') := fun w' hk' => short4 At m ct tb w' (HOW.out.reads.old hk') HOW.out.mc HOW.out.cm
              generalize tb.take 60 = b6 at *
              have HB5 := Lib.hid hb5
              have HC : Hid (Calls Try.prog 23 #[.pointer (some ⟨gr, 0, none⟩), .int .i64 60] (wr.alloc (.cells #[.int .u8 kind, .int .u64 x, .slice At m ct, .int .i64 most] 29)).drew fun e w' => ∃ A' m' c', e = .returned (.slice A' m' c') ∧ Reads w' 1 A' m' (b6.map B) ∧ Kept [] w w' ∧ Left (wr.alloc (.cells #[.int .u8 kind, .int .u64 x, .slice At m ct, .int .i64 most] 29)).drew w' gr A4 (0, rest) wr.heap.size) := by
                refine (rbytes_any gr A4 c4 (0, encBytes b6 ++ rest) 60 _ (HB5.out.isR.alloc _).drew (by omega) (by omega)).mono fun e w' ⟨v, h1, h2, h3⟩ => ?_
                rw [bytes_back b6 rest hl6] at h2 h3
                obtain ⟨A', m', c', rfl, hr', _⟩ := h2
                refine ⟨A', m', c', h1, hr', ?_, left_of h3 (by simp) (by omega)⟩
                obtain ⟨_, _, _, hk', _⟩ := h3
                exact ((HB5.out.kept.alloc _).drew).trans' hk' fun q hq => .inr (by simp at hq; subst hq; exact HB5.out.newG)
              clear hb5 he HB4
              go_wp2_with fail
              go_region_with (first | (go_at_call 23; refine HC.out.mono ?_; rintro e w5 ⟨A', m', c', rfl, hr5, hkw5, hgo5, hc5⟩; have hst5 := run_string_of (P := Try.prog) (c := c') hr5 25 9 5 Try.underlying25 Try.underlying5 Try.underlying9) | (go_at_call 24; refine (HS.out _ hkw5).mono ?_; rintro e w6 ⟨⟨rfl, hr6⟩, rfl⟩; have hst6 := run_string_of (P := Try.prog) (c := ct) hr6 25 9 5 Try.underlying25 Try.underlying5 Try.underlying9))
              all_goals
                go_wp2_with fail
                go_roundw
                case rel =>
                  obtain ⟨A', c', hh⟩ := HB5.out.goes ((Kept.refl [] wr).alloc (.cells #[.int .u8 kind, .int .u64 x, .slice At m ct, .int .i64 most] 29)).drew hgo5
                  exact ⟨j + 1, A', c', by omega, by go_num, by rw [HRE.out]; exact hh⟩
                case measure => simp [intOf]; omega
          · obtain rfl : j = k := by omega
            have hnil : encAll ((ts.take j).drop j) = [] := by rw [List.drop_eq_nil_of_le (by simp; omega)]; rfl
            have hR := HB.out.isR
            rw [hnil] at hR
            have HD := Lib.hid (rdone_any gr A4 c4 (0, []) wr hR)
            have HK := Lib.hid HB.out.kept
            clear hnil hR HB
            go_wp2_with (first | (go_at_call 12; refine (awake4 _).mono ?_; rintro e w' ⟨rfl, hk3⟩) | (go_at_call 18; refine HD.out.mono ?_; rintro e w5 ⟨rfl, rfl⟩; rw [show doneS (0, []) = 0 from rfl]))
            go_ret
            exact ⟨rfl, HK.out.trans hk3⟩

end Go.Proofs.Ytmaiipglojpknaa
