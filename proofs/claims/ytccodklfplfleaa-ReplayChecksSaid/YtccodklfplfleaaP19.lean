/- The moves of a walk through a region that draws its order, by hand: take an operation first; branch over those that may come up (printed by a program: gen/region.py); Package roll, walked: places taken and freed. -/
import Derived.Deep.RegionHeld3
import Derived.Test.YtccodklfplfleaaRpR

/- The moves of a walk through a region that draws its order, by hand: take an operation first; branch over those that may come up (printed by a program: gen/region.py). -/
namespace Go.Proofs.Ytccodklfplfleaa
open Go

section
variable {P : Program} {md : Region.Mode} {Q : Exit → Act → World → Prop} {S : World → Prop} {fuel : Nat} {listed : Array Bool} {a : Act} {w : World}

variable {o0 o1 o2 o3 o4 o5 o6 o7 o8 o9 o10 o11 o12 o13 o14 o15 o16 o17 o18 o19 o20 o21 o22 o23 o24 o25 o26 o27 o28 o29 : Oper}

theorem rtake_0 {r : List Oper} {v : Value} (hs : Region.noSelect (List.toArray (o0::r)) = true) (hf : Region.free md (List.toArray (o0::r)) listed 0 = true) (hr : (Region.ready md (List.toArray (o0::r)) listed).contains 0 = true)
    (hQ : ∀ c a w, Q (.panic c) (a.put o0.dst v) w → Q (.panic c) a w) (hy : YieldsIf P (List.toArray (o0::r)) S o0 v a) (hS : S w) (h : wpAnyH P md (List.toArray (o0::r)) Q S fuel (listed.setIfInBounds 0 true) (a.put o0.dst v) w) : wpAnyH P md (List.toArray (o0::r)) Q S (fuel + 1) listed a w :=
  wpAnyH_take (i := 0) rfl hs hf hr hQ hy hS h
theorem rtake_1 {r : List Oper} {v : Value} (hs : Region.noSelect (List.toArray (o0::o1::r)) = true) (hf : Region.free md (List.toArray (o0::o1::r)) listed 1 = true) (hr : (Region.ready md (List.toArray (o0::o1::r)) listed).contains 1 = true)
    (hQ : ∀ c a w, Q (.panic c) (a.put o1.dst v) w → Q (.panic c) a w) (hy : YieldsIf P (List.toArray (o0::o1::r)) S o1 v a) (hS : S w) (h : wpAnyH P md (List.toArray (o0::o1::r)) Q S fuel (listed.setIfInBounds 1 true) (a.put o1.dst v) w) : wpAnyH P md (List.toArray (o0::o1::r)) Q S (fuel + 1) listed a w :=
  wpAnyH_take (i := 1) rfl hs hf hr hQ hy hS h
theorem rtake_2 {r : List Oper} {v : Value} (hs : Region.noSelect (List.toArray (o0::o1::o2::r)) = true) (hf : Region.free md (List.toArray (o0::o1::o2::r)) listed 2 = true) (hr : (Region.ready md (List.toArray (o0::o1::o2::r)) listed).contains 2 = true)
    (hQ : ∀ c a w, Q (.panic c) (a.put o2.dst v) w → Q (.panic c) a w) (hy : YieldsIf P (List.toArray (o0::o1::o2::r)) S o2 v a) (hS : S w) (h : wpAnyH P md (List.toArray (o0::o1::o2::r)) Q S fuel (listed.setIfInBounds 2 true) (a.put o2.dst v) w) : wpAnyH P md (List.toArray (o0::o1::o2::r)) Q S (fuel + 1) listed a w :=
  wpAnyH_take (i := 2) rfl hs hf hr hQ hy hS h
theorem rtake_3 {r : List Oper} {v : Value} (hs : Region.noSelect (List.toArray (o0::o1::o2::o3::r)) = true) (hf : Region.free md (List.toArray (o0::o1::o2::o3::r)) listed 3 = true) (hr : (Region.ready md (List.toArray (o0::o1::o2::o3::r)) listed).contains 3 = true)
    (hQ : ∀ c a w, Q (.panic c) (a.put o3.dst v) w → Q (.panic c) a w) (hy : YieldsIf P (List.toArray (o0::o1::o2::o3::r)) S o3 v a) (hS : S w) (h : wpAnyH P md (List.toArray (o0::o1::o2::o3::r)) Q S fuel (listed.setIfInBounds 3 true) (a.put o3.dst v) w) : wpAnyH P md (List.toArray (o0::o1::o2::o3::r)) Q S (fuel + 1) listed a w :=
  wpAnyH_take (i := 3) rfl hs hf hr hQ hy hS h
theorem rtake_4 {r : List Oper} {v : Value} (hs : Region.noSelect (List.toArray (o0::o1::o2::o3::o4::r)) = true) (hf : Region.free md (List.toArray (o0::o1::o2::o3::o4::r)) listed 4 = true) (hr : (Region.ready md (List.toArray (o0::o1::o2::o3::o4::r)) listed).contains 4 = true)
    (hQ : ∀ c a w, Q (.panic c) (a.put o4.dst v) w → Q (.panic c) a w) (hy : YieldsIf P (List.toArray (o0::o1::o2::o3::o4::r)) S o4 v a) (hS : S w) (h : wpAnyH P md (List.toArray (o0::o1::o2::o3::o4::r)) Q S fuel (listed.setIfInBounds 4 true) (a.put o4.dst v) w) : wpAnyH P md (List.toArray (o0::o1::o2::o3::o4::r)) Q S (fuel + 1) listed a w :=
  wpAnyH_take (i := 4) rfl hs hf hr hQ hy hS h
theorem rtake_5 {r : List Oper} {v : Value} (hs : Region.noSelect (List.toArray (o0::o1::o2::o3::o4::o5::r)) = true) (hf : Region.free md (List.toArray (o0::o1::o2::o3::o4::o5::r)) listed 5 = true) (hr : (Region.ready md (List.toArray (o0::o1::o2::o3::o4::o5::r)) listed).contains 5 = true)
    (hQ : ∀ c a w, Q (.panic c) (a.put o5.dst v) w → Q (.panic c) a w) (hy : YieldsIf P (List.toArray (o0::o1::o2::o3::o4::o5::r)) S o5 v a) (hS : S w) (h : wpAnyH P md (List.toArray (o0::o1::o2::o3::o4::o5::r)) Q S fuel (listed.setIfInBounds 5 true) (a.put o5.dst v) w) : wpAnyH P md (List.toArray (o0::o1::o2::o3::o4::o5::r)) Q S (fuel + 1) listed a w :=
  wpAnyH_take (i := 5) rfl hs hf hr hQ hy hS h
theorem rtake_6 {r : List Oper} {v : Value} (hs : Region.noSelect (List.toArray (o0::o1::o2::o3::o4::o5::o6::r)) = true) (hf : Region.free md (List.toArray (o0::o1::o2::o3::o4::o5::o6::r)) listed 6 = true) (hr : (Region.ready md (List.toArray (o0::o1::o2::o3::o4::o5::o6::r)) listed).contains 6 = true)
    (hQ : ∀ c a w, Q (.panic c) (a.put o6.dst v) w → Q (.panic c) a w) (hy : YieldsIf P (List.toArray (o0::o1::o2::o3::o4::o5::o6::r)) S o6 v a) (hS : S w) (h : wpAnyH P md (List.toArray (o0::o1::o2::o3::o4::o5::o6::r)) Q S fuel (listed.setIfInBounds 6 true) (a.put o6.dst v) w) : wpAnyH P md (List.toArray (o0::o1::o2::o3::o4::o5::o6::r)) Q S (fuel + 1) listed a w :=
  wpAnyH_take (i := 6) rfl hs hf hr hQ hy hS h
theorem rtake_7 {r : List Oper} {v : Value} (hs : Region.noSelect (List.toArray (o0::o1::o2::o3::o4::o5::o6::o7::r)) = true) (hf : Region.free md (List.toArray (o0::o1::o2::o3::o4::o5::o6::o7::r)) listed 7 = true) (hr : (Region.ready md (List.toArray (o0::o1::o2::o3::o4::o5::o6::o7::r)) listed).contains 7 = true)
    (hQ : ∀ c a w, Q (.panic c) (a.put o7.dst v) w → Q (.panic c) a w) (hy : YieldsIf P (List.toArray (o0::o1::o2::o3::o4::o5::o6::o7::r)) S o7 v a) (hS : S w) (h : wpAnyH P md (List.toArray (o0::o1::o2::o3::o4::o5::o6::o7::r)) Q S fuel (listed.setIfInBounds 7 true) (a.put o7.dst v) w) : wpAnyH P md (List.toArray (o0::o1::o2::o3::o4::o5::o6::o7::r)) Q S (fuel + 1) listed a w :=
  wpAnyH_take (i := 7) rfl hs hf hr hQ hy hS h
theorem rcons_8 {r : List Oper} {rs : List Nat}
    (h : ∀ K' : Act → World → Prop, Shut (∀ a w, S w → (S w → wpAnyH P md (List.toArray (o0::o1::o2::o3::o4::o5::o6::o7::o8::r)) Q S fuel (listed.setIfInBounds 8 true) a w) → K' a w) → if Region.wanted o8 (yielded (List.toArray (o0::o1::o2::o3::o4::o5::o6::o7::o8::r)) a.tmps) = true then Oper.wp P o8 a w K' Q else K' (a.put o8.dst undef) w)
    (hs : AllReadyH P md (List.toArray (o0::o1::o2::o3::o4::o5::o6::o7::o8::r)) Q S fuel listed a w rs) : AllReadyH P md (List.toArray (o0::o1::o2::o3::o4::o5::o6::o7::o8::r)) Q S fuel listed a w (8 :: rs) :=
  AllReadyH.cons rfl h hs
theorem rcons_9 {r : List Oper} {rs : List Nat}
    (h : ∀ K' : Act → World → Prop, Shut (∀ a w, S w → (S w → wpAnyH P md (List.toArray (o0::o1::o2::o3::o4::o5::o6::o7::o8::o9::r)) Q S fuel (listed.setIfInBounds 9 true) a w) → K' a w) → if Region.wanted o9 (yielded (List.toArray (o0::o1::o2::o3::o4::o5::o6::o7::o8::o9::r)) a.tmps) = true then Oper.wp P o9 a w K' Q else K' (a.put o9.dst undef) w)
    (hs : AllReadyH P md (List.toArray (o0::o1::o2::o3::o4::o5::o6::o7::o8::o9::r)) Q S fuel listed a w rs) : AllReadyH P md (List.toArray (o0::o1::o2::o3::o4::o5::o6::o7::o8::o9::r)) Q S fuel listed a w (9 :: rs) :=
  AllReadyH.cons rfl h hs
end

end Go.Proofs.Ytccodklfplfleaa

/- Package roll, walked: places taken and freed. -/
namespace Go.Proofs.Ytccodklfplfleaa
open Go.RowKit

set_option maxHeartbeats 3200000 in
set_option maxRecDepth 100000 in
theorem rlIndex_any {w : World} {g : Nat} {A : Option Addr} {c : Nat} {P : List Pl} (h : RlAt w g A c P) (hP : P.length ≤ 64) :
    Calls Try.prog 91 #[.slice A P.length c, .func (.func 92) #[] #[]] w fun e w' => e = .returned (.int .i64 (firstP P)) ∧ Kept [] w w' := by
  have HC : Hid (∀ W, Kept [] w W → ∀ k, k < P.length → ∃ b, A = some ⟨b, 0, none⟩ ∧ W.cell? ⟨b, k * 2, none⟩ = some (.bool (P.getD k Pl.zero).taken) ∧ W.cell? ⟨b, k * 2 + 1, none⟩ = some (.int .u32 (P.getD k Pl.zero).gen) ∧ b < W.heap.size) := fun W hk k hk1 => by
    obtain ⟨b, e, c1, c2, hb, _⟩ := (h.old hk).cells k hk1
    exact ⟨b, e, c1, c2, hb⟩
  have HOP := Lib.hid (fun p W => rlopen_any p W)
  have HAT : Hid (∀ k, firstK P k = -1 → k < P.length → (P.getD k Pl.zero).free = true → firstP P = k) := fun k h1 h2 h3 => firstP_at h1 h2 h3
  have HNO : Hid (∀ k, firstK P k = -1 → (P.getD k Pl.zero).free = false → firstK P (k + 1) = -1) := fun k h1 h2 => firstP_no h1 h2
  have HEN : Hid (firstK P P.length = -1 → firstP P = -1) := fun h1 => h1
  clear h
  obtain ⟨n, hn⟩ : ∃ n, P.length = n := ⟨_, rfl⟩
  rw [hn] at HC HAT HEN hP ⊢
  clear hn
  go_enter Try.func91, Try.ntmps91
  go_wp2_with fail
  go_loopw [8] (fun kv wr => ∃ k : Nat, k ≤ n ∧ kv = .int .i64 k ∧ Hid (firstK P k = -1) ∧ Hid (Kept [] w wr)) (fun k _ => n - (intOf k).toNat)
  case atStart => exact ⟨0, by omega, rfl, rfl, Kept.refl _ _⟩
  case round =>
    obtain ⟨k, hk, rfl, HF, HK⟩ := hrel
    by_cases hlt : k < n
    · obtain ⟨b, rfl, c1, c2, hb⟩ := HC.out _ HK.out k hlt
      have hin : (k : Int) < (n : Int) := by omega
      have hi0 : (0 : Int) ≤ (k : Int) := by omega
      have HO := Lib.hid (HOP.out (P.getD k Pl.zero) wr)
      cases hf : (P.getD k Pl.zero).free
      · have HF2 := Lib.hid (HNO.out k HF.out hf)
        rw [hf] at HO
        generalize P.getD k Pl.zero = p at *
        clear hf
        go_wp2_with fail
        refine (HO.out).mono ?_
        rintro e w1 ⟨rfl, hk1⟩
        have HK1 := Lib.hid (HK.out.trans hk1)
        clear hk1
        go_wp2_with fail
        go_roundw
        case rel => exact ⟨k + 1, by omega, by go_num, HF2.out, HK1.out⟩
        case measure => simp [intOf]; omega
      · have HF2 := Lib.hid (HAT.out k HF.out hlt hf)
        rw [hf] at HO
        generalize P.getD k Pl.zero = p at *
        clear hf
        go_wp2_with fail
        refine (HO.out).mono ?_
        rintro e w1 ⟨rfl, hk1⟩
        have HK1 := Lib.hid (HK.out.trans hk1)
        clear hk1
        go_wp2_with fail
        go_ret
        exact ⟨by rw [HF2.out]; rfl, HK1.out⟩
    · obtain rfl : k = n := by omega
      have HF2 := Lib.hid (HEN.out HF.out)
      go_wp2_with fail
      go_ret
      exact ⟨by rw [HF2.out]; rfl, HK.out⟩

/-- A place is another one. -/
theorem flat_set {P : List Pl} {k : Nat} (hk : k < P.length) (p : Pl) : ((P.flatMap plL).set (k * 2) (.bool p.taken)).set (k * 2 + 1) (.int .u32 p.gen) = (P.set k p).flatMap plL := by
  induction P generalizing k with
  | nil => simp at hk
  | cons q r ih =>
    cases k with
    | zero => simp [plL]
    | succ k =>
      have := ih (k := k) (by simpa using hk)
      simp only [List.flatMap_cons, List.set_cons_succ, plL, List.cons_append, List.nil_append]
      rw [show (k + 1) * 2 = k * 2 + 1 + 1 by omega]
      simp only [List.set_cons_succ]
      rw [this]
theorem RlAt.put {w : World} {g b : Nat} {c : Nat} {P : List Pl} (h : RlAt w g (some ⟨b, 0, none⟩) c P) {k : Nat} (hk : k < P.length) (p : Pl) :
    RlAt ((w.setCell ⟨b, k * 2, none⟩ (.bool p.taken)).setCell ⟨b, k * 2 + 1, none⟩ (.int .u32 p.gen)) g (some ⟨b, 0, none⟩) c (P.set k p) ∧ Kept [b] w ((w.setCell ⟨b, k * 2, none⟩ (.bool p.taken)).setCell ⟨b, k * 2 + 1, none⟩ (.int .u32 p.gen)) := by
  have hl := flatK_len plL 2 plL_len P
  have hne : b ≠ g := fun e => own_blk_ne h.row h.blk (by decide) (by simp [Value.ownBlock, e])
  have hkk : Kept [b] w ((w.setCell ⟨b, k * 2, none⟩ (.bool p.taken)).setCell ⟨b, k * 2 + 1, none⟩ (.int .u32 p.gen)) := ((Kept.refl [b] w).setCell (.inl (by simp)) _).setCell (.inl (by simp)) _
  have h1 := (h.row.stored (k * 2) (.bool p.taken)).1
  have h2 := (h1.stored (k * 2 + 1) (.int .u32 p.gen)).1
  rw [flat_set hk p] at h2
  refine ⟨⟨?_, ?_⟩, hkk⟩
  · rw [List.length_set]; exact h.blk.kept hkk (by simpa using fun e => hne e.symm)
  · rw [List.length_set]; exact h2

theorem RlAt.keep {G : List Nat} {w w' : World} {g : Nat} {A : Option Addr} {c : Nat} {P : List Pl} (h : RlAt w g A c P) (hk : Kept G w w') (hg : g ∉ G) (hf : ∀ k, k ∈ fp (.slice A P.length c) → k ∉ G) : RlAt w' g A c P := ⟨h.blk.kept hk hg, own_kept h.row hk hf⟩
/-- What Take gives, and leaves. -/
def takeV (P : List Pl) : (Int × Nat) × Bool := if firstP P = -1 then ((0, 0), false) else ((firstP P, (P.getD (firstP P).toNat Pl.zero).gen + 1), true)
def takeQ (P : List Pl) : List Pl := if firstP P = -1 then P else P.set (firstP P).toNat ⟨true, (P.getD (firstP P).toNat Pl.zero).gen + 1⟩
theorem takeQ_len (P : List Pl) : (takeQ P).length = P.length := by unfold takeQ; split <;> simp
set_option maxHeartbeats 3200000 in
set_option maxRecDepth 100000 in
theorem rlTake_any {w : World} {g : Nat} {A : Option Addr} {c : Nat} {P : List Pl} (h : RlAt w g A c P) (hP : P.length ≤ 64) :
    Calls Try.prog 77 #[.pointer (some ⟨g, 0, none⟩)] w fun e w' => e = .returned (.tuple #[.agg #[.int .i64 (takeV P).1.1, .int .u32 (takeV P).1.2], .bool (takeV P).2]) ∧ RlAt w' g A c (takeQ P) ∧ Kept (fp (.slice A P.length c)) w w' := by
  have hc0 := h.blk.cell 0
  have hl := h.blk.lt
  have HIX := Lib.hid (rlIndex_any (h.old ((Kept.refl [] w).alloc (.cells #[.int .i64 0, .int .u32 0] 53))) hP)
  have HH := Lib.hid h
  unfold takeV takeQ
  rcases firstP_rng P with hf | ⟨i, hf, hi, hfr⟩
  · rw [if_pos hf, if_pos hf]
    rw [hf] at HIX
    have HC : Hid (∀ W, Kept [] w W → RlAt W g A c P ∧ Kept (fp (.slice A P.length c)) w W) := fun W hk => ⟨h.old hk, hk.mono (by simp)⟩
    have HCL : Hid (∀ W, Kept [] w W → W.cell? ⟨g, 0, none⟩ = some (.slice A P.length c)) := fun W hk => (h.old hk).blk.cell 0
    clear h hf
    generalize P.length = n at *
    go_enter Try.func77, Try.ntmps77
    go_wp2_with fail
    refine (HIX.out).mono ?_
    rintro e w1 ⟨rfl, hk1⟩
    have HB1 := Lib.hid ((Blk.new w 53 #[.int .i64 0, .int .u32 0]).kept hk1 (by simp))
    have HK1 := Lib.hid (((Kept.refl [] w).alloc (.cells #[.int .i64 0, .int .u32 0] 53)).trans hk1)
    have hb0 : w1.cell? ⟨w.heap.size, 0, none⟩ = some (.int .i64 0) := HB1.out.cell 0
    have hb1 : w1.cell? ⟨w.heap.size, 1, none⟩ = some (.int .u32 0) := HB1.out.cell 1
    have hf0 := HB1.out.frozen 0
    have hf1 := HB1.out.frozen 1
    have hbl := HB1.out.lt
    clear hk1
    go_wp2_with fail
    (try simp only [Exit.inBlock, Exit.then])
    refine bodyPost_ret (v := .tuple #[.agg #[.int .i64 (0 : Int), .int .u32 ((0 : Nat) : Int)], .bool false]) (by rw [results_cell_tmp rfl]; go_simp) rfl ⟨rfl, HC.out _ ?_⟩
    exact (HK1.out.setCell (.inr (Nat.le_refl _)) _).setCell (.inr (Nat.le_refl _)) _
  · rw [if_neg (by omega), if_neg (by omega), hf, Int.toNat_natCast]
    rw [hf] at HIX
    obtain ⟨b, rfl, c1, c2, hb, hfz⟩ := h.cells i hi
    have hne : w.heap.size ≠ b := by omega
    have hbk : Kept [] w (w.alloc (.cells #[.int .i64 0, .int .u32 0] 53)) := (Kept.refl [] w).alloc _
    have hgn : (P.getD i Pl.zero).gen < 4294967295 := by
      unfold Pl.free at hfr
      simp only [Bool.and_eq_true, decide_eq_true_eq] at hfr
      exact hfr.2
    have HPUT : Hid (∀ W, Kept [] w W → RlAt ((W.setCell ⟨b, i * 2, none⟩ (.bool true)).setCell ⟨b, i * 2 + 1, none⟩ (.int .u32 ((P.getD i Pl.zero).gen + 1 : Nat))) g (some ⟨b, 0, none⟩) c (P.set i ⟨true, (P.getD i Pl.zero).gen + 1⟩) ∧ Kept [b] W ((W.setCell ⟨b, i * 2, none⟩ (.bool true)).setCell ⟨b, i * 2 + 1, none⟩ (.int .u32 ((P.getD i Pl.zero).gen + 1 : Nat)))) := fun W hk => (h.old hk).put hi ⟨true, (P.getD i Pl.zero).gen + 1⟩
    have HCS : Hid (∀ W, Kept [] w W → W.cell? ⟨b, i * 2, none⟩ = some (.bool (P.getD i Pl.zero).taken) ∧ W.cell? ⟨b, i * 2 + 1, none⟩ = some (.int .u32 (P.getD i Pl.zero).gen) ∧ W.cell? ⟨g, 0, none⟩ = some (.slice (some ⟨b, 0, none⟩) P.length c) ∧ (∀ j, W.frozen? ⟨b, j, none⟩ = false) ∧ b < W.heap.size ∧ g < W.heap.size) := fun W hk => by
      obtain ⟨b', e, x1, x2, x3, x4⟩ := (h.old hk).cells i hi
      cases e
      exact ⟨x1, x2, (h.old hk).blk.cell 0, x4, x3, (h.old hk).blk.lt⟩
    have HAV : Hid (atV (P.set i ⟨true, (P.getD i Pl.zero).gen + 1⟩) i = ((i : Int), (P.getD i Pl.zero).gen + 1) ∧ takenP (P.set i ⟨true, (P.getD i Pl.zero).gen + 1⟩) i = true) := by
      have h1 : (P.set i ⟨true, (P.getD i Pl.zero).gen + 1⟩).getD i Pl.zero = ⟨true, (P.getD i Pl.zero).gen + 1⟩ := by
        rw [List.getD_eq_getElem?_getD (l := P.set i _), List.getElem?_set_self hi]; rfl
      have h2 : takenP (P.set i ⟨true, (P.getD i Pl.zero).gen + 1⟩) i = true := by
        unfold takenP
        rw [Int.toNat_natCast, h1, decide_eq_true (by simp; omega)]; rfl
      refine ⟨?_, h2⟩
      unfold atV
      rw [if_pos h2, Int.toNat_natCast, h1]
    have hgb : g ≠ b := fun e => own_blk_ne h.row h.blk (by decide) (by simp [Value.ownBlock, e])
    have hi0 : (0 : Int) ≤ (i : Int) := by omega
    have hi1 : ¬ (i : Int) < 0 := by omega
    have hi2 : (i : Int) < (P.length : Int) := by omega
    generalize hgg : (P.getD i Pl.zero).gen = gn at *
    generalize hQ : P.set i ⟨true, gn + 1⟩ = Q at *
    have hQl : Q.length = P.length := by rw [← hQ]; simp
    have hgw : ((gn : Int) + 1) % 4294967296 = ((gn + 1 : Nat) : Int) := by omega
    have HQL := Lib.hid hQl
    clear h hf hfr c1 c2 hb hfz hgg hQ hQl HH
    generalize P.length = n at *
    go_enter Try.func77, Try.ntmps77
    go_wp2_with fail
    refine (HIX.out).mono ?_
    rintro e w1 ⟨rfl, hk1⟩
    have HB1 := Lib.hid ((Blk.new w 53 #[.int .i64 0, .int .u32 0]).kept hk1 (by simp))
    have HK1 := Lib.hid (((Kept.refl [] w).alloc (.cells #[.int .i64 0, .int .u32 0] 53)).trans hk1)
    have hb0 : w1.cell? ⟨w.heap.size, 0, none⟩ = some (.int .i64 0) := HB1.out.cell 0
    have hb1 : w1.cell? ⟨w.heap.size, 1, none⟩ = some (.int .u32 0) := HB1.out.cell 1
    have hf0 := HB1.out.frozen 0
    have hf1 := HB1.out.frozen 1
    have hbl := HB1.out.lt
    obtain ⟨x1, x2, x3, x4, x5, x6⟩ := HCS.out _ HK1.out
    obtain ⟨hp1, hp2⟩ := HPUT.out _ HK1.out
    have HAT := Lib.hid (rlAt_any hp1 i)
    have HP1 := Lib.hid hp1
    have HP2 := Lib.hid hp2
    rw [HAV.out.1, HAV.out.2] at HAT
    have hfi := x4 (i * 2)
    have hfj := x4 (i * 2 + 1)
    clear hk1 hp1 hp2
    go_wp2_with fail
    refine (HAT.out).mono ?_
    rintro e w2 ⟨rfl, hk2⟩
    have hB2 := (HB1.out.kept HP2.out (by simp; omega)).kept hk2 (by simp)
    have hb0 : w2.cell? ⟨w.heap.size, 0, none⟩ = some (.int .i64 0) := hB2.cell 0
    have hb1 : w2.cell? ⟨w.heap.size, 1, none⟩ = some (.int .u32 0) := hB2.cell 1
    have hf0 := hB2.frozen 0
    have hf1 := hB2.frozen 1
    have hbl2 := hB2.lt
    have HK2 := Lib.hid hk2
    clear hk2 hB2
    go_wp2_with fail
    (try simp only [Exit.inBlock, Exit.then])
    have hkk : Kept [w.heap.size] w2 ((w2.setCell ⟨w.heap.size, 0, none⟩ (.int .i64 (i : Int))).setCell ⟨w.heap.size, 1, none⟩ (.int .u32 ((gn + 1 : Nat) : Int))) := ((Kept.refl _ _).setCell (.inl (by simp)) _).setCell (.inl (by simp)) _
    refine bodyPost_ret (v := .tuple #[.agg #[.int .i64 (i : Int), .int .u32 ((gn + 1 : Nat) : Int)], .bool true]) (by rw [results_cell_tmp rfl]; go_simp) rfl ⟨rfl, (HP1.out.old HK2.out).keep hkk (by simp; omega) (fun k hk => by simp only [fp_some, List.mem_singleton] at hk; subst hk; simp; omega), ?_⟩
    have h2 : Kept [b] w w2 := ((HK1.out.mono (by simp)).trans HP2.out).trans (HK2.out.mono (by simp))
    rw [fp_some]
    exact (h2.setCell (.inr (Nat.le_refl _)) _).setCell (.inr (Nat.le_refl _)) _


set_option maxHeartbeats 3200000 in
set_option maxRecDepth 100000 in
theorem rlRoom_any {w : World} {g : Nat} {A : Option Addr} {c : Nat} {P : List Pl} (h : RlAt w g A c P) (hP : P.length ≤ 64) :
    Calls Try.prog 94 #[.pointer (some ⟨g, 0, none⟩)] w fun e w' => e = .returned (.int .i64 (roomK P P.length)) ∧ Kept [] w w' := by
  have HC : Hid (∀ W, Kept [] w W → ∀ k, k < P.length → ∃ b, A = some ⟨b, 0, none⟩ ∧ W.cell? ⟨b, k * 2, none⟩ = some (.bool (P.getD k Pl.zero).taken) ∧ W.cell? ⟨b, k * 2 + 1, none⟩ = some (.int .u32 (P.getD k Pl.zero).gen) ∧ b < W.heap.size) := fun W hk k hk1 => by
    obtain ⟨b, e, c1, c2, hb, _⟩ := (h.old hk).cells k hk1
    exact ⟨b, e, c1, c2, hb⟩
  have hc0 := h.blk.cell 0
  have hl := h.blk.lt
  have HOP := Lib.hid (fun p W => rlopen_any p W)
  have HST : Hid (∀ k, roomK P (k + 1) = roomK P k + (if (P.getD k Pl.zero).free then 1 else 0)) := fun k => rfl
  have HLE : Hid (∀ k, roomK P k ≤ k) := fun k => by
    induction k with
    | zero => exact Nat.le_refl _
    | succ k ih => rw [roomK]; split <;> omega
  clear h
  obtain ⟨n, hn⟩ : ∃ n, P.length = n := ⟨_, rfl⟩
  rw [hn] at HC hP hc0 ⊢
  clear hn
  go_enter Try.func94, Try.ntmps94
  go_wp2_with fail
  go_loopw [13, 3] (fun kv nv wr => ∃ k : Nat, k ≤ n ∧ kv = .int .i64 k ∧ nv = .int .i64 (roomK P k) ∧ Hid (Kept [] w wr)) (fun k _ _ => n - (intOf k).toNat)
  case atStart => exact ⟨0, by omega, rfl, rfl, Kept.refl _ _⟩
  case round =>
    obtain ⟨k, hk, rfl, rfl, HK⟩ := hrel
    by_cases hlt : k < n
    · obtain ⟨b, rfl, c1, c2, hb⟩ := HC.out _ HK.out k hlt
      have hin : (k : Int) < (n : Int) := by omega
      have hi0 : (0 : Int) ≤ (k : Int) := by omega
      have HO := Lib.hid (fun W => HOP.out (P.getD k Pl.zero) W)
      have hst := HST.out k
      have hle := HLE.out k
      cases hf : (P.getD k Pl.zero).free
      · rw [hf] at HO hst
        have HS2 := Lib.hid (show roomK P (k + 1) = roomK P k by simpa using hst)
        generalize P.getD k Pl.zero = p at *
        generalize roomK P k = rk at *
        clear hf hst
        go_wp2_with fail
        refine (HO.out _).mono ?_
        rintro e w1 ⟨rfl, hk1⟩
        have HK1 := Lib.hid ((HK.out.trans ((Kept.refl _ _).alloc _)).trans hk1)
        clear hk1
        go_wp2_with fail
        go_roundw
        case rel => exact ⟨k + 1, by omega, by go_num, by rw [HS2.out], HK1.out⟩
        case measure => simp [intOf]; omega
      · rw [hf] at HO hst
        have HS2 := Lib.hid (show roomK P (k + 1) = roomK P k + 1 by simpa using hst)
        generalize P.getD k Pl.zero = p at *
        generalize roomK P k = rk at *
        clear hf hst
        go_wp2_with fail
        refine (HO.out _).mono ?_
        rintro e w1 ⟨rfl, hk1⟩
        have HK1 := Lib.hid ((HK.out.trans ((Kept.refl _ _).alloc _)).trans hk1)
        clear hk1
        go_wp2_with fail
        go_roundw
        case rel => exact ⟨k + 1, by omega, by go_num, by rw [HS2.out]; go_num, HK1.out⟩
        case measure => simp [intOf]; omega
    · obtain rfl : k = n := by omega
      go_wp2_with fail
      go_ret
      exact ⟨rfl, HK.out⟩

set_option maxHeartbeats 3200000 in
set_option maxRecDepth 100000 in
/-- A place that is there, freed. -/
theorem rlFree_ok {w : World} {g : Nat} {A : Option Addr} {c : Nat} {P : List Pl} (h : RlAt w g A c P) (k gn : Nat) (hh : hasP P k gn = true) :
    Calls Try.prog 86 #[.pointer (some ⟨g, 0, none⟩), .agg #[.int .i64 k, .int .u32 gn]] w fun e w' => e = .returned (.bool true) ∧ RlAt w' g A c (P.set k ⟨false, (P.getD k Pl.zero).gen⟩) ∧ Kept (fp (.slice A P.length c)) w w' := by
  have hmix : Try.prog.follows .mixedOrders = true := by kernel_rfl
  have hk : k < P.length := by
    unfold hasP at hh
    simp only [Bool.and_eq_true, decide_eq_true_eq] at hh
    omega
  have HHS := Lib.hid (rlHas_any (h.old ((Kept.refl [] w).alloc (.cells #[.int .i64 k, .int .u32 gn] 53))) k gn)
  rw [hh] at HHS
  obtain ⟨b, rfl, c1, c2, hb, hfz⟩ := h.cells k hk
  have HPUT : Hid (∀ W, Kept [] w W → (W.cell? ⟨g, 0, none⟩ = some (.slice (some ⟨b, 0, none⟩) P.length c) ∧ g < W.heap.size ∧ b < W.heap.size ∧ W.frozen? ⟨b, k * 2, none⟩ = false ∧ W.cell? ⟨b, k * 2, none⟩ = some (.bool (P.getD k Pl.zero).taken)) ∧ RlAt (W.setCell ⟨b, k * 2, none⟩ (.bool false)) g (some ⟨b, 0, none⟩) c (P.set k ⟨false, (P.getD k Pl.zero).gen⟩) ∧ Kept [b] W (W.setCell ⟨b, k * 2, none⟩ (.bool false)) ∧ (W.setCell ⟨b, k * 2, none⟩ (.bool false)).cell? ⟨g, 0, none⟩ = some (.slice (some ⟨b, 0, none⟩) P.length c)) := fun W hkW => by
    have hW := h.old hkW
    obtain ⟨b', e, x1, x2, x3, x4⟩ := hW.cells k hk
    cases e
    have hkk : Kept [b] W (W.setCell ⟨b, k * 2, none⟩ (.bool false)) := (Kept.refl [b] W).setCell (.inl (by simp)) _
    have hgb : g ≠ b := fun e => own_blk_ne hW.row hW.blk (by decide) (by simp [Value.ownBlock, e])
    have h1 := (hW.row.stored (k * 2) (.bool false)).1
    have hx : ((P.flatMap plL).set (k * 2) (.bool false)) = (P.set k ⟨false, (P.getD k Pl.zero).gen⟩).flatMap plL := by
      have h5 := flat_set hk ⟨false, (P.getD k Pl.zero).gen⟩
      rw [← h5]
      refine (List.ext_getElem? fun j => ?_).symm
      by_cases hj : j = k * 2 + 1
      · subst hj
        rw [List.getElem?_set_self (by rw [List.length_set, flatK_len plL 2 plL_len]; omega), List.getElem?_set_ne (by omega), flatK_get plL 2 plL_len P k 1 hk (by omega)]
        rw [List.getD_eq_getElem?_getD, List.getElem?_eq_getElem hk]
        rfl
      · rw [List.getElem?_set_ne (fun e => hj e.symm)]
    rw [hx] at h1
    have hblk := hW.blk.kept hkk (by simpa using hgb)
    exact ⟨⟨hW.blk.cell 0, hW.blk.lt, x3, x4 _, x1⟩, ⟨by rw [List.length_set]; exact hblk, by rw [List.length_set]; exact h1⟩, hkk, hblk.cell 0⟩
  have hi0 : (0 : Int) ≤ (k : Int) := by omega
  have hi1 : (k : Int) < (P.length : Int) := by omega
  generalize P.set k ⟨false, (P.getD k Pl.zero).gen⟩ = Q at *
  generalize (P.getD k Pl.zero).taken = tk at *
  clear h hh c1 c2 hb hfz hk
  generalize P.length = n at *
  go_enter Try.func86, Try.ntmps86
  go_wp2_with fail
  refine (HHS.out).mono ?_
  rintro e w1 ⟨rfl, hk1⟩
  have hB1 := (Blk.new w 53 #[.int .i64 k, .int .u32 gn]).kept hk1 (by simp)
  have HK1 := Lib.hid (((Kept.refl [] w).alloc (.cells #[.int .i64 k, .int .u32 gn] 53)).trans hk1)
  have HKD : Hid (Kept [] w w1.drew) := HK1.out.drew
  have hs0 : w1.drew.cell? ⟨w.heap.size, 0, none⟩ = some (.int .i64 k) := hB1.drew.cell 0
  have hs1 := hB1.lt
  obtain ⟨⟨y1, y2, y3, y4, y5⟩, y6, y7, y8⟩ := HPUT.out _ HKD.out
  have hB2 : (w1.drew.setCell ⟨b, k * 2, none⟩ (.bool false)).cell? ⟨w.heap.size, 0, none⟩ = some (.int .i64 k) := (hB1.drew.kept y7 (by have := (HPUT.out _ (Kept.refl [] w)).1.2.2.1; simp; omega)).cell 0
  have HY6 := Lib.hid y6
  have HY7 := Lib.hid y7
  have HYS : Hid ((w1.drew.setCell ⟨b, k * 2, none⟩ (.bool false)).cell? ⟨g, 0, none⟩ = some (.slice (some ⟨b, 0, none⟩) n c) ∧ (w1.drew.setCell ⟨b, k * 2, none⟩ (.bool false)).cell? ⟨w.heap.size, 0, none⟩ = some (.int .i64 k)) := ⟨y8, hB2⟩
  clear hk1 hB1 hB2 y6 y7 y8
  go_wp2_with fail
  refine wp_region_held_drew (S := fun W => W.cell? ⟨g, 0, none⟩ = some (.slice (some ⟨b, 0, none⟩) n c) ∧ W.cell? ⟨w.heap.size, 0, none⟩ = some (.int .i64 k)) hmix ⟨y1, hs0⟩ (fun hHeld => ?_)
  (refine rtake_0 (v := ?_) (by kernel_rfl) (by kernel_rfl) (by kernel_rfl) (fun _ _ _ h => h) (Or.inl ⟨by rfl, ?_⟩) (by assumption) ?_; rotate_left; (focus ((intro w hSw; (try dsimp only at hSw); go_simp); try (with_reducible rfl))); (try dsimp only [Act.put]); (try simp only [List.setIfInBounds_toArray, List.set_cons_zero, List.set_cons_succ]))
  (refine rtake_1 (v := ?_) (by kernel_rfl) (by kernel_rfl) (by kernel_rfl) (fun _ _ _ h => h) (Or.inl ⟨by rfl, ?_⟩) (by assumption) ?_; rotate_left; (focus ((intro w hSw; (try dsimp only at hSw); go_simp); try (with_reducible rfl))); (try dsimp only [Act.put]); (try simp only [List.setIfInBounds_toArray, List.set_cons_zero, List.set_cons_succ]))
  (refine rtake_2 (v := ?_) (by kernel_rfl) (by kernel_rfl) (by kernel_rfl) (fun _ _ _ h => h) (Or.inl ⟨by rfl, ?_⟩) (by assumption) ?_; rotate_left; (focus ((intro w hSw; (try dsimp only at hSw); go_simp); try (with_reducible rfl))); (try dsimp only [Act.put]); (try simp only [List.setIfInBounds_toArray, List.set_cons_zero, List.set_cons_succ]))
  (refine rtake_3 (v := ?_) (by kernel_rfl) (by kernel_rfl) (by kernel_rfl) (fun _ _ _ h => h) (Or.inl ⟨by rfl, ?_⟩) (by assumption) ?_; rotate_left; (focus ((intro w hSw; (try dsimp only at hSw); go_simp); try (with_reducible rfl))); (try dsimp only [Act.put]); (try simp only [List.setIfInBounds_toArray, List.set_cons_zero, List.set_cons_succ]))
  (refine rtake_4 (v := ?_) (by kernel_rfl) (by kernel_rfl) (by kernel_rfl) (fun _ _ _ h => h) (Or.inl ⟨by rfl, ?_⟩) (by assumption) ?_; rotate_left; (focus ((intro w hSw; (try dsimp only at hSw); go_simp); try (with_reducible rfl))); (try dsimp only [Act.put]); (try simp only [List.setIfInBounds_toArray, List.set_cons_zero, List.set_cons_succ]))
  (refine rtake_5 (v := ?_) (by kernel_rfl) (by kernel_rfl) (by kernel_rfl) (fun _ _ _ h => h) (Or.inl ⟨by rfl, ?_⟩) (by assumption) ?_; rotate_left; (focus ((intro w hSw; (try dsimp only at hSw); go_simp); try (with_reducible rfl))); (try dsimp only [Act.put]); (try simp only [List.setIfInBounds_toArray, List.set_cons_zero, List.set_cons_succ]))
  (refine rtake_6 (v := ?_) (by kernel_rfl) (by kernel_rfl) (by kernel_rfl) (fun _ _ _ h => h) (Or.inl ⟨by rfl, ?_⟩) (by assumption) ?_; rotate_left; (focus ((intro w hSw; (try dsimp only at hSw); go_simp); try (with_reducible rfl))); (try dsimp only [Act.put]); (try simp only [List.setIfInBounds_toArray, List.set_cons_zero, List.set_cons_succ]))
  (refine rtake_7 (v := ?_) (by kernel_rfl) (by kernel_rfl) (by kernel_rfl) (fun _ _ _ h => h) (Or.inl ⟨by rfl, ?_⟩) (by assumption) ?_; rotate_left; (focus ((intro w hSw; (try dsimp only at hSw); go_simp); try (with_reducible rfl))); (try dsimp only [Act.put]); (try simp only [List.setIfInBounds_toArray, List.set_cons_zero, List.set_cons_succ]))
  (refine wpAnyH_ready (rs := [8]) (by kernel_rfl) (by simp) ?_; refine rcons_8 (fun K hK => ?_) (AllReadyH.nil))
  go_simp
  refine hK.out _ _ HYS.out (fun hHeld => ?_)
  clear hK K
  (try simp only [Act.put, List.setIfInBounds_toArray, List.set_cons_zero, List.set_cons_succ])
  refine wpAnyH_done (by kernel_rfl) ?_ _
  go_wp2_with fail
  go_ret
  exact ⟨rfl, HY6.out, (HKD.out.mono (by simp)).trans HY7.out⟩

theorem Try.info101 : (Try.prog.info? 101).map (fun i => (i.zero, i.size, i.bytes)) = some (some (.agg #[.bool false, .int .u32 0]), 2, 8) := by kernel_rfl
end Go.Proofs.Ytccodklfplfleaa

