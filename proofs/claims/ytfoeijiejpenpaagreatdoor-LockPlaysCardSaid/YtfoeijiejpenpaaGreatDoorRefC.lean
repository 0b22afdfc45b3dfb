/- Package bosunref26, a lock passed on and given back, walked; Package bosunref26, a thread's locks dropped, walked; Package bosunref26, a thread that ends, walked; Packages bosunref24, bosunref26: New, walked. -/
import Derived.Test.YtfoeijiejpenpaaGreatDoorRfS
import Derived.Test.YtfoeijiejpenpaaGreatDoorNewN

/- Package bosunref26, a lock passed on and given back, walked. -/
namespace Go.Proofs.YtfoeijiejpenpaaGreatDoor
open Go.RowKit

/-- The blocks of the document's locks. -/
def fpR (b : RfA) (f : Rf) : List Nat := (rfP b f).flatMap Piece.fp
theorem fpR_mem {b : RfA} {f : Rf} {k : Nat} : k ∈ fpR b f ↔ ∃ p ∈ rfP b f, k ∈ p.fp := List.mem_flatMap
theorem RfIs.self {w0 : Base} {w : World} {b : RfA} {f : Rf} (h : RfIs w0 w b f) : RfIs ⟨w, fpR b f⟩ w b f := ⟨h.at_, fun p hp k hk => .inl (fpR_mem.2 ⟨p, hp, hk⟩), Kept.refl _ _⟩
theorem RfIs.fp_new {w0 : Base} {w : World} {b : RfA} {f : Rf} (h : RfIs w0 w b f) {k : Nat} (hk : k ∈ fpR b f) : k ∈ w0.F ∨ w0.w.heap.size ≤ k := by
  obtain ⟨q, hq, hk'⟩ := fpR_mem.1 hk
  exact h.new q hq k hk'
theorem RfIs.back {w0 : Base} {w w' : World} {b b' : RfA} {f f' : Rf} (h : RfIs w0 w b f) (h' : RfIs ⟨w, fpR b f⟩ w' b' f') : RfIs w0 w' b' f' :=
  ⟨h'.at_, fun p hp k hk => by
    rcases h'.new p hp k hk with h1 | h1
    · exact h.fp_new h1
    · exact .inr (Nat.le_trans h.kept.size h1), h.kept.trans' h'.kept (fun k hk => h.fp_new hk)⟩
theorem RfAt.fp_lt {w : World} {b : RfA} {f : Rf} (h : RfAt w b f) {k : Nat} (hk : k ∈ fpR b f) : k < w.heap.size := by
  obtain ⟨p, hp, hk'⟩ := fpR_mem.1 hk
  exact Piece.lt (h.1 p hp) k hk'
theorem onK_mem {f : Rf} {l : Int} {k : Nat} : ∀ x ∈ onK f l k, 0 ≤ x ∧ x < k := by
  intro x hx
  obtain ⟨t, ht, rfl⟩ := List.mem_map.1 hx
  have := List.mem_range.1 (List.mem_filter.1 ht).1
  omega

/-- Those who wait for a lock, sorted. -/
def lineR (f : Rf) (l : Int) : List Int := sortK f true (onK f l f.level.length) (onK f l f.level.length).length
theorem lineR_len {f : Rf} {l : Int} : (lineR f l).length ≤ f.level.length := by
  unfold lineR
  rw [sortK_len _ _ _ _ (Nat.le_refl _)]
  exact onK_len f l _
theorem lineR_mem {f : Rf} {l : Int} : ∀ x ∈ lineR f l, 0 ≤ x ∧ x < f.level.length := fun x hx => onK_mem x (sortK_mem _ (Nat.le_refl _) x hx)

set_option maxHeartbeats 3200000 in
theorem refLine {w : World} {b : RfA} {f : Rf} (h : RfAt w b f) (hw : f.Whole) (l : Int) :
    Calls Tryz.prog 40 #[.pointer (some ⟨b.r, 0, none⟩), .int .i64 l] w fun e w' => ∃ A c, e = .returned (.slice A (lineR f l).length c) ∧ FreshI w w' (lineR f l) A (lineR f l).length c := by
  have HON := Lib.hid (refOn h hw l)
  have hn64 := hw.n64
  have hlen := onK_len f l f.level.length
  have HSO : Hid (∀ W A c, FreshI w W (onK f l f.level.length) A (onK f l f.level.length).length c → Calls Tryz.prog 65 #[.pointer (some ⟨b.r, 0, none⟩), .slice A (onK f l f.level.length).length c, .bool true] W fun e w' => ∃ A c, e = .returned (.slice A (lineR f l).length c) ∧ FreshI W w' (lineR f l) A (lineR f l).length c) := fun W A c hF =>
    refSorted (h.old hF.2.1) hw A c _ hF.reads (by omega) (fun x hx => onK_mem x hx) true
  have hc1 : w.cell? ⟨b.r, 1, none⟩ = some (.pointer (some ⟨b.rw, 0, none⟩)) := h.blk.cell 1
  have hlr := h.blk.lt
  generalize lineR f l = L at *
  generalize onK f l f.level.length = O at *
  clear h hw hn64 hlen
  go_enter Tryz.func40, Tryz.ntmps40
  go_wp2_with fail
  refine (HON.out).mono ?_
  rintro e w1 ⟨A, c, rfl, hF⟩
  have HF := Lib.hid hF
  have HS := Lib.hid (HSO.out _ _ _ hF)
  clear hF
  go_wp2_with fail
  refine (HS.out).mono ?_
  rintro e w2 ⟨A2, c2, rfl, hF2⟩
  have HF2 := Lib.hid (hF2.since HF.out.2.1)
  clear hF2
  go_wp2_with fail
  go_ret
  exact ⟨A2, c2, rfl, HF2.out⟩

/-- A lock passed on: to whom, and what is left. -/
def passE (L : List Int) : Int := L.headD (-1)
def passR (f : Rf) (q : Nat) : List Int → Rf
  | [] => { f with owner := f.owner.set q (-1) }
  | x :: _ => waitR { f with owner := f.owner.set q x } x.toNat (-1) (-1)

set_option maxHeartbeats 6400000 in
theorem refPass {w0 : Base} {w : World} {b : RfA} {f : Rf} (h : RfIs w0 w b f) (hw : f.Whole) (q : Nat) (hq : q < f.owner.length) :
    Calls Tryz.prog 52 #[.pointer (some ⟨b.r, 0, none⟩), .int .i64 q] w fun e w' => e = .returned (.int .i64 (passE (lineR f q))) ∧ RfIs w0 w' b (passR f q (lineR f q)) := by
  have hmix : Tryz.prog.follows .mixedOrders = true := by kernel_rfl
  have HLI := Lib.hid (refLine h.at_ hw (q : Int))
  have hn64 := hw.n64
  have hlen := lineR_len (f := f) (l := (q : Int))
  have hq0 : (0 : Int) ≤ (q : Int) := by omega
  have hq1 : (q : Int) < (f.owner.length : Int) := by omega
  have hmem := lineR_mem (f := f) (l := (q : Int))
  cases hL : lineR f q with
  | nil =>
    rw [hL] at HLI
    have HFI : Hid (∀ W, Kept [] w W → ∃ go, b.AO = some ⟨go, 0, none⟩ ∧ W.cell? ⟨go, q, none⟩ = some (.int .i64 (f.owner.getD q 0)) ∧ W.frozen? ⟨go, q, none⟩ = false ∧ go < W.heap.size ∧ W.cell? ⟨b.r, 1, none⟩ = some (.pointer (some ⟨b.rw, 0, none⟩)) ∧ b.r < W.heap.size ∧ W.cell? ⟨b.rw, 0, none⟩ = some (.slice b.AO f.owner.length b.cO) ∧ b.rw < W.heap.size ∧ RfIs w0 (W.setCell ⟨go, q, none⟩ (.int .i64 (-1))) b { f with owner := f.owner.set q (-1) }) := fun W hkk => by
      have hW := h.old hkk
      obtain ⟨go, h1, h2, h3, h4⟩ := hW.at_.owner q hq
      exact ⟨go, h1, h2, h3 q, h4, hW.at_.blk.cell 1, hW.at_.blk.lt, hW.at_.web.cell 0, hW.at_.web.lt, hW.setOwner q hq (-1) h1⟩
    show Calls _ _ _ _ fun e w' => e = .returned (.int .i64 (-1)) ∧ RfIs w0 w' b { f with owner := f.owner.set q (-1) }
    generalize f.owner.getD q 0 = y at *
    generalize hM : f.owner.length = m at *
    clear h hw hmem hlen hL hM
    go_enter Tryz.func52, Tryz.ntmps52
    go_wp2_with fail
    refine (HLI.out).mono ?_
    rintro e w1 ⟨A, c, rfl, hF⟩
    obtain ⟨go, hgo, hc1, hf1, hl1, hc2, hl2, hc3, hl3, hfin⟩ := HFI.out _ hF.2.1
    rw [hgo] at hc3
    have HF := Lib.hid hfin
    clear hfin hgo hF
    go_wp2_with fail
    go_ret
    exact ⟨rfl, HF.out⟩
  | cons x R =>
    rw [hL] at HLI hmem hlen
    obtain ⟨k, rfl⟩ : ∃ k : Nat, x = k := ⟨x.toNat, by have := (hmem x (by simp)).1; omega⟩
    have hk : k < f.level.length := by have := (hmem k (by simp)).2; omega
    have hwS : ({ f with owner := f.owner.set q (k : Int) } : Rf).Whole := Rf.Whole.setOwner hw q k (by omega)
    have HFI : Hid (∀ W A c, FreshI w W ((k : Int) :: R) A (R.length + 1) c → ∃ go ab ao, b.AO = some ⟨go, 0, none⟩ ∧ A = some ⟨ab, ao, none⟩ ∧ W.cell? ⟨go, q, none⟩ = some (.int .i64 (f.owner.getD q 0)) ∧ W.frozen? ⟨go, q, none⟩ = false ∧ go < W.heap.size ∧ W.cell? ⟨b.r, 1, none⟩ = some (.pointer (some ⟨b.rw, 0, none⟩)) ∧ b.r < W.heap.size ∧ W.cell? ⟨b.rw, 0, none⟩ = some (.slice b.AO f.owner.length b.cO) ∧ b.rw < W.heap.size ∧ W.cell? ⟨ab, ao, none⟩ = some (.int .i64 k) ∧ go ≠ b.r ∧ go ≠ b.rw ∧ go ≠ ab ∧
        (∀ W2, Kept [] (W.setCell ⟨go, q, none⟩ (.int .i64 k)) W2 → W2.cell? ⟨b.r, 1, none⟩ = some (.pointer (some ⟨b.rw, 0, none⟩)) ∧ W2.cell? ⟨b.rw, 0, none⟩ = some (.slice b.AO f.owner.length b.cO) ∧ W2.cell? ⟨ab, ao, none⟩ = some (.int .i64 k) ∧
          Calls Tryz.prog 56 #[.pointer (some ⟨b.rw, 0, none⟩), .int .i64 k, .int .i64 (-1), .int .i64 (-1)] W2 fun e w' => e = .returned (.tuple #[]) ∧ RfIs w0 w' b (waitR { f with owner := f.owner.set q (k : Int) } k (-1) (-1)) ∧ w'.cell? ⟨ab, ao, none⟩ = some (.int .i64 k))) := fun W A c hF => by
      have hW := h.old hF.2.1
      obtain ⟨go, h1, h2, h3, h4⟩ := hW.at_.owner q hq
      obtain ⟨ab, ao, ha, hab, hcc⟩ := hF.reads.addr (by simp) (by omega)
      subst ha
      have hx0 := hcc 0 (.int .i64 (k : Int)) rfl
      rw [Nat.add_zero] at hx0
      have hnew : w.heap.size ≤ ab := hF.2.2 ab (by simp [fp_some])
      have hgoF : go ∈ fpR b f := fpR_mem.2 ⟨_, List.mem_of_getElem? (i := 3) rfl, by rw [h1]; simp [Piece.fp, fp_some]⟩
      have hgl := h.at_.fp_lt hgoF
      have hne : go ≠ ab := by omega
      have hs := hW.setOwner q hq (k : Int) h1
      have hxs : (W.setCell ⟨go, q, none⟩ (.int .i64 k)).cell? ⟨ab, ao, none⟩ = some (.int .i64 k) :=
        ((Kept.refl [go] W).setCell (.inl (by simp)) _).cell_some hx0 (by simpa using Ne.symm hne)
      have hgr : go ≠ b.r := fun e => hW.at_.apart (i := 3) (j := 0) (by decide) rfl rfl go (by rw [h1]; simp [Piece.fp, fp_some]) (by rw [e]; simp [Piece.fp])
      have hgw : go ≠ b.rw := fun e => hW.at_.apart (i := 3) (j := 1) (by decide) rfl rfl go (by rw [h1]; simp [Piece.fp, fp_some]) (by rw [e]; simp [Piece.fp])
      refine ⟨go, ab, ao, h1, rfl, h2, h3 q, h4, hW.at_.blk.cell 1, hW.at_.blk.lt, hW.at_.web.cell 0, hW.at_.web.lt, hx0, hgr, hgw, hne, fun W2 hk2 => ?_⟩
      have h5 := hs.old hk2
      have e1 : ({ f with owner := f.owner.set q (k : Int) } : Rf).owner.length = f.owner.length := by simp
      have h6 := h5.at_.web.cell 0
      rw [e1] at h6
      have hx2 := hk2.cell_some hxs (by simp)
      refine ⟨h5.at_.blk.cell 1, h6, hx2, (refWait h5.self hwS k hk (-1) (-1)).mono ?_⟩
      rintro e w' ⟨rfl, hh⟩
      refine ⟨rfl, h5.back hh, hh.kept.cell_some hx2 ?_⟩
      intro hm
      have h7 := RfAt.fp_lt (w := w) (b := b) (f := f) h.at_ (k := ab) (by
        obtain ⟨p, hp, hkp⟩ := fpR_mem.1 hm
        refine fpR_mem.2 ?_
        simp only [rfP, List.mem_cons, List.not_mem_nil, or_false] at hp ⊢
        rcases hp with rfl | rfl | rfl | rfl | rfl | rfl | rfl
        · exact ⟨_, .inl rfl, hkp⟩
        · exact ⟨_, .inr (.inl rfl), hkp⟩
        · exact ⟨_, .inr (.inr (.inl rfl)), hkp⟩
        · exact ⟨_, .inr (.inr (.inr (.inl rfl))), by simpa [Piece.fp, fp] using hkp⟩
        · exact ⟨_, .inr (.inr (.inr (.inr (.inl rfl)))), hkp⟩
        · exact ⟨_, .inr (.inr (.inr (.inr (.inr (.inl rfl))))), hkp⟩
        · exact ⟨_, .inr (.inr (.inr (.inr (.inr (.inr rfl))))), hkp⟩)
      omega
    show Calls _ _ _ _ fun e w' => e = .returned (.int .i64 k) ∧ RfIs w0 w' b (waitR { f with owner := f.owner.set q (k : Int) } (k : Int).toNat (-1) (-1))
    rw [Int.toNat_natCast k]
    rw [List.length_cons] at HLI hlen
    have hR0 : ((R.length + 1 : Nat) : Int) = 0 → False := by omega
    have hR1 : (0 : Int) < ((R.length + 1 : Nat) : Int) := by omega
    have hR2 : 0 < R.length + 1 := by omega
    generalize R.length + 1 = rn at *
    generalize waitR { f with owner := f.owner.set q (k : Int) } k (-1) (-1) = f2 at *
    generalize f.owner.getD q 0 = y at *
    generalize hM : f.owner.length = m at *
    have hD0 : Hid (decide ((rn : Int) = 0) = false) := decide_eq_false hR0
    have hD1 : ((rn : Int) == 0) = false := by simp; omega
    clear h hw hmem hL hM hwS hR0 hq
    go_enter Tryz.func52, Tryz.ntmps52
    go_wp2_with fail
    refine (HLI.out).mono ?_
    rintro e w1 ⟨A, c, rfl, hF⟩
    obtain ⟨go, ab, ao, hgo, rfl, hc1, hf1, hl1, hc2, hl2, hc3, hl3, hc4, hn1, hn2, hn3, hfin⟩ := HFI.out _ _ _ hF
    rw [hgo] at hc3
    have HFIN := Lib.hid hfin
    have HGO := Lib.hid hgo
    have HK2 : Hid (Kept [] (w1.setCell ⟨go, q, none⟩ (.int .i64 k)) (w1.setCell ⟨go, q, none⟩ (.int .i64 k)).drew) := (Kept.refl _ _).drew
    have HS2 : Hid ((w1.setCell ⟨go, q, none⟩ (.int .i64 k)).drew.cell? ⟨b.r, 1, none⟩ = some (.pointer (some ⟨b.rw, 0, none⟩)) ∧ (w1.setCell ⟨go, q, none⟩ (.int .i64 k)).drew.cell? ⟨b.rw, 0, none⟩ = some (.slice (some ⟨go, 0, none⟩) m b.cO) ∧ (w1.setCell ⟨go, q, none⟩ (.int .i64 k)).drew.cell? ⟨ab, ao, none⟩ = some (.int .i64 k)) := by
      obtain ⟨g1, g2, g3, _⟩ := HFIN.out _ HK2.out
      exact ⟨g1, by rw [← hgo]; exact g2, g3⟩
    clear hfin hgo hF HFI
    go_wp2_with fail
    refine wp_region_held_drew (S := fun W => W.cell? ⟨b.r, 1, none⟩ = some (.pointer (some ⟨b.rw, 0, none⟩)) ∧ W.cell? ⟨b.rw, 0, none⟩ = some (.slice (some ⟨go, 0, none⟩) m b.cO) ∧ W.cell? ⟨ab, ao, none⟩ = some (.int .i64 k)) hmix ⟨hc2, hc3, hc4⟩ (fun hHeld => ?_)
    (refine rtake_0 (v := ?_) (by kernel_rfl) (by kernel_rfl) (by kernel_rfl) (fun _ _ _ h => h) (Or.inl ⟨by rfl, ?_⟩) (by assumption) ?_; rotate_left; (focus ((intro w hSw; (try dsimp only at hSw); go_simp); try (with_reducible rfl))); (try dsimp only [Act.put]); (try simp only [List.setIfInBounds_toArray, List.set_cons_zero, List.set_cons_succ]))
    (refine rtake_1 (v := ?_) (by kernel_rfl) (by kernel_rfl) (by kernel_rfl) (fun _ _ _ h => h) (Or.inl ⟨by rfl, ?_⟩) (by assumption) ?_; rotate_left; (focus ((intro w hSw; (try dsimp only at hSw); go_simp); try (with_reducible rfl))); (try dsimp only [Act.put]); (try simp only [List.setIfInBounds_toArray, List.set_cons_zero, List.set_cons_succ]))
    (refine rtake_2 (v := ?_) (by kernel_rfl) (by kernel_rfl) (by kernel_rfl) (fun _ _ _ h => h) (Or.inl ⟨by rfl, ?_⟩) (by assumption) ?_; rotate_left; (focus ((intro w hSw; (try dsimp only at hSw); go_simp); try (with_reducible rfl))); (try dsimp only [Act.put]); (try simp only [List.setIfInBounds_toArray, List.set_cons_zero, List.set_cons_succ]))
    (refine rtake_3 (v := ?_) (by kernel_rfl) (by kernel_rfl) (by kernel_rfl) (fun _ _ _ h => h) (Or.inl ⟨by rfl, ?_⟩) (by assumption) ?_; rotate_left; (focus ((intro w hSw; (try dsimp only at hSw); go_simp); try (with_reducible rfl))); (try dsimp only [Act.put]); (try simp only [List.setIfInBounds_toArray, List.set_cons_zero, List.set_cons_succ]))
    (refine rtake_4 (v := ?_) (by kernel_rfl) (by kernel_rfl) (by kernel_rfl) (fun _ _ _ h => h) (Or.inl ⟨by rfl, ?_⟩) (by assumption) ?_; rotate_left; (focus ((intro w hSw; (try dsimp only at hSw); go_simp); try (with_reducible rfl))); (try dsimp only [Act.put]); (try simp only [List.setIfInBounds_toArray, List.set_cons_zero, List.set_cons_succ]))
    (refine rtake_5 (v := ?_) (by kernel_rfl) (by kernel_rfl) (by kernel_rfl) (fun _ _ _ h => h) (Or.inl ⟨by rfl, ?_⟩) (by assumption) ?_; rotate_left; (focus ((intro w hSw; (try dsimp only at hSw); go_simp); try (with_reducible rfl))); (try dsimp only [Act.put]); (try simp only [List.setIfInBounds_toArray, List.set_cons_zero, List.set_cons_succ]))
    (refine rtake_6 (v := ?_) (by kernel_rfl) (by kernel_rfl) (by kernel_rfl) (fun _ _ _ h => h) (Or.inl ⟨by rfl, ?_⟩) (by assumption) ?_; rotate_left; (focus ((intro w hSw; (try dsimp only at hSw); go_simp); try (with_reducible rfl))); (try dsimp only [Act.put]); (try simp only [List.setIfInBounds_toArray, List.set_cons_zero, List.set_cons_succ]))
    (refine rtake_7 (v := ?_) (by kernel_rfl) (by kernel_rfl) (by kernel_rfl) (fun _ _ _ h => h) (Or.inl ⟨by rfl, ?_⟩) (by assumption) ?_; rotate_left; (focus ((intro w hSw; (try dsimp only at hSw); go_simp); try (with_reducible rfl))); (try dsimp only [Act.put]); (try simp only [List.setIfInBounds_toArray, List.set_cons_zero, List.set_cons_succ]))
    (refine rtake_8 (v := ?_) (by kernel_rfl) (by kernel_rfl) (by kernel_rfl) (fun _ _ _ h => h) (Or.inl ⟨by rfl, ?_⟩) (by assumption) ?_; rotate_left; (focus ((intro w hSw; (try dsimp only at hSw); go_simp); try (with_reducible rfl))); (try dsimp only [Act.put]); (try simp only [List.setIfInBounds_toArray, List.set_cons_zero, List.set_cons_succ]))
    (refine rtake_9 (v := ?_) (by kernel_rfl) (by kernel_rfl) (by kernel_rfl) (fun _ _ _ h => h) (Or.inl ⟨by rfl, ?_⟩) (by assumption) ?_; rotate_left; (focus ((intro w hSw; (try dsimp only at hSw); go_simp); try (with_reducible rfl))); (try dsimp only [Act.put]); (try simp only [List.setIfInBounds_toArray, List.set_cons_zero, List.set_cons_succ]))
    (refine rtake_10 (v := ?_) (by kernel_rfl) (by kernel_rfl) (by kernel_rfl) (fun _ _ _ h => h) (Or.inl ⟨by rfl, ?_⟩) (by assumption) ?_; rotate_left; (focus ((intro w hSw; (try dsimp only at hSw); go_simp); try (with_reducible rfl))); (try dsimp only [Act.put]); (try simp only [List.setIfInBounds_toArray, List.set_cons_zero, List.set_cons_succ]))
    (refine rtake_11 (v := ?_) (by kernel_rfl) (by kernel_rfl) (by kernel_rfl) (fun _ _ _ h => h) (Or.inl ⟨by rfl, ?_⟩) (by assumption) ?_; rotate_left; (focus ((intro w hSw; (try dsimp only at hSw); go_simp); try (with_reducible rfl))); (try dsimp only [Act.put]); (try simp only [List.setIfInBounds_toArray, List.set_cons_zero, List.set_cons_succ]))
    (refine wpAnyH_ready (rs := [12]) (by kernel_rfl) (by simp) ?_; refine rcons_12 (fun K hK => ?_) (AllReadyH.nil))
    go_simp
    refine hK.out _ _ HS2.out (fun hHeld => ?_)
    clear hK K
    (try simp only [Act.put, List.setIfInBounds_toArray, List.set_cons_zero, List.set_cons_succ])
    refine wpAnyH_done (by kernel_rfl) ?_ _
    clear hc1 hf1 hc2 hc3 hc4
    generalize (w1.setCell ⟨go, q, none⟩ (.int .i64 k)).drew = wz at *
    have HW := Lib.hid (fun W (hk : Kept [] wz W) => (HFIN.out _ (HK2.out.trans hk)))
    obtain ⟨hd2, _, hd4, _⟩ := HW.out _ ((Kept.refl [] wz).drew)
    clear HFIN
    go_wp2_with fail
    refine wp_region_held_drew (S := fun W => W.cell? ⟨b.r, 1, none⟩ = some (.pointer (some ⟨b.rw, 0, none⟩)) ∧ W.cell? ⟨ab, ao, none⟩ = some (.int .i64 k)) hmix ⟨hd2, hd4⟩ (fun hHeld => ?_)
    (refine rtake_0 (v := ?_) (by kernel_rfl) (by kernel_rfl) (by kernel_rfl) (fun _ _ _ h => h) (Or.inl ⟨by rfl, ?_⟩) (by assumption) ?_; rotate_left; (focus ((intro w hSw; (try dsimp only at hSw); go_simp); try (with_reducible rfl))); (try dsimp only [Act.put]); (try simp only [List.setIfInBounds_toArray, List.set_cons_zero, List.set_cons_succ]))
    (refine rtake_1 (v := ?_) (by kernel_rfl) (by kernel_rfl) (by kernel_rfl) (fun _ _ _ h => h) (Or.inl ⟨by rfl, ?_⟩) (by assumption) ?_; rotate_left; (focus ((intro w hSw; (try dsimp only at hSw); go_simp); try (with_reducible rfl))); (try dsimp only [Act.put]); (try simp only [List.setIfInBounds_toArray, List.set_cons_zero, List.set_cons_succ]))
    (refine rtake_2 (v := ?_) (by kernel_rfl) (by kernel_rfl) (by kernel_rfl) (fun _ _ _ h => h) (Or.inl ⟨by rfl, ?_⟩) (by assumption) ?_; rotate_left; (focus ((intro w hSw; (try dsimp only at hSw); go_simp); try (with_reducible rfl))); (try dsimp only [Act.put]); (try simp only [List.setIfInBounds_toArray, List.set_cons_zero, List.set_cons_succ]))
    (refine rtake_3 (v := ?_) (by kernel_rfl) (by kernel_rfl) (by kernel_rfl) (fun _ _ _ h => h) (Or.inl ⟨by rfl, ?_⟩) (by assumption) ?_; rotate_left; (focus ((intro w hSw; (try dsimp only at hSw); go_simp); try (with_reducible rfl))); (try dsimp only [Act.put]); (try simp only [List.setIfInBounds_toArray, List.set_cons_zero, List.set_cons_succ]))
    (refine rtake_4 (v := ?_) (by kernel_rfl) (by kernel_rfl) (by kernel_rfl) (fun _ _ _ h => h) (Or.inl ⟨by rfl, ?_⟩) (by assumption) ?_; rotate_left; (focus ((intro w hSw; (try dsimp only at hSw); go_simp); try (with_reducible rfl))); (try dsimp only [Act.put]); (try simp only [List.setIfInBounds_toArray, List.set_cons_zero, List.set_cons_succ]))
    (refine rtake_5 (v := ?_) (by kernel_rfl) (by kernel_rfl) (by kernel_rfl) (fun _ _ _ h => h) (Or.inl ⟨by rfl, ?_⟩) (by assumption) ?_; rotate_left; (focus ((intro w hSw; (try dsimp only at hSw); go_simp); try (with_reducible rfl))); (try dsimp only [Act.put]); (try simp only [List.setIfInBounds_toArray, List.set_cons_zero, List.set_cons_succ]))
    (refine rtake_6 (v := ?_) (by kernel_rfl) (by kernel_rfl) (by kernel_rfl) (fun _ _ _ h => h) (Or.inl ⟨by rfl, ?_⟩) (by assumption) ?_; rotate_left; (focus ((intro w hSw; (try dsimp only at hSw); go_simp); try (with_reducible rfl))); (try dsimp only [Act.put]); (try simp only [List.setIfInBounds_toArray, List.set_cons_zero, List.set_cons_succ]))
    (refine wpAnyH_ready (rs := [7]) (by kernel_rfl) (by simp) ?_; refine rcons_7 (fun K hK => ?_) (AllReadyH.nil))
    go_simp
    (with_reducible refine ((HW.out _ ((Kept.refl [] wz).drew)).2.2.2).mono ?_)
    rintro r w3 ⟨rfl, hh, hx3⟩
    have HR3 := Lib.hid hh
    have hb3 : w3.cell? ⟨b.r, 1, none⟩ = some (.pointer (some ⟨b.rw, 0, none⟩)) := hh.at_.blk.cell 1
    clear hh
    try go_simp
    refine hK.out _ _ ⟨hb3, hx3⟩ (fun hHeld => ?_)
    clear hK K
    (try simp only [Act.put, List.setIfInBounds_toArray, List.set_cons_zero, List.set_cons_succ])
    refine wpAnyH_done (by kernel_rfl) ?_ _
    go_wp2_with fail
    go_ret
    exact ⟨rfl, HR3.out⟩

/-- A lock given back: to whom, what it says, what is left. -/
def unlockE (f : Rf) (t l : Int) : Int := if ¬ (0 ≤ t ∧ t < f.level.length) then 5 else if ¬ (0 ≤ l ∧ l < f.owner.length) then 5 else cond (waitsR f t.toNat) 14 (if f.owner.getD l.toNat 0 ≠ t then 11 else 0)
def unlockT (f : Rf) (t l : Int) : Int := if unlockE f t l = 0 then passE (lineR f l) else -1
def unlockR (f : Rf) (t l : Int) : Rf := if unlockE f t l = 0 then passR f l.toNat (lineR f l) else f
set_option maxHeartbeats 6400000 in
theorem refUnlock {w0 : Base} {w : World} {b : RfA} {f : Rf} (h : RfIs w0 w b f) (hw : f.Whole) (t l : Int) :
    Calls Tryz.prog 16 #[.pointer (some ⟨b.r, 0, none⟩), .int .i64 t, .int .i64 l] w fun e w' => e = .returned (.tuple #[.int .i64 (unlockT f t l), .int .i64 (unlockE f t l)]) ∧ RfIs w0 w' b (unlockR f t l) := by
  have HT := Lib.hid (refThread h.at_ t)
  have HU := Lib.hid (refIsLock h.at_ l)
  have hr1 : w.cell? ⟨b.r, 1, none⟩ = some (.pointer (some ⟨b.rw, 0, none⟩)) := h.at_.blk.cell 1
  have hrl := h.at_.blk.lt
  have HH := Lib.hid h
  unfold unlockT unlockR
  obtain ⟨E, hE⟩ : ∃ E, unlockE f t l = E := ⟨_, rfl⟩
  rw [hE]
  unfold unlockE at hE
  by_cases ct : 0 ≤ t ∧ t < f.level.length
  · rw [if_neg (fun hx => hx ct)] at hE
    have hd : decide (0 ≤ t ∧ t < (f.level.length : Int)) = true := by simp; omega
    rw [hd] at HT
    by_cases cu : 0 ≤ l ∧ l < f.owner.length
    · rw [if_neg (fun hx => hx cu)] at hE
      have hd2 : decide (0 ≤ l ∧ l < (f.owner.length : Int)) = true := by simp; omega
      rw [hd2] at HU
      obtain ⟨k, rfl⟩ : ∃ k : Nat, t = k := ⟨t.toNat, by omega⟩
      obtain ⟨q, rfl⟩ : ∃ q : Nat, l = q := ⟨l.toNat, by omega⟩
      rw [Int.toNat_natCast k, Int.toNat_natCast q] at hE
      rw [Int.toNat_natCast q]
      have HW := Lib.hid (refWaits h.at_ hw k (by omega))
      have HP := Lib.hid (refPass h hw q (by omega))
      obtain ⟨go, hgo, hco, _, hlo⟩ := h.at_.owner q (by omega)
      have hb0 : w.cell? ⟨b.rw, 0, none⟩ = some (.slice b.AO f.owner.length b.cO) := h.at_.web.cell 0
      have hbl := h.at_.web.lt
      rw [hgo] at hb0
      have hq0 : (0 : Int) ≤ (q : Int) := by omega
      have hq1 : (q : Int) < (f.owner.length : Int) := by omega
      generalize waitsR f k = wb at *
      generalize passE (lineR f q) = pe at *
      generalize passR f q (lineR f q) = pr at *
      generalize f.owner.getD q 0 = y at *
      generalize f.owner.length = m at *
      clear hd hd2 ct cu h hw hgo
      cases wb with
      | true =>
        rw [cond_true] at hE
        subst hE
        rw [if_neg (by omega), if_neg (by omega)]
        go_enter Tryz.func16, Tryz.ntmps16
        go_wp2_with fail
        refine (HT.out).mono ?_
        rintro e w1 ⟨rfl, rfl⟩
        go_wp2_with fail
        refine (HU.out).mono ?_
        rintro e w1 ⟨rfl, rfl⟩
        go_wp2_with fail
        refine (HW.out).mono ?_
        rintro e w1 ⟨rfl, rfl⟩
        go_wp2_with fail
        go_ret2
        exact ⟨rfl, HH.out⟩
      | false =>
        rw [cond_false] at hE
        by_cases hy : y ≠ (k : Int)
        · rw [if_pos hy] at hE
          subst hE
          rw [if_neg (by omega), if_neg (by omega)]
          go_enter Tryz.func16, Tryz.ntmps16
          go_wp2_with fail
          refine (HT.out).mono ?_
          rintro e w1 ⟨rfl, rfl⟩
          go_wp2_with fail
          refine (HU.out).mono ?_
          rintro e w1 ⟨rfl, rfl⟩
          go_wp2_with fail
          refine (HW.out).mono ?_
          rintro e w1 ⟨rfl, rfl⟩
          go_wp2_with fail
          go_ret2
          exact ⟨rfl, HH.out⟩
        · rw [if_neg hy] at hE
          subst hE
          rw [if_pos rfl, if_pos rfl]
          have hy2 : y = (k : Int) := Classical.not_not.1 hy
          subst hy2
          clear hy
          go_enter Tryz.func16, Tryz.ntmps16
          go_wp2_with fail
          refine (HT.out).mono ?_
          rintro e w1 ⟨rfl, rfl⟩
          go_wp2_with fail
          refine (HU.out).mono ?_
          rintro e w1 ⟨rfl, rfl⟩
          go_wp2_with fail
          refine (HW.out).mono ?_
          rintro e w1 ⟨rfl, rfl⟩
          go_wp2_with fail
          refine (HP.out).mono ?_
          rintro e w1 ⟨rfl, hR⟩
          have HR := Lib.hid hR
          clear hR
          go_wp2_with fail
          go_ret2
          exact ⟨rfl, HR.out⟩
    · rw [if_pos cu] at hE
      have hd2 : decide (0 ≤ l ∧ l < (f.owner.length : Int)) = false := by simp; omega
      rw [hd2] at HU
      subst hE
      rw [if_neg (by omega), if_neg (by omega)]
      clear hd hd2 ct cu h hw
      go_enter Tryz.func16, Tryz.ntmps16
      go_wp2_with fail
      refine (HT.out).mono ?_
      rintro e w1 ⟨rfl, rfl⟩
      go_wp2_with fail
      refine (HU.out).mono ?_
      rintro e w1 ⟨rfl, rfl⟩
      go_wp2_with fail
      go_ret2
      exact ⟨rfl, HH.out⟩
  · rw [if_pos ct] at hE
    have hd : decide (0 ≤ t ∧ t < (f.level.length : Int)) = false := by simp; omega
    rw [hd] at HT
    subst hE
    rw [if_neg (by omega), if_neg (by omega)]
    clear hd ct h hw
    go_enter Tryz.func16, Tryz.ntmps16
    go_wp2_with fail
    refine (HT.out).mono ?_
    rintro e w1 ⟨rfl, rfl⟩
    go_wp2_with fail
    go_ret2
    exact ⟨rfl, HH.out⟩

end Go.Proofs.YtfoeijiejpenpaaGreatDoor

/- Package bosunref26, a thread's locks dropped, walked. -/
namespace Go.Proofs.YtfoeijiejpenpaaGreatDoor
open Go.RowKit

theorem fp_len (A : Option Addr) (n n' c : Nat) : fp (.slice A n c) = fp (.slice A n' c) := by cases A <;> rfl
theorem fpR_eq (b : RfA) (f g : Rf) : fpR b f = fpR b g := by
  unfold fpR rfP
  simp only [List.flatMap_cons, List.flatMap_nil, Piece.fp]
  rw [fp_len b.AL f.level.length g.level.length, fp_len b.AO f.owner.length g.owner.length, fp_len b.AK f.level.length g.level.length, fp_len b.AJ f.level.length g.level.length, fp_len b.AC f.level.length g.level.length]
/-- What turns apart from the document's locks leaves them. -/
theorem RfIs.far {w0 : Base} {w w' : World} {b : RfA} {f : Rf} {G : List Nat} (h : RfIs w0 w b f) (hk : Kept G w w') (hd : ∀ k ∈ G, k ∉ fpR b f ∧ (k ∈ w0.F ∨ w0.w.heap.size ≤ k)) : RfIs w0 w' b f :=
  ⟨⟨fun p hp => Piece.kept (h.at_.1 p hp) hk (fun k hk' hg => (hd k hg).1 (fpR_mem.2 ⟨p, hp, hk'⟩)), h.at_.2⟩, h.new, h.kept.trans' hk (fun k hk' => (hd k hk').2)⟩
theorem passR_owner (g : Rf) (q : Nat) (L : List Int) : (passR g q L).owner.length = g.owner.length := by cases L <;> simp [passR, waitR]
theorem passR_level (g : Rf) (q : Nat) (L : List Int) : (passR g q L).level.length = g.level.length := by cases L <;> simp [passR, waitR]
theorem Rf.Whole.pass {g : Rf} (h : g.Whole) (q : Nat) : (passR g q (lineR g q)).Whole := by
  have hm := lineR_mem (f := g) (l := (q : Int))
  cases hL : lineR g q with
  | nil => exact h.setOwner q (-1) (by omega)
  | cons x R =>
    rw [hL] at hm
    have := hm x (by simp)
    exact (h.setOwner q x (by omega)).wait x.toNat (-1) (-1) (by omega) (by omega)

/-- The document's locks, and two lists of their own, since an elder world. -/
structure DropI (w0 : Base) (w wr : World) (b : RfA) (g : Rf) (L X : List Int) (A1 A2 : Option Addr) (c1 c2 : Nat) : Prop where
  is : RfIs w0 wr b g
  elder : w0.w.heap.size ≤ w.heap.size
  size : w.heap.size ≤ wr.heap.size
  old : ∀ k ∈ fpR b g, k < w.heap.size
  o1 : wr.ownsRow 0 3 1 (.slice A1 L.length c1) L.length (L.map I64)
  o2 : wr.ownsRow 0 3 1 (.slice A2 X.length c2) X.length (X.map I64)
  n1 : ∀ k ∈ fp (.slice A1 L.length c1), w.heap.size ≤ k
  n2 : ∀ k ∈ fp (.slice A2 X.length c2), w.heap.size ≤ k
  d : ∀ k ∈ fp (.slice A2 X.length c2), k ∉ fp (.slice A1 L.length c1)
section
variable {w0 : Base} {w wr wx w6 : World} {b : RfA} {g g' : Rf} {L X : List Int} {A1 A2 A8 : Option Addr} {c1 c2 c8 : Nat} {x : Int}
theorem DropI.start (h : RfIs w0 w b g) : DropI w0 w w b g [] [] none none 0 0 :=
  ⟨h, h.kept.size, Nat.le_refl _, fun k hk => h.at_.fp_lt hk, World.ownsRow_nil _ _ _ _, World.ownsRow_nil _ _ _ _, by simp [fp, Value.ownBlock], by simp [fp, Value.ownBlock], by simp [fp, Value.ownBlock]⟩
theorem DropI.later (h : DropI w0 w wr b g L X A1 A2 c1 c2) (hk : Kept [] wr wx) : DropI w0 w wx b g L X A1 A2 c1 c2 :=
  ⟨h.is.old hk, h.elder, Nat.le_trans h.size hk.size, h.old, own_kept h.o1 hk (by simp), own_kept h.o2 hk (by simp), h.n1, h.n2, h.d⟩
theorem DropI.turn (h : DropI w0 w wr b g L X A1 A2 c1 c2) (hh : RfIs ⟨wr, fpR b g⟩ w6 b g') : DropI w0 w w6 b g' L X A1 A2 c1 c2 :=
  ⟨h.is.back hh, h.elder, Nat.le_trans h.size hh.kept.size, fun k hk => h.old k (by rw [fpR_eq b g g']; exact hk),
   own_kept h.o1 hh.kept (fun k hk hm => by have := h.n1 k hk; have := h.old k hm; omega), own_kept h.o2 hh.kept (fun k hk hm => by have := h.n2 k hk; have := h.old k hm; omega), h.n1, h.n2, h.d⟩
theorem DropI.add1 (h : DropI w0 w wr b g L X A1 A2 c1 c2) (hk : Kept [] wr wx) (ha : Appended wx w6 3 1 (.slice A1 L.length c1) (.slice A8 (L.length + 1) c8) (L.length + 1) (L.map I64 ++ [.int .i64 x])) : DropI w0 w w6 b g (L ++ [x]) X A8 A2 c8 c2 := by
  have hl : (L ++ [x]).length = L.length + 1 := by simp
  have h1 := h.later hk
  have hs := h1.size
  refine ⟨h1.is.far ha.2.1 (fun k hk' => ?_), h1.elder, Nat.le_trans hs ha.2.1.size, h1.old, ?_, own_kept h1.o2 ha.2.1 h1.d, ?_, h1.n2, ?_⟩
  · have h2 := h1.n1 k hk'
    exact ⟨fun hm => by have := h1.old k hm; omega, .inr (Nat.le_trans h1.elder h2)⟩
  · rw [hl, List.map_append]; exact ha.1
  · rw [hl]
    intro k hk'
    rcases ha.2.2 k hk' with h2 | h2
    · exact h1.n1 k h2
    · omega
  · rw [hl]
    intro k hk' hm
    rcases ha.2.2 k hm with h2 | h2
    · exact h1.d k hk' h2
    · have := own_lt h1.o2 k hk'; omega
theorem DropI.add2 (h : DropI w0 w wr b g L X A1 A2 c1 c2) (hk : Kept [] wr wx) (ha : Appended wx w6 3 1 (.slice A2 X.length c2) (.slice A8 (X.length + 1) c8) (X.length + 1) (X.map I64 ++ [.int .i64 x])) : DropI w0 w w6 b g L (X ++ [x]) A1 A8 c1 c8 := by
  have hl : (X ++ [x]).length = X.length + 1 := by simp
  have h1 := h.later hk
  have hs := h1.size
  refine ⟨h1.is.far ha.2.1 (fun k hk' => ?_), h1.elder, Nat.le_trans hs ha.2.1.size, h1.old, own_kept h1.o1 ha.2.1 (fun k hk' hm => h1.d k hm hk'), ?_, h1.n1, ?_, ?_⟩
  · have h2 := h1.n2 k hk'
    exact ⟨fun hm => by have := h1.old k hm; omega, .inr (Nat.le_trans h1.elder h2)⟩
  · rw [hl, List.map_append]; exact ha.1
  · rw [hl]
    intro k hk'
    rcases ha.2.2 k hk' with h2 | h2
    · exact h1.n2 k h2
    · omega
  · rw [hl]
    intro k hk' hm
    rcases ha.2.2 k hk' with h2 | h2
    · exact h1.d k h2 hm
    · have := own_lt h1.o1 k hm; omega
end

/-- A thread's locks dropped, one after another. -/
def dropK (f : Rf) (t : Int) : Nat → Rf × List Int × List Int
  | 0 => (waitR f t.toNat (-1) (-1), [], [])
  | k + 1 => if (dropK f t k).1.owner.getD k 0 = t then (passR (dropK f t k).1 k (lineR (dropK f t k).1 k), (dropK f t k).2.1 ++ [(k : Int)], (dropK f t k).2.2 ++ [passE (lineR (dropK f t k).1 k)]) else dropK f t k
theorem dropK_ok {f : Rf} (hw : f.Whole) (t : Int) (ht : 0 ≤ t ∧ t < f.level.length) : ∀ k, (dropK f t k).1.Whole ∧ (dropK f t k).1.owner.length = f.owner.length ∧ (dropK f t k).1.level.length = f.level.length ∧ (dropK f t k).2.1.length ≤ k ∧ (dropK f t k).2.2.length ≤ k
  | 0 => ⟨hw.wait t.toNat (-1) (-1) (by omega) (by omega), rfl, rfl, Nat.le_refl _, Nat.le_refl _⟩
  | k + 1 => by
    obtain ⟨h1, h2, h3, h4, h5⟩ := dropK_ok hw t ht k
    unfold dropK
    split
    · exact ⟨h1.pass k, by rw [passR_owner]; exact h2, by rw [passR_level]; exact h3, by simp; omega, by simp; omega⟩
    · exact ⟨h1, h2, h3, by omega, by omega⟩

set_option maxHeartbeats 6400000 in
set_option maxRecDepth 100000 in
theorem refDrop {w0 : Base} {w : World} {b : RfA} {f : Rf} (h : RfIs w0 w b f) (hw : f.Whole) (t : Int) (ht : 0 ≤ t ∧ t < f.level.length) :
    Calls Tryz.prog 20 #[.pointer (some ⟨b.r, 0, none⟩), .int .i64 t] w fun e w' => ∃ A1 A2 c1 c2, e = .returned (.tuple #[.slice A1 (dropK f t f.owner.length).2.1.length c1, .slice A2 (dropK f t f.owner.length).2.2.length c2]) ∧ DropI w0 w w' b (dropK f t f.owner.length).1 (dropK f t f.owner.length).2.1 (dropK f t f.owner.length).2.2 A1 A2 c1 c2 := by
  have HT := Lib.hid (refThread h.at_ t)
  have hd : decide (0 ≤ t ∧ t < (f.level.length : Int)) = true := by simp; omega
  rw [hd] at HT
  obtain ⟨k0, hk0⟩ : ∃ k : Nat, t = k := ⟨t.toNat, by omega⟩
  have hr1 : w.cell? ⟨b.r, 1, none⟩ = some (.pointer (some ⟨b.rw, 0, none⟩)) := h.at_.blk.cell 1
  have hrl := h.at_.blk.lt
  have HWT : Hid (Calls Tryz.prog 56 #[.pointer (some ⟨b.rw, 0, none⟩), .int .i64 t, .int .i64 (-1), .int .i64 (-1)] w fun e w' => e = .returned (.tuple #[]) ∧ DropI w0 w w' b (dropK f t 0).1 [] [] none none 0 0) := by
    subst hk0
    refine (refWait h.self hw k0 (by omega) (-1) (-1)).mono ?_
    rintro e w' ⟨rfl, hh⟩
    refine ⟨rfl, (DropI.start h).turn ?_⟩
    show RfIs _ _ _ (waitR f (k0 : Int).toNat (-1) (-1))
    rw [Int.toNat_natCast k0]
    exact hh
  have HG0 : Hid (dropK f t 0 = ((dropK f t 0).1, [], [])) := rfl
  have HOK := Lib.hid (dropK_ok hw t ht)
  have HST : Hid (∀ k, dropK f t (k + 1) = if (dropK f t k).1.owner.getD k 0 = t then (passR (dropK f t k).1 k (lineR (dropK f t k).1 k), (dropK f t k).2.1 ++ [(k : Int)], (dropK f t k).2.2 ++ [passE (lineR (dropK f t k).1 k)]) else dropK f t k) := fun k => rfl
  have HPS : Hid (∀ wr g L X A1 A2 c1 c2 k, DropI w0 w wr b g L X A1 A2 c1 c2 → g.Whole → k < g.owner.length → Calls Tryz.prog 52 #[.pointer (some ⟨b.r, 0, none⟩), .int .i64 (k : Nat)] wr fun e w' => e = .returned (.int .i64 (passE (lineR g k))) ∧ DropI w0 w w' b (passR g k (lineR g k)) L X A1 A2 c1 c2) := fun wr g L X A1 A2 c1 c2 k hD hg hk => by
    refine (refPass hD.is.self hg k hk).mono ?_
    rintro e w' ⟨rfl, hh⟩
    exact ⟨rfl, hD.turn hh⟩
  have hm64 := hw.m64
  generalize hG : (dropK f t 0).1 = g0 at *
  generalize hM : f.owner.length = m at *
  clear hd h hw hM hG ht hk0 k0
  go_enter Tryz.func20, Tryz.ntmps20
  go_wp2_with fail
  refine (HT.out).mono ?_
  rintro e w1 ⟨rfl, rfl⟩
  go_wp2_with fail
  refine (HWT.out).mono ?_
  rintro e w1 ⟨rfl, hD⟩
  have HD0 := Lib.hid hD
  clear hD
  go_wp2_with fail
  go_loopw [6, 7, 8] (fun v1 v2 kv wr => ∃ (k : Nat) (A1 A2 : Option Addr) (c1 c2 : Nat) (L X : List Int) (g : Rf), k ≤ m ∧ v1 = .slice A1 L.length c1 ∧ v2 = .slice A2 X.length c2 ∧ kv = .int .i64 k ∧ Hid (dropK f t k = (g, L, X)) ∧ Hid (DropI w0 w wr b g L X A1 A2 c1 c2)) (fun _ _ k _ => m - (intOf k).toNat)
  case atStart => exact ⟨0, none, none, 0, 0, [], [], g0, by omega, rfl, rfl, rfl, HG0.out, HD0.out⟩
  case round =>
    clear HD0 HWT
    obtain ⟨k, A1, A2, c1, c2, L, X, g, hk1, rfl, rfl, rfl, HL, HD⟩ := hrel
    have hok := HOK.out k
    have hst := HST.out k
    rw [HL.out] at hok hst
    obtain ⟨hg1, hg2, hg3, hg4, hg5⟩ := hok
    have hc1 : wr.cell? ⟨b.r, 1, none⟩ = some (.pointer (some ⟨b.rw, 0, none⟩)) := HD.out.is.at_.blk.cell 1
    have hlb := HD.out.is.at_.blk.lt
    have hc2 : wr.cell? ⟨b.rw, 0, none⟩ = some (.slice b.AO g.owner.length b.cO) := HD.out.is.at_.web.cell 0
    have hlw := HD.out.is.at_.web.lt
    dsimp only at hg1 hg2 hg3 hg4 hg5 hst
    by_cases hk : k < m
    · obtain ⟨go, hgo, hco, _, hlo⟩ := HD.out.is.at_.owner k (by omega)
      have HP := Lib.hid (fun wr L X A1 A2 c1 c2 hD => HPS.out wr g L X A1 A2 c1 c2 k hD hg1 (by omega))
      rw [hgo] at hc2
      rw [hg2] at hc2
      have hki : (k : Int) < (m : Int) := by omega
      have hk0 : (0 : Int) ≤ (k : Int) := by omega
      generalize g.owner.getD k 0 = y at *
      generalize passE (lineR g k) = pe at *
      generalize passR g k (lineR g k) = pr at *
      by_cases hy : y = t
      · subst hy
        rw [if_pos rfl] at hst
        have HS := Lib.hid hst
        clear hst hgo hg1 hg2 hg3
        have HDA : Hid (∀ v, Kept [] wr (wr.alloc v)) := fun v => (Kept.refl [] wr).alloc v
        go_wp2_with (at_builtin; refine wpList_append_any _ rfl _ _ 27 rfl 3 (.int .i64 0) 1 8 Tryz.underlying27 Tryz.infoInt rfl (by decide) (.slice A1 L.length c1) L.length (L.map I64) rfl (own_kept HD.out.o1 ((Kept.refl [] _).alloc _) (by simp)) _ 1 1 [.int .i64 (k : Int)] rfl (reads_one _ _ _) (by simp [Value.oneCell']) (by simp only [maxLen]; omega) (by omega) ?_; rintro A8 c8 w6 happ; have HD6 := Lib.hid (HD.out.add1 ((Kept.refl [] _).alloc _) happ); clear happ)
        refine (HP.out _ _ _ _ _ _ _ HD6.out).mono ?_
        rintro e w7 ⟨rfl, hD7⟩
        have HD7 := Lib.hid hD7
        clear hD7
        go_wp2_with (at_builtin; refine wpList_append_any _ rfl _ _ 27 rfl 3 (.int .i64 0) 1 8 Tryz.underlying27 Tryz.infoInt rfl (by decide) (.slice A2 X.length c2) X.length (X.map I64) rfl (own_kept HD7.out.o2 ((Kept.refl [] _).alloc _) (by simp)) _ 1 1 [.int .i64 pe] rfl (reads_one _ _ _) (by simp [Value.oneCell']) (by simp only [maxLen]; omega) (by omega) ?_; rintro A9 c9 w8 happ; have HD8 := Lib.hid (HD7.out.add2 ((Kept.refl [] _).alloc _) happ); clear happ)
        go_roundw
        case rel => exact ⟨k + 1, A8, A9, c8, c9, L ++ [(k : Int)], X ++ [pe], pr, by omega, by simp, by simp, by go_num, HS.out, HD8.out⟩
        case measure => simp [intOf]; omega
      · rw [if_neg hy] at hst
        have hyb : (y == t) = false := beq_eq_false_iff_ne.2 hy
        rw [← HL.out] at hst
        have HS : Hid (dropK f t (k + 1) = (g, L, X)) := hst.trans HL.out
        clear hst hgo hg1 hg2 hg3 hy
        go_wp2_with fail
        go_roundw
        case rel => exact ⟨k + 1, A1, A2, c1, c2, L, X, g, by omega, rfl, rfl, by go_num, HS.out, HD.out⟩
        case measure => simp [intOf]; omega
    · obtain rfl : k = m := by omega
      have hL := HL.out
      clear HL hst
      rw [hg2] at hc2
      clear hg1 hg2 hg3
      go_wp2_with fail
      go_ret2
      rw [hL]
      exact ⟨A1, A2, c1, c2, rfl, HD.out⟩

end Go.Proofs.YtfoeijiejpenpaaGreatDoor

/- Package bosunref26, a thread that ends, walked. -/
namespace Go.Proofs.YtfoeijiejpenpaaGreatDoor
open Go.RowKit

set_option maxHeartbeats 1600000 in
theorem refDropNo {w : World} {b : RfA} {f : Rf} (h : RfAt w b f) (t : Int) (ht : ¬ (0 ≤ t ∧ t < f.level.length)) :
    Calls Tryz.prog 20 #[.pointer (some ⟨b.r, 0, none⟩), .int .i64 t] w fun e w' => e = .returned (.tuple #[.slice none 0 0, .slice none 0 0]) ∧ w = w' := by
  have HT := Lib.hid (refThread h t)
  have hd : decide (0 ≤ t ∧ t < (f.level.length : Int)) = false := by simp; omega
  rw [hd] at HT
  have hr1 : w.cell? ⟨b.r, 1, none⟩ = some (.pointer (some ⟨b.rw, 0, none⟩)) := h.blk.cell 1
  have hrl := h.blk.lt
  clear hd h ht
  go_enter Tryz.func20, Tryz.ntmps20
  go_wp2_with fail
  refine (HT.out).mono ?_
  rintro e w1 ⟨rfl, rfl⟩
  go_wp2_with fail
  go_ret2
  exact ⟨rfl, rfl⟩

/-- Those who wait for a thread's end. -/
def joinK (f : Rf) (u : Int) (k : Nat) : List Int := ((List.range k).filter fun t : Nat => decide (0 ≤ u ∧ u < f.level.length) && f.join.getD t 0 == u).map fun t : Nat => (t : Int)
theorem joinK_len (f : Rf) (l : Int) (k : Nat) : (joinK f l k).length ≤ k := by
  unfold joinK
  rw [List.length_map]
  exact Nat.le_trans (List.length_filter_le _ _) (by simp)
theorem joinK_step (f : Rf) (l : Int) (k : Nat) : joinK f l (k + 1) = if (decide (0 ≤ l ∧ l < f.level.length) && f.join.getD k 0 == l) = true then joinK f l k ++ [(k : Int)] else joinK f l k := by
  unfold joinK
  rw [List.range_succ, List.filter_append, List.map_append]
  split
  · rename_i h
    rw [List.filter_cons, if_pos (by exact h)]
    simp
  · rename_i h
    rw [List.filter_cons, if_neg (by exact h)]
    simp
theorem joinK_mem {f : Rf} {l : Int} {k : Nat} : ∀ x ∈ joinK f l k, 0 ≤ x ∧ x < k := by
  intro x hx
  obtain ⟨t, ht, rfl⟩ := List.mem_map.1 hx
  have := List.mem_range.1 (List.mem_filter.1 ht).1
  omega
/-- The same, in the order in which they came. -/
def endQ (f : Rf) (u : Int) : List Int := sortK f false (joinK f u f.level.length) (joinK f u f.level.length).length
theorem endQ_len {f : Rf} {l : Int} : (endQ f l).length ≤ f.level.length := by
  unfold endQ
  rw [sortK_len _ _ _ _ (Nat.le_refl _)]
  exact joinK_len f l _
theorem endQ_mem {f : Rf} {l : Int} : ∀ x ∈ endQ f l, 0 ≤ x ∧ x < f.level.length := fun x hx => joinK_mem x (sortK_mem _ (Nat.le_refl _) x hx)
/-- Each of them waits no more. -/
def endedR (f : Rf) (L : List Int) : Nat → Rf
  | 0 => f
  | k + 1 => waitR (endedR f L k) (L.getD k 0).toNat (-1) (-1)
theorem endedR_ok {f : Rf} (hw : f.Whole) (L : List Int) : ∀ k, (endedR f L k).Whole ∧ (endedR f L k).owner.length = f.owner.length ∧ (endedR f L k).level.length = f.level.length
  | 0 => ⟨hw, rfl, rfl⟩
  | k + 1 => by
    obtain ⟨h1, h2, h3⟩ := endedR_ok hw L k
    exact ⟨h1.wait _ (-1) (-1) (by omega) (by omega), h2, h3⟩
theorem DropI.of_fresh {w0 : Base} {w wr : World} {b : RfA} {f : Rf} {L : List Int} {A : Option Addr} {c : Nat} (h : RfIs w0 w b f) (hF : FreshI w wr L A L.length c) : DropI w0 w wr b f L [] A none c 0 :=
  ⟨h.old hF.2.1, h.kept.size, hF.2.1.size, fun k hk => h.at_.fp_lt hk, hF.1, World.ownsRow_nil _ _ _ _, hF.2.2, by simp [fp, Value.ownBlock], by simp [fp, Value.ownBlock]⟩

set_option maxHeartbeats 6400000 in
set_option maxRecDepth 100000 in
theorem refEnded {w0 : Base} {w : World} {b : RfA} {f : Rf} (h : RfIs w0 w b f) (hw : f.Whole) (u : Int) :
    Calls Tryz.prog 25 #[.pointer (some ⟨b.r, 0, none⟩), .int .i64 u] w fun e w' => ∃ A c, e = .returned (.slice A (endQ f u).length c) ∧ DropI w0 w w' b (endedR f (endQ f u) (endQ f u).length) (endQ f u) [] A none c 0 := by
  have hmix : Tryz.prog.follows .mixedOrders = true := by kernel_rfl
  have HN := Lib.hid (fun W (hk : Kept [] w W) => refThread (h.at_.old hk) u)
  have HLK : Hid (∀ W, Kept [] w W → ∀ k, k < f.level.length → ∃ g, b.AJ = some ⟨g, 0, none⟩ ∧ W.cell? ⟨g, k, none⟩ = some (.int .i64 (f.join.getD k 0)) ∧ g < W.heap.size) := fun W hk k hk1 => by
    obtain ⟨g, h1, h2, _, h3⟩ := RfAt.join (Holds.old h.at_ hk) hw k hk1
    exact ⟨g, h1, h2, h3⟩
  have hn64 := hw.n64
  have HB := Lib.hid h.at_.web
  have HBR := Lib.hid h.at_.blk
  have HST := Lib.hid (fun k => joinK_step f u k)
  have HLE := Lib.hid (fun k => joinK_len f u k)
  have HG0 : Hid (joinK f u 0 = []) := by show joinK f u 0 = []; simp [joinK]
  have HSO : Hid (∀ W A c, FreshI w W (joinK f u f.level.length) A (joinK f u f.level.length).length c → Calls Tryz.prog 65 #[.pointer (some ⟨b.r, 0, none⟩), .slice A (joinK f u f.level.length).length c, .bool false] W fun e w' => ∃ A c, e = .returned (.slice A (endQ f u).length c) ∧ DropI w0 w w' b f (endQ f u) [] A none c 0) := fun W A c hF => by
    have hl := joinK_len f u f.level.length
    refine (refSorted (h.at_.old hF.2.1) hw A c _ hF.reads (by omega) (fun x hx => joinK_mem x hx) false).mono ?_
    rintro e w' ⟨A2, c2, rfl, h2⟩
    exact ⟨A2, c2, rfl, DropI.of_fresh h (h2.since hF.2.1)⟩
  have HLL := Lib.hid (endQ_len (f := f) (l := u))
  have HLM := Lib.hid (endQ_mem (f := f) (l := u))
  have HE0 : Hid (endedR f (endQ f u) 0 = f) := rfl
  have HER : Hid (∀ k, endedR f (endQ f u) (k + 1) = waitR (endedR f (endQ f u) k) ((endQ f u).getD k 0).toNat (-1) (-1)) := fun k => rfl
  have HEK := Lib.hid (fun k => endedR_ok hw (endQ f u) k)
  have HPS : Hid (∀ wr g S A c k, DropI w0 w wr b g S [] A none c 0 → g.Whole → k < g.level.length → Calls Tryz.prog 56 #[.pointer (some ⟨b.rw, 0, none⟩), .int .i64 (k : Nat), .int .i64 (-1), .int .i64 (-1)] wr fun e w' => e = .returned (.tuple #[]) ∧ DropI w0 w w' b (waitR g k (-1) (-1)) S [] A none c 0) := fun wr g S A c k hD hg hk => by
    refine (refWait hD.is.self hg k hk (-1) (-1)).mono ?_
    rintro e w' ⟨rfl, hh⟩
    exact ⟨rfl, hD.turn hh⟩
  obtain ⟨D, hD⟩ : ∃ D, decide (0 ≤ u ∧ u < (f.level.length : Int)) = D := ⟨_, rfl⟩
  rw [hD] at HN HST
  generalize hn : f.level.length = n at *
  generalize hS : endQ f u = S at *
  clear h hw hn hD hS
  go_enter Tryz.func25, Tryz.ntmps25
  go_wp2_with fail
  go_loopw [5, 6] (fun ov kv wr => ∃ (k : Nat) (A : Option Addr) (c : Nat) (L : List Int), k ≤ n ∧ ov = .slice A L.length c ∧ kv = .int .i64 k ∧ Hid (joinK f u k = L) ∧ Hid (FreshI w wr L A L.length c)) (fun _ k _ => n - (intOf k).toNat)
  case atStart => exact ⟨0, none, 0, [], by omega, rfl, rfl, HG0.out, FreshI.nil w⟩
  case round =>
    obtain ⟨k, A, c, L, hk1, rfl, rfl, HL, HF⟩ := hrel
    have HBW := Lib.hid (HB.out.kept HF.out.2.1 (by simp))
    have hc1 : wr.cell? ⟨b.rw, 2, none⟩ = some (.slice b.AJ n b.cJ) := HBW.out.cell 2
    have hlb := HBW.out.lt
    have HBX := Lib.hid (HBR.out.kept HF.out.2.1 (by simp))
    have hc0 : wr.cell? ⟨b.r, 1, none⟩ = some (.pointer (some ⟨b.rw, 0, none⟩)) := HBX.out.cell 1
    have hlr := HBX.out.lt
    by_cases hk : k < n
    · have HNX := Lib.hid (HN.out _ HF.out.2.1)
      have hst := HST.out k
      have hLn := HLE.out k
      rw [HL.out] at hst hLn
      obtain ⟨gk, hgk, hck, hlk⟩ := HLK.out _ HF.out.2.1 k hk
      rw [hgk] at hc1
      have hki : (k : Int) < (n : Int) := by omega
      have hk0 : (0 : Int) ≤ (k : Int) := by omega
      generalize f.join.getD k 0 = x at *
      cases D with
      | true =>
        rw [Bool.true_and] at hst
        by_cases hx : x = u
        · subst hx
          rw [if_pos (by simp)] at hst
          have HS := Lib.hid hst
          clear hst hgk
          go_wp2_with fail
          refine (HNX.out).mono ?_
          rintro e w1 ⟨rfl, rfl⟩
          go_wp2_with (at_builtin; refine wpList_append_any _ rfl _ _ 27 rfl 3 (.int .i64 0) 1 8 Tryz.underlying27 Tryz.infoInt rfl (by decide) (.slice A L.length c) L.length (L.map I64) rfl (own_kept HF.out.1 ((Kept.refl [] _).alloc _) (by simp)) _ 1 1 [.int .i64 (k : Int)] rfl (reads_one _ _ _) (by simp [Value.oneCell']) (by simp only [maxLen]; omega) (by omega) ?_; rintro A8 c8 w6 happ; have HA := Lib.hid happ; clear happ)
          go_roundw
          case rel => exact ⟨k + 1, A8, c8, L ++ [(k : Int)], by omega, by simp, by go_num, HS.out, HF.out.add ((Kept.refl [] _).alloc _) HA.out⟩
          case measure => simp [intOf]; omega
        · have hb : (x == u) = false := beq_eq_false_iff_ne.2 hx
          rw [if_neg (by simp [hx])] at hst
          have HS := Lib.hid hst
          clear hst hgk hx
          go_wp2_with fail
          refine (HNX.out).mono ?_
          rintro e w1 ⟨rfl, rfl⟩
          go_wp2_with fail
          go_roundw
          case rel => exact ⟨k + 1, A, c, L, by omega, rfl, by go_num, HS.out, HF.out⟩
          case measure => simp [intOf]; omega
      | false =>
        rw [Bool.false_and, if_neg (by simp)] at hst
        have HS := Lib.hid hst
        clear hst hgk
        go_wp2_with fail
        refine (HNX.out).mono ?_
        rintro e w1 ⟨rfl, rfl⟩
        go_wp2_with fail
        go_roundw
        case rel => exact ⟨k + 1, A, c, L, by omega, rfl, by go_num, HS.out, HF.out⟩
        case measure => simp [intOf]; omega
    · obtain rfl : k = n := by omega
      have hL := HL.out
      subst hL
      clear HL
      have HS := Lib.hid (HSO.out _ _ _ HF.out)
      go_wp2_with fail
      refine (HS.out).mono ?_
      rintro e w2 ⟨A2, c2, rfl, hD⟩
      have HD2 := Lib.hid hD
      clear hD HS HSO HF HBW HBX hlb hlr
      go_wp2_with fail
      generalize hsn : S.length = sn at *
      have HSN := Lib.hid hsn
      have hs64 : sn ≤ 64 := by have := HLL.out; omega
      clear hsn
      go_loopw [7] (fun iv wr3 => ∃ i : Nat, i ≤ sn ∧ iv = .int .i64 i ∧ Hid (DropI w0 w wr3 b (endedR f S i) S [] A2 none c2 0)) (fun i _ => sn - (intOf i).toNat)
      case atStart => exact ⟨0, by omega, rfl, HD2.out⟩
      case round =>
        clear HD2
        obtain ⟨i, hi1, rfl, HD⟩ := hrel
        by_cases hi : i < sn
        · have hx : S[i]? = some (S[i]'(by rw [HSN.out]; exact hi)) := List.getElem?_eq_getElem _
          obtain ⟨x, hxx⟩ : ∃ x : Nat, S[i]'(by rw [HSN.out]; exact hi) = x := by
            have := HLM.out _ (List.mem_of_getElem? hx)
            exact ⟨(S[i]'(by rw [HSN.out]; exact hi)).toNat, by omega⟩
          rw [hxx] at hx
          have hxn : x < k := by have := HLM.out _ (List.mem_of_getElem? hx); omega
          have hgx : S.getD i 0 = x := by rw [List.getD_eq_getElem?_getD, hx]; rfl
          have her := HER.out i
          rw [hgx, Int.toNat_natCast x] at her
          have hek := HEK.out i
          have HWT := Lib.hid (fun wr hD => HPS.out wr (endedR f S i) S A2 c2 x hD hek.1 (by omega))
          rw [← her] at HWT
          have hll := HLL.out
          obtain ⟨ab, ao, hA, hal, hcl⟩ := (Reads.of_own HD.out.o1).addr (by rw [HSN.out]; omega) (by omega)
          subst hA
          have hcx := hcl i (.int .i64 (x : Int)) (by rw [List.getElem?_map, hx]; rfl)
          have HCX : Hid (∀ W g, DropI w0 w W b g S [] (some ⟨ab, ao, none⟩) none c2 0 → W.cell? ⟨ab, ao + i, none⟩ = some (.int .i64 x) ∧ W.cell? ⟨b.r, 1, none⟩ = some (.pointer (some ⟨b.rw, 0, none⟩)) ∧ b.r < W.heap.size) := fun W g hD => by
            obtain ⟨ab', ao', hA', _, hcl'⟩ := (Reads.of_own hD.o1).addr (by rw [HSN.out]; omega) (by omega)
            cases hA'
            exact ⟨hcl' i (.int .i64 (x : Int)) (by rw [List.getElem?_map, hx]; rfl), hD.is.at_.blk.cell 1, hD.is.at_.blk.lt⟩
          have hin : (i : Int) < (sn : Int) := by omega
          have hi0 : (0 : Int) ≤ (i : Int) := by omega
          obtain ⟨g1, g2, g3⟩ := HCX.out _ _ HD.out
          have HDD := Lib.hid (HD.out.later ((Kept.refl [] _).drew))
          obtain ⟨g4, g5, g6⟩ := HCX.out _ _ HDD.out
          clear hcx hcl hx hxx hgx her hek hll
          go_wp2_with fail
          refine wp_region_held_drew (S := fun W => W.cell? ⟨ab, ao + i, none⟩ = some (.int .i64 x) ∧ W.cell? ⟨b.r, 1, none⟩ = some (.pointer (some ⟨b.rw, 0, none⟩))) hmix ⟨g4, g5⟩ (fun hHeld => ?_)
          (refine rtake_0 (v := ?_) (by kernel_rfl) (by kernel_rfl) (by kernel_rfl) (fun _ _ _ h => h) (Or.inl ⟨by rfl, ?_⟩) (by assumption) ?_; rotate_left; (focus ((intro w hSw; (try dsimp only at hSw); go_simp); try (with_reducible rfl))); (try dsimp only [Act.put]); (try simp only [List.setIfInBounds_toArray, List.set_cons_zero, List.set_cons_succ]))
          (refine rtake_1 (v := ?_) (by kernel_rfl) (by kernel_rfl) (by kernel_rfl) (fun _ _ _ h => h) (Or.inl ⟨by rfl, ?_⟩) (by assumption) ?_; rotate_left; (focus ((intro w hSw; (try dsimp only at hSw); go_simp); try (with_reducible rfl))); (try dsimp only [Act.put]); (try simp only [List.setIfInBounds_toArray, List.set_cons_zero, List.set_cons_succ]))
          (refine rtake_2 (v := ?_) (by kernel_rfl) (by kernel_rfl) (by kernel_rfl) (fun _ _ _ h => h) (Or.inl ⟨by rfl, ?_⟩) (by assumption) ?_; rotate_left; (focus ((intro w hSw; (try dsimp only at hSw); go_simp); try (with_reducible rfl))); (try dsimp only [Act.put]); (try simp only [List.setIfInBounds_toArray, List.set_cons_zero, List.set_cons_succ]))
          (refine rtake_3 (v := ?_) (by kernel_rfl) (by kernel_rfl) (by kernel_rfl) (fun _ _ _ h => h) (Or.inl ⟨by rfl, ?_⟩) (by assumption) ?_; rotate_left; (focus ((intro w hSw; (try dsimp only at hSw); go_simp); try (with_reducible rfl))); (try dsimp only [Act.put]); (try simp only [List.setIfInBounds_toArray, List.set_cons_zero, List.set_cons_succ]))
          (refine rtake_4 (v := ?_) (by kernel_rfl) (by kernel_rfl) (by kernel_rfl) (fun _ _ _ h => h) (Or.inl ⟨by rfl, ?_⟩) (by assumption) ?_; rotate_left; (focus ((intro w hSw; (try dsimp only at hSw); go_simp); try (with_reducible rfl))); (try dsimp only [Act.put]); (try simp only [List.setIfInBounds_toArray, List.set_cons_zero, List.set_cons_succ]))
          (refine rtake_5 (v := ?_) (by kernel_rfl) (by kernel_rfl) (by kernel_rfl) (fun _ _ _ h => h) (Or.inl ⟨by rfl, ?_⟩) (by assumption) ?_; rotate_left; (focus ((intro w hSw; (try dsimp only at hSw); go_simp); try (with_reducible rfl))); (try dsimp only [Act.put]); (try simp only [List.setIfInBounds_toArray, List.set_cons_zero, List.set_cons_succ]))
          (refine rtake_6 (v := ?_) (by kernel_rfl) (by kernel_rfl) (by kernel_rfl) (fun _ _ _ h => h) (Or.inl ⟨by rfl, ?_⟩) (by assumption) ?_; rotate_left; (focus ((intro w hSw; (try dsimp only at hSw); go_simp); try (with_reducible rfl))); (try dsimp only [Act.put]); (try simp only [List.setIfInBounds_toArray, List.set_cons_zero, List.set_cons_succ]))
          (refine rtake_7 (v := ?_) (by kernel_rfl) (by kernel_rfl) (by kernel_rfl) (fun _ _ _ h => h) (Or.inl ⟨by rfl, ?_⟩) (by assumption) ?_; rotate_left; (focus ((intro w hSw; (try dsimp only at hSw); go_simp); try (with_reducible rfl))); (try dsimp only [Act.put]); (try simp only [List.setIfInBounds_toArray, List.set_cons_zero, List.set_cons_succ]))
          (refine wpAnyH_ready (rs := [8]) (by kernel_rfl) (by simp) ?_; refine rcons_8 (fun K hK => ?_) (AllReadyH.nil))
          go_simp
          (with_reducible refine (HWT.out _ HDD.out).mono ?_)
          rintro r w3 ⟨rfl, hh⟩
          have HD3 := Lib.hid hh
          obtain ⟨g7, g8, g9⟩ := HCX.out _ _ hh
          clear hh
          try go_simp
          refine hK.out _ _ ⟨g7, g8⟩ (fun hHeld => ?_)
          clear hK K
          (try simp only [Act.put, List.setIfInBounds_toArray, List.set_cons_zero, List.set_cons_succ])
          refine wpAnyH_done (by kernel_rfl) ?_ _
          go_wp2_with fail
          go_roundw
          case rel => exact ⟨i + 1, by omega, by go_num, HD3.out⟩
          case measure => simp [intOf]; omega
        · obtain rfl : i = sn := by omega
          have hsn := HSN.out
          go_wp2_with fail
          go_ret
          rw [hsn]
          exact ⟨A2, c2, rfl, HD.out⟩

end Go.Proofs.YtfoeijiejpenpaaGreatDoor

/- Packages bosunref24, bosunref26: New, walked. -/
namespace Go.Proofs.YtfoeijiejpenpaaGreatDoor
open Go.RowKit

set_option maxHeartbeats 3200000 in
theorem rf24Row (x : Int) (n : Nat) (hn : clampM x = n) (w : World) : Calls Tryz.prog 42 #[.int .i64 x] w fun e w' => ∃ A c, e = .returned (.slice A n c) ∧ FreshI w w' (List.replicate n (-1)) A n c := by
  have hn64 := clampM_le x
  rw [hn] at hn64
  have hlt : ∀ i : Nat, i < n → (i : Int) < 64 ∧ (i : Int) < x := fun i hi => by
    unfold clampM at hn
    split at hn <;> omega
  have hge : n = 64 ∨ (n < 64 ∧ ¬ ((n : Int) < x)) := by
    unfold clampM at hn
    split at hn <;> omega
  have HLT := Lib.hid hlt
  have HGE := Lib.hid hge
  have HF0 : Hid (FreshI w w (List.replicate 0 (-1)) none 0 0) := FreshI.nil w
  clear hn hlt hge
  go_enter Tryz.func42, Tryz.ntmps42
  go_wp2_with fail
  go_loopw [3, 4] (fun ov iv wr => ∃ (i : Nat) (A : Option Addr) (c : Nat), i ≤ n ∧ ov = .slice A i c ∧ iv = .int .i64 i ∧ Hid (FreshI w wr (List.replicate i (-1)) A i c)) (fun _ i _ => n - (intOf i).toNat)
  case atStart => exact ⟨0, none, 0, by omega, rfl, rfl, HF0.out⟩
  case round =>
    obtain ⟨i, A, c, hi1, rfl, rfl, HF⟩ := hrel
    by_cases hi : i < n
    · obtain ⟨h1, h2⟩ := HLT.out i hi
      have HR : Hid (∀ W, Kept [] wr W → W.ownsRow 0 3 1 (.slice A i c) i ((List.replicate i (-1)).map I64)) := fun W hk => own_kept HF.out.1 hk (by simp)
      have HAD : Hid (∀ wx w6 A8 c8, Kept [] wr wx → Appended wx w6 3 1 (.slice A i c) (.slice A8 (i + 1) c8) (i + 1) ((List.replicate i (-1)).map I64 ++ [.int .i64 (-1)]) → FreshI w w6 (List.replicate (i + 1) (-1)) A8 (i + 1) c8) := fun wx w6 A8 c8 hk ha => by
        have hl : (List.replicate i (-1 : Int)).length = i := by simp
        have h := FreshI.add (w := w) (wr := wr) (L := List.replicate i (-1)) (A := A) (c := c) (by rw [hl]; exact HF.out) hk (by rw [hl]; exact ha)
        rw [List.replicate_succ']
        rw [List.length_append, hl] at h
        exact h
      go_wp2_with (at_builtin; refine wpList_append_any _ rfl _ _ 27 rfl 3 (.int .i64 0) 1 8 Tryz.underlying27 Tryz.infoInt rfl (by decide) (.slice A i c) i ((List.replicate i (-1)).map I64) rfl (HR.out _ ((Kept.refl [] _).alloc _)) _ 1 1 [.int .i64 (-1)] rfl (reads_one _ _ _) (by simp [Value.oneCell']) (by simp only [maxLen]; omega) (by omega) ?_; rintro A8 c8 w6 happ; have HA := Lib.hid (HAD.out _ _ _ _ ((Kept.refl [] _).alloc _) happ); clear happ)
      go_roundw
      case rel => exact ⟨i + 1, A8, c8, by omega, rfl, by go_num, HA.out⟩
      case measure => simp [intOf]; omega
    · obtain rfl : i = n := by omega
      rcases HGE.out with h1 | ⟨h1, h2⟩
      · have h3 : ¬ ((i : Int) < 64) := by omega
        have hd : decide ((i : Int) < 64) = false := decide_eq_false h3
        clear h3
        subst h1
        go_wp2_with fail
        go_ret
        exact ⟨A, c, rfl, HF.out⟩
      · have h3 : (i : Int) < 64 := by omega
        have h4 : x ≤ (i : Int) := by omega
        have hd : decide ((i : Int) < x) = false := decide_eq_false (by omega)
        clear h1 h2
        go_wp2_with fail
        go_ret
        exact ⟨A, c, rfl, HF.out⟩

/-- A new web's pieces. -/
def rwebP (rw n m : Nat) (AO AK AJ : Option Addr) (cO cK cJ : Nat) : List Piece := [
  .blk rw 32 #[.slice AO m cO, .slice AK n cK, .slice AJ n cJ],
  .row 3 1 (.slice AO m cO) m (List.replicate m (I64 (-1))),
  .row 3 1 (.slice AK n cK) n (List.replicate n (I64 (-1))),
  .row 3 1 (.slice AJ n cJ) n (List.replicate n (I64 (-1)))]
theorem fresh_push {w0 w w' : World} {ps : List Piece} {L : List Int} {A : Option Addr} {n c : Nat} (h : Holds w ps) (hN : Newer w0 ps) (hk0 : Kept [] w0 w) (hF : FreshI w w' L A n c) : Holds w' (ps ++ [.row 3 1 (.slice A n c) n (L.map I64)]) ∧ Newer w0 (ps ++ [.row 3 1 (.slice A n c) n (L.map I64)]) ∧ Kept [] w0 w' :=
  ⟨h.push hF.2.1 hF.1 hF.2.2, Newer.push hN (fun k hk => Nat.le_trans hk0.size (hF.2.2 k hk)), hk0.trans hF.2.1⟩

set_option maxHeartbeats 3200000 in
theorem rf24New (t l : Int) (n m : Nat) (hn : clampM t = n) (hm : clampM l = m) (w : World) :
    Calls Tryz.prog 12 #[.int .i64 t, .int .i64 l] w fun e w' => ∃ rw AO AK AJ cO cK cJ, e = .returned (.pointer (some ⟨rw, 0, none⟩)) ∧ Holds w' (rwebP rw n m AO AK AJ cO cK cJ) ∧ Newer w (rwebP rw n m AO AK AJ cO cK cJ) ∧ Kept [] w w' := by
  have HO := Lib.hid (fun W => rf24Row l m hm W)
  have HK := Lib.hid (fun W => rf24Row t n hn W)
  have HFIN : Hid (∀ w1 w2 w3 AO AK AJ cO cK cJ, FreshI w w1 (List.replicate m (-1)) AO m cO → FreshI w1 w2 (List.replicate n (-1)) AK n cK → FreshI w2 w3 (List.replicate n (-1)) AJ n cJ → Holds (w3.alloc (.cells #[.slice AO m cO, .slice AK n cK, .slice AJ n cJ] 32)) (rwebP w3.heap.size n m AO AK AJ cO cK cJ) ∧ Newer w (rwebP w3.heap.size n m AO AK AJ cO cK cJ) ∧ Kept [] w (w3.alloc (.cells #[.slice AO m cO, .slice AK n cK, .slice AJ n cJ] 32))) := fun w1 w2 w3 AO AK AJ cO cK cJ h1 h2 h3 => by
    obtain ⟨a1, b1, c1⟩ := fresh_push (w0 := w) (Holds.nil w) (by intro p hp; simp at hp) (Kept.refl _ _) h1
    obtain ⟨a2, b2, c2⟩ := fresh_push a1 b1 c1 h2
    obtain ⟨a3, b3, c3⟩ := fresh_push a2 b2 c2 h3
    have a4 := a3.push (p := .blk w3.heap.size 32 #[.slice AO m cO, .slice AK n cK, .slice AJ n cJ]) ((Kept.refl [] w3).alloc _) (Blk.new w3 32 _) (by simp [Piece.fp])
    have b4 := Newer.push b3 (p := .blk w3.heap.size 32 #[.slice AO m cO, .slice AK n cK, .slice AJ n cJ]) (by simpa [Piece.fp] using c3.size)
    have e : ([] ++ [Piece.row 3 1 (.slice AO m cO) m ((List.replicate m (-1)).map I64)] ++ [.row 3 1 (.slice AK n cK) n ((List.replicate n (-1)).map I64)] ++ [.row 3 1 (.slice AJ n cJ) n ((List.replicate n (-1)).map I64)] ++ [.blk w3.heap.size 32 #[.slice AO m cO, .slice AK n cK, .slice AJ n cJ]] : List Piece).Perm (rwebP w3.heap.size n m AO AK AJ cO cK cJ) := by
      unfold rwebP
      simp only [List.map_replicate, List.nil_append, List.append_assoc]
      exact List.perm_append_comm (l₁ := [_, _, _]) (l₂ := [_])
    exact ⟨a4.perm e, b4.perm e, c3.alloc _⟩
  clear hn hm
  go_enter Tryz.func12, Tryz.ntmps12
  go_wp2_with fail
  refine (HO.out _).mono ?_
  rintro e w1 ⟨AO, cO, rfl, hF1⟩
  have HF1 := Lib.hid hF1
  clear hF1
  go_wp2_with fail
  refine (HK.out _).mono ?_
  rintro e w2 ⟨AK, cK, rfl, hF2⟩
  have HF2 := Lib.hid hF2
  clear hF2
  go_wp2_with fail
  refine (HK.out _).mono ?_
  rintro e w3 ⟨AJ, cJ, rfl, hF3⟩
  have HF3 := Lib.hid hF3
  clear hF3
  go_wp2_with fail
  go_ret
  exact ⟨_, AO, AK, AJ, cO, cK, cJ, rfl, HFIN.out _ _ _ _ _ _ _ _ _ HF1.out HF2.out HF3.out⟩

/-- The pieces of the document's locks that are being made. -/
def nrP (r rw n m : Nat) (AL : Option Addr) (cL : Nat) (LS : List Value) (AC : Option Addr) (cC : Nat) (CS : List Value) (AO AK AJ : Option Addr) (cO cK cJ : Nat) : List Piece :=
  .blk r 30 #[.slice AL LS.length cL, .pointer (some ⟨rw, 0, none⟩), .slice AC CS.length cC, .int .i64 0] :: .row 3 1 (.slice AL LS.length cL) LS.length LS :: .row 3 1 (.slice AC CS.length cC) CS.length CS :: rwebP rw n m AO AK AJ cO cK cJ
def rf0 (n m : Nat) : Rf := ⟨List.replicate n 7, List.replicate m (-1), List.replicate n (-1), List.replicate n (-1), List.replicate n 0, 0⟩
theorem rf0_whole (n m : Nat) (hn : n ≤ 64) (hm : m ≤ 64) : (rf0 n m).Whole := ⟨by simpa [rf0] using hn, by simpa [rf0] using hm, by simp [rf0], by simp [rf0], by simp [rf0], by simp [rf0]; omega, by simp [rf0]; omega, by simp [rf0]; omega⟩

theorem perm_six (L C W O K J : Piece) : [L, C, W, O, K, J].Perm [W, L, O, K, J, C] := ((List.perm_append_comm (l₁ := [C]) (l₂ := [W, O, K, J])).cons L).trans (List.Perm.swap W L _)
theorem nrP_rfP (r rw n m : Nat) (AL AC AO AK AJ : Option Addr) (cL cC cO cK cJ : Nat) :
    (nrP r rw n m AL cL (List.replicate n (I64 7)) AC cC (List.replicate n (I64 0)) AO AK AJ cO cK cJ).Perm (rfP ⟨r, rw, AL, cL, AO, cO, AK, cK, AJ, cJ, AC, cC⟩ (rf0 n m)) := by
  unfold nrP rwebP rfP rf0
  simp only [List.length_replicate, List.map_replicate]
  exact (perm_six _ _ _ _ _ _).cons _

set_option maxHeartbeats 6400000 in
set_option maxRecDepth 100000 in
theorem rf26New (t l : Int) (n m : Nat) (hn : clampM t = n) (hm : clampM l = m) (w : World) :
    Calls Tryz.prog 5 #[.int .i64 t, .int .i64 l] w fun e w' => ∃ b : RfA, e = .returned (.pointer (some ⟨b.r, 0, none⟩)) ∧ RfIs w w' b (rf0 n m) := by
  have hn64 := clampM_le t
  rw [hn] at hn64
  have HW := Lib.hid (rf24New t l n m hn hm w)
  have HP0 : Hid (∀ w1 rw AO AK AJ cO cK cJ, Holds w1 (rwebP rw n m AO AK AJ cO cK cJ) → Newer w (rwebP rw n m AO AK AJ cO cK cJ) → Kept [] w w1 → Holds (w1.alloc (.cells #[.slice none 0 0, .pointer (some ⟨rw, 0, none⟩), .slice none 0 0, .int .i64 0] 30)) (nrP w1.heap.size rw n m none 0 [] none 0 [] AO AK AJ cO cK cJ) ∧ Newer w (nrP w1.heap.size rw n m none 0 [] none 0 [] AO AK AJ cO cK cJ) ∧ Kept [] w (w1.alloc (.cells #[.slice none 0 0, .pointer (some ⟨rw, 0, none⟩), .slice none 0 0, .int .i64 0] 30))) := fun w1 rw AO AK AJ cO cK cJ h hN hk => by
    have a4 := h.push (p := .blk w1.heap.size 30 #[.slice none 0 0, .pointer (some ⟨rw, 0, none⟩), .slice none 0 0, .int .i64 0]) ((Kept.refl [] w1).alloc _) (Blk.new w1 30 _) (by simp [Piece.fp])
    have b4 := Newer.push hN (p := .blk w1.heap.size 30 #[.slice none 0 0, .pointer (some ⟨rw, 0, none⟩), .slice none 0 0, .int .i64 0]) (by simpa [Piece.fp] using hk.size)
    have hq : ∀ q ∈ ([nilRow, nilRow] : List Piece), q.holds (w1.alloc (.cells #[.slice none 0 0, .pointer (some ⟨rw, 0, none⟩), .slice none 0 0, .int .i64 0] 30)) ∧ q.fp = [] := fun q hq => by
      simp only [List.mem_cons, List.not_mem_nil, or_false] at hq
      rcases hq with rfl | rfl <;> exact ⟨World.ownsRow_nil _ _ _ _, nilRow_fp⟩
    have a5 := a4.empties hq
    have b5 := Newer.empties b4 (fun q h => (hq q h).2)
    have e : (rwebP rw n m AO AK AJ cO cK cJ ++ [Piece.blk w1.heap.size 30 #[.slice none 0 0, .pointer (some ⟨rw, 0, none⟩), .slice none 0 0, .int .i64 0]] ++ [nilRow, nilRow]).Perm (nrP w1.heap.size rw n m none 0 [] none 0 [] AO AK AJ cO cK cJ) := by
      show List.Perm _ ([Piece.blk w1.heap.size 30 #[.slice none 0 0, .pointer (some ⟨rw, 0, none⟩), .slice none 0 0, .int .i64 0], nilRow, nilRow] ++ rwebP rw n m AO AK AJ cO cK cJ)
      rw [List.append_assoc]
      exact List.perm_append_comm
    exact ⟨a5.perm e, b5.perm e, hk.alloc _⟩
  clear hn hm
  go_enter Tryz.func5, Tryz.ntmps5
  go_wp2_with fail
  refine (HW.out).mono ?_
  rintro e w1 ⟨rw', AO, AK, AJ, cO, cK, cJ, rfl, hh, hN, hk⟩
  obtain ⟨h1, h2, h3⟩ := HP0.out _ _ _ _ _ _ _ _ hh hN hk
  have HH0 := Lib.hid h1
  have HN0 := Lib.hid h2
  have HK0 := Lib.hid h3
  clear hh hN hk h1 h2 h3
  go_upto_region 2 with fail
  generalize (w1.alloc (.cells #[.slice none 0 0, .pointer (some ⟨rw', 0, none⟩), .slice none 0 0, .int .i64 0] 30)) = w2 at *
  generalize w1.heap.size = r at *
  go_wp2_with fail
  go_loopw [6] (fun iv wr => ∃ (k : Nat) (AL : Option Addr) (cL : Nat) (LS : List Value) (AC : Option Addr) (cC : Nat) (CS : List Value), k ≤ n ∧ iv = .int .i64 k ∧ Hid (LS = List.replicate k (I64 7) ∧ CS = List.replicate k (I64 0)) ∧ Hid (Holds wr (nrP r rw' n m AL cL LS AC cC CS AO AK AJ cO cK cJ)) ∧ Hid (Newer w (nrP r rw' n m AL cL LS AC cC CS AO AK AJ cO cK cJ)) ∧ Hid (Kept [] w wr)) (fun i _ => n - (intOf i).toNat)
  case atStart => exact ⟨0, none, 0, [], none, 0, [], by omega, rfl, ⟨rfl, rfl⟩, HH0.out, HN0.out, HK0.out⟩
  case round =>
    clear HH0 HN0 HK0
    obtain ⟨k, AL, cL, LS, AC, cC, CS, hk, rfl, HE, HH, HN, HK⟩ := hrel
    have hbr : Blk wr r 30 _ := HH.out.get (i := 0) rfl
    have hbw : Blk wr rw' 32 _ := HH.out.get (i := 3) rfl
    have hcr : wr.cell? ⟨r, 1, none⟩ = some (.pointer (some ⟨rw', 0, none⟩)) := hbr.cell 1
    have hcw : wr.cell? ⟨rw', 1, none⟩ = some (.slice AK n cK) := hbw.cell 1
    have hlr := hbr.lt
    have hlw := hbw.lt
    clear hbr hbw
    by_cases hlt : k < n
    · have hv64 : LS.length ≤ 64 ∧ CS.length ≤ 64 := by obtain ⟨rfl, rfl⟩ := HE.out; simp; omega
      have hkk : (k : Int) < (n : Int) := by omega
      go_upto_region 5 with fail
      clear hcr hcw hlr hlw
      have hb0 : Blk wr r 30 _ := HH.out.get (i := 0) rfl
      have hc0 : wr.cell? ⟨r, 0, none⟩ = some (.slice AL LS.length cL) := hb0.cell 0
      have hl0 := hb0.lt
      have HR0 : Hid (∀ W, Kept [] wr W → W.ownsRow 0 3 1 (.slice AL LS.length cL) LS.length LS) := fun W hk => (HH.out.old hk).get (i := 1) rfl
      have HG0 := Lib.hid (fun w1 w3 A2 c2 ys hk ha => grow_row (w1 := w1) (w3 := w3) (i := 1) (e := 3) (A := AL) (A2 := A2) (n := LS.length) (c := cL) (c2 := c2) (xs := LS) (ys := ys) HH.out HN.out HK.out rfl hk ha)
      go_upto_region 6 with (at_builtin; refine wpList_append_any _ rfl _ _ 27 rfl 3 (.int .i64 0) 1 8 Tryz.underlying27 Tryz.infoInt rfl (by decide) (.slice AL LS.length cL) LS.length LS rfl (HR0.out _ (by (repeat (first | (with_reducible exact Kept.refl _ _) | (with_reducible assumption) | (with_reducible refine Kept.alloc ?_ _) | (with_reducible refine Kept.drew ?_) | (with_reducible refine Kept.drewN ?_ _) | (with_reducible refine Kept.setCell ?_ ?_ _) | (exact .inr (Nat.le_refl _)) | (exact .inr (by simp only; omega)) | (exact .inr (by omega)))))) _ 1 1 [.int .i64 7] rfl (reads_one _ _ _) (by simp [Value.oneCell']) (by simp only [maxLen]; omega) (by omega) ?_; rintro AL2 cL2 w3 happ; have HA := Lib.hid (HG0.out _ _ _ _ _ (by (repeat (first | (with_reducible exact Kept.refl _ _) | (with_reducible assumption) | (with_reducible refine Kept.alloc ?_ _) | (with_reducible refine Kept.drew ?_) | (with_reducible refine Kept.drewN ?_ _) | (with_reducible refine Kept.setCell ?_ ?_ _) | (exact .inr (Nat.le_refl _)) | (exact .inr (by simp only; omega)) | (exact .inr (by omega))))) happ); have hbx : Blk w3 r 30 _ := HA.out.1.get (i := 0) rfl; have hfx0 := hbx.frozen 0; have hlx0 := hbx.lt; have hcx0 : w3.cell? ⟨r, 0, none⟩ = some (.slice AL LS.length cL) := hbx.cell 0; clear happ hbx)
      have hp0 := put_cell HA.out.1 HA.out.2.1 HA.out.2.2 (i := 0) rfl 0 (.slice AL2 (LS.length + 1) cL2)
      have hlen0 : (LS ++ [I64 7]).length = LS.length + 1 := by simp
      have HH1 : Hid (Holds (w3.setCell ⟨r, 0, none⟩ (.slice AL2 (LS.length + 1) cL2)) (nrP r rw' n m AL2 cL2 (LS ++ [I64 7]) AC cC CS AO AK AJ cO cK cJ)) := by
        show Holds _ _
        have := hp0.1
        unfold nrP
        rw [hlen0]
        exact this
      have HN1 : Hid (Newer w (nrP r rw' n m AL2 cL2 (LS ++ [I64 7]) AC cC CS AO AK AJ cO cK cJ)) := by
        show Newer _ _
        have := hp0.2.1
        unfold nrP
        rw [hlen0]
        exact this
      have HK1 := Lib.hid hp0.2.2
      clear hc0 hl0 hb0 HR0 HG0 HA hfx0 hlx0 hcx0 hp0 hlen0
      generalize w3.setCell ⟨r, 0, none⟩ (.slice AL2 (LS.length + 1) cL2) = v0 at *
      have hb1 : Blk v0 r 30 _ := HH1.out.get (i := 0) rfl
      have hc1 : v0.cell? ⟨r, 2, none⟩ = some (.slice AC CS.length cC) := hb1.cell 2
      have hl1 := hb1.lt
      have HR1 : Hid (∀ W, Kept [] v0 W → W.ownsRow 0 3 1 (.slice AC CS.length cC) CS.length CS) := fun W hk => (HH1.out.old hk).get (i := 2) rfl
      have HG1 := Lib.hid (fun w1 w3 A2 c2 ys hk ha => grow_row (w1 := w1) (w3 := w3) (i := 2) (e := 3) (A := AC) (A2 := A2) (n := CS.length) (c := cC) (c2 := c2) (xs := CS) (ys := ys) HH1.out HN1.out HK1.out rfl hk ha)
      go_upto_region 4 with (at_builtin; refine wpList_append_any _ rfl _ _ 27 rfl 3 (.int .i64 0) 1 8 Tryz.underlying27 Tryz.infoInt rfl (by decide) (.slice AC CS.length cC) CS.length CS rfl (HR1.out _ (by (repeat (first | (with_reducible exact Kept.refl _ _) | (with_reducible assumption) | (with_reducible refine Kept.alloc ?_ _) | (with_reducible refine Kept.drew ?_) | (with_reducible refine Kept.drewN ?_ _) | (with_reducible refine Kept.setCell ?_ ?_ _) | (exact .inr (Nat.le_refl _)) | (exact .inr (by simp only; omega)) | (exact .inr (by omega)))))) _ 1 1 [.int .i64 0] rfl (reads_one _ _ _) (by simp [Value.oneCell']) (by simp only [maxLen]; omega) (by omega) ?_; rintro AC2 cC2 w3 happ; have HA := Lib.hid (HG1.out _ _ _ _ _ (by (repeat (first | (with_reducible exact Kept.refl _ _) | (with_reducible assumption) | (with_reducible refine Kept.alloc ?_ _) | (with_reducible refine Kept.drew ?_) | (with_reducible refine Kept.drewN ?_ _) | (with_reducible refine Kept.setCell ?_ ?_ _) | (exact .inr (Nat.le_refl _)) | (exact .inr (by simp only; omega)) | (exact .inr (by omega))))) happ); have hbx : Blk w3 r 30 _ := HA.out.1.get (i := 0) rfl; have hfx1 := hbx.frozen 2; have hlx1 := hbx.lt; have hcx1 : w3.cell? ⟨r, 2, none⟩ = some (.slice AC CS.length cC) := hbx.cell 2; clear happ hbx)
      have hp1 := put_cell HA.out.1 HA.out.2.1 HA.out.2.2 (i := 0) rfl 2 (.slice AC2 (CS.length + 1) cC2)
      have hlen1 : (CS ++ [I64 0]).length = CS.length + 1 := by simp
      have HH2 : Hid (Holds (w3.setCell ⟨r, 2, none⟩ (.slice AC2 (CS.length + 1) cC2)) (nrP r rw' n m AL2 cL2 (LS ++ [I64 7]) AC2 cC2 (CS ++ [I64 0]) AO AK AJ cO cK cJ)) := by
        show Holds _ _
        have := hp1.1
        unfold nrP
        rw [hlen1]
        exact this
      have HN2 : Hid (Newer w (nrP r rw' n m AL2 cL2 (LS ++ [I64 7]) AC2 cC2 (CS ++ [I64 0]) AO AK AJ cO cK cJ)) := by
        show Newer _ _
        have := hp1.2.1
        unfold nrP
        rw [hlen1]
        exact this
      have HK2 := Lib.hid hp1.2.2
      clear hc1 hl1 hb1 HR1 HG1 HA hfx1 hlx1 hcx1 hp1 hlen1
      generalize w3.setCell ⟨r, 2, none⟩ (.slice AC2 (CS.length + 1) cC2) = v1 at *
      go_wp2_with fail
      go_roundw
      case rel => exact ⟨k + 1, AL2, cL2, LS ++ [I64 7], AC2, cC2, CS ++ [I64 0], by omega, by go_num, ⟨by rw [HE.out.1, List.replicate_succ'], by rw [HE.out.2, List.replicate_succ']⟩, HH2.out, HN2.out, HK2.out⟩
      case measure => simp [intOf]; omega
    · obtain rfl : k = n := by omega
      go_wp2_with fail
      go_ret
      obtain ⟨rfl, rfl⟩ := HE.out
      have hp := nrP_rfP r rw' k m AL AC AO AK AJ cL cC cO cK cJ
      exact ⟨_, rfl, HH.out.perm hp, (HN.out.perm hp).toB, HK.out⟩

end Go.Proofs.YtfoeijiejpenpaaGreatDoor

