/- The reading half of bosunref04: what the document says is read. Each is stated by the plain functions of the program's own reader: byteS, numS, .. -/
import Derived.Test.YtmhlmoojmdfnfaaDoorWireL
import Derived.Deep.RegionHeld3
namespace Go.Proofs.YtmhlmoojmdfnfaaDoor
open Go.RowKit

/-- What is left of the bytes, as the document has it: nothing, where something is wrong. -/
def restS (s : RS) : List UInt8 := if s.1 = 0 then s.2 else []

/-- The document's reader as a value: its slice (which lies below block B) and what is wrong. -/
def IsD (w : World) (b0 : Nat) (A : Option Addr) (m c : Nat) (s : RS) : Prop := Reads w 1 A m ((restS s).map B) ∧ m ≤ c ∧ c ≤ maxLen ∧ ∀ ad, A = some ad → ad.block < b0

section
variable {w w' : World} {b0 : Nat} {A : Option Addr} {m c : Nat} {s : RS}
theorem IsD.kept {G : List Nat} (h : IsD w b0 A m c s) (hk : Kept G w w') (hG : ∀ k, k ∈ G → b0 ≤ k) : IsD w' b0 A m c s :=
  ⟨h.1.kept hk fun ad e hm => by have := hG _ hm; have := h.2.2.2 ad e; omega, h.2⟩
theorem IsD.old (h : IsD w b0 A m c s) (hk : Kept [] w w') : IsD w' b0 A m c s := h.kept hk (by simp)
theorem isD_err (w : World) (b0 : Nat) {s : RS} (h : s.1 ≠ 0) : IsD w b0 none 0 0 s := ⟨by rw [show restS s = [] from by simp [restS, h]]; exact Reads.none_, Nat.le_refl _, Nat.zero_le _, by simp⟩
theorem IsD.len (h : IsD w b0 A m c s) : m = (restS s).length := by have := h.1.1; simpa using this.symm
theorem IsD.drew (h : IsD w b0 A m c s) : IsD w.drew b0 A m c s := h
theorem IsD.set (h : IsD w b0 A m c s) {p : Addr} (hp : b0 ≤ p.block) (u : Value) : IsD (w.setCell p u) b0 A m c s :=
  h.kept ((Kept.refl [p.block] w).setCell (.inl (by simp)) u) (by simpa using hp)
end

/-- What a function of the document hands back: a reader and something beside it. -/
def Gives (w : World) (b0 : Nat) (s : RS) (x : Value) (e : Ending) (w' : World) : Prop :=
  ∃ A m c, e = .returned (.tuple #[.agg #[.slice A m c, .int .i64 s.1], x]) ∧ IsD w' b0 A m c s ∧ Kept [] w w'

/-- Two blocks are made. -/
theorem kept2 (w : World) (o1 o2 : Obj) : Kept [] w ((w.alloc o1).alloc o2) := ((Kept.refl _ _).alloc _).alloc _
theorem Kept.set2 {w w1 : World} (h : Kept [] w w1) {g : Nat} (hg : w.heap.size ≤ g) (u v : Value) : Kept [] w ((w1.setCell ⟨g, 0, none⟩ u).setCell ⟨g, 1, none⟩ v) :=
  (h.setCell (.inr hg) u).setCell (.inr hg) v

/-- The second new block, behind whatever only adds. -/
theorem blk2 {w w1 : World} {o1 : Obj} {t : TypeId} {cs : Array Value} (hk : Kept [] ((w.alloc o1).alloc (.cells cs t)) w1) : Blk w1 (w.heap.size + 1) t cs :=
  (Blk.newAt (w := w.alloc o1) (g := w.heap.size + 1) (by simp) t cs).kept hk (by simp)
theorem blk1 {w w1 : World} {o2 : Obj} {t : TypeId} {cs : Array Value} (hk : Kept [] ((w.alloc (.cells cs t)).alloc o2) w1) : Blk w1 w.heap.size t cs :=
  ((Blk.new w t cs).alloc o2).kept hk (by simp)

set_option maxHeartbeats 400000 in
theorem reffail (b0 : Nat) (A : Option Addr) (m c : Nat) (s : RS) (e0 : Int) (w : World) (h : IsD w b0 A m c s) (hb0 : b0 ≤ w.heap.size) (he : e0 ≠ 0) :
    Calls Tryd.prog 137 #[.agg #[.slice A m c, .int .i64 s.1], .int .i64 e0] w fun e w' => ∃ A' m' c', e = .returned (.agg #[.slice A' m' c', .int .i64 (failS s e0).1]) ∧ IsD w' b0 A' m' c' (failS s e0) ∧ Kept [] w w' := by
  have HD := Lib.hid h
  clear h
  by_cases h0 : s.1 = 0
  · have hb : (s.1 == 0) = true := by simp [h0]
    have hf : failS s e0 = (e0, s.2) := by simp [failS, h0]
    rw [hf]
    go_enter Tryd.func137, Tryd.ntmps137
    go_wp2_with fail
    exact bodyPost_ret (v := .agg #[.slice none 0 0, .int .i64 e0]) (by simp [results, Tryd.results137, go_sem]) rfl ⟨none, 0, 0, rfl, isD_err _ _ (by simpa using he), kept2 _ _ _⟩
  · have hb : (s.1 == 0) = false := beq_eq_false_iff_ne.2 h0
    have hf : failS s e0 = s := by simp [failS, h0]
    rw [hf]
    go_enter Tryd.func137, Tryd.ntmps137
    go_wp2_with fail
    exact bodyPost_ret (v := .agg #[.slice A m c, .int .i64 s.1]) (by simp [results, Tryd.results137, go_sem]) rfl ⟨A, m, c, rfl, HD.out.old (kept2 _ _ _), kept2 _ _ _⟩

set_option maxHeartbeats 800000 in
theorem refGetByte (b0 : Nat) (A : Option Addr) (m c : Nat) (s : RS) (w : World) (h : IsD w b0 A m c s) (hb0 : b0 ≤ w.heap.size) :
    Calls Tryd.prog 105 #[.agg #[.slice A m c, .int .i64 s.1]] w (Gives w b0 (byteS s).1 (.int .u8 ((byteS s).2.toNat : Int))) := by
  have hm := h.len
  have hmc := h.2.1
  have hcm := h.2.2.1
  unfold maxLen at hcm
  have HD := Lib.hid h
  clear h
  rcases byteS_cases s with ⟨h1, h2⟩ | ⟨b, bs, rfl, h2⟩
  · have hf : byteS s = (failS s 2, 0) := by
      rw [h2]
      by_cases h0 : s.1 = 0
      · have hl := takeS_none_int (s := s) (n := 1) h1 h0
        unfold takeS failS
        simp [h0, hl]
      · unfold takeS failS
        simp [h0]
    have hm0 : s.1 = 0 → m = 0 := by
      intro h0
      have hl := takeS_none_int (s := s) (n := 1) h1 h0
      have he : s.2 = [] := List.eq_nil_of_length_eq_zero (by omega)
      rw [hm]; simp [restS, h0, he]
    rw [hf]
    clear hf h2 h1 hm
    have HF := Lib.hid (reffail b0 A m c s 2 _ (HD.out.old (kept2 w (.cells #[.slice A m c, .int .i64 s.1] 62) (.cells #[.slice none 0 0, .int .i64 0] 62))) (by simp; omega) (by omega))
    by_cases h0 : s.1 = 0
    case' pos => obtain rfl := hm0 h0; have hb : (s.1 != 0) = false := by simp [h0]
    case' neg => have hb : (s.1 != 0) = true := by simpa using h0
    all_goals
      clear h0 hm0
      go_enter Tryd.func105, Tryd.ntmps105
      go_wp2_with fail
      refine HF.out.mono ?_
      rintro e w1 ⟨A', m', c', rfl, hD', hk'⟩
      have hk0 : Kept [] w w1 := (kept2 w _ _).trans hk'
      have hB := blk2 hk'
      have hc1 := hB.cell
      have hf1 := hB.frozen
      have hlt1 := hB.lt
      clear hB
      go_wp2_with fail
      exact bodyPost_ret (v := .tuple #[.agg #[.slice A' m' c', .int .i64 (failS s 2).1], .int .u8 0]) (by simp [results, Tryd.results105, go_sem, hc1, hf1, hlt1]) rfl ⟨A', m', c', rfl, (hD'.set (by simp only; omega) _).set (by simp only; omega) _, hk0.set2 (by omega) _ _⟩
  · simp only [restS, if_true, List.length_cons] at hm
    have hr := HD.out.1
    simp only [restS, if_true] at hr
    obtain ⟨ab, ao, rfl, hlt, hcell⟩ := hr.addr (by omega) (by omega)
    have hc0 := hcell 0 (B b) (by simp)
    rw [Nat.add_zero] at hc0
    unfold B at hc0
    rw [h2]
    have H2 := run_cut_lo (P := Tryd.prog) 32 5 (.int .u8 0) 1 Tryd.underlying32 Tryd.info5 (some ⟨ab, ao, none⟩) m c .i64 1 1 rfl (by omega)
    have HM := Lib.hid hm
    have hm3 : 0 < m := by omega
    have hm1 : (1 : Int) ≤ (m : Int) := by omega
    have hm2 : (0 : Int) < (m : Int) := by omega
    clear hm hr hcell h2
    have hlt2 : ab < w.heap.size + 1 := by omega
    go_enter Tryd.func105, Tryd.ntmps105
    go_wp2_with fail
    go_region_held3 (fun w' => w'.cell? ⟨w.heap.size, 0, none⟩ = some (.slice (some ⟨ab, ao, none⟩) m c) ∧ w'.cell? ⟨ab, ao, none⟩ = some (.int .u8 b.toNat)) (go_keep) (first | fail)
    go_wp2_with fail
    refine bodyPost_ret (v := .tuple #[.agg #[.slice (cutA (some ⟨ab, ao, none⟩) 1 c) (m - 1) (c - 1), .int .i64 0], .int .u8 (b.toNat : Int)]) (by simp [results, Tryd.results105, go_sem]) rfl ⟨_, _, _, rfl, ?_, (kept2 _ _ _).drew⟩
    have h := HD.out.old (kept2 w (.cells #[.slice (some ⟨ab, ao, none⟩) m c, .int .i64 0] 62) (.cells #[.slice (cutA (some ⟨ab, ao, none⟩) 1 c) (m - 1) (c - 1), .int .i64 0] 62))
    refine ⟨?_, by omega, by unfold maxLen; omega, fun ad e => ?_⟩
    · have := h.1.cutA (k := 1) (cap := c) (by omega) (by omega)
      simpa [restS] using this.drew
    · obtain ⟨a0, e0, b0⟩ := cutA_block e
      rw [b0]; exact h.2.2.2 a0 e0

theorem failS_left' (s : RS) : s.1 ≠ 0 → leftS s = 0 := fun h => by simp [leftS, h]
theorem cutA_zero (A : Option Addr) (c : Nat) : cutA A 0 c = A := by
  have h2 : (fun x : Addr => x.add 0) = id := by funext x; simp [Addr.add]
  unfold cutA; split <;> simp [h2]
theorem IsD.err {w : World} {b0 : Nat} {A : Option Addr} {m c : Nat} {s s' : RS} (h : IsD w b0 A m c s) (he : s.1 = s'.1) (h0 : s.1 ≠ 0) : IsD w b0 A m c s' := by
  have h1 : restS s = [] := by simp [restS, h0]
  have h2 : restS s' = [] := by simp [restS, ← he, h0]
  refine ⟨?_, h.2⟩
  rw [h2, ← h1]; exact h.1
theorem failS_zero (s : RS) (h : s.1 = 0) (e : Int) : failS s e = (e, s.2) := by simp [failS, h]

theorem byteS_err (s : RS) : (byteS s).1.1 ≠ 0 → (byteS s).2 = 0 := by
  intro h1
  rcases byteS_cases s with ⟨_, h2⟩ | ⟨b', bs', rfl, h2⟩
  · rw [h2]
  · rw [h2] at h1; exact absurd rfl h1
theorem numS_err (s : RS) : (numS s).1.1 ≠ 0 → (numS s).2 = 0 := by
  intro h
  unfold numS at h ⊢
  split
  · rfl
  · next h8 =>
    rw [if_neg h8] at h
    obtain ⟨s2, o, ho⟩ : ∃ s2 o, takeS (byteS s).1 (byteS s).2.toNat = (s2, o) := ⟨_, _, rfl⟩
    rw [ho] at h ⊢
    cases o with
    | none => rfl
    | some l =>
      obtain ⟨bs, _, _, rfl, _⟩ := takeS_some ho
      simp only at h ⊢
      split
      · rfl
      · next hh => rw [if_neg hh] at h; exact absurd rfl h

set_option maxHeartbeats 1000000 in
theorem refGetNum (b0 : Nat) (A : Option Addr) (m c : Nat) (s : RS) (w : World) (h : IsD w b0 A m c s) (hb0 : b0 ≤ w.heap.size) :
    Calls Tryd.prog 95 #[.agg #[.slice A m c, .int .i64 s.1]] w (Gives w b0 (numS s).1 (.int .u64 ((numS s).2 : Int))) := by
  have HB : Hid (∀ w1 : World, Kept [] w w1 → _) := fun w1 hk1 => refGetByte b0 A m c s w1 (h.old hk1) (by have := hk1.size; omega)
  obtain ⟨s1, b, hs⟩ : ∃ s1 b, byteS s = (s1, b) := ⟨_, _, rfl⟩
  obtain ⟨r, hr0⟩ : ∃ r, numS s = r := ⟨_, rfl⟩
  rw [hr0]
  have HN : Hid ((if 8 < b.toNat then (failS s1 3, 0) else match takeS s1 b.toNat with
    | (s', none) => (s', 0)
    | (s', some l) => if l.headD 1 = 0 then (failS s' 3, 0) else (s', valN l)) = r) := by rw [← hr0]; unfold numS; rw [hs]; exact rfl
  have hbz : s1.1 ≠ 0 → b = 0 := by
    intro h1
    rcases byteS_cases s with ⟨_, h2⟩ | ⟨b', bs', rfl, h2⟩
    · rw [hs] at h2; injection h2
    · rw [hs] at h2; injection h2 with h2 _; rw [h2] at h1; exact absurd rfl h1
  rw [hs] at HB
  simp only at HB
  clear hs h hr0
  have hb256 := b.toNat_lt
  obtain ⟨n, hn⟩ : ∃ n, b.toNat = n := ⟨_, rfl⟩
  rw [hn] at HN HB hb256
  by_cases h0 : s1.1 = 0
  · have hb : (s1.1 != 0) = false := by simp [h0]
    have hlen1 : ∀ (w1 : World) (A1 : Option Addr) (m1 c1 : Nat), IsD w1 b0 A1 m1 c1 s1 → m1 = s1.2.length := fun w1 A1 m1 c1 hD => by have := hD.len; rw [this]; simp [restS, h0]
    have HL1 := Lib.hid hlen1
    have H0 := Lib.hid h0
    clear hn hbz hlen1 h0
    have hcase : (8 < n ∧ Hid (r = (failS s1 3, 0))) ∨ (n ≤ 8 ∧ s1.2.length < n ∧ Hid (r = (failS s1 2, 0))) ∨ (n ≤ 8 ∧ n ≤ s1.2.length ∧ Hid ((s1.2.take n).headD 1 = 0) ∧ Hid (r = (failS (0, s1.2.drop n) 3, 0))) ∨
        (n ≤ 8 ∧ n ≤ s1.2.length ∧ Hid (¬ (s1.2.take n).headD 1 = 0) ∧ Hid (r = ((0, s1.2.drop n), valN (s1.2.take n)))) := by
      have hN := HN.out
      by_cases h8 : 8 < n
      · rw [if_pos h8] at hN; exact .inl ⟨h8, hN.symm⟩
      · rw [if_neg h8] at hN
        by_cases hl : s1.2.length < n
        · have : takeS s1 n = ((2, s1.2), none) := by unfold takeS; rw [if_neg (by simpa using H0.out), if_pos hl]
          rw [this] at hN
          exact .inr (.inl ⟨by omega, hl, by rw [failS_zero _ H0.out]; exact hN.symm⟩)
        · have : takeS s1 n = ((0, s1.2.drop n), some (s1.2.take n)) := by unfold takeS; rw [if_neg (by simpa using H0.out), if_neg hl]
          rw [this] at hN
          simp only at hN
          by_cases hh : (s1.2.take n).headD 1 = 0
          · rw [if_pos hh] at hN
            exact .inr (.inr (.inl ⟨by omega, by omega, hh, hN.symm⟩))
          · rw [if_neg hh] at hN
            exact .inr (.inr (.inr ⟨by omega, by omega, hh, hN.symm⟩))
    clear HN
    rcases hcase with ⟨h8, HR⟩ | ⟨h8, hl8, HR⟩ | ⟨h8, hl8, HH, HR⟩ | ⟨h8, hl8, HH, HR⟩
    all_goals
      go_enter Tryd.func95, Tryd.ntmps95
      go_wp2_with fail
      refine (HB.out _ (kept2 w _ _)).mono ?_
      rintro e w1 ⟨A1, m1, c1, rfl, hD1, hk1⟩
      obtain rfl := HL1.out w1 A1 m1 c1 hD1
      have hBa := blk1 hk1
      have hBb := blk2 hk1
      have ca := hBa.cell
      have fa := hBa.frozen
      have cb := hBb.cell
      have fb := hBb.frozen
      have hlt1 := hBb.lt
      have hk2 := ((kept2 w _ _).trans hk1).set2 (Nat.le_refl _) (.slice A1 s1.2.length c1) (.int .i64 s1.1)
      have hD2 := ((hD1.set (p := ⟨w.heap.size, 0, none⟩) (by simp only; omega) (.slice A1 s1.2.length c1)).set (p := ⟨w.heap.size, 1, none⟩) (by simp only; omega) (.int .i64 s1.1))
      have hB2 := (hBb.far (p := ⟨w.heap.size, 0, none⟩) (by simp) (.slice A1 s1.2.length c1)).far (p := ⟨w.heap.size, 1, none⟩) (by simp) (.int .i64 s1.1)
      have hBa2 := (hBa.set 0 (.slice A1 s1.2.length c1)).set 1 (.int .i64 s1.1)
    · go_wp2_with fail
      refine (reffail b0 A1 _ c1 s1 3 _ hD2 (by have := hk2.size; omega) (by omega)).mono ?_
      clear ca fa cb fb hlt1 hBa hBb hD1 hk1 hD2 hBa2
      rintro e w3 ⟨A3, m3, c3, rfl, hD3, hk3⟩
      have hB3 := hB2.kept hk3 (by simp)
      have cb := hB3.cell
      have fb := hB3.frozen
      have hlt1 := hB3.lt
      clear hB3 hB2
      go_wp2_with fail
      rw [HR.out]
      exact bodyPost_ret (v := .tuple #[.agg #[.slice A3 m3 c3, .int .i64 (failS s1 3).1], .int .u64 0]) (by simp [results, Tryd.results95, go_sem, cb, fb, hlt1]) rfl ⟨A3, m3, c3, rfl, (hD3.set (by simp only; omega) _).set (by simp only; omega) _, (hk2.trans hk3).set2 (by omega) _ _⟩
    · go_wp2_with fail
      refine (reffail b0 A1 _ c1 s1 2 _ hD2 (by have := hk2.size; omega) (by omega)).mono ?_
      clear ca fa cb fb hlt1 hBa hBb hD1 hk1 hD2 hBa2
      rintro e w3 ⟨A3, m3, c3, rfl, hD3, hk3⟩
      have hB3 := hB2.kept hk3 (by simp)
      have cb := hB3.cell
      have fb := hB3.frozen
      have hlt1 := hB3.lt
      clear hB3 hB2
      go_wp2_with fail
      rw [HR.out]
      exact bodyPost_ret (v := .tuple #[.agg #[.slice A3 m3 c3, .int .i64 (failS s1 2).1], .int .u64 0]) (by simp [results, Tryd.results95, go_sem, cb, fb, hlt1]) rfl ⟨A3, m3, c3, rfl, (hD3.set (by simp only; omega) _).set (by simp only; omega) _, (hk2.trans hk3).set2 (by omega) _ _⟩
    · obtain ⟨b1, l1, hb1⟩ : ∃ b1 l1, s1.2 = b1 :: l1 := by
        cases hq : s1.2 with
        | nil => rw [hq] at HH; simp [Hid] at HH
        | cons b1 l1 => exact ⟨b1, l1, rfl⟩
      have hz : b1 = 0 := by
        have := HH.out
        rw [hb1] at this
        cases n with
        | zero => simp at this
        | succ n => simpa using this
      have hn0 : 0 < n := by
        cases n with
        | zero => have := HH.out; simp at this
        | succ n => omega
      have hr := hD1.1
      have hrs : restS s1 = s1.2 := by simp [restS, H0.out]
      rw [hrs] at hr
      obtain ⟨ab, ao, rfl, hlt, hcell⟩ := hr.addr (by omega) (by omega)
      have hc0 := hcell 0 (B b1) (by rw [hb1]; rfl)
      rw [Nat.add_zero, hz] at hc0
      have habne := hD1.2.2.2 _ rfl
      simp only at habne
      have hc0' : w1.cell? ⟨ab, ao, none⟩ = some (.int .u8 0) := hc0
      have hpos : 0 < s1.2.length := by omega
      have hab1 : ab ≠ w.heap.size := by omega
      clear hcell hr hrs hc0 hz hb1
      go_wp2_with fail
      refine (reffail b0 _ _ c1 s1 3 _ hD2 (by have := hk2.size; omega) (by omega)).mono ?_
      clear ca fa cb fb hlt1 hBa hBb hD1 hk1 hD2 hBa2
      rintro e w3 ⟨A3, m3, c3, rfl, hD3, hk3⟩
      have hB3 := hB2.kept hk3 (by simp)
      have cb := hB3.cell
      have fb := hB3.frozen
      have hlt1 := hB3.lt
      clear hB3 hB2
      go_wp2_with fail
      rw [HR.out]
      have e1 : (failS s1 3).1 = (failS (0, s1.2.drop n) 3).1 := by rw [failS_zero _ H0.out]; rfl
      have hD4 := hD3.err e1 (by rw [failS_zero _ H0.out]; simp)
      exact bodyPost_ret (v := .tuple #[.agg #[.slice A3 m3 c3, .int .i64 (failS (0, s1.2.drop n) 3).1], .int .u64 0]) (by simp [results, Tryd.results95, go_sem, cb, fb, hlt1, e1]) rfl ⟨A3, m3, c3, rfl, (hD4.set (by simp only; omega) _).set (by simp only; omega) _, (hk2.trans hk3).set2 (by omega) _ _⟩
    · have hr2 := hD2.1
      have hrs : restS s1 = s1.2 := by simp [restS, H0.out]
      rw [hrs] at hr2
      have hcl := hD2.2.2.1
      have hcl0 := hD2.2.1
      unfold maxLen at hcl
      have hll : (s1.2.take n).length = n := by simp; omega
      have H2 := run_cut_lo (P := Tryd.prog) 32 5 (.int .u8 0) 1 Tryd.underlying32 Tryd.info5 A1 s1.2.length c1 .u8 n n rfl hl8
      have H3 : Hid (IsD ((w1.setCell ⟨w.heap.size, 0, none⟩ (.slice A1 s1.2.length c1)).setCell ⟨w.heap.size, 1, none⟩ (.int .i64 s1.1)) b0 (cutA A1 n c1) (s1.2.length - n) (c1 - n) (0, s1.2.drop n)) := by
        refine ⟨?_, by omega, by unfold maxLen; omega, fun ad e => ?_⟩
        · have := hr2.cutA (k := n) (cap := c1) hl8 hcl0
          simpa [restS, List.map_drop] using this
        · obtain ⟨a0, e0, b1⟩ := cutA_block e
          rw [b1]; exact hD2.2.2.2 a0 e0
      by_cases hn0 : n = 0
      · subst hn0
        have hdn : decide ((s1.2.length : Int) < 0) = false := by simp
        go_wp2_with fail
        generalize (w1.setCell ⟨w.heap.size, 0, none⟩ (.slice A1 s1.2.length c1)).setCell ⟨w.heap.size, 1, none⟩ (.int .i64 s1.1) = W2 at *
        clear ca fa cb fb hlt1 hBa hBb hD1 hk1
        have ca := hBa2.cell
        have cb := hB2.cell
        have fb := hB2.frozen
        have hlt1 := hB2.lt
        refine wp_loop_rounds 1 ?_; rw [rounds_succ]
        go_wp2_with fail
        rw [HR.out]
        have H4 := H3.out
        rw [cutA_zero, Nat.sub_zero, Nat.sub_zero] at H4
        exact bodyPost_ret (v := .tuple #[.agg #[.slice A1 s1.2.length c1, .int .i64 0], .int .u64 0]) (by simp [results, Tryd.results95, go_sem, cb, fb, hlt1]) rfl ⟨_, _, _, rfl, (H4.set (by simp only; omega) _).set (by simp only; omega) _, hk2.set2 (by omega) _ _⟩
      · obtain ⟨b1, l1, hb1⟩ : ∃ b1 l1, s1.2 = b1 :: l1 := by
          cases hq : s1.2 with
          | nil => rw [hq] at hl8; simp at hl8; omega
          | cons b1 l1 => exact ⟨b1, l1, rfl⟩
        have hz : ((b1.toNat : Int) == 0) = false := by
          have := HH.out
          rw [hb1] at this
          cases n with
          | zero => simp at hn0
          | succ n =>
            have h1 : ¬ b1 = 0 := by simpa using this
            have h2 : ¬ b1.toNat = 0 := fun e => h1 (UInt8.toNat_inj.1 (by simpa using e))
            simp; omega
        have hr := hD1.1
        rw [hrs] at hr
        obtain ⟨ab, ao, rfl, hlt, hcell⟩ := hr.addr (by omega) (by omega)
        have hc0 := hcell 0 (B b1) (by rw [hb1]; rfl)
        rw [Nat.add_zero] at hc0
        have habne := hD1.2.2.2 _ rfl
        simp only at habne
        have hc0' : w1.cell? ⟨ab, ao, none⟩ = some (.int .u8 b1.toNat) := hc0
        have hpos : 0 < s1.2.length := by omega
        have hab1 : ab ≠ w.heap.size := by omega
        have hpn : 0 < n := by omega
        have hdn : decide ((s1.2.length : Int) < (n : Int)) = false := by simp; omega
        have hcell2 : Hid (∀ j u, (s1.2.map B)[j]? = some u → ((w1.setCell ⟨w.heap.size, 0, none⟩ (.slice (some ⟨ab, ao, none⟩) s1.2.length c1)).setCell ⟨w.heap.size, 1, none⟩ (.int .i64 s1.1)).cell? ⟨ab, ao + j, none⟩ = some u) := by
          intro j u hu
          have hk : Kept [w.heap.size] w1 ((w1.setCell ⟨w.heap.size, 0, none⟩ (.slice (some ⟨ab, ao, none⟩) s1.2.length c1)).setCell ⟨w.heap.size, 1, none⟩ (.int .i64 s1.1)) := ((Kept.refl _ _).setCell (.inl (by simp)) _).setCell (.inl (by simp)) _
          exact hk.cell_some (hcell j u hu) (by simp; omega)
        clear hcell hr hrs hc0 hb1
        go_wp2_with fail
        generalize (w1.setCell ⟨w.heap.size, 0, none⟩ (.slice (some ⟨ab, ao, none⟩) s1.2.length c1)).setCell ⟨w.heap.size, 1, none⟩ (.int .i64 s1.1) = W2 at *
        clear ca fa cb fb hlt1 hBa hBb hD1 hk1 hc0' hz
        have ca := hBa2.cell
        have cb := hB2.cell
        have fb := hB2.frozen
        have hlt1 := hB2.lt
        have hl1 : (s1.2.take n).length = n := hll
        have HLL := Lib.hid hll
        clear hll hl1 hr2
        go_loop [5, 6] (fun x i => ∃ k : Nat, k ≤ n ∧ i = .int .i64 k ∧ x = .int .u64 (valN (s1.2.take k) : Nat)) (fun _ i => n - (intOf i).toNat)
        case atStart => exact ⟨0, by omega, rfl, rfl⟩
        case round =>
          obtain ⟨k, hk, rfl, rfl⟩ := hrel
          by_cases hlt2 : k < n
          · have hkl : k < s1.2.length := by omega
            have hck := hcell2.out k (B s1.2[k]) (by simp [List.getElem?_eq_getElem hkl])
            unfold B at hck
            have hst := rnum_step hkl
            have hv1 := valN_lt (s1.2.take k)
            have hv2 : (s1.2.take k).length ≤ 7 := by simp; omega
            have hv3 : 256 ^ (s1.2.take k).length ≤ 256 ^ 7 := Nat.pow_le_pow_right (by omega) hv2
            have hv4 : valN (s1.2.take k) < 72057594037927936 := by omega
            have hv5 := (s1.2[k]).toNat_lt
            generalize valN (s1.2.take k) = x at *
            generalize (s1.2[k]).toNat = y at *
            have HS := Lib.hid hst
            clear hst hv1 hv2 hv3
            go_wp2_with fail
            go_round
            case rel => exact ⟨k + 1, by omega, by go_num, by rw [HS.out]; go_num⟩
            case measure => simp [intOf]; omega
          · obtain rfl : k = n := by omega
            go_wp2_with fail
            rw [HR.out]
            exact bodyPost_ret (v := .tuple #[.agg #[.slice (cutA (some ⟨ab, ao, none⟩) k c1) (s1.2.length - k) (c1 - k), .int .i64 0], .int .u64 (valN (s1.2.take k) : Nat)]) (by simp [results, Tryd.results95, go_sem, cb, fb, hlt1]) rfl ⟨_, _, _, rfl, (H3.out.set (by simp only; omega) _).set (by simp only; omega) _, hk2.set2 (by omega) _ _⟩
  · have hn0 : n = 0 := by rw [← hn, hbz h0]; rfl
    subst hn0
    have HR : Hid (r = (s1, 0)) := by
      rw [← HN.out, if_neg (by omega)]
      have : takeS s1 0 = (s1, none) := by simp [takeS, h0]
      rw [this]; exact rfl
    have hb : (s1.1 != 0) = true := by simpa using h0
    clear HN h0 hn hbz
    go_enter Tryd.func95, Tryd.ntmps95
    go_wp2_with fail
    refine (HB.out _ (kept2 w _ _)).mono ?_
    rintro e w1 ⟨A1, m1, c1, rfl, hD1, hk1⟩
    have hBa := blk1 hk1
    have hBb := blk2 hk1
    have ca := hBa.cell
    have fa := hBa.frozen
    have cb := hBb.cell
    have fb := hBb.frozen
    have hlt1 := hBb.lt
    go_wp2_with fail
    rw [HR.out]
    exact bodyPost_ret (v := .tuple #[.agg #[.slice A1 m1 c1, .int .i64 s1.1], .int .u64 0]) (by simp [results, Tryd.results95, go_sem, cb, fb, hlt1]) rfl ⟨A1, m1, c1, rfl, (((hD1.set (by simp only; omega) _).set (by simp only; omega) _).set (by simp only; omega) _).set (by simp only; omega) _, (((kept2 w _ _).trans hk1).set2 (Nat.le_refl _) _ _).set2 (by omega) _ _⟩

set_option maxHeartbeats 800000 in
theorem refGetTruth (b0 : Nat) (A : Option Addr) (m c : Nat) (s : RS) (w : World) (h : IsD w b0 A m c s) (hb0 : b0 ≤ w.heap.size) :
    Calls Tryd.prog 106 #[.agg #[.slice A m c, .int .i64 s.1]] w (Gives w b0 (truthS s).1 (.bool (truthS s).2)) := by
  have HB : Hid (∀ w1 : World, Kept [] w w1 → _) := fun w1 hk1 => refGetByte b0 A m c s w1 (h.old hk1) (by have := hk1.size; omega)
  have hz := byteS_err s
  obtain ⟨r, hr0⟩ : ∃ r, truthS s = r := ⟨_, rfl⟩
  rw [hr0]
  unfold truthS at hr0
  obtain ⟨s1, x, hs⟩ : ∃ s1 x, byteS s = (s1, x) := ⟨_, _, rfl⟩
  rw [hs] at HB hr0 hz
  simp only at HB hr0 hz
  have hlt := x.toNat_lt
  have hz' : s1.1 ≠ 0 → x.toNat = 0 := fun e => by rw [hz e]; rfl
  generalize x.toNat = x at *
  have HR := Lib.hid hr0
  clear h hs hr0 hz
  have hcase : ((s1.1 == 0) = true ∧ 1 < x) ∨ ((s1.1 == 0) = true ∧ ¬ 1 < x) ∨ ((s1.1 == 0) = false ∧ x = 0) := by
    by_cases h0 : s1.1 = 0
    · by_cases hm : 1 < x
      · exact .inl ⟨by simp [h0], hm⟩
      · exact .inr (.inl ⟨by simp [h0], hm⟩)
    · exact .inr (.inr ⟨by simpa using h0, hz' h0⟩)
  clear hz'
  have hx1 : ((x : Int) == 1) = (x == 1) := by rw [Bool.eq_iff_iff]; simp; omega
  generalize hxb : (x == 1) = xb at *
  have HX := Lib.hid hxb
  clear hxb
  rcases hcase with ⟨hb, hm⟩ | ⟨hb, hm⟩ | ⟨hb, rfl⟩
  all_goals
    go_enter Tryd.func106, Tryd.ntmps106
    go_wp2_with fail
    refine (HB.out _ (kept2 w _ _)).mono ?_
    rintro e w1 ⟨A1, m1, c1, rfl, hD1, hk1⟩
    have hBa := blk1 hk1
    have hBb := blk2 hk1
    have ca := hBa.cell
    have fa := hBa.frozen
    have cb := hBb.cell
    have fb := hBb.frozen
    have hlt1 := hBb.lt
    have hk2 := ((kept2 w _ _).trans hk1).set2 (Nat.le_refl _) (.slice A1 m1 c1) (.int .i64 s1.1)
    have hD2 := ((hD1.set (p := ⟨w.heap.size, 0, none⟩) (by simp only; omega) (.slice A1 m1 c1)).set (p := ⟨w.heap.size, 1, none⟩) (by simp only; omega) (.int .i64 s1.1))
    have hB2 := (hBb.far (p := ⟨w.heap.size, 0, none⟩) (by simp) (.slice A1 m1 c1)).far (p := ⟨w.heap.size, 1, none⟩) (by simp) (.int .i64 s1.1)
    go_wp2_with fail
  · refine (reffail b0 A1 _ c1 s1 3 _ hD2 (by have := hk2.size; omega) (by omega)).mono ?_
    clear ca fa cb fb hlt1 hBa hBb hD1 hk1 hD2
    rintro e w3 ⟨A3, m3, c3, rfl, hD3, hk3⟩
    have hB3 := hB2.kept hk3 (by simp)
    have cb := hB3.cell
    have fb := hB3.frozen
    have hlt1 := hB3.lt
    clear hB3 hB2
    go_wp2_with fail
    rw [← HR.out, if_pos hm]
    have : xb = false := by rw [← HX.out]; simp; omega
    rw [this]
    exact bodyPost_ret (v := .tuple #[.agg #[.slice A3 m3 c3, .int .i64 (failS s1 3).1], .bool false]) (by simp [results, Tryd.results106, go_sem, cb, fb, hlt1]) rfl ⟨A3, m3, c3, rfl, (hD3.set (by simp only; omega) _).set (by simp only; omega) _, (hk2.trans hk3).set2 (by omega) _ _⟩
  · rw [← HR.out, if_neg hm]
    exact bodyPost_ret (v := .tuple #[.agg #[.slice A1 m1 c1, .int .i64 s1.1], .bool xb]) (by simp [results, Tryd.results106, go_sem, cb, fb, hlt1]) rfl ⟨A1, m1, c1, rfl, (hD2.set (by simp only; omega) _).set (by simp only; omega) _, hk2.set2 (by omega) _ _⟩
  · rw [← HR.out, if_neg (by omega)]
    have : xb = false := by rw [← HX.out]; rfl
    rw [this]
    exact bodyPost_ret (v := .tuple #[.agg #[.slice A1 m1 c1, .int .i64 s1.1], .bool false]) (by simp [results, Tryd.results106, go_sem, cb, fb, hlt1]) rfl ⟨A1, m1, c1, rfl, (hD2.set (by simp only; omega) _).set (by simp only; omega) _, hk2.set2 (by omega) _ _⟩

set_option maxHeartbeats 400000 in
theorem refDone (b0 : Nat) (A : Option Addr) (m c : Nat) (s : RS) (w : World) (h : IsD w b0 A m c s) :
    Calls Tryd.prog 71 #[.agg #[.slice A m c, .int .i64 s.1]] w fun e w' => e = .returned (.int .i64 (doneS s)) ∧ Kept [] w w' := by
  have hm := h.len
  have hcm := h.2.2.1
  have hmc := h.2.1
  unfold maxLen at hcm
  obtain ⟨r, hr0⟩ : ∃ r, doneS s = r := ⟨_, rfl⟩
  rw [hr0]
  have HR := Lib.hid hr0
  clear h hr0
  by_cases h0 : s.1 = 0
  · have hb : (s.1 == 0) = true := by simp [h0]
    have hm' : m = leftS s := by rw [hm]; simp [restS, leftS, h0]
    have HM := Lib.hid hm'
    clear hm hm'
    by_cases hp : 0 < m
    · go_enter Tryd.func71, Tryd.ntmps71
      go_wp2_with fail
      go_ret
      rw [← HR.out]
      unfold doneS
      rw [← HM.out, if_pos hp]
      exact ⟨rfl, (Kept.refl _ _).alloc _⟩
    · go_enter Tryd.func71, Tryd.ntmps71
      go_wp2_with fail
      go_ret
      rw [← HR.out]
      unfold doneS
      rw [← HM.out, if_neg hp]
      refine ⟨?_, (Kept.refl _ _).alloc _⟩
      first | exact rfl | (rw [h0]; exact rfl)
  · have hb : (s.1 == 0) = false := by simpa using h0
    have H0 := Lib.hid h0
    clear hm h0
    go_enter Tryd.func71, Tryd.ntmps71
    go_wp2_with fail
    go_ret
    rw [← HR.out]
    unfold doneS
    rw [if_neg (by rw [failS_left' s H0.out]; omega)]
    exact ⟨rfl, (Kept.refl _ _).alloc _⟩

/-- A reader and bytes beside it. -/
def GivesB (w : World) (b0 : Nat) (s : RS) (l : List UInt8) (e : Ending) (w' : World) : Prop :=
  ∃ A m c A2 m2 c2, e = .returned (.tuple #[.agg #[.slice A m c, .int .i64 s.1], .slice A2 m2 c2]) ∧ IsD w' b0 A m c s ∧ Reads w' 1 A2 m2 (l.map B) ∧ (∀ ad, A2 = some ad → ad.block < b0) ∧ Kept [] w w'

end Go.Proofs.YtmhlmoojmdfnfaaDoor
