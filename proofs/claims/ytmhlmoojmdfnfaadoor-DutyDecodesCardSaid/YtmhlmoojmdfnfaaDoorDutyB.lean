/- Package duty: count, progs, starts: in plain words, and walked; Package duty: Decode: in plain words, and walked; The document's count of a duty; what readers do behind an error. -/
import Derived.Test.YtmhlmoojmdfnfaaDoorDutyA
import Derived.Test.YtmhlmoojmdfnfaaDoorPgAll
import Derived.Test.YtmhlmoojmdfnfaaDoorWireR2

/- Package duty: count, progs, starts: in plain words, and walked. -/
namespace Go.Proofs.YtmhlmoojmdfnfaaDoor
open Go.RowKit

def bigN (x : Nat) : Bool := decide (2147483647 < x)
/-- How many there are. -/
def countU (s : RS) : RS × Nat × Int := if (numS s).1.1 ≠ 0 then ((numS s).1, 0, (numS s).1.1) else if 64 < (numS s).2 then ((numS s).1, 0, 4) else ((numS s).1, (numS s).2, 0)
/-- n programs are read. -/
def progsK : Nat → RS → List (List Dd) → RS × List (List Dd) × Int
  | 0, s, acc => (s, acc, 0)
  | n + 1, s, acc => if (getPr s).2.2 ≠ 0 then ((getPr s).1, [], (getPr s).2.2) else progsK n (getPr s).1 (acc ++ [(getPr s).2.1])
def progsU (s : RS) : RS × List (List Dd) × Int := if (countU s).2.2 ≠ 0 then ((countU s).1, [], (countU s).2.2) else progsK (countU s).2.1 (countU s).1 []
/-- A start is read. -/
def startU (s : RS) : RS × St × Bool := ((numS (numS (numS s).1).1).1, ⟨smallN (numS s).2, smallN (numS (numS s).1).2, (numS (numS (numS s).1).1).2⟩, bigN (numS s).2 || bigN (numS (numS s).1).2)
def startsK : Nat → RS → List St → Bool → RS × List St × Bool
  | 0, s, acc, ov => (s, acc, ov)
  | n + 1, s, acc, ov => startsK n (startU s).1 (acc ++ [(startU s).2.1]) (ov || (startU s).2.2)
def startsU (s : RS) : RS × List St × Bool × Int := ((startsK (countU s).2.1 (countU s).1 [] false).1, (startsK (countU s).2.1 (countU s).1 [] false).2.1, (startsK (countU s).2.1 (countU s).1 [] false).2.2, (countU s).2.2)

theorem countU_le (s : RS) : (countU s).2.1 ≤ 64 := by
  unfold countU
  split
  · simp
  · split
    · simp
    · simp only; omega
theorem progsK_len : ∀ (n : Nat) (s : RS) (acc : List (List Dd)), (∀ p ∈ acc, p.length ≤ 256) → (progsK n s acc).2.1.length ≤ acc.length + n ∧ ∀ p ∈ (progsK n s acc).2.1, p.length ≤ 256
  | 0, _, acc, h => by simp only [progsK, Nat.add_zero, Nat.le_refl, true_and]; exact h
  | n + 1, s, acc, h => by
    rw [progsK]
    split
    · simp
    · obtain ⟨h1, h2⟩ := progsK_len n (getPr s).1 (acc ++ [(getPr s).2.1]) (fun p hp => by
        rcases List.mem_append.1 hp with hp | hp
        · exact h p hp
        · simp at hp; subst hp; exact getPr_len s)
      refine ⟨?_, h2⟩
      simp at h1
      omega
theorem progsU_len (s : RS) : (progsU s).2.1.length ≤ 64 ∧ ∀ p ∈ (progsU s).2.1, p.length ≤ 256 := by
  unfold progsU
  split
  · simp
  · have := progsK_len (countU s).2.1 (countU s).1 [] (by simp)
    have h2 := countU_le s
    simp only [List.length_nil, Nat.zero_add] at this
    exact ⟨by omega, this.2⟩
theorem startsK_len : ∀ (n : Nat) (s : RS) (acc : List St) (ov : Bool), (∀ t ∈ acc, t.mask < 18446744073709551616) → (startsK n s acc ov).2.1.length = acc.length + n ∧ ∀ t ∈ (startsK n s acc ov).2.1, t.mask < 18446744073709551616
  | 0, _, acc, _, h => by simp only [startsK, Nat.add_zero, true_and]; exact h
  | n + 1, s, acc, ov, h => by
    rw [startsK]
    obtain ⟨h1, h2⟩ := startsK_len n (startU s).1 (acc ++ [(startU s).2.1]) (ov || (startU s).2.2) (fun p hp => by
      rcases List.mem_append.1 hp with hp | hp
      · exact h p hp
      · simp at hp; subst hp; exact numS_lt _)
    refine ⟨?_, h2⟩
    rw [h1]; simp; omega
theorem startsU_len (s : RS) : (startsU s).2.1.length ≤ 64 ∧ ∀ t ∈ (startsU s).2.1, t.mask < 18446744073709551616 := by
  obtain ⟨h1, h2⟩ := startsK_len (countU s).2.1 (countU s).1 [] false (by simp)
  have h3 := countU_le s
  refine ⟨?_, h2⟩
  show (startsK _ _ _ _).2.1.length ≤ 64
  rw [h1]; simpa using h3

set_option maxHeartbeats 1600000 in
theorem ucount_any (g : Nat) (A0 : Option Addr) (c0 : Nat) (s : RS) (w : World) (h : IsR w g A0 c0 s) :
    Calls Tryd.prog 132 #[.pointer (some ⟨g, 0, none⟩), .int .u64 64] w fun e w' => e = .returned (.tuple #[.int .u64 ((countU s).2.1 : Nat), .int .i64 (countU s).2.2]) ∧ RGoes w g A0 (countU s).1 w' := by
  have HN := Lib.hid (rnum_any g A0 c0 s w h)
  have HU : Hid (countU s = if (numS s).1.1 ≠ 0 then ((numS s).1, 0, (numS s).1.1) else if 64 < (numS s).2 then ((numS s).1, 0, 4) else ((numS s).1, (numS s).2, 0)) := rfl
  generalize (numS s).2 = N at *
  generalize (numS s).1 = s1 at *
  clear h
  have HEr := Lib.hid (fun A1 c1 w1 h => rerr_any g A1 c1 s1 w1 h)
  by_cases h1 : s1.1 = 0
  · have hb : (s1.1 != 0) = false := by simp [h1]
    rw [if_neg (by simp [h1])] at HU
    clear h1
    by_cases h2 : 64 < N
    · rw [if_pos h2] at HU
      have d1 : decide ((64 : Int) < (N : Int)) = true := by simp; omega
      clear h2
      go_enter Tryd.func132, Tryd.ntmps132
      go_wp2_with fail
      refine (HN.out).mono ?_
      rintro e w1 ⟨rfl, A1, c1, hR1, hk1, hA1⟩
      have HI1 : Hid (RInv w g A0 w1 A1 c1 s1) := ⟨hR1, hk1, hA1⟩
      clear hR1 hk1 hA1
      go_wp2_with fail
      refine (HEr.out A1 c1 _ HI1.out.isR).mono ?_
      rintro e w2 ⟨rfl, rfl⟩
      go_wp2_with fail
      go_ret2
      rw [HU.out]
      exact ⟨rfl, HI1.out.goes⟩
    · rw [if_neg h2] at HU
      have d1 : decide ((64 : Int) < (N : Int)) = false := by simp; omega
      clear h2
      go_enter Tryd.func132, Tryd.ntmps132
      go_wp2_with fail
      refine (HN.out).mono ?_
      rintro e w1 ⟨rfl, A1, c1, hR1, hk1, hA1⟩
      have HI1 : Hid (RInv w g A0 w1 A1 c1 s1) := ⟨hR1, hk1, hA1⟩
      clear hR1 hk1 hA1
      go_wp2_with fail
      refine (HEr.out A1 c1 _ HI1.out.isR).mono ?_
      rintro e w2 ⟨rfl, rfl⟩
      go_wp2_with fail
      go_ret2
      rw [HU.out]
      exact ⟨rfl, HI1.out.goes⟩
  · have hb : (s1.1 != 0) = true := by simp [h1]
    rw [if_pos h1] at HU
    clear h1
    go_enter Tryd.func132, Tryd.ntmps132
    go_wp2_with fail
    refine (HN.out).mono ?_
    rintro e w1 ⟨rfl, A1, c1, hR1, hk1, hA1⟩
    have HI1 : Hid (RInv w g A0 w1 A1 c1 s1) := ⟨hR1, hk1, hA1⟩
    clear hR1 hk1 hA1
    go_wp2_with fail
    refine (HEr.out A1 c1 _ HI1.out.isR).mono ?_
    rintro e w2 ⟨rfl, rfl⟩
    go_wp2_with fail
    go_ret2
    rw [HU.out]
    exact ⟨rfl, HI1.out.goes⟩

theorem RowD.older {w0 w w' : World} {l : List Dd} {A : Option Addr} {n c : Nat} (h : RowD w w' l A n c) (hs : w0.heap.size ≤ w.heap.size) : RowD w0 w' l A n c := ⟨h.1, fun k hk => Nat.le_trans hs (h.2 k hk)⟩
theorem reads_pp (w : World) (v : Value) : Reads (w.alloc (.cells #[v] 22)) 1 (some ⟨w.heap.size, 0, none⟩) 1 [v] := reads_one w _ v

theorem RowPP.append2 {w wr w2 : World} {l : List (List Dd)} {p : List Dd} {A A' Ap : Option Addr} {n c c' np cp : Nat} {xs : List Value} (h1 : wr.ownsRow 0 22 1 (.slice A n c) n xs) (h2 : ∀ k, k ∈ fp (.slice A n c) → w.heap.size ≤ k) (h3 : xs.length = l.length)
    (h4 : ∀ (i : Nat) p, l[i]? = some p → ∃ A n c, xs[i]? = some (.slice A n c) ∧ RowD w wr p A n c) (hp : RowD w wr p Ap np cp) (hw : w.heap.size ≤ wr.heap.size)
    (ha : Appended wr w2 22 1 (.slice A n c) (.slice A' (n + 1) c') (n + 1) (xs ++ [.slice Ap np cp])) : RowPP w w2 (l ++ [p]) A' (n + 1) c' := by
  have hkd : ∀ {q : List Dd} {A n c}, RowD w wr q A n c → RowD w w2 q A n c := fun {q A' n' c'} hr => ⟨own_kept hr.1 ha.2.1 (own_own_ne hr.1 h1 (by decide)), hr.2⟩
  refine ⟨_, ha.1, fun k hk' => ?_, by simp [h3], fun i q hq => ?_⟩
  · rcases ha.2.2 k hk' with h5 | h5
    · exact h2 k h5
    · omega
  · rw [List.getElem?_append] at hq
    split at hq
    · rename_i hi
      obtain ⟨A, n, c, e, hr⟩ := h4 i q hq
      exact ⟨A, n, c, by rw [List.getElem?_append_left (by omega)]; exact e, hkd hr⟩
    · rename_i hi
      obtain ⟨hj, he⟩ := List.getElem?_eq_some_iff.1 hq
      simp at hj
      obtain rfl : i = l.length := by omega
      simp at he
      subst he
      exact ⟨Ap, np, cp, by rw [List.getElem?_append_right (by omega)]; simp [h3], hkd hp⟩
theorem RowPP.step {w w3 : World} {l : List (List Dd)} {p : List Dd} {A Ap : Option Addr} {n c np cp : Nat} (h : RowPP w w3 l A n c) (hp : RowD w w3 p Ap np cp) (hw : w.heap.size ≤ w3.heap.size) (o : Obj) :
    ∃ xs : List Value, (w3.alloc o).ownsRow 0 22 1 (.slice A n c) n xs ∧ ∀ (A' : Option Addr) (c' : Nat) (w2 : World), Appended (w3.alloc o) w2 22 1 (.slice A n c) (.slice A' (n + 1) c') (n + 1) (xs ++ [.slice Ap np cp]) → RowPP w w2 (l ++ [p]) A' (n + 1) c' := by
  have hk : Kept [] w3 (w3.alloc o) := (Kept.refl [] _).alloc _
  obtain ⟨xs, h1, h2, h3, h4⟩ := h.kept hk (by simp)
  exact ⟨xs, h1, fun A' c' w2 ha => RowPP.append2 h1 h2 h3 h4 (hp.kept hk (by simp)) (by simp; omega) ha⟩

/-- What progs leaves. -/
def GotPP (w : World) (g : Nat) (A0 : Option Addr) (x : RS × List (List Dd) × Int) (e : Ending) (w' : World) : Prop :=
  ∃ A n c, e = .returned (.tuple #[.slice A n c, .int .i64 x.2.2]) ∧ RGoes w g A0 x.1 w' ∧ RowPP w w' x.2.1 A n c

set_option maxHeartbeats 3200000 in
set_option maxRecDepth 100000 in
theorem uprogs_any (g : Nat) (A0 : Option Addr) (c0 : Nat) (s : RS) (w : World) (h : IsR w g A0 c0 s) :
    Calls Tryd.prog 92 #[.pointer (some ⟨g, 0, none⟩)] w (GotPP w g A0 (progsU s)) := by
  have HC := Lib.hid (ucount_any g A0 c0 s w h)
  have hcl := countU_le s
  have HZ : Hid ((countU s).2.2 ≠ 0 → (countU s).2.1 = 0) := fun h => by
    unfold countU at h ⊢
    split
    · rfl
    · rename_i h1
      rw [if_neg h1] at h
      split
      · rfl
      · rename_i h2
        rw [if_neg h2] at h
        exact absurd rfl h
  have H0 := Lib.hid h
  have HU : Hid (progsU s = if (countU s).2.2 ≠ 0 then ((countU s).1, [], (countU s).2.2) else progsK (countU s).2.1 (countU s).1 []) := rfl
  generalize countU s = cu at *
  obtain ⟨s1, N, er⟩ := cu
  simp only at HC hcl HZ HU
  have HU2 : Hid ((er ≠ 0 ∧ N = 0 ∧ progsU s = (s1, [], er)) ∨ (er = 0 ∧ progsU s = progsK N s1 [])) := by
    show _ ∨ _
    by_cases h1 : er = 0
    · exact .inr ⟨h1, by rw [HU.out, if_neg (by simp [h1])]⟩
    · exact .inl ⟨h1, HZ.out h1, by rw [HU.out, if_pos h1]⟩
  clear HU HZ h
  go_enter Tryd.func92, Tryd.ntmps92
  go_wp2_with fail
  refine (HC.out).mono ?_
  rintro e w1 ⟨rfl, A1, c1, hR1, hk1, hA1⟩
  have HI1 : Hid (RInv w g A0 w1 A1 c1 s1) := ⟨hR1, hk1, hA1⟩
  clear hR1 hk1 hA1
  go_wp2_with fail
  go_loopw [6, 15] (fun ov kv wr => ∃ (k : Nat) (sx : RS) (acc : List (List Dd)) (A' : Option Addr) (c' : Nat) (Av : Option Addr) (cv : Nat), k ≤ N ∧ kv = .int .u64 (k : Nat) ∧ ov = .slice Av k cv ∧ Hid ((er ≠ 0 ∧ progsU s = (sx, acc, er)) ∨ (er = 0 ∧ progsU s = progsK (N - k) sx acc)) ∧ Hid (RInv w g A0 wr A' c' sx) ∧ Hid (RowPP w wr acc Av k cv)) (fun _ k _ => N - (intOf k).toNat)
  case atStart => exact ⟨0, s1, [], A1, c1, none, 0, by omega, rfl, rfl, by rcases HU2.out with ⟨h1, h2, h3⟩ | ⟨h1, h2⟩; exact .inl ⟨h1, h3⟩; exact .inr ⟨h1, h2⟩, HI1, RowPP.nil _ _⟩
  case round =>
    obtain ⟨k, sx, acc, A', c', Av, cv, hk, rfl, rfl, HX, HI, HRW⟩ := hrel
    by_cases hlt : k < N
    · have HE0 : Hid (er = 0 ∧ progsU s = progsK (N - k) sx acc) := by
        rcases HU2.out with ⟨h1, h2, h3⟩ | ⟨h1, h2⟩
        · omega
        · rcases HX.out with h3 | h3
          · exact absurd h1 h3.1
          · exact h3
      have HDG := Lib.hid (pget_any g A' c' sx wr HI.out.isR)
      obtain ⟨j, hj⟩ : ∃ j, N - k = j + 1 := ⟨N - k - 1, by omega⟩
      have HU3 : Hid (progsU s = if (getPr sx).2.2 ≠ 0 then ((getPr sx).1, [], (getPr sx).2.2) else progsK (N - (k + 1)) (getPr sx).1 (acc ++ [(getPr sx).2.1])) := by
        show _ = _
        rw [HE0.out.2, hj, progsK, show N - (k + 1) = j by omega]
      generalize getPr sx = gp at *
      obtain ⟨s2, pp, ev⟩ := gp
      simp only at HU3 HDG
      have hi1 : (k : Int) < (N : Int) := by omega
      have HER := Lib.hid HE0.out.1
      clear hj HX HE0
      by_cases h3 : ev = 0
      · subst h3
        rw [if_neg (by simp)] at HU3
        go_wp2_with fail
        refine (HDG.out).mono ?_
        rintro e w3 ⟨Ap, np, cp, rfl, hgo, hrow⟩
        have hkg : Kept [g] wr w3 := by obtain ⟨_, _, _, hk, _⟩ := hgo; exact hk
        obtain ⟨A3, c3, hI3⟩ := HI.out.next hgo
        have HI3 := Lib.hid hI3
        have hgl := H0.out.1.lt
        have HRW3 := Lib.hid (HRW.out.kept hkg (fun k hm => by simp at hm; omega))
        have HRP := Lib.hid (hrow.older HI.out.kept.size)
        clear hgo hkg hI3 hrow
        have HFP : Hid (∀ q, q ∈ fp (.slice Av k cv) → w.heap.size ≤ q) := by obtain ⟨_, _, h2, _⟩ := HRW3.out; exact h2
        obtain ⟨xs, how, hst⟩ := RowPP.step HRW3.out HRP.out (HI3.out.kept.size) (.cells #[.slice Ap np cp] 22)
        have HOW := Lib.hid how
        have HST := Lib.hid hst
        clear how hst
        go_wp2_with (at_builtin; refine wpList_append_any _ rfl _ _ 51 rfl 22 (.slice none 0 0) 1 24 Tryd.underlying51 Tryd.info22 rfl (by decide) (.slice Av k cv) k _ rfl HOW.out _ 1 1 [.slice Ap np cp] rfl (reads_pp _ _) (by simp; rfl) (by simp only [maxLen]; omega) (by omega) ?_; rintro A5 c5 w5 happ; have HA5 := Lib.hid happ; clear happ)
        go_roundw
        case rel =>
          have hk2 : Kept [] w3 (w3.alloc (.cells #[.slice Ap np cp] 22)) := (Kept.refl [] _).alloc _
          have hI4 := RInv.far H0.out (HI3.out.old hk2) HA5.out.2.1 (fun q hq => HFP.out q hq)
          exact ⟨k + 1, s2, acc ++ [pp], A3, c3, A5, c5, by omega, by go_num, rfl, .inr ⟨HER.out, HU3.out⟩, hI4, HST.out _ _ _ HA5.out⟩
        case measure => simp [intOf]; omega
      · have hb3 : (ev != 0) = true := by simp [h3]
        rw [if_pos h3] at HU3
        clear h3
        go_wp2_with fail
        refine (HDG.out).mono ?_
        rintro e w3 ⟨Ap, np, cp, rfl, hgo, hrow⟩
        obtain ⟨A3, c3, hI3⟩ := HI.out.next hgo
        have HI3 := Lib.hid hI3
        clear hgo hI3 hrow
        go_wp2_with fail
        go_ret2
        rw [HU3.out]
        exact ⟨none, 0, 0, rfl, HI3.out.goes, RowPP.nil _ _⟩
    · obtain rfl : k = N := by omega
      have HV : Hid (progsU s = (sx, acc, er)) := by
        show _ = _
        rcases HX.out with h | ⟨h1, h2⟩
        · exact h.2
        · rw [h2, Nat.sub_self, h1]; rfl
      clear HX
      go_wp2_with fail
      go_ret2
      rw [HV.out]
      exact ⟨_, _, _, rfl, HI.out.goes, HRW.out⟩

/-- What starts leaves. -/
def GotSS (w : World) (g : Nat) (A0 : Option Addr) (x : RS × List St × Bool × Int) (e : Ending) (w' : World) : Prop :=
  ∃ A n c, e = .returned (.tuple #[.slice A n c, .bool x.2.2.1, .int .i64 x.2.2.2]) ∧ RGoes w g A0 x.1 w' ∧ RowS w w' x.2.1 A n c
theorem smallN_min (a : Nat) : min (a : Int) 2147483647 = smallN a := by unfold smallN; omega
theorem bigN_dec (a : Nat) : decide ((2147483647 : Int) < (a : Int)) = bigN a := by unfold bigN; rw [decide_eq_decide]; omega

set_option maxHeartbeats 6400000 in
set_option maxRecDepth 100000 in
theorem ustarts_any (g : Nat) (A0 : Option Addr) (c0 : Nat) (s : RS) (w : World) (h : IsR w g A0 c0 s) :
    Calls Tryd.prog 93 #[.pointer (some ⟨g, 0, none⟩)] w (GotSS w g A0 (startsU s)) := by
  have HC := Lib.hid (ucount_any g A0 c0 s w h)
  have hcl := countU_le s
  have H0 := Lib.hid h
  have HU : Hid (startsU s = ((startsK (countU s).2.1 (countU s).1 [] false).1, (startsK (countU s).2.1 (countU s).1 [] false).2.1, (startsK (countU s).2.1 (countU s).1 [] false).2.2, (countU s).2.2)) := rfl
  generalize startsU s = fin at *
  generalize countU s = cu at *
  obtain ⟨s1, N, er⟩ := cu
  simp only at HC hcl HU
  generalize hR : startsK N s1 [] false = R at *
  have HR := Lib.hid hR
  clear h hR
  go_enter Tryd.func93, Tryd.ntmps93
  go_wp2_with fail
  refine (HC.out).mono ?_
  rintro e w1 ⟨rfl, A1, c1, hR1, hk1, hA1⟩
  have HI1 : Hid (RInv w g A0 w1 A1 c1 s1) := ⟨hR1, hk1, hA1⟩
  clear hR1 hk1 hA1
  go_wp2_with fail
  go_loopw [7, 8, 18] (fun ov bv kv wr => ∃ (k : Nat) (sx : RS) (acc : List St) (bb : Bool) (A' : Option Addr) (c' : Nat) (Av : Option Addr) (cv : Nat), k ≤ N ∧ kv = .int .u64 (k : Nat) ∧ ov = .slice Av k cv ∧ bv = .bool bb ∧ Hid (startsK (N - k) sx acc bb = R) ∧ Hid (RInv w g A0 wr A' c' sx) ∧ Hid (RowS w wr acc Av k cv)) (fun _ _ k _ => N - (intOf k).toNat)
  case atStart => exact ⟨0, s1, [], false, A1, c1, none, 0, by omega, rfl, rfl, rfl, HR, HI1, RowS.nil _ _⟩
  case round =>
    clear HI1 HR
    obtain ⟨k, sx, acc, bb, A', c', Av, cv, hk, rfl, rfl, rfl, HX, HI, HRW⟩ := hrel
    by_cases hlt : k < N
    · obtain ⟨j, hj⟩ : ∃ j, N - k = j + 1 := ⟨N - k - 1, by omega⟩
      have HU3 : Hid (startsK (N - (k + 1)) (startU sx).1 (acc ++ [(startU sx).2.1]) (bb || (startU sx).2.2) = R) := by
        show _ = _
        rw [← HX.out, hj, startsK, show N - (k + 1) = j by omega]
      unfold startU at HU3
      have hn1 := numS_lt sx
      have hn2 := numS_lt (numS sx).1
      have hn3 := numS_lt (numS (numS sx).1).1
      have HN1 := Lib.hid (rnum_any g A' c' sx wr HI.out.isR)
      obtain ⟨a, ha⟩ : ∃ a, (numS sx).2 = a := ⟨_, rfl⟩
      obtain ⟨sa, hsa⟩ : ∃ sa, (numS sx).1 = sa := ⟨_, rfl⟩
      rw [hsa] at HU3 hn2 hn3 HN1
      rw [ha] at HU3 hn1 HN1
      obtain ⟨gg, hgg⟩ : ∃ gg, (numS sa).2 = gg := ⟨_, rfl⟩
      obtain ⟨sg, hsg⟩ : ∃ sg, (numS sa).1 = sg := ⟨_, rfl⟩
      have HN2 := Lib.hid (fun A1 c1 w1 h => rnum_any g A1 c1 sa w1 h)
      rw [hsg] at HU3 hn3 HN2
      rw [hgg] at HU3 hn2 HN2
      have HN3 := Lib.hid (fun A1 c1 w1 h => rnum_any g A1 c1 sg w1 h)
      obtain ⟨m, hm⟩ : ∃ m, (numS sg).2 = m := ⟨_, rfl⟩
      obtain ⟨sm, hsm⟩ : ∃ sm, (numS sg).1 = sm := ⟨_, rfl⟩
      rw [hsm, hm] at HU3 HN3
      rw [hm] at hn3
      have hi1 : (k : Int) < (N : Int) := by omega
      have hbA := bigN_dec a
      have hbG := bigN_dec gg
      simp only at HU3
      rw [← smallN_min, ← smallN_min] at HU3
      generalize bigN a = ba at *
      generalize bigN gg = bg at *
      clear ha hsa hgg hsg hm hsm hj HX
      cases bb <;> cases ba <;> cases bg
      all_goals
        simp only [Bool.or_false, Bool.or_true] at HU3
        go_wp2_with fail
        refine (HN1.out).mono ?_
        rintro e w3 ⟨rfl, hgo⟩
        have hk3 : Kept [g] wr w3 := by obtain ⟨_, _, _, hk, _⟩ := hgo; exact hk
        obtain ⟨A3, c3, hI3⟩ := HI.out.next hgo
        have HI3 := Lib.hid hI3
        have hgl := H0.out.1.lt
        have HRW3 := Lib.hid (HRW.out.kept hk3 (fun k hm => by simp at hm; omega))
        clear hgo hk3 hI3
        go_wp2_with fail
        refine (HN2.out _ _ _ HI3.out.isR).mono ?_
        rintro e w4 ⟨rfl, hgo⟩
        have hk4 : Kept [g] w3 w4 := by obtain ⟨_, _, _, hk, _⟩ := hgo; exact hk
        obtain ⟨A4, c4, hI4⟩ := HI3.out.next hgo
        have HI4 := Lib.hid hI4
        have HRW4 := Lib.hid (HRW3.out.kept hk4 (fun k hm => by simp at hm; omega))
        clear hgo hk4 hI4
        go_wp2_with fail
        refine (HN3.out _ _ _ HI4.out.isR).mono ?_
        rintro e w5 ⟨rfl, hgo⟩
        have hk5 : Kept [g] w4 w5 := by obtain ⟨_, _, _, hk, _⟩ := hgo; exact hk
        obtain ⟨A5, c5, hI5⟩ := HI4.out.next hgo
        have HI5 := Lib.hid hI5
        have HRW5 := Lib.hid (HRW4.out.kept hk5 (fun k hm => by simp at hm; omega))
        clear hgo hk5 hI5
        have HOW := Lib.hid (HRW5.out.kept ((Kept.refl [] _).alloc (.cells #[.int .i64 (min (a : Int) 2147483647), .int .i64 (min (gg : Int) 2147483647), .int .u64 (m : Int)] 118)) (by simp))
        go_wp2_with (at_builtin; refine wpList_append_any _ rfl _ _ 52 rfl 118 (.agg #[.int .i64 0, .int .i64 0, .int .u64 0]) 3 24 Tryd.underlying52 Tryd.info118 rfl (by decide) (.slice Av k cv) k _ rfl HOW.out.1 _ 1 1 (stL ⟨min (a : Int) 2147483647, min (gg : Int) 2147483647, m⟩) rfl (reads_st w5 118 ⟨min (a : Int) 2147483647, min (gg : Int) 2147483647, m⟩) (stL_one _) (by simp only [maxLen]; omega) (by omega) ?_; rintro A6 c6 w6 happ; have HA6 := Lib.hid happ; clear happ)
        go_roundw
        case rel =>
          have hk2 : Kept [] w5 (w5.alloc (.cells #[.int .i64 (min (a : Int) 2147483647), .int .i64 (min (gg : Int) 2147483647), .int .u64 (m : Int)] 118)) := (Kept.refl [] _).alloc _
          have hI6 := RInv.far H0.out (HI5.out.old hk2) HA6.out.2.1 (fun q hq => HOW.out.2 q hq)
          exact ⟨k + 1, sm, acc ++ [⟨min (a : Int) 2147483647, min (gg : Int) 2147483647, m⟩], _, A5, c5, A6, c6, by omega, by go_num, rfl, rfl, HU3, hI6, HOW.out.append (by have := HI5.out.kept.size; simp; omega) HA6.out⟩
        case measure => simp [intOf]; omega
    · obtain rfl : k = N := by omega
      rw [Nat.sub_self] at HX
      have HV : Hid (fin = (sx, acc, bb, er)) := by
        show _ = _
        rw [HU.out, ← HX.out]; rfl
      clear HX HU
      go_wp2_with fail
      go_ret3
      rw [HV.out]
      exact ⟨_, _, _, rfl, HI.out.goes, HRW.out⟩

end Go.Proofs.YtmhlmoojmdfnfaaDoor

/- Package duty: Decode: in plain words, and walked. -/
namespace Go.Proofs.YtmhlmoojmdfnfaaDoor
open Go.RowKit
theorem run_max_int4 {P : Program} {w : World} (ts : Array TypeId) (t : TypeId) (k : IntKind) (x y z u : Int) : (Builtin.max_ ts t #[.int k x, .int k y, .int k z, .int k u]).run P w = .ok (.int k (max (max (max x y) z) u)) w := by
  have h : (if (if (if x < y then y else x) < z then z else (if x < y then y else x)) < u then u else (if (if x < y then y else x) < z then z else (if x < y then y else x))) = max (max (max x y) z) u := by
    (repeat' split) <;> omega
  simp [Builtin.max_, Builtin.max2, h]
attribute [local go_sem] run_store_float run_max_int4

/-- A reader behind k numbers, and the number at a place. -/
def rsAt (s : RS) : Nat → RS
  | 0 => s
  | k + 1 => (numS (rsAt s k)).1
def nmAt (s : RS) (k : Nat) : Nat := (numS (rsAt s k)).2
theorem nmAt_lt (s : RS) (k : Nat) : nmAt s k < 18446744073709551616 := numS_lt _
/-- The duty of some numbers. -/
def headU (x : Nat → Nat) (ps : List (List Dd)) (ss : List St) : Du := ⟨smallN (x 0), smallN (x 1), smallN (x 2), smallN (x 3), x 4, x 5, x 6, ps, ss⟩
def greatU (x : Nat → Nat) : Bool := bigN (x 0) || bigN (x 1) || bigN (x 2) || bigN (x 3)
/-- What is behind the starts. -/
def decT (x : Nat → Nat) (ps : List (List Dd)) (T : RS × List St × Bool × Int) : Du × Int :=
  if T.2.2.2 ≠ 0 then (Du.zero, T.2.2.2) else
  if doneS T.1 ≠ 0 then (Du.zero, doneS T.1) else
  if (T.2.2.1 || greatU x) = true then (Du.zero, 5) else
  if checkU (headU x ps T.2.1) ≠ 0 then (Du.zero, checkU (headU x ps T.2.1)) else (headU x ps T.2.1, 0)
def decR (x : Nat → Nat) (P : RS × List (List Dd) × Int) : Du × Int := if P.2.2 ≠ 0 then (Du.zero, P.2.2) else decT x P.2.1 (startsU P.1)
/-- Bytes' duty. -/
def decU (l : List UInt8) : Du × Int := decR (nmAt (0, l)) (progsU (rsAt (0, l) 7))
theorem max4_dec (x : Nat → Nat) : decide ((2147483647 : Int) < max (x 0 : Int) (max (x 1 : Int) (max (x 2 : Int) (x 3 : Int)))) = greatU x := by
  unfold greatU bigN
  rw [Bool.eq_iff_iff]
  simp only [decide_eq_true_eq, Bool.or_eq_true]
  omega

/-- The numbers' cells after k rounds. -/
def xC (x : Nat → Nat) (k i : Nat) : Value := .int .u64 (if i < k then (x i : Int) else 0)
def arrC (x : Nat → Nat) (k : Nat) : Array Value := #[xC x k 0, xC x k 1, xC x k 2, xC x k 3, xC x k 4, xC x k 5, xC x k 6]
theorem arrC_set (x : Nat → Nat) (k : Nat) (h : k < 7) : (arrC x k).setIfInBounds k (.int .u64 (x k : Int)) = arrC x (k + 1) := by
  match k, h with
  | 0, _ => simp [arrC, xC]
  | 1, _ => simp [arrC, xC]
  | 2, _ => simp [arrC, xC]
  | 3, _ => simp [arrC, xC]
  | 4, _ => simp [arrC, xC]
  | 5, _ => simp [arrC, xC]
  | 6, _ => simp [arrC, xC]
theorem arrC_zero (x : Nat → Nat) : arrC x 0 = #[.int .u64 0, .int .u64 0, .int .u64 0, .int .u64 0, .int .u64 0, .int .u64 0, .int .u64 0] := by simp [arrC, xC]
theorem arrC_done (x : Nat → Nat) : arrC x 7 = #[.int .u64 (x 0 : Int), .int .u64 (x 1 : Int), .int .u64 (x 2 : Int), .int .u64 (x 3 : Int), .int .u64 (x 4 : Int), .int .u64 (x 5 : Int), .int .u64 (x 6 : Int)] := by simp [arrC, xC]

set_option maxHeartbeats 6400000 in
set_option maxRecDepth 100000 in
theorem udecode_any (A : Option Addr) (m c : Nat) (l : List UInt8) (w : World) (hr : Reads w 1 A m (l.map B)) (hl : l.length ≤ 1000000) :
    Calls Tryd.prog 41 #[.slice A m c] w fun e w' => ∃ A n c B m e', e = .returned (.tuple #[.agg (uC (decU l).1 A n c B m e'), .int .i64 (decU l).2]) ∧ IsU w' (decU l).1 A n B m ∧ Kept [] w w' := by
  have HRD := Lib.hid (fun w h => rread_any A m c l w h (by omega))
  obtain ⟨R, hRR⟩ : ∃ R, decU l = R := ⟨_, rfl⟩
  rw [hRR]
  have HRR := Lib.hid hRR
  clear hRR
  have HR := Lib.hid hr
  clear hr
  go_enter Tryd.func41, Tryd.ntmps41
  go_wp2_with fail
  refine (HRD.out _ (HR.out.alloc _)).mono ?_
  rintro e w1 ⟨g, A1, c1, rfl, hR1, hk1, hg1, hA1⟩
  simp only [World.size_alloc] at hg1 hA1
  have HB0 := Lib.hid ((Blk.new w 54 #[.int .i64 0, .int .i64 0, .int .i64 0, .int .i64 0, .int .u64 0, .float .f64 0, .float .f64 0, .slice none 0 0, .slice none 0 0]).kept hk1 (by simp))
  have HK1 := Lib.hid (((Kept.refl [] w).alloc _).trans hk1)
  have HR1 := Lib.hid hR1
  clear hR1 hk1
  go_wp2_with fail
  go_loopw [14] (fun kv wr => ∃ (k : Nat) (A' : Option Addr) (c' : Nat), k ≤ 7 ∧ kv = .int .i64 k ∧ Hid (RInv w1 g A1 wr A' c' (rsAt (0, l) k)) ∧ Hid (Blk wr w1.heap.size 104 (arrC (nmAt (0, l)) k))) (fun k _ => 7 - (intOf k).toNat)
  case atStart => exact ⟨0, A1, c1, by omega, rfl, ⟨HR1.out.kept ((Kept.refl [] _).alloc _) (by simp) (by simp), ((Kept.refl _ _).alloc _), fun ad h => ⟨ad, h, rfl⟩⟩, by rw [arrC_zero]; exact Blk.new _ _ _⟩
  case round =>
    obtain ⟨k, A', c', hk, rfl, HI, HX⟩ := hrel
    have hgl := HR1.out.1.lt
    by_cases hlt : k < 7
    · have HN := Lib.hid (rnum_any g A' c' _ wr HI.out.isR)
      have hi0 : (0 : Int) ≤ (k : Int) := by omega
      have hi1 : (k : Int) < 7 := by omega
      go_wp2_with fail
      refine (HN.out).mono ?_
      rintro e w3 ⟨rfl, hgo⟩
      have hk3 : Kept [g] wr w3 := by obtain ⟨_, _, _, hk, _⟩ := hgo; exact hk
      obtain ⟨A3, c3, hI3⟩ := HI.out.next hgo
      have HI3 := Lib.hid hI3
      have HX3 := Lib.hid (HX.out.kept hk3 (by simp; omega))
      obtain ⟨v0, hv0⟩ := HX3.out.cell_lt (i := k) (by simp [arrC]; omega)
      have hf3 := HX3.out.frozen k
      clear hgo hk3 hI3
      go_wp2_with fail
      go_roundw
      case rel => exact ⟨k + 1, A3, c3, by omega, by go_num, RInv.far HR1.out HI3.out ((Kept.refl [w1.heap.size] _).setCell (.inl (by simp)) _) (by simp), by rw [← arrC_set _ _ hlt]; exact HX3.out.set k _⟩
      case measure => simp [intOf]; omega
    · obtain rfl : k = 7 := by omega
      rw [arrC_done] at HX
      have hxl : ∀ i, nmAt (0, l) i < 18446744073709551616 := nmAt_lt _
      have hR := HRR.out
      unfold decU at hR
      have HB := Lib.hid ((HB0.out.kept HI.out.kept (by simp; omega)))
      have HK := Lib.hid (HK1.out.trans' HI.out.kept (fun k hk => .inr (by simp at hk; omega)))
      have hRx : w.heap.size < w1.heap.size := HB0.out.lt
      have HPP := Lib.hid (fun A' c' w h => uprogs_any g A' c' (rsAt (0, l) 7) w h)
      have hpl := progsU_len (rsAt (0, l) 7)
      generalize nmAt (0, l) = x at *
      generalize rsAt (0, l) 7 = s7 at *
      generalize progsU s7 = P at *
      obtain ⟨sP, ps, eP⟩ := P
      unfold decR at hR
      simp only at hR hpl
      have hsl := startsU_len sP
      have HSS := Lib.hid (fun A' c' w h => ustarts_any g A' c' sP w h)
      generalize startsU sP = T at *
      obtain ⟨sT, ss, ov, eT⟩ := T
      unfold decT at hR
      simp only at hR hsl
      have HDN := Lib.hid (fun A' c' w h => rdone_any g A' c' sT w h)
      generalize doneS sT = dn at *
      have HU := Lib.hid hR
      clear hR
      have HOF := Lib.hid (fun w => of_any (x 0) (x 1) (x 2) (x 3) (x 4) (x 5) (x 6) w (hxl 0) (hxl 1) (hxl 2) (hxl 3))
      simp only [uC] at HOF
      have hcx := HX.out.cell
      have hlx := HX.out.lt
      clear HB0 HK1 HRD HR hA1 HRR
      go_wp2_with fail
      refine (HOF.out _).mono ?_
      rintro e w2 ⟨rfl, hk2⟩
      have HX2 := Lib.hid (HX.out.kept hk2 (by simp))
      have HB2 := Lib.hid (HB.out.kept hk2 (by simp))
      have HI2 := Lib.hid (HI.out.old hk2)
      have HK2 := Lib.hid (HK.out.trans hk2)
      clear hk2 hcx hlx HX HB HI HK HOF
      have hS2 : w1.heap.size < w2.heap.size := HX2.out.lt
      have HD3 : Hid (Blk (w2.alloc (.cells #[.int .i64 (smallN (x 0)), .int .i64 (smallN (x 1)), .int .i64 (smallN (x 2)), .int .i64 (smallN (x 3)), .int .u64 (x 4 : Int), .float .f64 (x 5), .float .f64 (x 6), .slice none 0 0, .slice none 0 0] 54)) w2.heap.size 54 #[.int .i64 (smallN (x 0)), .int .i64 (smallN (x 1)), .int .i64 (smallN (x 2)), .int .i64 (smallN (x 3)), .int .u64 (x 4 : Int), .float .f64 (x 5), .float .f64 (x 6), .slice none 0 0, .slice none 0 0]) := Blk.new _ _ _
      have HX3 := Lib.hid (HX2.out.alloc (.cells #[.int .i64 (smallN (x 0)), .int .i64 (smallN (x 1)), .int .i64 (smallN (x 2)), .int .i64 (smallN (x 3)), .int .u64 (x 4 : Int), .float .f64 (x 5), .float .f64 (x 6), .slice none 0 0, .slice none 0 0] 54))
      have HB3 := Lib.hid (HB2.out.alloc (.cells #[.int .i64 (smallN (x 0)), .int .i64 (smallN (x 1)), .int .i64 (smallN (x 2)), .int .i64 (smallN (x 3)), .int .u64 (x 4 : Int), .float .f64 (x 5), .float .f64 (x 6), .slice none 0 0, .slice none 0 0] 54))
      have HI3 := Lib.hid (HI2.out.old ((Kept.refl [] _).alloc (.cells #[.int .i64 (smallN (x 0)), .int .i64 (smallN (x 1)), .int .i64 (smallN (x 2)), .int .i64 (smallN (x 3)), .int .u64 (x 4 : Int), .float .f64 (x 5), .float .f64 (x 6), .slice none 0 0, .slice none 0 0] 54)))
      have HK3 := Lib.hid (HK2.out.alloc (.cells #[.int .i64 (smallN (x 0)), .int .i64 (smallN (x 1)), .int .i64 (smallN (x 2)), .int .i64 (smallN (x 3)), .int .u64 (x 4 : Int), .float .f64 (x 5), .float .f64 (x 6), .slice none 0 0, .slice none 0 0] 54))
      clear HX2 HB2 HI2 HK2
      go_wp2_with fail
      generalize w2.alloc (.cells #[.int .i64 (smallN (x 0)), .int .i64 (smallN (x 1)), .int .i64 (smallN (x 2)), .int .i64 (smallN (x 3)), .int .u64 (x 4 : Int), .float .f64 (x 5), .float .f64 (x 6), .slice none 0 0, .slice none 0 0] 54) = w3 at *
      generalize hdx : w2.heap.size = dx at *
      have hS3 : dx < w3.heap.size := HD3.out.lt
      clear hdx
      refine (HPP.out _ _ _ HI3.out.isR).mono ?_
      rintro e w4 ⟨Ap, np, cp, rfl, hgo, hrow⟩
      have hk4 : Kept [g] w3 w4 := by obtain ⟨_, _, _, hk, _⟩ := hgo; exact hk
      obtain ⟨A4, c4, hI4⟩ := HI3.out.next hgo
      have HRP := Lib.hid hrow
      have HX4 := Lib.hid (HX3.out.kept hk4 (by simp; omega))
      have HB4 := Lib.hid (HB3.out.kept hk4 (by simp; omega))
      have HD4 := Lib.hid (HD3.out.kept hk4 (by simp; omega))
      have HI4 := Lib.hid hI4
      have HK4 := Lib.hid (HK3.out.trans' hk4 (fun k hk => .inr (by simp at hk; omega)))
      have hS4 := hk4.size
      clear hgo hk4 hI4 hrow HX3 HB3 HD3 HI3 HK3
      have hd4 := HD4.out.cell
      have hdf4 := HD4.out.frozen
      have hdl4 := HD4.out.lt
      have HX5 := Lib.hid (HX4.out.far (p := ⟨dx, 7, none⟩) (by simp only; omega) (.slice Ap np cp))
      have HB5 := Lib.hid (HB4.out.far (p := ⟨dx, 7, none⟩) (by simp only; omega) (.slice Ap np cp))
      have HD5 : Hid (Blk (w4.setCell ⟨dx, 7, none⟩ (.slice Ap np cp)) dx 54 #[.int .i64 (smallN (x 0)), .int .i64 (smallN (x 1)), .int .i64 (smallN (x 2)), .int .i64 (smallN (x 3)), .int .u64 (x 4 : Int), .float .f64 (x 5), .float .f64 (x 6), .slice Ap np cp, .slice none 0 0]) := HD4.out.set 7 (.slice Ap np cp)
      have HI5 := Lib.hid (RInv.far HR1.out HI4.out ((Kept.refl [dx] w4).setCell (p := ⟨dx, 7, none⟩) (.inl (by simp)) (.slice Ap np cp)) (by simp; omega))
      have HRP5 := Lib.hid (HRP.out.kept ((Kept.refl [dx] w4).setCell (p := ⟨dx, 7, none⟩) (.inl (by simp)) (.slice Ap np cp)) (by simp; omega))
      have HK5 := Lib.hid (HK4.out.setCell (p := ⟨dx, 7, none⟩) (.inr (by simp only; omega)) (.slice Ap np cp))
      clear HX4 HB4 HI4 HK4 HRP
      have hdl5 : dx < (w4.setCell ⟨dx, 7, none⟩ (.slice Ap np cp)).heap.size := by simpa using hdl4
      by_cases hP : eP = 0
      · have bP : (eP != 0) = false := by simp [hP]
        have HU2 := Lib.hid (HU.out)
        rw [if_neg (by simp [hP])] at HU2
        go_wp2_with fail
        clear hd4 hdf4 hdl4 HD4
        generalize w4.setCell ⟨dx, 7, none⟩ (.slice Ap np cp) = w5 at *
        refine (HSS.out _ _ _ HI5.out.isR).mono ?_
        rintro e w6 ⟨As, ns, cs, rfl, hgo, hrow⟩
        have hk6 : Kept [g] w5 w6 := by obtain ⟨_, _, _, hk, _⟩ := hgo; exact hk
        obtain ⟨A6, c6, hI6⟩ := HI5.out.next hgo
        have HRS := Lib.hid hrow
        have HX6 := Lib.hid (HX5.out.kept hk6 (by simp; omega))
        have HB6 := Lib.hid (HB5.out.kept hk6 (by simp; omega))
        have HD6 := Lib.hid (HD5.out.kept hk6 (by simp; omega))
        have HI6 := Lib.hid hI6
        have HK6 := Lib.hid (HK5.out.trans' hk6 (fun k hk => .inr (by simp at hk; omega)))
        have HRP6 := Lib.hid (HRP5.out.kept hk6 (by simp; omega))
        clear hgo hk6 hI6 hrow HX5 HB5 HD5 HI5 HK5 HRP5
        have hd6 := HD6.out.cell
        have hdf6 := HD6.out.frozen
        have hdl6 := HD6.out.lt
        have HX7 := Lib.hid (HX6.out.far (p := ⟨dx, 8, none⟩) (by simp only; omega) (.slice As ns cs))
        have HB7 := Lib.hid (HB6.out.far (p := ⟨dx, 8, none⟩) (by simp only; omega) (.slice As ns cs))
        have HD7 : Hid (Blk (w6.setCell ⟨dx, 8, none⟩ (.slice As ns cs)) dx 54 #[.int .i64 (smallN (x 0)), .int .i64 (smallN (x 1)), .int .i64 (smallN (x 2)), .int .i64 (smallN (x 3)), .int .u64 (x 4 : Int), .float .f64 (x 5), .float .f64 (x 6), .slice Ap np cp, .slice As ns cs]) := HD6.out.set 8 (.slice As ns cs)
        have HI7 := Lib.hid (RInv.far HR1.out HI6.out ((Kept.refl [dx] w6).setCell (p := ⟨dx, 8, none⟩) (.inl (by simp)) (.slice As ns cs)) (by simp; omega))
        have HRP7 := Lib.hid (HRP6.out.kept ((Kept.refl [dx] w6).setCell (p := ⟨dx, 8, none⟩) (.inl (by simp)) (.slice As ns cs)) (by simp; omega))
        have HRS7 := Lib.hid (HRS.out.kept ((Kept.refl [dx] w6).setCell (p := ⟨dx, 8, none⟩) (.inl (by simp)) (.slice As ns cs)) (by simp; omega))
        have HK7 := Lib.hid (HK6.out.setCell (p := ⟨dx, 8, none⟩) (.inr (by simp only; omega)) (.slice As ns cs))
        clear HX6 HB6 HI6 HK6 HRP6 HRS
        have hdl7 : dx < (w6.setCell ⟨dx, 8, none⟩ (.slice As ns cs)).heap.size := by simpa using hdl6
        have hb7 := HB7.out.cell
        have hbf7 := HB7.out.frozen
        have hbl7 := HB7.out.lt
        have HUA := Lib.hid HU2.out
        clear HU HU2 HPP HSS
        by_cases hT : eT = 0
        · have bT : (eT != 0) = false := by simp [hT]
          rw [if_neg (by simp [hT])] at HUA
          go_wp2_with fail
          clear hd6 hdf6 hdl6 HD6
          have HDN7 := Lib.hid (HDN.out _ _ _ HI7.out.isR)
          have hd7 := HD7.out.cell
          have hx7 := HX7.out.cell
          have hxl7 := HX7.out.lt
          generalize w6.setCell ⟨dx, 8, none⟩ (.slice As ns cs) = w7 at *
          clear HDN hT bT hP bP
          refine HDN7.out.mono ?_
          rintro e w8 ⟨rfl, rfl⟩
          by_cases hdn : dn = 0
          · have bD : (dn != 0) = false := by simp [hdn]
            rw [if_neg (by simp [hdn])] at HUA
            clear hdn
            have hmx := max4_dec x
            have HIU : Hid (IsU w7 (headU x ps ss) Ap np As ns) := ⟨HRP7.out.reads, HRS7.out.reads⟩
            have HCK := Lib.hid (fun w h => ucheck_any (headU x ps ss) Ap np cp As ns cs w h (by show ps.length ≤ _; omega) (by show ss.length ≤ _; omega) (fun p hp => by have := hpl.2 p hp; omega) (fun t ht => hsl.2 t ht))
            have HDP : Hid ((headU x ps ss).progs = ps) := rfl
            have HDS : Hid ((headU x ps ss).starts = ss) := rfl
            have huc : uC (headU x ps ss) Ap np cp As ns cs = #[.int .i64 (smallN (x 0)), .int .i64 (smallN (x 1)), .int .i64 (smallN (x 2)), .int .i64 (smallN (x 3)), .int .u64 (x 4 : Int), .float .f64 (x 5), .float .f64 (x 6), .slice Ap np cp, .slice As ns cs] := rfl
            rw [huc] at HCK
            generalize checkU (headU x ps ss) = ck at *
            generalize headU x ps ss = du at *
            have HUC := Lib.hid huc
            clear huc
            generalize hgr : greatU x = gr at *
            have HGR := Lib.hid hgr
            clear hgr
            cases hov : (ov || gr) with
            | true =>
              rw [hov, if_pos rfl] at HUA
              cases ov with
              | true =>
                go_wp2_with fail
                have hF := ((((((((((HB7.out.set 0 (.int .i64 0)).set 1 (.int .i64 0)).set 2 (.int .i64 0)).set 3 (.int .i64 0)).set 4 (.int .u64 0)).set 5 (.float .f64 0)).set 6 (.float .f64 0)).set 7 (.slice none 0 0)).set 8 (.slice none 0 0))).cell
                refine bodyPost_ret (v := .tuple #[.agg #[.int .i64 0, .int .i64 0, .int .i64 0, .int .i64 0, .int .u64 0, .float .f64 0, .float .f64 0, .slice none 0 0, .slice none 0 0], .int .i64 5]) (by simp [results, Tryd.results41, go_sem, hF]) rfl ?_
                rw [show R = (Du.zero, 5) from HUA.out.symm]
                exact ⟨none, 0, 0, none, 0, 0, rfl, ⟨ReadsPP.none_ _, ReadsS.none_ _⟩, (((((((((HK7.out.setCell (p := ⟨w.heap.size, 0, none⟩) (.inr (Nat.le_refl _)) (.int .i64 0)).setCell (p := ⟨w.heap.size, 1, none⟩) (.inr (Nat.le_refl _)) (.int .i64 0)).setCell (p := ⟨w.heap.size, 2, none⟩) (.inr (Nat.le_refl _)) (.int .i64 0)).setCell (p := ⟨w.heap.size, 3, none⟩) (.inr (Nat.le_refl _)) (.int .i64 0)).setCell (p := ⟨w.heap.size, 4, none⟩) (.inr (Nat.le_refl _)) (.int .u64 0)).setCell (p := ⟨w.heap.size, 5, none⟩) (.inr (Nat.le_refl _)) (.float .f64 0)).setCell (p := ⟨w.heap.size, 6, none⟩) (.inr (Nat.le_refl _)) (.float .f64 0)).setCell (p := ⟨w.heap.size, 7, none⟩) (.inr (Nat.le_refl _)) (.slice none 0 0)).setCell (p := ⟨w.heap.size, 8, none⟩) (.inr (Nat.le_refl _)) (.slice none 0 0))⟩
              | false =>
                simp only [Bool.false_or] at hov
                subst hov
                go_wp2_with fail
                have hF := ((((((((((HB7.out.set 0 (.int .i64 0)).set 1 (.int .i64 0)).set 2 (.int .i64 0)).set 3 (.int .i64 0)).set 4 (.int .u64 0)).set 5 (.float .f64 0)).set 6 (.float .f64 0)).set 7 (.slice none 0 0)).set 8 (.slice none 0 0))).cell
                refine bodyPost_ret (v := .tuple #[.agg #[.int .i64 0, .int .i64 0, .int .i64 0, .int .i64 0, .int .u64 0, .float .f64 0, .float .f64 0, .slice none 0 0, .slice none 0 0], .int .i64 5]) (by simp [results, Tryd.results41, go_sem, hF]) rfl ?_
                rw [show R = (Du.zero, 5) from HUA.out.symm]
                exact ⟨none, 0, 0, none, 0, 0, rfl, ⟨ReadsPP.none_ _, ReadsS.none_ _⟩, (((((((((HK7.out.setCell (p := ⟨w.heap.size, 0, none⟩) (.inr (Nat.le_refl _)) (.int .i64 0)).setCell (p := ⟨w.heap.size, 1, none⟩) (.inr (Nat.le_refl _)) (.int .i64 0)).setCell (p := ⟨w.heap.size, 2, none⟩) (.inr (Nat.le_refl _)) (.int .i64 0)).setCell (p := ⟨w.heap.size, 3, none⟩) (.inr (Nat.le_refl _)) (.int .i64 0)).setCell (p := ⟨w.heap.size, 4, none⟩) (.inr (Nat.le_refl _)) (.int .u64 0)).setCell (p := ⟨w.heap.size, 5, none⟩) (.inr (Nat.le_refl _)) (.float .f64 0)).setCell (p := ⟨w.heap.size, 6, none⟩) (.inr (Nat.le_refl _)) (.float .f64 0)).setCell (p := ⟨w.heap.size, 7, none⟩) (.inr (Nat.le_refl _)) (.slice none 0 0)).setCell (p := ⟨w.heap.size, 8, none⟩) (.inr (Nat.le_refl _)) (.slice none 0 0))⟩
            | false =>
              rw [hov, if_neg (by simp)] at HUA
              simp only [Bool.or_eq_false_iff] at hov
              obtain ⟨rfl, rfl⟩ := hov
              go_wp2_with fail
              refine (HCK.out _ HIU.out).mono ?_
              rintro e w9 ⟨rfl, hk9⟩
              have HB9 := Lib.hid (HB7.out.kept hk9 (by simp))
              have HD9 := Lib.hid (HD7.out.kept hk9 (by simp))
              have HK9 := Lib.hid (HK7.out.trans hk9)
              have HRP9 := Lib.hid (HRP7.out.kept hk9 (by simp))
              have HRS9 := Lib.hid (HRS7.out.kept hk9 (by simp))
              have hb9 := HB9.out.cell
              have hbf9 := HB9.out.frozen
              have hbl9 := HB9.out.lt
              have hd9 := HD9.out.cell
              have hdl9 := HD9.out.lt
              clear hk9 hb7 hbf7 hbl7 hd7 hx7 hxl7
              by_cases hck : ck = 0
              · have bC : (ck != 0) = false := by simp [hck]
                rw [if_neg (by simp [hck])] at HUA
                clear hck
                go_wp2_with fail
                have hF := ((((((((((HB9.out.set 0 (.int .i64 (smallN (x 0)))).set 1 (.int .i64 (smallN (x 1)))).set 2 (.int .i64 (smallN (x 2)))).set 3 (.int .i64 (smallN (x 3)))).set 4 (.int .u64 (x 4 : Int))).set 5 (.float .f64 (x 5))).set 6 (.float .f64 (x 6))).set 7 (.slice Ap np cp)).set 8 (.slice As ns cs))).cell
                refine bodyPost_ret (v := .tuple #[.agg #[.int .i64 (smallN (x 0)), .int .i64 (smallN (x 1)), .int .i64 (smallN (x 2)), .int .i64 (smallN (x 3)), .int .u64 (x 4 : Int), .float .f64 (x 5), .float .f64 (x 6), .slice Ap np cp, .slice As ns cs], .int .i64 0]) (by simp [results, Tryd.results41, go_sem, hF]) rfl ?_
                rw [show R = (du, 0) from HUA.out.symm]
                have hkr : Kept [w.heap.size] w9 (((((((((w9.setCell ⟨w.heap.size, 0, none⟩ (.int .i64 (smallN (x 0)))).setCell ⟨w.heap.size, 1, none⟩ (.int .i64 (smallN (x 1)))).setCell ⟨w.heap.size, 2, none⟩ (.int .i64 (smallN (x 2)))).setCell ⟨w.heap.size, 3, none⟩ (.int .i64 (smallN (x 3)))).setCell ⟨w.heap.size, 4, none⟩ (.int .u64 (x 4 : Int))).setCell ⟨w.heap.size, 5, none⟩ (.float .f64 (x 5))).setCell ⟨w.heap.size, 6, none⟩ (.float .f64 (x 6))).setCell ⟨w.heap.size, 7, none⟩ (.slice Ap np cp)).setCell ⟨w.heap.size, 8, none⟩ (.slice As ns cs)) := ((((((((((Kept.refl _ _).setCell (p := ⟨w.heap.size, 0, none⟩) (.inl (by simp)) (.int .i64 (smallN (x 0)))).setCell (p := ⟨w.heap.size, 1, none⟩) (.inl (by simp)) (.int .i64 (smallN (x 1)))).setCell (p := ⟨w.heap.size, 2, none⟩) (.inl (by simp)) (.int .i64 (smallN (x 2)))).setCell (p := ⟨w.heap.size, 3, none⟩) (.inl (by simp)) (.int .i64 (smallN (x 3)))).setCell (p := ⟨w.heap.size, 4, none⟩) (.inl (by simp)) (.int .u64 (x 4 : Int))).setCell (p := ⟨w.heap.size, 5, none⟩) (.inl (by simp)) (.float .f64 (x 5))).setCell (p := ⟨w.heap.size, 6, none⟩) (.inl (by simp)) (.float .f64 (x 6))).setCell (p := ⟨w.heap.size, 7, none⟩) (.inl (by simp)) (.slice Ap np cp)).setCell (p := ⟨w.heap.size, 8, none⟩) (.inl (by simp)) (.slice As ns cs))
                refine ⟨Ap, np, cp, As, ns, cs, by rw [HUC.out], ?_, (((((((((HK9.out.setCell (p := ⟨w.heap.size, 0, none⟩) (.inr (Nat.le_refl _)) (.int .i64 (smallN (x 0)))).setCell (p := ⟨w.heap.size, 1, none⟩) (.inr (Nat.le_refl _)) (.int .i64 (smallN (x 1)))).setCell (p := ⟨w.heap.size, 2, none⟩) (.inr (Nat.le_refl _)) (.int .i64 (smallN (x 2)))).setCell (p := ⟨w.heap.size, 3, none⟩) (.inr (Nat.le_refl _)) (.int .i64 (smallN (x 3)))).setCell (p := ⟨w.heap.size, 4, none⟩) (.inr (Nat.le_refl _)) (.int .u64 (x 4 : Int))).setCell (p := ⟨w.heap.size, 5, none⟩) (.inr (Nat.le_refl _)) (.float .f64 (x 5))).setCell (p := ⟨w.heap.size, 6, none⟩) (.inr (Nat.le_refl _)) (.float .f64 (x 6))).setCell (p := ⟨w.heap.size, 7, none⟩) (.inr (Nat.le_refl _)) (.slice Ap np cp)).setCell (p := ⟨w.heap.size, 8, none⟩) (.inr (Nat.le_refl _)) (.slice As ns cs))⟩
                have hq1 := HRP9.out.kept hkr (by simp; omega)
                have hq2 := HRS9.out.kept hkr (by simp; omega)
                exact ⟨by have := hq1.reads; rw [HDP.out]; exact this, by have := hq2.reads; rw [HDS.out]; exact this⟩
              · have bC : (ck != 0) = true := by simp [hck]
                rw [if_pos hck] at HUA
                clear hck
                go_wp2_with fail
                have hF := ((((((((((HB9.out.set 0 (.int .i64 0)).set 1 (.int .i64 0)).set 2 (.int .i64 0)).set 3 (.int .i64 0)).set 4 (.int .u64 0)).set 5 (.float .f64 0)).set 6 (.float .f64 0)).set 7 (.slice none 0 0)).set 8 (.slice none 0 0))).cell
                refine bodyPost_ret (v := .tuple #[.agg #[.int .i64 0, .int .i64 0, .int .i64 0, .int .i64 0, .int .u64 0, .float .f64 0, .float .f64 0, .slice none 0 0, .slice none 0 0], .int .i64 ck]) (by simp [results, Tryd.results41, go_sem, hF]) rfl ?_
                rw [show R = (Du.zero, ck) from HUA.out.symm]
                exact ⟨none, 0, 0, none, 0, 0, rfl, ⟨ReadsPP.none_ _, ReadsS.none_ _⟩, (((((((((HK9.out.setCell (p := ⟨w.heap.size, 0, none⟩) (.inr (Nat.le_refl _)) (.int .i64 0)).setCell (p := ⟨w.heap.size, 1, none⟩) (.inr (Nat.le_refl _)) (.int .i64 0)).setCell (p := ⟨w.heap.size, 2, none⟩) (.inr (Nat.le_refl _)) (.int .i64 0)).setCell (p := ⟨w.heap.size, 3, none⟩) (.inr (Nat.le_refl _)) (.int .i64 0)).setCell (p := ⟨w.heap.size, 4, none⟩) (.inr (Nat.le_refl _)) (.int .u64 0)).setCell (p := ⟨w.heap.size, 5, none⟩) (.inr (Nat.le_refl _)) (.float .f64 0)).setCell (p := ⟨w.heap.size, 6, none⟩) (.inr (Nat.le_refl _)) (.float .f64 0)).setCell (p := ⟨w.heap.size, 7, none⟩) (.inr (Nat.le_refl _)) (.slice none 0 0)).setCell (p := ⟨w.heap.size, 8, none⟩) (.inr (Nat.le_refl _)) (.slice none 0 0))⟩
          · have bD : (dn != 0) = true := by simp [hdn]
            rw [if_pos hdn] at HUA
            clear hdn
            go_wp2_with fail
            have hF := ((((((((((HB7.out.set 0 (.int .i64 0)).set 1 (.int .i64 0)).set 2 (.int .i64 0)).set 3 (.int .i64 0)).set 4 (.int .u64 0)).set 5 (.float .f64 0)).set 6 (.float .f64 0)).set 7 (.slice none 0 0)).set 8 (.slice none 0 0))).cell
            refine bodyPost_ret (v := .tuple #[.agg #[.int .i64 0, .int .i64 0, .int .i64 0, .int .i64 0, .int .u64 0, .float .f64 0, .float .f64 0, .slice none 0 0, .slice none 0 0], .int .i64 dn]) (by simp [results, Tryd.results41, go_sem, hF]) rfl ?_
            rw [show R = (Du.zero, dn) from HUA.out.symm]
            exact ⟨none, 0, 0, none, 0, 0, rfl, ⟨ReadsPP.none_ _, ReadsS.none_ _⟩, (((((((((HK7.out.setCell (p := ⟨w.heap.size, 0, none⟩) (.inr (Nat.le_refl _)) (.int .i64 0)).setCell (p := ⟨w.heap.size, 1, none⟩) (.inr (Nat.le_refl _)) (.int .i64 0)).setCell (p := ⟨w.heap.size, 2, none⟩) (.inr (Nat.le_refl _)) (.int .i64 0)).setCell (p := ⟨w.heap.size, 3, none⟩) (.inr (Nat.le_refl _)) (.int .i64 0)).setCell (p := ⟨w.heap.size, 4, none⟩) (.inr (Nat.le_refl _)) (.int .u64 0)).setCell (p := ⟨w.heap.size, 5, none⟩) (.inr (Nat.le_refl _)) (.float .f64 0)).setCell (p := ⟨w.heap.size, 6, none⟩) (.inr (Nat.le_refl _)) (.float .f64 0)).setCell (p := ⟨w.heap.size, 7, none⟩) (.inr (Nat.le_refl _)) (.slice none 0 0)).setCell (p := ⟨w.heap.size, 8, none⟩) (.inr (Nat.le_refl _)) (.slice none 0 0))⟩
        · have bT : (eT != 0) = true := by simp [hT]
          rw [if_pos hT] at HUA
          go_wp2_with fail
          clear hd6 hdf6 hdl6 HD6
          generalize w6.setCell ⟨dx, 8, none⟩ (.slice As ns cs) = w7 at *
          have hF := ((((((((((HB7.out.set 0 (.int .i64 0)).set 1 (.int .i64 0)).set 2 (.int .i64 0)).set 3 (.int .i64 0)).set 4 (.int .u64 0)).set 5 (.float .f64 0)).set 6 (.float .f64 0)).set 7 (.slice none 0 0)).set 8 (.slice none 0 0))).cell
          refine bodyPost_ret (v := .tuple #[.agg #[.int .i64 0, .int .i64 0, .int .i64 0, .int .i64 0, .int .u64 0, .float .f64 0, .float .f64 0, .slice none 0 0, .slice none 0 0], .int .i64 eT]) (by simp [results, Tryd.results41, go_sem, hF]) rfl ?_
          rw [show R = (Du.zero, eT) from HUA.out.symm]
          exact ⟨none, 0, 0, none, 0, 0, rfl, ⟨ReadsPP.none_ _, ReadsS.none_ _⟩, (((((((((HK7.out.setCell (p := ⟨w.heap.size, 0, none⟩) (.inr (Nat.le_refl _)) (.int .i64 0)).setCell (p := ⟨w.heap.size, 1, none⟩) (.inr (Nat.le_refl _)) (.int .i64 0)).setCell (p := ⟨w.heap.size, 2, none⟩) (.inr (Nat.le_refl _)) (.int .i64 0)).setCell (p := ⟨w.heap.size, 3, none⟩) (.inr (Nat.le_refl _)) (.int .i64 0)).setCell (p := ⟨w.heap.size, 4, none⟩) (.inr (Nat.le_refl _)) (.int .u64 0)).setCell (p := ⟨w.heap.size, 5, none⟩) (.inr (Nat.le_refl _)) (.float .f64 0)).setCell (p := ⟨w.heap.size, 6, none⟩) (.inr (Nat.le_refl _)) (.float .f64 0)).setCell (p := ⟨w.heap.size, 7, none⟩) (.inr (Nat.le_refl _)) (.slice none 0 0)).setCell (p := ⟨w.heap.size, 8, none⟩) (.inr (Nat.le_refl _)) (.slice none 0 0))⟩
      · have bP : (eP != 0) = true := by simp [hP]
        have HUX := Lib.hid HU.out
        rw [if_pos hP] at HUX
        have hb5 := HB5.out.cell
        have hbf5 := HB5.out.frozen
        have hbl5 := HB5.out.lt
        go_wp2_with fail
        clear hd4 hdf4 hdl4 HD4
        generalize w4.setCell ⟨dx, 7, none⟩ (.slice Ap np cp) = w5 at *
        have hF := ((((((((((HB5.out.set 0 (.int .i64 0)).set 1 (.int .i64 0)).set 2 (.int .i64 0)).set 3 (.int .i64 0)).set 4 (.int .u64 0)).set 5 (.float .f64 0)).set 6 (.float .f64 0)).set 7 (.slice none 0 0)).set 8 (.slice none 0 0))).cell
        refine bodyPost_ret (v := .tuple #[.agg #[.int .i64 0, .int .i64 0, .int .i64 0, .int .i64 0, .int .u64 0, .float .f64 0, .float .f64 0, .slice none 0 0, .slice none 0 0], .int .i64 eP]) (by simp [results, Tryd.results41, go_sem, hF]) rfl ?_
        rw [show R = (Du.zero, eP) from HUX.out.symm]
        exact ⟨none, 0, 0, none, 0, 0, rfl, ⟨ReadsPP.none_ _, ReadsS.none_ _⟩, (((((((((HK5.out.setCell (p := ⟨w.heap.size, 0, none⟩) (.inr (Nat.le_refl _)) (.int .i64 0)).setCell (p := ⟨w.heap.size, 1, none⟩) (.inr (Nat.le_refl _)) (.int .i64 0)).setCell (p := ⟨w.heap.size, 2, none⟩) (.inr (Nat.le_refl _)) (.int .i64 0)).setCell (p := ⟨w.heap.size, 3, none⟩) (.inr (Nat.le_refl _)) (.int .i64 0)).setCell (p := ⟨w.heap.size, 4, none⟩) (.inr (Nat.le_refl _)) (.int .u64 0)).setCell (p := ⟨w.heap.size, 5, none⟩) (.inr (Nat.le_refl _)) (.float .f64 0)).setCell (p := ⟨w.heap.size, 6, none⟩) (.inr (Nat.le_refl _)) (.float .f64 0)).setCell (p := ⟨w.heap.size, 7, none⟩) (.inr (Nat.le_refl _)) (.slice none 0 0)).setCell (p := ⟨w.heap.size, 8, none⟩) (.inr (Nat.le_refl _)) (.slice none 0 0))⟩

end Go.Proofs.YtmhlmoojmdfnfaaDoor

/- The document's count of a duty; what readers do behind an error. -/
namespace Go.Proofs.YtmhlmoojmdfnfaaDoor
open Go.RowKit

theorem numS_stays {s : RS} (h : s.1 ≠ 0) : numS s = (s, 0) := by
  have ht : ∀ n, takeS s n = (s, none) := fun n => by unfold takeS; rw [if_pos h]
  have hb : byteS s = (s, 0) := by unfold byteS; rw [ht]
  unfold numS
  rw [hb]
  simp only [ht]
  simp
theorem countU_stays {s : RS} (h : s.1 ≠ 0) : countU s = (s, 0, s.1) := by
  unfold countU
  rw [numS_stays h, if_pos h]
theorem countU_ok {s : RS} (h : (countU s).2.2 = 0) : (countU s).1.1 = 0 := by
  unfold countU at h ⊢
  split at h
  · rename_i h1; exact absurd h h1
  · rename_i h1
    rw [if_neg h1]
    split at h
    · simp at h
    · rename_i h2
      rw [if_neg h2]
      simpa using h1
theorem countU_bad {s : RS} (h : (countU s).2.2 ≠ 0) : (countU s).2.1 = 0 := by
  unfold countU at h ⊢
  split
  · rfl
  · rename_i h1
    rw [if_neg h1] at h
    split
    · rfl
    · rename_i h2
      rw [if_neg h2] at h
      exact absurd rfl h
theorem getPk_ok : ∀ (n : Nat) (s : RS) (acc : List Dd), s.1 = 0 → (getPk n s acc).2.2 = 0 → (getPk n s acc).1.1 = 0
  | 0, _, _, h, _ => h
  | n + 1, s, acc, _, h2 => by
    rw [getPk] at h2 ⊢
    split at h2
    · rename_i h3; exact absurd h2 h3
    · rename_i h3
      rw [if_neg h3]
      exact getPk_ok n _ _ (getD_ok (by simpa using h3)) h2
theorem getPr_ok {s : RS} (h : (getPr s).2.2 = 0) : (getPr s).1.1 = 0 := by
  unfold getPr at h ⊢
  split at h
  · rename_i h1; exact absurd h h1
  · rename_i h1
    rw [if_neg h1]
    split at h
    · simp at h
    · rename_i h2
      rw [if_neg h2]
      exact getPk_ok _ _ _ (by simpa using h1) h
theorem startU_stays {s : RS} (h : s.1 ≠ 0) : (startU s).1 = s := by
  unfold startU
  simp only [numS_stays h]
theorem startsK_stays : ∀ (n : Nat) (s : RS) (acc : List St) (ov : Bool), s.1 ≠ 0 → (startsK n s acc ov).1 = s
  | 0, _, _, _, _ => rfl
  | n + 1, s, acc, ov, h => by
    rw [startsK]
    have h1 := startU_stays h
    rw [startsK_stays n _ _ _ (by rw [h1]; exact h), h1]
theorem startsK_or : ∀ (n : Nat) (s : RS) (acc : List St) (a b : Bool), startsK n s acc (a || b) = ((startsK n s acc b).1, (startsK n s acc b).2.1, a || (startsK n s acc b).2.2)
  | 0, _, _, _, _ => rfl
  | n + 1, s, acc, a, b => by
    rw [startsK, startsK, Bool.or_assoc, startsK_or n]

/-- The document's reader behind a count. -/
def refSC (x : RS × Nat × Int) : RS := if x.2.2 = 0 then x.1 else (x.2.2, [])
theorem u64_i64 (n : Nat) (h : n ≤ 1000000) : wrap64 (n : Int) = (n : Int) := by
  simp only [wrap64]; omega

set_option maxHeartbeats 1600000 in
set_option maxRecDepth 100000 in
theorem refCount9 (b0 : Nat) (A : Option Addr) (m c : Nat) (s : RS) (w : World) (h : IsD w b0 A m c s) (hb0 : b0 ≤ w.heap.size) :
    Calls Tryd.prog 98 #[.agg #[.slice A m c, .int .i64 s.1]] w (Gives w b0 (refSC (countU s)) (.int .i64 ((countU s).2.1 : Nat))) := by
  have HB := Lib.hid (fun w' (hk : Kept [] w w') => refGetNum b0 A m c s w' (h.old hk) (by have := hk.size; omega))
  have HU : Hid (countU s = if (numS s).1.1 ≠ 0 then ((numS s).1, 0, (numS s).1.1) else if 64 < (numS s).2 then ((numS s).1, 0, 4) else ((numS s).1, (numS s).2, 0)) := rfl
  have hz := numS_err s
  generalize (numS s).2 = N at *
  generalize (numS s).1 = s1 at *
  clear h
  by_cases h1 : s1.1 = 0
  · have hb : (s1.1 == 0) = true := beq_iff_eq.2 h1
    rw [if_neg (by simp [h1])] at HU
    by_cases h2 : 64 < N
    · rw [if_pos h2] at HU
      have HE := Lib.hid (show refSC (countU s) = (4, []) from by rw [HU.out]; rfl)
      have HE2 := Lib.hid (show (countU s).2.1 = 0 from by rw [HU.out])
      have d1 : decide ((64 : Int) < (N : Int)) = true := by simp; omega
      clear h1 h2 HU hz
      go_enter Tryd.func98, Tryd.ntmps98
      go_wp2_with fail
      refine (HB.out _ (((Kept.refl [] w).alloc _).alloc _)).mono ?_
      rintro e w1 ⟨A1, m1, c1, rfl, hD1, hk1⟩
      have HK1 := Lib.hid (((Kept.refl [] w).alloc _).alloc _ |>.trans hk1)
      have HX1 : Hid (Blk w1 w.heap.size 62 #[.slice A m c, .int .i64 s.1]) := ((Blk.new w _ _).alloc _).kept hk1 (by simp)
      have HY1 : Hid (Blk w1 (w.heap.size + 1) 62 #[.slice none 0 0, .int .i64 0]) := (Blk.newAt (w := w.alloc _) (by simp) _ _).kept hk1 (by simp)
      have hx1 := HX1.out.cell
      have hxf1 := HX1.out.frozen
      have hxl1 := HX1.out.lt
      have hy1 := HY1.out.cell
      have hyf1 := HY1.out.frozen
      have hyl1 := HY1.out.lt
      clear hD1 hk1
      go_wp2_with fail
      refine bodyPost_ret (v := .tuple #[.agg #[.slice none 0 0, .int .i64 4], .int .i64 0]) (by simp [results, Tryd.results98, go_sem, hy1]) rfl ?_
      rw [HE.out, HE2.out]
      exact ⟨none, 0, 0, rfl, isD_err _ _ (by simp), (HK1.out.set2 (Nat.le_refl _) _ _).set2 (by omega) _ _⟩
    · rw [if_neg h2] at HU
      have HE := Lib.hid (show refSC (countU s) = s1 from by rw [HU.out]; rfl)
      have HE2 := Lib.hid (show (countU s).2.1 = N from by rw [HU.out])
      have d1 : decide ((64 : Int) < (N : Int)) = false := by simp; omega
      have hwn := u64_i64 N (by omega)
      clear h1 HU hz
      go_enter Tryd.func98, Tryd.ntmps98
      go_wp2_with fail
      refine (HB.out _ (((Kept.refl [] w).alloc _).alloc _)).mono ?_
      rintro e w1 ⟨A1, m1, c1, rfl, hD1, hk1⟩
      have HD1 := Lib.hid hD1
      have HK1 := Lib.hid (((Kept.refl [] w).alloc _).alloc _ |>.trans hk1)
      have HX1 : Hid (Blk w1 w.heap.size 62 #[.slice A m c, .int .i64 s.1]) := ((Blk.new w _ _).alloc _).kept hk1 (by simp)
      have HY1 : Hid (Blk w1 (w.heap.size + 1) 62 #[.slice none 0 0, .int .i64 0]) := (Blk.newAt (w := w.alloc _) (by simp) _ _).kept hk1 (by simp)
      have hx1 := HX1.out.cell
      have hxf1 := HX1.out.frozen
      have hxl1 := HX1.out.lt
      have hy1 := HY1.out.cell
      have hyf1 := HY1.out.frozen
      have hyl1 := HY1.out.lt
      clear hD1 hk1
      go_wp2_with fail
      refine bodyPost_ret (v := .tuple #[.agg #[.slice A1 m1 c1, .int .i64 s1.1], .int .i64 N]) (by simp [results, Tryd.results98, go_sem, hy1]) rfl ?_
      rw [HE.out, HE2.out]
      exact ⟨A1, m1, c1, rfl, IsD.kept (G := [w.heap.size, w.heap.size + 1]) HD1.out (by (repeat (first | (with_reducible exact Kept.refl _ _) | (with_reducible refine Kept.setCell ?_ ?_ _) | (exact .inl (by simp))))) (by simp; omega), (HK1.out.set2 (Nat.le_refl _) _ _).set2 (by omega) _ _⟩
  · have hb : (s1.1 == 0) = false := beq_eq_false_iff_ne.2 h1
    rw [if_pos h1] at HU
    obtain rfl := hz h1
    have HE := Lib.hid (show refSC (countU s) = (s1.1, []) from by rw [HU.out, refSC, if_neg h1])
    have HE2 := Lib.hid (show (countU s).2.1 = 0 from by rw [HU.out])
    have H1 := Lib.hid h1
    clear h1 HU hz
    go_enter Tryd.func98, Tryd.ntmps98
    go_wp2_with fail
    refine (HB.out _ (((Kept.refl [] w).alloc _).alloc _)).mono ?_
    rintro e w1 ⟨A1, m1, c1, rfl, hD1, hk1⟩
    have HD1 := Lib.hid hD1
    have HK1 := Lib.hid (((Kept.refl [] w).alloc _).alloc _ |>.trans hk1)
    have HX1 : Hid (Blk w1 w.heap.size 62 #[.slice A m c, .int .i64 s.1]) := ((Blk.new w _ _).alloc _).kept hk1 (by simp)
    have HY1 : Hid (Blk w1 (w.heap.size + 1) 62 #[.slice none 0 0, .int .i64 0]) := (Blk.newAt (w := w.alloc _) (by simp) _ _).kept hk1 (by simp)
    have hx1 := HX1.out.cell
    have hxf1 := HX1.out.frozen
    have hxl1 := HX1.out.lt
    have hy1 := HY1.out.cell
    have hyf1 := HY1.out.frozen
    have hyl1 := HY1.out.lt
    clear hD1 hk1
    go_wp2_with fail
    refine bodyPost_ret (v := .tuple #[.agg #[.slice A1 m1 c1, .int .i64 s1.1], .int .i64 0]) (by simp [results, Tryd.results98, go_sem, hy1]) rfl ?_
    rw [HE.out, HE2.out]
    exact ⟨A1, m1, c1, rfl, (IsD.kept (G := [w.heap.size, w.heap.size + 1]) HD1.out (by (repeat (first | (with_reducible exact Kept.refl _ _) | (with_reducible refine Kept.setCell ?_ ?_ _) | (exact .inl (by simp))))) (by simp; omega)).err rfl H1.out, (HK1.out.set2 (Nat.le_refl _) _ _).set2 (by omega) _ _⟩

end Go.Proofs.YtmhlmoojmdfnfaaDoor

