/- head: a duty's first line, walked; The lines of a text are what the library's Split by line ends leaves of the text without its last line end; strings.Split by line ends and strings.TrimSuffix of one, as the shelf has them; Package bosunref01: Row, Set, Put: a set as a row of truths; Package duty: small functions: sets.All, numbers in a range, powers of two; the document's. -/
import Derived.Test.YtladfdpcdjjifaaGreatDoorDutyA
import Derived.Laws.Cover3
import Derived.Test.YtladfdpcdjjifaaGreatDoorDeedK
import Derived.Test.YtladfdpcdjjifaaGreatDoorNumsA
import Derived.Test.YtladfdpcdjjifaaGreatDoorNumsWords
import Derived.Test.YtladfdpcdjjifaaGreatDoorProg
import Derived.Test.YtladfdpcdjjifaaGreatDoorMem
import Derived.Test.YtladfdpcdjjifaaGreatDoorDeedC
import Derived.Laws.ResultCell
import Derived.Laws.BitsAllLaws

/- head: a duty's first line, walked. -/
namespace Go.Proofs.YtladfdpcdjjifaaGreatDoor
open Go.RowKit

attribute [local go_sem] run_store_float
set_option maxHeartbeats 6400000 in
set_option maxRecDepth 100000 in
theorem head_ok (b o c : Nat) (t : List (List UInt8)) (w : World) (hr : Reads w 1 (some ⟨b, o, none⟩) (t.length + 1) (strV dutyW :: t.map strV)) (hc : t.length + 1 ≤ c) (hl : t.length ≤ 100000) (hx : ∀ x ∈ t, x.length ≤ 100000) (x : List Nat) (hs : numbU t 7 5 = some x) :
    Calls Tryz.prog 10 #[.slice (some ⟨b, o, none⟩) (t.length + 1) c] w fun e w' => e = .returned (.tuple #[.agg (uC (ofN x) none 0 0 none 0 0), .int .i64 0]) ∧ Kept [] w w' := by
  have hbl := hr.addr (by omega) (by omega)
  obtain ⟨b', o', hbo, hbl, hcell⟩ := hbl
  injection hbo with hbo
  injection hbo with e1 e2
  subst e1 e2
  have hc0 := hcell 0 (strV dutyW) (by simp)
  rw [Nat.add_zero] at hc0
  unfold dutyW at hc0
  have hb0 : ((t.length : Int) + 1 == 0) = false := beq_eq_false_iff_ne.2 (by omega)
  have hi0 : (0 : Int) < (t.length : Int) + 1 := by omega
  have HN := Lib.hid (fun A n c w h => unumbered_any A n c t 7 2 7 5 w h hl hx (.inl ⟨rfl, rfl, rfl, rfl⟩))
  have hsl := run_cut_lo (P := Tryz.prog) 34 9 (.string ByteArray.empty) 16 Tryz.underlying34 Tryz.info9 (some ⟨b, o, none⟩) (t.length + 1) c .i64 1 1 rfl (by omega)
  simp only [Nat.add_sub_cancel] at hsl
  have hr2 : Reads w 1 (cutA (some ⟨b, o, none⟩) 1 c) t.length (t.map strV) := by
    have h1 := hr.cutA (k := 1) (cap := c) (by omega) hc
    simpa using h1
  have HR2 := Lib.hid hr2
  clear hr2 hcell hx hr
  have h3 := numbU_len hs
  have h0 := numbU_lt hs
  rw [hs] at HN
  clear hs
  obtain ⟨x0, x1, x2, x3, x4, x5, x6, rfl⟩ : ∃ x0 x1 x2 x3 x4 x5 x6, x = [x0, x1, x2, x3, x4, x5, x6] := by
    match x, h3 with
    | [x0, x1, x2, x3, x4, x5, x6], _ => exact ⟨x0, x1, x2, x3, x4, x5, x6, rfl⟩
  have HOF := Lib.hid (fun w => of_any x0 x1 x2 x3 x4 x5 x6 w (h0 0) (h0 1) (h0 2) (h0 3))
  simp only [ofN, List.getD_cons_zero, List.getD_cons_succ, uC] at HOF ⊢
  generalize smallN x0 = y0 at *
  generalize smallN x1 = y1 at *
  generalize smallN x2 = y2 at *
  generalize smallN x3 = y3 at *
  go_enter Tryz.func10, Tryz.ntmps10
  go_wp2_with fail
  refine (HN.out _ _ _ _ (HR2.out.old ((Kept.refl _ _).alloc _))).mono ?_
  rintro e w1 ⟨A', n', c', rfl, hrow, hk⟩
  have HB := Lib.hid ((Blk.new w 27 #[.int .i64 0, .int .i64 0, .int .i64 0, .int .i64 0, .int .u64 0, .float .f64 0, .float .f64 0, .slice none 0 0, .slice none 0 0]).kept hk (by simp))
  have HK := Lib.hid (((Kept.refl [] w).alloc (.cells #[.int .i64 0, .int .i64 0, .int .i64 0, .int .i64 0, .int .u64 0, .float .f64 0, .float .f64 0, .slice none 0 0, .slice none 0 0] 27)).trans hk)
  have hb2 := HB.out.cell
  have hbf := HB.out.frozen
  have hbl := HB.out.lt
  have hrow := hrow _ rfl
  obtain rfl : n' = 7 := hrow.len
  obtain ⟨bn, on, rfl, hbb, hcn⟩ := hrow.reads.addr (by omega) (by omega)
  have hcx0 : w1.cell? ⟨bn, on, none⟩ = some (.int .u64 x0) := hcn 0 _ rfl
  have hcx1 : w1.cell? ⟨bn, on + 1, none⟩ = some (.int .u64 x1) := hcn 1 _ rfl
  have hcx2 : w1.cell? ⟨bn, on + 2, none⟩ = some (.int .u64 x2) := hcn 2 _ rfl
  have hcx3 : w1.cell? ⟨bn, on + 3, none⟩ = some (.int .u64 x3) := hcn 3 _ rfl
  have hcx4 : w1.cell? ⟨bn, on + 4, none⟩ = some (.int .u64 x4) := hcn 4 _ rfl
  have hcx5 : w1.cell? ⟨bn, on + 5, none⟩ = some (.int .u64 x5) := hcn 5 _ rfl
  have hcx6 : w1.cell? ⟨bn, on + 6, none⟩ = some (.int .u64 x6) := hcn 6 _ rfl
  have harr := fun W => run_arrayAt (P := Tryz.prog) (w := W) 44 22 7 (some ⟨bn, on, none⟩) 7 c' (by kernel_rfl) (by omega)
  clear hk hrow hcn
  go_wp2_with fail
  refine (HOF.out _).mono ?_
  rintro e w2 ⟨rfl, hk2⟩
  have HB2 := Lib.hid (HB.out.kept hk2 (by simp))
  have HK2 := Lib.hid (HK.out.trans hk2)
  have hb22 := HB2.out.cell
  have hbf2 := HB2.out.frozen
  have hbl2 := HB2.out.lt
  clear hk2 hcx0 hcx1 hcx2 hcx3 hcx4 hcx5 hcx6 harr hb2 hbf hbl
  go_wp2_with fail
  have hF := (put9_blk HB2.out (.int .i64 y0) (.int .i64 y1) (.int .i64 y2) (.int .i64 y3) (.int .u64 (x4 : Int)) (.float .f64 x5) (.float .f64 x6) (.slice none 0 0) (.slice none 0 0)).cell
  refine bodyPost_ret (v := .tuple #[.agg #[.int .i64 y0, .int .i64 y1, .int .i64 y2, .int .i64 y3, .int .u64 (x4 : Int), .float .f64 x5, .float .f64 x6, .slice none 0 0, .slice none 0 0], .int .i64 0]) (by simp [results, Tryz.results10, go_sem, hF]) rfl ?_
  exact ⟨rfl, put9_kept HK2.out (Nat.le_refl _) (.int .i64 y0) (.int .i64 y1) (.int .i64 y2) (.int .i64 y3) (.int .u64 (x4 : Int)) (.float .f64 x5) (.float .f64 x6) (.slice none 0 0) (.slice none 0 0)⟩

set_option maxHeartbeats 3200000 in
set_option maxRecDepth 100000 in
theorem head_form (b o c : Nat) (t : List (List UInt8)) (w : World) (hr : Reads w 1 (some ⟨b, o, none⟩) (t.length + 1) (strV dutyW :: t.map strV)) (hc : t.length + 1 ≤ c) (hl : t.length ≤ 100000) (hx : ∀ x ∈ t, x.length ≤ 100000) (hs : numbU t 7 5 = none) :
    Calls Tryz.prog 10 #[.slice (some ⟨b, o, none⟩) (t.length + 1) c] w fun e w' => e = .returned (.tuple #[.agg (uC Du.zero none 0 0 none 0 0), .int .i64 3]) ∧ Kept [] w w' := by
  have hbl := hr.addr (by omega) (by omega)
  obtain ⟨b', o', hbo, hbl, hcell⟩ := hbl
  injection hbo with hbo
  injection hbo with e1 e2
  subst e1 e2
  have hc0 := hcell 0 (strV dutyW) (by simp)
  rw [Nat.add_zero] at hc0
  unfold dutyW at hc0
  have hb0 : ((t.length : Int) + 1 == 0) = false := beq_eq_false_iff_ne.2 (by omega)
  have hi0 : (0 : Int) < (t.length : Int) + 1 := by omega
  have HN := Lib.hid (fun A n c w h => unumbered_any A n c t 7 2 7 5 w h hl hx (.inl ⟨rfl, rfl, rfl, rfl⟩))
  have hsl := run_cut_lo (P := Tryz.prog) 34 9 (.string ByteArray.empty) 16 Tryz.underlying34 Tryz.info9 (some ⟨b, o, none⟩) (t.length + 1) c .i64 1 1 rfl (by omega)
  simp only [Nat.add_sub_cancel] at hsl
  have hr2 : Reads w 1 (cutA (some ⟨b, o, none⟩) 1 c) t.length (t.map strV) := by
    have h1 := hr.cutA (k := 1) (cap := c) (by omega) hc
    simpa using h1
  have HR2 := Lib.hid hr2
  rw [hs] at HN
  clear hr2 hcell hx hr hs
  simp only [Du.zero, uC]
  go_enter Tryz.func10, Tryz.ntmps10
  go_wp2_with fail
  refine (HN.out _ _ _ _ (HR2.out.old ((Kept.refl _ _).alloc _))).mono ?_
  rintro e w1 ⟨A', n', c', rfl, _, hk⟩
  have HB := Lib.hid ((Blk.new w 27 #[.int .i64 0, .int .i64 0, .int .i64 0, .int .i64 0, .int .u64 0, .float .f64 0, .float .f64 0, .slice none 0 0, .slice none 0 0]).kept hk (by simp))
  have HK := Lib.hid (((Kept.refl [] w).alloc (.cells #[.int .i64 0, .int .i64 0, .int .i64 0, .int .i64 0, .int .u64 0, .float .f64 0, .float .f64 0, .slice none 0 0, .slice none 0 0] 27)).trans hk)
  have hb2 := HB.out.cell
  have hbf := HB.out.frozen
  have hbl := HB.out.lt
  clear hk
  go_wp2_with fail
  have hF := (put9_blk HB.out (.int .i64 0) (.int .i64 0) (.int .i64 0) (.int .i64 0) (.int .u64 0) (.float .f64 0) (.float .f64 0) (.slice none 0 0) (.slice none 0 0)).cell
  refine bodyPost_ret (v := .tuple #[.agg #[.int .i64 0, .int .i64 0, .int .i64 0, .int .i64 0, .int .u64 0, .float .f64 0, .float .f64 0, .slice none 0 0, .slice none 0 0], .int .i64 3]) (by simp [results, Tryz.results10, go_sem, hF]) rfl ?_
  exact ⟨rfl, put9_kept HK.out (Nat.le_refl _) (.int .i64 0) (.int .i64 0) (.int .i64 0) (.int .i64 0) (.int .u64 0) (.float .f64 0) (.float .f64 0) (.slice none 0 0) (.slice none 0 0)⟩

set_option maxHeartbeats 3200000 in
set_option maxRecDepth 100000 in
theorem head_word (b o c : Nat) (a : List UInt8) (n : Nat) (w : World) (hc0 : w.cell? ⟨b, o, none⟩ = some (strV a)) (hn : n ≤ 100000) (ha : a ≠ dutyW) :
    Calls Tryz.prog 10 #[.slice (some ⟨b, o, none⟩) (n + 1) c] w fun e w' => e = .returned (.tuple #[.agg (uC Du.zero none 0 0 none 0 0), .int .i64 15]) ∧ Kept [] w w' := by
  have hb : (a == [100, 117, 116, 121]) = false := beq_eq_false_iff_ne.2 ha
  have hb0 : ((n : Int) + 1 == 0) = false := beq_eq_false_iff_ne.2 (by omega)
  have hi0 : (0 : Int) < (n : Int) + 1 := by omega
  have hbl := World.block_lt_of_cell? w _ hc0
  simp only at hbl
  clear ha
  simp only [Du.zero, uC]
  go_enter Tryz.func10, Tryz.ntmps10
  go_wp2_with fail
  have hF := (Blk.new w 27 #[.int .i64 0, .int .i64 0, .int .i64 0, .int .i64 0, .int .u64 0, .float .f64 0, .float .f64 0, .slice none 0 0, .slice none 0 0]).cell
  refine bodyPost_ret (v := .tuple #[.agg #[.int .i64 0, .int .i64 0, .int .i64 0, .int .i64 0, .int .u64 0, .float .f64 0, .float .f64 0, .slice none 0 0, .slice none 0 0], .int .i64 15]) (by simp [results, Tryz.results10, go_sem, hF]) rfl ?_
  exact ⟨rfl, by (repeat (first | (with_reducible exact Kept.refl _ _) | (with_reducible assumption) | (with_reducible refine Kept.alloc ?_ _) | (with_reducible refine Kept.drew ?_) | (with_reducible refine Kept.drewN ?_ _) | (with_reducible refine Kept.setCell ?_ ?_ _) | (exact .inr (Nat.le_refl _)) | (exact .inr (by simp only; omega)) | (exact .inr (by omega))))⟩

set_option maxHeartbeats 3200000 in
set_option maxRecDepth 100000 in
theorem head_nil (A : Option Addr) (c : Nat) (w : World) :
    Calls Tryz.prog 10 #[.slice A 0 c] w fun e w' => e = .returned (.tuple #[.agg (uC Du.zero none 0 0 none 0 0), .int .i64 15]) ∧ Kept [] w w' := by
  simp only [Du.zero, uC]
  go_enter Tryz.func10, Tryz.ntmps10
  go_wp2_with fail
  have hF := (Blk.new w 27 #[.int .i64 0, .int .i64 0, .int .i64 0, .int .i64 0, .int .u64 0, .float .f64 0, .float .f64 0, .slice none 0 0, .slice none 0 0]).cell
  refine bodyPost_ret (v := .tuple #[.agg #[.int .i64 0, .int .i64 0, .int .i64 0, .int .i64 0, .int .u64 0, .float .f64 0, .float .f64 0, .slice none 0 0, .slice none 0 0], .int .i64 15]) (by simp [results, Tryz.results10, go_sem, hF]) rfl ?_
  exact ⟨rfl, by (repeat (first | (with_reducible exact Kept.refl _ _) | (with_reducible assumption) | (with_reducible refine Kept.alloc ?_ _) | (with_reducible refine Kept.drew ?_) | (with_reducible refine Kept.drewN ?_ _) | (with_reducible refine Kept.setCell ?_ ?_ _) | (exact .inr (Nat.le_refl _)) | (exact .inr (by simp only; omega)) | (exact .inr (by omega))))⟩

theorem uhead_any (A : Option Addr) (n c : Nat) (ws : List (List UInt8)) (w : World) (hr : Reads w 1 A n (ws.map strV)) (hc : n ≤ c) (hl : ws.length ≤ 100000) (hx : ∀ x ∈ ws, x.length ≤ 100000) :
    Calls Tryz.prog 10 #[.slice A n c] w fun e w' => e = .returned (.tuple #[.agg (uC (headT ws).1 none 0 0 none 0 0), .int .i64 (headT ws).2]) ∧ Kept [] w w' := by
  obtain rfl : n = ws.length := by have := hr.1; simp at this; omega
  match ws, hr, hc, hl, hx with
  | [], hr, hc, hl, hx => exact head_nil A c w
  | a :: t, hr, hc, hl, hx =>
    simp only [List.length_cons, List.map_cons] at hl hr hc ⊢
    obtain ⟨b, o, rfl, hbl, hcell⟩ := hr.addr (by omega) (by omega)
    have hc0 := hcell 0 (strV a) (by simp)
    rw [Nat.add_zero] at hc0
    by_cases ha : a = dutyW
    · subst ha
      have hx2 : ∀ x ∈ t, x.length ≤ 100000 := fun x h => hx x (by simp [h])
      cases hs : numbU t 7 5 with
      | none => rw [show headT (dutyW :: t) = (Du.zero, 3) by simp [headT, hs]]; exact head_form b o c t w hr hc (by omega) hx2 hs
      | some x => rw [show headT (dutyW :: t) = (ofN x, 0) by simp [headT, hs]]; exact head_ok b o c t w hr hc (by omega) hx2 x hs
    · rw [show headT (a :: t) = (Du.zero, 15) by simp [headT, ha]]
      exact head_word b o c a t.length w hc0 (by omega) ha

end Go.Proofs.YtladfdpcdjjifaaGreatDoor

/- The lines of a text are what the library's Split by line ends leaves of the text without its last line end. -/
namespace Go.Proofs.YtladfdpcdjjifaaGreatDoor
open Go.RowKit

/-- The pieces between line ends. -/
def splitF : List UInt8 → List UInt8 → List (List UInt8)
  | cur, [] => [cur]
  | cur, c :: t => if c = 10 then cur :: splitF [] t else splitF (cur ++ [c]) t
theorem lines_end : ∀ (t cur : List UInt8), linesF cur (t ++ [10]) = splitF cur t
  | [], cur => by simp [linesF, splitF]
  | c :: t, cur => by
    rw [List.cons_append, linesF, splitF]
    split
    · rw [lines_end t []]
    · rw [lines_end t _]
theorem lines_open : ∀ (s cur : List UInt8), s.getLast? ≠ some 10 → cur ++ s ≠ [] → linesF cur s = splitF cur s
  | [], cur, _, hn => by simp at hn; simp [linesF, splitF, hn]
  | c :: t, cur, hl, hn => by
    have ht : t ≠ [] → t.getLast? ≠ some 10 := by
      intro hne; rw [List.getLast?_cons_of_ne_nil hne] at hl; exact hl
    rw [linesF, splitF]
    split
    · rename_i h10
      have hne : t ≠ [] := by rintro rfl; subst h10; simp at hl
      rw [lines_open t [] (ht hne) (by simpa using hne)]
    · by_cases hne : t = []
      · subst hne; simp [linesF, splitF]
      · rw [lines_open t _ (ht hne) (by simp)]
theorem no_nl {s : List UInt8} (h : ∀ j, j ≤ s.length → Lib.occAt s [10] j = false) : ∀ c ∈ s, c ≠ 10 := by
  intro c hc e
  subst e
  obtain ⟨i, hi, he⟩ := List.mem_iff_getElem.1 hc
  have := h i (by omega)
  rw [Lib.occAt_iff_take s [10] i (by simp; omega)] at this
  rw [List.drop_eq_getElem_cons hi, he] at this
  simp at this
theorem splitF_word : ∀ (x cur : List UInt8), (∀ c ∈ x, c ≠ 10) → splitF cur x = [cur ++ x]
  | [], cur, _ => by simp [splitF]
  | c :: t, cur, h => by rw [splitF, if_neg (h c (by simp)), splitF_word t _ (fun y hy => h y (by simp [hy]))]; simp
theorem splitF_line : ∀ (x cur r : List UInt8), (∀ c ∈ x, c ≠ 10) → splitF cur (x ++ 10 :: r) = (cur ++ x) :: splitF [] r
  | [], cur, r, _ => by simp [splitF]
  | c :: t, cur, r, h => by rw [List.cons_append, splitF, if_neg (h c (by simp)), splitF_line t _ r (fun y hy => h y (by simp [hy]))]; simp
theorem splitF_of (n : Nat) : ∀ s : List UInt8, s.length ≤ n → Lib.splitK [10] 0 (Lib.count s [10]) s = splitF [] s := by
  induction n with
  | zero =>
    intro s hs
    have : s = [] := List.eq_nil_of_length_eq_zero (by omega)
    subst this
    decide
  | succ n ih =>
    intro s hs
    rcases Lib.index_spec s [10] with ⟨h1, h2⟩ | ⟨i, h1, h2, h3, h4⟩
    · rw [Lib.count_miss h1]
      unfold Lib.splitK
      rw [splitF_word s [] (no_nl h2)]
      rfl
    · have hroom := Lib.occAt_room h3
      have hi : i < s.length := by
        rcases hroom with h | h
        · simp at h; omega
        · simp at h
      rw [Lib.count_hit (by simp) h1, Nat.add_comm]
      unfold Lib.splitK
      rw [if_neg (by rw [h1]; simp), h1]
      simp only [Int.toNat_natCast, Nat.add_zero, List.length_singleton]
      have hih := ih (s.drop (i + 1)) (by simp; omega)
      have hsi : s[i] = 10 := by
        have := Lib.occAt_head (c := 10) (t := []) rfl h3
        rw [List.getElem?_eq_getElem hi] at this
        injection this
      have hnb : ∀ c ∈ s.take i, c ≠ 10 := by
        intro c hc e
        subst e
        obtain ⟨j, hj, he⟩ := List.mem_iff_getElem.1 hc
        simp at hj
        have := h4 j (by omega)
        rw [Lib.occAt_iff_take s [10] j (by simp; omega)] at this
        simp at he
        rw [List.drop_eq_getElem_cons (show j < s.length by omega), he] at this
        simp at this
      have hsplit : s = s.take i ++ 10 :: s.drop (i + 1) := by
        rw [← hsi, ← List.drop_eq_getElem_cons hi, List.take_append_drop]
      have hw : splitF [] s = s.take i :: splitF [] (s.drop (i + 1)) := by
        have h5 := congrArg (splitF []) hsplit
        rw [h5, splitF_line _ _ _ hnb]
        rfl
      rw [hw, hih]

theorem lines_split (s : List UInt8) (hs : s ≠ []) : Lib.splitK [10] 0 (Lib.count (Lib.trimSuffix s [10]) [10]) (Lib.trimSuffix s [10]) = linesF [] s := by
  rw [splitF_of _ _ (Nat.le_refl _)]
  have hsp : s = s.dropLast ++ [s.getLast hs] := (List.dropLast_concat_getLast hs).symm
  by_cases h10 : s.getLast hs = 10
  · have ht : Lib.trimSuffix s [10] = s.dropLast := by
      have h1 : Lib.hasSuffix s [10] = true := by
        exact List.isSuffixOf_iff_suffix.2 ⟨s.dropLast, by rw [h10] at hsp; exact hsp.symm⟩
      rw [Lib.trimSuffix, if_pos h1, List.dropLast_eq_take]; rfl
    rw [ht]
    rw [h10] at hsp
    conv => rhs; rw [hsp]
    rw [lines_end]
  · have ht : Lib.trimSuffix s [10] = s := by
      have h1 : Lib.hasSuffix s [10] = false := by
        rw [Bool.eq_false_iff]
        intro h
        have h2 := List.isSuffixOf_iff_suffix.1 h
        obtain ⟨t, ht⟩ := h2
        exact h10 (by simp [← ht])
      rw [Lib.trimSuffix, h1]; rfl
    rw [ht, lines_open s [] (by rw [List.getLast?_eq_some_getLast hs]; intro h; injection h with h; exact h10 h) (by simpa using hs)]

end Go.Proofs.YtladfdpcdjjifaaGreatDoor

/- strings.Split by line ends and strings.TrimSuffix of one, as the shelf has them. -/
namespace Go.Proofs.YtladfdpcdjjifaaGreatDoor
open Go.RowKit

/-- strings.Split(s, a line end). -/
theorem splitN_any (l : List UInt8) (w : World) (hl : l.length < 4294967281) (hM : HasMax w) :
    Calls Tryz.prog 8 #[strV l, strV [10]] w fun e w' => e = .returned (.slice (some ⟨w.heap.size, 0, none⟩) (Lib.splitK [10] 0 (Lib.count l [10]) l).length (Lib.splitK [10] 0 (Lib.count l [10]) l).length) ∧
      w' = w.alloc (.cells ((Lib.splitK [10] 0 (Lib.count l [10]) l).map strV).toArray 9) := by
  obtain ⟨m, hm⟩ := hM
  refine (Tryz.strings_Split ⟨l.toArray⟩ ⟨#[10]⟩ m w hl hm (by decide)).mono fun e w' ⟨h1, h2⟩ => ?_
  have hd := Lib.splitB_data ⟨#[10]⟩ 0 (Lib.count l [10]) ⟨l.toArray⟩
  have hlen := Lib.splitB_all ⟨#[10]⟩ (by decide) 0 _ ⟨l.toArray⟩ rfl
  have hcB : Lib.countB ⟨l.toArray⟩ ⟨#[10]⟩ = Lib.count l [10] := rfl
  rw [hcB] at h1 h2 hlen
  have hl2 : (Lib.splitK [10] 0 (Lib.count l [10]) l).length = Lib.count l [10] + 1 := by
    have := congrArg List.length hd
    rw [List.length_map, hlen] at this
    exact this.symm
  refine ⟨by rw [h1, hl2], ?_⟩
  rw [h2, map_string]
  have e2 : (Lib.splitB ⟨#[10]⟩ 0 (Lib.count l [10]) ⟨l.toArray⟩).map (·.data.toList) = Lib.splitK [10] 0 (Lib.count l [10]) l := hd
  rw [e2]

/-- strings.TrimSuffix(s, a line end). -/
theorem trimN_any (l : List UInt8) (w : World) (hl : l.length ≤ 9223372036854775807) :
    Calls Tryz.prog 9 #[strV l, strV [10]] w fun e w' => e = .returned (strV (Lib.trimSuffix l [10])) ∧ w = w' := by
  refine (Tryz.strings_TrimSuffix ⟨l.toArray⟩ ⟨#[10]⟩ w (by rw [Lib.size_eq]; simpa using hl)).mono fun e w' ⟨h1, h2⟩ => ?_
  exact ⟨h1, h2.symm⟩

end Go.Proofs.YtladfdpcdjjifaaGreatDoor

/- Package bosunref01: Row, Set, Put: a set as a row of truths. -/
namespace Go.Proofs.YtladfdpcdjjifaaGreatDoor
open Go.RowKit

/-- The row of truths of a set. -/
def rowB (s : Nat) : List Bool := (List.range 64).map fun i => s.testBit i
def setB : List Bool → Nat
  | [] => 0
  | b :: t => 2 * setB t + b.toNat
theorem rowB_len (s : Nat) : (rowB s).length = 64 := by simp [rowB]
theorem setB_bit : ∀ (l : List Bool) (i : Nat), (setB l).testBit i = l.getD i false
  | [], i => by simp [setB]
  | b :: t, 0 => by cases b <;> simp [setB, Nat.testBit_zero]
  | b :: t, i + 1 => by
    rw [setB, Nat.testBit_succ, show (2 * setB t + b.toNat) / 2 = setB t by cases b <;> simp <;> omega, setB_bit t i]
    simp
theorem setB_lt : ∀ (l : List Bool), setB l < 2 ^ l.length
  | [] => by simp [setB]
  | b :: t => by
    have := setB_lt t
    rw [setB, List.length_cons, Nat.pow_succ]
    cases b <;> simp <;> omega
theorem setB_put (s i : Nat) (hs : s < 18446744073709551616) (hi : i < 64) : setB ((rowB s).set i true) = s ||| 2 ^ i := by
  refine Nat.eq_of_testBit_eq fun j => ?_
  rw [setB_bit, Nat.testBit_or, Nat.testBit_two_pow]
  by_cases hj : j < 64
  · by_cases he : i = j
    · subst he
      simp [List.getD, rowB_len, hi]
    · simp [List.getD, he, rowB, hj]
  · have hs2 : s.testBit j = false := Nat.testBit_lt_two_pow (Nat.lt_of_lt_of_le hs (Nat.pow_le_pow_right (n := 2) (i := 64) (by omega) (by omega)))
    have he : i ≠ j := by omega
    simp [List.getD, hs2, he, rowB, show 64 ≤ j by omega]
theorem setB_row (s : Nat) (hs : s < 18446744073709551616) : setB (rowB s) = s := by
  refine Nat.eq_of_testBit_eq fun j => ?_
  rw [setB_bit]
  by_cases hj : j < 64
  · simp [List.getD, rowB, hj]
  · have hs2 : s.testBit j = false := Nat.testBit_lt_two_pow (Nat.lt_of_lt_of_le hs (Nat.pow_le_pow_right (n := 2) (i := 64) (by omega) (by omega)))
    simp [List.getD, hs2, rowB, show 64 ≤ j by omega]
/-- The cells of a row. -/
def bC (l : List Bool) : Array Value := (l.map Value.bool).toArray
theorem bC_size (l : List Bool) : (bC l).size = l.length := by simp [bC]
theorem bC_get (l : List Bool) (i : Nat) (h : i < l.length) : (bC l)[i]? = some (.bool (l.getD i false)) := by
  simp [bC, List.getD, h]
theorem bC_set (l : List Bool) (i : Nat) (b : Bool) : (bC l).setIfInBounds i (.bool b) = bC (l.set i b) := by
  simp [bC]
theorem bC_one (l : List Bool) : (bC l).all (·.oneCell') = true := by
  rw [Array.all_eq_true_iff_forall_mem]
  intro x hx
  simp [bC] at hx
  rcases hx with ⟨_, rfl⟩ | ⟨_, rfl⟩ <;> rfl
/-- What Row has laid behind k rounds. -/
def rowK (s k : Nat) : List Bool := (List.range 64).map fun i => decide (i < k) && s.testBit i
theorem rowK_len (s k : Nat) : (rowK s k).length = 64 := by simp [rowK]
theorem rowK_zero (s : Nat) : bC (rowK s 0) = bC (List.replicate 64 false) := by
  congr 1
theorem rowK_step (s k : Nat) : (rowK s k).set k (s.testBit k) = rowK s (k + 1) := by
  refine List.ext_getElem? fun j => ?_
  rw [List.getElem?_set, rowK_len]
  by_cases h : k = j
  · subst h
    by_cases h2 : k < 64 <;> simp [rowK, h2]
  · simp only [h, if_false, rowK, List.getElem?_map]
    by_cases h2 : j < 64
    · have e : decide (j < k) = decide (j < k + 1) := by rw [Bool.eq_iff_iff]; simp; omega
      simp [List.getElem?_range h2, e]
    · simp [h2]
theorem rowK_done (s : Nat) : rowK s 64 = rowB s := by
  refine List.map_congr_left fun i hi => ?_
  simp at hi
  simp [hi]

theorem Tryz.size116 : (Tryz.prog.info? 116).map (·.size) = some 64 := by kernel_rfl

/-- A whole array is stored: the world behind it under a name. -/
theorem wpList_store_blk {P : Program} {ops : Array Oper} {rest : List Oper} {o : Oper} {a : Act} {w : World} {Q : Exit → Act → World → Prop} (hgd : o.guard = none) (ty : TypeId) (x y : Operand) (ho : o.op = .store ty x y)
    (g : Nat) (cells : Array Value) (hx : a.eval x = .pointer (some ⟨g, 0, none⟩)) (hy : a.eval y = .agg cells)
    (t : TypeId) (old : Array Value) (hg : Blk w g t old) (hi : (P.info? ty).map (·.size) = some cells.size)
    (hold : old.size = cells.size) (h1 : cells.all (·.oneCell') = true)
    (h : ∀ W2, Blk W2 g t cells → Kept [g] w W2 → wpList P ops Q rest (a.put o.dst undef) W2) : wpList P ops Q (o :: rest) a w :=
  wpList_store_row hgd ty x y ho g cells hx hy t old hg hi hold h1 (h _ (hg.setRow _) ((Kept.refl _ _).setRow (.inl (by simp)) _))
theorem row_size (l : List Bool) (h : l.length = 64) : (Tryz.prog.info? 116).map (·.size) = some (bC l).size := by rw [bC_size, h]; exact Tryz.size116

set_option maxHeartbeats 3200000 in
set_option maxRecDepth 100000 in
theorem refRow (s : Nat) (w : World) (hs : s < 18446744073709551616) : Calls Tryz.prog 93 #[.int .u64 s] w fun e w' => e = .returned (.agg (bC (rowB s))) ∧ Kept [] w w' := by
  go_enter Tryz.func93, Tryz.ntmps93
  go_wp2_with fail
  go_loopw [0, 4] (fun sv iv wr => ∃ k : Nat, k ≤ 64 ∧ sv = .int .u64 (s / 2 ^ k : Nat) ∧ iv = .int .i64 k ∧ Hid (Blk wr w.heap.size 116 (bC (List.replicate 64 false))) ∧ Hid (Blk wr (w.heap.size + 1) 116 (bC (rowK s k))) ∧ Hid (Kept [] w wr)) (fun _ i _ => 64 - (intOf i).toNat)
  case atStart => exact ⟨0, by omega, by simp, rfl, (Blk.new w 116 (bC (List.replicate 64 false))).alloc _, by rw [rowK_zero]; exact Blk.newAt (by simp) 116 (bC (List.replicate 64 false)), ((Kept.refl _ _).alloc _).alloc _⟩
  case round =>
    obtain ⟨k, hk, rfl, rfl, HB0, HB1, HK⟩ := hrel
    by_cases hlt : k < 64
    · have hfr := HB1.out.frozen
      have hlt1 := HB1.out.lt
      have hc1 : wr.cell? ⟨w.heap.size + 1, k, none⟩ = some (.bool ((rowK s k).getD k false)) := by rw [HB1.out.cell, bC_get _ _ (by rw [rowK_len]; exact hlt)]
      have hyb : s / 2 ^ k < 18446744073709551616 := Nat.lt_of_le_of_lt (Nat.div_le_self _ _) hs
      have htb : s.testBit k = decide (s / 2 ^ k % 2 = 1) := Nat.testBit_eq_decide_div_mod_eq
      have HST := Lib.hid (rowK_step s k)
      have HD : Hid (s / 2 ^ (k + 1) = s / 2 ^ k / 2) := by show _ = _; rw [Nat.pow_succ, ← Nat.div_div_eq_div_mul]
      generalize s.testBit k = tb at *
      generalize s / 2 ^ k = y at *
      have hb : (((y : Int) % 2) == 1) = tb := by rw [htb, Bool.eq_iff_iff]; simp; omega
      have hi0 : (0 : Int) ≤ (k : Int) := by omega
      have hi1 : (k : Int) < 64 := by omega
      clear htb
      go_wp2_with fail
      go_roundw
      case rel =>
        refine ⟨k + 1, by omega, by rw [HD.out]; go_num, by go_num, ?_, ?_, HK.out.setCell (.inr (by simp)) _⟩
        · exact HB0.out.far (by simp) _
        · rw [← HST.out, ← bC_set]; exact HB1.out.set _ _
      case measure => simp [intOf]; omega
    · obtain rfl : k = 64 := by omega
      rw [rowK_done] at HB1
      go_wp2_with (first
        | refine wpList_load_row rfl 116 _ rfl (w.heap.size + 1) rfl 116 (bC (rowB s)) (0, 0) _ HB1.out Tryz.underlying116 rfl (row_size _ (rowB_len s)) ?_
        | refine wpList_store_row rfl 116 _ _ rfl w.heap.size (bC (rowB s)) rfl rfl 116 (bC (List.replicate 64 false)) HB0.out (row_size _ (rowB_len s)) (by rw [bC_size, bC_size, rowB_len]; rfl) (bC_one _) ?_)
      refine bodyPost_ret (v := .agg (bC (rowB s))) (results_cell_row rfl _ _ w.heap.size 116 _ (0, 0) _ rfl (HB0.out.setRow _) Tryz.underlying116 rfl (row_size _ (rowB_len s))) rfl ⟨rfl, HK.out.setRow (.inr (Nat.le_refl _)) _⟩

set_option maxHeartbeats 3200000 in
set_option maxRecDepth 100000 in
theorem refSet (f : List Bool) (w : World) (hf : f.length = 64) : Calls Tryz.prog 94 #[.agg (bC f)] w fun e w' => e = .returned (.int .u64 (setB f : Nat)) ∧ Kept [] w w' := by
  have HF := Lib.hid hf
  clear hf
  go_enter Tryz.func94, Tryz.ntmps94
  go_wp2_with fail
  have HB : Hid (Blk (w.alloc (.cells (bC f) 116)) w.heap.size 116 (bC f)) := Blk.new _ _ _
  go_loop [3, 4] (fun sv iv => ∃ k : Nat, k ≤ 64 ∧ sv = .int .u64 (setB (f.drop k) : Nat) ∧ iv = .int .i64 ((k : Int) - 1)) (fun _ i => ((intOf i) + 1).toNat)
  case atStart => exact ⟨64, by omega, by rw [List.drop_of_length_le (by rw [HF.out]; omega)]; rfl, rfl⟩
  case round =>
    obtain ⟨k, hk, rfl, rfl⟩ := hrel
    rcases k with _ | m
    · have h0 : (((0 : Nat) : Int) - 1) = -1 := rfl
      rw [h0]
      rw [List.drop_zero]
      clear h0
      go_wp2_with fail
      go_ret
      exact ⟨rfl, (Kept.refl _ _).alloc _⟩
    · have hml : m < f.length := by rw [HF.out]; omega
      have hsn : setB (f.drop m) = 2 * setB (f.drop (m + 1)) + (f.getD m false).toNat := by
        rw [List.drop_eq_getElem_cons hml, setB]
        simp [List.getD, hml]
      have hlt : setB (f.drop (m + 1)) < 9223372036854775808 := by
        have h1 := setB_lt (f.drop (m + 1))
        rw [List.length_drop, HF.out] at h1
        exact Nat.lt_of_lt_of_le h1 (Nat.pow_le_pow_right (n := 2) (j := 63) (by omega) (by omega))
      have hc1 : (w.alloc (.cells (bC f) 116)).cell? ⟨w.heap.size, m, none⟩ = some (.bool (f.getD m false)) := by rw [HB.out.cell, bC_get _ _ hml]
      have HSN := Lib.hid hsn
      generalize setB (f.drop (m + 1)) = y at *
      generalize f.getD m false = tb at *
      have hij : (((m + 1 : Nat) : Int) - 1) = (m : Int) := by omega
      rw [hij]
      have hi0 : (0 : Int) ≤ (m : Int) := by omega
      have hi1 : (m : Int) < 64 := by omega
      have hy2 : (0 : Int) ≤ (y : Int) * 2 := by omega
      have hy3 : (y : Int) * 2 < 18446744073709551615 := by omega
      clear hsn hml hij
      cases tb
      · go_wp2_with fail
        go_round
        case rel => exact ⟨m, by omega, by rw [HSN.out]; simp only [Bool.toNat_false, Nat.add_zero]; rw [Nat.mul_comm]; go_num, rfl⟩
        case measure => simp [intOf]
      · go_wp2_with fail
        go_round
        case rel => exact ⟨m, by omega, by rw [HSN.out]; simp only [Bool.toNat_true]; rw [Nat.mul_comm]; go_num, rfl⟩
        case measure => simp [intOf]

set_option maxHeartbeats 3200000 in
set_option maxRecDepth 100000 in
theorem refPut1 (s i : Nat) (w : World) (hs : s < 18446744073709551616) (hi : i < 64) : Calls Tryz.prog 72 #[.int .u64 s, .int .i64 i, .bool true] w fun e w' => e = .returned (.int .u64 (s ||| 2 ^ i : Nat)) ∧ Kept [] w w' := by
  have HRW := Lib.hid (fun w => refRow s w hs)
  have HST : Hid (∀ w, Calls Tryz.prog 94 #[.agg (bC ((rowB s).set i true))] w fun e w' => e = .returned (.int .u64 (s ||| 2 ^ i : Nat)) ∧ Kept [] w w') := fun w => by
    have := refSet ((rowB s).set i true) w (by rw [List.length_set, rowB_len])
    rw [setB_put s i hs hi] at this
    exact this
  generalize s ||| 2 ^ i = r at *
  have hrl := rowB_len s
  generalize rowB s = row at *
  have HRL := Lib.hid hrl
  have HSS := Lib.hid (bC_set row i true)
  have hi0 : (0 : Int) ≤ (i : Int) := by omega
  have hi1 : (i : Int) < 64 := by omega
  clear hrl
  go_enter Tryz.func72, Tryz.ntmps72
  go_wp2_with fail
  refine (HRW.out _).mono ?_
  rintro e w1 ⟨rfl, hk1⟩
  have HK1 := Lib.hid hk1
  clear hk1
  go_wp2_with (first | (refine wpList_store_blk rfl 116 _ _ rfl w1.heap.size (bC row) rfl rfl 116 (bC (List.replicate 64 false)) (Blk.new w1 116 (bC (List.replicate 64 false))) (row_size _ HRL.out) (by rw [bC_size, bC_size, HRL.out]; rfl) (bC_one _) ?_; intro W2 hB2 hK2; have HB2 := Lib.hid hB2; have HK2 := Lib.hid ((HK1.out.alloc _).trans' hK2 (fun k hk => .inr (by have := HK1.out.size; simp at hk; omega))); have hc2 : W2.cell? ⟨w1.heap.size, i, none⟩ = some (.bool (row.getD i false)) := (by rw [hB2.cell, bC_get _ _ (by rw [HRL.out]; exact hi)]); have hf2 := hB2.frozen; have hl2 := hB2.lt; clear hB2 hK2) | (have HB3 : Hid (Blk (W2.setCell ⟨w1.heap.size, i, none⟩ (.bool true)) w1.heap.size 116 (bC (row.set i true))) := (by show Blk _ _ _ _; rw [← HSS.out]; exact HB2.out.set _ _); refine wpList_load_row rfl 116 _ rfl w1.heap.size rfl 116 (bC (row.set i true)) (0, 0) _ HB3.out Tryz.underlying116 rfl (row_size _ (by rw [List.length_set]; exact HRL.out)) ?_))
  refine (HST.out _).mono ?_
  rintro e w3 ⟨rfl, hk3⟩
  have HK3 := Lib.hid ((HK2.out.setCell (.inr HK1.out.size) _).trans hk3)
  clear hk3
  go_wp2_with fail
  go_ret
  exact ⟨rfl, HK3.out⟩

end Go.Proofs.YtladfdpcdjjifaaGreatDoor

/- Package duty: small functions: sets.All, numbers in a range, powers of two; the document's. -/
namespace Go.Proofs.YtladfdpcdjjifaaGreatDoor
open Go.RowKit

theorem two_pow_lt {n : Nat} (h : n < 64) : 2 ^ n < 18446744073709551616 := Nat.pow_lt_pow_right (a := 2) (m := n) (n := 64) (by omega) h
theorem all_step (k : Nat) : (2 ^ k - 1) ||| 2 ^ k = 2 ^ (k + 1) - 1 := by
  have h := Nat.two_pow_add_eq_or_of_lt (i := k) (b := 2 ^ k - 1) (by have := Nat.two_pow_pos k; omega) 1
  rw [Nat.mul_one] at h
  rw [Nat.or_comm, ← h, Nat.pow_succ]
  have := Nat.two_pow_pos k
  omega

set_option maxHeartbeats 800000 in
theorem sall_any (n : Nat) (w : World) (h1 : 1 ≤ n) (h2 : n ≤ 64) : Calls Tryz.prog 32 #[.int .i64 n] w fun e w' => e = .returned (.int .u64 (2 ^ n - 1 : Nat)) ∧ w = w' := by
  by_cases h : n = 64
  · subst h
    go_enter Tryz.func32, Tryz.ntmps32
    go_wp2_with fail
    go_ret
    exact ⟨rfl, rfl⟩
  · have hlt : n < 64 := by omega
    have hp := two_pow_lt hlt
    have hp0 := Nat.two_pow_pos n
    have hw2 : ((2 : Int) ^ n) = ((2 ^ n : Nat) : Int) := by simp
    have hc : ((2 ^ n - 1 : Nat) : Int) = ((2 ^ n : Nat) : Int) - 1 := by omega
    rw [hc]
    generalize 2 ^ n = p at *
    have hq0 : (0 : Int) ≤ (n : Int) := by omega
    have hq1 : (n : Int) ≤ 64 := by omega
    have b1 : decide ((n : Int) ≤ 0) = false := by simp; omega
    have b2 : decide ((64 : Int) ≤ (n : Int)) = false := by simp; omega
    have hwr : IntKind.u64.wrap (n : Int) = (n : Int) := IntWalk.u64_in _ (by omega)
    have hwp : IntKind.u64.wrap ((p : Int) - 1) = (p : Int) - 1 := IntWalk.u64_in _ (by omega)
    clear h
    have HB : Hid (∀ w, Calls Tryz.prog 64 #[.int .i64 n] w fun e w' => e = .returned (.int .u64 (p : Nat)) ∧ w = w') := by
      intro w
      go_enter Tryz.func64, Tryz.ntmps64
      go_wp2_with fail
      go_ret
      exact ⟨ret_int (by first | rfl | omega), rfl⟩
    go_enter Tryz.func32, Tryz.ntmps32
    go_wp2_with fail
    refine (HB.out _).mono ?_
    rintro e w1 ⟨rfl, rfl⟩
    go_wp2_with fail
    go_ret
    exact ⟨ret_int (by first | rfl | omega), rfl⟩

set_option maxHeartbeats 800000 in
theorem refAll1 (n : Nat) (w : World) (h1 : 1 ≤ n) (h2 : n ≤ 64) : Calls Tryz.prog 42 #[.int .i64 n] w fun e w' => e = .returned (.int .u64 (2 ^ n - 1 : Nat)) ∧ Kept [] w w' := by
  go_enter Tryz.func42, Tryz.ntmps42
  go_wp2_with fail
  go_loopw [3, 4] (fun sv iv wr => ∃ k : Nat, k ≤ n ∧ iv = .int .i64 k ∧ sv = .int .u64 (2 ^ k - 1 : Nat) ∧ Hid (Kept [] w wr)) (fun _ i _ => n - (intOf i).toNat)
  case atStart => exact ⟨0, by omega, rfl, rfl, Kept.refl _ _⟩
  case round =>
    obtain ⟨k, hk, rfl, rfl, HK⟩ := hrel
    by_cases hlt : k < n
    · have hp := two_pow_lt (n := k) (by omega)
      have HP := Lib.hid (fun w => refPut1 (2 ^ k - 1) k w (by omega) (by omega))
      rw [all_step] at HP
      obtain ⟨s2, hs2⟩ : ∃ s2, 2 ^ (k + 1) - 1 = s2 := ⟨_, rfl⟩
      rw [hs2] at HP
      have HS2 := Lib.hid hs2
      clear hs2
      generalize 2 ^ k - 1 = s1 at *
      have b1 : decide ((k : Int) < 64) = true := by simp; omega
      have b2 : decide ((k : Int) < (n : Int)) = true := by simp; omega
      go_wp2_with fail
      refine (HP.out _).mono ?_
      rintro e w1 ⟨rfl, hk1⟩
      have HK1 := Lib.hid (HK.out.trans hk1)
      clear hk1
      go_wp2_with fail
      go_roundw
      case rel => exact ⟨k + 1, by omega, by go_num, by rw [HS2.out], HK1⟩
      case measure => simp [intOf]; omega
    · obtain rfl : k = n := by omega
      obtain ⟨s1, hs1⟩ : ∃ s1, 2 ^ k - 1 = s1 := ⟨_, rfl⟩
      have HS1 := Lib.hid hs1
      rw [hs1]
      clear hs1
      by_cases h64 : k < 64
      · have b1 : decide ((k : Int) < 64) = true := by simp; omega
        have b2 : decide ((k : Int) < (k : Int)) = false := by simp
        go_wp2_with fail
        go_ret
        exact ⟨by rw [HS1.out]; rfl, HK.out⟩
      · have b1 : decide ((k : Int) < 64) = false := by simp; omega
        go_wp2_with fail
        go_ret
        exact ⟨by rw [HS1.out]; rfl, HK.out⟩

end Go.Proofs.YtladfdpcdjjifaaGreatDoor

