/- strings.TrimSuffix at a line feed; strings.Lines. -/
import Derived.Test.YtohkgdgdblnbfaaDoorEventLn
import Derived.Test.YtohkgdgdblnbfaaDoorRange
import Derived.RangeFuncLeaves
import Derived.Shelf.Abstract
import Derived.OwnWalkIn
import Derived.TacticsInMore
import Derived.LoopNIn
import Derived.LoopIn
import Derived.IntWalk
import Derived.RegionIn
namespace Go.Proofs.YtohkgdgdblnbfaaDoor
open Go.RowKit Go.Shelf

attribute [local go_sem] Oper.semAt_some

/-- A line without its line feed. -/
def trimN (x : List UInt8) : List UInt8 := if x.getLast? = some 10 then x.dropLast else x
/-- The lines of a text with their line feeds, the first of which has begun. -/
def linesK : List UInt8 → List UInt8 → List (List UInt8)
  | cur, [] => if cur = [] then [] else [cur]
  | cur, c :: t => if c = 10 then (cur ++ [c]) :: linesK [] t else linesK (cur ++ [c]) t
theorem linesK_trim : ∀ (l cur : List UInt8), (∀ c ∈ cur, c ≠ 10) → (linesK cur l).map trimN = linesF cur l
  | [], cur, h => by
    unfold linesK linesF
    split
    · rfl
    · rename_i hc
      have : cur.getLast? ≠ some 10 := fun e => h 10 (List.mem_of_getLast? e) rfl
      simp [trimN, this]
  | c :: t, cur, h => by
    unfold linesK linesF
    split
    · rename_i hc
      subst hc
      rw [List.map_cons, linesK_trim t [] (by simp)]
      simp [trimN]
    · rename_i hc
      exact linesK_trim t (cur ++ [c]) (fun x hx => by
        rcases List.mem_append.1 hx with hx | hx
        · exact h x hx
        · simp at hx; subst hx; exact hc)
theorem linesK_len : ∀ (l cur : List UInt8), (linesK cur l).length ≤ l.length + 1
  | [], cur => by unfold linesK; split <;> simp
  | c :: t, cur => by
    unfold linesK
    split
    · have := linesK_len t []; simp; omega
    · have := linesK_len t (cur ++ [c]); simp; omega
theorem linesK_none : ∀ (l cur : List UInt8), Lib.indexByte l 10 = -1 → cur ++ l ≠ [] → linesK cur l = [cur ++ l]
  | [], cur, _, hne => by unfold linesK; simp at hne; simp [hne]
  | c :: t, cur, h, _ => by
    unfold Lib.indexByte at h
    have hc : c ≠ 10 := fun e => by subst e; simp at h
    have ht : Lib.indexByte t 10 = -1 := by
      rw [if_neg (by simpa using hc)] at h
      split at h
      · rename_i h2; simpa using h2
      · have := Lib.indexByte_ge t 10; rename_i h2; simp at h2; omega
    unfold linesK
    rw [if_neg hc, linesK_none t (cur ++ [c]) ht (by simp)]
    simp
theorem linesK_some : ∀ (l cur : List UInt8) (i : Nat), Lib.indexByte l 10 = (i : Int) → i < l.length ∧ linesK cur l = (cur ++ l.take (i + 1)) :: linesK [] (l.drop (i + 1))
  | [], cur, i, h => by unfold Lib.indexByte at h; omega
  | c :: t, cur, i, h => by
    unfold Lib.indexByte at h
    by_cases hc : c = 10
    · subst hc
      simp at h
      obtain rfl : i = 0 := by omega
      refine ⟨by simp, ?_⟩
      conv => lhs; unfold linesK
      simp
    · rw [if_neg (by simpa using hc)] at h
      split at h
      · omega
      · obtain ⟨j, rfl⟩ : ∃ j, i = j + 1 := ⟨i - 1, by have := Lib.indexByte_ge t 10; rename_i h2; simp at h2; omega⟩
        obtain ⟨h1, h2⟩ := linesK_some t (cur ++ [c]) j (by omega)
        refine ⟨by simp; omega, ?_⟩
        conv => lhs; unfold linesK
        rw [if_neg hc, h2]
        simp

theorem toList_one (b : UInt8) : (⟨#[b]⟩ : ByteArray).toList = [b] := by
  first
  | (simp; done)
  | (rfl; done)
  | (rw [ByteArray.toList, ByteArray.toList.loop, ByteArray.toList.loop]; simp; done)
  | (unfold ByteArray.toList; rw [ByteArray.toList.loop]; simp; rw [ByteArray.toList.loop]; simp; done)
set_option maxHeartbeats 1000000 in
theorem hasSuf_any (x : List UInt8) (w : World) (hx : x.length ≤ 100000) : Calls Tryd.prog 75 #[strV x, .string ⟨#[10]⟩] w fun e w' => e = .returned (.bool (decide (x.getLast? = some 10))) ∧ w = w' := by
  rcases List.eq_nil_or_concat x with rfl | ⟨y, b, rfl⟩
  · go_enter Tryd.func75, Tryd.ntmps75
    go_wp2_with fail
    all_goals
      go_ret
      exact ⟨rfl, rfl⟩
  · simp only [List.concat_eq_append] at hx ⊢
    have hlen : (y ++ [b]).length = y.length + 1 := by simp
    have hx0 := str_extract (y ++ [b]) ((y ++ [b]).length - 1) (y ++ [b]).length
    rw [hlen, Nat.add_sub_cancel, Nat.add_sub_cancel_left, List.drop_left, ← hlen] at hx0
    simp only [List.take_succ_cons, List.take_zero] at hx0
    have hg : ((y ++ [b]).getLast? = some 10) = (b = 10) := by simp
    simp only [hg]
    have h1 : 1 ≤ (y ++ [b]).length := by omega
    generalize y ++ [b] = z at *
    have hy : y.length = z.length - 1 := by omega
    rw [hy] at hx0
    have HX := Lib.hid hx0
    clear hlen hx0 hg hy
    go_enter Tryd.func75, Tryd.ntmps75
    go_wp2_with fail
    go_ret
    rw [HX.out]
    refine ⟨ret_bool ?_, rfl⟩
    rw [toList_one, Bool.eq_iff_iff]; simp

set_option maxHeartbeats 1000000 in
theorem liteTrim_any (x : List UInt8) (w : World) (hx : x.length ≤ 100000) : Calls Tryd.prog 68 #[strV x, .string ⟨#[10]⟩] w fun e w' => e = .returned (strV (trimN x)) ∧ w = w' := by
  have HS := Lib.hid (fun w => hasSuf_any x w hx)
  by_cases h : x.getLast? = some 10
  · have ht : trimN x = x.dropLast := by rw [trimN, if_pos h]
    rw [decide_eq_true h] at HS
    have hx0 := str_extract x 0 (x.length - 1)
    simp only [List.drop_zero, Nat.sub_zero, ← List.dropLast_eq_take] at hx0
    have hl : 1 ≤ x.length := by cases x with | nil => simp at h | cons a t => simp
    rw [ht]
    have HX := Lib.hid hx0
    clear h ht hx0
    go_enter Tryd.func68, Tryd.ntmps68
    go_wp2_with fail
    refine (HS.out _).mono ?_
    rintro e w1 ⟨rfl, rfl⟩
    go_wp2_with fail
    go_ret
    exact ⟨congrArg (fun s => Ending.returned (Value.string s)) HX.out, rfl⟩
  · have ht : trimN x = x := by rw [trimN, if_neg h]
    rw [decide_eq_false h] at HS
    rw [ht]
    clear h ht
    go_enter Tryd.func68, Tryd.ntmps68
    go_wp2_with fail
    refine (HS.out _).mono ?_
    rintro e w1 ⟨rfl, rfl⟩
    go_wp2_with fail
    go_ret
    exact ⟨rfl, rfl⟩
theorem trim_any (x : List UInt8) (w : World) (hx : x.length ≤ 100000) : Calls Tryd.prog 51 #[strV x, .string ⟨#[10]⟩] w fun e w' => e = .returned (strV (trimN x)) ∧ w = w' := by
  have HS := Lib.hid (fun w => liteTrim_any x w hx)
  go_enter Tryd.func51, Tryd.ntmps51
  go_wp2_with fail
  refine (HS.out _).mono ?_
  rintro e w1 ⟨rfl, rfl⟩
  go_wp2_with fail
  go_ret
  exact ⟨rfl, rfl⟩

/-- A line that is not too long. -/
abbrev Ln := { x : List UInt8 // x.length ≤ 100000 }
/-- How long the text in a cell is. -/
def lenAt (w : World) (B : Nat) : Nat := match w.cell? ⟨B, 0, none⟩ with | some (.string s) => s.size | _ => 0
theorem lenAt_blk {w : World} {B : Nat} {t : TypeId} {l : List UInt8} (h : Blk w B t #[strV l]) : lenAt w B = l.length := by
  unfold lenAt; rw [h.cell]; rfl

set_option maxHeartbeats 1000000 in
theorem lines_in (n : Nat) (s : List UInt8) (w : World) :
    CallsIn Fence.wide n Tryd.prog 50 #[strV s] w fun e w' => e = .returned (.func (.func 66) #[] #[.pointer (some ⟨w.heap.size, 0, none⟩)]) ∧ w' = w.alloc (.cells #[strV s] 9) := by
  refine callsIn_of_wp Tryd.func50 rfl trivial ?_ rfl
  simp only [Tryd.ntmps50, List.size_toArray, List.length_cons, List.length_nil, Nat.reduceAdd, Nat.reduceSub, Array.replicate_succ, Array.replicate_zero, List.push_toArray, List.append_toArray, List.nil_append, List.cons_append]
  gi_wp2
  go_ret
  exact ⟨rfl, rfl⟩

theorem keep_drewN {β : Type} {B : Nat} {J : β → World → Prop} (h : AbidesFrom B J) {s : β} {W : World} (hs : J s W) (k : Nat) : J s (W.drewN k) :=
  h s W _ none hs ⟨rfl, rfl, rfl, Nat.le_refl _, fun _ _ _ => rfl⟩ (fun r e => by cases e)
theorem keep_drew {β : Type} {B : Nat} {J : β → World → Prop} (h : AbidesFrom B J) {s : β} {W : World} (hs : J s W) : J s W.drew :=
  h s W _ none hs ⟨rfl, rfl, rfl, Nat.le_refl _, fun _ _ _ => rfl⟩ (fun r e => by cases e)

set_option maxRecDepth 100000 in
set_option maxHeartbeats 4000000 in
theorem lines1_in (n : Nat) (hn : 1 ≤ n) (l Bs N B0 : Nat) (s : List UInt8) (hs : s.length ≤ 90000) (J Jx : List Ln → World → Prop) (hN : s.length < N) (hJ : AbidesFrom B0 J) (hJf : FreeOf Bs J)
    (hY : ∀ pre (x : Ln) W, J pre W → pre.length < N → YieldAt Fence.wide (n - 1) Tryd.prog l #[strV x.1] W fun e W' =>
      (e = .returned (.bool true) ∧ J (pre ++ [x]) W' ∧ W'.heap[Bs]? = W.heap[Bs]?) ∨ (e = .returned (.bool false) ∧ Jx (pre ++ [x]) W'))
    (W : World) (hBs : Blk W Bs 9 #[strV s]) (h0 : J [] W) :
    CallsIn Fence.wide n Tryd.prog 66 #[.func (.yield l) #[] #[], .pointer (some ⟨Bs, 0, none⟩)] W fun e W' => (∃ v, e = .returned v) ∧
      ((∃ ys : List Ln, ys.map Subtype.val = linesK [] s ∧ J ys W') ∨ (∃ pre : List Ln, (∃ r, pre.map Subtype.val ++ r = linesK [] s) ∧ Jx pre W')) := by
  have HY := Lib.hid hY
  have HJ := Lib.hid hJ
  have HJF := Lib.hid hJf
  have HB0 := Lib.hid hBs
  have H00 := Lib.hid h0
  have hkl := linesK_len s []
  clear hY hJ hJf hBs h0
  refine callsIn_of_wp Tryd.func66 rfl trivial ?_ rfl
  simp only [Tryd.ntmps66, List.size_toArray, List.length_cons, List.length_nil, Nat.reduceAdd, Nat.reduceSub, Array.replicate_succ, Array.replicate_zero, List.push_toArray, List.append_toArray, List.nil_append, List.cons_append]
  gi_wp2
  gi_loopw [3] (fun _ wr => ∃ (pre : List Ln) (rest : List UInt8), rest.length ≤ 90000 ∧ Hid (pre.map Subtype.val ++ linesK [] rest = linesK [] s) ∧ Hid (J pre wr) ∧ Hid (Blk wr Bs 9 #[strV rest]))
    (fun _ wr => lenAt wr Bs)
  case atStart => exact ⟨[], s, hs, rfl, H00, HB0⟩
  case round =>
    obtain ⟨pre, rest, hr, HL, HJS, HB⟩ := hrel
    have hc : wr.cell? ⟨Bs, 0, none⟩ = some (strV rest) := by rw [HB.out.cell]; rfl
    have hf := HB.out.frozen 0
    have hlt := HB.out.lt
    by_cases hne : rest = []
    · subst hne
      have hfin : pre.map Subtype.val = linesK [] s := by have := HL.out; simpa [linesK] using this
      have HFIN := Lib.hid hfin
      clear hfin
      gi_wp2
      go_end0
      exact ⟨⟨_, rfl⟩, .inl ⟨pre, HFIN.out, HJS.out⟩⟩
    · have hr0 : 0 < rest.length := List.length_pos_iff.2 hne
      have HIX := Lib.hid (fun w => Tryd.strings_IndexByte ⟨rest.toArray⟩ 10 w)
      have hge := Lib.indexByte_ge rest 10
      simp only [show (10 : Int).toNat.toUInt8 = 10 from rfl] at HIX
      by_cases hi : Lib.indexByte rest 10 = -1
      · have hll := linesK_none rest [] hi (by simpa using hne)
        simp only [List.nil_append] at hll
        rw [hi] at HIX
        have hpl : pre.length < N := by
          have := congrArg List.length HL.out
          rw [hll] at this; simp at this; omega
        obtain ⟨fn, tmps, assign, body, hy, hR⟩ := HY.out pre ⟨rest, by omega⟩ (wr.setCell ⟨Bs, 0, none⟩ (strV [])) (HJF.out _ _ _ HJS.out) hpl
        dsimp only at hy
        have HLL := Lib.hid hll
        clear hi hge hll hne
        gi_wp2_with (refine ⟨trivial, ?_⟩; gi_at_call 67; refine (callsIn_wide.2 (HIX.out _)).mono ?_; rintro e w' ⟨rfl, rfl⟩)
        refine hR.mono ?_
        rintro e W3 (⟨rfl, hJ3, hk3⟩ | ⟨rfl, hJx3⟩)
        · have HB3 : Hid (Blk W3 Bs 9 #[strV []]) := hk3.trans (HB.out.set 0 (strV []))
          have HJ3 := Lib.hid hJ3
          clear hk3 hJ3 hy hR
          gi_wp2
          go_roundw
          case rel => exact ⟨pre ++ [⟨rest, by omega⟩], [], by simp, by have := HL.out; rw [HLL.out] at this; simp [Hid, linesK]; exact this, HJ3, HB3⟩
          case measure => rw [lenAt_blk HB3.out, lenAt_blk HB.out]; simpa using hr0
        · have HJX := Lib.hid hJx3
          clear hJx3 hy hR
          gi_wp2
          refine bodyPost_ret (results_none rfl _ _ _) rfl ?_
          exact ⟨⟨_, rfl⟩, .inr ⟨_, ⟨[], by have := HL.out; rw [HLL.out] at this; simpa using this⟩, HJX.out⟩⟩
      · obtain ⟨i, hii⟩ : ∃ i : Nat, Lib.indexByte rest 10 = (i : Int) := ⟨(Lib.indexByte rest 10).toNat, by omega⟩
        obtain ⟨hil, hll⟩ := linesK_some rest [] i hii
        simp only [List.nil_append] at hll
        rw [hii] at HIX
        have hpl : pre.length < N := by
          have := congrArg List.length HL.out
          rw [hll] at this; simp at this; omega
        have hx1 := str_extract rest 0 (i + 1)
        have hx2 := str_extract rest (i + 1) rest.length
        rw [List.take_of_length_le (by simp)] at hx2
        simp only [List.drop_zero, Nat.sub_zero] at hx1
        have hl1 : (rest.take (i + 1)).length = i + 1 := by simp; omega
        have hl2 : (rest.drop (i + 1)).length = rest.length - (i + 1) := by simp
        generalize hL1 : rest.take (i + 1) = L1 at *
        generalize hL2 : rest.drop (i + 1) = L2 at *
        have HL1 := Lib.hid hl1
        have HL2 := Lib.hid hl2
        obtain ⟨x, rfl⟩ : ∃ x : Ln, x.1 = L1 := ⟨⟨L1, by omega⟩, rfl⟩
        have HYY := Lib.hid (fun W (h : J pre W) => HY.out pre x W h hpl)
        have HLL := Lib.hid hll
        have HX1 := Lib.hid hx1
        have HX2 := Lib.hid hx2
        have hi0 : (0 : Int) ≤ (i : Int) + 1 := by omega
        have hi1 : (i : Int) + 1 ≤ (rest.length : Int) := by omega
        have hw1 : IntKind.i64.wrap ((i : Int) + 1) = (i : Int) + 1 := IntWalk.i64_in _ (by omega)
        clear hi hge hll hne hx1 hx2 hL1 hL2 hii hl1 hl2
        gi_wp2_with (refine ⟨trivial, ?_⟩; gi_at_call 67; refine (callsIn_wide.2 (HIX.out _)).mono ?_; rintro e w' ⟨rfl, rfl⟩)
        gi_region
        all_goals gi_wp2
        rw [HX1.out, HX2.out]
        obtain ⟨fn, tmps, assign, body, hy, hR⟩ := HYY.out ((w'.setCell ⟨Bs, 0, none⟩ (.string ⟨L2.toArray⟩)).drew) (keep_drew HJ.out (HJF.out _ _ _ HJS.out))
        rw [show (Instr.yield l #[Value.string ⟨x.1.toArray⟩]) = Instr.yield l #[strV x.1] from rfl, hy]
        gi_wp2
        refine hR.mono ?_
        rintro e W3 (⟨rfl, hJ3, hk3⟩ | ⟨rfl, hJx3⟩)
        · have HB3 : Hid (Blk W3 Bs 9 #[strV L2]) := hk3.trans (HB.out.set 0 (strV L2))
          have HJ3 := Lib.hid hJ3
          clear hk3 hJ3 hy hR
          gi_wp2
          go_roundw
          case rel => exact ⟨pre ++ [x], L2, by have := HL2.out; omega, by have := HL.out; rw [HLL.out] at this; simp [Hid]; exact this, HJ3, HB3⟩
          case measure => rw [lenAt_blk HB3.out, lenAt_blk HB.out]; have := HL2.out; omega
        · have HJX := Lib.hid hJx3
          clear hJx3 hy hR
          gi_wp2
          refine bodyPost_ret (results_none rfl _ _ _) rfl ?_
          exact ⟨⟨_, rfl⟩, .inr ⟨_, ⟨linesK [] L2, by have := HL.out; rw [HLL.out] at this; simpa using this⟩, HJX.out⟩⟩

theorem lines_seq (n : Nat) (hn : 1 ≤ n) (Bs : Nat) (s : List UInt8) (hs : s.length ≤ 90000) (w : World) (hB : Blk w Bs 9 #[strV s]) :
    SeqCell Fence.wide n Tryd.prog 66 #[.pointer (some ⟨Bs, 0, none⟩)] Bs (fun x : Ln => #[strV x.1]) (fun W W' => W'.heap[Bs]? = W.heap[Bs]?) (fun ys => ys.map Subtype.val = linesK [] s) (fun pre => ∃ r, pre.map Subtype.val ++ r = linesK [] s) (s.length + 1) w :=
  fun l J Jx W hW hJ hJf hY h0 =>
    lines1_in n hn l Bs (s.length + 1) W.heap.size s hs J Jx (by omega) hJ hJf hY W ((hW.block _ hB.lt).trans hB) h0

end Go.Proofs.YtohkgdgdblnbfaaDoor
