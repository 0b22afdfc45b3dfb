/- The document's row of waiters (bosunref23), and Same (bosunref01). -/
import Derived.Test.YtljimcdppeejfaaWait7
import Derived.Deep.QuietTactic
import Derived.BigQuiet
namespace Go.Proofs.Ytljimcdppeejfaa
open Go.RowKit

/-- A waiter as the document has it: its place and its level. -/
def rL (x : WO) : List Value := [.int .i64 x.p, .int .i64 x.l]
theorem rL_len (x : WO) : (rL x).length = 2 := rfl
theorem rL_one (x : WO) : ∀ u ∈ rL x, u.oneCell' = true := by
  intro u hu
  simp [rL] at hu
  rcases hu with rfl | rfl <;> rfl
theorem rflat_one (l : List WO) : ∀ u ∈ l.flatMap rL, u.oneCell' = true := by
  intro u hu
  obtain ⟨x, _, hx⟩ := List.mem_flatMap.1 hu
  exact rL_one x u hx
theorem Try.info46 : (Try.prog.info? 46).map (fun i => (i.zero, i.size, i.bytes)) = some (some (.agg #[.int .i64 0, .int .i64 0]), 2, 16) := by kernel_rfl
theorem Try.size46 : (Try.prog.info? 46).map (·.size) = some 2 := by kernel_rfl
/-- A row of the document's. -/
def RRow (w : World) (v : Value) (M : List WO) : Prop := w.ownsRow 0 46 2 v M.length (M.flatMap rL)
theorem RRow.old {w w' : World} {v : Value} {M : List WO} (h : RRow w v M) (hk : Kept [] w w') : RRow w' v M := own_kept h hk (by simp)
theorem RRow.others {w w' : World} {v : Value} {M : List WO} (h : RRow w v M) (hk : Others w w') : RRow w' v M := hk.own h (by decide) (by decide)
theorem RRow.nil (w : World) : RRow w (.slice none 0 0) [] := World.ownsRow_nil _ _ _ _
theorem RRow.form {w : World} {v : Value} {M : List WO} (h : RRow w v M) : ∃ A c, v = .slice A M.length c ∧ M.length ≤ c ∧ c ≤ maxLen := own_form h
/-- The place in the row of who has a place; -1: nowhere. -/
def AtM (pl : Int) (M : List WO) (v : Int) : Prop := (∃ (k : Nat) (x : WO), v = k ∧ M[k]? = some x ∧ isP pl x = true ∧ ∀ j y, j < k → M[j]? = some y → isP pl y = false) ∨ (v = -1 ∧ ∀ x ∈ M, isP pl x = false)

set_option maxHeartbeats 1600000 in
set_option maxRecDepth 100000 in
theorem refAt_any (A : Option Addr) (c : Nat) (M : List WO) (pl : Int) (w : World) (hr : Reads w 2 A M.length (M.flatMap rL)) (hl : M.length ≤ 100000) :
    Calls Try.prog 18 #[.slice A M.length c, .int .i64 pl] w fun e w' => (∃ v, e = .returned (.int .i64 v) ∧ AtM pl M v) ∧ w = w' := by
  have HR := Lib.hid hr
  clear hr
  go_enter Try.func18, Try.ntmps18
  go_wp2_with fail
  go_loop [5] (fun kv => ∃ k : Nat, k ≤ M.length ∧ kv = .int .i64 k ∧ Hid (∀ j x, j < k → M[j]? = some x → isP pl x = false)) (fun k => M.length - (intOf k).toNat)
  case atStart => exact ⟨0, by omega, rfl, (fun j x h1 h2 => by omega)⟩
  case round =>
    obtain ⟨k, hk1, rfl, HJ⟩ := hrel
    by_cases hlt : k < M.length
    · obtain ⟨b, o, rfl, hb, hc⟩ := HR.out.cellsK rL 2 rL_len (by omega) (by omega)
      obtain ⟨x, hx⟩ : ∃ x, M[k]? = some x := ⟨M[k], List.getElem?_eq_getElem hlt⟩
      have hc0 : w.cell? ⟨b, o + k * 2, none⟩ = some (.int .i64 x.p) := hc k x hx 0 (by omega)
      have hi0 : (0 : Int) ≤ (k : Int) := by omega
      have hi1 : (k : Int) < (M.length : Int) := by omega
      have HX := Lib.hid hx
      clear hc hx
      by_cases he : x.p = pl
      · have hb1 : (x.p == pl) = true := beq_iff_eq.2 he
        have HP : Hid (isP pl x = true) := hb1
        clear he
        go_wp2_with fail
        go_ret
        exact ⟨⟨_, rfl, .inl ⟨k, x, rfl, HX.out, HP.out, HJ.out⟩⟩, rfl⟩
      · have hb1 : (x.p == pl) = false := beq_eq_false_iff_ne.2 he
        have HP : Hid (isP pl x = false) := hb1
        clear he
        go_wp2_with fail
        go_round
        case rel => exact ⟨k + 1, by omega, by go_num, (fun j y h1 h2 => by
          rcases Nat.lt_or_ge j k with h3 | h3
          · exact HJ.out j y h3 h2
          · obtain rfl : j = k := by omega
            rw [HX.out] at h2; cases h2; exact HP.out)⟩
        case measure => simp [intOf]; omega
    · obtain rfl : k = M.length := by omega
      go_wp2_with fail
      go_ret
      exact ⟨⟨_, rfl, .inr ⟨rfl, fun x hx => by
        obtain ⟨j, hj⟩ := List.getElem?_of_mem hx
        exact HJ.out j x (List.getElem?_eq_some_iff.1 hj).1 hj⟩⟩, rfl⟩

set_option maxHeartbeats 3200000 in
set_option maxRecDepth 100000 in
theorem refSameI (A : Option Addr) (n c : Nat) (A2 : Option Addr) (m d : Nat) (l : List Int) (w : World) (ha : Reads w 1 A n (l.map (Value.int .i64))) (hb : Reads w 1 A2 m (l.map (Value.int .i64))) (hl : l.length ≤ 100000) :
    Calls Try.prog 14 #[.slice A n c, .slice A2 m d] w fun e w' => e = .returned (.bool true) ∧ Kept [] w w' := by
  have hn : n = l.length := by have := ha.1; simp at this; omega
  have hm : m = l.length := by have := hb.1; simp at this; omega
  subst hn hm
  have HA := Lib.hid ha
  have HB := Lib.hid hb
  have hbn : ((l.length : Int) != (l.length : Int)) = false := by simp
  clear ha hb
  go_enter Try.func14, Try.ntmps14
  go_wp2_with fail
  go_loopw [5] (fun kv wr => ∃ k : Nat, k ≤ l.length ∧ kv = .int .i64 k ∧ Hid (Kept [] w wr)) (fun k _ => l.length - (intOf k).toNat)
  case atStart => exact ⟨0, by omega, rfl, Kept.refl _ _⟩
  case round =>
    obtain ⟨k, hk1, rfl, HK⟩ := hrel
    by_cases hlt : k < l.length
    · obtain ⟨b, o, rfl, hb0, hc⟩ := HA.out.addr (by omega) (by omega)
      obtain ⟨b2, o2, rfl, hb2, hc2⟩ := HB.out.addr (by omega) (by omega)
      have hx : (l.map (Value.int .i64))[k]? = some (.int .i64 l[k]) := by rw [List.getElem?_map, List.getElem?_eq_getElem hlt]; rfl
      have c1 := HK.out.cell_some (hc k _ hx) (by simp)
      have c2 := HK.out.cell_some (hc2 k _ hx) (by simp)
      have hi0 : (0 : Int) ≤ (k : Int) := by omega
      have hi1 : (k : Int) < (l.length : Int) := by omega
      generalize l[k] = z at *
      have hz : (z != z) = false := by simp
      clear hc hc2 hx
      go_wp2_with fail
      go_quiet (fail)
      go_wp2_with fail
      go_roundw
      case rel => exact ⟨k + 1, by omega, by go_num, HK.out.trans (by (repeat (first | (with_reducible exact Kept.refl _ _) | (with_reducible assumption) | (with_reducible refine Kept.alloc ?_ _) | (with_reducible refine Kept.drew ?_) | (with_reducible refine Kept.drewN ?_ _) | (with_reducible refine Kept.setCell ?_ ?_ _) | (exact .inr (Nat.le_refl _)) | (exact .inr (by simp only; omega)) | (exact .inr (by omega)))))⟩
      case measure => simp [intOf]; omega
    · obtain rfl : k = l.length := by omega
      go_wp2_with fail
      go_ret
      exact ⟨rfl, HK.out⟩

end Go.Proofs.Ytljimcdppeejfaa
