/- Law 23: WaitFair: the walk. -/
import Derived.Test.YtljimcdppeejfaaWait7
import Derived.Test.YtljimcdppeejfaaWaitFairP
import Derived.Test.YtljimcdppeejfaaWaitOpen
import Derived.Deep.DeepCutAuto
import Derived.Deep.QuietTactic
import Derived.BigQuiet
namespace Go.Proofs.Ytljimcdppeejfaa
open Go.RowKit

set_option maxHeartbeats 12800000 in
set_option maxRecDepth 100000 in
theorem waitFair_in (A : Option Addr) (n c : Nat) (bs : List UInt8) (A2 : Option Addr) (n2 c2 : Nat) (acts : List Ac) (m : Nat) (w : World) (hr : Reads w 1 A n (bs.map B)) (hm : (n ≤ 64 ∧ m = n) ∨ (64 < n ∧ m = 64)) (hnn : n ≤ 9223372036854775807) (hr2 : Reads w 3 A2 n2 (acts.flatMap aL)) (hn2 : n2 ≤ 9223372036854775807) :
    Calls Try.prog 3 #[.slice A n c, .slice A2 n2 c2] w fun e w' => e = .returned (.bool true) ∧ Kept [] w w' := by
  have HR := Lib.hid hr
  have HR2 := Lib.hid hr2
  have HM := Lib.hid hm
  have hm1 : m ≤ n := by omega
  have hm2 : m ≤ 64 := by omega
  have hbl : bs.length = n := by have := hr.1; simpa using this
  have hal := hr2.lenK aL 3 aL_len (by omega)
  subst hal
  have HBL := Lib.hid hbl
  have hmk : ∀ W, (Instr.makeSlice 26 (.int .i64 64) (.int .i64 64)).run Try.prog W = .ok (.slice (some ⟨W.heap.size, 0, none⟩) 64 64) (W.alloc (.cells (zeros (.int .i64 0) 64) 3)) := fun W => run_make_n 26 3 (.int .i64 0) 8 Try.underlying26 Try.infoI rfl 64 64 rfl (by omega) (by omega) W
  rw [intsC_zeros] at hmk
  clear hr hr2 hm hbl
  go_enter Try.func3, Try.ntmps3
  go_wp2_with fail
  refine (my_new w).mono ?_
  rintro e w1 ⟨rfl, h1⟩
  have H1 := Lib.hid h1
  have hlt1 := h1.lt
  clear h1
  go_upto_region 2 with fail
  go_cut [6] (fun s6 wx => s6 = .int .i64 (m : Int) ∧ wx = w1)
  case first =>
    rcases HM.out with ⟨h1, h2⟩ | ⟨h1, h2⟩
    · subst h2
      go_wp2_with fail
      all_goals (go_meet; exact ⟨rfl, rfl⟩)
    · subst h2
      go_wp2_with fail
      all_goals (go_meet; exact ⟨rfl, rfl⟩)
  case rest =>
    obtain ⟨rfl, rfl⟩ := hcut
    go_wp2_with fail
    go_loopw [8] (fun iv wr => ∃ (k : Nat) (f : List Int) (L : List WO), k ≤ m ∧ iv = .int .i64 k ∧ f.length = 64 ∧ Hid (Inv L (Mf f k) k) ∧ Hid (MyLine w wr w.heap.size L k) ∧ Hid (Blk wr wc.heap.size 3 (intsC f))) (fun i _ => m - (intOf i).toNat)
    case atStart => exact ⟨0, List.replicate 64 0, [], by omega, rfl, by simp, Inv.nil, H1.out.old ((Kept.refl _ _).alloc _), Blk.new _ _ _⟩
    case round =>
      obtain ⟨k, f, L, hk, rfl, hfl, HI, HL, HB⟩ := hrel
      have hlL : L.length = k := by rw [HI.out.len, Mf_len]
      have HLL := Lib.hid hlL
      have HFL := Lib.hid hfl
      have hcB := HB.out.cell
      have hfB := HB.out.frozen
      have hlB := HB.out.lt
      clear hlL hfl
      by_cases hlt : k < m
      · have hRw := HR.out.old HL.out.kept
        obtain ⟨b8, hb8⟩ : ∃ b8 : UInt8, bs[k]? = some b8 := ⟨bs[k]'(by rw [HBL.out]; omega), List.getElem?_eq_getElem _⟩
        obtain ⟨b, o, rfl, hb0, hcc⟩ := hRw.addr (by omega) (by omega)
        have hc8 : wr.cell? ⟨b, o + k, none⟩ = some (.int .u8 (b8.toNat : Int)) := hcc k _ (by rw [List.getElem?_map, hb8]; rfl)
        have hb256 := UInt8.toNat_lt b8
        generalize b8.toNat = q at *
        have hi0 : (0 : Int) ≤ (k : Int) := by omega
        have hi1 : (k : Int) < (n : Int) := by omega
        have hi2 : (k : Int) < 64 := by omega
        have hcB2 : wr.cell? ⟨wc.heap.size, k, none⟩ = some (.int .i64 (f.getD k 0)) := by rw [hcB, intsC_get f k (by rw [HFL.out]; omega)]
        have hq : ((q % 8 : Nat) : Int) = (q : Int) % 8 := by omega
        have HB2 : Hid (Blk (wr.setCell ⟨wc.heap.size, k, none⟩ (.int .i64 ((q : Int) % 8))) wc.heap.size 3 (intsC (f.set k ((q : Int) % 8)))) := by
          have := HB.out.set k (.int .i64 ((q : Int) % 8))
          rw [intsC_set] at this
          exact this
        have hcB3 : (wr.setCell ⟨wc.heap.size, k, none⟩ (.int .i64 ((q : Int) % 8))).cell? ⟨wc.heap.size, k, none⟩ = some (.int .i64 ((q : Int) % 8)) := by
          rw [HB2.out.cell, intsC_get _ k (by rw [List.length_set, HFL.out]; omega), getD_set_same (by rw [HFL.out]; omega)]
        have HL2 : Hid (MyLine w (wr.setCell ⟨wc.heap.size, k, none⟩ (.int .i64 ((q : Int) % 8))) w.heap.size L k) := HL.out.set (by have := H1.out.kept.size; omega) HB.out (by decide) (by decide) k _
        have hfn : findW k L = none := by unfold findW; rw [HI.out.find, Mf_none]
        have hql : (0 : Int) ≤ (q : Int) % 8 ∧ (q : Int) % 8 ≤ 7 := by omega
        have hhold : holdL ((q : Int) % 8) = (q : Int) % 8 := by rw [holdL, if_neg (by omega), if_neg (by omega)]
        have HPUT := Lib.hid (my_put w _ w.heap.size L k k ((q : Int) % 8) HL2.out (by rw [HLL.out]; omega) (by omega) (by omega) (by omega) hfn)
        rw [hhold] at HPUT
        have HI2 : Hid (Inv (insW ⟨(k : Int), (q : Int) % 8, k + 1⟩ L) (Mf (f.set k ((q : Int) % 8)) (k + 1)) (k + 1)) := by
          rw [Mf_put f k _ (by rw [HFL.out]; omega)]
          exact HI.out.put (Mf_none f k) hql.1 hql.2
        clear hRw hcc hb8 hcB hhold hfn hq hql
        go_wp2_with fail
        refine (HPUT.out).mono ?_
        rintro e w2 ⟨rfl, h2, ho2⟩
        have HL3 := Lib.hid h2
        have HB3 := Lib.hid (ho2 _ _ _ HB2.out (by decide) (by decide))
        clear h2 ho2
        go_wp2_with fail
        go_roundw
        case rel => exact ⟨k + 1, f.set k ((q : Int) % 8), _, by omega, by go_num, by rw [List.length_set]; exact HFL.out, HI2, HL3, HB3⟩
        case measure => simp [intOf]; omega
      · obtain rfl : k = m := by omega
        clear hcB hfB hlB
        go_wp2_with fail
        go_loopw [9] (fun iv wr => ∃ (i : Nat) (f : List Int) (L : List WO), i ≤ acts.length ∧ i ≤ 40 ∧ iv = .int .i64 i ∧ f.length = 64 ∧ Hid (Inv L (Mf f k) k) ∧ Hid (MyLine w wr w.heap.size L k) ∧ Hid (Blk wr wc.heap.size 3 (intsC f))) (fun i _ => 40 - (intOf i).toNat)
        case atStart => exact ⟨0, f, L, by omega, by omega, rfl, HFL.out, HI, HL, HB⟩
        case round =>
          clear HI HL HB HLL HFL
          obtain ⟨i, f, L, hi1, hi2, rfl, hfl, HI, HL, HB⟩ := hrel
          have hlL : L.length = k := by rw [HI.out.len, Mf_len]
          have HLL := Lib.hid hlL
          have HFL := Lib.hid hfl
          clear hlL hfl
          by_cases hgo : i < acts.length ∧ i < 40
          · obtain ⟨hg1, hg2⟩ := hgo
            obtain ⟨x, hx⟩ : ∃ x, acts[i]? = some x := ⟨acts[i], List.getElem?_eq_getElem hg1⟩
            obtain ⟨b, o, rfl, hb0, hcc⟩ := HR2.out.cellsK aL 3 aL_len (by omega) (by omega)
            have hw2 : w.cell? ⟨b, o + i * 3 + 2, none⟩ = some (.int .i64 x.l) := hcc i x hx 2 (by omega)
            have hc1 : wr.cell? ⟨b, o + i * 3 + 1, none⟩ = some (.int .i64 x.p) := HL.out.kept.cell_some (hcc i x hx 1 (by omega)) (by simp)
            have hc2 : wr.cell? ⟨b, o + i * 3 + 2, none⟩ = some (.int .i64 x.l) := HL.out.kept.cell_some hw2 (by simp)
            have HW2 := Lib.hid hw2
            have hj0 : (0 : Int) ≤ (i : Int) := by omega
            have hj1 : (i : Int) < (acts.length : Int) := by omega
            have d1 : decide ((i : Int) < (acts.length : Int)) = true := by simpa using hg1
            have d2 : decide ((i : Int) < 40) = true := by simp; omega
            obtain ⟨ak, xp, xl⟩ := x
            simp only at hc1 hc2 HW2
            clear hcc hx hw2
            by_cases hp : (0 ≤ xp ∧ xp < k) ∧ 0 ≤ xl ∧ xl < 8
            · obtain ⟨⟨hp1, hp2⟩, hp3, hp4⟩ := hp
              obtain ⟨p, rfl⟩ := Int.eq_ofNat_of_zero_le hp1
              have hpk : p < k := by omega
              obtain ⟨y, hy⟩ := Mf_some f k p hpk
              rw [← HI.out.find] at hy
              have hhold : holdL xl = xl := by rw [holdL, if_neg (by omega), if_neg (by omega)]
              have HMV := Lib.hid (my_move w _ w.heap.size L k p xl y HL.out (by rw [HLL.out]; omega) hy)
              rw [hhold] at HMV
              have HI2 : Hid (Inv (insW ⟨y.p, xl, y.n⟩ (L.eraseP (isP p))) (Mf (f.set p xl) k) k) := by
                rw [Mf_move f k p xl (by rw [HFL.out]; omega)]
                exact HI.out.move hy hp3 (by omega)
              generalize insW ⟨y.p, xl, y.n⟩ (L.eraseP (isP p)) = L2 at *
              have hq0 : (0 : Int) ≤ (p : Int) := by omega
              have hq1 : (p : Int) < 64 := by omega
              clear hhold hy
              go_wp2_with fail
              refine (HMV.out).mono ?_
              rintro e w2 ⟨rfl, h2, ho2⟩
              have HL2 := Lib.hid h2
              have HB2 := Lib.hid (ho2 _ _ _ HB.out (by decide) (by decide))
              have hc3 : w2.cell? ⟨wc.heap.size, p, none⟩ = some (.int .i64 (f.getD p 0)) := by rw [HB2.out.cell, intsC_get f p (by rw [HFL.out]; omega)]
              have hf3 := HB2.out.frozen
              have hl3 := HB2.out.lt
              have hc4 : w2.cell? ⟨b, o + i * 3 + 2, none⟩ = some (.int .i64 xl) := h2.kept.cell_some HW2.out (by simp)
              have HL3 := Lib.hid (h2.set (by have := H1.out.kept.size; omega) HB2.out (by decide) (by decide) p (.int .i64 xl))
              have HB3 : Hid (Blk (w2.setCell ⟨wc.heap.size, p, none⟩ (.int .i64 xl)) wc.heap.size 3 (intsC (f.set p xl))) := by
                have := HB2.out.set p (.int .i64 xl)
                rw [intsC_set] at this
                exact this
              clear h2 ho2 hc1 hc2
              go_wp2_with fail
              go_roundw
              case rel => exact ⟨i + 1, f.set p xl, L2, by omega, by omega, by go_num, by rw [List.length_set]; exact HFL.out, HI2, HL3, HB3⟩
              case measure => simp [intOf]; omega
            · rcases (by omega : xp < 0 ∨ (0 ≤ xp ∧ (k : Int) ≤ xp) ∨ (0 ≤ xp ∧ xp < k ∧ xl < 0) ∨ (0 ≤ xp ∧ xp < k ∧ 0 ≤ xl ∧ 8 ≤ xl)) with h1 | ⟨h1, h2⟩ | ⟨h1, h2, h3⟩ | ⟨h1, h2, h3, h4⟩
              · have e1 : decide (0 ≤ xp) = false := by simp; omega
                clear hp
                go_wp2_with fail
                go_roundw
                case rel => exact ⟨i + 1, f, L, by omega, by omega, by go_num, HFL.out, HI, HL, HB⟩
                case measure => simp [intOf]; omega
              · have e1 : decide (0 ≤ xp) = true := by simpa using h1
                have e2 : decide (xp < (k : Int)) = false := by simp; omega
                clear hp
                go_wp2_with fail
                go_roundw
                case rel => exact ⟨i + 1, f, L, by omega, by omega, by go_num, HFL.out, HI, HL, HB⟩
                case measure => simp [intOf]; omega
              · have e1 : decide (0 ≤ xp) = true := by simpa using h1
                have e2 : decide (xp < (k : Int)) = true := by simpa using h2
                have e3 : decide (0 ≤ xl) = false := by simp; omega
                clear hp
                go_wp2_with fail
                go_roundw
                case rel => exact ⟨i + 1, f, L, by omega, by omega, by go_num, HFL.out, HI, HL, HB⟩
                case measure => simp [intOf]; omega
              · have e1 : decide (0 ≤ xp) = true := by simpa using h1
                have e2 : decide (xp < (k : Int)) = true := by simpa using h2
                have e3 : decide (0 ≤ xl) = true := by simpa using h3
                have e4 : decide (xl < 8) = false := by simp; omega
                clear hp
                go_wp2_with fail
                go_roundw
                case rel => exact ⟨i + 1, f, L, by omega, by omega, by go_num, HFL.out, HI, HL, HB⟩
                case measure => simp [intOf]; omega
          · have hex : (decide (i < acts.length) = false ∧ acts.length ≤ i) ∨ ((decide (i < acts.length) = true ∧ i < acts.length) ∧ decide ((i : Int) < 40) = false) := by
              by_cases h1 : i < acts.length
              · right; exact ⟨⟨by simpa using h1, h1⟩, by simp; omega⟩
              · left; exact ⟨by simp; omega, by omega⟩
            clear hgo
            rcases hex with ⟨d1, d3⟩ | ⟨⟨d1, d3⟩, d2⟩
            all_goals
              go_wp2_with fail
              go_loopw [11, 12] (fun lv iv wr => ∃ (i : Nat) (lst : Int), i ≤ k ∧ iv = .int .i64 i ∧ lv = .int .i64 lst ∧ Hid ((lst = -1 ∧ i = 0) ∨ ∃ y, 0 < i ∧ L[i - 1]? = some y ∧ lst = y.p) ∧ Hid (MyLine w wr w.heap.size (L.drop i) k) ∧ Hid (Blk wr wc.heap.size 3 (intsC f))) (fun _ i _ => k - (intOf i).toNat)
              case atStart => exact ⟨0, -1, by omega, rfl, rfl, .inl ⟨rfl, rfl⟩, HL, HB⟩
              case round =>
                clear HL HB hi1 hi2
                obtain ⟨i3, lst, hi3, rfl, rfl, HLS, HL, HB⟩ := hrel
                by_cases hlt : i3 < k
                · have hxl : i3 < L.length := by rw [HLL.out]; exact hlt
                  obtain ⟨x, hx⟩ : ∃ x, L[i3]? = some x := ⟨L[i3], List.getElem?_eq_getElem hxl⟩
                  have hdr : L.drop i3 = x :: L.drop (i3 + 1) := by
                    rw [List.drop_eq_getElem_cons hxl]
                    rw [List.getElem?_eq_getElem hxl] at hx
                    injection hx with hx
                    rw [hx]
                  have hln : (x :: L.drop (i3 + 1)).length ≤ 1000 := by rw [← hdr, List.length_drop, HLL.out]; omega
                  rw [hdr] at HL
                  have HPOP := Lib.hid (my_pop w _ w.heap.size x (L.drop (i3 + 1)) k HL.out hln)
                  obtain ⟨j, hj, hxp, hxv, hxn⟩ := mem_Mf (HI.out.mem (List.mem_of_getElem? hx))
                  have HX := Lib.hid hx
                  obtain ⟨xp, xl, xn⟩ := x
                  simp only at hxp hxv hxn
                  subst hxp hxv hxn
                  clear hx hdr hln
                  rcases HLS.out with ⟨h1, h2⟩ | ⟨y, h1, h2, h3⟩
                  · subst h1 h2
                    go_wp2_with fail
                    refine (HPOP.out).mono ?_
                    rintro e w2 ⟨rfl, h2, ho2⟩
                    have HL2 := Lib.hid h2
                    have HB2 := Lib.hid (ho2 _ _ _ HB.out (by decide) (by decide))
                    clear h2 ho2
                    go_wp2_with fail
                    go_quiet (fail)
                    go_wp2_with fail
                    go_roundw
                    case rel => exact ⟨1, (j : Int), by omega, by go_num, rfl, .inr ⟨_, by omega, HX.out, rfl⟩, HL2.out.old (by (repeat (first | (with_reducible exact Kept.refl _ _) | (with_reducible assumption) | (with_reducible refine Kept.alloc ?_ _) | (with_reducible refine Kept.drew ?_) | (with_reducible refine Kept.drewN ?_ _) | (with_reducible refine Kept.setCell ?_ ?_ _) | (exact .inr (Nat.le_refl _)) | (exact .inr (by simp only; omega)) | (exact .inr (by omega))))), by first | exact HB2 | exact HB2.out.drewN _⟩
                    case measure => simp [intOf]; omega
                  · obtain ⟨j2, hj2, hyp, hyv, hyn⟩ := mem_Mf (HI.out.mem (List.mem_of_getElem? h2))
                    have hah : aheadB y ⟨(j : Int), f.getD j 0, j + 1⟩ = true := by
                      obtain ⟨g1, g2⟩ := List.getElem?_eq_some_iff.1 h2
                      obtain ⟨g3, g4⟩ := List.getElem?_eq_some_iff.1 HX.out
                      have := List.pairwise_iff_getElem.1 HI.out.sorted (i3 - 1) i3 g1 g3 (by omega)
                      rw [g2, g4] at this
                      exact this
                    obtain ⟨yp, yl, yn⟩ := y
                    simp only at hyp hyv hyn h3
                    subst hyp hyv hyn h3
                    rw [aheadB_iff] at hah
                    simp only at hah
                    have HAH := Lib.hid hah
                    have q1 : (0 : Int) ≤ (j2 : Int) := by omega
                    have q2 : (j2 : Int) < 64 := by omega
                    have q3 : (j : Int) < 64 := by omega
                    clear hah h1 h2
                    go_wp2_with fail
                    refine (HPOP.out).mono ?_
                    rintro e w2 ⟨rfl, h2, ho2⟩
                    have HL2 := Lib.hid h2
                    have HB2 := Lib.hid (ho2 _ _ _ HB.out (by decide) (by decide))
                    have c1 : w2.cell? ⟨wc.heap.size, j, none⟩ = some (.int .i64 (f.getD j 0)) := by rw [HB2.out.cell, intsC_get f j (by rw [HFL.out]; omega)]
                    have c2' : w2.cell? ⟨wc.heap.size, j2, none⟩ = some (.int .i64 (f.getD j2 0)) := by rw [HB2.out.cell, intsC_get f j2 (by rw [HFL.out]; omega)]
                    clear h2 ho2
                    generalize f.getD j 0 = fa at *
                    generalize f.getD j2 0 = fb at *
                    have q4 : decide (fa < fb) = false := by have := HAH.out; simp; omega
                    by_cases heq : fb = fa
                    · have q5 : (fb == fa) = true := beq_iff_eq.2 heq
                      have q6 : decide ((j : Int) ≤ (j2 : Int)) = false := by have := HAH.out; simp; omega
                      have q7 : decide (j ≤ j2) = false := by have := HAH.out; simp; omega
                      clear heq
                      go_wp2_with fail
                      go_quiet (fail)
                      go_wp2_with fail
                      go_roundw
                      case rel => exact ⟨i3 + 1, (j : Int), by omega, by go_num, rfl, .inr ⟨_, by omega, HX.out, rfl⟩, HL2.out.old (by (repeat (first | (with_reducible exact Kept.refl _ _) | (with_reducible assumption) | (with_reducible refine Kept.alloc ?_ _) | (with_reducible refine Kept.drew ?_) | (with_reducible refine Kept.drewN ?_ _) | (with_reducible refine Kept.setCell ?_ ?_ _) | (exact .inr (Nat.le_refl _)) | (exact .inr (by simp only; omega)) | (exact .inr (by omega))))), by first | exact HB2 | exact HB2.out.drewN _⟩
                      case measure => simp [intOf]; omega
                    · have q5 : (fb == fa) = false := beq_eq_false_iff_ne.2 heq
                      clear heq
                      go_wp2_with fail
                      go_quiet (fail)
                      go_wp2_with fail
                      go_roundw
                      case rel => exact ⟨i3 + 1, (j : Int), by omega, by go_num, rfl, .inr ⟨_, by omega, HX.out, rfl⟩, HL2.out.old (by (repeat (first | (with_reducible exact Kept.refl _ _) | (with_reducible assumption) | (with_reducible refine Kept.alloc ?_ _) | (with_reducible refine Kept.drew ?_) | (with_reducible refine Kept.drewN ?_ _) | (with_reducible refine Kept.setCell ?_ ?_ _) | (exact .inr (Nat.le_refl _)) | (exact .inr (by simp only; omega)) | (exact .inr (by omega))))), by first | exact HB2 | exact HB2.out.drewN _⟩
                      case measure => simp [intOf]; omega
                · obtain rfl : i3 = k := by omega
                  have hdr : L.drop i3 = [] := List.drop_of_length_le (by rw [HLL.out]; omega)
                  rw [hdr] at HL
                  have HLEN := Lib.hid (my_len w _ w.heap.size [] i3 HL.out)
                  simp only [List.length_nil, Int.cast_ofNat_Int] at HLEN
                  clear hdr
                  go_wp2_with fail
                  refine (HLEN.out).mono ?_
                  rintro e w2 ⟨rfl, rfl⟩
                  go_wp2_with fail
                  refine (awake23 _).mono ?_
                  rintro e w3 ⟨rfl, hk3⟩
                  have HK3 := Lib.hid (HL.out.kept.trans hk3)
                  clear hk3
                  go_wp2_with fail
                  go_ret
                  exact ⟨rfl, HK3.out⟩

end Go.Proofs.Ytljimcdppeejfaa
