/- Law 26: LockBest, walked. -/
import Derived.Test.YtfoeijiejpenpaaDoorLkGl
import Derived.Deep.RegionHeld3
import Derived.Test.YtfoeijiejpenpaaDoorRegion
namespace Go.Proofs.YtfoeijiejpenpaaDoor
open Go.RowKit

theorem lineM_out {s : Lk} {l : Int} (h : ¬ (0 ≤ l ∧ l < s.lines.length)) : lineM s l = [] := by unfold lineM; rw [if_neg h]
theorem lineM_sorted {s : Lk} {K : Nat} (h : LkAll s K) (l : Int) : (lineM s l).Pairwise (fun p q => s.eff.getD p.toNat 0 ≤ s.eff.getD q.toNat 0) := by
  by_cases hl : 0 ≤ l ∧ l < s.lines.length
  · obtain ⟨m, rfl⟩ : ∃ m : Nat, l = m := ⟨l.toNat, by omega⟩
    have hm : m < s.lines.length := by omega
    unfold lineM
    rw [if_pos hl, Int.toNat_natCast, List.getD_eq_getElem?_getD, List.getElem?_eq_getElem hm]
    have hok := h.lines m s.lines[m].1 s.lines[m].2 (List.getElem?_eq_getElem hm)
    obtain ⟨M, hM⟩ := hok.inv
    refine List.pairwise_map.2 (hM.sorted.imp_of_mem fun {a b} ha hb hab => ?_)
    have h1 := (hok.mem a ha).2.2.2
    have h2 := (hok.mem b hb).2.2.2
    rw [← h1, ← h2]
    rcases (aheadB_iff a b).1 hab with h3 | h3 <;> omega
  · rw [lineM_out hl]; exact .nil
theorem lineM_range {s : Lk} {K : Nat} (h : LkAll s K) {l : Int} {x : Int} (hx : x ∈ lineM s l) : ∃ i : Nat, x = i ∧ i < s.eff.length := by
  by_cases hl : 0 ≤ l ∧ l < s.lines.length
  · obtain ⟨m, rfl⟩ : ∃ m : Nat, l = m := ⟨l.toNat, by omega⟩
    obtain ⟨i, h1, h2, _⟩ := lineM_mem h (by omega) hx
    exact ⟨i, h1, by rw [← h.whole.waits]; exact h2⟩
  · rw [lineM_out hl] at hx; simp at hx
/-- A line's levels. -/
def effL (s : Lk) (l : Int) : List Int := (lineM s l).map fun p => s.eff.getD p.toNat 0
theorem effL_sorted {s : Lk} {K : Nat} (h : LkAll s K) (l : Int) {i j : Nat} (hij : i < j) {x y : Int} (hx : (effL s l)[i]? = some x) (hy : (effL s l)[j]? = some y) : x ≤ y := by
  have hp : (effL s l).Pairwise (fun a b => a ≤ b) := by unfold effL; exact List.pairwise_map.2 (lineM_sorted h l)
  obtain ⟨h1, rfl⟩ := List.getElem?_eq_some_iff.1 hx
  obtain ⟨h2, rfl⟩ := List.getElem?_eq_some_iff.1 hy
  exact List.pairwise_iff_getElem.1 hp i j h1 h2 hij
theorem unl_nil {s : Lk} {t l : Int} (hl : lineM s l = []) : unlN s t l = -1 := by
  unfold unlN
  split
  · rename_i he
    have hr : 0 ≤ l ∧ l < s.lines.length := by
      unfold unlE at he
      split at he
      · omega
      · split at he
        · omega
        · rename_i h; exact Decidable.byContradiction fun hx => h hx
    unfold lineM at hl
    rw [if_pos hr] at hl
    unfold passN
    generalize s.lines.getD l.toNat ([], 0) = z at *
    obtain ⟨L, last⟩ := z
    cases L with
    | nil => rfl
    | cons x r => simp at hl
  · rfl
theorem unl_cons {s : Lk} {K : Nat} (h : LkAll s K) {t l p : Int} {r : List Int} (he : unlE s t l = 0) (hl : lineM s l = p :: r) : unlN s t l = p ∧ getO (unlS s t l).owner l = p := by
  have hr : 0 ≤ l ∧ l < s.lines.length := Decidable.byContradiction fun hx => by rw [lineM_out hx] at hl; cases hl
  obtain ⟨m, rfl⟩ : ∃ m : Nat, l = m := ⟨l.toNat, by omega⟩
  have hm : m < s.owner.length := by rw [h.whole.owner]; omega
  unfold lineM at hl
  rw [if_pos hr] at hl
  unfold unlN unlS
  rw [if_pos he, if_pos he]
  unfold passN passS
  rw [Int.toNat_natCast] at hl ⊢
  generalize s.lines.getD m ([], 0) = z at *
  obtain ⟨L, last⟩ := z
  cases L with
  | nil => simp at hl
  | cons x r =>
    simp only [List.map_cons, List.cons.injEq] at hl
    refine ⟨hl.1, ?_⟩
    show getO (s.owner.set m x.p) m = p
    rw [getO_set hm, if_pos rfl]
    exact hl.1
theorem unl_bad {s : Lk} {t l : Int} (he : unlE s t l ≠ 0) : unlN s t l = -1 := by unfold unlN; rw [if_neg he]
/-- Unlock, with what stays. -/
theorem best_unlock {w0 w : World} {g n : Nat} {a : LkA} {s : Lk} {js : List (List Int)} (h : LkSt w0 w g n a s js) (t l : Int) :
    Calls Tryd.prog 12 #[.pointer (some ⟨g, 0, none⟩), .int .i64 t, .int .i64 l] w fun e w' => e = .returned (.tuple #[.int .i64 (unlN s t l), .int .i64 (unlE s t l)]) ∧ (∃ a', LkSt w0 w' g (n + 1) a' (unlS s t l) js) ∧ Kept (fpL a s) w w' := by
  obtain rfl := h.g_
  refine (lkUnlock_any h.is.is.self h.all.whole t l h.all.places).mono ?_
  rintro e w' ⟨rfl, a', ha, hl⟩
  have hs := unl_same h.all t l
  exact ⟨rfl, ⟨a', congrArg Prod.fst ha, (h.is.step (h.is.is.back hl) ha hs.n).more (Nat.le_succ n), (unl_inv h.all t l).mono (Nat.le_succ n) (fun _ x => x), unl_j h.all h.j t l, hs.n.trans h.n6, hs.m.trans h.m6⟩, hl.kept⟩
theorem fpL_lt {w : World} {a : LkA} {s : Lk} (h : LkAt w a s) : ∀ k ∈ fpL a s, k < w.heap.size := fun k hk => by
  obtain ⟨p, hp, hk'⟩ := fpL_mem.1 hk
  exact Piece.lt (h.2.1 p hp) k hk'

set_option maxHeartbeats 25600000 in
set_option maxRecDepth 100000 in
theorem lockBest_any (A : Option Addr) (n c : Nat) (acts : List Ac) (w : World) (hr : Reads w 3 A n (acts.flatMap aL)) (hn : n ≤ 9223372036854775807) (hk : ∀ a ∈ acts, a.k < 256) (hD : HasDb w) :
    Calls Tryd.prog 3 #[.slice A n c] w fun e w' => e = .returned (.bool true) ∧ Kept [] w w' := by
  have hal := hr.lenK aL 3 aL_len (by omega)
  subst hal
  have HR := Lib.hid hr
  have HD := Lib.hid hD
  have HN := Lib.hid (new_go w)
  have HK := Lib.hid hk
  clear hr hD hk
  go_enter Tryd.func3, Tryd.ntmps3
  go_wp2_with fail
  refine (HN.out).mono ?_
  rintro e w1 ⟨g, rfl, hg⟩
  have HG := Lib.hid hg
  clear hg HN
  go_wp2_with fail
  go_loopw [4] (fun iv wr => ∃ i : Nat, i ≤ acts.length ∧ i ≤ 70 ∧ iv = .int .i64 i ∧ Hid (LkGo w wr g i)) (fun i _ => 70 - (intOf i).toNat)
  case atStart => exact ⟨0, by omega, by omega, rfl, HG.out⟩
  case round =>
    clear HG
    obtain ⟨i, hi1, hi2, rfl, HG⟩ := hrel
    by_cases hgo : i < acts.length ∧ i < 70
    · obtain ⟨hg1, hg2⟩ := hgo
      obtain ⟨x, hx⟩ : ∃ x, acts[i]? = some x := ⟨acts[i], List.getElem?_eq_getElem hg1⟩
      have hxk := HK.out x (List.mem_of_getElem? hx)
      have hkw : Kept [] w wr := by obtain ⟨_, _, _, h⟩ := HG.out; exact h.kept
      obtain ⟨b, o, rfl, hb0, hcc⟩ := HR.out.cellsK aL 3 aL_len (by omega) (by omega)
      have hc0 : wr.cell? ⟨b, o + i * 3, none⟩ = some (.int .u8 x.k) := hkw.cell_some (hcc i x hx 0 (by omega)) (by simp)
      have hc1 : wr.cell? ⟨b, o + i * 3 + 1, none⟩ = some (.int .i64 x.p) := hkw.cell_some (hcc i x hx 1 (by omega)) (by simp)
      have hc2 : wr.cell? ⟨b, o + i * 3 + 2, none⟩ = some (.int .i64 x.l) := hkw.cell_some (hcc i x hx 2 (by omega)) (by simp)
      have hj0 : (0 : Int) ≤ (i : Int) := by omega
      have hj1 : (i : Int) < (acts.length : Int) := by omega
      have d1 : decide ((i : Int) < (acts.length : Int)) = true := by simpa using hg1
      have d2 : decide ((i : Int) < 70) = true := by simp; omega
      obtain ⟨ak, xp, xl⟩ := x
      simp only at hc0 hc1 hc2 hxk
      have HSM := Lib.hid (small_any ak hxk xp xl wr)
      have HPL := Lib.hid (fun W (h : LkGo w W g i) A' B' => plays_any h (by omega) HD.out ak hxk A' B')
      have hak0 : (0 : Int) ≤ (ak : Int) := by omega
      have hak1 : (ak : Int) < 256 := by omega
      obtain ⟨r, hrr, hrl⟩ : ∃ r : Nat, (ak : Int) % 11 = r ∧ r < 11 := ⟨ak % 11, by omega, by omega⟩
      clear hcc hx hkw hxk hb0
      rcases (by omega : r = 4 ∨ r = 5 ∨ (r ≠ 4 ∧ r ≠ 5)) with rfl | rfl | ⟨hr4, hr5⟩
      · have HG1 := HG
        clear HPL
        go_wp2_with fail
        refine (HSM.out).mono ?_
        rintro e w2 ⟨⟨A', B', rfl⟩, hk2⟩
        have HG2 := Lib.hid ((HG.out.old hk2).old ((Kept.refl [] w2).alloc (.cells #[.int .u8 ak, .int .i64 A', .int .i64 B'] 26)))
        have HBX : Hid (Blk (w2.alloc (.cells #[.int .u8 ak, .int .i64 A', .int .i64 B'] 26)) w2.heap.size 26 #[.int .u8 ak, .int .i64 A', .int .i64 B']) := Blk.new w2 _ _
        obtain ⟨a, s, js, hst⟩ := HG2.out
        have HST := Lib.hid hst
        have HLN := Lib.hid (lkLine_any hst.is.is hst.all.whole B')
        rw [hst.g_] at HLN
        have HFL := Lib.hid (fpL_lt hst.is.is.at_)
        have hll := lineM_len hst.all B'
        clear hk2 hc0 hc1 hc2 hst HG1 HG HSM HG2
        go_wp2_with fail
        refine (HLN.out).mono ?_
        rintro e w4 ⟨A6, n6, c6, rfl, hf⟩
        have hn6 : n6 = (lineM s B').length := by have := hf.reads.1; simpa using this.symm
        have HF := Lib.hid hf
        have HS4 := Lib.hid (HST.out.old hf.2.1)
        have HB4 := Lib.hid (HBX.out.kept hf.2.1 (by simp))
        have HEF : Hid (∀ W, Kept [] w4 W → ∀ t : Nat, t < 6 → Calls Tryd.prog 11 #[.pointer (some ⟨g, 0, none⟩), .int .i64 t] W fun e W' => e = .returned (.int .i64 (s.eff.getD t 0)) ∧ W = W') := fun W hk t ht => by
          have h1 := lkEff_any (HS4.out.is.is.at_.old hk) t
          have h2 : effM s t = s.eff.getD t 0 := by unfold effM; rw [if_pos (by have := HS4.out.n6; omega)]; rfl
          rw [HS4.out.g_, h2] at h1
          exact h1
        subst hn6
        generalize hLN : (lineM s B').length = ln at *
        have HLL := Lib.hid hLN
        clear hf hLN HLN HBX
        go_wp2_with fail
        go_loopw [7, 8] (fun ev kv wr2 => ∃ (k : Nat) (A7 : Option Addr) (c7 : Nat), k ≤ ln ∧ ev = .slice A7 k c7 ∧ kv = .int .i64 k ∧ Hid (wr2.ownsRow 0 3 1 (.slice A7 k c7) k (((effL s B').take k).map I64)) ∧ Hid (∀ q ∈ fp (.slice A7 k c7), w4.heap.size ≤ q) ∧ Hid (Kept [] w4 wr2)) (fun _ k _ => ln - (intOf k).toNat)
        case atStart => exact ⟨0, none, 0, by omega, rfl, rfl, World.ownsRow_nil _ _ _ _, (by show ∀ q ∈ fp (.slice none 0 0), _; simp [fp, Value.ownBlock]), Kept.refl _ _⟩
        case round =>
          obtain ⟨k, A7, c7, hk1, rfl, rfl, HROW, HNEW, HK2⟩ := hrel
          have hcB := (HB4.out.kept HK2.out (by simp)).cell
          by_cases hkl : k < ln
          · have hkx : (lineM s B')[k]? = some ((lineM s B')[k]'(by rw [HLL.out]; exact hkl)) := List.getElem?_eq_getElem _
            obtain ⟨j, hj1, hj2⟩ := lineM_range HST.out.all (List.mem_of_getElem? hkx)
            rw [hj1] at hkx
            have hj6 : j < 6 := by have := HST.out.n6; omega
            have HEJ := Lib.hid (HEF.out _ HK2.out j hj6)
            obtain ⟨bb, off, rfl, hbl, hcl⟩ := (HF.out.reads.old HK2.out).addr (by omega) (by omega)
            have hck := hcl k (.int .i64 (j : Int)) (by rw [List.getElem?_map, hkx]; rfl)
            have HTK : Hid ((effL s B').take (k + 1) = (effL s B').take k ++ [s.eff.getD j 0]) := by
              show List.take _ _ = _
              rw [List.take_add_one]
              unfold effL
              rw [List.getElem?_map, hkx]
              rfl
            generalize s.eff.getD j 0 = ej at *
            have hq0 : (0 : Int) ≤ (k : Int) := by omega
            have hq1 : (k : Int) < (ln : Int) := by omega
            clear hcl hkx hj1 hj2 hcB
            go_wp2_with fail
            refine (HEJ.out).mono ?_
            rintro e w5 ⟨rfl, rfl⟩
            go_wp2_with (at_builtin; refine wpList_append_any _ rfl _ _ 29 rfl 3 (.int .i64 0) 1 8 Tryd.underlying29 Tryd.infoInt rfl (by decide) (.slice A7 k c7) k (((effL s B').take k).map I64) rfl (own_kept HROW.out ((Kept.refl [] _).alloc _) (by simp)) _ 1 1 [.int .i64 ej] rfl (reads_one _ _ _) (by simp [Value.oneCell']) (by simp only [maxLen]; omega) (by omega) ?_; rintro A8 c8 w6 happ; have HA := Lib.hid happ; clear happ)
            go_roundw
            case rel =>
              refine ⟨k + 1, A8, c8, by omega, by first | rfl | go_num, by go_num, ?_, ?_, ?_⟩
              · show World.ownsRow _ _ _ _ _ _ _
                rw [HTK.out, List.map_append]
                exact HA.out.1
              · intro q hq
                rcases HA.out.2.2 q hq with h1 | h1
                · exact HNEW.out q h1
                · have := HK2.out.size; simp at h1; omega
              · exact (HK2.out.alloc _).trans' HA.out.2.1 (fun q hq => .inr (HNEW.out q hq))
            case measure => simp [intOf]; omega
          · obtain rfl : k = ln := by omega
            have HE7 : Hid ((effL s B').take k = effL s B') := List.take_of_length_le (by unfold effL; rw [List.length_map, HLL.out]; exact Nat.le_refl _)
            have hSU := HS4.out.old HK2.out
            have HUN := Lib.hid (best_unlock hSU A' B')
            have hcB0 : wr.cell? ⟨w2.heap.size, 1, none⟩ = some (.int .i64 A') := hcB 1
            have hcB1 : wr.cell? ⟨w2.heap.size, 2, none⟩ = some (.int .i64 B') := hcB 2
            have HPOST : Hid (∀ wu, Kept (fpL a s) wr wu → Reads wu 1 A7 k ((effL s B').map I64) ∧ Reads wu 1 A6 k ((lineM s B').map I64) ∧ Blk wu w2.heap.size 26 #[.int .u8 ak, .int .i64 A', .int .i64 B']) := fun wu hku => by
              have hsz := HF.out.2.1.size
              refine ⟨?_, ?_, ?_⟩
              · have h1 := HROW.out
                rw [HE7.out] at h1
                exact Reads.of_own (own_kept h1 hku (fun q hq hm => by have := HFL.out q hm; have := HNEW.out q hq; omega))
              · exact Reads.of_own (own_kept (own_kept HF.out.1 HK2.out (by simp)) hku (fun q hq hm => by have := HFL.out q hm; have := HF.out.2.2 q hq; omega))
              · exact (HB4.out.kept HK2.out (by simp)).kept hku (hSU.is.is.at_.no_blk hSU.is.exJ (HB4.out.kept HK2.out (by simp)) (by decide))
            have HUA : Hid (∀ (p : Int) (r : List Int), unlE s A' B' = 0 → lineM s B' = p :: r → unlN s A' B' = p ∧ getO (unlS s A' B').owner B' = p) := fun p r he hl => unl_cons HST.out.all he hl
            have HUB := Lib.hid (fun (hl : lineM s B' = []) => unl_nil (t := A') hl)
            have HUC := Lib.hid (fun (he : unlE s A' B' ≠ 0) => unl_bad he)
            have HSO : Hid (∀ (i j : Nat) (x y : Int), i < j → (effL s B')[i]? = some x → (effL s B')[j]? = some y → x ≤ y) := fun i j x y hij hx hy => effL_sorted HST.out.all B' hij hx hy
            have HEL : Hid ((effL s B').length = k) := by show (effL s B').length = _; unfold effL; rw [List.length_map]; exact HLL.out
            clear hSU hcB HROW HNEW HEF HB4 HS4 HE7
            generalize unlE s A' B' = E at *
            generalize unlN s A' B' = NX at *
            generalize unlS s A' B' = s2 at *
            generalize effL s B' = EL at *
            by_cases hE : E = 0
            · subst hE
              cases hlc : lineM s B' with
              | nil =>
                have hk0 : k = 0 := by rw [← HLL.out, hlc]; rfl
                have hNX := HUB.out hlc
                subst hk0 hNX
                rw [hlc] at HPOST
                clear HUA HUB HUC hlc HF
                go_wp2_with fail
                refine (HUN.out).mono ?_
                rintro e wu ⟨rfl, hgo, hku⟩
                have HGO : Hid (LkGo w wu g (i + 1)) := (by obtain ⟨a2, h⟩ := hgo; exact ⟨a2, _, _, h⟩)
                have hpost := HPOST.out _ hku
                have HEU := Lib.hid hpost.1
                have hcu2 : wu.cell? ⟨w2.heap.size, 2, none⟩ = some (.int .i64 B') := hpost.2.2.cell 2
                clear hgo hku hpost HUN HPOST
                go_wp2_with fail
                go_loopw [11] (fun kv wr3 => ∃ q : Nat, q ≤ EL.length ∧ kv = .int .i64 ((q : Int) + 1) ∧ Hid (Kept [] wu wr3)) (fun k _ => EL.length + 1 - (intOf k).toNat)
                case atStart => exact ⟨0, by omega, by first | rfl | go_num, Kept.refl _ _⟩
                case round =>
                  obtain ⟨q, hq1, rfl, HKQ⟩ := hrel
                  have hEL := HEL.out
                  by_cases hql : q + 1 < EL.length
                  · omega
                  · have hq7 : (((0 : Nat) : Int) : Int) ≤ (q : Int) + 1 := by omega
                    have HGO2 := Lib.hid (HGO.out.old HKQ.out)
                    clear HGO hEL
                    go_wp2_with fail
                    obtain ⟨a3, s3, js3, hst3⟩ := HGO2.out
                    have HST3 := Lib.hid hst3
                    generalize hwp : wr = wp at *
                    have HLN3 : Hid (∀ W, Kept [] wp W → ∀ m : Nat, Calls Tryd.prog 10 #[.pointer (some ⟨g, 0, none⟩), .int .i64 m] W fun e W' => ∃ A n c, e = .returned (.slice A n c) ∧ FreshI W W' (lineM s3 m) A n c) := fun W hk m => by
                      have h1 := lkLine_any (hst3.is.is.old hk) hst3.all.whole m
                      rw [hst3.g_] at h1
                      exact h1
                    have HEF3 : Hid (∀ W, Kept [] wp W → ∀ t : Nat, t < 6 → Calls Tryd.prog 11 #[.pointer (some ⟨g, 0, none⟩), .int .i64 t] W fun e W' => e = .returned (.int .i64 (s3.eff.getD t 0)) ∧ W = W') := fun W hk t ht => by
                      have h1 := lkEff_any (hst3.is.is.at_.old hk) t
                      have h2 : effM s3 t = s3.eff.getD t 0 := by unfold effM; rw [if_pos (by have := hst3.n6; omega)]; rfl
                      rw [hst3.g_, h2] at h1
                      exact h1
                    clear hst3
                    go_loopw [12] (fun mv wr2 => ∃ m : Nat, m ≤ 6 ∧ mv = .int .i64 m ∧ Hid (Kept [] wp wr2)) (fun m _ => 6 - (intOf m).toNat)
                    case atStart => exact ⟨0, by omega, rfl, Kept.refl _ _⟩
                    case round =>
                      obtain ⟨m, hm1, rfl, HKM⟩ := hrel
                      by_cases hml : m < 6
                      · have HLM := Lib.hid (HLN3.out _ HKM.out m)
                        have hmi : (m : Int) < 6 := by omega
                        have hm6 : m < s3.lines.length := by have := HST3.out.m6; omega
                        have hll3 := lineM_len HST3.out.all m
                        go_wp2_with fail
                        refine (HLM.out).mono ?_
                        rintro e w8 ⟨A8, n8, c8, rfl, hf8⟩
                        have hn8 : n8 = (lineM s3 m).length := by have := hf8.reads.1; simpa using this.symm
                        have HF8 := Lib.hid hf8
                        have HK8 := Lib.hid (HKM.out.trans hf8.2.1)
                        subst hn8
                        generalize hLN3 : (lineM s3 m).length = l3 at *
                        have HL3 := Lib.hid hLN3
                        clear hf8 hLN3
                        go_wp2_with fail
                        go_loopw [14] (fun kv wr3 => ∃ q : Nat, q ≤ l3 ∧ kv = .int .i64 ((q : Int) + 1) ∧ Hid (Kept [] w8 wr3)) (fun k _ => l3 + 1 - (intOf k).toNat)
                        case atStart => exact ⟨0, by omega, by first | rfl | go_num, Kept.refl _ _⟩
                        case round =>
                          obtain ⟨q, hq1, rfl, HKQ8⟩ := hrel
                          by_cases hql : q + 1 < l3
                          · obtain ⟨y0, hy0⟩ : ∃ y0, (lineM s3 m)[q]? = some y0 := ⟨(lineM s3 m)[q]'(by rw [HL3.out]; omega), List.getElem?_eq_getElem _⟩
                            obtain ⟨y1, hy1⟩ : ∃ y1, (lineM s3 m)[q + 1]? = some y1 := ⟨(lineM s3 m)[q + 1]'(by rw [HL3.out]; omega), List.getElem?_eq_getElem _⟩
                            obtain ⟨j0, rfl, hj0b⟩ := lineM_range HST3.out.all (List.mem_of_getElem? hy0)
                            obtain ⟨j1, rfl, hj1b⟩ := lineM_range HST3.out.all (List.mem_of_getElem? hy1)
                            have hn63 := HST3.out.n6
                            have hle3 : s3.eff.getD j0 0 ≤ s3.eff.getD j1 0 := by
                              have := effL_sorted HST3.out.all m (Nat.lt_succ_self q) (x := s3.eff.getD j0 0) (y := s3.eff.getD j1 0) (by unfold effL; rw [List.getElem?_map, hy0]; rfl) (by unfold effL; rw [List.getElem?_map, hy1]; rfl)
                              exact this
                            obtain ⟨eb8, eo8, he8, hebl8, hecl8⟩ := (HF8.out.reads.old HKQ8.out).addr (by omega) (by omega)
                            subst he8
                            have hc80 := hecl8 q (.int .i64 (j0 : Int)) (by rw [List.getElem?_map, hy0]; rfl)
                            have hc81 := hecl8 (q + 1) (.int .i64 (j1 : Int)) (by rw [List.getElem?_map, hy1]; rfl)
                            have HE0 := Lib.hid (fun W hk => HEF3.out W hk j0 (by omega))
                            have HE1 := Lib.hid (fun W hk => HEF3.out W hk j1 (by omega))
                            have HKR := Lib.hid (HK8.out.trans HKQ8.out)
                            generalize s3.eff.getD j0 0 = f0 at *
                            generalize s3.eff.getD j1 0 = f1 at *
                            have hq4 : ((q : Int) + 1) < (l3 : Int) := by omega
                            have hq5 : (0 : Int) ≤ (q : Int) + 1 := by omega
                            have hq6 : (0 : Int) ≤ (q : Int) := by omega
                            have hq7 : (q : Int) < (l3 : Int) := by omega
                            have hq8 : ((q : Int) + 1).toNat = q + 1 := by omega
                            have hq12 : IntKind.i64.wrap (q : Int) = (q : Int) := IntWalk.i64_in _ (by omega)
                            clear hecl8 hy0 hy1 hj0b hj1b hn63
                            go_wp2_with fail
                            have hmix : Tryd.prog.follows .mixedOrders = true := by kernel_rfl
                            refine wp_region_held_drew (S := fun w' => w'.cell? ⟨eb8, eo8 + q, none⟩ = some (.int .i64 (j0 : Int)) ∧ w'.cell? ⟨eb8, eo8 + (q + 1), none⟩ = some (.int .i64 (j1 : Int))) hmix ⟨hc80, hc81⟩ (fun hHeld => ?_)
                            (refine rtake_0 (v := ?_) (by kernel_rfl) (by kernel_rfl) (by kernel_rfl) (fun _ _ _ h => h) (Or.inl ⟨by rfl, ?_⟩) (by assumption) ?_; rotate_left; focus ((intro w hSw; (try dsimp only at hSw); go_simp); try (with_reducible rfl)); (try simp only [Act.put, List.setIfInBounds_toArray, List.set_cons_zero, List.set_cons_succ]))
                            (refine rtake_1 (v := ?_) (by kernel_rfl) (by kernel_rfl) (by kernel_rfl) (fun _ _ _ h => h) (Or.inl ⟨by rfl, ?_⟩) (by assumption) ?_; rotate_left; focus ((intro w hSw; (try dsimp only at hSw); go_simp); try (with_reducible rfl)); (try simp only [Act.put, List.setIfInBounds_toArray, List.set_cons_zero, List.set_cons_succ]))
                            (refine rtake_2 (v := ?_) (by kernel_rfl) (by kernel_rfl) (by kernel_rfl) (fun _ _ _ h => h) (Or.inl ⟨by rfl, ?_⟩) (by assumption) ?_; rotate_left; focus ((intro w hSw; (try dsimp only at hSw); go_simp); try (with_reducible rfl)); (try simp only [Act.put, List.setIfInBounds_toArray, List.set_cons_zero, List.set_cons_succ]))
                            (refine rtake_3 (v := ?_) (by kernel_rfl) (by kernel_rfl) (by kernel_rfl) (fun _ _ _ h => h) (Or.inl ⟨by rfl, ?_⟩) (by assumption) ?_; rotate_left; focus ((intro w hSw; (try dsimp only at hSw); go_simp); try (with_reducible rfl)); (try simp only [Act.put, List.setIfInBounds_toArray, List.set_cons_zero, List.set_cons_succ]))
                            (refine rtake_4 (v := ?_) (by kernel_rfl) (by kernel_rfl) (by kernel_rfl) (fun _ _ _ h => h) (Or.inl ⟨by rfl, ?_⟩) (by assumption) ?_; rotate_left; focus ((intro w hSw; (try dsimp only at hSw); go_simp); try (with_reducible rfl)); (try simp only [Act.put, List.setIfInBounds_toArray, List.set_cons_zero, List.set_cons_succ]))
                            (refine rtake_5 (v := ?_) (by kernel_rfl) (by kernel_rfl) (by kernel_rfl) (fun _ _ _ h => h) (Or.inl ⟨by rfl, ?_⟩) (by assumption) ?_; rotate_left; focus ((intro w hSw; (try dsimp only at hSw); go_simp); try (with_reducible rfl)); (try simp only [Act.put, List.setIfInBounds_toArray, List.set_cons_zero, List.set_cons_succ]))
                            (refine rtake_7 (v := ?_) (by kernel_rfl) (by kernel_rfl) (by kernel_rfl) (fun _ _ _ h => h) (Or.inl ⟨by rfl, ?_⟩) (by assumption) ?_; rotate_left; focus ((intro w hSw; (try dsimp only at hSw); go_simp); try (with_reducible rfl)); (try simp only [Act.put, List.setIfInBounds_toArray, List.set_cons_zero, List.set_cons_succ]))
                            (refine rtake_8 (v := ?_) (by kernel_rfl) (by kernel_rfl) (by kernel_rfl) (fun _ _ _ h => h) (Or.inl ⟨by rfl, ?_⟩) (by assumption) ?_; rotate_left; focus ((intro w hSw; (try dsimp only at hSw); go_simp); try (with_reducible rfl)); (try simp only [Act.put, List.setIfInBounds_toArray, List.set_cons_zero, List.set_cons_succ]))
                            (refine rtake_9 (v := ?_) (by kernel_rfl) (by kernel_rfl) (by kernel_rfl) (fun _ _ _ h => h) (Or.inl ⟨by rfl, ?_⟩) (by assumption) ?_; rotate_left; focus ((intro w hSw; (try dsimp only at hSw); go_simp); try (with_reducible rfl)); (try simp only [Act.put, List.setIfInBounds_toArray, List.set_cons_zero, List.set_cons_succ]))
                            (refine rtake_10 (v := ?_) (by kernel_rfl) (by kernel_rfl) (by kernel_rfl) (fun _ _ _ h => h) (Or.inl ⟨by rfl, ?_⟩) (by assumption) ?_; rotate_left; focus ((intro w hSw; (try dsimp only at hSw); go_simp); try (with_reducible rfl)); (try simp only [Act.put, List.setIfInBounds_toArray, List.set_cons_zero, List.set_cons_succ]))
                            (refine rtake_11 (v := ?_) (by kernel_rfl) (by kernel_rfl) (by kernel_rfl) (fun _ _ _ h => h) (Or.inl ⟨by rfl, ?_⟩) (by assumption) ?_; rotate_left; focus ((intro w hSw; (try dsimp only at hSw); go_simp); try (with_reducible rfl)); (try simp only [Act.put, List.setIfInBounds_toArray, List.set_cons_zero, List.set_cons_succ]))
                            (refine wpAnyH_ready (rs := [6]) (by kernel_rfl) (by simp) ?_; refine rcons_6 (fun K hK => ?_) (AllReadyH.nil))
                            go_simp
                            (with_reducible refine (HE0.out _ (HKR.out.trans (by (repeat (first | (with_reducible exact Kept.refl _ _) | (with_reducible assumption) | (with_reducible refine Kept.alloc ?_ _) | (with_reducible refine Kept.drew ?_) | (with_reducible refine Kept.drewN ?_ _) | (with_reducible refine Kept.setCell ?_ ?_ _) | (exact .inr (Nat.le_refl _)) | (exact .inr (by simp only; omega)) | (exact .inr (by omega))))))).mono ?_)
                            rintro r w9 ⟨rfl, rfl⟩
                            try go_simp
                            refine hK.out _ _ ⟨hc80, hc81⟩ (fun hHeld => ?_)
                            clear hK K
                            (try simp only [Act.put, List.setIfInBounds_toArray, List.set_cons_zero, List.set_cons_succ])
                            (refine wpAnyH_ready (rs := [12]) (by kernel_rfl) (by simp) ?_; refine rcons_12 (fun K hK => ?_) (AllReadyH.nil))
                            go_simp
                            (with_reducible refine (HE1.out _ (HKR.out.trans (by (repeat (first | (with_reducible exact Kept.refl _ _) | (with_reducible assumption) | (with_reducible refine Kept.alloc ?_ _) | (with_reducible refine Kept.drew ?_) | (with_reducible refine Kept.drewN ?_ _) | (with_reducible refine Kept.setCell ?_ ?_ _) | (exact .inr (Nat.le_refl _)) | (exact .inr (by simp only; omega)) | (exact .inr (by omega))))))).mono ?_)
                            rintro r w9 ⟨rfl, rfl⟩
                            try go_simp
                            refine hK.out _ _ ⟨hc80, hc81⟩ (fun hHeld => ?_)
                            clear hK K
                            (try simp only [Act.put, List.setIfInBounds_toArray, List.set_cons_zero, List.set_cons_succ])
                            (refine rtake_13 (v := ?_) (by kernel_rfl) (by kernel_rfl) (by kernel_rfl) (fun _ _ _ h => h) (Or.inl ⟨by rfl, ?_⟩) (by assumption) ?_; rotate_left; focus ((intro w hSw; (try dsimp only at hSw); go_simp); try (with_reducible rfl)); (try simp only [Act.put, List.setIfInBounds_toArray, List.set_cons_zero, List.set_cons_succ]))
                            refine wpAnyH_done (by kernel_rfl) ?_ _
                            go_wp2_with fail
                            clear hHeld
                            go_roundw
                            case rel => exact ⟨q + 1, by omega, by go_num, HKQ8.out.drew⟩
                            case measure => simp [intOf]; omega
                          · have hq7 : (l3 : Int) ≤ (q : Int) + 1 := by omega
                            go_wp2_with fail
                            go_roundw
                            case rel => exact ⟨m + 1, by omega, by go_num, HK8.out.trans HKQ8.out⟩
                            case measure => simp [intOf]; omega
                      · obtain rfl : m = 6 := by omega
                        go_wp2_with fail
                        go_roundw
                        case rel => exact ⟨i + 1, by omega, by omega, by go_num, HGO2.out.old HKM.out⟩
                        case measure => simp [intOf]; omega
              | cons p rr =>
                obtain ⟨hNX, hOX⟩ := HUA.out p rr rfl hlc
                have hkn : 0 < k := by rw [← HLL.out, hlc]; simp
                subst hNX
                rw [hlc] at HPOST
                have HOX := Lib.hid hOX
                clear HUA HUB HUC hlc hOX HF
                have hkp : 0 < (k : Int) := by omega
                have hk0 : ((k : Int) == 0) = false := beq_eq_false_iff_ne.2 (by omega)
                go_wp2_with fail
                refine (HUN.out).mono ?_
                rintro e wu ⟨rfl, hgo, hku⟩
                have HGO : Hid (LkGo w wu g (i + 1)) := (by obtain ⟨a2, h⟩ := hgo; exact ⟨a2, _, _, h⟩)
                have HOB : Hid (Calls Tryd.prog 13 #[.pointer (some ⟨g, 0, none⟩), .int .i64 B'] wu fun e W' => e = .returned (.int .i64 NX) ∧ wu = W') := (by
                  obtain ⟨a2, h⟩ := hgo
                  have h1 := lkOwner_any h.is.is.at_ h.all.whole B'
                  rw [h.g_, HOX.out] at h1
                  exact h1)
                have hpost := HPOST.out _ hku
                have HEU := Lib.hid hpost.1
                have hcu2 : wu.cell? ⟨w2.heap.size, 2, none⟩ = some (.int .i64 B') := hpost.2.2.cell 2
                have hlu2 := hpost.2.2.lt
                obtain ⟨lb, lo, rfl, hlbl, hlcl⟩ := hpost.2.1.addr (by omega) (by omega)
                have hcl0 := hlcl 0 (.int .i64 NX) rfl
                rw [Nat.add_zero] at hcl0
                clear hgo hku hpost HUN HPOST hlcl
                go_wp2_with fail
                refine (HOB.out).mono ?_
                rintro e w7 ⟨rfl, rfl⟩
                go_wp2_with fail
                go_loopw [11] (fun kv wr3 => ∃ q : Nat, q ≤ EL.length ∧ kv = .int .i64 ((q : Int) + 1) ∧ Hid (Kept [] wu wr3)) (fun k _ => EL.length + 1 - (intOf k).toNat)
                case atStart => exact ⟨0, by omega, by first | rfl | go_num, Kept.refl _ _⟩
                case round =>
                  obtain ⟨q, hq1, rfl, HKQ⟩ := hrel
                  have hEL := HEL.out
                  by_cases hql : q + 1 < EL.length
                  · obtain ⟨x0, hx0⟩ : ∃ x0, EL[0]? = some x0 := ⟨EL[0], List.getElem?_eq_getElem _⟩
                    obtain ⟨x1, hx1⟩ : ∃ x1, EL[q + 1]? = some x1 := ⟨EL[q + 1], List.getElem?_eq_getElem _⟩
                    have hle := HSO.out 0 (q + 1) x0 x1 (Nat.succ_pos q) hx0 hx1
                    obtain ⟨eb, eo, he, hebl, hecl⟩ := HEU.out.addr (by omega) (by omega)
                    subst he
                    have he0 := HKQ.out.cell_some (hecl 0 (.int .i64 x0) (by rw [List.getElem?_map, hx0]; rfl)) (by simp)
                    have he1 := HKQ.out.cell_some (hecl (q + 1) (.int .i64 x1) (by rw [List.getElem?_map, hx1]; rfl)) (by simp)
                    rw [Nat.add_zero] at he0
                    have hq4 : ((q : Int) + 1) < (k : Int) := by omega
                    have hq5 : (0 : Int) ≤ (q : Int) + 1 := by omega
                    have hq6 : (0 : Int) < (k : Int) := by omega
                    have hq8 : ((q : Int) + 1).toNat = q + 1 := by omega
                    have hq9 : 0 < k := by omega
                    clear hecl hx0 hx1 hEL
                    go_wp2_with fail
                    go_region_held3 (fun w' => w'.cell? ⟨eb, eo, none⟩ = some (.int .i64 x0) ∧ w'.cell? ⟨eb, eo + (q + 1), none⟩ = some (.int .i64 x1)) (exact ⟨he0, he1⟩) (fail)
                    all_goals
                      go_wp2_with fail
                      go_roundw
                      case rel => exact ⟨q + 1, by omega, by go_num, HKQ.out.drew⟩
                      case measure => simp [intOf]; omega
                  · have hq7 : (k : Int) ≤ (q : Int) + 1 := by omega
                    have HGO2 := Lib.hid (HGO.out.old HKQ.out)
                    clear HGO hEL
                    go_wp2_with fail
                    obtain ⟨a3, s3, js3, hst3⟩ := HGO2.out
                    have HST3 := Lib.hid hst3
                    generalize hwp : wr = wp at *
                    have HLN3 : Hid (∀ W, Kept [] wp W → ∀ m : Nat, Calls Tryd.prog 10 #[.pointer (some ⟨g, 0, none⟩), .int .i64 m] W fun e W' => ∃ A n c, e = .returned (.slice A n c) ∧ FreshI W W' (lineM s3 m) A n c) := fun W hk m => by
                      have h1 := lkLine_any (hst3.is.is.old hk) hst3.all.whole m
                      rw [hst3.g_] at h1
                      exact h1
                    have HEF3 : Hid (∀ W, Kept [] wp W → ∀ t : Nat, t < 6 → Calls Tryd.prog 11 #[.pointer (some ⟨g, 0, none⟩), .int .i64 t] W fun e W' => e = .returned (.int .i64 (s3.eff.getD t 0)) ∧ W = W') := fun W hk t ht => by
                      have h1 := lkEff_any (hst3.is.is.at_.old hk) t
                      have h2 : effM s3 t = s3.eff.getD t 0 := by unfold effM; rw [if_pos (by have := hst3.n6; omega)]; rfl
                      rw [hst3.g_, h2] at h1
                      exact h1
                    clear hst3
                    go_loopw [12] (fun mv wr2 => ∃ m : Nat, m ≤ 6 ∧ mv = .int .i64 m ∧ Hid (Kept [] wp wr2)) (fun m _ => 6 - (intOf m).toNat)
                    case atStart => exact ⟨0, by omega, rfl, Kept.refl _ _⟩
                    case round =>
                      obtain ⟨m, hm1, rfl, HKM⟩ := hrel
                      by_cases hml : m < 6
                      · have HLM := Lib.hid (HLN3.out _ HKM.out m)
                        have hmi : (m : Int) < 6 := by omega
                        have hm6 : m < s3.lines.length := by have := HST3.out.m6; omega
                        have hll3 := lineM_len HST3.out.all m
                        go_wp2_with fail
                        refine (HLM.out).mono ?_
                        rintro e w8 ⟨A8, n8, c8, rfl, hf8⟩
                        have hn8 : n8 = (lineM s3 m).length := by have := hf8.reads.1; simpa using this.symm
                        have HF8 := Lib.hid hf8
                        have HK8 := Lib.hid (HKM.out.trans hf8.2.1)
                        subst hn8
                        generalize hLN3 : (lineM s3 m).length = l3 at *
                        have HL3 := Lib.hid hLN3
                        clear hf8 hLN3
                        go_wp2_with fail
                        go_loopw [14] (fun kv wr3 => ∃ q : Nat, q ≤ l3 ∧ kv = .int .i64 ((q : Int) + 1) ∧ Hid (Kept [] w8 wr3)) (fun k _ => l3 + 1 - (intOf k).toNat)
                        case atStart => exact ⟨0, by omega, by first | rfl | go_num, Kept.refl _ _⟩
                        case round =>
                          obtain ⟨q, hq1, rfl, HKQ8⟩ := hrel
                          by_cases hql : q + 1 < l3
                          · obtain ⟨y0, hy0⟩ : ∃ y0, (lineM s3 m)[q]? = some y0 := ⟨(lineM s3 m)[q]'(by rw [HL3.out]; omega), List.getElem?_eq_getElem _⟩
                            obtain ⟨y1, hy1⟩ : ∃ y1, (lineM s3 m)[q + 1]? = some y1 := ⟨(lineM s3 m)[q + 1]'(by rw [HL3.out]; omega), List.getElem?_eq_getElem _⟩
                            obtain ⟨j0, rfl, hj0b⟩ := lineM_range HST3.out.all (List.mem_of_getElem? hy0)
                            obtain ⟨j1, rfl, hj1b⟩ := lineM_range HST3.out.all (List.mem_of_getElem? hy1)
                            have hn63 := HST3.out.n6
                            have hle3 : s3.eff.getD j0 0 ≤ s3.eff.getD j1 0 := by
                              have := effL_sorted HST3.out.all m (Nat.lt_succ_self q) (x := s3.eff.getD j0 0) (y := s3.eff.getD j1 0) (by unfold effL; rw [List.getElem?_map, hy0]; rfl) (by unfold effL; rw [List.getElem?_map, hy1]; rfl)
                              exact this
                            obtain ⟨eb8, eo8, he8, hebl8, hecl8⟩ := (HF8.out.reads.old HKQ8.out).addr (by omega) (by omega)
                            subst he8
                            have hc80 := hecl8 q (.int .i64 (j0 : Int)) (by rw [List.getElem?_map, hy0]; rfl)
                            have hc81 := hecl8 (q + 1) (.int .i64 (j1 : Int)) (by rw [List.getElem?_map, hy1]; rfl)
                            have HE0 := Lib.hid (fun W hk => HEF3.out W hk j0 (by omega))
                            have HE1 := Lib.hid (fun W hk => HEF3.out W hk j1 (by omega))
                            have HKR := Lib.hid (HK8.out.trans HKQ8.out)
                            generalize s3.eff.getD j0 0 = f0 at *
                            generalize s3.eff.getD j1 0 = f1 at *
                            have hq4 : ((q : Int) + 1) < (l3 : Int) := by omega
                            have hq5 : (0 : Int) ≤ (q : Int) + 1 := by omega
                            have hq6 : (0 : Int) ≤ (q : Int) := by omega
                            have hq7 : (q : Int) < (l3 : Int) := by omega
                            have hq8 : ((q : Int) + 1).toNat = q + 1 := by omega
                            have hq12 : IntKind.i64.wrap (q : Int) = (q : Int) := IntWalk.i64_in _ (by omega)
                            clear hecl8 hy0 hy1 hj0b hj1b hn63
                            go_wp2_with fail
                            have hmix : Tryd.prog.follows .mixedOrders = true := by kernel_rfl
                            refine wp_region_held_drew (S := fun w' => w'.cell? ⟨eb8, eo8 + q, none⟩ = some (.int .i64 (j0 : Int)) ∧ w'.cell? ⟨eb8, eo8 + (q + 1), none⟩ = some (.int .i64 (j1 : Int))) hmix ⟨hc80, hc81⟩ (fun hHeld => ?_)
                            (refine rtake_0 (v := ?_) (by kernel_rfl) (by kernel_rfl) (by kernel_rfl) (fun _ _ _ h => h) (Or.inl ⟨by rfl, ?_⟩) (by assumption) ?_; rotate_left; focus ((intro w hSw; (try dsimp only at hSw); go_simp); try (with_reducible rfl)); (try simp only [Act.put, List.setIfInBounds_toArray, List.set_cons_zero, List.set_cons_succ]))
                            (refine rtake_1 (v := ?_) (by kernel_rfl) (by kernel_rfl) (by kernel_rfl) (fun _ _ _ h => h) (Or.inl ⟨by rfl, ?_⟩) (by assumption) ?_; rotate_left; focus ((intro w hSw; (try dsimp only at hSw); go_simp); try (with_reducible rfl)); (try simp only [Act.put, List.setIfInBounds_toArray, List.set_cons_zero, List.set_cons_succ]))
                            (refine rtake_2 (v := ?_) (by kernel_rfl) (by kernel_rfl) (by kernel_rfl) (fun _ _ _ h => h) (Or.inl ⟨by rfl, ?_⟩) (by assumption) ?_; rotate_left; focus ((intro w hSw; (try dsimp only at hSw); go_simp); try (with_reducible rfl)); (try simp only [Act.put, List.setIfInBounds_toArray, List.set_cons_zero, List.set_cons_succ]))
                            (refine rtake_3 (v := ?_) (by kernel_rfl) (by kernel_rfl) (by kernel_rfl) (fun _ _ _ h => h) (Or.inl ⟨by rfl, ?_⟩) (by assumption) ?_; rotate_left; focus ((intro w hSw; (try dsimp only at hSw); go_simp); try (with_reducible rfl)); (try simp only [Act.put, List.setIfInBounds_toArray, List.set_cons_zero, List.set_cons_succ]))
                            (refine rtake_4 (v := ?_) (by kernel_rfl) (by kernel_rfl) (by kernel_rfl) (fun _ _ _ h => h) (Or.inl ⟨by rfl, ?_⟩) (by assumption) ?_; rotate_left; focus ((intro w hSw; (try dsimp only at hSw); go_simp); try (with_reducible rfl)); (try simp only [Act.put, List.setIfInBounds_toArray, List.set_cons_zero, List.set_cons_succ]))
                            (refine rtake_5 (v := ?_) (by kernel_rfl) (by kernel_rfl) (by kernel_rfl) (fun _ _ _ h => h) (Or.inl ⟨by rfl, ?_⟩) (by assumption) ?_; rotate_left; focus ((intro w hSw; (try dsimp only at hSw); go_simp); try (with_reducible rfl)); (try simp only [Act.put, List.setIfInBounds_toArray, List.set_cons_zero, List.set_cons_succ]))
                            (refine rtake_7 (v := ?_) (by kernel_rfl) (by kernel_rfl) (by kernel_rfl) (fun _ _ _ h => h) (Or.inl ⟨by rfl, ?_⟩) (by assumption) ?_; rotate_left; focus ((intro w hSw; (try dsimp only at hSw); go_simp); try (with_reducible rfl)); (try simp only [Act.put, List.setIfInBounds_toArray, List.set_cons_zero, List.set_cons_succ]))
                            (refine rtake_8 (v := ?_) (by kernel_rfl) (by kernel_rfl) (by kernel_rfl) (fun _ _ _ h => h) (Or.inl ⟨by rfl, ?_⟩) (by assumption) ?_; rotate_left; focus ((intro w hSw; (try dsimp only at hSw); go_simp); try (with_reducible rfl)); (try simp only [Act.put, List.setIfInBounds_toArray, List.set_cons_zero, List.set_cons_succ]))
                            (refine rtake_9 (v := ?_) (by kernel_rfl) (by kernel_rfl) (by kernel_rfl) (fun _ _ _ h => h) (Or.inl ⟨by rfl, ?_⟩) (by assumption) ?_; rotate_left; focus ((intro w hSw; (try dsimp only at hSw); go_simp); try (with_reducible rfl)); (try simp only [Act.put, List.setIfInBounds_toArray, List.set_cons_zero, List.set_cons_succ]))
                            (refine rtake_10 (v := ?_) (by kernel_rfl) (by kernel_rfl) (by kernel_rfl) (fun _ _ _ h => h) (Or.inl ⟨by rfl, ?_⟩) (by assumption) ?_; rotate_left; focus ((intro w hSw; (try dsimp only at hSw); go_simp); try (with_reducible rfl)); (try simp only [Act.put, List.setIfInBounds_toArray, List.set_cons_zero, List.set_cons_succ]))
                            (refine rtake_11 (v := ?_) (by kernel_rfl) (by kernel_rfl) (by kernel_rfl) (fun _ _ _ h => h) (Or.inl ⟨by rfl, ?_⟩) (by assumption) ?_; rotate_left; focus ((intro w hSw; (try dsimp only at hSw); go_simp); try (with_reducible rfl)); (try simp only [Act.put, List.setIfInBounds_toArray, List.set_cons_zero, List.set_cons_succ]))
                            (refine wpAnyH_ready (rs := [6]) (by kernel_rfl) (by simp) ?_; refine rcons_6 (fun K hK => ?_) (AllReadyH.nil))
                            go_simp
                            (with_reducible refine (HE0.out _ (HKR.out.trans (by (repeat (first | (with_reducible exact Kept.refl _ _) | (with_reducible assumption) | (with_reducible refine Kept.alloc ?_ _) | (with_reducible refine Kept.drew ?_) | (with_reducible refine Kept.drewN ?_ _) | (with_reducible refine Kept.setCell ?_ ?_ _) | (exact .inr (Nat.le_refl _)) | (exact .inr (by simp only; omega)) | (exact .inr (by omega))))))).mono ?_)
                            rintro r w9 ⟨rfl, rfl⟩
                            try go_simp
                            refine hK.out _ _ ⟨hc80, hc81⟩ (fun hHeld => ?_)
                            clear hK K
                            (try simp only [Act.put, List.setIfInBounds_toArray, List.set_cons_zero, List.set_cons_succ])
                            (refine wpAnyH_ready (rs := [12]) (by kernel_rfl) (by simp) ?_; refine rcons_12 (fun K hK => ?_) (AllReadyH.nil))
                            go_simp
                            (with_reducible refine (HE1.out _ (HKR.out.trans (by (repeat (first | (with_reducible exact Kept.refl _ _) | (with_reducible assumption) | (with_reducible refine Kept.alloc ?_ _) | (with_reducible refine Kept.drew ?_) | (with_reducible refine Kept.drewN ?_ _) | (with_reducible refine Kept.setCell ?_ ?_ _) | (exact .inr (Nat.le_refl _)) | (exact .inr (by simp only; omega)) | (exact .inr (by omega))))))).mono ?_)
                            rintro r w9 ⟨rfl, rfl⟩
                            try go_simp
                            refine hK.out _ _ ⟨hc80, hc81⟩ (fun hHeld => ?_)
                            clear hK K
                            (try simp only [Act.put, List.setIfInBounds_toArray, List.set_cons_zero, List.set_cons_succ])
                            (refine rtake_13 (v := ?_) (by kernel_rfl) (by kernel_rfl) (by kernel_rfl) (fun _ _ _ h => h) (Or.inl ⟨by rfl, ?_⟩) (by assumption) ?_; rotate_left; focus ((intro w hSw; (try dsimp only at hSw); go_simp); try (with_reducible rfl)); (try simp only [Act.put, List.setIfInBounds_toArray, List.set_cons_zero, List.set_cons_succ]))
                            refine wpAnyH_done (by kernel_rfl) ?_ _
                            go_wp2_with fail
                            clear hHeld
                            go_roundw
                            case rel => exact ⟨q + 1, by omega, by go_num, HKQ8.out.drew⟩
                            case measure => simp [intOf]; omega
                          · have hq7 : (l3 : Int) ≤ (q : Int) + 1 := by omega
                            go_wp2_with fail
                            go_roundw
                            case rel => exact ⟨m + 1, by omega, by go_num, HK8.out.trans HKQ8.out⟩
                            case measure => simp [intOf]; omega
                      · obtain rfl : m = 6 := by omega
                        go_wp2_with fail
                        go_roundw
                        case rel => exact ⟨i + 1, by omega, by omega, by go_num, HGO2.out.old HKM.out⟩
                        case measure => simp [intOf]; omega
            · have hEb : (E == 0) = false := beq_eq_false_iff_ne.2 hE
              have hEn : (E != 0) = true := bne_iff_ne.2 hE
              have hNX := HUC.out hE
              subst hNX
              clear HUA HUB HUC hE HF
              go_wp2_with fail
              refine (HUN.out).mono ?_
              rintro e wu ⟨rfl, hgo, hku⟩
              have HGO : Hid (LkGo w wu g (i + 1)) := (by obtain ⟨a2, h⟩ := hgo; exact ⟨a2, _, _, h⟩)
              have hpost := HPOST.out _ hku
              have HEU := Lib.hid hpost.1
              clear hgo hku hpost HUN HPOST
              go_wp2_with fail
              go_loopw [11] (fun kv wr3 => ∃ q : Nat, q ≤ EL.length ∧ kv = .int .i64 ((q : Int) + 1) ∧ Hid (Kept [] wu wr3)) (fun k _ => EL.length + 1 - (intOf k).toNat)
              case atStart => exact ⟨0, by omega, by first | rfl | go_num, Kept.refl _ _⟩
              case round =>
                obtain ⟨q, hq1, rfl, HKQ⟩ := hrel
                have hEL := HEL.out
                by_cases hql : q + 1 < EL.length
                · obtain ⟨x0, hx0⟩ : ∃ x0, EL[0]? = some x0 := ⟨EL[0], List.getElem?_eq_getElem _⟩
                  obtain ⟨x1, hx1⟩ : ∃ x1, EL[q + 1]? = some x1 := ⟨EL[q + 1], List.getElem?_eq_getElem _⟩
                  have hle := HSO.out 0 (q + 1) x0 x1 (Nat.succ_pos q) hx0 hx1
                  obtain ⟨eb, eo, he, hebl, hecl⟩ := HEU.out.addr (by omega) (by omega)
                  subst he
                  have he0 := HKQ.out.cell_some (hecl 0 (.int .i64 x0) (by rw [List.getElem?_map, hx0]; rfl)) (by simp)
                  have he1 := HKQ.out.cell_some (hecl (q + 1) (.int .i64 x1) (by rw [List.getElem?_map, hx1]; rfl)) (by simp)
                  rw [Nat.add_zero] at he0
                  have hq4 : ((q : Int) + 1) < (k : Int) := by omega
                  have hq5 : (0 : Int) ≤ (q : Int) + 1 := by omega
                  have hq6 : (0 : Int) < (k : Int) := by omega
                  have hq8 : ((q : Int) + 1).toNat = q + 1 := by omega
                  have hq9 : 0 < k := by omega
                  clear hecl hx0 hx1 hEL
                  go_wp2_with fail
                  go_region_held3 (fun w' => w'.cell? ⟨eb, eo, none⟩ = some (.int .i64 x0) ∧ w'.cell? ⟨eb, eo + (q + 1), none⟩ = some (.int .i64 x1)) (exact ⟨he0, he1⟩) (fail)
                  all_goals
                    go_wp2_with fail
                    go_roundw
                    case rel => exact ⟨q + 1, by omega, by go_num, HKQ.out.drew⟩
                    case measure => simp [intOf]; omega
                · have hq7 : (k : Int) ≤ (q : Int) + 1 := by omega
                  have HGO2 := Lib.hid (HGO.out.old HKQ.out)
                  clear HGO hEL
                  go_wp2_with fail
                  obtain ⟨a3, s3, js3, hst3⟩ := HGO2.out
                  have HST3 := Lib.hid hst3
                  generalize hwp : wr = wp at *
                  have HLN3 : Hid (∀ W, Kept [] wp W → ∀ m : Nat, Calls Tryd.prog 10 #[.pointer (some ⟨g, 0, none⟩), .int .i64 m] W fun e W' => ∃ A n c, e = .returned (.slice A n c) ∧ FreshI W W' (lineM s3 m) A n c) := fun W hk m => by
                    have h1 := lkLine_any (hst3.is.is.old hk) hst3.all.whole m
                    rw [hst3.g_] at h1
                    exact h1
                  have HEF3 : Hid (∀ W, Kept [] wp W → ∀ t : Nat, t < 6 → Calls Tryd.prog 11 #[.pointer (some ⟨g, 0, none⟩), .int .i64 t] W fun e W' => e = .returned (.int .i64 (s3.eff.getD t 0)) ∧ W = W') := fun W hk t ht => by
                    have h1 := lkEff_any (hst3.is.is.at_.old hk) t
                    have h2 : effM s3 t = s3.eff.getD t 0 := by unfold effM; rw [if_pos (by have := hst3.n6; omega)]; rfl
                    rw [hst3.g_, h2] at h1
                    exact h1
                  clear hst3
                  go_loopw [12] (fun mv wr2 => ∃ m : Nat, m ≤ 6 ∧ mv = .int .i64 m ∧ Hid (Kept [] wp wr2)) (fun m _ => 6 - (intOf m).toNat)
                  case atStart => exact ⟨0, by omega, rfl, Kept.refl _ _⟩
                  case round =>
                    obtain ⟨m, hm1, rfl, HKM⟩ := hrel
                    by_cases hml : m < 6
                    · have HLM := Lib.hid (HLN3.out _ HKM.out m)
                      have hmi : (m : Int) < 6 := by omega
                      have hm6 : m < s3.lines.length := by have := HST3.out.m6; omega
                      have hll3 := lineM_len HST3.out.all m
                      go_wp2_with fail
                      refine (HLM.out).mono ?_
                      rintro e w8 ⟨A8, n8, c8, rfl, hf8⟩
                      have hn8 : n8 = (lineM s3 m).length := by have := hf8.reads.1; simpa using this.symm
                      have HF8 := Lib.hid hf8
                      have HK8 := Lib.hid (HKM.out.trans hf8.2.1)
                      subst hn8
                      generalize hLN3 : (lineM s3 m).length = l3 at *
                      have HL3 := Lib.hid hLN3
                      clear hf8 hLN3
                      go_wp2_with fail
                      go_loopw [14] (fun kv wr3 => ∃ q : Nat, q ≤ l3 ∧ kv = .int .i64 ((q : Int) + 1) ∧ Hid (Kept [] w8 wr3)) (fun k _ => l3 + 1 - (intOf k).toNat)
                      case atStart => exact ⟨0, by omega, by first | rfl | go_num, Kept.refl _ _⟩
                      case round =>
                        obtain ⟨q, hq1, rfl, HKQ8⟩ := hrel
                        by_cases hql : q + 1 < l3
                        · obtain ⟨y0, hy0⟩ : ∃ y0, (lineM s3 m)[q]? = some y0 := ⟨(lineM s3 m)[q]'(by rw [HL3.out]; omega), List.getElem?_eq_getElem _⟩
                          obtain ⟨y1, hy1⟩ : ∃ y1, (lineM s3 m)[q + 1]? = some y1 := ⟨(lineM s3 m)[q + 1]'(by rw [HL3.out]; omega), List.getElem?_eq_getElem _⟩
                          obtain ⟨j0, rfl, hj0b⟩ := lineM_range HST3.out.all (List.mem_of_getElem? hy0)
                          obtain ⟨j1, rfl, hj1b⟩ := lineM_range HST3.out.all (List.mem_of_getElem? hy1)
                          have hn63 := HST3.out.n6
                          have hle3 : s3.eff.getD j0 0 ≤ s3.eff.getD j1 0 := by
                            have := effL_sorted HST3.out.all m (Nat.lt_succ_self q) (x := s3.eff.getD j0 0) (y := s3.eff.getD j1 0) (by unfold effL; rw [List.getElem?_map, hy0]; rfl) (by unfold effL; rw [List.getElem?_map, hy1]; rfl)
                            exact this
                          obtain ⟨eb8, eo8, he8, hebl8, hecl8⟩ := (HF8.out.reads.old HKQ8.out).addr (by omega) (by omega)
                          subst he8
                          have hc80 := hecl8 q (.int .i64 (j0 : Int)) (by rw [List.getElem?_map, hy0]; rfl)
                          have hc81 := hecl8 (q + 1) (.int .i64 (j1 : Int)) (by rw [List.getElem?_map, hy1]; rfl)
                          have HE0 := Lib.hid (fun W hk => HEF3.out W hk j0 (by omega))
                          have HE1 := Lib.hid (fun W hk => HEF3.out W hk j1 (by omega))
                          have HKR := Lib.hid (HK8.out.trans HKQ8.out)
                          generalize s3.eff.getD j0 0 = f0 at *
                          generalize s3.eff.getD j1 0 = f1 at *
                          have hq4 : ((q : Int) + 1) < (l3 : Int) := by omega
                          have hq5 : (0 : Int) ≤ (q : Int) + 1 := by omega
                          have hq6 : (0 : Int) ≤ (q : Int) := by omega
                          have hq7 : (q : Int) < (l3 : Int) := by omega
                          have hq8 : ((q : Int) + 1).toNat = q + 1 := by omega
                          have hq12 : IntKind.i64.wrap (q : Int) = (q : Int) := IntWalk.i64_in _ (by omega)
                          clear hecl8 hy0 hy1 hj0b hj1b hn63
                          go_wp2_with fail
                          have hmix : Tryd.prog.follows .mixedOrders = true := by kernel_rfl
                          refine wp_region_held_drew (S := fun w' => w'.cell? ⟨eb8, eo8 + q, none⟩ = some (.int .i64 (j0 : Int)) ∧ w'.cell? ⟨eb8, eo8 + (q + 1), none⟩ = some (.int .i64 (j1 : Int))) hmix ⟨hc80, hc81⟩ (fun hHeld => ?_)
                          (refine rtake_0 (v := ?_) (by kernel_rfl) (by kernel_rfl) (by kernel_rfl) (fun _ _ _ h => h) (Or.inl ⟨by rfl, ?_⟩) (by assumption) ?_; rotate_left; focus ((intro w hSw; (try dsimp only at hSw); go_simp); try (with_reducible rfl)); (try simp only [Act.put, List.setIfInBounds_toArray, List.set_cons_zero, List.set_cons_succ]))
                          (refine rtake_1 (v := ?_) (by kernel_rfl) (by kernel_rfl) (by kernel_rfl) (fun _ _ _ h => h) (Or.inl ⟨by rfl, ?_⟩) (by assumption) ?_; rotate_left; focus ((intro w hSw; (try dsimp only at hSw); go_simp); try (with_reducible rfl)); (try simp only [Act.put, List.setIfInBounds_toArray, List.set_cons_zero, List.set_cons_succ]))
                          (refine rtake_2 (v := ?_) (by kernel_rfl) (by kernel_rfl) (by kernel_rfl) (fun _ _ _ h => h) (Or.inl ⟨by rfl, ?_⟩) (by assumption) ?_; rotate_left; focus ((intro w hSw; (try dsimp only at hSw); go_simp); try (with_reducible rfl)); (try simp only [Act.put, List.setIfInBounds_toArray, List.set_cons_zero, List.set_cons_succ]))
                          (refine rtake_3 (v := ?_) (by kernel_rfl) (by kernel_rfl) (by kernel_rfl) (fun _ _ _ h => h) (Or.inl ⟨by rfl, ?_⟩) (by assumption) ?_; rotate_left; focus ((intro w hSw; (try dsimp only at hSw); go_simp); try (with_reducible rfl)); (try simp only [Act.put, List.setIfInBounds_toArray, List.set_cons_zero, List.set_cons_succ]))
                          (refine rtake_4 (v := ?_) (by kernel_rfl) (by kernel_rfl) (by kernel_rfl) (fun _ _ _ h => h) (Or.inl ⟨by rfl, ?_⟩) (by assumption) ?_; rotate_left; focus ((intro w hSw; (try dsimp only at hSw); go_simp); try (with_reducible rfl)); (try simp only [Act.put, List.setIfInBounds_toArray, List.set_cons_zero, List.set_cons_succ]))
                          (refine rtake_5 (v := ?_) (by kernel_rfl) (by kernel_rfl) (by kernel_rfl) (fun _ _ _ h => h) (Or.inl ⟨by rfl, ?_⟩) (by assumption) ?_; rotate_left; focus ((intro w hSw; (try dsimp only at hSw); go_simp); try (with_reducible rfl)); (try simp only [Act.put, List.setIfInBounds_toArray, List.set_cons_zero, List.set_cons_succ]))
                          (refine rtake_7 (v := ?_) (by kernel_rfl) (by kernel_rfl) (by kernel_rfl) (fun _ _ _ h => h) (Or.inl ⟨by rfl, ?_⟩) (by assumption) ?_; rotate_left; focus ((intro w hSw; (try dsimp only at hSw); go_simp); try (with_reducible rfl)); (try simp only [Act.put, List.setIfInBounds_toArray, List.set_cons_zero, List.set_cons_succ]))
                          (refine rtake_8 (v := ?_) (by kernel_rfl) (by kernel_rfl) (by kernel_rfl) (fun _ _ _ h => h) (Or.inl ⟨by rfl, ?_⟩) (by assumption) ?_; rotate_left; focus ((intro w hSw; (try dsimp only at hSw); go_simp); try (with_reducible rfl)); (try simp only [Act.put, List.setIfInBounds_toArray, List.set_cons_zero, List.set_cons_succ]))
                          (refine rtake_9 (v := ?_) (by kernel_rfl) (by kernel_rfl) (by kernel_rfl) (fun _ _ _ h => h) (Or.inl ⟨by rfl, ?_⟩) (by assumption) ?_; rotate_left; focus ((intro w hSw; (try dsimp only at hSw); go_simp); try (with_reducible rfl)); (try simp only [Act.put, List.setIfInBounds_toArray, List.set_cons_zero, List.set_cons_succ]))
                          (refine rtake_10 (v := ?_) (by kernel_rfl) (by kernel_rfl) (by kernel_rfl) (fun _ _ _ h => h) (Or.inl ⟨by rfl, ?_⟩) (by assumption) ?_; rotate_left; focus ((intro w hSw; (try dsimp only at hSw); go_simp); try (with_reducible rfl)); (try simp only [Act.put, List.setIfInBounds_toArray, List.set_cons_zero, List.set_cons_succ]))
                          (refine rtake_11 (v := ?_) (by kernel_rfl) (by kernel_rfl) (by kernel_rfl) (fun _ _ _ h => h) (Or.inl ⟨by rfl, ?_⟩) (by assumption) ?_; rotate_left; focus ((intro w hSw; (try dsimp only at hSw); go_simp); try (with_reducible rfl)); (try simp only [Act.put, List.setIfInBounds_toArray, List.set_cons_zero, List.set_cons_succ]))
                          (refine wpAnyH_ready (rs := [6]) (by kernel_rfl) (by simp) ?_; refine rcons_6 (fun K hK => ?_) (AllReadyH.nil))
                          go_simp
                          (with_reducible refine (HE0.out _ (HKR.out.trans (by (repeat (first | (with_reducible exact Kept.refl _ _) | (with_reducible assumption) | (with_reducible refine Kept.alloc ?_ _) | (with_reducible refine Kept.drew ?_) | (with_reducible refine Kept.drewN ?_ _) | (with_reducible refine Kept.setCell ?_ ?_ _) | (exact .inr (Nat.le_refl _)) | (exact .inr (by simp only; omega)) | (exact .inr (by omega))))))).mono ?_)
                          rintro r w9 ⟨rfl, rfl⟩
                          try go_simp
                          refine hK.out _ _ ⟨hc80, hc81⟩ (fun hHeld => ?_)
                          clear hK K
                          (try simp only [Act.put, List.setIfInBounds_toArray, List.set_cons_zero, List.set_cons_succ])
                          (refine wpAnyH_ready (rs := [12]) (by kernel_rfl) (by simp) ?_; refine rcons_12 (fun K hK => ?_) (AllReadyH.nil))
                          go_simp
                          (with_reducible refine (HE1.out _ (HKR.out.trans (by (repeat (first | (with_reducible exact Kept.refl _ _) | (with_reducible assumption) | (with_reducible refine Kept.alloc ?_ _) | (with_reducible refine Kept.drew ?_) | (with_reducible refine Kept.drewN ?_ _) | (with_reducible refine Kept.setCell ?_ ?_ _) | (exact .inr (Nat.le_refl _)) | (exact .inr (by simp only; omega)) | (exact .inr (by omega))))))).mono ?_)
                          rintro r w9 ⟨rfl, rfl⟩
                          try go_simp
                          refine hK.out _ _ ⟨hc80, hc81⟩ (fun hHeld => ?_)
                          clear hK K
                          (try simp only [Act.put, List.setIfInBounds_toArray, List.set_cons_zero, List.set_cons_succ])
                          (refine rtake_13 (v := ?_) (by kernel_rfl) (by kernel_rfl) (by kernel_rfl) (fun _ _ _ h => h) (Or.inl ⟨by rfl, ?_⟩) (by assumption) ?_; rotate_left; focus ((intro w hSw; (try dsimp only at hSw); go_simp); try (with_reducible rfl)); (try simp only [Act.put, List.setIfInBounds_toArray, List.set_cons_zero, List.set_cons_succ]))
                          refine wpAnyH_done (by kernel_rfl) ?_ _
                          go_wp2_with fail
                          clear hHeld
                          go_roundw
                          case rel => exact ⟨q + 1, by omega, by go_num, HKQ8.out.drew⟩
                          case measure => simp [intOf]; omega
                        · have hq7 : (l3 : Int) ≤ (q : Int) + 1 := by omega
                          go_wp2_with fail
                          go_roundw
                          case rel => exact ⟨m + 1, by omega, by go_num, HK8.out.trans HKQ8.out⟩
                          case measure => simp [intOf]; omega
                    · obtain rfl : m = 6 := by omega
                      go_wp2_with fail
                      go_roundw
                      case rel => exact ⟨i + 1, by omega, by omega, by go_num, HGO2.out.old HKM.out⟩
                      case measure => simp [intOf]; omega
      · have HG1 := HG
        clear HPL
        go_wp2_with fail
        refine (HSM.out).mono ?_
        rintro e w2 ⟨⟨A', B', rfl⟩, hk2⟩
        have HG2 := Lib.hid ((HG.out.old hk2).old ((Kept.refl [] w2).alloc (.cells #[.int .u8 ak, .int .i64 A', .int .i64 B'] 26)))
        have HBX : Hid (Blk (w2.alloc (.cells #[.int .u8 ak, .int .i64 A', .int .i64 B'] 26)) w2.heap.size 26 #[.int .u8 ak, .int .i64 A', .int .i64 B']) := Blk.new w2 _ _
        obtain ⟨a, s, js, hst⟩ := HG2.out
        have HST := Lib.hid hst
        have HLN := Lib.hid (lkLine_any hst.is.is hst.all.whole B')
        rw [hst.g_] at HLN
        have HFL := Lib.hid (fpL_lt hst.is.is.at_)
        have hll := lineM_len hst.all B'
        clear hk2 hc0 hc1 hc2 hst HG1 HG HSM HG2
        go_wp2_with fail
        refine (HLN.out).mono ?_
        rintro e w4 ⟨A6, n6, c6, rfl, hf⟩
        have hn6 : n6 = (lineM s B').length := by have := hf.reads.1; simpa using this.symm
        have HF := Lib.hid hf
        have HS4 := Lib.hid (HST.out.old hf.2.1)
        have HB4 := Lib.hid (HBX.out.kept hf.2.1 (by simp))
        have HEF : Hid (∀ W, Kept [] w4 W → ∀ t : Nat, t < 6 → Calls Tryd.prog 11 #[.pointer (some ⟨g, 0, none⟩), .int .i64 t] W fun e W' => e = .returned (.int .i64 (s.eff.getD t 0)) ∧ W = W') := fun W hk t ht => by
          have h1 := lkEff_any (HS4.out.is.is.at_.old hk) t
          have h2 : effM s t = s.eff.getD t 0 := by unfold effM; rw [if_pos (by have := HS4.out.n6; omega)]; rfl
          rw [HS4.out.g_, h2] at h1
          exact h1
        subst hn6
        generalize hLN : (lineM s B').length = ln at *
        have HLL := Lib.hid hLN
        clear hf hLN HLN HBX
        go_wp2_with fail
        go_loopw [7, 8] (fun ev kv wr2 => ∃ (k : Nat) (A7 : Option Addr) (c7 : Nat), k ≤ ln ∧ ev = .slice A7 k c7 ∧ kv = .int .i64 k ∧ Hid (wr2.ownsRow 0 3 1 (.slice A7 k c7) k (((effL s B').take k).map I64)) ∧ Hid (∀ q ∈ fp (.slice A7 k c7), w4.heap.size ≤ q) ∧ Hid (Kept [] w4 wr2)) (fun _ k _ => ln - (intOf k).toNat)
        case atStart => exact ⟨0, none, 0, by omega, rfl, rfl, World.ownsRow_nil _ _ _ _, (by show ∀ q ∈ fp (.slice none 0 0), _; simp [fp, Value.ownBlock]), Kept.refl _ _⟩
        case round =>
          obtain ⟨k, A7, c7, hk1, rfl, rfl, HROW, HNEW, HK2⟩ := hrel
          have hcB := (HB4.out.kept HK2.out (by simp)).cell
          by_cases hkl : k < ln
          · have hkx : (lineM s B')[k]? = some ((lineM s B')[k]'(by rw [HLL.out]; exact hkl)) := List.getElem?_eq_getElem _
            obtain ⟨j, hj1, hj2⟩ := lineM_range HST.out.all (List.mem_of_getElem? hkx)
            rw [hj1] at hkx
            have hj6 : j < 6 := by have := HST.out.n6; omega
            have HEJ := Lib.hid (HEF.out _ HK2.out j hj6)
            obtain ⟨bb, off, rfl, hbl, hcl⟩ := (HF.out.reads.old HK2.out).addr (by omega) (by omega)
            have hck := hcl k (.int .i64 (j : Int)) (by rw [List.getElem?_map, hkx]; rfl)
            have HTK : Hid ((effL s B').take (k + 1) = (effL s B').take k ++ [s.eff.getD j 0]) := by
              show List.take _ _ = _
              rw [List.take_add_one]
              unfold effL
              rw [List.getElem?_map, hkx]
              rfl
            generalize s.eff.getD j 0 = ej at *
            have hq0 : (0 : Int) ≤ (k : Int) := by omega
            have hq1 : (k : Int) < (ln : Int) := by omega
            clear hcl hkx hj1 hj2 hcB
            go_wp2_with fail
            refine (HEJ.out).mono ?_
            rintro e w5 ⟨rfl, rfl⟩
            go_wp2_with (at_builtin; refine wpList_append_any _ rfl _ _ 29 rfl 3 (.int .i64 0) 1 8 Tryd.underlying29 Tryd.infoInt rfl (by decide) (.slice A7 k c7) k (((effL s B').take k).map I64) rfl (own_kept HROW.out ((Kept.refl [] _).alloc _) (by simp)) _ 1 1 [.int .i64 ej] rfl (reads_one _ _ _) (by simp [Value.oneCell']) (by simp only [maxLen]; omega) (by omega) ?_; rintro A8 c8 w6 happ; have HA := Lib.hid happ; clear happ)
            go_roundw
            case rel =>
              refine ⟨k + 1, A8, c8, by omega, by first | rfl | go_num, by go_num, ?_, ?_, ?_⟩
              · show World.ownsRow _ _ _ _ _ _ _
                rw [HTK.out, List.map_append]
                exact HA.out.1
              · intro q hq
                rcases HA.out.2.2 q hq with h1 | h1
                · exact HNEW.out q h1
                · have := HK2.out.size; simp at h1; omega
              · exact (HK2.out.alloc _).trans' HA.out.2.1 (fun q hq => .inr (HNEW.out q hq))
            case measure => simp [intOf]; omega
          · obtain rfl : k = ln := by omega
            have HE7 : Hid ((effL s B').take k = effL s B') := List.take_of_length_le (by unfold effL; rw [List.length_map, HLL.out]; exact Nat.le_refl _)
            have hSU := HS4.out.old HK2.out
            have HUN := Lib.hid (best_unlock hSU A' B')
            have hcB0 : wr.cell? ⟨w2.heap.size, 1, none⟩ = some (.int .i64 A') := hcB 1
            have hcB1 : wr.cell? ⟨w2.heap.size, 2, none⟩ = some (.int .i64 B') := hcB 2
            have HPOST : Hid (∀ wu, Kept (fpL a s) wr wu → Reads wu 1 A7 k ((effL s B').map I64) ∧ Reads wu 1 A6 k ((lineM s B').map I64) ∧ Blk wu w2.heap.size 26 #[.int .u8 ak, .int .i64 A', .int .i64 B']) := fun wu hku => by
              have hsz := HF.out.2.1.size
              refine ⟨?_, ?_, ?_⟩
              · have h1 := HROW.out
                rw [HE7.out] at h1
                exact Reads.of_own (own_kept h1 hku (fun q hq hm => by have := HFL.out q hm; have := HNEW.out q hq; omega))
              · exact Reads.of_own (own_kept (own_kept HF.out.1 HK2.out (by simp)) hku (fun q hq hm => by have := HFL.out q hm; have := HF.out.2.2 q hq; omega))
              · exact (HB4.out.kept HK2.out (by simp)).kept hku (hSU.is.is.at_.no_blk hSU.is.exJ (HB4.out.kept HK2.out (by simp)) (by decide))
            have HUA : Hid (∀ (p : Int) (r : List Int), unlE s A' B' = 0 → lineM s B' = p :: r → unlN s A' B' = p ∧ getO (unlS s A' B').owner B' = p) := fun p r he hl => unl_cons HST.out.all he hl
            have HUB := Lib.hid (fun (hl : lineM s B' = []) => unl_nil (t := A') hl)
            have HUC := Lib.hid (fun (he : unlE s A' B' ≠ 0) => unl_bad he)
            have HSO : Hid (∀ (i j : Nat) (x y : Int), i < j → (effL s B')[i]? = some x → (effL s B')[j]? = some y → x ≤ y) := fun i j x y hij hx hy => effL_sorted HST.out.all B' hij hx hy
            have HEL : Hid ((effL s B').length = k) := by show (effL s B').length = _; unfold effL; rw [List.length_map]; exact HLL.out
            clear hSU hcB HROW HNEW HEF HB4 HS4 HE7
            generalize unlE s A' B' = E at *
            generalize unlN s A' B' = NX at *
            generalize unlS s A' B' = s2 at *
            generalize effL s B' = EL at *
            by_cases hE : E = 0
            · subst hE
              cases hlc : lineM s B' with
              | nil =>
                have hk0 : k = 0 := by rw [← HLL.out, hlc]; rfl
                have hNX := HUB.out hlc
                subst hk0 hNX
                rw [hlc] at HPOST
                clear HUA HUB HUC hlc HF
                go_wp2_with fail
                refine (HUN.out).mono ?_
                rintro e wu ⟨rfl, hgo, hku⟩
                have HGO : Hid (LkGo w wu g (i + 1)) := (by obtain ⟨a2, h⟩ := hgo; exact ⟨a2, _, _, h⟩)
                have hpost := HPOST.out _ hku
                have HEU := Lib.hid hpost.1
                have hcu2 : wu.cell? ⟨w2.heap.size, 2, none⟩ = some (.int .i64 B') := hpost.2.2.cell 2
                clear hgo hku hpost HUN HPOST
                go_wp2_with fail
                go_loopw [11] (fun kv wr3 => ∃ q : Nat, q ≤ EL.length ∧ kv = .int .i64 ((q : Int) + 1) ∧ Hid (Kept [] wu wr3)) (fun k _ => EL.length + 1 - (intOf k).toNat)
                case atStart => exact ⟨0, by omega, by first | rfl | go_num, Kept.refl _ _⟩
                case round =>
                  obtain ⟨q, hq1, rfl, HKQ⟩ := hrel
                  have hEL := HEL.out
                  by_cases hql : q + 1 < EL.length
                  · omega
                  · have hq7 : (((0 : Nat) : Int) : Int) ≤ (q : Int) + 1 := by omega
                    have HGO2 := Lib.hid (HGO.out.old HKQ.out)
                    clear HGO hEL
                    go_wp2_with fail
                    obtain ⟨a3, s3, js3, hst3⟩ := HGO2.out
                    have HST3 := Lib.hid hst3
                    generalize hwp : wr = wp at *
                    have HLN3 : Hid (∀ W, Kept [] wp W → ∀ m : Nat, Calls Tryd.prog 10 #[.pointer (some ⟨g, 0, none⟩), .int .i64 m] W fun e W' => ∃ A n c, e = .returned (.slice A n c) ∧ FreshI W W' (lineM s3 m) A n c) := fun W hk m => by
                      have h1 := lkLine_any (hst3.is.is.old hk) hst3.all.whole m
                      rw [hst3.g_] at h1
                      exact h1
                    have HEF3 : Hid (∀ W, Kept [] wp W → ∀ t : Nat, t < 6 → Calls Tryd.prog 11 #[.pointer (some ⟨g, 0, none⟩), .int .i64 t] W fun e W' => e = .returned (.int .i64 (s3.eff.getD t 0)) ∧ W = W') := fun W hk t ht => by
                      have h1 := lkEff_any (hst3.is.is.at_.old hk) t
                      have h2 : effM s3 t = s3.eff.getD t 0 := by unfold effM; rw [if_pos (by have := hst3.n6; omega)]; rfl
                      rw [hst3.g_, h2] at h1
                      exact h1
                    clear hst3
                    go_loopw [12] (fun mv wr2 => ∃ m : Nat, m ≤ 6 ∧ mv = .int .i64 m ∧ Hid (Kept [] wp wr2)) (fun m _ => 6 - (intOf m).toNat)
                    case atStart => exact ⟨0, by omega, rfl, Kept.refl _ _⟩
                    case round =>
                      obtain ⟨m, hm1, rfl, HKM⟩ := hrel
                      by_cases hml : m < 6
                      · have HLM := Lib.hid (HLN3.out _ HKM.out m)
                        have hmi : (m : Int) < 6 := by omega
                        have hm6 : m < s3.lines.length := by have := HST3.out.m6; omega
                        have hll3 := lineM_len HST3.out.all m
                        go_wp2_with fail
                        refine (HLM.out).mono ?_
                        rintro e w8 ⟨A8, n8, c8, rfl, hf8⟩
                        have hn8 : n8 = (lineM s3 m).length := by have := hf8.reads.1; simpa using this.symm
                        have HF8 := Lib.hid hf8
                        have HK8 := Lib.hid (HKM.out.trans hf8.2.1)
                        subst hn8
                        generalize hLN3 : (lineM s3 m).length = l3 at *
                        have HL3 := Lib.hid hLN3
                        clear hf8 hLN3
                        go_wp2_with fail
                        go_loopw [14] (fun kv wr3 => ∃ q : Nat, q ≤ l3 ∧ kv = .int .i64 ((q : Int) + 1) ∧ Hid (Kept [] w8 wr3)) (fun k _ => l3 + 1 - (intOf k).toNat)
                        case atStart => exact ⟨0, by omega, by first | rfl | go_num, Kept.refl _ _⟩
                        case round =>
                          obtain ⟨q, hq1, rfl, HKQ8⟩ := hrel
                          by_cases hql : q + 1 < l3
                          · obtain ⟨y0, hy0⟩ : ∃ y0, (lineM s3 m)[q]? = some y0 := ⟨(lineM s3 m)[q]'(by rw [HL3.out]; omega), List.getElem?_eq_getElem _⟩
                            obtain ⟨y1, hy1⟩ : ∃ y1, (lineM s3 m)[q + 1]? = some y1 := ⟨(lineM s3 m)[q + 1]'(by rw [HL3.out]; omega), List.getElem?_eq_getElem _⟩
                            obtain ⟨j0, rfl, hj0b⟩ := lineM_range HST3.out.all (List.mem_of_getElem? hy0)
                            obtain ⟨j1, rfl, hj1b⟩ := lineM_range HST3.out.all (List.mem_of_getElem? hy1)
                            have hn63 := HST3.out.n6
                            have hle3 : s3.eff.getD j0 0 ≤ s3.eff.getD j1 0 := by
                              have := effL_sorted HST3.out.all m (Nat.lt_succ_self q) (x := s3.eff.getD j0 0) (y := s3.eff.getD j1 0) (by unfold effL; rw [List.getElem?_map, hy0]; rfl) (by unfold effL; rw [List.getElem?_map, hy1]; rfl)
                              exact this
                            obtain ⟨eb8, eo8, he8, hebl8, hecl8⟩ := (HF8.out.reads.old HKQ8.out).addr (by omega) (by omega)
                            subst he8
                            have hc80 := hecl8 q (.int .i64 (j0 : Int)) (by rw [List.getElem?_map, hy0]; rfl)
                            have hc81 := hecl8 (q + 1) (.int .i64 (j1 : Int)) (by rw [List.getElem?_map, hy1]; rfl)
                            have HE0 := Lib.hid (fun W hk => HEF3.out W hk j0 (by omega))
                            have HE1 := Lib.hid (fun W hk => HEF3.out W hk j1 (by omega))
                            have HKR := Lib.hid (HK8.out.trans HKQ8.out)
                            generalize s3.eff.getD j0 0 = f0 at *
                            generalize s3.eff.getD j1 0 = f1 at *
                            have hq4 : ((q : Int) + 1) < (l3 : Int) := by omega
                            have hq5 : (0 : Int) ≤ (q : Int) + 1 := by omega
                            have hq6 : (0 : Int) ≤ (q : Int) := by omega
                            have hq7 : (q : Int) < (l3 : Int) := by omega
                            have hq8 : ((q : Int) + 1).toNat = q + 1 := by omega
                            have hq12 : IntKind.i64.wrap (q : Int) = (q : Int) := IntWalk.i64_in _ (by omega)
                            clear hecl8 hy0 hy1 hj0b hj1b hn63
                            go_wp2_with fail
                            have hmix : Tryd.prog.follows .mixedOrders = true := by kernel_rfl
                            refine wp_region_held_drew (S := fun w' => w'.cell? ⟨eb8, eo8 + q, none⟩ = some (.int .i64 (j0 : Int)) ∧ w'.cell? ⟨eb8, eo8 + (q + 1), none⟩ = some (.int .i64 (j1 : Int))) hmix ⟨hc80, hc81⟩ (fun hHeld => ?_)
                            (refine rtake_0 (v := ?_) (by kernel_rfl) (by kernel_rfl) (by kernel_rfl) (fun _ _ _ h => h) (Or.inl ⟨by rfl, ?_⟩) (by assumption) ?_; rotate_left; focus ((intro w hSw; (try dsimp only at hSw); go_simp); try (with_reducible rfl)); (try simp only [Act.put, List.setIfInBounds_toArray, List.set_cons_zero, List.set_cons_succ]))
                            (refine rtake_1 (v := ?_) (by kernel_rfl) (by kernel_rfl) (by kernel_rfl) (fun _ _ _ h => h) (Or.inl ⟨by rfl, ?_⟩) (by assumption) ?_; rotate_left; focus ((intro w hSw; (try dsimp only at hSw); go_simp); try (with_reducible rfl)); (try simp only [Act.put, List.setIfInBounds_toArray, List.set_cons_zero, List.set_cons_succ]))
                            (refine rtake_2 (v := ?_) (by kernel_rfl) (by kernel_rfl) (by kernel_rfl) (fun _ _ _ h => h) (Or.inl ⟨by rfl, ?_⟩) (by assumption) ?_; rotate_left; focus ((intro w hSw; (try dsimp only at hSw); go_simp); try (with_reducible rfl)); (try simp only [Act.put, List.setIfInBounds_toArray, List.set_cons_zero, List.set_cons_succ]))
                            (refine rtake_3 (v := ?_) (by kernel_rfl) (by kernel_rfl) (by kernel_rfl) (fun _ _ _ h => h) (Or.inl ⟨by rfl, ?_⟩) (by assumption) ?_; rotate_left; focus ((intro w hSw; (try dsimp only at hSw); go_simp); try (with_reducible rfl)); (try simp only [Act.put, List.setIfInBounds_toArray, List.set_cons_zero, List.set_cons_succ]))
                            (refine rtake_4 (v := ?_) (by kernel_rfl) (by kernel_rfl) (by kernel_rfl) (fun _ _ _ h => h) (Or.inl ⟨by rfl, ?_⟩) (by assumption) ?_; rotate_left; focus ((intro w hSw; (try dsimp only at hSw); go_simp); try (with_reducible rfl)); (try simp only [Act.put, List.setIfInBounds_toArray, List.set_cons_zero, List.set_cons_succ]))
                            (refine rtake_5 (v := ?_) (by kernel_rfl) (by kernel_rfl) (by kernel_rfl) (fun _ _ _ h => h) (Or.inl ⟨by rfl, ?_⟩) (by assumption) ?_; rotate_left; focus ((intro w hSw; (try dsimp only at hSw); go_simp); try (with_reducible rfl)); (try simp only [Act.put, List.setIfInBounds_toArray, List.set_cons_zero, List.set_cons_succ]))
                            (refine rtake_7 (v := ?_) (by kernel_rfl) (by kernel_rfl) (by kernel_rfl) (fun _ _ _ h => h) (Or.inl ⟨by rfl, ?_⟩) (by assumption) ?_; rotate_left; focus ((intro w hSw; (try dsimp only at hSw); go_simp); try (with_reducible rfl)); (try simp only [Act.put, List.setIfInBounds_toArray, List.set_cons_zero, List.set_cons_succ]))
                            (refine rtake_8 (v := ?_) (by kernel_rfl) (by kernel_rfl) (by kernel_rfl) (fun _ _ _ h => h) (Or.inl ⟨by rfl, ?_⟩) (by assumption) ?_; rotate_left; focus ((intro w hSw; (try dsimp only at hSw); go_simp); try (with_reducible rfl)); (try simp only [Act.put, List.setIfInBounds_toArray, List.set_cons_zero, List.set_cons_succ]))
                            (refine rtake_9 (v := ?_) (by kernel_rfl) (by kernel_rfl) (by kernel_rfl) (fun _ _ _ h => h) (Or.inl ⟨by rfl, ?_⟩) (by assumption) ?_; rotate_left; focus ((intro w hSw; (try dsimp only at hSw); go_simp); try (with_reducible rfl)); (try simp only [Act.put, List.setIfInBounds_toArray, List.set_cons_zero, List.set_cons_succ]))
                            (refine rtake_10 (v := ?_) (by kernel_rfl) (by kernel_rfl) (by kernel_rfl) (fun _ _ _ h => h) (Or.inl ⟨by rfl, ?_⟩) (by assumption) ?_; rotate_left; focus ((intro w hSw; (try dsimp only at hSw); go_simp); try (with_reducible rfl)); (try simp only [Act.put, List.setIfInBounds_toArray, List.set_cons_zero, List.set_cons_succ]))
                            (refine rtake_11 (v := ?_) (by kernel_rfl) (by kernel_rfl) (by kernel_rfl) (fun _ _ _ h => h) (Or.inl ⟨by rfl, ?_⟩) (by assumption) ?_; rotate_left; focus ((intro w hSw; (try dsimp only at hSw); go_simp); try (with_reducible rfl)); (try simp only [Act.put, List.setIfInBounds_toArray, List.set_cons_zero, List.set_cons_succ]))
                            (refine wpAnyH_ready (rs := [6]) (by kernel_rfl) (by simp) ?_; refine rcons_6 (fun K hK => ?_) (AllReadyH.nil))
                            go_simp
                            (with_reducible refine (HE0.out _ (HKR.out.trans (by (repeat (first | (with_reducible exact Kept.refl _ _) | (with_reducible assumption) | (with_reducible refine Kept.alloc ?_ _) | (with_reducible refine Kept.drew ?_) | (with_reducible refine Kept.drewN ?_ _) | (with_reducible refine Kept.setCell ?_ ?_ _) | (exact .inr (Nat.le_refl _)) | (exact .inr (by simp only; omega)) | (exact .inr (by omega))))))).mono ?_)
                            rintro r w9 ⟨rfl, rfl⟩
                            try go_simp
                            refine hK.out _ _ ⟨hc80, hc81⟩ (fun hHeld => ?_)
                            clear hK K
                            (try simp only [Act.put, List.setIfInBounds_toArray, List.set_cons_zero, List.set_cons_succ])
                            (refine wpAnyH_ready (rs := [12]) (by kernel_rfl) (by simp) ?_; refine rcons_12 (fun K hK => ?_) (AllReadyH.nil))
                            go_simp
                            (with_reducible refine (HE1.out _ (HKR.out.trans (by (repeat (first | (with_reducible exact Kept.refl _ _) | (with_reducible assumption) | (with_reducible refine Kept.alloc ?_ _) | (with_reducible refine Kept.drew ?_) | (with_reducible refine Kept.drewN ?_ _) | (with_reducible refine Kept.setCell ?_ ?_ _) | (exact .inr (Nat.le_refl _)) | (exact .inr (by simp only; omega)) | (exact .inr (by omega))))))).mono ?_)
                            rintro r w9 ⟨rfl, rfl⟩
                            try go_simp
                            refine hK.out _ _ ⟨hc80, hc81⟩ (fun hHeld => ?_)
                            clear hK K
                            (try simp only [Act.put, List.setIfInBounds_toArray, List.set_cons_zero, List.set_cons_succ])
                            (refine rtake_13 (v := ?_) (by kernel_rfl) (by kernel_rfl) (by kernel_rfl) (fun _ _ _ h => h) (Or.inl ⟨by rfl, ?_⟩) (by assumption) ?_; rotate_left; focus ((intro w hSw; (try dsimp only at hSw); go_simp); try (with_reducible rfl)); (try simp only [Act.put, List.setIfInBounds_toArray, List.set_cons_zero, List.set_cons_succ]))
                            refine wpAnyH_done (by kernel_rfl) ?_ _
                            go_wp2_with fail
                            clear hHeld
                            go_roundw
                            case rel => exact ⟨q + 1, by omega, by go_num, HKQ8.out.drew⟩
                            case measure => simp [intOf]; omega
                          · have hq7 : (l3 : Int) ≤ (q : Int) + 1 := by omega
                            go_wp2_with fail
                            go_roundw
                            case rel => exact ⟨m + 1, by omega, by go_num, HK8.out.trans HKQ8.out⟩
                            case measure => simp [intOf]; omega
                      · obtain rfl : m = 6 := by omega
                        go_wp2_with fail
                        go_roundw
                        case rel => exact ⟨i + 1, by omega, by omega, by go_num, HGO2.out.old HKM.out⟩
                        case measure => simp [intOf]; omega
              | cons p rr =>
                obtain ⟨hNX, hOX⟩ := HUA.out p rr rfl hlc
                have hkn : 0 < k := by rw [← HLL.out, hlc]; simp
                subst hNX
                rw [hlc] at HPOST
                have HOX := Lib.hid hOX
                clear HUA HUB HUC hlc hOX HF
                have hkp : 0 < (k : Int) := by omega
                have hk0 : ((k : Int) == 0) = false := beq_eq_false_iff_ne.2 (by omega)
                go_wp2_with fail
                refine (HUN.out).mono ?_
                rintro e wu ⟨rfl, hgo, hku⟩
                have HGO : Hid (LkGo w wu g (i + 1)) := (by obtain ⟨a2, h⟩ := hgo; exact ⟨a2, _, _, h⟩)
                have HOB : Hid (Calls Tryd.prog 13 #[.pointer (some ⟨g, 0, none⟩), .int .i64 B'] wu fun e W' => e = .returned (.int .i64 NX) ∧ wu = W') := (by
                  obtain ⟨a2, h⟩ := hgo
                  have h1 := lkOwner_any h.is.is.at_ h.all.whole B'
                  rw [h.g_, HOX.out] at h1
                  exact h1)
                have hpost := HPOST.out _ hku
                have HEU := Lib.hid hpost.1
                have hcu2 : wu.cell? ⟨w2.heap.size, 2, none⟩ = some (.int .i64 B') := hpost.2.2.cell 2
                have hlu2 := hpost.2.2.lt
                obtain ⟨lb, lo, rfl, hlbl, hlcl⟩ := hpost.2.1.addr (by omega) (by omega)
                have hcl0 := hlcl 0 (.int .i64 NX) rfl
                rw [Nat.add_zero] at hcl0
                clear hgo hku hpost HUN HPOST hlcl
                go_wp2_with fail
                refine (HOB.out).mono ?_
                rintro e w7 ⟨rfl, rfl⟩
                go_wp2_with fail
                go_loopw [11] (fun kv wr3 => ∃ q : Nat, q ≤ EL.length ∧ kv = .int .i64 ((q : Int) + 1) ∧ Hid (Kept [] wu wr3)) (fun k _ => EL.length + 1 - (intOf k).toNat)
                case atStart => exact ⟨0, by omega, by first | rfl | go_num, Kept.refl _ _⟩
                case round =>
                  obtain ⟨q, hq1, rfl, HKQ⟩ := hrel
                  have hEL := HEL.out
                  by_cases hql : q + 1 < EL.length
                  · obtain ⟨x0, hx0⟩ : ∃ x0, EL[0]? = some x0 := ⟨EL[0], List.getElem?_eq_getElem _⟩
                    obtain ⟨x1, hx1⟩ : ∃ x1, EL[q + 1]? = some x1 := ⟨EL[q + 1], List.getElem?_eq_getElem _⟩
                    have hle := HSO.out 0 (q + 1) x0 x1 (Nat.succ_pos q) hx0 hx1
                    obtain ⟨eb, eo, he, hebl, hecl⟩ := HEU.out.addr (by omega) (by omega)
                    subst he
                    have he0 := HKQ.out.cell_some (hecl 0 (.int .i64 x0) (by rw [List.getElem?_map, hx0]; rfl)) (by simp)
                    have he1 := HKQ.out.cell_some (hecl (q + 1) (.int .i64 x1) (by rw [List.getElem?_map, hx1]; rfl)) (by simp)
                    rw [Nat.add_zero] at he0
                    have hq4 : ((q : Int) + 1) < (k : Int) := by omega
                    have hq5 : (0 : Int) ≤ (q : Int) + 1 := by omega
                    have hq6 : (0 : Int) < (k : Int) := by omega
                    have hq8 : ((q : Int) + 1).toNat = q + 1 := by omega
                    have hq9 : 0 < k := by omega
                    clear hecl hx0 hx1 hEL
                    go_wp2_with fail
                    go_region_held3 (fun w' => w'.cell? ⟨eb, eo, none⟩ = some (.int .i64 x0) ∧ w'.cell? ⟨eb, eo + (q + 1), none⟩ = some (.int .i64 x1)) (exact ⟨he0, he1⟩) (fail)
                    all_goals
                      go_wp2_with fail
                      go_roundw
                      case rel => exact ⟨q + 1, by omega, by go_num, HKQ.out.drew⟩
                      case measure => simp [intOf]; omega
                  · have hq7 : (k : Int) ≤ (q : Int) + 1 := by omega
                    have HGO2 := Lib.hid (HGO.out.old HKQ.out)
                    clear HGO hEL
                    go_wp2_with fail
                    obtain ⟨a3, s3, js3, hst3⟩ := HGO2.out
                    have HST3 := Lib.hid hst3
                    generalize hwp : wr = wp at *
                    have HLN3 : Hid (∀ W, Kept [] wp W → ∀ m : Nat, Calls Tryd.prog 10 #[.pointer (some ⟨g, 0, none⟩), .int .i64 m] W fun e W' => ∃ A n c, e = .returned (.slice A n c) ∧ FreshI W W' (lineM s3 m) A n c) := fun W hk m => by
                      have h1 := lkLine_any (hst3.is.is.old hk) hst3.all.whole m
                      rw [hst3.g_] at h1
                      exact h1
                    have HEF3 : Hid (∀ W, Kept [] wp W → ∀ t : Nat, t < 6 → Calls Tryd.prog 11 #[.pointer (some ⟨g, 0, none⟩), .int .i64 t] W fun e W' => e = .returned (.int .i64 (s3.eff.getD t 0)) ∧ W = W') := fun W hk t ht => by
                      have h1 := lkEff_any (hst3.is.is.at_.old hk) t
                      have h2 : effM s3 t = s3.eff.getD t 0 := by unfold effM; rw [if_pos (by have := hst3.n6; omega)]; rfl
                      rw [hst3.g_, h2] at h1
                      exact h1
                    clear hst3
                    go_loopw [12] (fun mv wr2 => ∃ m : Nat, m ≤ 6 ∧ mv = .int .i64 m ∧ Hid (Kept [] wp wr2)) (fun m _ => 6 - (intOf m).toNat)
                    case atStart => exact ⟨0, by omega, rfl, Kept.refl _ _⟩
                    case round =>
                      obtain ⟨m, hm1, rfl, HKM⟩ := hrel
                      by_cases hml : m < 6
                      · have HLM := Lib.hid (HLN3.out _ HKM.out m)
                        have hmi : (m : Int) < 6 := by omega
                        have hm6 : m < s3.lines.length := by have := HST3.out.m6; omega
                        have hll3 := lineM_len HST3.out.all m
                        go_wp2_with fail
                        refine (HLM.out).mono ?_
                        rintro e w8 ⟨A8, n8, c8, rfl, hf8⟩
                        have hn8 : n8 = (lineM s3 m).length := by have := hf8.reads.1; simpa using this.symm
                        have HF8 := Lib.hid hf8
                        have HK8 := Lib.hid (HKM.out.trans hf8.2.1)
                        subst hn8
                        generalize hLN3 : (lineM s3 m).length = l3 at *
                        have HL3 := Lib.hid hLN3
                        clear hf8 hLN3
                        go_wp2_with fail
                        go_loopw [14] (fun kv wr3 => ∃ q : Nat, q ≤ l3 ∧ kv = .int .i64 ((q : Int) + 1) ∧ Hid (Kept [] w8 wr3)) (fun k _ => l3 + 1 - (intOf k).toNat)
                        case atStart => exact ⟨0, by omega, by first | rfl | go_num, Kept.refl _ _⟩
                        case round =>
                          obtain ⟨q, hq1, rfl, HKQ8⟩ := hrel
                          by_cases hql : q + 1 < l3
                          · obtain ⟨y0, hy0⟩ : ∃ y0, (lineM s3 m)[q]? = some y0 := ⟨(lineM s3 m)[q]'(by rw [HL3.out]; omega), List.getElem?_eq_getElem _⟩
                            obtain ⟨y1, hy1⟩ : ∃ y1, (lineM s3 m)[q + 1]? = some y1 := ⟨(lineM s3 m)[q + 1]'(by rw [HL3.out]; omega), List.getElem?_eq_getElem _⟩
                            obtain ⟨j0, rfl, hj0b⟩ := lineM_range HST3.out.all (List.mem_of_getElem? hy0)
                            obtain ⟨j1, rfl, hj1b⟩ := lineM_range HST3.out.all (List.mem_of_getElem? hy1)
                            have hn63 := HST3.out.n6
                            have hle3 : s3.eff.getD j0 0 ≤ s3.eff.getD j1 0 := by
                              have := effL_sorted HST3.out.all m (Nat.lt_succ_self q) (x := s3.eff.getD j0 0) (y := s3.eff.getD j1 0) (by unfold effL; rw [List.getElem?_map, hy0]; rfl) (by unfold effL; rw [List.getElem?_map, hy1]; rfl)
                              exact this
                            obtain ⟨eb8, eo8, he8, hebl8, hecl8⟩ := (HF8.out.reads.old HKQ8.out).addr (by omega) (by omega)
                            subst he8
                            have hc80 := hecl8 q (.int .i64 (j0 : Int)) (by rw [List.getElem?_map, hy0]; rfl)
                            have hc81 := hecl8 (q + 1) (.int .i64 (j1 : Int)) (by rw [List.getElem?_map, hy1]; rfl)
                            have HE0 := Lib.hid (fun W hk => HEF3.out W hk j0 (by omega))
                            have HE1 := Lib.hid (fun W hk => HEF3.out W hk j1 (by omega))
                            have HKR := Lib.hid (HK8.out.trans HKQ8.out)
                            generalize s3.eff.getD j0 0 = f0 at *
                            generalize s3.eff.getD j1 0 = f1 at *
                            have hq4 : ((q : Int) + 1) < (l3 : Int) := by omega
                            have hq5 : (0 : Int) ≤ (q : Int) + 1 := by omega
                            have hq6 : (0 : Int) ≤ (q : Int) := by omega
                            have hq7 : (q : Int) < (l3 : Int) := by omega
                            have hq8 : ((q : Int) + 1).toNat = q + 1 := by omega
                            have hq12 : IntKind.i64.wrap (q : Int) = (q : Int) := IntWalk.i64_in _ (by omega)
                            clear hecl8 hy0 hy1 hj0b hj1b hn63
                            go_wp2_with fail
                            have hmix : Tryd.prog.follows .mixedOrders = true := by kernel_rfl
                            refine wp_region_held_drew (S := fun w' => w'.cell? ⟨eb8, eo8 + q, none⟩ = some (.int .i64 (j0 : Int)) ∧ w'.cell? ⟨eb8, eo8 + (q + 1), none⟩ = some (.int .i64 (j1 : Int))) hmix ⟨hc80, hc81⟩ (fun hHeld => ?_)
                            (refine rtake_0 (v := ?_) (by kernel_rfl) (by kernel_rfl) (by kernel_rfl) (fun _ _ _ h => h) (Or.inl ⟨by rfl, ?_⟩) (by assumption) ?_; rotate_left; focus ((intro w hSw; (try dsimp only at hSw); go_simp); try (with_reducible rfl)); (try simp only [Act.put, List.setIfInBounds_toArray, List.set_cons_zero, List.set_cons_succ]))
                            (refine rtake_1 (v := ?_) (by kernel_rfl) (by kernel_rfl) (by kernel_rfl) (fun _ _ _ h => h) (Or.inl ⟨by rfl, ?_⟩) (by assumption) ?_; rotate_left; focus ((intro w hSw; (try dsimp only at hSw); go_simp); try (with_reducible rfl)); (try simp only [Act.put, List.setIfInBounds_toArray, List.set_cons_zero, List.set_cons_succ]))
                            (refine rtake_2 (v := ?_) (by kernel_rfl) (by kernel_rfl) (by kernel_rfl) (fun _ _ _ h => h) (Or.inl ⟨by rfl, ?_⟩) (by assumption) ?_; rotate_left; focus ((intro w hSw; (try dsimp only at hSw); go_simp); try (with_reducible rfl)); (try simp only [Act.put, List.setIfInBounds_toArray, List.set_cons_zero, List.set_cons_succ]))
                            (refine rtake_3 (v := ?_) (by kernel_rfl) (by kernel_rfl) (by kernel_rfl) (fun _ _ _ h => h) (Or.inl ⟨by rfl, ?_⟩) (by assumption) ?_; rotate_left; focus ((intro w hSw; (try dsimp only at hSw); go_simp); try (with_reducible rfl)); (try simp only [Act.put, List.setIfInBounds_toArray, List.set_cons_zero, List.set_cons_succ]))
                            (refine rtake_4 (v := ?_) (by kernel_rfl) (by kernel_rfl) (by kernel_rfl) (fun _ _ _ h => h) (Or.inl ⟨by rfl, ?_⟩) (by assumption) ?_; rotate_left; focus ((intro w hSw; (try dsimp only at hSw); go_simp); try (with_reducible rfl)); (try simp only [Act.put, List.setIfInBounds_toArray, List.set_cons_zero, List.set_cons_succ]))
                            (refine rtake_5 (v := ?_) (by kernel_rfl) (by kernel_rfl) (by kernel_rfl) (fun _ _ _ h => h) (Or.inl ⟨by rfl, ?_⟩) (by assumption) ?_; rotate_left; focus ((intro w hSw; (try dsimp only at hSw); go_simp); try (with_reducible rfl)); (try simp only [Act.put, List.setIfInBounds_toArray, List.set_cons_zero, List.set_cons_succ]))
                            (refine rtake_7 (v := ?_) (by kernel_rfl) (by kernel_rfl) (by kernel_rfl) (fun _ _ _ h => h) (Or.inl ⟨by rfl, ?_⟩) (by assumption) ?_; rotate_left; focus ((intro w hSw; (try dsimp only at hSw); go_simp); try (with_reducible rfl)); (try simp only [Act.put, List.setIfInBounds_toArray, List.set_cons_zero, List.set_cons_succ]))
                            (refine rtake_8 (v := ?_) (by kernel_rfl) (by kernel_rfl) (by kernel_rfl) (fun _ _ _ h => h) (Or.inl ⟨by rfl, ?_⟩) (by assumption) ?_; rotate_left; focus ((intro w hSw; (try dsimp only at hSw); go_simp); try (with_reducible rfl)); (try simp only [Act.put, List.setIfInBounds_toArray, List.set_cons_zero, List.set_cons_succ]))
                            (refine rtake_9 (v := ?_) (by kernel_rfl) (by kernel_rfl) (by kernel_rfl) (fun _ _ _ h => h) (Or.inl ⟨by rfl, ?_⟩) (by assumption) ?_; rotate_left; focus ((intro w hSw; (try dsimp only at hSw); go_simp); try (with_reducible rfl)); (try simp only [Act.put, List.setIfInBounds_toArray, List.set_cons_zero, List.set_cons_succ]))
                            (refine rtake_10 (v := ?_) (by kernel_rfl) (by kernel_rfl) (by kernel_rfl) (fun _ _ _ h => h) (Or.inl ⟨by rfl, ?_⟩) (by assumption) ?_; rotate_left; focus ((intro w hSw; (try dsimp only at hSw); go_simp); try (with_reducible rfl)); (try simp only [Act.put, List.setIfInBounds_toArray, List.set_cons_zero, List.set_cons_succ]))
                            (refine rtake_11 (v := ?_) (by kernel_rfl) (by kernel_rfl) (by kernel_rfl) (fun _ _ _ h => h) (Or.inl ⟨by rfl, ?_⟩) (by assumption) ?_; rotate_left; focus ((intro w hSw; (try dsimp only at hSw); go_simp); try (with_reducible rfl)); (try simp only [Act.put, List.setIfInBounds_toArray, List.set_cons_zero, List.set_cons_succ]))
                            (refine wpAnyH_ready (rs := [6]) (by kernel_rfl) (by simp) ?_; refine rcons_6 (fun K hK => ?_) (AllReadyH.nil))
                            go_simp
                            (with_reducible refine (HE0.out _ (HKR.out.trans (by (repeat (first | (with_reducible exact Kept.refl _ _) | (with_reducible assumption) | (with_reducible refine Kept.alloc ?_ _) | (with_reducible refine Kept.drew ?_) | (with_reducible refine Kept.drewN ?_ _) | (with_reducible refine Kept.setCell ?_ ?_ _) | (exact .inr (Nat.le_refl _)) | (exact .inr (by simp only; omega)) | (exact .inr (by omega))))))).mono ?_)
                            rintro r w9 ⟨rfl, rfl⟩
                            try go_simp
                            refine hK.out _ _ ⟨hc80, hc81⟩ (fun hHeld => ?_)
                            clear hK K
                            (try simp only [Act.put, List.setIfInBounds_toArray, List.set_cons_zero, List.set_cons_succ])
                            (refine wpAnyH_ready (rs := [12]) (by kernel_rfl) (by simp) ?_; refine rcons_12 (fun K hK => ?_) (AllReadyH.nil))
                            go_simp
                            (with_reducible refine (HE1.out _ (HKR.out.trans (by (repeat (first | (with_reducible exact Kept.refl _ _) | (with_reducible assumption) | (with_reducible refine Kept.alloc ?_ _) | (with_reducible refine Kept.drew ?_) | (with_reducible refine Kept.drewN ?_ _) | (with_reducible refine Kept.setCell ?_ ?_ _) | (exact .inr (Nat.le_refl _)) | (exact .inr (by simp only; omega)) | (exact .inr (by omega))))))).mono ?_)
                            rintro r w9 ⟨rfl, rfl⟩
                            try go_simp
                            refine hK.out _ _ ⟨hc80, hc81⟩ (fun hHeld => ?_)
                            clear hK K
                            (try simp only [Act.put, List.setIfInBounds_toArray, List.set_cons_zero, List.set_cons_succ])
                            (refine rtake_13 (v := ?_) (by kernel_rfl) (by kernel_rfl) (by kernel_rfl) (fun _ _ _ h => h) (Or.inl ⟨by rfl, ?_⟩) (by assumption) ?_; rotate_left; focus ((intro w hSw; (try dsimp only at hSw); go_simp); try (with_reducible rfl)); (try simp only [Act.put, List.setIfInBounds_toArray, List.set_cons_zero, List.set_cons_succ]))
                            refine wpAnyH_done (by kernel_rfl) ?_ _
                            go_wp2_with fail
                            clear hHeld
                            go_roundw
                            case rel => exact ⟨q + 1, by omega, by go_num, HKQ8.out.drew⟩
                            case measure => simp [intOf]; omega
                          · have hq7 : (l3 : Int) ≤ (q : Int) + 1 := by omega
                            go_wp2_with fail
                            go_roundw
                            case rel => exact ⟨m + 1, by omega, by go_num, HK8.out.trans HKQ8.out⟩
                            case measure => simp [intOf]; omega
                      · obtain rfl : m = 6 := by omega
                        go_wp2_with fail
                        go_roundw
                        case rel => exact ⟨i + 1, by omega, by omega, by go_num, HGO2.out.old HKM.out⟩
                        case measure => simp [intOf]; omega
            · have hEb : (E == 0) = false := beq_eq_false_iff_ne.2 hE
              have hEn : (E != 0) = true := bne_iff_ne.2 hE
              have hNX := HUC.out hE
              subst hNX
              clear HUA HUB HUC hE HF
              go_wp2_with fail
              refine (HUN.out).mono ?_
              rintro e wu ⟨rfl, hgo, hku⟩
              have HGO : Hid (LkGo w wu g (i + 1)) := (by obtain ⟨a2, h⟩ := hgo; exact ⟨a2, _, _, h⟩)
              have hpost := HPOST.out _ hku
              have HEU := Lib.hid hpost.1
              clear hgo hku hpost HUN HPOST
              go_wp2_with fail
              go_loopw [11] (fun kv wr3 => ∃ q : Nat, q ≤ EL.length ∧ kv = .int .i64 ((q : Int) + 1) ∧ Hid (Kept [] wu wr3)) (fun k _ => EL.length + 1 - (intOf k).toNat)
              case atStart => exact ⟨0, by omega, by first | rfl | go_num, Kept.refl _ _⟩
              case round =>
                obtain ⟨q, hq1, rfl, HKQ⟩ := hrel
                have hEL := HEL.out
                by_cases hql : q + 1 < EL.length
                · obtain ⟨x0, hx0⟩ : ∃ x0, EL[0]? = some x0 := ⟨EL[0], List.getElem?_eq_getElem _⟩
                  obtain ⟨x1, hx1⟩ : ∃ x1, EL[q + 1]? = some x1 := ⟨EL[q + 1], List.getElem?_eq_getElem _⟩
                  have hle := HSO.out 0 (q + 1) x0 x1 (Nat.succ_pos q) hx0 hx1
                  obtain ⟨eb, eo, he, hebl, hecl⟩ := HEU.out.addr (by omega) (by omega)
                  subst he
                  have he0 := HKQ.out.cell_some (hecl 0 (.int .i64 x0) (by rw [List.getElem?_map, hx0]; rfl)) (by simp)
                  have he1 := HKQ.out.cell_some (hecl (q + 1) (.int .i64 x1) (by rw [List.getElem?_map, hx1]; rfl)) (by simp)
                  rw [Nat.add_zero] at he0
                  have hq4 : ((q : Int) + 1) < (k : Int) := by omega
                  have hq5 : (0 : Int) ≤ (q : Int) + 1 := by omega
                  have hq6 : (0 : Int) < (k : Int) := by omega
                  have hq8 : ((q : Int) + 1).toNat = q + 1 := by omega
                  have hq9 : 0 < k := by omega
                  clear hecl hx0 hx1 hEL
                  go_wp2_with fail
                  go_region_held3 (fun w' => w'.cell? ⟨eb, eo, none⟩ = some (.int .i64 x0) ∧ w'.cell? ⟨eb, eo + (q + 1), none⟩ = some (.int .i64 x1)) (exact ⟨he0, he1⟩) (fail)
                  all_goals
                    go_wp2_with fail
                    go_roundw
                    case rel => exact ⟨q + 1, by omega, by go_num, HKQ.out.drew⟩
                    case measure => simp [intOf]; omega
                · have hq7 : (k : Int) ≤ (q : Int) + 1 := by omega
                  have HGO2 := Lib.hid (HGO.out.old HKQ.out)
                  clear HGO hEL
                  go_wp2_with fail
                  obtain ⟨a3, s3, js3, hst3⟩ := HGO2.out
                  have HST3 := Lib.hid hst3
                  generalize hwp : wr = wp at *
                  have HLN3 : Hid (∀ W, Kept [] wp W → ∀ m : Nat, Calls Tryd.prog 10 #[.pointer (some ⟨g, 0, none⟩), .int .i64 m] W fun e W' => ∃ A n c, e = .returned (.slice A n c) ∧ FreshI W W' (lineM s3 m) A n c) := fun W hk m => by
                    have h1 := lkLine_any (hst3.is.is.old hk) hst3.all.whole m
                    rw [hst3.g_] at h1
                    exact h1
                  have HEF3 : Hid (∀ W, Kept [] wp W → ∀ t : Nat, t < 6 → Calls Tryd.prog 11 #[.pointer (some ⟨g, 0, none⟩), .int .i64 t] W fun e W' => e = .returned (.int .i64 (s3.eff.getD t 0)) ∧ W = W') := fun W hk t ht => by
                    have h1 := lkEff_any (hst3.is.is.at_.old hk) t
                    have h2 : effM s3 t = s3.eff.getD t 0 := by unfold effM; rw [if_pos (by have := hst3.n6; omega)]; rfl
                    rw [hst3.g_, h2] at h1
                    exact h1
                  clear hst3
                  go_loopw [12] (fun mv wr2 => ∃ m : Nat, m ≤ 6 ∧ mv = .int .i64 m ∧ Hid (Kept [] wp wr2)) (fun m _ => 6 - (intOf m).toNat)
                  case atStart => exact ⟨0, by omega, rfl, Kept.refl _ _⟩
                  case round =>
                    obtain ⟨m, hm1, rfl, HKM⟩ := hrel
                    by_cases hml : m < 6
                    · have HLM := Lib.hid (HLN3.out _ HKM.out m)
                      have hmi : (m : Int) < 6 := by omega
                      have hm6 : m < s3.lines.length := by have := HST3.out.m6; omega
                      have hll3 := lineM_len HST3.out.all m
                      go_wp2_with fail
                      refine (HLM.out).mono ?_
                      rintro e w8 ⟨A8, n8, c8, rfl, hf8⟩
                      have hn8 : n8 = (lineM s3 m).length := by have := hf8.reads.1; simpa using this.symm
                      have HF8 := Lib.hid hf8
                      have HK8 := Lib.hid (HKM.out.trans hf8.2.1)
                      subst hn8
                      generalize hLN3 : (lineM s3 m).length = l3 at *
                      have HL3 := Lib.hid hLN3
                      clear hf8 hLN3
                      go_wp2_with fail
                      go_loopw [14] (fun kv wr3 => ∃ q : Nat, q ≤ l3 ∧ kv = .int .i64 ((q : Int) + 1) ∧ Hid (Kept [] w8 wr3)) (fun k _ => l3 + 1 - (intOf k).toNat)
                      case atStart => exact ⟨0, by omega, by first | rfl | go_num, Kept.refl _ _⟩
                      case round =>
                        obtain ⟨q, hq1, rfl, HKQ8⟩ := hrel
                        by_cases hql : q + 1 < l3
                        · obtain ⟨y0, hy0⟩ : ∃ y0, (lineM s3 m)[q]? = some y0 := ⟨(lineM s3 m)[q]'(by rw [HL3.out]; omega), List.getElem?_eq_getElem _⟩
                          obtain ⟨y1, hy1⟩ : ∃ y1, (lineM s3 m)[q + 1]? = some y1 := ⟨(lineM s3 m)[q + 1]'(by rw [HL3.out]; omega), List.getElem?_eq_getElem _⟩
                          obtain ⟨j0, rfl, hj0b⟩ := lineM_range HST3.out.all (List.mem_of_getElem? hy0)
                          obtain ⟨j1, rfl, hj1b⟩ := lineM_range HST3.out.all (List.mem_of_getElem? hy1)
                          have hn63 := HST3.out.n6
                          have hle3 : s3.eff.getD j0 0 ≤ s3.eff.getD j1 0 := by
                            have := effL_sorted HST3.out.all m (Nat.lt_succ_self q) (x := s3.eff.getD j0 0) (y := s3.eff.getD j1 0) (by unfold effL; rw [List.getElem?_map, hy0]; rfl) (by unfold effL; rw [List.getElem?_map, hy1]; rfl)
                            exact this
                          obtain ⟨eb8, eo8, he8, hebl8, hecl8⟩ := (HF8.out.reads.old HKQ8.out).addr (by omega) (by omega)
                          subst he8
                          have hc80 := hecl8 q (.int .i64 (j0 : Int)) (by rw [List.getElem?_map, hy0]; rfl)
                          have hc81 := hecl8 (q + 1) (.int .i64 (j1 : Int)) (by rw [List.getElem?_map, hy1]; rfl)
                          have HE0 := Lib.hid (fun W hk => HEF3.out W hk j0 (by omega))
                          have HE1 := Lib.hid (fun W hk => HEF3.out W hk j1 (by omega))
                          have HKR := Lib.hid (HK8.out.trans HKQ8.out)
                          generalize s3.eff.getD j0 0 = f0 at *
                          generalize s3.eff.getD j1 0 = f1 at *
                          have hq4 : ((q : Int) + 1) < (l3 : Int) := by omega
                          have hq5 : (0 : Int) ≤ (q : Int) + 1 := by omega
                          have hq6 : (0 : Int) ≤ (q : Int) := by omega
                          have hq7 : (q : Int) < (l3 : Int) := by omega
                          have hq8 : ((q : Int) + 1).toNat = q + 1 := by omega
                          have hq12 : IntKind.i64.wrap (q : Int) = (q : Int) := IntWalk.i64_in _ (by omega)
                          clear hecl8 hy0 hy1 hj0b hj1b hn63
                          go_wp2_with fail
                          have hmix : Tryd.prog.follows .mixedOrders = true := by kernel_rfl
                          refine wp_region_held_drew (S := fun w' => w'.cell? ⟨eb8, eo8 + q, none⟩ = some (.int .i64 (j0 : Int)) ∧ w'.cell? ⟨eb8, eo8 + (q + 1), none⟩ = some (.int .i64 (j1 : Int))) hmix ⟨hc80, hc81⟩ (fun hHeld => ?_)
                          (refine rtake_0 (v := ?_) (by kernel_rfl) (by kernel_rfl) (by kernel_rfl) (fun _ _ _ h => h) (Or.inl ⟨by rfl, ?_⟩) (by assumption) ?_; rotate_left; focus ((intro w hSw; (try dsimp only at hSw); go_simp); try (with_reducible rfl)); (try simp only [Act.put, List.setIfInBounds_toArray, List.set_cons_zero, List.set_cons_succ]))
                          (refine rtake_1 (v := ?_) (by kernel_rfl) (by kernel_rfl) (by kernel_rfl) (fun _ _ _ h => h) (Or.inl ⟨by rfl, ?_⟩) (by assumption) ?_; rotate_left; focus ((intro w hSw; (try dsimp only at hSw); go_simp); try (with_reducible rfl)); (try simp only [Act.put, List.setIfInBounds_toArray, List.set_cons_zero, List.set_cons_succ]))
                          (refine rtake_2 (v := ?_) (by kernel_rfl) (by kernel_rfl) (by kernel_rfl) (fun _ _ _ h => h) (Or.inl ⟨by rfl, ?_⟩) (by assumption) ?_; rotate_left; focus ((intro w hSw; (try dsimp only at hSw); go_simp); try (with_reducible rfl)); (try simp only [Act.put, List.setIfInBounds_toArray, List.set_cons_zero, List.set_cons_succ]))
                          (refine rtake_3 (v := ?_) (by kernel_rfl) (by kernel_rfl) (by kernel_rfl) (fun _ _ _ h => h) (Or.inl ⟨by rfl, ?_⟩) (by assumption) ?_; rotate_left; focus ((intro w hSw; (try dsimp only at hSw); go_simp); try (with_reducible rfl)); (try simp only [Act.put, List.setIfInBounds_toArray, List.set_cons_zero, List.set_cons_succ]))
                          (refine rtake_4 (v := ?_) (by kernel_rfl) (by kernel_rfl) (by kernel_rfl) (fun _ _ _ h => h) (Or.inl ⟨by rfl, ?_⟩) (by assumption) ?_; rotate_left; focus ((intro w hSw; (try dsimp only at hSw); go_simp); try (with_reducible rfl)); (try simp only [Act.put, List.setIfInBounds_toArray, List.set_cons_zero, List.set_cons_succ]))
                          (refine rtake_5 (v := ?_) (by kernel_rfl) (by kernel_rfl) (by kernel_rfl) (fun _ _ _ h => h) (Or.inl ⟨by rfl, ?_⟩) (by assumption) ?_; rotate_left; focus ((intro w hSw; (try dsimp only at hSw); go_simp); try (with_reducible rfl)); (try simp only [Act.put, List.setIfInBounds_toArray, List.set_cons_zero, List.set_cons_succ]))
                          (refine rtake_7 (v := ?_) (by kernel_rfl) (by kernel_rfl) (by kernel_rfl) (fun _ _ _ h => h) (Or.inl ⟨by rfl, ?_⟩) (by assumption) ?_; rotate_left; focus ((intro w hSw; (try dsimp only at hSw); go_simp); try (with_reducible rfl)); (try simp only [Act.put, List.setIfInBounds_toArray, List.set_cons_zero, List.set_cons_succ]))
                          (refine rtake_8 (v := ?_) (by kernel_rfl) (by kernel_rfl) (by kernel_rfl) (fun _ _ _ h => h) (Or.inl ⟨by rfl, ?_⟩) (by assumption) ?_; rotate_left; focus ((intro w hSw; (try dsimp only at hSw); go_simp); try (with_reducible rfl)); (try simp only [Act.put, List.setIfInBounds_toArray, List.set_cons_zero, List.set_cons_succ]))
                          (refine rtake_9 (v := ?_) (by kernel_rfl) (by kernel_rfl) (by kernel_rfl) (fun _ _ _ h => h) (Or.inl ⟨by rfl, ?_⟩) (by assumption) ?_; rotate_left; focus ((intro w hSw; (try dsimp only at hSw); go_simp); try (with_reducible rfl)); (try simp only [Act.put, List.setIfInBounds_toArray, List.set_cons_zero, List.set_cons_succ]))
                          (refine rtake_10 (v := ?_) (by kernel_rfl) (by kernel_rfl) (by kernel_rfl) (fun _ _ _ h => h) (Or.inl ⟨by rfl, ?_⟩) (by assumption) ?_; rotate_left; focus ((intro w hSw; (try dsimp only at hSw); go_simp); try (with_reducible rfl)); (try simp only [Act.put, List.setIfInBounds_toArray, List.set_cons_zero, List.set_cons_succ]))
                          (refine rtake_11 (v := ?_) (by kernel_rfl) (by kernel_rfl) (by kernel_rfl) (fun _ _ _ h => h) (Or.inl ⟨by rfl, ?_⟩) (by assumption) ?_; rotate_left; focus ((intro w hSw; (try dsimp only at hSw); go_simp); try (with_reducible rfl)); (try simp only [Act.put, List.setIfInBounds_toArray, List.set_cons_zero, List.set_cons_succ]))
                          (refine wpAnyH_ready (rs := [6]) (by kernel_rfl) (by simp) ?_; refine rcons_6 (fun K hK => ?_) (AllReadyH.nil))
                          go_simp
                          (with_reducible refine (HE0.out _ (HKR.out.trans (by (repeat (first | (with_reducible exact Kept.refl _ _) | (with_reducible assumption) | (with_reducible refine Kept.alloc ?_ _) | (with_reducible refine Kept.drew ?_) | (with_reducible refine Kept.drewN ?_ _) | (with_reducible refine Kept.setCell ?_ ?_ _) | (exact .inr (Nat.le_refl _)) | (exact .inr (by simp only; omega)) | (exact .inr (by omega))))))).mono ?_)
                          rintro r w9 ⟨rfl, rfl⟩
                          try go_simp
                          refine hK.out _ _ ⟨hc80, hc81⟩ (fun hHeld => ?_)
                          clear hK K
                          (try simp only [Act.put, List.setIfInBounds_toArray, List.set_cons_zero, List.set_cons_succ])
                          (refine wpAnyH_ready (rs := [12]) (by kernel_rfl) (by simp) ?_; refine rcons_12 (fun K hK => ?_) (AllReadyH.nil))
                          go_simp
                          (with_reducible refine (HE1.out _ (HKR.out.trans (by (repeat (first | (with_reducible exact Kept.refl _ _) | (with_reducible assumption) | (with_reducible refine Kept.alloc ?_ _) | (with_reducible refine Kept.drew ?_) | (with_reducible refine Kept.drewN ?_ _) | (with_reducible refine Kept.setCell ?_ ?_ _) | (exact .inr (Nat.le_refl _)) | (exact .inr (by simp only; omega)) | (exact .inr (by omega))))))).mono ?_)
                          rintro r w9 ⟨rfl, rfl⟩
                          try go_simp
                          refine hK.out _ _ ⟨hc80, hc81⟩ (fun hHeld => ?_)
                          clear hK K
                          (try simp only [Act.put, List.setIfInBounds_toArray, List.set_cons_zero, List.set_cons_succ])
                          (refine rtake_13 (v := ?_) (by kernel_rfl) (by kernel_rfl) (by kernel_rfl) (fun _ _ _ h => h) (Or.inl ⟨by rfl, ?_⟩) (by assumption) ?_; rotate_left; focus ((intro w hSw; (try dsimp only at hSw); go_simp); try (with_reducible rfl)); (try simp only [Act.put, List.setIfInBounds_toArray, List.set_cons_zero, List.set_cons_succ]))
                          refine wpAnyH_done (by kernel_rfl) ?_ _
                          go_wp2_with fail
                          clear hHeld
                          go_roundw
                          case rel => exact ⟨q + 1, by omega, by go_num, HKQ8.out.drew⟩
                          case measure => simp [intOf]; omega
                        · have hq7 : (l3 : Int) ≤ (q : Int) + 1 := by omega
                          go_wp2_with fail
                          go_roundw
                          case rel => exact ⟨m + 1, by omega, by go_num, HK8.out.trans HKQ8.out⟩
                          case measure => simp [intOf]; omega
                    · obtain rfl : m = 6 := by omega
                      go_wp2_with fail
                      go_roundw
                      case rel => exact ⟨i + 1, by omega, by omega, by go_num, HGO2.out.old HKM.out⟩
                      case measure => simp [intOf]; omega
      · have hb4 : ((r : Int) != 4) = true := by rw [bne_iff_ne]; omega
        have hb5 : ((r : Int) != 5) = true := by rw [bne_iff_ne]; omega
        clear hr4 hr5
        go_wp2_with fail
        refine (HSM.out).mono ?_
        rintro e w2 ⟨⟨A', B', rfl⟩, hk2⟩
        have HG2 := Lib.hid ((HG.out.old hk2).old ((Kept.refl [] w2).alloc (.cells #[.int .u8 ak, .int .i64 A', .int .i64 B'] 26)))
        clear hk2 hc0 hc1 hc2
        go_wp2_with fail
        refine (HPL.out _ HG2.out A' B').mono ?_
        rintro e wp0 ⟨rfl, hgo⟩
        have HGO := Lib.hid hgo
        have HGO2 := Lib.hid HGO.out
        clear HG HSM HPL HG2 hgo HGO
        go_wp2_with fail
        obtain ⟨a3, s3, js3, hst3⟩ := HGO2.out
        have HST3 := Lib.hid hst3
        generalize hwp : wp0 = wp at *
        have HLN3 : Hid (∀ W, Kept [] wp W → ∀ m : Nat, Calls Tryd.prog 10 #[.pointer (some ⟨g, 0, none⟩), .int .i64 m] W fun e W' => ∃ A n c, e = .returned (.slice A n c) ∧ FreshI W W' (lineM s3 m) A n c) := fun W hk m => by
          have h1 := lkLine_any (hst3.is.is.old hk) hst3.all.whole m
          rw [hst3.g_] at h1
          exact h1
        have HEF3 : Hid (∀ W, Kept [] wp W → ∀ t : Nat, t < 6 → Calls Tryd.prog 11 #[.pointer (some ⟨g, 0, none⟩), .int .i64 t] W fun e W' => e = .returned (.int .i64 (s3.eff.getD t 0)) ∧ W = W') := fun W hk t ht => by
          have h1 := lkEff_any (hst3.is.is.at_.old hk) t
          have h2 : effM s3 t = s3.eff.getD t 0 := by unfold effM; rw [if_pos (by have := hst3.n6; omega)]; rfl
          rw [hst3.g_, h2] at h1
          exact h1
        clear hst3
        go_loopw [12] (fun mv wr2 => ∃ m : Nat, m ≤ 6 ∧ mv = .int .i64 m ∧ Hid (Kept [] wp wr2)) (fun m _ => 6 - (intOf m).toNat)
        case atStart => exact ⟨0, by omega, rfl, Kept.refl _ _⟩
        case round =>
          obtain ⟨m, hm1, rfl, HKM⟩ := hrel
          by_cases hml : m < 6
          · have HLM := Lib.hid (HLN3.out _ HKM.out m)
            have hmi : (m : Int) < 6 := by omega
            have hm6 : m < s3.lines.length := by have := HST3.out.m6; omega
            have hll3 := lineM_len HST3.out.all m
            go_wp2_with fail
            refine (HLM.out).mono ?_
            rintro e w8 ⟨A8, n8, c8, rfl, hf8⟩
            have hn8 : n8 = (lineM s3 m).length := by have := hf8.reads.1; simpa using this.symm
            have HF8 := Lib.hid hf8
            have HK8 := Lib.hid (HKM.out.trans hf8.2.1)
            subst hn8
            generalize hLN3 : (lineM s3 m).length = l3 at *
            have HL3 := Lib.hid hLN3
            clear hf8 hLN3
            go_wp2_with fail
            go_loopw [14] (fun kv wr3 => ∃ q : Nat, q ≤ l3 ∧ kv = .int .i64 ((q : Int) + 1) ∧ Hid (Kept [] w8 wr3)) (fun k _ => l3 + 1 - (intOf k).toNat)
            case atStart => exact ⟨0, by omega, by first | rfl | go_num, Kept.refl _ _⟩
            case round =>
              obtain ⟨q, hq1, rfl, HKQ8⟩ := hrel
              by_cases hql : q + 1 < l3
              · obtain ⟨y0, hy0⟩ : ∃ y0, (lineM s3 m)[q]? = some y0 := ⟨(lineM s3 m)[q]'(by rw [HL3.out]; omega), List.getElem?_eq_getElem _⟩
                obtain ⟨y1, hy1⟩ : ∃ y1, (lineM s3 m)[q + 1]? = some y1 := ⟨(lineM s3 m)[q + 1]'(by rw [HL3.out]; omega), List.getElem?_eq_getElem _⟩
                obtain ⟨j0, rfl, hj0b⟩ := lineM_range HST3.out.all (List.mem_of_getElem? hy0)
                obtain ⟨j1, rfl, hj1b⟩ := lineM_range HST3.out.all (List.mem_of_getElem? hy1)
                have hn63 := HST3.out.n6
                have hle3 : s3.eff.getD j0 0 ≤ s3.eff.getD j1 0 := by
                  have := effL_sorted HST3.out.all m (Nat.lt_succ_self q) (x := s3.eff.getD j0 0) (y := s3.eff.getD j1 0) (by unfold effL; rw [List.getElem?_map, hy0]; rfl) (by unfold effL; rw [List.getElem?_map, hy1]; rfl)
                  exact this
                obtain ⟨eb8, eo8, he8, hebl8, hecl8⟩ := (HF8.out.reads.old HKQ8.out).addr (by omega) (by omega)
                subst he8
                have hc80 := hecl8 q (.int .i64 (j0 : Int)) (by rw [List.getElem?_map, hy0]; rfl)
                have hc81 := hecl8 (q + 1) (.int .i64 (j1 : Int)) (by rw [List.getElem?_map, hy1]; rfl)
                have HE0 := Lib.hid (fun W hk => HEF3.out W hk j0 (by omega))
                have HE1 := Lib.hid (fun W hk => HEF3.out W hk j1 (by omega))
                have HKR := Lib.hid (HK8.out.trans HKQ8.out)
                generalize s3.eff.getD j0 0 = f0 at *
                generalize s3.eff.getD j1 0 = f1 at *
                have hq4 : ((q : Int) + 1) < (l3 : Int) := by omega
                have hq5 : (0 : Int) ≤ (q : Int) + 1 := by omega
                have hq6 : (0 : Int) ≤ (q : Int) := by omega
                have hq7 : (q : Int) < (l3 : Int) := by omega
                have hq8 : ((q : Int) + 1).toNat = q + 1 := by omega
                have hq12 : IntKind.i64.wrap (q : Int) = (q : Int) := IntWalk.i64_in _ (by omega)
                clear hecl8 hy0 hy1 hj0b hj1b hn63
                go_wp2_with fail
                have hmix : Tryd.prog.follows .mixedOrders = true := by kernel_rfl
                refine wp_region_held_drew (S := fun w' => w'.cell? ⟨eb8, eo8 + q, none⟩ = some (.int .i64 (j0 : Int)) ∧ w'.cell? ⟨eb8, eo8 + (q + 1), none⟩ = some (.int .i64 (j1 : Int))) hmix ⟨hc80, hc81⟩ (fun hHeld => ?_)
                (refine rtake_0 (v := ?_) (by kernel_rfl) (by kernel_rfl) (by kernel_rfl) (fun _ _ _ h => h) (Or.inl ⟨by rfl, ?_⟩) (by assumption) ?_; rotate_left; focus ((intro w hSw; (try dsimp only at hSw); go_simp); try (with_reducible rfl)); (try simp only [Act.put, List.setIfInBounds_toArray, List.set_cons_zero, List.set_cons_succ]))
                (refine rtake_1 (v := ?_) (by kernel_rfl) (by kernel_rfl) (by kernel_rfl) (fun _ _ _ h => h) (Or.inl ⟨by rfl, ?_⟩) (by assumption) ?_; rotate_left; focus ((intro w hSw; (try dsimp only at hSw); go_simp); try (with_reducible rfl)); (try simp only [Act.put, List.setIfInBounds_toArray, List.set_cons_zero, List.set_cons_succ]))
                (refine rtake_2 (v := ?_) (by kernel_rfl) (by kernel_rfl) (by kernel_rfl) (fun _ _ _ h => h) (Or.inl ⟨by rfl, ?_⟩) (by assumption) ?_; rotate_left; focus ((intro w hSw; (try dsimp only at hSw); go_simp); try (with_reducible rfl)); (try simp only [Act.put, List.setIfInBounds_toArray, List.set_cons_zero, List.set_cons_succ]))
                (refine rtake_3 (v := ?_) (by kernel_rfl) (by kernel_rfl) (by kernel_rfl) (fun _ _ _ h => h) (Or.inl ⟨by rfl, ?_⟩) (by assumption) ?_; rotate_left; focus ((intro w hSw; (try dsimp only at hSw); go_simp); try (with_reducible rfl)); (try simp only [Act.put, List.setIfInBounds_toArray, List.set_cons_zero, List.set_cons_succ]))
                (refine rtake_4 (v := ?_) (by kernel_rfl) (by kernel_rfl) (by kernel_rfl) (fun _ _ _ h => h) (Or.inl ⟨by rfl, ?_⟩) (by assumption) ?_; rotate_left; focus ((intro w hSw; (try dsimp only at hSw); go_simp); try (with_reducible rfl)); (try simp only [Act.put, List.setIfInBounds_toArray, List.set_cons_zero, List.set_cons_succ]))
                (refine rtake_5 (v := ?_) (by kernel_rfl) (by kernel_rfl) (by kernel_rfl) (fun _ _ _ h => h) (Or.inl ⟨by rfl, ?_⟩) (by assumption) ?_; rotate_left; focus ((intro w hSw; (try dsimp only at hSw); go_simp); try (with_reducible rfl)); (try simp only [Act.put, List.setIfInBounds_toArray, List.set_cons_zero, List.set_cons_succ]))
                (refine rtake_7 (v := ?_) (by kernel_rfl) (by kernel_rfl) (by kernel_rfl) (fun _ _ _ h => h) (Or.inl ⟨by rfl, ?_⟩) (by assumption) ?_; rotate_left; focus ((intro w hSw; (try dsimp only at hSw); go_simp); try (with_reducible rfl)); (try simp only [Act.put, List.setIfInBounds_toArray, List.set_cons_zero, List.set_cons_succ]))
                (refine rtake_8 (v := ?_) (by kernel_rfl) (by kernel_rfl) (by kernel_rfl) (fun _ _ _ h => h) (Or.inl ⟨by rfl, ?_⟩) (by assumption) ?_; rotate_left; focus ((intro w hSw; (try dsimp only at hSw); go_simp); try (with_reducible rfl)); (try simp only [Act.put, List.setIfInBounds_toArray, List.set_cons_zero, List.set_cons_succ]))
                (refine rtake_9 (v := ?_) (by kernel_rfl) (by kernel_rfl) (by kernel_rfl) (fun _ _ _ h => h) (Or.inl ⟨by rfl, ?_⟩) (by assumption) ?_; rotate_left; focus ((intro w hSw; (try dsimp only at hSw); go_simp); try (with_reducible rfl)); (try simp only [Act.put, List.setIfInBounds_toArray, List.set_cons_zero, List.set_cons_succ]))
                (refine rtake_10 (v := ?_) (by kernel_rfl) (by kernel_rfl) (by kernel_rfl) (fun _ _ _ h => h) (Or.inl ⟨by rfl, ?_⟩) (by assumption) ?_; rotate_left; focus ((intro w hSw; (try dsimp only at hSw); go_simp); try (with_reducible rfl)); (try simp only [Act.put, List.setIfInBounds_toArray, List.set_cons_zero, List.set_cons_succ]))
                (refine rtake_11 (v := ?_) (by kernel_rfl) (by kernel_rfl) (by kernel_rfl) (fun _ _ _ h => h) (Or.inl ⟨by rfl, ?_⟩) (by assumption) ?_; rotate_left; focus ((intro w hSw; (try dsimp only at hSw); go_simp); try (with_reducible rfl)); (try simp only [Act.put, List.setIfInBounds_toArray, List.set_cons_zero, List.set_cons_succ]))
                (refine wpAnyH_ready (rs := [6]) (by kernel_rfl) (by simp) ?_; refine rcons_6 (fun K hK => ?_) (AllReadyH.nil))
                go_simp
                (with_reducible refine (HE0.out _ (HKR.out.trans (by (repeat (first | (with_reducible exact Kept.refl _ _) | (with_reducible assumption) | (with_reducible refine Kept.alloc ?_ _) | (with_reducible refine Kept.drew ?_) | (with_reducible refine Kept.drewN ?_ _) | (with_reducible refine Kept.setCell ?_ ?_ _) | (exact .inr (Nat.le_refl _)) | (exact .inr (by simp only; omega)) | (exact .inr (by omega))))))).mono ?_)
                rintro r w9 ⟨rfl, rfl⟩
                try go_simp
                refine hK.out _ _ ⟨hc80, hc81⟩ (fun hHeld => ?_)
                clear hK K
                (try simp only [Act.put, List.setIfInBounds_toArray, List.set_cons_zero, List.set_cons_succ])
                (refine wpAnyH_ready (rs := [12]) (by kernel_rfl) (by simp) ?_; refine rcons_12 (fun K hK => ?_) (AllReadyH.nil))
                go_simp
                (with_reducible refine (HE1.out _ (HKR.out.trans (by (repeat (first | (with_reducible exact Kept.refl _ _) | (with_reducible assumption) | (with_reducible refine Kept.alloc ?_ _) | (with_reducible refine Kept.drew ?_) | (with_reducible refine Kept.drewN ?_ _) | (with_reducible refine Kept.setCell ?_ ?_ _) | (exact .inr (Nat.le_refl _)) | (exact .inr (by simp only; omega)) | (exact .inr (by omega))))))).mono ?_)
                rintro r w9 ⟨rfl, rfl⟩
                try go_simp
                refine hK.out _ _ ⟨hc80, hc81⟩ (fun hHeld => ?_)
                clear hK K
                (try simp only [Act.put, List.setIfInBounds_toArray, List.set_cons_zero, List.set_cons_succ])
                (refine rtake_13 (v := ?_) (by kernel_rfl) (by kernel_rfl) (by kernel_rfl) (fun _ _ _ h => h) (Or.inl ⟨by rfl, ?_⟩) (by assumption) ?_; rotate_left; focus ((intro w hSw; (try dsimp only at hSw); go_simp); try (with_reducible rfl)); (try simp only [Act.put, List.setIfInBounds_toArray, List.set_cons_zero, List.set_cons_succ]))
                refine wpAnyH_done (by kernel_rfl) ?_ _
                go_wp2_with fail
                clear hHeld
                go_roundw
                case rel => exact ⟨q + 1, by omega, by go_num, HKQ8.out.drew⟩
                case measure => simp [intOf]; omega
              · have hq7 : (l3 : Int) ≤ (q : Int) + 1 := by omega
                go_wp2_with fail
                go_roundw
                case rel => exact ⟨m + 1, by omega, by go_num, HK8.out.trans HKQ8.out⟩
                case measure => simp [intOf]; omega
          · obtain rfl : m = 6 := by omega
            go_wp2_with fail
            go_roundw
            case rel => exact ⟨i + 1, by omega, by omega, by go_num, HGO2.out.old HKM.out⟩
            case measure => simp [intOf]; omega
    · have hkw : Kept [] w wr := by obtain ⟨_, _, _, h⟩ := HG.out; exact h.kept
      have HKW := Lib.hid hkw
      have HA := Lib.hid (awake26 wr)
      clear hkw
      rcases (by omega : i = acts.length ∨ (i < acts.length ∧ i = 70)) with h1 | ⟨h1, h2⟩
      · subst h1
        clear hgo
        go_wp2_with fail
        refine (HA.out).mono ?_
        rintro e w2 ⟨rfl, hk2⟩
        have HK2 := Lib.hid (HKW.out.trans hk2)
        clear hk2
        go_wp2_with fail
        go_ret
        exact ⟨rfl, HK2.out⟩
      · subst h2
        have d1 : decide (((70 : Nat) : Int) < (acts.length : Int)) = true := by simp; omega
        have hj1 : ((70 : Nat) : Int) < (acts.length : Int) := by omega
        have hj2 : (70 : Int) < (acts.length : Int) := by omega
        clear hgo
        go_wp2_with fail
        refine (HA.out).mono ?_
        rintro e w2 ⟨rfl, hk2⟩
        have HK2 := Lib.hid (HKW.out.trans hk2)
        clear hk2
        go_wp2_with fail
        go_ret
        exact ⟨rfl, HK2.out⟩



end Go.Proofs.YtfoeijiejpenpaaDoor
