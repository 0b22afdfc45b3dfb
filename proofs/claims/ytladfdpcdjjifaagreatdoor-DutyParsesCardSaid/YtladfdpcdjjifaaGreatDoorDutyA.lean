/- A duty out of a text, in plain words: the first line, another line, all lines. No program is walked here; numbered: words as numbers, walked; start: a start's words, walked; A slice of programs whose rows lie apart: the last one may be lengthened in its place. No program is walked here; A duty's nine cells stored one after another. -/
import Derived.Test.YtladfdpcdjjifaaGreatDoorPlains
import Derived.Test.YtladfdpcdjjifaaGreatDoorDuO
import Derived.Test.YtladfdpcdjjifaaGreatDoorDeedK
import Derived.Deep.RegionHeld3
import Derived.Test.YtladfdpcdjjifaaGreatDoorDeedC

/- A duty out of a text, in plain words: the first line, another line, all lines. No program is walked here. -/
namespace Go.Proofs.YtladfdpcdjjifaaGreatDoor
open Go.RowKit

/-- The duty of some numbers. -/
def ofN (x : List Nat) : Du := ⟨smallN (x.getD 0 0), smallN (x.getD 1 0), smallN (x.getD 2 0), smallN (x.getD 3 0), x.getD 4 0, x.getD 5 0, x.getD 6 0, [], []⟩
def dutyW : List UInt8 := [100, 117, 116, 121]
def progW : List UInt8 := [112, 114, 111, 103]
def startW : List UInt8 := [115, 116, 97, 114, 116]
/-- The first line. -/
def headT (ws : List (List UInt8)) : Du × Int := match ws with
  | [] => (Du.zero, 15)
  | a :: t => if a = dutyW then (match numbU t 7 5 with | none => (Du.zero, 3) | some x => (ofN x, 0)) else (Du.zero, 15)
/-- A start's words. -/
def startT (t : List (List UInt8)) : St × Int := match numbU t 3 2 with
  | none => (⟨0, 0, 0⟩, 3)
  | some x => (⟨smallN (x.getD 0 0), smallN (x.getD 1 0), x.getD 2 0⟩, 0)
theorem startT_mask (t : List (List UInt8)) : (startT t).1.mask < 18446744073709551616 := by
  unfold startT
  split
  · show 0 < _; omega
  · rename_i x h; exact numbU_lt h 2
/-- A duty with one line more, and what is wrong. -/
def moreT (d : Du) (s : List UInt8) : Du × Int := match words s with
  | [] => (d, 15)
  | a :: t =>
    if a = dutyW then (d, 15)
    else if a = startW then (if (startT t).2 = 0 then ({ d with starts := d.starts ++ [(startT t).1] }, 0) else (d, 3))
    else if d.starts ≠ [] then (d, 15)
    else if a = progW then (if t = [] then ({ d with progs := d.progs ++ [[]] }, 0) else (d, 3))
    else if d.progs = [] then (d, 15)
    else if (parseD 1048576 s).2 = 0 then ({ d with progs := d.progs.dropLast ++ [d.progs.getLastD [] ++ [(parseD 1048576 s).1]] }, 0) else (d, (parseD 1048576 s).2)
/-- What is small in a duty that is being read. -/
def SmallU (n : Nat) (d : Du) : Prop := d.progs.length ≤ n ∧ d.starts.length ≤ n ∧ (∀ p ∈ d.progs, p.length ≤ n) ∧ ∀ s ∈ d.starts, s.mask < 18446744073709551616
theorem SmallU.more {n : Nat} {d : Du} (h : SmallU n d) (s : List UInt8) : SmallU (n + 1) (moreT d s).1 := by
  obtain ⟨h1, h2, h3, h4⟩ := h
  have hk : SmallU (n + 1) d := ⟨by omega, by omega, fun p hp => by have := h3 p hp; omega, h4⟩
  unfold moreT
  split
  · exact hk
  · split
    · exact hk
    · split
      · split
        · refine ⟨Nat.le_succ_of_le h1, by simp; omega, fun p hp => by have := h3 p hp; omega, fun x hx => ?_⟩
          rcases List.mem_append.1 hx with hx | hx
          · exact h4 x hx
          · obtain rfl := List.mem_singleton.1 hx; exact startT_mask _
        · exact hk
      · split
        · exact hk
        · split
          · split
            · refine ⟨by simp; omega, Nat.le_succ_of_le h2, fun p hp => ?_, h4⟩
              rcases List.mem_append.1 hp with hp | hp
              · have := h3 p hp; omega
              · obtain rfl := List.mem_singleton.1 hp; simp
            · exact hk
          · split
            · exact hk
            · rename_i hne
              split
              · refine ⟨by simp; omega, Nat.le_succ_of_le h2, fun p hp => ?_, h4⟩
                rcases List.mem_append.1 hp with hp | hp
                · have := h3 p ((List.dropLast_sublist _).subset hp); omega
                · obtain rfl := List.mem_singleton.1 hp
                  have hl : d.progs.getLastD [] ∈ d.progs := by rw [List.getLastD_eq_getLast?, List.getLast?_eq_some_getLast hne]; exact List.getLast_mem hne
                  have := h3 _ hl
                  rw [List.length_append, List.length_singleton]; omega
              · exact hk
/-- A duty out of lines: the duty so far, how many lines are read. -/
def readT : Du → Nat → List (List UInt8) → Du × Int × Int
  | d, i, [] => if checkU d = 0 then (d, i, 0) else (Du.zero, i, checkU d)
  | d, i, l :: t => if (moreT d l).2 = 0 then readT (moreT d l).1 (i + 1) t else (Du.zero, i, (moreT d l).2)
/-- A text's duty, where its lines end, and what is wrong. -/
def parseT (ls : List (List UInt8)) : Du × Int × Int := match ls with
  | [] => (Du.zero, 0, 2)
  | a :: t => if (headT (words a)).2 = 0 then readT (headT (words a)).1 1 t else (Du.zero, 0, (headT (words a)).2)

theorem zero_small (n : Nat) : SmallU n Du.zero := ⟨Nat.zero_le _, Nat.zero_le _, by simp [Du.zero], by simp [Du.zero]⟩
theorem readT_small : ∀ (ls : List (List UInt8)) (n : Nat) (d : Du) (i : Nat), SmallU n d → SmallU (n + ls.length) (readT d i ls).1
  | [], n, d, i, h => by
    unfold readT
    split
    · exact h
    · exact zero_small _
  | l :: t, n, d, i, h => by
    unfold readT
    split
    · have := readT_small t (n + 1) (moreT d l).1 (i + 1) (h.more l)
      rw [List.length_cons, show n + (t.length + 1) = n + 1 + t.length by omega]; exact this
    · exact zero_small _
theorem headT_small (ws : List (List UInt8)) : SmallU 0 (headT ws).1 := by
  unfold headT
  split
  · exact zero_small 0
  · split
    · split
      · exact zero_small 0
      · exact ⟨Nat.le_refl _, Nat.le_refl _, by simp [ofN], by simp [ofN]⟩
    · exact zero_small 0
theorem parseT_small (ls : List (List UInt8)) : SmallU ls.length (parseT ls).1 := by
  unfold parseT
  split
  · exact zero_small _
  · rename_i a t
    split
    · have := readT_small t 0 (headT (words a)).1 1 (headT_small _)
      rw [Nat.zero_add] at this
      exact ⟨by have := this.1; simp; omega, by have := this.2.1; simp; omega, fun p hp => by have := this.2.2.1 p hp; simp; omega, this.2.2.2⟩
    · exact zero_small _

/-- A line whose first word is no name is no deed. -/
theorem parseD_noname {s a : List UInt8} {t : List (List UInt8)} (h : words s = a :: t) (ho : opOf a = 0) : parseD 1048576 s = (Dd.zero, 15) := by
  simp [parseD, h, ho]
/-- The document's order of the questions: a word that is no name is told before the deed is read. -/
theorem moreT_name {d : Du} {s a : List UInt8} {t : List (List UInt8)} (h : words s = a :: t) (h1 : a ≠ dutyW) (h2 : a ≠ startW) (h3 : d.starts = []) (h4 : a ≠ progW) (ho : opOf a = 0) : moreT d s = (d, 15) := by
  simp [moreT, h, h1, h2, h3, h4, parseD_noname h ho]

end Go.Proofs.YtladfdpcdjjifaaGreatDoor

/- numbered: words as numbers, walked. -/
namespace Go.Proofs.YtladfdpcdjjifaaGreatDoor
open Go.RowKit

set_option maxHeartbeats 6400000 in
set_option maxRecDepth 100000 in
theorem unumbered_any (A : Option Addr) (n c : Nat) (ws : List (List UInt8)) (M H : Int) (many K : Nat) (w : World) (hr : Reads w 1 A n (ws.map strV)) (hl : ws.length ≤ 100000) (hx : ∀ x ∈ ws, x.length ≤ 100000) (hm : (M = 7 ∧ H = 2 ∧ many = 7 ∧ K = 5) ∨ (M = 3 ∧ H = 1 ∧ many = 3 ∧ K = 2)) :
    Calls Tryz.prog 23 #[.slice A n c, .int .i64 M, .int .i64 H] w fun e w' => ∃ A' n' c', e = .returned (.tuple #[.slice A' n' c', .bool (numbU ws many K).isSome]) ∧ (∀ r, numbU ws many K = some r → RowN w w' r A' n' c') ∧ Kept [] w w' := by
  obtain rfl : n = ws.length := by have := hr.1; simp at this; omega
  have HX := Lib.hid hx
  have HRD := Lib.hid hr
  have HR := Lib.hid (fun x (h : x.length ≤ 100000) w => read_any x w (by omega))
  have HH := Lib.hid (fun x (h : x.length ≤ 100000) w => readHex_any x w (by omega))
  clear hx hr
  rcases hm with ⟨rfl, rfl, rfl, hK⟩ | ⟨rfl, rfl, rfl, hK⟩
  · by_cases hlen : ws.length = 7
    · generalize hR : numbU ws 7 K = R
      rw [numbU, if_pos hlen] at hR
      have HR0 := Lib.hid hR
      have hb : ((ws.length : Int) != 7) = false := by rw [hlen]; rfl
      have HL := Lib.hid hlen
      clear hR hlen
      go_enter Tryz.func23, Tryz.ntmps23
      go_wp2_with fail
      go_loopw [8, 19] (fun ov iv wr => ∃ (k : Nat) (A' : Option Addr) (c' : Nat) (done : List Nat), k ≤ ws.length ∧ iv = .int .i64 k ∧ ov = .slice A' k c' ∧ Hid (numsF K done (ws.drop k) = R) ∧ Hid (RowN w wr done A' k c') ∧ Hid (Kept [] w wr)) (fun _ i _ => ws.length - (intOf i).toNat)
      case atStart => exact ⟨0, none, 0, [], by omega, rfl, rfl, HR0.out, RowN.nil _ _, Kept.refl _ _⟩
      case round =>
        clear HR0
        obtain ⟨k, A', c', done, hk, rfl, rfl, HD, HF, HKK⟩ := hrel
        have hws := HKK.out.size
        have hdl : done.length = k := HF.out.len.symm
        by_cases hlt : k < ws.length
        · obtain ⟨x, hx⟩ : ∃ x, ws[k] = x := ⟨_, rfl⟩
          have hd := HD.out
          rw [List.drop_eq_getElem_cons hlt, hx, numsF, hdl] at hd
          have hxl := HX.out x (hx ▸ List.getElem_mem hlt)
          obtain ⟨b, o, rfl, hb2, hcell⟩ := HRD.out.addr (by omega) (by omega)
          have hc0 : wr.cell? ⟨b, o + k, none⟩ = some (strV x) := HKK.out.cell_some (hcell k (strV x) (by rw [List.getElem?_map, List.getElem?_eq_getElem hlt, hx]; rfl)) (by simp)
          have HRx := Lib.hid (HR.out x hxl)
          have HHx := Lib.hid (HH.out x hxl)
          have hi1 : (k : Int) < (ws.length : Int) := by omega
          clear hcell hx HD hxl hdl
          by_cases hkk : K ≤ k
          · have hcmp : ((7 : Int) - 2 ≤ (k : Int)) := by omega
            have hrd : rdN K k x = readH x := if_pos hkk
            rw [hrd] at hd
            clear hrd hkk hK
            generalize readH x = pr at *
            obtain ⟨v, ec⟩ := pr
            simp only at hd HHx
            by_cases hec : ec = 0
            · subst hec
              rw [if_pos rfl] at hd
              have HD := Lib.hid hd
              clear hd
              go_wp2_with fail
              refine (HRx.out _).mono ?_
              rintro e w2 ⟨rfl, hk2⟩
              have HK2 := Lib.hid (HKK.out.trans hk2)
              have hc2 : w2.cell? ⟨b, o + k, none⟩ = some (strV x) := hk2.cell_some hc0 (by simp)
              have HF2 := Lib.hid (HF.out.kept hk2 (by simp))
              have hws2 := HK2.out.size
              clear hk2
              go_wp2_with fail
              refine (HHx.out _).mono ?_
              rintro e w3 ⟨rfl, rfl⟩
              go_wp2_with (at_builtin; go_must (refine wpList_append_any _ rfl _ _ _ rfl 22 (.int .u64 0) 1 8 Tryz.underlying53 Tryz.info22 rfl (by omega) (.slice A' k c') k (done.map u64V) rfl (HF2.out.1.alloc _) (some ⟨w2.heap.size, 0, none⟩) 1 1 [u64V v] rfl (reads_one _ _ _) (by simp; rfl) (by simp only [maxLen]; omega) (by omega) ?_); intro A2 c2 w4 happ; have HA := Lib.hid happ; clear happ)
              go_roundw
              case rel => exact ⟨k + 1, A2, c2, done ++ [v], by omega, by go_num, rfl, HD, (HF2.out.kept ((Kept.refl [] _).alloc _) (by simp)).append (by simp only [World.size_alloc]; omega) HA.out, HK2.out.trans' ((Kept.refl _ _).alloc _ |>.trans HA.out.2.1) (fun q hq => .inr (HF2.out.2 q hq))⟩
              case measure => simp [intOf]; omega
            · have hec2 : (ec != 0) = true := by rw [bne_iff_ne]; exact hec
              rw [if_neg hec] at hd
              have HD := Lib.hid hd
              clear hd hec
              go_wp2_with fail
              refine (HRx.out _).mono ?_
              rintro e w2 ⟨rfl, hk2⟩
              have HK2 := Lib.hid (HKK.out.trans hk2)
              have hc2 : w2.cell? ⟨b, o + k, none⟩ = some (strV x) := hk2.cell_some hc0 (by simp)
              clear hk2
              go_wp2_with fail
              refine (HHx.out _).mono ?_
              rintro e w3 ⟨rfl, rfl⟩
              go_wp2_with fail
              go_ret2
              rw [← HD.out]
              exact ⟨_, _, _, rfl, fun r h => by simp at h, HK2.out⟩
          · have hcmp : ¬ ((7 : Int) - 2 ≤ (k : Int)) := by omega
            have hrd : rdN K k x = readD x := if_neg hkk
            rw [hrd] at hd
            clear hrd hkk hK HHx
            generalize readD x = pr at *
            obtain ⟨v, ec⟩ := pr
            simp only at hd HRx
            by_cases hec : ec = 0
            · subst hec
              rw [if_pos rfl] at hd
              have HD := Lib.hid hd
              clear hd
              go_wp2_with fail
              refine (HRx.out _).mono ?_
              rintro e w2 ⟨rfl, hk2⟩
              have HK2 := Lib.hid (HKK.out.trans hk2)
              have HF2 := Lib.hid (HF.out.kept hk2 (by simp))
              have hws2 := HK2.out.size
              clear hk2
              go_wp2_with (at_builtin; go_must (refine wpList_append_any _ rfl _ _ _ rfl 22 (.int .u64 0) 1 8 Tryz.underlying53 Tryz.info22 rfl (by omega) (.slice A' k c') k (done.map u64V) rfl (HF2.out.1.alloc _) (some ⟨w2.heap.size, 0, none⟩) 1 1 [u64V v] rfl (reads_one _ _ _) (by simp; rfl) (by simp only [maxLen]; omega) (by omega) ?_); intro A2 c2 w4 happ; have HA := Lib.hid happ; clear happ)
              go_roundw
              case rel => exact ⟨k + 1, A2, c2, done ++ [v], by omega, by go_num, rfl, HD, (HF2.out.kept ((Kept.refl [] _).alloc _) (by simp)).append (by simp only [World.size_alloc]; omega) HA.out, HK2.out.trans' ((Kept.refl _ _).alloc _ |>.trans HA.out.2.1) (fun q hq => .inr (HF2.out.2 q hq))⟩
              case measure => simp [intOf]; omega
            · have hec2 : (ec != 0) = true := by rw [bne_iff_ne]; exact hec
              rw [if_neg hec] at hd
              have HD := Lib.hid hd
              clear hd hec
              go_wp2_with fail
              refine (HRx.out _).mono ?_
              rintro e w2 ⟨rfl, hk2⟩
              have HK2 := Lib.hid (HKK.out.trans hk2)
              clear hk2
              go_wp2_with fail
              go_ret2
              rw [← HD.out]
              exact ⟨_, _, _, rfl, fun r h => by simp at h, HK2.out⟩
        · obtain rfl : k = ws.length := by omega
          have hd := HD.out
          rw [List.drop_of_length_le (Nat.le_refl _), numsF] at hd
          have HDD := Lib.hid hd
          clear hd HD hdl
          go_wp2_with fail
          go_ret2
          rw [← HDD.out]
          exact ⟨_, _, _, rfl, fun r h => by injection h with h; rw [← h]; exact HF.out, HKK.out⟩
    · have hN : numbU ws 7 K = none := if_neg hlen
      rw [hN]
      have hb : ((ws.length : Int) != 7) = true := by rw [bne_iff_ne]; omega
      clear hN hlen
      go_enter Tryz.func23, Tryz.ntmps23
      go_wp2_with fail
      go_ret2
      exact ⟨_, _, _, rfl, fun r h => by simp at h, Kept.refl _ _⟩
  · by_cases hlen : ws.length = 3
    · generalize hR : numbU ws 3 K = R
      rw [numbU, if_pos hlen] at hR
      have HR0 := Lib.hid hR
      have hb : ((ws.length : Int) != 3) = false := by rw [hlen]; rfl
      have HL := Lib.hid hlen
      clear hR hlen
      go_enter Tryz.func23, Tryz.ntmps23
      go_wp2_with fail
      go_loopw [8, 19] (fun ov iv wr => ∃ (k : Nat) (A' : Option Addr) (c' : Nat) (done : List Nat), k ≤ ws.length ∧ iv = .int .i64 k ∧ ov = .slice A' k c' ∧ Hid (numsF K done (ws.drop k) = R) ∧ Hid (RowN w wr done A' k c') ∧ Hid (Kept [] w wr)) (fun _ i _ => ws.length - (intOf i).toNat)
      case atStart => exact ⟨0, none, 0, [], by omega, rfl, rfl, HR0.out, RowN.nil _ _, Kept.refl _ _⟩
      case round =>
        clear HR0
        obtain ⟨k, A', c', done, hk, rfl, rfl, HD, HF, HKK⟩ := hrel
        have hws := HKK.out.size
        have hdl : done.length = k := HF.out.len.symm
        by_cases hlt : k < ws.length
        · obtain ⟨x, hx⟩ : ∃ x, ws[k] = x := ⟨_, rfl⟩
          have hd := HD.out
          rw [List.drop_eq_getElem_cons hlt, hx, numsF, hdl] at hd
          have hxl := HX.out x (hx ▸ List.getElem_mem hlt)
          obtain ⟨b, o, rfl, hb2, hcell⟩ := HRD.out.addr (by omega) (by omega)
          have hc0 : wr.cell? ⟨b, o + k, none⟩ = some (strV x) := HKK.out.cell_some (hcell k (strV x) (by rw [List.getElem?_map, List.getElem?_eq_getElem hlt, hx]; rfl)) (by simp)
          have HRx := Lib.hid (HR.out x hxl)
          have HHx := Lib.hid (HH.out x hxl)
          have hi1 : (k : Int) < (ws.length : Int) := by omega
          clear hcell hx HD hxl hdl
          by_cases hkk : K ≤ k
          · have hcmp : ((3 : Int) - 1 ≤ (k : Int)) := by omega
            have hrd : rdN K k x = readH x := if_pos hkk
            rw [hrd] at hd
            clear hrd hkk hK
            generalize readH x = pr at *
            obtain ⟨v, ec⟩ := pr
            simp only at hd HHx
            by_cases hec : ec = 0
            · subst hec
              rw [if_pos rfl] at hd
              have HD := Lib.hid hd
              clear hd
              go_wp2_with fail
              refine (HRx.out _).mono ?_
              rintro e w2 ⟨rfl, hk2⟩
              have HK2 := Lib.hid (HKK.out.trans hk2)
              have hc2 : w2.cell? ⟨b, o + k, none⟩ = some (strV x) := hk2.cell_some hc0 (by simp)
              have HF2 := Lib.hid (HF.out.kept hk2 (by simp))
              have hws2 := HK2.out.size
              clear hk2
              go_wp2_with fail
              refine (HHx.out _).mono ?_
              rintro e w3 ⟨rfl, rfl⟩
              go_wp2_with (at_builtin; go_must (refine wpList_append_any _ rfl _ _ _ rfl 22 (.int .u64 0) 1 8 Tryz.underlying53 Tryz.info22 rfl (by omega) (.slice A' k c') k (done.map u64V) rfl (HF2.out.1.alloc _) (some ⟨w2.heap.size, 0, none⟩) 1 1 [u64V v] rfl (reads_one _ _ _) (by simp; rfl) (by simp only [maxLen]; omega) (by omega) ?_); intro A2 c2 w4 happ; have HA := Lib.hid happ; clear happ)
              go_roundw
              case rel => exact ⟨k + 1, A2, c2, done ++ [v], by omega, by go_num, rfl, HD, (HF2.out.kept ((Kept.refl [] _).alloc _) (by simp)).append (by simp only [World.size_alloc]; omega) HA.out, HK2.out.trans' ((Kept.refl _ _).alloc _ |>.trans HA.out.2.1) (fun q hq => .inr (HF2.out.2 q hq))⟩
              case measure => simp [intOf]; omega
            · have hec2 : (ec != 0) = true := by rw [bne_iff_ne]; exact hec
              rw [if_neg hec] at hd
              have HD := Lib.hid hd
              clear hd hec
              go_wp2_with fail
              refine (HRx.out _).mono ?_
              rintro e w2 ⟨rfl, hk2⟩
              have HK2 := Lib.hid (HKK.out.trans hk2)
              have hc2 : w2.cell? ⟨b, o + k, none⟩ = some (strV x) := hk2.cell_some hc0 (by simp)
              clear hk2
              go_wp2_with fail
              refine (HHx.out _).mono ?_
              rintro e w3 ⟨rfl, rfl⟩
              go_wp2_with fail
              go_ret2
              rw [← HD.out]
              exact ⟨_, _, _, rfl, fun r h => by simp at h, HK2.out⟩
          · have hcmp : ¬ ((3 : Int) - 1 ≤ (k : Int)) := by omega
            have hrd : rdN K k x = readD x := if_neg hkk
            rw [hrd] at hd
            clear hrd hkk hK HHx
            generalize readD x = pr at *
            obtain ⟨v, ec⟩ := pr
            simp only at hd HRx
            by_cases hec : ec = 0
            · subst hec
              rw [if_pos rfl] at hd
              have HD := Lib.hid hd
              clear hd
              go_wp2_with fail
              refine (HRx.out _).mono ?_
              rintro e w2 ⟨rfl, hk2⟩
              have HK2 := Lib.hid (HKK.out.trans hk2)
              have HF2 := Lib.hid (HF.out.kept hk2 (by simp))
              have hws2 := HK2.out.size
              clear hk2
              go_wp2_with (at_builtin; go_must (refine wpList_append_any _ rfl _ _ _ rfl 22 (.int .u64 0) 1 8 Tryz.underlying53 Tryz.info22 rfl (by omega) (.slice A' k c') k (done.map u64V) rfl (HF2.out.1.alloc _) (some ⟨w2.heap.size, 0, none⟩) 1 1 [u64V v] rfl (reads_one _ _ _) (by simp; rfl) (by simp only [maxLen]; omega) (by omega) ?_); intro A2 c2 w4 happ; have HA := Lib.hid happ; clear happ)
              go_roundw
              case rel => exact ⟨k + 1, A2, c2, done ++ [v], by omega, by go_num, rfl, HD, (HF2.out.kept ((Kept.refl [] _).alloc _) (by simp)).append (by simp only [World.size_alloc]; omega) HA.out, HK2.out.trans' ((Kept.refl _ _).alloc _ |>.trans HA.out.2.1) (fun q hq => .inr (HF2.out.2 q hq))⟩
              case measure => simp [intOf]; omega
            · have hec2 : (ec != 0) = true := by rw [bne_iff_ne]; exact hec
              rw [if_neg hec] at hd
              have HD := Lib.hid hd
              clear hd hec
              go_wp2_with fail
              refine (HRx.out _).mono ?_
              rintro e w2 ⟨rfl, hk2⟩
              have HK2 := Lib.hid (HKK.out.trans hk2)
              clear hk2
              go_wp2_with fail
              go_ret2
              rw [← HD.out]
              exact ⟨_, _, _, rfl, fun r h => by simp at h, HK2.out⟩
        · obtain rfl : k = ws.length := by omega
          have hd := HD.out
          rw [List.drop_of_length_le (Nat.le_refl _), numsF] at hd
          have HDD := Lib.hid hd
          clear hd HD hdl
          go_wp2_with fail
          go_ret2
          rw [← HDD.out]
          exact ⟨_, _, _, rfl, fun r h => by injection h with h; rw [← h]; exact HF.out, HKK.out⟩
    · have hN : numbU ws 3 K = none := if_neg hlen
      rw [hN]
      have hb : ((ws.length : Int) != 3) = true := by rw [bne_iff_ne]; omega
      clear hN hlen
      go_enter Tryz.func23, Tryz.ntmps23
      go_wp2_with fail
      go_ret2
      exact ⟨_, _, _, rfl, fun r h => by simp at h, Kept.refl _ _⟩

/-- The document's way to read numbers. -/
theorem numsF_max (K : Nat) : ∀ (ws : List (List UInt8)) (a : List Nat) (K' : Nat), (∀ i, a.length ≤ i → i < a.length + ws.length → (K ≤ i ↔ K' ≤ i)) → numsF K a ws = numsF K' a ws
  | [], a, K', _ => rfl
  | w :: t, a, K', h => by
    have h0 : rdN K a.length w = rdN K' a.length w := by
      unfold rdN
      have := h a.length (Nat.le_refl _) (by simp)
      by_cases hk : K ≤ a.length
      · rw [if_pos hk, if_pos (this.1 hk)]
      · rw [if_neg hk, if_neg (fun h => hk (this.2 h))]
    rw [numsF, numsF, h0]
    split
    · exact numsF_max K t _ K' (fun i h1 h2 => h i (by simp at h1; omega) (by simp at h2 ⊢; omega))
    · rfl

set_option maxHeartbeats 6400000 in
set_option maxRecDepth 100000 in
theorem refRead9 (A : Option Addr) (n c : Nat) (ws : List (List UInt8)) (H : Nat) (w : World) (hr : Reads w 1 A n (ws.map strV)) (hl : ws.length ≤ 100000) (hx : ∀ x ∈ ws, x.length ≤ 90000) (hm : H ≤ 2) :
    Calls Tryz.prog 34 #[.slice A n c, .int .i64 (H : Nat)] w fun e w' => ∃ A' n' c', e = .returned (.tuple #[.slice A' n' c', .bool (numsF (ws.length - H) [] ws).isSome]) ∧ (∀ r, numsF (ws.length - H) [] ws = some r → RowN w w' r A' n' c') ∧ (numsF (ws.length - H) [] ws = none → n' = 0) ∧ Kept [] w w' := by
  obtain rfl : n = ws.length := by have := hr.1; simp at this; omega
  have HX := Lib.hid hx
  have HRD := Lib.hid hr
  have HR := Lib.hid (fun x (h : x.length ≤ 90000) w => refRead x w (by omega))
  have HH := Lib.hid (fun x (h : x.length ≤ 90000) w => refReadHex x w (by omega))
  clear hx hr
  obtain ⟨K, hK⟩ : ∃ K, ws.length - H = K := ⟨_, rfl⟩
  rw [hK]
  generalize hR : numsF K [] ws = R
  have HR0 := Lib.hid hR
  have HKE := Lib.hid hK
  clear hR hK
  go_enter Tryz.func34, Tryz.ntmps34
  go_wp2_with fail
  go_loopw [6, 7] (fun ov iv wr => ∃ (k : Nat) (A' : Option Addr) (c' : Nat) (done : List Nat), k ≤ ws.length ∧ iv = .int .i64 k ∧ ov = .slice A' k c' ∧ Hid (numsF K done (ws.drop k) = R) ∧ Hid (RowN w wr done A' k c') ∧ Hid (Kept [] w wr)) (fun _ i _ => ws.length - (intOf i).toNat)
  case atStart => exact ⟨0, none, 0, [], by omega, rfl, rfl, HR0.out, RowN.nil _ _, Kept.refl _ _⟩
  case round =>
    clear HR0
    obtain ⟨k, A', c', done, hk, rfl, rfl, HD, HF, HKK⟩ := hrel
    have hws := HKK.out.size
    have hdl : done.length = k := HF.out.len.symm
    by_cases hlt : k < ws.length
    · obtain ⟨x, hx⟩ : ∃ x, ws[k] = x := ⟨_, rfl⟩
      have hd := HD.out
      rw [List.drop_eq_getElem_cons hlt, hx, numsF, hdl] at hd
      have hxl := HX.out x (hx ▸ List.getElem_mem hlt)
      obtain ⟨b, o, rfl, hb2, hcell⟩ := HRD.out.addr (by omega) (by omega)
      have hc0 : wr.cell? ⟨b, o + k, none⟩ = some (strV x) := HKK.out.cell_some (hcell k (strV x) (by rw [List.getElem?_map, List.getElem?_eq_getElem hlt, hx]; rfl)) (by simp)
      have HRx := Lib.hid (HR.out x hxl)
      have HHx := Lib.hid (HH.out x hxl)
      have hi1 : (k : Int) < (ws.length : Int) := by omega
      clear hcell hx HD hxl hdl
      by_cases hkk : K ≤ k
      · have hcmp : ((ws.length : Int) - (H : Int) ≤ (k : Int)) := by have := HKE.out; omega
        have hrd : rdN K k x = readH x := if_pos hkk
        rw [hrd] at hd
        clear hrd hkk
        generalize readH x = pr at *
        obtain ⟨v, ec⟩ := pr
        simp only at hd HHx
        by_cases hec : ec = 0
        · subst hec
          rw [if_pos rfl] at hd
          have HD := Lib.hid hd
          clear hd
          go_wp2_with fail
          refine (HRx.out _).mono ?_
          rintro e w2 ⟨rfl, rfl⟩
          go_wp2_with fail
          refine (HHx.out _).mono ?_
          rintro e w3 ⟨rfl, rfl⟩
          go_wp2_with (at_builtin; go_must (refine wpList_append_any _ rfl _ _ _ rfl 22 (.int .u64 0) 1 8 Tryz.underlying53 Tryz.info22 rfl (by omega) (.slice A' k c') k (done.map u64V) rfl (HF.out.1.alloc _) (some ⟨wr.heap.size, 0, none⟩) 1 1 [u64V v] rfl (reads_one _ _ _) (by simp; rfl) (by simp only [maxLen]; omega) (by omega) ?_); intro A2 c2 w4 happ; have HA := Lib.hid happ; clear happ)
          go_roundw
          case rel => exact ⟨k + 1, A2, c2, done ++ [v], by omega, by go_num, rfl, HD, (HF.out.kept ((Kept.refl [] _).alloc _) (by simp)).append (by simp only [World.size_alloc]; omega) HA.out, HKK.out.trans' ((Kept.refl _ _).alloc _ |>.trans HA.out.2.1) (fun q hq => .inr (HF.out.2 q hq))⟩
          case measure => simp [intOf]; omega
        · have hec2 : (ec != 0) = true := by rw [bne_iff_ne]; exact hec
          rw [if_neg hec] at hd
          have HD := Lib.hid hd
          clear hd hec
          go_wp2_with fail
          refine (HRx.out _).mono ?_
          rintro e w2 ⟨rfl, rfl⟩
          go_wp2_with fail
          refine (HHx.out _).mono ?_
          rintro e w3 ⟨rfl, rfl⟩
          go_wp2_with fail
          go_ret2
          rw [← HD.out]
          exact ⟨_, _, _, rfl, fun r h => by simp at h, fun _ => rfl, HKK.out⟩
      · have hcmp : ¬ ((ws.length : Int) - (H : Int) ≤ (k : Int)) := by have := HKE.out; omega
        have hrd : rdN K k x = readD x := if_neg hkk
        rw [hrd] at hd
        clear hrd hkk HHx
        generalize readD x = pr at *
        obtain ⟨v, ec⟩ := pr
        simp only at hd HRx
        by_cases hec : ec = 0
        · subst hec
          rw [if_pos rfl] at hd
          have HD := Lib.hid hd
          clear hd
          go_wp2_with fail
          refine (HRx.out _).mono ?_
          rintro e w2 ⟨rfl, rfl⟩
          go_wp2_with (at_builtin; go_must (refine wpList_append_any _ rfl _ _ _ rfl 22 (.int .u64 0) 1 8 Tryz.underlying53 Tryz.info22 rfl (by omega) (.slice A' k c') k (done.map u64V) rfl (HF.out.1.alloc _) (some ⟨wr.heap.size, 0, none⟩) 1 1 [u64V v] rfl (reads_one _ _ _) (by simp; rfl) (by simp only [maxLen]; omega) (by omega) ?_); intro A2 c2 w4 happ; have HA := Lib.hid happ; clear happ)
          go_roundw
          case rel => exact ⟨k + 1, A2, c2, done ++ [v], by omega, by go_num, rfl, HD, (HF.out.kept ((Kept.refl [] _).alloc _) (by simp)).append (by simp only [World.size_alloc]; omega) HA.out, HKK.out.trans' ((Kept.refl _ _).alloc _ |>.trans HA.out.2.1) (fun q hq => .inr (HF.out.2 q hq))⟩
          case measure => simp [intOf]; omega
        · have hec2 : (ec != 0) = true := by rw [bne_iff_ne]; exact hec
          rw [if_neg hec] at hd
          have HD := Lib.hid hd
          clear hd hec
          go_wp2_with fail
          refine (HRx.out _).mono ?_
          rintro e w2 ⟨rfl, rfl⟩
          go_wp2_with fail
          go_ret2
          rw [← HD.out]
          exact ⟨_, _, _, rfl, fun r h => by simp at h, fun _ => rfl, HKK.out⟩
    · obtain rfl : k = ws.length := by omega
      have hd := HD.out
      rw [List.drop_of_length_le (Nat.le_refl _), numsF] at hd
      have HDD := Lib.hid hd
      clear hd HD hdl
      go_wp2_with fail
      go_ret2
      rw [← HDD.out]
      exact ⟨_, _, _, rfl, fun r h => by injection h with h; rw [← h]; exact HF.out, fun h => by simp at h, HKK.out⟩

end Go.Proofs.YtladfdpcdjjifaaGreatDoor

/- start: a start's words, walked. -/
namespace Go.Proofs.YtladfdpcdjjifaaGreatDoor
open Go.RowKit

/-- The numbers of a start's words, and what is wrong. -/
def startN (t : List (List UInt8)) : Int × Int × Nat × Int := match numbU t 3 2 with
  | none => (0, 0, 0, 3)
  | some x => ((min (x.getD 0 0) 2147483647 : Nat), (min (x.getD 1 0) 2147483647 : Nat), x.getD 2 0, 0)

set_option maxHeartbeats 3200000 in
set_option maxRecDepth 100000 in
theorem ustart_any (A : Option Addr) (n c : Nat) (ws : List (List UInt8)) (w : World) (hr : Reads w 1 A n (ws.map strV)) (hl : ws.length ≤ 100000) (hx : ∀ x ∈ ws, x.length ≤ 100000) :
    Calls Tryz.prog 25 #[.slice A n c] w fun e w' => e = .returned (.tuple #[.agg #[.int .i64 (startN ws).1, .int .i64 (startN ws).2.1, .int .u64 (startN ws).2.2.1], .int .i64 (startN ws).2.2.2]) ∧ Kept [] w w' := by
  have HN := Lib.hid (fun w h => unumbered_any A n c ws 3 1 3 2 w h hl hx (.inr ⟨rfl, rfl, rfl, rfl⟩))
  have HRR := Lib.hid hr
  clear hr hl hx
  unfold startN
  rcases hs : numbU ws 3 2 with _ | x
  · rw [hs] at HN
    clear hs
    go_enter Tryz.func25, Tryz.ntmps25
    go_wp2_with fail
    refine (HN.out _ (HRR.out.old ((Kept.refl _ _).alloc _))).mono ?_
    rintro e w1 ⟨A', n', c', rfl, _, hk⟩
    have HB : Hid (Blk w1 w.heap.size 49 #[.int .i64 0, .int .i64 0, .int .u64 0]) := (Blk.new w 49 _).kept hk (by simp)
    have HK := Lib.hid (((Kept.refl [] w).alloc (.cells #[.int .i64 0, .int .i64 0, .int .u64 0] 49)).trans hk)
    have hb := HB.out.cell
    have hbf := HB.out.frozen
    have hbl := HB.out.lt
    clear hk
    go_wp2_with fail
    have hF := (((HB.out.set 0 (.int .i64 0)).set 1 (.int .i64 0)).set 2 (.int .u64 0)).cell
    refine bodyPost_ret (v := .tuple #[.agg #[.int .i64 0, .int .i64 0, .int .u64 0], .int .i64 3]) (by simp [results, Tryz.results25, go_sem, hF]) rfl ?_
    exact ⟨rfl, (((HK.out.setCell (p := ⟨w.heap.size, 0, none⟩) (.inr (Nat.le_refl _)) (.int .i64 0)).setCell (p := ⟨w.heap.size, 1, none⟩) (.inr (Nat.le_refl _)) (.int .i64 0)).setCell (p := ⟨w.heap.size, 2, none⟩) (.inr (Nat.le_refl _)) (.int .u64 0))⟩
  · have h3 := numbU_len hs
    have h0 := numbU_lt hs 0
    have h1 := numbU_lt hs 1
    rw [hs] at HN
    obtain ⟨x0, x1, x2, rfl⟩ : ∃ x0 x1 x2, x = [x0, x1, x2] := by
      match x, h3 with
      | [x0, x1, x2], _ => exact ⟨x0, x1, x2, rfl⟩
    simp only [List.getD_cons_zero, List.getD_cons_succ] at h0 h1 ⊢
    clear hs
    have hm0 : ((min x0 2147483647 : Nat) : Int) = min (x0 : Int) 2147483647 := by omega
    have hm1 : ((min x1 2147483647 : Nat) : Int) = min (x1 : Int) 2147483647 := by omega
    rw [hm0, hm1]
    clear hm0 hm1
    go_enter Tryz.func25, Tryz.ntmps25
    go_wp2_with fail
    refine (HN.out _ (HRR.out.old ((Kept.refl _ _).alloc _))).mono ?_
    rintro e w1 ⟨A', n', c', rfl, hrow, hk⟩
    have hrow := hrow _ rfl
    obtain rfl : n' = 3 := hrow.len
    obtain ⟨b, o, rfl, hbb, hcell⟩ := hrow.reads.addr (by omega) (by omega)
    have hc0 : w1.cell? ⟨b, o, none⟩ = some (.int .u64 x0) := hcell 0 _ rfl
    have hc1 : w1.cell? ⟨b, o + 1, none⟩ = some (.int .u64 x1) := hcell 1 _ rfl
    have hc2 : w1.cell? ⟨b, o + 2, none⟩ = some (.int .u64 x2) := hcell 2 _ rfl
    have HB : Hid (Blk w1 w.heap.size 49 #[.int .i64 0, .int .i64 0, .int .u64 0]) := (Blk.new w 49 _).kept hk (by simp)
    have HK := Lib.hid (((Kept.refl [] w).alloc (.cells #[.int .i64 0, .int .i64 0, .int .u64 0] 49)).trans hk)
    have hb := HB.out.cell
    have hbf := HB.out.frozen
    have hbl := HB.out.lt
    have hw0 : IntKind.i64.wrap (min (x0 : Int) 2147483647) = min (x0 : Int) 2147483647 := IntWalk.i64_in _ (by omega)
    have hw1 : IntKind.i64.wrap (min (x1 : Int) 2147483647) = min (x1 : Int) 2147483647 := IntWalk.i64_in _ (by omega)
    have b0 : 0 ≤ min (x0 : Int) 2147483647 ∧ min (x0 : Int) 2147483647 ≤ 2147483647 := by omega
    have b1 : 0 ≤ min (x1 : Int) 2147483647 ∧ min (x1 : Int) 2147483647 ≤ 2147483647 := by omega
    have hne : b ≠ w.heap.size := by
      intro he
      have h4 := hrow.2 b (by simp [fp, Value.ownBlock])
      simp only [World.size_alloc] at h4
      omega
    have hne2 : w.heap.size ≠ b := fun h => hne h.symm
    clear hk hrow hcell
    go_wp2_with fail
    go_region_held3 (fun w' => w'.cell? ⟨b, o, none⟩ = some (.int .u64 x0) ∧ w'.cell? ⟨b, o + 1, none⟩ = some (.int .u64 x1) ∧ w'.cell? ⟨b, o + 2, none⟩ = some (.int .u64 x2)) (go_keep) (fail)
    all_goals
      have hF := (((HB.out.set 0 (.int .i64 (min (x0 : Int) 2147483647))).set 1 (.int .i64 (min (x1 : Int) 2147483647))).set 2 (.int .u64 (x2 : Int))).drew.cell
      have hFK := (((HK.out.setCell (p := ⟨w.heap.size, 0, none⟩) (.inr (Nat.le_refl _)) (.int .i64 (min (x0 : Int) 2147483647))).setCell (p := ⟨w.heap.size, 1, none⟩) (.inr (Nat.le_refl _)) (.int .i64 (min (x1 : Int) 2147483647))).setCell (p := ⟨w.heap.size, 2, none⟩) (.inr (Nat.le_refl _)) (.int .u64 (x2 : Int))).drew
      go_wp2_with fail
      try simp only [hw0, hw1]
      refine bodyPost_ret (v := .tuple #[.agg #[.int .i64 (min (x0 : Int) 2147483647), .int .i64 (min (x1 : Int) 2147483647), .int .u64 (x2 : Int)], .int .i64 0]) (by simp [results, Tryz.results25, go_sem, hF]) rfl ?_
      exact ⟨rfl, hFK⟩

end Go.Proofs.YtladfdpcdjjifaaGreatDoor

/- A slice of programs whose rows lie apart: the last one may be lengthened in its place. No program is walked here. -/
namespace Go.Proofs.YtladfdpcdjjifaaGreatDoor
open Go.RowKit

/-- Rows that lie apart. -/
def Apart (xs : List Value) : Prop := ∀ (i j : Nat) (u v : Value), i < j → xs[i]? = some u → xs[j]? = some v → ∀ k, k ∈ fp u → k ∉ fp v
/-- A slice of programs that was made after w, whose rows lie apart. -/
def RowPQ (w w' : World) (l : List (List Dd)) (A : Option Addr) (n c : Nat) : Prop :=
  ∃ xs : List Value, w'.ownsRow 0 47 1 (.slice A n c) n xs ∧ (∀ k, k ∈ fp (.slice A n c) → w.heap.size ≤ k) ∧ xs.length = l.length ∧ (∀ (i : Nat) p, l[i]? = some p → ∃ A n c, xs[i]? = some (.slice A n c) ∧ RowD w w' p A n c) ∧ Apart xs
theorem RowPQ.pp {w w' : World} {l : List (List Dd)} {A : Option Addr} {n c : Nat} (h : RowPQ w w' l A n c) : RowPP w w' l A n c := by
  obtain ⟨xs, h1, h2, h3, h4, _⟩ := h
  exact ⟨xs, h1, h2, h3, h4⟩
theorem RowPQ.nil (w w' : World) : RowPQ w w' [] none 0 0 := ⟨[], World.ownsRow_nil _ _ _ _, by simp [fp, Value.ownBlock], rfl, by simp, fun i j u v _ h => by simp at h⟩
theorem RowPQ.kept {w wr w2 : World} {G : List Nat} {l : List (List Dd)} {A : Option Addr} {n c : Nat} (h : RowPQ w wr l A n c) (hk : Kept G wr w2) (hG : ∀ k, k ∈ G → k < w.heap.size) : RowPQ w w2 l A n c := by
  obtain ⟨xs, h1, h2, h3, h4, h5⟩ := h
  refine ⟨xs, own_kept h1 hk (fun k hk' hm => by have h5 := h2 k hk'; have h6 := hG k hm; omega), h2, h3, fun i p hp => ?_, h5⟩
  obtain ⟨A, n, c, e, hr⟩ := h4 i p hp
  exact ⟨A, n, c, e, hr.kept hk hG⟩
theorem RowPQ.last {w wr : World} {l : List (List Dd)} {p : List Dd} {A : Option Addr} {n c : Nat} (h : RowPQ w wr (l ++ [p]) A n c) (hw : w.heap.size ≤ wr.heap.size) :
    ∃ g Ap np cp, A = some ⟨g, 0, none⟩ ∧ n = l.length + 1 ∧ wr.cell? ⟨g, l.length, none⟩ = some (.slice Ap np cp) ∧ wr.frozen? ⟨g, l.length, none⟩ = false ∧ RowD w wr p Ap np cp ∧ w.heap.size ≤ g ∧
      ∀ (w2 : World) (A2 : Option Addr) (c2 : Nat) (d : Dd), Appended wr w2 60 7 (.slice Ap np cp) (.slice A2 (np + 1) c2) (np + 1) (p.flatMap dL ++ dL d) → RowPQ w (w2.setCell ⟨g, l.length, none⟩ (.slice A2 (np + 1) c2)) (l ++ [p ++ [d]]) (some ⟨g, 0, none⟩) n c := by
  obtain ⟨xs, h1, h2, h3, h4, h5⟩ := h
  have hx1 := h1.1
  simp only [List.length_append, List.length_singleton] at h3
  have hn : n = l.length + 1 := by omega
  obtain ⟨g, rfl⟩ : ∃ g, A = some ⟨g, 0, none⟩ := by
    rcases h1.2 with ⟨_, h0⟩ | ⟨g, cap, cur, e, _⟩
    · omega
    · injection e with e1 e2 e3; exact ⟨g, e1⟩
  obtain ⟨Ap, np, cp, hx, hp⟩ := h4 l.length p (by simp)
  refine ⟨g, Ap, np, cp, rfl, hn, by rw [h1.cellAt l.length (by omega)]; exact hx, h1.frozenAt _, hp, h2 g (by simp [fp_some]), fun w2 A2 c2 d ha => ?_⟩
  have ho : w2.ownsRow 0 47 1 (.slice (some ⟨g, 0, none⟩) n c) n xs := own_kept h1 ha.2.1 (own_own_ne h1 hp.1 (by decide))
  obtain ⟨hs, _⟩ := ho.stored l.length (.slice A2 (np + 1) c2)
  have hk : Kept [g] w2 (w2.setCell ⟨g, l.length, none⟩ (.slice A2 (np + 1) c2)) := (Kept.refl _ _).setCell (.inl (by simp)) _
  refine ⟨xs.set l.length (.slice A2 (np + 1) c2), hs, h2, by simp [h3], fun i q hq => ?_, ?_⟩
  · by_cases hi : i < l.length
    · rw [List.getElem?_append_left hi] at hq
      obtain ⟨Ai, ni, ci, hxi, hri⟩ := h4 i q (by rw [List.getElem?_append_left hi]; exact hq)
      have hr2 := own_kept hri.1 ha.2.1 (h5 i l.length _ _ hi hxi hx)
      exact ⟨Ai, ni, ci, by rw [List.getElem?_set_ne (by omega)]; exact hxi, own_kept hr2 hk (fun k hk' hm => own_own_ne hr2 ho (by decide) k hk' (by rw [fp_some]; exact hm)), hri.2⟩
    · obtain ⟨hj, he⟩ := List.getElem?_eq_some_iff.1 hq
      simp at hj
      obtain rfl : i = l.length := by omega
      simp at he
      subst he
      refine ⟨A2, np + 1, c2, by rw [List.getElem?_set_self (by omega)], own_kept (by have := ha.1; simpa using this) hk (fun k hk' hm => own_own_ne ha.1 ho (by decide) k hk' (by rw [fp_some]; exact hm)), fun k hk' => ?_⟩
      rcases ha.2.2 k hk' with h6 | h6
      · exact hp.2 k h6
      · omega
  · intro i j u v hij hu hv k hku hkv
    have hjl : j < xs.length := by
      have := (List.getElem?_eq_some_iff.1 hv).1
      simpa using this
    have hul : xs[i]? = some u := by rw [List.getElem?_set_ne (by omega)] at hu; exact hu
    by_cases hj : j < l.length
    · rw [List.getElem?_set_ne (by omega)] at hv
      exact h5 i j u v hij hul hv k hku hkv
    · obtain rfl : j = l.length := by omega
      rw [List.getElem?_set_self (by omega)] at hv
      injection hv with hv
      subst hv
      rcases ha.2.2 k hkv with h6 | h6
      · exact h5 i l.length _ _ hij hul hx k hku h6
      · obtain ⟨Ai, ni, ci, hxi, hri⟩ := h4 i (l[i]'hij) (by rw [List.getElem?_append_left hij, List.getElem?_eq_getElem hij])
        rw [hul] at hxi
        injection hxi with hxi
        subst hxi
        have := (hri.1.lt k (mem_fp.1 hku)).2
        omega

/-- The last row may be lengthened in any later world. -/
theorem RowPQ.lastK {w wr : World} {l : List (List Dd)} {p : List Dd} {A : Option Addr} {n c : Nat} (h : RowPQ w wr (l ++ [p]) A n c) (hw : w.heap.size ≤ wr.heap.size) :
    ∃ g Ap np cp, A = some ⟨g, 0, none⟩ ∧ n = l.length + 1 ∧ wr.cell? ⟨g, l.length, none⟩ = some (.slice Ap np cp) ∧ wr.frozen? ⟨g, l.length, none⟩ = false ∧ RowD w wr p Ap np cp ∧ w.heap.size ≤ g ∧ g ∉ fp (.slice Ap np cp) ∧ (∃ xs n c, wr.ownsRow 0 47 1 (.slice (some ⟨g, 0, none⟩) n c) n xs) ∧
      ∀ (W w2 : World) (A2 : Option Addr) (c2 : Nat) (d : Dd), Kept [] wr W → Appended W w2 60 7 (.slice Ap np cp) (.slice A2 (np + 1) c2) (np + 1) (p.flatMap dL ++ dL d) → RowPQ w (w2.setCell ⟨g, l.length, none⟩ (.slice A2 (np + 1) c2)) (l ++ [p ++ [d]]) (some ⟨g, 0, none⟩) n c := by
  obtain ⟨g, Ap, np, cp, hA, hn, hc, hf, hp, hg, hre⟩ := h.last hw
  refine ⟨g, Ap, np, cp, hA, hn, hc, hf, hp, hg, ?_, ?_, fun W w2 A2 c2 d hk ha => ?_⟩
  · obtain ⟨xs, h1, _⟩ := h
    subst hA
    exact own_own_ne h1 hp.1 (by decide) g (by simp [fp_some])
  · obtain ⟨xs, h1, _⟩ := h
    subst hA
    exact ⟨xs, n, c, h1⟩
  · obtain ⟨g', Ap', np', cp', hA', _, hc', _, _, _, hre'⟩ := (h.kept hk (by simp)).last (Nat.le_trans hw hk.size)
    rw [hA] at hA'
    injection hA' with hA'
    injection hA' with hgg
    subst hgg
    rw [hk.cell_some hc (by simp)] at hc'
    injection hc' with hc'
    injection hc' with e1 e2 e3
    subst e1 e2 e3
    have := hre' w2 A2 c2 d ha
    exact this
/-- One more row, that is empty. -/
theorem RowPQ.push {w wr w2 : World} {l : List (List Dd)} {A A' : Option Addr} {n c c' : Nat} {xs : List Value} (h1 : wr.ownsRow 0 47 1 (.slice A n c) n xs) (h2 : ∀ k, k ∈ fp (.slice A n c) → w.heap.size ≤ k) (h3 : xs.length = l.length)
    (h4 : ∀ (i : Nat) p, l[i]? = some p → ∃ A n c, xs[i]? = some (.slice A n c) ∧ RowD w wr p A n c) (h5 : Apart xs) (hw : w.heap.size ≤ wr.heap.size)
    (ha : Appended wr w2 47 1 (.slice A n c) (.slice A' (n + 1) c') (n + 1) (xs ++ [.slice none 0 0])) : RowPQ w w2 (l ++ [[]]) A' (n + 1) c' := by
  refine ⟨_, ha.1, fun k hk' => ?_, by simp [h3], fun i q hq => ?_, ?_⟩
  · rcases ha.2.2 k hk' with h6 | h6
    · exact h2 k h6
    · omega
  · by_cases hi : i < l.length
    · rw [List.getElem?_append_left hi] at hq
      obtain ⟨Ai, ni, ci, hxi, hri⟩ := h4 i q hq
      exact ⟨Ai, ni, ci, by rw [List.getElem?_append_left (by omega)]; exact hxi, own_kept hri.1 ha.2.1 (own_own_ne hri.1 h1 (by decide)), hri.2⟩
    · obtain ⟨hj, he⟩ := List.getElem?_eq_some_iff.1 hq
      simp at hj
      obtain rfl : i = l.length := by omega
      simp at he
      subst he
      exact ⟨none, 0, 0, by rw [List.getElem?_append_right (by omega)]; simp [h3], RowD.nil _ _⟩
  · intro i j u v hij hu hv k hku hkv
    by_cases hj : j < xs.length
    · rw [List.getElem?_append_left hj] at hv
      rw [List.getElem?_append_left (by omega)] at hu
      exact h5 i j u v hij hu hv k hku hkv
    · have hjl := (List.getElem?_eq_some_iff.1 hv).1
      simp at hjl
      obtain rfl : j = xs.length := by omega
      rw [List.getElem?_append_right (by omega)] at hv
      simp at hv
      subst hv
      simp [fp, Value.ownBlock] at hkv

/-- Rows of other elements, and other blocks, may turn. -/
theorem RowPQ.apart {w wr w2 : World} {l : List (List Dd)} {A : Option Addr} {n c : Nat} (h : RowPQ w wr l A n c) {b2 s2 n2 : Nat} {e2 : TypeId} {v2 : Value} {x2 : List Value} (ho : wr.ownsRow b2 e2 s2 v2 n2 x2) (hk : Kept (fp v2) wr w2) (h1 : 47 ≠ e2) (h2 : 60 ≠ e2) : RowPQ w w2 l A n c := by
  obtain ⟨xs, q1, q2, q3, q4, q5⟩ := h
  refine ⟨xs, own_kept q1 hk (own_own_ne q1 ho h1), q2, q3, fun i p hp => ?_, q5⟩
  obtain ⟨A, n, c, e, hr⟩ := q4 i p hp
  exact ⟨A, n, c, e, own_kept hr.1 hk (own_own_ne hr.1 ho h2), hr.2⟩
theorem RowPQ.block {w wr w2 : World} {l : List (List Dd)} {A : Option Addr} {n c : Nat} (h : RowPQ w wr l A n c) {g : Nat} {t : TypeId} {cs : Array Value} (hb : Blk wr g t cs) (hk : Kept [g] wr w2) (h1 : 47 ≠ t) (h2 : 60 ≠ t) : RowPQ w w2 l A n c := by
  obtain ⟨xs, q1, q2, q3, q4, q5⟩ := h
  have hd : ∀ {b e s n v xs}, wr.ownsRow b e s v n xs → e ≠ t → ∀ k, k ∈ fp v → k ∉ [g] := fun ho he k hk' hm => by
    obtain rfl := List.mem_singleton.1 hm
    exact own_blk_ne ho hb he (mem_fp.1 hk')
  refine ⟨xs, own_kept q1 hk (hd q1 h1), q2, q3, fun i p hp => ?_, q5⟩
  obtain ⟨A, n, c, e, hr⟩ := q4 i p hp
  exact ⟨A, n, c, e, own_kept hr.1 hk (hd hr.1 h2), hr.2⟩
theorem RowS.apart {w wr w2 : World} {l : List St} {A : Option Addr} {n c : Nat} (h : RowS w wr l A n c) {b2 s2 n2 : Nat} {e2 : TypeId} {v2 : Value} {x2 : List Value} (ho : wr.ownsRow b2 e2 s2 v2 n2 x2) (hk : Kept (fp v2) wr w2) (h1 : 49 ≠ e2) : RowS w w2 l A n c :=
  ⟨own_kept h.1 hk (own_own_ne h.1 ho h1), h.2⟩
theorem RowS.block {w wr w2 : World} {l : List St} {A : Option Addr} {n c : Nat} (h : RowS w wr l A n c) {g : Nat} {t : TypeId} {cs : Array Value} (hb : Blk wr g t cs) (hk : Kept [g] wr w2) (h1 : 49 ≠ t) : RowS w w2 l A n c :=
  ⟨own_kept h.1 hk (fun k hk' hm => by
    obtain rfl := List.mem_singleton.1 hm
    exact own_blk_ne h.1 hb h1 (mem_fp.1 hk')), h.2⟩
theorem RowS.kept2 {w wr w2 : World} {l : List St} {A : Option Addr} {n c : Nat} (h : RowS w wr l A n c) {G : List Nat} (hk : Kept G wr w2) (hd : ∀ k, k ∈ fp (.slice A n c) → k ∉ G) : RowS w w2 l A n c := ⟨own_kept h.1 hk hd, h.2⟩
theorem blk_apart {w w2 : World} {g : Nat} {t : TypeId} {cs : Array Value} (hb : Blk w g t cs) {b2 s2 n2 : Nat} {e2 : TypeId} {v2 : Value} {x2 : List Value} (ho : w.ownsRow b2 e2 s2 v2 n2 x2) (hk : Kept (fp v2) w w2) (h1 : e2 ≠ t) : Blk w2 g t cs :=
  hb.kept hk (fun h => own_blk_ne ho hb h1 (mem_fp.1 h))

end Go.Proofs.YtladfdpcdjjifaaGreatDoor

/- A duty's nine cells stored one after another. -/
namespace Go.Proofs.YtladfdpcdjjifaaGreatDoor
open Go.RowKit

theorem put9_blk {w : World} {g : Nat} {t : TypeId} {c0 c1 c2 c3 c4 c5 c6 c7 c8 : Value} (h : Blk w g t #[c0, c1, c2, c3, c4, c5, c6, c7, c8]) (x0 x1 x2 x3 x4 x5 x6 x7 x8 : Value) :
    Blk (((((((((w.setCell ⟨g, 0, none⟩ x0).setCell ⟨g, 1, none⟩ x1).setCell ⟨g, 2, none⟩ x2).setCell ⟨g, 3, none⟩ x3).setCell ⟨g, 4, none⟩ x4).setCell ⟨g, 5, none⟩ x5).setCell ⟨g, 6, none⟩ x6).setCell ⟨g, 7, none⟩ x7).setCell ⟨g, 8, none⟩ x8) g t #[x0, x1, x2, x3, x4, x5, x6, x7, x8] := by
  have h1 := ((((((((h.set 0 x0).set 1 x1).set 2 x2).set 3 x3).set 4 x4).set 5 x5).set 6 x6).set 7 x7).set 8 x8
  simpa only [List.setIfInBounds_toArray, List.set_cons_zero, List.set_cons_succ] using h1
theorem put9_kept {G : List Nat} {w0 w : World} {g : Nat} (h : Kept G w0 w) (hg : w0.heap.size ≤ g) (x0 x1 x2 x3 x4 x5 x6 x7 x8 : Value) :
    Kept G w0 (((((((((w.setCell ⟨g, 0, none⟩ x0).setCell ⟨g, 1, none⟩ x1).setCell ⟨g, 2, none⟩ x2).setCell ⟨g, 3, none⟩ x3).setCell ⟨g, 4, none⟩ x4).setCell ⟨g, 5, none⟩ x5).setCell ⟨g, 6, none⟩ x6).setCell ⟨g, 7, none⟩ x7).setCell ⟨g, 8, none⟩ x8) :=
  ((((((((h.setCell (.inr hg) x0).setCell (.inr hg) x1).setCell (.inr hg) x2).setCell (.inr hg) x3).setCell (.inr hg) x4).setCell (.inr hg) x5).setCell (.inr hg) x6).setCell (.inr hg) x7).setCell (.inr hg) x8
theorem put9_keeps {w : World} {g : Nat} (x0 x1 x2 x3 x4 x5 x6 x7 x8 : Value) :
    Kept [g] w (((((((((w.setCell ⟨g, 0, none⟩ x0).setCell ⟨g, 1, none⟩ x1).setCell ⟨g, 2, none⟩ x2).setCell ⟨g, 3, none⟩ x3).setCell ⟨g, 4, none⟩ x4).setCell ⟨g, 5, none⟩ x5).setCell ⟨g, 6, none⟩ x6).setCell ⟨g, 7, none⟩ x7).setCell ⟨g, 8, none⟩ x8) :=
  have hg : g ∈ [g] := by simp
  (((((((((Kept.refl [g] w).setCell (.inl hg) x0).setCell (.inl hg) x1).setCell (.inl hg) x2).setCell (.inl hg) x3).setCell (.inl hg) x4).setCell (.inl hg) x5).setCell (.inl hg) x6).setCell (.inl hg) x7).setCell (.inl hg) x8

end Go.Proofs.YtladfdpcdjjifaaGreatDoor

