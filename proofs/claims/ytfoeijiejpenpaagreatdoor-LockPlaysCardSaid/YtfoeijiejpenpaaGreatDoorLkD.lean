/- slices.DeleteFunc at rows of numbers, and lock's part, walked. -/
import Derived.Test.YtfoeijiejpenpaaGreatDoorJoinJ
namespace Go.Proofs.YtfoeijiejpenpaaGreatDoor
open Go.RowKit Go.ChangeMaps

set_option maxHeartbeats 1600000 in
theorem part1_any (x t : Int) (bp : Nat) (w : World) (h : Blk w bp 3 #[.int .i64 t]) : Calls Tryz.prog 85 #[.int .i64 x, .pointer (some ⟨bp, 0, none⟩)] w fun e w' => e = .returned (.bool (x == t)) ∧ w = w' := by
  have hc := h.cell
  have hlt := h.lt
  clear h
  go_enter Tryz.func85, Tryz.ntmps85
  go_wp2
  go_ret
  exact ⟨rfl, rfl⟩

set_option maxHeartbeats 3200000 in
set_option maxRecDepth 100000 in
theorem idx_part1 (bt : Nat) (t : Int) (A : Option Addr) (n c : Nat) (l : List Int) (w : World) (hr : Reads w 1 A n (l.map I64)) (hl : l.length ≤ 1000000) (hb : Blk w bt 3 #[.int .i64 t]) :
    Calls Tryz.prog 108 #[.slice A n c, .func (.func 85) #[] #[.pointer (some ⟨bt, 0, none⟩)]] w fun e w' => (∃ v, e = .returned (.int .i64 v) ∧ ((∃ k : Nat, v = k ∧ l[k]? = some t ∧ t ∉ l.take k) ∨ (v = -1 ∧ t ∉ l))) ∧ w = w' := by
  have hn : n = l.length := by have := hr.1; simpa using this.symm
  subst hn
  have HR := Lib.hid hr
  have HP := Lib.hid (fun x => part1_any x t bt w hb)
  clear hr hb
  go_enter Tryz.func108, Tryz.ntmps108
  go_wp2_with fail
  go_loopw [8] (fun kv wr => ∃ k : Nat, k ≤ l.length ∧ kv = .int .i64 k ∧ Hid (t ∉ l.take k) ∧ wr = w) (fun k _ => l.length - (intOf k).toNat)
  case atStart => exact ⟨0, by omega, rfl, (by show t ∉ l.take 0; simp), rfl⟩
  case round =>
    obtain ⟨k, hk1, rfl, HJ, rfl⟩ := hrel
    by_cases hlt : k < l.length
    · obtain ⟨b, o, rfl, hbl, hc⟩ := HR.out.addr (by omega) (by omega)
      have hx : l[k]? = some l[k] := List.getElem?_eq_getElem hlt
      have hc0 : wr.cell? ⟨b, o + k, none⟩ = some (.int .i64 l[k]) := hc k _ (by rw [List.getElem?_map, hx]; rfl)
      have HX := Lib.hid hx
      have hi0 : (0 : Int) ≤ (k : Int) := by omega
      have hi1 : (k : Int) < (l.length : Int) := by omega
      have HPC := Lib.hid (HP.out l[k])
      have hte : l.take (k + 1) = l.take k ++ [l[k]] := by rw [List.take_add_one, hx]; rfl
      have HTE := Lib.hid hte
      clear hc hx hte
      generalize l[k] = x at *
      cases hxt : (x == t) with
      | true =>
        rw [hxt] at HPC
        have HXT := Lib.hid hxt
        clear hxt
        go_wp2_with fail
        refine HPC.out.mono ?_
        rintro e w1 ⟨rfl, rfl⟩
        go_wp2_with fail
        go_ret
        refine ⟨⟨_, rfl, .inl ⟨k, rfl, ?_, HJ.out⟩⟩, by first | rfl | trivial⟩
        rw [HX.out, eq_of_beq HXT.out]
      | false =>
        rw [hxt] at HPC
        have HXT := Lib.hid hxt
        clear hxt
        go_wp2_with fail
        refine HPC.out.mono ?_
        rintro e w1 ⟨rfl, rfl⟩
        go_wp2_with fail
        go_roundw
        case rel =>
          refine ⟨k + 1, by omega, by go_num, ?_, by first | rfl | trivial⟩
          show t ∉ l.take (k + 1)
          rw [HTE.out]
          simp only [List.mem_append, List.mem_singleton, not_or]
          exact ⟨HJ.out, fun e => by have := HXT.out; rw [e] at this; simp at this⟩
        case measure => simp [intOf]; omega
    · obtain rfl : k = l.length := by omega
      go_wp2_with fail
      go_ret
      have h2 := HJ.out
      rw [List.take_length] at h2
      exact ⟨⟨_, rfl, .inr ⟨rfl, h2⟩⟩, by first | rfl | trivial⟩

theorem own_openI {w : World} {v : Value} {l : List Int} (h : w.ownsRow 0 3 1 v l.length (l.map I64)) (hl : 0 < l.length) : ∃ g cap rest, v = .slice (some ⟨g, 0, none⟩) l.length cap ∧ Blk w g 3 (l.map I64 ++ rest).toArray ∧ l.length ≤ cap ∧ cap ≤ maxLen ∧ l.length + rest.length = cap := by
  rcases h.2 with ⟨_, h0⟩ | ⟨g, cap, cur, hv, _, hb, h1, h2, h3, h4⟩
  · omega
  · refine ⟨g, cap, cur.toList.drop l.length, hv, ?_, h1, h2, ?_⟩
    · have h5 : cur.toList.take l.length = l.map I64 := by simpa using h4
      have e : (l.map I64 ++ cur.toList.drop l.length).toArray = cur := by rw [← h5, List.take_append_drop]
      rw [e]
      exact hb
    · have : cur.size = cap := by simpa using h3
      simp; omega
theorem own_shutI {w : World} {g cap : Nat} {l : List Int} {rest : List Value} (hb : Blk w g 3 (l.map I64 ++ rest).toArray) (h : l.length + rest.length = cap) (hm : cap ≤ maxLen) : w.ownsRow 0 3 1 (.slice (some ⟨g, 0, none⟩) l.length cap) l.length (l.map I64) := by
  refine ⟨by simp, .inr ⟨g, cap, _, rfl, Nat.zero_le _, hb, by omega, hm, by simp; omega, ?_⟩⟩
  have hl : (l.map I64).length = l.length := by simp
  rw [List.toList_toArray, Nat.mul_one, ← hl, List.take_left]

set_option maxHeartbeats 6400000 in
set_option maxRecDepth 100000 in
theorem delFunc_any (bt : Nat) (t : Int) (v : Value) (l : List Int) (w : World) (h : w.ownsRow 0 3 1 v l.length (l.map I64)) (hl : l.length ≤ 1000000) (hb : Blk w bt 3 #[.int .i64 t]) (hbt : bt ∉ fp v) :
    Calls Tryz.prog 84 #[v, .func (.func 85) #[] #[.pointer (some ⟨bt, 0, none⟩)]] w fun e w' => ∃ v', e = .returned v' ∧ w'.ownsRow 0 3 1 v' (l.filter (fun x => x != t)).length ((l.filter (fun x => x != t)).map I64) ∧ Kept (fp v) w w' ∧ ∀ k, k ∈ fp v' → k ∈ fp v := by
  by_cases h0 : l.length = 0
  · obtain ⟨A, c, rfl, _, _⟩ := own_form h
    have HIX := Lib.hid (idx_part1 bt t A l.length c l w (Reads.of_own h) hl hb)
    have HH := Lib.hid h
    have hl0 : l = [] := List.length_eq_zero_iff.1 h0
    subst hl0
    clear h hb h0 hbt
    go_enter Tryz.func84, Tryz.ntmps84
    go_wp2_with fail
    refine (HIX.out).mono ?_
    rintro e w1 ⟨⟨iv, rfl, hix⟩, rfl⟩
    obtain rfl : iv = -1 := by
      rcases hix with ⟨k, _, hk, _⟩ | ⟨h1, _⟩
      · simp at hk
      · exact h1
    clear hix
    go_wp2_with fail
    go_ret
    exact ⟨_, rfl, HH.out, Kept.refl _ _, fun k hk => hk⟩
  have HH := Lib.hid h
  obtain ⟨g, cap, rest, rfl, hg, hc1, hc2, hc3⟩ := own_openI h (by omega)
  have HIX := Lib.hid (idx_part1 bt t (some ⟨g, 0, none⟩) l.length cap l w (Reads.of_own h) hl hb)
  have hbg : bt ≠ g := fun e => hbt (by simp [fp_some, e])
  have HB := Lib.hid hg
  have HP := Lib.hid (fun x W (hW : Blk W bt 3 #[.int .i64 t]) => part1_any x t bt W hW)
  have HT := Lib.hid hb
  unfold maxLen at hc2
  clear h hb hg hbt
  go_enter Tryz.func84, Tryz.ntmps84
  go_wp2_with fail
  refine (HIX.out).mono ?_
  rintro e w1 ⟨⟨iv, rfl, hix⟩, rfl⟩
  rcases hix with ⟨i, rfl, hi, hni⟩ | ⟨rfl, hni⟩
  case inr =>
    have HN := Lib.hid hni
    clear hni
    go_wp2_with fail
    go_ret
    refine ⟨_, rfl, ?_, Kept.refl _ _, fun k hk => hk⟩
    have e : l.filter (fun x => x != t) = l := List.filter_eq_self.2 (fun x hx => by simp; exact fun e => HN.out (e ▸ hx))
    rw [e]
    exact HH.out
  have hil : i < l.length := (List.getElem?_eq_some_iff.1 hi).1
  have hib : ((i : Int) == -1) = false := beq_eq_false_iff_ne.2 (by omega)
  have HF0 : Hid ((l.take (i + 1)).filter (fun x => x != t) = l.take i) := by
    show List.filter (fun x => x != t) (l.take (i + 1)) = l.take i
    rw [List.take_add_one, hi, Option.toList_some, List.filter_append, List.filter_eq_self.2 (fun x hx => by simp; exact fun e => hni (e ▸ hx))]
    simp
  clear hi hni
  go_wp2_with fail
  go_loopw [5, 6] (fun iv jv wr => ∃ (i j : Nat) (ys : List Int), iv = .int .i64 i ∧ jv = .int .i64 j ∧ i < j ∧ j ≤ l.length ∧ ys.length = l.length ∧ Hid (ys.take i = (l.take j).filter (fun x => x != t)) ∧ Hid (ys.drop j = l.drop j) ∧ Hid (Blk wr g 3 (ys.map I64 ++ rest).toArray) ∧ Hid (Kept [g] w wr)) (fun _ jv _ => l.length - (intOf jv).toNat)
  case atStart => exact ⟨i, i + 1, l, rfl, by go_num, by omega, by omega, rfl, HF0.out.symm, (by show l.drop _ = l.drop _; rfl), HB.out, Kept.refl _ _⟩
  case round =>
    clear HF0 hib hil
    obtain ⟨i, j, ys, rfl, rfl, hij, hjl, hyl, HT1, HD1, HB1, HK1⟩ := hrel
    by_cases hlt : j < l.length
    · have hx : l[j]? = some l[j] := List.getElem?_eq_getElem hlt
      have hyx : ys[j]? = some l[j] := by
        have := congrArg (fun z => z[0]?) HD1.out
        simpa [List.getElem?_drop, hx] using this
      have hcj : wr.cell? ⟨g, j, none⟩ = some (.int .i64 l[j]) := by
        rw [HB1.out.cell j, List.getElem?_toArray, List.getElem?_append_left (by simp; omega), List.getElem?_map, hyx]; rfl
      have hlg := HB1.out.lt
      have hfi := HB1.out.frozen i
      obtain ⟨yi, hyi⟩ : ∃ yi, ys[i]? = some yi := ⟨ys[i], List.getElem?_eq_getElem (by omega)⟩
      have hci : wr.cell? ⟨g, i, none⟩ = some (.int .i64 yi) := by
        rw [HB1.out.cell i, List.getElem?_toArray, List.getElem?_append_left (by simp; omega), List.getElem?_map, hyi]; rfl
      have hte : l.take (j + 1) = l.take j ++ [l[j]] := by rw [List.take_add_one, hx]; rfl
      have HTE := Lib.hid hte
      have HBT : Hid (Blk wr bt 3 #[.int .i64 t]) := HT.out.kept HK1.out (by simpa using hbg)
      have HPC := Lib.hid (HP.out l[j] wr HBT.out)
      have hdd : ys.drop (j + 1) = l.drop (j + 1) := by
        have := congrArg (List.drop 1) HD1.out
        simpa [List.drop_drop] using this
      have HDD := Lib.hid hdd
      have hi0 : (0 : Int) ≤ (j : Int) := by omega
      have hi1 : (j : Int) < (l.length : Int) := by omega
      have hi2 : (0 : Int) ≤ (i : Int) := by omega
      have hi3 : (i : Int) < (l.length : Int) := by omega
      clear hx hyx hte hyi hdd
      generalize l[j] = x at *
      cases hxt : (x == t) with
      | true =>
        rw [hxt] at HPC
        have HXT := Lib.hid hxt
        clear hxt
        go_wp2_with fail
        refine HPC.out.mono ?_
        rintro e w1 ⟨rfl, rfl⟩
        go_wp2_with fail
        go_roundw
        case rel =>
          refine ⟨i, j + 1, ys, rfl, by go_num, by omega, by omega, hyl, ?_, HDD.out, HB1.out, HK1.out⟩
          show ys.take i = List.filter _ (l.take (j + 1))
          rw [HTE.out, List.filter_append, HT1.out]
          have := eq_of_beq HXT.out
          simp [this]
        case measure => simp [intOf]; omega
      | false =>
        rw [hxt] at HPC
        have HXT := Lib.hid hxt
        clear hxt
        go_wp2_with fail
        refine HPC.out.mono ?_
        rintro e w1 ⟨rfl, rfl⟩
        go_wp2_with fail
        go_roundw
        case rel =>
          refine ⟨i + 1, j + 1, ys.set i x, by go_num, by go_num, by omega, by omega, by simp [hyl], ?_, ?_, ?_, ?_⟩
          · show (ys.set i x).take (i + 1) = List.filter _ (l.take (j + 1))
            rw [HTE.out, List.filter_append, ← HT1.out, List.take_add_one, List.getElem?_set_self (by omega), List.take_set_of_le (Nat.le_refl _)]
            have : (x != t) = true := by rw [bne, HXT.out]; rfl
            simp [this]
          · show (ys.set i x).drop (j + 1) = l.drop (j + 1)
            rw [List.drop_set_of_lt (by omega)]
            exact HDD.out
          · have := HB1.out.set i (.int .i64 x)
            show Blk _ g _ _
            rw [List.map_set, show (List.set (ys.map I64) i (I64 x) ++ rest) = ((ys.map I64 ++ rest).set i (I64 x)) by rw [List.set_append_left _ _ (by simp; omega)]]
            rw [List.setIfInBounds_toArray] at this
            exact this
          · exact HK1.out.setCell (.inl (by simp)) _
        case measure => simp [intOf]; omega
    · obtain rfl : j = l.length := by omega
      have hft := HT1.out
      rw [List.take_length] at hft
      have HFT := Lib.hid hft
      have hfl : (l.filter (fun x => x != t)).length = i := by rw [← hft, List.length_take]; omega
      have hdec : ys.map I64 ++ rest = (ys.take i).map I64 ++ ((ys.drop i).map I64 ++ rest) := by rw [← List.append_assoc, ← List.map_append, List.take_append_drop]
      have hcr : ∀ ty c2, (Builtin.clear_ #[27] ty #[.slice (some ⟨g, i, none⟩) (l.length - i) c2]).run Tryz.prog wr = .ok (.tuple #[]) (wr.setRow g ((ys.take i).map I64 ++ (Builtin.zeroCells (Value.int .i64 0).cells (l.length - i)).toList ++ (ys.map I64 ++ rest).drop (i + (l.length - i) * 1)).toArray) := fun ty c2 => by
        have := run_clearK (P := Tryz.prog) wr 27 ty 3 1 g i c2 (l.length - i) _ (.int .i64 0) Tryz.underlying27 (by kernel_rfl) rfl (by omega) HB1.out (by simp; omega) (by
          intro u hu
          have : u = .int .i64 0 := by
            simp [Builtin.zeroCells, Value.cells] at hu
            obtain ⟨a, _, h2⟩ := hu
            rw [Nat.mod_one] at h2
            simpa using h2.symm
          subst this; rfl)
        rw [this, List.toList_toArray]
        congr 4
        rw [List.take_append_of_le_length (by simp; omega), List.map_take]
      have hB2 : Blk (wr.setRow g ((ys.take i).map I64 ++ (Builtin.zeroCells (Value.int .i64 0).cells (l.length - i)).toList ++ (ys.map I64 ++ rest).drop (i + (l.length - i) * 1)).toArray) g 3 _ := HB1.out.setRow _
      have HRES : Hid ((wr.setRow g ((ys.take i).map I64 ++ (Builtin.zeroCells (Value.int .i64 0).cells (l.length - i)).toList ++ (ys.map I64 ++ rest).drop (i + (l.length - i) * 1)).toArray).ownsRow 0 3 1 (.slice (some ⟨g, 0, none⟩) i cap) (l.filter (fun x => x != t)).length ((l.filter (fun x => x != t)).map I64)) := by
        show World.ownsRow _ _ _ _ _ _ _
        have hti : (ys.take i).length = i := by rw [List.length_take]; omega
        rw [List.append_assoc] at hB2
        have := own_shutI (l := ys.take i) hB2 (cap := cap) (by simp [Builtin.zeroCells, Value.cells]; omega) (by unfold maxLen; omega)
        rw [hti] at this
        rw [← HFT.out, hti]
        rw [List.append_assoc]
        exact this
      have HKF : Hid (Kept [g] w (wr.setRow g ((ys.take i).map I64 ++ (Builtin.zeroCells (Value.int .i64 0).cells (l.length - i)).toList ++ (ys.map I64 ++ rest).drop (i + (l.length - i) * 1)).toArray)) := HK1.out.setRow (.inl (by simp)) _
      have hcut := run_cutK (P := Tryz.prog) 27 3 1 Tryz.underlying27 (by kernel_rfl) (some ⟨g, 0, none⟩) l.length cap .i64 i i rfl (by omega)
      have hck : cutK (some (⟨g, 0, none⟩ : Addr)) i cap 1 = some ⟨g, i, none⟩ := by unfold cutK; rw [if_neg (by omega)]; simp [add_mk]
      rw [hck] at hcut
      have hli : i ≤ cap := by omega
      generalize (wr.setRow g ((ys.take i).map I64 ++ (Builtin.zeroCells (Value.int .i64 0).cells (l.length - i)).toList ++ (ys.map I64 ++ rest).drop (i + (l.length - i) * 1)).toArray) = wz at *
      clear hB2 hft hfl hdec hck
      go_wp2_with fail
      go_ret
      exact ⟨_, rfl, HRES.out, HKF.out, fun k hk => hk⟩

set_option maxHeartbeats 6400000 in
set_option maxRecDepth 100000 in
theorem lkpart_any {w0 : Base} {w : World} {a : LkA} {s : Lk} {js : List (List Int)} {K m : Nat} (h : LkIsJ w0 w a s js m) (hI : LkAll s K) (hm : m < 1000000) (hjl : ∀ x ∈ js, x.length ≤ 1000000) (k q : Nat) (hk : k < s.eff.length) (hq : q < s.eff.length) (h1 : (getW s.waits k).1 = -1) :
    Calls Tryz.prog 58 #[.pointer (some ⟨a.g, 0, none⟩), .int .i64 k, .int .i64 q] w fun e w' => e = .returned (.tuple #[]) ∧ ∃ a', a'.g = a.g ∧ LkIsJ w0 w' a' { s with waits := s.waits.set k (-1, -1) } (js.set q ((js.getD q []).filter (fun x => x != (k : Int)))) (m + 1) := by
  have hw := hI.whole
  have hmix : Tryz.prog.follows .mixedOrders = true := by kernel_rfl
  have hqj : q < js.length := by rw [h.len]; omega
  have hge : js.getD q [] = js[q] := by rw [List.getD_eq_getElem?_getD, List.getElem?_eq_getElem hqj]; rfl
  rw [hge]
  obtain ⟨jb, o, vs, hJ, hx, hl, hM⟩ := h.map_
  have hqv : q < vs.length := by omega
  have hrow := h.is.rowJ hx q hqj hqv
  obtain ⟨A, c, hvA, hnc, _⟩ := own_form hrow.2.1
  have hbt : w.heap.size ∉ fp vs[q] := fun hm => by have := own_lt hrow.2.1 _ hm; omega
  rw [hvA] at hbt
  have hc0 : w.cell? ⟨a.g, 0, none⟩ = some (.pointer (some ⟨a.gw, 0, none⟩)) := h.is.at_.blk.cell 0
  have hgl : a.g < w.heap.size := h.is.at_.blk.lt
  have hB0 := (Blk.new w 3 #[.int .i64 k])
  have hcb : (w.alloc (.cells #[.int .i64 k] 3)).cell? ⟨w.heap.size, 0, none⟩ = some (.int .i64 k) := hB0.cell 0
  have HCLR : Hid (∀ W, Kept [] (w.alloc (.cells #[.int .i64 k] 3)) W → Calls Tryz.prog 64 #[.pointer (some ⟨a.gw, 0, none⟩), .int .i64 k] W fun e w' => e = .returned (.bool true) ∧ LkIs w0 w' a { s with waits := s.waits.set k (-1, -1) } ∧ Blk w' w.heap.size 3 #[.int .i64 k]) := fun W hkW => by
    have hl' := h.is.old (((Kept.refl [] w).alloc _).trans hkW)
    refine (wbClear_lk hl' hw k hk h1).mono ?_
    rintro e w' ⟨rfl, h2, h3⟩
    have hb := hB0.kept hkW (by simp)
    exact ⟨rfl, h2, hb.kept h3 (fun hm => own_blk_ne (hl'.at_.2.get (i := 3) rfl) hb (by decide) (mem_fp.1 hm))⟩
  have HBT := Lib.hid hbt
  have HM := Lib.hid hM
  have HX := Lib.hid hx
  have HJE := Lib.hid hJ
  have HEND : Hid (∀ (w3 : World), LkIs w0 w3 a { s with waits := s.waits.set k (-1, -1) } → Blk w3 w.heap.size 3 #[.int .i64 k] → w3.cell? ⟨a.g, 6, none⟩ = some (.map (some jb)) ∧ a.g < w3.heap.size ∧ (Instr.lookup 42 (.map (some jb)) (.int .i64 q) false).run Tryz.prog w3.drew = .ok (.slice A js[q].length c) w3.drew ∧
      Calls Tryz.prog 84 #[.slice A js[q].length c, .func (.func 85) #[] #[.pointer (some ⟨w.heap.size, 0, none⟩)]] w3.drew fun e w4 => ∃ v', e = .returned v' ∧ w4.cell? ⟨a.g, 6, none⟩ = some (.map (some jb)) ∧ ∃ o', (Instr.mapUpdate 42 (.map (some jb)) (.int .i64 q) v').run Tryz.prog w4 = .ok () (setBlock w4 jb o') ∧ (setBlock w4 jb o').cell? ⟨a.g, 6, none⟩ = some (.map (some jb)) ∧
        ∃ a', a'.g = a.g ∧ LkIsJ w0 (setBlock w4 jb o') a' { s with waits := s.waits.set k (-1, -1) } (js.set q (js[q].filter (fun x => x != (k : Int)))) (m + 1)) := fun w3 hl3 hb3 => by
    obtain ⟨ho, hr, hjv, hjn, hturn⟩ := hl3.rowJ hx q hqj hqv
    have hq6 : w3.cell? ⟨a.g, 6, none⟩ = some (.map (some jb)) := by have := hl3.at_.blk.cell 6; rw [hJ] at this; exact this
    have hlk : (Instr.lookup 42 (.map (some jb)) (.int .i64 q) false).run Tryz.prog w3.drew = .ok (.slice A js[q].length c) w3.drew := by
      have := hM.look (w := w3.drew) ho q hqv
      rw [hvA] at this
      exact this
    have hne6 : a.g ≠ jb := fun e => by
      have h1 := hl3.at_.blk
      unfold Blk at h1
      rw [e, ho] at h1
      obtain ⟨_, es, clock, rfl, _⟩ := hM
      cases h1
    rw [hvA] at hr hjv
    have hgr : a.g ∉ fp (.slice A js[q].length c) := fun hm => own_blk_ne hr hl3.at_.blk (by decide) (mem_fp.1 hm)
    refine ⟨hq6, hl3.at_.blk.lt, hlk, (delFunc_any w.heap.size k _ js[q] w3.drew hr (hjl js[q] (List.getElem_mem hqj)) hb3 hbt).mono ?_⟩
    rintro e w4 ⟨v', rfl, hr4, hk4', hf4⟩
    have hk4 : Kept (fp (.slice A js[q].length c)) w3 w4 := ((Kept.refl [] w3).drew.mono (by simp)).trans hk4'
    have ho4 : w4.heap[jb]? = some o := (hk4.block jb (lt_of_block ho) hjv).trans ho
    have hc6 : w4.cell? ⟨a.g, 6, none⟩ = some (.map (some jb)) := hk4.cell_some hq6 hgr
    obtain ⟨o', hrun, hM'⟩ := hM.store ho4 q hqv hm v'
    obtain ⟨hkb, hob⟩ := kept_setBlock (lt_of_block ho4) o'
    rw [hvA] at hturn
    refine ⟨v', rfl, hc6, o', hrun, hkb.cell_some hc6 (by simpa using hne6), _, ?_, ⟨(hturn _ o' v' _ ((hk4.mono (fun x hx => List.mem_cons_of_mem _ hx)).trans (hkb.mono (by simp))) hob (own_kept hr4 hkb (fun x hxm hm => by simp only [List.mem_singleton] at hm; subst hm; exact hjv (hf4 _ hxm))) (fun x hxm => .inl (hf4 x hxm))), by simp [h.len], jb, o', vs.set q v', hJ, rfl, by simp [hl], hM'⟩⟩
    rfl
  clear h hI hw hjl hge hx hl hM hrow hvA hbt hnc hJ h1
  go_enter Tryz.func58, Tryz.ntmps58
  go_wp2_with fail
  refine wp_region_held_drew (S := fun w' => w'.cell? ⟨a.g, 0, none⟩ = some (.pointer (some ⟨a.gw, 0, none⟩)) ∧ w'.cell? ⟨w.heap.size, 0, none⟩ = some (.int .i64 k)) hmix ⟨by go_keep, hcb⟩ (fun hHeld => ?_)
  (refine rtake_0 (v := ?_) (by kernel_rfl) (by kernel_rfl) (by kernel_rfl) (fun _ _ _ h => h) (Or.inl ⟨by rfl, ?_⟩) (by assumption) ?_; rotate_left; focus ((intro w hSw; (try dsimp only at hSw); go_simp); try (with_reducible rfl)); (try simp only [Act.put, List.setIfInBounds_toArray, List.set_cons_zero, List.set_cons_succ]))
  (refine rtake_1 (v := ?_) (by kernel_rfl) (by kernel_rfl) (by kernel_rfl) (fun _ _ _ h => h) (Or.inl ⟨by rfl, ?_⟩) (by assumption) ?_; rotate_left; focus ((intro w hSw; (try dsimp only at hSw); go_simp); try (with_reducible rfl)); (try simp only [Act.put, List.setIfInBounds_toArray, List.set_cons_zero, List.set_cons_succ]))
  (refine rtake_2 (v := ?_) (by kernel_rfl) (by kernel_rfl) (by kernel_rfl) (fun _ _ _ h => h) (Or.inl ⟨by rfl, ?_⟩) (by assumption) ?_; rotate_left; focus ((intro w hSw; (try dsimp only at hSw); go_simp); try (with_reducible rfl)); (try simp only [Act.put, List.setIfInBounds_toArray, List.set_cons_zero, List.set_cons_succ]))
  (refine rtake_3 (v := ?_) (by kernel_rfl) (by kernel_rfl) (by kernel_rfl) (fun _ _ _ h => h) (Or.inl ⟨by rfl, ?_⟩) (by assumption) ?_; rotate_left; focus ((intro w hSw; (try dsimp only at hSw); go_simp); try (with_reducible rfl)); (try simp only [Act.put, List.setIfInBounds_toArray, List.set_cons_zero, List.set_cons_succ]))
  (refine rtake_4 (v := ?_) (by kernel_rfl) (by kernel_rfl) (by kernel_rfl) (fun _ _ _ h => h) (Or.inl ⟨by rfl, ?_⟩) (by assumption) ?_; rotate_left; focus ((intro w hSw; (try dsimp only at hSw); go_simp); try (with_reducible rfl)); (try simp only [Act.put, List.setIfInBounds_toArray, List.set_cons_zero, List.set_cons_succ]))
  (refine wpAnyH_ready (rs := [5]) (by kernel_rfl) (by simp) ?_; refine rcons_5 (fun K hK => ?_) (AllReadyH.nil))
  go_simp
  (with_reducible refine (HCLR.out _ (by (repeat (first | (with_reducible exact Kept.refl _ _) | (with_reducible assumption) | (with_reducible refine Kept.alloc ?_ _) | (with_reducible refine Kept.drew ?_) | (with_reducible refine Kept.drewN ?_ _) | (with_reducible refine Kept.setCell ?_ ?_ _) | (exact .inr (Nat.le_refl _)) | (exact .inr (by simp only; omega)) | (exact .inr (by omega)))))).mono ?_)
  rintro r w3 ⟨rfl, hl3, hb3⟩
  have hc3 : w3.cell? ⟨a.g, 0, none⟩ = some (.pointer (some ⟨a.gw, 0, none⟩)) := hl3.at_.blk.cell 0
  have hcb3 : w3.cell? ⟨w.heap.size, 0, none⟩ = some (.int .i64 k) := hb3.cell 0
  obtain ⟨hq6, hgl3, hlk, hdel⟩ := HEND.out w3 hl3 hb3
  have HDEL := Lib.hid hdel
  clear hl3 hb3 hdel
  try go_simp
  refine hK.out _ _ ⟨hc3, hcb3⟩ (fun hHeld => ?_)
  clear hK K
  (try simp only [Act.put, List.setIfInBounds_toArray, List.set_cons_zero, List.set_cons_succ])
  refine wpAnyH_done (by kernel_rfl) ?_ _
  go_wp2_with fail
  clear hHeld
  refine wp_region_held_drew (S := fun w' => w'.cell? ⟨a.g, 6, none⟩ = some (.map (some jb))) hmix hq6 (fun hHeld => ?_)
  (refine rtake_0 (v := ?_) (by kernel_rfl) (by kernel_rfl) (by kernel_rfl) (fun _ _ _ h => h) (Or.inl ⟨by rfl, ?_⟩) (by assumption) ?_; rotate_left; focus ((intro w hSw; (try dsimp only at hSw); go_simp); try (with_reducible rfl)); (try simp only [Act.put, List.setIfInBounds_toArray, List.set_cons_zero, List.set_cons_succ]))
  (refine rtake_1 (v := ?_) (by kernel_rfl) (by kernel_rfl) (by kernel_rfl) (fun _ _ _ h => h) (Or.inl ⟨by rfl, ?_⟩) (by assumption) ?_; rotate_left; focus ((intro w hSw; (try dsimp only at hSw); go_simp); try (with_reducible rfl)); (try simp only [Act.put, List.setIfInBounds_toArray, List.set_cons_zero, List.set_cons_succ]))
  (refine rtake_2 (v := ?_) (by kernel_rfl) (by kernel_rfl) (by kernel_rfl) (fun _ _ _ h => h) (Or.inl ⟨by rfl, ?_⟩) (by assumption) ?_; rotate_left; focus ((intro w hSw; (try dsimp only at hSw); go_simp); try (with_reducible rfl)); (try simp only [Act.put, List.setIfInBounds_toArray, List.set_cons_zero, List.set_cons_succ]))
  (refine rtake_3 (v := ?_) (by kernel_rfl) (by kernel_rfl) (by kernel_rfl) (fun _ _ _ h => h) (Or.inl ⟨by rfl, ?_⟩) (by assumption) ?_; rotate_left; focus ((intro w hSw; (try dsimp only at hSw); go_simp); try (with_reducible rfl)); (try simp only [Act.put, List.setIfInBounds_toArray, List.set_cons_zero, List.set_cons_succ]))
  (refine rtake_4 (v := ?_) (by kernel_rfl) (by kernel_rfl) (by kernel_rfl) (fun _ _ _ h => h) (Or.inl ⟨by rfl, ?_⟩) (by assumption) ?_; rotate_left; focus ((intro w hSw; (try dsimp only at hSw); go_simp); try (with_reducible rfl)); (try simp only [Act.put, List.setIfInBounds_toArray, List.set_cons_zero, List.set_cons_succ]))
  (refine rtake_5 (v := ?_) (by kernel_rfl) (by kernel_rfl) (by kernel_rfl) (fun _ _ _ h => h) (Or.inl ⟨by rfl, ?_⟩) (by assumption) ?_; rotate_left; focus ((intro w hSw; (try dsimp only at hSw); go_simp); try (with_reducible rfl)); (try simp only [Act.put, List.setIfInBounds_toArray, List.set_cons_zero, List.set_cons_succ]))
  (refine rtake_6 (v := ?_) (by kernel_rfl) (by kernel_rfl) (by kernel_rfl) (fun _ _ _ h => h) (Or.inl ⟨by rfl, ?_⟩) (by assumption) ?_; rotate_left; focus ((intro w hSw; (try dsimp only at hSw); go_simp); try (with_reducible rfl)); (try simp only [Act.put, List.setIfInBounds_toArray, List.set_cons_zero, List.set_cons_succ]))
  (refine rtake_7 (v := ?_) (by kernel_rfl) (by kernel_rfl) (by kernel_rfl) (fun _ _ _ h => h) (Or.inl ⟨by rfl, ?_⟩) (by assumption) ?_; rotate_left; focus ((intro w hSw; (try dsimp only at hSw); go_simp); try (with_reducible rfl)); (try simp only [Act.put, List.setIfInBounds_toArray, List.set_cons_zero, List.set_cons_succ]))
  (refine rtake_8 (v := ?_) (by kernel_rfl) (by kernel_rfl) (by kernel_rfl) (fun _ _ _ h => h) (Or.inl ⟨by rfl, ?_⟩) (by assumption) ?_; rotate_left; focus ((intro w hSw; (try dsimp only at hSw); go_simp); try (with_reducible rfl)); (try simp only [Act.put, List.setIfInBounds_toArray, List.set_cons_zero, List.set_cons_succ]))
  (refine rtake_9 (v := ?_) (by kernel_rfl) (by kernel_rfl) (by kernel_rfl) (fun _ _ _ h => h) (Or.inl ⟨by rfl, ?_⟩) (by assumption) ?_; rotate_left; focus ((intro w hSw; (try dsimp only at hSw); go_simp); try (with_reducible rfl)); (try simp only [Act.put, List.setIfInBounds_toArray, List.set_cons_zero, List.set_cons_succ]))
  (refine rtake_11 (v := ?_) (by kernel_rfl) (by kernel_rfl) (by kernel_rfl) (fun _ _ _ h => h) (Or.inl ⟨by rfl, ?_⟩) (by assumption) ?_; rotate_left; focus ((intro w hSw; (try dsimp only at hSw); go_simp); try (with_reducible rfl)); (try simp only [Act.put, List.setIfInBounds_toArray, List.set_cons_zero, List.set_cons_succ]))
  (refine wpAnyH_ready (rs := [10]) (by kernel_rfl) (by simp) ?_; refine rcons_10 (fun K hK => ?_) (AllReadyH.nil))
  go_simp
  refine hK.out _ _ hq6 (fun hHeld => ?_)
  clear hK K
  (try simp only [Act.put, List.setIfInBounds_toArray, List.set_cons_zero, List.set_cons_succ])
  (refine wpAnyH_ready (rs := [12]) (by kernel_rfl) (by simp) ?_; refine rcons_12 (fun K hK => ?_) (AllReadyH.nil))
  go_simp
  (with_reducible refine (HDEL.out).mono ?_)
  rintro r w4 ⟨v', rfl, hc6, o', hrun, hc6', hfin⟩
  have HF := Lib.hid hfin
  clear hfin
  try go_simp
  refine hK.out _ _ hc6 (fun hHeld => ?_)
  clear hK K
  (try simp only [Act.put, List.setIfInBounds_toArray, List.set_cons_zero, List.set_cons_succ])
  (refine wpAnyH_ready (rs := [13]) (by kernel_rfl) (by simp) ?_; refine rcons_13 (fun K hK => ?_) (AllReadyH.nil))
  refine step_mapUpdate rfl (.tmp 15) (.tmp 16) (.tmp 24) 42 rfl (by simp [Act.eval]) (by simp [Act.eval]) (by simp [Act.eval]) hrun ?_
  refine hK.out _ _ hc6' (fun hHeld => ?_)
  clear hK K
  (try simp only [Act.put, List.setIfInBounds_toArray, List.set_cons_zero, List.set_cons_succ])
  refine wpAnyH_done (by kernel_rfl) ?_ _
  go_wp2_with fail
  go_end0
  exact ⟨rfl, HF.out⟩

end Go.Proofs.YtfoeijiejpenpaaGreatDoor
