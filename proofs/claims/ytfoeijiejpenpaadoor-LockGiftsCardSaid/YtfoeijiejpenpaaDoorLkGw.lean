/- Law 26: LockGifts, walked. -/
import Derived.Test.YtfoeijiejpenpaaDoorLkG6
namespace Go.Proofs.YtfoeijiejpenpaaDoor
open Go.RowKit

/-- The best of a thread's level and of its givers', so far. -/
structure BestI (s : Lk) (t m : Nat) (done : List Int) (b : Int) : Prop where
  lev : b ≤ s.level.getD t 0
  give : ∀ i : Nat, i < s.waits.length → nextG s.owner s.waits i = t → ((getW s.waits i).1 < m ∨ ((getW s.waits i).1 = m ∧ (i : Int) ∈ done)) → b ≤ s.eff.getD i 0
  one : b = s.level.getD t 0 ∨ ∃ i : Nat, i < s.waits.length ∧ nextG s.owner s.waits i = t ∧ b = s.eff.getD i 0
theorem nextG_ge {s : Lk} {K : Nat} (h : LkAll s K) {t : Nat} {i : Int} (hn : nextG s.owner s.waits i = t) : 0 ≤ (getW s.waits i).1 ∧ getO s.owner (getW s.waits i).1 = t := by
  have := (h.wrng i).1.1
  unfold nextG at hn
  split at hn
  · omega
  · exact ⟨by omega, hn⟩
theorem BestI.start {s : Lk} {K : Nat} (h : LkAll s K) (t : Nat) : BestI s t 0 [] (s.level.getD t 0) :=
  ⟨Int.le_refl _, fun i _ hn hx => by
    have := nextG_ge h hn
    rcases hx with hx | hx
    · omega
    · simp at hx, .inl rfl⟩
theorem BestI.step {s : Lk} {K : Nat} (h : LkAll s K) {t m : Nat} {done : List Int} {b : Int} (hb : BestI s t m done b) (ho : getO s.owner m = t) (i : Nat) (hi : i < s.waits.length) (hw : (getW s.waits i).1 = m) : BestI s t m (done ++ [(i : Int)]) (min b (s.eff.getD i 0)) := by
  have hn : nextG s.owner s.waits i = t := by unfold nextG; rw [hw, if_neg (by omega)]; exact ho
  refine ⟨by have := hb.lev; omega, fun j hj hnj hx => ?_, ?_⟩
  · by_cases hd : (j : Int) ∈ done ++ [(i : Int)] ∧ (j : Int) ∉ done
    · have : (j : Int) = i := by
        rcases List.mem_append.1 hd.1 with h1 | h1
        · exact absurd h1 hd.2
        · simpa using h1
      have e : j = i := by omega
      subst e; omega
    · have := hb.give j hj hnj (by
        rcases hx with hx | hx
        · exact .inl hx
        · exact .inr ⟨hx.1, Decidable.byContradiction fun h1 => hd ⟨hx.2, h1⟩⟩)
      omega
  · by_cases hle : b ≤ s.eff.getD i 0
    · rw [show min b (s.eff.getD i 0) = b by omega]; exact hb.one
    · rw [show min b (s.eff.getD i 0) = s.eff.getD i 0 by omega]; exact .inr ⟨i, hi, hn, rfl⟩
theorem BestI.next {s : Lk} {K : Nat} (h : LkAll s K) {t m : Nat} {done : List Int} {b : Int} (hb : BestI s t m done b) (hx : getO s.owner m ≠ t ∨ ∀ i : Nat, i < s.waits.length → (getW s.waits i).1 = m → (i : Int) ∈ done) : BestI s t (m + 1) [] b :=
  ⟨hb.lev, fun i hi hn hw => hb.give i hi hn (by
    have h2 := nextG_ge h hn
    rcases hw with hw | hw
    · by_cases he : (getW s.waits i).1 = m
      · rcases hx with hx | hx
        · rw [he] at h2; exact absurd h2.2 hx
        · exact .inr ⟨he, hx i hi he⟩
      · exact .inl (by omega)
    · simp at hw), hb.one⟩
theorem BestI.end_ {s : Lk} {K : Nat} (h : LkAll s K) {t : Nat} (ht : t < s.eff.length) {b : Int} (hb : BestI s t s.lines.length [] b) : b = s.eff.getD t 0 :=
  IsDue.uniq (owner := s.owner) (level := s.level) (waits := s.waits) (eff := s.eff) (t := t) ⟨hb.lev, fun i hi hn => hb.give i hi hn (.inl (h.wrng i).1.2), hb.one⟩ (h.fix t ht id)
theorem lineM_all {s : Lk} {K : Nat} (h : LkAll s K) {m : Nat} (hm : m < s.lines.length) : ∀ i : Nat, i < s.waits.length → (getW s.waits i).1 = m → (i : Int) ∈ lineM s m := fun i hi hw => by
  unfold lineM
  rw [if_pos ⟨by omega, by omega⟩, Int.toNat_natCast, List.getD_eq_getElem?_getD, List.getElem?_eq_getElem hm]
  obtain ⟨x, hx, hp⟩ := (h.lines m s.lines[m].1 s.lines[m].2 (List.getElem?_eq_getElem hm)).all i hi hw
  exact List.mem_map.2 ⟨x, hx, hp⟩
theorem lineM_mem {s : Lk} {K : Nat} (h : LkAll s K) {m : Nat} (hm : m < s.lines.length) {x : Int} (hx : x ∈ lineM s m) : ∃ i : Nat, x = i ∧ i < s.waits.length ∧ (getW s.waits i).1 = m := by
  unfold lineM at hx
  rw [if_pos ⟨by omega, by omega⟩, Int.toNat_natCast, List.getD_eq_getElem?_getD, List.getElem?_eq_getElem hm] at hx
  obtain ⟨y, hy, rfl⟩ := List.mem_map.1 hx
  have := (h.lines m s.lines[m].1 s.lines[m].2 (List.getElem?_eq_getElem hm)).mem y hy
  refine ⟨y.p.toNat, by omega, by omega, ?_⟩
  rw [show ((y.p.toNat : Nat) : Int) = y.p by omega]
  exact this.2.2.1
theorem lineM_len {s : Lk} {K : Nat} (h : LkAll s K) (m : Int) : (lineM s m).length ≤ 64 := by
  unfold lineM
  split
  · rename_i hm
    rw [List.length_map, List.getD_eq_getElem?_getD, List.getElem?_eq_getElem (by omega)]
    exact h.whole.lens _ (List.getElem_mem _)
  · simp

set_option maxHeartbeats 12800000 in
set_option maxRecDepth 100000 in
theorem lockGifts_any (A : Option Addr) (n c : Nat) (acts : List Ac) (w : World) (hr : Reads w 3 A n (acts.flatMap aL)) (hn : n ≤ 9223372036854775807) (hk : ∀ a ∈ acts, a.k < 256) (hD : HasDb w) :
    Calls Tryd.prog 5 #[.slice A n c] w fun e w' => e = .returned (.bool true) ∧ Kept [] w w' := by
  have hal := hr.lenK aL 3 aL_len (by omega)
  subst hal
  have HR := Lib.hid hr
  have HD := Lib.hid hD
  have HN := Lib.hid (new_go w)
  have HK := Lib.hid hk
  clear hr hD hk
  go_enter Tryd.func5, Tryd.ntmps5
  go_wp2_with fail
  refine (HN.out).mono ?_
  rintro e w1 ⟨g, rfl, hg⟩
  have HG := Lib.hid hg
  clear hg HN
  go_wp2_with fail
  go_loopw [4] (fun iv wr => ∃ i : Nat, i ≤ acts.length ∧ i ≤ 70 ∧ iv = .int .i64 i ∧ Hid (LkGo w wr g i)) (fun i _ => 70 - (intOf i).toNat)
  case atStart => exact ⟨0, by omega, by omega, rfl, HG.out⟩
  case round =>
    clear HG
    obtain ⟨i, hi1, hi2, rfl, HG⟩ := hrel
    by_cases hgo : i < acts.length ∧ i < 70
    · obtain ⟨hg1, hg2⟩ := hgo
      obtain ⟨x, hx⟩ : ∃ x, acts[i]? = some x := ⟨acts[i], List.getElem?_eq_getElem hg1⟩
      have hxk := HK.out x (List.mem_of_getElem? hx)
      have hkw : Kept [] w wr := by obtain ⟨_, _, _, h⟩ := HG.out; exact h.kept
      obtain ⟨b, o, rfl, hb0, hcc⟩ := HR.out.cellsK aL 3 aL_len (by omega) (by omega)
      have hc0 : wr.cell? ⟨b, o + i * 3, none⟩ = some (.int .u8 x.k) := hkw.cell_some (hcc i x hx 0 (by omega)) (by simp)
      have hc1 : wr.cell? ⟨b, o + i * 3 + 1, none⟩ = some (.int .i64 x.p) := hkw.cell_some (hcc i x hx 1 (by omega)) (by simp)
      have hc2 : wr.cell? ⟨b, o + i * 3 + 2, none⟩ = some (.int .i64 x.l) := hkw.cell_some (hcc i x hx 2 (by omega)) (by simp)
      have hj0 : (0 : Int) ≤ (i : Int) := by omega
      have hj1 : (i : Int) < (acts.length : Int) := by omega
      have d1 : decide ((i : Int) < (acts.length : Int)) = true := by simpa using hg1
      have d2 : decide ((i : Int) < 70) = true := by simp; omega
      obtain ⟨ak, xp, xl⟩ := x
      simp only at hc0 hc1 hc2 hxk
      have HSM := Lib.hid (small_any ak hxk xp xl wr)
      have HPL := Lib.hid (fun W (h : LkGo w W g i) A' B' => plays_any h (by omega) HD.out ak hxk A' B')
      clear hcc hx hkw hxk hb0
      go_wp2_with fail
      refine (HSM.out).mono ?_
      rintro e w2 ⟨⟨A', B', rfl⟩, hk2⟩
      have HG2 := Lib.hid (HG.out.old hk2)
      clear hk2 hc0 hc1 hc2
      go_wp2_with fail
      refine (HPL.out _ HG2.out A' B').mono ?_
      rintro e wp ⟨rfl, hgo⟩
      have HGO := Lib.hid hgo
      obtain ⟨a, s, js, hst⟩ := hgo
      have HST := Lib.hid hst
      have hlw : s.waits.length = 6 := by have := hst.all.whole.waits; have := hst.n6; omega
      have HLV : Hid (∀ W, Kept [] wp W → ∀ t : Nat, t < 6 → Calls Tryd.prog 19 #[.pointer (some ⟨g, 0, none⟩), .int .i64 t] W fun e W' => e = .returned (.int .i64 (s.level.getD t 0)) ∧ W = W') := fun W hk t ht => by
        have h1 := lkLevel_any (hst.is.is.at_.old hk) hst.all.whole t
        have h2 : levM2 s t = s.level.getD t 0 := by unfold levM2; rw [if_pos (by have := hst.n6; omega)]; rfl
        rw [hst.g_, h2] at h1
        exact h1
      have HEF : Hid (∀ W, Kept [] wp W → ∀ t : Nat, t < 6 → Calls Tryd.prog 11 #[.pointer (some ⟨g, 0, none⟩), .int .i64 t] W fun e W' => e = .returned (.int .i64 (s.eff.getD t 0)) ∧ W = W') := fun W hk t ht => by
        have h1 := lkEff_any (hst.is.is.at_.old hk) t
        have h2 : effM s t = s.eff.getD t 0 := by unfold effM; rw [if_pos (by have := hst.n6; omega)]; rfl
        rw [hst.g_, h2] at h1
        exact h1
      have HLN : Hid (∀ W, Kept [] wp W → ∀ m : Nat, Calls Tryd.prog 10 #[.pointer (some ⟨g, 0, none⟩), .int .i64 m] W fun e W' => ∃ A n c, e = .returned (.slice A n c) ∧ FreshI W W' (lineM s m) A n c) := fun W hk m => by
        have h1 := lkLine_any (hst.is.is.old hk) hst.all.whole m
        rw [hst.g_] at h1
        exact h1
      have HOW : Hid (∀ W, Kept [] wp W → ∀ m : Nat, Calls Tryd.prog 13 #[.pointer (some ⟨g, 0, none⟩), .int .i64 m] W fun e W' => e = .returned (.int .i64 (getO s.owner m)) ∧ W = W') := fun W hk m => by
        have h1 := lkOwner_any (hst.is.is.at_.old hk) hst.all.whole m
        rw [hst.g_] at h1
        exact h1
      clear hst HG HSM HPL HG2
      go_wp2_with fail
      go_loopw [5] (fun tv wr => ∃ t : Nat, t ≤ 6 ∧ tv = .int .i64 t ∧ Hid (Kept [] wp wr)) (fun t _ => 6 - (intOf t).toNat)
      case atStart => exact ⟨0, by omega, rfl, Kept.refl _ _⟩
      case round =>
        obtain ⟨t, ht1, rfl, HKT⟩ := hrel
        by_cases htl : t < 6
        · have HLT := Lib.hid (HLV.out _ HKT.out t htl)
          have hti : (t : Int) < 6 := by omega
          have HB0 := Lib.hid (BestI.start HST.out.all t)
          have HE7 := Lib.hid (HST.out.all.e7 t (by have := HST.out.n6; omega))
          generalize hlv : s.level.getD t 0 = lv at *
          have HLVE := Lib.hid hlv
          clear hlv
          go_wp2_with fail
          refine (HLT.out).mono ?_
          rintro e w3 ⟨rfl, rfl⟩
          go_wp2_with fail
          go_loopw [6, 7] (fun bv mv wr2 => ∃ (b : Int) (m : Nat), m ≤ 6 ∧ bv = .int .i64 b ∧ mv = .int .i64 m ∧ Hid (BestI s t m [] b) ∧ Hid (Kept [] wp wr2)) (fun _ m _ => 6 - (intOf m).toNat)
          case atStart => exact ⟨lv, 0, by omega, rfl, rfl, HB0.out, HKT.out⟩
          case round =>
            clear HB0
            obtain ⟨b, m, hm1, rfl, rfl, HBI, HKM⟩ := hrel
            by_cases hml : m < 6
            · have HLM := Lib.hid (HLN.out _ HKM.out m)
              have hmi : (m : Int) < 6 := by omega
              have hm6 : m < s.lines.length := by have := HST.out.m6; omega
              have hll := lineM_len HST.out.all m
              go_wp2_with fail
              refine (HLM.out).mono ?_
              rintro e w4 ⟨A4, n4, c4, rfl, hf⟩
              have hn4 : n4 = (lineM s m).length := by have := hf.reads.1; simpa using this.symm
              have HF := Lib.hid hf
              have HK4 := Lib.hid (HKM.out.trans hf.2.1)
              subst hn4
              clear hf
              go_wp2_with fail
              go_loopw [6, 9] (fun bv kv wr3 => ∃ (b : Int) (k : Nat), k ≤ (lineM s m).length ∧ bv = .int .i64 b ∧ kv = .int .i64 k ∧ Hid (BestI s t m ((lineM s m).take k) b) ∧ wr3 = w4) (fun _ k _ => (lineM s m).length - (intOf k).toNat)
              case atStart => exact ⟨b, 0, by omega, rfl, rfl, HBI.out, rfl⟩
              case round =>
                clear HBI
                obtain ⟨b, k, hk1, rfl, rfl, HBI, rfl⟩ := hrel
                have HOM := Lib.hid (HOW.out _ HK4.out m)
                by_cases hkl : k < (lineM s m).length
                · have hkx : (lineM s m)[k]? = some (lineM s m)[k] := List.getElem?_eq_getElem hkl
                  by_cases ho : getO s.owner m = t
                  · obtain ⟨j, hj1, hj2, hj3⟩ := lineM_mem HST.out.all hm6 (List.getElem_mem hkl)
                    have HS : Hid (BestI s t m ((lineM s m).take (k + 1)) (min b (s.eff.getD j 0))) := by
                      have h1 := HBI.out.step HST.out.all ho j hj2 hj3
                      rw [List.take_add_one, hkx, hj1]
                      exact h1
                    have HEJ := Lib.hid (HEF.out _ HK4.out j (by omega))
                    obtain ⟨bb, off, rfl, hbl, hcl⟩ := HF.out.reads.addr (by omega) (by omega)
                    have hck := hcl k (.int .i64 (j : Int)) (by rw [List.getElem?_map, hkx, hj1]; rfl)
                    rw [ho] at HOM
                    generalize s.eff.getD j 0 = ej at *
                    have hq0 : (0 : Int) ≤ (k : Int) := by omega
                    have hq1 : (k : Int) < ((lineM s m).length : Int) := by omega
                    clear hcl hkx hj1 hj2 hj3 ho
                    generalize hLN : (lineM s m).length = ln at *
                    have HLL := Lib.hid hLN
                    clear hLN
                    go_wp2_with fail
                    refine (HOM.out).mono ?_
                    rintro e w5 ⟨rfl, rfl⟩
                    go_wp2_with fail
                    refine (HEJ.out).mono ?_
                    rintro e w5 ⟨rfl, rfl⟩
                    go_wp2_with fail
                    go_roundw
                    case rel => exact ⟨min b ej, k + 1, by omega, by first | rfl | go_num, by go_num, HS.out, by first | rfl | trivial⟩
                    case measure => simp [intOf]; omega
                  · have HX := Lib.hid (HBI.out.next HST.out.all (.inl ho))
                    have hob : (getO s.owner m == (t : Int)) = false := beq_eq_false_iff_ne.2 ho
                    generalize getO s.owner m = om at *
                    have hq1 : (k : Int) < ((lineM s m).length : Int) := by omega
                    clear ho hkx
                    generalize hLN : (lineM s m).length = ln at *
                    have HLL := Lib.hid hLN
                    clear hLN
                    go_wp2_with fail
                    refine (HOM.out).mono ?_
                    rintro e w5 ⟨rfl, rfl⟩
                    go_wp2_with fail
                    go_roundw
                    case rel => exact ⟨b, m + 1, by omega, rfl, by go_num, HX.out, HK4.out⟩
                    case measure => simp [intOf]; omega
                · have HX : Hid (BestI s t (m + 1) [] b) := HBI.out.next HST.out.all (.inr (fun i hi hw => by
                    rw [List.take_of_length_le (by omega)]
                    exact lineM_all HST.out.all hm6 i hi hw))
                  obtain rfl : k = (lineM s m).length := by omega
                  generalize hLN : (lineM s m).length = ln at *
                  have HLL := Lib.hid hLN
                  clear hLN
                  go_wp2_with fail
                  go_roundw
                  case rel => exact ⟨b, m + 1, by omega, rfl, by go_num, HX.out, HK4.out⟩
                  case measure => simp [intOf]; omega
            · obtain rfl : m = 6 := by omega
              have HBE : Hid (b = s.eff.getD t 0) := BestI.end_ HST.out.all (by have := HST.out.n6; omega) (by rw [HST.out.m6]; exact HBI.out)
              have HET := Lib.hid (HEF.out _ HKM.out t htl)
              rw [← HBE.out] at HET
              have he7 : 0 ≤ b ∧ b ≤ 7 := by have := HE7.out; rw [← HBE.out] at this; exact this
              obtain ⟨he0, he1⟩ := he7
              have hbn : (b != b) = false := by simp
              clear HBE HBI
              go_wp2_with fail
              refine (HET.out).mono ?_
              rintro e w5 ⟨rfl, rfl⟩
              go_wp2_with fail
              go_roundw
              case rel => exact ⟨t + 1, by omega, by go_num, HKM.out⟩
              case measure => simp [intOf]; omega
        · obtain rfl : t = 6 := by omega
          go_wp2_with fail
          go_roundw
          case rel => exact ⟨i + 1, by omega, by omega, by go_num, HGO.out.old HKT.out⟩
          case measure => simp [intOf]; omega
    · have hkw : Kept [] w wr := by obtain ⟨_, _, _, h⟩ := HG.out; exact h.kept
      have HKW := Lib.hid hkw
      have HA := Lib.hid (awake26 wr)
      clear hkw
      rcases (by omega : i = acts.length ∨ (i < acts.length ∧ i = 70)) with h1 | ⟨h1, h2⟩
      · subst h1
        clear hgo
        go_wp2_with fail
        refine (HA.out).mono ?_
        rintro e w2 ⟨rfl, hk2⟩
        have HK2 := Lib.hid (HKW.out.trans hk2)
        clear hk2
        go_wp2_with fail
        go_ret
        exact ⟨rfl, HK2.out⟩
      · subst h2
        have d1 : decide (((70 : Nat) : Int) < (acts.length : Int)) = true := by simp; omega
        have hj1 : ((70 : Nat) : Int) < (acts.length : Int) := by omega
        have hj2 : (70 : Int) < (acts.length : Int) := by omega
        clear hgo
        go_wp2_with fail
        refine (HA.out).mono ?_
        rintro e w2 ⟨rfl, hk2⟩
        have HK2 := Lib.hid (HKW.out.trans hk2)
        clear hk2
        go_wp2_with fail
        go_ret
        exact ⟨rfl, HK2.out⟩

end Go.Proofs.YtfoeijiejpenpaaDoor
