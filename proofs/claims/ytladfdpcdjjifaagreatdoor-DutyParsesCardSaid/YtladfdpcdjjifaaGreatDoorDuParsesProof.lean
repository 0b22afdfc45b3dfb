/- DutyParses returns true for every input: the walk and the card. -/
import Derived.Test.YtladfdpcdjjifaaGreatDoorLaid
import Derived.Test.YtladfdpcdjjifaaGreatDoorDuPa
import Derived.Test.YtladfdpcdjjifaaGreatDoorDuPr
import Derived.Test.YtladfdpcdjjifaaGreatDoorDutyZ
namespace Go.Proofs.YtladfdpcdjjifaaGreatDoor
open Go.ChangeShapes Go.WideShapes Go.ChangeAt Go.RowKit
open Go.ChangeMaps (open_string shut_string)

attribute [local go_sem] run_store_float
/-- What both Parses do with a text. -/
theorem dutyParses_in (l : List UInt8) (hl : l.length ≤ 3000) :
    ∃ r : Du × Int × Int, SmallU 4000 r.1 ∧ (∀ w, HasMax w → Calls Tryz.prog 4 #[strV l] w (ParsedU w r)) ∧ ∀ w, HasMax w → Calls Tryz.prog 5 #[strV l] w (ParsedU w r) := by
  refine ⟨parseT (linesF [] l), ?_, fun w hM => uParse_any l w (by omega) hM, fun w _ => refParse9 l w (by omega)⟩
  have h := parseT_small (linesF [] l)
  have h2 := (linesF_len l []).1
  exact ⟨by have := h.1; omega, by have := h.2.1; omega, fun p hp => by have := h.2.2.1 p hp; omega, h.2.2.2⟩

set_option maxHeartbeats 3200000 in
set_option maxRecDepth 100000 in
theorem dutyParses_walk (l : List UInt8) (w : World) (hl : l.length ≤ 9223372036854775807) (hM : HasMax w) (hP : HasPow w) :
    Calls Tryz.prog 3 #[strV l] w fun e w' => e = .returned (.bool true) ∧ Kept [] w w' := by
  have hlt : (l.take 3000).length ≤ 3000 := by simp; omega
  obtain ⟨⟨d, nn, ev⟩, hdl, h1, h2⟩ := dutyParses_in (l.take 3000) hlt
  unfold ParsedU at h1 h2
  simp only at hdl h1 h2
  have H1 := Lib.hid h1
  have H2 := Lib.hid h2
  have HSM := Lib.hid (fun A n c B m e A2 n2 c2 B2 m2 e2 w h1 h2 => refSame9 d A n c B m e A2 n2 c2 B2 m2 e2 w h1 h2 (by have := hdl.1; omega) (by have := hdl.2.1; omega) (fun p hp => by have := hdl.2.2.1 p hp; omega))
  have HP := Lib.hid hP
  have HM := Lib.hid hM
  clear hM hP h1 h2 hdl
  obtain ⟨cpus, threads, locks, cap, boost, keep, ratio, progs, starts⟩ := d
  simp only [uC] at H1 H2 HSM
  have hz0 : (ev == ev) = true := by simp
  have hz1 : (nn == nn) = true := by simp
  by_cases h : 3000 < l.length
  · have hx := str_extract l 0 3000
    simp only [List.drop_zero, Nat.sub_zero] at hx
    generalize l.take 3000 = l4 at *
    go_enter Tryz.func3, Tryz.ntmps3
    go_wp2_with fail
    try rw [hx]
    refine (H1.out _ HM.out).mono ?_
    rintro e w1 ⟨A1, n1, c1, B1, m1, e1, rfl, hu1, hk1⟩
    have HK1 := Lib.hid hk1
    have HU1 := Lib.hid hu1
    have HX1 := Lib.hid (Blk.new w1 27 #[.int .i64 cpus, .int .i64 threads, .int .i64 locks, .int .i64 cap, .int .u64 (boost : Int), .float .f64 keep, .float .f64 ratio, .slice A1 n1 c1, .slice B1 m1 e1])
    have HKA : Hid (Kept [] w1 (w1.alloc (.cells #[.int .i64 cpus, .int .i64 threads, .int .i64 locks, .int .i64 cap, .int .u64 (boost : Int), .float .f64 keep, .float .f64 ratio, .slice A1 n1 c1, .slice B1 m1 e1] 27))) := (Kept.refl _ _).alloc _
    clear hu1 hk1
    go_wp2_with fail
    try rw [hx]
    refine (H2.out _ (HM.out.old (HK1.out.trans HKA.out))).mono ?_
    rintro e w2 ⟨A2, n2, c2, B2, m2, e2, rfl, hu2, hk2⟩
    have HX2 := Lib.hid (HX1.out.kept hk2 (by simp))
    have HU2 := Lib.hid ((HU1.out.old HKA.out).old hk2)
    have HV2 := Lib.hid hu2
    have HK2 := Lib.hid ((HK1.out.trans HKA.out).trans hk2)
    have HKB : Hid (Kept [] w2 (w2.alloc (.cells #[.int .i64 cpus, .int .i64 threads, .int .i64 locks, .int .i64 cap, .int .u64 (boost : Int), .float .f64 keep, .float .f64 ratio, .slice A2 n2 c2, .slice B2 m2 e2] 27))) := (Kept.refl _ _).alloc _
    have HX3 := Lib.hid (HX2.out.kept HKB.out (by simp))
    have hx3 := HX3.out.cell
    have hxl3 := HX3.out.lt
    clear hu2 hk2
    go_wp2_with fail
    refine (HSM.out _ _ _ _ _ _ _ _ _ _ _ _ _ (HU2.out.old HKB.out) (HV2.out.old HKB.out)).mono ?_
    rintro e w3 ⟨rfl, hk3⟩
    have HK3 := Lib.hid ((HK2.out.trans HKB.out).trans hk3)
    clear hk3 hx3 hxl3
    go_wp2_with fail
    refine (awake9 _ (HP.out.old HK3.out)).mono ?_
    rintro e w4 ⟨rfl, hk4⟩
    have HK4 := Lib.hid (HK3.out.trans hk4)
    clear hk4
    go_wp2_with fail
    go_ret
    exact ⟨rfl, HK4.out⟩
  · have hx : l.take 3000 = l := List.take_of_length_le (by omega)
    rw [hx] at H1 H2
    go_enter Tryz.func3, Tryz.ntmps3
    go_wp2_with fail
    skip
    refine (H1.out _ HM.out).mono ?_
    rintro e w1 ⟨A1, n1, c1, B1, m1, e1, rfl, hu1, hk1⟩
    have HK1 := Lib.hid hk1
    have HU1 := Lib.hid hu1
    have HX1 := Lib.hid (Blk.new w1 27 #[.int .i64 cpus, .int .i64 threads, .int .i64 locks, .int .i64 cap, .int .u64 (boost : Int), .float .f64 keep, .float .f64 ratio, .slice A1 n1 c1, .slice B1 m1 e1])
    have HKA : Hid (Kept [] w1 (w1.alloc (.cells #[.int .i64 cpus, .int .i64 threads, .int .i64 locks, .int .i64 cap, .int .u64 (boost : Int), .float .f64 keep, .float .f64 ratio, .slice A1 n1 c1, .slice B1 m1 e1] 27))) := (Kept.refl _ _).alloc _
    clear hu1 hk1
    go_wp2_with fail
    skip
    refine (H2.out _ (HM.out.old (HK1.out.trans HKA.out))).mono ?_
    rintro e w2 ⟨A2, n2, c2, B2, m2, e2, rfl, hu2, hk2⟩
    have HX2 := Lib.hid (HX1.out.kept hk2 (by simp))
    have HU2 := Lib.hid ((HU1.out.old HKA.out).old hk2)
    have HV2 := Lib.hid hu2
    have HK2 := Lib.hid ((HK1.out.trans HKA.out).trans hk2)
    have HKB : Hid (Kept [] w2 (w2.alloc (.cells #[.int .i64 cpus, .int .i64 threads, .int .i64 locks, .int .i64 cap, .int .u64 (boost : Int), .float .f64 keep, .float .f64 ratio, .slice A2 n2 c2, .slice B2 m2 e2] 27))) := (Kept.refl _ _).alloc _
    have HX3 := Lib.hid (HX2.out.kept HKB.out (by simp))
    have hx3 := HX3.out.cell
    have hxl3 := HX3.out.lt
    clear hu2 hk2
    go_wp2_with fail
    refine (HSM.out _ _ _ _ _ _ _ _ _ _ _ _ _ (HU2.out.old HKB.out) (HV2.out.old HKB.out)).mono ?_
    rintro e w3 ⟨rfl, hk3⟩
    have HK3 := Lib.hid ((HK2.out.trans HKB.out).trans hk3)
    clear hk3 hx3 hxl3
    go_wp2_with fail
    refine (awake9 _ (HP.out.old HK3.out)).mono ?_
    rintro e w4 ⟨rfl, hk4⟩
    have HK4 := Lib.hid (HK3.out.trans hk4)
    clear hk4
    go_wp2_with fail
    go_ret
    exact ⟨rfl, HK4.out⟩

theorem laid_dutyParses (os : Os) : laidMet Tryz.prog Rows.dutyParsesRow.laid ((laidWorld os).forCall (fun _ _ => 0) ⟨#[], #[.string ⟨#[]⟩], []⟩).memory :=
  laidMet_of_run' 8 (by kernel_rfl) (by kernel_rfl)
set_option maxRecDepth 100000 in
theorem dutyParses_contract (H : Type) (enc : TypeId × Value → H) (W : World) (base : Nat) (args : Array Value) (ds gs : List (DataW H)) (before : List MemPlace)
    (hval : ∀ (j : Nat) t v, Tryz.f3.params[j]? = some t → args[j]? = some v → Value.okWide Tryz.prog W .any base t v)
    (hW : DataW.Whole enc Tryz.prog Tryz.f3.params.toList Rows.dutyParsesSpec.vars false W args.toList ds gs before) (hL : laidMetH Tryz.prog Rows.dutyParsesRow.laid W) (hsh : W.ShapedOpen Tryz.prog) :
    Calls Tryz.prog 3 args W fun e W' => ∃ v, e = .returned v ∧ Rows.dutyParsesSpec.post enc Tryz.prog Tryz.f3 false true false false W args v W' := by
  have hW' := hW
  obtain ⟨p, q, hA0, hV, rfl, hfz, hnd⟩ := hW
  have hA : DataW.TrodAll enc Tryz.prog W 0 (fun _ => true) true Tryz.f3.params.toList args.toList ds p := hA0
  rw [Tryz.params3] at hA hval
  obtain ⟨v0, vs0, d0, ds0, p0, q0, hargs, rfl, rfl, h0, r0⟩ := trodAll_cons hA
  obtain ⟨rfl, rfl, rfl⟩ := trodAll_nil r0
  obtain rfl : args = #[v0] := by cases args; simp_all
  obtain ⟨rfl, rfl⟩ := trodVars_none hV
  have k0 := h0
  have lt0 : ∀ x ∈ p0, x.block < W.heap.size := by obtain ⟨m, hm⟩ := k0; exact DataW.trod_lt m _ _ _ hm
  obtain ⟨s, rfl, rfl, rfl, hs⟩ := open_string Tryz.underlying9 (hval 0 9 v0 rfl rfl) h0
  obtain ⟨⟨l⟩⟩ := s
  have hl : l.length ≤ 9223372036854775807 := by
    have h := hs
    simp only [maxLen] at h
    exact h
  clear hA0
  refine (dutyParses_walk l W hl (hasMax hsh) (hasPow_of (by kernel_rfl) hL)).mono fun e W' ⟨he, bel0⟩ => ?_
  have bel := bel0.toBelow
  subst he
  exact ⟨_, rfl, _, _, _, [], _, [], hW', trodAll_mk1 (shut_bool Tryz.underlying4 _), (trodAll_cons_mk (Below.trod Tryz.laidOut (by kernel_rfl) (of_decide_eq_true (by kernel_rfl)) k0 bel lt0) trodAll_mk0), rfl, bel.frame _, fun h => by cases h⟩
theorem dutyParses_reads (os : Os) {H : Type} (enc : TypeId × Value → H) : ∃ places, DataW.whole enc Tryz.prog ((laidWorld os).forCall (fun _ _ => 0) ⟨#[], #[.string ⟨#[]⟩], []⟩).memory Tryz.f3.params.toList Rows.dutyParsesSpec.vars false (#[.string ⟨#[]⟩] : Array Value).toList 8 = some ([.lit (.string [])], [], places) :=
  ⟨[], by kernel_rfl⟩
set_option maxRecDepth 100000 in
theorem dutyParses_lifted (os : Os) (started : os.Started) (H : Type) (enc : TypeId × Value → H) (F : Stop.Interp) :
    ReturnsInHanded {} Tryz.checked os 3 .any ((OpenSpec.ofChange Rows.dutyParsesSpec).preRow enc Tryz.prog Tryz.f3 Rows.dutyParsesRow.domain false Rows.dutyParsesRow.laid) (((OpenSpec.ofChange Rows.dutyParsesSpec).at F).post enc Tryz.prog Tryz.f3 false true false false) := by
  obtain ⟨places, hx⟩ := dutyParses_reads os enc
  refine returnsInHanded_of_row (C := Tryz.checked) (s := OpenSpec.ofChange Rows.dutyParsesSpec) Tryz.own started (by kernel_rfl) Tryz.func3
    (witness_row_at (enc := enc) (C := Tryz.checked) false (laidWorld os) #[.string ⟨#[]⟩] rfl (by kernel_rfl) (by kernel_rfl) (by kernel_rfl)
      (OpenSpec.preRow_of_cond 8 hx (by kernel_rfl) (fun k hk => by cases hk) (by kernel_rfl) (laid_dutyParses os))) ?_
  intro W base args ds gs before hval hW _ _ _ hL hsh _
  exact dutyParses_contract H enc W base args ds gs before hval hW hL hsh
theorem dutyParses_said : Rows.DutyParsesSaid :=
  OpenClaim.holds_of_cond 3 Tryz.f3 rfl rfl rfl rfl rfl rfl rfl ⟨rfl, rfl, rfl, rfl, rfl⟩ rfl rfl rfl rfl rfl (by kernel_rfl) Tryz.func3 (by kernel_rfl)
    (of_decide_eq_true (by kernel_rfl)) (by unfold Func.isWrapper; first | (rw [if_pos (by decide +kernel)]; kernel_rfl) | (rw [if_neg (by decide +kernel)]; exact ⟨rfl, rfl⟩))
    (fun os started H enc _ F => by rw [OpenClaim.pre_eq_preRow]; exact dutyParses_lifted os started H enc F)
theorem dutyParses_plain (f : FuncId) (fn : Func) (hf : Tryz.pinned.checked.prog.funcNamed "bosun/bosunlaw09.DutyParses" = some f) (hfn : Tryz.pinned.checked.prog.funcs[f]? = some fn) :
    false = Tryz.pinned.checked.prog.looks [] ∧ ∀ (j : Nat) t, fn.params[j]? = some t → Tryz.pinned.checked.prog.wantsStandIn t = false := by
  obtain rfl : f = 3 := Option.some.inj ((show Tryz.prog.funcNamed "bosun/bosunlaw09.DutyParses" = some 3 by kernel_rfl).symm.trans hf) |>.symm
  obtain rfl : fn = Tryz.f3 := (Option.some.inj (Tryz.func3.symm.trans hfn)).symm
  refine ⟨by kernel_rfl, fun j t ht => ?_⟩
  rw [Tryz.params3] at ht
  obtain rfl : t = 9 := by simpa using Array.mem_of_getElem? ht
  exact (show Tryz.prog.wantsStandIn 9 = false by kernel_rfl)
theorem dutyParses_card : Rows.DutyParsesCardSaid :=
  Claim7.holds_tied_plain_at .later [] _ _ _ _ dutyParses_said (fun _ h => by cases h) (by kernel_rfl) (fun _ h => by cases h) dutyParses_row_tie rfl ⟨rfl, rfl⟩ (by kernel_rfl) rfl dutyParses_plain (by kernel_rfl)

#print axioms dutyParses_card
end Go.Proofs.YtladfdpcdjjifaaGreatDoor
