/- Package replay: exits, as an event's function; Package replay: the event's function, by its kind; Package duty: may a duty's numbers be?. -/
import Derived.Test.YtccodklfplfleaaRpZ
import Derived.Test.YtccodklfplfleaaRpC
import Derived.Test.YtccodklfplfleaaRpX
import Derived.Test.YtccodklfplfleaaRpU
import Derived.Test.YtccodklfplfleaaRpN
import Derived.Test.YtccodklfplfleaaRpG2
import Derived.Test.YtccodklfplfleaaDuA
import Derived.Deep.QuietTactic
import Derived.BigQuiet

/- Package replay: exits, as an event's function. -/
namespace Go.Proofs.Ytccodklfplfleaa
open Go.RowKit

set_option maxHeartbeats 3200000 in
set_option maxRecDepth 100000 in
theorem rpexits_h : HandlesU 65 10 := by
  intro w0 w b d a K h hw hd hu hfit e hk hg
  have hs := stepA_exit (d := d) (a := a) hk
  cases hr : runsA a e with
  | false =>
    obtain ⟨wb, hwb⟩ : ∃ wb, w.alloc (.cells (eC e.step e.cpu e.kind e.slot e.gen e.op e.code e.n) 55) = wb := ⟨_, rfl⟩
    have h0 : Kept [] w wb := by rw [← hwb]; exact (Kept.refl _ _).alloc _
    have HRU := Lib.hid (rpruns_any (AccAt.old h.at' h0) hw e)
    have HEV := Lib.hid (ev_box hwb)
    have hev := HEV.out wb (Kept.refl _ _)
    have HFIN : Hid (∀ W, Kept [] wb W → AccIs w0 W b d a K) := fun W hk => h.old (h0.trans hk)
    rw [hr, if_neg (by simp)] at HRU
    rw [hr, if_pos rfl] at hs
    obtain ⟨v1, v2⟩ := step_no hs
    rw [v1, v2]
    clear h hw hd hs h0 hk hg hr v1 v2 hu hfit
    go_enter Try.func65, Try.ntmps65
    go_wp2_with fail
    go_step3
    go_wp2_with fail
    try rw [hwb]
    go_wp2_with fail
    refine (HRU.out).mono ?_
    rintro x w1 ⟨rfl, hk1⟩
    go_wp2_with fail
    (refine wp_region_phases (n := 34) (listed := #[false, false, false, false, false, false, false, false, false, false, false, false, false, false, false, false, false, false, false, false, false, false, false, false, false, false, false, false, false, false, false, false, false, false]) (by kernel_rfl) (by rfl) (by rfl) ?_)
    (refine wpAny_phase (fun W => Kept [] wb W) [(0, false), (1, false), (2, false), (3, false), (4, false), (5, false), (6, false), (7, false), (8, false), (9, false), (10, false), (11, false), (12, false), (13, false), (14, false), (15, false), (16, false), (17, false), (18, false), (19, false), (20, false), (21, false), (22, false), (23, false), (24, false), (25, false), (26, false), (27, false), (28, false), (29, false), (30, false), (31, false), (32, false), (33, false)] (f := 0) (listed := #[false, false, false, false, false, false, false, false, false, false, false, false, false, false, false, false, false, false, false, false, false, false, false, false, false, false, false, false, false, false, false, false, false, false]) (listed' := #[true, true, true, true, true, true, true, true, true, true, true, true, true, true, true, true, true, true, true, true, true, true, true, true, true, true, true, true, true, true, true, true, true, true]) (by kernel_rfl) (by kernel_rfl) (by rfl) (hk1).drew (fun d _ _ _ _ h => by cases d <;> exact h) ?_)
    iterate 34 (first | (refine wpQL_take (v := ?_) rfl ?_ ?_ ?_; rotate_left; (focus (first | rfl | (go_simp; done))); (focus ((intro W hC; go_simp); try (with_reducible rfl))); (try dsimp only [Act.put]); (try simp only [List.setIfInBounds_toArray, List.set_cons_zero, List.set_cons_succ])) | (refine wpQL_not rfl ?_ ?_; (focus (go_simp; done)); (try dsimp only [Act.put]); (try simp only [List.setIfInBounds_toArray, List.set_cons_zero, List.set_cons_succ])))
    (refine wpQL_nil ?_)
    (intro wq hq)
    (refine wpAny_done (by kernel_rfl) ?_ _)
    go_wp2_with fail
    (try simp only [Exit.noGoto])
    go_ret
    exact ⟨rfl, HFIN.out _ hq⟩
  | true =>
    rw [hr, if_neg (by simp)] at hs
    by_cases hc : (a.th e.slot.toNat).call = 2 ∧ (a.th e.slot.toNat).code = 0 ∧ (a.th e.slot.toNat).deed.op = 3 ∧ (a.th e.slot.toNat).deed.n = e.n
    · rw [if_pos hc] at hs
      obtain ⟨v1, v2⟩ := step_yes hs
      rw [v1, v2]
      exact rpexits_yes h hw e hr hc.1 hc.2.1 hc.2.2.1 hc.2.2.2
    · rw [if_neg hc] at hs
      obtain ⟨v1, v2⟩ := step_no hs
      rw [v1, v2]
      exact rpexits_no h hw e hr hc

end Go.Proofs.Ytccodklfplfleaa

/- Package replay: the event's function, by its kind. -/
namespace Go.Proofs.Ytccodklfplfleaa
open Go.RowKit

theorem enter_of {f : FuncId} {fn : Func} (hf : Try.prog.funcs[f]? = some fn) (hb : fn.body.isNone = false) (hn : (fn.name == "runtime.NumGoroutine") = false) (args : Array Value) (w : World) : (callFunc f args).run Try.prog w = .ok (.enter f args) w := by
  have hn' : ¬ fn.name = "runtime.NumGoroutine" := by simpa using hn
  have hb' : ¬ fn.body = none := fun e => by rw [e] at hb; cases hb
  simp [callFunc, hf, hb', hn']
/-- Each kind's function, as the account holds it. -/
theorem kinds_handle (g : Nat) (k : Nat) (h1 : 1 ≤ k) (h2 : k ≤ 10) : ∃ f, (kindsA g)[k]? = some (.func (.func f) #[.pointer (some ⟨g, 0, none⟩)] #[]) ∧ HandlesU f (k : Int) ∧ ∀ args w, (callFunc f args).run Try.prog w = .ok (.enter f args) w := by
  rcases (by omega : k = 1 ∨ k = 2 ∨ k = 3 ∨ k = 4 ∨ k = 5 ∨ k = 6 ∨ k = 7 ∨ k = 8 ∨ k = 9 ∨ k = 10) with rfl | rfl | rfl | rfl | rfl | rfl | rfl | rfl | rfl | rfl
  · exact ⟨_, rfl, rpcalls_h, enter_of Try.func56 (by kernel_rfl) (by kernel_rfl)⟩
  · exact ⟨_, rfl, rpeffect_h, enter_of Try.func57 (by kernel_rfl) (by kernel_rfl)⟩
  · exact ⟨_, rfl, rpreturns_h, enter_of Try.func58 (by kernel_rfl) (by kernel_rfl)⟩
  · exact ⟨_, rfl, rpdispatch_h.toU, enter_of Try.func59 (by kernel_rfl) (by kernel_rfl)⟩
  · exact ⟨_, rfl, rppreempt_h.toU, enter_of Try.func60 (by kernel_rfl) (by kernel_rfl)⟩
  · exact ⟨_, rfl, rpreadies_h.toU, enter_of Try.func61 (by kernel_rfl) (by kernel_rfl)⟩
  · exact ⟨_, rfl, rptick_h.toU, enter_of Try.func62 (by kernel_rfl) (by kernel_rfl)⟩
  · exact ⟨_, rfl, rpidle_h.toU, enter_of Try.func63 (by kernel_rfl) (by kernel_rfl)⟩
  · exact ⟨_, rfl, rpwaits_h, enter_of Try.func64 (by kernel_rfl) (by kernel_rfl)⟩
  · exact ⟨_, rfl, rpexits_h, enter_of Try.func65 (by kernel_rfl) (by kernel_rfl)⟩

end Go.Proofs.Ytccodklfplfleaa

/- Package duty: may a duty's numbers be? -/
namespace Go.Proofs.Ytccodklfplfleaa
open Go.RowKit

/-- How many bits a number has, as the library counts them. -/
def pcA (x : Int) : Int := IntKind.u64.wrap (bits .and .u64 (x / 2) 6148914691236517205 + bits .and .u64 x 6148914691236517205)
def pcB (y : Int) : Int := IntKind.u64.wrap (bits .and .u64 (y / 4) 3689348814741910323 + bits .and .u64 y 3689348814741910323)
def pcC (z : Int) : Int := bits .and .u64 (IntKind.u64.wrap (z / 16 + z)) 1085102592571150095
def pcD (k : Int) (y : Int) : Int := IntKind.u64.wrap (y + y / k)
def pcX (x : Int) : Int := bits .and .i64 (wrap64 (pcD 4294967296 (pcD 65536 (pcD 256 (pcC (pcB (pcA x))))))) 127
theorem pcX_pow : ∀ x : Fin 257, 2 ≤ x.1 → (pcX (x.1 : Int) != 1) = !(pow2 (x.1 : Int)) := by decide +kernel

set_option maxHeartbeats 800000 in
theorem ones64 (x : Nat) (w : World) (h2 : x ≤ 256) : Calls Try.prog 89 #[.int .u64 x] w fun e w' => e = .returned (.int .i64 (pcX x)) ∧ w = w' := by
  have hx : x ≤ 256 := h2
  go_enter Try.func89, Try.ntmps89
  go_wp2_with fail
  go_ret
  exact ⟨ret_int rfl, rfl⟩
theorem ones_any (x : Nat) (w : World) (h2 : x ≤ 256) : Calls Try.prog 73 #[.int .u64 x] w fun e w' => e = .returned (.int .i64 (pcX x)) ∧ w = w' := by
  have HO := Lib.hid (fun w => ones64 x w h2)
  generalize pcX x = p at *
  go_enter Try.func73, Try.ntmps73
  go_wp2_with fail
  refine (HO.out _).mono ?_
  rintro e w1 ⟨rfl, rfl⟩
  go_wp2_with fail
  go_ret
  exact ⟨rfl, rfl⟩
theorem in_any (x lo hi : Int) (w : World) : Calls Try.prog 72 #[.int .i64 x, .int .i64 lo, .int .i64 hi] w fun e w' => e = .returned (.bool (decide (lo ≤ x ∧ x ≤ hi))) ∧ w = w' := by
  by_cases h1 : lo ≤ x
  · have b1 : decide (lo ≤ x) = true := by simpa using h1
    go_enter Try.func72, Try.ntmps72
    go_wp2_with fail
    go_ret
    exact ⟨ret_bool (by simp [h1]), rfl⟩
  · have b1 : decide (lo ≤ x) = false := by simpa using h1
    go_enter Try.func72, Try.ntmps72
    go_wp2_with fail
    go_ret
    exact ⟨ret_bool (by simp [h1]), rfl⟩
theorem refIn (x lo hi : Int) (w : World) : Calls Try.prog 20 #[.int .i64 x, .int .i64 lo, .int .i64 hi] w fun e w' => e = .returned (.bool (decide (lo ≤ x ∧ x ≤ hi))) ∧ w = w' := by
  by_cases h1 : lo ≤ x
  · have b1 : decide (lo ≤ x) = true := by simpa using h1
    go_enter Try.func20, Try.ntmps20
    go_wp2_with fail
    go_ret
    exact ⟨ret_bool (by simp [h1]), rfl⟩
  · have b1 : decide (lo ≤ x) = false := by simpa using h1
    go_enter Try.func20, Try.ntmps20
    go_wp2_with fail
    go_ret
    exact ⟨ret_bool (by simp [h1]), rfl⟩

/-- The sizes of a duty, one after the other. -/
theorem sizedU_eq (d : Du) : sizedU d = (decide (1 ≤ d.cpus ∧ d.cpus ≤ 64) && (decide (1 ≤ d.threads ∧ d.threads ≤ 64) && (decide (0 ≤ d.locks ∧ d.locks ≤ 64) && (decide (max 2 d.threads ≤ d.cap ∧ d.cap ≤ 256) && (!(pcX d.cap != 1) && (decide (1 ≤ d.boost) && decide (d.boost ≤ 65536))))))) := by
  have hp : ∀ c : Int, 2 ≤ c → c ≤ 256 → (pcX c != 1) = !(pow2 c) := fun c h1 h2 => by
    have h := pcX_pow ⟨c.toNat, by omega⟩ (by simp only; omega)
    simp only at h
    rwa [show ((c.toNat : Nat) : Int) = c by omega] at h
  unfold sizedU
  by_cases h1 : 1 ≤ d.cpus ∧ d.cpus ≤ 64
  · by_cases h2 : 1 ≤ d.threads ∧ d.threads ≤ 64
    · by_cases h3 : 0 ≤ d.locks ∧ d.locks ≤ 64
      · by_cases h4 : max 2 d.threads ≤ d.cap ∧ d.cap ≤ 256
        · rw [hp d.cap (by omega) (by omega)]
          have h5 : d.threads ≤ d.cap := by omega
          simp only [h1, h2, h3, h4, h5, and_self, decide_true, Bool.true_and, Bool.not_not, Bool.decide_and, Bool.and_true]
        · have h5 : (pow2 d.cap && decide (d.threads ≤ d.cap)) = false := by
            unfold pow2
            rw [Bool.and_eq_false_iff]
            by_cases h6 : d.threads ≤ d.cap
            · left; rw [decide_eq_false_iff_not]; omega
            · right; simpa using h6
          rw [decide_eq_false h4, Bool.false_and]
          simp only [Bool.and_false]
          rw [show ∀ a b c d e f : Bool, (a && b && c && d && e && f) = (a && b && c && (d && e) && f) from by decide, h5]
          simp
      · simp only [h3, decide_false, Bool.and_false, Bool.false_and]
    · simp only [h2, decide_false, Bool.and_false, Bool.false_and]
  · simp only [h1, decide_false, Bool.false_and]

set_option maxHeartbeats 1600000 in
set_option maxRecDepth 100000 in
theorem sized_any (d : Du) (A : Option Addr) (n c : Nat) (B : Option Addr) (m e : Nat) (w : World) : Calls Try.prog 48 #[.agg (uC d A n c B m e)] w fun e w' => e = .returned (.bool (sizedU d)) ∧ Kept [] w w' := by
  have HI := Lib.hid in_any
  rw [sizedU_eq d]
  obtain ⟨cpus, threads, locks, cap, boost, keep, ratio, progs, starts⟩ := d
  simp only [uC]
  have HB : Hid (Blk (w.alloc (.cells #[.int .i64 cpus, .int .i64 threads, .int .i64 locks, .int .i64 cap, .int .u64 boost, .float .f64 keep, .float .f64 ratio, .slice A n c, .slice B m e] 27)) w.heap.size 27 #[.int .i64 cpus, .int .i64 threads, .int .i64 locks, .int .i64 cap, .int .u64 boost, .float .f64 keep, .float .f64 ratio, .slice A n c, .slice B m e]) := Blk.new _ _ _
  have hc := HB.out.cell
  by_cases h1 : 1 ≤ cpus ∧ cpus ≤ 64
  · rw [decide_eq_true h1, Bool.true_and]
    have H1 : Hid (∀ w, Calls Try.prog 72 #[.int .i64 cpus, .int .i64 1, .int .i64 64] w fun e w' => e = .returned (.bool true) ∧ w = w') := fun w => by have := HI.out cpus 1 64 w; rwa [decide_eq_true h1] at this
    by_cases h2 : 1 ≤ threads ∧ threads ≤ 64
    · rw [decide_eq_true h2, Bool.true_and]
      have H2 : Hid (∀ w, Calls Try.prog 72 #[.int .i64 threads, .int .i64 1, .int .i64 64] w fun e w' => e = .returned (.bool true) ∧ w = w') := fun w => by have := HI.out threads 1 64 w; rwa [decide_eq_true h2] at this
      by_cases h3 : 0 ≤ locks ∧ locks ≤ 64
      · rw [decide_eq_true h3, Bool.true_and]
        have H3 : Hid (∀ w, Calls Try.prog 72 #[.int .i64 locks, .int .i64 0, .int .i64 64] w fun e w' => e = .returned (.bool true) ∧ w = w') := fun w => by have := HI.out locks 0 64 w; rwa [decide_eq_true h3] at this
        by_cases h4 : max 2 threads ≤ cap ∧ cap ≤ 256
        · rw [decide_eq_true h4, Bool.true_and]
          have H4 : Hid (∀ w, Calls Try.prog 72 #[.int .i64 cap, .int .i64 (max 2 threads), .int .i64 256] w fun e w' => e = .returned (.bool true) ∧ w = w') := fun w => by have := HI.out (cap) ((max 2 threads)) (256) w; rwa [decide_eq_true h4] at this
          obtain ⟨cap, rfl⟩ := Int.eq_ofNat_of_zero_le (show 0 ≤ cap by omega)
          have hwc : IntKind.u64.wrap (cap : Int) = (cap : Int) := IntWalk.u64_in _ (by omega)
          have H5 := Lib.hid (fun w => ones_any cap w (by omega))
          generalize pcX (cap : Int) = pc at *
          clear h1 h2 h3 h4
          by_cases h5 : pc = 1
          · subst h5
            by_cases h6 : 1 ≤ boost
            · have b6 : decide ((1 : Int) ≤ (boost : Int)) = true := by simp; omega
              rw [decide_eq_true h6, Bool.true_and]
              clear h6
              go_enter Try.func48, Try.ntmps48
              go_wp2_with fail
              refine (H1.out _).mono ?_
              rintro e w1 ⟨rfl, rfl⟩
              go_wp2_with fail
              refine (H2.out _).mono ?_
              rintro e w1 ⟨rfl, rfl⟩
              go_wp2_with fail
              refine (H3.out _).mono ?_
              rintro e w1 ⟨rfl, rfl⟩
              go_wp2_with fail
              refine (H4.out _).mono ?_
              rintro e w1 ⟨rfl, rfl⟩
              go_wp2_with fail
              refine (H5.out _).mono ?_
              rintro e w1 ⟨rfl, rfl⟩
              go_wp2_with fail
              go_ret
              exact ⟨ret_bool (by simp; omega), (Kept.refl _ _).alloc _⟩
            · have b6 : decide ((1 : Int) ≤ (boost : Int)) = false := by simp; omega
              rw [decide_eq_false h6, Bool.false_and]
              clear h6
              go_enter Try.func48, Try.ntmps48
              go_wp2_with fail
              refine (H1.out _).mono ?_
              rintro e w1 ⟨rfl, rfl⟩
              go_wp2_with fail
              refine (H2.out _).mono ?_
              rintro e w1 ⟨rfl, rfl⟩
              go_wp2_with fail
              refine (H3.out _).mono ?_
              rintro e w1 ⟨rfl, rfl⟩
              go_wp2_with fail
              refine (H4.out _).mono ?_
              rintro e w1 ⟨rfl, rfl⟩
              go_wp2_with fail
              refine (H5.out _).mono ?_
              rintro e w1 ⟨rfl, rfl⟩
              go_wp2_with fail
              go_ret
              exact ⟨rfl, (Kept.refl _ _).alloc _⟩
          · have b5 : (pc != 1) = true := by simpa using h5
            rw [b5]
            go_enter Try.func48, Try.ntmps48
            go_wp2_with fail
            refine (H1.out _).mono ?_
            rintro e w1 ⟨rfl, rfl⟩
            go_wp2_with fail
            refine (H2.out _).mono ?_
            rintro e w1 ⟨rfl, rfl⟩
            go_wp2_with fail
            refine (H3.out _).mono ?_
            rintro e w1 ⟨rfl, rfl⟩
            go_wp2_with fail
            refine (H4.out _).mono ?_
            rintro e w1 ⟨rfl, rfl⟩
            go_wp2_with fail
            refine (H5.out _).mono ?_
            rintro e w1 ⟨rfl, rfl⟩
            go_wp2_with fail
            go_ret
            exact ⟨rfl, (Kept.refl _ _).alloc _⟩
        · rw [decide_eq_false h4, Bool.false_and]
          have H4 : Hid (∀ w, Calls Try.prog 72 #[.int .i64 cap, .int .i64 (max 2 threads), .int .i64 256] w fun e w' => e = .returned (.bool false) ∧ w = w') := fun w => by have := HI.out (cap) ((max 2 threads)) (256) w; rwa [decide_eq_false h4] at this
          clear h1 h2 h3 h4
          go_enter Try.func48, Try.ntmps48
          go_wp2_with fail
          refine (H1.out _).mono ?_
          rintro e w1 ⟨rfl, rfl⟩
          go_wp2_with fail
          refine (H2.out _).mono ?_
          rintro e w1 ⟨rfl, rfl⟩
          go_wp2_with fail
          refine (H3.out _).mono ?_
          rintro e w1 ⟨rfl, rfl⟩
          go_wp2_with fail
          refine (H4.out _).mono ?_
          rintro e w1 ⟨rfl, rfl⟩
          go_wp2_with fail
          go_ret
          exact ⟨rfl, (Kept.refl _ _).alloc _⟩
      · rw [decide_eq_false h3, Bool.false_and]
        have H3 : Hid (∀ w, Calls Try.prog 72 #[.int .i64 locks, .int .i64 0, .int .i64 64] w fun e w' => e = .returned (.bool false) ∧ w = w') := fun w => by have := HI.out (locks) (0) (64) w; rwa [decide_eq_false h3] at this
        clear h1 h2 h3
        go_enter Try.func48, Try.ntmps48
        go_wp2_with fail
        refine (H1.out _).mono ?_
        rintro e w1 ⟨rfl, rfl⟩
        go_wp2_with fail
        refine (H2.out _).mono ?_
        rintro e w1 ⟨rfl, rfl⟩
        go_wp2_with fail
        refine (H3.out _).mono ?_
        rintro e w1 ⟨rfl, rfl⟩
        go_wp2_with fail
        go_ret
        exact ⟨rfl, (Kept.refl _ _).alloc _⟩
    · rw [decide_eq_false h2, Bool.false_and]
      have H2 : Hid (∀ w, Calls Try.prog 72 #[.int .i64 threads, .int .i64 1, .int .i64 64] w fun e w' => e = .returned (.bool false) ∧ w = w') := fun w => by have := HI.out (threads) (1) (64) w; rwa [decide_eq_false h2] at this
      clear h1 h2
      go_enter Try.func48, Try.ntmps48
      go_wp2_with fail
      refine (H1.out _).mono ?_
      rintro e w1 ⟨rfl, rfl⟩
      go_wp2_with fail
      refine (H2.out _).mono ?_
      rintro e w1 ⟨rfl, rfl⟩
      go_wp2_with fail
      go_ret
      exact ⟨rfl, (Kept.refl _ _).alloc _⟩
  · rw [decide_eq_false h1, Bool.false_and]
    have H1 : Hid (∀ w, Calls Try.prog 72 #[.int .i64 cpus, .int .i64 1, .int .i64 64] w fun e w' => e = .returned (.bool false) ∧ w = w') := fun w => by have := HI.out (cpus) (1) (64) w; rwa [decide_eq_false h1] at this
    clear h1
    go_enter Try.func48, Try.ntmps48
    go_wp2_with fail
    refine (H1.out _).mono ?_
    rintro e w1 ⟨rfl, rfl⟩
    go_wp2_with fail
    go_ret
    exact ⟨rfl, (Kept.refl _ _).alloc _⟩

end Go.Proofs.Ytccodklfplfleaa

