/- Law 23: does: a call of the line's and of the document's. -/
import Derived.Test.YtljimcdppeejfaaWaitR3
import Derived.Test.YtljimcdppeejfaaWaitR4
import Derived.Test.YtljimcdppeejfaaWaitOpen
namespace Go.Proofs.Ytljimcdppeejfaa
open Go.RowKit

theorem my_put_far (w0 w : World) (g : Nat) (l : List WO) (last : Nat) (pl lev : Int) (_ : MyLine w0 w g l last) (hp : pl < 0 ∨ 64 ≤ pl) : Calls Try.prog 7 #[.pointer (some ⟨g, 0, none⟩), .int .i64 pl, .int .i64 lev] w fun e w' => e = .returned (.int .i64 5) ∧ Kept [] w w' :=
  put_far (some ⟨g, 0, none⟩) pl lev w (by simp) hp
theorem my_put_there (w0 w : World) (g : Nat) (l : List WO) (last : Nat) (pl lev : Int) (x : WO) (h : MyLine w0 w g l last) (hl : l.length ≤ 1000) (h0 : 0 ≤ pl) (h1 : pl < 64) (hf : findW pl l = some x) :
    Calls Try.prog 7 #[.pointer (some ⟨g, 0, none⟩), .int .i64 pl, .int .i64 lev] w fun e w' => e = .returned (.int .i64 6) ∧ Kept [] w w' := by
  obtain ⟨v, k1, k2, k3, k4⟩ := h
  exact put_there g v l last pl lev x w k1 hl h0 h1 hf
theorem my_move_none (w0 w : World) (g : Nat) (l : List WO) (last : Nat) (pl lev : Int) (h : MyLine w0 w g l last) (hl : l.length ≤ 1000) (hf : findW pl l = none) :
    Calls Try.prog 8 #[.pointer (some ⟨g, 0, none⟩), .int .i64 pl, .int .i64 lev] w fun e w' => e = .returned (.bool false) ∧ Kept [] w w' := by
  obtain ⟨v, k1, k2, k3, k4⟩ := h
  exact move_none g v l last pl lev w k1 hl hf
theorem my_remove_none (w0 w : World) (g : Nat) (l : List WO) (last : Nat) (pl : Int) (h : MyLine w0 w g l last) (hl : l.length ≤ 1000) (hf : findW pl l = none) :
    Calls Try.prog 19 #[.pointer (some ⟨g, 0, none⟩), .int .i64 pl] w fun e w' => e = .returned (.bool false) ∧ Kept [] w w' := by
  obtain ⟨v, k1, k2, k3, k4⟩ := h
  exact remove_none g v l last pl w k1 hl hf
theorem my_pop_none (w0 w : World) (g : Nat) (last : Nat) (h : MyLine w0 w g [] last) : Calls Try.prog 9 #[.pointer (some ⟨g, 0, none⟩)] w fun e w' => e = .returned (.tuple #[.int .i64 0, .bool false]) ∧ w = w' := by
  obtain ⟨v, k1, k2, k3, k4⟩ := h
  exact pop_none g v last w k1
theorem my_best_none (w0 w : World) (g : Nat) (last : Nat) (h : MyLine w0 w g [] last) : Calls Try.prog 16 #[.pointer (some ⟨g, 0, none⟩)] w fun e w' => e = .returned (.tuple #[.int .i64 0, .bool false]) ∧ w = w' := by
  obtain ⟨v, k1, k2, k3, k4⟩ := h
  exact best_none g v last w k1
theorem my_best_some (w0 w : World) (g : Nat) (x : WO) (t : List WO) (last : Nat) (h : MyLine w0 w g (x :: t) last) : Calls Try.prog 16 #[.pointer (some ⟨g, 0, none⟩)] w fun e w' => e = .returned (.tuple #[.int .i64 x.p, .bool true]) ∧ w = w' := by
  obtain ⟨v, k1, k2, k3, k4⟩ := h
  exact best_some g v x t last w k1
theorem my_level_some (w0 w : World) (g : Nat) (l : List WO) (last : Nat) (pl : Int) (x : WO) (h : MyLine w0 w g l last) (hl : l.length ≤ 1000) (hf : findW pl l = some x) :
    Calls Try.prog 17 #[.pointer (some ⟨g, 0, none⟩), .int .i64 pl] w fun e w' => e = .returned (.tuple #[.int .i64 x.l, .bool true]) ∧ Kept [] w w' := by
  obtain ⟨v, k1, k2, k3, k4⟩ := h
  exact level_some g v l last pl x w k1 hl hf
theorem my_level_none (w0 w : World) (g : Nat) (l : List WO) (last : Nat) (pl : Int) (h : MyLine w0 w g l last) (hl : l.length ≤ 1000) (hf : findW pl l = none) :
    Calls Try.prog 17 #[.pointer (some ⟨g, 0, none⟩), .int .i64 pl] w fun e w' => e = .returned (.tuple #[.int .i64 8, .bool false]) ∧ Kept [] w w' := by
  obtain ⟨v, k1, k2, k3, k4⟩ := h
  exact level_none g v l last pl w k1 hl hf
theorem my_all (w0 w : World) (g : Nat) (l : List WO) (last : Nat) (h : MyLine w0 w g l last) (hl : l.length ≤ 1000) :
    Calls Try.prog 15 #[.pointer (some ⟨g, 0, none⟩)] w fun e w' => ∃ A n c, e = .returned (.slice A n c) ∧ FreshI w w' (l.map WO.p) A n c := by
  obtain ⟨v, k1, k2, k3, k4⟩ := h
  exact all_any g v l last w k1 hl

/-- What does leaves: the line and the document's row go on together. -/
def Does (w0 : World) (g : Nat) (last : Nat) (e : Ending) (w' : World) : Prop :=
  ∃ (v' : Value) (L' M' : List WO) (last' : Nat), e = .returned (.tuple #[v', .bool true]) ∧ MyLine w0 w' g L' last' ∧ RRow w' v' M' ∧ Inv L' M' last' ∧ M'.length ≤ last' ∧ last' ≤ last + 1
theorem remI {k r : Nat} (h : k % 5 = r) (q : Nat) : (((k : Int) % 5) == (q : Int)) = decide (r = q) := by
  rw [Bool.eq_iff_iff]
  simp
  omega
theorem eraseP_head {x : WO} {t : List WO} : (x :: t).eraseP (isP x.p) = t := by
  rw [List.eraseP_cons_of_pos]; simp [isP]

set_option maxHeartbeats 3200000 in
set_option maxRecDepth 100000 in
theorem does_put_far (w0 w : World) (g : Nat) (L M : List WO) (last : Nat) (v : Value) (k : Nat) (pl lev : Int) (hL : MyLine w0 w g L last) (hR : RRow w v M) (hI : Inv L M last) (hm : M.length ≤ last) (hla : last ≤ 900) (hk8 : k < 256) (hk : k % 5 = 0 ∨ k % 5 = 1) (hp : pl < 0 ∨ (0 ≤ pl ∧ 64 ≤ pl)) :
    Calls Try.prog 12 #[.pointer (some ⟨g, 0, none⟩), v, .agg #[.int .u8 k, .int .i64 pl, .int .i64 lev]] w (Does w0 g last) := by
  have hLl : (L : List WO).length ≤ 1000 := by rw [hI.len]; omega
  have hMl : M.length ≤ 1000 := by omega
  have HB := Lib.hid (Blk.new w 30 #[.int .u8 k, .int .i64 pl, .int .i64 lev])
  have HL := Lib.hid (hL.old ((Kept.refl [] w).alloc (.cells #[.int .u8 k, .int .i64 pl, .int .i64 lev] 30)))
  have HR := Lib.hid (hR.old ((Kept.refl [] w).alloc (.cells #[.int .u8 k, .int .i64 pl, .int .i64 lev] 30)))
  have hc0 : (w.alloc (.cells #[.int .u8 k, .int .i64 pl, .int .i64 lev] 30)).cell? ⟨w.heap.size, 0, none⟩ = some (.int .u8 k) := by rw [HB.out.cell]; rfl
  have hc1 : (w.alloc (.cells #[.int .u8 k, .int .i64 pl, .int .i64 lev] 30)).cell? ⟨w.heap.size, 1, none⟩ = some (.int .i64 pl) := by rw [HB.out.cell]; rfl
  have hc2 : (w.alloc (.cells #[.int .u8 k, .int .i64 pl, .int .i64 lev] 30)).cell? ⟨w.heap.size, 2, none⟩ = some (.int .i64 lev) := by rw [HB.out.cell]; rfl
  have HI := Lib.hid hI
  have HM := Lib.hid hm
  clear hL hR hI hm
  have hk0 : (0 : Int) ≤ (k : Int) := by omega
  have hk9 : (k : Int) < 256 := by omega
  rcases hk with hk | hk
  · have b0 : (((k : Int) % 5) == 0) = true := beq_iff_eq.2 (by omega)
    clear hk hk8
    go_enter Try.func12, Try.ntmps12
    go_wp2_with fail
    refine (refPut_far v pl lev _ hp).mono ?_
    rintro e w1 ⟨rfl, rfl⟩
    go_wp2_with fail
    refine (my_put_far w0 _ g L last pl lev HL.out (by omega)).mono ?_
    rintro e w2 ⟨rfl, hk2⟩
    have HL2 := Lib.hid (HL.out.old hk2)
    have HR2 := Lib.hid (HR.out.old hk2)
    clear hk2
    go_wp2_with fail
    go_ret2
    exact ⟨_, _, _, _, rfl, HL2.out, HR2.out, HI.out, HM.out, by omega⟩
  · have b0 : (((k : Int) % 5) == 0) = false := beq_eq_false_iff_ne.2 (by omega)
    have b1 : (((k : Int) % 5) == 1) = true := beq_iff_eq.2 (by omega)
    clear hk hk8
    go_enter Try.func12, Try.ntmps12
    go_wp2_with fail
    refine (refPut_far v pl lev _ hp).mono ?_
    rintro e w1 ⟨rfl, rfl⟩
    go_wp2_with fail
    refine (my_put_far w0 _ g L last pl lev HL.out (by omega)).mono ?_
    rintro e w2 ⟨rfl, hk2⟩
    have HL2 := Lib.hid (HL.out.old hk2)
    have HR2 := Lib.hid (HR.out.old hk2)
    clear hk2
    go_wp2_with fail
    go_ret2
    exact ⟨_, _, _, _, rfl, HL2.out, HR2.out, HI.out, HM.out, by omega⟩

set_option maxHeartbeats 3200000 in
set_option maxRecDepth 100000 in
theorem does_put_full (w0 w : World) (g : Nat) (L M : List WO) (x : WO) (last : Nat) (v : Value) (k : Nat) (pl lev : Int) (hL : MyLine w0 w g L last) (hR : RRow w v M) (hI : Inv L M last) (hm : M.length ≤ last) (hla : last ≤ 900) (hk8 : k < 256) (hk : k % 5 = 0 ∨ k % 5 = 1) (h0 : 0 ≤ pl) (h1 : pl < 64) (hf : M.find? (isP pl) = some x) :
    Calls Try.prog 12 #[.pointer (some ⟨g, 0, none⟩), v, .agg #[.int .u8 k, .int .i64 pl, .int .i64 lev]] w (Does w0 g last) := by
  have HF := Lib.hid hf
  clear hf
  have hLl : (L : List WO).length ≤ 1000 := by rw [hI.len]; omega
  have hMl : M.length ≤ 1000 := by omega
  have HB := Lib.hid (Blk.new w 30 #[.int .u8 k, .int .i64 pl, .int .i64 lev])
  have HL := Lib.hid (hL.old ((Kept.refl [] w).alloc (.cells #[.int .u8 k, .int .i64 pl, .int .i64 lev] 30)))
  have HR := Lib.hid (hR.old ((Kept.refl [] w).alloc (.cells #[.int .u8 k, .int .i64 pl, .int .i64 lev] 30)))
  have hc0 : (w.alloc (.cells #[.int .u8 k, .int .i64 pl, .int .i64 lev] 30)).cell? ⟨w.heap.size, 0, none⟩ = some (.int .u8 k) := by rw [HB.out.cell]; rfl
  have hc1 : (w.alloc (.cells #[.int .u8 k, .int .i64 pl, .int .i64 lev] 30)).cell? ⟨w.heap.size, 1, none⟩ = some (.int .i64 pl) := by rw [HB.out.cell]; rfl
  have hc2 : (w.alloc (.cells #[.int .u8 k, .int .i64 pl, .int .i64 lev] 30)).cell? ⟨w.heap.size, 2, none⟩ = some (.int .i64 lev) := by rw [HB.out.cell]; rfl
  have HI := Lib.hid hI
  have HM := Lib.hid hm
  clear hL hR hI hm
  have hk0 : (0 : Int) ≤ (k : Int) := by omega
  have hk9 : (k : Int) < 256 := by omega
  rcases hk with hk | hk
  · have b0 : (((k : Int) % 5) == 0) = true := beq_iff_eq.2 (by omega)
    clear hk hk8
    go_enter Try.func12, Try.ntmps12
    go_wp2_with fail
    refine (refPut_full v M pl lev x _ HR.out hMl h0 h1 HF.out).mono ?_
    rintro e w1 ⟨rfl, rfl⟩
    go_wp2_with fail
    refine (my_put_there w0 _ g L last pl lev x HL.out hLl h0 h1 (by rw [findW, HI.out.find]; exact HF.out)).mono ?_
    rintro e w2 ⟨rfl, hk2⟩
    have HL2 := Lib.hid (HL.out.old hk2)
    have HR2 := Lib.hid (HR.out.old hk2)
    clear hk2
    go_wp2_with fail
    go_ret2
    exact ⟨_, _, _, _, rfl, HL2.out, HR2.out, HI.out, HM.out, by omega⟩
  · have b0 : (((k : Int) % 5) == 0) = false := beq_eq_false_iff_ne.2 (by omega)
    have b1 : (((k : Int) % 5) == 1) = true := beq_iff_eq.2 (by omega)
    clear hk hk8
    go_enter Try.func12, Try.ntmps12
    go_wp2_with fail
    refine (refPut_full v M pl lev x _ HR.out hMl h0 h1 HF.out).mono ?_
    rintro e w1 ⟨rfl, rfl⟩
    go_wp2_with fail
    refine (my_put_there w0 _ g L last pl lev x HL.out hLl h0 h1 (by rw [findW, HI.out.find]; exact HF.out)).mono ?_
    rintro e w2 ⟨rfl, hk2⟩
    have HL2 := Lib.hid (HL.out.old hk2)
    have HR2 := Lib.hid (HR.out.old hk2)
    clear hk2
    go_wp2_with fail
    go_ret2
    exact ⟨_, _, _, _, rfl, HL2.out, HR2.out, HI.out, HM.out, by omega⟩

set_option maxHeartbeats 3200000 in
set_option maxRecDepth 100000 in
theorem does_put_new (w0 w : World) (g : Nat) (L M : List WO) (last : Nat) (v : Value) (k : Nat) (pl lev : Int) (hL : MyLine w0 w g L last) (hR : RRow w v M) (hI : Inv L M last) (hm : M.length ≤ last) (hla : last ≤ 900) (hk8 : k < 256) (hk : k % 5 = 0 ∨ k % 5 = 1) (h0 : 0 ≤ pl) (h1 : pl < 64) (hf : M.find? (isP pl) = none) :
    Calls Try.prog 12 #[.pointer (some ⟨g, 0, none⟩), v, .agg #[.int .u8 k, .int .i64 pl, .int .i64 lev]] w (Does w0 g last) := by
  have HF := Lib.hid hf
  clear hf
  have hLl : (L : List WO).length ≤ 1000 := by rw [hI.len]; omega
  have hMl : M.length ≤ 1000 := by omega
  have HB := Lib.hid (Blk.new w 30 #[.int .u8 k, .int .i64 pl, .int .i64 lev])
  have HL := Lib.hid (hL.old ((Kept.refl [] w).alloc (.cells #[.int .u8 k, .int .i64 pl, .int .i64 lev] 30)))
  have HR := Lib.hid (hR.old ((Kept.refl [] w).alloc (.cells #[.int .u8 k, .int .i64 pl, .int .i64 lev] 30)))
  have hc0 : (w.alloc (.cells #[.int .u8 k, .int .i64 pl, .int .i64 lev] 30)).cell? ⟨w.heap.size, 0, none⟩ = some (.int .u8 k) := by rw [HB.out.cell]; rfl
  have hc1 : (w.alloc (.cells #[.int .u8 k, .int .i64 pl, .int .i64 lev] 30)).cell? ⟨w.heap.size, 1, none⟩ = some (.int .i64 pl) := by rw [HB.out.cell]; rfl
  have hc2 : (w.alloc (.cells #[.int .u8 k, .int .i64 pl, .int .i64 lev] 30)).cell? ⟨w.heap.size, 2, none⟩ = some (.int .i64 lev) := by rw [HB.out.cell]; rfl
  have HI := Lib.hid hI
  have HM := Lib.hid hm
  clear hL hR hI hm
  have hk0 : (0 : Int) ≤ (k : Int) := by omega
  have hk9 : (k : Int) < 256 := by omega
  rcases hk with hk | hk
  · have b0 : (((k : Int) % 5) == 0) = true := beq_iff_eq.2 (by omega)
    clear hk hk8
    go_enter Try.func12, Try.ntmps12
    go_wp2_with fail
    refine (refPut_new v M pl lev (last + 1) _ HR.out hMl h0 h1 HF.out).mono ?_
    rintro e w1 ⟨v1, rfl, hr1, hk1⟩
    have HR1 := Lib.hid hr1
    have HL1 := Lib.hid (HL.out.old hk1)
    have HB1 := Lib.hid (HB.out.kept hk1 (by simp))
    have hc11 : w1.cell? ⟨w.heap.size, 1, none⟩ = some (.int .i64 pl) := by rw [HB1.out.cell]; rfl
    have hc12 : w1.cell? ⟨w.heap.size, 2, none⟩ = some (.int .i64 lev) := by rw [HB1.out.cell]; rfl
    clear hr1 hk1 hc1 hc2
    go_wp2_with fail
    refine (my_put w0 _ g L last pl lev HL1.out hLl (by omega) h0 h1 (by rw [findW, HI.out.find]; exact HF.out)).mono ?_
    rintro e w2 ⟨rfl, hl2, ho2⟩
    have HL2 := Lib.hid hl2
    have HR2 := Lib.hid (HR1.out.others ho2)
    clear hl2 ho2
    go_wp2_with fail
    go_ret2
    exact ⟨_, _, _, _, rfl, HL2.out, HR2.out, HI.out.put HF.out (holdL_lo lev) (holdL_hi lev), by have := HM.out; simp; omega, Nat.le_refl _⟩
  · have b0 : (((k : Int) % 5) == 0) = false := beq_eq_false_iff_ne.2 (by omega)
    have b1 : (((k : Int) % 5) == 1) = true := beq_iff_eq.2 (by omega)
    clear hk hk8
    go_enter Try.func12, Try.ntmps12
    go_wp2_with fail
    refine (refPut_new v M pl lev (last + 1) _ HR.out hMl h0 h1 HF.out).mono ?_
    rintro e w1 ⟨v1, rfl, hr1, hk1⟩
    have HR1 := Lib.hid hr1
    have HL1 := Lib.hid (HL.out.old hk1)
    have HB1 := Lib.hid (HB.out.kept hk1 (by simp))
    have hc11 : w1.cell? ⟨w.heap.size, 1, none⟩ = some (.int .i64 pl) := by rw [HB1.out.cell]; rfl
    have hc12 : w1.cell? ⟨w.heap.size, 2, none⟩ = some (.int .i64 lev) := by rw [HB1.out.cell]; rfl
    clear hr1 hk1 hc1 hc2
    go_wp2_with fail
    refine (my_put w0 _ g L last pl lev HL1.out hLl (by omega) h0 h1 (by rw [findW, HI.out.find]; exact HF.out)).mono ?_
    rintro e w2 ⟨rfl, hl2, ho2⟩
    have HL2 := Lib.hid hl2
    have HR2 := Lib.hid (HR1.out.others ho2)
    clear hl2 ho2
    go_wp2_with fail
    go_ret2
    exact ⟨_, _, _, _, rfl, HL2.out, HR2.out, HI.out.put HF.out (holdL_lo lev) (holdL_hi lev), by have := HM.out; simp; omega, Nat.le_refl _⟩

set_option maxHeartbeats 3200000 in
set_option maxRecDepth 100000 in
theorem does_move_none (w0 w : World) (g : Nat) (L M : List WO) (last : Nat) (v : Value) (k : Nat) (pl lev : Int) (hL : MyLine w0 w g L last) (hR : RRow w v M) (hI : Inv L M last) (hm : M.length ≤ last) (hla : last ≤ 900) (hk8 : k < 256) (hk : k % 5 = 2) (hf : M.find? (isP pl) = none) :
    Calls Try.prog 12 #[.pointer (some ⟨g, 0, none⟩), v, .agg #[.int .u8 k, .int .i64 pl, .int .i64 lev]] w (Does w0 g last) := by
  have HF := Lib.hid hf
  clear hf
  have hLl : (L : List WO).length ≤ 1000 := by rw [hI.len]; omega
  have hMl : M.length ≤ 1000 := by omega
  have HB := Lib.hid (Blk.new w 30 #[.int .u8 k, .int .i64 pl, .int .i64 lev])
  have HL := Lib.hid (hL.old ((Kept.refl [] w).alloc (.cells #[.int .u8 k, .int .i64 pl, .int .i64 lev] 30)))
  have HR := Lib.hid (hR.old ((Kept.refl [] w).alloc (.cells #[.int .u8 k, .int .i64 pl, .int .i64 lev] 30)))
  have hc0 : (w.alloc (.cells #[.int .u8 k, .int .i64 pl, .int .i64 lev] 30)).cell? ⟨w.heap.size, 0, none⟩ = some (.int .u8 k) := by rw [HB.out.cell]; rfl
  have hc1 : (w.alloc (.cells #[.int .u8 k, .int .i64 pl, .int .i64 lev] 30)).cell? ⟨w.heap.size, 1, none⟩ = some (.int .i64 pl) := by rw [HB.out.cell]; rfl
  have hc2 : (w.alloc (.cells #[.int .u8 k, .int .i64 pl, .int .i64 lev] 30)).cell? ⟨w.heap.size, 2, none⟩ = some (.int .i64 lev) := by rw [HB.out.cell]; rfl
  have HI := Lib.hid hI
  have HM := Lib.hid hm
  clear hL hR hI hm
  have hk0 : (0 : Int) ≤ (k : Int) := by omega
  have hk9 : (k : Int) < 256 := by omega
  have b0 : (((k : Int) % 5) == 0) = false := beq_eq_false_iff_ne.2 (by omega)
  have b1 : (((k : Int) % 5) == 1) = false := beq_eq_false_iff_ne.2 (by omega)
  have b2 : (((k : Int) % 5) == 2) = true := beq_iff_eq.2 (by omega)
  clear hk hk8
  go_enter Try.func12, Try.ntmps12
  go_wp2_with fail
  refine (refMove_none v M pl lev _ HR.out hMl HF.out).mono ?_
  rintro e w1 ⟨rfl, rfl⟩
  go_wp2_with fail
  refine (my_move_none w0 _ g L last pl lev HL.out hLl (by rw [findW, HI.out.find]; exact HF.out)).mono ?_
  rintro e w2 ⟨rfl, hk2⟩
  have HL2 := Lib.hid (HL.out.old hk2)
  have HR2 := Lib.hid (HR.out.old hk2)
  clear hk2
  go_wp2_with fail
  go_ret2
  exact ⟨_, _, _, _, rfl, HL2.out, HR2.out, HI.out, HM.out, by omega⟩

set_option maxHeartbeats 3200000 in
set_option maxRecDepth 100000 in
theorem does_move_some (w0 w : World) (g : Nat) (L M : List WO) (x : WO) (last : Nat) (v : Value) (k : Nat) (pl lev : Int) (hL : MyLine w0 w g L last) (hR : RRow w v M) (hI : Inv L M last) (hm : M.length ≤ last) (hla : last ≤ 900) (hk8 : k < 256) (hk : k % 5 = 2) (hf : M.find? (isP pl) = some x) :
    Calls Try.prog 12 #[.pointer (some ⟨g, 0, none⟩), v, .agg #[.int .u8 k, .int .i64 pl, .int .i64 lev]] w (Does w0 g last) := by
  have HF := Lib.hid hf
  clear hf
  have hLl : (L : List WO).length ≤ 1000 := by rw [hI.len]; omega
  have hMl : M.length ≤ 1000 := by omega
  have HB := Lib.hid (Blk.new w 30 #[.int .u8 k, .int .i64 pl, .int .i64 lev])
  have HL := Lib.hid (hL.old ((Kept.refl [] w).alloc (.cells #[.int .u8 k, .int .i64 pl, .int .i64 lev] 30)))
  have HR := Lib.hid (hR.old ((Kept.refl [] w).alloc (.cells #[.int .u8 k, .int .i64 pl, .int .i64 lev] 30)))
  have hc0 : (w.alloc (.cells #[.int .u8 k, .int .i64 pl, .int .i64 lev] 30)).cell? ⟨w.heap.size, 0, none⟩ = some (.int .u8 k) := by rw [HB.out.cell]; rfl
  have hc1 : (w.alloc (.cells #[.int .u8 k, .int .i64 pl, .int .i64 lev] 30)).cell? ⟨w.heap.size, 1, none⟩ = some (.int .i64 pl) := by rw [HB.out.cell]; rfl
  have hc2 : (w.alloc (.cells #[.int .u8 k, .int .i64 pl, .int .i64 lev] 30)).cell? ⟨w.heap.size, 2, none⟩ = some (.int .i64 lev) := by rw [HB.out.cell]; rfl
  have HI := Lib.hid hI
  have HM := Lib.hid hm
  clear hL hR hI hm
  have hk0 : (0 : Int) ≤ (k : Int) := by omega
  have hk9 : (k : Int) < 256 := by omega
  have b0 : (((k : Int) % 5) == 0) = false := beq_eq_false_iff_ne.2 (by omega)
  have b1 : (((k : Int) % 5) == 1) = false := beq_eq_false_iff_ne.2 (by omega)
  have b2 : (((k : Int) % 5) == 2) = true := beq_iff_eq.2 (by omega)
  clear hk hk8
  go_enter Try.func12, Try.ntmps12
  go_wp2_with fail
  refine (refMove_some v M pl lev x _ HR.out hMl HI.out.places HF.out).mono ?_
  rintro e w1 ⟨v1, rfl, hr1, hk1⟩
  have HR1 := Lib.hid hr1
  have HL1 := Lib.hid (HL.out.old hk1)
  have HB1 := Lib.hid (HB.out.kept hk1 (by simp))
  have hc11 : w1.cell? ⟨w.heap.size, 1, none⟩ = some (.int .i64 pl) := by rw [HB1.out.cell]; rfl
  have hc12 : w1.cell? ⟨w.heap.size, 2, none⟩ = some (.int .i64 lev) := by rw [HB1.out.cell]; rfl
  clear hr1 hk1 hc1 hc2
  go_wp2_with fail
  refine (my_move w0 _ g L last pl lev x HL1.out hLl (by rw [findW, HI.out.find]; exact HF.out)).mono ?_
  rintro e w2 ⟨rfl, hl2, ho2⟩
  have HL2 := Lib.hid hl2
  have HR2 := Lib.hid (HR1.out.others ho2)
  clear hl2 ho2
  go_wp2_with fail
  go_ret2
  exact ⟨_, _, _, _, rfl, HL2.out, HR2.out, HI.out.move (by rw [HI.out.find]; exact HF.out) (holdL_lo lev) (holdL_hi lev), by have := HM.out; simpa using this, by omega⟩

set_option maxHeartbeats 3200000 in
set_option maxRecDepth 100000 in
theorem does_remove_none (w0 w : World) (g : Nat) (L M : List WO) (last : Nat) (v : Value) (k : Nat) (pl lev : Int) (hL : MyLine w0 w g L last) (hR : RRow w v M) (hI : Inv L M last) (hm : M.length ≤ last) (hla : last ≤ 900) (hk8 : k < 256) (hk : k % 5 = 3) (hf : M.find? (isP pl) = none) :
    Calls Try.prog 12 #[.pointer (some ⟨g, 0, none⟩), v, .agg #[.int .u8 k, .int .i64 pl, .int .i64 lev]] w (Does w0 g last) := by
  have HF := Lib.hid hf
  clear hf
  have hLl : (L : List WO).length ≤ 1000 := by rw [hI.len]; omega
  have hMl : M.length ≤ 1000 := by omega
  have HB := Lib.hid (Blk.new w 30 #[.int .u8 k, .int .i64 pl, .int .i64 lev])
  have HL := Lib.hid (hL.old ((Kept.refl [] w).alloc (.cells #[.int .u8 k, .int .i64 pl, .int .i64 lev] 30)))
  have HR := Lib.hid (hR.old ((Kept.refl [] w).alloc (.cells #[.int .u8 k, .int .i64 pl, .int .i64 lev] 30)))
  have hc0 : (w.alloc (.cells #[.int .u8 k, .int .i64 pl, .int .i64 lev] 30)).cell? ⟨w.heap.size, 0, none⟩ = some (.int .u8 k) := by rw [HB.out.cell]; rfl
  have hc1 : (w.alloc (.cells #[.int .u8 k, .int .i64 pl, .int .i64 lev] 30)).cell? ⟨w.heap.size, 1, none⟩ = some (.int .i64 pl) := by rw [HB.out.cell]; rfl
  have hc2 : (w.alloc (.cells #[.int .u8 k, .int .i64 pl, .int .i64 lev] 30)).cell? ⟨w.heap.size, 2, none⟩ = some (.int .i64 lev) := by rw [HB.out.cell]; rfl
  have HI := Lib.hid hI
  have HM := Lib.hid hm
  clear hL hR hI hm
  have hk0 : (0 : Int) ≤ (k : Int) := by omega
  have hk9 : (k : Int) < 256 := by omega
  have b0 : (((k : Int) % 5) == 0) = false := beq_eq_false_iff_ne.2 (by omega)
  have b1 : (((k : Int) % 5) == 1) = false := beq_eq_false_iff_ne.2 (by omega)
  have b2 : (((k : Int) % 5) == 2) = false := beq_eq_false_iff_ne.2 (by omega)
  have b3 : (((k : Int) % 5) == 3) = true := beq_iff_eq.2 (by omega)
  clear hk hk8
  go_enter Try.func12, Try.ntmps12
  go_wp2_with fail
  refine (refRemove_none v M pl _ HR.out hMl HF.out).mono ?_
  rintro e w1 ⟨rfl, rfl⟩
  go_wp2_with fail
  refine (my_remove_none w0 _ g L last pl HL.out hLl (by rw [findW, HI.out.find]; exact HF.out)).mono ?_
  rintro e w2 ⟨rfl, hk2⟩
  have HL2 := Lib.hid (HL.out.old hk2)
  have HR2 := Lib.hid (HR.out.old hk2)
  clear hk2
  go_wp2_with fail
  go_ret2
  exact ⟨_, _, _, _, rfl, HL2.out, HR2.out, HI.out, HM.out, by omega⟩

set_option maxHeartbeats 3200000 in
set_option maxRecDepth 100000 in
theorem does_remove_some (w0 w : World) (g : Nat) (L M : List WO) (x : WO) (last : Nat) (v : Value) (k : Nat) (pl lev : Int) (hL : MyLine w0 w g L last) (hR : RRow w v M) (hI : Inv L M last) (hm : M.length ≤ last) (hla : last ≤ 900) (hk8 : k < 256) (hk : k % 5 = 3) (hf : M.find? (isP pl) = some x) :
    Calls Try.prog 12 #[.pointer (some ⟨g, 0, none⟩), v, .agg #[.int .u8 k, .int .i64 pl, .int .i64 lev]] w (Does w0 g last) := by
  have HF := Lib.hid hf
  clear hf
  have hLl : (L : List WO).length ≤ 1000 := by rw [hI.len]; omega
  have hMl : M.length ≤ 1000 := by omega
  have HB := Lib.hid (Blk.new w 30 #[.int .u8 k, .int .i64 pl, .int .i64 lev])
  have HL := Lib.hid (hL.old ((Kept.refl [] w).alloc (.cells #[.int .u8 k, .int .i64 pl, .int .i64 lev] 30)))
  have HR := Lib.hid (hR.old ((Kept.refl [] w).alloc (.cells #[.int .u8 k, .int .i64 pl, .int .i64 lev] 30)))
  have hc0 : (w.alloc (.cells #[.int .u8 k, .int .i64 pl, .int .i64 lev] 30)).cell? ⟨w.heap.size, 0, none⟩ = some (.int .u8 k) := by rw [HB.out.cell]; rfl
  have hc1 : (w.alloc (.cells #[.int .u8 k, .int .i64 pl, .int .i64 lev] 30)).cell? ⟨w.heap.size, 1, none⟩ = some (.int .i64 pl) := by rw [HB.out.cell]; rfl
  have hc2 : (w.alloc (.cells #[.int .u8 k, .int .i64 pl, .int .i64 lev] 30)).cell? ⟨w.heap.size, 2, none⟩ = some (.int .i64 lev) := by rw [HB.out.cell]; rfl
  have HI := Lib.hid hI
  have HM := Lib.hid hm
  clear hL hR hI hm
  have hk0 : (0 : Int) ≤ (k : Int) := by omega
  have hk9 : (k : Int) < 256 := by omega
  have b0 : (((k : Int) % 5) == 0) = false := beq_eq_false_iff_ne.2 (by omega)
  have b1 : (((k : Int) % 5) == 1) = false := beq_eq_false_iff_ne.2 (by omega)
  have b2 : (((k : Int) % 5) == 2) = false := beq_eq_false_iff_ne.2 (by omega)
  have b3 : (((k : Int) % 5) == 3) = true := beq_iff_eq.2 (by omega)
  clear hk hk8
  go_enter Try.func12, Try.ntmps12
  go_wp2_with fail
  refine (refRemove_some v M pl x _ HR.out hMl HF.out).mono ?_
  rintro e w1 ⟨v1, rfl, hr1, hk1⟩
  have HR1 := Lib.hid hr1
  have HL1 := Lib.hid (HL.out.old hk1)
  have HB1 := Lib.hid (HB.out.kept hk1 (by simp))
  have hc11 : w1.cell? ⟨w.heap.size, 1, none⟩ = some (.int .i64 pl) := by rw [HB1.out.cell]; rfl
  have hc12 : w1.cell? ⟨w.heap.size, 2, none⟩ = some (.int .i64 lev) := by rw [HB1.out.cell]; rfl
  clear hr1 hk1 hc1 hc2
  go_wp2_with fail
  refine (my_remove w0 _ g L last pl x HL1.out hLl (by rw [findW, HI.out.find]; exact HF.out)).mono ?_
  rintro e w2 ⟨rfl, hl2, ho2⟩
  have HL2 := Lib.hid hl2
  have HR2 := Lib.hid (HR1.out.others ho2)
  clear hl2 ho2
  go_wp2_with fail
  go_ret2
  exact ⟨_, _, _, _, rfl, HL2.out, HR2.out, HI.out.remove pl, Nat.le_trans List.length_eraseP_le HM.out, by omega⟩

set_option maxHeartbeats 3200000 in
set_option maxRecDepth 100000 in
theorem does_pop_none (w0 w : World) (g : Nat) (M : List WO) (last : Nat) (v : Value) (k : Nat) (pl lev : Int) (hL : MyLine w0 w g [] last) (hR : RRow w v M) (hI : Inv [] M last) (hm : M.length ≤ last) (hla : last ≤ 900) (hk8 : k < 256) (hk : k % 5 = 4) :
    Calls Try.prog 12 #[.pointer (some ⟨g, 0, none⟩), v, .agg #[.int .u8 k, .int .i64 pl, .int .i64 lev]] w (Does w0 g last) := by
  have hLl : ([] : List WO).length ≤ 1000 := by rw [hI.len]; omega
  have hMl : M.length ≤ 1000 := by omega
  have HB := Lib.hid (Blk.new w 30 #[.int .u8 k, .int .i64 pl, .int .i64 lev])
  have HL := Lib.hid (hL.old ((Kept.refl [] w).alloc (.cells #[.int .u8 k, .int .i64 pl, .int .i64 lev] 30)))
  have HR := Lib.hid (hR.old ((Kept.refl [] w).alloc (.cells #[.int .u8 k, .int .i64 pl, .int .i64 lev] 30)))
  have hc0 : (w.alloc (.cells #[.int .u8 k, .int .i64 pl, .int .i64 lev] 30)).cell? ⟨w.heap.size, 0, none⟩ = some (.int .u8 k) := by rw [HB.out.cell]; rfl
  have hc1 : (w.alloc (.cells #[.int .u8 k, .int .i64 pl, .int .i64 lev] 30)).cell? ⟨w.heap.size, 1, none⟩ = some (.int .i64 pl) := by rw [HB.out.cell]; rfl
  have hc2 : (w.alloc (.cells #[.int .u8 k, .int .i64 pl, .int .i64 lev] 30)).cell? ⟨w.heap.size, 2, none⟩ = some (.int .i64 lev) := by rw [HB.out.cell]; rfl
  have HI := Lib.hid hI
  have HM := Lib.hid hm
  clear hL hR hI hm
  have hk0 : (0 : Int) ≤ (k : Int) := by omega
  have hk9 : (k : Int) < 256 := by omega
  have b0 : (((k : Int) % 5) == 0) = false := beq_eq_false_iff_ne.2 (by omega)
  have b1 : (((k : Int) % 5) == 1) = false := beq_eq_false_iff_ne.2 (by omega)
  have b2 : (((k : Int) % 5) == 2) = false := beq_eq_false_iff_ne.2 (by omega)
  have b3 : (((k : Int) % 5) == 3) = false := beq_eq_false_iff_ne.2 (by omega)
  clear hk hk8
  go_enter Try.func12, Try.ntmps12
  go_wp2_with fail
  refine (refAll_any v M _ HR.out hMl).mono ?_
  rintro e w1 ⟨A1, n1, c1, rfl, hf1⟩
  rw [← HI.out.all] at hf1
  obtain rfl : n1 = 0 := hf1.len
  have HL1 := Lib.hid (HL.out.old hf1.2.1)
  have HR1 := Lib.hid (HR.out.old hf1.2.1)
  clear hf1
  go_wp2_with fail
  refine (my_pop_none w0 _ g last HL1.out).mono ?_
  rintro e w2 ⟨rfl, rfl⟩
  go_wp2_with fail
  go_ret2
  exact ⟨_, _, _, _, rfl, HL1.out, HR1.out, HI.out, HM.out, by omega⟩

set_option maxHeartbeats 3200000 in
set_option maxRecDepth 100000 in
theorem does_pop_some (w0 w : World) (g : Nat) (M : List WO) (x : WO) (t : List WO) (last : Nat) (v : Value) (k : Nat) (pl lev : Int) (hL : MyLine w0 w g (x :: t) last) (hR : RRow w v M) (hI : Inv (x :: t) M last) (hm : M.length ≤ last) (hla : last ≤ 900) (hk8 : k < 256) (hk : k % 5 = 4) :
    Calls Try.prog 12 #[.pointer (some ⟨g, 0, none⟩), v, .agg #[.int .u8 k, .int .i64 pl, .int .i64 lev]] w (Does w0 g last) := by
  have hLl : ((x :: t) : List WO).length ≤ 1000 := by rw [hI.len]; omega
  have hMl : M.length ≤ 1000 := by omega
  have HB := Lib.hid (Blk.new w 30 #[.int .u8 k, .int .i64 pl, .int .i64 lev])
  have HL := Lib.hid (hL.old ((Kept.refl [] w).alloc (.cells #[.int .u8 k, .int .i64 pl, .int .i64 lev] 30)))
  have HR := Lib.hid (hR.old ((Kept.refl [] w).alloc (.cells #[.int .u8 k, .int .i64 pl, .int .i64 lev] 30)))
  have hc0 : (w.alloc (.cells #[.int .u8 k, .int .i64 pl, .int .i64 lev] 30)).cell? ⟨w.heap.size, 0, none⟩ = some (.int .u8 k) := by rw [HB.out.cell]; rfl
  have hc1 : (w.alloc (.cells #[.int .u8 k, .int .i64 pl, .int .i64 lev] 30)).cell? ⟨w.heap.size, 1, none⟩ = some (.int .i64 pl) := by rw [HB.out.cell]; rfl
  have hc2 : (w.alloc (.cells #[.int .u8 k, .int .i64 pl, .int .i64 lev] 30)).cell? ⟨w.heap.size, 2, none⟩ = some (.int .i64 lev) := by rw [HB.out.cell]; rfl
  have HI := Lib.hid hI
  have HM := Lib.hid hm
  clear hL hR hI hm
  have hk0 : (0 : Int) ≤ (k : Int) := by omega
  have hk9 : (k : Int) < 256 := by omega
  have b0 : (((k : Int) % 5) == 0) = false := beq_eq_false_iff_ne.2 (by omega)
  have b1 : (((k : Int) % 5) == 1) = false := beq_eq_false_iff_ne.2 (by omega)
  have b2 : (((k : Int) % 5) == 2) = false := beq_eq_false_iff_ne.2 (by omega)
  have b3 : (((k : Int) % 5) == 3) = false := beq_eq_false_iff_ne.2 (by omega)
  clear hk hk8
  go_enter Try.func12, Try.ntmps12
  go_wp2_with fail
  refine (refAll_any v M _ HR.out hMl).mono ?_
  rintro e w1 ⟨A1, n1, c1, rfl, hf1⟩
  rw [← HI.out.all] at hf1
  have hn1 : n1 = (x :: t).length := by rw [hf1.len, List.length_map]
  have hn2 : 0 < n1 := by rw [hn1]; simp
  have HL1 := Lib.hid (HL.out.old hf1.2.1)
  have HR1 := Lib.hid (HR.out.old hf1.2.1)
  obtain ⟨b, o, rfl, hb, _⟩ := hf1.reads.addr hn2 (by omega)
  have HCA : Hid (∀ w2 : World, w2.ownsRow 0 3 1 (.slice (some ⟨b, o, none⟩) n1 c1) n1 (((x :: t).map WO.p).map (Value.int .i64)) → w2.cell? ⟨b, o, none⟩ = some (.int .i64 x.p)) := fun w2 h => by
    obtain ⟨b2, o2, e2, _, h3⟩ := (Reads.of_own h).addr hn2 (by omega)
    injection e2 with e2
    injection e2 with e3 e4
    subst e3 e4
    exact h3 0 _ rfl
  have HO1 := Lib.hid hf1.1
  have d1 : ((n1 : Int) == 0) = false := beq_eq_false_iff_ne.2 (by omega)
  have d2 : (0 : Int) < (n1 : Int) := by omega
  have HFX : Hid (M.find? (isP x.p) = some x) := by
    show _ = _
    rw [← HI.out.find, List.find?_cons_of_pos]; simp [isP]
  have HN1 := Lib.hid hn1
  clear hf1 hn1
  go_wp2_with fail
  refine (my_pop w0 _ g x t last HL1.out hLl).mono ?_
  rintro e w2 ⟨rfl, hl2, ho2⟩
  have HL2 := Lib.hid hl2
  have HR2 := Lib.hid (HR1.out.others ho2)
  have HO2 := Lib.hid (ho2.own HO1.out (by decide) (by decide))
  have hca2 := HCA.out _ HO2.out
  clear hl2 ho2
  go_wp2_with fail
  refine (refRemove_some v M x.p x _ HR2.out hMl HFX.out).mono ?_
  rintro e w3 ⟨v3, rfl, hr3, hk3⟩
  have HR3 := Lib.hid hr3
  have HL3 := Lib.hid (HL2.out.old hk3)
  have hca3 := HCA.out _ (own_kept HO2.out hk3 (by simp))
  clear hr3 hk3 hca2
  go_wp2_with fail
  go_ret2
  refine ⟨_, _, _, _, rfl, HL3.out, HR3.out, ?_, Nat.le_trans List.length_eraseP_le HM.out, by omega⟩
  have := HI.out.remove x.p
  rw [eraseP_head] at this
  exact this

end Go.Proofs.Ytljimcdppeejfaa
