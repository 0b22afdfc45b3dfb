/- Package lock: Drop (a range over a function), walked. -/
import Derived.Test.YtfoeijiejpenpaaGreatDoorLkF
import Derived.Test.YtfoeijiejpenpaaGreatDoorInRound
import Derived.RangeFuncBox
import Derived.Maps.AppendAt
import Derived.BigRegionIn
import Derived.Shelf.RegionOpen
namespace Go.Proofs.YtfoeijiejpenpaaGreatDoor
open Go.RowKit Go.Shelf

attribute [local go_sem] Oper.semAt_some

/-- A hand, in memory. -/
def hL (x : Int × Int) : List Value := [I64 x.1, I64 x.2]
theorem flatMap_hL_len : ∀ l : List (Int × Int), (l.flatMap hL).length = l.length * 2
  | [] => rfl
  | x :: r => by rw [List.flatMap_cons, List.length_append, flatMap_hL_len r, List.length_cons]; simp [hL]; omega

/-- What Drop's variables hold while it passes locks on. -/
structure DSt (w0 : Base) (a2 : LkA) (s2 : Lk) (bx bo : Nat) (pre : List Nat) (W : World) : Prop where
  x : Blk W bx 23 #[.pointer (some ⟨a2.g, 0, none⟩)]
  out : ∃ v, Blk W bo 59 #[v] ∧ W.ownsRow bo 64 2 v pre.length ((handL s2 pre).flatMap hL)
  lk : ∃ a', a'.key = a2.key ∧ LkIs w0 W a' (passAll s2 pre)
  db : HasDb W
/-- A grown world, in which one block that is no cells may have turned. -/
theorem kept_grown {A A' : World} {row : Option Nat} (hg : A.grownBy A' row) : Kept row.toList A A' := (Kept.refl _ A).grown hg (fun k e => .inl (by simp [e]))
theorem LkIs.grown {w0 : Base} {A A' : World} {a : LkA} {s : Lk} {row : Option Nat} {B : Nat} (h : LkIs w0 A a s) (hx : ExJ a) (hJ : ∀ b, a.J = .map (some b) → b < B) (hw : w0.w.heap.size ≤ B) (hg : A.grownBy A' row) (hr : ∀ r, row = some r → B ≤ r ∧ ∃ o : Obj, A.heap[r]? = some o ∧ o.isCells = false) : LkIs w0 A' a s := by
  have hk := kept_grown hg
  refine ⟨⟨h.at_.1, fun p hp => Piece.kept (h.at_.2.1 p hp) hk (fun k hk1 hk2 => ?_), h.at_.2.2⟩, h.new, h.kept.trans' hk (fun k hk' => ?_)⟩
  · have e : row = some k := by simpa using hk2
    obtain ⟨hB, o, ho, hc⟩ := hr k e
    have hh := h.at_.2.1 p hp
    have h2 := hx.piece hp
    cases p with
    | blk g t cs =>
      simp only [Piece.fp, List.mem_singleton] at hk1
      subst hk1
      rw [show A.heap[k]? = _ from hh] at ho; cases ho; cases hc
    | row e' s' v' n' xs' =>
      have h3 : A.ownsRow 0 e' s' v' n' xs' := hh
      have h4 : k ∈ fp v' := hk1
      rcases h3.2 with ⟨rfl, _⟩ | ⟨g, cap, cur, rfl, _, hgb, _⟩
      · simp [fp, Value.ownBlock] at h4
      · simp [fp, Value.ownBlock] at h4
        subst h4
        rw [hgb] at ho; cases ho; cases hc
    | obj g o' =>
      simp only [Piece.fp, List.mem_singleton] at hk1
      subst hk1
      have := hJ k (h2.1 k o' rfl).2
      omega
  · have e : row = some k := by simpa using hk'
    exact .inr (Nat.le_trans hw (hr k e).1)
theorem DSt.own (w0 : Base) (a2 : LkA) (s2 : Lk) (bx bo B : Nat) (hx : ExJ a2) (hJ : ∀ b, a2.J = .map (some b) → b < B) (hw : w0.w.heap.size ≤ B) : OwnFrom B (fun pre W => DSt w0 a2 s2 bx bo pre W) := by
  intro pre A A' row h hg hr
  have far : ∀ {b t cs}, Blk A b t cs → Blk A' b t cs := fun {b t cs} hb => (hg.block b hb.lt (fun e => by
    obtain ⟨_, o, ho, hc⟩ := hr b e.symm
    rw [show A.heap[b]? = _ from hb] at ho; cases ho; cases hc)).trans hb
  obtain ⟨v, hv, hrow⟩ := h.out
  obtain ⟨a', ha', hl⟩ := h.lk
  refine ⟨far h.x, ⟨v, far hv, hrow.kept hg ?_⟩, ⟨a', ha', hl.grown (hx.key ha') (fun b hb => hJ b ((congrArg (fun x => x.2.1) ha').symm.trans hb)) hw hg hr⟩, fun j hj => ?_⟩
  · rcases hrow.2 with ⟨rfl, _⟩ | ⟨g, cap, cur, rfl, _, hgb, _⟩
    · exact .inl rfl
    · refine .inr fun e => ?_
      obtain ⟨_, o, ho, hc⟩ := hr g (by simpa [Value.ownBlock] using e.symm)
      rw [hgb] at ho; cases ho; cases hc
  · refine (kept_grown hg).cell_some (h.db j hj) (fun hm => ?_)
    have e : row = some 0 := by simpa using hm
    obtain ⟨_, o, ho, hc⟩ := hr _ e
    have h3 := h.db j hj
    unfold World.cell? at h3
    simp only [ho] at h3
    cases o <;> simp_all [Obj.isCells]
theorem LkIs.far {w0 : Base} {w w' : World} {a : LkA} {s : Lk} {G : List Nat} (h : LkIs w0 w a s) (hk : Kept G w w') (h1 : ∀ k ∈ G, k ∉ fpL a s) (h2 : ∀ k ∈ G, k ∈ w0.F ∨ w0.w.heap.size ≤ k) : LkIs w0 w' a s :=
  ⟨⟨h.at_.1, fun p hp => Piece.kept (h.at_.2.1 p hp) hk (fun k hk1 hk2 => h1 k hk2 (fpL_mem.2 ⟨p, hp, hk1⟩)), h.at_.2.2⟩, h.new, h.kept.trans' hk h2⟩
theorem keepsFrom_kept2 {B : Nat} {G : List Nat} {W W' : World} (hk : Kept G W W') (hG : ∀ k ∈ G, k < B ∨ ∀ o, W.heap[k]? = some o → o.isCells = true) : KeepsFrom B W W' :=
  ⟨hk.size, fun k o hB hko hc => (hk.block k (lt_of_block hko) (fun hm => by
    rcases hG k hm with h1 | h1
    · omega
    · rw [h1 o hko] at hc; cases hc)).trans hko⟩
theorem cells_blk {W : World} {g : Nat} {t : TypeId} {cs : Array Value} (h : Blk W g t cs) : ∀ o, W.heap[g]? = some o → o.isCells = true := fun o ho => by
  rw [show W.heap[g]? = _ from h] at ho; cases ho; rfl
theorem cells_own {W : World} {base e size n : Nat} {v : Value} {xs : List Value} (h : W.ownsRow base e size v n xs) : ∀ k ∈ fp v, ∀ o, W.heap[k]? = some o → o.isCells = true := fun k hk o ho => by
  rcases h.2 with ⟨rfl, _⟩ | ⟨g, cap, cur, rfl, _, hgb, _⟩
  · simp [fp, Value.ownBlock] at hk
  · simp [fp, Value.ownBlock] at hk
    subst hk
    rw [hgb] at ho; cases ho; rfl
theorem LkAt.cells {W : World} {a : LkA} {s : Lk} (h : LkAt W a s) (hx : ExJ a) {B : Nat} (hJ : ∀ b, a.J = .map (some b) → b < B) : ∀ k ∈ fpL a s, k < B ∨ ∀ o, W.heap[k]? = some o → o.isCells = true := fun k hk => by
  obtain ⟨p, hp, hk'⟩ := fpL_mem.1 hk
  have hh := h.2.1 p hp
  cases p with
  | blk g t cs =>
    simp only [Piece.fp, List.mem_singleton] at hk'
    subst hk'
    exact .inr (cells_blk hh)
  | row e' s' v' n' xs' => exact .inr (cells_own hh k hk')
  | obj g o' =>
    simp only [Piece.fp, List.mem_singleton] at hk'
    subst hk'
    exact .inl (hJ k ((hx.piece hp).1 k o' rfl).2)

set_option maxRecDepth 100000 in
set_option maxHeartbeats 8000000 in
theorem lkDrop_bad {w0 : Base} {w : World} {a : LkA} {s : Lk} {js : List (List Int)} {m : Nat} (h : LkIsJ w0 w a s js m) (t : Int) (ht : ¬ (0 ≤ t ∧ t < s.eff.length)) :
    Calls Tryz.prog 19 #[.pointer (some ⟨a.g, 0, none⟩), .int .i64 t] w fun e w' => e = .returned (.slice none 0 0) ∧ LkIsJ w0 w' a s js m := by
  have HT := Lib.hid (fun W (hk : Kept [] w W) => lkthread_any (h.old hk).is.at_ t)
  have hd : decide (0 ≤ t ∧ t < (s.eff.length : Int)) = false := by simp; omega
  rw [hd] at HT
  have HH := Lib.hid (fun W (hk : Kept [] w W) => h.old hk)
  clear hd ht h
  refine (callsIn_wide (n := 3)).1 ?_
  refine callsIn_of_wp_marks Tryz.func19 rfl trivial ?_ rfl
  simp only [Tryz.ntmps19, List.size_toArray, List.length_cons, List.length_nil, Nat.reduceAdd, Nat.reduceSub, Array.replicate_succ, Array.replicate_zero, List.push_toArray, List.append_toArray, List.nil_append, List.cons_append]
  gi_wp2_with (refine ⟨trivial, ?_⟩; gi_at_call 47; refine (callsIn_wide.2 (HT.out _ ((Kept.refl [] w).alloc _))).mono ?_; rintro e w1 ⟨rfl, rfl⟩)
  exact ⟨_, results_tmp rfl _ _ _, rfl, HH.out _ ((Kept.refl [] w).alloc _)⟩

theorem cancel_same {s : Lk} {K : Nat} (h : LkAll s K) (t : Int) : Same s (cancelS s t) := by
  refine Same.of h.whole (cancel_inv h t).whole ?_ ?_
  · unfold cancelS; split
    · simp [worseS]
    · rfl
  · unfold cancelS; split
    · simp [worseS]
    · rfl
theorem leave_same (s : Lk) (t : Int) : Same s (leaveS s t) := by
  unfold leaveS; split
  · exact ⟨rfl, rfl⟩
  · exact Same.refl s

theorem infoHand : (Tryz.prog.info? 64).map (fun i => (i.zero, i.size, i.bytes)) = some (some (.agg #[.int .i64 0, .int .i64 0]), 2, 16) := by kernel_rfl
theorem LkIsJ.jlt {w0 : Base} {w : World} {a : LkA} {s : Lk} {js : List (List Int)} {m : Nat} (h : LkIsJ w0 w a s js m) : ∀ b, a.J = .map (some b) → b < w.heap.size := fun b hb => by
  obtain ⟨jb, o, vs, hJ, hx, _, _⟩ := h.map_
  rw [hJ] at hb
  cases hb
  have hp : Piece.obj b o ∈ lkP a s := by
    obtain ⟨H, hH, _⟩ := lkP_ex a s
    have := hH a.ex
    rw [show ({ a with ex := a.ex } : LkA) = a from rfl] at this
    rw [this, hx]; simp
  exact lt_of_block (h.is.at_.2.1 _ hp)

set_option maxRecDepth 100000 in
set_option maxHeartbeats 8000000 in
theorem lkDrop_good {w0 : Base} {w : World} {a : LkA} {s : Lk} {js : List (List Int)} {K m : Nat} (h : LkIsJ w0 w a s js m) (hI : LkAll s K) (hJ : JInv s js) (hm : m < 1000000) (hD : HasDb w) (hg : 0 ∉ w0.F) (hgl : 0 < w0.w.heap.size) (k : Nat) (hk : k < s.eff.length) :
    Calls Tryz.prog 19 #[.pointer (some ⟨a.g, 0, none⟩), .int .i64 k] w fun e w' => ∃ A n c, e = .returned (.slice A n c) ∧ (Reads w' 2 A n ((dropL s k).flatMap hL) ∧ ∃ z, w'.ownsRow z 64 2 (.slice A n c) n ((dropL s k).flatMap hL)) ∧ ∃ a', a'.g = a.g ∧ LkIsJ w0 w' a' (dropS s k) (dropJ s js k) (m + 1) := by
  have hdk : 0 ≤ (k : Int) ∧ (k : Int) < s.eff.length := by omega
  unfold dropL dropS dropJ
  rw [if_pos hdk, if_pos hdk, if_pos hdk]
  have HT := Lib.hid (fun W (hk : Kept [] w W) => lkthread_any (h.old hk).is.at_ k)
  have hd : decide (0 ≤ (k : Int) ∧ (k : Int) < (s.eff.length : Int)) = true := by simp; omega
  rw [hd] at HT
  have hI1 := cancel_inv hI k
  have hJ1 := cancel_j hI hJ k
  have hS1 := cancel_same hI k
  have hno := cancel_no hI k
  have hk1 : k < (cancelS s k).eff.length := by rw [hS1.n]; exact hk
  have hl1 : js.length = (cancelS s k).eff.length := by rw [hS1.n]; exact h.len
  obtain ⟨B1, hB1⟩ : ∃ B1, decide ((0 ≤ (k : Int) ∧ (k : Int) < s.eff.length) ∧ (getW s.waits k).1 ≠ -1) = B1 := ⟨_, rfl⟩
  have HCAN : Hid (∀ W, Kept [] w W → HasDb W → Calls Tryz.prog 17 #[.pointer (some ⟨a.g, 0, none⟩), .int .i64 k] W fun e W' => e = .returned (.bool B1) ∧ ∃ a1, a1.g = a.g ∧ LkIsJ w0 W' a1 (cancelS s k) js m ∧ HasDb W' ∧ ∀ g t cs, Blk W g t cs → t ∉ tysL → Blk W' g t cs) := fun W hkW hDW => by
    have hW := h.old hkW
    refine (lkCancel_any hW.is.self hI k).mono ?_
    rintro e W' ⟨rfl, a1, ha1, hl1⟩
    refine ⟨by rw [hB1], a1, congrArg Prod.fst ha1, hW.back (hW.self.step hl1 ha1 hS1.n), hDW.kept hl1.kept (LkAt.db hW.is hg hgl), fun g t cs hb ht => hb.kept hl1.kept (hW.is.at_.no_blk hW.exJ hb ht)⟩
  generalize cancelS s k = s1 at *
  have hdk1 : 0 ≤ (k : Int) ∧ (k : Int) < s1.eff.length := by omega
  have HWT : Hid (∀ W a1, LkIsJ w0 W a1 s1 js m → Calls Tryz.prog 57 #[.pointer (some ⟨a1.gw, 0, none⟩), .int .i64 k] W fun e W' => e = .returned (.tuple #[.int .i64 (-1), .int .i64 (getW s1.waits k).2]) ∧ Kept [] W W') := fun W a1 hl => by
    have := wbWaits_any (hl.is.at_.web hI1.whole) k
    rw [hno] at this
    exact this
  have HG0 : Hid (∀ W (a1 : LkA), LkIsJ w0 W a1 s1 js m → W.cell? ⟨a1.g, 0, none⟩ = some (.pointer (some ⟨a1.gw, 0, none⟩)) ∧ a1.g < W.heap.size) := fun W a1 hl => ⟨hl.is.at_.blk.cell 0, hl.is.at_.blk.lt⟩
  have hI2 := leave_all hI1 k hdk1 hno
  have hJ2 := leave_j hI1 hJ1 hl1 k hdk1
  have hS2 := leave_same s1 k
  have hj64 := hJ1.len hI1.whole.nt
  have HNJ : Hid ((getW s1.waits k).2 = -1 → ∀ W a1, LkIsJ w0 W a1 s1 js m → LkIsJ w0 W a1 (leaveS s1 k) (leaveJ s1 js k) (m + 1)) := fun hu W a1 hl => by
    unfold leaveS leaveJ
    rw [if_neg (by omega), if_neg (by omega)]
    exact hl.more (Nat.le_succ m)
  have hur := hI1.wrng k
  have HPT : Hid ((getW s1.waits k).2 ≠ -1 → ∀ W a1, a1.g = a.g → LkIsJ w0 W a1 s1 js m → HasDb W → Calls Tryz.prog 58 #[.pointer (some ⟨a.g, 0, none⟩), .int .i64 k, .int .i64 (getW s1.waits k).2] W fun e W' => e = .returned (.tuple #[]) ∧ ∃ a2, a2.g = a.g ∧ LkIsJ w0 W' a2 (leaveS s1 k) (leaveJ s1 js k) (m + 1) ∧ HasDb W' ∧ ∀ g t cs, Blk W g t cs → t ∉ tysL → Blk W' g t cs) := fun hu W a1 ha1 hl hDW => by
    obtain ⟨q, hq⟩ : ∃ q : Nat, (getW s1.waits k).2 = q := ⟨(getW s1.waits k).2.toNat, by omega⟩
    unfold leaveS leaveJ
    rw [if_pos hu, if_pos hu, hq]
    simp only [Int.toNat_natCast]
    have hc := lkpart_any hl.self hI1 hm (fun x hx => by have := hj64 x hx; omega) k q hk1 (by omega) hno
    rw [ha1] at hc
    refine hc.mono ?_
    rintro e W' ⟨rfl, a2, ha2, hl2⟩
    exact ⟨rfl, a2, ha2, hl.back hl2, hDW.kept hl2.is.kept (LkAt.db hl.is hg hgl), fun g t cs hb ht => hb.kept hl2.is.kept (hl.is.at_.no_blk hl.exJ hb ht)⟩
  have hk2 : k < (leaveS s1 k).eff.length := by rw [hS2.n]; exact hk1
  generalize leaveS s1 k = st at *
  generalize leaveJ s1 js k = jt at *
  have HIX := Lib.hid (ownN_bits hI2.whole (t := (k : Int)) ⟨by omega, by omega⟩)
  have HMEM : Hid (∀ i, i ∈ bitsL (ownN st k) → i < st.lines.length) := fun i hi => by
    rw [HIX.out] at hi
    exact List.mem_range.1 (List.mem_filter.1 hi).1
  have HXL := Lib.hid (ownN_lt hI2.whole (k : Int))
  have HOWN : Hid (∀ W a1, a1.g = a.g → LkIsJ w0 W a1 st jt (m + 1) → Calls Tryz.prog 35 #[.pointer (some ⟨a.g, 0, none⟩), .int .i64 k] W fun e W' => e = .returned (.int .u64 (ownN st k : Nat)) ∧ W = W') := fun W a1 ha1 hl => by
    have := lkOwned_any hl.is.at_ hI2.whole k
    rw [ha1] at this
    exact this
  have HI2 := Lib.hid hI2
  have HJ2 := Lib.hid hJ2
  generalize ownN st k = X at *
  have HD := Lib.hid hD
  clear hd hdk h hI hJ hB1 hD hk hS1 hdk1 hI2 hJ2 hS2 hI1 hJ1 hl1 hno hj64 hk1 hk2
  generalize (getW s1.waits k).2 = u at *
  by_cases hu : u = -1
  · subst hu
    have HNK := Lib.hid (HNJ.out rfl)
    clear HPT hur HNJ
    refine (callsIn_wide (n := 3)).1 ?_
    refine callsIn_of_wp_marks Tryz.func19 rfl trivial ?_ rfl
    simp only [Tryz.ntmps19, List.size_toArray, List.length_cons, List.length_nil, Nat.reduceAdd, Nat.reduceSub, Array.replicate_succ, Array.replicate_zero, List.push_toArray, List.append_toArray, List.nil_append, List.cons_append]
    gi_wp2_with (first
      | (refine ⟨trivial, ?_⟩; gi_at_call 47; refine (callsIn_wide.2 (HT.out _ ((Kept.refl [] w).alloc _))).mono ?_; rintro e w1 ⟨rfl, rfl⟩)
      | (refine ⟨trivial, ?_⟩; gi_at_call 17; refine (callsIn_wide.2 (HCAN.out _ ((Kept.refl [] w).alloc _) (HD.out.old ((Kept.refl [] w).alloc _)))).mono ?_; rintro e w2 ⟨rfl, at1, ha1, hl1, hd1, hb1⟩; have HL1 := Lib.hid hl1; have HD1 := Lib.hid hd1; have HX1 := Lib.hid (hb1 _ _ _ (Blk.new w 23 #[.pointer (some ⟨a.g, 0, none⟩)]) (by decide)); obtain ⟨hc1, hlt1⟩ := HG0.out _ _ hl1; rw [ha1] at hc1 hlt1; have HA1 := Lib.hid ha1; have hcx1 := HX1.out.cell 0; have hlx1 := HX1.out.lt; clear hl1 hd1 hb1 ha1)
      | (refine ⟨trivial, ?_⟩; gi_at_call 57; refine (callsIn_wide.2 (HWT.out _ _ HL1.out)).mono ?_; rintro e wt ⟨rfl, hk3⟩; have HLT := Lib.hid (HNK.out _ _ (HL1.out.old hk3)); have HDT := Lib.hid (HD1.out.old hk3); have HXT := Lib.hid (HX1.out.kept hk3 (by simp)); have hcx3 := HXT.out.cell 0; have hlx3 := HXT.out.lt; clear hk3)
      | (refine ⟨trivial, ?_⟩; gi_at_call 35; refine (callsIn_wide.2 (HOWN.out _ _ HA1.out (HLT.out.old ((Kept.refl [] wt).alloc _)))).mono ?_; rintro e w5 ⟨rfl, rfl⟩)
      | (refine ⟨trivial, ?_⟩; gi_at_call 59; refine (each_in _ _ _).mono ?_; rintro e w' ⟨rfl, rfl⟩))
    clear HT HCAN HWT HNK HL1 HD1 HX1 HOWN HG0
    (try clear hc1); (try clear hlt1); (try clear hcx1); (try clear hlx1); (try clear hcx3); (try clear hlx3)
    have HX0 : Hid (Blk ((wt.alloc (.cells #[.slice none 0 0] 59)).alloc (.cells #[.int .u64 X] 78)) w.heap.size 23 #[.pointer (some ⟨a.g, 0, none⟩)]) := (HXT.out.alloc _).alloc _
    have HO0 : Hid (Blk ((wt.alloc (.cells #[.slice none 0 0] 59)).alloc (.cells #[.int .u64 X] 78)) wt.heap.size 59 #[.slice none 0 0]) := (Blk.new wt _ _).alloc _
    have HS0 : Hid (Blk ((wt.alloc (.cells #[.slice none 0 0] 59)).alloc (.cells #[.int .u64 X] 78)) (wt.heap.size + 1) 78 #[.int .u64 X]) := Blk.newAt (by simp) _ _
    have HD0 : Hid (HasDb ((wt.alloc (.cells #[.slice none 0 0] 59)).alloc (.cells #[.int .u64 X] 78))) := HDT.out.old (((Kept.refl [] wt).alloc _).alloc _)
    have HL0 : Hid (LkIsJ w0 ((wt.alloc (.cells #[.slice none 0 0] 59)).alloc (.cells #[.int .u64 X] 78)) at1 st jt (m + 1)) := HLT.out.old (((Kept.refl [] wt).alloc _).alloc _)
    have hsz : ((wt.alloc (.cells #[.slice none 0 0] 59)).alloc (.cells #[.int .u64 X] 78)).heap.size = wt.heap.size + 2 := by simp
    generalize ((wt.alloc (.cells #[.slice none 0 0] 59)).alloc (.cells #[.int .u64 X] 78)) = W0 at *
    have HST0 : Hid (DSt w0 at1 st w.heap.size wt.heap.size [] W0) := ⟨by rw [HA1.out]; exact HX0.out, ⟨_, HO0.out, World.ownsRow_nil _ _ _ _⟩, ⟨at1, rfl, HL0.out.is⟩, HD0.out⟩
    have hgW : 0 < W0.heap.size := Nat.lt_of_lt_of_le hgl HL0.out.is.kept.size
    refine wpIn_rangeFunc_ownH rfl (by omega) (gf := 86) (lb := #[.pointer (some ⟨wt.heap.size + 1, 0, none⟩)]) rfl trivial (enters_of Tryz.func86 (by kernel_rfl) rfl)
      (each_stops _ (by omega) (wt.heap.size + 1) X HXL.out W0 (by omega) hgW (HS0.out.cell 0) HD0.out) (fun h1 h2 h => h2 (h1 h)) (fun W q o o' hq ho hc hw hT j hj => ((belowK_b (w := W0) (Nat.le_refl _) W q o o' hq ho hc hw).cell (p := ⟨0, j, none⟩) hgW).trans (hT j hj)) (Below.refl _ _) (fun _ => rfl)
      (fun pre W => DSt w0 at1 st w.heap.size wt.heap.size (pre.map Subtype.val) W) (fun _ _ _ => False)
      (fun pre A A' row h hg hr => DSt.own w0 at1 st w.heap.size wt.heap.size W0.heap.size HL0.out.exJ (HL0.out.jlt) HL0.out.is.kept.size (pre.map Subtype.val) A A' row h hg hr) (fun _ _ _ _ _ hs _ _ => hs) HST0.out
      (fun y a' W => ∃ z5 z6 z15 z16 z20 z22 z23 z24 z25 z26 z27 z28 z29 z30 : Value, a' = ({ tmps := #[.pointer (some ⟨a.g, 0, none⟩), .int .i64 k, .pointer (some ⟨w.heap.size, 0, none⟩), undef, .slice none 0 0, z5, z6, .pointer (some ⟨wt.heap.size, 0, none⟩), .int .i64 (y.1 : Nat), .pointer (some ⟨a.g, 0, none⟩), .int .i64 k, .bool true, .bool false, .pointer (some ⟨a.g, 0, none⟩), .int .i64 k, z15, z16, .pointer (some ⟨a.g, 0, none⟩), .pointer (some ⟨a.g, 0, none⟩), .pointer (some ⟨a.g, 0, none⟩), z20, .int .i64 k, z22, z23, z24, z25, z26, z27, z28, z29, z30, .pointer (some ⟨a.g, 0, none⟩), .int .i64 k, .int .u64 X, .func (.func 86) #[] #[.pointer (some ⟨wt.heap.size + 1, 0, none⟩)], .int .i64 (y.1 : Nat), undef, undef, undef, undef, undef, undef, undef, undef, undef], defers := [] } : Act))
      (fun x a' s A B row hs hg hr => hs) ?assign ?body ?done ?stop
    case assign =>
      rintro lo pre y W K hI hK
      have HKK := Lib.hid hK
      have HI := Lib.hid hI
      clear hI hK
      gi_wp2
      exact HKK.out _ _ (KeepsFrom.refl _ _) (fun h => h) HI.out ⟨_, _, _, _, _, _, _, _, _, _, _, _, _, _, rfl⟩
    case stop => rintro D co pre W hD hr h hK; exact h.elim
    case done =>
      rintro D ys W hD hys hI hK
      obtain ⟨v, hv, hrow⟩ := hI.out
      obtain ⟨A', c', rfl, hnc, hcm⟩ := own_form hrow
      obtain ⟨a3, ha3, hl3⟩ := hI.lk
      have hys2 : ys.map Subtype.val = ownedL st k := hys.trans HIX.out
      rw [hys2] at hrow hl3
      have hown : ∀ q ∈ ownedL st k, q < st.lines.length := fun q hq => List.mem_range.1 (List.mem_filter.1 hq).1
      have hok := passAll_ok HI2.out HJ2.out (ownedL st k) hown
      have hj3 := HL0.out.step hl3 ha3 hok.2.2.n
      have hg3 : a3.g = a.g := (show a3.g = at1.g from congrArg Prod.fst ha3).trans HA1.out
      have hgr := grownBy_putObj' W D (.deferred none)
      have hj4 : LkIsJ w0 (W.putObj D (.deferred none)) a3 (passAll st (ownedL st k)) jt (m + 1) := ⟨hl3.grown (HL0.out.exJ.key ha3) (B := W0.heap.size) (fun b hb => HL0.out.jlt b ((congrArg (fun x => x.2.1) ha3).symm.trans hb)) HL0.out.is.kept.size hgr (fun r e => by cases e; exact ⟨hD, _, hK, rfl⟩), hj3.len, hj3.map_⟩
      have HRES : Hid (∃ A n c, Ending.returned (Value.slice A' (ys.map Subtype.val).length c') = .returned (.slice A n c) ∧ (Reads (W.putObj D (.deferred none)) 2 A n ((handL st (ownedL st k)).flatMap hL) ∧ ∃ z, (W.putObj D (.deferred none)).ownsRow z 64 2 (.slice A n c) n ((handL st (ownedL st k)).flatMap hL)) ∧ ∃ a', a'.g = a.g ∧ LkIsJ w0 (W.putObj D (.deferred none)) a' (passAll st (ownedL st k)) jt (m + 1)) := by
        rw [hys2]
        exact ⟨_, _, _, rfl, ⟨Reads.of_own (ownsRow_putObj hrow _ hK rfl), _, ownsRow_putObj hrow _ hK rfl⟩, a3, hg3, hj4⟩
      have hcv := hv.cell 0
      have hlv := hv.lt
      have HK := Lib.hid hK
      generalize (ys.map Subtype.val).length = yl at *
      clear hv hrow hI ha3 hl3 hys hys2 hown hok hj3 hj4 hgr hg3 hK
      gi_wp2
      refine ⟨by simp, .inl ⟨_, _, rfl, run_takeDeferred HK.out, ?_⟩⟩
      refine ⟨_, results_tmp rfl _ _ _, ?_⟩
      exact HRES.out
    case body =>
      rintro lo pre y a' W hlo hrec hI ⟨z5, z6, z15, z16, z20, z22, z23, z24, z25, z26, z27, z28, z29, z30, rfl⟩ hlen
      obtain ⟨v, hv, hrow⟩ := hI.out
      have hplen : (pre.map Subtype.val).length = pre.length := by simp
      rw [hplen] at hrow
      obtain ⟨A', c', rfl, hnc, hcm⟩ := own_form hrow
      obtain ⟨a3, ha3, hl3⟩ := hI.lk
      have hown : ∀ q ∈ pre.map Subtype.val, q < st.lines.length := fun q hq => by
        obtain ⟨z, _, rfl⟩ := List.mem_map.1 hq
        exact HMEM.out _ z.2
      have hok := passAll_ok HI2.out HJ2.out (pre.map Subtype.val) hown
      have hyl : y.1 < (passAll st (pre.map Subtype.val)).lines.length := by
        rw [hok.2.2.m]
        exact HMEM.out _ y.2
      have hex3 := HL0.out.exJ.key ha3
      have hj3 : ∀ b, a3.J = .map (some b) → b < W0.heap.size := fun b hb => HL0.out.jlt b ((congrArg (fun x => x.2.1) ha3).symm.trans hb)
      have HPASS : Hid (∀ Wx, Kept [] W Wx → Calls Tryz.prog 50 #[.pointer (some ⟨a.g, 0, none⟩), .int .i64 (y.1 : Nat)] Wx fun e W' => e = .returned (.int .i64 (passN (passAll st (pre.map Subtype.val)) y.1)) ∧ ∃ a4, a4.key = at1.key ∧ LkIs w0 W' a4 (passAll st ((pre ++ [y]).map Subtype.val)) ∧ Kept (fpL a3 (passAll st (pre.map Subtype.val))) W W') := fun Wx hWx => by
        have hc := lkpass_any (hl3.old hWx).self hok.1.whole y.1 hyl (hok.1.places _ (List.getElem_mem hyl))
        have hg3 : a3.g = a.g := (show a3.g = at1.g from congrArg Prod.fst ha3).trans HA1.out
        rw [hg3] at hc
        refine hc.mono ?_
        rintro e W' ⟨rfl, a4, ha4, hl4⟩
        refine ⟨rfl, a4, ha4.trans ha3, ?_, (hWx.mono (by simp)).trans hl4.kept⟩
        rw [List.map_append, List.map_singleton, passAll_one]
        exact (hl3.old hWx).back hl4
      have HFX : Hid (w.heap.size ∉ fpL a3 (passAll st (pre.map Subtype.val))) := hl3.at_.no_blk hex3 hI.x (by decide)
      have HFO : Hid (wt.heap.size ∉ fpL a3 (passAll st (pre.map Subtype.val))) := hl3.at_.no_blk hex3 hv (by decide)
      have HFR := Lib.hid (hl3.at_.no_row hex3 hrow (by decide))
      have HFD : Hid (0 ∉ fpL a3 (passAll st (pre.map Subtype.val))) := LkAt.db hl3 hg hgl
      have HCE := Lib.hid (hl3.at_.cells hex3 hj3)
      have HX := Lib.hid (show Blk W w.heap.size 23 #[.pointer (some ⟨a.g, 0, none⟩)] by rw [← HA1.out]; exact hI.x)
      have HV := Lib.hid hv
      have HROW := Lib.hid hrow
      have HDB := Lib.hid hI.db
      have HH : Hid (handL st ((pre ++ [y]).map Subtype.val) = handL st (pre.map Subtype.val) ++ [((y.1 : Int), passN (passAll st (pre.map Subtype.val)) y.1)]) := by
        show handL st ((pre ++ [y]).map Subtype.val) = _
        rw [List.map_append, List.map_singleton, handL_one]
      have hcx := HX.out.cell 0
      have hlx := HX.out.lt
      have hcv := HV.out.cell 0
      have hlv := HV.out.lt
      generalize fpL a3 (passAll st (pre.map Subtype.val)) = FF at *
      generalize passN (passAll st (pre.map Subtype.val)) y.1 = nx at *
      generalize hyv : y.1 = yv at *
      have HYV := Lib.hid hyv
      have hmix : Tryz.prog.follows .mixedOrders = true := by kernel_rfl
      have hw12 : w.heap.size ≠ wt.heap.size := HX.out.ne HV.out (by decide)
      have hpl64 : pre.length ≤ 64 := by omega
      have HAPP : Hid (∀ W1, Kept FF W W1 → ∃ A2 c2 w3, ((Builtin.append_ #[59, 59] 59 #[.slice A' pre.length c', .slice (some ⟨W1.heap.size, 0, none⟩) 1 1]).run Tryz.prog (W1.alloc (.cells #[.int .i64 yv, .int .i64 nx] 64)) = .ok (.slice A2 (pre.length + 1) c2) w3) ∧ Hid (w3.ownsRow wt.heap.size 64 2 (.slice A2 (pre.length + 1) c2) (pre.length + 1) ((handL st (pre.map Subtype.val)).flatMap hL ++ [I64 yv, I64 nx])) ∧ Hid (Kept (fp (.slice A' pre.length c')) (W1.alloc (.cells #[.int .i64 yv, .int .i64 nx] 64)) w3) ∧ Hid (Blk w3 wt.heap.size 59 #[.slice A' pre.length c'])) := by
        intro W1 hk1
        have hrow1 := own_kept HROW.out hk1 HFR.out
        have hv1 := HV.out.kept hk1 HFO.out
        obtain ⟨i0, hi, hz0, hz1, hz2⟩ := info_parts infoHand
        have hnew : Blk (W1.alloc (.cells #[.int .i64 yv, .int .i64 nx] 64)) W1.heap.size 64 #[.int .i64 yv, .int .i64 nx] := Blk.new W1 _ _
        obtain ⟨v', w3, hrun, ho, hgr, _⟩ := run_append_own (P := Tryz.prog) (W1.alloc (.cells #[.int .i64 yv, .int .i64 nx] 64)) wt.heap.size 59 59 64 i0 (.agg #[.int .i64 0, .int .i64 0]) 2 16 Tryz.underlying59 hi hz0 hz1 hz2 rfl (by decide) _ _ _ (own_kept hrow1 ((Kept.refl [] W1).alloc _) (by simp)) ⟨W1.heap.size, 0, none⟩ 1 1 [I64 yv, I64 nx] rfl (fun j u hj => by
            have := hnew.cell j
            rw [add_mk, Nat.zero_add, this, List.getElem?_toArray]
            exact hj) (by simp [I64, Value.oneCell']) (by simp only [maxLen]; omega) (by omega) (by have := hv1.lt; simp; omega)
        obtain ⟨A2, c2, rfl, _, _⟩ := own_form ho
        exact ⟨A2, c2, w3, hrun, ho, (Kept.refl _ _).grown hgr (fun k e => .inl (mem_fp.2 e)), (hv1.alloc _).grown hgr (fun e => own_blk_ne hrow1 hv1 (by decide) e.symm)⟩
      have HFIN : Hid (∀ (W1 w3 : World) (A2 : Option Addr) (c2 : Nat) (a4 : LkA), LkIs w0 W1 a4 (passAll st ((pre ++ [y]).map Subtype.val)) → a4.key = at1.key → Kept FF W W1 → w3.ownsRow wt.heap.size 64 2 (.slice A2 (pre.length + 1) c2) (pre.length + 1) ((handL st (pre.map Subtype.val)).flatMap hL ++ [I64 yv, I64 nx]) → Kept (fp (.slice A' pre.length c')) (W1.alloc (.cells #[.int .i64 yv, .int .i64 nx] 64)) w3 → Blk w3 wt.heap.size 59 #[.slice A' pre.length c'] → Blk W1 wt.heap.size 59 #[.slice A' pre.length c'] → Blk W1 w.heap.size 23 #[.pointer (some ⟨a.g, 0, none⟩)] →
          KeepsFrom W0.heap.size W (w3.setCell ⟨wt.heap.size, 0, none⟩ (.slice A2 (pre.length + 1) c2)) ∧ KeepDb W (w3.setCell ⟨wt.heap.size, 0, none⟩ (.slice A2 (pre.length + 1) c2)) ∧ DSt w0 at1 st w.heap.size wt.heap.size ((pre ++ [y]).map Subtype.val) (w3.setCell ⟨wt.heap.size, 0, none⟩ (.slice A2 (pre.length + 1) c2))) := by
        intro W1 w3 A2 c2 a4 hl4 ha4 hk4 ho hk2 hb3 hv1 hx1
        have hrow1 := own_kept HROW.out hk4 HFR.out
        have hex4 := HL0.out.exJ.key ha4
        have hbase : ∀ q ∈ fp (.slice A' pre.length c'), wt.heap.size ≤ q := fun q hq => (HROW.out.lt q (mem_fp.1 hq)).1
        have hwt := HL0.out.is.kept.size
        have hww : w0.w.heap.size ≤ wt.heap.size := HLT.out.is.kept.size
        have hk3 : Kept (wt.heap.size :: fp (.slice A' pre.length c')) W1 (w3.setCell ⟨wt.heap.size, 0, none⟩ (.slice A2 (pre.length + 1) c2)) :=
          ((((Kept.refl [] W1).alloc _).mono (by simp)).trans (hk2.mono (fun q hq => List.mem_cons_of_mem _ hq))).setCell (.inl (by simp)) _
        have hkt : Kept (FF ++ wt.heap.size :: fp (.slice A' pre.length c')) W (w3.setCell ⟨wt.heap.size, 0, none⟩ (.slice A2 (pre.length + 1) c2)) := (hk4.mono (by intro q hq; simp [hq])).trans (hk3.mono (by intro q hq; simp at hq ⊢; exact .inr hq))
        have hdb : KeepDb W (w3.setCell ⟨wt.heap.size, 0, none⟩ (.slice A2 (pre.length + 1) c2)) := fun hT => hT.kept hkt (fun hm => by
          rcases List.mem_append.1 hm with h1 | h1
          · exact HFD.out h1
          · rcases List.mem_cons.1 h1 with h1 | h1
            · have := hgl; omega
            · have := hbase _ h1; have := hgl; omega)
        have hnb : ∀ q ∈ wt.heap.size :: fp (.slice A' pre.length c'), q ∉ fpL a4 (passAll st ((pre ++ [y]).map Subtype.val)) := fun q hq => by
          rcases List.mem_cons.1 hq with rfl | hq
          · exact hl4.at_.no_blk hex4 hv1 (by decide)
          · exact hl4.at_.no_row hex4 hrow1 (by decide) q hq
        refine ⟨keepsFrom_kept2 hkt (fun q hq => ?_), hdb, ⟨?_, ⟨_, hb3.set 0 _, ?_⟩, ⟨a4, ha4, hl4.far hk3 hnb (fun q hq => ?_)⟩, hdb HDB.out⟩⟩
        · rcases List.mem_append.1 hq with hq | hq
          · exact HCE.out q hq
          · rcases List.mem_cons.1 hq with rfl | hq
            · exact .inr (cells_blk HV.out)
            · exact .inr (cells_own HROW.out q hq)
        · rw [HA1.out]
          exact hx1.kept hk3 (fun hm => by
            rcases List.mem_cons.1 hm with h1 | h1
            · exact hw12 h1
            · exact own_blk_ne hrow1 hx1 (by decide) (mem_fp.1 h1))
        · rw [HH.out, List.flatMap_append]
          have e : ((pre ++ [y]).map Subtype.val).length = pre.length + 1 := by simp
          rw [e]
          exact own_kept ho ((Kept.refl [wt.heap.size] w3).setCell (p := ⟨wt.heap.size, 0, none⟩) (.inl (by simp)) _) (fun q hq e => by
            simp at e; subst e
            exact own_blk_ne ho hb3 (by decide) (mem_fp.1 hq))
        · rcases List.mem_cons.1 hq with rfl | hq
          · exact .inr hww
          · exact .inr (Nat.le_trans hww (hbase q hq))
      clear hv hrow hI ha3 hl3 hown hok hyl hex3 hj3 hplen hyv
      gi_wp2
      refine region_inRound lo hmix rfl (by kernel_rfl) ?_
      (refine wpAnyIn_take (i := 1) (v := ?_) rfl rfl (by kernel_rfl) (by kernel_rfl) (by kernel_rfl) (fun _ _ _ h => h) ⟨Or.inl ⟨by rfl, ?_⟩, fun _ => rfl⟩ ?_; rotate_left; focus ((intro w; go_simp); try (with_reducible rfl)); (try simp only [Act.put, List.setIfInBounds_toArray, List.set_cons_zero, List.set_cons_succ]))
      (refine wpAnyIn_take (i := 3) (v := ?_) rfl rfl (by kernel_rfl) (by kernel_rfl) (by kernel_rfl) (fun _ _ _ h => h) ⟨Or.inl ⟨by rfl, ?_⟩, fun _ => rfl⟩ ?_; rotate_left; focus ((intro w; go_simp); try (with_reducible rfl)); (try simp only [Act.put, List.setIfInBounds_toArray, List.set_cons_zero, List.set_cons_succ]))
      (refine wpAnyIn_ready (rs := [0, 2]) (by kernel_rfl) (by simp) ?_; refine AllReadyIn.cons rfl (fun K hK => ?_) (AllReadyIn.cons rfl (fun K hK => ?_) (AllReadyIn.nil)))
      · (go_simp; refine hK _ _ ?_; clear hK K; (try simp only [Act.put, List.setIfInBounds_toArray, List.set_cons_zero, List.set_cons_succ]))
        (refine wpAnyIn_ready (rs := [2]) (by kernel_rfl) (by simp) ?_; refine AllReadyIn.cons rfl (fun K hK => ?_) (AllReadyIn.nil))
        (go_simp; refine hK _ _ ?_; clear hK K; (try simp only [Act.put, List.setIfInBounds_toArray, List.set_cons_zero, List.set_cons_succ]))
        (refine wpAnyIn_ready (rs := [4]) (by kernel_rfl) (by simp) ?_; refine AllReadyIn.cons rfl (fun K hK => ?_) (AllReadyIn.nil))
        (go_simp; (refine ⟨trivial, ?_⟩); gi_at_call 50; refine (callsIn_wide.2 (HPASS.out _ (by (repeat (first | (with_reducible exact Kept.refl _ _) | (with_reducible assumption) | (with_reducible refine Kept.alloc ?_ _) | (with_reducible refine Kept.drew ?_) | (with_reducible refine Kept.drewN ?_ _) | (with_reducible refine Kept.setCell ?_ ?_ _) | (exact .inr (Nat.le_refl _)) | (exact .inr (by simp only; omega)) | (exact .inr (by omega))))))).mono ?_; rintro e W1 ⟨rfl, a4, ha4, hl4, hk4⟩; have HL4 := Lib.hid hl4; have HA4 := Lib.hid ha4; have HK4 := Lib.hid hk4; have HX4 := Lib.hid (HX.out.kept hk4 HFX.out); have HV4 := Lib.hid (HV.out.kept hk4 HFO.out); have hcx4 := HX4.out.cell 0; have hlx4 := HX4.out.lt; have hcv4 := HV4.out.cell 0; have hlv4 := HV4.out.lt; obtain ⟨A2, c2, w3, hrun, hr1, hr2, hr3⟩ := HAPP.out W1 hk4; have hc5 := hr3.out.cell 0; have hf5 := hr3.out.frozen 0; have hl5 := hr3.out.lt; clear hl4 hk4 ha4; (try go_simp); refine hK _ _ ?_; clear hK K; (try simp only [Act.put, List.setIfInBounds_toArray, List.set_cons_zero, List.set_cons_succ]))
        (refine wpAnyIn_take (i := 5) (v := ?_) rfl rfl (by kernel_rfl) (by kernel_rfl) (by kernel_rfl) (fun _ _ _ h => h) ⟨Or.inl ⟨by rfl, ?_⟩, fun _ => rfl⟩ ?_; rotate_left; focus ((intro w; go_simp); try (with_reducible rfl)); (try simp only [Act.put, List.setIfInBounds_toArray, List.set_cons_zero, List.set_cons_succ]))
        (refine wpAnyIn_ready (rs := [6]) (by kernel_rfl) (by simp) ?_; refine AllReadyIn.cons rfl (fun K hK => ?_) (AllReadyIn.nil))
        (go_simp; refine hK _ _ ?_; clear hK K; (try simp only [Act.put, List.setIfInBounds_toArray, List.set_cons_zero, List.set_cons_succ]))
        (refine wpAnyIn_ready (rs := [7]) (by kernel_rfl) (by simp) ?_; refine AllReadyIn.cons rfl (fun K hK => ?_) (AllReadyIn.nil))
        (refine wpIn_append_run (.tmp 36) (.tmp 42) 59 rfl rfl hrun ?_; refine hK _ _ ?_; clear hK K; (try simp only [Act.put, List.setIfInBounds_toArray, List.set_cons_zero, List.set_cons_succ]))
        (refine wpAnyIn_ready (rs := [8]) (by kernel_rfl) (by simp) ?_; refine AllReadyIn.cons rfl (fun K hK => ?_) (AllReadyIn.nil))
        (go_simp; refine hK _ _ ?_; clear hK K; (try simp only [Act.put, List.setIfInBounds_toArray, List.set_cons_zero, List.set_cons_succ]))
        refine wpAnyIn_done (by kernel_rfl) ?_ _
        gi_wp2
        exact HFIN.out _ _ _ _ _ HL4.out HA4.out HK4.out hr1.out hr2.out hr3.out HV4.out HX4.out
      · (go_simp; refine hK _ _ ?_; clear hK K; (try simp only [Act.put, List.setIfInBounds_toArray, List.set_cons_zero, List.set_cons_succ]))
        (refine wpAnyIn_ready (rs := [0, 4]) (by kernel_rfl) (by simp) ?_; refine AllReadyIn.cons rfl (fun K hK => ?_) (AllReadyIn.cons rfl (fun K hK => ?_) (AllReadyIn.nil)))
        · (go_simp; refine hK _ _ ?_; clear hK K; (try simp only [Act.put, List.setIfInBounds_toArray, List.set_cons_zero, List.set_cons_succ]))
          (refine wpAnyIn_ready (rs := [4]) (by kernel_rfl) (by simp) ?_; refine AllReadyIn.cons rfl (fun K hK => ?_) (AllReadyIn.nil))
          (go_simp; (refine ⟨trivial, ?_⟩); gi_at_call 50; refine (callsIn_wide.2 (HPASS.out _ (by (repeat (first | (with_reducible exact Kept.refl _ _) | (with_reducible assumption) | (with_reducible refine Kept.alloc ?_ _) | (with_reducible refine Kept.drew ?_) | (with_reducible refine Kept.drewN ?_ _) | (with_reducible refine Kept.setCell ?_ ?_ _) | (exact .inr (Nat.le_refl _)) | (exact .inr (by simp only; omega)) | (exact .inr (by omega))))))).mono ?_; rintro e W1 ⟨rfl, a4, ha4, hl4, hk4⟩; have HL4 := Lib.hid hl4; have HA4 := Lib.hid ha4; have HK4 := Lib.hid hk4; have HX4 := Lib.hid (HX.out.kept hk4 HFX.out); have HV4 := Lib.hid (HV.out.kept hk4 HFO.out); have hcx4 := HX4.out.cell 0; have hlx4 := HX4.out.lt; have hcv4 := HV4.out.cell 0; have hlv4 := HV4.out.lt; obtain ⟨A2, c2, w3, hrun, hr1, hr2, hr3⟩ := HAPP.out W1 hk4; have hc5 := hr3.out.cell 0; have hf5 := hr3.out.frozen 0; have hl5 := hr3.out.lt; clear hl4 hk4 ha4; (try go_simp); refine hK _ _ ?_; clear hK K; (try simp only [Act.put, List.setIfInBounds_toArray, List.set_cons_zero, List.set_cons_succ]))
          (refine wpAnyIn_take (i := 5) (v := ?_) rfl rfl (by kernel_rfl) (by kernel_rfl) (by kernel_rfl) (fun _ _ _ h => h) ⟨Or.inl ⟨by rfl, ?_⟩, fun _ => rfl⟩ ?_; rotate_left; focus ((intro w; go_simp); try (with_reducible rfl)); (try simp only [Act.put, List.setIfInBounds_toArray, List.set_cons_zero, List.set_cons_succ]))
          (refine wpAnyIn_ready (rs := [6]) (by kernel_rfl) (by simp) ?_; refine AllReadyIn.cons rfl (fun K hK => ?_) (AllReadyIn.nil))
          (go_simp; refine hK _ _ ?_; clear hK K; (try simp only [Act.put, List.setIfInBounds_toArray, List.set_cons_zero, List.set_cons_succ]))
          (refine wpAnyIn_ready (rs := [7]) (by kernel_rfl) (by simp) ?_; refine AllReadyIn.cons rfl (fun K hK => ?_) (AllReadyIn.nil))
          (refine wpIn_append_run (.tmp 36) (.tmp 42) 59 rfl rfl hrun ?_; refine hK _ _ ?_; clear hK K; (try simp only [Act.put, List.setIfInBounds_toArray, List.set_cons_zero, List.set_cons_succ]))
          (refine wpAnyIn_ready (rs := [8]) (by kernel_rfl) (by simp) ?_; refine AllReadyIn.cons rfl (fun K hK => ?_) (AllReadyIn.nil))
          (go_simp; refine hK _ _ ?_; clear hK K; (try simp only [Act.put, List.setIfInBounds_toArray, List.set_cons_zero, List.set_cons_succ]))
          refine wpAnyIn_done (by kernel_rfl) ?_ _
          gi_wp2
          exact HFIN.out _ _ _ _ _ HL4.out HA4.out HK4.out hr1.out hr2.out hr3.out HV4.out HX4.out
        · (go_simp; (refine ⟨trivial, ?_⟩); gi_at_call 50; refine (callsIn_wide.2 (HPASS.out _ (by (repeat (first | (with_reducible exact Kept.refl _ _) | (with_reducible assumption) | (with_reducible refine Kept.alloc ?_ _) | (with_reducible refine Kept.drew ?_) | (with_reducible refine Kept.drewN ?_ _) | (with_reducible refine Kept.setCell ?_ ?_ _) | (exact .inr (Nat.le_refl _)) | (exact .inr (by simp only; omega)) | (exact .inr (by omega))))))).mono ?_; rintro e W1 ⟨rfl, a4, ha4, hl4, hk4⟩; have HL4 := Lib.hid hl4; have HA4 := Lib.hid ha4; have HK4 := Lib.hid hk4; have HX4 := Lib.hid (HX.out.kept hk4 HFX.out); have HV4 := Lib.hid (HV.out.kept hk4 HFO.out); have hcx4 := HX4.out.cell 0; have hlx4 := HX4.out.lt; have hcv4 := HV4.out.cell 0; have hlv4 := HV4.out.lt; obtain ⟨A2, c2, w3, hrun, hr1, hr2, hr3⟩ := HAPP.out W1 hk4; have hc5 := hr3.out.cell 0; have hf5 := hr3.out.frozen 0; have hl5 := hr3.out.lt; clear hl4 hk4 ha4; (try go_simp); refine hK _ _ ?_; clear hK K; (try simp only [Act.put, List.setIfInBounds_toArray, List.set_cons_zero, List.set_cons_succ]))
          (refine wpAnyIn_take (i := 5) (v := ?_) rfl rfl (by kernel_rfl) (by kernel_rfl) (by kernel_rfl) (fun _ _ _ h => h) ⟨Or.inl ⟨by rfl, ?_⟩, fun _ => rfl⟩ ?_; rotate_left; focus ((intro w; go_simp); try (with_reducible rfl)); (try simp only [Act.put, List.setIfInBounds_toArray, List.set_cons_zero, List.set_cons_succ]))
          (refine wpAnyIn_ready (rs := [0, 6]) (by kernel_rfl) (by simp) ?_; refine AllReadyIn.cons rfl (fun K hK => ?_) (AllReadyIn.cons rfl (fun K hK => ?_) (AllReadyIn.nil)))
          · (go_simp; refine hK _ _ ?_; clear hK K; (try simp only [Act.put, List.setIfInBounds_toArray, List.set_cons_zero, List.set_cons_succ]))
            (refine wpAnyIn_ready (rs := [6]) (by kernel_rfl) (by simp) ?_; refine AllReadyIn.cons rfl (fun K hK => ?_) (AllReadyIn.nil))
            (go_simp; refine hK _ _ ?_; clear hK K; (try simp only [Act.put, List.setIfInBounds_toArray, List.set_cons_zero, List.set_cons_succ]))
            (refine wpAnyIn_ready (rs := [7]) (by kernel_rfl) (by simp) ?_; refine AllReadyIn.cons rfl (fun K hK => ?_) (AllReadyIn.nil))
            (refine wpIn_append_run (.tmp 36) (.tmp 42) 59 rfl rfl hrun ?_; refine hK _ _ ?_; clear hK K; (try simp only [Act.put, List.setIfInBounds_toArray, List.set_cons_zero, List.set_cons_succ]))
            (refine wpAnyIn_ready (rs := [8]) (by kernel_rfl) (by simp) ?_; refine AllReadyIn.cons rfl (fun K hK => ?_) (AllReadyIn.nil))
            (go_simp; refine hK _ _ ?_; clear hK K; (try simp only [Act.put, List.setIfInBounds_toArray, List.set_cons_zero, List.set_cons_succ]))
            refine wpAnyIn_done (by kernel_rfl) ?_ _
            gi_wp2
            exact HFIN.out _ _ _ _ _ HL4.out HA4.out HK4.out hr1.out hr2.out hr3.out HV4.out HX4.out
          · (go_simp; refine hK _ _ ?_; clear hK K; (try simp only [Act.put, List.setIfInBounds_toArray, List.set_cons_zero, List.set_cons_succ]))
            (refine wpAnyIn_ready (rs := [0]) (by kernel_rfl) (by simp) ?_; refine AllReadyIn.cons rfl (fun K hK => ?_) (AllReadyIn.nil))
            (go_simp; refine hK _ _ ?_; clear hK K; (try simp only [Act.put, List.setIfInBounds_toArray, List.set_cons_zero, List.set_cons_succ]))
            (refine wpAnyIn_ready (rs := [7]) (by kernel_rfl) (by simp) ?_; refine AllReadyIn.cons rfl (fun K hK => ?_) (AllReadyIn.nil))
            (refine wpIn_append_run (.tmp 36) (.tmp 42) 59 rfl rfl hrun ?_; refine hK _ _ ?_; clear hK K; (try simp only [Act.put, List.setIfInBounds_toArray, List.set_cons_zero, List.set_cons_succ]))
            (refine wpAnyIn_ready (rs := [8]) (by kernel_rfl) (by simp) ?_; refine AllReadyIn.cons rfl (fun K hK => ?_) (AllReadyIn.nil))
            (go_simp; refine hK _ _ ?_; clear hK K; (try simp only [Act.put, List.setIfInBounds_toArray, List.set_cons_zero, List.set_cons_succ]))
            refine wpAnyIn_done (by kernel_rfl) ?_ _
            gi_wp2
            exact HFIN.out _ _ _ _ _ HL4.out HA4.out HK4.out hr1.out hr2.out hr3.out HV4.out HX4.out

  · have hub : ((u : Int) != -1) = true := bne_iff_ne.2 hu
    have HPT2 := Lib.hid (HPT.out hu)
    clear HNJ HPT hu hur
    refine (callsIn_wide (n := 3)).1 ?_
    refine callsIn_of_wp_marks Tryz.func19 rfl trivial ?_ rfl
    simp only [Tryz.ntmps19, List.size_toArray, List.length_cons, List.length_nil, Nat.reduceAdd, Nat.reduceSub, Array.replicate_succ, Array.replicate_zero, List.push_toArray, List.append_toArray, List.nil_append, List.cons_append]
    gi_wp2_with (first
      | (refine ⟨trivial, ?_⟩; gi_at_call 47; refine (callsIn_wide.2 (HT.out _ ((Kept.refl [] w).alloc _))).mono ?_; rintro e w1 ⟨rfl, rfl⟩)
      | (refine ⟨trivial, ?_⟩; gi_at_call 17; refine (callsIn_wide.2 (HCAN.out _ ((Kept.refl [] w).alloc _) (HD.out.old ((Kept.refl [] w).alloc _)))).mono ?_; rintro e w2 ⟨rfl, a1, ha1, hl1, hd1, hb1⟩; have HL1 := Lib.hid hl1; have HD1 := Lib.hid hd1; have HX1 := Lib.hid (hb1 _ _ _ (Blk.new w 23 #[.pointer (some ⟨a.g, 0, none⟩)]) (by decide)); obtain ⟨hc1, hlt1⟩ := HG0.out _ _ hl1; rw [ha1] at hc1 hlt1; have HA0 := Lib.hid ha1; have hcx1 := HX1.out.cell 0; have hlx1 := HX1.out.lt; clear hl1 hd1 hb1 ha1)
      | (refine ⟨trivial, ?_⟩; gi_at_call 57; refine (callsIn_wide.2 (HWT.out _ _ HL1.out)).mono ?_; rintro e w3 ⟨rfl, hk3⟩; have HL3 := Lib.hid (HL1.out.old hk3); have HD3 := Lib.hid (HD1.out.old hk3); have HX3 := Lib.hid (HX1.out.kept hk3 (by simp)); have hcx3 := HX3.out.cell 0; have hlx3 := HX3.out.lt; clear hk3)
      | (refine ⟨trivial, ?_⟩; gi_at_call 58; refine (callsIn_wide.2 (HPT2.out _ _ HA0.out HL3.out HD3.out)).mono ?_; rintro e wt ⟨rfl, at1, ha1, hlt, hdt, hbt⟩; have HLT := Lib.hid hlt; have HDT := Lib.hid hdt; have HA1 := Lib.hid ha1; have HXT := Lib.hid (hbt _ _ _ HX3.out (by decide)); have hcx5 := HXT.out.cell 0; have hlx5 := HXT.out.lt; clear hlt hdt hbt ha1)
      | (refine ⟨trivial, ?_⟩; gi_at_call 35; refine (callsIn_wide.2 (HOWN.out _ _ HA1.out (HLT.out.old ((Kept.refl [] wt).alloc _)))).mono ?_; rintro e w5 ⟨rfl, rfl⟩)
      | (refine ⟨trivial, ?_⟩; gi_at_call 59; refine (each_in _ _ _).mono ?_; rintro e w' ⟨rfl, rfl⟩))
    clear HT HCAN HWT HPT2 HL1 HD1 HX1 HOWN HG0 HL3 HD3 HX3 HA0
    (try clear hcx5); (try clear hlx5)
    (try clear hc1); (try clear hlt1); (try clear hcx1); (try clear hlx1); (try clear hcx3); (try clear hlx3)
    have HX0 : Hid (Blk ((wt.alloc (.cells #[.slice none 0 0] 59)).alloc (.cells #[.int .u64 X] 78)) w.heap.size 23 #[.pointer (some ⟨a.g, 0, none⟩)]) := (HXT.out.alloc _).alloc _
    have HO0 : Hid (Blk ((wt.alloc (.cells #[.slice none 0 0] 59)).alloc (.cells #[.int .u64 X] 78)) wt.heap.size 59 #[.slice none 0 0]) := (Blk.new wt _ _).alloc _
    have HS0 : Hid (Blk ((wt.alloc (.cells #[.slice none 0 0] 59)).alloc (.cells #[.int .u64 X] 78)) (wt.heap.size + 1) 78 #[.int .u64 X]) := Blk.newAt (by simp) _ _
    have HD0 : Hid (HasDb ((wt.alloc (.cells #[.slice none 0 0] 59)).alloc (.cells #[.int .u64 X] 78))) := HDT.out.old (((Kept.refl [] wt).alloc _).alloc _)
    have HL0 : Hid (LkIsJ w0 ((wt.alloc (.cells #[.slice none 0 0] 59)).alloc (.cells #[.int .u64 X] 78)) at1 st jt (m + 1)) := HLT.out.old (((Kept.refl [] wt).alloc _).alloc _)
    have hsz : ((wt.alloc (.cells #[.slice none 0 0] 59)).alloc (.cells #[.int .u64 X] 78)).heap.size = wt.heap.size + 2 := by simp
    generalize ((wt.alloc (.cells #[.slice none 0 0] 59)).alloc (.cells #[.int .u64 X] 78)) = W0 at *
    have HST0 : Hid (DSt w0 at1 st w.heap.size wt.heap.size [] W0) := ⟨by rw [HA1.out]; exact HX0.out, ⟨_, HO0.out, World.ownsRow_nil _ _ _ _⟩, ⟨at1, rfl, HL0.out.is⟩, HD0.out⟩
    have hgW : 0 < W0.heap.size := Nat.lt_of_lt_of_le hgl HL0.out.is.kept.size
    refine wpIn_rangeFunc_ownH rfl (by omega) (gf := 86) (lb := #[.pointer (some ⟨wt.heap.size + 1, 0, none⟩)]) rfl trivial (enters_of Tryz.func86 (by kernel_rfl) rfl)
      (each_stops _ (by omega) (wt.heap.size + 1) X HXL.out W0 (by omega) hgW (HS0.out.cell 0) HD0.out) (fun h1 h2 h => h2 (h1 h)) (fun W q o o' hq ho hc hw hT j hj => ((belowK_b (w := W0) (Nat.le_refl _) W q o o' hq ho hc hw).cell (p := ⟨0, j, none⟩) hgW).trans (hT j hj)) (Below.refl _ _) (fun _ => rfl)
      (fun pre W => DSt w0 at1 st w.heap.size wt.heap.size (pre.map Subtype.val) W) (fun _ _ _ => False)
      (fun pre A A' row h hg hr => DSt.own w0 at1 st w.heap.size wt.heap.size W0.heap.size HL0.out.exJ (HL0.out.jlt) HL0.out.is.kept.size (pre.map Subtype.val) A A' row h hg hr) (fun _ _ _ _ _ hs _ _ => hs) HST0.out
      (fun y a' W => ∃ z5 z6 z15 z16 z20 z22 z23 z24 z25 z26 z27 z28 z29 z30 : Value, a' = ({ tmps := #[.pointer (some ⟨a.g, 0, none⟩), .int .i64 k, .pointer (some ⟨w.heap.size, 0, none⟩), undef, .slice none 0 0, z5, z6, .pointer (some ⟨wt.heap.size, 0, none⟩), .int .i64 (y.1 : Nat), .pointer (some ⟨a.g, 0, none⟩), .int .i64 k, .bool true, .bool false, .pointer (some ⟨a.g, 0, none⟩), .int .i64 k, z15, z16, .pointer (some ⟨a.g, 0, none⟩), .pointer (some ⟨a.g, 0, none⟩), .pointer (some ⟨a.g, 0, none⟩), z20, .int .i64 k, z22, z23, z24, z25, z26, z27, z28, z29, z30, .pointer (some ⟨a.g, 0, none⟩), .int .i64 k, .int .u64 X, .func (.func 86) #[] #[.pointer (some ⟨wt.heap.size + 1, 0, none⟩)], .int .i64 (y.1 : Nat), undef, undef, undef, undef, undef, undef, undef, undef, undef], defers := [] } : Act))
      (fun x a' s A B row hs hg hr => hs) ?assign ?body ?done ?stop
    case assign =>
      rintro lo pre y W K hI hK
      have HKK := Lib.hid hK
      have HI := Lib.hid hI
      clear hI hK
      gi_wp2
      exact HKK.out _ _ (KeepsFrom.refl _ _) (fun h => h) HI.out ⟨_, _, _, _, _, _, _, _, _, _, _, _, _, _, rfl⟩
    case stop => rintro D co pre W hD hr h hK; exact h.elim
    case done =>
      rintro D ys W hD hys hI hK
      obtain ⟨v, hv, hrow⟩ := hI.out
      obtain ⟨A', c', rfl, hnc, hcm⟩ := own_form hrow
      obtain ⟨a3, ha3, hl3⟩ := hI.lk
      have hys2 : ys.map Subtype.val = ownedL st k := hys.trans HIX.out
      rw [hys2] at hrow hl3
      have hown : ∀ q ∈ ownedL st k, q < st.lines.length := fun q hq => List.mem_range.1 (List.mem_filter.1 hq).1
      have hok := passAll_ok HI2.out HJ2.out (ownedL st k) hown
      have hj3 := HL0.out.step hl3 ha3 hok.2.2.n
      have hg3 : a3.g = a.g := (show a3.g = at1.g from congrArg Prod.fst ha3).trans HA1.out
      have hgr := grownBy_putObj' W D (.deferred none)
      have hj4 : LkIsJ w0 (W.putObj D (.deferred none)) a3 (passAll st (ownedL st k)) jt (m + 1) := ⟨hl3.grown (HL0.out.exJ.key ha3) (B := W0.heap.size) (fun b hb => HL0.out.jlt b ((congrArg (fun x => x.2.1) ha3).symm.trans hb)) HL0.out.is.kept.size hgr (fun r e => by cases e; exact ⟨hD, _, hK, rfl⟩), hj3.len, hj3.map_⟩
      have HRES : Hid (∃ A n c, Ending.returned (Value.slice A' (ys.map Subtype.val).length c') = .returned (.slice A n c) ∧ (Reads (W.putObj D (.deferred none)) 2 A n ((handL st (ownedL st k)).flatMap hL) ∧ ∃ z, (W.putObj D (.deferred none)).ownsRow z 64 2 (.slice A n c) n ((handL st (ownedL st k)).flatMap hL)) ∧ ∃ a', a'.g = a.g ∧ LkIsJ w0 (W.putObj D (.deferred none)) a' (passAll st (ownedL st k)) jt (m + 1)) := by
        rw [hys2]
        exact ⟨_, _, _, rfl, ⟨Reads.of_own (ownsRow_putObj hrow _ hK rfl), _, ownsRow_putObj hrow _ hK rfl⟩, a3, hg3, hj4⟩
      have hcv := hv.cell 0
      have hlv := hv.lt
      have HK := Lib.hid hK
      generalize (ys.map Subtype.val).length = yl at *
      clear hv hrow hI ha3 hl3 hys hys2 hown hok hj3 hj4 hgr hg3 hK
      gi_wp2
      refine ⟨by simp, .inl ⟨_, _, rfl, run_takeDeferred HK.out, ?_⟩⟩
      refine ⟨_, results_tmp rfl _ _ _, ?_⟩
      exact HRES.out
    case body =>
      rintro lo pre y a' W hlo hrec hI ⟨z5, z6, z15, z16, z20, z22, z23, z24, z25, z26, z27, z28, z29, z30, rfl⟩ hlen
      obtain ⟨v, hv, hrow⟩ := hI.out
      have hplen : (pre.map Subtype.val).length = pre.length := by simp
      rw [hplen] at hrow
      obtain ⟨A', c', rfl, hnc, hcm⟩ := own_form hrow
      obtain ⟨a3, ha3, hl3⟩ := hI.lk
      have hown : ∀ q ∈ pre.map Subtype.val, q < st.lines.length := fun q hq => by
        obtain ⟨z, _, rfl⟩ := List.mem_map.1 hq
        exact HMEM.out _ z.2
      have hok := passAll_ok HI2.out HJ2.out (pre.map Subtype.val) hown
      have hyl : y.1 < (passAll st (pre.map Subtype.val)).lines.length := by
        rw [hok.2.2.m]
        exact HMEM.out _ y.2
      have hex3 := HL0.out.exJ.key ha3
      have hj3 : ∀ b, a3.J = .map (some b) → b < W0.heap.size := fun b hb => HL0.out.jlt b ((congrArg (fun x => x.2.1) ha3).symm.trans hb)
      have HPASS : Hid (∀ Wx, Kept [] W Wx → Calls Tryz.prog 50 #[.pointer (some ⟨a.g, 0, none⟩), .int .i64 (y.1 : Nat)] Wx fun e W' => e = .returned (.int .i64 (passN (passAll st (pre.map Subtype.val)) y.1)) ∧ ∃ a4, a4.key = at1.key ∧ LkIs w0 W' a4 (passAll st ((pre ++ [y]).map Subtype.val)) ∧ Kept (fpL a3 (passAll st (pre.map Subtype.val))) W W') := fun Wx hWx => by
        have hc := lkpass_any (hl3.old hWx).self hok.1.whole y.1 hyl (hok.1.places _ (List.getElem_mem hyl))
        have hg3 : a3.g = a.g := (show a3.g = at1.g from congrArg Prod.fst ha3).trans HA1.out
        rw [hg3] at hc
        refine hc.mono ?_
        rintro e W' ⟨rfl, a4, ha4, hl4⟩
        refine ⟨rfl, a4, ha4.trans ha3, ?_, (hWx.mono (by simp)).trans hl4.kept⟩
        rw [List.map_append, List.map_singleton, passAll_one]
        exact (hl3.old hWx).back hl4
      have HFX : Hid (w.heap.size ∉ fpL a3 (passAll st (pre.map Subtype.val))) := hl3.at_.no_blk hex3 hI.x (by decide)
      have HFO : Hid (wt.heap.size ∉ fpL a3 (passAll st (pre.map Subtype.val))) := hl3.at_.no_blk hex3 hv (by decide)
      have HFR := Lib.hid (hl3.at_.no_row hex3 hrow (by decide))
      have HFD : Hid (0 ∉ fpL a3 (passAll st (pre.map Subtype.val))) := LkAt.db hl3 hg hgl
      have HCE := Lib.hid (hl3.at_.cells hex3 hj3)
      have HX := Lib.hid (show Blk W w.heap.size 23 #[.pointer (some ⟨a.g, 0, none⟩)] by rw [← HA1.out]; exact hI.x)
      have HV := Lib.hid hv
      have HROW := Lib.hid hrow
      have HDB := Lib.hid hI.db
      have HH : Hid (handL st ((pre ++ [y]).map Subtype.val) = handL st (pre.map Subtype.val) ++ [((y.1 : Int), passN (passAll st (pre.map Subtype.val)) y.1)]) := by
        show handL st ((pre ++ [y]).map Subtype.val) = _
        rw [List.map_append, List.map_singleton, handL_one]
      have hcx := HX.out.cell 0
      have hlx := HX.out.lt
      have hcv := HV.out.cell 0
      have hlv := HV.out.lt
      generalize fpL a3 (passAll st (pre.map Subtype.val)) = FF at *
      generalize passN (passAll st (pre.map Subtype.val)) y.1 = nx at *
      generalize hyv : y.1 = yv at *
      have HYV := Lib.hid hyv
      have hmix : Tryz.prog.follows .mixedOrders = true := by kernel_rfl
      have hw12 : w.heap.size ≠ wt.heap.size := HX.out.ne HV.out (by decide)
      have hpl64 : pre.length ≤ 64 := by omega
      have HAPP : Hid (∀ W1, Kept FF W W1 → ∃ A2 c2 w3, ((Builtin.append_ #[59, 59] 59 #[.slice A' pre.length c', .slice (some ⟨W1.heap.size, 0, none⟩) 1 1]).run Tryz.prog (W1.alloc (.cells #[.int .i64 yv, .int .i64 nx] 64)) = .ok (.slice A2 (pre.length + 1) c2) w3) ∧ Hid (w3.ownsRow wt.heap.size 64 2 (.slice A2 (pre.length + 1) c2) (pre.length + 1) ((handL st (pre.map Subtype.val)).flatMap hL ++ [I64 yv, I64 nx])) ∧ Hid (Kept (fp (.slice A' pre.length c')) (W1.alloc (.cells #[.int .i64 yv, .int .i64 nx] 64)) w3) ∧ Hid (Blk w3 wt.heap.size 59 #[.slice A' pre.length c'])) := by
        intro W1 hk1
        have hrow1 := own_kept HROW.out hk1 HFR.out
        have hv1 := HV.out.kept hk1 HFO.out
        obtain ⟨i0, hi, hz0, hz1, hz2⟩ := info_parts infoHand
        have hnew : Blk (W1.alloc (.cells #[.int .i64 yv, .int .i64 nx] 64)) W1.heap.size 64 #[.int .i64 yv, .int .i64 nx] := Blk.new W1 _ _
        obtain ⟨v', w3, hrun, ho, hgr, _⟩ := run_append_own (P := Tryz.prog) (W1.alloc (.cells #[.int .i64 yv, .int .i64 nx] 64)) wt.heap.size 59 59 64 i0 (.agg #[.int .i64 0, .int .i64 0]) 2 16 Tryz.underlying59 hi hz0 hz1 hz2 rfl (by decide) _ _ _ (own_kept hrow1 ((Kept.refl [] W1).alloc _) (by simp)) ⟨W1.heap.size, 0, none⟩ 1 1 [I64 yv, I64 nx] rfl (fun j u hj => by
            have := hnew.cell j
            rw [add_mk, Nat.zero_add, this, List.getElem?_toArray]
            exact hj) (by simp [I64, Value.oneCell']) (by simp only [maxLen]; omega) (by omega) (by have := hv1.lt; simp; omega)
        obtain ⟨A2, c2, rfl, _, _⟩ := own_form ho
        exact ⟨A2, c2, w3, hrun, ho, (Kept.refl _ _).grown hgr (fun k e => .inl (mem_fp.2 e)), (hv1.alloc _).grown hgr (fun e => own_blk_ne hrow1 hv1 (by decide) e.symm)⟩
      have HFIN : Hid (∀ (W1 w3 : World) (A2 : Option Addr) (c2 : Nat) (a4 : LkA), LkIs w0 W1 a4 (passAll st ((pre ++ [y]).map Subtype.val)) → a4.key = at1.key → Kept FF W W1 → w3.ownsRow wt.heap.size 64 2 (.slice A2 (pre.length + 1) c2) (pre.length + 1) ((handL st (pre.map Subtype.val)).flatMap hL ++ [I64 yv, I64 nx]) → Kept (fp (.slice A' pre.length c')) (W1.alloc (.cells #[.int .i64 yv, .int .i64 nx] 64)) w3 → Blk w3 wt.heap.size 59 #[.slice A' pre.length c'] → Blk W1 wt.heap.size 59 #[.slice A' pre.length c'] → Blk W1 w.heap.size 23 #[.pointer (some ⟨a.g, 0, none⟩)] →
          KeepsFrom W0.heap.size W (w3.setCell ⟨wt.heap.size, 0, none⟩ (.slice A2 (pre.length + 1) c2)) ∧ KeepDb W (w3.setCell ⟨wt.heap.size, 0, none⟩ (.slice A2 (pre.length + 1) c2)) ∧ DSt w0 at1 st w.heap.size wt.heap.size ((pre ++ [y]).map Subtype.val) (w3.setCell ⟨wt.heap.size, 0, none⟩ (.slice A2 (pre.length + 1) c2))) := by
        intro W1 w3 A2 c2 a4 hl4 ha4 hk4 ho hk2 hb3 hv1 hx1
        have hrow1 := own_kept HROW.out hk4 HFR.out
        have hex4 := HL0.out.exJ.key ha4
        have hbase : ∀ q ∈ fp (.slice A' pre.length c'), wt.heap.size ≤ q := fun q hq => (HROW.out.lt q (mem_fp.1 hq)).1
        have hwt := HL0.out.is.kept.size
        have hww : w0.w.heap.size ≤ wt.heap.size := HLT.out.is.kept.size
        have hk3 : Kept (wt.heap.size :: fp (.slice A' pre.length c')) W1 (w3.setCell ⟨wt.heap.size, 0, none⟩ (.slice A2 (pre.length + 1) c2)) :=
          ((((Kept.refl [] W1).alloc _).mono (by simp)).trans (hk2.mono (fun q hq => List.mem_cons_of_mem _ hq))).setCell (.inl (by simp)) _
        have hkt : Kept (FF ++ wt.heap.size :: fp (.slice A' pre.length c')) W (w3.setCell ⟨wt.heap.size, 0, none⟩ (.slice A2 (pre.length + 1) c2)) := (hk4.mono (by intro q hq; simp [hq])).trans (hk3.mono (by intro q hq; simp at hq ⊢; exact .inr hq))
        have hdb : KeepDb W (w3.setCell ⟨wt.heap.size, 0, none⟩ (.slice A2 (pre.length + 1) c2)) := fun hT => hT.kept hkt (fun hm => by
          rcases List.mem_append.1 hm with h1 | h1
          · exact HFD.out h1
          · rcases List.mem_cons.1 h1 with h1 | h1
            · have := hgl; omega
            · have := hbase _ h1; have := hgl; omega)
        have hnb : ∀ q ∈ wt.heap.size :: fp (.slice A' pre.length c'), q ∉ fpL a4 (passAll st ((pre ++ [y]).map Subtype.val)) := fun q hq => by
          rcases List.mem_cons.1 hq with rfl | hq
          · exact hl4.at_.no_blk hex4 hv1 (by decide)
          · exact hl4.at_.no_row hex4 hrow1 (by decide) q hq
        refine ⟨keepsFrom_kept2 hkt (fun q hq => ?_), hdb, ⟨?_, ⟨_, hb3.set 0 _, ?_⟩, ⟨a4, ha4, hl4.far hk3 hnb (fun q hq => ?_)⟩, hdb HDB.out⟩⟩
        · rcases List.mem_append.1 hq with hq | hq
          · exact HCE.out q hq
          · rcases List.mem_cons.1 hq with rfl | hq
            · exact .inr (cells_blk HV.out)
            · exact .inr (cells_own HROW.out q hq)
        · rw [HA1.out]
          exact hx1.kept hk3 (fun hm => by
            rcases List.mem_cons.1 hm with h1 | h1
            · exact hw12 h1
            · exact own_blk_ne hrow1 hx1 (by decide) (mem_fp.1 h1))
        · rw [HH.out, List.flatMap_append]
          have e : ((pre ++ [y]).map Subtype.val).length = pre.length + 1 := by simp
          rw [e]
          exact own_kept ho ((Kept.refl [wt.heap.size] w3).setCell (p := ⟨wt.heap.size, 0, none⟩) (.inl (by simp)) _) (fun q hq e => by
            simp at e; subst e
            exact own_blk_ne ho hb3 (by decide) (mem_fp.1 hq))
        · rcases List.mem_cons.1 hq with rfl | hq
          · exact .inr hww
          · exact .inr (Nat.le_trans hww (hbase q hq))
      clear hv hrow hI ha3 hl3 hown hok hyl hex3 hj3 hplen hyv
      gi_wp2
      refine region_inRound lo hmix rfl (by kernel_rfl) ?_
      (refine wpAnyIn_take (i := 1) (v := ?_) rfl rfl (by kernel_rfl) (by kernel_rfl) (by kernel_rfl) (fun _ _ _ h => h) ⟨Or.inl ⟨by rfl, ?_⟩, fun _ => rfl⟩ ?_; rotate_left; focus ((intro w; go_simp); try (with_reducible rfl)); (try simp only [Act.put, List.setIfInBounds_toArray, List.set_cons_zero, List.set_cons_succ]))
      (refine wpAnyIn_take (i := 3) (v := ?_) rfl rfl (by kernel_rfl) (by kernel_rfl) (by kernel_rfl) (fun _ _ _ h => h) ⟨Or.inl ⟨by rfl, ?_⟩, fun _ => rfl⟩ ?_; rotate_left; focus ((intro w; go_simp); try (with_reducible rfl)); (try simp only [Act.put, List.setIfInBounds_toArray, List.set_cons_zero, List.set_cons_succ]))
      (refine wpAnyIn_ready (rs := [0, 2]) (by kernel_rfl) (by simp) ?_; refine AllReadyIn.cons rfl (fun K hK => ?_) (AllReadyIn.cons rfl (fun K hK => ?_) (AllReadyIn.nil)))
      · (go_simp; refine hK _ _ ?_; clear hK K; (try simp only [Act.put, List.setIfInBounds_toArray, List.set_cons_zero, List.set_cons_succ]))
        (refine wpAnyIn_ready (rs := [2]) (by kernel_rfl) (by simp) ?_; refine AllReadyIn.cons rfl (fun K hK => ?_) (AllReadyIn.nil))
        (go_simp; refine hK _ _ ?_; clear hK K; (try simp only [Act.put, List.setIfInBounds_toArray, List.set_cons_zero, List.set_cons_succ]))
        (refine wpAnyIn_ready (rs := [4]) (by kernel_rfl) (by simp) ?_; refine AllReadyIn.cons rfl (fun K hK => ?_) (AllReadyIn.nil))
        (go_simp; (refine ⟨trivial, ?_⟩); gi_at_call 50; refine (callsIn_wide.2 (HPASS.out _ (by (repeat (first | (with_reducible exact Kept.refl _ _) | (with_reducible assumption) | (with_reducible refine Kept.alloc ?_ _) | (with_reducible refine Kept.drew ?_) | (with_reducible refine Kept.drewN ?_ _) | (with_reducible refine Kept.setCell ?_ ?_ _) | (exact .inr (Nat.le_refl _)) | (exact .inr (by simp only; omega)) | (exact .inr (by omega))))))).mono ?_; rintro e W1 ⟨rfl, a4, ha4, hl4, hk4⟩; have HL4 := Lib.hid hl4; have HA4 := Lib.hid ha4; have HK4 := Lib.hid hk4; have HX4 := Lib.hid (HX.out.kept hk4 HFX.out); have HV4 := Lib.hid (HV.out.kept hk4 HFO.out); have hcx4 := HX4.out.cell 0; have hlx4 := HX4.out.lt; have hcv4 := HV4.out.cell 0; have hlv4 := HV4.out.lt; obtain ⟨A2, c2, w3, hrun, hr1, hr2, hr3⟩ := HAPP.out W1 hk4; have hc5 := hr3.out.cell 0; have hf5 := hr3.out.frozen 0; have hl5 := hr3.out.lt; clear hl4 hk4 ha4; (try go_simp); refine hK _ _ ?_; clear hK K; (try simp only [Act.put, List.setIfInBounds_toArray, List.set_cons_zero, List.set_cons_succ]))
        (refine wpAnyIn_take (i := 5) (v := ?_) rfl rfl (by kernel_rfl) (by kernel_rfl) (by kernel_rfl) (fun _ _ _ h => h) ⟨Or.inl ⟨by rfl, ?_⟩, fun _ => rfl⟩ ?_; rotate_left; focus ((intro w; go_simp); try (with_reducible rfl)); (try simp only [Act.put, List.setIfInBounds_toArray, List.set_cons_zero, List.set_cons_succ]))
        (refine wpAnyIn_ready (rs := [6]) (by kernel_rfl) (by simp) ?_; refine AllReadyIn.cons rfl (fun K hK => ?_) (AllReadyIn.nil))
        (go_simp; refine hK _ _ ?_; clear hK K; (try simp only [Act.put, List.setIfInBounds_toArray, List.set_cons_zero, List.set_cons_succ]))
        (refine wpAnyIn_ready (rs := [7]) (by kernel_rfl) (by simp) ?_; refine AllReadyIn.cons rfl (fun K hK => ?_) (AllReadyIn.nil))
        (refine wpIn_append_run (.tmp 36) (.tmp 42) 59 rfl rfl hrun ?_; refine hK _ _ ?_; clear hK K; (try simp only [Act.put, List.setIfInBounds_toArray, List.set_cons_zero, List.set_cons_succ]))
        (refine wpAnyIn_ready (rs := [8]) (by kernel_rfl) (by simp) ?_; refine AllReadyIn.cons rfl (fun K hK => ?_) (AllReadyIn.nil))
        (go_simp; refine hK _ _ ?_; clear hK K; (try simp only [Act.put, List.setIfInBounds_toArray, List.set_cons_zero, List.set_cons_succ]))
        refine wpAnyIn_done (by kernel_rfl) ?_ _
        gi_wp2
        exact HFIN.out _ _ _ _ _ HL4.out HA4.out HK4.out hr1.out hr2.out hr3.out HV4.out HX4.out
      · (go_simp; refine hK _ _ ?_; clear hK K; (try simp only [Act.put, List.setIfInBounds_toArray, List.set_cons_zero, List.set_cons_succ]))
        (refine wpAnyIn_ready (rs := [0, 4]) (by kernel_rfl) (by simp) ?_; refine AllReadyIn.cons rfl (fun K hK => ?_) (AllReadyIn.cons rfl (fun K hK => ?_) (AllReadyIn.nil)))
        · (go_simp; refine hK _ _ ?_; clear hK K; (try simp only [Act.put, List.setIfInBounds_toArray, List.set_cons_zero, List.set_cons_succ]))
          (refine wpAnyIn_ready (rs := [4]) (by kernel_rfl) (by simp) ?_; refine AllReadyIn.cons rfl (fun K hK => ?_) (AllReadyIn.nil))
          (go_simp; (refine ⟨trivial, ?_⟩); gi_at_call 50; refine (callsIn_wide.2 (HPASS.out _ (by (repeat (first | (with_reducible exact Kept.refl _ _) | (with_reducible assumption) | (with_reducible refine Kept.alloc ?_ _) | (with_reducible refine Kept.drew ?_) | (with_reducible refine Kept.drewN ?_ _) | (with_reducible refine Kept.setCell ?_ ?_ _) | (exact .inr (Nat.le_refl _)) | (exact .inr (by simp only; omega)) | (exact .inr (by omega))))))).mono ?_; rintro e W1 ⟨rfl, a4, ha4, hl4, hk4⟩; have HL4 := Lib.hid hl4; have HA4 := Lib.hid ha4; have HK4 := Lib.hid hk4; have HX4 := Lib.hid (HX.out.kept hk4 HFX.out); have HV4 := Lib.hid (HV.out.kept hk4 HFO.out); have hcx4 := HX4.out.cell 0; have hlx4 := HX4.out.lt; have hcv4 := HV4.out.cell 0; have hlv4 := HV4.out.lt; obtain ⟨A2, c2, w3, hrun, hr1, hr2, hr3⟩ := HAPP.out W1 hk4; have hc5 := hr3.out.cell 0; have hf5 := hr3.out.frozen 0; have hl5 := hr3.out.lt; clear hl4 hk4 ha4; (try go_simp); refine hK _ _ ?_; clear hK K; (try simp only [Act.put, List.setIfInBounds_toArray, List.set_cons_zero, List.set_cons_succ]))
          (refine wpAnyIn_take (i := 5) (v := ?_) rfl rfl (by kernel_rfl) (by kernel_rfl) (by kernel_rfl) (fun _ _ _ h => h) ⟨Or.inl ⟨by rfl, ?_⟩, fun _ => rfl⟩ ?_; rotate_left; focus ((intro w; go_simp); try (with_reducible rfl)); (try simp only [Act.put, List.setIfInBounds_toArray, List.set_cons_zero, List.set_cons_succ]))
          (refine wpAnyIn_ready (rs := [6]) (by kernel_rfl) (by simp) ?_; refine AllReadyIn.cons rfl (fun K hK => ?_) (AllReadyIn.nil))
          (go_simp; refine hK _ _ ?_; clear hK K; (try simp only [Act.put, List.setIfInBounds_toArray, List.set_cons_zero, List.set_cons_succ]))
          (refine wpAnyIn_ready (rs := [7]) (by kernel_rfl) (by simp) ?_; refine AllReadyIn.cons rfl (fun K hK => ?_) (AllReadyIn.nil))
          (refine wpIn_append_run (.tmp 36) (.tmp 42) 59 rfl rfl hrun ?_; refine hK _ _ ?_; clear hK K; (try simp only [Act.put, List.setIfInBounds_toArray, List.set_cons_zero, List.set_cons_succ]))
          (refine wpAnyIn_ready (rs := [8]) (by kernel_rfl) (by simp) ?_; refine AllReadyIn.cons rfl (fun K hK => ?_) (AllReadyIn.nil))
          (go_simp; refine hK _ _ ?_; clear hK K; (try simp only [Act.put, List.setIfInBounds_toArray, List.set_cons_zero, List.set_cons_succ]))
          refine wpAnyIn_done (by kernel_rfl) ?_ _
          gi_wp2
          exact HFIN.out _ _ _ _ _ HL4.out HA4.out HK4.out hr1.out hr2.out hr3.out HV4.out HX4.out
        · (go_simp; (refine ⟨trivial, ?_⟩); gi_at_call 50; refine (callsIn_wide.2 (HPASS.out _ (by (repeat (first | (with_reducible exact Kept.refl _ _) | (with_reducible assumption) | (with_reducible refine Kept.alloc ?_ _) | (with_reducible refine Kept.drew ?_) | (with_reducible refine Kept.drewN ?_ _) | (with_reducible refine Kept.setCell ?_ ?_ _) | (exact .inr (Nat.le_refl _)) | (exact .inr (by simp only; omega)) | (exact .inr (by omega))))))).mono ?_; rintro e W1 ⟨rfl, a4, ha4, hl4, hk4⟩; have HL4 := Lib.hid hl4; have HA4 := Lib.hid ha4; have HK4 := Lib.hid hk4; have HX4 := Lib.hid (HX.out.kept hk4 HFX.out); have HV4 := Lib.hid (HV.out.kept hk4 HFO.out); have hcx4 := HX4.out.cell 0; have hlx4 := HX4.out.lt; have hcv4 := HV4.out.cell 0; have hlv4 := HV4.out.lt; obtain ⟨A2, c2, w3, hrun, hr1, hr2, hr3⟩ := HAPP.out W1 hk4; have hc5 := hr3.out.cell 0; have hf5 := hr3.out.frozen 0; have hl5 := hr3.out.lt; clear hl4 hk4 ha4; (try go_simp); refine hK _ _ ?_; clear hK K; (try simp only [Act.put, List.setIfInBounds_toArray, List.set_cons_zero, List.set_cons_succ]))
          (refine wpAnyIn_take (i := 5) (v := ?_) rfl rfl (by kernel_rfl) (by kernel_rfl) (by kernel_rfl) (fun _ _ _ h => h) ⟨Or.inl ⟨by rfl, ?_⟩, fun _ => rfl⟩ ?_; rotate_left; focus ((intro w; go_simp); try (with_reducible rfl)); (try simp only [Act.put, List.setIfInBounds_toArray, List.set_cons_zero, List.set_cons_succ]))
          (refine wpAnyIn_ready (rs := [0, 6]) (by kernel_rfl) (by simp) ?_; refine AllReadyIn.cons rfl (fun K hK => ?_) (AllReadyIn.cons rfl (fun K hK => ?_) (AllReadyIn.nil)))
          · (go_simp; refine hK _ _ ?_; clear hK K; (try simp only [Act.put, List.setIfInBounds_toArray, List.set_cons_zero, List.set_cons_succ]))
            (refine wpAnyIn_ready (rs := [6]) (by kernel_rfl) (by simp) ?_; refine AllReadyIn.cons rfl (fun K hK => ?_) (AllReadyIn.nil))
            (go_simp; refine hK _ _ ?_; clear hK K; (try simp only [Act.put, List.setIfInBounds_toArray, List.set_cons_zero, List.set_cons_succ]))
            (refine wpAnyIn_ready (rs := [7]) (by kernel_rfl) (by simp) ?_; refine AllReadyIn.cons rfl (fun K hK => ?_) (AllReadyIn.nil))
            (refine wpIn_append_run (.tmp 36) (.tmp 42) 59 rfl rfl hrun ?_; refine hK _ _ ?_; clear hK K; (try simp only [Act.put, List.setIfInBounds_toArray, List.set_cons_zero, List.set_cons_succ]))
            (refine wpAnyIn_ready (rs := [8]) (by kernel_rfl) (by simp) ?_; refine AllReadyIn.cons rfl (fun K hK => ?_) (AllReadyIn.nil))
            (go_simp; refine hK _ _ ?_; clear hK K; (try simp only [Act.put, List.setIfInBounds_toArray, List.set_cons_zero, List.set_cons_succ]))
            refine wpAnyIn_done (by kernel_rfl) ?_ _
            gi_wp2
            exact HFIN.out _ _ _ _ _ HL4.out HA4.out HK4.out hr1.out hr2.out hr3.out HV4.out HX4.out
          · (go_simp; refine hK _ _ ?_; clear hK K; (try simp only [Act.put, List.setIfInBounds_toArray, List.set_cons_zero, List.set_cons_succ]))
            (refine wpAnyIn_ready (rs := [0]) (by kernel_rfl) (by simp) ?_; refine AllReadyIn.cons rfl (fun K hK => ?_) (AllReadyIn.nil))
            (go_simp; refine hK _ _ ?_; clear hK K; (try simp only [Act.put, List.setIfInBounds_toArray, List.set_cons_zero, List.set_cons_succ]))
            (refine wpAnyIn_ready (rs := [7]) (by kernel_rfl) (by simp) ?_; refine AllReadyIn.cons rfl (fun K hK => ?_) (AllReadyIn.nil))
            (refine wpIn_append_run (.tmp 36) (.tmp 42) 59 rfl rfl hrun ?_; refine hK _ _ ?_; clear hK K; (try simp only [Act.put, List.setIfInBounds_toArray, List.set_cons_zero, List.set_cons_succ]))
            (refine wpAnyIn_ready (rs := [8]) (by kernel_rfl) (by simp) ?_; refine AllReadyIn.cons rfl (fun K hK => ?_) (AllReadyIn.nil))
            (go_simp; refine hK _ _ ?_; clear hK K; (try simp only [Act.put, List.setIfInBounds_toArray, List.set_cons_zero, List.set_cons_succ]))
            refine wpAnyIn_done (by kernel_rfl) ?_ _
            gi_wp2
            exact HFIN.out _ _ _ _ _ HL4.out HA4.out HK4.out hr1.out hr2.out hr3.out HV4.out HX4.out


end Go.Proofs.YtfoeijiejpenpaaGreatDoor
