/- Locks: Owned, walked; what lies apart from locks stays. -/
import Derived.Test.YtfoeijiejpenpaaGreatDoorLkU
import Derived.Test.YtfoeijiejpenpaaGreatDoorLkE
namespace Go.Proofs.YtfoeijiejpenpaaGreatDoor
open Go.RowKit

/-- The set of the locks that a thread owns. -/
def ownN (s : Lk) (t : Int) : Nat := if 0 ≤ t ∧ t < s.eff.length then setN (fun l => getO s.owner l == t) s.lines.length else 0
theorem ownN_lt {s : Lk} {K : Nat} (h : s.Whole K) (t : Int) : ownN s t < 18446744073709551616 := by
  unfold ownN
  split
  · exact setN_lt _ _ h.nl
  · omega
theorem ownN_bits {s : Lk} {K : Nat} (h : s.Whole K) {t : Int} (ht : 0 ≤ t ∧ t < s.eff.length) : bitsL (ownN s t) = ownedL s t := by
  unfold ownN ownedL
  rw [if_pos ht]
  exact bitsL_setN _ _ h.nl

set_option maxHeartbeats 3200000 in
theorem lkOwned_any {w : World} {a : LkA} {s : Lk} {K : Nat} (h : LkAt w a s) (hw : s.Whole K) (t : Int) :
    Calls Tryz.prog 35 #[.pointer (some ⟨a.g, 0, none⟩), .int .i64 t] w fun e w' => e = .returned (.int .u64 (ownN s t : Nat)) ∧ w = w' := by
  have HT := Lib.hid (lkthread_any h t)
  have HO := Lib.hid (fun l => wbOwner_any (h.web hw) l)
  have hc0 : w.cell? ⟨a.g, 0, none⟩ = some (.pointer (some ⟨a.gw, 0, none⟩)) := h.blk.cell 0
  have hc1 : w.cell? ⟨a.g, 1, none⟩ = some (.slice a.AL s.lines.length a.cL) := h.blk.cell 1
  have hl := h.blk.lt
  have hnl := hw.nl
  unfold ownN
  by_cases ct : 0 ≤ t ∧ t < s.eff.length
  · rw [if_pos ct]
    have hd : decide (0 ≤ t ∧ t < (s.eff.length : Int)) = true := by simp; omega
    rw [hd] at HT
    clear hd ct h hw
    generalize s.lines.length = m at *
    go_enter Tryz.func35, Tryz.ntmps35
    go_wp2_with fail
    refine (HT.out).mono ?_
    rintro e w1 ⟨rfl, rfl⟩
    go_wp2_with fail
    go_loopw [5, 17] (fun sv kv wr => ∃ (k S : Nat), k ≤ m ∧ kv = .int .i64 k ∧ sv = .int .u64 S ∧ Hid (S = setN (fun l => getO s.owner l == t) k) ∧ wr = w) (fun _ kv _ => m - (intOf kv).toNat)
    case atStart => exact ⟨0, 0, by omega, rfl, rfl, (by show 0 = setN _ 0; rfl), rfl⟩
    case round =>
      obtain ⟨k, S0, hk1, rfl, rfl, HS0, rfl⟩ := hrel
      by_cases hlt : k < m
      · have HOK := Lib.hid (HO.out k)
        have hsl : S0 < 18446744073709551616 := by have := setN_lt (fun l => getO s.owner l == t) k (by omega); rw [HS0.out]; exact this
        have HW := Lib.hid (sWith_any S0 k wr hsl (by omega))
        have HS : Hid ((if (getO s.owner k == t) = true then S0 ||| 2 ^ k else S0) = setN (fun l => getO s.owner l == t) (k + 1)) := by
          show _ = setN _ (k + 1)
          rw [setN, HS0.out]
        generalize getO s.owner k = o at *
        generalize S0 ||| 2 ^ k = S2 at *
        have hi0 : (0 : Int) ≤ (k : Int) := by omega
        have hi1 : (k : Int) < (m : Int) := by omega
        by_cases ho : o = t
        · subst ho
          have hs1 : Hid (S2 = setN (fun l => getO s.owner l == o) (k + 1)) := by have := HS.out; rw [if_pos (by simp)] at this; exact this
          clear HS HS0
          go_wp2_with fail
          refine (HOK.out).mono ?_
          rintro e w1 ⟨rfl, rfl⟩
          go_wp2_with fail
          refine (HW.out).mono ?_
          rintro e w1 ⟨rfl, rfl⟩
          go_wp2_with fail
          go_roundw
          case rel => exact ⟨k + 1, S2, by omega, by go_num, rfl, hs1, by first | rfl | trivial⟩
          case measure => simp [intOf]; omega
        · have hb : (o == t) = false := beq_eq_false_iff_ne.2 ho
          have hs1 : Hid (S0 = setN (fun l => getO s.owner l == t) (k + 1)) := by have := HS.out; rw [if_neg (by rw [hb]; simp)] at this; exact this
          clear HS ho HS0
          go_wp2_with fail
          refine (HOK.out).mono ?_
          rintro e w1 ⟨rfl, rfl⟩
          go_wp2_with fail
          go_roundw
          case rel => exact ⟨k + 1, S0, by omega, by go_num, rfl, hs1, by first | rfl | trivial⟩
          case measure => simp [intOf]; omega
      · obtain rfl : k = m := by omega
        go_wp2_with fail
        go_ret
        rw [← HS0.out]
        exact ⟨rfl, by first | rfl | trivial⟩
  · rw [if_neg ct]
    have hd : decide (0 ≤ t ∧ t < (s.eff.length : Int)) = false := by simp; omega
    rw [hd] at HT
    clear hd ct h hw
    go_enter Tryz.func35, Tryz.ntmps35
    go_wp2_with fail
    refine (HT.out).mono ?_
    rintro e w1 ⟨rfl, rfl⟩
    go_wp2_with fail
    go_ret
    exact ⟨rfl, rfl⟩

/-- The blocks of locks. -/
def fpL (a : LkA) (s : Lk) : List Nat := (lkP a s).flatMap Piece.fp
theorem fpL_mem {a : LkA} {s : Lk} {k : Nat} : k ∈ fpL a s ↔ ∃ p ∈ lkP a s, k ∈ p.fp := List.mem_flatMap
theorem LkIs.self {w0 : Base} {w : World} {a : LkA} {s : Lk} (h : LkIs w0 w a s) : LkIs ⟨w, fpL a s⟩ w a s := ⟨h.at_, fun p hp k hk => .inl (fpL_mem.2 ⟨p, hp, hk⟩), Kept.refl _ _⟩
theorem LkIs.fp_new {w0 : Base} {w : World} {a : LkA} {s : Lk} (h : LkIs w0 w a s) {k : Nat} (hk : k ∈ fpL a s) : k ∈ w0.F ∨ w0.w.heap.size ≤ k := by
  obtain ⟨q, hq, hk'⟩ := fpL_mem.1 hk
  exact h.new q hq k hk'
theorem LkIs.back {w0 : Base} {w w' : World} {a a' : LkA} {s s' : Lk} (h : LkIs w0 w a s) (h' : LkIs ⟨w, fpL a s⟩ w' a' s') : LkIs w0 w' a' s' :=
  ⟨h'.at_, fun p hp k hk => by
    rcases h'.new p hp k hk with h1 | h1
    · exact h.fp_new h1
    · exact .inr (Nat.le_trans h.kept.size h1), h.kept.trans' h'.kept (fun k hk => h.fp_new hk)⟩
theorem LkIsJ.self {w0 : Base} {w : World} {a : LkA} {s : Lk} {js : List (List Int)} {m : Nat} (h : LkIsJ w0 w a s js m) : LkIsJ ⟨w, fpL a s⟩ w a s js m := ⟨h.is.self, h.len, h.map_⟩
theorem LkIsJ.back {w0 : Base} {w w' : World} {a a' : LkA} {s s' : Lk} {js js' : List (List Int)} {m m' : Nat} (h : LkIsJ w0 w a s js m) (h' : LkIsJ ⟨w, fpL a s⟩ w' a' s' js' m') : LkIsJ w0 w' a' s' js' m' := ⟨h.is.back h'.is, h'.len, h'.map_⟩

/-- A piece's type. -/
def Piece.ty : Piece → Option TypeId
  | .blk _ t _ => some t
  | .row e _ _ _ _ => some e
  | .obj _ _ => none
theorem Piece.no_blk {w : World} {p : Piece} (hp : p.holds w) (ho : ∀ b o, p = .obj b o → o.isCells = false) {g : Nat} {t : TypeId} {cs : Array Value} (hb : Blk w g t cs) (hne : p.ty ≠ some t) : g ∉ p.fp := by
  cases p with
  | blk g' t' cs' =>
    simp only [Piece.fp, List.mem_singleton]
    exact Blk.ne hb hp (fun e => hne (by rw [e]; rfl))
  | row e s v n xs => exact fun hm => own_blk_ne hp hb (fun e2 => hne (by rw [← e2]; rfl)) (mem_fp.1 hm)
  | obj g' o =>
    simp only [Piece.fp, List.mem_singleton]
    rintro rfl
    have h1 : w.heap[g]? = some o := hp
    have h2 := ho g o rfl
    rw [show w.heap[g]? = _ from hb] at h1
    cases h1; cases h2
theorem Piece.no_row {w : World} {p : Piece} (hp : p.holds w) (ho : ∀ b o, p = .obj b o → o.isCells = false) {b e s n : Nat} {v : Value} {xs : List Value} (hr : w.ownsRow b e s v n xs) (hne : p.ty ≠ some e) : ∀ k, k ∈ Go.Proofs.YtfoeijiejpenpaaGreatDoor.fp v → k ∉ p.fp := by
  intro k hk
  cases p with
  | blk g' t' cs' =>
    simp only [Piece.fp, List.mem_singleton]
    rintro rfl
    exact own_blk_ne hr hp (fun e2 => hne (by rw [e2]; rfl)) (mem_fp.1 hk)
  | row e' s' v' n' xs' => exact fun hm => own_own_ne hr hp (fun e2 => hne (by rw [e2]; rfl)) k hk hm
  | obj g' o =>
    simp only [Piece.fp, List.mem_singleton]
    rintro rfl
    have h1 : w.heap[k]? = some o := hp
    have h2 := ho k o rfl
    rcases hr.2 with ⟨rfl, _⟩ | ⟨g, cap, cur, rfl, _, hgb, _⟩
    · simp [Go.Proofs.YtfoeijiejpenpaaGreatDoor.fp, Value.ownBlock] at hk
    · simp [Go.Proofs.YtfoeijiejpenpaaGreatDoor.fp, Value.ownBlock] at hk
      subst hk
      rw [hgb] at h1; cases h1; cases h2
/-- The types of locks' pieces. -/
def tysL : List TypeId := [47, 83, 3, 85, 48, 91, 108]
theorem lkP_ty {a : LkA} {s : Lk} {p : Piece} (hp : p ∈ lkP a s) : (∃ t ∈ tysL, p.ty = some t) ∨ p ∈ a.ex := by
  simp only [lkP, List.mem_cons, List.mem_append, List.mem_flatMap] at hp
  rcases hp with rfl | rfl | rfl | rfl | rfl | rfl | rfl | rfl | rfl | ⟨x, _, hx⟩ | hp
  · exact .inl ⟨47, by decide, rfl⟩
  · exact .inl ⟨83, by decide, rfl⟩
  · exact .inl ⟨3, by decide, rfl⟩
  · exact .inl ⟨85, by decide, rfl⟩
  · exact .inl ⟨3, by decide, rfl⟩
  · exact .inl ⟨3, by decide, rfl⟩
  · exact .inl ⟨3, by decide, rfl⟩
  · exact .inl ⟨3, by decide, rfl⟩
  · exact .inl ⟨48, by decide, rfl⟩
  · simp only [lineP, List.mem_cons, List.not_mem_nil, or_false] at hx
    rcases hx with rfl | rfl
    · exact .inl ⟨91, by decide, rfl⟩
    · exact .inl ⟨108, by decide, rfl⟩
  · exact .inr hp
/-- The further pieces of locks: a map, and rows of numbers. -/
def ExJ (a : LkA) : Prop := ∃ jb o rs, a.J = .map (some jb) ∧ a.ex = .obj jb o :: rs ∧ o.isCells = false ∧ ∀ p ∈ rs, p.ty = some 3
theorem LkIsJ.exJ {w0 : Base} {w : World} {a : LkA} {s : Lk} {js : List (List Int)} {m : Nat} (h : LkIsJ w0 w a s js m) : ExJ a := by
  obtain ⟨jb, o, vs, hJ, hx, _, hM⟩ := h.map_
  refine ⟨jb, o, _, hJ, hx, ?_, fun p hp => ?_⟩
  · obtain ⟨_, es, clock, rfl, _⟩ := hM
    rfl
  · obtain ⟨x, _, rfl⟩ := List.mem_map.1 hp
    rfl
theorem ExJ.key {a a' : LkA} (h : ExJ a) (hk : a'.key = a.key) : ExJ a' := by
  obtain ⟨jb, o, rs, h1, h2, h3⟩ := h
  exact ⟨jb, o, rs, (congrArg (fun x => x.2.1) hk).trans h1, (congrArg (fun x => x.2.2) hk).trans h2, h3⟩
theorem ExJ.piece {a : LkA} (h : ExJ a) {s : Lk} {p : Piece} (hp : p ∈ lkP a s) : (∀ b o, p = .obj b o → o.isCells = false ∧ a.J = .map (some b)) ∧ (p.ty = none ∨ ∃ t ∈ tysL, p.ty = some t) := by
  obtain ⟨jb, o, rs, h1, h2, h3, h4⟩ := h
  rcases lkP_ty hp with ⟨t, ht, e⟩ | hx
  · exact ⟨fun b o he => (by subst he; cases e), .inr ⟨t, ht, e⟩⟩
  · rw [h2] at hx
    rcases List.mem_cons.1 hx with rfl | hx
    · exact ⟨fun b o' he => by cases he; exact ⟨h3, h1⟩, .inl rfl⟩
    · have e := h4 p hx
      exact ⟨fun b o he => (by subst he; cases e), .inr ⟨3, by decide, e⟩⟩
theorem LkAt.no_blk {w : World} {a : LkA} {s : Lk} (h : LkAt w a s) (hx : ExJ a) {g : Nat} {t : TypeId} {cs : Array Value} (hb : Blk w g t cs) (ht : t ∉ tysL) : g ∉ fpL a s := fun hm => by
  obtain ⟨p, hp, hk⟩ := fpL_mem.1 hm
  have h2 := hx.piece hp
  refine Piece.no_blk (h.2.1 p hp) (fun b o e => (h2.1 b o e).1) hb (fun e => ?_) hk
  rcases h2.2 with e2 | ⟨t', ht', e2⟩
  · rw [e] at e2; cases e2
  · rw [e] at e2; cases e2; exact ht ht'
theorem LkAt.no_row {w : World} {a : LkA} {s : Lk} (h : LkAt w a s) (hx : ExJ a) {b e z n : Nat} {v : Value} {xs : List Value} (hr : w.ownsRow b e z v n xs) (ht : e ∉ tysL) : ∀ k, k ∈ fp v → k ∉ fpL a s := fun k hk hm => by
  obtain ⟨p, hp, hk'⟩ := fpL_mem.1 hm
  have h2 := hx.piece hp
  refine Piece.no_row (h.2.1 p hp) (fun b o e => (h2.1 b o e).1) hr (fun e => ?_) k hk hk'
  rcases h2.2 with e2 | ⟨t', ht', e2⟩
  · rw [e] at e2; cases e2
  · rw [e] at e2; cases e2; exact ht ht'
theorem LkAt.db {w : World} {w0 : Base} {a : LkA} {s : Lk} (h : LkIs w0 w a s) (hg : 0 ∉ w0.F) (hl : 0 < w0.w.heap.size) : 0 ∉ fpL a s := fun hm => by
  rcases h.fp_new hm with h1 | h1
  · exact hg h1
  · omega

end Go.Proofs.YtfoeijiejpenpaaGreatDoor
