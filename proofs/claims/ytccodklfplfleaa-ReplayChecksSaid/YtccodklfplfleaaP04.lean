/- Package nums: decimal texts; Package nums: Read, and the document's Decimal and Read; Package nums: Int, and the document's Int; Package deed: the pieces of Parse; Package deed: the words of a line, taken one by one; Slices of deeds; packages prog and sums, and the document's: Check, cost, Add; Slices of deeds that a call has made; Duties in memory: the cells of a duty, slices of starts, slices of programs; Events: which may be, walked; slices of events. -/
import Derived.Test.YtccodklfplfleaaP02
import Derived.Laws.RangeString
import Derived.Laws.RangeAny
import Derived.Test.YtccodklfplfleaaP03
import Derived.Deep.QuietTactic
import Derived.BigQuiet
import Derived.Test.YtccodklfplfleaaP00
import Derived.Test.YtccodklfplfleaaP01
import Derived.Laws.Externs
import Derived.Test.YtccodklfplfleaaProg
import Derived.WalkKit

/- Package nums: decimal texts. -/
namespace Go.Proofs.Ytccodklfplfleaa
open Go.RowKit

end Go.Proofs.Ytccodklfplfleaa

/- Package nums: Read, and the document's Decimal and Read. -/
namespace Go.Proofs.Ytccodklfplfleaa
open Go.RowKit

end Go.Proofs.Ytccodklfplfleaa

/- Package nums: Int, and the document's Int. -/
namespace Go.Proofs.Ytccodklfplfleaa
open Go.RowKit

end Go.Proofs.Ytccodklfplfleaa

/- Package deed: the pieces of Parse. -/
namespace Go.Proofs.Ytccodklfplfleaa
open Go.RowKit

end Go.Proofs.Ytccodklfplfleaa

/- Package deed: the words of a line, taken one by one. -/
namespace Go.Proofs.Ytccodklfplfleaa
open Go.RowKit

theorem ret_int {k : IntKind} {a b : Int} (h : a = b) : Ending.returned (.int k a) = .returned (.int k b) := by rw [h]

end Go.Proofs.Ytccodklfplfleaa

/- Slices of deeds; packages prog and sums, and the document's: Check, cost, Add. -/
namespace Go.Proofs.Ytccodklfplfleaa
open Go.RowKit

theorem Try.info47 : (Try.prog.info? 47).map (fun i => (i.zero, i.size, i.bytes)) = some (some (.agg (dC 0 0 0 0 0 0 false)), 7, 56) := by kernel_rfl
theorem Try.size47 : (Try.prog.info? 47).map (·.size) = some 7 := by kernel_rfl
/-- A deed's cells, as a list. -/
def dL (d : Dd) : List Value := (dC d.op d.a d.b d.r d.n d.mask d.loose).toList
theorem dL_len (d : Dd) : (dL d).length = 7 := rfl
/-- A slice of deeds. -/
def ReadsD (w : World) (A : Option Addr) (n : Nat) (l : List Dd) : Prop := Reads w 7 A n (l.flatMap dL)
theorem ReadsD.len {w : World} {A : Option Addr} {n : Nat} {l : List Dd} (h : ReadsD w A n l) : n = l.length := Reads.lenK dL 7 dL_len h (by omega)
theorem ReadsD.old {w w' : World} {A : Option Addr} {n : Nat} {l : List Dd} (h : ReadsD w A n l) (hk : Kept [] w w') : ReadsD w' A n l := Reads.old h hk
theorem ReadsD.at_ {w : World} {A : Option Addr} {n : Nat} {l : List Dd} (h : ReadsD w A n l) {k : Nat} (hk : k < l.length) : ∃ (d : Dd) (b o : Nat), A = some ⟨b, o, none⟩ ∧ l[k]? = some d ∧ b < w.heap.size ∧
    w.cell? ⟨b, o + k * 7, none⟩ = some (.int .i64 d.op) ∧ w.cell? ⟨b, o + k * 7 + 1, none⟩ = some (.int .i64 d.a) ∧ w.cell? ⟨b, o + k * 7 + 2, none⟩ = some (.int .i64 d.b) ∧ w.cell? ⟨b, o + k * 7 + 3, none⟩ = some (.int .i64 d.r) ∧
    w.cell? ⟨b, o + k * 7 + 4, none⟩ = some (.int .u64 d.n) ∧ w.cell? ⟨b, o + k * 7 + 5, none⟩ = some (.int .u64 d.mask) ∧ w.cell? ⟨b, o + k * 7 + 6, none⟩ = some (.bool d.loose) := by
  have hn := h.len
  obtain ⟨b, o, rfl, hb, hc⟩ := Reads.cellsK dL 7 dL_len h (by omega) (by omega)
  have hx : l[k]? = some l[k] := List.getElem?_eq_getElem hk
  exact ⟨l[k], b, o, rfl, hx, hb, hc k _ hx 0 (by omega), hc k _ hx 1 (by omega), hc k _ hx 2 (by omega), hc k _ hx 3 (by omega), hc k _ hx 4 (by omega), hc k _ hx 5 (by omega), hc k _ hx 6 (by omega)⟩
theorem take_snoc {l : List Dd} {k : Nat} {d : Dd} (h : l[k]? = some d) : l.take (k + 1) = l.take k ++ [d] := by rw [List.take_add_one, h]; rfl
theorem mem_take_succ {l : List Dd} {k : Nat} {d : Dd} (h : l[k]? = some d) {P : Dd → Prop} (hp : ∀ x ∈ l.take k, P x) (hd : P d) : ∀ x ∈ l.take (k + 1), P x := by
  intro x hx
  rw [take_snoc h] at hx
  rcases List.mem_append.1 hx with hx | hx
  · exact hp x hx
  · simp at hx; subst hx; exact hd

set_option maxHeartbeats 1600000 in
set_option maxRecDepth 100000 in
theorem pcheck_any (A : Option Addr) (n c : Nat) (l : List Dd) (w : World) (hr : ReadsD w A n l) (hn : n ≤ 9223372036854775807) : Calls Try.prog 50 #[.slice A n c] w fun e w' => e = .returned (.int .i64 (checkP l)) ∧ Kept [] w w' := by
  obtain rfl := hr.len
  have HR := Lib.hid hr
  clear hr
  by_cases hl : 256 < l.length
  · have HV := Lib.hid (checkP_long hl)
    go_enter Try.func50, Try.ntmps50
    go_wp2_with fail
    go_ret
    exact ⟨ret_int (by rw [HV.out]; try rfl), Kept.refl _ _⟩
  · have hl2 : l.length ≤ 256 := by omega
    go_enter Try.func50, Try.ntmps50
    go_wp2_with fail
    go_loopw [10] (fun kv wr => ∃ k : Nat, k ≤ l.length ∧ kv = .int .i64 k ∧ Hid (∀ d ∈ l.take k, goodD d = true) ∧ Hid (Kept [] w wr)) (fun k _ => l.length - (intOf k).toNat)
    case atStart => exact ⟨0, by omega, rfl, (fun d hd => by simp at hd), Kept.refl _ _⟩
    case round =>
      obtain ⟨k, hk1, rfl, HG, HK⟩ := hrel
      by_cases hlt : k < l.length
      · obtain ⟨d, b, o, rfl, hx, hb, hc0, hc1, hc2, hc3, hc4, hc5, hc6⟩ := (HR.out.old HK.out).at_ hlt
        have hi0 : (0 : Int) ≤ (k : Int) := by omega
        have hi1 : (k : Int) < (l.length : Int) := by omega
        have HX := Lib.hid hx
        have HGD := Lib.hid (fun w => good_any d.op d.a d.b d.r d.n d.mask d.loose w)
        obtain ⟨gd, hgd⟩ : ∃ gd, goodD d = gd := ⟨_, rfl⟩
        have HGV := Lib.hid hgd
        obtain ⟨o1, a1, b1, r1, n1, m1, l1⟩ := d
        simp only at hc0 hc1 hc2 hc3 hc4 hc5 hc6 HGD
        rw [hgd] at HGD
        clear hx hgd
        cases gd
        · have HV : Hid (checkP l = 1) := checkP_bad hl2 (List.mem_of_getElem? HX.out) HGV.out
          go_wp2_with fail
          refine (HGD.out _).mono ?_
          rintro e w1 ⟨rfl, hk2⟩
          have HK2 := Lib.hid (((HK.out.alloc _)).trans hk2)
          clear hk2
          go_wp2_with fail
          go_ret
          exact ⟨ret_int (by rw [HV.out]; try rfl), HK2.out⟩
        · go_wp2_with fail
          refine (HGD.out _).mono ?_
          rintro e w1 ⟨rfl, hk2⟩
          have HK2 := Lib.hid (((HK.out.alloc _)).trans hk2)
          clear hk2
          go_wp2_with fail
          go_roundw
          case rel => exact ⟨k + 1, by omega, by go_num, mem_take_succ HX.out HG.out HGV.out, HK2⟩
          case measure => simp [intOf]; omega
      · obtain rfl : k = l.length := by omega
        have HV : Hid (checkP l = 0) := checkP_good hl2 (by have := HG.out; rwa [List.take_of_length_le (Nat.le_refl _)] at this)
        go_wp2_with fail
        go_ret
        exact ⟨ret_int (by rw [HV.out]; try rfl), HK.out⟩

set_option maxHeartbeats 1600000 in
set_option maxRecDepth 100000 in
theorem refCheckP (A : Option Addr) (n c : Nat) (l : List Dd) (w : World) (hr : ReadsD w A n l) (hn : n ≤ 9223372036854775807) : Calls Try.prog 22 #[.slice A n c] w fun e w' => e = .returned (.int .i64 (checkP l)) ∧ Kept [] w w' := by
  obtain rfl := hr.len
  have HR := Lib.hid hr
  clear hr
  by_cases hl : 256 < l.length
  · have HV := Lib.hid (checkP_long hl)
    go_enter Try.func22, Try.ntmps22
    go_wp2_with fail
    go_ret
    exact ⟨ret_int (by rw [HV.out]; try rfl), Kept.refl _ _⟩
  · have hl2 : l.length ≤ 256 := by omega
    go_enter Try.func22, Try.ntmps22
    go_wp2_with fail
    go_loopw [3] (fun kv wr => ∃ k : Nat, k ≤ l.length ∧ kv = .int .i64 k ∧ Hid (∀ d ∈ l.take k, goodD d = true) ∧ Hid (Kept [] w wr)) (fun k _ => l.length - (intOf k).toNat)
    case atStart => exact ⟨0, by omega, rfl, (fun d hd => by simp at hd), Kept.refl _ _⟩
    case round =>
      obtain ⟨k, hk1, rfl, HG, HK⟩ := hrel
      by_cases hlt : k < l.length
      · obtain ⟨d, b, o, rfl, hx, hb, hc0, hc1, hc2, hc3, hc4, hc5, hc6⟩ := (HR.out.old HK.out).at_ hlt
        have hi0 : (0 : Int) ≤ (k : Int) := by omega
        have hi1 : (k : Int) < (l.length : Int) := by omega
        have HX := Lib.hid hx
        have HGD := Lib.hid (fun w => refGood d.op d.a d.b d.r d.n d.mask d.loose w)
        obtain ⟨gd, hgd⟩ : ∃ gd, goodD d = gd := ⟨_, rfl⟩
        have HGV := Lib.hid hgd
        obtain ⟨o1, a1, b1, r1, n1, m1, l1⟩ := d
        simp only at hc0 hc1 hc2 hc3 hc4 hc5 hc6 HGD
        rw [hgd] at HGD
        clear hx hgd
        cases gd
        · have HV : Hid (checkP l = 1) := checkP_bad hl2 (List.mem_of_getElem? HX.out) HGV.out
          go_wp2_with fail
          refine (HGD.out _).mono ?_
          rintro e w1 ⟨rfl, hk2⟩
          have HK2 := Lib.hid ((HK.out).trans hk2)
          clear hk2
          go_wp2_with fail
          go_ret
          exact ⟨ret_int (by rw [HV.out]; try rfl), HK2.out⟩
        · go_wp2_with fail
          refine (HGD.out _).mono ?_
          rintro e w1 ⟨rfl, hk2⟩
          have HK2 := Lib.hid ((HK.out).trans hk2)
          clear hk2
          go_wp2_with fail
          go_roundw
          case rel => exact ⟨k + 1, by omega, by go_num, mem_take_succ HX.out HG.out HGV.out, HK2⟩
          case measure => simp [intOf]; omega
      · obtain rfl : k = l.length := by omega
        have HV : Hid (checkP l = 0) := checkP_good hl2 (by have := HG.out; rwa [List.take_of_length_le (Nat.le_refl _)] at this)
        go_wp2_with fail
        go_ret
        exact ⟨ret_int (by rw [HV.out]; try rfl), HK.out⟩

end Go.Proofs.Ytccodklfplfleaa

/- Slices of deeds that a call has made. -/
namespace Go.Proofs.Ytccodklfplfleaa
open Go.RowKit

/-- A slice of deeds that was made after w. -/
def RowD (w w' : World) (l : List Dd) (A : Option Addr) (n c : Nat) : Prop := w'.ownsRow 0 47 7 (.slice A n c) n (l.flatMap dL) ∧ ∀ k, k ∈ fp (.slice A n c) → w.heap.size ≤ k
theorem RowD.nil (w w' : World) : RowD w w' [] none 0 0 := ⟨World.ownsRow_nil _ _ _ _, by simp [fp, Value.ownBlock]⟩
theorem RowD.kept {w wr w2 : World} {G : List Nat} {l : List Dd} {A : Option Addr} {n c : Nat} (h : RowD w wr l A n c) (hk : Kept G wr w2) (hG : ∀ k, k ∈ G → k < w.heap.size) : RowD w w2 l A n c :=
  ⟨own_kept h.1 hk (fun k hk' hm => by have h1 := h.2 k hk'; have h2 := hG k hm; omega), h.2⟩
theorem RowD.reads {w w' : World} {l : List Dd} {A : Option Addr} {n c : Nat} (h : RowD w w' l A n c) : ReadsD w' A n l := Reads.of_own h.1
theorem RowD.append {w wr w2 : World} {l : List Dd} {d : Dd} {A A' : Option Addr} {n c c' : Nat} (h : RowD w wr l A n c) (hw : w.heap.size ≤ wr.heap.size) (ha : Appended wr w2 47 7 (.slice A n c) (.slice A' (n + 1) c') (n + 1) (l.flatMap dL ++ dL d)) : RowD w w2 (l ++ [d]) A' (n + 1) c' :=
  ⟨by have := ha.1; simpa using this, fun k hk' => by
    rcases ha.2.2 k hk' with h1 | h1
    · exact h.2 k h1
    · omega⟩
end Go.Proofs.Ytccodklfplfleaa

/- Duties in memory: the cells of a duty, slices of starts, slices of programs. -/
namespace Go.Proofs.Ytccodklfplfleaa
open Go.RowKit

theorem Try.info50 : (Try.prog.info? 50).map (fun i => (i.zero, i.size, i.bytes)) = some (some (.agg #[.int .i64 0, .int .i64 0, .int .u64 0]), 3, 24) := by kernel_rfl
theorem Try.info48 : (Try.prog.info? 48).map (fun i => (i.zero, i.size, i.bytes)) = some (some (.slice none 0 0), 1, 24) := by kernel_rfl
/-- A start's cells. -/
def stL (s : St) : List Value := [.int .i64 s.prog, .int .i64 s.grade, .int .u64 s.mask]
theorem stL_len (s : St) : (stL s).length = 3 := rfl
/-- A duty's cells. -/
def uC (d : Du) (A : Option Addr) (n c : Nat) (B : Option Addr) (m e : Nat) : Array Value :=
  #[.int .i64 d.cpus, .int .i64 d.threads, .int .i64 d.locks, .int .i64 d.cap, .int .u64 d.boost, .float .f64 d.keep, .float .f64 d.ratio, .slice A n c, .slice B m e]
/-- A slice of starts. -/
def ReadsS (w : World) (A : Option Addr) (n : Nat) (l : List St) : Prop := Reads w 3 A n (l.flatMap stL)
theorem ReadsS.len {w : World} {A : Option Addr} {n : Nat} {l : List St} (h : ReadsS w A n l) : n = l.length := Reads.lenK stL 3 stL_len h (by omega)
theorem ReadsS.old {w w' : World} {A : Option Addr} {n : Nat} {l : List St} (h : ReadsS w A n l) (hk : Kept [] w w') : ReadsS w' A n l := Reads.old h hk
theorem ReadsS.at_ {w : World} {A : Option Addr} {n : Nat} {l : List St} (h : ReadsS w A n l) {k : Nat} (hk : k < l.length) : ∃ (s : St) (b o : Nat), A = some ⟨b, o, none⟩ ∧ l[k]? = some s ∧ b < w.heap.size ∧
    w.cell? ⟨b, o + k * 3, none⟩ = some (.int .i64 s.prog) ∧ w.cell? ⟨b, o + k * 3 + 1, none⟩ = some (.int .i64 s.grade) ∧ w.cell? ⟨b, o + k * 3 + 2, none⟩ = some (.int .u64 s.mask) := by
  have hn := h.len
  obtain ⟨b, o, rfl, hb, hc⟩ := Reads.cellsK stL 3 stL_len h (by omega) (by omega)
  have hx : l[k]? = some l[k] := List.getElem?_eq_getElem hk
  exact ⟨l[k], b, o, rfl, hx, hb, hc k _ hx 0 (by omega), hc k _ hx 1 (by omega), hc k _ hx 2 (by omega)⟩
/-- A slice of programs. -/
def ReadsPP (w : World) (A : Option Addr) (n : Nat) (l : List (List Dd)) : Prop :=
  ∃ xs : List Value, Reads w 1 A n xs ∧ xs.length = l.length ∧ ∀ (i : Nat) p, l[i]? = some p → ∃ A n c, xs[i]? = some (.slice A n c) ∧ ReadsD w A n p
theorem ReadsPP.len {w : World} {A : Option Addr} {n : Nat} {l : List (List Dd)} (h : ReadsPP w A n l) : n = l.length := by
  obtain ⟨xs, h1, h2, _⟩ := h
  have := h1.1; omega
theorem ReadsPP.old {w w' : World} {A : Option Addr} {n : Nat} {l : List (List Dd)} (h : ReadsPP w A n l) (hk : Kept [] w w') : ReadsPP w' A n l := by
  obtain ⟨xs, h1, h2, h3⟩ := h
  refine ⟨xs, h1.old hk, h2, fun i p hp => ?_⟩
  obtain ⟨A, n, c, e, hr⟩ := h3 i p hp
  exact ⟨A, n, c, e, hr.old hk⟩
theorem ReadsPP.none_ (w : World) : ReadsPP w none 0 [] := ⟨[], Reads.none_, rfl, by simp⟩
theorem ReadsS.none_ (w : World) : ReadsS w none 0 [] := Reads.none_
theorem ReadsPP.at_ {w : World} {A : Option Addr} {n : Nat} {l : List (List Dd)} (h : ReadsPP w A n l) {k : Nat} (hk : k < l.length) : ∃ (p : List Dd) (b o : Nat) (Ai : Option Addr) (ni ci : Nat), A = some ⟨b, o, none⟩ ∧ l[k]? = some p ∧ b < w.heap.size ∧
    w.cell? ⟨b, o + k, none⟩ = some (.slice Ai ni ci) ∧ ReadsD w Ai ni p := by
  have hn := h.len
  obtain ⟨xs, h1, h2, h3⟩ := h
  obtain ⟨b, o, rfl, hb, hc⟩ := h1.addr (by omega) (by omega)
  have hx : l[k]? = some l[k] := List.getElem?_eq_getElem hk
  obtain ⟨Ai, ni, ci, e, hr⟩ := h3 k _ hx
  exact ⟨l[k], b, o, Ai, ni, ci, rfl, hx, hb, hc k _ e, hr⟩
/-- A duty's slices. -/
def IsU (w : World) (d : Du) (A : Option Addr) (n : Nat) (B : Option Addr) (m : Nat) : Prop := ReadsPP w A n d.progs ∧ ReadsS w B m d.starts
theorem IsU.old {w w' : World} {d : Du} {A B : Option Addr} {n m : Nat} (h : IsU w d A n B m) (hk : Kept [] w w') : IsU w' d A n B m := ⟨h.1.old hk, h.2.old hk⟩

/-- A slice of programs that was made after w: the row, and each program's own row. -/
def RowPP (w w' : World) (l : List (List Dd)) (A : Option Addr) (n c : Nat) : Prop :=
  ∃ xs : List Value, w'.ownsRow 0 48 1 (.slice A n c) n xs ∧ (∀ k, k ∈ fp (.slice A n c) → w.heap.size ≤ k) ∧ xs.length = l.length ∧ ∀ (i : Nat) p, l[i]? = some p → ∃ A n c, xs[i]? = some (.slice A n c) ∧ RowD w w' p A n c
theorem RowPP.nil (w w' : World) : RowPP w w' [] none 0 0 := ⟨[], World.ownsRow_nil _ _ _ _, by simp [fp, Value.ownBlock], rfl, by simp⟩
theorem RowPP.reads {w w' : World} {l : List (List Dd)} {A : Option Addr} {n c : Nat} (h : RowPP w w' l A n c) : ReadsPP w' A n l := by
  obtain ⟨xs, h1, h2, h3, h4⟩ := h
  refine ⟨xs, Reads.of_own h1, h3, fun i p hp => ?_⟩
  obtain ⟨A, n, c, e, hr⟩ := h4 i p hp
  exact ⟨A, n, c, e, hr.reads⟩
theorem RowPP.len {w w' : World} {l : List (List Dd)} {A : Option Addr} {n c : Nat} (h : RowPP w w' l A n c) : n = l.length := h.reads.len
theorem RowPP.kept {w wr w2 : World} {G : List Nat} {l : List (List Dd)} {A : Option Addr} {n c : Nat} (h : RowPP w wr l A n c) (hk : Kept G wr w2) (hG : ∀ k, k ∈ G → k < w.heap.size) : RowPP w w2 l A n c := by
  obtain ⟨xs, h1, h2, h3, h4⟩ := h
  refine ⟨xs, own_kept h1 hk (fun k hk' hm => by have h5 := h2 k hk'; have h6 := hG k hm; omega), h2, h3, fun i p hp => ?_⟩
  obtain ⟨A, n, c, e, hr⟩ := h4 i p hp
  exact ⟨A, n, c, e, hr.kept hk hG⟩
/-- Rows of other elements lie elsewhere. -/
theorem own_own_ne {w : World} {b1 b2 : Nat} {e1 e2 : TypeId} {s1 s2 n1 n2 : Nat} {v1 v2 : Value} {x1 x2 : List Value} (h1 : w.ownsRow b1 e1 s1 v1 n1 x1) (h2 : w.ownsRow b2 e2 s2 v2 n2 x2) (hne : e1 ≠ e2) : ∀ k, k ∈ fp v1 → k ∉ fp v2 := by
  intro k hk1 hk2
  rcases h2.2 with ⟨rfl, _⟩ | ⟨g', cap, cur, rfl, _, hh, _⟩
  · simp [fp, Value.ownBlock] at hk2
  · simp [fp, Value.ownBlock] at hk2
    subst hk2
    exact own_blk_ne (g := k) h1 hh hne (mem_fp.1 hk1)
theorem RowPP.append {w wr w2 : World} {l : List (List Dd)} {p : List Dd} {A A' Ap : Option Addr} {n c c' np cp : Nat} (h : RowPP w wr l A n c) (hp : RowD w wr p Ap np cp) (hw : w.heap.size ≤ wr.heap.size)
    (ha : ∀ xs, wr.ownsRow 0 48 1 (.slice A n c) n xs → Appended wr w2 48 1 (.slice A n c) (.slice A' (n + 1) c') (n + 1) (xs ++ [.slice Ap np cp])) : RowPP w w2 (l ++ [p]) A' (n + 1) c' := by
  obtain ⟨xs, h1, h2, h3, h4⟩ := h
  have ha := ha xs h1
  have hkd : ∀ {q : List Dd} {A n c}, RowD w wr q A n c → RowD w w2 q A n c := fun {q A' n' c'} hr => ⟨own_kept hr.1 ha.2.1 (own_own_ne hr.1 h1 (by decide)), hr.2⟩
  refine ⟨_, ha.1, fun k hk' => ?_, by simp [h3], fun i q hq => ?_⟩
  · rcases ha.2.2 k hk' with h5 | h5
    · exact h2 k h5
    · omega
  · rw [List.getElem?_append] at hq
    split at hq
    · rename_i hi
      obtain ⟨A, n, c, e, hr⟩ := h4 i q hq
      exact ⟨A, n, c, by rw [List.getElem?_append_left (by omega)]; exact e, hkd hr⟩
    · rename_i hi
      obtain ⟨hj, he⟩ := List.getElem?_eq_some_iff.1 hq
      simp at hj
      obtain rfl : i = l.length := by omega
      simp at he
      subst he
      exact ⟨Ap, np, cp, by rw [List.getElem?_append_right (by omega)]; simp [h3], hkd hp⟩
/-- A slice of starts that was made after w. -/
def RowS (w w' : World) (l : List St) (A : Option Addr) (n c : Nat) : Prop := w'.ownsRow 0 50 3 (.slice A n c) n (l.flatMap stL) ∧ ∀ k, k ∈ fp (.slice A n c) → w.heap.size ≤ k
theorem RowS.nil (w w' : World) : RowS w w' [] none 0 0 := ⟨World.ownsRow_nil _ _ _ _, by simp [fp, Value.ownBlock]⟩
theorem RowS.kept {w wr w2 : World} {G : List Nat} {l : List St} {A : Option Addr} {n c : Nat} (h : RowS w wr l A n c) (hk : Kept G wr w2) (hG : ∀ k, k ∈ G → k < w.heap.size) : RowS w w2 l A n c :=
  ⟨own_kept h.1 hk (fun k hk' hm => by have h1 := h.2 k hk'; have h2 := hG k hm; omega), h.2⟩
theorem RowS.reads {w w' : World} {l : List St} {A : Option Addr} {n c : Nat} (h : RowS w w' l A n c) : ReadsS w' A n l := Reads.of_own h.1
theorem RowS.len {w w' : World} {l : List St} {A : Option Addr} {n c : Nat} (h : RowS w w' l A n c) : n = l.length := h.reads.len
theorem RowS.append {w wr w2 : World} {l : List St} {d : St} {A A' : Option Addr} {n c c' : Nat} (h : RowS w wr l A n c) (hw : w.heap.size ≤ wr.heap.size) (ha : Appended wr w2 50 3 (.slice A n c) (.slice A' (n + 1) c') (n + 1) (l.flatMap stL ++ stL d)) : RowS w w2 (l ++ [d]) A' (n + 1) c' :=
  ⟨by have := ha.1; simpa using this, fun k hk' => by
    rcases ha.2.2 k hk' with h1 | h1
    · exact h.2 k h1
    · omega⟩
end Go.Proofs.Ytccodklfplfleaa

/- Events: which may be, walked; slices of events. -/
namespace Go.Proofs.Ytccodklfplfleaa
open Go.RowKit

set_option maxHeartbeats 1600000 in
theorem ret_boolE {a b : Bool} (h : a = b) : Ending.returned (.bool a) = .returned (.bool b) := by rw [h]
set_option maxHeartbeats 1600000 in
theorem egood_any (s c k t : Int) (g : Nat) (o d : Int) (n : Nat) (w : World) : Calls Try.prog 38 #[.agg (eC s c k t g o d n)] w fun e w' => e = .returned (.bool (goodE ⟨s, c, k, t, g, o, d, n⟩)) ∧ Kept [] w w' := by
  go_enter Try.func38, Try.ntmps38
  go_wp2
  all_goals
    go_ret
    refine ⟨ret_boolE ?_, ?_⟩
    · rw [Bool.eq_iff_iff]
      simp [goodE]
      try omega
    · (repeat (first | (with_reducible exact Kept.refl _ _) | (with_reducible assumption) | (with_reducible refine Kept.alloc ?_ _) | (with_reducible refine Kept.drew ?_) | (with_reducible refine Kept.drewN ?_ _) | (with_reducible refine Kept.setCell ?_ ?_ _) | (exact .inr (Nat.le_refl _)) | (exact .inr (by simp only; omega)) | (exact .inr (by omega))))

set_option maxHeartbeats 1600000 in
theorem refEgood (s c k t : Int) (g : Nat) (o d : Int) (n : Nat) (w : World) : Calls Try.prog 15 #[.agg (eC s c k t g o d n)] w fun e w' => e = .returned (.bool (goodE ⟨s, c, k, t, g, o, d, n⟩)) ∧ Kept [] w w' := by
  go_enter Try.func15, Try.ntmps15
  go_wp2
  all_goals
    go_ret
    refine ⟨ret_boolE ?_, ?_⟩
    · rw [Bool.eq_iff_iff]
      simp [goodE]
      try omega
    · (repeat (first | (with_reducible exact Kept.refl _ _) | (with_reducible assumption) | (with_reducible refine Kept.alloc ?_ _) | (with_reducible refine Kept.drew ?_) | (with_reducible refine Kept.drewN ?_ _) | (with_reducible refine Kept.setCell ?_ ?_ _) | (exact .inr (Nat.le_refl _)) | (exact .inr (by simp only; omega)) | (exact .inr (by omega))))

/-- An event's cells, as a list. -/
def eL (e : Ev) : List Value := (eC e.step e.cpu e.kind e.slot e.gen e.op e.code e.n).toList
theorem eL_len (e : Ev) : (eL e).length = 8 := rfl
theorem flat_len (l : List Ev) : (l.flatMap eL).length = l.length * 8 := by
  induction l with
  | nil => rfl
  | cons a t ih => simp only [List.flatMap_cons, List.length_append, List.length_cons, ih, eL_len]; omega
theorem flat_get (l : List Ev) (i j : Nat) (h : i < l.length) (hj : j < 8) : (l.flatMap eL)[i * 8 + j]? = (eL l[i])[j]? := by
  induction l generalizing i with
  | nil => simp at h
  | cons a t ih =>
    simp only [List.flatMap_cons]
    cases i with
    | zero => rw [List.getElem?_append_left (by rw [eL_len]; omega)]; simp
    | succ i =>
      rw [List.getElem?_append_right (by rw [eL_len]; omega), eL_len, show (i + 1) * 8 + j - 8 = i * 8 + j by omega, ih i (by simpa using h)]
      simp
/-- A slice of events. -/
def ReadsE (w : World) (A : Option Addr) (n : Nat) (l : List Ev) : Prop := Reads w 8 A n (l.flatMap eL)
theorem ReadsE.len {w : World} {A : Option Addr} {n : Nat} {l : List Ev} (h : ReadsE w A n l) : n = l.length := by
  have := h.1; rw [flat_len] at this; omega
theorem ReadsE.cells {w : World} {A : Option Addr} {n : Nat} {l : List Ev} (h : ReadsE w A n l) (h0 : 0 < n) : ∃ b o, A = some ⟨b, o, none⟩ ∧ b < w.heap.size ∧ ∀ i e, l[i]? = some e → ∀ j, j < 8 → w.cell? ⟨b, o + (i * 8 + j), none⟩ = (eL e)[j]? := by
  obtain ⟨b, o, rfl, hb, hc⟩ := Reads.addr h h0 (by omega)
  refine ⟨b, o, rfl, hb, fun i e he j hj => ?_⟩
  obtain ⟨hi, rfl⟩ := List.getElem?_eq_some_iff.1 he
  have h1 := flat_get l i j hi hj
  have h2 : (eL l[i])[j]? = some ((eL l[i])[j]'(by rw [eL_len]; exact hj)) := List.getElem?_eq_getElem _
  rw [h2]
  exact hc _ _ (h1.trans h2)

end Go.Proofs.Ytccodklfplfleaa

