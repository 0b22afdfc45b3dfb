/- Package replay: open, its memory at first; Package replay: a holder is appended; the kinds are set. -/
import Derived.Test.YtccodklfplfleaaP36
import Derived.Test.YtccodklfplfleaaDuA
import Derived.Deep.DeepCutAuto

/- Package replay: open, its memory at first. -/
namespace Go.Proofs.Ytccodklfplfleaa
open Go.RowKit

def nilKinds : Array Value := #[.nilFunc, .nilFunc, .nilFunc, .nilFunc, .nilFunc, .nilFunc, .nilFunc, .nilFunc, .nilFunc, .nilFunc, .nilFunc]
def acc0 (n : Nat) : Acc := ⟨List.replicate n Pl.zero, List.replicate n Th.zero, []⟩
set_option maxHeartbeats 1600000 in
theorem open_acc {w W : World} {d : Du} {A B : Option Addr} {n c m e nT gr AP AT : Nat} (hk : Kept [] w W) (hR : RlAt W gr (some ⟨AP, 0, none⟩) nT (List.replicate nT Pl.zero)) (h1 : w.heap.size ≤ gr) (h2 : w.heap.size ≤ AP) (h3 : AP ≠ gr)
    (hO : W.ownsRow 0 71 31 (.slice (some ⟨AT, 0, none⟩) nT nT) nT ((List.replicate nT Th.zero).flatMap thL)) (h4 : w.heap.size ≤ AT) (h5 : AT ≠ gr) (h6 : AT ≠ AP) :
    AccIs w (W.alloc (.cells (uC d A n c B m e ++ #[.pointer (some ⟨gr, 0, none⟩), .slice (some ⟨AT, 0, none⟩) nT nT, .slice none 0 0] ++ nilKinds) 68)) ⟨W.heap.size, gr, some ⟨AP, 0, none⟩, nT, some ⟨AT, 0, none⟩, nT, none, 0, A, n, c, B, m, e⟩ d (acc0 nT) nilKinds := by
  have hk2 : Kept [] W (W.alloc (.cells (uC d A n c B m e ++ #[.pointer (some ⟨gr, 0, none⟩), .slice (some ⟨AT, 0, none⟩) nT nT, .slice none 0 0] ++ nilKinds) 68)) := (Kept.refl _ _).alloc _
  have hR' := hR.old hk2
  have hO' := own_kept hO hk2 (by simp)
  have l1 := hR.blk.lt
  have l2 := own_lt hR.row AP (by simp [fp_some])
  have l3 := own_lt hO AT (by simp [fp_some])
  have hs := hk.size
  have hB := Blk.new W 68 (uC d A n c B m e ++ #[.pointer (some ⟨gr, 0, none⟩), .slice (some ⟨AT, 0, none⟩) nT nT, .slice none 0 0] ++ nilKinds)
  obtain ⟨b, hb⟩ : ∃ b : AcA, (⟨W.heap.size, gr, some ⟨AP, 0, none⟩, nT, some ⟨AT, 0, none⟩, nT, none, 0, A, n, c, B, m, e⟩ : AcA) = b := ⟨_, rfl⟩
  have hP : accP b d (acc0 nT) nilKinds = [.blk W.heap.size 68 (uC d A n c B m e ++ #[.pointer (some ⟨gr, 0, none⟩), .slice (some ⟨AT, 0, none⟩) nT nT, .slice none 0 0] ++ nilKinds), .blk gr 99 #[.slice (some ⟨AP, 0, none⟩) nT nT], .row 101 2 (.slice (some ⟨AP, 0, none⟩) nT nT) nT ((List.replicate nT Pl.zero).flatMap plL), .row 71 31 (.slice (some ⟨AT, 0, none⟩) nT nT) nT ((List.replicate nT Th.zero).flatMap thL), .row 3 1 (.slice none 0 0) 0 []] := by
    rw [← hb]; simp [accP, accC, acc0]
  rw [hb]
  obtain ⟨cs, hcs⟩ : ∃ cs, uC d A n c B m e ++ #[.pointer (some ⟨gr, 0, none⟩), .slice (some ⟨AT, 0, none⟩) nT nT, .slice none 0 0] ++ nilKinds = cs := ⟨_, rfl⟩
  rw [hcs] at hP hB hk2 hR' hO' ⊢
  clear hcs hb
  have r1 := hR'.blk
  have r2 := hR'.row
  rw [List.length_replicate] at r1 r2
  refine ⟨?_, fun p hp k hk' => ?_, (hk.trans hk2).mono (by simp)⟩
  · show Holds _ (accP b d (acc0 nT) nilKinds)
    rw [hP]
    refine ⟨fun p hp => ?_, fun i j p q hij hp hq k hk1 hk2 => ?_⟩
    · simp only [List.mem_cons, List.not_mem_nil, or_false] at hp
      rcases hp with rfl | rfl | rfl | rfl | rfl
      · exact hB
      · exact r1
      · exact r2
      · exact hO'
      · exact World.ownsRow_nil _ _ _ _
    · have hj : j < 5 := (List.getElem?_eq_some_iff.1 hq).1
      rcases (by omega : j = 1 ∨ j = 2 ∨ j = 3 ∨ j = 4) with rfl | rfl | rfl | rfl
      · obtain rfl : i = 0 := by omega
        simp at hp hq; subst hp hq
        simp [Piece.fp, fp_some] at hk1 hk2; omega
      · rcases (by omega : i = 0 ∨ i = 1) with rfl | rfl
        all_goals
          simp at hp hq; subst hp hq
          simp [Piece.fp, fp_some] at hk1 hk2; omega
      · rcases (by omega : i = 0 ∨ i = 1 ∨ i = 2) with rfl | rfl | rfl
        all_goals
          simp at hp hq; subst hp hq
          simp [Piece.fp, fp_some] at hk1 hk2; omega
      · simp at hq; subst hq
        simp [Piece.fp, fp, Value.ownBlock] at hk2
  · right
    show w.heap.size ≤ k
    rw [hP] at hp
    simp only [List.mem_cons, List.not_mem_nil, or_false] at hp
    rcases hp with rfl | rfl | rfl | rfl | rfl
    all_goals (simp [Piece.fp, fp, Value.ownBlock] at hk')
    all_goals omega

end Go.Proofs.Ytccodklfplfleaa

/- Package replay: a holder is appended; the kinds are set. -/
namespace Go.Proofs.Ytccodklfplfleaa
open Go.RowKit

section
variable {w0 : Base} {w w' : World} {b : AcA} {d : Du} {a : Acc} {K : Array Value}
theorem accC_set (b : AcA) (d : Du) (a : Acc) (K : Array Value) (AH : Option Addr) (cH : Nat) (l : List Int) : (accC b d a K).setIfInBounds 11 (.slice AH l.length cH) = accC { b with AH := AH, cH := cH } d { a with held := l } K := by
  apply Array.ext'
  simp [accC, uC]
theorem AccIs.addH (h : AccIs w0 w b d a K) {AH : Option Addr} {cH : Nat} {x : Int} (happ : Appended w w' 3 1 (.slice b.AH a.held.length b.cH) (.slice AH (a.held.length + 1) cH) (a.held.length + 1) (a.held.map (Value.int .i64) ++ [.int .i64 x])) :
    AccIs w0 (w'.setCell ⟨b.g, 11, none⟩ (.slice AH (a.held.length + 1) cH)) { b with AH := AH, cH := cH } d { a with held := a.held ++ [x] } K := by
  obtain ⟨h1, h2, h3⟩ := happ
  have hp : (accP b d a K)[4]? = some (.row 3 1 (.slice b.AH a.held.length b.cH) a.held.length (a.held.map (Value.int .i64))) := rfl
  have hk' : Kept (Piece.fp (.row 3 1 (.slice b.AH a.held.length b.cH) a.held.length (a.held.map (Value.int .i64)))) w w' := h2
  have h1' : (Piece.row 3 1 (.slice AH (a.held.length + 1) cH) (a.held.length + 1) (a.held.map (Value.int .i64) ++ [.int .i64 x])).holds w' := h1
  have t1 := Holds.turn h.at_ hp hk' h1' h3
  have n1 := h.new.turn hp (p' := .row 3 1 (.slice AH (a.held.length + 1) cH) (a.held.length + 1) (a.held.map (Value.int .i64) ++ [.int .i64 x])) h.kept.size h3
  have k1 := h.new.kept hp h.kept hk'
  have hp0 : ((accP b d a K).set 4 (.row 3 1 (.slice AH (a.held.length + 1) cH) (a.held.length + 1) (a.held.map (Value.int .i64) ++ [.int .i64 x])))[0]? = some (.blk b.g 68 (accC b d a K)) := rfl
  have t2 := Holds.put t1 hp0 11 (.slice AH (a.held.length + 1) cH)
  have hk2 : Kept (Piece.fp (.blk b.g 68 (accC b d a K))) w' (w'.setCell ⟨b.g, 11, none⟩ (.slice AH (a.held.length + 1) cH)) := (Kept.refl _ _).setCell (.inl (by simp [Piece.fp])) _
  have n2 := n1.turn hp0 (p' := .blk b.g 68 ((accC b d a K).setIfInBounds 11 (.slice AH (a.held.length + 1) cH))) k1.size (fun k hk => .inl hk)
  have k2 := n1.kept hp0 k1 hk2
  have he : ((accP b d a K).set 4 (.row 3 1 (.slice AH (a.held.length + 1) cH) (a.held.length + 1) (a.held.map (Value.int .i64) ++ [.int .i64 x]))).set 0 (.blk b.g 68 ((accC b d a K).setIfInBounds 11 (.slice AH (a.held.length + 1) cH))) = accP { b with AH := AH, cH := cH } d { a with held := a.held ++ [x] } K := by
    have e1 := accC_set b d a K AH cH (a.held ++ [x])
    rw [List.length_append, List.length_singleton] at e1
    rw [e1]
    simp [accP]
  rw [he] at t2 n2
  exact ⟨t2, n2, k2⟩
/-- The kinds' functions are set: cells 12 .. 22. -/
theorem AccIs.setK (h : AccIs w0 w b d a K) {K' : Array Value} {w' : World} (hk : Kept [b.g] w w') (hb : Blk w' b.g 68 (accC b d a K')) : AccIs w0 w' b d a K' := by
  have hp0 : (accP b d a K)[0]? = some (.blk b.g 68 (accC b d a K)) := rfl
  have hk2 : Kept (Piece.fp (.blk b.g 68 (accC b d a K))) w w' := by simpa [Piece.fp] using hk
  have t2 := Holds.turn h.at_ hp0 hk2 (p' := .blk b.g 68 (accC b d a K')) hb (fun k hk => .inl hk)
  have n2 := h.new.turn hp0 (p' := .blk b.g 68 (accC b d a K')) h.kept.size (fun k hk => .inl hk)
  have k2 := h.new.kept hp0 h.kept hk2
  have he : (accP b d a K).set 0 (.blk b.g 68 (accC b d a K')) = accP b d a K' := rfl
  rw [he] at t2 n2
  exact ⟨t2, n2, k2⟩
end

end Go.Proofs.Ytccodklfplfleaa

