/- Package rack: Step, Steps. -/
import Derived.Test.YtahpjoknmclbfaaDoorStK
namespace Go.Proofs.YtahpjoknmclbfaaDoor
open Go.RowKit

inductive StepPost (mb wb rb cap : Nat) (g : GS) (v : VS) (r : Int) (w : World) (e : Ending) (w' : World) : Prop
  | mk (g' : GS) (v' : VS) (he : e = .returned (.bool v'.W.done)) (G : Mach w' mb wb rb cap g') (V : Wmem w' rb v') (kb : v'.kb = v.kb) (ob : v'.ob = v.ob ∨ w.heap.size ≤ v'.ob) (steps : v'.W.steps = v.W.steps + 1) (good : v'.W.good = v.W.good) (n : g'.n = g.n + 1) (rise : ∀ i, g.T i ≤ g'.T i) (thief : Thief v.W → g'.B = g.B) (live : v'.W.done = false → Live cap g' v' (r - 1) ∧ famOf v'.W.next = famOf v.W.next ∧ v'.W.next ≠ 31) (kept : Kept [mb, wb, v.ob, v.kb, rb] w w') : StepPost mb wb rb cap g v r w e w'
section
variable {w : World} {mb wb rb cap : Nat} {g : GS} {v : VS} {r : Int}
theorem Mach.kept {w' : World} {Gs : List Nat} (G : Mach w mb wb rb cap g) (hk : Kept Gs w w') (h1 : mb ∉ Gs) (h2 : wb ∉ Gs) (h3 : rb ∉ Gs) : Mach w' mb wb rb cap g := by
  obtain ⟨u, h⟩ := G.mem
  exact ⟨⟨u, h.kept hk h1⟩, G.words.kept hk h2, G.rack.kept hk h3, G.h0, G.h1, G.turn, G.len, G.sign, G.dq⟩
theorem Wok.steps {T B : Nat → Int} {W : WorkS} {o : OpS} (h : Wok cap T B W o r) (n : Nat) : Wok cap T B { W with steps := n } o r := by
  have op : ∀ {k m}, OpAt cap T B W o k m → OpAt cap T B { W with steps := n } o k m := fun O => ⟨O.base, O.cap, O.kind, O.done, O.steps, O.knows, O.b, O.t⟩
  cases h with
  | signing h hr => exact .signing h hr
  | emptying h hr => exact .emptying h hr
  | choosing h hr => exact .choosing h hr
  | reading h hr => exact .reading h hr
  | worst h hw hr => exact .worst h hw hr
  | taking h O hr => exact .taking h (op O) hr
  | robbing h O hr => exact .robbing h (op O) hr
  | minding h O hs hr => exact .minding h (op O) hs hr
  | popping h O hr => exact .popping h (op O) hr
  | push h hf O hr => exact .push h hf (op O) hr
  | last h hf O hr => exact .last h hf (op O) hr
  | sweep0 h hf O hs F hF hr => exact .sweep0 h hf (op O) hs F ⟨hF.src, hF.le⟩ hr
  | sweep h hf O hs F t hF ht hr => exact .sweep h hf (op O) hs F t ⟨hF.src, hF.le⟩ ht hr
  | asking h hf F hF hr => exact .asking h hf F ⟨hF.src, hF.le⟩ hr
  | again h hf O F hF hr => exact .again h hf (op O) F ⟨hF.src, hF.le⟩ hr
set_option maxHeartbeats 6400000 in
theorem kWstep_any (G : Mach w mb wb rb cap g) (V : Wmem w rb v) (L : Live cap g v r) (hcap : 1 ≤ cap ∧ cap ≤ 1000) (hn : g.n ≤ 100000) (hst : v.W.steps ≤ 100000) (hT : HasDb w) (hgm : 0 ≠ mb) (hgk : 0 ≠ v.kb) (hgl : 0 < w.heap.size) {N0 : Nat} (hg : v.W.next = 66 ∨ v.W.next = 73 → GoodAt N0 w v.W.good) (hN0 : N0 ≤ v.kb) (hop : v.W.next = 31 → v.W.op = .pointer none) : Calls Tryd.prog 7 #[.pointer (some ⟨v.kb, 0, none⟩), .pointer (some ⟨mb, 0, none⟩)] w fun e w' => StepPost mb wb rb cap g v r w e w' := by
  have k1 : v.kb ≠ mb := by obtain ⟨u, h⟩ := G.mem; exact V.work.ne h (by decide)
  have k2 : v.kb ≠ wb := V.work.ne G.words (by decide)
  have k4 : v.kb ≠ rb := V.work.ne G.rack (by decide)
  have c1 := V.work.cell 1
  have c13 := V.work.cell 13
  have f13 := V.work.frozen 13
  have c14 := V.work.cell 14
  simp [workC] at c1 c13 c14
  rw [L.done] at c14
  have hw : IntKind.i64.wrap ((v.W.steps : Int) + 1) = (v.W.steps : Int) + 1 := IntWalk.i64_in _ (by omega)
  have H1 : Blk (w.setCell ⟨v.kb, 13, none⟩ (.int .i64 ((v.W.steps : Int) + 1))) v.kb 57 (workC rb { v.W with steps := v.W.steps + 1 }) := V.work.set 13 _
  have hk1 : Kept [v.kb] w (w.setCell ⟨v.kb, 13, none⟩ (.int .i64 ((v.W.steps : Int) + 1))) := (Kept.refl _ _).setCell (.inl (by simp)) _
  have G1 := G.kept hk1 (by simp [Ne.symm k1]) (by simp [Ne.symm k2]) (by simp [Ne.symm k4])
  have V1 : Wmem (w.setCell ⟨v.kb, 13, none⟩ (.int .i64 ((v.W.steps : Int) + 1))) rb { v with W := { v.W with steps := v.W.steps + 1 } } := ⟨H1, V.opOf hk1 (fun b cs h hm => by
    simp only [List.mem_singleton] at hm
    subst hm
    exact h.ne V.work (by decide) rfl) rfl rfl⟩
  have L1 : Live cap g { v with W := { v.W with steps := v.W.steps + 1 } } r := ⟨L.done, L.kind, L.level, L.wok.steps _⟩
  have D := does_any G1 V1 L1 hcap hn (hT.kept hk1 (by simpa using hgk)) hgm hgk (Nat.lt_of_lt_of_le hgl hk1.size) (N0 := N0) (fun h => (hg h).kept hk1 (fun q hq => by
    simp only [List.mem_singleton] at hq
    subst hq
    exact ⟨hN0, _, _, V.work, by decide⟩)) hN0 hop
  have HD : Hid (Calls Tryd.prog v.W.next #[.pointer (some ⟨v.kb, 0, none⟩), .pointer (some ⟨mb, 0, none⟩)] (w.setCell ⟨v.kb, 13, none⟩ (.int .i64 ((v.W.steps : Int) + 1))) fun e w' => e = .returned (.tuple #[]) ∧ (∃ u, w'.cell? ⟨v.kb, 14, none⟩ = some (.bool u) ∧ StepPost mb wb rb cap g v r w (.returned (.bool u)) w')) := by
    refine D.mono ?_
    rintro e w' ⟨rfl, g', v', G', V', a1, a2, a3, a4, a5, a6, a7, a8, a9⟩
    have c := V'.work.cell 14
    simp [workC] at c
    simp only at a1
    rw [a1] at c
    exact ⟨rfl, v'.W.done, c, .mk g' v' rfl G' V' a1 (a2.imp_right (fun h => Nat.le_trans hk1.size h)) a3 a4 a5 a6 a7 a8 ((hk1.mono (by simp +contextual)).trans a9)⟩
  have HN : Hid (v.W.next = 57 ∨ v.W.next = 60 ∨ v.W.next = 30 ∨ v.W.next = 32 ∨ v.W.next = 31 ∨ v.W.next = 44 ∨ v.W.next = 50 ∨ v.W.next = 66 ∨ v.W.next = 47 ∨ v.W.next = 35 ∨ v.W.next = 55 ∨ v.W.next = 73 ∨ v.W.next = 91) := by
    show _ ∨ _
    cases L.wok <;> simp_all
  clear G V L hT hg hop H1 hk1 G1 V1 L1 D hgm hgk hgl hN0
  generalize v.W.next = nx at *
  rcases HN.out with rfl | rfl | rfl | rfl | rfl | rfl | rfl | rfl | rfl | rfl | rfl | rfl | rfl
  all_goals
    clear HN
    go_enter Tryd.func7, Tryd.ntmps7
    go_wp2_with fail
    refine HD.out.mono ?_
    rintro e w1 ⟨rfl, u, c14', hP⟩
    have HP := Lib.hid hP
    clear hP
    go_wp2_with fail
    go_ret
    exact HP.out
theorem kWsteps_any (V : Wmem w rb v) : Calls Tryd.prog 8 #[.pointer (some ⟨v.kb, 0, none⟩)] w fun e w' => e = .returned (.int .i64 v.W.steps) ∧ w = w' := by
  have c13 := V.work.cell 13
  simp [workC] at c13
  generalize v.W.steps = n at *
  clear V
  go_enter Tryd.func8, Tryd.ntmps8
  go_wp2
  go_ret
  exact ⟨rfl, rfl⟩
end
end Go.Proofs.YtahpjoknmclbfaaDoor
