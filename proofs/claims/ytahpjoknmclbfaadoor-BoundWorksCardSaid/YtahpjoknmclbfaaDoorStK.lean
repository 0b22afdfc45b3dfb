/- A rack, its memory and a work: what the other steps leave; A rack, its memory and a work: what reading, choosing, worst leave; Step. -/
import Derived.Test.YtahpjoknmclbfaaDoorStJ

/- A rack, its memory and a work: what the other steps leave. -/
namespace Go.Proofs.YtahpjoknmclbfaaDoor
open Go.RowKit

section
variable {w : World} {mb wb rb cap : Nat} {g : GS} {v : VS} {r : Int}
theorem does_minding (G : Mach w mb wb rb cap g) (V : Wmem w rb v) (L : Live cap g v r) {N0 : Nat} (hg : GoodAt N0 w v.W.good) (hN0 : N0 ≤ v.kb) (hN : v.W.next = 66) : Does 66 mb wb rb cap g v r w := by
  obtain ⟨g1, g2⟩ := V.has (by rw [hN]; decide)
  cases L.wok with
  | minding _ O hs hr =>
    have M := G.mop g2
    have k1 : v.kb ≠ mb := by obtain ⟨u, h⟩ := G.mem; exact V.work.ne h (by decide)
    have k2 : v.kb ≠ wb := V.work.ne G.words (by decide)
    have k3 : v.kb ≠ v.ob := V.work.ne g2 (by decide)
    have k4 : v.kb ≠ rb := V.work.ne G.rack (by decide)
    obtain ⟨kb, ob, W, base, oc, kind, k, b, t, x, won, done, err⟩ := v
    obtain rfl : kind = 2 := O.kind
    obtain rfl : done = false := O.done
    simp only at k1 k2 k3 k4 hs
    refine (kMinding_any V.work g1 M hg hN0).mono ?_
    rintro e w' ⟨he, hP, hK⟩
    have R' := G.rack.kept hK (by simp [Ne.symm k4])
    have M' := M.beside hK k1 k2 k3
    have hK' : Kept [mb, wb, ob, kb, rb] w w' := hK.mono (by simp +contextual)
    refine ⟨he, ?_⟩
    cases hP with
    | yes h => exact post_of G M' G.h0 G.h1 G.turn R' h g1 (.inl rfl) rfl rfl (fun _ => ⟨L.kind, L.level⟩) ⟨g.T, g.B, G.dq.later (by omega), fun _ => Int.le_refl _, fun _ => rfl, ⟨rfl, rfl⟩, fun _ => fin (b := 50) (.robbing rfl ⟨O.base, O.cap, O.kind, O.done, O.steps, O.knows, O.b, O.t⟩ ⟨fun h => by simp only at h; omega, by omega⟩) hN rfl (by decide)⟩ hK'
    | no h => exact post_end (v := ⟨kb, ob, W, ⟨base, oc, 2, k, b, t, x, won, false, err⟩⟩) (W' := { W with next := 50, done := true, err := 10 }) G M'.mem M'.words (G.dq.later (by omega)) rfl G.sign G.h0 G.h1 G.turn R' ⟨h, .inr ⟨g1, M'.op⟩⟩ rfl rfl rfl hK'
  | _ h => exact absurd (h.symm.trans hN) (by decide)
theorem does_asking (G : Mach w mb wb rb cap g) (V : Wmem w rb v) (L : Live cap g v r) {N0 : Nat} (hg : GoodAt N0 w v.W.good) (hN : v.W.next = 73) : Does 73 mb wb rb cap g v r w := by
  obtain ⟨g1, g2⟩ := V.has (by rw [hN]; decide)
  cases L.wok with
  | asking _ hf F hF hr =>
    have k1 : v.kb ≠ mb := by obtain ⟨u, h⟩ := G.mem; exact V.work.ne h (by decide)
    have k2 : v.kb ≠ wb := V.work.ne G.words (by decide)
    have k4 : v.kb ≠ rb := V.work.ne G.rack (by decide)
    have hT := notThief hN (by decide) (by decide) (by decide)
    refine (kAsking_any V.work G.rack ⟨L.kind, L.level⟩ hg).mono ?_
    rintro e w' ⟨he, hP, hK⟩
    have R' := G.rack.kept hK (by simp [Ne.symm k4])
    have hm' : ∃ u : Int, Blk w' mb 43 #[.slice (some ⟨wb, 0, none⟩) g.xs.length g.xs.length, .int .u64 u] := by
      obtain ⟨u, h⟩ := G.mem
      exact ⟨u, h.kept hK (by simp [Ne.symm k1])⟩
    have hw' := G.words.kept hK (by simp [Ne.symm k2])
    have hK' : Kept [mb, wb, v.ob, v.kb, rb] w w' := hK.mono (by simp +contextual)
    refine ⟨he, ?_⟩
    cases hP with
    | yes og g3 m h =>
      refine post_of G (o2 := ⟨atJ cap (v.W.kind * 8 + v.W.level), cap, 0, 0, 0, 0, v.W.swept, false, false, 0⟩) ⟨hm', hw', m⟩ G.h0 G.h1 G.turn R' h rfl (.inr g3) rfl rfl (fun _ => ⟨L.kind, L.level⟩) ⟨g.T, g.B, G.dq.later (by omega), fun _ => Int.le_refl _, fun _ => rfl, ⟨rfl, rfl⟩, fun _ => fin (b := 91) (.again rfl hf ((OpAt.new 0 v.W.swept (by simp)).up (by omega)) F ⟨hF.src, hF.le⟩ ?_) hN rfl (by decide)⟩ hK'
      constructor
      · show 9 * (F - g.T (jOf v.W)) + 11 - ((0 : Nat) : Int) ≤ r - 1
        omega
      · show 11 - ((0 : Nat) : Int) ≤ r - 1
        omega
    | no og g3 m h =>
      refine post_of G (o2 := ⟨atJ cap (v.W.kind * 8 + v.W.level), cap, 2, 0, 0, 0, 0, false, false, 0⟩) ⟨hm', hw', m⟩ G.h0 G.h1 G.turn R' h rfl (.inr g3) rfl rfl (fun _ => ⟨L.kind, L.level⟩) ⟨g.T, g.B, G.dq.later (by omega), fun _ => Int.le_refl _, fun _ => rfl, ⟨rfl, rfl⟩, fun _ => fin (b := 55) (.sweep0 rfl hf ((OpAt.new 2 0 (by simp)).up (by omega)) rfl F ⟨hF.src, hF.le⟩ ?_) hN rfl (by decide)⟩ hK'
      constructor
      · show 9 * (F - g.T (jOf v.W)) + 7 ≤ r - 1
        omega
      · omega
  | _ h => exact absurd (h.symm.trans hN) (by decide)
theorem does_sweeping (G : Mach w mb wb rb cap g) (V : Wmem w rb v) (L : Live cap g v r) (hcap : 1 ≤ cap ∧ cap ≤ 1000) (hn : g.n ≤ 100000) (hN : v.W.next = 55) : Does 55 mb wb rb cap g v r w := by
  obtain ⟨g1, g2⟩ := V.has (by rw [hN]; decide)
  have key : ∀ O : OpAt cap g.T g.B v.W v.o 2 3, (∀ (W' : WorkS) (o' o2 : OpS) (xs' : List Nat), Turn { v.o with steps := v.o.steps + 1 } g.xs o' xs' → jOf W' = jOf v.W → W'.full = v.W.full → W'.src = v.W.src →
      ((o2 = o' ∧ W'.next = v.W.next ∧ o'.done = false ∧ (v.o.steps + 1 = 1 → ¬ ahd v.W.src o'.t ≤ 0)) ∨
       (W'.next = 35 ∧ o2 = ⟨atJ cap (jOf v.W), cap, 0, 0, 0, 0, v.W.x, false, false, 0⟩ ∧ ((v.o.steps + 1 = 1 ∧ ahd v.W.src o'.t ≤ 0) ∨ (o'.done = true ∧ o'.err = 7))) ∨
       (W'.next = v.W.next ∧ o2 = ⟨atJ cap (jOf v.W), cap, 2, 0, 0, 0, 0, false, false, 0⟩ ∧ o'.done = true ∧ o'.err = 8) ∨
       (W'.next = 73 ∧ o'.done = true ∧ o'.err = 0)) → Next cap g.n g.xs xs' g.T g.B v.W W' o2 r) → Does 55 mb wb rb cap g v r w := by
    intro O step
    have OK := G.ok O L.j hcap
    have r4 : rb ≠ v.kb := G.rack.ne V.work (by decide)
    have r3 : rb ≠ v.ob := G.rack.ne g2 (by decide)
    have r1 : rb ≠ mb := by obtain ⟨u, h⟩ := G.mem; exact G.rack.ne h (by decide)
    have r2 : rb ≠ wb := G.rack.ne G.words (by decide)
    obtain ⟨kb, ob, W, base, oc, kind, k, b, t, x, won, done, err⟩ := v
    obtain rfl : kind = 2 := O.kind
    obtain rfl : done = false := O.done
    simp only at r3 r4
    refine (kSweeping_any V.work G.rack ⟨L.kind, L.level⟩ g1 (G.mop g2) O.steps OK).mono ?_
    rintro e w' ⟨he, hP, hK⟩
    have R' := G.rack.kept hK (by simp [r1, r2, r3, r4])
    have hK' : Kept [mb, wb, ob, kb, rb] w w' := hK.mono (by simp +contextual)
    refine ⟨he, ?_⟩
    cases hP with
    | stay o' xs' T m h d c => exact post_of G m G.h0 G.h1 G.turn R' h g1 (.inl rfl) rfl rfl (fun _ => ⟨L.kind, L.level⟩) (step W o' o' xs' T rfl rfl rfl (.inl ⟨rfl, rfl, d, c⟩)) hK'
    | push o' xs' og T m h c g3 => exact post_of G m G.h0 G.h1 G.turn R' h rfl (.inr g3) rfl rfl (fun _ => ⟨L.kind, L.level⟩) (step _ o' _ xs' T rfl rfl rfl (.inr (.inl ⟨rfl, rfl, c⟩))) hK'
    | steal o' xs' og T m h d e g3 => exact post_of G m G.h0 G.h1 G.turn R' h rfl (.inr g3) rfl rfl (fun _ => ⟨L.kind, L.level⟩) (step _ o' _ xs' T rfl rfl rfl (.inr (.inr (.inl ⟨rfl, rfl, d, e⟩)))) hK'
    | ask o' xs' x T m h d e => exact post_of G m G.h0 G.h1 G.turn R' h g1 (.inl rfl) rfl rfl (fun _ => ⟨L.kind, L.level⟩) (step _ o' o' xs' T rfl rfl rfl (.inr (.inr (.inr ⟨rfl, d, e⟩)))) hK'
  have hdn : ∀ (O : OpAt cap g.T g.B v.W v.o 2 3) (o' : OpS) (xs' : List Nat), Turn { v.o with steps := v.o.steps + 1 } g.xs o' xs' → (o'.done = true → 1 ≤ v.o.steps) := fun O o' xs' T h => by
    have := T.same.2.2.2
    simp only at this
    rcases turn2 T O.kind with ⟨a, _⟩ | ⟨_, ⟨_, a⟩ | ⟨_, a⟩⟩
    · rw [h] at a; cases a
    · omega
    · omega
  cases L.wok with
  | sweep0 _ hf O hs F hF hr =>
    refine key O fun W' o' o2 xs' T hj hfu hsr hc => sweep1_next G.dq hN O hs hF hr L.j hn G.len hcap T hj (hfu.trans hf) hsr (fun ha => ?_) (fun ha => ?_)
    · rcases hc with ⟨h1, h2, _⟩ | ⟨_, _, ⟨_, h3⟩ | ⟨h3, _⟩⟩ | ⟨_, _, h3, _⟩ | ⟨_, h3, _⟩
      · exact ⟨h1, h2.trans hN⟩
      · exact absurd h3 ha
      · have := hdn O o' xs' T h3; omega
      · have := hdn O o' xs' T h3; omega
      · have := hdn O o' xs' T h3; omega
    · rcases hc with ⟨h1, h2, _, h4⟩ | ⟨h1, h2, _⟩ | ⟨_, _, h3, _⟩ | ⟨_, h3, _⟩
      · exact absurd ha (h4 (by omega))
      · exact ⟨h1, _, h2⟩
      · have := hdn O o' xs' T h3; omega
      · have := hdn O o' xs' T h3; omega
  | sweep _ hf O hs F t hF ht hr =>
    refine key O fun W' o' o2 xs' T hj hfu hsr hc => sweep_next G.dq hN O hs hF ht hr L.j hn G.len hcap T hj (hfu.trans hf) hsr (fun hd => ?_) (fun hd he => ?_) (fun hd he => ?_) (fun hd he => ?_)
    · rcases hc with ⟨h1, h2, _⟩ | ⟨_, _, ⟨h3, _⟩ | ⟨h3, _⟩⟩ | ⟨_, _, h3, _⟩ | ⟨_, h3, _⟩
      · exact ⟨h1, h2.trans hN⟩
      · omega
      · rw [hd] at h3; cases h3
      · rw [hd] at h3; cases h3
      · rw [hd] at h3; cases h3
    · rcases hc with ⟨_, _, h3, _⟩ | ⟨h1, h2, _⟩ | ⟨_, _, _, h3⟩ | ⟨_, _, h3⟩
      · rw [hd] at h3; cases h3
      · exact ⟨h1, _, h2⟩
      · omega
      · omega
    · rcases hc with ⟨_, _, h3, _⟩ | ⟨_, _, ⟨h3, _⟩ | ⟨_, h3⟩⟩ | ⟨h1, h2, _⟩ | ⟨_, _, h3⟩
      · rw [hd] at h3; cases h3
      · omega
      · omega
      · exact ⟨h1.trans hN, h2⟩
      · omega
    · rcases hc with ⟨_, _, h3, _⟩ | ⟨_, _, ⟨h3, _⟩ | ⟨_, h3⟩⟩ | ⟨_, _, _, h3⟩ | ⟨h1, _, _⟩
      · rw [hd] at h3; cases h3
      · omega
      · omega
      · omega
      · exact h1
  | _ h => exact absurd (h.symm.trans hN) (by decide)
end
end Go.Proofs.YtahpjoknmclbfaaDoor

/- A rack, its memory and a work: what reading, choosing, worst leave; Step. -/
namespace Go.Proofs.YtahpjoknmclbfaaDoor
open Go.RowKit

section
variable {w : World} {mb wb rb cap : Nat} {g : GS} {v : VS} {r : Int}
theorem Wmem.opOf {w' : World} {G : List Nat} (V : Wmem w rb v) (hk : Kept G w w') (hG : ∀ b cs, Blk w b 88 cs → b ∉ G) {W' : WorkS} (ho : W'.op = v.W.op) (hn : W'.next = v.W.next) : (W'.op = .pointer none ∧ v.ob = v.kb ∧ (W'.next = 30 ∨ W'.next = 32 ∨ W'.next = 31)) ∨ (W'.op = .pointer (some ⟨v.ob, 0, none⟩) ∧ Blk w' v.ob 88 (opC v.o)) := by
  rw [ho, hn]
  rcases V.op with h | ⟨h1, h2⟩
  · exact .inl h
  · exact .inr ⟨h1, h2.kept hk (hG _ _ h2)⟩
theorem does_reading (G : Mach w mb wb rb cap g) (V : Wmem w rb v) (L : Live cap g v r) (hT : HasDb w) (hgm : 0 ≠ mb) (hN : v.W.next = 32) : Does 32 mb wb rb cap g v r w := by
  cases L.wok with
  | reading _ hr =>
    have k1 : v.kb ≠ mb := by obtain ⟨u, h⟩ := G.mem; exact V.work.ne h (by decide)
    have k2 : v.kb ≠ wb := V.work.ne G.words (by decide)
    have k4 : v.kb ≠ rb := V.work.ne G.rack (by decide)
    have m2 : mb ≠ wb := by obtain ⟨u, h⟩ := G.mem; exact h.ne G.words (by decide)
    have m3 : mb ≠ rb := by obtain ⟨u, h⟩ := G.mem; exact h.ne G.rack (by decide)
    have hlen := G.len
    have hnop : ∀ b cs, Blk w b 88 cs → b ∉ [mb, v.kb] := fun b cs h hm => by
      simp only [List.mem_cons, List.not_mem_nil, or_false] at hm
      rcases hm with rfl | rfl
      · obtain ⟨u, h'⟩ := G.mem; exact h.ne h' (by decide) rfl
      · exact h.ne V.work (by decide) rfl
    refine (kReading_any V.work G.rack L.kind G.mem G.words (by omega) G.sign hT hgm).mono ?_
    rintro e w' ⟨he, hP, hm', hK⟩
    have R' := G.rack.kept hK (by simp [Ne.symm m3, Ne.symm k4])
    have hw' := G.words.kept hK (by simp [Ne.symm m2, Ne.symm k2])
    have hK' : Kept [mb, wb, v.ob, v.kb, rb] w w' := hK.mono (by simp +contextual)
    refine ⟨he, ?_⟩
    cases hP with
    | none h => exact post_end (W' := { v.W with done := true, err := 7 }) G hm' hw' (G.dq.later (by omega)) rfl G.sign G.h0 G.h1 G.turn R' ⟨h, V.opOf hK hnop rfl rfl⟩ rfl rfl rfl hK'
    | some og l g3 hl m h =>
      exact post_of G (o2 := ⟨atJ cap (v.W.kind * 8 + l), cap, 2, 0, 0, 0, 0, false, false, 0⟩) ⟨hm', hw', m⟩ G.h0 G.h1 G.turn R' h rfl (.inr g3) rfl rfl (fun _ => ⟨L.kind, hl⟩) ⟨g.T, g.B, G.dq.later (by omega), fun _ => Int.le_refl _, fun _ => rfl, ⟨rfl, rfl⟩, fun _ => fin (b := 50) (.robbing rfl ((OpAt.new (W := { v.W with level := l, op := .pointer (some ⟨og, 0, none⟩), next := 50 }) 2 0 (by simp)).up (by omega)) ⟨fun _ => (by show 5 - ((0 : Nat) : Int) ≤ r - 1; omega), by omega⟩) hN rfl (by decide)⟩ hK'
  | _ h => exact absurd (h.symm.trans hN) (by decide)
theorem does_choosing (G : Mach w mb wb rb cap g) (V : Wmem w rb v) (L : Live cap g v r) (hT : HasDb w) (hN : v.W.next = 30) : Does 30 mb wb rb cap g v r w := by
  cases L.wok with
  | choosing _ hr =>
    have k1 : v.kb ≠ mb := by obtain ⟨u, h⟩ := G.mem; exact V.work.ne h (by decide)
    have k2 : v.kb ≠ wb := V.work.ne G.words (by decide)
    have m2 : rb ≠ wb := G.rack.ne G.words (by decide)
    have m3 : rb ≠ mb := by obtain ⟨u, h⟩ := G.mem; exact G.rack.ne h (by decide)
    have hTh := notThief hN (by decide) (by decide) (by decide)
    have hnop : ∀ b cs, Blk w b 88 cs → b ∉ [v.kb, rb] := fun b cs h hm => by
      simp only [List.mem_cons, List.not_mem_nil, or_false] at hm
      rcases hm with rfl | rfl
      · exact h.ne V.work (by decide) rfl
      · exact h.ne G.rack (by decide) rfl
    refine (kChoosing_any V.work G.rack L.kind G.h0 G.h1 G.turn hT).mono ?_
    rintro e w' ⟨he, hP, hK⟩
    have hm' : ∃ u : Int, Blk w' mb 43 #[.slice (some ⟨wb, 0, none⟩) g.xs.length g.xs.length, .int .u64 u] := by
      obtain ⟨u, h⟩ := G.mem
      exact ⟨u, h.kept hK (by simp [Ne.symm k1, Ne.symm m3])⟩
    have hw' := G.words.kept hK (by simp [Ne.symm k2, Ne.symm m2])
    have hK' : Kept [mb, wb, v.ob, v.kb, rb] w w' := hK.mono (by simp +contextual)
    refine ⟨he, ?_⟩
    cases hP with
    | none t ht h R' => exact post_end (W' := { v.W with level := 8, done := true, err := 7 }) G hm' hw' (G.dq.later (by omega)) rfl G.sign G.h0 G.h1 ht R' ⟨h, V.opOf hK hnop rfl rfl⟩ rfl rfl rfl hK'
    | some og l k t g3 hk hl ht m h R' =>
      exact post_of G (o2 := ⟨atJ cap (k * 8 + l), cap, 2, 0, 0, 0, 0, false, false, 0⟩) ⟨hm', hw', m⟩ G.h0 G.h1 ht R' h rfl (.inr g3) rfl rfl (fun _ => ⟨hk, hl⟩) ⟨g.T, g.B, G.dq.later (by omega), fun _ => Int.le_refl _, fun _ => rfl, ⟨rfl, rfl⟩, fun _ => fin (b := 44) (.taking rfl ((OpAt.new (W := { v.W with level := l, kind := k, op := .pointer (some ⟨og, 0, none⟩), next := 44 }) 2 0 (by simp)).up (by omega)) (by show 4 - ((0 : Nat) : Int) ≤ r - 1; omega)) hN rfl (by decide)⟩ hK'
  | _ h => exact absurd (h.symm.trans hN) (by decide)
theorem does_worst (G : Mach w mb wb rb cap g) (V : Wmem w rb v) (L : Live cap g v r) (hT : HasDb w) (hgk : 0 ≠ v.kb) (hgl : 0 < w.heap.size) (hop : v.W.op = .pointer none) (hN : v.W.next = 31) : Does 31 mb wb rb cap g v r w := by
  cases L.wok with
  | worst _ hw hr =>
    have k1 : v.kb ≠ mb := by obtain ⟨u, h⟩ := G.mem; exact V.work.ne h (by decide)
    have k2 : v.kb ≠ wb := V.work.ne G.words (by decide)
    have k4 : v.kb ≠ rb := V.work.ne G.rack (by decide)
    have hTh := notThief hN (by decide) (by decide) (by decide)
    have hnop : ∀ b cs, Blk w b 88 cs → b ∉ [v.kb] := fun b cs h hm => by
      simp only [List.mem_cons, List.not_mem_nil, or_false] at hm
      subst hm
      exact h.ne V.work (by decide) rfl
    refine (kWorst_any V.work G.rack L.kind hop G.h0 hT hgk hgl).mono ?_
    rintro e w' ⟨he, hP, hK⟩
    have R' := G.rack.kept hK (by simp [Ne.symm k4])
    have hm' : ∃ u : Int, Blk w' mb 43 #[.slice (some ⟨wb, 0, none⟩) g.xs.length g.xs.length, .int .u64 u] := by
      obtain ⟨u, h⟩ := G.mem
      exact ⟨u, h.kept hK (by simp [Ne.symm k1])⟩
    have hw' := G.words.kept hK (by simp [Ne.symm k2])
    have hK' : Kept [mb, wb, v.ob, v.kb, rb] w w' := hK.mono (by simp +contextual)
    refine ⟨he, ?_⟩
    cases hP with
    | none h => exact post_end (W' := { v.W with done := true, err := 7 }) G hm' hw' (G.dq.later (by omega)) rfl G.sign G.h0 G.h1 G.turn R' ⟨h, V.opOf hK hnop rfl rfl⟩ rfl rfl rfl hK'
    | some og l g3 hl m h =>
      exact post_of G (o2 := ⟨atJ cap (v.W.kind * 8 + l), cap, 1, 0, 0, 0, 0, false, false, 0⟩) ⟨hm', hw', m⟩ G.h0 G.h1 G.turn R' h rfl (.inr g3) rfl rfl (fun _ => ⟨L.kind, hl⟩) ⟨g.T, g.B, G.dq.later (by omega), fun _ => Int.le_refl _, fun _ => rfl, ⟨rfl, rfl⟩, fun _ => fin (b := 47) (.popping rfl ((OpAt.new (W := { v.W with level := l, op := .pointer (some ⟨og, 0, none⟩), next := 47 }) 1 0 (by simp)).up (by omega)) (by show 6 - ((0 : Nat) : Int) ≤ r - 1; omega)) hN rfl (by decide)⟩ hK'
  | _ h => exact absurd (h.symm.trans hN) (by decide)
/-- All steps. -/
theorem does_any (G : Mach w mb wb rb cap g) (V : Wmem w rb v) (L : Live cap g v r) (hcap : 1 ≤ cap ∧ cap ≤ 1000) (hn : g.n ≤ 100000) (hT : HasDb w) (hgm : 0 ≠ mb) (hgk : 0 ≠ v.kb) (hgl : 0 < w.heap.size) {N0 : Nat} (hg : v.W.next = 66 ∨ v.W.next = 73 → GoodAt N0 w v.W.good) (hN0 : N0 ≤ v.kb) (hop : v.W.next = 31 → v.W.op = .pointer none) : Does v.W.next mb wb rb cap g v r w := by
  cases L.wok with
  | signing h _ => rw [h]; exact does_signing G V L h
  | emptying h _ => rw [h]; exact does_emptying G V L h
  | choosing h _ => rw [h]; exact does_choosing G V L hT h
  | reading h _ => rw [h]; exact does_reading G V L hT hgm h
  | worst h _ _ => rw [h]; exact does_worst G V L hT hgk hgl (hop h) h
  | taking h _ _ => rw [h]; exact does_taking G V L hcap hn h
  | robbing h _ _ => rw [h]; exact does_robbing G V L hcap hn h
  | minding h _ _ _ => rw [h]; exact does_minding G V L (hg (.inl h)) hN0 h
  | popping h _ _ => rw [h]; exact does_popping G V L hcap hn h
  | push h _ _ _ => rw [h]; exact does_pushing G V L hcap hn h
  | last h _ _ _ => rw [h]; exact does_pushing G V L hcap hn h
  | sweep0 h _ _ _ _ _ _ => rw [h]; exact does_sweeping G V L hcap hn h
  | sweep h _ _ _ _ _ _ _ _ => rw [h]; exact does_sweeping G V L hcap hn h
  | asking h _ _ _ _ => rw [h]; exact does_asking G V L (hg (.inr h)) h
  | again h _ _ _ _ _ => rw [h]; exact does_again G V L hcap hn h
end
end Go.Proofs.YtahpjoknmclbfaaDoor

