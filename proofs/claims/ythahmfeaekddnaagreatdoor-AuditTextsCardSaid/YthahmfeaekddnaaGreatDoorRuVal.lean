/- The runner: a run's value; a function that says yes, as a contract. -/
import Derived.Test.YthahmfeaekddnaaGreatDoorRuCh
namespace Go.Proofs.YthahmfeaekddnaaGreatDoor.Ru
open Go Go.RowKit

def valOf : R → Option Value
  | .ok v _ => some v
  | .bad => none
theorem val_of {r : R} {v : Value} (h : valOf r = some v) : ∃ h', r = .ok v h' := by
  cases r with
  | bad => cases h
  | ok v' h' => exact ⟨h', by cases h; rfl⟩
theorem Tab.kept {w w' : World} (h : Tab w) (hk : Kept [] w w') : Tab w' := by
  refine ⟨Nat.lt_of_lt_of_le h.1 hk.size, fun i u hu => ?_⟩
  rw [← h.2 i u hu]
  have := hk.block 0 h.1 (by simp)
  unfold World.cell?
  rw [this]
theorem Awakes.calls {f : FuncId} (h : Awakes f) {w : World} (hT : Tab w) : Calls Tryz.prog f #[] w fun e w' => e = .returned (.bool true) ∧ Kept [] w w' := by
  intro cs
  obtain ⟨w', fr', hst, e1, e2, e3, e4, ⟨fn, e5, e6⟩, hk⟩ := h.2 w hT .normal (.inl rfl) cs
  exact ⟨.returned _, w', fr', ⟨rfl, hk⟩, hst, e3, e1, e2, e4, fn, by rw [e3]; exact e5, e6⟩
theorem Reach.value {c : Cx} (C : CxOk KK c) {f : FuncId} {args' : Array Value} {todo : List Item} {s : St} (hr : Reach f args' todo s) (fuel : Nat) {v : Value} (h : valOf (aFin c fuel f todo s) = some v) (hp : plain 4 v = true) {w : World} (hT : Tab w) :
    Calls Tryz.prog f args' w fun e w' => e = .returned v ∧ Kept [] w w' := by
  obtain ⟨fn, hfn, hn, hw⟩ := hr
  obtain ⟨h', hf⟩ := val_of h
  intro cs
  obtain ⟨m, w1, tmps, ds, a, F, hk⟩ := hw w hT .normal cs
  unfold aFin at hf
  rw [hfn] at hf
  simp only at hf
  split at hf
  · rename_i E D h1 j he
    obtain ⟨m1, w2, t1, d1, q1, a1, F1, X1, _, hlv⟩ := exec_ok (ro := none) (roC := none) (kind := .normal) (cs := cs) kok C hn fuel F trivial he
    cases hj : leaves j with
    | false => rw [hj] at hf; cases hf
    | true =>
      rw [hj] at hf
      simp only [cond] at hf
      split at hf
      · rename_i h2 hd
        obtain ⟨m2, w3, b1, H2, X2⟩ := defers_run (fn := f) (kind := .normal) (cs := cs) (tmps := t1) (todo := q1) kok C F1.H F1.D hd
        split at hf
        · rename_i vs hvs
          obtain ⟨v', r1, r2⟩ := results_ok kok H2 (F1.E.mono X2.le) hvs
          have hv : oneOr vs = v := (R.ok.inj hf).1
          rw [hv] at r1
          have := plain_eq 4 _ _ hp r1
          subst this
          exact ⟨.returned _, w3, { mkF f .normal none t1 [] q1 with mode := .returning }, ⟨rfl, Kept.ext F1.H (Kept.ext F.H hk X1) X2⟩, a.trans (a1.trans (.head (st_leave hlv hj) b1)), rfl, rfl, rfl, rfl, fn, (kok.fn _ _ hfn).1, r2⟩
        · cases hf
      · cases hf
  · cases hf
end Go.Proofs.YthahmfeaekddnaaGreatDoor.Ru
