/- The document's words, Join and Same. -/
import Derived.Test.YthahmfeaekddnaaGreatDoorNumsWords
import Derived.Deep.QuietTactic
import Derived.BigQuiet
namespace Go.Proofs.YthahmfeaekddnaaGreatDoor
open Go.RowKit

theorem neq_str (a b : List UInt8) (h : a ≠ b) : (a != b) = true := by simpa using h

theorem FreshS.push {w wr w2 : World} {done : List (List UInt8)} {A A2 : Option Addr} {n c c2 : Nat} {p : List UInt8} (hF : FreshS w wr done A n c)
    (happ : Appended (wr.alloc (.cells #[strV p] 9)) w2 9 1 (.slice A n c) (.slice A2 (n + 1) c2) (n + 1) (done.map strV ++ [strV p])) : FreshS w w2 (done ++ [p]) A2 (n + 1) c2 := by
  have hkb : Kept (fp (.slice A n c)) wr w2 := (((Kept.refl _ _).alloc _).trans happ.2.1)
  refine ⟨by simpa using happ.1, hF.2.1.trans' hkb fun q hq => .inr (hF.2.2 q hq), fun q hq => ?_⟩
  have := hF.2.1.size
  rcases happ.2.2 q hq with h | h
  · exact hF.2.2 q h
  · simp at h; omega

theorem joinS_snoc (by_ : List UInt8) : ∀ (ws : List (List UInt8)) (x : List UInt8), ws ≠ [] → joinS by_ (ws ++ [x]) = joinS by_ ws ++ by_ ++ x
  | [], _, h => absurd rfl h
  | [w], x, _ => by simp [joinS]
  | w :: v :: ws, x, _ => by
    have := joinS_snoc by_ (v :: ws) x (by simp)
    simp only [List.cons_append] at this ⊢
    simp only [joinS] at this ⊢
    rw [this]; simp

end Go.Proofs.YthahmfeaekddnaaGreatDoor
