/- Package nums: decimal texts. -/
import Derived.Test.YthahmfeaekddnaaGreatDoorNumsRef
import Derived.Laws.RangeString
import Derived.Laws.RangeAny
namespace Go.Proofs.YthahmfeaekddnaaGreatDoor
open Go.RowKit

theorem Kept.iter {G : List Nat} {w : World} (s : ByteArray) (pos : Nat) : Kept G w (w.iter s pos) := (Kept.refl _ _).alloc _

theorem all_take_succ {l : List UInt8} {k : Nat} (h : k < l.length) (ha : (l.take k).all isDig = true) (hb : isDig l[k] = true) : (l.take (k + 1)).all isDig = true := by
  rw [List.take_succ_eq_append_getElem h, List.all_append, ha]; simp [hb]
theorem not_all {l : List UInt8} {k : Nat} (h : k < l.length) (hb : isDig l[k] = false) : l.all isDig = false := by
  rw [List.all_eq_false]; exact ⟨l[k], List.getElem_mem h, by simp [hb]⟩

end Go.Proofs.YthahmfeaekddnaaGreatDoor
