/- Things in memory. -/
import Derived.Test.YtmaiipglojpknaaWirePlain
namespace Go.Proofs.Ytmaiipglojpknaa
open Go.RowKit

/-- A thing: its kind, its number, its slice of bytes (address, length, capacity), its bound, and the bytes. -/
structure Th where
  kind : Nat
  x : Nat
  A : Option Addr
  m : Nat
  c : Nat
  most : Int
  b : List UInt8

structure ThOk (w : World) (t : Th) : Prop where
  kind : t.kind < 256
  x : t.x < 18446744073709551616
  reads : Reads w 1 t.A t.m (t.b.map B)
  mc : t.m ≤ t.c
  cm : t.c ≤ maxLen
  most0 : -9223372036854775808 ≤ t.most
  most1 : t.most ≤ 9223372036854775807

/-- The slice at A holds the things ts. -/
structure Things (w : World) (A : Option Addr) (ts : List Th) : Prop where
  small : ts.length ≤ 9223372036854775807
  at_ : ∀ i t, ts[i]? = some t → ∃ b o, A = some ⟨b, o, none⟩ ∧ b < w.heap.size ∧ w.cell? ⟨b, o + i * 4, none⟩ = some (.int .u8 t.kind) ∧ w.cell? ⟨b, o + i * 4 + 1, none⟩ = some (.int .u64 t.x) ∧
    w.cell? ⟨b, o + i * 4 + 2, none⟩ = some (.slice t.A t.m t.c) ∧ w.cell? ⟨b, o + i * 4 + 3, none⟩ = some (.int .i64 t.most) ∧ ThOk w t

theorem ThOk.old {w w' : World} {t : Th} (h : ThOk w t) (hk : Kept [] w w') : ThOk w' t := ⟨h.kind, h.x, h.reads.old hk, h.mc, h.cm, h.most0, h.most1⟩
theorem Things.old {w w' : World} {A : Option Addr} {ts : List Th} (h : Things w A ts) (hk : Kept [] w w') : Things w' A ts :=
  ⟨h.small, fun i t ht => by
    obtain ⟨b, o, hA, hlt, h0, h1, h2, h3, h4⟩ := h.at_ i t ht
    have := hk.size
    exact ⟨b, o, hA, by omega, hk.cell_some h0 (by simp), hk.cell_some h1 (by simp), hk.cell_some h2 (by simp), hk.cell_some h3 (by simp), h4.old hk⟩⟩

/-- What is new in w may turn. -/
theorem Kept.new {G : List Nat} {w w' : World} (h : Kept G w w') (hG : ∀ k, k ∈ G → w.heap.size ≤ k) : Kept [] w w' :=
  ⟨h.os, h.tape, h.output, h.size, fun k hk _ => h.block k hk fun hm => by have := hG k hm; omega⟩

end Go.Proofs.Ytmaiipglojpknaa
