/- Joined texts: B79 B80 B81. Each has its own head. -/
import Derived.Test.YtgglbholbkdgfaaGreatDoorK14
import Derived.Test.YtgglbholbkdgfaaGreatDoorK12
set_option linter.unusedVariables false
set_option linter.unusedSimpArgs false
namespace Go.Proofs.YtgglbholbkdgfaaGreatDoor
open Go.RowKit
/-- Both slices of a segment, one entry longer. -/
structure Both (w w' : World) (ev nv v1 v2 : Value) (xs ys : List Value) : Prop where
  o1 : Own w' 35 1 v1 xs
  o2 : Own w' 3 1 v2 ys
  x : Ext (fun b => ev.ownBlock = some b ∨ nv.ownBlock = some b) w w'
  h1 : ∀ g, v1.ownBlock = some g → ev.ownBlock = some g ∨ w.heap.size ≤ g
  h2 : ∀ g, v2.ownBlock = some g → nv.ownBlock = some g ∨ w.heap.size ≤ g
theorem Both.of {w wa wb wc wd : World} {ev nv v1 v2 : Value} {xs ys zs : List Value} (xa : Ext NoB w wa) (x1 : Ext (fun b => ev.ownBlock = some b) wa wb) (xb : Ext NoB wb wc) (x2 : Ext (fun b => nv.ownBlock = some b) wc wd) (o1 : Own wb 35 1 v1 xs)
    (on : Own wc 3 1 nv zs) (o2 : Own wd 3 1 v2 ys) (h1 : v1.ownBlock = ev.ownBlock ∨ ∃ g, v1.ownBlock = some g ∧ wa.heap.size ≤ g) (h2 : v2.ownBlock = nv.ownBlock ∨ ∃ g, v2.ownBlock = some g ∧ wc.heap.size ≤ g) : Both w wd ev nv v1 v2 xs ys := by
  have s1 := xa.size
  have s2 := x1.size
  have s3 := xb.size
  refine ⟨(o1.no xb).ext x2 (own_apart on (o1.no xb) (by decide)), o2, (((xa.of_no).trans (x1.mono (fun _ _ h => .inl h))).trans xb.of_no).trans (x2.mono (fun _ _ h => .inr h)), fun g hg => ?_, fun g hg => ?_⟩
  · rcases h1 with h | ⟨g', h, h'⟩
    · exact .inl (h ▸ hg)
    · rw [h] at hg; cases hg; exact .inr (by omega)
  · rcases h2 with h | ⟨g', h, h'⟩
    · exact .inl (h ▸ hg)
    · rw [h] at hg; cases hg; exact .inr (by omega)
end Go.Proofs.YtgglbholbkdgfaaGreatDoor
namespace Go.Proofs.YtgglbholbkdgfaaGreatDoor
open Go.RowKit
end Go.Proofs.YtgglbholbkdgfaaGreatDoor
namespace Go.Proofs.YtgglbholbkdgfaaGreatDoor
open Go.RowKit
theorem Chain.at : ∀ {n : Nat} {ps : List PSeg} {m i mi : Nat} {p : PSeg}, Chain n ps m → Chain n (ps.take i) mi → ps[i]? = some p → p.first = mi ∧ p.es ≠ [] ∧ mi + p.es.length ≤ m
  | n, q :: ps, m, 0, mi, p, h, h', hp => by
    have h1 : n = mi := h'
    obtain rfl : q = p := by simpa using hp
    exact ⟨h.1.trans h1, h.2.1, by have := h.2.2.le.1; omega⟩
  | n, q :: ps, m, i + 1, mi, p, h, h', hp => Chain.at h.2.2 h'.2.2 (by simpa using hp)
end Go.Proofs.YtgglbholbkdgfaaGreatDoor
