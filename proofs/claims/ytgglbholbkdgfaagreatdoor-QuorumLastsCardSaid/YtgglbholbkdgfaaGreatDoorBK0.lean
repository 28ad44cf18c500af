/- Bytes of a slice that comes in. -/
import Derived.Test.YtgglbholbkdgfaaGreatDoorK17
import Derived.Test.YtgglbholbkdgfaaGreatDoorBL
import Derived.Deep.Slices
set_option linter.unusedVariables false
set_option linter.unusedSimpArgs false
namespace Go.Proofs.YtgglbholbkdgfaaGreatDoor
open Go.ChangeShapes Go.WideShapes Go.ChangeAt Go.RowKit Go.Deep
theorem spot_of_cell {w : World} {a : Addr} {v : Value} (h : w.cell? a = some v) : a.spot = none := by
 unfold World.cell? at h
 split at h
 ·cases hs : a.spot with
  | none => rfl
  | some x => rw [hs] at h; cases h
 ·cases h
theorem rd_bytes {H : Type} {enc : TypeId × Value → H} {w : World} {base : Nat} {spare : Nat → Bool} {held : Bool} {fuel : Nat} {na : Option Addr} {nn nc : Nat} {y : DataW H × List MemPlace}
  (h : DataW.trod enc Tryz.prog w base spare held fuel 35 [.slice na nn nc] = some y) : ∃ l : List UInt8, l.length = nn ∧ CellsB w na l := by
 rcases open_slice1 Tryz.underlying35 (by kernel_rfl) h with ⟨hc, _⟩ | ⟨a, len, cap, m, n, V, D, Pl, hc, _, h1, h2, hm, _, hx⟩
 ·simp only [List.cons.injEq, Value.slice.injEq, and_true] at hc
  obtain ⟨rfl, rfl, rfl⟩ := hc
  exact ⟨[], rfl, fun i x hx => by cases hx⟩
 ·simp only [List.cons.injEq, Value.slice.injEq, and_true] at hc
  obtain ⟨rfl, rfl, rfl⟩ := hc
  obtain ⟨b, off, sp⟩ := a
  have hlt : ∀ i, i < nn → i < m := fun i hi => by rw [hm]; split <;> omega
  have hv : ∀ i, i < nn → ∃ x : UInt8, V i = .int .u8 (x.toNat : Int) := fun i hi => by
   obtain ⟨_, g2⟩ := hx i (hlt i hi)
   obtain ⟨v, e, -, hwf⟩ := DataW.trod_int Tryz.underlying5 g2
   have e2 : V i = .int .u8 v := by simpa using e
   simp only [Lit.wf, Bool.and_eq_true, decide_eq_true_eq] at hwf
   have hv0 : 0 ≤ v ∧ v ≤ 255 := ⟨hwf.1, hwf.2⟩
   refine ⟨UInt8.ofNat v.toNat, ?_⟩
   rw [e2, UInt8.toNat_ofNat']
   congr 1
   omega
  obtain ⟨X, hX⟩ : ∃ X : Nat → UInt8, ∀ i, i < nn → V i = .int .u8 ((X i).toNat : Int) := by
   refine ⟨fun i => if h : i < nn then (hv i h).choose else 0, fun i hi => ?_⟩
   simp only [dif_pos hi]
   exact (hv i hi).choose_spec
  refine ⟨(List.range nn).map X, by simp, fun i x hi => ?_⟩
  rw [List.getElem?_map] at hi
  obtain ⟨i', hi', rfl⟩ := Option.map_eq_some_iff.1 hi
  have hin : i < nn := by
   have := (List.getElem?_eq_some_iff.1 hi').1
   simpa using this
  obtain rfl : i = i' := by
   rw [List.getElem?_range hin] at hi'
   exact Option.some.inj hi'
  obtain rfl : sp = none := by
   obtain ⟨g1, _⟩ := hx 0 (hlt 0 (by omega))
   have : w.cell? ⟨b, off, sp⟩ = some (V 0) := by simpa [Addr.add] using g1
   exact spot_of_cell this
  obtain ⟨g1, _⟩ := hx i (hlt i hin)
  rw [Addr.add_lit, hX i hin] at g1
  exact ⟨b, off, rfl, g1⟩
end Go.Proofs.YtgglbholbkdgfaaGreatDoor
