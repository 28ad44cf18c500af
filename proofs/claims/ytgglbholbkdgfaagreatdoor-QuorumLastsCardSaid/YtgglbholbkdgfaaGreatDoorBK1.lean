/- Rows of bytes that come in, each a slice. -/
import Derived.Test.YtgglbholbkdgfaaGreatDoorBK0
import Derived.Test.YtgglbholbkdgfaaGreatDoorK32
set_option linter.unusedVariables false
set_option linter.unusedSimpArgs false
namespace Go.Proofs.YtgglbholbkdgfaaGreatDoor
open Go.ChangeShapes Go.WideShapes Go.ChangeAt Go.RowKit Go.Deep
theorem weightsAll_memQ {H : Type} {P : Program} {e : TypeId} {n : Nat} : ∀ {ds : List (DataW H)} {d : DataW H}, d ∈ ds → n ∈ d.weights P e → n ∈ DataW.weightsAll P e ds
 | [], _, hd, _ => by cases hd
 | x :: r, d, hd, hn => by
  unfold DataW.weightsAll
  rcases List.mem_cons.1 hd with rfl | hd
  ·exact List.mem_append_left _ hn
  ·exact List.mem_append_right _ (weightsAll_memQ hd hn)
set_option maxRecDepth 100000 in
theorem open_rowsQ {H : Type} {enc : TypeId × Value → H} {w : World} {base : Nat} {spare : Nat → Bool} {held : Bool} {fuel : Nat} {ap : Option Addr} {m c : Nat} {y : DataW H × List MemPlace} (h : DataW.trod enc Tryz.prog w base spare held fuel 44 [.slice ap m c] = some y)
  (hw : ∀ n ∈ y.1.weights Tryz.prog 44, n ≤ reachBytes) : ∃ rows : List (List UInt8), rows.length = m ∧ RowsQ w ap rows := by
 rcases open_slice1 Tryz.underlying44 (by kernel_rfl) h with ⟨hc, _⟩ | ⟨a, len, cap, k, n, V, D, Pl, hc, _, h1, h2, hm, hy, hx⟩
 ·simp only [List.cons.injEq, Value.slice.injEq, and_true] at hc
  obtain ⟨-, rfl, -⟩ := hc
  exact ⟨[], rfl, fun i l hl => by cases hl⟩
 ·simp only [List.cons.injEq, Value.slice.injEq, and_true] at hc
  obtain ⟨rfl, rfl, rfl⟩ := hc
  obtain ⟨b, off, sp⟩ := a
  have hrow : ∀ i, i < m → ∃ l : List UInt8, ∃ b' off' a c, (some ⟨b, off, sp⟩ : Option Addr) = some ⟨b', off', none⟩ ∧ w.cell? ⟨b', off' + i, none⟩ = some (.slice a l.length c) ∧ CellsB w a l ∧ l.length ≤ 140737488355328 ∧ l.length ≤ c ∧ c ≤ maxLen := by
   intro i hi
   have hik : i < k := by rw [hm]; split <;> omega
   obtain ⟨g1, g2⟩ := hx i hik
   have hwi : ∀ n ∈ (D i).weights Tryz.prog 35, n ≤ reachBytes := by
    intro n hn
    refine hw n ?_
    have e : y.1.weights Tryz.prog 44 = (((List.range m).map D).length + ((List.range (k - m)).map fun j => D (m + j)).length) * Tryz.prog.bytesOf 35 :: (DataW.weightsAll Tryz.prog 35 ((List.range m).map D) ++ DataW.weightsAll Tryz.prog 35 ((List.range (k - m)).map fun j => D (m + j))) := by
     rw [hy]
     simp only [DataW.weights, Tryz.underlying44]
    rw [e]
    exact List.mem_cons_of_mem _ (List.mem_append_left _ (weightsAll_memQ (List.mem_map_of_mem (List.mem_range.2 hi)) hn))
   obtain ⟨na, nn, nc, hv, hn1, hn2, hn3⟩ := slice_reach Tryz.underlying35 (by rw [show Tryz.prog.bytesOf 5 = 1 by kernel_rfl]; omega) g2 hwi
   rw [show Tryz.prog.bytesOf 5 = 1 by kernel_rfl] at hn3
   rw [hv] at g1 g2
   obtain ⟨l, hl, hcl⟩ := rd_bytes g2
   obtain rfl : sp = none := by
    obtain ⟨g0, _⟩ := hx 0 (by omega)
    have : w.cell? ⟨b, off, sp⟩ = some (V 0) := by simpa [Addr.add] using g0
    exact spot_of_cell this
   rw [Addr.add_lit] at g1
   exact ⟨l, b, off, na, nc, rfl, by rw [hl]; exact g1, hcl, by omega, by omega, hn2⟩
  refine ⟨(List.range m).map (fun i => if h : i < m then (hrow i h).choose else []), by simp, fun i l hl => ?_⟩
  rw [List.getElem?_map] at hl
  obtain ⟨i', hi', he⟩ := Option.map_eq_some_iff.1 hl
  have hin : i < m := by
   have := (List.getElem?_eq_some_iff.1 hi').1
   simpa using this
  obtain rfl : i = i' := by
   rw [List.getElem?_range hin] at hi'
   exact Option.some.inj hi'
  rw [dif_pos hin] at he
  subst he
  exact (hrow i hin).choose_spec
end Go.Proofs.YtgglbholbkdgfaaGreatDoor
