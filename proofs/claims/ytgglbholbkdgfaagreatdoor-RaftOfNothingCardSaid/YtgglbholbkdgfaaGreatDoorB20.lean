/- Package wal: last, Bounds, Open of a disk without segments. -/
import Derived.Test.YtgglbholbkdgfaaGreatDoorB19
namespace Go.Proofs.YtgglbholbkdgfaaGreatDoor
open Go.RowKit

theorem natLt {a b : Nat} (h : a < b) : (a : Int) < (b : Int) := by omega

set_option maxRecDepth 100000 in
set_option maxHeartbeats 400000 in
theorem last_none (L d : Nat) (F : Nat → Prop) (pre : ByteArray) (sv : Value) (m : Nat) (w : World) (h : LogAt w L d F pre sv [] m) :
    Calls Tryz.prog 116 #[.pointer (some ⟨L, 0, none⟩)] w fun e w' => e = .returned (.pointer none) ∧ Ext NoB w w' := by
  obtain ⟨a, c, rfl, hn, hc⟩ := Rd.shape h.segs.rd
  have c2 : w.cell? ⟨L, 2, none⟩ = some (.slice a 0 c) := by rw [cell_of_blk h.blk]; rfl
  clear h
  go_enter Tryz.func116, Tryz.ntmps116
  go_wp2_with fail
  go_ret
  exact ⟨rfl, Ext.refl _ w⟩

/-- The cell of a slice of segments. -/
theorem LogAt.seg {w : World} {L d : Nat} {F : Nat → Prop} {pre : ByteArray} {sv : Value} {rs : List RSeg} {m : Nat} (h : LogAt w L d F pre sv rs m) (hne : rs ≠ []) :
    ∃ b off c, sv = .slice (some ⟨b, off, none⟩) rs.length c ∧ rs.length ≤ c ∧ c ≤ maxLen ∧ ∀ (i : Nat) (r : RSeg), rs[i]? = some r → w.cell? ⟨b, off + i, none⟩ = some r.ptr := by
  obtain ⟨a, n, c, hv, hl, hn, hc, _, hr⟩ := h.segs.rd
  have hne' : rs.map RSeg.ptr ≠ [] := by simpa using hne
  obtain ⟨b, off, rfl, hr2⟩ := hr hne'
  have hl' : n = rs.length := by simpa using hl.symm
  subst hl'
  exact ⟨b, off, c, hv, hn, hc, fun i r hi => hr2 i _ (by rw [List.getElem?_map, hi]; rfl)⟩
theorem Chain.count : ∀ {n : Nat} {ps : List PSeg} {m : Nat}, Chain n ps m → n + ps.length ≤ m
  | n, [], m, h => Nat.le_of_eq h
  | n, p :: ps, m, h => by
    obtain ⟨h1, h2, h3⟩ := h
    have := Chain.count h3
    have := List.length_pos_iff.2 h2
    simp only [List.length_cons]
    omega

set_option maxRecDepth 100000 in
set_option maxHeartbeats 400000 in
theorem last_some (L d : Nat) (F : Nat → Prop) (pre : ByteArray) (sv : Value) (rs : List RSeg) (m : Nat) (w : World) (h : LogAt w L d F pre sv rs m) (r : RSeg) (hr : rs[rs.length - 1]? = some r) :
    Calls Tryz.prog 116 #[.pointer (some ⟨L, 0, none⟩)] w fun e w' => e = .returned r.ptr ∧ Ext NoB w w' := by
  have hne : rs ≠ [] := by rintro rfl; cases hr
  have hpos := List.length_pos_iff.2 hne
  obtain ⟨b, off, c, rfl, hn, hc, hcell⟩ := h.seg hne
  have c2 : w.cell? ⟨L, 2, none⟩ = some (.slice (some ⟨b, off, none⟩) rs.length c) := by rw [cell_of_blk h.blk]; rfl
  have ce := hcell _ _ hr
  have hw : IntKind.i64.wrap ((rs.length : Int) - 1) = ((rs.length - 1 : Nat) : Int) := by rw [IntWalk.i64_in _ (by unfold maxLen at hc; omega)]; omega
  have hw0 : (0 : Int) ≤ ((rs.length - 1 : Nat) : Int) := by omega
  have hw1 : ((rs.length - 1 : Nat) : Int) < ((rs.length : Nat) : Int) := by omega
  have hwn : (((rs.length - 1 : Nat) : Int)).toNat = rs.length - 1 := by omega
  have hz : ((rs.length : Nat) : Int) ≠ 0 := by omega
  unfold RSeg.ptr at ce ⊢
  clear h hcell hr hne
  go_enter Tryz.func116, Tryz.ntmps116
  go_wp2_with fail
  go_quiet (fail)
  go_wp2_with fail
  go_ret
  exact ⟨rfl, (Ext.refl _ w).drewN _⟩

set_option maxRecDepth 100000 in
set_option maxHeartbeats 400000 in
theorem Bounds_any (L d : Nat) (F : Nat → Prop) (pre : ByteArray) (sv : Value) (rs : List RSeg) (m : Nat) (w : World) (h : LogAt w L d F pre sv rs m) :
    Calls Tryz.prog 39 #[.pointer (some ⟨L, 0, none⟩)] w fun e w' => e = .returned (.tuple #[.int .i64 1, .int .i64 m]) ∧ Ext NoB w w' := by
  have c3 : w.cell? ⟨L, 3, none⟩ = some (.int .i64 m) := by rw [cell_of_blk h.blk]; rfl
  cases rs with
  | nil =>
    obtain ⟨a, c, rfl, hn, hc⟩ := Rd.shape h.segs.rd
    have c2 : w.cell? ⟨L, 2, none⟩ = some (.slice a 0 c) := by rw [cell_of_blk h.blk]; rfl
    have hm : 1 = m := h.chain
    subst hm
    clear h
    go_enter Tryz.func39, Tryz.ntmps39
    go_wp2_with fail
    go_quiet (fail)
    go_wp2_with fail
    go_ret2
    exact ⟨rfl, (Ext.refl _ w).drewN _⟩
  | cons r rs =>
    obtain ⟨b, off, c, rfl, hn, hc, hcell⟩ := h.seg (by simp)
    have c2 : w.cell? ⟨L, 2, none⟩ = some (.slice (some ⟨b, off, none⟩) (rs.length + 1) c) := by rw [cell_of_blk h.blk]; rfl
    have ce : w.cell? ⟨b, off, none⟩ = some r.ptr := by simpa using hcell 0 r rfl
    have hs := (h.each r (by simp)).blk
    have c0 : w.cell? ⟨r.sg, 0, none⟩ = some (.int .i64 1) := by rw [cell_of_blk hs]; rw [h.chain.1]; rfl
    have hw1 : (0 : Int) < ((rs.length + 1 : Nat) : Int) := by omega
    have hz : ((rs.length + 1 : Nat) : Int) ≠ 0 := by omega
    have hz' : (rs.length : Int) + 1 ≠ 0 := by omega
    have hw1' : (0 : Int) < (rs.length : Int) + 1 := by omega
    unfold RSeg.ptr at ce
    clear h hcell hs
    go_enter Tryz.func39, Tryz.ntmps39
    go_wp2_with fail
    go_quiet (fail)
    go_wp2_with fail
    go_ret2
    exact ⟨rfl, (Ext.refl _ w).drewN _⟩
end Go.Proofs.YtgglbholbkdgfaaGreatDoor
