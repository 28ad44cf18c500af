/- Package raft: Propose and Hear of nobody; a tick that only counts. -/
import Derived.Test.YtgglbholbkdgfaaGreatDoorB36
namespace Go.Proofs.YtgglbholbkdgfaaGreatDoor
open Go.RowKit

set_option maxRecDepth 100000 in
set_option maxHeartbeats 1000000 in
theorem Propose_nil (a : Option Addr) (n c : Nat) (w : World) : Calls Tryz.prog 24 #[.pointer none, .slice a n c] w fun e w' => e = .returned (.tuple #[.int .i64 0, .slice none 0 0, .int .i64 1]) ∧ Ext NoB w w' := by
  go_enter Tryz.func24, Tryz.ntmps24
  go_wp2_with fail
  go_ret3
  exact ⟨rfl, Ext.refl _ w⟩

set_option maxRecDepth 100000 in
set_option maxHeartbeats 1000000 in
theorem Hear_nil (fr tt kd : Int) (a b : Option Addr) (n c n' c' : Nat) (draw : Int) (w : World) : Calls Tryz.prog 19 #[.pointer none, msgV fr tt kd (.slice a n c) (.slice b n' c'), .int .i64 draw] w fun e w' => e = .returned (.slice none 0 0) ∧ Ext NoB w w' := by
  unfold msgV
  go_enter Tryz.func19, Tryz.ntmps19
  go_wp2_with fail
  go_ret
  exact ⟨rfl, (Ext.refl _ w).alloc _⟩

theorem RaftIs.set {w w' : World} {r d : Nat} {F : Nat → Prop} {N N' : PNode} {room : Nat} {saved : Bool} (h : RaftIs w r d F N room saved) (x : Ext (fun b => b = r) w w')
    (hb : ∀ L tv, w.heap[r]? = some (.cells (nodeArr N d L tv) 92 (0, 0)) → w'.heap[r]? = some (.cells (nodeArr N' d L tv) 92 (0, 0))) (hl : N'.log = N.log) (hi : N'.id < N'.n ∧ N'.n ≤ 5) (hc : N'.committed ≤ N'.log.length)
    (ht : N'.term = N.term) (hv : N'.vote = N.vote) : RaftIs w' r d F N' room saved ∧ Ext F w w' := by
  obtain ⟨D, ps, ⟨L, FD, FL, FR, tv, dl, hA, hF, hlt⟩, hrm, hperm⟩ := h.is
  refine ⟨⟨⟨D, ps, ⟨L, FD, FL, FR, tv, dl, hA.set x (hb L tv hA.blk) hl hi hc, hF, fun b hb => Nat.lt_of_lt_of_le (hlt b hb) x.size⟩, hrm, by rw [ht, hv]; exact hperm⟩, by rw [ht, hv]; exact h.fresh, by rw [hv]; exact h.vote, by rw [ht]; exact h.term⟩, x.mono (fun b _ e => hF b (.inr (.inr (e ▸ hA.self))))⟩
theorem RaftIs.cells {w : World} {r d : Nat} {F : Nat → Prop} {N : PNode} {room : Nat} {saved : Bool} (h : RaftIs w r d F N room saved) : ∃ L tv, w.heap[r]? = some (.cells (nodeArr N d L tv) 92 (0, 0)) ∧ N.id < N.n ∧ N.n ≤ 5 ∧ N.committed ≤ N.log.length ∧ N.log.length < 100 := by
  obtain ⟨D, ps, ⟨L, FD, FL, FR, tv, dl, hA, hF, hlt⟩, hrm, hperm⟩ := h.is
  exact ⟨L, tv, hA.blk, hA.idn.1, hA.idn.2, hA.comm, hA.len⟩

set_option maxRecDepth 100000 in
set_option maxHeartbeats 1000000 in
theorem Tick_counts (r d : Nat) (F : Nat → Prop) (N : PNode) (room : Nat) (saved : Bool) (draw : Int) (w : World) (h : RaftIs w r d F N room saved) (hw : 1 < N.wait ∧ N.wait < 1000) :
    Calls Tryz.prog 17 #[.pointer (some ⟨r, 0, none⟩), .int .i64 draw] w fun e w' => e = .returned (.slice none 0 0) ∧ Ext F w w' ∧ RaftIs w' r d F { N with wait := N.wait - 1 } room saved := by
  obtain ⟨L, tv, hb, hi1, hi2, hc, _⟩ := h.cells
  obtain ⟨wt, hwt⟩ : ∃ wt, N.wait = wt := ⟨_, rfl⟩
  have c1 : w.cell? ⟨r, 23, none⟩ = some (.bool false) := by rw [cell_of_blk hb]; rfl
  have c2 : w.cell? ⟨r, 11, none⟩ = some (.int .i64 wt) := by rw [cell_of_blk hb, ← hwt]; rfl
  have f2 : w.frozen? ⟨r, 11, none⟩ = false := frozen_of_blk hb 11
  rw [hwt] at hw ⊢
  have hw1 : IntKind.i64.wrap (wt - 1) = wt - 1 := IntWalk.i64_in _ (by omega)
  have hw2 : (0 : Int) < wt - 1 := by omega
  have H := Lib.hid h
  clear h hb hwt
  go_enter Tryz.func17, Tryz.ntmps17
  go_wp2_with fail
  go_ret
  have hs := RaftIs.set (N' := { N with wait := wt - 1 }) H.out ((Ext.refl (fun b => b = r) w).setCell (p := ⟨r, 11, none⟩) (.inl rfl) (.int .i64 (wt - 1))) (fun L tv hb => blk_setCell hb 11 _) rfl ⟨hi1, hi2⟩ hc rfl rfl
  exact ⟨rfl, hs.2, hs.1⟩
end Go.Proofs.YtgglbholbkdgfaaGreatDoor
