/- Package raft: Tick that stands for election; Take. -/
import Derived.Test.YtgglbholbkdgfaaGreatDoorB42
namespace Go.Proofs.YtgglbholbkdgfaaGreatDoor
open Go.RowKit

/-- What a call leaves that sends messages: Ms is sent, the node is N' behind. -/
def Sends (r d : Nat) (F : Nat → Prop) (w : World) (Ms : List PMsg) (N' : PNode) (room : Nat) (saved : Bool) (e : Ending) (w' : World) : Prop :=
  ∃ v, e = .returned v ∧ MsgsAre w' v Ms ∧ Fresh w v ∧ Ext F w w' ∧ RaftIs w' r d (Gr F w w') N' room saved
/-- A node whose cells were written, and then a call. -/
theorem Sends.behind {r d : Nat} {F : Nat → Prop} {w w1 w2 : World} {Ms : List PMsg} {N' : PNode} {room : Nat} {saved : Bool} {e : Ending} (x : Ext F w w1) (h : Sends r d F w1 Ms N' room saved e w2) (hlt : ∀ b, F b → b < w.heap.size) : Sends r d F w Ms N' room saved e w2 := by
  obtain ⟨v, h1, h2, h3, h4, h5⟩ := h
  have s1 := x.size
  have s2 := h4.size
  refine ⟨v, h1, h2, h3.mono s1, x.trans h4, h5.wide (fun b hb => ?_) (fun b hb => ?_)⟩
  · rcases hb with hb | hb
    · exact .inl hb
    · exact .inr ⟨by omega, hb.2⟩
  · rcases hb with hb | hb
    · have := hlt b hb; omega
    · exact hb.2

set_option maxRecDepth 100000 in
set_option maxHeartbeats 1000000 in
theorem Tick_stands (r d : Nat) (F : Nat → Prop) (N : PNode) (room : Nat) (saved : Bool) (draw : Int) (w : World) (h : RaftIs w r d F N room saved) (hw : -1000 < N.wait ∧ N.wait ≤ 1) (hr : N.role ≠ 2) (Ms : List PMsg) (N' : PNode)
    (hst : ∀ w1, RaftIs w1 r d F { N with wait := N.wait - 1 } room saved → Calls Tryz.prog 44 #[.pointer (some ⟨r, 0, none⟩), .int .i64 draw] w1 (Sends r d F w1 Ms N' room true)) :
    Calls Tryz.prog 17 #[.pointer (some ⟨r, 0, none⟩), .int .i64 draw] w (Sends r d F w Ms N' room true) := by
  obtain ⟨L, tv, hb, hi1, hi2, hc, _⟩ := h.cells
  obtain ⟨wt, hwt⟩ : ∃ wt, N.wait = wt := ⟨_, rfl⟩
  have c1 : w.cell? ⟨r, 23, none⟩ = some (.bool false) := by rw [cell_of_blk hb]; rfl
  have c2 : w.cell? ⟨r, 11, none⟩ = some (.int .i64 wt) := by rw [cell_of_blk hb, ← hwt]; rfl
  have c7 : w.cell? ⟨r, 7, none⟩ = some (.int .i64 N.role) := by rw [cell_of_blk hb]; rfl
  have f2 : w.frozen? ⟨r, 11, none⟩ = false := frozen_of_blk hb 11
  have hb1 : ((N.role : Int) == 2) = false := beq_eq_false_iff_ne.2 (by omega)
  rw [hwt] at hw hst
  have hw1 : IntKind.i64.wrap (wt - 1) = wt - 1 := IntWalk.i64_in _ (by omega)
  have hw2 : ¬ ((0 : Int) < wt - 1) := by omega
  have H := Lib.hid h
  have Hst := Lib.hid hst
  clear h hb hwt hst
  go_enter Tryz.func17, Tryz.ntmps17
  go_wp2_with fail
  have hs := RaftIs.set (N' := { N with wait := wt - 1 }) H.out ((Ext.refl (fun b => b = r) w).setCell (p := ⟨r, 11, none⟩) (.inl rfl) (.int .i64 (wt - 1))) (fun L tv hb => blk_setCell hb 11 _) rfl ⟨hi1, hi2⟩ hc rfl rfl
  refine (Hst.out _ hs.1).mono ?_; rintro e w2 hS
  have hS := hS.behind hs.2 H.out.lt
  obtain ⟨v, rfl, hm, hf, hx, hR⟩ := hS
  have Hm := Lib.hid hm
  have Hf := Lib.hid hf
  have Hx := Lib.hid hx
  have HR := Lib.hid hR
  clear hm hf hx hR hs
  go_wp2_with fail
  go_ret
  exact ⟨v, rfl, Hm.out, Hf.out, Hx.out, HR.out⟩
end Go.Proofs.YtgglbholbkdgfaaGreatDoor
