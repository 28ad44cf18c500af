/- Package raft: State, Log, most, anew. -/
import Derived.Test.YtgglbholbkdgfaaGreatDoorB26
namespace Go.Proofs.YtgglbholbkdgfaaGreatDoor
open Go.RowKit

theorem NodeAt.set {w w' : World} {r L d : Nat} {FD FL FR : Nat → Prop} {tv : Value} {N N' : PNode} {D : PDisk} {ps : List PSeg} {dl : Bool} (h : NodeAt w r L d FD FL FR tv N D ps dl) (x : Ext (fun b => b = r) w w')
    (hb : w'.heap[r]? = some (.cells (nodeArr N' d L tv) 92 (0, 0))) (hl : N'.log = N.log) (hi : N'.id < N'.n ∧ N'.n ≤ 5) (hc : N'.committed ≤ N'.log.length) : NodeAt w' r L d FD FL FR tv N' D ps dl := by
  have hne : ∀ g, tv.ownBlock = some g → ¬ (g = r) := fun g hg e => h.terms.ne_blk h.blk (by decide) g hg e.symm
  have ht := h.terms.ext x hne
  have hs := h.store.ext x (fun b hb' e => by subst e; exact hb'.elim (fun k => h.apD _ h.self k) (fun k => h.apL _ h.self k))
  refine ⟨hb, h.self, by unfold PNode.terms; rw [hl]; exact ht, h.termsF, by rw [hl]; exact hs, h.apD, h.apL, fun b hb => Nat.lt_of_lt_of_le (h.lt b hb) x.size, by rw [hl]; exact h.coh, hi, hc⟩

set_option maxRecDepth 100000 in
set_option maxHeartbeats 400000 in
theorem State_any (r d : Nat) (F : Nat → Prop) (N : PNode) (D : PDisk) (ps : List PSeg) (w : World) (h : NodeIs w r d F N D ps) :
    Calls Tryz.prog 18 #[.pointer (some ⟨r, 0, none⟩)] w fun e w' => e = .returned (.tuple #[.int .i64 N.role, .int .i64 N.term, .int .i64 N.leader]) ∧ Ext NoB w w' := by
  obtain ⟨L, FD, FL, FR, tv, dl, h, _⟩ := h
  have c1 : w.cell? ⟨r, 23, none⟩ = some (.bool false) := by rw [cell_of_blk h.blk]; rfl
  have c2 : w.cell? ⟨r, 7, none⟩ = some (.int .i64 N.role) := by rw [cell_of_blk h.blk]; rfl
  have c3 : w.cell? ⟨r, 5, none⟩ = some (.int .i64 N.term) := by rw [cell_of_blk h.blk]; rfl
  have c4 : w.cell? ⟨r, 8, none⟩ = some (.int .i64 N.leader) := by rw [cell_of_blk h.blk]; rfl
  clear h
  go_enter Tryz.func18, Tryz.ntmps18
  go_wp2_with fail
  go_quiet (fail)
  go_wp2_with fail
  go_ret3
  exact ⟨rfl, (Ext.refl _ w).drewN _⟩

set_option maxRecDepth 100000 in
set_option maxHeartbeats 400000 in
theorem State_nil (w : World) : Calls Tryz.prog 18 #[.pointer none] w fun e w' => e = .returned (.tuple #[.int .i64 0, .int .i64 0, .int .i64 0]) ∧ Ext NoB w w' := by
  go_enter Tryz.func18, Tryz.ntmps18
  go_wp2_with fail
  go_ret3
  exact ⟨rfl, Ext.refl _ w⟩

set_option maxRecDepth 100000 in
set_option maxHeartbeats 400000 in
theorem Log_nil (w : World) : Calls Tryz.prog 22 #[.pointer none] w fun e w' => e = .returned (.tuple #[.int .i64 0, .int .i64 0]) ∧ Ext NoB w w' := by
  go_enter Tryz.func22, Tryz.ntmps22
  go_wp2_with fail
  go_ret2
  exact ⟨rfl, Ext.refl _ w⟩
set_option maxRecDepth 100000 in
set_option maxHeartbeats 400000 in
theorem Tick_nil (draw : Int) (w : World) : Calls Tryz.prog 17 #[.pointer none, .int .i64 draw] w fun e w' => e = .returned (.slice none 0 0) ∧ Ext NoB w w' := by
  go_enter Tryz.func17, Tryz.ntmps17
  go_wp2_with fail
  go_ret
  exact ⟨rfl, Ext.refl _ w⟩
set_option maxRecDepth 100000 in
set_option maxHeartbeats 400000 in
theorem Take_nil (w : World) : Calls Tryz.prog 21 #[.pointer none] w fun e w' => e = .returned (.slice none 0 0) ∧ Ext NoB w w' := by
  go_enter Tryz.func21, Tryz.ntmps21
  go_wp2_with fail
  go_ret
  exact ⟨rfl, Ext.refl _ w⟩

set_option maxRecDepth 100000 in
set_option maxHeartbeats 400000 in
theorem Log_any (r d : Nat) (F : Nat → Prop) (N : PNode) (D : PDisk) (ps : List PSeg) (w : World) (h : NodeIs w r d F N D ps) :
    Calls Tryz.prog 22 #[.pointer (some ⟨r, 0, none⟩)] w fun e w' => e = .returned (.tuple #[.int .i64 N.log.length, .int .i64 N.committed]) ∧ Ext NoB w w' := by
  have hlast := Lib.hid (fun (n : Nat) => (rlast_any r d F N D ps (w.drewN n) (h.no ((Ext.refl NoB w).drewN n))).mono (R' := fun e w' => e = .returned (.int .i64 N.log.length) ∧ w' = w.drewN n) (fun e w' h => ⟨h.1, h.2.symm⟩))
  obtain ⟨L, FD, FL, FR, tv, dl, h, _⟩ := h
  have c1 : w.cell? ⟨r, 23, none⟩ = some (.bool false) := by rw [cell_of_blk h.blk]; rfl
  have c2 : w.cell? ⟨r, 9, none⟩ = some (.int .i64 N.committed) := by rw [cell_of_blk h.blk]; rfl
  clear h
  go_enter Tryz.func22, Tryz.ntmps22
  go_wp2_with fail
  go_quiet (first | (go_at_call 54; exact Calls.quiet_of_same (hlast.out _)))
  go_wp2_with fail
  go_ret2
  exact ⟨rfl, (Ext.refl _ w).drewN _⟩

/-- More than half of n nodes. -/
def mostOf (n s : Nat) : Bool := decide (n / 2 < Lib.onesCount s)
set_option maxRecDepth 100000 in
set_option maxHeartbeats 400000 in
theorem most_any (r d : Nat) (F : Nat → Prop) (N : PNode) (D : PDisk) (ps : List PSeg) (s : Nat) (hs : s ≤ 255) (w : World) (h : NodeIs w r d F N D ps) :
    Calls Tryz.prog 80 #[.pointer (some ⟨r, 0, none⟩), .int .u8 s] w fun e w' => e = .returned (.bool (mostOf N.n s)) ∧ Ext NoB w w' := by
  obtain ⟨L, FD, FL, FR, tv, dl, h, _⟩ := h
  have c1 : w.cell? ⟨r, 1, none⟩ = some (.int .i64 N.n) := by rw [cell_of_blk h.blk]; rfl
  have hn := h.idn.2
  have hones := Lib.hid (fun w' => Tryz.bits_OnesCount8 (s : Int) w' (by omega) (by omega))
  have e1 : ((s : Int)).toNat = s := by omega
  rw [e1] at hones
  have hdiv : ((N.n : Int)).tdiv 2 = ((N.n / 2 : Nat) : Int) := by rw [Int.tdiv_eq_ediv_of_nonneg (by omega)]; omega
  have hw : IntKind.i64.wrap (((N.n : Int)).tdiv 2) = ((N.n / 2 : Nat) : Int) := by rw [hdiv, IntWalk.i64_in _ (by omega)]
  obtain ⟨q, hq⟩ : ∃ q, Lib.onesCount s = q := ⟨_, rfl⟩
  unfold mostOf
  rw [hq] at hones ⊢
  have Hn := Lib.hid hn
  clear h hn e1 hdiv
  go_enter Tryz.func80, Tryz.ntmps80
  go_wp2_with fail
  go_quiet (first | (go_at_call 106; exact Calls.quiet_of_same (hones.out _)))
  go_wp2_with fail
  go_ret
  have hw2 : wrap64 ((N.n : Int) / 2) = ((N.n / 2 : Nat) : Int) := by have := Hn.out; unfold wrap64; omega
  refine ⟨retBool ?_, (Ext.refl _ w).drewN _⟩
  show decide (wrap64 ((N.n : Int) / 2) < (q : Int)) = _
  rw [hw2]
  exact decide_eq_decide.2 (by omega)

set_option maxRecDepth 100000 in
set_option maxHeartbeats 400000 in
theorem anew_any (r d : Nat) (F : Nat → Prop) (N : PNode) (D : PDisk) (ps : List PSeg) (draw : Int) (w : World) (h : NodeIs w r d F N D ps) :
    Calls Tryz.prog 41 #[.pointer (some ⟨r, 0, none⟩), .int .i64 draw] w fun e w' => e = .returned (.tuple #[]) ∧ Ext F w w' ∧ NodeIs w' r d F { N with wait := 10 + (max 0 draw) % 10 } D ps := by
  obtain ⟨L, FD, FL, FR, tv, dl, h, hF, hlt⟩ := h
  have c1 : w.cell? ⟨r, 11, none⟩ = some (.int .i64 N.wait) := by rw [cell_of_blk h.blk]; rfl
  have f1 : w.frozen? ⟨r, 11, none⟩ = false := frozen_of_blk h.blk 11
  have H := Lib.hid h
  clear h
  go_enter Tryz.func41, Tryz.ntmps41
  go_wp2_with fail
  go_end0
  have h := H.out
  have x : Ext (fun b => b = r) w (w.setCell ⟨r, 11, none⟩ (.int .i64 (10 + max 0 draw % 10))) := (Ext.refl (fun b => b = r) w).setCell (p := ⟨r, 11, none⟩) (.inl rfl) _
  exact ⟨rfl, x.mono (fun b _ e => hF b (.inr (.inr (e ▸ h.self)))), L, FD, FL, FR, tv, dl, h.set (N' := { N with wait := 10 + max 0 draw % 10 }) x (blk_setCell h.blk 11 _) rfl h.idn h.comm, hF, fun b hb => Nat.lt_of_lt_of_le (hlt b hb) x.size⟩
end Go.Proofs.YtgglbholbkdgfaaGreatDoor
