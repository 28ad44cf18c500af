/- Package raft: msg; what stands asks; others. -/
import Derived.Test.YtgglbholbkdgfaaGreatDoorB30
namespace Go.Proofs.YtgglbholbkdgfaaGreatDoor
open Go.RowKit

theorem zeroMsg (w : World) : (zeroValue 37).run Tryz.prog w = .ok (.agg #[.int .i64 0, .int .i64 0, .int .i64 0, .slice none 0 0, .slice none 0 0]) w := by kernel_rfl
/-- A message as a value. -/
def msgV (fr tt kd : Int) (nums data : Value) : Value := .agg #[.int .i64 fr, .int .i64 tt, .int .i64 kd, nums, data]

set_option maxRecDepth 100000 in
set_option maxHeartbeats 400000 in
theorem msg_any (r : Nat) (id tt kd : Int) (a b : Option Addr) (n c n' c' : Nat) (w : World) (h : w.cell? ⟨r, 0, none⟩ = some (.int .i64 id)) :
    Calls Tryz.prog 79 #[.pointer (some ⟨r, 0, none⟩), .int .i64 tt, .int .i64 kd, .slice a n c, .slice b n' c'] w fun e w' => e = .returned (msgV id tt kd (.slice b n' c') (.slice a n c)) ∧ Ext NoB w w' := by
  have hz := zeroMsg
  have h' := World.block_lt_of_cell? w _ h
  go_enter Tryz.func79, Tryz.ntmps79
  go_wp2_with fail
  go_returns
  exact ⟨rfl, (Ext.refl _ w).alloc _⟩

/-- What one that stands for election sends to another one. -/
def AskEnds (N : PNode) (tm tt : Int) (w : World) (e : Ending) (w' : World) : Prop :=
  ∃ v, e = .returned (msgV N.id tt 1 v (.slice none 0 0)) ∧ Own w' 3 1 v [.int .i64 N.term, .int .i64 N.log.length, .int .i64 tm] ∧ Fresh w v ∧ Ext NoB w w'

set_option maxRecDepth 100000 in
set_option maxHeartbeats 2000000 in
theorem ask_any (r d BN BT : Nat) (F : Nat → Prop) (N : PNode) (D : PDisk) (ps : List PSeg) (tm tt : Int) (w : World) (h : NodeIs w r d F N D ps) (hN : w.cell? ⟨BN, 0, none⟩ = some (.pointer (some ⟨r, 0, none⟩))) (hT : w.cell? ⟨BT, 0, none⟩ = some (.int .i64 tm)) :
    Calls Tryz.prog 82 #[.int .i64 tt, .pointer (some ⟨BN, 0, none⟩), .pointer (some ⟨BT, 0, none⟩)] w (AskEnds N tm tt w) := by
  have hz := zeroMsg
  have hlast := Lib.hid (fun (w' : World) (x : Ext NoB w w') => rlast_any r d F N D ps w' (h.no x))
  obtain ⟨L, FD, FL, FR, tv, dl, h, _⟩ := h
  have c0 : w.cell? ⟨r, 0, none⟩ = some (.int .i64 N.id) := by rw [cell_of_blk h.blk]; rfl
  have c5 : w.cell? ⟨r, 5, none⟩ = some (.int .i64 N.term) := by rw [cell_of_blk h.blk]; rfl
  clear h
  go_enter Tryz.func82, Tryz.ntmps82
  go_wp2_with fail
  obtain ⟨w1, R, e1, e2, x1, b1, hs1⟩ := alloc_facts w (.cells #[.int .i64 0, .int .i64 0, .int .i64 0, .slice none 0 0, .slice none 0 0] 37)
  rw [e1, e2]
  have d0 := x1.cell hN (fun h => h)
  have d1 := x1.cell c5 (fun h => h)
  have d2 := x1.cell hT (fun h => h)
  refine wp_region_N (fun w' => w'.cell? ⟨BN, 0, none⟩ = some (.pointer (some ⟨r, 0, none⟩)) ∧ w'.cell? ⟨r, 5, none⟩ = some (.int .i64 N.term) ∧ w'.cell? ⟨BT, 0, none⟩ = some (.int .i64 tm)) 11 (by kernel_rfl) ?_
  have hSd : w1.drew.cell? ⟨BN, 0, none⟩ = some (.pointer (some ⟨r, 0, none⟩)) ∧ w1.drew.cell? ⟨r, 5, none⟩ = some (.int .i64 N.term) ∧ w1.drew.cell? ⟨BT, 0, none⟩ = some (.int .i64 tm) := ⟨d0, d1, d2⟩
  have x1d : Ext NoB w w1.drew := x1.drew
  have b1d : w1.drew.heap[R]? = some (.cells #[.int .i64 0, .int .i64 0, .int .i64 0, .slice none 0 0, .slice none 0 0] 37 (0, 0)) := b1
  generalize w1.drew = wd at hSd x1d b1d ⊢
  refine wpAnyN_take 0 (v := ?_) (by kernel_rfl) rfl (fun _ _ _ h => h) hSd (by rfl) ?_ ?_; rotate_left; (focus (intro w hSw; (try dsimp only at hSw); go_simp; try with_reducible rfl)); (try simp only [Act.put, List.setIfInBounds_toArray, List.set_cons_zero, List.set_cons_succ])
  refine wpAnyN_free 1 (v := ?_) (by kernel_rfl) rfl (fun _ _ _ h => h) hSd (by rfl) ?_ ?_; rotate_left; (focus (intro w; go_simp; try with_reducible rfl)); (try simp only [Act.put, List.setIfInBounds_toArray, List.set_cons_zero, List.set_cons_succ])
  refine wpAnyN_take 2 (v := ?_) (by kernel_rfl) rfl (fun _ _ _ h => h) hSd (by rfl) ?_ ?_; rotate_left; (focus (intro w hSw; (try dsimp only at hSw); go_simp; try with_reducible rfl)); (try simp only [Act.put, List.setIfInBounds_toArray, List.set_cons_zero, List.set_cons_succ])
  refine wpAnyN_free 3 (v := ?_) (by kernel_rfl) rfl (fun _ _ _ h => h) hSd (by rfl) ?_ ?_; rotate_left; (focus (intro w; go_simp; try with_reducible rfl)); (try simp only [Act.put, List.setIfInBounds_toArray, List.set_cons_zero, List.set_cons_succ])
  refine wpAnyN_free 4 (v := ?_) (by kernel_rfl) rfl (fun _ _ _ h => h) hSd (by rfl) ?_ ?_; rotate_left; (focus (intro w; go_simp; try with_reducible rfl)); (try simp only [Act.put, List.setIfInBounds_toArray, List.set_cons_zero, List.set_cons_succ])
  refine wpAnyN_take 5 (v := ?_) (by kernel_rfl) rfl (fun _ _ _ h => h) hSd (by rfl) ?_ ?_; rotate_left; (focus (intro w hSw; (try dsimp only at hSw); go_simp; try with_reducible rfl)); (try simp only [Act.put, List.setIfInBounds_toArray, List.set_cons_zero, List.set_cons_succ])
  refine wpAnyN_take 6 (v := ?_) (by kernel_rfl) rfl (fun _ _ _ h => h) hSd (by rfl) ?_ ?_; rotate_left; (focus (intro w hSw; (try dsimp only at hSw); go_simp; try with_reducible rfl)); (try simp only [Act.put, List.setIfInBounds_toArray, List.set_cons_zero, List.set_cons_succ])
  refine wpAnyN_take 8 (v := ?_) (by kernel_rfl) rfl (fun _ _ _ h => h) hSd (by rfl) ?_ ?_; rotate_left; (focus (intro w hSw; (try dsimp only at hSw); go_simp; try with_reducible rfl)); (try simp only [Act.put, List.setIfInBounds_toArray, List.set_cons_zero, List.set_cons_succ])
  refine wpAnyN_one 7 (by kernel_rfl) (by simp only [List.getElem?_toArray, List.getElem?_cons_succ, List.getElem?_cons_zero] <;> rfl) (by rfl) (fun K hK => ?_)
  go_simp
  refine (hlast.out wd x1d).mono ?_; rintro e w2 ⟨rfl, rfl⟩
  go_wp2_with fail
  refine hK.out _ _ hSd (fun hSd => ?_)
  clear hK K
  (try simp only [Act.put, List.setIfInBounds_toArray, List.set_cons_zero, List.set_cons_succ])
  refine wpAnyN_one 9 (by kernel_rfl) (by simp only [List.getElem?_toArray, List.getElem?_cons_succ, List.getElem?_cons_zero] <;> rfl) (by rfl) (fun K hK => ?_)
  go_simp
  obtain ⟨w3, B, e3, e4, x3, b3, hs3⟩ := alloc_facts wd (.cells #[.int .i64 N.term, .int .i64 N.log.length, .int .i64 tm] 3)
  rw [e3, e4]
  have hSd3 := And.intro (x3.cell hSd.1 (fun h => h)) (And.intro (x3.cell hSd.2.1 (fun h => h)) (x3.cell hSd.2.2 (fun h => h)))
  refine hK.out _ _ hSd3 (fun hSd => ?_)
  clear hK K hSd
  have hSd := hSd3
  (try simp only [Act.put, List.setIfInBounds_toArray, List.set_cons_zero, List.set_cons_succ])
  refine wpAnyN_one 10 (by kernel_rfl) (by simp only [List.getElem?_toArray, List.getElem?_cons_succ, List.getElem?_cons_zero] <;> rfl) (by rfl) (fun K hK => ?_)
  go_simp
  have y3 : Ext NoB w w3 := x1d.trans x3
  refine (msg_any r N.id tt 1 none (some ⟨B, 0, none⟩) 0 0 3 3 w3 (y3.cell c0 (fun h => h))).mono ?_; rintro e w4 ⟨rfl, x4⟩
  have hSd4 := And.intro (x4.cell hSd.1 (fun h => h)) (And.intro (x4.cell hSd.2.1 (fun h => h)) (x4.cell hSd.2.2 (fun h => h)))
  unfold msgV
  go_wp2_with fail
  refine hK.out _ _ hSd4 (fun hSd => ?_)
  clear hK K hSd hSd4 hSd3
  (try simp only [Act.put, List.setIfInBounds_toArray, List.set_cons_zero, List.set_cons_succ])
  refine wpAnyN_tail (by rfl) (by decide) (by kernel_rfl) (by kernel_rfl) ?_
  simp only [List.drop_succ_cons, List.drop_zero]
  have bR : w4.heap[R]? = some (.cells #[.int .i64 0, .int .i64 0, .int .i64 0, .slice none 0 0, .slice none 0 0] 37 (0, 0)) := x4.blk (x3.blk b1d (fun h => h)) (fun h => h)
  have r0 : w4.cell? ⟨R, 0, none⟩ = some (.int .i64 0) := by rw [cell_of_blk bR]; rfl
  have r1 : w4.cell? ⟨R, 1, none⟩ = some (.int .i64 0) := by rw [cell_of_blk bR]; rfl
  have r2 : w4.cell? ⟨R, 2, none⟩ = some (.int .i64 0) := by rw [cell_of_blk bR]; rfl
  have r3 : w4.cell? ⟨R, 3, none⟩ = some (.slice none 0 0) := by rw [cell_of_blk bR]; rfl
  have r4 : w4.cell? ⟨R, 4, none⟩ = some (.slice none 0 0) := by rw [cell_of_blk bR]; rfl
  have q0 : ∀ o, w4.frozen? ⟨R, o, none⟩ = false := fun o => frozen_of_blk bR o
  go_wp2_with fail
  have kR := blk_setCell (blk_setCell (blk_setCell (blk_setCell (blk_setCell bR 0 (.int .i64 N.id)) 1 (.int .i64 tt)) 2 (.int .i64 1)) 3 (.slice (some ⟨B, 0, none⟩) 3 3)) 4 (.slice none 0 0)
  have xS : Ext (fun b => b = R) w4 (((((w4.setCell ⟨R, 0, none⟩ (.int .i64 N.id)).setCell ⟨R, 1, none⟩ (.int .i64 tt)).setCell ⟨R, 2, none⟩ (.int .i64 1)).setCell ⟨R, 3, none⟩ (.slice (some ⟨B, 0, none⟩) 3 3)).setCell ⟨R, 4, none⟩ (.slice none 0 0)) := (((((Ext.refl (fun b => b = R) w4).setCell (p := ⟨R, 0, none⟩) (.inl rfl) _).setCell (p := ⟨R, 1, none⟩) (.inl rfl) _).setCell (p := ⟨R, 2, none⟩) (.inl rfl) _).setCell (p := ⟨R, 3, none⟩) (.inl rfl) _).setCell (p := ⟨R, 4, none⟩) (.inl rfl) _
  generalize (((((w4.setCell ⟨R, 0, none⟩ (.int .i64 N.id)).setCell ⟨R, 1, none⟩ (.int .i64 tt)).setCell ⟨R, 2, none⟩ (.int .i64 1)).setCell ⟨R, 3, none⟩ (.slice (some ⟨B, 0, none⟩) 3 3)).setCell ⟨R, 4, none⟩ (.slice none 0 0)) = wF at kR xS ⊢
  have hBR : B ≠ R := by have := lt_of_blk b1d; omega
  have b3F := xS.blk (x4.blk b3 (fun h => h)) hBR
  have xF : Ext NoB w wF := by
    refine (y3.trans x4).trans' xS (fun _ _ h => h) (fun b hb h => ?_)
    subst h
    omega
  refine bodyPost_ret (results_cell_row rfl _ _ R _ #[.int .i64 N.id, .int .i64 tt, .int .i64 1, .slice (some ⟨B, 0, none⟩) 3 3, .slice none 0 0] _ _ rfl kR Tryz.underlying37 rfl (by kernel_rfl)) rfl ⟨_, rfl, .inr ⟨B, 3, 3, _, rfl, b3F, Nat.le_refl _, Nat.le_refl _, by unfold maxLen; omega, rfl, rfl⟩, fun g hg => ?_, xF⟩
  simp [Value.ownBlock] at hg
  have := x1d.size
  omega
end Go.Proofs.YtgglbholbkdgfaaGreatDoor
