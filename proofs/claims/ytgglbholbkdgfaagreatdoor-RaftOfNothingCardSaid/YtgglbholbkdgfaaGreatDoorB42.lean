/- Package raft: stands, of a node that is alone; Tick. -/
import Derived.Test.YtgglbholbkdgfaaGreatDoorB41
namespace Go.Proofs.YtgglbholbkdgfaaGreatDoor
open Go.RowKit

theorem RaftIs.wide {w : World} {r d : Nat} {F G : Nat → Prop} {N : PNode} {room : Nat} {saved : Bool} (h : RaftIs w r d F N room saved) (hG : ∀ b, F b → G b) (hl : ∀ b, G b → b < w.heap.size) : RaftIs w r d G N room saved := by
  obtain ⟨D, ps, ⟨L, FD, FL, FR, tv, dl, h1, h2, h3⟩, h4, h5⟩ := h.is
  exact ⟨⟨D, ps, ⟨L, FD, FL, FR, tv, dl, h1, fun b hb => hG b (h2 b hb), hl⟩, h4, h5⟩, h.fresh, h.vote, h.term⟩
theorem RaftIs.lt {w : World} {r d : Nat} {F : Nat → Prop} {N : PNode} {room : Nat} {saved : Bool} (h : RaftIs w r d F N room saved) : ∀ b, F b → b < w.heap.size := by
  obtain ⟨D, ps, ⟨L, FD, FL, FR, tv, dl, h1, h2, h3⟩, h4, h5⟩ := h.is
  exact h3

set_option maxRecDepth 100000 in
set_option maxHeartbeats 4000000 in
theorem stands_alone (r d : Nat) (F : Nat → Prop) (N : PNode) (room : Nat) (saved : Bool) (draw : Int) (w : World) (h : RaftIs w r d F N room saved) (hn : N.n = 1) (ht : N.term + 1 ≤ 1099511627776) (hroom : N.bytes + 100 ≤ room) (hlay : LayOk N.log room (N.term + 1) []) (hok : N.Ok) :
    Calls Tryz.prog 44 #[.pointer (some ⟨r, 0, none⟩), .int .i64 draw] w fun e w' => ∃ v, e = .returned v ∧ MsgsAre w' v ((tos N.n N.id).map (sendMsg (N.asks draw).wins)) ∧ Fresh w v ∧ Ext F w w' ∧ RaftIs w' r d (Gr F w w') (N.asks draw).wins room true := by
  obtain ⟨L, tv, hb, hi1, hi2, hc, hll⟩ := h.cells
  have c0 : w.cell? ⟨r, 0, none⟩ = some (.int .i64 N.id) := by rw [cell_of_blk hb]; rfl
  have c5 : w.cell? ⟨r, 5, none⟩ = some (.int .i64 N.term) := by rw [cell_of_blk hb]; rfl
  have hrl := lt_of_blk hb
  have hw1 : IntKind.i64.wrap ((N.term : Int) + 1) = ((N.term + 1 : Nat) : Int) := by rw [IntWalk.i64_in _ (by omega)]; omega
  have Hturn := Lib.hid (fun (w' : World) (x : Ext NoB w w') => turns_any r d F N room saved (N.term + 1) N.id w' (h.no x) ht (by omega) hroom)
  have H := Lib.hid h
  have Hlay := Lib.hid hlay
  have Hok := Lib.hid hok
  have Hn1 := Lib.hid hn
  clear h hb ht hroom hll hlay hok hn
  go_enter Tryz.func44, Tryz.ntmps44
  go_wp2_with fail
  obtain ⟨w1, B, e1, e2, x1, b1, hs1⟩ := alloc_facts w (.cells #[.pointer (some ⟨r, 0, none⟩)] 27)
  rw [e1, e2]
  have d0 := x1.cell c0 (fun h => h)
  have d5 := x1.cell c5 (fun h => h)
  have dB : w1.cell? ⟨B, 0, none⟩ = some (.pointer (some ⟨r, 0, none⟩)) := by rw [cell_of_blk b1]; rfl
  refine wp_region_N (fun w' => w'.cell? ⟨B, 0, none⟩ = some (.pointer (some ⟨r, 0, none⟩)) ∧ w'.cell? ⟨r, 5, none⟩ = some (.int .i64 N.term) ∧ w'.cell? ⟨r, 0, none⟩ = some (.int .i64 N.id)) 10 (by kernel_rfl) ?_
  have hSd : w1.drew.cell? ⟨B, 0, none⟩ = some (.pointer (some ⟨r, 0, none⟩)) ∧ w1.drew.cell? ⟨r, 5, none⟩ = some (.int .i64 N.term) ∧ w1.drew.cell? ⟨r, 0, none⟩ = some (.int .i64 N.id) := ⟨dB, d5, d0⟩
  have x1d : Ext NoB w w1.drew := x1.drew
  have b1d : w1.drew.heap[B]? = some (.cells #[.pointer (some ⟨r, 0, none⟩)] 27 (0, 0)) := b1
  generalize w1.drew = wd at hSd x1d b1d ⊢
  refine wpAnyN_take 0 (v := ?_) (by kernel_rfl) rfl (fun _ _ _ h => h) hSd (by rfl) ?_ ?_; rotate_left; (focus (intro w hSw; (try dsimp only at hSw); go_simp; try with_reducible rfl)); (try simp only [Act.put, List.setIfInBounds_toArray, List.set_cons_zero, List.set_cons_succ])
  refine wpAnyN_take 1 (v := ?_) (by kernel_rfl) rfl (fun _ _ _ h => h) hSd (by rfl) ?_ ?_; rotate_left; (focus (intro w hSw; (try dsimp only at hSw); go_simp; try with_reducible rfl)); (try simp only [Act.put, List.setIfInBounds_toArray, List.set_cons_zero, List.set_cons_succ])
  refine wpAnyN_free 2 (v := ?_) (by kernel_rfl) rfl (fun _ _ _ h => h) hSd (by rfl) ?_ ?_; rotate_left; (focus (intro w; go_simp; try with_reducible rfl)); (try simp only [Act.put, List.setIfInBounds_toArray, List.set_cons_zero, List.set_cons_succ])
  refine wpAnyN_free 3 (v := ?_) (by kernel_rfl) rfl (fun _ _ _ h => h) hSd (by rfl) ?_ ?_; rotate_left; (focus (intro w; go_simp; try with_reducible rfl)); (try simp only [Act.put, List.setIfInBounds_toArray, List.set_cons_zero, List.set_cons_succ])
  refine wpAnyN_take 4 (v := ?_) (by kernel_rfl) rfl (fun _ _ _ h => h) hSd (by rfl) ?_ ?_; rotate_left; (focus (intro w hSw; (try dsimp only at hSw); go_simp; try with_reducible rfl)); (try simp only [Act.put, List.setIfInBounds_toArray, List.set_cons_zero, List.set_cons_succ])
  refine wpAnyN_free 5 (v := ?_) (by kernel_rfl) rfl (fun _ _ _ h => h) hSd (by rfl) ?_ ?_; rotate_left; (focus (intro w; go_simp; try with_reducible rfl)); (try simp only [Act.put, List.setIfInBounds_toArray, List.set_cons_zero, List.set_cons_succ])
  refine wpAnyN_take 6 (v := ?_) (by kernel_rfl) rfl (fun _ _ _ h => h) hSd (by rfl) ?_ ?_; rotate_left; (focus (intro w hSw; (try dsimp only at hSw); go_simp; try with_reducible rfl)); (try simp only [Act.put, List.setIfInBounds_toArray, List.set_cons_zero, List.set_cons_succ])
  refine wpAnyN_free 7 (v := ?_) (by kernel_rfl) rfl (fun _ _ _ h => h) hSd (by rfl) ?_ ?_; rotate_left; (focus (intro w; go_simp; try with_reducible rfl)); (try simp only [Act.put, List.setIfInBounds_toArray, List.set_cons_zero, List.set_cons_succ])
  refine wpAnyN_free 8 (v := ?_) (by kernel_rfl) rfl (fun _ _ _ h => h) hSd (by rfl) ?_ ?_; rotate_left; (focus (intro w; go_simp; try with_reducible rfl)); (try simp only [Act.put, List.setIfInBounds_toArray, List.set_cons_zero, List.set_cons_succ])
  refine wpAnyN_take 9 (v := ?_) (by kernel_rfl) rfl (fun _ _ _ h => h) hSd (by rfl) ?_ ?_; rotate_left; (focus (intro w hSw; (try dsimp only at hSw); go_simp; try with_reducible rfl)); (try simp only [Act.put, List.setIfInBounds_toArray, List.set_cons_zero, List.set_cons_succ])
  refine wpAnyN_tail (by rfl) (by decide) (by kernel_rfl) (by kernel_rfl) ?_
  simp only [List.drop_succ_cons, List.drop_zero]
  go_wp2_with fail
  refine (Hturn.out wd x1d).mono ?_; rintro e w2 ⟨rfl, x2, r2⟩
  obtain ⟨L2, tv2, hb2, _, _, _, hll2⟩ := r2.cells
  have hBF : ¬ F B := fun hf => by
    obtain ⟨_, _, ⟨_, _, _, _, _, _, _, _, hlt⟩, _, _⟩ := H.out.is
    have := hlt B hf
    omega
  have bB2 := x2.blk b1d hBF
  have dB : w2.cell? ⟨B, 0, none⟩ = some (.pointer (some ⟨r, 0, none⟩)) := by rw [cell_of_blk bB2]; rfl
  have d0 : w2.cell? ⟨r, 0, none⟩ = some (.int .i64 N.id) := by rw [cell_of_blk hb2]; rfl
  have d7 : w2.cell? ⟨r, 7, none⟩ = some (.int .i64 N.role) := by rw [cell_of_blk hb2]; rfl
  have d8 : w2.cell? ⟨r, 8, none⟩ = some (.int .i64 N.leader) := by rw [cell_of_blk hb2]; rfl
  have d12 : w2.cell? ⟨r, 12, none⟩ = some (.int .u8 N.voted) := by rw [cell_of_blk hb2]; rfl
  have f7 : w2.frozen? ⟨r, 7, none⟩ = false := frozen_of_blk hb2 7
  have f8 : w2.frozen? ⟨r, 8, none⟩ = false := frozen_of_blk hb2 8
  have f12 : w2.frozen? ⟨r, 12, none⟩ = false := frozen_of_blk hb2 12
  have hBr : B ≠ r := by omega
  have Hb2 := Lib.hid hb2
  have HbB2 := Lib.hid bB2
  have Hr2 := Lib.hid r2
  have Hx2 := Lib.hid x2
  clear hb2 bB2 r2 x2 hSd
  go_wp2_with fail
  refine wp_region_N (fun w' => w'.cell? ⟨B, 0, none⟩ = some (.pointer (some ⟨r, 0, none⟩)) ∧ w'.cell? ⟨r, 0, none⟩ = some (.int .i64 N.id)) 17 (by kernel_rfl) ?_
  have hSd : w2.drew.cell? ⟨B, 0, none⟩ = some (.pointer (some ⟨r, 0, none⟩)) ∧ w2.drew.cell? ⟨r, 0, none⟩ = some (.int .i64 N.id) := ⟨dB, d0⟩
  have x2v : Ext NoB w2 w2.drew := (Ext.refl _ w2).drew
  have bV : w2.drew.heap[r]? = _ := Hb2.out
  generalize w2.drew = wv at hSd x2v bV ⊢
  clear d7 d8 d12 f7 f8 f12 dB d0
  have d7 : wv.cell? ⟨r, 7, none⟩ = some (.int .i64 N.role) := by rw [cell_of_blk bV]; rfl
  have f7 : wv.frozen? ⟨r, 7, none⟩ = false := frozen_of_blk bV 7
  refine wpAnyN_take 0 (v := ?_) (by kernel_rfl) rfl (fun _ _ _ h => h) hSd (by rfl) ?_ ?_; rotate_left; (focus (intro w hSw; (try dsimp only at hSw); go_simp; try with_reducible rfl)); (try simp only [Act.put, List.setIfInBounds_toArray, List.set_cons_zero, List.set_cons_succ])
  refine wpAnyN_take 1 (v := ?_) (by kernel_rfl) rfl (fun _ _ _ h => h) hSd (by rfl) ?_ ?_; rotate_left; (focus (intro w hSw; (try dsimp only at hSw); go_simp; try with_reducible rfl)); (try simp only [Act.put, List.setIfInBounds_toArray, List.set_cons_zero, List.set_cons_succ])
  refine wpAnyN_take 2 (v := ?_) (by kernel_rfl) rfl (fun _ _ _ h => h) hSd (by rfl) ?_ ?_; rotate_left; (focus (intro w hSw; (try dsimp only at hSw); go_simp; try with_reducible rfl)); (try simp only [Act.put, List.setIfInBounds_toArray, List.set_cons_zero, List.set_cons_succ])
  refine wpAnyN_take 3 (v := ?_) (by kernel_rfl) rfl (fun _ _ _ h => h) hSd (by rfl) ?_ ?_; rotate_left; (focus (intro w hSw; (try dsimp only at hSw); go_simp; try with_reducible rfl)); (try simp only [Act.put, List.setIfInBounds_toArray, List.set_cons_zero, List.set_cons_succ])
  refine wpAnyN_free 4 (v := ?_) (by kernel_rfl) rfl (fun _ _ _ h => h) hSd (by rfl) ?_ ?_; rotate_left; (focus (intro w; go_simp; try with_reducible rfl)); (try simp only [Act.put, List.setIfInBounds_toArray, List.set_cons_zero, List.set_cons_succ])
  refine wpAnyN_free 5 (v := ?_) (by kernel_rfl) rfl (fun _ _ _ h => h) hSd (by rfl) ?_ ?_; rotate_left; (focus (intro w; go_simp; try with_reducible rfl)); (try simp only [Act.put, List.setIfInBounds_toArray, List.set_cons_zero, List.set_cons_succ])
  refine wpAnyN_take 6 (v := ?_) (by kernel_rfl) rfl (fun _ _ _ h => h) hSd (by rfl) ?_ ?_; rotate_left; (focus (intro w hSw; (try dsimp only at hSw); go_simp; try with_reducible rfl)); (try simp only [Act.put, List.setIfInBounds_toArray, List.set_cons_zero, List.set_cons_succ])
  refine wpAnyN_free 7 (v := ?_) (by kernel_rfl) rfl (fun _ _ _ h => h) hSd (by rfl) ?_ ?_; rotate_left; (focus (intro w; go_simp; try with_reducible rfl)); (try simp only [Act.put, List.setIfInBounds_toArray, List.set_cons_zero, List.set_cons_succ])
  refine wpAnyN_free 8 (v := ?_) (by kernel_rfl) rfl (fun _ _ _ h => h) hSd (by rfl) ?_ ?_; rotate_left; (focus (intro w; go_simp; try with_reducible rfl)); (try simp only [Act.put, List.setIfInBounds_toArray, List.set_cons_zero, List.set_cons_succ])
  refine wpAnyN_free 9 (v := ?_) (by kernel_rfl) rfl (fun _ _ _ h => h) hSd (by rfl) ?_ ?_; rotate_left; (focus (intro w; go_simp; try with_reducible rfl)); (try simp only [Act.put, List.setIfInBounds_toArray, List.set_cons_zero, List.set_cons_succ])
  refine wpAnyN_one 10 (by kernel_rfl) (by simp only [List.getElem?_toArray, List.getElem?_cons_succ, List.getElem?_cons_zero] <;> rfl) (by rfl) (fun K hK => ?_)
  go_simp
  have xs1 : Ext (fun b => b = r) wv (wv.setCell ⟨r, 7, none⟩ (.int .i64 1)) := (Ext.refl (fun b => b = r) wv).setCell (p := ⟨r, 7, none⟩) (.inl rfl) _
  have bV1 := blk_setCell bV 7 (.int .i64 1)
  generalize (wv.setCell ⟨r, 7, none⟩ (.int .i64 1)) = wv1 at xs1 bV1 ⊢
  have hS1 := And.intro (xs1.cell hSd.1 hBr) (show wv1.cell? ⟨r, 0, none⟩ = some (.int .i64 N.id) by rw [cell_of_blk bV1]; rfl)
  refine hK.out _ _ hS1 (fun hSd => ?_)
  clear hK K hSd d7 f7
  have hSd := hS1
  have d8 : wv1.cell? ⟨r, 8, none⟩ = some (.int .i64 N.leader) := by rw [cell_of_blk bV1]; rfl
  have f8 : wv1.frozen? ⟨r, 8, none⟩ = false := frozen_of_blk bV1 8
  (try simp only [Act.put, List.setIfInBounds_toArray, List.set_cons_zero, List.set_cons_succ])
  refine wpAnyN_free 11 (v := ?_) (by kernel_rfl) rfl (fun _ _ _ h => h) hSd (by rfl) ?_ ?_; rotate_left; (focus (intro w; go_simp; try with_reducible rfl)); (try simp only [Act.put, List.setIfInBounds_toArray, List.set_cons_zero, List.set_cons_succ])
  refine wpAnyN_free 12 (v := ?_) (by kernel_rfl) rfl (fun _ _ _ h => h) hSd (by rfl) ?_ ?_; rotate_left; (focus (intro w; go_simp; try with_reducible rfl)); (try simp only [Act.put, List.setIfInBounds_toArray, List.set_cons_zero, List.set_cons_succ])
  refine wpAnyN_one 13 (by kernel_rfl) (by simp only [List.getElem?_toArray, List.getElem?_cons_succ, List.getElem?_cons_zero] <;> rfl) (by rfl) (fun K hK => ?_)
  go_simp
  have xs2 : Ext (fun b => b = r) wv1 (wv1.setCell ⟨r, 8, none⟩ (.int .i64 (-1))) := (Ext.refl (fun b => b = r) wv1).setCell (p := ⟨r, 8, none⟩) (.inl rfl) _
  have bV2 := blk_setCell bV1 8 (.int .i64 (-1))
  generalize (wv1.setCell ⟨r, 8, none⟩ (.int .i64 (-1))) = wv2 at xs2 bV2 ⊢
  have hS2 := And.intro (xs2.cell hSd.1 hBr) (show wv2.cell? ⟨r, 0, none⟩ = some (.int .i64 N.id) by rw [cell_of_blk bV2]; rfl)
  refine hK.out _ _ hS2 (fun hSd => ?_)
  clear hK K hSd d8 f8
  have hSd := hS2
  have d12 : wv2.cell? ⟨r, 12, none⟩ = some (.int .u8 N.voted) := by rw [cell_of_blk bV2]; rfl
  have f12 : wv2.frozen? ⟨r, 12, none⟩ = false := frozen_of_blk bV2 12
  (try simp only [Act.put, List.setIfInBounds_toArray, List.set_cons_zero, List.set_cons_succ])
  refine wpAnyN_free 14 (v := ?_) (by kernel_rfl) rfl (fun _ _ _ h => h) hSd (by rfl) ?_ ?_; rotate_left; (focus (intro w; go_simp; try with_reducible rfl)); (try simp only [Act.put, List.setIfInBounds_toArray, List.set_cons_zero, List.set_cons_succ])
  refine wpAnyN_free 15 (v := ?_) (by kernel_rfl) rfl (fun _ _ _ h => h) hSd (by rfl) ?_ ?_; rotate_left; (focus (intro w; go_simp; try with_reducible rfl)); (try simp only [Act.put, List.setIfInBounds_toArray, List.set_cons_zero, List.set_cons_succ])
  refine wpAnyN_one 16 (by kernel_rfl) (by simp only [List.getElem?_toArray, List.getElem?_cons_succ, List.getElem?_cons_zero] <;> rfl) (by rfl) (fun K hK => ?_)
  go_simp
  have hpw : IntKind.u8.wrap ((2 : Int) ^ N.id) = ((2 ^ N.id : Nat) : Int) := by
    have h1 : (2 : Nat) ^ N.id ≤ 2 ^ 4 := Nat.pow_le_pow_right (by decide) (by omega)
    have h2 : ((2 : Int) ^ N.id) = ((2 ^ N.id : Nat) : Int) := by simp
    rw [h2, IntKind.wrap_u8]
    generalize (2 : Nat) ^ N.id = q at h1
    omega
  rw [hpw]
  have xs3 : Ext (fun b => b = r) wv2 (wv2.setCell ⟨r, 12, none⟩ (.int .u8 (2 ^ N.id : Nat))) := (Ext.refl (fun b => b = r) wv2).setCell (p := ⟨r, 12, none⟩) (.inl rfl) _
  have bV3 := blk_setCell bV2 12 (.int .u8 (2 ^ N.id : Nat))
  generalize (wv2.setCell ⟨r, 12, none⟩ (.int .u8 (2 ^ N.id : Nat))) = wv3 at xs3 bV3 ⊢
  have hS3 := And.intro (xs3.cell hSd.1 hBr) (show wv3.cell? ⟨r, 0, none⟩ = some (.int .i64 N.id) by rw [cell_of_blk bV3]; rfl)
  refine hK.out _ _ hS3 (fun hSd => ?_)
  clear hK K hSd d12 f12
  (try simp only [Act.put, List.setIfInBounds_toArray, List.set_cons_zero, List.set_cons_succ])
  refine wpAnyN_tail (by rfl) (by decide) (by kernel_rfl) (by kernel_rfl) ?_
  simp only [List.drop_succ_cons, List.drop_zero, List.drop_nil]
  have xv : Ext (fun b => b = r) w2 wv3 := ((x2v.of_no.trans xs1).trans xs2).trans xs3
  obtain ⟨r3, x3F⟩ := RaftIs.set (N' := { { N with term := N.term + 1, vote := N.id } with role := 1, leader := -1, voted := 2 ^ N.id }) Hr2.out xv (fun L' tv' hb' => by
    have e := Hb2.out.symm.trans hb'
    have e2 : nodeArr { N with term := N.term + 1, vote := N.id } d L2 tv2 = nodeArr { N with term := N.term + 1, vote := N.id } d L' tv' := by
      injection e with e; injection e
    have eL : L2 = L' ∧ tv2 = tv' := by
      have e3 := congrArg Array.toList e2
      simp only [nodeArr, List.cons.injEq, Value.pointer.injEq, Option.some.injEq, Addr.mk.injEq] at e3
      exact ⟨e3.2.2.2.1.1, e3.2.2.2.2.1⟩
    obtain ⟨rfl, rfl⟩ := eL
    exact bV3) rfl ⟨hi1, hi2⟩ hc rfl rfl
  have Hr3 := Lib.hid r3
  have Hx3 := Lib.hid x3F
  have HbB3 := Lib.hid (xv.blk HbB2.out hBr)
  have dB3 := hS3.1
  clear r3 x3F xs1 xs2 xs3 bV bV1 bV2 bV3 hS1 hS2 hS3 x2v xv
  go_wp2_with fail
  obtain ⟨D3, ps3, hN3, hrm3, hp3⟩ := Hr3.out.is
  refine (anew_any r d _ _ D3 ps3 draw wv3 hN3).mono ?_; rintro e w4 ⟨rfl, x4, n4⟩
  have hBG : ¬ (Gr F wd w2 B) := fun h => h.elim hBF (fun h => by have := lt_of_blk b1d; omega)
  have bB4 := x4.blk HbB3.out hBG
  have dB4 : w4.cell? ⟨B, 0, none⟩ = some (.pointer (some ⟨r, 0, none⟩)) := by rw [cell_of_blk bB4]; rfl
  have hnode4 : ∃ L4 tv4, w4.heap[r]? = some (.cells (nodeArr (N.asks draw) d L4 tv4) 92 (0, 0)) := by
    obtain ⟨L4, _, _, _, tv4, _, h4, _⟩ := n4
    exact ⟨L4, tv4, h4.blk⟩
  obtain ⟨L4, tv4, hb4⟩ := hnode4
  have d12 : w4.cell? ⟨r, 12, none⟩ = some (.int .u8 (2 ^ N.id : Nat)) := by rw [cell_of_blk hb4]; rfl
  have Hn4 := Lib.hid n4
  have Hx4 := Lib.hid x4
  have HbB4 := Lib.hid bB4
  have Hb4 := Lib.hid hb4
  have Hp3 := Lib.hid hp3
  have Hrm3 := Lib.hid hrm3
  clear hN3 n4 x4 bB4 hb4 dB3 hp3 hrm3
  go_wp2_with fail
  refine wp_region_N (fun w' => w'.cell? ⟨B, 0, none⟩ = some (.pointer (some ⟨r, 0, none⟩)) ∧ w'.cell? ⟨r, 12, none⟩ = some (.int .u8 (2 ^ N.id : Nat))) 5 (by kernel_rfl) ?_
  have hSd : w4.drew.cell? ⟨B, 0, none⟩ = some (.pointer (some ⟨r, 0, none⟩)) ∧ w4.drew.cell? ⟨r, 12, none⟩ = some (.int .u8 (2 ^ N.id : Nat)) := ⟨dB4, d12⟩
  have x4d : Ext NoB w4 w4.drew := (Ext.refl _ w4).drew
  generalize w4.drew = wx at hSd x4d ⊢
  refine wpAnyN_take 0 (v := ?_) (by kernel_rfl) rfl (fun _ _ _ h => h) hSd (by rfl) ?_ ?_; rotate_left; (focus (intro w hSw; (try dsimp only at hSw); go_simp; try with_reducible rfl)); (try simp only [Act.put, List.setIfInBounds_toArray, List.set_cons_zero, List.set_cons_succ])
  refine wpAnyN_take 1 (v := ?_) (by kernel_rfl) rfl (fun _ _ _ h => h) hSd (by rfl) ?_ ?_; rotate_left; (focus (intro w hSw; (try dsimp only at hSw); go_simp; try with_reducible rfl)); (try simp only [Act.put, List.setIfInBounds_toArray, List.set_cons_zero, List.set_cons_succ])
  refine wpAnyN_free 2 (v := ?_) (by kernel_rfl) rfl (fun _ _ _ h => h) hSd (by rfl) ?_ ?_; rotate_left; (focus (intro w; go_simp; try with_reducible rfl)); (try simp only [Act.put, List.setIfInBounds_toArray, List.set_cons_zero, List.set_cons_succ])
  refine wpAnyN_free 3 (v := ?_) (by kernel_rfl) rfl (fun _ _ _ h => h) hSd (by rfl) ?_ ?_; rotate_left; (focus (intro w; go_simp; try with_reducible rfl)); (try simp only [Act.put, List.setIfInBounds_toArray, List.set_cons_zero, List.set_cons_succ])
  refine wpAnyN_take 4 (v := ?_) (by kernel_rfl) rfl (fun _ _ _ h => h) hSd (by rfl) ?_ ?_; rotate_left; (focus (intro w hSw; (try dsimp only at hSw); go_simp; try with_reducible rfl)); (try simp only [Act.put, List.setIfInBounds_toArray, List.set_cons_zero, List.set_cons_succ])
  refine wpAnyN_tail (by rfl) (by decide) (by kernel_rfl) (by kernel_rfl) ?_
  simp only [List.drop_succ_cons, List.drop_zero]
  have hq255 : 2 ^ N.id ≤ 255 := by
    have h1 : (2 : Nat) ^ N.id ≤ 2 ^ 4 := Nat.pow_le_pow_right (by decide) (by omega)
    generalize (2 : Nat) ^ N.id = q at h1
    omega
  have hmost := most_any r d _ _ D3 ps3 (2 ^ N.id) hq255 wx (Hn4.out.no x4d)
  have hm0 : mostOf (N.asks draw).n (2 ^ N.id) = true := by
    show mostOf N.n (2 ^ N.id) = true
    have h1 := Hn1.out
    have h0 : N.id = 0 := by omega
    rw [h1, h0]
    decide
  have Hmost : Hid (Calls Tryz.prog 80 #[.pointer (some ⟨r, 0, none⟩), .int .u8 (2 ^ N.id : Nat)] wx fun e w' => e = .returned (.bool true) ∧ Ext NoB wx w') := Lib.hid (hmost.mono (fun e w' h => ⟨by rw [h.1, ← hm0]; rfl, h.2⟩))
  clear hmost hm0 hq255
  go_wp2_with fail
  refine Hmost.out.mono ?_; rintro e w5 ⟨rfl, x5⟩
  have y5 : Ext NoB w4 w5 := x4d.trans x5
  have dB5 := y5.cell dB4 (fun h => h)
  have hR5 : RaftIs w5 r d (Gr F wd w2) (N.asks draw) room true := ⟨⟨D3, ps3, Hn4.out.no y5, Hrm3.out, Hp3.out⟩, fun h => (by cases h), Hr3.out.vote, Hr3.out.term⟩
  have Hwin := Lib.hid (wins_any r d _ (N.asks draw) room true w5 hR5 Hlay.out Hok.out)
  have Hy5 := Lib.hid y5
  clear hR5 y5
  go_wp2_with fail
  refine Hwin.out.mono ?_; rintro e w6 ⟨v, rfl, hm6, hf6, x6, r6⟩
  have Hm6 := Lib.hid hm6
  have Hf6 := Lib.hid hf6
  have Hx6 := Lib.hid x6
  have Hr6 := Lib.hid r6
  clear hm6 hf6 x6 r6
  go_wp2_with fail
  go_ret
  have hx2 := Hx2.out
  have hx3 := Hx3.out
  have hx4 := Hx4.out
  have hx6 := Hx6.out
  have g1 := x1d.size
  have g2 := hx2.size
  have g3 := hx3.size
  have g4 := hx4.size
  have g5 := Hy5.out.size
  have g6 := hx6.size
  have x4F : Ext F w w4 := (((x1d.of_no).trans hx2).next hx3 (fun b h hb => h.elim (fun h => h) (fun h => by omega))).next hx4 (fun b h hb => h.elim (fun h => h) (fun h => by omega))
  have xF : Ext F w w6 := (x4F.nextNo Hy5.out).next hx6 (fun b h hb => h.elim (fun h => h) (fun h => by omega))
  refine ⟨v, rfl, Hm6.out, fun g hg => by have := Hf6.out g hg; omega, xF, ?_⟩
  exact Hr6.out.wide (fun b h => by
    rcases h with h | h
    · rcases h with h | h
      · exact .inl h
      · exact .inr (by omega)
    · exact .inr (by omega)) (fun b h => by
    rcases h with h | h
    · exact Nat.lt_of_lt_of_le (H.out.lt b h) xF.size
    · exact h.2)
end Go.Proofs.YtgglbholbkdgfaaGreatDoor
