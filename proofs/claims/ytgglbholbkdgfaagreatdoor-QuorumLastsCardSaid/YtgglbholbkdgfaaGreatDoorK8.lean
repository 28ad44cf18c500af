/- Joined texts: B38 B39 B40 B41 B42 B43 B44 B45. Each has its own head. -/
import Derived.Test.YtgglbholbkdgfaaGreatDoorK7
set_option linter.unusedVariables false
set_option linter.unusedSimpArgs false
namespace Go.Proofs.YtgglbholbkdgfaaGreatDoor
open Go.RowKit
def PNode.asks (N : PNode) (draw : Int) : PNode := { N with term := N.term + 1, vote := N.id, role := 1, leader := -1, voted := 2 ^ N.id, wait := 10 + (max 0 draw) % 10 }
def askMsg (N : PNode) (t : Nat) : PMsg := ⟨N.id, t, 1, [N.term, N.log.length, N.termOf N.log.length], []⟩
theorem ones_pow : ∀ i : Fin 5, Lib.onesCount (2 ^ i.val) = 1 := by decide
theorem most_one (n id : Nat) (h : id < n) (h5 : n ≤ 5) (h3 : 3 ≤ n) : mostOf n (2 ^ id) = false := by
 unfold mostOf
 have := ones_pow ⟨id, by omega⟩
 simp only at this
 rw [this]
 exact decide_eq_false (by omega)
set_option maxRecDepth 100000 in
set_option maxHeartbeats 4000000 in
theorem stands_many (r d : Nat) (F : Nat → Prop) (N : PNode) (room : Nat) (saved : Bool) (draw : Int) (w : World) (h : RaftIs w r d F N room saved) (hn : 3 ≤ N.n) (ht : N.term + 1 ≤ 1099511627776) (hroom : N.bytes + 100 ≤ room) :
  Calls Tryz.prog 44 #[.pointer (some ⟨r, 0, none⟩), .int .i64 draw] w fun e w' => ∃ v, e = .returned v ∧ MsgsAre w' v ((tos N.n N.id).map (askMsg (N.asks draw))) ∧ Fresh w v ∧ Ext F w w' ∧ RaftIs w' r d (Gr F w w') (N.asks draw) room true := by
 obtain ⟨L, tv, hb, hi1, hi2, hc, hll⟩ := h.cells
 have c0 : w.cell? ⟨r, 0, none⟩ = some (.int .i64 N.id) := by rw [cell_of_blk hb]; rfl
 have c5 : w.cell? ⟨r, 5, none⟩ = some (.int .i64 N.term) := by rw [cell_of_blk hb]; rfl
 have hrl := lt_of_blk hb
 have hw1 : IntKind.i64.wrap ((N.term : Int) + 1) = ((N.term + 1 : Nat) : Int) := by rw [IntWalk.i64_in _ (by omega)]; omega
 have Hturn := Lib.hid (fun (w' : World) (x : Ext NoB w w') => turns_any r d F N room saved (N.term + 1) N.id w' (h.no x) ht (by omega) hroom)
 have H := Lib.hid h
 clear h hb ht hroom hll
 go_enter Tryz.func44, Tryz.ntmps44
 go_wp2_with fail
 obtain ⟨w1, B, e1, e2, x1, b1, hs1⟩ := alloc_facts w (.cells #[.pointer (some ⟨r, 0, none⟩)] 27)
 rw [e1, e2]
 have d0 := x1.cell c0 (fun h => h)
 have d5 := x1.cell c5 (fun h => h)
 have dB : w1.cell? ⟨B, 0, none⟩ = some (.pointer (some ⟨r, 0, none⟩)) := by rw [cell_of_blk b1]; rfl
 refine wp_region_N (fun w' => w'.cell? ⟨B, 0, none⟩ = some (.pointer (some ⟨r, 0, none⟩)) ∧ w'.cell? ⟨r, 5, none⟩ = some (.int .i64 N.term) ∧ w'.cell? ⟨r, 0, none⟩ = some (.int .i64 N.id)) 10 (by kernel_rfl) ?_
 have hSd : w1.drew.cell? ⟨B, 0, none⟩ = some (.pointer (some ⟨r, 0, none⟩)) ∧ w1.drew.cell? ⟨r, 5, none⟩ = some (.int .i64 N.term) ∧ w1.drew.cell? ⟨r, 0, none⟩ = some (.int .i64 N.id) := ⟨dB, d5, d0⟩
 have x1d : Ext NoB w w1.drew := x1.drew
 have b1d : w1.drew.heap[B]? = some (.cells #[.pointer (some ⟨r, 0, none⟩)] 27 (0, 0)) := b1
 generalize w1.drew = wd at hSd x1d b1d ⊢
 refine wpAnyN_take 0 (v := ?_) (by kernel_rfl) rfl (fun _ _ _ h => h) hSd (by rfl) ?_ ?_; rotate_left; (focus (intro w hSw; (try dsimp only at hSw); go_simp; try with_reducible rfl)); (try simp only [Act.put]); (try simp only [List.setIfInBounds_toArray, List.set_cons_zero, List.set_cons_succ])
 refine wpAnyN_take 1 (v := ?_) (by kernel_rfl) rfl (fun _ _ _ h => h) hSd (by rfl) ?_ ?_; rotate_left; (focus (intro w hSw; (try dsimp only at hSw); go_simp; try with_reducible rfl)); (try simp only [Act.put]); (try simp only [List.setIfInBounds_toArray, List.set_cons_zero, List.set_cons_succ])
 refine wpAnyN_free 2 (v := ?_) (by kernel_rfl) rfl (fun _ _ _ h => h) hSd (by rfl) ?_ ?_; rotate_left; (focus (intro w; go_simp; try with_reducible rfl)); (try simp only [Act.put]); (try simp only [List.setIfInBounds_toArray, List.set_cons_zero, List.set_cons_succ])
 refine wpAnyN_free 3 (v := ?_) (by kernel_rfl) rfl (fun _ _ _ h => h) hSd (by rfl) ?_ ?_; rotate_left; (focus (intro w; go_simp; try with_reducible rfl)); (try simp only [Act.put]); (try simp only [List.setIfInBounds_toArray, List.set_cons_zero, List.set_cons_succ])
 refine wpAnyN_take 4 (v := ?_) (by kernel_rfl) rfl (fun _ _ _ h => h) hSd (by rfl) ?_ ?_; rotate_left; (focus (intro w hSw; (try dsimp only at hSw); go_simp; try with_reducible rfl)); (try simp only [Act.put]); (try simp only [List.setIfInBounds_toArray, List.set_cons_zero, List.set_cons_succ])
 refine wpAnyN_free 5 (v := ?_) (by kernel_rfl) rfl (fun _ _ _ h => h) hSd (by rfl) ?_ ?_; rotate_left; (focus (intro w; go_simp; try with_reducible rfl)); (try simp only [Act.put]); (try simp only [List.setIfInBounds_toArray, List.set_cons_zero, List.set_cons_succ])
 refine wpAnyN_take 6 (v := ?_) (by kernel_rfl) rfl (fun _ _ _ h => h) hSd (by rfl) ?_ ?_; rotate_left; (focus (intro w hSw; (try dsimp only at hSw); go_simp; try with_reducible rfl)); (try simp only [Act.put]); (try simp only [List.setIfInBounds_toArray, List.set_cons_zero, List.set_cons_succ])
 refine wpAnyN_free 7 (v := ?_) (by kernel_rfl) rfl (fun _ _ _ h => h) hSd (by rfl) ?_ ?_; rotate_left; (focus (intro w; go_simp; try with_reducible rfl)); (try simp only [Act.put]); (try simp only [List.setIfInBounds_toArray, List.set_cons_zero, List.set_cons_succ])
 refine wpAnyN_free 8 (v := ?_) (by kernel_rfl) rfl (fun _ _ _ h => h) hSd (by rfl) ?_ ?_; rotate_left; (focus (intro w; go_simp; try with_reducible rfl)); (try simp only [Act.put]); (try simp only [List.setIfInBounds_toArray, List.set_cons_zero, List.set_cons_succ])
 refine wpAnyN_take 9 (v := ?_) (by kernel_rfl) rfl (fun _ _ _ h => h) hSd (by rfl) ?_ ?_; rotate_left; (focus (intro w hSw; (try dsimp only at hSw); go_simp; try with_reducible rfl)); (try simp only [Act.put]); (try simp only [List.setIfInBounds_toArray, List.set_cons_zero, List.set_cons_succ])
 refine wpAnyN_tail (by rfl) (by decide) (by kernel_rfl) (by kernel_rfl) ?_
 simp only [List.drop_succ_cons, List.drop_zero]
 go_wp2_with fail
 refine (Hturn.out wd x1d).mono ?_; rintro e w2 ⟨rfl, x2, r2⟩
 obtain ⟨L2, tv2, hb2, _, _, _, hll2⟩ := r2.cells
 have hBF : ¬ F B := fun hf => by
  obtain ⟨_, _, ⟨_, _, _, _, _, _, _, _, hlt⟩, _, _⟩ := H.out.is
  have := hlt B hf
  omega
 have bB2 := x2.blk b1d hBF
 have dB : w2.cell? ⟨B, 0, none⟩ = some (.pointer (some ⟨r, 0, none⟩)) := by rw [cell_of_blk bB2]; rfl
 have d0 : w2.cell? ⟨r, 0, none⟩ = some (.int .i64 N.id) := by rw [cell_of_blk hb2]; rfl
 have d7 : w2.cell? ⟨r, 7, none⟩ = some (.int .i64 N.role) := by rw [cell_of_blk hb2]; rfl
 have d8 : w2.cell? ⟨r, 8, none⟩ = some (.int .i64 N.leader) := by rw [cell_of_blk hb2]; rfl
 have d12 : w2.cell? ⟨r, 12, none⟩ = some (.int .u8 N.voted) := by rw [cell_of_blk hb2]; rfl
 have f7 : w2.frozen? ⟨r, 7, none⟩ = false := frozen_of_blk hb2 7
 have f8 : w2.frozen? ⟨r, 8, none⟩ = false := frozen_of_blk hb2 8
 have f12 : w2.frozen? ⟨r, 12, none⟩ = false := frozen_of_blk hb2 12
 have hBr : B ≠ r := by omega
 have Hb2 := Lib.hid hb2
 have HbB2 := Lib.hid bB2
 have Hr2 := Lib.hid r2
 have Hx2 := Lib.hid x2
 clear hb2 bB2 r2 x2 hSd
 go_wp2_with fail
 refine wp_region_N (fun w' => w'.cell? ⟨B, 0, none⟩ = some (.pointer (some ⟨r, 0, none⟩)) ∧ w'.cell? ⟨r, 0, none⟩ = some (.int .i64 N.id)) 17 (by kernel_rfl) ?_
 have hSd : w2.drew.cell? ⟨B, 0, none⟩ = some (.pointer (some ⟨r, 0, none⟩)) ∧ w2.drew.cell? ⟨r, 0, none⟩ = some (.int .i64 N.id) := ⟨dB, d0⟩
 have x2v : Ext NoB w2 w2.drew := (Ext.refl _ w2).drew
 have bV : w2.drew.heap[r]? = _ := Hb2.out
 generalize w2.drew = wv at hSd x2v bV ⊢
 clear d7 d8 d12 f7 f8 f12 dB d0
 have d7 : wv.cell? ⟨r, 7, none⟩ = some (.int .i64 N.role) := by rw [cell_of_blk bV]; rfl
 have f7 : wv.frozen? ⟨r, 7, none⟩ = false := frozen_of_blk bV 7
 refine wpAnyN_take 0 (v := ?_) (by kernel_rfl) rfl (fun _ _ _ h => h) hSd (by rfl) ?_ ?_; rotate_left; (focus (intro w hSw; (try dsimp only at hSw); go_simp; try with_reducible rfl)); (try simp only [Act.put]); (try simp only [List.setIfInBounds_toArray, List.set_cons_zero, List.set_cons_succ])
 refine wpAnyN_take 1 (v := ?_) (by kernel_rfl) rfl (fun _ _ _ h => h) hSd (by rfl) ?_ ?_; rotate_left; (focus (intro w hSw; (try dsimp only at hSw); go_simp; try with_reducible rfl)); (try simp only [Act.put]); (try simp only [List.setIfInBounds_toArray, List.set_cons_zero, List.set_cons_succ])
 refine wpAnyN_take 2 (v := ?_) (by kernel_rfl) rfl (fun _ _ _ h => h) hSd (by rfl) ?_ ?_; rotate_left; (focus (intro w hSw; (try dsimp only at hSw); go_simp; try with_reducible rfl)); (try simp only [Act.put]); (try simp only [List.setIfInBounds_toArray, List.set_cons_zero, List.set_cons_succ])
 refine wpAnyN_take 3 (v := ?_) (by kernel_rfl) rfl (fun _ _ _ h => h) hSd (by rfl) ?_ ?_; rotate_left; (focus (intro w hSw; (try dsimp only at hSw); go_simp; try with_reducible rfl)); (try simp only [Act.put]); (try simp only [List.setIfInBounds_toArray, List.set_cons_zero, List.set_cons_succ])
 refine wpAnyN_free 4 (v := ?_) (by kernel_rfl) rfl (fun _ _ _ h => h) hSd (by rfl) ?_ ?_; rotate_left; (focus (intro w; go_simp; try with_reducible rfl)); (try simp only [Act.put]); (try simp only [List.setIfInBounds_toArray, List.set_cons_zero, List.set_cons_succ])
 refine wpAnyN_free 5 (v := ?_) (by kernel_rfl) rfl (fun _ _ _ h => h) hSd (by rfl) ?_ ?_; rotate_left; (focus (intro w; go_simp; try with_reducible rfl)); (try simp only [Act.put]); (try simp only [List.setIfInBounds_toArray, List.set_cons_zero, List.set_cons_succ])
 refine wpAnyN_take 6 (v := ?_) (by kernel_rfl) rfl (fun _ _ _ h => h) hSd (by rfl) ?_ ?_; rotate_left; (focus (intro w hSw; (try dsimp only at hSw); go_simp; try with_reducible rfl)); (try simp only [Act.put]); (try simp only [List.setIfInBounds_toArray, List.set_cons_zero, List.set_cons_succ])
 refine wpAnyN_free 7 (v := ?_) (by kernel_rfl) rfl (fun _ _ _ h => h) hSd (by rfl) ?_ ?_; rotate_left; (focus (intro w; go_simp; try with_reducible rfl)); (try simp only [Act.put]); (try simp only [List.setIfInBounds_toArray, List.set_cons_zero, List.set_cons_succ])
 refine wpAnyN_free 8 (v := ?_) (by kernel_rfl) rfl (fun _ _ _ h => h) hSd (by rfl) ?_ ?_; rotate_left; (focus (intro w; go_simp; try with_reducible rfl)); (try simp only [Act.put]); (try simp only [List.setIfInBounds_toArray, List.set_cons_zero, List.set_cons_succ])
 refine wpAnyN_free 9 (v := ?_) (by kernel_rfl) rfl (fun _ _ _ h => h) hSd (by rfl) ?_ ?_; rotate_left; (focus (intro w; go_simp; try with_reducible rfl)); (try simp only [Act.put]); (try simp only [List.setIfInBounds_toArray, List.set_cons_zero, List.set_cons_succ])
 refine wpAnyN_one 10 (by kernel_rfl) (by simp only [List.getElem?_toArray, List.getElem?_cons_succ, List.getElem?_cons_zero] <;> rfl) (by rfl) (fun K hK => ?_)
 go_simp
 have xs1 : Ext (fun b => b = r) wv (wv.setCell ⟨r, 7, none⟩ (.int .i64 1)) := (Ext.refl (fun b => b = r) wv).setCell (p := ⟨r, 7, none⟩) (.inl rfl) _
 have bV1 := blk_setCell bV 7 (.int .i64 1)
 generalize (wv.setCell ⟨r, 7, none⟩ (.int .i64 1)) = wv1 at xs1 bV1 ⊢
 have hS1 := And.intro (xs1.cell hSd.1 hBr) (show wv1.cell? ⟨r, 0, none⟩ = some (.int .i64 N.id) by rw [cell_of_blk bV1]; rfl)
 refine hK.out _ _ hS1 (fun hSd => ?_)
 clear hK K hSd d7 f7
 have hSd := hS1
 have d8 : wv1.cell? ⟨r, 8, none⟩ = some (.int .i64 N.leader) := by rw [cell_of_blk bV1]; rfl
 have f8 : wv1.frozen? ⟨r, 8, none⟩ = false := frozen_of_blk bV1 8
 (try simp only [Act.put]); (try simp only [List.setIfInBounds_toArray, List.set_cons_zero, List.set_cons_succ])
 refine wpAnyN_free 11 (v := ?_) (by kernel_rfl) rfl (fun _ _ _ h => h) hSd (by rfl) ?_ ?_; rotate_left; (focus (intro w; go_simp; try with_reducible rfl)); (try simp only [Act.put]); (try simp only [List.setIfInBounds_toArray, List.set_cons_zero, List.set_cons_succ])
 refine wpAnyN_free 12 (v := ?_) (by kernel_rfl) rfl (fun _ _ _ h => h) hSd (by rfl) ?_ ?_; rotate_left; (focus (intro w; go_simp; try with_reducible rfl)); (try simp only [Act.put]); (try simp only [List.setIfInBounds_toArray, List.set_cons_zero, List.set_cons_succ])
 refine wpAnyN_one 13 (by kernel_rfl) (by simp only [List.getElem?_toArray, List.getElem?_cons_succ, List.getElem?_cons_zero] <;> rfl) (by rfl) (fun K hK => ?_)
 go_simp
 have xs2 : Ext (fun b => b = r) wv1 (wv1.setCell ⟨r, 8, none⟩ (.int .i64 (-1))) := (Ext.refl (fun b => b = r) wv1).setCell (p := ⟨r, 8, none⟩) (.inl rfl) _
 have bV2 := blk_setCell bV1 8 (.int .i64 (-1))
 generalize (wv1.setCell ⟨r, 8, none⟩ (.int .i64 (-1))) = wv2 at xs2 bV2 ⊢
 have hS2 := And.intro (xs2.cell hSd.1 hBr) (show wv2.cell? ⟨r, 0, none⟩ = some (.int .i64 N.id) by rw [cell_of_blk bV2]; rfl)
 refine hK.out _ _ hS2 (fun hSd => ?_)
 clear hK K hSd d8 f8
 have hSd := hS2
 have d12 : wv2.cell? ⟨r, 12, none⟩ = some (.int .u8 N.voted) := by rw [cell_of_blk bV2]; rfl
 have f12 : wv2.frozen? ⟨r, 12, none⟩ = false := frozen_of_blk bV2 12
 (try simp only [Act.put]); (try simp only [List.setIfInBounds_toArray, List.set_cons_zero, List.set_cons_succ])
 refine wpAnyN_free 14 (v := ?_) (by kernel_rfl) rfl (fun _ _ _ h => h) hSd (by rfl) ?_ ?_; rotate_left; (focus (intro w; go_simp; try with_reducible rfl)); (try simp only [Act.put]); (try simp only [List.setIfInBounds_toArray, List.set_cons_zero, List.set_cons_succ])
 refine wpAnyN_free 15 (v := ?_) (by kernel_rfl) rfl (fun _ _ _ h => h) hSd (by rfl) ?_ ?_; rotate_left; (focus (intro w; go_simp; try with_reducible rfl)); (try simp only [Act.put]); (try simp only [List.setIfInBounds_toArray, List.set_cons_zero, List.set_cons_succ])
 refine wpAnyN_one 16 (by kernel_rfl) (by simp only [List.getElem?_toArray, List.getElem?_cons_succ, List.getElem?_cons_zero] <;> rfl) (by rfl) (fun K hK => ?_)
 go_simp
 have hpw : IntKind.u8.wrap ((2 : Int) ^ N.id) = ((2 ^ N.id : Nat) : Int) := by
  have h1 : (2 : Nat) ^ N.id ≤ 2 ^ 4 := Nat.pow_le_pow_right (by decide) (by omega)
  have h2 : ((2 : Int) ^ N.id) = ((2 ^ N.id : Nat) : Int) := by simp
  rw [h2, IntKind.wrap_u8]
  generalize (2 : Nat) ^ N.id = q at h1
  omega
 rw [hpw]
 have xs3 : Ext (fun b => b = r) wv2 (wv2.setCell ⟨r, 12, none⟩ (.int .u8 (2 ^ N.id : Nat))) := (Ext.refl (fun b => b = r) wv2).setCell (p := ⟨r, 12, none⟩) (.inl rfl) _
 have bV3 := blk_setCell bV2 12 (.int .u8 (2 ^ N.id : Nat))
 generalize (wv2.setCell ⟨r, 12, none⟩ (.int .u8 (2 ^ N.id : Nat))) = wv3 at xs3 bV3 ⊢
 have hS3 := And.intro (xs3.cell hSd.1 hBr) (show wv3.cell? ⟨r, 0, none⟩ = some (.int .i64 N.id) by rw [cell_of_blk bV3]; rfl)
 refine hK.out _ _ hS3 (fun hSd => ?_)
 clear hK K hSd d12 f12
 (try simp only [Act.put]); (try simp only [List.setIfInBounds_toArray, List.set_cons_zero, List.set_cons_succ])
 refine wpAnyN_tail (by rfl) (by decide) (by kernel_rfl) (by kernel_rfl) ?_
 simp only [List.drop_succ_cons, List.drop_zero, List.drop_nil]
 have xv : Ext (fun b => b = r) w2 wv3 := ((x2v.of_no.trans xs1).trans xs2).trans xs3
 obtain ⟨r3, x3F⟩ := RaftIs.set (N' := { { N with term := N.term + 1, vote := N.id } with role := 1, leader := -1, voted := 2 ^ N.id }) Hr2.out xv (fun L' tv' hb' => by
  have e := Hb2.out.symm.trans hb'
  have e2 : nodeArr { N with term := N.term + 1, vote := N.id } d L2 tv2 = nodeArr { N with term := N.term + 1, vote := N.id } d L' tv' := by
   injection e with e; injection e
  have eL : L2 = L' ∧ tv2 = tv' := by
   have e3 := congrArg Array.toList e2
   simp only [nodeArr, List.cons.injEq, Value.pointer.injEq, Option.some.injEq, Addr.mk.injEq] at e3
   exact ⟨e3.2.2.2.1.1, e3.2.2.2.2.1⟩
  obtain ⟨rfl, rfl⟩ := eL
  exact bV3) rfl ⟨hi1, hi2⟩ hc rfl rfl
 have Hr3 := Lib.hid r3
 have Hx3 := Lib.hid x3F
 have HbB3 := Lib.hid (xv.blk HbB2.out hBr)
 have dB3 := hS3.1
 clear r3 x3F xs1 xs2 xs3 bV bV1 bV2 bV3 hS1 hS2 hS3 x2v xv
 go_wp2_with fail
 obtain ⟨D3, ps3, hN3, hrm3, hp3⟩ := Hr3.out.is
 refine (anew_any r d _ _ D3 ps3 draw wv3 hN3).mono ?_; rintro e w4 ⟨rfl, x4, n4⟩
 have hBG : ¬ (Gr F wd w2 B) := fun h => h.elim hBF (fun h => by have := lt_of_blk b1d; omega)
 have bB4 := x4.blk HbB3.out hBG
 have dB4 : w4.cell? ⟨B, 0, none⟩ = some (.pointer (some ⟨r, 0, none⟩)) := by rw [cell_of_blk bB4]; rfl
 have hnode4 : ∃ L4 tv4, w4.heap[r]? = some (.cells (nodeArr (N.asks draw) d L4 tv4) 92 (0, 0)) := by
  obtain ⟨L4, _, _, _, tv4, _, h4, _⟩ := n4
  exact ⟨L4, tv4, h4.blk⟩
 obtain ⟨L4, tv4, hb4⟩ := hnode4
 have d12 : w4.cell? ⟨r, 12, none⟩ = some (.int .u8 (2 ^ N.id : Nat)) := by rw [cell_of_blk hb4]; rfl
 have Hn4 := Lib.hid n4
 have Hx4 := Lib.hid x4
 have HbB4 := Lib.hid bB4
 have Hb4 := Lib.hid hb4
 have Hp3 := Lib.hid hp3
 have Hrm3 := Lib.hid hrm3
 clear hN3 n4 x4 bB4 hb4 dB3 hp3 hrm3
 go_wp2_with fail
 refine wp_region_N (fun w' => w'.cell? ⟨B, 0, none⟩ = some (.pointer (some ⟨r, 0, none⟩)) ∧ w'.cell? ⟨r, 12, none⟩ = some (.int .u8 (2 ^ N.id : Nat))) 5 (by kernel_rfl) ?_
 have hSd : w4.drew.cell? ⟨B, 0, none⟩ = some (.pointer (some ⟨r, 0, none⟩)) ∧ w4.drew.cell? ⟨r, 12, none⟩ = some (.int .u8 (2 ^ N.id : Nat)) := ⟨dB4, d12⟩
 have x4d : Ext NoB w4 w4.drew := (Ext.refl _ w4).drew
 generalize w4.drew = wx at hSd x4d ⊢
 refine wpAnyN_take 0 (v := ?_) (by kernel_rfl) rfl (fun _ _ _ h => h) hSd (by rfl) ?_ ?_; rotate_left; (focus (intro w hSw; (try dsimp only at hSw); go_simp; try with_reducible rfl)); (try simp only [Act.put]); (try simp only [List.setIfInBounds_toArray, List.set_cons_zero, List.set_cons_succ])
 refine wpAnyN_take 1 (v := ?_) (by kernel_rfl) rfl (fun _ _ _ h => h) hSd (by rfl) ?_ ?_; rotate_left; (focus (intro w hSw; (try dsimp only at hSw); go_simp; try with_reducible rfl)); (try simp only [Act.put]); (try simp only [List.setIfInBounds_toArray, List.set_cons_zero, List.set_cons_succ])
 refine wpAnyN_free 2 (v := ?_) (by kernel_rfl) rfl (fun _ _ _ h => h) hSd (by rfl) ?_ ?_; rotate_left; (focus (intro w; go_simp; try with_reducible rfl)); (try simp only [Act.put]); (try simp only [List.setIfInBounds_toArray, List.set_cons_zero, List.set_cons_succ])
 refine wpAnyN_free 3 (v := ?_) (by kernel_rfl) rfl (fun _ _ _ h => h) hSd (by rfl) ?_ ?_; rotate_left; (focus (intro w; go_simp; try with_reducible rfl)); (try simp only [Act.put]); (try simp only [List.setIfInBounds_toArray, List.set_cons_zero, List.set_cons_succ])
 refine wpAnyN_take 4 (v := ?_) (by kernel_rfl) rfl (fun _ _ _ h => h) hSd (by rfl) ?_ ?_; rotate_left; (focus (intro w hSw; (try dsimp only at hSw); go_simp; try with_reducible rfl)); (try simp only [Act.put]); (try simp only [List.setIfInBounds_toArray, List.set_cons_zero, List.set_cons_succ])
 refine wpAnyN_tail (by rfl) (by decide) (by kernel_rfl) (by kernel_rfl) ?_
 simp only [List.drop_succ_cons, List.drop_zero]
 have hq255 : 2 ^ N.id ≤ 255 := by
  have h1 : (2 : Nat) ^ N.id ≤ 2 ^ 4 := Nat.pow_le_pow_right (by decide) (by omega)
  generalize (2 : Nat) ^ N.id = q at h1
  omega
 have hmost := most_any r d _ _ D3 ps3 (2 ^ N.id) hq255 wx (Hn4.out.no x4d)
 have hm0 : mostOf (N.asks draw).n (2 ^ N.id) = false := most_one N.n N.id hi1 hi2 hn
 have Hmost : Hid (Calls Tryz.prog 80 #[.pointer (some ⟨r, 0, none⟩), .int .u8 (2 ^ N.id : Nat)] wx fun e w' => e = .returned (.bool false) ∧ Ext NoB wx w') := Lib.hid (hmost.mono (fun e w' h => ⟨by rw [h.1, ← hm0]; rfl, h.2⟩))
 clear hmost hm0 hq255
 go_wp2_with fail
 refine Hmost.out.mono ?_; rintro e w5 ⟨rfl, x5⟩
 have y5 : Ext NoB w4 w5 := x4d.trans x5
 have dB5 := y5.cell dB4 (fun h => h)
 go_wp2_with fail
 obtain ⟨NA, hNA⟩ : ∃ NA, N.asks draw = NA := ⟨_, rfl⟩
 have hn4 : NodeIs w4 r d (Gr F wd w2) NA D3 ps3 := by rw [← hNA]; exact Hn4.out
 have hNl : NA.log.length = N.log.length := by rw [← hNA]; rfl
 obtain ⟨tm, htm⟩ : ∃ tm, NA.termOf N.log.length = tm := ⟨_, rfl⟩
 have hhas : NA.has (N.log.length : Int) = true := by unfold PNode.has; rw [hNl]; simp
 have hlast := Lib.hid (fun (w' : World) (x : Ext NoB w4 w') => (hNl ▸ rlast_any r d _ NA D3 ps3 w' (hn4.no x) : Calls Tryz.prog 54 #[.pointer (some ⟨r, 0, none⟩)] w' fun e w'' => e = .returned (.int .i64 N.log.length) ∧ w' = w''))
 have hterm := Lib.hid (fun (w' : World) (x : Ext NoB w4 w') => (htm ▸ hhas ▸ termOf_any r d _ NA D3 ps3 N.log.length w' (hn4.no x) (by omega) : Calls Tryz.prog 77 #[.pointer (some ⟨r, 0, none⟩), .int .i64 N.log.length] w' fun e w'' => e = .returned (.tuple #[.int .i64 tm, .bool true]) ∧ w' = w''))
 have hend := Lib.hid (fun (BT : Nat) (wz : World) (x : Ext NoB w4 wz) (hB : wz.cell? ⟨B, 0, none⟩ = some (.pointer (some ⟨r, 0, none⟩))) (hT : wz.cell? ⟨BT, 0, none⟩ = some (.int .i64 tm)) =>
  others_ask r d B BT (Gr F wd w2) NA D3 ps3 wz (hn4.no x) (askMsg NA) (fun t w1 y => (ask_any r d B BT _ NA D3 ps3 tm t w1 ((hn4.no x).no y) (y.cell hB (fun h => h)) (y.cell hT (fun h => h))).mono (fun e w2' h => by
   obtain ⟨v, h1, h2, h3, h4⟩ := h
   refine ⟨[.int .i64 NA.id, .int .i64 t, .int .i64 1, v, .slice none 0 0], h1, h4, v, _, ?_, ?_, Own.nil _ _ _⟩
   ·rfl
   ·have e : intsV (askMsg NA t).nums = [.int .i64 NA.term, .int .i64 NA.log.length, .int .i64 tm] := by
     show intsV [(NA.term : Int), (NA.log.length : Int), (NA.termOf NA.log.length : Int)] = _
     rw [hNl, htm]
     rfl
    rw [e]; exact h2)))
 have hnB := World.new_ne w5 _ dB5
 go_region_held3 (fun w' => w'.cell? ⟨B, 0, none⟩ = some (.pointer (some ⟨r, 0, none⟩)) ∧ Ext NoB w5 w') (first
   | exact ⟨dB5, (Ext.refl _ _).drew⟩
   | assumption
   | exact ⟨(((Ext.refl NoB w5).alloc _).drew).cell dB5 (fun h => h), ((Ext.refl NoB w5).alloc _).drew⟩
   | exact ⟨((((Ext.refl NoB w5).alloc _).drew).setCell (.inr (Nat.le_refl _)) _).cell dB5 (fun h => h), (((Ext.refl NoB w5).alloc _).drew).setCell (.inr (Nat.le_refl _)) _⟩
   | exact ⟨((((Ext.refl NoB w5).alloc _).setCell (.inr (Nat.le_refl _)) _).drew).cell dB5 (fun h => h), (((Ext.refl NoB w5).alloc _).setCell (.inr (Nat.le_refl _)) _).drew⟩)
  (first
   | (go_at_call 54; refine (hlast.out _ ?_).mono ?_; (first | exact y5.drew | exact y5.drew.alloc _); rintro e w6 ⟨rfl, rfl⟩)
   | (go_at_call 77; refine (hterm.out _ ?_).mono ?_; (first | exact y5.drew | exact y5.drew.alloc _); rintro e w6 ⟨rfl, rfl⟩))
 all_goals
  have xz : Ext NoB w5 ((w5.alloc (.cells #[.int .i64 tm] 3)).drew) := ((Ext.refl NoB w5).alloc _).drew
  have bz : ((w5.alloc (.cells #[.int .i64 tm] 3)).drew).heap[w5.heap.size]? = some (.cells #[.int .i64 tm] 3 (0, 0)) := blk_new w5 _
  generalize ((w5.alloc (.cells #[.int .i64 tm] 3)).drew) = wz at xz bz ⊢
  obtain ⟨BT, hBT⟩ : ∃ BT, w5.heap.size = BT := ⟨_, rfl⟩
  rw [hBT] at bz ⊢
  have cB := xz.cell dB5 (fun h => h)
  have cT : wz.cell? ⟨BT, 0, none⟩ = some (.int .i64 tm) := by rw [cell_of_blk bz]; rfl
  have hmf : ∀ (fn : Fn) (first cap : Array Value) (w : World), (Instr.makeFunc fn first cap).run Tryz.prog w = .ok (.func fn first cap) w := fun _ _ _ _ => rfl
  go_wp2_with fail
  refine (hend.out BT wz (y5.trans xz) cB cT).mono ?_; rintro e w8 ⟨v, rfl, hm8, hf8, x8⟩
  obtain ⟨ms8, hms8, hown8⟩ := hm8
  obtain ⟨va, vn, vc, rfl, _⟩ := hown8.rd
  have Hms8 := Lib.hid hms8
  have Hown8 := Lib.hid hown8
  have Hf8 := Lib.hid hf8
  have Hx8 := Lib.hid x8
  clear hms8 hown8 hf8 x8
  go_wp2_with fail
  go_ret
  have y48 : Ext NoB w4 w8 := (y5.trans xz).trans Hx8.out
  have hx2 := Hx2.out
  have hx3 := Hx3.out
  have hx4 := Hx4.out
  have g1 := x1d.size
  have g2 := hx2.size
  have g3 := hx3.size
  have g4 := hx4.size
  have g5 := y5.size
  have g6 := xz.size
  have g8 := Hx8.out.size
  have x4F : Ext F w w4 := (((x1d.of_no).trans hx2).next hx3 (fun b h hb => h.elim (fun h => h) (fun h => by omega))).next hx4 (fun b h hb => h.elim (fun h => h) (fun h => by omega))
  have xF : Ext F w w8 := x4F.nextNo y48
  refine ⟨_, rfl, ⟨ms8, by rw [hNA]; have := Hms8.out; rw [← hNA] at this ⊢; exact this, Hown8.out⟩, fun g hg => by have := Hf8.out g hg; omega, xF, ?_⟩
  rw [hNA]
  obtain ⟨L8, FD8, FL8, FR8, tv8, dl8, k1, k2, k3⟩ := hn4.no y48
  refine ⟨⟨D3, ps3, ⟨L8, FD8, FL8, FR8, tv8, dl8, k1, fun b hb => ?_, fun b hb => ?_⟩, Hrm3.out, by rw [← hNA]; exact Hp3.out⟩, fun h => (by cases h), by rw [← hNA]; exact Hr3.out.vote, by rw [← hNA]; exact Hr3.out.term⟩
  ·rcases k2 b hb with h | h
   ·exact .inl h
   ·exact .inr (by omega)
  ·rcases hb with hb | hb
   ·exact k3 b (.inl hb)
   ·exact hb.2
end Go.Proofs.YtgglbholbkdgfaaGreatDoor
namespace Go.Proofs.YtgglbholbkdgfaaGreatDoor
open Go.RowKit
def PNode.haveTo (N : PNode) (i : Nat) : Nat → Nat
 | 0 => 2 ^ N.id
 | k + 1 => if k ≠ N.id ∧ i ≤ N.mt k then N.haveTo i k ||| 2 ^ k else N.haveTo i k
def PNode.commitAt (N : PNode) (i : Nat) : Bool := decide (N.termOf i = N.term) && mostOf N.n (N.haveTo i N.n)
def PNode.commitFrom (N : PNode) : Nat → Nat
 | 0 => N.committed
 | i + 1 => if i + 1 ≤ N.committed then N.committed else if N.commitAt (i + 1) then i + 1 else N.commitFrom i
def PNode.commits (N : PNode) : PNode := { N with committed := N.commitFrom N.log.length }
theorem PNode.haveTo_lt (N : PNode) (i : Nat) (h : N.id < 5) : ∀ k, k ≤ 5 → N.haveTo i k < 32
 | 0, _ => by
  show 2 ^ N.id < 2 ^ 5
  exact Nat.pow_lt_pow_right (by decide) h
 | k + 1, hk => by
  have ih := N.haveTo_lt i h k (by omega)
  rw [PNode.haveTo]
  split
  ·exact Nat.or_lt_two_pow (n := 5) ih (Nat.pow_lt_pow_right (by decide) (by omega))
  ·exact ih
theorem PNode.commitFrom_low (N : PNode) : ∀ i, i ≤ N.committed → N.commitFrom i = N.committed
 | 0, _ => rfl
 | i + 1, h => by rw [PNode.commitFrom, if_pos h]
theorem or_pow5 : ∀ a : Fin 32, ∀ k : Fin 5, bits BinOp.or IntKind.u8 ((a.val : Nat) : Int) (2 ^ k.val % 256) = ((a.val ||| 2 ^ k.val : Nat) : Int) := by decide
theorem or_pow (a k : Nat) (ha : a < 32) (hk : k < 5) : bits BinOp.or IntKind.u8 (a : Int) (2 ^ k % 256) = ((a ||| 2 ^ k : Nat) : Int) := or_pow5 ⟨a, ha⟩ ⟨k, hk⟩
set_option maxRecDepth 100000 in
set_option maxHeartbeats 4000000 in
theorem commits_any (r d : Nat) (F : Nat → Prop) (N : PNode) (D : PDisk) (ps : List PSeg) (w : World) (h : NodeIs w r d F N D ps) :
  Calls Tryz.prog 56 #[.pointer (some ⟨r, 0, none⟩)] w fun e w' => e = .returned (.bool (decide (N.committed < N.commits.committed))) ∧ Ext F w w' ∧ NodeIs w' r d F N.commits D ps := by
 have hmost := Lib.hid (fun (s : Nat) (hs : s ≤ 255) (w' : World) (x : Ext NoB w w') => most_any r d F N D ps s hs w' (h.no x))
 have hterm := Lib.hid (fun (i : Nat) (hi : i < 4611686018427387904) (w' : World) (x : Ext NoB w w') => termOf_any r d F N D ps i w' (h.no x) hi)
 have hlast := Lib.hid (rlast_any r d F N D ps w h)
 have H := Lib.hid h
 obtain ⟨L, FD, FL, FR, tv, dl, hA, hF, hlt⟩ := h
 have hl100 := hA.len
 have hb := hA.blk
 have hi1 := hA.idn.1
 have hi2 := hA.idn.2
 have hcm := hA.comm
 have c0 : w.cell? ⟨r, 0, none⟩ = some (.int .i64 N.id) := by rw [cell_of_blk hb]; rfl
 have c1 : w.cell? ⟨r, 1, none⟩ = some (.int .i64 N.n) := by rw [cell_of_blk hb]; rfl
 have c5 : w.cell? ⟨r, 5, none⟩ = some (.int .i64 N.term) := by rw [cell_of_blk hb]; rfl
 have c9 : w.cell? ⟨r, 9, none⟩ = some (.int .i64 N.committed) := by rw [cell_of_blk hb]; rfl
 have cm : ∀ k, k < 5 → w.cell? ⟨r, 18 + k, none⟩ = some (.int .i64 (N.mt k)) := by
  intro k hk
  rw [cell_of_blk hb]
  match k, hk with
  | 0, _ => rfl
  | 1, _ => rfl
  | 2, _ => rfl
  | 3, _ => rfl
  | 4, _ => rfl
 have Cm := Lib.hid cm
 have hpw : IntKind.u8.wrap ((2 : Int) ^ N.id) = ((2 ^ N.id : Nat) : Int) := by
  have h1 : (2 : Nat) ^ N.id ≤ 2 ^ 4 := Nat.pow_le_pow_right (by decide) (by omega)
  have h2 : ((2 : Int) ^ N.id) = ((2 ^ N.id : Nat) : Int) := by simp
  rw [h2, IntKind.wrap_u8]
  generalize (2 : Nat) ^ N.id = q at h1
  omega
 have Hb := Lib.hid hb
 clear hA hF hlt hb cm
 go_enter Tryz.func56, Tryz.ntmps56
 go_wp2_with fail
 refine hlast.out.mono ?_; rintro e w1 ⟨rfl, rfl⟩
 go_wp2_with fail
 go_loopw [3] (fun v wr => ∃ i : Nat, v = .int .i64 i ∧ i ≤ N.log.length ∧ Hid (N.commitFrom N.log.length = N.commitFrom i) ∧ Ext NoB w wr) (fun v _ => (intOf v).toNat)
 case atStart => exact ⟨N.log.length, rfl, Nat.le_refl _, Lib.hid rfl, Ext.refl _ _⟩
 case round =>
  obtain ⟨i, rfl, hi, HC, hx⟩ := hrel
  have c0r := hx.cell c0 (fun h => h)
  have c1r := hx.cell c1 (fun h => h)
  have c5r := hx.cell c5 (fun h => h)
  have c9r := hx.cell c9 (fun h => h)
  obtain ⟨wo, rfl⟩ : ∃ wo : World, wo = wr := ⟨_, rfl⟩
  by_cases hgt : N.committed < i
  ·go_wp2_with fail
   go_loop [4, 27] (fun hv kv => ∃ k : Nat, kv = .int .i64 k ∧ k ≤ N.n ∧ hv = .int .u8 (N.haveTo i k : Nat)) (fun _ kv => N.n - (intOf kv).toNat)
   case atStart => exact ⟨0, rfl, Nat.zero_le _, by simp [PNode.haveTo]⟩
   case round =>
    obtain ⟨k, rfl, hk, rfl⟩ := hrel
    by_cases hkn : k < N.n
    ·have ck := hx.cell (Cm.out k (by omega)) (fun h => h)
     have hsuc : N.haveTo i (k + 1) = if k ≠ N.id ∧ i ≤ N.mt k then N.haveTo i k ||| 2 ^ k else N.haveTo i k := rfl
     have Hsuc := Lib.hid hsuc
     clear hsuc
     by_cases hki : k = N.id
     ·have hb1 : (((k : Int)) != (N.id : Int)) = false := by rw [hki]; simp
      go_wp2_with fail
      go_round
      case rel => exact ⟨k + 1, by go_num, by omega, by rw [Hsuc.out, if_neg (fun h => h.1 hki)]⟩
      case measure => simp [intOf]; omega
     ·have hb1 : (((k : Int)) != (N.id : Int)) = true := by rw [bne_iff_ne]; omega
      by_cases hm : i ≤ N.mt k
      ·go_wp2_with fail
       go_round
       case rel =>
        exact ⟨k + 1, by go_num, by omega, by rw [Hsuc.out, if_pos ⟨hki, hm⟩, or_pow _ _ (N.haveTo_lt i (by omega) k (by omega)) (by omega)]⟩
       case measure => simp [intOf]; omega
      ·go_wp2_with fail
       go_round
       case rel => exact ⟨k + 1, by go_num, by omega, by rw [Hsuc.out, if_neg (fun h => hm h.2)]⟩
       case measure => simp [intOf]; omega
    ·obtain rfl : k = N.n := by omega
     obtain ⟨i', rfl⟩ : ∃ i', i = i' + 1 := ⟨i - 1, by omega⟩
     have hcf : N.commitFrom (i' + 1) = if N.commitAt (i' + 1) then i' + 1 else N.commitFrom i' := by rw [PNode.commitFrom, if_neg (by omega)]
     have hv := N.haveTo_lt (i' + 1) (by omega) N.n (by omega)
     have Hm := Lib.hid (hmost.out (N.haveTo (i' + 1) N.n) (by omega))
     have hat : N.commitAt (i' + 1) = (decide (N.termOf (i' + 1) = N.term) && mostOf N.n (N.haveTo (i' + 1) N.n)) := rfl
     have Hcf := Lib.hid hcf
     have Hat := Lib.hid hat
     clear hcf hat hv
     obtain ⟨hvv, hhv⟩ : ∃ hvv, N.haveTo (i' + 1) N.n = hvv := ⟨_, rfl⟩
     obtain ⟨tm, htm⟩ : ∃ tm, N.termOf (i' + 1) = tm := ⟨_, rfl⟩
     obtain ⟨mo, hmo⟩ : ∃ mo, mostOf N.n hvv = mo := ⟨_, rfl⟩
     have Hte := Lib.hid (hterm.out (i' + 1) (by omega))
     rw [hhv, hmo] at Hm Hat
     rw [htm] at Hat Hte
     rw [hhv]
     clear hhv htm hmo hmost hterm
     have hw1 : IntKind.i64.wrap (((i' + 1 : Nat) : Int) - 1) = (i' : Int) := by rw [IntWalk.i64_in _ (by omega)]; omega
     obtain ⟨ii, hii⟩ : ∃ ii, i' + 1 = ii := ⟨_, rfl⟩
     rw [hii] at hi hgt Hcf Hat Hte hw1 HC ⊢
     have Hii := Lib.hid hii
     clear hii
     by_cases htt : tm = N.term
     ·have hb1 : ((tm : Int) == (N.term : Int)) = true := by rw [htt]; simp
      cases mo with
      | true =>
       go_wp2_with fail
       refine (Hte.out wo hx).mono ?_; rintro e w2 ⟨rfl, rfl⟩
       go_wp2_with fail
       refine (Hm.out wo hx).mono ?_; rintro e w3 ⟨rfl, x3⟩
       have f9 : w3.frozen? ⟨r, 9, none⟩ = false := frozen_of_blk ((hx.trans x3).blk Hb.out (fun h => h)) 9
       have c93 := x3.cell c9r (fun h => h)
       go_wp2_with fail
       go_ret
       have y3 := hx.trans x3
       have e : N.commits.committed = ii := by show N.commitFrom N.log.length = _; rw [HC.out, Hcf.out, Hat.out, if_pos (by simp [htt])]
       have e2 : N.commits = { N with committed := ii } := by unfold PNode.commits; rw [show N.commitFrom N.log.length = ii from e]
       have xs : Ext (fun b => b = r) w3 (w3.setCell ⟨r, 9, none⟩ (.int .i64 ii)) := (Ext.refl (fun b => b = r) w3).setCell (p := ⟨r, 9, none⟩) (.inl rfl) _
       obtain ⟨L', FD', FL', FR', tv', dl', hA, hF, hlt⟩ := H.out.no y3
       rw [e2]
       refine ⟨retBool (decide_eq_true hgt).symm, (y3.of_no).next xs (fun b h _ => hF b (.inr (.inr (h ▸ hA.self)))), L', FD', FL', FR', tv', dl', hA.set xs (blk_setCell hA.blk 9 _) rfl ⟨hi1, hi2⟩ hi, hF, fun b hb => Nat.lt_of_lt_of_le (hlt b hb) xs.size⟩
      | false =>
       go_wp2_with fail
       refine (Hte.out wo hx).mono ?_; rintro e w2 ⟨rfl, rfl⟩
       go_wp2_with fail
       refine (Hm.out wo hx).mono ?_; rintro e w3 ⟨rfl, x3⟩
       go_wp2_with fail
       have hend : N.commitFrom N.log.length = N.commitFrom i' := by rw [HC.out, Hcf.out, Hat.out, if_neg (by simp)]
       have hii := Hii.out
       exact ⟨⟨i', rfl, by omega, Lib.hid hend, hx.trans x3⟩, by simp [intOf]⟩
     ·have hb1 : ((tm : Int) == (N.term : Int)) = false := beq_eq_false_iff_ne.2 (by omega)
      go_wp2_with fail
      refine (Hte.out wo hx).mono ?_; rintro e w2 ⟨rfl, rfl⟩
      go_wp2_with fail
      have hend : N.commitFrom N.log.length = N.commitFrom i' := by rw [HC.out, Hcf.out, Hat.out, if_neg (by simp [htt])]
      have hii := Hii.out
      exact ⟨⟨i', rfl, by omega, Lib.hid hend, hx⟩, by simp [intOf]⟩
  ·go_wp2_with fail
   go_ret
   have e : N.commits.committed = N.committed := by show N.commitFrom N.log.length = _; rw [HC.out, N.commitFrom_low i (by omega)]
   have e2 : N.commits = N := by unfold PNode.commits; rw [show N.commitFrom N.log.length = N.committed from e]
   refine ⟨by rw [e]; simp, (Ext.of_no hx), ?_⟩
   rw [e2]
   exact H.out.no hx
end Go.Proofs.YtgglbholbkdgfaaGreatDoor
namespace Go.Proofs.YtgglbholbkdgfaaGreatDoor
open Go.RowKit
def entsB (l : List (Nat × List UInt8)) : List UInt8 := (l.map (fun e => uv e.1 ++ (uv e.2.length ++ e.2))).flatten
theorem entsB_snoc (l : List (Nat × List UInt8)) (e : Nat × List UInt8) : entsB (l ++ [e]) = ((entsB l ++ uv e.1) ++ uv e.2.length) ++ e.2 := by
 simp [entsB, List.append_assoc]
theorem entsB_len (l : List (Nat × List UInt8)) (h : ∀ e ∈ l, e.1 ≤ 1099511627776 ∧ e.2.length ≤ 1000000) : (entsB l).length ≤ l.length * 1000020 := by
 induction l with
 | nil => simp [entsB]
 | cons e l ih =>
  have := ih (fun x hx => h x (List.mem_cons_of_mem _ hx))
  have h1 := (h e (List.mem_cons_self)).2
  have h2 := uv_length e.1
  have h3 := uv_length e.2.length
  unfold entsB at this ⊢
  simp only [List.map_cons, List.flatten_cons, List.length_append, List.length_cons]
  omega
def PNode.Ok (N : PNode) : Prop := ∀ e ∈ N.log, e.1 ≤ 1099511627776 ∧ e.2.length ≤ 1000000
def PNode.ahead (N : PNode) (t : Nat) : Nat := N.next t - 1
def sendMsg (N : PNode) (t : Nat) : PMsg := ⟨N.id, t, 3, [N.term, N.ahead t, N.termOf (N.ahead t), N.committed], entsB ((N.log.drop (N.ahead t)).take 8)⟩
theorem take_drop_snoc {α : Type} (l : List α) (a k : Nat) (e : α) (h : l[a + k]? = some e) : (l.drop a).take (k + 1) = (l.drop a).take k ++ [e] := by
 have h1 : (l.drop a)[k]? = some e := by rw [List.getElem?_drop]; exact h
 obtain ⟨hk, he⟩ := List.getElem?_eq_some_iff.1 h1
 rw [List.take_succ_eq_append_getElem hk, he]
set_option maxRecDepth 100000 in
set_option maxHeartbeats 4000000 in
theorem sends_any (r d : Nat) (F : Nat → Prop) (N : PNode) (D : PDisk) (ps : List PSeg) (t : Nat) (w : World) (h : NodeIs w r d F N D ps) (hok : N.Ok) (ht : t < 5) (hnx : 1 ≤ N.next t ∧ N.next t ≤ 1099511627776) :
  Calls Tryz.prog 43 #[.pointer (some ⟨r, 0, none⟩), .int .i64 t] w fun e w' => ∃ m, e = .returned (.agg m.toArray) ∧ Ext NoB w w' ∧ MsgIs w' m (sendMsg N t) := by
 have hz := zeroMsg
 have hlast := Lib.hid (fun (w' : World) (x : Ext NoB w w') => rlast_any r d F N D ps w' (h.no x))
 have hterm := Lib.hid (fun (i : Nat) (hi : i < 4611686018427387904) (w' : World) (x : Ext NoB w w') => termOf_any r d F N D ps i w' (h.no x) hi)
 have hentry := Lib.hid (fun (i t : Nat) (x : List UInt8) (hi : 1 ≤ i) (he : N.log[i - 1]? = some (t, x)) (w' : World) (y : Ext NoB w w') => entry_any r d F N D ps i t x w' (h.no y) hi he (hok (t, x) (List.mem_of_getElem? he)).1 (hok (t, x) (List.mem_of_getElem? he)).2)
 have Hok := Lib.hid hok
 obtain ⟨L, FD, FL, FR, tv, dl, hA, hF, hlt⟩ := h
 have hl100 := hA.len
 have hb := hA.blk
 have hrl := lt_of_blk hb
 have c0 : w.cell? ⟨r, 0, none⟩ = some (.int .i64 N.id) := by rw [cell_of_blk hb]; rfl
 have c5 : w.cell? ⟨r, 5, none⟩ = some (.int .i64 N.term) := by rw [cell_of_blk hb]; rfl
 have c9 : w.cell? ⟨r, 9, none⟩ = some (.int .i64 N.committed) := by rw [cell_of_blk hb]; rfl
 have cn : w.cell? ⟨r, 13 + t, none⟩ = some (.int .i64 (N.next t)) := by
  rw [cell_of_blk hb]
  match t, ht with
  | 0, _ => rfl
  | 1, _ => rfl
  | 2, _ => rfl
  | 3, _ => rfl
  | 4, _ => rfl
 obtain ⟨ah, hah⟩ : ∃ ah, N.ahead t = ah := ⟨_, rfl⟩
 have hah2 : ah ≤ 1099511627776 := by rw [← hah]; unfold PNode.ahead; omega
 have hw1 : IntKind.i64.wrap ((N.next t : Int) - 1) = (ah : Int) := by rw [IntWalk.i64_in _ (by omega), ← hah]; unfold PNode.ahead; omega
 obtain ⟨nx, hnx'⟩ : ∃ nx, N.next t = nx := ⟨_, rfl⟩
 rw [hnx'] at cn hw1 hnx
 have Hah := Lib.hid hah
 clear hA hF hlt hb hok hah hnx'
 go_enter Tryz.func43, Tryz.ntmps43
 go_wp2_with fail
 obtain ⟨w1, R, e1, e2, x1, b1, hs1⟩ := alloc_facts w (.cells #[.int .i64 0, .int .i64 0, .int .i64 0, .slice none 0 0, .slice none 0 0] 37)
 rw [e1, e2]
 have Hb1 := Lib.hid b1
 clear b1
 refine (hterm.out ah (by omega) w1 x1).mono ?_; rintro e w2 ⟨rfl, rfl⟩
 go_wp2_with fail
 go_loopw [8, 9] (fun v i wr => ∃ k : Nat, i = .int .i64 ((ah + 1 + k : Nat) : Int) ∧ k ≤ 8 ∧ Hid (Own wr 5 1 v (bytesV (entsB ((N.log.drop ah).take k)))) ∧ Fresh w1 v ∧ Ext NoB w1 wr) (fun _ i _ => ah + 9 - (intOf i).toNat)
 case atStart => exact ⟨0, by go_num, by omega, Lib.hid (Own.nil _ _ _), Fresh.nil _ _ _, Ext.refl _ _⟩
 case round =>
  obtain ⟨k, rfl, hk, HO, hfr, hx⟩ := hrel
  have hown := HO.out
  obtain ⟨va, vc, rfl, hv1, hv2⟩ := RdB.shape (l := entsB ((N.log.drop ah).take k)) hown.rd
  have xr := x1.trans hx
  by_cases hgo : ah + 1 + k ≤ N.log.length ∧ k < 8
  ·obtain ⟨hg1, hg2⟩ := hgo
   obtain ⟨⟨et, ed⟩, hent⟩ : ∃ e, N.log[ah + k]? = some e := ⟨_, List.getElem?_eq_getElem (by omega)⟩
   have Hsn := Lib.hid (take_drop_snoc N.log ah k (et, ed) hent)
   obtain ⟨het, hed⟩ := Hok.out (et, ed) (List.mem_of_getElem? hent)
   have Hent := Lib.hid (hentry.out (ah + 1 + k) et ed (by omega) (by rw [show ah + 1 + k - 1 = ah + k by omega]; exact hent) _ xr)
   have hlen : (entsB ((N.log.drop ah).take k)).length ≤ 8000160 := by
    have h1 := entsB_len ((N.log.drop ah).take k) (fun e he => Hok.out e (List.mem_of_mem_drop (List.mem_of_mem_take he)))
    have h2 : ((N.log.drop ah).take k).length ≤ k := List.length_take_le _ _
    omega
   have Hlen := Lib.hid hlen
   clear hlen
   obtain ⟨l0, hl0⟩ : ∃ l0, entsB ((N.log.drop ah).take k) = l0 := ⟨_, rfl⟩
   rw [hl0] at hown hv1 Hlen hfr ⊢
   have Hl0 := Lib.hid hl0
   have Hown := Lib.hid hown
   have Hfr := Lib.hid hfr
   have Hx := Lib.hid hx
   have Hxr := Lib.hid xr
   have hg3 : ((ah + 1 + k : Nat) : Int) ≤ (N.log.length : Int) := by omega
   have hg4 : ((ah + 1 + k : Nat) : Int) ≤ (ah : Int) + 8 := by omega
   have Hll := Lib.hid hlast
   clear hown hfr hx hl0 HO hent hv1
   go_wp2_with fail
   refine (hlast.out _ Hxr.out).mono ?_; rintro e w2 ⟨rfl, rfl⟩
   go_wp2_with fail
   refine Hent.out.mono ?_; rintro e w2 ⟨dv, rfl, od, fd, x2⟩
   obtain ⟨da, dc, rfl, hd1, hd2⟩ := RdB.shape (l := ed) od.rd
   have Hod := Lib.hid od
   have Hfd := Lib.hid fd
   have Hx2 := Lib.hid x2
   have HUt := Lib.hid (fun w' => Uvarint_any et (Lib.hid (by unfold U64; omega)) w')
   have HUd := Lib.hid (fun w' => Uvarint_any ed.length (Lib.hid (by unfold U64; omega)) w')
   have hu1 := uv_length et
   have hu2 := uv_length ed.length
   have hwE : IntKind.u64.wrap (et : Int) = (et : Int) := by rw [IntKind.wrap_u64]; omega
   have hwD : IntKind.u64.wrap (ed.length : Int) = (ed.length : Int) := by rw [IntKind.wrap_u64]; omega
   have Hsz := Lib.hid (And.intro hu1 hu2)
   clear od fd x2 hu1 hu2
   go_wp2_with fail
   obtain ⟨w3, E, q1, q2, x3, b3, hs3⟩ := alloc_facts w2 (.cells #[.int .i64 et, .slice da ed.length dc] 50)
   rw [q1, q2]
   have e30 : w3.cell? ⟨E, 0, none⟩ = some (.int .i64 et) := by rw [cell_of_blk b3]; rfl
   have e31 : w3.cell? ⟨E, 1, none⟩ = some (.slice da ed.length dc) := by rw [cell_of_blk b3]; rfl
   have Hq2 := Lib.hid q2
   have Hb3 := Lib.hid b3
   clear q1 q2 b3
   refine (HUt.out w3).mono ?_; rintro e w4 ⟨s4, rfl, o4, f4, x4⟩
   obtain ⟨a4, k4, rfl, hn4, hk4⟩ := RdB.shape (l := uv et) o4.rd
   have y24 := x3.trans x4
   have y4 := Hx2.out.trans y24
   have hb5 : ((bytesV l0).length + (bytesV (uv et)).length) * 1 ≤ 140737488355328 := by have h1 := Hsz.out; have h2 := Hlen.out; simp only [bytesV_length]; omega
   have Ho4 := Lib.hid o4
   have Hown4 := Lib.hid (Hown.out.no y4)
   have Hb5 := Lib.hid hb5
   have e41 := x4.cell e31 (fun h => h)
   clear o4 f4 hn4 hk4 hb5 e31 e30
   go_wp2_with (at_builtin; refine wpList_app _ rfl (.tmp 41) (.tmp 45) 35 35 rfl 5 1 1 unBytes elByte Hown4.out (Rd.src unBytes Ho4.out.rd (bytesV_one _) (by decide)) rfl rfl Hb5.out (by decide) ?_; intro v5 w5 o5 x5 h5; refine halt2 (fun _K HK => ?_))
   rw [← bytesV_append] at o5
   obtain ⟨l5, hl5⟩ : ∃ l5, l0 ++ uv et = l5 := ⟨_, rfl⟩
   rw [hl5] at o5
   have hl5n : l5.length ≤ 8000200 := by have h1 := Hsz.out; have h2 := Hlen.out; rw [← hl5, List.length_append]; omega
   obtain ⟨a5, k5, rfl, _, _⟩ := RdB.shape (l := l5) o5.rd
   have z1 := Hx2.out.size
   have z2 := x3.size
   have z3 := x4.size
   have hEq := Hq2.out
   have hvE : ∀ g, (Value.slice va l0.length vc).ownBlock = some g → g < wr.heap.size := fun g hg => Hown.out.lt g hg
   have e51 := x5.cell e41 (fun h => by have := hvE E h; omega)
   have od5 := ((Hod.out.no x3).no x4).ext x5 (fun g hg h => by have := hvE g h; have := Hfd.out g hg; omega)
   have hv5 : ∀ g, (Value.slice a5 l5.length k5).ownBlock = some g → g < wr.heap.size ∨ w4.heap.size ≤ g := fun g hg => by
    rcases h5 with h | ⟨g', h, h'⟩
    ·exact .inl (hvE g (h ▸ hg))
    ·replace h : (Value.slice a5 l5.length k5).ownBlock = some g' := h
     rw [h] at hg; cases hg; exact .inr h'
   have y15 : Ext NoB w1 w5 := Hfr.out.ext (Hx.out.trans y4) x5
   have f5 : Fresh w1 (.slice a5 l5.length k5) := Hfr.out.app (Hx.out.trans y4).size h5
   have Ho5 := Lib.hid o5
   have Hl5 := Lib.hid hl5
   have Hod5 := Lib.hid od5
   have Hv5 := Lib.hid hv5
   have Hy15 := Lib.hid y15
   have Hf5 := Lib.hid f5
   have Hz := Lib.hid (And.intro z1 (And.intro z2 (And.intro z3 hEq)))
   have Hx5 := Lib.hid x5
   have Hl5n := Lib.hid hl5n
   have Hx3 := Lib.hid x3
   have Hx4 := Lib.hid x4
   clear o5 x5 h5 hl5 od5 hv5 y15 f5 z1 z2 z3 hEq hvE e41 hl5n y24 y4 x3 x4 hs3
   refine HK.out ?_; clear HK _K
   go_wp2_with fail
   refine (HUd.out w5).mono ?_; rintro e w6 ⟨s6, rfl, o6, f6, x6⟩
   obtain ⟨a6, k6, rfl, hn6, hk6⟩ := RdB.shape (l := uv ed.length) o6.rd
   have hb7 : ((bytesV l5).length + (bytesV (uv ed.length)).length) * 1 ≤ 140737488355328 := by have h1 := Hsz.out; have h2 := Hl5n.out; simp only [bytesV_length]; omega
   have Ho6 := Lib.hid o6
   have Hown6 := Lib.hid (Ho5.out.no x6)
   have Hb7 := Lib.hid hb7
   have e61 := x6.cell e51 (fun h => h)
   clear o6 f6 hn6 hk6 hb7 e51
   go_wp2_with (at_builtin; refine wpList_app _ rfl (.tmp 47) (.tmp 52) 35 35 rfl 5 1 1 unBytes elByte Hown6.out (Rd.src unBytes Ho6.out.rd (bytesV_one _) (by decide)) rfl rfl Hb7.out (by decide) ?_; intro v7 w7 o7 x7 h7; refine halt2 (fun _K HK => ?_))
   rw [← bytesV_append] at o7
   obtain ⟨l7, hl7⟩ : ∃ l7, l5 ++ uv ed.length = l7 := ⟨_, rfl⟩
   rw [hl7] at o7
   have hl7n : l7.length ≤ 8000300 := by have h1 := Hsz.out; have h2 := Hl5n.out; rw [← hl7, List.length_append]; omega
   obtain ⟨a7, k7, rfl, _, _⟩ := RdB.shape (l := l7) o7.rd
   obtain ⟨z1, z2, z3, hEq⟩ := Hz.out
   have z5 := Hx5.out.size
   have z6 := x6.size
   have hdl := Hod.out.lt
   have hEl := lt_of_blk Hb3.out
   have e71 := x7.cell e61 (fun h => by have := Hv5.out E h; omega)
   have od7 := (Hod5.out.no x6).ext x7 (fun g hg h => by have := Hv5.out g h; have := Hfd.out g hg; have := hdl g hg; omega)
   have hv7 : ∀ g, (Value.slice a7 l7.length k7).ownBlock = some g → g < wr.heap.size ∨ w4.heap.size ≤ g := fun g hg => by
    rcases h7 with h | ⟨g', h, h'⟩
    ·exact Hv5.out g (h ▸ hg)
    ·replace h : (Value.slice a7 l7.length k7).ownBlock = some g' := h
     rw [h] at hg; cases hg; exact .inr (by omega)
   have y17 : Ext NoB w1 w7 := Hf5.out.ext (Hy15.out.trans x6) x7
   have f7 : Fresh w1 (.slice a7 l7.length k7) := Hf5.out.app (Hy15.out.trans x6).size h7
   have hb8 : ((bytesV l7).length + (bytesV ed).length) * 1 ≤ 140737488355328 := by simp only [bytesV_length]; omega
   have Ho7 := Lib.hid o7
   have Hl7 := Lib.hid hl7
   have Hod7 := Lib.hid od7
   have Hy17 := Lib.hid y17
   have Hf7 := Lib.hid f7
   have Hb8 := Lib.hid hb8
   clear o7 x7 h7 hl7 od7 hv7 y17 f7 z1 z2 z3 z5 z6 hEq hdl hEl e61 hl7n hb8 x6
   refine HK.out ?_; clear HK _K
   go_wp2_with (at_builtin; refine wpList_app _ rfl (.tmp 54) (.tmp 56) 35 35 rfl 5 1 1 unBytes elByte Ho7.out (Rd.src unBytes Hod7.out.rd (bytesV_one _) (by decide)) rfl rfl Hb8.out (by decide) ?_; intro v8 w8 o8 x8 h8; refine halt2 (fun _K HK => ?_))
   rw [← bytesV_append] at o8
   have hnew : Own w8 5 1 v8 (bytesV (entsB ((N.log.drop ah).take (k + 1)))) := by
    rw [Hsn.out, entsB_snoc, Hl0.out]
    show Own w8 _ 1 v8 (bytesV (((l0 ++ uv et) ++ uv ed.length) ++ ed))
    rw [Hl5.out, Hl7.out]
    exact o8
   have y18 : Ext NoB w1 w8 := Hf7.out.ext Hy17.out x8
   have f8 : Fresh w1 v8 := Hf7.out.app Hy17.out.size h8
   obtain ⟨a8, n8, k8, rfl, _⟩ := o8.rd
   have Hnew := Lib.hid hnew
   have Hy18 := Lib.hid y18
   have Hf8 := Lib.hid f8
   clear hnew y18 f8 o8 x8 h8 e71
   refine HK.out ?_; clear HK _K
   go_wp2_with fail
   go_roundw
   case rel => exact ⟨k + 1, by go_num, by omega, Hnew, Hf8.out, Hy18.out⟩
   case measure => simp [intOf]; omega
  ·have hdone : (N.log.drop ah).take k = (N.log.drop ah).take 8 := by
    by_cases hk8 : k = 8
    ·rw [hk8]
    ·rw [List.take_of_length_le (by simp; omega), List.take_of_length_le (by simp; omega)]
   have Hsnd : Hid ((sendMsg N t).data = entsB ((N.log.drop ah).take k)) := Lib.hid (by show entsB ((N.log.drop (N.ahead t)).take 8) = _; rw [Hah.out, hdone])
   obtain ⟨l0, hl0⟩ : ∃ l0, entsB ((N.log.drop ah).take k) = l0 := ⟨_, rfl⟩
   rw [hl0] at hown hv1 Hsnd ⊢
   obtain ⟨tma, htma⟩ : ∃ tma, N.termOf ah = tma := ⟨_, rfl⟩
   have Htma := Lib.hid htma
   have Hown := Lib.hid hown
   have Hxr := Lib.hid xr
   have Hx := Lib.hid hx
   have d0 := xr.cell c0 (fun h => h)
   have d5 := xr.cell c5 (fun h => h)
   have d9 := xr.cell c9 (fun h => h)
   rw [htma]
   clear hown hfr hl0 HO hdone hv1 hx htma
   go_wp2_with fail
   refine (hlast.out _ Hxr.out).mono ?_; rintro e w2 ⟨rfl, rfl⟩
   go_wp2_with fail
   all_goals
    refine wp_region_N (fun w' => w'.cell? ⟨r, 5, none⟩ = some (.int .i64 N.term) ∧ w'.cell? ⟨r, 9, none⟩ = some (.int .i64 N.committed)) 15 (by kernel_rfl) ?_
    have hSd : wr.drew.cell? ⟨r, 5, none⟩ = some (.int .i64 N.term) ∧ wr.drew.cell? ⟨r, 9, none⟩ = some (.int .i64 N.committed) := ⟨d5, d9⟩
    have xD : Ext NoB wr wr.drew := (Ext.refl _ wr).drew
    generalize wr.drew = wd at hSd xD ⊢
    refine wpAnyN_free 0 (v := ?_) (by kernel_rfl) rfl (fun _ _ _ h => h) hSd (by rfl) ?_ ?_; rotate_left; (focus (intro w; go_simp; try with_reducible rfl)); (try simp only [Act.put]); (try simp only [List.setIfInBounds_toArray, List.set_cons_zero, List.set_cons_succ])
    refine wpAnyN_free 1 (v := ?_) (by kernel_rfl) rfl (fun _ _ _ h => h) hSd (by rfl) ?_ ?_; rotate_left; (focus (intro w; go_simp; try with_reducible rfl)); (try simp only [Act.put]); (try simp only [List.setIfInBounds_toArray, List.set_cons_zero, List.set_cons_succ])
    refine wpAnyN_free 2 (v := ?_) (by kernel_rfl) rfl (fun _ _ _ h => h) hSd (by rfl) ?_ ?_; rotate_left; (focus (intro w; go_simp; try with_reducible rfl)); (try simp only [Act.put]); (try simp only [List.setIfInBounds_toArray, List.set_cons_zero, List.set_cons_succ])
    refine wpAnyN_free 3 (v := ?_) (by kernel_rfl) rfl (fun _ _ _ h => h) hSd (by rfl) ?_ ?_; rotate_left; (focus (intro w; go_simp; try with_reducible rfl)); (try simp only [Act.put]); (try simp only [List.setIfInBounds_toArray, List.set_cons_zero, List.set_cons_succ])
    refine wpAnyN_free 4 (v := ?_) (by kernel_rfl) rfl (fun _ _ _ h => h) hSd (by rfl) ?_ ?_; rotate_left; (focus (intro w; go_simp; try with_reducible rfl)); (try simp only [Act.put]); (try simp only [List.setIfInBounds_toArray, List.set_cons_zero, List.set_cons_succ])
    refine wpAnyN_free 5 (v := ?_) (by kernel_rfl) rfl (fun _ _ _ h => h) hSd (by rfl) ?_ ?_; rotate_left; (focus (intro w; go_simp; try with_reducible rfl)); (try simp only [Act.put]); (try simp only [List.setIfInBounds_toArray, List.set_cons_zero, List.set_cons_succ])
    refine wpAnyN_take 6 (v := ?_) (by kernel_rfl) rfl (fun _ _ _ h => h) hSd (by rfl) ?_ ?_; rotate_left; (focus (intro w hSw; (try dsimp only at hSw); go_simp; try with_reducible rfl)); (try simp only [Act.put]); (try simp only [List.setIfInBounds_toArray, List.set_cons_zero, List.set_cons_succ])
    refine wpAnyN_free 7 (v := ?_) (by kernel_rfl) rfl (fun _ _ _ h => h) hSd (by rfl) ?_ ?_; rotate_left; (focus (intro w; go_simp; try with_reducible rfl)); (try simp only [Act.put]); (try simp only [List.setIfInBounds_toArray, List.set_cons_zero, List.set_cons_succ])
    refine wpAnyN_free 8 (v := ?_) (by kernel_rfl) rfl (fun _ _ _ h => h) hSd (by rfl) ?_ ?_; rotate_left; (focus (intro w; go_simp; try with_reducible rfl)); (try simp only [Act.put]); (try simp only [List.setIfInBounds_toArray, List.set_cons_zero, List.set_cons_succ])
    refine wpAnyN_free 9 (v := ?_) (by kernel_rfl) rfl (fun _ _ _ h => h) hSd (by rfl) ?_ ?_; rotate_left; (focus (intro w; go_simp; try with_reducible rfl)); (try simp only [Act.put]); (try simp only [List.setIfInBounds_toArray, List.set_cons_zero, List.set_cons_succ])
    refine wpAnyN_free 10 (v := ?_) (by kernel_rfl) rfl (fun _ _ _ h => h) hSd (by rfl) ?_ ?_; rotate_left; (focus (intro w; go_simp; try with_reducible rfl)); (try simp only [Act.put]); (try simp only [List.setIfInBounds_toArray, List.set_cons_zero, List.set_cons_succ])
    refine wpAnyN_free 11 (v := ?_) (by kernel_rfl) rfl (fun _ _ _ h => h) hSd (by rfl) ?_ ?_; rotate_left; (focus (intro w; go_simp; try with_reducible rfl)); (try simp only [Act.put]); (try simp only [List.setIfInBounds_toArray, List.set_cons_zero, List.set_cons_succ])
    refine wpAnyN_take 12 (v := ?_) (by kernel_rfl) rfl (fun _ _ _ h => h) hSd (by rfl) ?_ ?_; rotate_left; (focus (intro w hSw; (try dsimp only at hSw); go_simp; try with_reducible rfl)); (try simp only [Act.put]); (try simp only [List.setIfInBounds_toArray, List.set_cons_zero, List.set_cons_succ])
    refine wpAnyN_one 13 (by kernel_rfl) (by simp only [List.getElem?_toArray, List.getElem?_cons_succ, List.getElem?_cons_zero] <;> rfl) (by rfl) (fun K hK => ?_)
    go_simp
    obtain ⟨w3, B, e3, e4, x3, b3, hs3⟩ := alloc_facts wd (.cells #[.int .i64 N.term, .int .i64 ah, .int .i64 tma, .int .i64 N.committed] 3)
    rw [e3, e4]
    have hSd3 := And.intro (x3.cell hSd.1 (fun h => h)) (x3.cell hSd.2 (fun h => h))
    refine hK.out _ _ hSd3 (fun hSd => ?_)
    clear hK K hSd
    have hSd := hSd3
    (try simp only [Act.put]); (try simp only [List.setIfInBounds_toArray, List.set_cons_zero, List.set_cons_succ])
    refine wpAnyN_one 14 (by kernel_rfl) (by simp only [List.getElem?_toArray, List.getElem?_cons_succ, List.getElem?_cons_zero] <;> rfl) (by rfl) (fun K hK => ?_)
    go_simp
    have y3 : Ext NoB w w3 := (Hxr.out.trans xD).trans x3
    refine (msg_any r N.id t 3 va (some ⟨B, 0, none⟩) l0.length vc 4 4 w3 (y3.cell c0 (fun h => h))).mono ?_; rintro e w4 ⟨rfl, x4⟩
    have hSd4 := And.intro (x4.cell hSd.1 (fun h => h)) (x4.cell hSd.2 (fun h => h))
    unfold msgV
    go_wp2_with fail
    refine hK.out _ _ hSd4 (fun hSd => ?_)
    clear hK K hSd hSd4 hSd3
    (try simp only [Act.put]); (try simp only [List.setIfInBounds_toArray, List.set_cons_zero, List.set_cons_succ])
    refine wpAnyN_tail (by rfl) (by decide) (by kernel_rfl) (by kernel_rfl) ?_
    simp only [List.drop_succ_cons, List.drop_zero]
    have hxo := (Hx.out.trans xD).trans (x3.trans x4)
    have bR : w4.heap[R]? = some (.cells #[.int .i64 0, .int .i64 0, .int .i64 0, .slice none 0 0, .slice none 0 0] 37 (0, 0)) := hxo.blk Hb1.out (fun h => h)
    have r0 : w4.cell? ⟨R, 0, none⟩ = some (.int .i64 0) := by rw [cell_of_blk bR]; rfl
    have r1 : w4.cell? ⟨R, 1, none⟩ = some (.int .i64 0) := by rw [cell_of_blk bR]; rfl
    have r2 : w4.cell? ⟨R, 2, none⟩ = some (.int .i64 0) := by rw [cell_of_blk bR]; rfl
    have r3 : w4.cell? ⟨R, 3, none⟩ = some (.slice none 0 0) := by rw [cell_of_blk bR]; rfl
    have r4 : w4.cell? ⟨R, 4, none⟩ = some (.slice none 0 0) := by rw [cell_of_blk bR]; rfl
    have q0 : ∀ o, w4.frozen? ⟨R, o, none⟩ = false := fun o => frozen_of_blk bR o
    have HbR := Lib.hid bR
    have y4 := Lib.hid (y3.trans x4)
    have o4 := Lib.hid (((Hown.out.no xD).no x3).no x4)
    have b4 := Lib.hid (x4.blk b3 (fun h => h))
    have hRB : R ≠ B := by have := (Hx.out.trans xD).size; omega
    clear bR hxo y3 b3
    go_wp2_with fail
    have bR := HbR.out
    have kR := blk_setCell (blk_setCell (blk_setCell (blk_setCell (blk_setCell bR 0 (.int .i64 N.id)) 1 (.int .i64 t)) 2 (.int .i64 3)) 3 (.slice (some ⟨B, 0, none⟩) 4 4)) 4 (.slice va l0.length vc)
    have xS : Ext (fun b => b = R) w4 (((((w4.setCell ⟨R, 0, none⟩ (.int .i64 N.id)).setCell ⟨R, 1, none⟩ (.int .i64 t)).setCell ⟨R, 2, none⟩ (.int .i64 3)).setCell ⟨R, 3, none⟩ (.slice (some ⟨B, 0, none⟩) 4 4)).setCell ⟨R, 4, none⟩ (.slice va l0.length vc)) := (((((Ext.refl (fun b => b = R) w4).setCell (p := ⟨R, 0, none⟩) (.inl rfl) _).setCell (p := ⟨R, 1, none⟩) (.inl rfl) _).setCell (p := ⟨R, 2, none⟩) (.inl rfl) _).setCell (p := ⟨R, 3, none⟩) (.inl rfl) _).setCell (p := ⟨R, 4, none⟩) (.inl rfl) _
    generalize (((((w4.setCell ⟨R, 0, none⟩ (.int .i64 N.id)).setCell ⟨R, 1, none⟩ (.int .i64 t)).setCell ⟨R, 2, none⟩ (.int .i64 3)).setCell ⟨R, 3, none⟩ (.slice (some ⟨B, 0, none⟩) 4 4)).setCell ⟨R, 4, none⟩ (.slice va l0.length vc)) = wF at kR xS ⊢
    have b3F := xS.blk b4.out (fun h => hRB h.symm)
    have oF := o4.out.ext xS (fun g hg h => o4.out.ne_blk bR (by decide) g hg h.symm)
    have xF : Ext NoB w wF := by
     refine y4.out.trans' xS (fun _ _ h => h) (fun b hb h => ?_)
     subst h
     omega
    refine bodyPost_ret (results_cell_row rfl _ _ R _ #[.int .i64 N.id, .int .i64 t, .int .i64 3, .slice (some ⟨B, 0, none⟩) 4 4, .slice va l0.length vc] _ _ rfl kR Tryz.underlying37 rfl (by kernel_rfl)) rfl ⟨[.int .i64 N.id, .int .i64 t, .int .i64 3, .slice (some ⟨B, 0, none⟩) 4 4, .slice va l0.length vc], rfl, xF, _, _, rfl, ?_, ?_⟩
    ·refine .inr ⟨B, 4, 4, _, rfl, b3F, Nat.le_refl _, Nat.le_refl _, by unfold maxLen; omega, rfl, ?_⟩
     show _ = intsV [(N.term : Int), (N.ahead t : Int), (N.termOf (N.ahead t) : Int), (N.committed : Int)]
     rw [Hah.out, Htma.out]
     rfl
    ·rw [Hsnd.out]; exact oF
end Go.Proofs.YtgglbholbkdgfaaGreatDoor
namespace Go.Proofs.YtgglbholbkdgfaaGreatDoor
open Go.RowKit
def LayOk (log : List (Nat × List UInt8)) (room t : Nat) (x : List UInt8) : Prop :=
 ∀ (r d : Nat) (F : Nat → Prop) (N : PNode) (saved : Bool) (dv : Value) (w : World), RaftIs w r d F N room saved → N.log = log → RdB w dv x → Off F dv →
  Calls Tryz.prog 55 #[.pointer (some ⟨r, 0, none⟩), .agg #[.int .i64 t, dv]] w fun e w' => e = .returned (.bool true) ∧ Ext F w w' ∧ RaftIs w' r d (Gr F w w') { N with log := log ++ [(t, x)] } room saved
def PNode.knows (N : PNode) (k : Nat) : PNode := { N with role := 2, leader := N.id, wait := 3, next := fun i => if i < k then N.log.length + 1 else N.next i, mt := fun i => if i < k then 0 else N.mt i }
def PNode.lays (N : PNode) (e : Nat × List UInt8) : PNode := { N with log := N.log ++ [e] }
def PNode.wins (N : PNode) : PNode := ((N.knows N.n).lays (N.term, [])).commits
theorem knows_set (N : PNode) (d L : Nat) (tv : Value) (k : Nat) (hk : k < 5) :
  ((nodeArr (N.knows k) d L tv).setIfInBounds (13 + k) (.int .i64 ((N.log.length : Int) + 1))).setIfInBounds (18 + k) (.int .i64 0) = nodeArr (N.knows (k + 1)) d L tv := by
 match k, hk with
 | 0, _ => rfl
 | 1, _ => rfl
 | 2, _ => rfl
 | 3, _ => rfl
 | 4, _ => rfl
set_option maxRecDepth 100000 in
set_option maxHeartbeats 4000000 in
theorem wins_any (r d : Nat) (F : Nat → Prop) (N : PNode) (room : Nat) (saved : Bool) (w : World) (h : RaftIs w r d F N room saved) (hlay : LayOk N.log room N.term []) (hok : N.Ok) :
  Calls Tryz.prog 81 #[.pointer (some ⟨r, 0, none⟩)] w fun e w' => ∃ v, e = .returned v ∧ MsgsAre w' v ((tos N.n N.id).map (sendMsg N.wins)) ∧ Fresh w v ∧ Ext F w w' ∧ RaftIs w' r d (Gr F w w') N.wins room saved := by
 have H := Lib.hid h
 have hterm := h.term
 obtain ⟨D, ps, ⟨L, FD, FL, FR, tv, dl, hA, hF, hlt⟩, hrm, hperm⟩ := h.is
 have hl100 := hA.len
 have hi1 := hA.idn.1
 have hi2 := hA.idn.2
 have hcm := hA.comm
 have hb := hA.blk
 have c0 : w.cell? ⟨r, 0, none⟩ = some (.int .i64 N.id) := by rw [cell_of_blk hb]; rfl
 have c1 : w.cell? ⟨r, 1, none⟩ = some (.int .i64 N.n) := by rw [cell_of_blk hb]; rfl
 have c7 : w.cell? ⟨r, 7, none⟩ = some (.int .i64 N.role) := by rw [cell_of_blk hb]; rfl
 have c8 : w.cell? ⟨r, 8, none⟩ = some (.int .i64 N.leader) := by rw [cell_of_blk hb]; rfl
 have c11 : w.cell? ⟨r, 11, none⟩ = some (.int .i64 N.wait) := by rw [cell_of_blk hb]; rfl
 have f7 : w.frozen? ⟨r, 7, none⟩ = false := frozen_of_blk hb 7
 have f8 : w.frozen? ⟨r, 8, none⟩ = false := frozen_of_blk hb 8
 have f11 : w.frozen? ⟨r, 11, none⟩ = false := frozen_of_blk hb 11
 have HA := Lib.hid hA
 have HF := Lib.hid hF
 have Hlt := Lib.hid hlt
 have Hb := Lib.hid hb
 have Hrm := Lib.hid hrm
 have Hperm := Lib.hid hperm
 have Hlay := Lib.hid hlay
 clear h hA hb hF hlt hrm hperm hlay
 go_enter Tryz.func81, Tryz.ntmps81
 go_wp2_with fail
 have xw : Ext (fun b => b = r) w (((w.setCell ⟨r, 7, none⟩ (.int .i64 2)).setCell ⟨r, 8, none⟩ (.int .i64 N.id)).setCell ⟨r, 11, none⟩ (.int .i64 3)) := (((Ext.refl (fun b => b = r) w).setCell (p := ⟨r, 7, none⟩) (.inl rfl) _).setCell (p := ⟨r, 8, none⟩) (.inl rfl) _).setCell (p := ⟨r, 11, none⟩) (.inl rfl) _
 have bw : (((w.setCell ⟨r, 7, none⟩ (.int .i64 2)).setCell ⟨r, 8, none⟩ (.int .i64 N.id)).setCell ⟨r, 11, none⟩ (.int .i64 3)).heap[r]? = some (.cells (nodeArr (N.knows 0) d L tv) 92 (0, 0)) := (blk_setCell (blk_setCell (blk_setCell Hb.out 7 (.int .i64 2)) 8 (.int .i64 N.id)) 11 (.int .i64 3)).trans rfl
 generalize (((w.setCell ⟨r, 7, none⟩ (.int .i64 2)).setCell ⟨r, 8, none⟩ (.int .i64 N.id)).setCell ⟨r, 11, none⟩ (.int .i64 3)) = ws at xw bw ⊢
 have Hbw := Lib.hid bw
 clear bw c0 c1 c7 c8 c11 f7 f8 f11
 go_loopw [21] (fun i wr => ∃ k : Nat, i = .int .i64 k ∧ k ≤ N.n ∧ Hid (wr.heap[r]? = some (.cells (nodeArr (N.knows k) d L tv) 92 (0, 0))) ∧ Ext (fun b => b = r) w wr) (fun i _ => N.n - (intOf i).toNat)
 case atStart => exact ⟨0, rfl, Nat.zero_le _, Hbw, xw⟩
 case round =>
  obtain ⟨k, rfl, hk, HB, hx⟩ := hrel
  have hN : NodeIs wr r d F (N.knows k) D ps := ⟨L, FD, FL, FR, tv, dl, HA.out.set hx HB.out rfl ⟨hi1, hi2⟩ hcm, HF.out, fun b hb => Nat.lt_of_lt_of_le (Hlt.out b hb) hx.size⟩
  by_cases hkn : k < N.n
  ·have hlast := Lib.hid (fun (w' : World) (x : Ext NoB wr w') => rlast_any r d F (N.knows k) D ps w' (hN.no x))
   have hnl : (N.knows k).log.length = N.log.length := rfl
   rw [hnl] at hlast
   have hk5 : k < 5 := by omega
   have hk5i : (k : Int) < 5 := by omega
   clear hN hnl
   go_wp2_with fail
   refine wp_region_N (fun _ => True) 14 (by kernel_rfl) ?_
   have hSd : True := trivial
   have xD : Ext NoB wr wr.drew := (Ext.refl _ wr).drew
   have bD : wr.drew.heap[r]? = some (.cells (nodeArr (N.knows k) d L tv) 92 (0, 0)) := HB.out
   generalize wr.drew = wd at hSd xD bD ⊢
   refine wpAnyN_free 0 (v := ?_) (by kernel_rfl) rfl (fun _ _ _ h => h) hSd (by rfl) ?_ ?_; rotate_left; (focus (intro w; go_simp; try with_reducible rfl)); (try simp only [Act.put]); (try simp only [List.setIfInBounds_toArray, List.set_cons_zero, List.set_cons_succ])
   refine wpAnyN_free 1 (v := ?_) (by kernel_rfl) rfl (fun _ _ _ h => h) hSd (by rfl) ?_ ?_; rotate_left; (focus (intro w; go_simp; try with_reducible rfl)); (try simp only [Act.put]); (try simp only [List.setIfInBounds_toArray, List.set_cons_zero, List.set_cons_succ])
   refine wpAnyN_free 2 (v := ?_) (by kernel_rfl) rfl (fun _ _ _ h => h) hSd (by rfl) ?_ ?_; rotate_left; (focus (intro w; go_simp; try with_reducible rfl)); (try simp only [Act.put]); (try simp only [List.setIfInBounds_toArray, List.set_cons_zero, List.set_cons_succ])
   refine wpAnyN_free 3 (v := ?_) (by kernel_rfl) rfl (fun _ _ _ h => h) hSd (by rfl) ?_ ?_; rotate_left; (focus (intro w; go_simp; try with_reducible rfl)); (try simp only [Act.put]); (try simp only [List.setIfInBounds_toArray, List.set_cons_zero, List.set_cons_succ])
   refine wpAnyN_free 4 (v := ?_) (by kernel_rfl) rfl (fun _ _ _ h => h) hSd (by rfl) ?_ ?_; rotate_left; (focus (intro w; go_simp; try with_reducible rfl)); (try simp only [Act.put]); (try simp only [List.setIfInBounds_toArray, List.set_cons_zero, List.set_cons_succ])
   refine wpAnyN_free 7 (v := ?_) (by kernel_rfl) rfl (fun _ _ _ h => h) hSd (by rfl) ?_ ?_; rotate_left; (focus (intro w; go_simp; try with_reducible rfl)); (try simp only [Act.put]); (try simp only [List.setIfInBounds_toArray, List.set_cons_zero, List.set_cons_succ])
   refine wpAnyN_free 8 (v := ?_) (by kernel_rfl) rfl (fun _ _ _ h => h) hSd (by rfl) ?_ ?_; rotate_left; (focus (intro w; go_simp; try with_reducible rfl)); (try simp only [Act.put]); (try simp only [List.setIfInBounds_toArray, List.set_cons_zero, List.set_cons_succ])
   refine wpAnyN_free 11 (v := ?_) (by kernel_rfl) rfl (fun _ _ _ h => h) hSd (by rfl) ?_ ?_; rotate_left; (focus (intro w; go_simp; try with_reducible rfl)); (try simp only [Act.put]); (try simp only [List.setIfInBounds_toArray, List.set_cons_zero, List.set_cons_succ])
   refine wpAnyN_free 12 (v := ?_) (by kernel_rfl) rfl (fun _ _ _ h => h) hSd (by rfl) ?_ ?_; rotate_left; (focus (intro w; go_simp; try with_reducible rfl)); (try simp only [Act.put]); (try simp only [List.setIfInBounds_toArray, List.set_cons_zero, List.set_cons_succ])
   refine wpAnyN_one 5 (by kernel_rfl) (by simp only [List.getElem?_toArray, List.getElem?_cons_succ, List.getElem?_cons_zero] <;> rfl) (by rfl) (fun K hK => ?_)
   go_simp
   refine (hlast.out wd xD).mono ?_; rintro e w2 ⟨rfl, rfl⟩
   go_wp2_with fail
   refine hK.out _ _ trivial (fun hSd => ?_)
   clear hK K
   (try simp only [Act.put]); (try simp only [List.setIfInBounds_toArray, List.set_cons_zero, List.set_cons_succ])
   refine wpAnyN_free 6 (v := ?_) (by kernel_rfl) rfl (fun _ _ _ h => h) hSd (by rfl) ?_ ?_; rotate_left; (focus (intro w; go_simp; try with_reducible rfl)); (try simp only [Act.put]); (try simp only [List.setIfInBounds_toArray, List.set_cons_zero, List.set_cons_succ])
   refine wpAnyN_free 9 (v := ?_) (by kernel_rfl) rfl (fun _ _ _ h => h) hSd (by rfl) ?_ ?_; rotate_left; (focus (intro w; go_simp; try with_reducible rfl)); (try simp only [Act.put]); (try simp only [List.setIfInBounds_toArray, List.set_cons_zero, List.set_cons_succ])
   have hwl : IntKind.i64.wrap ((N.log.length : Int) + 1) = ((N.log.length + 1 : Nat) : Int) := by rw [IntWalk.i64_in _ (by omega)]; omega
   have d13 : wd.cell? ⟨r, 13 + k, none⟩ = some (.int .i64 ((N.knows k).next k)) := by
    rw [cell_of_blk bD]
    match k, hk5 with
    | 0, _ => rfl
    | 1, _ => rfl
    | 2, _ => rfl
    | 3, _ => rfl
    | 4, _ => rfl
   have f13 : wd.frozen? ⟨r, 13 + k, none⟩ = false := frozen_of_blk bD _
   refine wpAnyN_one 10 (by kernel_rfl) (by simp only [List.getElem?_toArray, List.getElem?_cons_succ, List.getElem?_cons_zero] <;> rfl) (by rfl) (fun K hK => ?_)
   go_simp
   have xs1 : Ext (fun b => b = r) wd (wd.setCell ⟨r, 13 + k, none⟩ (.int .i64 ((N.log.length : Int) + 1))) := (Ext.refl (fun b => b = r) wd).setCell (p := ⟨r, 13 + k, none⟩) (.inl rfl) _
   have b1 := blk_setCell bD (13 + k) (.int .i64 ((N.log.length : Int) + 1))
   have d18 : (wd.setCell ⟨r, 13 + k, none⟩ (.int .i64 ((N.log.length : Int) + 1))).cell? ⟨r, 18 + k, none⟩ = some (.int .i64 ((N.knows k).mt k)) := by
    rw [cell_of_blk b1]
    match k, hk5 with
    | 0, _ => rfl
    | 1, _ => rfl
    | 2, _ => rfl
    | 3, _ => rfl
    | 4, _ => rfl
   generalize (wd.setCell ⟨r, 13 + k, none⟩ (.int .i64 ((N.log.length : Int) + 1))) = we at xs1 b1 d18 ⊢
   refine hK.out _ _ trivial (fun hSd => ?_)
   clear hK K d13 f13
   (try simp only [Act.put]); (try simp only [List.setIfInBounds_toArray, List.set_cons_zero, List.set_cons_succ])
   refine wpAnyN_free 13 (v := ?_) (by kernel_rfl) rfl (fun _ _ _ h => h) hSd (by rfl) ?_ ?_; rotate_left; (focus (intro w; go_simp; try with_reducible rfl)); (try simp only [Act.put]); (try simp only [List.setIfInBounds_toArray, List.set_cons_zero, List.set_cons_succ])
   refine wpAnyN_tail (by rfl) (by decide) (by kernel_rfl) (by kernel_rfl) ?_
   simp only [List.drop_succ_cons, List.drop_zero]
   have f18 : we.frozen? ⟨r, 18 + k, none⟩ = false := frozen_of_blk b1 _
   have Hb1 := Lib.hid b1
   clear bD b1
   go_wp2_with fail
   have b2 := blk_setCell Hb1.out (18 + k) (.int .i64 0)
   rw [knows_set N d L tv k hk5] at b2
   have xs2 : Ext (fun b => b = r) we (we.setCell ⟨r, 18 + k, none⟩ (.int .i64 0)) := (Ext.refl (fun b => b = r) we).setCell (p := ⟨r, 18 + k, none⟩) (.inl rfl) _
   refine ⟨⟨k + 1, by go_num, by omega, Lib.hid b2, ((hx.trans (xD.of_no)).trans xs1).trans xs2⟩, by simp [intOf]; omega⟩
  ·obtain rfl : k = N.n := by omega
   have c5 : wr.cell? ⟨r, 5, none⟩ = some (.int .i64 N.term) := by rw [cell_of_blk HB.out]; rfl
   go_wp2_with fail
   have xF : Ext F w wr := hx.mono (fun b _ h => HF.out b (.inr (.inr (h ▸ HA.out.self))))
   have hR : RaftIs wr r d F (N.knows N.n) room saved := ⟨⟨D, ps, hN, Hrm.out, Hperm.out⟩, H.out.fresh, H.out.vote, H.out.term⟩
   refine (Hlay.out r d F (N.knows N.n) saved _ wr hR rfl (Rd.nil _ _) (fun g hg => by cases hg)).mono ?_; rintro e w2 ⟨rfl, x2, r2⟩
   obtain ⟨N2, hN2⟩ : ∃ N2, ({ (N.knows N.n) with log := N.log ++ [(N.term, [])] } : PNode) = N2 := ⟨_, rfl⟩
   rw [hN2] at r2
   have Hr2 := Lib.hid r2
   have HN2 := Lib.hid hN2
   have Hx2 := Lib.hid x2
   have HxF := Lib.hid xF
   clear r2 hN2 x2 hN hR c5 xF
   go_wp2_with fail
   obtain ⟨D2, ps2, hn2, hrm2, hperm2⟩ := Hr2.out.is
   refine (commits_any r d _ N2 D2 ps2 w2 hn2).mono ?_; rintro e w3 ⟨rfl, x3, n3⟩
   have hwins : N.wins = N2.commits := by rw [← HN2.out]; rfl
   have hmf : ∀ (fn : Fn) (first cap : Array Value) (w : World), (Instr.makeFunc fn first cap).run Tryz.prog w = .ok (.func fn first cap) w := fun _ _ _ _ => rfl
   have Hn3 := Lib.hid n3
   have Hx3 := Lib.hid x3
   have Hwins := Lib.hid hwins
   have Hhp := Lib.hid (And.intro hrm2 hperm2)
   clear n3 x3 hwins hn2 hrm2 hperm2
   go_wp2_with fail
   have hid2 : N2.commits.id = N.id := by rw [← HN2.out]; rfl
   have hnn2 : N2.commits.n = N.n := by rw [← HN2.out]; rfl
   have hok2 : N2.commits.Ok := by
    have e : N2.commits.log = N.log ++ [(N.term, [])] := by rw [← HN2.out]; rfl
    intro x hx
    rw [e, List.mem_append, List.mem_singleton] at hx
    rcases hx with hx | hx
    ·exact hok x hx
    ·subst hx; exact ⟨hterm, Nat.zero_le _⟩
   have hnx2 : ∀ t, t < N.n → 1 ≤ N2.commits.next t ∧ N2.commits.next t ≤ 1099511627776 := by
    intro t ht
    have e : N2.commits.next t = if t < N.n then N.log.length + 1 else N.next t := by rw [← HN2.out]; rfl
    rw [e, if_pos ht]; omega
   have hoth := others_send r d _ N2.commits D2 ps2 w3 Hn3.out (sendMsg N2.commits) (fun t w1 ht _ x => sends_any r d _ N2.commits D2 ps2 t w1 (Hn3.out.no x) hok2 (by omega) (hnx2 t (by omega)))
   rw [hid2, hnn2] at hoth
   refine hoth.mono ?_; rintro e w4 ⟨v, rfl, hm4, hf4, x4⟩
   have Hm4 := Lib.hid hm4
   have Hf4 := Lib.hid hf4
   have Hx4 := Lib.hid x4
   clear hm4 hf4 x4 hoth hok2 hnx2 hid2 hnn2
   go_wp2_with fail
   go_ret
   have hn4 := Hn3.out.no Hx4.out
   have s0 := HxF.out.size
   have s2 := Hx2.out.size
   have s3 := Hx3.out.size
   have s4 := Hx4.out.size
   have x3F : Ext F w w3 := ((HxF.out).trans' Hx2.out (fun _ _ h => h) (fun b _ h => h)).next Hx3.out (fun b h hb => h.elim (fun h => h) (fun h => by omega))
   rw [Hwins.out]
   refine ⟨v, rfl, Hm4.out, fun g hg => by have := Hf4.out g hg; omega, x3F.nextNo Hx4.out, ?_⟩
   obtain ⟨L8, FD8, FL8, FR8, tv8, dl8, k1, k2, k3⟩ := hn4
   refine ⟨⟨D2, ps2, ⟨L8, FD8, FL8, FR8, tv8, dl8, k1, fun b hb => ?_, fun b hb => ?_⟩, Hhp.out.1, ?_⟩, ?_, ?_, ?_⟩
   ·rcases k2 b hb with h | h
    ·exact .inl h
    ·exact .inr (by omega)
   ·rcases hb with hb | hb
    ·exact k3 b (.inl hb)
    ·exact hb.2
   ·exact Hhp.out.2
   ·exact Hr2.out.fresh
   ·exact Hr2.out.vote
   ·exact Hr2.out.term
end Go.Proofs.YtgglbholbkdgfaaGreatDoor
namespace Go.Proofs.YtgglbholbkdgfaaGreatDoor
open Go.RowKit
theorem RaftIs.wide {w : World} {r d : Nat} {F G : Nat → Prop} {N : PNode} {room : Nat} {saved : Bool} (h : RaftIs w r d F N room saved) (hG : ∀ b, F b → G b) (hl : ∀ b, G b → b < w.heap.size) : RaftIs w r d G N room saved := by
 obtain ⟨D, ps, ⟨L, FD, FL, FR, tv, dl, h1, h2, h3⟩, h4, h5⟩ := h.is
 exact ⟨⟨D, ps, ⟨L, FD, FL, FR, tv, dl, h1, fun b hb => hG b (h2 b hb), hl⟩, h4, h5⟩, h.fresh, h.vote, h.term⟩
theorem RaftIs.lt {w : World} {r d : Nat} {F : Nat → Prop} {N : PNode} {room : Nat} {saved : Bool} (h : RaftIs w r d F N room saved) : ∀ b, F b → b < w.heap.size := by
 obtain ⟨D, ps, ⟨L, FD, FL, FR, tv, dl, h1, h2, h3⟩, h4, h5⟩ := h.is
 exact h3
set_option maxRecDepth 100000 in
set_option maxHeartbeats 4000000 in
theorem stands_alone (r d : Nat) (F : Nat → Prop) (N : PNode) (room : Nat) (saved : Bool) (draw : Int) (w : World) (h : RaftIs w r d F N room saved) (hn : N.n = 1) (ht : N.term + 1 ≤ 1099511627776) (hroom : N.bytes + 100 ≤ room) (hlay : LayOk N.log room (N.term + 1) []) (hok : N.Ok) :
  Calls Tryz.prog 44 #[.pointer (some ⟨r, 0, none⟩), .int .i64 draw] w fun e w' => ∃ v, e = .returned v ∧ MsgsAre w' v ((tos N.n N.id).map (sendMsg (N.asks draw).wins)) ∧ Fresh w v ∧ Ext F w w' ∧ RaftIs w' r d (Gr F w w') (N.asks draw).wins room true := by
 obtain ⟨L, tv, hb, hi1, hi2, hc, hll⟩ := h.cells
 have c0 : w.cell? ⟨r, 0, none⟩ = some (.int .i64 N.id) := by rw [cell_of_blk hb]; rfl
 have c5 : w.cell? ⟨r, 5, none⟩ = some (.int .i64 N.term) := by rw [cell_of_blk hb]; rfl
 have hrl := lt_of_blk hb
 have hw1 : IntKind.i64.wrap ((N.term : Int) + 1) = ((N.term + 1 : Nat) : Int) := by rw [IntWalk.i64_in _ (by omega)]; omega
 have Hturn := Lib.hid (fun (w' : World) (x : Ext NoB w w') => turns_any r d F N room saved (N.term + 1) N.id w' (h.no x) ht (by omega) hroom)
 have H := Lib.hid h
 have Hlay := Lib.hid hlay
 have Hok := Lib.hid hok
 have Hn1 := Lib.hid hn
 clear h hb ht hroom hll hlay hok hn
 go_enter Tryz.func44, Tryz.ntmps44
 go_wp2_with fail
 obtain ⟨w1, B, e1, e2, x1, b1, hs1⟩ := alloc_facts w (.cells #[.pointer (some ⟨r, 0, none⟩)] 27)
 rw [e1, e2]
 have d0 := x1.cell c0 (fun h => h)
 have d5 := x1.cell c5 (fun h => h)
 have dB : w1.cell? ⟨B, 0, none⟩ = some (.pointer (some ⟨r, 0, none⟩)) := by rw [cell_of_blk b1]; rfl
 refine wp_region_N (fun w' => w'.cell? ⟨B, 0, none⟩ = some (.pointer (some ⟨r, 0, none⟩)) ∧ w'.cell? ⟨r, 5, none⟩ = some (.int .i64 N.term) ∧ w'.cell? ⟨r, 0, none⟩ = some (.int .i64 N.id)) 10 (by kernel_rfl) ?_
 have hSd : w1.drew.cell? ⟨B, 0, none⟩ = some (.pointer (some ⟨r, 0, none⟩)) ∧ w1.drew.cell? ⟨r, 5, none⟩ = some (.int .i64 N.term) ∧ w1.drew.cell? ⟨r, 0, none⟩ = some (.int .i64 N.id) := ⟨dB, d5, d0⟩
 have x1d : Ext NoB w w1.drew := x1.drew
 have b1d : w1.drew.heap[B]? = some (.cells #[.pointer (some ⟨r, 0, none⟩)] 27 (0, 0)) := b1
 generalize w1.drew = wd at hSd x1d b1d ⊢
 refine wpAnyN_take 0 (v := ?_) (by kernel_rfl) rfl (fun _ _ _ h => h) hSd (by rfl) ?_ ?_; rotate_left; (focus (intro w hSw; (try dsimp only at hSw); go_simp; try with_reducible rfl)); (try simp only [Act.put]); (try simp only [List.setIfInBounds_toArray, List.set_cons_zero, List.set_cons_succ])
 refine wpAnyN_take 1 (v := ?_) (by kernel_rfl) rfl (fun _ _ _ h => h) hSd (by rfl) ?_ ?_; rotate_left; (focus (intro w hSw; (try dsimp only at hSw); go_simp; try with_reducible rfl)); (try simp only [Act.put]); (try simp only [List.setIfInBounds_toArray, List.set_cons_zero, List.set_cons_succ])
 refine wpAnyN_free 2 (v := ?_) (by kernel_rfl) rfl (fun _ _ _ h => h) hSd (by rfl) ?_ ?_; rotate_left; (focus (intro w; go_simp; try with_reducible rfl)); (try simp only [Act.put]); (try simp only [List.setIfInBounds_toArray, List.set_cons_zero, List.set_cons_succ])
 refine wpAnyN_free 3 (v := ?_) (by kernel_rfl) rfl (fun _ _ _ h => h) hSd (by rfl) ?_ ?_; rotate_left; (focus (intro w; go_simp; try with_reducible rfl)); (try simp only [Act.put]); (try simp only [List.setIfInBounds_toArray, List.set_cons_zero, List.set_cons_succ])
 refine wpAnyN_take 4 (v := ?_) (by kernel_rfl) rfl (fun _ _ _ h => h) hSd (by rfl) ?_ ?_; rotate_left; (focus (intro w hSw; (try dsimp only at hSw); go_simp; try with_reducible rfl)); (try simp only [Act.put]); (try simp only [List.setIfInBounds_toArray, List.set_cons_zero, List.set_cons_succ])
 refine wpAnyN_free 5 (v := ?_) (by kernel_rfl) rfl (fun _ _ _ h => h) hSd (by rfl) ?_ ?_; rotate_left; (focus (intro w; go_simp; try with_reducible rfl)); (try simp only [Act.put]); (try simp only [List.setIfInBounds_toArray, List.set_cons_zero, List.set_cons_succ])
 refine wpAnyN_take 6 (v := ?_) (by kernel_rfl) rfl (fun _ _ _ h => h) hSd (by rfl) ?_ ?_; rotate_left; (focus (intro w hSw; (try dsimp only at hSw); go_simp; try with_reducible rfl)); (try simp only [Act.put]); (try simp only [List.setIfInBounds_toArray, List.set_cons_zero, List.set_cons_succ])
 refine wpAnyN_free 7 (v := ?_) (by kernel_rfl) rfl (fun _ _ _ h => h) hSd (by rfl) ?_ ?_; rotate_left; (focus (intro w; go_simp; try with_reducible rfl)); (try simp only [Act.put]); (try simp only [List.setIfInBounds_toArray, List.set_cons_zero, List.set_cons_succ])
 refine wpAnyN_free 8 (v := ?_) (by kernel_rfl) rfl (fun _ _ _ h => h) hSd (by rfl) ?_ ?_; rotate_left; (focus (intro w; go_simp; try with_reducible rfl)); (try simp only [Act.put]); (try simp only [List.setIfInBounds_toArray, List.set_cons_zero, List.set_cons_succ])
 refine wpAnyN_take 9 (v := ?_) (by kernel_rfl) rfl (fun _ _ _ h => h) hSd (by rfl) ?_ ?_; rotate_left; (focus (intro w hSw; (try dsimp only at hSw); go_simp; try with_reducible rfl)); (try simp only [Act.put]); (try simp only [List.setIfInBounds_toArray, List.set_cons_zero, List.set_cons_succ])
 refine wpAnyN_tail (by rfl) (by decide) (by kernel_rfl) (by kernel_rfl) ?_
 simp only [List.drop_succ_cons, List.drop_zero]
 go_wp2_with fail
 refine (Hturn.out wd x1d).mono ?_; rintro e w2 ⟨rfl, x2, r2⟩
 obtain ⟨L2, tv2, hb2, _, _, _, hll2⟩ := r2.cells
 have hBF : ¬ F B := fun hf => by
  obtain ⟨_, _, ⟨_, _, _, _, _, _, _, _, hlt⟩, _, _⟩ := H.out.is
  have := hlt B hf
  omega
 have bB2 := x2.blk b1d hBF
 have dB : w2.cell? ⟨B, 0, none⟩ = some (.pointer (some ⟨r, 0, none⟩)) := by rw [cell_of_blk bB2]; rfl
 have d0 : w2.cell? ⟨r, 0, none⟩ = some (.int .i64 N.id) := by rw [cell_of_blk hb2]; rfl
 have d7 : w2.cell? ⟨r, 7, none⟩ = some (.int .i64 N.role) := by rw [cell_of_blk hb2]; rfl
 have d8 : w2.cell? ⟨r, 8, none⟩ = some (.int .i64 N.leader) := by rw [cell_of_blk hb2]; rfl
 have d12 : w2.cell? ⟨r, 12, none⟩ = some (.int .u8 N.voted) := by rw [cell_of_blk hb2]; rfl
 have f7 : w2.frozen? ⟨r, 7, none⟩ = false := frozen_of_blk hb2 7
 have f8 : w2.frozen? ⟨r, 8, none⟩ = false := frozen_of_blk hb2 8
 have f12 : w2.frozen? ⟨r, 12, none⟩ = false := frozen_of_blk hb2 12
 have hBr : B ≠ r := by omega
 have Hb2 := Lib.hid hb2
 have HbB2 := Lib.hid bB2
 have Hr2 := Lib.hid r2
 have Hx2 := Lib.hid x2
 clear hb2 bB2 r2 x2 hSd
 go_wp2_with fail
 refine wp_region_N (fun w' => w'.cell? ⟨B, 0, none⟩ = some (.pointer (some ⟨r, 0, none⟩)) ∧ w'.cell? ⟨r, 0, none⟩ = some (.int .i64 N.id)) 17 (by kernel_rfl) ?_
 have hSd : w2.drew.cell? ⟨B, 0, none⟩ = some (.pointer (some ⟨r, 0, none⟩)) ∧ w2.drew.cell? ⟨r, 0, none⟩ = some (.int .i64 N.id) := ⟨dB, d0⟩
 have x2v : Ext NoB w2 w2.drew := (Ext.refl _ w2).drew
 have bV : w2.drew.heap[r]? = _ := Hb2.out
 generalize w2.drew = wv at hSd x2v bV ⊢
 clear d7 d8 d12 f7 f8 f12 dB d0
 have d7 : wv.cell? ⟨r, 7, none⟩ = some (.int .i64 N.role) := by rw [cell_of_blk bV]; rfl
 have f7 : wv.frozen? ⟨r, 7, none⟩ = false := frozen_of_blk bV 7
 refine wpAnyN_take 0 (v := ?_) (by kernel_rfl) rfl (fun _ _ _ h => h) hSd (by rfl) ?_ ?_; rotate_left; (focus (intro w hSw; (try dsimp only at hSw); go_simp; try with_reducible rfl)); (try simp only [Act.put]); (try simp only [List.setIfInBounds_toArray, List.set_cons_zero, List.set_cons_succ])
 refine wpAnyN_take 1 (v := ?_) (by kernel_rfl) rfl (fun _ _ _ h => h) hSd (by rfl) ?_ ?_; rotate_left; (focus (intro w hSw; (try dsimp only at hSw); go_simp; try with_reducible rfl)); (try simp only [Act.put]); (try simp only [List.setIfInBounds_toArray, List.set_cons_zero, List.set_cons_succ])
 refine wpAnyN_take 2 (v := ?_) (by kernel_rfl) rfl (fun _ _ _ h => h) hSd (by rfl) ?_ ?_; rotate_left; (focus (intro w hSw; (try dsimp only at hSw); go_simp; try with_reducible rfl)); (try simp only [Act.put]); (try simp only [List.setIfInBounds_toArray, List.set_cons_zero, List.set_cons_succ])
 refine wpAnyN_take 3 (v := ?_) (by kernel_rfl) rfl (fun _ _ _ h => h) hSd (by rfl) ?_ ?_; rotate_left; (focus (intro w hSw; (try dsimp only at hSw); go_simp; try with_reducible rfl)); (try simp only [Act.put]); (try simp only [List.setIfInBounds_toArray, List.set_cons_zero, List.set_cons_succ])
 refine wpAnyN_free 4 (v := ?_) (by kernel_rfl) rfl (fun _ _ _ h => h) hSd (by rfl) ?_ ?_; rotate_left; (focus (intro w; go_simp; try with_reducible rfl)); (try simp only [Act.put]); (try simp only [List.setIfInBounds_toArray, List.set_cons_zero, List.set_cons_succ])
 refine wpAnyN_free 5 (v := ?_) (by kernel_rfl) rfl (fun _ _ _ h => h) hSd (by rfl) ?_ ?_; rotate_left; (focus (intro w; go_simp; try with_reducible rfl)); (try simp only [Act.put]); (try simp only [List.setIfInBounds_toArray, List.set_cons_zero, List.set_cons_succ])
 refine wpAnyN_take 6 (v := ?_) (by kernel_rfl) rfl (fun _ _ _ h => h) hSd (by rfl) ?_ ?_; rotate_left; (focus (intro w hSw; (try dsimp only at hSw); go_simp; try with_reducible rfl)); (try simp only [Act.put]); (try simp only [List.setIfInBounds_toArray, List.set_cons_zero, List.set_cons_succ])
 refine wpAnyN_free 7 (v := ?_) (by kernel_rfl) rfl (fun _ _ _ h => h) hSd (by rfl) ?_ ?_; rotate_left; (focus (intro w; go_simp; try with_reducible rfl)); (try simp only [Act.put]); (try simp only [List.setIfInBounds_toArray, List.set_cons_zero, List.set_cons_succ])
 refine wpAnyN_free 8 (v := ?_) (by kernel_rfl) rfl (fun _ _ _ h => h) hSd (by rfl) ?_ ?_; rotate_left; (focus (intro w; go_simp; try with_reducible rfl)); (try simp only [Act.put]); (try simp only [List.setIfInBounds_toArray, List.set_cons_zero, List.set_cons_succ])
 refine wpAnyN_free 9 (v := ?_) (by kernel_rfl) rfl (fun _ _ _ h => h) hSd (by rfl) ?_ ?_; rotate_left; (focus (intro w; go_simp; try with_reducible rfl)); (try simp only [Act.put]); (try simp only [List.setIfInBounds_toArray, List.set_cons_zero, List.set_cons_succ])
 refine wpAnyN_one 10 (by kernel_rfl) (by simp only [List.getElem?_toArray, List.getElem?_cons_succ, List.getElem?_cons_zero] <;> rfl) (by rfl) (fun K hK => ?_)
 go_simp
 have xs1 : Ext (fun b => b = r) wv (wv.setCell ⟨r, 7, none⟩ (.int .i64 1)) := (Ext.refl (fun b => b = r) wv).setCell (p := ⟨r, 7, none⟩) (.inl rfl) _
 have bV1 := blk_setCell bV 7 (.int .i64 1)
 generalize (wv.setCell ⟨r, 7, none⟩ (.int .i64 1)) = wv1 at xs1 bV1 ⊢
 have hS1 := And.intro (xs1.cell hSd.1 hBr) (show wv1.cell? ⟨r, 0, none⟩ = some (.int .i64 N.id) by rw [cell_of_blk bV1]; rfl)
 refine hK.out _ _ hS1 (fun hSd => ?_)
 clear hK K hSd d7 f7
 have hSd := hS1
 have d8 : wv1.cell? ⟨r, 8, none⟩ = some (.int .i64 N.leader) := by rw [cell_of_blk bV1]; rfl
 have f8 : wv1.frozen? ⟨r, 8, none⟩ = false := frozen_of_blk bV1 8
 (try simp only [Act.put]); (try simp only [List.setIfInBounds_toArray, List.set_cons_zero, List.set_cons_succ])
 refine wpAnyN_free 11 (v := ?_) (by kernel_rfl) rfl (fun _ _ _ h => h) hSd (by rfl) ?_ ?_; rotate_left; (focus (intro w; go_simp; try with_reducible rfl)); (try simp only [Act.put]); (try simp only [List.setIfInBounds_toArray, List.set_cons_zero, List.set_cons_succ])
 refine wpAnyN_free 12 (v := ?_) (by kernel_rfl) rfl (fun _ _ _ h => h) hSd (by rfl) ?_ ?_; rotate_left; (focus (intro w; go_simp; try with_reducible rfl)); (try simp only [Act.put]); (try simp only [List.setIfInBounds_toArray, List.set_cons_zero, List.set_cons_succ])
 refine wpAnyN_one 13 (by kernel_rfl) (by simp only [List.getElem?_toArray, List.getElem?_cons_succ, List.getElem?_cons_zero] <;> rfl) (by rfl) (fun K hK => ?_)
 go_simp
 have xs2 : Ext (fun b => b = r) wv1 (wv1.setCell ⟨r, 8, none⟩ (.int .i64 (-1))) := (Ext.refl (fun b => b = r) wv1).setCell (p := ⟨r, 8, none⟩) (.inl rfl) _
 have bV2 := blk_setCell bV1 8 (.int .i64 (-1))
 generalize (wv1.setCell ⟨r, 8, none⟩ (.int .i64 (-1))) = wv2 at xs2 bV2 ⊢
 have hS2 := And.intro (xs2.cell hSd.1 hBr) (show wv2.cell? ⟨r, 0, none⟩ = some (.int .i64 N.id) by rw [cell_of_blk bV2]; rfl)
 refine hK.out _ _ hS2 (fun hSd => ?_)
 clear hK K hSd d8 f8
 have hSd := hS2
 have d12 : wv2.cell? ⟨r, 12, none⟩ = some (.int .u8 N.voted) := by rw [cell_of_blk bV2]; rfl
 have f12 : wv2.frozen? ⟨r, 12, none⟩ = false := frozen_of_blk bV2 12
 (try simp only [Act.put]); (try simp only [List.setIfInBounds_toArray, List.set_cons_zero, List.set_cons_succ])
 refine wpAnyN_free 14 (v := ?_) (by kernel_rfl) rfl (fun _ _ _ h => h) hSd (by rfl) ?_ ?_; rotate_left; (focus (intro w; go_simp; try with_reducible rfl)); (try simp only [Act.put]); (try simp only [List.setIfInBounds_toArray, List.set_cons_zero, List.set_cons_succ])
 refine wpAnyN_free 15 (v := ?_) (by kernel_rfl) rfl (fun _ _ _ h => h) hSd (by rfl) ?_ ?_; rotate_left; (focus (intro w; go_simp; try with_reducible rfl)); (try simp only [Act.put]); (try simp only [List.setIfInBounds_toArray, List.set_cons_zero, List.set_cons_succ])
 refine wpAnyN_one 16 (by kernel_rfl) (by simp only [List.getElem?_toArray, List.getElem?_cons_succ, List.getElem?_cons_zero] <;> rfl) (by rfl) (fun K hK => ?_)
 go_simp
 have hpw : IntKind.u8.wrap ((2 : Int) ^ N.id) = ((2 ^ N.id : Nat) : Int) := by
  have h1 : (2 : Nat) ^ N.id ≤ 2 ^ 4 := Nat.pow_le_pow_right (by decide) (by omega)
  have h2 : ((2 : Int) ^ N.id) = ((2 ^ N.id : Nat) : Int) := by simp
  rw [h2, IntKind.wrap_u8]
  generalize (2 : Nat) ^ N.id = q at h1
  omega
 rw [hpw]
 have xs3 : Ext (fun b => b = r) wv2 (wv2.setCell ⟨r, 12, none⟩ (.int .u8 (2 ^ N.id : Nat))) := (Ext.refl (fun b => b = r) wv2).setCell (p := ⟨r, 12, none⟩) (.inl rfl) _
 have bV3 := blk_setCell bV2 12 (.int .u8 (2 ^ N.id : Nat))
 generalize (wv2.setCell ⟨r, 12, none⟩ (.int .u8 (2 ^ N.id : Nat))) = wv3 at xs3 bV3 ⊢
 have hS3 := And.intro (xs3.cell hSd.1 hBr) (show wv3.cell? ⟨r, 0, none⟩ = some (.int .i64 N.id) by rw [cell_of_blk bV3]; rfl)
 refine hK.out _ _ hS3 (fun hSd => ?_)
 clear hK K hSd d12 f12
 (try simp only [Act.put]); (try simp only [List.setIfInBounds_toArray, List.set_cons_zero, List.set_cons_succ])
 refine wpAnyN_tail (by rfl) (by decide) (by kernel_rfl) (by kernel_rfl) ?_
 simp only [List.drop_succ_cons, List.drop_zero, List.drop_nil]
 have xv : Ext (fun b => b = r) w2 wv3 := ((x2v.of_no.trans xs1).trans xs2).trans xs3
 obtain ⟨r3, x3F⟩ := RaftIs.set (N' := { { N with term := N.term + 1, vote := N.id } with role := 1, leader := -1, voted := 2 ^ N.id }) Hr2.out xv (fun L' tv' hb' => by
  have e := Hb2.out.symm.trans hb'
  have e2 : nodeArr { N with term := N.term + 1, vote := N.id } d L2 tv2 = nodeArr { N with term := N.term + 1, vote := N.id } d L' tv' := by
   injection e with e; injection e
  have eL : L2 = L' ∧ tv2 = tv' := by
   have e3 := congrArg Array.toList e2
   simp only [nodeArr, List.cons.injEq, Value.pointer.injEq, Option.some.injEq, Addr.mk.injEq] at e3
   exact ⟨e3.2.2.2.1.1, e3.2.2.2.2.1⟩
  obtain ⟨rfl, rfl⟩ := eL
  exact bV3) rfl ⟨hi1, hi2⟩ hc rfl rfl
 have Hr3 := Lib.hid r3
 have Hx3 := Lib.hid x3F
 have HbB3 := Lib.hid (xv.blk HbB2.out hBr)
 have dB3 := hS3.1
 clear r3 x3F xs1 xs2 xs3 bV bV1 bV2 bV3 hS1 hS2 hS3 x2v xv
 go_wp2_with fail
 obtain ⟨D3, ps3, hN3, hrm3, hp3⟩ := Hr3.out.is
 refine (anew_any r d _ _ D3 ps3 draw wv3 hN3).mono ?_; rintro e w4 ⟨rfl, x4, n4⟩
 have hBG : ¬ (Gr F wd w2 B) := fun h => h.elim hBF (fun h => by have := lt_of_blk b1d; omega)
 have bB4 := x4.blk HbB3.out hBG
 have dB4 : w4.cell? ⟨B, 0, none⟩ = some (.pointer (some ⟨r, 0, none⟩)) := by rw [cell_of_blk bB4]; rfl
 have hnode4 : ∃ L4 tv4, w4.heap[r]? = some (.cells (nodeArr (N.asks draw) d L4 tv4) 92 (0, 0)) := by
  obtain ⟨L4, _, _, _, tv4, _, h4, _⟩ := n4
  exact ⟨L4, tv4, h4.blk⟩
 obtain ⟨L4, tv4, hb4⟩ := hnode4
 have d12 : w4.cell? ⟨r, 12, none⟩ = some (.int .u8 (2 ^ N.id : Nat)) := by rw [cell_of_blk hb4]; rfl
 have Hn4 := Lib.hid n4
 have Hx4 := Lib.hid x4
 have HbB4 := Lib.hid bB4
 have Hb4 := Lib.hid hb4
 have Hp3 := Lib.hid hp3
 have Hrm3 := Lib.hid hrm3
 clear hN3 n4 x4 bB4 hb4 dB3 hp3 hrm3
 go_wp2_with fail
 refine wp_region_N (fun w' => w'.cell? ⟨B, 0, none⟩ = some (.pointer (some ⟨r, 0, none⟩)) ∧ w'.cell? ⟨r, 12, none⟩ = some (.int .u8 (2 ^ N.id : Nat))) 5 (by kernel_rfl) ?_
 have hSd : w4.drew.cell? ⟨B, 0, none⟩ = some (.pointer (some ⟨r, 0, none⟩)) ∧ w4.drew.cell? ⟨r, 12, none⟩ = some (.int .u8 (2 ^ N.id : Nat)) := ⟨dB4, d12⟩
 have x4d : Ext NoB w4 w4.drew := (Ext.refl _ w4).drew
 generalize w4.drew = wx at hSd x4d ⊢
 refine wpAnyN_take 0 (v := ?_) (by kernel_rfl) rfl (fun _ _ _ h => h) hSd (by rfl) ?_ ?_; rotate_left; (focus (intro w hSw; (try dsimp only at hSw); go_simp; try with_reducible rfl)); (try simp only [Act.put]); (try simp only [List.setIfInBounds_toArray, List.set_cons_zero, List.set_cons_succ])
 refine wpAnyN_take 1 (v := ?_) (by kernel_rfl) rfl (fun _ _ _ h => h) hSd (by rfl) ?_ ?_; rotate_left; (focus (intro w hSw; (try dsimp only at hSw); go_simp; try with_reducible rfl)); (try simp only [Act.put]); (try simp only [List.setIfInBounds_toArray, List.set_cons_zero, List.set_cons_succ])
 refine wpAnyN_free 2 (v := ?_) (by kernel_rfl) rfl (fun _ _ _ h => h) hSd (by rfl) ?_ ?_; rotate_left; (focus (intro w; go_simp; try with_reducible rfl)); (try simp only [Act.put]); (try simp only [List.setIfInBounds_toArray, List.set_cons_zero, List.set_cons_succ])
 refine wpAnyN_free 3 (v := ?_) (by kernel_rfl) rfl (fun _ _ _ h => h) hSd (by rfl) ?_ ?_; rotate_left; (focus (intro w; go_simp; try with_reducible rfl)); (try simp only [Act.put]); (try simp only [List.setIfInBounds_toArray, List.set_cons_zero, List.set_cons_succ])
 refine wpAnyN_take 4 (v := ?_) (by kernel_rfl) rfl (fun _ _ _ h => h) hSd (by rfl) ?_ ?_; rotate_left; (focus (intro w hSw; (try dsimp only at hSw); go_simp; try with_reducible rfl)); (try simp only [Act.put]); (try simp only [List.setIfInBounds_toArray, List.set_cons_zero, List.set_cons_succ])
 refine wpAnyN_tail (by rfl) (by decide) (by kernel_rfl) (by kernel_rfl) ?_
 simp only [List.drop_succ_cons, List.drop_zero]
 have hq255 : 2 ^ N.id ≤ 255 := by
  have h1 : (2 : Nat) ^ N.id ≤ 2 ^ 4 := Nat.pow_le_pow_right (by decide) (by omega)
  generalize (2 : Nat) ^ N.id = q at h1
  omega
 have hmost := most_any r d _ _ D3 ps3 (2 ^ N.id) hq255 wx (Hn4.out.no x4d)
 have hm0 : mostOf (N.asks draw).n (2 ^ N.id) = true := by
  show mostOf N.n (2 ^ N.id) = true
  have h1 := Hn1.out
  have h0 : N.id = 0 := by omega
  rw [h1, h0]
  decide
 have Hmost : Hid (Calls Tryz.prog 80 #[.pointer (some ⟨r, 0, none⟩), .int .u8 (2 ^ N.id : Nat)] wx fun e w' => e = .returned (.bool true) ∧ Ext NoB wx w') := Lib.hid (hmost.mono (fun e w' h => ⟨by rw [h.1, ← hm0]; rfl, h.2⟩))
 clear hmost hm0 hq255
 go_wp2_with fail
 refine Hmost.out.mono ?_; rintro e w5 ⟨rfl, x5⟩
 have y5 : Ext NoB w4 w5 := x4d.trans x5
 have dB5 := y5.cell dB4 (fun h => h)
 have hR5 : RaftIs w5 r d (Gr F wd w2) (N.asks draw) room true := ⟨⟨D3, ps3, Hn4.out.no y5, Hrm3.out, Hp3.out⟩, fun h => (by cases h), Hr3.out.vote, Hr3.out.term⟩
 have Hwin := Lib.hid (wins_any r d _ (N.asks draw) room true w5 hR5 Hlay.out Hok.out)
 have Hy5 := Lib.hid y5
 clear hR5 y5
 go_wp2_with fail
 refine Hwin.out.mono ?_; rintro e w6 ⟨v, rfl, hm6, hf6, x6, r6⟩
 have Hm6 := Lib.hid hm6
 have Hf6 := Lib.hid hf6
 have Hx6 := Lib.hid x6
 have Hr6 := Lib.hid r6
 clear hm6 hf6 x6 r6
 go_wp2_with fail
 go_ret
 have hx2 := Hx2.out
 have hx3 := Hx3.out
 have hx4 := Hx4.out
 have hx6 := Hx6.out
 have g1 := x1d.size
 have g2 := hx2.size
 have g3 := hx3.size
 have g4 := hx4.size
 have g5 := Hy5.out.size
 have g6 := hx6.size
 have x4F : Ext F w w4 := (((x1d.of_no).trans hx2).next hx3 (fun b h hb => h.elim (fun h => h) (fun h => by omega))).next hx4 (fun b h hb => h.elim (fun h => h) (fun h => by omega))
 have xF : Ext F w w6 := (x4F.nextNo Hy5.out).next hx6 (fun b h hb => h.elim (fun h => h) (fun h => by omega))
 refine ⟨v, rfl, Hm6.out, fun g hg => by have := Hf6.out g hg; omega, xF, ?_⟩
 exact Hr6.out.wide (fun b h => by
  rcases h with h | h
  ·rcases h with h | h
   ·exact .inl h
   ·exact .inr (by omega)
  ·exact .inr (by omega)) (fun b h => by
  rcases h with h | h
  ·exact Nat.lt_of_lt_of_le (H.out.lt b h) xF.size
  ·exact h.2)
end Go.Proofs.YtgglbholbkdgfaaGreatDoor
namespace Go.Proofs.YtgglbholbkdgfaaGreatDoor
open Go.RowKit
def Sends (r d : Nat) (F : Nat → Prop) (w : World) (Ms : List PMsg) (N' : PNode) (room : Nat) (saved : Bool) (e : Ending) (w' : World) : Prop :=
 ∃ v, e = .returned v ∧ MsgsAre w' v Ms ∧ Fresh w v ∧ Ext F w w' ∧ RaftIs w' r d (Gr F w w') N' room saved
theorem Sends.behind {r d : Nat} {F : Nat → Prop} {w w1 w2 : World} {Ms : List PMsg} {N' : PNode} {room : Nat} {saved : Bool} {e : Ending} (x : Ext F w w1) (h : Sends r d F w1 Ms N' room saved e w2) (hlt : ∀ b, F b → b < w.heap.size) : Sends r d F w Ms N' room saved e w2 := by
 obtain ⟨v, h1, h2, h3, h4, h5⟩ := h
 have s1 := x.size
 have s2 := h4.size
 refine ⟨v, h1, h2, h3.mono s1, x.trans h4, h5.wide (fun b hb => ?_) (fun b hb => ?_)⟩
 ·rcases hb with hb | hb
  ·exact .inl hb
  ·exact .inr ⟨by omega, hb.2⟩
 ·rcases hb with hb | hb
  ·have := hlt b hb; omega
  ·exact hb.2
set_option maxRecDepth 100000 in
set_option maxHeartbeats 1000000 in
theorem Tick_stands (r d : Nat) (F : Nat → Prop) (N : PNode) (room : Nat) (saved : Bool) (draw : Int) (w : World) (h : RaftIs w r d F N room saved) (hw : -1000 < N.wait ∧ N.wait ≤ 1) (hr : N.role ≠ 2) (Ms : List PMsg) (N' : PNode)
  (hst : ∀ w1, RaftIs w1 r d F { N with wait := N.wait - 1 } room saved → Calls Tryz.prog 44 #[.pointer (some ⟨r, 0, none⟩), .int .i64 draw] w1 (Sends r d F w1 Ms N' room true)) :
  Calls Tryz.prog 17 #[.pointer (some ⟨r, 0, none⟩), .int .i64 draw] w (Sends r d F w Ms N' room true) := by
 obtain ⟨L, tv, hb, hi1, hi2, hc, _⟩ := h.cells
 obtain ⟨wt, hwt⟩ : ∃ wt, N.wait = wt := ⟨_, rfl⟩
 have c1 : w.cell? ⟨r, 23, none⟩ = some (.bool false) := by rw [cell_of_blk hb]; rfl
 have c2 : w.cell? ⟨r, 11, none⟩ = some (.int .i64 wt) := by rw [cell_of_blk hb, ← hwt]; rfl
 have c7 : w.cell? ⟨r, 7, none⟩ = some (.int .i64 N.role) := by rw [cell_of_blk hb]; rfl
 have f2 : w.frozen? ⟨r, 11, none⟩ = false := frozen_of_blk hb 11
 have hb1 : ((N.role : Int) == 2) = false := beq_eq_false_iff_ne.2 (by omega)
 rw [hwt] at hw hst
 have hw1 : IntKind.i64.wrap (wt - 1) = wt - 1 := IntWalk.i64_in _ (by omega)
 have hw2 : ¬ ((0 : Int) < wt - 1) := by omega
 have H := Lib.hid h
 have Hst := Lib.hid hst
 clear h hb hwt hst
 go_enter Tryz.func17, Tryz.ntmps17
 go_wp2_with fail
 have hs := RaftIs.set (N' := { N with wait := wt - 1 }) H.out ((Ext.refl (fun b => b = r) w).setCell (p := ⟨r, 11, none⟩) (.inl rfl) (.int .i64 (wt - 1))) (fun L tv hb => blk_setCell hb 11 _) rfl ⟨hi1, hi2⟩ hc rfl rfl
 refine (Hst.out _ hs.1).mono ?_; rintro e w2 hS
 have hS := hS.behind hs.2 H.out.lt
 obtain ⟨v, rfl, hm, hf, hx, hR⟩ := hS
 have Hm := Lib.hid hm
 have Hf := Lib.hid hf
 have Hx := Lib.hid hx
 have HR := Lib.hid hR
 clear hm hf hx hR hs
 go_wp2_with fail
 go_ret
 exact ⟨v, rfl, Hm.out, Hf.out, Hx.out, HR.out⟩
end Go.Proofs.YtgglbholbkdgfaaGreatDoor
namespace Go.Proofs.YtgglbholbkdgfaaGreatDoor
open Go.RowKit
theorem unEnts : Tryz.prog.underlying 45 = some (.slice 50) := Tryz.underlying45
theorem elEnt : ElemT Tryz.prog 50 2 32 := ElemT.of (z := .agg #[.int .i64 0, .slice none 0 0]) (by kernel_rfl) rfl (by decide)
def EntIs (w : World) (m : List Value) (e : Nat × List UInt8) : Prop := ∃ dv, m = [.int .i64 e.1, dv] ∧ Own w 5 1 dv (bytesV e.2)
theorem EntIs.ext {w w' : World} {G : Nat → Prop} {m : List Value} {e : Nat × List UInt8} {T : TypeId} (hT : T ≠ 5) (h : EntIs w m e) (x : Ext G w w') (hG : ∀ g, G g → g < w.heap.size → ∃ cs fr, w.heap[g]? = some (.cells cs T fr)) : EntIs w' m e := by
 obtain ⟨dv, rfl, h2⟩ := h
 refine ⟨dv, rfl, h2.ext x (fun g hg hb => ?_)⟩
 obtain ⟨cs, fr, hb⟩ := hG g hb (h2.lt g hg)
 exact h2.ne_blk hb hT g hg rfl
theorem EntIs.one {w : World} {m : List Value} {e : Nat × List UInt8} (h : EntIs w m e) : m.length = 2 ∧ ∀ u ∈ m, u.oneCell' = true := by
 obtain ⟨dv, rfl, h2⟩ := h
 obtain ⟨a', n', c', rfl, _⟩ := h2.rd
 exact ⟨rfl, by simp [Value.oneCell']⟩
inductive EntRows (w : World) : List (List Value) → List (Nat × List UInt8) → Prop
 | nil : EntRows w [] []
 | snoc {ms : List (List Value)} {es : List (Nat × List UInt8)} {m : List Value} {e : Nat × List UInt8} : EntRows w ms es → EntIs w m e → EntRows w (ms ++ [m]) (es ++ [e])
theorem EntRows.ext {w w' : World} {G : Nat → Prop} {ms : List (List Value)} {es : List (Nat × List UInt8)} {T : TypeId} (hT : T ≠ 5) (h : EntRows w ms es) (x : Ext G w w') (hG : ∀ g, G g → g < w.heap.size → ∃ cs fr, w.heap[g]? = some (.cells cs T fr)) : EntRows w' ms es := by
 induction h with
 | nil => exact .nil
 | snoc _ h2 ih => exact .snoc ih (h2.ext hT x hG)
theorem EntRows.len {w : World} {ms : List (List Value)} {es : List (Nat × List UInt8)} (h : EntRows w ms es) : ms.flatten.length = es.length * 2 := by
 induction h with
 | nil => rfl
 | snoc _ h2 ih => simp only [List.flatten_append, List.length_append, ih, List.flatten_cons, List.flatten_nil, List.append_nil, h2.one.1, List.length_cons, List.length_nil]; omega
def PNode.takes (N : PNode) (k : Nat) : PNode := { N with taken := k }
theorem take_snoc_drop {α : Type} (l : List α) (a k : Nat) (e : α) (ha : a ≤ k) (h : l[k]? = some e) : (l.take (k + 1)).drop a = (l.take k).drop a ++ [e] := by
 obtain ⟨hk, he⟩ := List.getElem?_eq_some_iff.1 h
 rw [List.take_succ_eq_append_getElem hk, he, List.drop_append_of_le_length (by simp; omega)]
end Go.Proofs.YtgglbholbkdgfaaGreatDoor
namespace Go.Proofs.YtgglbholbkdgfaaGreatDoor
open Go.RowKit
end Go.Proofs.YtgglbholbkdgfaaGreatDoor
