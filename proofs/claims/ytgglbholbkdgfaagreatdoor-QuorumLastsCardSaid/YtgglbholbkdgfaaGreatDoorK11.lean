/- Joined texts: B57 B58 B59 B60 B61. Each has its own head. -/
import Derived.Test.YtgglbholbkdgfaaGreatDoorK10
set_option linter.unusedVariables false
set_option linter.unusedSimpArgs false
namespace Go.Proofs.YtgglbholbkdgfaaGreatDoor
open Go.RowKit
def PNode.gives (N : PNode) (fr draw : Int) : PNode := { N with vote := fr, wait := 10 + (max 0 draw) % 10 }
set_option maxRecDepth 100000 in
set_option maxHeartbeats 8000000 in
theorem asked_first (r d : Nat) (F : Nat → Prop) (N : PNode) (room : Nat) (saved : Bool) (fr tt draw i1 t2 : Int) (na da : Option Addr) (nc dl dc : Nat) (l : List Int) (w : World) (h : RaftIs w r d F N room saved)
  (hn : Rd w 1 (.slice na l.length nc) (intsV l)) (hl : l = [(N.term : Int), i1, t2]) (hv : N.vote = -1) (hnew : N.newer i1 t2 = true) (hfr : 0 ≤ fr ∧ fr ≤ 5) (hroom : N.bytes + 100 ≤ room) :
  Calls Tryz.prog 47 #[.pointer (some ⟨r, 0, none⟩), msgV fr tt 1 (.slice na l.length nc) (.slice da dl dc), .int .i64 draw] w (Sends r d F w [voteMsg N fr 1] (N.gives fr draw) room true) := by
 obtain ⟨L, tv, hb, hi1, hi2, hcm, hll⟩ := h.cells
 have hlen : l.length = 3 := by rw [hl]; rfl
 obtain ⟨nb, noff, rfl, hcell⟩ := nums_cell hn (by omega)
 have cn0 : w.cell? ⟨nb, noff, none⟩ = some (.int .i64 N.term) := hcell 0 _ (by rw [hl]; rfl)
 have cn1 : w.cell? ⟨nb, noff + 1, none⟩ = some (.int .i64 i1) := hcell 1 _ (by rw [hl]; rfl)
 have cn2 : w.cell? ⟨nb, noff + 2, none⟩ = some (.int .i64 t2) := hcell 2 _ (by rw [hl]; rfl)
 rw [hlen] at hn ⊢
 obtain ⟨D, ps, hN, hrm, hperm⟩ := h.is
 have c0 : w.cell? ⟨r, 0, none⟩ = some (.int .i64 N.id) := by rw [cell_of_blk hb]; rfl
 have c5 : w.cell? ⟨r, 5, none⟩ = some (.int .i64 N.term) := by rw [cell_of_blk hb]; rfl
 have c6 : w.cell? ⟨r, 6, none⟩ = some (.int .i64 N.vote) := by rw [cell_of_blk hb]; rfl
 have hrl := lt_of_blk hb
 have hlast := Lib.hid (fun (w' : World) (x : Ext NoB w w') => rlast_any r d F N D ps w' (hN.no x))
 have hlastq := Lib.hid (fun (w1 : World) (x : Ext NoB w w1) (n : Nat) => (rlast_any r d F N D ps (w1.drewN n) ((hN.no x).no ((Ext.refl NoB w1).drewN n))).mono (R' := fun e w' => e = .returned (.int .i64 N.log.length) ∧ w' = w1.drewN n) (fun e w' h => ⟨h.1, h.2.symm⟩))
 have hterm := Lib.hid (fun (w' : World) (x : Ext NoB w w') => termOf_any r d F N D ps N.log.length w' (hN.no x) (by omega))
 obtain ⟨lt, hlt⟩ : ∃ lt, N.termOf N.log.length = lt := ⟨_, rfl⟩
 rw [hlt] at hterm
 have hA : (decide ((lt : Int) < t2) = true) ∨ (decide ((lt : Int) < t2) = false ∧ (t2 == (lt : Int)) = true ∧ decide ((N.log.length : Int) ≤ i1) = true) := by
  have hnw : N.newer i1 t2 = true := hnew
  unfold PNode.newer at hnw
  rw [hlt] at hnw
  simp only [Bool.or_eq_true, Bool.and_eq_true, decide_eq_true_eq] at hnw
  rcases hnw with h1 | ⟨h1, h2⟩
  ·exact .inl (decide_eq_true h1)
  ·exact .inr ⟨decide_eq_false (by omega), beq_iff_eq.2 h1, decide_eq_true h2⟩
 have g1 : ((N.term : Int) == (N.term : Int)) = true := by simp
 clear hlt hnew
 have g2 : (N.vote == -1) = true := beq_iff_eq.2 hv
 have H := Lib.hid h
 have Hturn := Lib.hid (fun (w' : World) (x : Ext NoB w w') => turns_any r d F N room saved N.term fr w' (h.no x) h.term (by omega) hroom)
 clear h hb hn hcell hl hlen hN hrm hperm hv
 unfold msgV
 rcases hA with h1 | ⟨h1, h2, h3⟩
 all_goals
  go_enter Tryz.func47, Tryz.ntmps47
  go_wp2_with fail
  obtain ⟨w1, BM, e1, e2, x1, b1, hs1⟩ := alloc_facts w (.cells #[.int .i64 fr, .int .i64 tt, .int .i64 1, .slice (some ⟨nb, noff, none⟩) 3 nc, .slice da dl dc] 37)
  rw [e1, e2]
  have dM0 : w1.cell? ⟨BM, 0, none⟩ = some (.int .i64 fr) := by rw [cell_of_blk b1]; rfl
  have dM3 : w1.cell? ⟨BM, 3, none⟩ = some (.slice (some ⟨nb, noff, none⟩) 3 nc) := by rw [cell_of_blk b1]; rfl
  have d0 := x1.cell c0 (fun h => h)
  have d5 := x1.cell c5 (fun h => h)
  have d6 := x1.cell c6 (fun h => h)
  have dn0 := x1.cell cn0 (fun h => h)
  have dn1 := x1.cell cn1 (fun h => h)
  have dn2 := x1.cell cn2 (fun h => h)
  have Hlast := Lib.hid (hlast.out w1 x1)
  have Hterm := Lib.hid (hterm.out w1 x1)
  have Hlq := Lib.hid (hlastq.out w1 x1)
  have Hx1 := Lib.hid x1
  have Hb1 := Lib.hid b1
  have hBM : w.heap.size = BM := e2
  clear e1 e2 x1 b1 hs1 c0 c5 c6 cn0 cn1 cn2 hlast hterm hlastq
  refine Hlast.out.mono ?_; rintro e w2 ⟨rfl, rfl⟩
  go_wp2_with fail
  refine Hterm.out.mono ?_; rintro e w2 ⟨rfl, rfl⟩
  go_wp2_with fail
  go_quiet (first | (go_at_call 54; exact Calls.quiet_of_same (Hlq.out _)))
  go_wp2_with fail
  have xa : Ext NoB w1 (w1.drewN nq) := (Ext.refl _ w1).drewN _
  generalize w1.drewN nq = wa at xa ⊢
  have a0 := xa.cell d0 (fun h => h)
  have a5 := xa.cell d5 (fun h => h)
  have a6 := xa.cell d6 (fun h => h)
  have aM0 := xa.cell dM0 (fun h => h)
  have aM3 := xa.cell dM3 (fun h => h)
  have an0 := xa.cell dn0 (fun h => h)
  clear d0 d5 d6 dM0 dM3 dn0 dn1 dn2
  go_quiet (fail)
  go_wp2_with fail
  have xb : Ext NoB wa (wa.drewN nq) := (Ext.refl _ wa).drewN _
  generalize wa.drewN nq = wb at xb ⊢
  have b0 := xb.cell a0 (fun h => h)
  have b5 := xb.cell a5 (fun h => h)
  have b6 := xb.cell a6 (fun h => h)
  have bM0 := xb.cell aM0 (fun h => h)
  have Hxb := Lib.hid ((Hx1.out.trans xa).trans xb)
  have Hb := Lib.hid (xb.blk (xa.blk Hb1.out (fun h => h)) (fun h => h))
  clear a0 a5 a6 aM0 aM3 an0 xa xb Hlast Hterm Hlq
  have hBMF : ¬ F BM := fun h => by have := H.out.lt BM h; omega
  refine wp_region_N (fun w' => w'.cell? ⟨r, 6, none⟩ = some (.int .i64 N.vote) ∧ w'.cell? ⟨r, 5, none⟩ = some (.int .i64 N.term) ∧ w'.cell? ⟨BM, 0, none⟩ = some (.int .i64 fr)) 13 (by kernel_rfl) ?_
  have hSd : wb.drew.cell? ⟨r, 6, none⟩ = some (.int .i64 N.vote) ∧ wb.drew.cell? ⟨r, 5, none⟩ = some (.int .i64 N.term) ∧ wb.drew.cell? ⟨BM, 0, none⟩ = some (.int .i64 fr) := ⟨b6, b5, bM0⟩
  have xd : Ext NoB wb wb.drew := (Ext.refl _ wb).drew
  generalize wb.drew = wd at hSd xd ⊢
  refine wpAnyN_free 0 (v := ?_) (by kernel_rfl) rfl (fun _ _ _ h => h) hSd (by kernel_rfl) ?_ ?_; rotate_left; (focus (intro w; go_simp; try with_reducible rfl)); (try simp only [Act.put]); (try simp only [List.setIfInBounds_toArray, List.set_cons_zero, List.set_cons_succ])
  refine wpAnyN_free 1 (v := ?_) (by kernel_rfl) rfl (fun _ _ _ h => h) hSd (by kernel_rfl) ?_ ?_; rotate_left; (focus (intro w; go_simp; try with_reducible rfl)); (try simp only [Act.put]); (try simp only [List.setIfInBounds_toArray, List.set_cons_zero, List.set_cons_succ])
  refine wpAnyN_free 2 (v := ?_) (by kernel_rfl) rfl (fun _ _ _ h => h) hSd (by kernel_rfl) ?_ ?_; rotate_left; (focus (intro w; go_simp; try with_reducible rfl)); (try simp only [Act.put]); (try simp only [List.setIfInBounds_toArray, List.set_cons_zero, List.set_cons_succ])
  refine wpAnyN_take 3 (v := ?_) (by kernel_rfl) rfl (fun _ _ _ h => h) hSd (by kernel_rfl) ?_ ?_; rotate_left; (focus (intro w hSw; (try dsimp only at hSw); go_simp; try with_reducible rfl)); (try simp only [Act.put]); (try simp only [List.setIfInBounds_toArray, List.set_cons_zero, List.set_cons_succ])
  refine wpAnyN_free 4 (v := ?_) (by kernel_rfl) rfl (fun _ _ _ h => h) hSd (by kernel_rfl) ?_ ?_; rotate_left; (focus (intro w; go_simp; try with_reducible rfl)); (try simp only [Act.put]); (try simp only [List.setIfInBounds_toArray, List.set_cons_zero, List.set_cons_succ])
  refine wpAnyN_free 5 (v := ?_) (by kernel_rfl) rfl (fun _ _ _ h => h) hSd (by kernel_rfl) ?_ ?_; rotate_left; (focus (intro w; go_simp; try with_reducible rfl)); (try simp only [Act.put]); (try simp only [List.setIfInBounds_toArray, List.set_cons_zero, List.set_cons_succ])
  refine wpAnyN_free 6 (v := ?_) (by kernel_rfl) rfl (fun _ _ _ h => h) hSd (by kernel_rfl) ?_ ?_; rotate_left; (focus (intro w; go_simp; try with_reducible rfl)); (try simp only [Act.put]); (try simp only [List.setIfInBounds_toArray, List.set_cons_zero, List.set_cons_succ])
  refine wpAnyN_free 7 (v := ?_) (by kernel_rfl) rfl (fun _ _ _ h => h) hSd (by kernel_rfl) ?_ ?_; rotate_left; (focus (intro w; go_simp; try with_reducible rfl)); (try simp only [Act.put]); (try simp only [List.setIfInBounds_toArray, List.set_cons_zero, List.set_cons_succ])
  refine wpAnyN_free 8 (v := ?_) (by kernel_rfl) rfl (fun _ _ _ h => h) hSd (by kernel_rfl) ?_ ?_; rotate_left; (focus (intro w; go_simp; try with_reducible rfl)); (try simp only [Act.put]); (try simp only [List.setIfInBounds_toArray, List.set_cons_zero, List.set_cons_succ])
  refine wpAnyN_free 9 (v := ?_) (by kernel_rfl) rfl (fun _ _ _ h => h) hSd (by kernel_rfl) ?_ ?_; rotate_left; (focus (intro w; go_simp; try with_reducible rfl)); (try simp only [Act.put]); (try simp only [List.setIfInBounds_toArray, List.set_cons_zero, List.set_cons_succ])
  refine wpAnyN_take 10 (v := ?_) (by kernel_rfl) rfl (fun _ _ _ h => h) hSd (by kernel_rfl) ?_ ?_; rotate_left; (focus (intro w hSw; (try dsimp only at hSw); go_simp; try with_reducible rfl)); (try simp only [Act.put]); (try simp only [List.setIfInBounds_toArray, List.set_cons_zero, List.set_cons_succ])
  refine wpAnyN_free 11 (v := ?_) (by kernel_rfl) rfl (fun _ _ _ h => h) hSd (by kernel_rfl) ?_ ?_; rotate_left; (focus (intro w; go_simp; try with_reducible rfl)); (try simp only [Act.put]); (try simp only [List.setIfInBounds_toArray, List.set_cons_zero, List.set_cons_succ])
  refine wpAnyN_take 12 (v := ?_) (by kernel_rfl) rfl (fun _ _ _ h => h) hSd (by kernel_rfl) ?_ ?_; rotate_left; (focus (intro w hSw; (try dsimp only at hSw); go_simp; try with_reducible rfl)); (try simp only [Act.put]); (try simp only [List.setIfInBounds_toArray, List.set_cons_zero, List.set_cons_succ])
  refine wpAnyN_tail (by rfl) (by decide) (by kernel_rfl) (by kernel_rfl) ?_
  simp only [List.drop_succ_cons, List.drop_zero]
  have bMd := xd.blk Hb.out (fun h => h)
  have y0d : Ext NoB w wd := Hxb.out.trans xd
  have hBMd : BM < wd.heap.size := lt_of_blk bMd
  have Hy0d := Lib.hid y0d
  have HbMd := Lib.hid bMd
  clear bMd y0d xd b0 b5 b6 bM0 hSd
  go_wp2_with fail
  refine (Hturn.out wd Hy0d.out).mono ?_; rintro e w2 ⟨rfl, x2, r2⟩
  have bM2 := x2.blk HbMd.out hBMF
  obtain ⟨D2, ps2, hN2, hrm2, hp2⟩ := r2.is
  have HN2 := Lib.hid hN2
  have Hr2 := Lib.hid r2
  have Hx2 := Lib.hid x2
  have HbM2 := Lib.hid bM2
  have Hp2 := Lib.hid (And.intro hrm2 hp2)
  clear hN2 r2 x2 bM2 hrm2 hp2
  go_wp2_with fail
  refine (anew_any r d _ _ D2 ps2 draw w2 HN2.out).mono ?_; rintro e w3 ⟨rfl, x3, n3⟩
  have hBG : ¬ Gr F wd w2 BM := fun h => h.elim hBMF (fun h => by omega)
  have bM3 := x3.blk HbM2.out hBG
  have hnode : ∃ L3 tv3, w3.heap[r]? = some (.cells (nodeArr (N.gives fr draw) d L3 tv3) 92 (0, 0)) := by
   obtain ⟨L4, _, _, _, tv4, _, h4, _⟩ := n3
   exact ⟨L4, tv4, h4.blk⟩
  obtain ⟨L3, tv3, hb3⟩ := hnode
  have z0 : w3.cell? ⟨r, 0, none⟩ = some (.int .i64 N.id) := by rw [cell_of_blk hb3]; rfl
  have z5 : w3.cell? ⟨r, 5, none⟩ = some (.int .i64 N.term) := by rw [cell_of_blk hb3]; rfl
  have zM : w3.cell? ⟨BM, 0, none⟩ = some (.int .i64 fr) := by rw [cell_of_blk bM3]; rfl
  have Hn3 := Lib.hid n3
  have Hx3 := Lib.hid x3
  clear n3 x3 bM3 hb3
  go_wp2_with fail
  obtain ⟨wz, hwz⟩ : ∃ wz, w3 = wz := ⟨_, rfl⟩
  rw [hwz] at z0 z5 zM Hn3 Hx3 ⊢
  clear hwz
  have xq : Ext NoB wz wz.drew := (Ext.refl _ wz).drew
  refine wp_region_N (fun w' => w'.cell? ⟨BM, 0, none⟩ = some (.int .i64 fr) ∧ w'.cell? ⟨r, 5, none⟩ = some (.int .i64 N.term)) 10 (by kernel_rfl) ?_
  have hSd : wz.drew.cell? ⟨BM, 0, none⟩ = some (.int .i64 fr) ∧ wz.drew.cell? ⟨r, 5, none⟩ = some (.int .i64 N.term) := ⟨zM, z5⟩
  generalize wz.drew = wk at hSd xq ⊢
  refine wpAnyN_free 0 (v := ?_) (by kernel_rfl) rfl (fun _ _ _ h => h) hSd (by rfl) ?_ ?_; rotate_left; (focus (intro w; go_simp; try with_reducible rfl)); (try simp only [Act.put]); (try simp only [List.setIfInBounds_toArray, List.set_cons_zero, List.set_cons_succ])
  refine wpAnyN_free 1 (v := ?_) (by kernel_rfl) rfl (fun _ _ _ h => h) hSd (by rfl) ?_ ?_; rotate_left; (focus (intro w; go_simp; try with_reducible rfl)); (try simp only [Act.put]); (try simp only [List.setIfInBounds_toArray, List.set_cons_zero, List.set_cons_succ])
  refine wpAnyN_take 2 (v := ?_) (by kernel_rfl) rfl (fun _ _ _ h => h) hSd (by rfl) ?_ ?_; rotate_left; (focus (intro w hSw; (try dsimp only at hSw); go_simp; try with_reducible rfl)); (try simp only [Act.put]); (try simp only [List.setIfInBounds_toArray, List.set_cons_zero, List.set_cons_succ])
  refine wpAnyN_free 3 (v := ?_) (by kernel_rfl) rfl (fun _ _ _ h => h) hSd (by rfl) ?_ ?_; rotate_left; (focus (intro w; go_simp; try with_reducible rfl)); (try simp only [Act.put]); (try simp only [List.setIfInBounds_toArray, List.set_cons_zero, List.set_cons_succ])
  refine wpAnyN_free 4 (v := ?_) (by kernel_rfl) rfl (fun _ _ _ h => h) hSd (by rfl) ?_ ?_; rotate_left; (focus (intro w; go_simp; try with_reducible rfl)); (try simp only [Act.put]); (try simp only [List.setIfInBounds_toArray, List.set_cons_zero, List.set_cons_succ])
  refine wpAnyN_free 5 (v := ?_) (by kernel_rfl) rfl (fun _ _ _ h => h) hSd (by rfl) ?_ ?_; rotate_left; (focus (intro w; go_simp; try with_reducible rfl)); (try simp only [Act.put]); (try simp only [List.setIfInBounds_toArray, List.set_cons_zero, List.set_cons_succ])
  refine wpAnyN_take 6 (v := ?_) (by kernel_rfl) rfl (fun _ _ _ h => h) hSd (by rfl) ?_ ?_; rotate_left; (focus (intro w hSw; (try dsimp only at hSw); go_simp; try with_reducible rfl)); (try simp only [Act.put]); (try simp only [List.setIfInBounds_toArray, List.set_cons_zero, List.set_cons_succ])
  refine wpAnyN_free 7 (v := ?_) (by kernel_rfl) rfl (fun _ _ _ h => h) hSd (by rfl) ?_ ?_; rotate_left; (focus (intro w; go_simp; try with_reducible rfl)); (try simp only [Act.put]); (try simp only [List.setIfInBounds_toArray, List.set_cons_zero, List.set_cons_succ])
  refine wpAnyN_one 8 (by kernel_rfl) (by simp only [List.getElem?_toArray, List.getElem?_cons_succ, List.getElem?_cons_zero] <;> rfl) (by rfl) (fun K hK => ?_)
  go_simp
  obtain ⟨w3, B, e3, e4, x3, b3, hs3⟩ := alloc_facts wk (.cells #[.int .i64 N.term, .int .i64 1] 3)
  rw [e3, e4]
  have hS3 := And.intro (x3.cell hSd.1 (fun h => h)) (x3.cell hSd.2 (fun h => h))
  refine hK.out _ _ hS3 (fun hSd => ?_)
  clear hK K hSd
  have hSd := hS3
  (try simp only [Act.put]); (try simp only [List.setIfInBounds_toArray, List.set_cons_zero, List.set_cons_succ])
  refine wpAnyN_one 9 (by kernel_rfl) (by simp only [List.getElem?_toArray, List.getElem?_cons_succ, List.getElem?_cons_zero] <;> rfl) (by rfl) (fun K hK => ?_)
  go_simp
  have y3 : Ext NoB wz w3 := xq.trans x3
  refine (msg_any r N.id fr 2 none (some ⟨B, 0, none⟩) 0 0 2 2 w3 (y3.cell z0 (fun h => h))).mono ?_; rintro e w4 ⟨rfl, x4⟩
  have hS4 := And.intro (x4.cell hSd.1 (fun h => h)) (x4.cell hSd.2 (fun h => h))
  unfold msgV
  go_wp2_with fail
  refine hK.out _ _ hS4 (fun hSd => ?_)
  clear hK K hSd
  (try simp only [Act.put]); (try simp only [List.setIfInBounds_toArray, List.set_cons_zero, List.set_cons_succ])
  refine wpAnyN_tail (by rfl) (by decide) (by kernel_rfl) (by kernel_rfl) ?_
  simp only [List.drop_succ_cons, List.drop_zero]
  have Hb4 := Lib.hid (x4.blk b3 (fun h => h))
  have Hy4 := Lib.hid (y3.trans x4)
  clear hS4 hS3 hSd x4 b3 y3 x3 e3
  go_wp2_with fail
  obtain ⟨w5, R, q1, q2, x5, b5, hs5⟩ := alloc_facts w4 (.cells #[.int .i64 N.id, .int .i64 fr, .int .i64 2, .slice (some ⟨B, 0, none⟩) 2 2, .slice none 0 0] 37)
  rw [q1, q2]
  have Hb5 := Lib.hid b5
  have Hx5 := Lib.hid x5
  have Hq2 := Lib.hid q2
  clear q1 q2 b5 x5 hs5
  go_wp2_with fail
  go_ret
  have x5 := Hx5.out
  have hsend : MsgsAre w5 (.slice (some ⟨R, 0, none⟩) 1 1) [voteMsg N fr 1] := MsgsAre.one (fr := (0, 0)) (m := [.int .i64 N.id, .int .i64 fr, .int .i64 2, .slice (some ⟨B, 0, none⟩) 2 2, .slice none 0 0]) Hb5.out ⟨_, _, rfl, .inr ⟨B, 2, 2, _, rfl, x5.blk Hb4.out (fun h => h), Nat.le_refl _, Nat.le_refl _, by unfold maxLen; omega, rfl, rfl⟩, Own.nil _ _ _⟩
  have y5 : Ext NoB wz w5 := Hy4.out.trans x5
  have hfresh : Fresh wz (.slice (some ⟨R, 0, none⟩) 1 1) := fun g hg => by
   simp [Value.ownBlock] at hg
   have := Hq2.out
   have := Hy4.out.size
   omega
  have s0 := Hy0d.out.size
  have s2 := Hx2.out.size
  have s3 := Hx3.out.size
  have s5 := y5.size
  have x3F : Ext F w wz := ((Hy0d.out.of_no).trans Hx2.out).next Hx3.out (fun b h hb => h.elim (fun h => h) (fun h => by omega))
  have hR5 : RaftIs w5 r d (Gr F wd w2) (N.gives fr draw) room true := ⟨⟨D2, ps2, Hn3.out.no y5, Hp2.out.1, Hp2.out.2⟩, fun h => (by cases h), Hr2.out.vote, Hr2.out.term⟩
  refine ⟨_, rfl, hsend, fun g hg => by have := hfresh g hg; omega, x3F.nextNo y5, hR5.wide (fun b hb => ?_) (fun b hb => ?_)⟩
  ·rcases hb with hb | hb
   ·exact .inl hb
   ·exact .inr (by omega)
  ·rcases hb with hb | hb
   ·exact Nat.lt_of_lt_of_le (H.out.lt b hb) (by omega)
   ·exact hb.2
end Go.Proofs.YtgglbholbkdgfaaGreatDoor
namespace Go.Proofs.YtgglbholbkdgfaaGreatDoor
open Go.RowKit
set_option maxRecDepth 100000 in
set_option maxHeartbeats 8000000 in
theorem asked_again (r d : Nat) (F : Nat → Prop) (N : PNode) (room : Nat) (saved : Bool) (fr tt draw i1 t2 : Int) (na da : Option Addr) (nc dl dc : Nat) (l : List Int) (w : World) (h : RaftIs w r d F N room saved)
  (hn : Rd w 1 (.slice na l.length nc) (intsV l)) (hl : l = [(N.term : Int), i1, t2]) (hv : N.vote = fr) (hnew : N.newer i1 t2 = true) (hfr : 0 ≤ fr ∧ fr ≤ 5) :
  Calls Tryz.prog 47 #[.pointer (some ⟨r, 0, none⟩), msgV fr tt 1 (.slice na l.length nc) (.slice da dl dc), .int .i64 draw] w (Sends r d F w [voteMsg N fr 1] (N.gives fr draw) room true) := by
 obtain ⟨L, tv, hb, hi1, hi2, hcm, hll⟩ := h.cells
 have hlen : l.length = 3 := by rw [hl]; rfl
 obtain ⟨nb, noff, rfl, hcell⟩ := nums_cell hn (by omega)
 have cn0 : w.cell? ⟨nb, noff, none⟩ = some (.int .i64 N.term) := hcell 0 _ (by rw [hl]; rfl)
 have cn1 : w.cell? ⟨nb, noff + 1, none⟩ = some (.int .i64 i1) := hcell 1 _ (by rw [hl]; rfl)
 have cn2 : w.cell? ⟨nb, noff + 2, none⟩ = some (.int .i64 t2) := hcell 2 _ (by rw [hl]; rfl)
 rw [hlen] at hn ⊢
 obtain ⟨D, ps, hN, hrm, hperm⟩ := h.is
 have c0 : w.cell? ⟨r, 0, none⟩ = some (.int .i64 N.id) := by rw [cell_of_blk hb]; rfl
 have c5 : w.cell? ⟨r, 5, none⟩ = some (.int .i64 N.term) := by rw [cell_of_blk hb]; rfl
 have c6 : w.cell? ⟨r, 6, none⟩ = some (.int .i64 N.vote) := by rw [cell_of_blk hb]; rfl
 have hrl := lt_of_blk hb
 have hlast := Lib.hid (fun (w' : World) (x : Ext NoB w w') => rlast_any r d F N D ps w' (hN.no x))
 have hlastq := Lib.hid (fun (w1 : World) (x : Ext NoB w w1) (n : Nat) => (rlast_any r d F N D ps (w1.drewN n) ((hN.no x).no ((Ext.refl NoB w1).drewN n))).mono (R' := fun e w' => e = .returned (.int .i64 N.log.length) ∧ w' = w1.drewN n) (fun e w' h => ⟨h.1, h.2.symm⟩))
 have hterm := Lib.hid (fun (w' : World) (x : Ext NoB w w') => termOf_any r d F N D ps N.log.length w' (hN.no x) (by omega))
 obtain ⟨lt, hlt⟩ : ∃ lt, N.termOf N.log.length = lt := ⟨_, rfl⟩
 rw [hlt] at hterm
 have hA : (decide ((lt : Int) < t2) = true) ∨ (decide ((lt : Int) < t2) = false ∧ (t2 == (lt : Int)) = true ∧ decide ((N.log.length : Int) ≤ i1) = true) := by
  have hnw : N.newer i1 t2 = true := hnew
  unfold PNode.newer at hnw
  rw [hlt] at hnw
  simp only [Bool.or_eq_true, Bool.and_eq_true, decide_eq_true_eq] at hnw
  rcases hnw with h1 | ⟨h1, h2⟩
  ·exact .inl (decide_eq_true h1)
  ·exact .inr ⟨decide_eq_false (by omega), beq_iff_eq.2 h1, decide_eq_true h2⟩
 have g1 : ((N.term : Int) == (N.term : Int)) = true := by simp
 clear hlt hnew
 have g2 : (N.vote == -1) = false := beq_eq_false_iff_ne.2 (by omega)
 have g3 : (N.vote == fr) = true := beq_iff_eq.2 hv
 have hsv : saved = true := by
  cases hs : saved with
  | true => rfl
  | false => have := (h.fresh hs).2; omega
 subst hsv
 have hgv : N.gives fr draw = { N with wait := 10 + (max 0 draw) % 10 } := by unfold PNode.gives; rw [← hv]
 have Hgv := Lib.hid hgv
 have H := Lib.hid h
 have Hp := Lib.hid (And.intro hrm hperm)
 have HN := Lib.hid hN
 clear h hb hn hcell hl hlen hN hrm hperm hv hgv
 unfold msgV
 rcases hA with h1 | ⟨h1, h2, h3⟩
 all_goals
  go_enter Tryz.func47, Tryz.ntmps47
  go_wp2_with fail
  obtain ⟨w1, BM, e1, e2, x1, b1, hs1⟩ := alloc_facts w (.cells #[.int .i64 fr, .int .i64 tt, .int .i64 1, .slice (some ⟨nb, noff, none⟩) 3 nc, .slice da dl dc] 37)
  rw [e1, e2]
  have dM0 : w1.cell? ⟨BM, 0, none⟩ = some (.int .i64 fr) := by rw [cell_of_blk b1]; rfl
  have dM3 : w1.cell? ⟨BM, 3, none⟩ = some (.slice (some ⟨nb, noff, none⟩) 3 nc) := by rw [cell_of_blk b1]; rfl
  have d0 := x1.cell c0 (fun h => h)
  have d5 := x1.cell c5 (fun h => h)
  have d6 := x1.cell c6 (fun h => h)
  have dn0 := x1.cell cn0 (fun h => h)
  have dn1 := x1.cell cn1 (fun h => h)
  have dn2 := x1.cell cn2 (fun h => h)
  have Hlast := Lib.hid (hlast.out w1 x1)
  have Hterm := Lib.hid (hterm.out w1 x1)
  have Hlq := Lib.hid (hlastq.out w1 x1)
  have Hx1 := Lib.hid x1
  have Hb1 := Lib.hid b1
  have hBM : w.heap.size = BM := e2
  clear e1 e2 x1 b1 hs1 c0 c5 c6 cn0 cn1 cn2 hlast hterm hlastq
  refine Hlast.out.mono ?_; rintro e w2 ⟨rfl, rfl⟩
  go_wp2_with fail
  refine Hterm.out.mono ?_; rintro e w2 ⟨rfl, rfl⟩
  go_wp2_with fail
  go_quiet (first | (go_at_call 54; exact Calls.quiet_of_same (Hlq.out _)))
  go_wp2_with fail
  have xa : Ext NoB w1 (w1.drewN nq) := (Ext.refl _ w1).drewN _
  generalize w1.drewN nq = wa at xa ⊢
  have a0 := xa.cell d0 (fun h => h)
  have a5 := xa.cell d5 (fun h => h)
  have a6 := xa.cell d6 (fun h => h)
  have aM0 := xa.cell dM0 (fun h => h)
  have aM3 := xa.cell dM3 (fun h => h)
  have an0 := xa.cell dn0 (fun h => h)
  clear d0 d5 d6 dM0 dM3 dn0 dn1 dn2
  go_quiet (fail)
  go_wp2_with fail
  have xb : Ext NoB wa (wa.drewN nq) := (Ext.refl _ wa).drewN _
  generalize wa.drewN nq = wb at xb ⊢
  have b0 := xb.cell a0 (fun h => h)
  have b5 := xb.cell a5 (fun h => h)
  have b6 := xb.cell a6 (fun h => h)
  have bM0 := xb.cell aM0 (fun h => h)
  have Hxb := Lib.hid ((Hx1.out.trans xa).trans xb)
  have Hb := Lib.hid (xb.blk (xa.blk Hb1.out (fun h => h)) (fun h => h))
  clear a0 a5 a6 aM0 aM3 an0 xa xb Hlast Hterm Hlq
  have hBMF : ¬ F BM := fun h => by have := H.out.lt BM h; omega
  go_quiet (fail)
  go_wp2_with fail
  have xd : Ext NoB wb (wb.drewN nq) := (Ext.refl _ wb).drewN _
  generalize wb.drewN nq = w2 at xd ⊢
  have bM2 := xd.blk Hb.out (fun h => h)
  have y2 := Hxb.out.trans xd
  refine (anew_any r d F N D ps draw w2 (HN.out.no y2)).mono ?_; rintro e w3 ⟨rfl, x3, n3⟩
  have bM3 := x3.blk bM2 hBMF
  have hnode : ∃ L3 tv3, w3.heap[r]? = some (.cells (nodeArr { N with wait := 10 + (max 0 draw) % 10 } d L3 tv3) 92 (0, 0)) := by
   obtain ⟨L4, _, _, _, tv4, _, h4, _⟩ := n3
   exact ⟨L4, tv4, h4.blk⟩
  obtain ⟨L3, tv3, hb3⟩ := hnode
  have Hy2 := Lib.hid y2
  clear xd bM2 y2 b0 b5 b6 bM0
  have z0 : w3.cell? ⟨r, 0, none⟩ = some (.int .i64 N.id) := by rw [cell_of_blk hb3]; rfl
  have z5 : w3.cell? ⟨r, 5, none⟩ = some (.int .i64 N.term) := by rw [cell_of_blk hb3]; rfl
  have zM : w3.cell? ⟨BM, 0, none⟩ = some (.int .i64 fr) := by rw [cell_of_blk bM3]; rfl
  have Hn3 := Lib.hid n3
  have Hx3 := Lib.hid x3
  clear n3 x3 bM3 hb3
  go_wp2_with fail
  obtain ⟨wz, hwz⟩ : ∃ wz, w3 = wz := ⟨_, rfl⟩
  rw [hwz] at z0 z5 zM Hn3 Hx3 ⊢
  clear hwz
  have xq : Ext NoB wz wz.drew := (Ext.refl _ wz).drew
  refine wp_region_N (fun w' => w'.cell? ⟨BM, 0, none⟩ = some (.int .i64 fr) ∧ w'.cell? ⟨r, 5, none⟩ = some (.int .i64 N.term)) 10 (by kernel_rfl) ?_
  have hSd : wz.drew.cell? ⟨BM, 0, none⟩ = some (.int .i64 fr) ∧ wz.drew.cell? ⟨r, 5, none⟩ = some (.int .i64 N.term) := ⟨zM, z5⟩
  generalize wz.drew = wk at hSd xq ⊢
  refine wpAnyN_free 0 (v := ?_) (by kernel_rfl) rfl (fun _ _ _ h => h) hSd (by rfl) ?_ ?_; rotate_left; (focus (intro w; go_simp; try with_reducible rfl)); (try simp only [Act.put]); (try simp only [List.setIfInBounds_toArray, List.set_cons_zero, List.set_cons_succ])
  refine wpAnyN_free 1 (v := ?_) (by kernel_rfl) rfl (fun _ _ _ h => h) hSd (by rfl) ?_ ?_; rotate_left; (focus (intro w; go_simp; try with_reducible rfl)); (try simp only [Act.put]); (try simp only [List.setIfInBounds_toArray, List.set_cons_zero, List.set_cons_succ])
  refine wpAnyN_take 2 (v := ?_) (by kernel_rfl) rfl (fun _ _ _ h => h) hSd (by rfl) ?_ ?_; rotate_left; (focus (intro w hSw; (try dsimp only at hSw); go_simp; try with_reducible rfl)); (try simp only [Act.put]); (try simp only [List.setIfInBounds_toArray, List.set_cons_zero, List.set_cons_succ])
  refine wpAnyN_free 3 (v := ?_) (by kernel_rfl) rfl (fun _ _ _ h => h) hSd (by rfl) ?_ ?_; rotate_left; (focus (intro w; go_simp; try with_reducible rfl)); (try simp only [Act.put]); (try simp only [List.setIfInBounds_toArray, List.set_cons_zero, List.set_cons_succ])
  refine wpAnyN_free 4 (v := ?_) (by kernel_rfl) rfl (fun _ _ _ h => h) hSd (by rfl) ?_ ?_; rotate_left; (focus (intro w; go_simp; try with_reducible rfl)); (try simp only [Act.put]); (try simp only [List.setIfInBounds_toArray, List.set_cons_zero, List.set_cons_succ])
  refine wpAnyN_free 5 (v := ?_) (by kernel_rfl) rfl (fun _ _ _ h => h) hSd (by rfl) ?_ ?_; rotate_left; (focus (intro w; go_simp; try with_reducible rfl)); (try simp only [Act.put]); (try simp only [List.setIfInBounds_toArray, List.set_cons_zero, List.set_cons_succ])
  refine wpAnyN_take 6 (v := ?_) (by kernel_rfl) rfl (fun _ _ _ h => h) hSd (by rfl) ?_ ?_; rotate_left; (focus (intro w hSw; (try dsimp only at hSw); go_simp; try with_reducible rfl)); (try simp only [Act.put]); (try simp only [List.setIfInBounds_toArray, List.set_cons_zero, List.set_cons_succ])
  refine wpAnyN_free 7 (v := ?_) (by kernel_rfl) rfl (fun _ _ _ h => h) hSd (by rfl) ?_ ?_; rotate_left; (focus (intro w; go_simp; try with_reducible rfl)); (try simp only [Act.put]); (try simp only [List.setIfInBounds_toArray, List.set_cons_zero, List.set_cons_succ])
  refine wpAnyN_one 8 (by kernel_rfl) (by simp only [List.getElem?_toArray, List.getElem?_cons_succ, List.getElem?_cons_zero] <;> rfl) (by rfl) (fun K hK => ?_)
  go_simp
  obtain ⟨w3, B, e3, e4, x3, b3, hs3⟩ := alloc_facts wk (.cells #[.int .i64 N.term, .int .i64 1] 3)
  rw [e3, e4]
  have hS3 := And.intro (x3.cell hSd.1 (fun h => h)) (x3.cell hSd.2 (fun h => h))
  refine hK.out _ _ hS3 (fun hSd => ?_)
  clear hK K hSd
  have hSd := hS3
  (try simp only [Act.put]); (try simp only [List.setIfInBounds_toArray, List.set_cons_zero, List.set_cons_succ])
  refine wpAnyN_one 9 (by kernel_rfl) (by simp only [List.getElem?_toArray, List.getElem?_cons_succ, List.getElem?_cons_zero] <;> rfl) (by rfl) (fun K hK => ?_)
  go_simp
  have y3 : Ext NoB wz w3 := xq.trans x3
  refine (msg_any r N.id fr 2 none (some ⟨B, 0, none⟩) 0 0 2 2 w3 (y3.cell z0 (fun h => h))).mono ?_; rintro e w4 ⟨rfl, x4⟩
  have hS4 := And.intro (x4.cell hSd.1 (fun h => h)) (x4.cell hSd.2 (fun h => h))
  unfold msgV
  go_wp2_with fail
  refine hK.out _ _ hS4 (fun hSd => ?_)
  clear hK K hSd
  (try simp only [Act.put]); (try simp only [List.setIfInBounds_toArray, List.set_cons_zero, List.set_cons_succ])
  refine wpAnyN_tail (by rfl) (by decide) (by kernel_rfl) (by kernel_rfl) ?_
  simp only [List.drop_succ_cons, List.drop_zero]
  have Hb4 := Lib.hid (x4.blk b3 (fun h => h))
  have Hy4 := Lib.hid (y3.trans x4)
  clear hS4 hS3 hSd x4 b3 y3 x3 e3
  go_wp2_with fail
  obtain ⟨w5, R, q1, q2, x5, b5, hs5⟩ := alloc_facts w4 (.cells #[.int .i64 N.id, .int .i64 fr, .int .i64 2, .slice (some ⟨B, 0, none⟩) 2 2, .slice none 0 0] 37)
  rw [q1, q2]
  have Hb5 := Lib.hid b5
  have Hx5 := Lib.hid x5
  have Hq2 := Lib.hid q2
  clear q1 q2 b5 x5 hs5
  go_wp2_with fail
  go_ret
  have x5 := Hx5.out
  have hsend : MsgsAre w5 (.slice (some ⟨R, 0, none⟩) 1 1) [voteMsg N fr 1] := MsgsAre.one (fr := (0, 0)) (m := [.int .i64 N.id, .int .i64 fr, .int .i64 2, .slice (some ⟨B, 0, none⟩) 2 2, .slice none 0 0]) Hb5.out ⟨_, _, rfl, .inr ⟨B, 2, 2, _, rfl, x5.blk Hb4.out (fun h => h), Nat.le_refl _, Nat.le_refl _, by unfold maxLen; omega, rfl, rfl⟩, Own.nil _ _ _⟩
  have y5 : Ext NoB wz w5 := Hy4.out.trans x5
  have hfresh : Fresh wz (.slice (some ⟨R, 0, none⟩) 1 1) := fun g hg => by
   simp [Value.ownBlock] at hg
   have := Hq2.out
   have := Hy4.out.size
   omega
  have s0 := Hy2.out.size
  have s3 := Hx3.out.size
  have s5 := y5.size
  have x3F : Ext F w wz := (Hy2.out.of_no).trans Hx3.out
  rw [Hgv.out]
  have hR5 : RaftIs w5 r d F { N with wait := 10 + (max 0 draw) % 10 } room true := ⟨⟨D, ps, Hn3.out.no y5, Hp.out.1, Hp.out.2⟩, fun h => (by cases h), H.out.vote, H.out.term⟩
  exact ⟨_, rfl, hsend, fun g hg => by have := hfresh g hg; omega, x3F.nextNo y5, hR5.wide (fun b hb => .inl hb) (fun b hb => hb.elim (hR5.lt b) (fun h => h.2))⟩
end Go.Proofs.YtgglbholbkdgfaaGreatDoor
namespace Go.Proofs.YtgglbholbkdgfaaGreatDoor
open Go.RowKit
set_option maxRecDepth 100000 in
set_option maxHeartbeats 2000000 in
theorem may_from (r d : Nat) (F : Nat → Prop) (N : PNode) (D : PDisk) (ps : List PSeg) (fr kd : Int) (na da : Option Addr) (nn nc dl dc : Nat) (w : World) (h : NodeIs w r d F N D ps) (hfr : fr < 0 ∨ (N.n : Int) ≤ fr ∨ fr = N.id) :
  Calls Tryz.prog 45 #[.pointer (some ⟨r, 0, none⟩), msgV fr N.id kd (.slice na nn nc) (.slice da dl dc)] w (MayEnds false w) := by
 obtain ⟨L, FD, FL, FR, tv, dl', hA, _⟩ := h
 have hb := hA.blk
 have c0 : w.cell? ⟨r, 0, none⟩ = some (.int .i64 N.id) := by rw [cell_of_blk hb]; rfl
 have c1 : w.cell? ⟨r, 1, none⟩ = some (.int .i64 N.n) := by rw [cell_of_blk hb]; rfl
 have hrl := lt_of_blk hb
 have hn5 := hA.idn.1
 have hb1 : ((N.id : Int) != (N.id : Int)) = false := by simp
 have hc : (decide (fr < 0) = true) ∨ (decide (fr < 0) = false ∧ decide ((N.n : Int) ≤ fr) = true) ∨ (decide (fr < 0) = false ∧ decide ((N.n : Int) ≤ fr) = false ∧ (fr == (N.id : Int)) = true) := by
  by_cases h1 : fr < 0
  ·exact .inl (decide_eq_true h1)
  ·by_cases h2 : (N.n : Int) ≤ fr
   ·exact .inr (.inl ⟨decide_eq_false h1, decide_eq_true h2⟩)
   ·exact .inr (.inr ⟨decide_eq_false h1, decide_eq_false h2, beq_iff_eq.2 (by omega)⟩)
 clear hA hb hfr
 unfold msgV
 rcases hc with h1 | ⟨h1, h2⟩ | ⟨h1, h2, h3⟩
 all_goals
  go_enter Tryz.func45, Tryz.ntmps45
  go_wp2_with fail
  go_quiet (fail)
  go_wp2_with fail
  go_ret
  exact ⟨retBool rfl, ((Ext.refl NoB w).alloc _).drewN _⟩
set_option maxRecDepth 100000 in
set_option maxHeartbeats 2000000 in
theorem Hear_refused (r d : Nat) (F : Nat → Prop) (N : PNode) (room : Nat) (saved : Bool) (fr tt kd draw : Int) (na da : Option Addr) (nn nc dl dc : Nat) (w : World) (h : RaftIs w r d F N room saved)
  (hmay : ∀ w1, Ext NoB w w1 → Calls Tryz.prog 45 #[.pointer (some ⟨r, 0, none⟩), msgV fr tt kd (.slice na nn nc) (.slice da dl dc)] w1 (MayEnds false w1)) :
  Calls Tryz.prog 19 #[.pointer (some ⟨r, 0, none⟩), msgV fr tt kd (.slice na nn nc) (.slice da dl dc), .int .i64 draw] w (Sends r d F w [] N room saved) := by
 obtain ⟨L, tv, hb, hi1, hi2, hcm, hll⟩ := h.cells
 have c23 : w.cell? ⟨r, 23, none⟩ = some (.bool false) := by rw [cell_of_blk hb]; rfl
 have hrl := lt_of_blk hb
 have H := Lib.hid h
 have Hmay := Lib.hid hmay
 clear h hb hmay
 unfold msgV
 go_enter Tryz.func19, Tryz.ntmps19
 go_wp2_with fail
 obtain ⟨w1, BM, e1, e2, x1, b1, hs1⟩ := alloc_facts w (.cells #[.int .i64 fr, .int .i64 tt, .int .i64 kd, .slice na nn nc, .slice da dl dc] 37)
 rw [e1, e2]
 refine (Hmay.out w1 x1).mono ?_; rintro e w2 ⟨rfl, x2⟩
 have x02 := Lib.hid (x1.trans x2)
 clear e1 e2 x1 b1 hs1 x2
 go_wp2_with fail
 go_ret
 exact Sends.none x02.out H.out
def PNode.hears (N : PNode) (fr draw : Int) (nums : List Int) (dl : Nat) : List PMsg × PNode :=
 if fr < 0 ∨ (N.n : Int) ≤ fr ∨ fr = N.id ∨ mayB 1 nums dl = false then ([], N)
 else
  let N1 := if (N.term : Int) < nums.getD 0 0 then N.newer_ (nums.getD 0 0).toNat else N
  if N1.grants fr (nums.getD 0 0) (nums.getD 1 0) (nums.getD 2 0) then ([voteMsg N1 fr 1], N1.gives fr draw) else ([voteMsg N1 fr 0], N1)
theorem good3 {l : List Int} (h : goodB l 3 = true) : ∃ a b c : Int, l = [a, b, c] ∧ 0 ≤ a ∧ a ≤ 1099511627776 ∧ 0 ≤ b ∧ b ≤ 1099511627776 ∧ 0 ≤ c ∧ c ≤ 1099511627776 := by
 unfold goodB at h
 simp only [Bool.and_eq_true, decide_eq_true_eq] at h
 match l, h with
 | [a, b, c], h =>
  have h2 := h.2
  simp only [List.all_cons, List.all_nil, Bool.and_eq_true, okNum, decide_eq_true_eq] at h2
  exact ⟨a, b, c, rfl, h2.1.1, h2.1.2, h2.2.1.1, h2.2.1.2, h2.2.2.1.1, h2.2.2.1.2⟩
 | [], h => simp at h
 | [a], h => simp at h
 | [a, b], h => simp at h
 | a :: b :: c :: d :: l, h =>
  have := h.1
  simp only [List.length_cons] at this
  omega
theorem asked_any (r d : Nat) (F : Nat → Prop) (N : PNode) (room : Nat) (saved : Bool) (fr tt draw i1 t2 : Int) (t0 : Int) (na da : Option Addr) (nc dl dc : Nat) (l : List Int) (w : World) (h : RaftIs w r d F N room saved)
  (hn : Rd w 1 (.slice na l.length nc) (intsV l)) (hl : l = [t0, i1, t2]) (hfr : 0 ≤ fr ∧ fr ≤ 5) (hroom : N.bytes + 100 ≤ room) :
  Calls Tryz.prog 47 #[.pointer (some ⟨r, 0, none⟩), msgV fr tt 1 (.slice na l.length nc) (.slice da dl dc), .int .i64 draw] w (fun e w' => ∃ s', Sends r d F w (if N.grants fr t0 i1 t2 then [voteMsg N fr 1] else [voteMsg N fr 0]) (if N.grants fr t0 i1 t2 then N.gives fr draw else N) room s' e w' ∧ (saved = true → s' = true)) := by
 cases hg : N.grants fr t0 i1 t2 with
 | false => exact (asked_no r d F N room saved fr tt draw t0 i1 t2 na da nc dl dc l w h hn hl hg).mono (fun e w' hm => ⟨saved, hm.sends h, fun h => h⟩)
 | true =>
  have hg' := hg
  unfold PNode.grants at hg'
  simp only [Bool.and_eq_true, Bool.or_eq_true, decide_eq_true_eq] at hg'
  obtain ⟨⟨h1, h2⟩, h3⟩ := hg'
  subst h1
  by_cases hv : N.vote = -1
  ·exact (asked_first r d F N room saved fr tt draw i1 t2 na da nc dl dc l w h hn hl hv h3 hfr hroom).mono (fun e w' hm => ⟨true, hm, fun _ => rfl⟩)
  ·exact (asked_again r d F N room saved fr tt draw i1 t2 na da nc dl dc l w h hn hl (h2.resolve_left hv) h3 hfr).mono (fun e w' hm => ⟨true, hm, fun _ => rfl⟩)
end Go.Proofs.YtgglbholbkdgfaaGreatDoor
namespace Go.Proofs.YtgglbholbkdgfaaGreatDoor
open Go.RowKit
def SendsE (r d : Nat) (F : Nat → Prop) (w : World) (Ms : List PMsg) (N' : PNode) (room : Nat) (e : Ending) (w' : World) : Prop := ∃ s', Sends r d F w Ms N' room s' e w'
set_option maxRecDepth 100000 in
set_option maxHeartbeats 2000000 in
theorem Hear_ask1 (r d : Nat) (F : Nat → Prop) (N N' : PNode) (room : Nat) (saved : Bool) (Ms : List PMsg) (fr tt draw t0 : Int) (na da : Option Addr) (nc dl dc : Nat) (l : List Int) (w : World) (h : RaftIs w r d F N room saved)
  (hn : Rd w 1 (.slice na l.length nc) (intsV l)) (h0 : l[0]? = some t0) (hle : t0 ≤ N.term)
  (hmay : ∀ w1, Ext NoB w w1 → Calls Tryz.prog 45 #[.pointer (some ⟨r, 0, none⟩), msgV fr tt 1 (.slice na l.length nc) (.slice da dl dc)] w1 (MayEnds true w1))
  (hdo : ∀ w1, Ext NoB w w1 → Calls Tryz.prog 47 #[.pointer (some ⟨r, 0, none⟩), msgV fr tt 1 (.slice na l.length nc) (.slice da dl dc), .int .i64 draw] w1 (SendsE r d F w1 Ms N' room)) :
  Calls Tryz.prog 19 #[.pointer (some ⟨r, 0, none⟩), msgV fr tt 1 (.slice na l.length nc) (.slice da dl dc), .int .i64 draw] w (SendsE r d F w Ms N' room) := by
 obtain ⟨L, tv, hb, hi1, hi2, hcm, hll⟩ := h.cells
 have hlp : 0 < l.length := (List.getElem?_eq_some_iff.1 h0).1
 obtain ⟨nb, noff, rfl, hcell⟩ := nums_cell hn hlp
 have cn0 : w.cell? ⟨nb, noff, none⟩ = some (.int .i64 t0) := hcell 0 t0 h0
 have c5 : w.cell? ⟨r, 5, none⟩ = some (.int .i64 N.term) := by rw [cell_of_blk hb]; rfl
 have c23 : w.cell? ⟨r, 23, none⟩ = some (.bool false) := by rw [cell_of_blk hb]; rfl
 have hlp2 : (0 : Int) < (l.length : Int) := by omega
 have hle2 : ¬ ((N.term : Int) < t0) := by omega
 have hrl := lt_of_blk hb
 have Hlt := Lib.hid h.lt
 have Hmay := Lib.hid hmay
 have Hdo := Lib.hid hdo
 clear h hb hn hcell h0 hmay hdo
 unfold msgV
 go_enter Tryz.func19, Tryz.ntmps19
 go_wp2_with fail
 obtain ⟨w1, BM, e1, e2, x1, b1, hs1⟩ := alloc_facts w (.cells #[.int .i64 fr, .int .i64 tt, .int .i64 1, .slice (some ⟨nb, noff, none⟩) l.length nc, .slice da dl dc] 37)
 rw [e1, e2]
 refine (Hmay.out w1 x1).mono ?_; rintro e w2 ⟨rfl, x2⟩
 have x02 := x1.trans x2
 have b2 := x2.blk b1 (fun h => h)
 have dM0 : w2.cell? ⟨BM, 0, none⟩ = some (.int .i64 fr) := by rw [cell_of_blk b2]; rfl
 have dM1 : w2.cell? ⟨BM, 1, none⟩ = some (.int .i64 tt) := by rw [cell_of_blk b2]; rfl
 have dM2 : w2.cell? ⟨BM, 2, none⟩ = some (.int .i64 1) := by rw [cell_of_blk b2]; rfl
 have dM3 : w2.cell? ⟨BM, 3, none⟩ = some (.slice (some ⟨nb, noff, none⟩) l.length nc) := by rw [cell_of_blk b2]; rfl
 have dM4 : w2.cell? ⟨BM, 4, none⟩ = some (.slice da dl dc) := by rw [cell_of_blk b2]; rfl
 have d5 := x02.cell c5 (fun h => h)
 have dn0 := x02.cell cn0 (fun h => h)
 have Hx02 := Lib.hid x02
 clear e1 e2 x1 b1 hs1 x2 x02 b2 c5 cn0 c23
 go_wp2_with fail
 refine (Hdo.out w2 Hx02.out).mono ?_; rintro e w3 hS
 obtain ⟨s', hS⟩ := hS
 have hS := hS.behind (Hx02.out.of_no) Hlt.out
 obtain ⟨v, rfl, hm, hf, hx, hR⟩ := hS
 obtain ⟨ms, hms, hown⟩ := hm
 obtain ⟨va, vn, vc, rfl, _⟩ := hown.rd
 have Hm := Lib.hid hms
 have Ho := Lib.hid hown
 have Hf := Lib.hid hf
 have Hx := Lib.hid hx
 have HR := Lib.hid hR
 clear hms hown hf hx hR
 go_wp2_with fail
 go_ret
 exact ⟨s', _, rfl, ⟨ms, Hm.out, Ho.out⟩, Hf.out, Hx.out, HR.out⟩
theorem Hear_asks (r d : Nat) (F : Nat → Prop) (N : PNode) (room : Nat) (saved : Bool) (fr draw : Int) (na da : Option Addr) (nc dl dc : Nat) (l : List Int) (w : World) (h : RaftIs w r d F N room saved)
  (hn : Rd w 1 (.slice na l.length nc) (intsV l)) (hoff : Off F (.slice na l.length nc)) (hll : l.length ≤ 1000000000) (hroom : N.bytes + 100 ≤ room) :
  Calls Tryz.prog 19 #[.pointer (some ⟨r, 0, none⟩), msgV fr N.id 1 (.slice na l.length nc) (.slice da dl dc), .int .i64 draw] w (SendsE r d F w (N.hears fr draw l dl).1 (N.hears fr draw l dl).2 room) := by
 obtain ⟨L, tv, hb, hi1, hi2, hcm, _⟩ := h.cells
 by_cases hfr : fr < 0 ∨ (N.n : Int) ≤ fr ∨ fr = N.id
 ·have e : N.hears fr draw l dl = ([], N) := by
   unfold PNode.hears
   rw [if_pos (by rcases hfr with h | h | h; exact .inl h; exact .inr (.inl h); exact .inr (.inr (.inl h)))]
  rw [e]
  refine (Hear_refused r d F N room saved fr N.id 1 draw na da l.length nc dl dc w h (fun w1 x => ?_)).mono (fun e w' hm => ⟨saved, hm⟩)
  obtain ⟨D, ps, hN, _, _⟩ := (h.no x).is
  exact may_from r d F N D ps fr 1 na da l.length nc dl dc w1 hN hfr
 ·obtain ⟨f, rfl⟩ := Int.eq_ofNat_of_zero_le (a := fr) (by omega)
  have hf1 : f < N.n := by omega
  have hf2 : f ≠ N.id := by omega
  have hmay : ∀ w1, Ext NoB w w1 → Calls Tryz.prog 45 #[.pointer (some ⟨r, 0, none⟩), msgV f N.id 1 (.slice na l.length nc) (.slice da dl dc)] w1 (MayEnds (mayB 1 l dl) w1) := fun w1 x => by
   obtain ⟨D, ps, hN, _, _⟩ := (h.no x).is
   exact may_1 r d F N D ps f na da nc dl dc l w1 hN hf1 hf2 (hn.no x) hll
  cases hm : mayB 1 l dl with
  | false =>
   have e : N.hears f draw l dl = ([], N) := by
    unfold PNode.hears
    rw [if_pos (.inr (.inr (.inr hm)))]
   rw [e]
   rw [hm] at hmay
   exact (Hear_refused r d F N room saved f N.id 1 draw na da l.length nc dl dc w h hmay).mono (fun e w' hm => ⟨saved, hm⟩)
  | true =>
   rw [hm] at hmay
   have hg : goodB l 3 = true := by
    unfold mayB at hm
    rw [if_pos rfl] at hm
    simp only [Bool.and_eq_true] at hm
    exact hm.1
   obtain ⟨a, b, c, hl, ha0, ha1, hb0, hb1, hc0, hc1⟩ := good3 hg
   have e : N.hears f draw l dl = (let N1 := if (N.term : Int) < a then N.newer_ a.toNat else N
    if N1.grants f a b c then ([voteMsg N1 f 1], N1.gives f draw) else ([voteMsg N1 f 0], N1)) := by
    unfold PNode.hears
    rw [if_neg (by rintro (h | h | h | h) <;> first | omega | (rw [hm] at h; cases h))]
    rw [hl]
    rfl
   rw [e]
   by_cases hgt : (N.term : Int) < a
   ·simp only [if_pos hgt]
    have hat : ((a.toNat : Nat) : Int) = a := by omega
    have hdo : ∀ (M : PNode) (s : Bool) (w1 : World) (F1 : Nat → Prop), RaftIs w1 r d F1 M room s → Rd w1 1 (.slice na l.length nc) (intsV l) → M.bytes = N.bytes → Calls Tryz.prog 47 #[.pointer (some ⟨r, 0, none⟩), msgV f N.id 1 (.slice na l.length nc) (.slice da dl dc), .int .i64 draw] w1
      (fun e w' => ∃ s', Sends r d F1 w1 (if M.grants f a b c then [voteMsg M f 1] else [voteMsg M f 0]) (if M.grants f a b c then M.gives f draw else M) room s' e w' ∧ (s = true → s' = true)) :=
     fun M s w1 F1 hR hN hbt => asked_any r d F1 M room s f N.id draw b c a na da nc dl dc l w1 hR hN hl (by omega) (by rw [hbt]; exact hroom)
    have key := Hear_newer1 r d F N (if (N.newer_ a.toNat).grants f a b c then (N.newer_ a.toNat).gives f draw else N.newer_ a.toNat) room saved (if (N.newer_ a.toNat).grants f a b c then [voteMsg (N.newer_ a.toNat) f 1] else [voteMsg (N.newer_ a.toNat) f 0]) f N.id draw a.toNat na da nc dl dc l w h hn hoff (by rw [hl, hat]; rfl) (by omega) (by omega) hroom hmay
     (fun w1 F1 hR hN _ => (hdo (N.newer_ a.toNat) true w1 F1 hR hN rfl).mono (fun e w' hq => by
      obtain ⟨s', hs, h1⟩ := hq
      rw [h1 rfl] at hs
      exact hs))
    refine key.mono (fun e w' hq => ⟨true, ?_⟩)
    cases hgr : (N.newer_ a.toNat).grants f a b c <;> (rw [hgr] at hq; simpa using hq)
   ·simp only [if_neg hgt]
    have key := Hear_ask1 r d F N (if N.grants f a b c then N.gives f draw else N) room saved (if N.grants f a b c then [voteMsg N f 1] else [voteMsg N f 0]) f N.id draw a na da nc dl dc l w h hn (by rw [hl]; rfl) (by omega) hmay
     (fun w1 x => (asked_any r d F N room saved f N.id draw b c a na da nc dl dc l w1 (h.no x) (hn.no x) hl (by omega) hroom).mono (fun e w' hq => by
      obtain ⟨s', hs, _⟩ := hq
      exact ⟨s', hs⟩))
    refine key.mono (fun e w' hq => ?_)
    cases hgr : N.grants f a b c <;> (rw [hgr] at hq; simpa using hq)
end Go.Proofs.YtgglbholbkdgfaaGreatDoor
namespace Go.Proofs.YtgglbholbkdgfaaGreatDoor
open Go.RowKit
theorem DiskIs.wide {w : World} {d : Nat} {F G : Nat → Prop} {D : PDisk} (h : DiskIs w d F D) (hG : ∀ b, F b → G b) (hl : ∀ b, G b → b < w.heap.size) : DiskIs w d G D := by
 obtain ⟨mo, rs, h, e⟩ := h
 refine ⟨mo, rs, ⟨h.blk, hG _ h.self, ?_, ⟨h.rows.own, fun r hr g hg => hG _ (h.rows.foot r hr g hg), h.rows.apart⟩, hl, h.room30, h.fits, h.names, h.count⟩, e⟩
 rcases h.map with hm | ⟨m, h1, h2, h3⟩
 ·exact .inl hm
 ·exact .inr ⟨m, h1, hG _ h2, h3⟩
theorem name_inj : ∀ {rs : List RFile}, (rs.map (·.name)).Nodup → ∀ {x r : RFile}, x ∈ rs → r ∈ rs → x.name = r.name → x = r
 | [], _, x, r, hx, _, _ => by cases hx
 | a :: rs, h, x, r, hx, hr, e => by
  simp only [List.map_cons, List.nodup_cons] at h
  rcases List.mem_cons.1 hx with hx' | hx' <;> rcases List.mem_cons.1 hr with hr' | hr'
  ·rw [hx', hr']
  ·exact (h.1 (List.mem_map.2 ⟨r, hr', by rw [← e, hx']⟩)).elim
  ·exact (h.1 (List.mem_map.2 ⟨x, hx', by rw [e, hr']⟩)).elim
  ·exact name_inj h.2 hx' hr' e
theorem rsPut_same {rs : List RFile} {r : RFile} {v : Value} (hr : r ∈ rs) (hnd : (rs.map (·.name)).Nodup) : (rsPut rs ⟨r.name, v, r.f⟩).map RFile.pf = rs.map RFile.pf := by
 have hs : (rsGet rs r.name).isSome = true := by
  unfold rsGet
  rw [List.find?_isSome]
  exact ⟨r, hr, by simp⟩
 unfold rsPut
 rw [if_pos hs, List.map_map]
 apply List.map_congr_left
 intro x hx
 show RFile.pf (if x.name = r.name then _ else x) = _
 by_cases e : x.name = r.name
 ·rw [if_pos e]
  have : x = r := name_inj hnd hx hr e
  rw [this]
  rfl
 ·rw [if_neg e]
set_option maxRecDepth 100000 in
set_option maxHeartbeats 4000000 in
theorem Crash_whole (d : Nat) (F : Nat → Prop) (D : PDisk) (draw : Int) (w : World) (hd : DiskIs w d F D) (hw : ∀ p ∈ D.files, p.2.lasts = p.2.data.length) (hc : D.files.length < 256) :
  Calls Tryz.prog 20 #[.pointer (some ⟨d, 0, none⟩), .int .i64 draw] w fun e w' => e = .returned (.tuple #[]) ∧ Ext F w w' ∧ DiskIs w' d (Gr F w w') D := by
 have hlist := Lib.hid (List_any d F D w hd)
 have HD := Lib.hid hd
 have Hw := Lib.hid hw
 have hnl : (names D.files).length = D.files.length := by unfold names; rw [List.length_mergeSort, List.length_map]
 have Hnl := Lib.hid hnl
 have hc' : (names D.files).length < 256 := by omega
 clear hd hw hnl hc
 go_enter Tryz.func20, Tryz.ntmps20
 go_wp2_with fail
 refine hlist.out.mono ?_; rintro e w1 ⟨v, rfl, ho, hf, x1⟩
 obtain ⟨va, vc, hv, hvn, hvc⟩ := Rd.shape ho.rd
 rw [List.length_map] at hv hvn
 subst hv
 have Ho := Lib.hid ho
 have Hf := Lib.hid hf
 have Hx1 := Lib.hid x1
 clear ho hf x1
 go_wp2_with fail
 go_loopw [14] (fun i wr => ∃ (k : Nat) (F' : Nat → Prop), i = .int .i64 k ∧ k ≤ (names D.files).length ∧ Hid (DiskIs wr d F' D) ∧ Hid (∀ b, F' b → F b ∨ w1.heap.size ≤ b) ∧ Hid (Ext F w1 wr)) (fun i _ => (names D.files).length - (intOf i).toNat)
 case atStart => exact ⟨0, F, rfl, Nat.zero_le _, Lib.hid (HD.out.no Hx1.out), Lib.hid (fun b h => .inl h), Lib.hid (Ext.refl _ _)⟩
 case round =>
  obtain ⟨k, F', rfl, hk, HDr, HFr, HXr⟩ := hrel
  by_cases hlt : k < (names D.files).length
  ·have hFl := HD.out.lt
   have hon := Ho.out.ext HXr.out (fun g hg hFg => by have := Hf.out g hg; have := hFl g hFg; omega)
   obtain ⟨_, _, _, hve, _, _, _, _, hr⟩ := hon.rd
   cases hve
   obtain ⟨vb, off, rfl, hcell⟩ := hr (by intro e; have := congrArg List.length e; simp at this; rw [this] at hlt; simp at hlt)
   have hmem : (names D.files)[k] ∈ names D.files := List.getElem_mem hlt
   have hmem2 : (names D.files)[k] ∈ D.files.map (fun p => p.1.data.toList) := (List.mergeSort_perm _ _).mem_iff.1 hmem
   obtain ⟨p, hp, hpe⟩ := List.mem_map.1 hmem2
   have ck := hcell k (encStr (p.1.data.toList)) (by rw [List.getElem?_map, List.getElem?_eq_getElem hlt, hpe]; rfl)
   have hes : encStr (p.1.data.toList) = .string p.1 := rfl
   rw [hes] at ck
   obtain ⟨mo, rs, hdr, hfe⟩ := HDr.out
   have hp' := hp
   rw [hfe] at hp'
   obtain ⟨r, hrm, hrp⟩ := List.mem_map.1 hp'
   have hpn : p.1 = r.name := by rw [← hrp]; rfl
   have hpf : r.f.lasts = r.f.data.length := by have := Hw.out p hp; rw [← hrp] at this; exact this
   have hget : rsGet rs r.name = some r := by
    cases hg : rsGet rs r.name with
    | none =>
     unfold rsGet at hg
     have := List.find?_eq_none.1 hg r hrm
     simp at this
    | some r' =>
     obtain ⟨k1, k2⟩ := rsGet_mem hg
     rw [name_inj hdr.nodup k1 hrm k2]
   obtain ⟨m, rfl, -, -⟩ := hdr.mapSome hget
   have hown := hdr.rows.own r hrm
   obtain ⟨ra, rc, hrv, hrn, hrc⟩ := RdB.shape (l := r.f.data) hown.rd
   obtain ⟨ld, hld⟩ : ∃ ld, r.f.data.length = ld := ⟨_, rfl⟩
   have hlB := used_mem hrm
   have hfits := hdr.fits
   have hr30 := hdr.room30
   have hl30 : ld ≤ 1073741824 := by omega
   have hlook := fun (w' : World) (x : Ext NoB wr w') => ((hdr.look r.name).2 r hget w' x).2
   rw [hpf, hrv, hld] at hlook
   rw [hld] at hrn
   have hlk := hlook wr (Ext.refl _ _)
   rw [hpn] at ck
   have d2 : wr.cell? ⟨d, 2, none⟩ = some (.map (some m)) := by rw [cell_of_blk hdr.blk]; rfl
   have hdl := lt_of_blk hdr.blk
   have hsub := fun (w : World) => run_sub_hm (P := Tryz.prog) w 35 5 unBytes szByte ra ld rc .i64 .i64 (ld : Int) (ld : Int) (by omega) (by omega) (by omega)
   have hown2 : Own wr 5 1 (.slice ra ld ld) (bytesV r.f.data) := by
    rw [hrv, hld] at hown
    rcases hown with ⟨h1, h2⟩ | ⟨g, n, cap, cur, h1, h2, h3, h4, h5, h6, h7⟩
    ·injection h1 with h1 h1' h1''
     subst h1 h1'
     exact .inl ⟨rfl, h2⟩
    ·injection h1 with h1 h1' h1''
     subst h1 h1' h1''
     exact .inr ⟨g, _, _, cur, rfl, h2, Nat.le_refl _, by omega, by omega, h6, h7⟩
   have hdrows : ∀ g, (Value.slice ra ld ld).ownBlock = some g → F' g ∧ ∀ y ∈ rs, y.name ≠ r.name → y.v.ownBlock ≠ some g := by
    intro g hg
    have hg' : r.v.ownBlock = some g := by rw [hrv]; cases ra <;> exact hg
    exact ⟨hdr.rows.foot r hrm g hg', fun y hy hne hyg => apart_sym hdr.rows.apart hy hrm hne g hyg hg'⟩
   have Hdr := Lib.hid hdr
   have Hrows := Lib.hid hdrows
   have Hown2 := Lib.hid hown2
   have Hpf := Lib.hid hpf
   have Hld := Lib.hid hld
   have Hget := Lib.hid hget
   have Hfe := Lib.hid hfe
   have Hrv := Lib.hid hrv
   have Hrm := Lib.hid hrm
   have Hhlook := Lib.hid hlook
   clear hdr hdrows hown2 hpf hld hget hfe hrv hown hlook hp hp' hmem hmem2 hrp hpe hr hon hpn hes hcell hlB hfits hrm
   have hm0 : (0 : Int) ≤ max 0 draw := by omega
   go_wp2_with fail
   obtain ⟨w2, B, q1, q2, x2, b2, hs2⟩ := alloc_facts wr (.cells #[.slice ra ld rc, .int .i64 ld] 109)
   rw [q1, q2]
   have e0 : w2.cell? ⟨B, 0, none⟩ = some (.slice ra ld rc) := by rw [cell_of_blk b2]; rfl
   have e1 : w2.cell? ⟨B, 1, none⟩ = some (.int .i64 ld) := by rw [cell_of_blk b2]; rfl
   have Hx2 := Lib.hid x2
   clear q1 q2 x2 b2 hs2
   go_quiet (fail)
   go_wp2_with fail
   have x2q : Ext NoB wr (w2.drewN nq) := Hx2.out.drewN _
   generalize w2.drewN nq = w3 at x2q ⊢
   have hdr := Hdr.out.no x2q
   have hlay := lay_at d F' D.room m rs r.name (.slice ra ld ld) r.f w3 hdr r.v r.f.data.length r.f.lasts (.inr ⟨r, Hget.out, rfl, rfl, rfl⟩) (Hown2.out.no x2q) Hrows.out
    (by have := hdr.names r Hrm.out; unfold isNm; simpa using this) (by have := hdr.fits; omega) (by have h1 := congrArg List.length Hfe.out; rw [List.length_map] at h1; have := Hnl.out; omega) (by rw [Hld.out]; exact hl30)
   rw [Hpf.out, Hld.out] at hlay
   have Hlay := Lib.hid hlay
   have Hx2q := Lib.hid x2q
   clear hlay hdr x2q e0 e1
   refine Hlay.out.mono ?_; rintro e w4 ⟨rfl, x4, hd4⟩
   have Hx4 := Lib.hid x4
   have Hd4 := Lib.hid hd4
   clear x4 hd4
   go_wp2_with fail
   have hD4 : DiskIs w4 d (Gr F' w3 w4) D := ⟨some m, _, Hd4.out, by rw [rsPut_same Hrm.out Hdr.out.nodup]; exact Hfe.out⟩
   have s1 := HXr.out.size
   have s2 := Hx2q.out.size
   have s4 := Hx4.out.size
   refine ⟨⟨k + 1, Gr F' w3 w4, by go_num, by omega, Lib.hid hD4, Lib.hid (fun b hb => ?_), Lib.hid ((HXr.out.nextNo Hx2q.out).next Hx4.out (fun b hb hl => ?_))⟩, by simp [intOf]; omega⟩
   ·rcases hb with hb | hb
    ·exact HFr.out b hb
    ·exact .inr (by omega)
   ·rcases HFr.out b hb with h | h
    ·exact h
    ·omega
  ·obtain rfl : k = (names D.files).length := by omega
   go_wp2_with fail
   go_end0
   have s1 := Hx1.out.size
   have hxF : Ext F w wr := (Hx1.out.of_no).trans HXr.out
   refine ⟨rfl, hxF, HDr.out.wide (fun b hb => ?_) (fun b hb => ?_)⟩
   ·rcases HFr.out b hb with h | h
    ·exact .inl h
    ·exact .inr ⟨by omega, HDr.out.lt b hb⟩
   ·rcases hb with hb | hb
    ·exact Nat.lt_of_lt_of_le (HD.out.lt b hb) hxF.size
    ·exact hb.2
end Go.Proofs.YtgglbholbkdgfaaGreatDoor
