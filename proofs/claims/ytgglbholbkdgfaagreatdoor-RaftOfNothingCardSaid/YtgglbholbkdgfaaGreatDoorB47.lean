/- The law RaftOfNothing: its walk. -/
import Derived.Test.YtgglbholbkdgfaaGreatDoorB45
namespace Go.Proofs.YtgglbholbkdgfaaGreatDoor
open Go.RowKit

set_option maxRecDepth 100000 in
set_option maxHeartbeats 1000000 in
theorem nothing_big (fr tt kd n : Int) (na da ba : Option Addr) (nn nc dn dc bn bc : Nat) (w : World) (hn : nn ≤ 140737488355328) (hd : dn ≤ 140737488355328) (hb : bn ≤ 140737488355328) (h : 30000 < bn + dn + nn) :
    Calls Tryz.prog 7 #[msgV fr tt kd (.slice na nn nc) (.slice da dn dc), .slice ba bn bc, .int .i64 n] w fun e w' => e = .returned (.bool true) ∧ Ext NoB w w' := by
  unfold msgV
  have h' : (30000 : Int) < (bn : Int) + (dn : Int) + (nn : Int) := by omega
  go_enter Tryz.func7, Tryz.ntmps7
  go_wp2_with fail
  go_ret
  exact ⟨rfl, (Ext.refl _ w).alloc _⟩

set_option maxRecDepth 100000 in
set_option maxHeartbeats 4000000 in
theorem nothing_small (fr tt kd n : Int) (na da ba : Option Addr) (nn nc dn dc bn bc : Nat) (w : World) (hn : nn ≤ 140737488355328) (hd : dn ≤ 140737488355328) (hb : bn ≤ 140737488355328) (h : bn + dn + nn ≤ 30000) :
    Calls Tryz.prog 7 #[msgV fr tt kd (.slice na nn nc) (.slice da dn dc), .slice ba bn bc, .int .i64 n] w fun e w' => e = .returned (.bool true) ∧ Ext NoB w w' := by
  unfold msgV
  have h' : ¬ ((30000 : Int) < (bn : Int) + (dn : Int) + (nn : Int)) := by omega
  go_enter Tryz.func7, Tryz.ntmps7
  go_wp2_with fail
  obtain ⟨w1, B, e1, e2, x1, b1, hs1⟩ := alloc_facts w (.cells #[.int .i64 fr, .int .i64 tt, .int .i64 kd, .slice na nn nc, .slice da dn dc] 37)
  rw [e1, e2]
  have Hb1 := Lib.hid b1
  have Hx1 := Lib.hid x1
  clear e1 e2 x1 b1 hs1
  refine (Propose_nil ba bn bc w1).mono ?_; rintro e w2 ⟨rfl, x2⟩
  have Hx2 := Lib.hid x2
  clear x2
  go_wp2_with fail
  refine (State_nil w2).mono ?_; rintro e w3 ⟨rfl, x3⟩
  have Hx3 := Lib.hid x3
  clear x3
  go_wp2_with fail
  refine (Log_nil w3).mono ?_; rintro e w4 ⟨rfl, x4⟩
  have Hx4 := Lib.hid x4
  clear x4
  go_wp2_with fail
  refine (Open_nodisk 0 w4).mono ?_; rintro e w5 ⟨rfl, x5⟩
  have Hx5 := Lib.hid x5
  clear x5
  go_wp2_with fail
  refine (New_any 100 (by omega) w5).mono ?_; rintro e w6 ⟨d, rfl, hd6, hD6, x6⟩
  have Hx6 := Lib.hid x6
  clear x6 hD6 hd6
  go_wp2_with fail
  refine (Open_two d 0 w6).mono ?_; rintro e w7 ⟨rfl, x7⟩
  have y7 : Ext NoB w1 w7 := ((((Hx2.out.trans Hx3.out).trans Hx4.out).trans Hx5.out).trans Hx6.out).trans x7
  have Hy7 := Lib.hid (Hx1.out.trans y7)
  have bB := y7.blk Hb1.out (fun h => h)
  clear x7 y7
  go_wp2_with fail
  have c0 : w7.cell? ⟨B, 0, none⟩ = some (.int .i64 fr) := by rw [cell_of_blk bB]; rfl
  have c1 : w7.cell? ⟨B, 1, none⟩ = some (.int .i64 tt) := by rw [cell_of_blk bB]; rfl
  have c2 : w7.cell? ⟨B, 2, none⟩ = some (.int .i64 kd) := by rw [cell_of_blk bB]; rfl
  have c3 : w7.cell? ⟨B, 3, none⟩ = some (.slice na nn nc) := by rw [cell_of_blk bB]; rfl
  have c4 : w7.cell? ⟨B, 4, none⟩ = some (.slice da dn dc) := by rw [cell_of_blk bB]; rfl
  refine wp_region_N (fun w' => w'.cell? ⟨B, 0, none⟩ = some (.int .i64 fr) ∧ w'.cell? ⟨B, 1, none⟩ = some (.int .i64 tt) ∧ w'.cell? ⟨B, 2, none⟩ = some (.int .i64 kd) ∧ w'.cell? ⟨B, 3, none⟩ = some (.slice na nn nc) ∧ w'.cell? ⟨B, 4, none⟩ = some (.slice da dn dc)) 58 (by kernel_rfl) ?_
  have hSd : w7.drew.cell? ⟨B, 0, none⟩ = some (.int .i64 fr) ∧ w7.drew.cell? ⟨B, 1, none⟩ = some (.int .i64 tt) ∧ w7.drew.cell? ⟨B, 2, none⟩ = some (.int .i64 kd) ∧ w7.drew.cell? ⟨B, 3, none⟩ = some (.slice na nn nc) ∧ w7.drew.cell? ⟨B, 4, none⟩ = some (.slice da dn dc) := ⟨c0, c1, c2, c3, c4⟩
  have xD : Ext NoB w7 w7.drew := (Ext.refl _ w7).drew
  generalize w7.drew = wd at hSd xD ⊢
  have hS := fun (w' : World) (x : Ext NoB wd w') => And.intro (x.cell hSd.1 (fun h => h)) (And.intro (x.cell hSd.2.1 (fun h => h)) (And.intro (x.cell hSd.2.2.1 (fun h => h)) (And.intro (x.cell hSd.2.2.2.1 (fun h => h)) (x.cell hSd.2.2.2.2 (fun h => h)))))
  have HS := Lib.hid hS
  clear hS c0 c1 c2 c3 c4 bB
  have hw0 : IntKind.i64.wrap 0 = 0 := IntWalk.i64_in _ (by omega)
  refine wpAnyN_free 0 (v := ?_) (by kernel_rfl) rfl (fun _ _ _ h => h) hSd (by kernel_rfl) ?_ ?_; rotate_left; (focus (intro w; go_simp; try with_reducible rfl)); (try simp only [Act.put]); (try simp only [List.setIfInBounds_toArray, List.set_cons_zero, List.set_cons_succ])
  refine wpAnyN_free 1 (v := ?_) (by kernel_rfl) rfl (fun _ _ _ h => h) hSd (by kernel_rfl) ?_ ?_; rotate_left; (focus (intro w; go_simp; try with_reducible rfl)); (try simp only [Act.put]); (try simp only [List.setIfInBounds_toArray, List.set_cons_zero, List.set_cons_succ])
  refine wpAnyN_free 2 (v := ?_) (by kernel_rfl) rfl (fun _ _ _ h => h) hSd (by kernel_rfl) ?_ ?_; rotate_left; (focus (intro w; go_simp; try with_reducible rfl)); (try simp only [Act.put]); (try simp only [List.setIfInBounds_toArray, List.set_cons_zero, List.set_cons_succ])
  refine wpAnyN_free 3 (v := ?_) (by kernel_rfl) rfl (fun _ _ _ h => h) hSd (by kernel_rfl) ?_ ?_; rotate_left; (focus (intro w; go_simp; try with_reducible rfl)); (try simp only [Act.put]); (try simp only [List.setIfInBounds_toArray, List.set_cons_zero, List.set_cons_succ])
  refine wpAnyN_free 4 (v := ?_) (by kernel_rfl) rfl (fun _ _ _ h => h) hSd (by kernel_rfl) ?_ ?_; rotate_left; (focus (intro w; go_simp; try with_reducible rfl)); (try simp only [Act.put]); (try simp only [List.setIfInBounds_toArray, List.set_cons_zero, List.set_cons_succ])
  refine wpAnyN_free 5 (v := ?_) (by kernel_rfl) rfl (fun _ _ _ h => h) hSd (by kernel_rfl) ?_ ?_; rotate_left; (focus (intro w; go_simp; try with_reducible rfl)); (try simp only [Act.put]); (try simp only [List.setIfInBounds_toArray, List.set_cons_zero, List.set_cons_succ])
  refine wpAnyN_free 6 (v := ?_) (by kernel_rfl) rfl (fun _ _ _ h => h) hSd (by kernel_rfl) ?_ ?_; rotate_left; (focus (intro w; go_simp; try with_reducible rfl)); (try simp only [Act.put]); (try simp only [List.setIfInBounds_toArray, List.set_cons_zero, List.set_cons_succ])
  refine wpAnyN_free 7 (v := ?_) (by kernel_rfl) rfl (fun _ _ _ h => h) hSd (by kernel_rfl) ?_ ?_; rotate_left; (focus (intro w; go_simp; try with_reducible rfl)); (try simp only [Act.put]); (try simp only [List.setIfInBounds_toArray, List.set_cons_zero, List.set_cons_succ])
  refine wpAnyN_free 8 (v := ?_) (by kernel_rfl) rfl (fun _ _ _ h => h) hSd (by kernel_rfl) ?_ ?_; rotate_left; (focus (intro w; go_simp; try with_reducible rfl)); (try simp only [Act.put]); (try simp only [List.setIfInBounds_toArray, List.set_cons_zero, List.set_cons_succ])
  refine wpAnyN_free 9 (v := ?_) (by kernel_rfl) rfl (fun _ _ _ h => h) hSd (by kernel_rfl) ?_ ?_; rotate_left; (focus (intro w; go_simp; try with_reducible rfl)); (try simp only [Act.put]); (try simp only [List.setIfInBounds_toArray, List.set_cons_zero, List.set_cons_succ])
  refine wpAnyN_free 10 (v := ?_) (by kernel_rfl) rfl (fun _ _ _ h => h) hSd (by kernel_rfl) ?_ ?_; rotate_left; (focus (intro w; go_simp; try with_reducible rfl)); (try simp only [Act.put]); (try simp only [List.setIfInBounds_toArray, List.set_cons_zero, List.set_cons_succ])
  refine wpAnyN_free 11 (v := ?_) (by kernel_rfl) rfl (fun _ _ _ h => h) hSd (by kernel_rfl) ?_ ?_; rotate_left; (focus (intro w; go_simp; try with_reducible rfl)); (try simp only [Act.put]); (try simp only [List.setIfInBounds_toArray, List.set_cons_zero, List.set_cons_succ])
  refine wpAnyN_free 12 (v := ?_) (by kernel_rfl) rfl (fun _ _ _ h => h) hSd (by kernel_rfl) ?_ ?_; rotate_left; (focus (intro w; go_simp; try with_reducible rfl)); (try simp only [Act.put]); (try simp only [List.setIfInBounds_toArray, List.set_cons_zero, List.set_cons_succ])
  refine wpAnyN_free 13 (v := ?_) (by kernel_rfl) rfl (fun _ _ _ h => h) hSd (by kernel_rfl) ?_ ?_; rotate_left; (focus (intro w; go_simp; try with_reducible rfl)); (try simp only [Act.put]); (try simp only [List.setIfInBounds_toArray, List.set_cons_zero, List.set_cons_succ])
  refine wpAnyN_free 14 (v := ?_) (by kernel_rfl) rfl (fun _ _ _ h => h) hSd (by kernel_rfl) ?_ ?_; rotate_left; (focus (intro w; go_simp; try with_reducible rfl)); (try simp only [Act.put]); (try simp only [List.setIfInBounds_toArray, List.set_cons_zero, List.set_cons_succ])
  refine wpAnyN_free 15 (v := ?_) (by kernel_rfl) rfl (fun _ _ _ h => h) hSd (by kernel_rfl) ?_ ?_; rotate_left; (focus (intro w; go_simp; try with_reducible rfl)); (try simp only [Act.put]); (try simp only [List.setIfInBounds_toArray, List.set_cons_zero, List.set_cons_succ])
  refine wpAnyN_free 16 (v := ?_) (by kernel_rfl) rfl (fun _ _ _ h => h) hSd (by kernel_rfl) ?_ ?_; rotate_left; (focus (intro w; go_simp; try with_reducible rfl)); (try simp only [Act.put]); (try simp only [List.setIfInBounds_toArray, List.set_cons_zero, List.set_cons_succ])
  refine wpAnyN_free 17 (v := ?_) (by kernel_rfl) rfl (fun _ _ _ h => h) hSd (by kernel_rfl) ?_ ?_; rotate_left; (focus (intro w; go_simp; try with_reducible rfl)); (try simp only [Act.put]); (try simp only [List.setIfInBounds_toArray, List.set_cons_zero, List.set_cons_succ])
  refine wpAnyN_free 18 (v := ?_) (by kernel_rfl) rfl (fun _ _ _ h => h) hSd (by kernel_rfl) ?_ ?_; rotate_left; (focus (intro w; go_simp; try with_reducible rfl)); (try simp only [Act.put]); (try simp only [List.setIfInBounds_toArray, List.set_cons_zero, List.set_cons_succ])
  refine wpAnyN_free 19 (v := ?_) (by kernel_rfl) rfl (fun _ _ _ h => h) hSd (by kernel_rfl) ?_ ?_; rotate_left; (focus (intro w; go_simp; try with_reducible rfl)); (try simp only [Act.put]); (try simp only [List.setIfInBounds_toArray, List.set_cons_zero, List.set_cons_succ])
  refine wpAnyN_free 20 (v := ?_) (by kernel_rfl) rfl (fun _ _ _ h => h) hSd (by kernel_rfl) ?_ ?_; rotate_left; (focus (intro w; go_simp; try with_reducible rfl)); (try simp only [Act.put]); (try simp only [List.setIfInBounds_toArray, List.set_cons_zero, List.set_cons_succ])
  refine wpAnyN_free 21 (v := ?_) (by kernel_rfl) rfl (fun _ _ _ h => h) hSd (by kernel_rfl) ?_ ?_; rotate_left; (focus (intro w; go_simp; try with_reducible rfl)); (try simp only [Act.put]); (try simp only [List.setIfInBounds_toArray, List.set_cons_zero, List.set_cons_succ])
  refine wpAnyN_free 22 (v := ?_) (by kernel_rfl) rfl (fun _ _ _ h => h) hSd (by kernel_rfl) ?_ ?_; rotate_left; (focus (intro w; go_simp; try with_reducible rfl)); (try simp only [Act.put]); (try simp only [List.setIfInBounds_toArray, List.set_cons_zero, List.set_cons_succ])
  refine wpAnyN_free 23 (v := ?_) (by kernel_rfl) rfl (fun _ _ _ h => h) hSd (by kernel_rfl) ?_ ?_; rotate_left; (focus (intro w; go_simp; try with_reducible rfl)); (try simp only [Act.put]); (try simp only [List.setIfInBounds_toArray, List.set_cons_zero, List.set_cons_succ])
  refine wpAnyN_free 24 (v := ?_) (by kernel_rfl) rfl (fun _ _ _ h => h) hSd (by kernel_rfl) ?_ ?_; rotate_left; (focus (intro w; go_simp; try with_reducible rfl)); (try simp only [Act.put]); (try simp only [List.setIfInBounds_toArray, List.set_cons_zero, List.set_cons_succ])
  refine wpAnyN_free 25 (v := ?_) (by kernel_rfl) rfl (fun _ _ _ h => h) hSd (by kernel_rfl) ?_ ?_; rotate_left; (focus (intro w; go_simp; try with_reducible rfl)); (try simp only [Act.put]); (try simp only [List.setIfInBounds_toArray, List.set_cons_zero, List.set_cons_succ])
  refine wpAnyN_free 28 (v := ?_) (by kernel_rfl) rfl (fun _ _ _ h => h) hSd (by kernel_rfl) ?_ ?_; rotate_left; (focus (intro w; go_simp; try with_reducible rfl)); (try simp only [Act.put]); (try simp only [List.setIfInBounds_toArray, List.set_cons_zero, List.set_cons_succ])
  refine wpAnyN_take 29 (v := ?_) (by kernel_rfl) rfl (fun _ _ _ h => h) hSd (by kernel_rfl) ?_ ?_; rotate_left; (focus (intro w hSw; (try dsimp only at hSw); go_simp; try with_reducible rfl)); (try simp only [Act.put]); (try simp only [List.setIfInBounds_toArray, List.set_cons_zero, List.set_cons_succ])
  refine wpAnyN_free 30 (v := ?_) (by kernel_rfl) rfl (fun _ _ _ h => h) hSd (by kernel_rfl) ?_ ?_; rotate_left; (focus (intro w; go_simp; try with_reducible rfl)); (try simp only [Act.put]); (try simp only [List.setIfInBounds_toArray, List.set_cons_zero, List.set_cons_succ])
  refine wpAnyN_free 34 (v := ?_) (by kernel_rfl) rfl (fun _ _ _ h => h) hSd (by kernel_rfl) ?_ ?_; rotate_left; (focus (intro w; go_simp; try with_reducible rfl)); (try simp only [Act.put]); (try simp only [List.setIfInBounds_toArray, List.set_cons_zero, List.set_cons_succ])
  refine wpAnyN_one 26 (by kernel_rfl) (by simp only [List.getElem?_toArray, List.getElem?_cons_succ, List.getElem?_cons_zero] <;> rfl) (by kernel_rfl) (fun K hK => ?_)
  go_simp
  refine (Tick_nil n wd).mono ?_; rintro e w8 ⟨rfl, x8⟩
  go_wp2_with fail
  refine hK.out _ _ (HS.out _ x8) (fun hSd' => ?_)
  clear hK K hSd'
  have hSd := HS.out _ x8
  (try simp only [Act.put]); (try simp only [List.setIfInBounds_toArray, List.set_cons_zero, List.set_cons_succ])
  refine wpAnyN_free 27 (v := ?_) (by kernel_rfl) rfl (fun _ _ _ h => h) hSd (by kernel_rfl) ?_ ?_; rotate_left; (focus (intro w; go_simp; try with_reducible rfl)); (try simp only [Act.put]); (try simp only [List.setIfInBounds_toArray, List.set_cons_zero, List.set_cons_succ])
  refine wpAnyN_one 31 (by kernel_rfl) (by simp only [List.getElem?_toArray, List.getElem?_cons_succ, List.getElem?_cons_zero] <;> rfl) (by kernel_rfl) (fun K hK => ?_)
  go_simp
  refine (Hear_nil fr tt kd na da nn nc dn dc n w8).mono ?_; rintro e w9 ⟨rfl, x9⟩
  have y9 := x8.trans x9
  go_wp2_with fail
  refine hK.out _ _ (HS.out _ y9) (fun hSd' => ?_)
  clear hK K hSd'
  have hSd := HS.out _ y9
  (try simp only [Act.put]); (try simp only [List.setIfInBounds_toArray, List.set_cons_zero, List.set_cons_succ])
  refine wpAnyN_free 32 (v := ?_) (by kernel_rfl) rfl (fun _ _ _ h => h) hSd (by kernel_rfl) ?_ ?_; rotate_left; (focus (intro w; go_simp; try with_reducible rfl)); (try simp only [Act.put]); (try simp only [List.setIfInBounds_toArray, List.set_cons_zero, List.set_cons_succ])
  refine wpAnyN_free 33 (v := ?_) (by kernel_rfl) rfl (fun _ _ _ h => h) hSd (by kernel_rfl) ?_ ?_; rotate_left; (focus (intro w; go_simp; try with_reducible rfl)); (try simp only [Act.put]); (try simp only [List.setIfInBounds_toArray, List.set_cons_zero, List.set_cons_succ])
  refine wpAnyN_one 35 (by kernel_rfl) (by simp only [List.getElem?_toArray, List.getElem?_cons_succ, List.getElem?_cons_zero] <;> rfl) (by kernel_rfl) (fun K hK => ?_)
  go_simp
  refine (Take_nil w9).mono ?_; rintro e w10 ⟨rfl, x10⟩
  have y10 := y9.trans x10
  go_wp2_with fail
  refine hK.out _ _ (HS.out _ y10) (fun hSd' => ?_)
  clear hK K hSd'
  have hSd := HS.out _ y10
  (try simp only [Act.put]); (try simp only [List.setIfInBounds_toArray, List.set_cons_zero, List.set_cons_succ])
  refine wpAnyN_free 36 (v := ?_) (by kernel_rfl) rfl (fun _ _ _ h => h) hSd (by kernel_rfl) ?_ ?_; rotate_left; (focus (intro w; go_simp; try with_reducible rfl)); (try simp only [Act.put]); (try simp only [List.setIfInBounds_toArray, List.set_cons_zero, List.set_cons_succ])
  refine wpAnyN_free 37 (v := ?_) (by kernel_rfl) rfl (fun _ _ _ h => h) hSd (by kernel_rfl) ?_ ?_; rotate_left; (focus (intro w; go_simp; try with_reducible rfl)); (try simp only [Act.put]); (try simp only [List.setIfInBounds_toArray, List.set_cons_zero, List.set_cons_succ])
  refine wpAnyN_free 38 (v := ?_) (by kernel_rfl) rfl (fun _ _ _ h => h) hSd (by kernel_rfl) ?_ ?_; rotate_left; (focus (intro w; go_simp; try with_reducible rfl)); (try simp only [Act.put]); (try simp only [List.setIfInBounds_toArray, List.set_cons_zero, List.set_cons_succ])
  refine wpAnyN_free 39 (v := ?_) (by kernel_rfl) rfl (fun _ _ _ h => h) hSd (by kernel_rfl) ?_ ?_; rotate_left; (focus (intro w; go_simp; try with_reducible rfl)); (try simp only [Act.put]); (try simp only [List.setIfInBounds_toArray, List.set_cons_zero, List.set_cons_succ])
  refine wpAnyN_free 40 (v := ?_) (by kernel_rfl) rfl (fun _ _ _ h => h) hSd (by kernel_rfl) ?_ ?_; rotate_left; (focus (intro w; go_simp; try with_reducible rfl)); (try simp only [Act.put]); (try simp only [List.setIfInBounds_toArray, List.set_cons_zero, List.set_cons_succ])
  refine wpAnyN_free 41 (v := ?_) (by kernel_rfl) rfl (fun _ _ _ h => h) hSd (by kernel_rfl) ?_ ?_; rotate_left; (focus (intro w; go_simp; try with_reducible rfl)); (try simp only [Act.put]); (try simp only [List.setIfInBounds_toArray, List.set_cons_zero, List.set_cons_succ])
  refine wpAnyN_free 42 (v := ?_) (by kernel_rfl) rfl (fun _ _ _ h => h) hSd (by kernel_rfl) ?_ ?_; rotate_left; (focus (intro w; go_simp; try with_reducible rfl)); (try simp only [Act.put]); (try simp only [List.setIfInBounds_toArray, List.set_cons_zero, List.set_cons_succ])
  refine wpAnyN_free 43 (v := ?_) (by kernel_rfl) rfl (fun _ _ _ h => h) hSd (by kernel_rfl) ?_ ?_; rotate_left; (focus (intro w; go_simp; try with_reducible rfl)); (try simp only [Act.put]); (try simp only [List.setIfInBounds_toArray, List.set_cons_zero, List.set_cons_succ])
  refine wpAnyN_free 44 (v := ?_) (by kernel_rfl) rfl (fun _ _ _ h => h) hSd (by kernel_rfl) ?_ ?_; rotate_left; (focus (intro w; go_simp; try with_reducible rfl)); (try simp only [Act.put]); (try simp only [List.setIfInBounds_toArray, List.set_cons_zero, List.set_cons_succ])
  refine wpAnyN_free 45 (v := ?_) (by kernel_rfl) rfl (fun _ _ _ h => h) hSd (by kernel_rfl) ?_ ?_; rotate_left; (focus (intro w; go_simp; try with_reducible rfl)); (try simp only [Act.put]); (try simp only [List.setIfInBounds_toArray, List.set_cons_zero, List.set_cons_succ])
  refine wpAnyN_free 46 (v := ?_) (by kernel_rfl) rfl (fun _ _ _ h => h) hSd (by kernel_rfl) ?_ ?_; rotate_left; (focus (intro w; go_simp; try with_reducible rfl)); (try simp only [Act.put]); (try simp only [List.setIfInBounds_toArray, List.set_cons_zero, List.set_cons_succ])
  refine wpAnyN_free 47 (v := ?_) (by kernel_rfl) rfl (fun _ _ _ h => h) hSd (by kernel_rfl) ?_ ?_; rotate_left; (focus (intro w; go_simp; try with_reducible rfl)); (try simp only [Act.put]); (try simp only [List.setIfInBounds_toArray, List.set_cons_zero, List.set_cons_succ])
  refine wpAnyN_free 48 (v := ?_) (by kernel_rfl) rfl (fun _ _ _ h => h) hSd (by kernel_rfl) ?_ ?_; rotate_left; (focus (intro w; go_simp; try with_reducible rfl)); (try simp only [Act.put]); (try simp only [List.setIfInBounds_toArray, List.set_cons_zero, List.set_cons_succ])
  refine wpAnyN_free 49 (v := ?_) (by kernel_rfl) rfl (fun _ _ _ h => h) hSd (by kernel_rfl) ?_ ?_; rotate_left; (focus (intro w; go_simp; try with_reducible rfl)); (try simp only [Act.put]); (try simp only [List.setIfInBounds_toArray, List.set_cons_zero, List.set_cons_succ])
  refine wpAnyN_free 50 (v := ?_) (by kernel_rfl) rfl (fun _ _ _ h => h) hSd (by kernel_rfl) ?_ ?_; rotate_left; (focus (intro w; go_simp; try with_reducible rfl)); (try simp only [Act.put]); (try simp only [List.setIfInBounds_toArray, List.set_cons_zero, List.set_cons_succ])
  refine wpAnyN_free 51 (v := ?_) (by kernel_rfl) rfl (fun _ _ _ h => h) hSd (by kernel_rfl) ?_ ?_; rotate_left; (focus (intro w; go_simp; try with_reducible rfl)); (try simp only [Act.put]); (try simp only [List.setIfInBounds_toArray, List.set_cons_zero, List.set_cons_succ])
  refine wpAnyN_free 52 (v := ?_) (by kernel_rfl) rfl (fun _ _ _ h => h) hSd (by kernel_rfl) ?_ ?_; rotate_left; (focus (intro w; go_simp; try with_reducible rfl)); (try simp only [Act.put]); (try simp only [List.setIfInBounds_toArray, List.set_cons_zero, List.set_cons_succ])
  refine wpAnyN_free 53 (v := ?_) (by kernel_rfl) rfl (fun _ _ _ h => h) hSd (by kernel_rfl) ?_ ?_; rotate_left; (focus (intro w; go_simp; try with_reducible rfl)); (try simp only [Act.put]); (try simp only [List.setIfInBounds_toArray, List.set_cons_zero, List.set_cons_succ])
  refine wpAnyN_free 54 (v := ?_) (by kernel_rfl) rfl (fun _ _ _ h => h) hSd (by kernel_rfl) ?_ ?_; rotate_left; (focus (intro w; go_simp; try with_reducible rfl)); (try simp only [Act.put]); (try simp only [List.setIfInBounds_toArray, List.set_cons_zero, List.set_cons_succ])
  refine wpAnyN_free 55 (v := ?_) (by kernel_rfl) rfl (fun _ _ _ h => h) hSd (by kernel_rfl) ?_ ?_; rotate_left; (focus (intro w; go_simp; try with_reducible rfl)); (try simp only [Act.put]); (try simp only [List.setIfInBounds_toArray, List.set_cons_zero, List.set_cons_succ])
  refine wpAnyN_free 56 (v := ?_) (by kernel_rfl) rfl (fun _ _ _ h => h) hSd (by kernel_rfl) ?_ ?_; rotate_left; (focus (intro w; go_simp; try with_reducible rfl)); (try simp only [Act.put]); (try simp only [List.setIfInBounds_toArray, List.set_cons_zero, List.set_cons_succ])
  refine wpAnyN_one 57 (by kernel_rfl) (by simp only [List.getElem?_toArray, List.getElem?_cons_succ, List.getElem?_cons_zero] <;> rfl) (by kernel_rfl) (fun K hK => ?_)
  go_simp
  refine (known_any w10).mono ?_; rintro e w11 ⟨rfl, x11⟩
  have y11 := y10.trans x11
  go_wp2_with fail
  refine hK.out _ _ (HS.out _ y11) (fun hSd' => ?_)
  clear hK K hSd'
  have hSd := HS.out _ y11
  (try simp only [Act.put]); (try simp only [List.setIfInBounds_toArray, List.set_cons_zero, List.set_cons_succ])
  refine wpAnyN_tail (by rfl) (by decide) (by kernel_rfl) (by kernel_rfl) ?_
  simp only [List.drop_succ_cons, List.drop_zero]
  go_wp2_with fail
  go_ret
  exact ⟨rfl, (Hy7.out.trans xD).trans y11⟩
theorem nothing_any (fr tt kd n : Int) (na da ba : Option Addr) (nn nc dn dc bn bc : Nat) (w : World) (hn : nn ≤ 140737488355328) (hd : dn ≤ 140737488355328) (hb : bn ≤ 140737488355328) :
    Calls Tryz.prog 7 #[msgV fr tt kd (.slice na nn nc) (.slice da dn dc), .slice ba bn bc, .int .i64 n] w fun e w' => e = .returned (.bool true) ∧ Ext NoB w w' := by
  by_cases h : bn + dn + nn ≤ 30000
  · exact nothing_small fr tt kd n na da ba nn nc dn dc bn bc w hn hd hb h
  · exact nothing_big fr tt kd n na da ba nn nc dn dc bn bc w hn hd hb (by omega)
end Go.Proofs.YtgglbholbkdgfaaGreatDoor
