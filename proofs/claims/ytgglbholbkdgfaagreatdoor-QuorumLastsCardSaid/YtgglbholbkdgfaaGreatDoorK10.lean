/- Joined texts: B53 B54 B55. Each has its own head. -/
import Derived.Test.YtgglbholbkdgfaaGreatDoorK9
set_option linter.unusedVariables false
set_option linter.unusedSimpArgs false
namespace Go.Proofs.YtgglbholbkdgfaaGreatDoor
open Go.RowKit
def voteMsg (N : PNode) (fr yes : Int) : PMsg := ⟨N.id, fr, 2, [N.term, yes], []⟩
def PNode.newer (N : PNode) (i1 t2 : Int) : Bool := decide ((N.termOf N.log.length : Int) < t2) || (decide (t2 = (N.termOf N.log.length : Int)) && decide ((N.log.length : Int) ≤ i1))
def PNode.grants (N : PNode) (fr t0 i1 t2 : Int) : Bool := decide (t0 = (N.term : Int)) && (decide (N.vote = -1) || decide (N.vote = fr)) && N.newer i1 t2
set_option maxRecDepth 100000 in
set_option maxHeartbeats 8000000 in
theorem asked_no (r d : Nat) (F : Nat → Prop) (N : PNode) (room : Nat) (saved : Bool) (fr tt draw t0 i1 t2 : Int) (na da : Option Addr) (nc dl dc : Nat) (l : List Int) (w : World) (h : RaftIs w r d F N room saved)
    (hn : Rd w 1 (.slice na l.length nc) (intsV l)) (hl : l = [t0, i1, t2]) (hno : N.grants fr t0 i1 t2 = false) :
    Calls Tryz.prog 47 #[.pointer (some ⟨r, 0, none⟩), msgV fr tt 1 (.slice na l.length nc) (.slice da dl dc), .int .i64 draw] w (Many (fun _ => voteMsg N fr 0) [0] w) := by
  obtain ⟨L, tv, hb, hi1, hi2, hcm, hll⟩ := h.cells
  have hlen : l.length = 3 := by rw [hl]; rfl
  obtain ⟨nb, noff, rfl, hcell⟩ := nums_cell hn (by omega)
  have cn0 : w.cell? ⟨nb, noff, none⟩ = some (.int .i64 t0) := hcell 0 _ (by rw [hl]; rfl)
  have cn1 : w.cell? ⟨nb, noff + 1, none⟩ = some (.int .i64 i1) := hcell 1 _ (by rw [hl]; rfl)
  have cn2 : w.cell? ⟨nb, noff + 2, none⟩ = some (.int .i64 t2) := hcell 2 _ (by rw [hl]; rfl)
  rw [hlen] at hn ⊢
  obtain ⟨D, ps, hN, hrm, hperm⟩ := h.is
  have c0 : w.cell? ⟨r, 0, none⟩ = some (.int .i64 N.id) := by rw [cell_of_blk hb]; rfl
  have c5 : w.cell? ⟨r, 5, none⟩ = some (.int .i64 N.term) := by rw [cell_of_blk hb]; rfl
  have c6 : w.cell? ⟨r, 6, none⟩ = some (.int .i64 N.vote) := by rw [cell_of_blk hb]; rfl
  have hrl := lt_of_blk hb
  have hlast := Lib.hid (fun (w' : World) (x : Ext NoB w w') => rlast_any r d F N D ps w' (hN.no x))
  have hlastq := Lib.hid (fun (w1 : World) (x : Ext NoB w w1) (n : Nat) => (rlast_any r d F N D ps (w1.drewN n) ((hN.no x).no ((Ext.refl NoB w1).drewN n))).mono (R' := fun e w' => e = .returned (.int .i64 N.log.length) ∧ w' = w1.drewN n) (fun e w' h => ⟨h.1, h.2.symm⟩))
  have hterm := Lib.hid (fun (w' : World) (x : Ext NoB w w') => termOf_any r d F N D ps N.log.length w' (hN.no x) (by omega))
  obtain ⟨lt, hlt⟩ : ∃ lt, N.termOf N.log.length = lt := ⟨_, rfl⟩
  rw [hlt] at hterm
  have hA : (decide ((lt : Int) < t2) = true) ∨ (decide ((lt : Int) < t2) = false ∧ (t2 == (lt : Int)) = true ∧ decide ((N.log.length : Int) ≤ i1) = true) ∨ (decide ((lt : Int) < t2) = false ∧ (t2 == (lt : Int)) = true ∧ decide ((N.log.length : Int) ≤ i1) = false) ∨
      (decide ((lt : Int) < t2) = false ∧ (t2 == (lt : Int)) = false) := by
    by_cases h1 : (lt : Int) < t2
    · exact .inl (decide_eq_true h1)
    · by_cases h2 : t2 = (lt : Int)
      · by_cases h3 : (N.log.length : Int) ≤ i1
        · exact .inr (.inl ⟨decide_eq_false h1, beq_iff_eq.2 h2, decide_eq_true h3⟩)
        · exact .inr (.inr (.inl ⟨decide_eq_false h1, beq_iff_eq.2 h2, decide_eq_false h3⟩))
      · exact .inr (.inr (.inr ⟨decide_eq_false h1, beq_eq_false_iff_ne.2 h2⟩))
  have hB : ((t0 == (N.term : Int)) = false) ∨ ((t0 == (N.term : Int)) = true ∧ (N.vote == -1) = true) ∨ ((t0 == (N.term : Int)) = true ∧ (N.vote == -1) = false ∧ (N.vote == fr) = true) ∨ ((t0 == (N.term : Int)) = true ∧ (N.vote == -1) = false ∧ (N.vote == fr) = false) := by
    by_cases h1 : t0 = (N.term : Int)
    · by_cases h2 : N.vote = -1
      · exact .inr (.inl ⟨beq_iff_eq.2 h1, beq_iff_eq.2 h2⟩)
      · by_cases h3 : N.vote = fr
        · exact .inr (.inr (.inl ⟨beq_iff_eq.2 h1, beq_eq_false_iff_ne.2 h2, beq_iff_eq.2 h3⟩))
        · exact .inr (.inr (.inr ⟨beq_iff_eq.2 h1, beq_eq_false_iff_ne.2 h2, beq_eq_false_iff_ne.2 h3⟩))
    · exact .inl (beq_eq_false_iff_ne.2 h1)
  have hgr : N.grants fr t0 i1 t2 = ((t0 == (N.term : Int)) && ((N.vote == -1) || (N.vote == fr)) && (decide ((lt : Int) < t2) || ((t2 == (lt : Int)) && decide ((N.log.length : Int) ≤ i1)))) := by
    unfold PNode.grants PNode.newer
    rw [hlt]
    rfl
  rw [hno] at hgr
  have hgr' := hgr.symm
  clear hgr hno hlt h hb hn hcell hl hlen hN hrm hperm
  unfold msgV
  rcases hA with h1 | ⟨h1, h2, h3⟩ | ⟨h1, h2, h3⟩ | ⟨h1, h2⟩ <;> rcases hB with g1 | ⟨g1, g2⟩ | ⟨g1, g2, g3⟩ | ⟨g1, g2, g3⟩
  all_goals
    first
    | (exfalso; revert hgr'; simp_all; done)
    | (clear hgr'
       go_enter Tryz.func47, Tryz.ntmps47
       go_wp2_with fail
       obtain ⟨w1, BM, e1, e2, x1, b1, hs1⟩ := alloc_facts w (.cells #[.int .i64 fr, .int .i64 tt, .int .i64 1, .slice (some ⟨nb, noff, none⟩) 3 nc, .slice da dl dc] 37)
       rw [e1, e2]
       have dM0 : w1.cell? ⟨BM, 0, none⟩ = some (.int .i64 fr) := by rw [cell_of_blk b1]; rfl
       have dM3 : w1.cell? ⟨BM, 3, none⟩ = some (.slice (some ⟨nb, noff, none⟩) 3 nc) := by rw [cell_of_blk b1]; rfl
       have d0 := x1.cell c0 (fun h => h)
       have d5 := x1.cell c5 (fun h => h)
       have d6 := x1.cell c6 (fun h => h)
       have dn0 := x1.cell cn0 (fun h => h)
       have dn1 := x1.cell cn1 (fun h => h)
       have dn2 := x1.cell cn2 (fun h => h)
       have Hlast := Lib.hid (hlast.out w1 x1)
       have Hterm := Lib.hid (hterm.out w1 x1)
       have Hlq := Lib.hid (hlastq.out w1 x1)
       have Hx1 := Lib.hid x1
       clear e1 e2 x1 b1 hs1 c0 c5 c6 cn0 cn1 cn2 hlast hterm hlastq
       refine Hlast.out.mono ?_; rintro e w2 ⟨rfl, rfl⟩
       go_wp2_with fail
       refine Hterm.out.mono ?_; rintro e w2 ⟨rfl, rfl⟩
       go_wp2_with fail
       go_quiet (first | (go_at_call 54; exact Calls.quiet_of_same (Hlq.out _)))
       go_wp2_with fail
       have xa : Ext NoB w1 (w1.drewN nq) := (Ext.refl _ w1).drewN _
       generalize w1.drewN nq = wa at xa ⊢
       have a0 := xa.cell d0 (fun h => h)
       have a5 := xa.cell d5 (fun h => h)
       have a6 := xa.cell d6 (fun h => h)
       have aM0 := xa.cell dM0 (fun h => h)
       have aM3 := xa.cell dM3 (fun h => h)
       have an0 := xa.cell dn0 (fun h => h)
       clear d0 d5 d6 dM0 dM3 dn0 dn1 dn2
       go_quiet (fail)
       go_wp2_with fail
       have xb : Ext NoB wa (wa.drewN nq) := (Ext.refl _ wa).drewN _
       generalize wa.drewN nq = wz at xb ⊢
       have z0 := xb.cell a0 (fun h => h)
       have z5 := xb.cell a5 (fun h => h)
       have zM := xb.cell aM0 (fun h => h)
       have Hz := Lib.hid ((Hx1.out.trans xa).trans xb)
       clear a0 a5 a6 aM0 aM3 an0 xa xb Hlast Hterm Hlq
       have xq : Ext NoB wz wz.drew := (Ext.refl _ wz).drew
       refine wp_region_N (fun w' => w'.cell? ⟨BM, 0, none⟩ = some (.int .i64 fr) ∧ w'.cell? ⟨r, 5, none⟩ = some (.int .i64 N.term)) 10 (by kernel_rfl) ?_
       have hSd : wz.drew.cell? ⟨BM, 0, none⟩ = some (.int .i64 fr) ∧ wz.drew.cell? ⟨r, 5, none⟩ = some (.int .i64 N.term) := ⟨zM, z5⟩
       generalize wz.drew = wd at hSd xq ⊢
       refine wpAnyN_free 0 (v := ?_) (by kernel_rfl) rfl (fun _ _ _ h => h) hSd (by rfl) ?_ ?_; rotate_left; (focus (intro w; go_simp; try with_reducible rfl)); (try simp only [Act.put]); (try simp only [List.setIfInBounds_toArray, List.set_cons_zero, List.set_cons_succ])
       refine wpAnyN_free 1 (v := ?_) (by kernel_rfl) rfl (fun _ _ _ h => h) hSd (by rfl) ?_ ?_; rotate_left; (focus (intro w; go_simp; try with_reducible rfl)); (try simp only [Act.put]); (try simp only [List.setIfInBounds_toArray, List.set_cons_zero, List.set_cons_succ])
       refine wpAnyN_take 2 (v := ?_) (by kernel_rfl) rfl (fun _ _ _ h => h) hSd (by rfl) ?_ ?_; rotate_left; (focus (intro w hSw; (try dsimp only at hSw); go_simp; try with_reducible rfl)); (try simp only [Act.put]); (try simp only [List.setIfInBounds_toArray, List.set_cons_zero, List.set_cons_succ])
       refine wpAnyN_free 3 (v := ?_) (by kernel_rfl) rfl (fun _ _ _ h => h) hSd (by rfl) ?_ ?_; rotate_left; (focus (intro w; go_simp; try with_reducible rfl)); (try simp only [Act.put]); (try simp only [List.setIfInBounds_toArray, List.set_cons_zero, List.set_cons_succ])
       refine wpAnyN_free 4 (v := ?_) (by kernel_rfl) rfl (fun _ _ _ h => h) hSd (by rfl) ?_ ?_; rotate_left; (focus (intro w; go_simp; try with_reducible rfl)); (try simp only [Act.put]); (try simp only [List.setIfInBounds_toArray, List.set_cons_zero, List.set_cons_succ])
       refine wpAnyN_free 5 (v := ?_) (by kernel_rfl) rfl (fun _ _ _ h => h) hSd (by rfl) ?_ ?_; rotate_left; (focus (intro w; go_simp; try with_reducible rfl)); (try simp only [Act.put]); (try simp only [List.setIfInBounds_toArray, List.set_cons_zero, List.set_cons_succ])
       refine wpAnyN_take 6 (v := ?_) (by kernel_rfl) rfl (fun _ _ _ h => h) hSd (by rfl) ?_ ?_; rotate_left; (focus (intro w hSw; (try dsimp only at hSw); go_simp; try with_reducible rfl)); (try simp only [Act.put]); (try simp only [List.setIfInBounds_toArray, List.set_cons_zero, List.set_cons_succ])
       refine wpAnyN_free 7 (v := ?_) (by kernel_rfl) rfl (fun _ _ _ h => h) hSd (by rfl) ?_ ?_; rotate_left; (focus (intro w; go_simp; try with_reducible rfl)); (try simp only [Act.put]); (try simp only [List.setIfInBounds_toArray, List.set_cons_zero, List.set_cons_succ])
       refine wpAnyN_one 8 (by kernel_rfl) (by simp only [List.getElem?_toArray, List.getElem?_cons_succ, List.getElem?_cons_zero] <;> rfl) (by rfl) (fun K hK => ?_)
       go_simp
       obtain ⟨w3, B, e3, e4, x3, b3, hs3⟩ := alloc_facts wd (.cells #[.int .i64 N.term, .int .i64 0] 3)
       rw [e3, e4]
       have hS3 := And.intro (x3.cell hSd.1 (fun h => h)) (x3.cell hSd.2 (fun h => h))
       refine hK.out _ _ hS3 (fun hSd => ?_)
       clear hK K hSd
       have hSd := hS3
       (try simp only [Act.put]); (try simp only [List.setIfInBounds_toArray, List.set_cons_zero, List.set_cons_succ])
       refine wpAnyN_one 9 (by kernel_rfl) (by simp only [List.getElem?_toArray, List.getElem?_cons_succ, List.getElem?_cons_zero] <;> rfl) (by rfl) (fun K hK => ?_)
       go_simp
       have y3 : Ext NoB wz w3 := xq.trans x3
       refine (msg_any r N.id fr 2 none (some ⟨B, 0, none⟩) 0 0 2 2 w3 (y3.cell z0 (fun h => h))).mono ?_; rintro e w4 ⟨rfl, x4⟩
       have hS4 := And.intro (x4.cell hSd.1 (fun h => h)) (x4.cell hSd.2 (fun h => h))
       unfold msgV
       go_wp2_with fail
       refine hK.out _ _ hS4 (fun hSd => ?_)
       clear hK K hSd
       (try simp only [Act.put]); (try simp only [List.setIfInBounds_toArray, List.set_cons_zero, List.set_cons_succ])
       refine wpAnyN_tail (by rfl) (by decide) (by kernel_rfl) (by kernel_rfl) ?_
       simp only [List.drop_succ_cons, List.drop_zero]
       have Hb4 := Lib.hid (x4.blk b3 (fun h => h))
       have Hy4 := Lib.hid (y3.trans x4)
       clear hS4 hS3 hSd x4 b3 y3 x3 e3
       go_wp2_with fail
       obtain ⟨w5, R, q1, q2, x5, b5, hs5⟩ := alloc_facts w4 (.cells #[.int .i64 N.id, .int .i64 fr, .int .i64 2, .slice (some ⟨B, 0, none⟩) 2 2, .slice none 0 0] 37)
       rw [q1, q2]
       have Hb5 := Lib.hid b5
       have Hx5 := Lib.hid x5
       have Hq2 := Lib.hid q2
       clear q1 q2 b5 x5 hs5
       go_wp2_with fail
       go_ret
       have x5 := Hx5.out
       have hsend : MsgsAre w5 (.slice (some ⟨R, 0, none⟩) 1 1) [voteMsg N fr 0] := MsgsAre.one (fr := (0, 0)) (m := [.int .i64 N.id, .int .i64 fr, .int .i64 2, .slice (some ⟨B, 0, none⟩) 2 2, .slice none 0 0]) Hb5.out ⟨_, _, rfl, .inr ⟨B, 2, 2, _, rfl, x5.blk Hb4.out (fun h => h), Nat.le_refl _, Nat.le_refl _, by unfold maxLen; omega, rfl, rfl⟩, Own.nil _ _ _⟩
       have y5 : Ext NoB wz w5 := Hy4.out.trans x5
       have hfresh : Fresh wz (.slice (some ⟨R, 0, none⟩) 1 1) := fun g hg => by
         simp [Value.ownBlock] at hg
         have := Hq2.out
         have := Hy4.out.size
         omega
       have hsz := Hz.out.size
       exact ⟨_, rfl, hsend, fun g hg => by have := hfresh g hg; omega, Hz.out.trans y5⟩)
end Go.Proofs.YtgglbholbkdgfaaGreatDoor
namespace Go.Proofs.YtgglbholbkdgfaaGreatDoor
open Go.RowKit
theorem Many.sends {r d : Nat} {F : Nat → Prop} {w w' : World} {N : PNode} {room : Nat} {saved : Bool} {mk : Nat → PMsg} {ts : List Nat} {e : Ending} (h : Many mk ts w e w') (hR : RaftIs w r d F N room saved) : Sends r d F w (ts.map mk) N room saved e w' := by
 obtain ⟨v, h1, h2, h3, h4⟩ := h
 have hR' := hR.no h4
 exact ⟨v, h1, h2, h3, h4.of_no, hR'.wide (fun b hb => .inl hb) (fun b hb => hb.elim (hR'.lt b) (fun h => h.2))⟩
theorem Sends.none {r d : Nat} {F : Nat → Prop} {w w' : World} {N : PNode} {room : Nat} {saved : Bool} (x : Ext NoB w w') (hR : RaftIs w r d F N room saved) : Sends r d F w [] N room saved (.returned (.slice none 0 0)) w' := by
 have hR' := hR.no x
 exact ⟨_, rfl, ⟨[], .nil, Own.nil _ _ _⟩, Fresh.nil _ _ _, x.of_no, hR'.wide (fun b hb => .inl hb) (fun b hb => hb.elim (hR'.lt b) (fun h => h.2))⟩
set_option maxRecDepth 100000 in
set_option maxHeartbeats 2000000 in
theorem elects_no (r d : Nat) (F : Nat → Prop) (N : PNode) (room : Nat) (saved : Bool) (fr tt kd : Int) (na da : Option Addr) (nn nc dl dc : Nat) (w : World) (h : RaftIs w r d F N room saved) (hr : N.role ≠ 1) :
  Calls Tryz.prog 48 #[.pointer (some ⟨r, 0, none⟩), msgV fr tt kd (.slice na nn nc) (.slice da dl dc)] w (Sends r d F w [] N room saved) := by
 obtain ⟨L, tv, hb, hi1, hi2, hcm, hll⟩ := h.cells
 have c7 : w.cell? ⟨r, 7, none⟩ = some (.int .i64 N.role) := by rw [cell_of_blk hb]; rfl
 have hb1 : ((N.role : Int) != 1) = true := by rw [bne_iff_ne]; omega
 have hrl := lt_of_blk hb
 have H := Lib.hid h
 clear h hb
 unfold msgV
 go_enter Tryz.func48, Tryz.ntmps48
 go_wp2_with fail
 go_quiet (fail)
 go_wp2_with fail
 go_ret
 exact Sends.none (((Ext.refl NoB w).alloc _).drewN _) H.out
set_option maxRecDepth 100000 in
set_option maxHeartbeats 2000000 in
theorem counts_no (r d : Nat) (F : Nat → Prop) (N : PNode) (room : Nat) (saved : Bool) (fr tt kd n2 : Int) (na da : Option Addr) (nc dl dc : Nat) (l : List Int) (w : World) (h : RaftIs w r d F N room saved)
  (hn : Rd w 1 (.slice na l.length nc) (intsV l)) (h2 : l[2]? = some n2) (hr : N.role ≠ 2) :
  Calls Tryz.prog 50 #[.pointer (some ⟨r, 0, none⟩), msgV fr tt kd (.slice na l.length nc) (.slice da dl dc)] w (Sends r d F w [] N room saved) := by
 obtain ⟨L, tv, hb, hi1, hi2, hcm, hll⟩ := h.cells
 have hlp : 2 < l.length := (List.getElem?_eq_some_iff.1 h2).1
 obtain ⟨nb, noff, rfl, hcell⟩ := nums_cell hn (by omega)
 have cn2 := hcell 2 n2 h2
 have hnl := World.block_lt_of_cell? w _ cn2
 have c7 : w.cell? ⟨r, 7, none⟩ = some (.int .i64 N.role) := by rw [cell_of_blk hb]; rfl
 have hb1 : ((N.role : Int) != 2) = true := by rw [bne_iff_ne]; omega
 have hlp2 : (2 : Int) < (l.length : Int) := by omega
 have hrl := lt_of_blk hb
 have H := Lib.hid h
 clear h hb hn hcell h2
 unfold msgV
 go_enter Tryz.func50, Tryz.ntmps50
 go_wp2_with fail
 go_quiet (fail)
 go_wp2_with fail
 go_ret
 exact Sends.none (((Ext.refl NoB w).alloc _).drewN _) H.out
set_option maxRecDepth 100000 in
set_option maxHeartbeats 2000000 in
theorem Hear_same2 (r d : Nat) (F : Nat → Prop) (N N' : PNode) (room : Nat) (saved : Bool) (Ms : List PMsg) (fr tt draw t0 : Int) (na da : Option Addr) (nc dl dc : Nat) (l : List Int) (w : World) (h : RaftIs w r d F N room saved)
  (hn : Rd w 1 (.slice na l.length nc) (intsV l)) (h0 : l[0]? = some t0) (hle : t0 ≤ N.term)
  (hmay : ∀ w1, Ext NoB w w1 → Calls Tryz.prog 45 #[.pointer (some ⟨r, 0, none⟩), msgV fr tt 2 (.slice na l.length nc) (.slice da dl dc)] w1 (MayEnds true w1))
  (hdo : ∀ w1, Ext NoB w w1 → Calls Tryz.prog 48 #[.pointer (some ⟨r, 0, none⟩), msgV fr tt 2 (.slice na l.length nc) (.slice da dl dc)] w1 (Sends r d F w1 Ms N' room saved)) :
  Calls Tryz.prog 19 #[.pointer (some ⟨r, 0, none⟩), msgV fr tt 2 (.slice na l.length nc) (.slice da dl dc), .int .i64 draw] w (Sends r d F w Ms N' room saved) := by
 obtain ⟨L, tv, hb, hi1, hi2, hcm, hll⟩ := h.cells
 have hlp : 0 < l.length := (List.getElem?_eq_some_iff.1 h0).1
 obtain ⟨nb, noff, rfl, hcell⟩ := nums_cell hn hlp
 have cn0 : w.cell? ⟨nb, noff, none⟩ = some (.int .i64 t0) := hcell 0 t0 h0
 have c5 : w.cell? ⟨r, 5, none⟩ = some (.int .i64 N.term) := by rw [cell_of_blk hb]; rfl
 have c23 : w.cell? ⟨r, 23, none⟩ = some (.bool false) := by rw [cell_of_blk hb]; rfl
 have hlp2 : (0 : Int) < (l.length : Int) := by omega
 have hle2 : ¬ ((N.term : Int) < t0) := by omega
 have hrl := lt_of_blk hb
 have Hlt := Lib.hid h.lt
 have Hmay := Lib.hid hmay
 have Hdo := Lib.hid hdo
 clear h hb hn hcell h0 hmay hdo
 unfold msgV
 go_enter Tryz.func19, Tryz.ntmps19
 go_wp2_with fail
 obtain ⟨w1, BM, e1, e2, x1, b1, hs1⟩ := alloc_facts w (.cells #[.int .i64 fr, .int .i64 tt, .int .i64 2, .slice (some ⟨nb, noff, none⟩) l.length nc, .slice da dl dc] 37)
 rw [e1, e2]
 refine (Hmay.out w1 x1).mono ?_; rintro e w2 ⟨rfl, x2⟩
 have x02 := x1.trans x2
 have b2 := x2.blk b1 (fun h => h)
 have dM0 : w2.cell? ⟨BM, 0, none⟩ = some (.int .i64 fr) := by rw [cell_of_blk b2]; rfl
 have dM1 : w2.cell? ⟨BM, 1, none⟩ = some (.int .i64 tt) := by rw [cell_of_blk b2]; rfl
 have dM2 : w2.cell? ⟨BM, 2, none⟩ = some (.int .i64 2) := by rw [cell_of_blk b2]; rfl
 have dM3 : w2.cell? ⟨BM, 3, none⟩ = some (.slice (some ⟨nb, noff, none⟩) l.length nc) := by rw [cell_of_blk b2]; rfl
 have dM4 : w2.cell? ⟨BM, 4, none⟩ = some (.slice da dl dc) := by rw [cell_of_blk b2]; rfl
 have d5 := x02.cell c5 (fun h => h)
 have dn0 := x02.cell cn0 (fun h => h)
 have Hx02 := Lib.hid x02
 clear e1 e2 x1 b1 hs1 x2 x02 b2 c5 cn0 c23
 go_wp2_with fail
 refine (Hdo.out w2 Hx02.out).mono ?_; rintro e w3 hS
 have hS := hS.behind (Hx02.out.of_no) Hlt.out
 obtain ⟨v, rfl, hm, hf, hx, hR⟩ := hS
 obtain ⟨ms, hms, hown⟩ := hm
 obtain ⟨va, vn, vc, rfl, _⟩ := hown.rd
 have Hm := Lib.hid hms
 have Ho := Lib.hid hown
 have Hf := Lib.hid hf
 have Hx := Lib.hid hx
 have HR := Lib.hid hR
 clear hms hown hf hx hR
 go_wp2_with fail
 go_ret
 exact ⟨_, rfl, ⟨ms, Hm.out, Ho.out⟩, Hf.out, Hx.out, HR.out⟩
set_option maxRecDepth 100000 in
set_option maxHeartbeats 2000000 in
theorem Hear_same3 (r d : Nat) (F : Nat → Prop) (N N' : PNode) (room : Nat) (saved : Bool) (Ms : List PMsg) (fr tt draw t0 : Int) (na da : Option Addr) (nc dl dc : Nat) (l : List Int) (w : World) (h : RaftIs w r d F N room saved)
  (hn : Rd w 1 (.slice na l.length nc) (intsV l)) (h0 : l[0]? = some t0) (hle : t0 ≤ N.term)
  (hmay : ∀ w1, Ext NoB w w1 → Calls Tryz.prog 45 #[.pointer (some ⟨r, 0, none⟩), msgV fr tt 3 (.slice na l.length nc) (.slice da dl dc)] w1 (MayEnds true w1))
  (hdo : ∀ w1, Ext NoB w w1 → Calls Tryz.prog 49 #[.pointer (some ⟨r, 0, none⟩), msgV fr tt 3 (.slice na l.length nc) (.slice da dl dc), .int .i64 draw] w1 (Sends r d F w1 Ms N' room saved)) :
  Calls Tryz.prog 19 #[.pointer (some ⟨r, 0, none⟩), msgV fr tt 3 (.slice na l.length nc) (.slice da dl dc), .int .i64 draw] w (Sends r d F w Ms N' room saved) := by
 obtain ⟨L, tv, hb, hi1, hi2, hcm, hll⟩ := h.cells
 have hlp : 0 < l.length := (List.getElem?_eq_some_iff.1 h0).1
 obtain ⟨nb, noff, rfl, hcell⟩ := nums_cell hn hlp
 have cn0 : w.cell? ⟨nb, noff, none⟩ = some (.int .i64 t0) := hcell 0 t0 h0
 have c5 : w.cell? ⟨r, 5, none⟩ = some (.int .i64 N.term) := by rw [cell_of_blk hb]; rfl
 have c23 : w.cell? ⟨r, 23, none⟩ = some (.bool false) := by rw [cell_of_blk hb]; rfl
 have hlp2 : (0 : Int) < (l.length : Int) := by omega
 have hle2 : ¬ ((N.term : Int) < t0) := by omega
 have hrl := lt_of_blk hb
 have Hlt := Lib.hid h.lt
 have Hmay := Lib.hid hmay
 have Hdo := Lib.hid hdo
 clear h hb hn hcell h0 hmay hdo
 unfold msgV
 go_enter Tryz.func19, Tryz.ntmps19
 go_wp2_with fail
 obtain ⟨w1, BM, e1, e2, x1, b1, hs1⟩ := alloc_facts w (.cells #[.int .i64 fr, .int .i64 tt, .int .i64 3, .slice (some ⟨nb, noff, none⟩) l.length nc, .slice da dl dc] 37)
 rw [e1, e2]
 refine (Hmay.out w1 x1).mono ?_; rintro e w2 ⟨rfl, x2⟩
 have x02 := x1.trans x2
 have b2 := x2.blk b1 (fun h => h)
 have dM0 : w2.cell? ⟨BM, 0, none⟩ = some (.int .i64 fr) := by rw [cell_of_blk b2]; rfl
 have dM1 : w2.cell? ⟨BM, 1, none⟩ = some (.int .i64 tt) := by rw [cell_of_blk b2]; rfl
 have dM2 : w2.cell? ⟨BM, 2, none⟩ = some (.int .i64 3) := by rw [cell_of_blk b2]; rfl
 have dM3 : w2.cell? ⟨BM, 3, none⟩ = some (.slice (some ⟨nb, noff, none⟩) l.length nc) := by rw [cell_of_blk b2]; rfl
 have dM4 : w2.cell? ⟨BM, 4, none⟩ = some (.slice da dl dc) := by rw [cell_of_blk b2]; rfl
 have d5 := x02.cell c5 (fun h => h)
 have dn0 := x02.cell cn0 (fun h => h)
 have Hx02 := Lib.hid x02
 clear e1 e2 x1 b1 hs1 x2 x02 b2 c5 cn0 c23
 go_wp2_with fail
 refine (Hdo.out w2 Hx02.out).mono ?_; rintro e w3 hS
 have hS := hS.behind (Hx02.out.of_no) Hlt.out
 obtain ⟨v, rfl, hm, hf, hx, hR⟩ := hS
 obtain ⟨ms, hms, hown⟩ := hm
 obtain ⟨va, vn, vc, rfl, _⟩ := hown.rd
 have Hm := Lib.hid hms
 have Ho := Lib.hid hown
 have Hf := Lib.hid hf
 have Hx := Lib.hid hx
 have HR := Lib.hid hR
 clear hms hown hf hx hR
 go_wp2_with fail
 go_ret
 exact ⟨_, rfl, ⟨ms, Hm.out, Ho.out⟩, Hf.out, Hx.out, HR.out⟩
set_option maxRecDepth 100000 in
set_option maxHeartbeats 2000000 in
theorem Hear_same4 (r d : Nat) (F : Nat → Prop) (N N' : PNode) (room : Nat) (saved : Bool) (Ms : List PMsg) (fr tt draw t0 : Int) (na da : Option Addr) (nc dl dc : Nat) (l : List Int) (w : World) (h : RaftIs w r d F N room saved)
  (hn : Rd w 1 (.slice na l.length nc) (intsV l)) (h0 : l[0]? = some t0) (hle : t0 ≤ N.term)
  (hmay : ∀ w1, Ext NoB w w1 → Calls Tryz.prog 45 #[.pointer (some ⟨r, 0, none⟩), msgV fr tt 4 (.slice na l.length nc) (.slice da dl dc)] w1 (MayEnds true w1))
  (hdo : ∀ w1, Ext NoB w w1 → Calls Tryz.prog 50 #[.pointer (some ⟨r, 0, none⟩), msgV fr tt 4 (.slice na l.length nc) (.slice da dl dc)] w1 (Sends r d F w1 Ms N' room saved)) :
  Calls Tryz.prog 19 #[.pointer (some ⟨r, 0, none⟩), msgV fr tt 4 (.slice na l.length nc) (.slice da dl dc), .int .i64 draw] w (Sends r d F w Ms N' room saved) := by
 obtain ⟨L, tv, hb, hi1, hi2, hcm, hll⟩ := h.cells
 have hlp : 0 < l.length := (List.getElem?_eq_some_iff.1 h0).1
 obtain ⟨nb, noff, rfl, hcell⟩ := nums_cell hn hlp
 have cn0 : w.cell? ⟨nb, noff, none⟩ = some (.int .i64 t0) := hcell 0 t0 h0
 have c5 : w.cell? ⟨r, 5, none⟩ = some (.int .i64 N.term) := by rw [cell_of_blk hb]; rfl
 have c23 : w.cell? ⟨r, 23, none⟩ = some (.bool false) := by rw [cell_of_blk hb]; rfl
 have hlp2 : (0 : Int) < (l.length : Int) := by omega
 have hle2 : ¬ ((N.term : Int) < t0) := by omega
 have hrl := lt_of_blk hb
 have Hlt := Lib.hid h.lt
 have Hmay := Lib.hid hmay
 have Hdo := Lib.hid hdo
 clear h hb hn hcell h0 hmay hdo
 unfold msgV
 go_enter Tryz.func19, Tryz.ntmps19
 go_wp2_with fail
 obtain ⟨w1, BM, e1, e2, x1, b1, hs1⟩ := alloc_facts w (.cells #[.int .i64 fr, .int .i64 tt, .int .i64 4, .slice (some ⟨nb, noff, none⟩) l.length nc, .slice da dl dc] 37)
 rw [e1, e2]
 refine (Hmay.out w1 x1).mono ?_; rintro e w2 ⟨rfl, x2⟩
 have x02 := x1.trans x2
 have b2 := x2.blk b1 (fun h => h)
 have dM0 : w2.cell? ⟨BM, 0, none⟩ = some (.int .i64 fr) := by rw [cell_of_blk b2]; rfl
 have dM1 : w2.cell? ⟨BM, 1, none⟩ = some (.int .i64 tt) := by rw [cell_of_blk b2]; rfl
 have dM2 : w2.cell? ⟨BM, 2, none⟩ = some (.int .i64 4) := by rw [cell_of_blk b2]; rfl
 have dM3 : w2.cell? ⟨BM, 3, none⟩ = some (.slice (some ⟨nb, noff, none⟩) l.length nc) := by rw [cell_of_blk b2]; rfl
 have dM4 : w2.cell? ⟨BM, 4, none⟩ = some (.slice da dl dc) := by rw [cell_of_blk b2]; rfl
 have d5 := x02.cell c5 (fun h => h)
 have dn0 := x02.cell cn0 (fun h => h)
 have Hx02 := Lib.hid x02
 clear e1 e2 x1 b1 hs1 x2 x02 b2 c5 cn0 c23
 go_wp2_with fail
 refine (Hdo.out w2 Hx02.out).mono ?_; rintro e w3 hS
 have hS := hS.behind (Hx02.out.of_no) Hlt.out
 obtain ⟨v, rfl, hm, hf, hx, hR⟩ := hS
 obtain ⟨ms, hms, hown⟩ := hm
 obtain ⟨va, vn, vc, rfl, _⟩ := hown.rd
 have Hm := Lib.hid hms
 have Ho := Lib.hid hown
 have Hf := Lib.hid hf
 have Hx := Lib.hid hx
 have HR := Lib.hid hR
 clear hms hown hf hx hR
 go_wp2_with fail
 go_ret
 exact ⟨_, rfl, ⟨ms, Hm.out, Ho.out⟩, Hf.out, Hx.out, HR.out⟩
end Go.Proofs.YtgglbholbkdgfaaGreatDoor
namespace Go.Proofs.YtgglbholbkdgfaaGreatDoor
open Go.RowKit
def PNode.newer_ (N : PNode) (t : Nat) : PNode := { N with term := t, vote := -1, role := 0, leader := -1 }
set_option maxRecDepth 100000 in
set_option maxHeartbeats 4000000 in
theorem Hear_newer1 (r d : Nat) (F : Nat → Prop) (N N' : PNode) (room : Nat) (saved : Bool) (Ms : List PMsg) (fr tt draw : Int) (t0 : Nat) (na da : Option Addr) (nc dl dc : Nat) (l : List Int) (w : World) (h : RaftIs w r d F N room saved)
  (hn : Rd w 1 (.slice na l.length nc) (intsV l)) (hoff : Off F (.slice na l.length nc)) (h0 : l[0]? = some (t0 : Int)) (hgt : N.term < t0) (ht0 : t0 ≤ 1099511627776) (hroom : N.bytes + 100 ≤ room)
  (hmay : ∀ w1, Ext NoB w w1 → Calls Tryz.prog 45 #[.pointer (some ⟨r, 0, none⟩), msgV fr tt 1 (.slice na l.length nc) (.slice da dl dc)] w1 (MayEnds true w1))
  (hdo : ∀ w1 F1, RaftIs w1 r d F1 (N.newer_ t0) room true → Rd w1 1 (.slice na l.length nc) (intsV l) → Off F1 (.slice na l.length nc) → Calls Tryz.prog 47 #[.pointer (some ⟨r, 0, none⟩), msgV fr tt 1 (.slice na l.length nc) (.slice da dl dc), .int .i64 draw] w1 (Sends r d F1 w1 Ms N' room true)) :
  Calls Tryz.prog 19 #[.pointer (some ⟨r, 0, none⟩), msgV fr tt 1 (.slice na l.length nc) (.slice da dl dc), .int .i64 draw] w (Sends r d F w Ms N' room true) := by
 obtain ⟨L, tv, hb, hi1, hi2, hcm, hll⟩ := h.cells
 have hlp : 0 < l.length := (List.getElem?_eq_some_iff.1 h0).1
 obtain ⟨nb, noff, rfl, hcell⟩ := nums_cell hn hlp
 have hnbF : ¬ F nb := hoff nb rfl
 have cn0 : w.cell? ⟨nb, noff, none⟩ = some (.int .i64 t0) := hcell 0 t0 h0
 have hnbl : nb < w.heap.size := World.block_lt_of_cell? w _ cn0
 have c5 : w.cell? ⟨r, 5, none⟩ = some (.int .i64 N.term) := by rw [cell_of_blk hb]; rfl
 have c23 : w.cell? ⟨r, 23, none⟩ = some (.bool false) := by rw [cell_of_blk hb]; rfl
 have hlp2 : (0 : Int) < (l.length : Int) := by omega
 have hgt2 : (N.term : Int) < (t0 : Int) := by omega
 have hrl := lt_of_blk hb
 have H := Lib.hid h
 have Hn := Lib.hid hn
 have Hmay := Lib.hid hmay
 have Hdo := Lib.hid hdo
 have Hturn := Lib.hid (fun (w' : World) (x : Ext NoB w w') => turns_any r d F N room saved t0 (-1) w' (h.no x) ht0 (by omega) hroom)
 clear h hb hn hcell h0 hmay hdo hoff
 unfold msgV
 go_enter Tryz.func19, Tryz.ntmps19
 go_wp2_with fail
 obtain ⟨w1, BM, e1, e2, x1, b1, hs1⟩ := alloc_facts w (.cells #[.int .i64 fr, .int .i64 tt, .int .i64 1, .slice (some ⟨nb, noff, none⟩) l.length nc, .slice da dl dc] 37)
 rw [e1, e2]
 have hBMF : ¬ F BM := fun hf => by have := H.out.lt BM hf; omega
 refine (Hmay.out w1 x1).mono ?_; rintro e w2 ⟨rfl, x2⟩
 have x02 := x1.trans x2
 have b2 := x2.blk b1 (fun h => h)
 have dM3 : w2.cell? ⟨BM, 3, none⟩ = some (.slice (some ⟨nb, noff, none⟩) l.length nc) := by rw [cell_of_blk b2]; rfl
 have d5 := x02.cell c5 (fun h => h)
 have dn0 := x02.cell cn0 (fun h => h)
 have Hx02 := Lib.hid x02
 have Hb2 := Lib.hid b2
 have hBM2 : BM < w2.heap.size := lt_of_blk b2
 clear e1 x1 b1 hs1 x2 x02 b2 c5 cn0 c23
 go_wp2_with fail
 refine (Hturn.out w2 Hx02.out).mono ?_; rintro e w3 ⟨rfl, x3, r3⟩
 have b3 := x3.blk Hb2.out hBMF
 obtain ⟨L3, tv3, hb3, _, _, _, _⟩ := r3.cells
 have d7 : w3.cell? ⟨r, 7, none⟩ = some (.int .i64 N.role) := by rw [cell_of_blk hb3]; rfl
 have d8 : w3.cell? ⟨r, 8, none⟩ = some (.int .i64 N.leader) := by rw [cell_of_blk hb3]; rfl
 have f7 : w3.frozen? ⟨r, 7, none⟩ = false := frozen_of_blk hb3 7
 have f8 : w3.frozen? ⟨r, 8, none⟩ = false := frozen_of_blk hb3 8
 have hBMr : BM ≠ r := by omega
 have m0 : w3.cell? ⟨BM, 0, none⟩ = some (.int .i64 fr) := by rw [cell_of_blk b3]; rfl
 have m1 : w3.cell? ⟨BM, 1, none⟩ = some (.int .i64 tt) := by rw [cell_of_blk b3]; rfl
 have m2 : w3.cell? ⟨BM, 2, none⟩ = some (.int .i64 1) := by rw [cell_of_blk b3]; rfl
 have m3 : w3.cell? ⟨BM, 3, none⟩ = some (.slice (some ⟨nb, noff, none⟩) l.length nc) := by rw [cell_of_blk b3]; rfl
 have m4 : w3.cell? ⟨BM, 4, none⟩ = some (.slice da dl dc) := by rw [cell_of_blk b3]; rfl
 have hnbr : nb ≠ r := fun e => hnbF (by
  obtain ⟨_, _, ⟨_, _, _, _, _, _, k1, k2, _⟩, _, _⟩ := H.out.is
  exact e ▸ k2 r (.inr (.inr k1.self)))
 have xs : Ext (fun b => b = r) w3 ((w3.setCell ⟨r, 7, none⟩ (.int .i64 0)).setCell ⟨r, 8, none⟩ (.int .i64 (-1))) := ((Ext.refl (fun b => b = r) w3).setCell (p := ⟨r, 7, none⟩) (.inl rfl) _).setCell (p := ⟨r, 8, none⟩) (.inl rfl) _
 have r4 := RaftIs.set (N' := N.newer_ t0) r3 xs (fun L tv hb => blk_setCell (blk_setCell hb 7 _) 8 _) rfl ⟨hi1, hi2⟩ hcm rfl rfl
 have b4 := xs.blk b3 hBMr
 have Hb4 := Lib.hid b4
 have Hr4 := Lib.hid r4.1
 have Hx4 := Lib.hid r4.2
 have Hx3 := Lib.hid x3
 have hFF : ∀ b, Gr F w2 w3 b → b < w.heap.size → F b := fun b hb hl => hb.elim (fun h => h) (fun h => by have := Hx02.out.size; omega)
 have hgn : ¬ Gr F w2 w3 nb := fun hg => hnbF (hFF nb hg hnbl)
 have hn4 : Rd ((w3.setCell ⟨r, 7, none⟩ (.int .i64 0)).setCell ⟨r, 8, none⟩ (.int .i64 (-1))) 1 (.slice (some ⟨nb, noff, none⟩) l.length nc) (intsV l) := ((Hn.out.no Hx02.out).ext x3 (fun g hg => by cases hg; exact hnbF)).ext xs (fun g hg => by cases hg; exact hnbr)
 have Hn4 := Lib.hid hn4
 clear r4 r3 b3 hb3 b4 x3 xs dM3 d5 dn0 hn4
 go_wp2_with fail
 refine (Hdo.out _ _ Hr4.out Hn4.out (fun g hg => by cases hg; exact hgn)).mono ?_; rintro e w5 hS
 have hltG := Hr4.out.lt
 obtain ⟨v, rfl, hm, hf, hx, hR⟩ := hS
 obtain ⟨ms, hms, hown⟩ := hm
 obtain ⟨va, vn, vc, rfl, _⟩ := hown.rd
 have Hm := Lib.hid hms
 have Ho := Lib.hid hown
 have Hf := Lib.hid hf
 have Hx := Lib.hid hx
 have HR := Lib.hid hR
 clear hms hown hf hx hR hltG
 go_wp2_with fail
 go_ret
 have x03 : Ext F w w3 := (Hx02.out.of_no).trans Hx3.out
 have x04 := x03.next Hx4.out (fun b h hb => hFF b h hb)
 have x05 := x04.next Hx.out (fun b h hb => hFF b h hb)
 have s3 := x03.size
 have s4 := x04.size
 have s45 := Hx.out.size
 have s34 := Hx4.out.size
 have s02 := Hx02.out.size
 have s23 := Hx3.out.size
 refine ⟨_, rfl, ⟨ms, Hm.out, Ho.out⟩, fun g hg => by have := Hf.out g hg; omega, x05, HR.out.wide (fun b hb => ?_) (fun b hb => ?_)⟩
 ·rcases hb with (hb | hb) | hb
  ·exact .inl hb
  ·exact .inr (by omega)
  ·exact .inr ⟨by omega, hb.2⟩
 ·rcases hb with hb | hb
  ·exact Nat.lt_of_lt_of_le (H.out.lt b hb) x05.size
  ·exact hb.2
end Go.Proofs.YtgglbholbkdgfaaGreatDoor
