/- Joined texts: B46 B48 B49 B50 B51 B52. Each has its own head. -/
import Derived.Test.YtgglbholbkdgfaaGreatDoorK8
set_option linter.unusedVariables false
set_option linter.unusedSimpArgs false
namespace Go.Proofs.YtgglbholbkdgfaaGreatDoor
open Go.RowKit
end Go.Proofs.YtgglbholbkdgfaaGreatDoor
namespace Go.Proofs.YtgglbholbkdgfaaGreatDoor
open Go.RowKit
def okNum (x : Int) : Bool := decide (0 ≤ x) && decide (x ≤ 1099511627776)
def goodB (l : List Int) (k : Int) : Bool := decide ((l.length : Int) = k) && l.all okNum
set_option maxRecDepth 100000 in
set_option maxHeartbeats 1000000 in
theorem good_any (a : Option Addr) (c : Nat) (l : List Int) (k : Int) (w : World) (h : Rd w 1 (.slice a l.length c) (intsV l)) (hl : l.length ≤ 1000000000) :
  Calls Tryz.prog 83 #[.slice a l.length c, .int .i64 k] w fun e w' => e = .returned (.bool (goodB l k)) ∧ w = w' := by
 by_cases hk : (l.length : Int) = k
 ·have hb1 : ((l.length : Int) != k) = false := by rw [hk]; simp
  have hg : goodB l k = l.all okNum := by unfold goodB; rw [decide_eq_true hk]; simp
  rw [hg]
  obtain ⟨a', n', c', hv, hln, hnc, hcm, hsp, hr⟩ := h
  cases hv
  have HR := Lib.hid hr
  have Hk := Lib.hid hk
  clear hr hk hg hln
  go_enter Tryz.func83, Tryz.ntmps83
  go_wp2_with fail
  go_loop [13] (fun i => ∃ j : Nat, i = .int .i64 j ∧ j ≤ l.length ∧ Hid (l.all okNum = (l.drop j).all okNum)) (fun i => l.length - (intOf i).toNat)
  case atStart => exact ⟨0, rfl, Nat.zero_le _, Lib.hid (by simp)⟩
  case round =>
   obtain ⟨j, rfl, hj, HJ⟩ := hrel
   by_cases hlt : j < l.length
   ·obtain ⟨b, off, rfl, hcell⟩ := HR.out (by intro e; have := congrArg List.length e; simp at this; simp [this] at hlt)
    obtain ⟨x, hx⟩ : ∃ x, l[j]? = some x := ⟨_, List.getElem?_eq_getElem hlt⟩
    have cx := hcell j (.int .i64 x) (by simp [intsV, hx])
    have hds : l.drop j = x :: l.drop (j + 1) := by
     rw [List.drop_eq_getElem_cons hlt]
     congr 1
     exact (List.getElem?_eq_some_iff.1 hx).2
    have HD := Lib.hid hds
    clear hx hds hcell
    by_cases h0 : x < 0
    ·go_wp2_with fail
     go_ret
     refine ⟨retBool ?_, rfl⟩
     rw [HJ.out, HD.out, List.all_cons]
     have : okNum x = false := by unfold okNum; simp; omega
     rw [this]; rfl
    ·by_cases h1 : (1099511627776 : Int) < x
     ·go_wp2_with fail
      go_ret
      refine ⟨retBool ?_, rfl⟩
      rw [HJ.out, HD.out, List.all_cons]
      have : okNum x = false := by unfold okNum; simp; omega
      rw [this]; rfl
     ·go_wp2_with fail
      go_round
      case rel =>
       refine ⟨j + 1, by go_num, by omega, Lib.hid ?_⟩
       rw [HJ.out, HD.out, List.all_cons]
       have : okNum x = true := by unfold okNum; simp; omega
       rw [this]; rfl
      case measure => simp [intOf]; omega
   ·obtain rfl : j = l.length := by omega
    go_wp2_with fail
    go_ret
    refine ⟨retBool ?_, rfl⟩
    rw [HJ.out, List.drop_length]
    rfl
 ·have hb1 : ((l.length : Int) != k) = true := by rw [bne_iff_ne]; exact hk
  have hg : goodB l k = false := by unfold goodB; rw [decide_eq_false hk]; rfl
  rw [hg]
  clear hg
  go_enter Tryz.func83, Tryz.ntmps83
  go_wp2_with fail
  go_ret
  exact ⟨rfl, rfl⟩
set_option maxRecDepth 100000 in
set_option maxHeartbeats 1000000 in
theorem sent_nil (a : Option Addr) (c : Nat) (w : World) :
  Calls Tryz.prog 84 #[.slice a 0 c] w fun e w' => e = .returned (.tuple #[.slice none 0 0, .bool true]) ∧ Ext NoB w w' := by
 go_enter Tryz.func84, Tryz.ntmps84
 go_wp2_with fail
 refine wp_loop_rounds 1 ?_
 rw [rounds_succ]
 go_wp2_with fail
 go_ret2
 exact ⟨rfl, (Ext.refl _ w).alloc _⟩
end Go.Proofs.YtgglbholbkdgfaaGreatDoor
namespace Go.Proofs.YtgglbholbkdgfaaGreatDoor
open Go.RowKit
theorem nums_cell {w : World} {a : Option Addr} {c : Nat} {l : List Int} (h : Rd w 1 (.slice a l.length c) (intsV l)) (hl : 0 < l.length) : ∃ b off, a = some ⟨b, off, none⟩ ∧ ∀ (j : Nat) (x : Int), l[j]? = some x → w.cell? ⟨b, off + j, none⟩ = some (.int .i64 x) := by
 obtain ⟨a', n', c', hv, _, _, _, _, hr⟩ := h
 cases hv
 obtain ⟨b, off, rfl, hc⟩ := hr (by intro e; have := congrArg List.length e; simp at this; simp [this] at hl)
 exact ⟨b, off, rfl, fun j x hx => hc j _ (by simp [intsV, hx])⟩
def mayB (kd : Int) (l : List Int) (dl : Nat) : Bool :=
 if kd = 1 then goodB l 3 && decide (dl = 0)
 else if kd = 2 then goodB l 2 && decide (l.getD 1 0 ≤ 1) && decide (dl = 0)
 else if kd = 3 then goodB l 4
 else if kd = 4 then goodB l 3 && decide (l.getD 1 0 ≤ 1) && decide (dl = 0)
 else false
def MayEnds (b : Bool) (w : World) (e : Ending) (w' : World) : Prop := e = .returned (.bool b) ∧ Ext NoB w w'
set_option maxRecDepth 100000 in
set_option maxHeartbeats 2000000 in
theorem may_1 (r d : Nat) (F : Nat → Prop) (N : PNode) (D : PDisk) (ps : List PSeg) (fr : Nat) (na da : Option Addr) (nc dl dc : Nat) (l : List Int) (w : World) (h : NodeIs w r d F N D ps) (hfr : fr < N.n) (hne : fr ≠ N.id)
  (hn : Rd w 1 (.slice na l.length nc) (intsV l)) (hl : l.length ≤ 1000000000) :
  Calls Tryz.prog 45 #[.pointer (some ⟨r, 0, none⟩), msgV fr N.id 1 (.slice na l.length nc) (.slice da dl dc)] w (MayEnds (mayB 1 l dl) w) := by
 obtain ⟨L, FD, FL, FR, tv, dl', hA, _⟩ := h
 have hb := hA.blk
 have c0 : w.cell? ⟨r, 0, none⟩ = some (.int .i64 N.id) := by rw [cell_of_blk hb]; rfl
 have c1 : w.cell? ⟨r, 1, none⟩ = some (.int .i64 N.n) := by rw [cell_of_blk hb]; rfl
 have hrl := lt_of_blk hb
 have hn5 := hA.idn.2
 have hb1 : ((N.id : Int) != (N.id : Int)) = false := by simp
 have hb2 : decide ((fr : Int) < 0) = false := decide_eq_false (by omega)
 have hb3 : decide ((N.n : Int) ≤ (fr : Int)) = false := decide_eq_false (by omega)
 have hb4 : ((fr : Int) == (N.id : Int)) = false := beq_eq_false_iff_ne.2 (by omega)
 have hgood := Lib.hid (fun (k : Int) (w' : World) (x : Ext NoB w w') => good_any na nc l k w' (hn.no x) hl)
 have HN := Lib.hid hn
 clear hA hb hn
 unfold msgV
 obtain ⟨g, hg⟩ : ∃ g, goodB l 3 = g := ⟨_, rfl⟩
 have hm : mayB 1 l dl = (g && decide (dl = 0)) := by unfold mayB; rw [if_pos rfl, hg]
 rw [hm]
 have Hg := Lib.hid hg
 clear hg hm
 cases g with
 | false =>
  go_enter Tryz.func45, Tryz.ntmps45
  go_wp2_with fail
  go_quiet (fail)
  go_wp2_with fail
  refine (hgood.out 3 _ (((Ext.refl NoB w).alloc _).drewN _)).mono ?_; rintro e w2 ⟨rfl, rfl⟩
  rw [Hg.out]
  go_wp2_with fail
  go_ret
  exact ⟨retBool rfl, ((Ext.refl NoB w).alloc _).drewN _⟩
 | true =>
  by_cases hd : dl = 0
  ·subst hd
   go_enter Tryz.func45, Tryz.ntmps45
   go_wp2_with fail
   go_quiet (fail)
   go_wp2_with fail
   refine (hgood.out 3 _ (((Ext.refl NoB w).alloc _).drewN _)).mono ?_; rintro e w2 ⟨rfl, rfl⟩
   rw [Hg.out]
   go_wp2_with fail
   go_ret
   exact ⟨retBool rfl, ((Ext.refl NoB w).alloc _).drewN _⟩
  ·have hb5 : ((dl : Int) == 0) = false := beq_eq_false_iff_ne.2 (by omega)
   have hb6 : decide (dl = 0) = false := decide_eq_false hd
   rw [hb6]
   clear hb6
   go_enter Tryz.func45, Tryz.ntmps45
   go_wp2_with fail
   go_quiet (fail)
   go_wp2_with fail
   refine (hgood.out 3 _ (((Ext.refl NoB w).alloc _).drewN _)).mono ?_; rintro e w2 ⟨rfl, rfl⟩
   rw [Hg.out]
   go_wp2_with fail
   go_ret
   exact ⟨retBool rfl, ((Ext.refl NoB w).alloc _).drewN _⟩
set_option maxRecDepth 100000 in
set_option maxHeartbeats 2000000 in
theorem may_2 (r d : Nat) (F : Nat → Prop) (N : PNode) (D : PDisk) (ps : List PSeg) (fr : Nat) (na da : Option Addr) (nc dc : Nat) (l : List Int) (w : World) (h : NodeIs w r d F N D ps) (hfr : fr < N.n) (hne : fr ≠ N.id)
  (hn : Rd w 1 (.slice na l.length nc) (intsV l)) (hl : l.length ≤ 1000000000) (hg : goodB l 2 = true) (y : Int) (hy : l[1]? = some y) (hy1 : y ≤ 1) :
  Calls Tryz.prog 45 #[.pointer (some ⟨r, 0, none⟩), msgV fr N.id 2 (.slice na l.length nc) (.slice da 0 dc)] w (MayEnds (true) w) := by
 obtain ⟨L, FD, FL, FR, tv, dl', hA, _⟩ := h
 have hb := hA.blk
 have c0 : w.cell? ⟨r, 0, none⟩ = some (.int .i64 N.id) := by rw [cell_of_blk hb]; rfl
 have c1 : w.cell? ⟨r, 1, none⟩ = some (.int .i64 N.n) := by rw [cell_of_blk hb]; rfl
 have hrl := lt_of_blk hb
 have hn5 := hA.idn.2
 have hb1 : ((N.id : Int) != (N.id : Int)) = false := by simp
 have hb2 : decide ((fr : Int) < 0) = false := decide_eq_false (by omega)
 have hb3 : decide ((N.n : Int) ≤ (fr : Int)) = false := decide_eq_false (by omega)
 have hb4 : ((fr : Int) == (N.id : Int)) = false := beq_eq_false_iff_ne.2 (by omega)
 have hgood := Lib.hid (fun (k : Int) (w' : World) (x : Ext NoB w w') => good_any na nc l k w' (hn.no x) hl)
 have HN := Lib.hid hn
 clear hA hb hn
 unfold msgV
 have hlen : l.length = 2 := by
  have h1 := hg
  unfold goodB at h1
  simp only [Bool.and_eq_true, decide_eq_true_eq] at h1
  omega
 have Hg := Lib.hid hg
 obtain ⟨nb, noff, rfl, hcell⟩ := nums_cell HN.out (by omega)
 have cy := hcell 1 y hy
 have hnl := World.block_lt_of_cell? w _ cy
 have h1l : (1 : Int) < (l.length : Int) := by omega
 clear hcell
 have Hlen := Lib.hid hlen
 clear hg hlen
 go_enter Tryz.func45, Tryz.ntmps45
 go_wp2_with fail
 go_quiet (fail)
 go_wp2_with fail
 refine (hgood.out 2 _ (((Ext.refl NoB w).alloc _).drewN _)).mono ?_; rintro e w2 ⟨rfl, rfl⟩
 rw [Hg.out]
 go_wp2_with fail
 go_ret
 exact ⟨retBool rfl, ((Ext.refl NoB w).alloc _).drewN _⟩
set_option maxRecDepth 100000 in
set_option maxHeartbeats 2000000 in
theorem may_4 (r d : Nat) (F : Nat → Prop) (N : PNode) (D : PDisk) (ps : List PSeg) (fr : Nat) (na da : Option Addr) (nc dc : Nat) (l : List Int) (w : World) (h : NodeIs w r d F N D ps) (hfr : fr < N.n) (hne : fr ≠ N.id)
  (hn : Rd w 1 (.slice na l.length nc) (intsV l)) (hl : l.length ≤ 1000000000) (hg : goodB l 3 = true) (y : Int) (hy : l[1]? = some y) (hy1 : y ≤ 1) :
  Calls Tryz.prog 45 #[.pointer (some ⟨r, 0, none⟩), msgV fr N.id 4 (.slice na l.length nc) (.slice da 0 dc)] w (MayEnds (true) w) := by
 obtain ⟨L, FD, FL, FR, tv, dl', hA, _⟩ := h
 have hb := hA.blk
 have c0 : w.cell? ⟨r, 0, none⟩ = some (.int .i64 N.id) := by rw [cell_of_blk hb]; rfl
 have c1 : w.cell? ⟨r, 1, none⟩ = some (.int .i64 N.n) := by rw [cell_of_blk hb]; rfl
 have hrl := lt_of_blk hb
 have hn5 := hA.idn.2
 have hb1 : ((N.id : Int) != (N.id : Int)) = false := by simp
 have hb2 : decide ((fr : Int) < 0) = false := decide_eq_false (by omega)
 have hb3 : decide ((N.n : Int) ≤ (fr : Int)) = false := decide_eq_false (by omega)
 have hb4 : ((fr : Int) == (N.id : Int)) = false := beq_eq_false_iff_ne.2 (by omega)
 have hgood := Lib.hid (fun (k : Int) (w' : World) (x : Ext NoB w w') => good_any na nc l k w' (hn.no x) hl)
 have HN := Lib.hid hn
 clear hA hb hn
 unfold msgV
 have hlen : l.length = 3 := by
  have h1 := hg
  unfold goodB at h1
  simp only [Bool.and_eq_true, decide_eq_true_eq] at h1
  omega
 have Hg := Lib.hid hg
 obtain ⟨nb, noff, rfl, hcell⟩ := nums_cell HN.out (by omega)
 have cy := hcell 1 y hy
 have hnl := World.block_lt_of_cell? w _ cy
 have h1l : (1 : Int) < (l.length : Int) := by omega
 clear hcell
 have Hlen := Lib.hid hlen
 clear hg hlen
 go_enter Tryz.func45, Tryz.ntmps45
 go_wp2_with fail
 go_quiet (fail)
 go_wp2_with fail
 refine (hgood.out 3 _ (((Ext.refl NoB w).alloc _).drewN _)).mono ?_; rintro e w2 ⟨rfl, rfl⟩
 rw [Hg.out]
 go_wp2_with fail
 go_ret
 exact ⟨retBool rfl, ((Ext.refl NoB w).alloc _).drewN _⟩
end Go.Proofs.YtgglbholbkdgfaaGreatDoor
namespace Go.Proofs.YtgglbholbkdgfaaGreatDoor
open Go.RowKit
theorem MsgsAre.one {w : World} {b : Nat} {m : List Value} {M : PMsg} {fr : Nat × Nat} (hb : w.heap[b]? = some (.cells m.toArray 37 (0, 0))) (h : MsgIs w m M) : MsgsAre w (.slice (some ⟨b, 0, none⟩) 1 1) [M] := by
 refine ⟨[m], MsgRows.snoc .nil h, ?_⟩
 have hl := h.one.1
 refine .inr ⟨b, 1, 1, _, rfl, hb, Nat.le_refl _, ?_, by unfold maxLen; omega, ?_, ?_⟩
 ·simp [hl]
 ·simp [hl]
 ·simp only [List.flatten_cons, List.flatten_nil, List.append_nil]
  show m.take (1 * 5) = m
  rw [List.take_of_length_le (by omega)]
def tookMsg (N : PNode) (fr : Int) (yes number : Int) : PMsg := ⟨N.id, fr, 4, [N.term, yes, number], []⟩
set_option maxRecDepth 100000 in
set_option maxHeartbeats 2000000 in
theorem answer_any (r BN BM L d : Nat) (tv : Value) (N : PNode) (fr yes number : Int) (w : World) (hb : w.heap[r]? = some (.cells (nodeArr N d L tv) 92 (0, 0)))
  (hN : w.cell? ⟨BN, 0, none⟩ = some (.pointer (some ⟨r, 0, none⟩))) (hM : w.cell? ⟨BM, 0, none⟩ = some (.int .i64 fr)) :
  Calls Tryz.prog 86 #[.int .i64 yes, .int .i64 number, .pointer (some ⟨BN, 0, none⟩), .pointer (some ⟨BM, 0, none⟩)] w (Many (fun _ => tookMsg N fr yes number) [0] w) := by
 have hz := zeroMsg
 have c0 : w.cell? ⟨r, 0, none⟩ = some (.int .i64 N.id) := by rw [cell_of_blk hb]; rfl
 have c5 : w.cell? ⟨r, 5, none⟩ = some (.int .i64 N.term) := by rw [cell_of_blk hb]; rfl
 clear hb
 go_enter Tryz.func86, Tryz.ntmps86
 go_wp2_with fail
 refine wp_region_N (fun w' => w'.cell? ⟨BN, 0, none⟩ = some (.pointer (some ⟨r, 0, none⟩)) ∧ w'.cell? ⟨BM, 0, none⟩ = some (.int .i64 fr) ∧ w'.cell? ⟨r, 5, none⟩ = some (.int .i64 N.term)) 11 (by kernel_rfl) ?_
 have hSd : w.drew.cell? ⟨BN, 0, none⟩ = some (.pointer (some ⟨r, 0, none⟩)) ∧ w.drew.cell? ⟨BM, 0, none⟩ = some (.int .i64 fr) ∧ w.drew.cell? ⟨r, 5, none⟩ = some (.int .i64 N.term) := ⟨hN, hM, c5⟩
 have xD : Ext NoB w w.drew := (Ext.refl _ w).drew
 generalize w.drew = wd at hSd xD ⊢
 refine wpAnyN_take 0 (v := ?_) (by kernel_rfl) rfl (fun _ _ _ h => h) hSd (by rfl) ?_ ?_; rotate_left; (focus (intro w hSw; (try dsimp only at hSw); go_simp; try with_reducible rfl)); (try simp only [Act.put]); (try simp only [List.setIfInBounds_toArray, List.set_cons_zero, List.set_cons_succ])
 refine wpAnyN_free 1 (v := ?_) (by kernel_rfl) rfl (fun _ _ _ h => h) hSd (by rfl) ?_ ?_; rotate_left; (focus (intro w; go_simp; try with_reducible rfl)); (try simp only [Act.put]); (try simp only [List.setIfInBounds_toArray, List.set_cons_zero, List.set_cons_succ])
 refine wpAnyN_take 2 (v := ?_) (by kernel_rfl) rfl (fun _ _ _ h => h) hSd (by rfl) ?_ ?_; rotate_left; (focus (intro w hSw; (try dsimp only at hSw); go_simp; try with_reducible rfl)); (try simp only [Act.put]); (try simp only [List.setIfInBounds_toArray, List.set_cons_zero, List.set_cons_succ])
 refine wpAnyN_take 3 (v := ?_) (by kernel_rfl) rfl (fun _ _ _ h => h) hSd (by rfl) ?_ ?_; rotate_left; (focus (intro w hSw; (try dsimp only at hSw); go_simp; try with_reducible rfl)); (try simp only [Act.put]); (try simp only [List.setIfInBounds_toArray, List.set_cons_zero, List.set_cons_succ])
 refine wpAnyN_free 4 (v := ?_) (by kernel_rfl) rfl (fun _ _ _ h => h) hSd (by rfl) ?_ ?_; rotate_left; (focus (intro w; go_simp; try with_reducible rfl)); (try simp only [Act.put]); (try simp only [List.setIfInBounds_toArray, List.set_cons_zero, List.set_cons_succ])
 refine wpAnyN_free 5 (v := ?_) (by kernel_rfl) rfl (fun _ _ _ h => h) hSd (by rfl) ?_ ?_; rotate_left; (focus (intro w; go_simp; try with_reducible rfl)); (try simp only [Act.put]); (try simp only [List.setIfInBounds_toArray, List.set_cons_zero, List.set_cons_succ])
 refine wpAnyN_take 6 (v := ?_) (by kernel_rfl) rfl (fun _ _ _ h => h) hSd (by rfl) ?_ ?_; rotate_left; (focus (intro w hSw; (try dsimp only at hSw); go_simp; try with_reducible rfl)); (try simp only [Act.put]); (try simp only [List.setIfInBounds_toArray, List.set_cons_zero, List.set_cons_succ])
 refine wpAnyN_free 7 (v := ?_) (by kernel_rfl) rfl (fun _ _ _ h => h) hSd (by rfl) ?_ ?_; rotate_left; (focus (intro w; go_simp; try with_reducible rfl)); (try simp only [Act.put]); (try simp only [List.setIfInBounds_toArray, List.set_cons_zero, List.set_cons_succ])
 refine wpAnyN_free 8 (v := ?_) (by kernel_rfl) rfl (fun _ _ _ h => h) hSd (by rfl) ?_ ?_; rotate_left; (focus (intro w; go_simp; try with_reducible rfl)); (try simp only [Act.put]); (try simp only [List.setIfInBounds_toArray, List.set_cons_zero, List.set_cons_succ])
 refine wpAnyN_one 9 (by kernel_rfl) (by simp only [List.getElem?_toArray, List.getElem?_cons_succ, List.getElem?_cons_zero] <;> rfl) (by rfl) (fun K hK => ?_)
 go_simp
 obtain ⟨w3, B, e3, e4, x3, b3, hs3⟩ := alloc_facts wd (.cells #[.int .i64 N.term, .int .i64 yes, .int .i64 number] 3)
 rw [e3, e4]
 have hS3 := And.intro (x3.cell hSd.1 (fun h => h)) (And.intro (x3.cell hSd.2.1 (fun h => h)) (x3.cell hSd.2.2 (fun h => h)))
 refine hK.out _ _ hS3 (fun hSd => ?_)
 clear hK K hSd
 have hSd := hS3
 (try simp only [Act.put]); (try simp only [List.setIfInBounds_toArray, List.set_cons_zero, List.set_cons_succ])
 refine wpAnyN_one 10 (by kernel_rfl) (by simp only [List.getElem?_toArray, List.getElem?_cons_succ, List.getElem?_cons_zero] <;> rfl) (by rfl) (fun K hK => ?_)
 go_simp
 have y3 : Ext NoB w w3 := xD.trans x3
 refine (msg_any r N.id fr 4 none (some ⟨B, 0, none⟩) 0 0 3 3 w3 (y3.cell c0 (fun h => h))).mono ?_; rintro e w4 ⟨rfl, x4⟩
 have hS4 := And.intro (x4.cell hSd.1 (fun h => h)) (And.intro (x4.cell hSd.2.1 (fun h => h)) (x4.cell hSd.2.2 (fun h => h)))
 unfold msgV
 go_wp2_with fail
 refine hK.out _ _ hS4 (fun hSd => ?_)
 clear hK K hSd
 (try simp only [Act.put]); (try simp only [List.setIfInBounds_toArray, List.set_cons_zero, List.set_cons_succ])
 refine wpAnyN_tail (by rfl) (by decide) (by kernel_rfl) (by kernel_rfl) ?_
 simp only [List.drop_succ_cons, List.drop_zero]
 have Hb4 := Lib.hid (x4.blk b3 (fun h => h))
 have Hy4 := Lib.hid (y3.trans x4)
 clear hS4 hS3 hSd x4 b3 y3 x3 e3
 go_wp2_with fail
 obtain ⟨w5, R, q1, q2, x5, b5, hs5⟩ := alloc_facts w4 (.cells #[.int .i64 N.id, .int .i64 fr, .int .i64 4, .slice (some ⟨B, 0, none⟩) 3 3, .slice none 0 0] 37)
 rw [q1, q2]
 have Hb5 := Lib.hid b5
 have Hx5 := Lib.hid x5
 have Hq2 := Lib.hid q2
 clear q1 q2 b5 x5 hs5
 go_wp2_with fail
 go_ret
 have x5 := Hx5.out
 refine ⟨_, rfl, MsgsAre.one (fr := (0, 0)) (m := [.int .i64 N.id, .int .i64 fr, .int .i64 4, .slice (some ⟨B, 0, none⟩) 3 3, .slice none 0 0]) Hb5.out ⟨_, _, rfl, .inr ⟨B, 3, 3, _, rfl, x5.blk Hb4.out (fun h => h), Nat.le_refl _, Nat.le_refl _, by unfold maxLen; omega, rfl, rfl⟩, Own.nil _ _ _⟩, fun g hg => ?_, Hy4.out.trans x5⟩
 simp [Value.ownBlock] at hg
 have := Hq2.out
 have := Hy4.out.size
 omega
end Go.Proofs.YtgglbholbkdgfaaGreatDoor
namespace Go.Proofs.YtgglbholbkdgfaaGreatDoor
open Go.RowKit
set_option maxRecDepth 100000 in
set_option maxHeartbeats 4000000 in
theorem told_old (r d : Nat) (F : Nat → Prop) (N : PNode) (room : Nat) (saved : Bool) (fr tt draw t0 : Int) (na da : Option Addr) (nc dl dc : Nat) (l : List Int) (w : World) (h : RaftIs w r d F N room saved)
  (hn : Rd w 1 (.slice na l.length nc) (intsV l)) (h0 : l[0]? = some t0) (hlt : t0 < N.term) :
  Calls Tryz.prog 49 #[.pointer (some ⟨r, 0, none⟩), msgV fr tt 3 (.slice na l.length nc) (.slice da dl dc), .int .i64 draw] w (Many (fun _ => tookMsg N fr 0 0) [0] w) := by
 obtain ⟨L, tv, hb, hi1, hi2, hc, hll⟩ := h.cells
 have hlpos : 0 < l.length := (List.getElem?_eq_some_iff.1 h0).1
 obtain ⟨nb, noff, rfl, hcell⟩ := nums_cell hn hlpos
 have cn0 : w.cell? ⟨nb, noff, none⟩ = some (.int .i64 t0) := hcell 0 t0 h0
 have c5 : w.cell? ⟨r, 5, none⟩ = some (.int .i64 N.term) := by rw [cell_of_blk hb]; rfl
 have hmf : ∀ (fn : Fn) (first cap : Array Value) (w : World), (Instr.makeFunc fn first cap).run Tryz.prog w = .ok (.func fn first cap) w := fun _ _ _ _ => rfl
 have hlp : (0 : Int) < (l.length : Int) := by omega
 have hrl := lt_of_blk hb
 have Hb := Lib.hid hb
 clear h hb hn hcell h0
 unfold msgV
 go_enter Tryz.func49, Tryz.ntmps49
 go_wp2_with fail
 obtain ⟨w1, BN, e1, e2, x1, b1, hs1⟩ := alloc_facts w (.cells #[.pointer (some ⟨r, 0, none⟩)] 27)
 obtain ⟨w2, BM, e3, e4, x2, b2, hs2⟩ := alloc_facts w1 (.cells #[.int .i64 fr, .int .i64 tt, .int .i64 3, .slice (some ⟨nb, noff, none⟩) l.length nc, .slice da dl dc] 37)
 obtain rfl : BM = BN + 1 := by omega
 rw [e1, e2, e3]
 have x02 := x1.trans x2
 have bN := x2.blk b1 (fun h => h)
 have dN : w2.cell? ⟨BN, 0, none⟩ = some (.pointer (some ⟨r, 0, none⟩)) := by rw [cell_of_blk bN]; rfl
 have dM0 : w2.cell? ⟨BN + 1, 0, none⟩ = some (.int .i64 fr) := by rw [cell_of_blk b2]; rfl
 have dM3 : w2.cell? ⟨BN + 1, 3, none⟩ = some (.slice (some ⟨nb, noff, none⟩) l.length nc) := by rw [cell_of_blk b2]; rfl
 have d5 := x02.cell c5 (fun h => h)
 have dn := x02.cell cn0 (fun h => h)
 have Hb2 := Lib.hid (x02.blk Hb.out (fun h => h))
 have Hx02 := Lib.hid x02
 clear e1 e2 e3 e4 x1 x2 b1 b2 hs1 hs2 bN x02 c5 cn0
 go_quiet (fail)
 go_wp2_with fail
 have xq : Ext NoB w2 (w2.drewN nq) := (Ext.refl _ w2).drewN _
 refine (answer_any r BN (BN + 1) L d tv N fr 0 0 _ (xq.blk Hb2.out (fun h => h)) (xq.cell dN (fun h => h)) (xq.cell dM0 (fun h => h))).mono ?_; rintro e w3 ⟨v, rfl, hm, hf, x3⟩
 obtain ⟨ms, hms, hown⟩ := hm
 obtain ⟨va, vn, vc, rfl, _⟩ := hown.rd
 have Hm := Lib.hid hms
 have Ho := Lib.hid hown
 have Hf := Lib.hid hf
 have Hx3 := Lib.hid x3
 clear hms hown hf x3
 go_wp2_with fail
 go_ret
 have hsz := Hx02.out.size
 exact ⟨_, rfl, ⟨ms, Hm.out, Ho.out⟩, fun g hg => Nat.le_trans hsz (Hf.out g hg), (Hx02.out.trans xq).trans Hx3.out⟩
end Go.Proofs.YtgglbholbkdgfaaGreatDoor
namespace Go.Proofs.YtgglbholbkdgfaaGreatDoor
open Go.RowKit
def PNode.follows (N : PNode) (fr draw : Int) : PNode := { N with role := 0, leader := fr, wait := 10 + (max 0 draw) % 10 }
end Go.Proofs.YtgglbholbkdgfaaGreatDoor
