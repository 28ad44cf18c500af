/- The law RaftOld: its walk. -/
import Derived.Test.YtgglbholbkdgfaaGreatDoorK10
import Derived.Test.YtgglbholbkdgfaaGreatDoorK9
namespace Go.Proofs.YtgglbholbkdgfaaGreatDoor
open Go.RowKit

set_option maxRecDepth 100000 in
set_option maxHeartbeats 2000000 in
theorem old_bad (a0 a1 a2 a3 : Int) (w : World) (h : a1 < 2 ∨ 1073741824 < a1 ∨ a2 < 0 ∨ a1 ≤ a2 ∨ a0 < 1 ∨ 4 < a0) : Calls Tryz.prog 4 #[.int .i64 a0, .int .i64 a1, .int .i64 a2, .int .i64 a3] w fun e w' => e = .returned (.bool true) ∧ Ext NoB w w' := by
  have hc : (a1 < 2) ∨ (¬ a1 < 2 ∧ 1073741824 < a1) ∨ (¬ a1 < 2 ∧ ¬ 1073741824 < a1 ∧ a2 < 0) ∨ (¬ a1 < 2 ∧ ¬ 1073741824 < a1 ∧ ¬ a2 < 0 ∧ a1 ≤ a2) ∨ (¬ a1 < 2 ∧ ¬ 1073741824 < a1 ∧ ¬ a2 < 0 ∧ ¬ a1 ≤ a2 ∧ a0 < 1) ∨ (¬ a1 < 2 ∧ ¬ 1073741824 < a1 ∧ ¬ a2 < 0 ∧ ¬ a1 ≤ a2 ∧ ¬ a0 < 1 ∧ 4 < a0) := by omega
  clear h
  rcases hc with h1 | ⟨h1, h2⟩ | ⟨h1, h2, h3⟩ | ⟨h1, h2, h3, h4⟩ | ⟨h1, h2, h3, h4, h5⟩ | ⟨h1, h2, h3, h4, h5, h6⟩
  all_goals
    go_enter Tryz.func4, Tryz.ntmps4
    go_wp2_with fail
    refine (known_any w).mono ?_; rintro e w1 ⟨rfl, x1⟩
    go_wp2_with fail
    go_ret
    exact ⟨rfl, x1⟩

set_option maxRecDepth 100000 in
set_option maxHeartbeats 4000000 in
theorem old_1 (t o : Nat) (a3 : Int) (w : World) (h1 : 2 ≤ t) (h2 : t ≤ 1073741824) (h3 : o < t) : Calls Tryz.prog 4 #[.int .i64 1, .int .i64 t, .int .i64 o, .int .i64 a3] w fun e w' => e = .returned (.bool true) ∧ Ext NoB w w' := by
  have g1 : ¬ ((t : Int) < 2) := by omega
  have g2 : ¬ ((1073741824 : Int) < (t : Int)) := by omega
  have g3 : ¬ ((o : Int) < 0) := by omega
  have g4 : ¬ ((t : Int) ≤ (o : Int)) := by omega
  go_enter Tryz.func4, Tryz.ntmps4
  go_wp2_with fail
  refine (New_any 1048576 (by omega) w).mono ?_; rintro e w1 ⟨d, rfl, hd, hD, x1⟩
  have HD := Lib.hid hD
  have Hx1 := Lib.hid x1
  clear hD x1
  go_wp2_with fail
  refine (Open_new 0 3 d _ 1048576 a3 w1 HD.out (by omega) (.inr (.inl rfl))).mono ?_; rintro e w2 ⟨r, rfl, x2, hR2⟩
  obtain ⟨F, hF⟩ : ∃ F, Gr (Gr NoB w w1) w1 w2 = F := ⟨_, rfl⟩
  have hFw : ∀ b, F b → w.heap.size ≤ b := by
    intro b hb
    have := Hx1.out.size
    rw [← hF] at hb
    rcases hb with (hb | hb) | hb
    · exact hb.elim
    · exact hb.1
    · omega
  have hx2 : Ext NoB w w2 := Hx1.out.next x2 (fun b h hb => by rcases h with h | h; exact h; omega)
  rw [hF] at hR2
  have HR2 := Lib.hid hR2
  have Hx2 := Lib.hid hx2
  have HFw := Lib.hid hFw
  clear hR2 x2 hF hFw hx2
  go_wp2_with fail
  obtain ⟨w3, B, q1, q2, x3, b3, hs3⟩ := alloc_facts w2 (.cells #[.int .i64 t, .int .i64 0, .int .i64 0, .int .i64 0] 3)
  rw [q1, q2]
  have hN3 : Rd w3 1 (.slice (some ⟨B, 0, none⟩) ([(t : Int), 0, 0, 0] : List Int).length 4) (intsV [(t : Int), 0, 0, 0]) := (show Own w3 3 1 (.slice (some ⟨B, 0, none⟩) 4 4) (intsV [(t : Int), 0, 0, 0]) from .inr ⟨B, 4, 4, _, rfl, b3, Nat.le_refl _, Nat.le_refl _, by unfold maxLen; omega, rfl, rfl⟩).rd
  have hR3 := HR2.out.no x3
  have hBF : ¬ F B := fun h => by have := HR2.out.lt B h; omega
  have hear1 := Hear_newer3 r d F (newNode 0 3 a3) (((newNode 0 3 a3).newer_ t).beat 1 a3 0 0) 1048576 false [tookMsg ((newNode 0 3 a3).newer_ t) 1 1 0] 1 0 a3 t _ none 4 0 0 _ w3 hR3 hN3 (fun g hg => by cases hg; exact hBF) rfl (by show 0 < t; omega) (by omega) (by show (0 : Nat) + 100 ≤ _; omega)
    (fun w' x => by
      obtain ⟨D, ps, hN, _, _⟩ := (hR3.no x).is
      exact may_3 r d F (newNode 0 3 a3) D ps 1 _ none 4 0 _ w' hN (by show 1 < 3; omega) (by show 1 ≠ 0; omega) (hN3.no x) (by show 4 ≤ _; omega) (by
        simp [goodB, okNum]; omega))
    (fun w' F' hR' hn' ho' => told_beat r d F' ((newNode 0 3 a3).newer_ t) 1048576 true 1 0 a3 _ none 4 0 0 0 _ w' hR' hn' ho' rfl (Nat.zero_le _) (by omega))
  have Hear1 := Lib.hid hear1
  have Hx3 := Lib.hid (Hx2.out.trans x3)
  clear hear1 hN3 hR3 q1 b3 x3
  refine Hear1.out.mono ?_; rintro e w4 ⟨v, rfl, -, -, x4, hR4⟩
  have Hx4 := Lib.hid (Hx3.out.next x4 (fun b h hb => by have := HFw.out b h; omega))
  have HR4 := Lib.hid hR4
  have hF4 : ∀ b, Gr F w3 w4 b → w.heap.size ≤ b := fun b hb => hb.elim (HFw.out b) (fun h => by have := Hx3.out.size; omega)
  have HF4 := Lib.hid hF4
  clear x4 hR4 hF4
  go_wp2_with fail
  have xq : Ext NoB w4 (((((w4.alloc (.cells #[.int .i64 o, .int .i64 9, .int .i64 9] 3)).alloc (.cells #[.int .i64 o, .int .i64 1] 3)).alloc (.cells #[.int .i64 o, .int .i64 0, .int .i64 0, .int .i64 0] 3)).alloc (.cells #[.int .i64 o, .int .i64 1, .int .i64 0] 3)).alloc (.cells #[.slice (some ⟨w4.heap.size, 0, none⟩) 3 3, .slice (some ⟨w4.heap.size + 1, 0, none⟩) 2 2, .slice (some ⟨w4.heap.size + 1 + 1, 0, none⟩) 4 4, .slice (some ⟨w4.heap.size + 1 + 1 + 1, 0, none⟩) 3 3] 34)) := (((((Ext.refl NoB w4).alloc _).alloc _).alloc _).alloc _).alloc _
  have bq : (((((w4.alloc (.cells #[.int .i64 o, .int .i64 9, .int .i64 9] 3)).alloc (.cells #[.int .i64 o, .int .i64 1] 3)).alloc (.cells #[.int .i64 o, .int .i64 0, .int .i64 0, .int .i64 0] 3)).alloc (.cells #[.int .i64 o, .int .i64 1, .int .i64 0] 3)).alloc (.cells #[.slice (some ⟨w4.heap.size, 0, none⟩) 3 3, .slice (some ⟨w4.heap.size + 1, 0, none⟩) 2 2, .slice (some ⟨w4.heap.size + 1 + 1, 0, none⟩) 4 4, .slice (some ⟨w4.heap.size + 1 + 1 + 1, 0, none⟩) 3 3] 34)).heap[w4.heap.size]? = some (.cells #[.int .i64 o, .int .i64 9, .int .i64 9] 3 (0, 0)) := by
    have h := blk_new w4 (.cells #[.int .i64 o, .int .i64 9, .int .i64 9] 3)
    exact (blk_alloc (blk_alloc (blk_alloc (blk_alloc h _) _) _) _)
  generalize (((((w4.alloc (.cells #[.int .i64 o, .int .i64 9, .int .i64 9] 3)).alloc (.cells #[.int .i64 o, .int .i64 1] 3)).alloc (.cells #[.int .i64 o, .int .i64 0, .int .i64 0, .int .i64 0] 3)).alloc (.cells #[.int .i64 o, .int .i64 1, .int .i64 0] 3)).alloc (.cells #[.slice (some ⟨w4.heap.size, 0, none⟩) 3 3, .slice (some ⟨w4.heap.size + 1, 0, none⟩) 2 2, .slice (some ⟨w4.heap.size + 1 + 1, 0, none⟩) 4 4, .slice (some ⟨w4.heap.size + 1 + 1 + 1, 0, none⟩) 3 3] 34)) = w5 at xq bq ⊢
  obtain ⟨B5, hB5⟩ : ∃ B5, w4.heap.size = B5 := ⟨_, rfl⟩
  rw [hB5] at bq ⊢
  have hN5 : Rd w5 1 (.slice (some ⟨B5, 0, none⟩) ([(o : Int), 9, 9] : List Int).length 3) (intsV [(o : Int), 9, 9]) := (show Own w5 3 1 (.slice (some ⟨B5, 0, none⟩) 3 3) (intsV [(o : Int), 9, 9]) from .inr ⟨B5, 3, 3, _, rfl, bq, Nat.le_refl _, Nat.le_refl _, by unfold maxLen; omega, rfl, rfl⟩).rd
  obtain ⟨F4, hF4e⟩ : ∃ F4, Gr F w3 w4 = F4 := ⟨_, rfl⟩
  have hR5 := HR4.out.no xq
  rw [hF4e] at hR5
  have HF4' := HF4.out
  rw [hF4e] at HF4'
  have HF5 := Lib.hid HF4'
  have hear2 := Hear_same1 r d F4 (((newNode 0 3 a3).newer_ t).beat 1 a3 0 0) (((newNode 0 3 a3).newer_ t).beat 1 a3 0 0) 1048576 true [voteMsg (((newNode 0 3 a3).newer_ t).beat 1 a3 0 0) 2 0] 2 0 a3 o _ none 3 0 0 _ w5 hR5 hN5 rfl (by show (o : Int) ≤ (t : Int); omega)
    (fun w' x => by
      obtain ⟨D, ps, hN, _, _⟩ := (hR5.no x).is
      exact (may_1 r d F4 (((newNode 0 3 a3).newer_ t).beat 1 a3 0 0) D ps 2 _ none 3 0 0 _ w' hN (by show 2 < 3; omega) (by show 2 ≠ 0; omega) (hN5.no x) (by show 3 ≤ _; omega)).mono (fun e w'' hm => by have e : mayB 1 [(o : Int), 9, 9] 0 = true := (by simp [mayB, goodB, okNum]; omega); rwa [e] at hm))
    (fun w' x => (asked_no r d F4 (((newNode 0 3 a3).newer_ t).beat 1 a3 0 0) 1048576 true 2 0 a3 o 9 9 _ none 3 0 0 _ w' (hR5.no x) (hN5.no x) rfl (by unfold PNode.grants; rw [decide_eq_false (by show ¬ ((o : Int) = (t : Int)); omega)]; rfl)).mono (fun e w'' hm => hm.sends (hR5.no x)))
  have Hear2 := Lib.hid hear2
  have Hx5 := Lib.hid (Hx4.out.trans xq)
  clear hear2 hN5 hR5 bq xq HF4'
  refine Hear2.out.mono ?_; rintro e w6 ⟨v6, rfl, hm6, -, x6, hR6⟩
  obtain ⟨ms6, hms6, hown6⟩ := hm6
  have hml := hms6.len
  obtain ⟨va, vn, vc, rfl, hvl, hvn, hvc, _, hvr⟩ := hown6.rd
  have Hx6 := Lib.hid (Hx5.out.next x6 (fun b h hb => by have := HF5.out b h; omega))
  obtain ⟨D, ps, hN6, _, _⟩ := hR6.is
  have hst := State_any r d _ _ D ps w6 hN6
  have Hst := Lib.hid (hst : Calls Tryz.prog 18 #[.pointer (some ⟨r, 0, none⟩)] w6 fun e w' => e = .returned (.tuple #[.int .i64 0, .int .i64 t, .int .i64 1]) ∧ Ext NoB w6 w')
  simp only [List.length_cons, List.length_nil, Nat.zero_mul, Nat.reduceAdd, Nat.reduceMul] at hml
  obtain rfl : vn = 1 := by omega
  obtain ⟨m, hmi, hmj⟩ := hms6.get 0 _ rfl
  obtain ⟨vb, off, rfl, hcell⟩ := hvr (by rintro e; rw [e] at hml; simp at hml)
  have hk2 := hmj 2 (by omega)
  have hk3 := hmj 3 (by omega)
  obtain ⟨nv, dv, rfl, hnv, -⟩ := hmi
  have ck := hcell 2 _ hk2
  have cn := hcell 3 _ hk3
  obtain ⟨nva, nvc, hnve, hnl1, hnl2⟩ := Rd.shape hnv.rd
  subst hnve
  obtain ⟨nvb, nvo, rfl, hnc⟩ := nums_cell (l := [(t : Int), 0]) hnv.rd (by show 0 < 2; omega)
  have c0 : w6.cell? ⟨nvb, nvo, none⟩ = some (.int .i64 t) := hnc 0 _ rfl
  have c1 : w6.cell? ⟨nvb, nvo + 1, none⟩ = some (.int .i64 0) := hnc 1 _ rfl
  replace ck : w6.cell? ⟨vb, off + 2, none⟩ = some (.int .i64 2) := ck
  replace cn : w6.cell? ⟨vb, off + 3, none⟩ = some (.slice (some ⟨nvb, nvo, none⟩) 2 nvc) := cn
  clear hst hN6 hms6 hown6 hvl hvr hml hR6 x6 hmj hk2 hk3 hcell hnc hnv hnl1
  go_wp2_with fail
  refine Hst.out.mono ?_; rintro e w7 ⟨rfl, x7⟩
  have ck7 := x7.cell ck (fun h => h)
  have cn7 := x7.cell cn (fun h => h)
  have c07 := x7.cell c0 (fun h => h)
  have c17 := x7.cell c1 (fun h => h)
  have Hx7 := Lib.hid (Hx6.out.trans x7)
  clear x7 ck cn c0 c1
  go_wp2_with fail
  refine (known_any w7).mono ?_; rintro e w8 ⟨rfl, x8⟩
  go_wp2_with fail
  go_ret
  exact ⟨rfl, Hx7.out.trans x8⟩

set_option maxRecDepth 100000 in
set_option maxHeartbeats 4000000 in
theorem old_2 (t o : Nat) (a3 : Int) (w : World) (h1 : 2 ≤ t) (h2 : t ≤ 1073741824) (h3 : o < t) : Calls Tryz.prog 4 #[.int .i64 2, .int .i64 t, .int .i64 o, .int .i64 a3] w fun e w' => e = .returned (.bool true) ∧ Ext NoB w w' := by
  have g1 : ¬ ((t : Int) < 2) := by omega
  have g2 : ¬ ((1073741824 : Int) < (t : Int)) := by omega
  have g3 : ¬ ((o : Int) < 0) := by omega
  have g4 : ¬ ((t : Int) ≤ (o : Int)) := by omega
  go_enter Tryz.func4, Tryz.ntmps4
  go_wp2_with fail
  refine (New_any 1048576 (by omega) w).mono ?_; rintro e w1 ⟨d, rfl, hd, hD, x1⟩
  have HD := Lib.hid hD
  have Hx1 := Lib.hid x1
  clear hD x1
  go_wp2_with fail
  refine (Open_new 0 3 d _ 1048576 a3 w1 HD.out (by omega) (.inr (.inl rfl))).mono ?_; rintro e w2 ⟨r, rfl, x2, hR2⟩
  obtain ⟨F, hF⟩ : ∃ F, Gr (Gr NoB w w1) w1 w2 = F := ⟨_, rfl⟩
  have hFw : ∀ b, F b → w.heap.size ≤ b := by
    intro b hb
    have := Hx1.out.size
    rw [← hF] at hb
    rcases hb with (hb | hb) | hb
    · exact hb.elim
    · exact hb.1
    · omega
  have hx2 : Ext NoB w w2 := Hx1.out.next x2 (fun b h hb => by rcases h with h | h; exact h; omega)
  rw [hF] at hR2
  have HR2 := Lib.hid hR2
  have Hx2 := Lib.hid hx2
  have HFw := Lib.hid hFw
  clear hR2 x2 hF hFw hx2
  go_wp2_with fail
  obtain ⟨w3, B, q1, q2, x3, b3, hs3⟩ := alloc_facts w2 (.cells #[.int .i64 t, .int .i64 0, .int .i64 0, .int .i64 0] 3)
  rw [q1, q2]
  have hN3 : Rd w3 1 (.slice (some ⟨B, 0, none⟩) ([(t : Int), 0, 0, 0] : List Int).length 4) (intsV [(t : Int), 0, 0, 0]) := (show Own w3 3 1 (.slice (some ⟨B, 0, none⟩) 4 4) (intsV [(t : Int), 0, 0, 0]) from .inr ⟨B, 4, 4, _, rfl, b3, Nat.le_refl _, Nat.le_refl _, by unfold maxLen; omega, rfl, rfl⟩).rd
  have hR3 := HR2.out.no x3
  have hBF : ¬ F B := fun h => by have := HR2.out.lt B h; omega
  have hear1 := Hear_newer3 r d F (newNode 0 3 a3) (((newNode 0 3 a3).newer_ t).beat 1 a3 0 0) 1048576 false [tookMsg ((newNode 0 3 a3).newer_ t) 1 1 0] 1 0 a3 t _ none 4 0 0 _ w3 hR3 hN3 (fun g hg => by cases hg; exact hBF) rfl (by show 0 < t; omega) (by omega) (by show (0 : Nat) + 100 ≤ _; omega)
    (fun w' x => by
      obtain ⟨D, ps, hN, _, _⟩ := (hR3.no x).is
      exact may_3 r d F (newNode 0 3 a3) D ps 1 _ none 4 0 _ w' hN (by show 1 < 3; omega) (by show 1 ≠ 0; omega) (hN3.no x) (by show 4 ≤ _; omega) (by
        simp [goodB, okNum]; omega))
    (fun w' F' hR' hn' ho' => told_beat r d F' ((newNode 0 3 a3).newer_ t) 1048576 true 1 0 a3 _ none 4 0 0 0 _ w' hR' hn' ho' rfl (Nat.zero_le _) (by omega))
  have Hear1 := Lib.hid hear1
  have Hx3 := Lib.hid (Hx2.out.trans x3)
  clear hear1 hN3 hR3 q1 b3 x3
  refine Hear1.out.mono ?_; rintro e w4 ⟨v, rfl, -, -, x4, hR4⟩
  have Hx4 := Lib.hid (Hx3.out.next x4 (fun b h hb => by have := HFw.out b h; omega))
  have HR4 := Lib.hid hR4
  have hF4 : ∀ b, Gr F w3 w4 b → w.heap.size ≤ b := fun b hb => hb.elim (HFw.out b) (fun h => by have := Hx3.out.size; omega)
  have HF4 := Lib.hid hF4
  clear x4 hR4 hF4
  go_wp2_with fail
  have xq : Ext NoB w4 (((((w4.alloc (.cells #[.int .i64 o, .int .i64 9, .int .i64 9] 3)).alloc (.cells #[.int .i64 o, .int .i64 1] 3)).alloc (.cells #[.int .i64 o, .int .i64 0, .int .i64 0, .int .i64 0] 3)).alloc (.cells #[.int .i64 o, .int .i64 1, .int .i64 0] 3)).alloc (.cells #[.slice (some ⟨w4.heap.size, 0, none⟩) 3 3, .slice (some ⟨w4.heap.size + 1, 0, none⟩) 2 2, .slice (some ⟨w4.heap.size + 1 + 1, 0, none⟩) 4 4, .slice (some ⟨w4.heap.size + 1 + 1 + 1, 0, none⟩) 3 3] 34)) := (((((Ext.refl NoB w4).alloc _).alloc _).alloc _).alloc _).alloc _
  have bq : (((((w4.alloc (.cells #[.int .i64 o, .int .i64 9, .int .i64 9] 3)).alloc (.cells #[.int .i64 o, .int .i64 1] 3)).alloc (.cells #[.int .i64 o, .int .i64 0, .int .i64 0, .int .i64 0] 3)).alloc (.cells #[.int .i64 o, .int .i64 1, .int .i64 0] 3)).alloc (.cells #[.slice (some ⟨w4.heap.size, 0, none⟩) 3 3, .slice (some ⟨w4.heap.size + 1, 0, none⟩) 2 2, .slice (some ⟨w4.heap.size + 1 + 1, 0, none⟩) 4 4, .slice (some ⟨w4.heap.size + 1 + 1 + 1, 0, none⟩) 3 3] 34)).heap[w4.heap.size + 1]? = some (.cells #[.int .i64 o, .int .i64 1] 3 (0, 0)) := by
    have h := blk_new (w4.alloc (.cells #[.int .i64 o, .int .i64 9, .int .i64 9] 3)) (.cells #[.int .i64 o, .int .i64 1] 3)
    rw [show (w4.alloc (.cells #[.int .i64 o, .int .i64 9, .int .i64 9] 3)).heap.size = w4.heap.size + 1 by simp] at h
    exact (blk_alloc (blk_alloc (blk_alloc h _) _) _)
  generalize (((((w4.alloc (.cells #[.int .i64 o, .int .i64 9, .int .i64 9] 3)).alloc (.cells #[.int .i64 o, .int .i64 1] 3)).alloc (.cells #[.int .i64 o, .int .i64 0, .int .i64 0, .int .i64 0] 3)).alloc (.cells #[.int .i64 o, .int .i64 1, .int .i64 0] 3)).alloc (.cells #[.slice (some ⟨w4.heap.size, 0, none⟩) 3 3, .slice (some ⟨w4.heap.size + 1, 0, none⟩) 2 2, .slice (some ⟨w4.heap.size + 1 + 1, 0, none⟩) 4 4, .slice (some ⟨w4.heap.size + 1 + 1 + 1, 0, none⟩) 3 3] 34)) = w5 at xq bq ⊢
  obtain ⟨B5, hB5⟩ : ∃ B5, w4.heap.size + 1 = B5 := ⟨_, rfl⟩
  rw [hB5] at bq ⊢
  have hN5 : Rd w5 1 (.slice (some ⟨B5, 0, none⟩) ([(o : Int), 1] : List Int).length 2) (intsV [(o : Int), 1]) := (show Own w5 3 1 (.slice (some ⟨B5, 0, none⟩) 2 2) (intsV [(o : Int), 1]) from .inr ⟨B5, 2, 2, _, rfl, bq, Nat.le_refl _, Nat.le_refl _, by unfold maxLen; omega, rfl, rfl⟩).rd
  obtain ⟨F4, hF4e⟩ : ∃ F4, Gr F w3 w4 = F4 := ⟨_, rfl⟩
  have hR5 := HR4.out.no xq
  rw [hF4e] at hR5
  have HF4' := HF4.out
  rw [hF4e] at HF4'
  have HF5 := Lib.hid HF4'
  have hear2 := Hear_same2 r d F4 (((newNode 0 3 a3).newer_ t).beat 1 a3 0 0) (((newNode 0 3 a3).newer_ t).beat 1 a3 0 0) 1048576 true [] 2 0 a3 o _ none 2 0 0 _ w5 hR5 hN5 rfl (by show (o : Int) ≤ (t : Int); omega)
    (fun w' x => by
      obtain ⟨D, ps, hN, _, _⟩ := (hR5.no x).is
      exact may_2 r d F4 (((newNode 0 3 a3).newer_ t).beat 1 a3 0 0) D ps 2 _ none 2 0 _ w' hN (by show 2 < 3; omega) (by show 2 ≠ 0; omega) (hN5.no x) (by show 2 ≤ _; omega) (by simp [goodB, okNum]; omega) 1 rfl (by omega))
    (fun w' x => elects_no r d F4 (((newNode 0 3 a3).newer_ t).beat 1 a3 0 0) 1048576 true 2 0 2 _ none 2 2 0 0 w' (hR5.no x) (by show (0 : Nat) ≠ 1; omega))
  have Hear2 := Lib.hid hear2
  have Hx5 := Lib.hid (Hx4.out.trans xq)
  clear hear2 hN5 hR5 bq xq HF4'
  refine Hear2.out.mono ?_; rintro e w6 ⟨v6, rfl, hm6, -, x6, hR6⟩
  obtain ⟨ms6, hms6, hown6⟩ := hm6
  have hml := hms6.len
  obtain ⟨va, vn, vc, rfl, hvl, hvn, hvc, _, hvr⟩ := hown6.rd
  have Hx6 := Lib.hid (Hx5.out.next x6 (fun b h hb => by have := HF5.out b h; omega))
  obtain ⟨D, ps, hN6, _, _⟩ := hR6.is
  have hst := State_any r d _ _ D ps w6 hN6
  have Hst := Lib.hid (hst : Calls Tryz.prog 18 #[.pointer (some ⟨r, 0, none⟩)] w6 fun e w' => e = .returned (.tuple #[.int .i64 0, .int .i64 t, .int .i64 1]) ∧ Ext NoB w6 w')
  simp only [List.length_cons, List.length_nil, Nat.zero_mul, Nat.reduceAdd, Nat.reduceMul] at hml
  obtain rfl : vn = 0 := by omega
  clear hst hN6 hms6 hown6 hvl hvr hml hR6 x6
  go_wp2_with fail
  refine Hst.out.mono ?_; rintro e w7 ⟨rfl, x7⟩
  have Hx7 := Lib.hid (Hx6.out.trans x7)
  clear x7
  go_wp2_with fail
  refine (known_any w7).mono ?_; rintro e w8 ⟨rfl, x8⟩
  go_wp2_with fail
  go_ret
  exact ⟨rfl, Hx7.out.trans x8⟩

set_option maxRecDepth 100000 in
set_option maxHeartbeats 4000000 in
theorem old_3 (t o : Nat) (a3 : Int) (w : World) (h1 : 2 ≤ t) (h2 : t ≤ 1073741824) (h3 : o < t) : Calls Tryz.prog 4 #[.int .i64 3, .int .i64 t, .int .i64 o, .int .i64 a3] w fun e w' => e = .returned (.bool true) ∧ Ext NoB w w' := by
  have g1 : ¬ ((t : Int) < 2) := by omega
  have g2 : ¬ ((1073741824 : Int) < (t : Int)) := by omega
  have g3 : ¬ ((o : Int) < 0) := by omega
  have g4 : ¬ ((t : Int) ≤ (o : Int)) := by omega
  go_enter Tryz.func4, Tryz.ntmps4
  go_wp2_with fail
  refine (New_any 1048576 (by omega) w).mono ?_; rintro e w1 ⟨d, rfl, hd, hD, x1⟩
  have HD := Lib.hid hD
  have Hx1 := Lib.hid x1
  clear hD x1
  go_wp2_with fail
  refine (Open_new 0 3 d _ 1048576 a3 w1 HD.out (by omega) (.inr (.inl rfl))).mono ?_; rintro e w2 ⟨r, rfl, x2, hR2⟩
  obtain ⟨F, hF⟩ : ∃ F, Gr (Gr NoB w w1) w1 w2 = F := ⟨_, rfl⟩
  have hFw : ∀ b, F b → w.heap.size ≤ b := by
    intro b hb
    have := Hx1.out.size
    rw [← hF] at hb
    rcases hb with (hb | hb) | hb
    · exact hb.elim
    · exact hb.1
    · omega
  have hx2 : Ext NoB w w2 := Hx1.out.next x2 (fun b h hb => by rcases h with h | h; exact h; omega)
  rw [hF] at hR2
  have HR2 := Lib.hid hR2
  have Hx2 := Lib.hid hx2
  have HFw := Lib.hid hFw
  clear hR2 x2 hF hFw hx2
  go_wp2_with fail
  obtain ⟨w3, B, q1, q2, x3, b3, hs3⟩ := alloc_facts w2 (.cells #[.int .i64 t, .int .i64 0, .int .i64 0, .int .i64 0] 3)
  rw [q1, q2]
  have hN3 : Rd w3 1 (.slice (some ⟨B, 0, none⟩) ([(t : Int), 0, 0, 0] : List Int).length 4) (intsV [(t : Int), 0, 0, 0]) := (show Own w3 3 1 (.slice (some ⟨B, 0, none⟩) 4 4) (intsV [(t : Int), 0, 0, 0]) from .inr ⟨B, 4, 4, _, rfl, b3, Nat.le_refl _, Nat.le_refl _, by unfold maxLen; omega, rfl, rfl⟩).rd
  have hR3 := HR2.out.no x3
  have hBF : ¬ F B := fun h => by have := HR2.out.lt B h; omega
  have hear1 := Hear_newer3 r d F (newNode 0 3 a3) (((newNode 0 3 a3).newer_ t).beat 1 a3 0 0) 1048576 false [tookMsg ((newNode 0 3 a3).newer_ t) 1 1 0] 1 0 a3 t _ none 4 0 0 _ w3 hR3 hN3 (fun g hg => by cases hg; exact hBF) rfl (by show 0 < t; omega) (by omega) (by show (0 : Nat) + 100 ≤ _; omega)
    (fun w' x => by
      obtain ⟨D, ps, hN, _, _⟩ := (hR3.no x).is
      exact may_3 r d F (newNode 0 3 a3) D ps 1 _ none 4 0 _ w' hN (by show 1 < 3; omega) (by show 1 ≠ 0; omega) (hN3.no x) (by show 4 ≤ _; omega) (by
        simp [goodB, okNum]; omega))
    (fun w' F' hR' hn' ho' => told_beat r d F' ((newNode 0 3 a3).newer_ t) 1048576 true 1 0 a3 _ none 4 0 0 0 _ w' hR' hn' ho' rfl (Nat.zero_le _) (by omega))
  have Hear1 := Lib.hid hear1
  have Hx3 := Lib.hid (Hx2.out.trans x3)
  clear hear1 hN3 hR3 q1 b3 x3
  refine Hear1.out.mono ?_; rintro e w4 ⟨v, rfl, -, -, x4, hR4⟩
  have Hx4 := Lib.hid (Hx3.out.next x4 (fun b h hb => by have := HFw.out b h; omega))
  have HR4 := Lib.hid hR4
  have hF4 : ∀ b, Gr F w3 w4 b → w.heap.size ≤ b := fun b hb => hb.elim (HFw.out b) (fun h => by have := Hx3.out.size; omega)
  have HF4 := Lib.hid hF4
  clear x4 hR4 hF4
  go_wp2_with fail
  have xq : Ext NoB w4 (((((w4.alloc (.cells #[.int .i64 o, .int .i64 9, .int .i64 9] 3)).alloc (.cells #[.int .i64 o, .int .i64 1] 3)).alloc (.cells #[.int .i64 o, .int .i64 0, .int .i64 0, .int .i64 0] 3)).alloc (.cells #[.int .i64 o, .int .i64 1, .int .i64 0] 3)).alloc (.cells #[.slice (some ⟨w4.heap.size, 0, none⟩) 3 3, .slice (some ⟨w4.heap.size + 1, 0, none⟩) 2 2, .slice (some ⟨w4.heap.size + 1 + 1, 0, none⟩) 4 4, .slice (some ⟨w4.heap.size + 1 + 1 + 1, 0, none⟩) 3 3] 34)) := (((((Ext.refl NoB w4).alloc _).alloc _).alloc _).alloc _).alloc _
  have bq : (((((w4.alloc (.cells #[.int .i64 o, .int .i64 9, .int .i64 9] 3)).alloc (.cells #[.int .i64 o, .int .i64 1] 3)).alloc (.cells #[.int .i64 o, .int .i64 0, .int .i64 0, .int .i64 0] 3)).alloc (.cells #[.int .i64 o, .int .i64 1, .int .i64 0] 3)).alloc (.cells #[.slice (some ⟨w4.heap.size, 0, none⟩) 3 3, .slice (some ⟨w4.heap.size + 1, 0, none⟩) 2 2, .slice (some ⟨w4.heap.size + 1 + 1, 0, none⟩) 4 4, .slice (some ⟨w4.heap.size + 1 + 1 + 1, 0, none⟩) 3 3] 34)).heap[w4.heap.size + 1 + 1]? = some (.cells #[.int .i64 o, .int .i64 0, .int .i64 0, .int .i64 0] 3 (0, 0)) := by
    have h := blk_new ((w4.alloc (.cells #[.int .i64 o, .int .i64 9, .int .i64 9] 3)).alloc (.cells #[.int .i64 o, .int .i64 1] 3)) (.cells #[.int .i64 o, .int .i64 0, .int .i64 0, .int .i64 0] 3)
    rw [show ((w4.alloc (.cells #[.int .i64 o, .int .i64 9, .int .i64 9] 3)).alloc (.cells #[.int .i64 o, .int .i64 1] 3)).heap.size = w4.heap.size + 1 + 1 by simp] at h
    exact (blk_alloc (blk_alloc h _) _)
  generalize (((((w4.alloc (.cells #[.int .i64 o, .int .i64 9, .int .i64 9] 3)).alloc (.cells #[.int .i64 o, .int .i64 1] 3)).alloc (.cells #[.int .i64 o, .int .i64 0, .int .i64 0, .int .i64 0] 3)).alloc (.cells #[.int .i64 o, .int .i64 1, .int .i64 0] 3)).alloc (.cells #[.slice (some ⟨w4.heap.size, 0, none⟩) 3 3, .slice (some ⟨w4.heap.size + 1, 0, none⟩) 2 2, .slice (some ⟨w4.heap.size + 1 + 1, 0, none⟩) 4 4, .slice (some ⟨w4.heap.size + 1 + 1 + 1, 0, none⟩) 3 3] 34)) = w5 at xq bq ⊢
  obtain ⟨B5, hB5⟩ : ∃ B5, w4.heap.size + 1 + 1 = B5 := ⟨_, rfl⟩
  rw [hB5] at bq ⊢
  have hN5 : Rd w5 1 (.slice (some ⟨B5, 0, none⟩) ([(o : Int), 0, 0, 0] : List Int).length 4) (intsV [(o : Int), 0, 0, 0]) := (show Own w5 3 1 (.slice (some ⟨B5, 0, none⟩) 4 4) (intsV [(o : Int), 0, 0, 0]) from .inr ⟨B5, 4, 4, _, rfl, bq, Nat.le_refl _, Nat.le_refl _, by unfold maxLen; omega, rfl, rfl⟩).rd
  obtain ⟨F4, hF4e⟩ : ∃ F4, Gr F w3 w4 = F4 := ⟨_, rfl⟩
  have hR5 := HR4.out.no xq
  rw [hF4e] at hR5
  have HF4' := HF4.out
  rw [hF4e] at HF4'
  have HF5 := Lib.hid HF4'
  have hear2 := Hear_same3 r d F4 (((newNode 0 3 a3).newer_ t).beat 1 a3 0 0) (((newNode 0 3 a3).newer_ t).beat 1 a3 0 0) 1048576 true [tookMsg (((newNode 0 3 a3).newer_ t).beat 1 a3 0 0) 2 0 0] 2 0 a3 o _ none 4 0 0 _ w5 hR5 hN5 rfl (by show (o : Int) ≤ (t : Int); omega)
    (fun w' x => by
      obtain ⟨D, ps, hN, _, _⟩ := (hR5.no x).is
      exact may_3 r d F4 (((newNode 0 3 a3).newer_ t).beat 1 a3 0 0) D ps 2 _ none 4 0 _ w' hN (by show 2 < 3; omega) (by show 2 ≠ 0; omega) (hN5.no x) (by show 4 ≤ _; omega) (by simp [goodB, okNum]; omega))
    (fun w' x => (told_old r d F4 (((newNode 0 3 a3).newer_ t).beat 1 a3 0 0) 1048576 true 2 0 a3 o _ none 4 0 0 _ w' (hR5.no x) (hN5.no x) rfl (by show (o : Int) < (t : Int); omega)).mono (fun e w'' hm => hm.sends (hR5.no x)))
  have Hear2 := Lib.hid hear2
  have Hx5 := Lib.hid (Hx4.out.trans xq)
  clear hear2 hN5 hR5 bq xq HF4'
  refine Hear2.out.mono ?_; rintro e w6 ⟨v6, rfl, hm6, -, x6, hR6⟩
  obtain ⟨ms6, hms6, hown6⟩ := hm6
  have hml := hms6.len
  obtain ⟨va, vn, vc, rfl, hvl, hvn, hvc, _, hvr⟩ := hown6.rd
  have Hx6 := Lib.hid (Hx5.out.next x6 (fun b h hb => by have := HF5.out b h; omega))
  obtain ⟨D, ps, hN6, _, _⟩ := hR6.is
  have hst := State_any r d _ _ D ps w6 hN6
  have Hst := Lib.hid (hst : Calls Tryz.prog 18 #[.pointer (some ⟨r, 0, none⟩)] w6 fun e w' => e = .returned (.tuple #[.int .i64 0, .int .i64 t, .int .i64 1]) ∧ Ext NoB w6 w')
  simp only [List.length_cons, List.length_nil, Nat.zero_mul, Nat.reduceAdd, Nat.reduceMul] at hml
  obtain rfl : vn = 1 := by omega
  obtain ⟨m, hmi, hmj⟩ := hms6.get 0 _ rfl
  obtain ⟨vb, off, rfl, hcell⟩ := hvr (by rintro e; rw [e] at hml; simp at hml)
  have hk2 := hmj 2 (by omega)
  have hk3 := hmj 3 (by omega)
  obtain ⟨nv, dv, rfl, hnv, -⟩ := hmi
  have ck := hcell 2 _ hk2
  have cn := hcell 3 _ hk3
  obtain ⟨nva, nvc, hnve, hnl1, hnl2⟩ := Rd.shape hnv.rd
  subst hnve
  obtain ⟨nvb, nvo, rfl, hnc⟩ := nums_cell (l := [(t : Int), 0, 0]) hnv.rd (by show 0 < 3; omega)
  have c0 : w6.cell? ⟨nvb, nvo, none⟩ = some (.int .i64 t) := hnc 0 _ rfl
  have c1 : w6.cell? ⟨nvb, nvo + 1, none⟩ = some (.int .i64 0) := hnc 1 _ rfl
  replace ck : w6.cell? ⟨vb, off + 2, none⟩ = some (.int .i64 4) := ck
  replace cn : w6.cell? ⟨vb, off + 3, none⟩ = some (.slice (some ⟨nvb, nvo, none⟩) 3 nvc) := cn
  clear hst hN6 hms6 hown6 hvl hvr hml hR6 x6 hmj hk2 hk3 hcell hnc hnv hnl1
  go_wp2_with fail
  refine Hst.out.mono ?_; rintro e w7 ⟨rfl, x7⟩
  have ck7 := x7.cell ck (fun h => h)
  have cn7 := x7.cell cn (fun h => h)
  have c07 := x7.cell c0 (fun h => h)
  have c17 := x7.cell c1 (fun h => h)
  have Hx7 := Lib.hid (Hx6.out.trans x7)
  clear x7 ck cn c0 c1
  go_wp2_with fail
  refine (known_any w7).mono ?_; rintro e w8 ⟨rfl, x8⟩
  go_wp2_with fail
  go_ret
  exact ⟨rfl, Hx7.out.trans x8⟩

set_option maxRecDepth 100000 in
set_option maxHeartbeats 4000000 in
theorem old_4 (t o : Nat) (a3 : Int) (w : World) (h1 : 2 ≤ t) (h2 : t ≤ 1073741824) (h3 : o < t) : Calls Tryz.prog 4 #[.int .i64 4, .int .i64 t, .int .i64 o, .int .i64 a3] w fun e w' => e = .returned (.bool true) ∧ Ext NoB w w' := by
  have g1 : ¬ ((t : Int) < 2) := by omega
  have g2 : ¬ ((1073741824 : Int) < (t : Int)) := by omega
  have g3 : ¬ ((o : Int) < 0) := by omega
  have g4 : ¬ ((t : Int) ≤ (o : Int)) := by omega
  go_enter Tryz.func4, Tryz.ntmps4
  go_wp2_with fail
  refine (New_any 1048576 (by omega) w).mono ?_; rintro e w1 ⟨d, rfl, hd, hD, x1⟩
  have HD := Lib.hid hD
  have Hx1 := Lib.hid x1
  clear hD x1
  go_wp2_with fail
  refine (Open_new 0 3 d _ 1048576 a3 w1 HD.out (by omega) (.inr (.inl rfl))).mono ?_; rintro e w2 ⟨r, rfl, x2, hR2⟩
  obtain ⟨F, hF⟩ : ∃ F, Gr (Gr NoB w w1) w1 w2 = F := ⟨_, rfl⟩
  have hFw : ∀ b, F b → w.heap.size ≤ b := by
    intro b hb
    have := Hx1.out.size
    rw [← hF] at hb
    rcases hb with (hb | hb) | hb
    · exact hb.elim
    · exact hb.1
    · omega
  have hx2 : Ext NoB w w2 := Hx1.out.next x2 (fun b h hb => by rcases h with h | h; exact h; omega)
  rw [hF] at hR2
  have HR2 := Lib.hid hR2
  have Hx2 := Lib.hid hx2
  have HFw := Lib.hid hFw
  clear hR2 x2 hF hFw hx2
  go_wp2_with fail
  obtain ⟨w3, B, q1, q2, x3, b3, hs3⟩ := alloc_facts w2 (.cells #[.int .i64 t, .int .i64 0, .int .i64 0, .int .i64 0] 3)
  rw [q1, q2]
  have hN3 : Rd w3 1 (.slice (some ⟨B, 0, none⟩) ([(t : Int), 0, 0, 0] : List Int).length 4) (intsV [(t : Int), 0, 0, 0]) := (show Own w3 3 1 (.slice (some ⟨B, 0, none⟩) 4 4) (intsV [(t : Int), 0, 0, 0]) from .inr ⟨B, 4, 4, _, rfl, b3, Nat.le_refl _, Nat.le_refl _, by unfold maxLen; omega, rfl, rfl⟩).rd
  have hR3 := HR2.out.no x3
  have hBF : ¬ F B := fun h => by have := HR2.out.lt B h; omega
  have hear1 := Hear_newer3 r d F (newNode 0 3 a3) (((newNode 0 3 a3).newer_ t).beat 1 a3 0 0) 1048576 false [tookMsg ((newNode 0 3 a3).newer_ t) 1 1 0] 1 0 a3 t _ none 4 0 0 _ w3 hR3 hN3 (fun g hg => by cases hg; exact hBF) rfl (by show 0 < t; omega) (by omega) (by show (0 : Nat) + 100 ≤ _; omega)
    (fun w' x => by
      obtain ⟨D, ps, hN, _, _⟩ := (hR3.no x).is
      exact may_3 r d F (newNode 0 3 a3) D ps 1 _ none 4 0 _ w' hN (by show 1 < 3; omega) (by show 1 ≠ 0; omega) (hN3.no x) (by show 4 ≤ _; omega) (by
        simp [goodB, okNum]; omega))
    (fun w' F' hR' hn' ho' => told_beat r d F' ((newNode 0 3 a3).newer_ t) 1048576 true 1 0 a3 _ none 4 0 0 0 _ w' hR' hn' ho' rfl (Nat.zero_le _) (by omega))
  have Hear1 := Lib.hid hear1
  have Hx3 := Lib.hid (Hx2.out.trans x3)
  clear hear1 hN3 hR3 q1 b3 x3
  refine Hear1.out.mono ?_; rintro e w4 ⟨v, rfl, -, -, x4, hR4⟩
  have Hx4 := Lib.hid (Hx3.out.next x4 (fun b h hb => by have := HFw.out b h; omega))
  have HR4 := Lib.hid hR4
  have hF4 : ∀ b, Gr F w3 w4 b → w.heap.size ≤ b := fun b hb => hb.elim (HFw.out b) (fun h => by have := Hx3.out.size; omega)
  have HF4 := Lib.hid hF4
  clear x4 hR4 hF4
  go_wp2_with fail
  have xq : Ext NoB w4 (((((w4.alloc (.cells #[.int .i64 o, .int .i64 9, .int .i64 9] 3)).alloc (.cells #[.int .i64 o, .int .i64 1] 3)).alloc (.cells #[.int .i64 o, .int .i64 0, .int .i64 0, .int .i64 0] 3)).alloc (.cells #[.int .i64 o, .int .i64 1, .int .i64 0] 3)).alloc (.cells #[.slice (some ⟨w4.heap.size, 0, none⟩) 3 3, .slice (some ⟨w4.heap.size + 1, 0, none⟩) 2 2, .slice (some ⟨w4.heap.size + 1 + 1, 0, none⟩) 4 4, .slice (some ⟨w4.heap.size + 1 + 1 + 1, 0, none⟩) 3 3] 34)) := (((((Ext.refl NoB w4).alloc _).alloc _).alloc _).alloc _).alloc _
  have bq : (((((w4.alloc (.cells #[.int .i64 o, .int .i64 9, .int .i64 9] 3)).alloc (.cells #[.int .i64 o, .int .i64 1] 3)).alloc (.cells #[.int .i64 o, .int .i64 0, .int .i64 0, .int .i64 0] 3)).alloc (.cells #[.int .i64 o, .int .i64 1, .int .i64 0] 3)).alloc (.cells #[.slice (some ⟨w4.heap.size, 0, none⟩) 3 3, .slice (some ⟨w4.heap.size + 1, 0, none⟩) 2 2, .slice (some ⟨w4.heap.size + 1 + 1, 0, none⟩) 4 4, .slice (some ⟨w4.heap.size + 1 + 1 + 1, 0, none⟩) 3 3] 34)).heap[w4.heap.size + 1 + 1 + 1]? = some (.cells #[.int .i64 o, .int .i64 1, .int .i64 0] 3 (0, 0)) := by
    have h := blk_new (((w4.alloc (.cells #[.int .i64 o, .int .i64 9, .int .i64 9] 3)).alloc (.cells #[.int .i64 o, .int .i64 1] 3)).alloc (.cells #[.int .i64 o, .int .i64 0, .int .i64 0, .int .i64 0] 3)) (.cells #[.int .i64 o, .int .i64 1, .int .i64 0] 3)
    rw [show (((w4.alloc (.cells #[.int .i64 o, .int .i64 9, .int .i64 9] 3)).alloc (.cells #[.int .i64 o, .int .i64 1] 3)).alloc (.cells #[.int .i64 o, .int .i64 0, .int .i64 0, .int .i64 0] 3)).heap.size = w4.heap.size + 1 + 1 + 1 by simp] at h
    exact (blk_alloc h _)
  generalize (((((w4.alloc (.cells #[.int .i64 o, .int .i64 9, .int .i64 9] 3)).alloc (.cells #[.int .i64 o, .int .i64 1] 3)).alloc (.cells #[.int .i64 o, .int .i64 0, .int .i64 0, .int .i64 0] 3)).alloc (.cells #[.int .i64 o, .int .i64 1, .int .i64 0] 3)).alloc (.cells #[.slice (some ⟨w4.heap.size, 0, none⟩) 3 3, .slice (some ⟨w4.heap.size + 1, 0, none⟩) 2 2, .slice (some ⟨w4.heap.size + 1 + 1, 0, none⟩) 4 4, .slice (some ⟨w4.heap.size + 1 + 1 + 1, 0, none⟩) 3 3] 34)) = w5 at xq bq ⊢
  obtain ⟨B5, hB5⟩ : ∃ B5, w4.heap.size + 1 + 1 + 1 = B5 := ⟨_, rfl⟩
  rw [hB5] at bq ⊢
  have hN5 : Rd w5 1 (.slice (some ⟨B5, 0, none⟩) ([(o : Int), 1, 0] : List Int).length 3) (intsV [(o : Int), 1, 0]) := (show Own w5 3 1 (.slice (some ⟨B5, 0, none⟩) 3 3) (intsV [(o : Int), 1, 0]) from .inr ⟨B5, 3, 3, _, rfl, bq, Nat.le_refl _, Nat.le_refl _, by unfold maxLen; omega, rfl, rfl⟩).rd
  obtain ⟨F4, hF4e⟩ : ∃ F4, Gr F w3 w4 = F4 := ⟨_, rfl⟩
  have hR5 := HR4.out.no xq
  rw [hF4e] at hR5
  have HF4' := HF4.out
  rw [hF4e] at HF4'
  have HF5 := Lib.hid HF4'
  have hear2 := Hear_same4 r d F4 (((newNode 0 3 a3).newer_ t).beat 1 a3 0 0) (((newNode 0 3 a3).newer_ t).beat 1 a3 0 0) 1048576 true [] 2 0 a3 o _ none 3 0 0 _ w5 hR5 hN5 rfl (by show (o : Int) ≤ (t : Int); omega)
    (fun w' x => by
      obtain ⟨D, ps, hN, _, _⟩ := (hR5.no x).is
      exact may_4 r d F4 (((newNode 0 3 a3).newer_ t).beat 1 a3 0 0) D ps 2 _ none 3 0 _ w' hN (by show 2 < 3; omega) (by show 2 ≠ 0; omega) (hN5.no x) (by show 3 ≤ _; omega) (by simp [goodB, okNum]; omega) 1 rfl (by omega))
    (fun w' x => counts_no r d F4 (((newNode 0 3 a3).newer_ t).beat 1 a3 0 0) 1048576 true 2 0 4 0 _ none 3 0 0 _ w' (hR5.no x) (hN5.no x) rfl (by show (0 : Nat) ≠ 2; omega))
  have Hear2 := Lib.hid hear2
  have Hx5 := Lib.hid (Hx4.out.trans xq)
  clear hear2 hN5 hR5 bq xq HF4'
  refine Hear2.out.mono ?_; rintro e w6 ⟨v6, rfl, hm6, -, x6, hR6⟩
  obtain ⟨ms6, hms6, hown6⟩ := hm6
  have hml := hms6.len
  obtain ⟨va, vn, vc, rfl, hvl, hvn, hvc, _, hvr⟩ := hown6.rd
  have Hx6 := Lib.hid (Hx5.out.next x6 (fun b h hb => by have := HF5.out b h; omega))
  obtain ⟨D, ps, hN6, _, _⟩ := hR6.is
  have hst := State_any r d _ _ D ps w6 hN6
  have Hst := Lib.hid (hst : Calls Tryz.prog 18 #[.pointer (some ⟨r, 0, none⟩)] w6 fun e w' => e = .returned (.tuple #[.int .i64 0, .int .i64 t, .int .i64 1]) ∧ Ext NoB w6 w')
  simp only [List.length_cons, List.length_nil, Nat.zero_mul, Nat.reduceAdd, Nat.reduceMul] at hml
  obtain rfl : vn = 0 := by omega
  clear hst hN6 hms6 hown6 hvl hvr hml hR6 x6
  go_wp2_with fail
  refine Hst.out.mono ?_; rintro e w7 ⟨rfl, x7⟩
  have Hx7 := Lib.hid (Hx6.out.trans x7)
  clear x7
  go_wp2_with fail
  refine (known_any w7).mono ?_; rintro e w8 ⟨rfl, x8⟩
  go_wp2_with fail
  go_ret
  exact ⟨rfl, Hx7.out.trans x8⟩

theorem old_any (a0 a1 a2 a3 : Int) (w : World) : Calls Tryz.prog 4 #[.int .i64 a0, .int .i64 a1, .int .i64 a2, .int .i64 a3] w fun e w' => e = .returned (.bool true) ∧ Ext NoB w w' := by
  by_cases h : a1 < 2 ∨ 1073741824 < a1 ∨ a2 < 0 ∨ a1 ≤ a2 ∨ a0 < 1 ∨ 4 < a0
  · exact old_bad a0 a1 a2 a3 w h
  · obtain ⟨t, rfl⟩ := Int.eq_ofNat_of_zero_le (a := a1) (by omega)
    obtain ⟨o, rfl⟩ := Int.eq_ofNat_of_zero_le (a := a2) (by omega)
    have hk : a0 = 1 ∨ a0 = 2 ∨ a0 = 3 ∨ a0 = 4 := by omega
    rcases hk with rfl | rfl | rfl | rfl
    · exact old_1 t o a3 w (by omega) (by omega) (by omega)
    · exact old_2 t o a3 w (by omega) (by omega) (by omega)
    · exact old_3 t o a3 w (by omega) (by omega) (by omega)
    · exact old_4 t o a3 w (by omega) (by omega) (by omega)
end Go.Proofs.YtgglbholbkdgfaaGreatDoor
