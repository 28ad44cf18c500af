/- The law RaftWaits: its walk. -/
import Derived.Test.YtgglbholbkdgfaaGreatDoorB45
namespace Go.Proofs.YtgglbholbkdgfaaGreatDoor
open Go.RowKit

theorem MsgRows.get {w : World} {ms : List (List Value)} {Ms : List PMsg} (h : MsgRows w ms Ms) : ∀ (i : Nat) (M : PMsg), Ms[i]? = some M → ∃ m, MsgIs w m M ∧ ∀ j, j < 5 → ms.flatten[i * 5 + j]? = m[j]? := by
  induction h with
  | nil => intro i M h; simp at h
  | snoc h1 h2 ih =>
    rename_i ms Ms m M
    intro i M' hM
    have hlen := h1.len
    rw [List.getElem?_append] at hM
    split at hM
    · obtain ⟨m', hm, hj⟩ := ih i M' hM
      refine ⟨m', hm, fun j hj5 => ?_⟩
      rw [List.flatten_append, List.getElem?_append_left (by omega)]
      exact hj j hj5
    · rename_i hge
      have hi : i - Ms.length = 0 := by
        rcases Nat.eq_zero_or_pos (i - Ms.length) with h | h
        · exact h
        · rw [List.getElem?_eq_none (by simp; omega)] at hM; cases hM
      rw [hi] at hM
      simp at hM
      subst hM
      refine ⟨m, h2, fun j hj5 => ?_⟩
      rw [List.flatten_append, List.getElem?_append_right (by omega), List.flatten_cons, List.flatten_nil, List.append_nil]
      congr 1
      omega
theorem tos_35 (n id : Nat) (hn : n = 3 ∨ n = 5) (hid : id < n) : (tos n id).length = n - 1 := by
  rcases hn with rfl | rfl
  · have : ∀ i : Fin 3, (tos 3 i.val).length = 2 := by decide
    exact this ⟨id, hid⟩
  · have : ∀ i : Fin 5, (tos 5 i.val).length = 4 := by decide
    exact this ⟨id, hid⟩

set_option maxRecDepth 100000 in
set_option maxHeartbeats 1000000 in
theorem waits_bad (a0 a1 a2 : Int) (w : World) (h : a0 < 0 ∨ a1 ≤ a0 ∨ (a1 ≠ 3 ∧ a1 ≠ 5)) : Calls Tryz.prog 3 #[.int .i64 a0, .int .i64 a1, .int .i64 a2] w fun e w' => e = .returned (.bool true) ∧ Ext NoB w w' := by
  by_cases h1 : a0 < 0
  · go_enter Tryz.func3, Tryz.ntmps3
    go_wp2_with fail
    refine (known_any w).mono ?_; rintro e w1 ⟨rfl, x1⟩
    go_wp2_with fail
    go_ret
    exact ⟨rfl, x1⟩
  · by_cases h2 : a1 ≤ a0
    · go_enter Tryz.func3, Tryz.ntmps3
      go_wp2_with fail
      refine (known_any w).mono ?_; rintro e w1 ⟨rfl, x1⟩
      go_wp2_with fail
      go_ret
      exact ⟨rfl, x1⟩
    · have hb1 : (a1 != 3) = true := by rw [bne_iff_ne]; omega
      have hb2 : (a1 != 5) = true := by rw [bne_iff_ne]; omega
      go_enter Tryz.func3, Tryz.ntmps3
      go_wp2_with fail
      refine (known_any w).mono ?_; rintro e w1 ⟨rfl, x1⟩
      go_wp2_with fail
      go_ret
      exact ⟨rfl, x1⟩

set_option maxRecDepth 100000 in
set_option maxHeartbeats 4000000 in
theorem waits_good (id n : Nat) (a2 : Int) (w : World) (hn : n = 3 ∨ n = 5) (hid : id < n) (h2 : -9223372036854775808 ≤ a2 ∧ a2 < 9223372036854775808) : Calls Tryz.prog 3 #[.int .i64 id, .int .i64 n, .int .i64 a2] w fun e w' => e = .returned (.bool true) ∧ Ext NoB w w' := by
  obtain ⟨T, hT⟩ : ∃ T : Nat, 10 + max 0 a2 % 10 = (T : Int) := ⟨(10 + max 0 a2 % 10).toNat, by omega⟩
  have hT1 : 10 ≤ T ∧ T ≤ 19 := by omega
  have HT := Lib.hid hT
  have hnb : (((n : Int) != 3) && ((n : Int) != 5)) = false := by rcases hn with rfl | rfl <;> rfl
  have Hn := Lib.hid hn
  have hn5 : n ≤ 5 ∧ 3 ≤ n := by omega
  have hi1 : ¬ ((id : Int) < 0) := by omega
  have hi2 : ¬ ((n : Int) ≤ (id : Int)) := by omega
  have hb3 : n = 3 → ((n : Int) != 3) = false := by rintro rfl; rfl
  have Htl := Lib.hid (tos_35 n id hn hid)
  obtain ⟨N0, hN0⟩ : ∃ N0, newNode id n a2 = N0 := ⟨_, rfl⟩
  have hN0e : ∀ x : Int, x = 10 + max 0 a2 % 10 → ({ N0 with wait := x } : PNode) = N0 := by rintro x rfl; rw [← hN0]; rfl
  have HN0e := Lib.hid hN0e
  have HN0 := Lib.hid hN0
  clear hT hb3 hN0 hN0e
  rcases hn with rfl | rfl
  all_goals
    have hq5 : ¬ ((5 : Int) ≤ (id : Int)) := by omega
    try (have hq3 : ¬ ((3 : Int) ≤ (id : Int)) := by omega)
    clear hnb
    go_enter Tryz.func3, Tryz.ntmps3
    go_wp2_with fail
    refine (New_any 1048576 (by omega) w).mono ?_; rintro e w1 ⟨d, rfl, hd, hD, x1⟩
    have HD := Lib.hid hD
    have Hx1 := Lib.hid x1
    clear hD x1
    go_wp2_with fail
    refine (Open_new id _ d _ 1048576 a2 w1 HD.out (by omega) (by first | exact .inr (.inl rfl) | exact .inr (.inr rfl))).mono ?_; rintro e w2 ⟨r, rfl, x2, hR2⟩
    obtain ⟨F, hF⟩ : ∃ F, Gr (Gr NoB w w1) w1 w2 = F := ⟨_, rfl⟩
    have hFw : ∀ b, F b → w.heap.size ≤ b := by
      intro b hb
      have := Hx1.out.size
      rw [← hF] at hb
      rcases hb with (hb | hb) | hb
      · exact hb.elim
      · exact hb.1
      · omega
    have hx2 : Ext NoB w w2 := Hx1.out.next x2 (fun b h hb => by rcases h with h | h; exact h; omega)
    rw [hF] at hR2
    have hR0 : RaftIs w2 r d F ({ N0 with wait := (T : Int) - ((0 : Nat) : Int) } : PNode) 1048576 false := by
      rw [HN0e.out _ (by rw [HT.out]; omega)]
      rw [HN0.out] at hR2
      exact hR2
    have HR0 := Lib.hid hR0
    have Hx2 := Lib.hid hx2
    have HFw := Lib.hid hFw
    clear hR2 x2 hF hFw hx2 hR0
    go_wp2_with fail
    go_loopw [11] (fun t wr => ∃ k : Nat, t = .int .i64 ((k : Int) + 1) ∧ k < T ∧ Hid (RaftIs wr r d F ({ N0 with wait := (T : Int) - (k : Int) } : PNode) 1048576 false) ∧ Hid (Ext NoB w wr)) (fun t _ => 30 - (intOf t).toNat)
    case atStart => exact ⟨0, by go_num, by omega, HR0, Hx2⟩
    case round =>
      obtain ⟨k, rfl, hk, HR, HX⟩ := hrel
      by_cases hkT : k + 1 < T
      · have Ht := Lib.hid (Tick_counts r d F _ 1048576 false a2 _ HR.out (by show 1 < (T : Int) - (k : Int) ∧ (T : Int) - (k : Int) < 1000; omega))
        go_wp2_with fail
        refine Ht.out.mono ?_; rintro e w3 ⟨rfl, x3, r3⟩
        have r3' : RaftIs w3 r d F ({ N0 with wait := (T : Int) - ((k + 1 : Nat) : Int) } : PNode) 1048576 false := by
          have e : (T : Int) - ((k + 1 : Nat) : Int) = ((T : Int) - (k : Int)) - 1 := by omega
          rw [e]; exact r3
        have Hr3 := Lib.hid r3'
        have Hx3 := Lib.hid (HX.out.next x3 (fun b h hb => by have := HFw.out b h; omega))
        clear x3 r3 r3'
        go_wp2_with fail
        go_roundw
        case rel => exact ⟨k + 1, by go_num, by omega, Hr3, Hx3⟩
        case measure => simp [intOf]; omega
      · obtain rfl : T = k + 1 := by omega
        have e1 : N0.term = 0 := by rw [← HN0.out]; rfl
        have e2 : N0.id = id := by rw [← HN0.out]; rfl
        have e3 : N0.role = 0 := by rw [← HN0.out]; rfl
        have e4 : N0.log = [] := by rw [← HN0.out]; rfl
        have e5 : (tos N0.n N0.id).length = (tos N0.n N0.id).length := rfl
        conv at e5 => rhs; rw [← HN0.out]
        have Ht := Tick_stands r d F { N0 with wait := ((k + 1 : Nat) : Int) - (k : Int) } 1048576 false a2 _ HR.out (by show -1000 < ((k + 1 : Nat) : Int) - (k : Int) ∧ ((k + 1 : Nat) : Int) - (k : Int) ≤ 1; omega) (by show N0.role ≠ 2; omega)
          ((tos N0.n N0.id).map (askMsg (N0.asks a2))) (N0.asks a2) (fun w1 h1 => by
            have := stands_many r d F { N0 with wait := ((k + 1 : Nat) : Int) - (k : Int) - 1 } 1048576 false a2 w1 h1 (by show 3 ≤ N0.n; rw [← HN0.out]; show 3 ≤ _; exact Nat.le_of_ble_eq_true rfl) (by show N0.term + 1 ≤ _; omega) (by show (segBytes 1 (N0.log.map entB)).length + 100 ≤ _; rw [e4]; show 0 + 100 ≤ _; omega)
            exact this)
        have Hlen : Hid ((tos N0.n N0.id).length = _) := Lib.hid (e5.trans Htl.out)
        have Ht := Lib.hid Ht
        have hbe : (((k : Int) + 1) == 10 + max 0 a2 % 10) = true := by rw [HT.out]; simp
        have He := Lib.hid (And.intro e1 (And.intro e2 (And.intro e3 e4)))
        clear e1 e2 e3 e4 e5
        go_wp2_with fail
        refine Ht.out.mono ?_; rintro e w3 ⟨v, rfl, hm3, hf3, x3, r3⟩
        obtain ⟨ms, hms, hown⟩ := hm3
        have hml := hms.len
        rw [List.length_map, Hlen.out] at hml
        obtain ⟨va, vn, vc, rfl, hvl, hvn, hvc, _, hvr⟩ := hown.rd
        have hvn1 : vn = ms.flatten.length / 5 := by rw [hvl]; omega
        rw [hml] at hvn1
        simp only [Nat.reduceSub, Nat.reduceMul, Nat.reduceDiv] at hvn1
        have hlt0 : 0 < (tos N0.n N0.id).length := by rw [Hlen.out]; omega
        obtain ⟨m, hmi, hmj⟩ := hms.get 0 (askMsg (N0.asks a2) ((tos N0.n N0.id)[0])) (by rw [List.getElem?_map, List.getElem?_eq_getElem hlt0]; rfl)
        obtain ⟨vb, off, rfl, hcell⟩ := hvr (by rintro e; rw [e] at hml; simp at hml)
        have hk2 := hmj 2 (by omega)
        obtain ⟨nv, dv, rfl, -, -⟩ := hmi
        have ck := hcell 2 _ hk2
        replace ck : w3.cell? ⟨vb, off + 2, none⟩ = some (.int .i64 1) := ck
        subst hvn1
        obtain ⟨D, ps, hN, hrm, hperm⟩ := r3.is
        have hst := State_any r d _ _ D ps w3 hN
        have ea : (N0.asks a2).role = 1 ∧ (N0.asks a2).term = 1 := ⟨rfl, by show N0.term + 1 = 1; rw [He.out.1]⟩
        rw [ea.1, ea.2] at hst
        have Hst := Lib.hid hst
        have Hx3 := Lib.hid (HX.out.next x3 (fun b h hb => by have := HFw.out b h; omega))
        clear hst hms hown hml hvl hvr hmj hcell hk2 hN hrm hperm r3 x3 hf3 ea hlt0
        go_wp2_with fail
        refine Hst.out.mono ?_; rintro e w4 ⟨rfl, x4⟩
        have ck4 := x4.cell ck (fun h => h)
        have Hx4 := Lib.hid (Hx3.out.trans x4)
        clear x4
        go_wp2_with fail
        refine (known_any w4).mono ?_; rintro e w5 ⟨rfl, x5⟩
        go_wp2_with fail
        go_ret
        exact ⟨rfl, Hx4.out.trans x5⟩
theorem waits_any (a0 a1 a2 : Int) (w : World) (h2 : -9223372036854775808 ≤ a2 ∧ a2 < 9223372036854775808) : Calls Tryz.prog 3 #[.int .i64 a0, .int .i64 a1, .int .i64 a2] w fun e w' => e = .returned (.bool true) ∧ Ext NoB w w' := by
  by_cases h : a0 < 0 ∨ a1 ≤ a0 ∨ (a1 ≠ 3 ∧ a1 ≠ 5)
  · exact waits_bad a0 a1 a2 w h
  · obtain ⟨id, rfl⟩ := Int.eq_ofNat_of_zero_le (a := a0) (by omega)
    obtain ⟨n, rfl⟩ := Int.eq_ofNat_of_zero_le (a := a1) (by omega)
    exact waits_good id n a2 w (by omega) (by omega) h2
end Go.Proofs.YtgglbholbkdgfaaGreatDoor
