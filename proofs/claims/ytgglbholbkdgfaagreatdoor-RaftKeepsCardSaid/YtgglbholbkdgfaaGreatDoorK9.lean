/- Joined texts: B46 B48 B49 B50 B51 B52. Each has its own head. -/
import Derived.Test.YtgglbholbkdgfaaGreatDoorK8
set_option linter.unusedVariables false
set_option linter.unusedSimpArgs false
/- The law RaftWaits: its walk. -/
namespace Go.Proofs.YtgglbholbkdgfaaGreatDoor
open Go.RowKit

theorem MsgRows.get {w : World} {ms : List (List Value)} {Ms : List PMsg} (h : MsgRows w ms Ms) : ∀ (i : Nat) (M : PMsg), Ms[i]? = some M → ∃ m, MsgIs w m M ∧ ∀ j, j < 5 → ms.flatten[i * 5 + j]? = m[j]? := by
  induction h with
  | nil => intro i M h; simp at h
  | snoc h1 h2 ih =>
    rename_i ms Ms m M
    intro i M' hM
    have hlen := h1.len
    rw [List.getElem?_append] at hM
    split at hM
    · obtain ⟨m', hm, hj⟩ := ih i M' hM
      refine ⟨m', hm, fun j hj5 => ?_⟩
      rw [List.flatten_append, List.getElem?_append_left (by omega)]
      exact hj j hj5
    · rename_i hge
      have hi : i - Ms.length = 0 := by
        rcases Nat.eq_zero_or_pos (i - Ms.length) with h | h
        · exact h
        · rw [List.getElem?_eq_none (by simp; omega)] at hM; cases hM
      rw [hi] at hM
      simp at hM
      subst hM
      refine ⟨m, h2, fun j hj5 => ?_⟩
      rw [List.flatten_append, List.getElem?_append_right (by omega), List.flatten_cons, List.flatten_nil, List.append_nil]
      congr 1
      omega
theorem tos_35 (n id : Nat) (hn : n = 3 ∨ n = 5) (hid : id < n) : (tos n id).length = n - 1 := by
  rcases hn with rfl | rfl
  · have : ∀ i : Fin 3, (tos 3 i.val).length = 2 := by decide
    exact this ⟨id, hid⟩
  · have : ∀ i : Fin 5, (tos 5 i.val).length = 4 := by decide
    exact this ⟨id, hid⟩

set_option maxRecDepth 100000 in
set_option maxHeartbeats 1000000 in
theorem waits_bad (a0 a1 a2 : Int) (w : World) (h : a0 < 0 ∨ a1 ≤ a0 ∨ (a1 ≠ 3 ∧ a1 ≠ 5)) : Calls Tryz.prog 3 #[.int .i64 a0, .int .i64 a1, .int .i64 a2] w fun e w' => e = .returned (.bool true) ∧ Ext NoB w w' := by
  by_cases h1 : a0 < 0
  · go_enter Tryz.func3, Tryz.ntmps3
    go_wp2_with fail
    refine (known_any w).mono ?_; rintro e w1 ⟨rfl, x1⟩
    go_wp2_with fail
    go_ret
    exact ⟨rfl, x1⟩
  · by_cases h2 : a1 ≤ a0
    · go_enter Tryz.func3, Tryz.ntmps3
      go_wp2_with fail
      refine (known_any w).mono ?_; rintro e w1 ⟨rfl, x1⟩
      go_wp2_with fail
      go_ret
      exact ⟨rfl, x1⟩
    · have hb1 : (a1 != 3) = true := by rw [bne_iff_ne]; omega
      have hb2 : (a1 != 5) = true := by rw [bne_iff_ne]; omega
      go_enter Tryz.func3, Tryz.ntmps3
      go_wp2_with fail
      refine (known_any w).mono ?_; rintro e w1 ⟨rfl, x1⟩
      go_wp2_with fail
      go_ret
      exact ⟨rfl, x1⟩

set_option maxRecDepth 100000 in
set_option maxHeartbeats 4000000 in
theorem waits_good (id n : Nat) (a2 : Int) (w : World) (hn : n = 3 ∨ n = 5) (hid : id < n) (h2 : -9223372036854775808 ≤ a2 ∧ a2 < 9223372036854775808) : Calls Tryz.prog 3 #[.int .i64 id, .int .i64 n, .int .i64 a2] w fun e w' => e = .returned (.bool true) ∧ Ext NoB w w' := by
  obtain ⟨T, hT⟩ : ∃ T : Nat, 10 + max 0 a2 % 10 = (T : Int) := ⟨(10 + max 0 a2 % 10).toNat, by omega⟩
  have hT1 : 10 ≤ T ∧ T ≤ 19 := by omega
  have HT := Lib.hid hT
  have hnb : (((n : Int) != 3) && ((n : Int) != 5)) = false := by rcases hn with rfl | rfl <;> rfl
  have Hn := Lib.hid hn
  have hn5 : n ≤ 5 ∧ 3 ≤ n := by omega
  have hi1 : ¬ ((id : Int) < 0) := by omega
  have hi2 : ¬ ((n : Int) ≤ (id : Int)) := by omega
  have hb3 : n = 3 → ((n : Int) != 3) = false := by rintro rfl; rfl
  have Htl := Lib.hid (tos_35 n id hn hid)
  obtain ⟨N0, hN0⟩ : ∃ N0, newNode id n a2 = N0 := ⟨_, rfl⟩
  have hN0e : ∀ x : Int, x = 10 + max 0 a2 % 10 → ({ N0 with wait := x } : PNode) = N0 := by rintro x rfl; rw [← hN0]; rfl
  have HN0e := Lib.hid hN0e
  have HN0 := Lib.hid hN0
  clear hT hb3 hN0 hN0e
  rcases hn with rfl | rfl
  all_goals
    have hq5 : ¬ ((5 : Int) ≤ (id : Int)) := by omega
    try (have hq3 : ¬ ((3 : Int) ≤ (id : Int)) := by omega)
    clear hnb
    go_enter Tryz.func3, Tryz.ntmps3
    go_wp2_with fail
    refine (New_any 1048576 (by omega) w).mono ?_; rintro e w1 ⟨d, rfl, hd, hD, x1⟩
    have HD := Lib.hid hD
    have Hx1 := Lib.hid x1
    clear hD x1
    go_wp2_with fail
    refine (Open_new id _ d _ 1048576 a2 w1 HD.out (by omega) (by first | exact .inr (.inl rfl) | exact .inr (.inr rfl))).mono ?_; rintro e w2 ⟨r, rfl, x2, hR2⟩
    obtain ⟨F, hF⟩ : ∃ F, Gr (Gr NoB w w1) w1 w2 = F := ⟨_, rfl⟩
    have hFw : ∀ b, F b → w.heap.size ≤ b := by
      intro b hb
      have := Hx1.out.size
      rw [← hF] at hb
      rcases hb with (hb | hb) | hb
      · exact hb.elim
      · exact hb.1
      · omega
    have hx2 : Ext NoB w w2 := Hx1.out.next x2 (fun b h hb => by rcases h with h | h; exact h; omega)
    rw [hF] at hR2
    have hR0 : RaftIs w2 r d F ({ N0 with wait := (T : Int) - ((0 : Nat) : Int) } : PNode) 1048576 false := by
      rw [HN0e.out _ (by rw [HT.out]; omega)]
      rw [HN0.out] at hR2
      exact hR2
    have HR0 := Lib.hid hR0
    have Hx2 := Lib.hid hx2
    have HFw := Lib.hid hFw
    clear hR2 x2 hF hFw hx2 hR0
    go_wp2_with fail
    go_loopw [11] (fun t wr => ∃ k : Nat, t = .int .i64 ((k : Int) + 1) ∧ k < T ∧ Hid (RaftIs wr r d F ({ N0 with wait := (T : Int) - (k : Int) } : PNode) 1048576 false) ∧ Hid (Ext NoB w wr)) (fun t _ => 30 - (intOf t).toNat)
    case atStart => exact ⟨0, by go_num, by omega, HR0, Hx2⟩
    case round =>
      obtain ⟨k, rfl, hk, HR, HX⟩ := hrel
      by_cases hkT : k + 1 < T
      · have Ht := Lib.hid (Tick_counts r d F _ 1048576 false a2 _ HR.out (by show 1 < (T : Int) - (k : Int) ∧ (T : Int) - (k : Int) < 1000; omega))
        go_wp2_with fail
        refine Ht.out.mono ?_; rintro e w3 ⟨rfl, x3, r3⟩
        have r3' : RaftIs w3 r d F ({ N0 with wait := (T : Int) - ((k + 1 : Nat) : Int) } : PNode) 1048576 false := by
          have e : (T : Int) - ((k + 1 : Nat) : Int) = ((T : Int) - (k : Int)) - 1 := by omega
          rw [e]; exact r3
        have Hr3 := Lib.hid r3'
        have Hx3 := Lib.hid (HX.out.next x3 (fun b h hb => by have := HFw.out b h; omega))
        clear x3 r3 r3'
        go_wp2_with fail
        go_roundw
        case rel => exact ⟨k + 1, by go_num, by omega, Hr3, Hx3⟩
        case measure => simp [intOf]; omega
      · obtain rfl : T = k + 1 := by omega
        have e1 : N0.term = 0 := by rw [← HN0.out]; rfl
        have e2 : N0.id = id := by rw [← HN0.out]; rfl
        have e3 : N0.role = 0 := by rw [← HN0.out]; rfl
        have e4 : N0.log = [] := by rw [← HN0.out]; rfl
        have e5 : (tos N0.n N0.id).length = (tos N0.n N0.id).length := rfl
        conv at e5 => rhs; rw [← HN0.out]
        have Ht := Tick_stands r d F { N0 with wait := ((k + 1 : Nat) : Int) - (k : Int) } 1048576 false a2 _ HR.out (by show -1000 < ((k + 1 : Nat) : Int) - (k : Int) ∧ ((k + 1 : Nat) : Int) - (k : Int) ≤ 1; omega) (by show N0.role ≠ 2; omega)
          ((tos N0.n N0.id).map (askMsg (N0.asks a2))) (N0.asks a2) (fun w1 h1 => by
            have := stands_many r d F { N0 with wait := ((k + 1 : Nat) : Int) - (k : Int) - 1 } 1048576 false a2 w1 h1 (by show 3 ≤ N0.n; rw [← HN0.out]; show 3 ≤ _; exact Nat.le_of_ble_eq_true rfl) (by show N0.term + 1 ≤ _; omega) (by show (segBytes 1 (N0.log.map entB)).length + 100 ≤ _; rw [e4]; show 0 + 100 ≤ _; omega)
            exact this)
        have Hlen : Hid ((tos N0.n N0.id).length = _) := Lib.hid (e5.trans Htl.out)
        have Ht := Lib.hid Ht
        have hbe : (((k : Int) + 1) == 10 + max 0 a2 % 10) = true := by rw [HT.out]; simp
        have He := Lib.hid (And.intro e1 (And.intro e2 (And.intro e3 e4)))
        clear e1 e2 e3 e4 e5
        go_wp2_with fail
        refine Ht.out.mono ?_; rintro e w3 ⟨v, rfl, hm3, hf3, x3, r3⟩
        obtain ⟨ms, hms, hown⟩ := hm3
        have hml := hms.len
        rw [List.length_map, Hlen.out] at hml
        obtain ⟨va, vn, vc, rfl, hvl, hvn, hvc, _, hvr⟩ := hown.rd
        have hvn1 : vn = ms.flatten.length / 5 := by rw [hvl]; omega
        rw [hml] at hvn1
        simp only [Nat.reduceSub, Nat.reduceMul, Nat.reduceDiv] at hvn1
        have hlt0 : 0 < (tos N0.n N0.id).length := by rw [Hlen.out]; omega
        obtain ⟨m, hmi, hmj⟩ := hms.get 0 (askMsg (N0.asks a2) ((tos N0.n N0.id)[0])) (by rw [List.getElem?_map, List.getElem?_eq_getElem hlt0]; rfl)
        obtain ⟨vb, off, rfl, hcell⟩ := hvr (by rintro e; rw [e] at hml; simp at hml)
        have hk2 := hmj 2 (by omega)
        obtain ⟨nv, dv, rfl, -, -⟩ := hmi
        have ck := hcell 2 _ hk2
        replace ck : w3.cell? ⟨vb, off + 2, none⟩ = some (.int .i64 1) := ck
        subst hvn1
        obtain ⟨D, ps, hN, hrm, hperm⟩ := r3.is
        have hst := State_any r d _ _ D ps w3 hN
        have ea : (N0.asks a2).role = 1 ∧ (N0.asks a2).term = 1 := ⟨rfl, by show N0.term + 1 = 1; rw [He.out.1]⟩
        rw [ea.1, ea.2] at hst
        have Hst := Lib.hid hst
        have Hx3 := Lib.hid (HX.out.next x3 (fun b h hb => by have := HFw.out b h; omega))
        clear hst hms hown hml hvl hvr hmj hcell hk2 hN hrm hperm r3 x3 hf3 ea hlt0
        go_wp2_with fail
        refine Hst.out.mono ?_; rintro e w4 ⟨rfl, x4⟩
        have ck4 := x4.cell ck (fun h => h)
        have Hx4 := Lib.hid (Hx3.out.trans x4)
        clear x4
        go_wp2_with fail
        refine (known_any w4).mono ?_; rintro e w5 ⟨rfl, x5⟩
        go_wp2_with fail
        go_ret
        exact ⟨rfl, Hx4.out.trans x5⟩
theorem waits_any (a0 a1 a2 : Int) (w : World) (h2 : -9223372036854775808 ≤ a2 ∧ a2 < 9223372036854775808) : Calls Tryz.prog 3 #[.int .i64 a0, .int .i64 a1, .int .i64 a2] w fun e w' => e = .returned (.bool true) ∧ Ext NoB w w' := by
  by_cases h : a0 < 0 ∨ a1 ≤ a0 ∨ (a1 ≠ 3 ∧ a1 ≠ 5)
  · exact waits_bad a0 a1 a2 w h
  · obtain ⟨id, rfl⟩ := Int.eq_ofNat_of_zero_le (a := a0) (by omega)
    obtain ⟨n, rfl⟩ := Int.eq_ofNat_of_zero_le (a := a1) (by omega)
    exact waits_good id n a2 w (by omega) (by omega) h2
end Go.Proofs.YtgglbholbkdgfaaGreatDoor
/- Package raft: good, sent of nothing, may. -/
namespace Go.Proofs.YtgglbholbkdgfaaGreatDoor
open Go.RowKit

def okNum (x : Int) : Bool := decide (0 ≤ x) && decide (x ≤ 1099511627776)
/-- Are numbers some of a message? -/
def goodB (l : List Int) (k : Int) : Bool := decide ((l.length : Int) = k) && l.all okNum

set_option maxRecDepth 100000 in
set_option maxHeartbeats 1000000 in
theorem good_any (a : Option Addr) (c : Nat) (l : List Int) (k : Int) (w : World) (h : Rd w 1 (.slice a l.length c) (intsV l)) (hl : l.length ≤ 1000000000) :
    Calls Tryz.prog 83 #[.slice a l.length c, .int .i64 k] w fun e w' => e = .returned (.bool (goodB l k)) ∧ w = w' := by
  by_cases hk : (l.length : Int) = k
  · have hb1 : ((l.length : Int) != k) = false := by rw [hk]; simp
    have hg : goodB l k = l.all okNum := by unfold goodB; rw [decide_eq_true hk]; simp
    rw [hg]
    obtain ⟨a', n', c', hv, hln, hnc, hcm, hsp, hr⟩ := h
    cases hv
    have HR := Lib.hid hr
    have Hk := Lib.hid hk
    clear hr hk hg hln
    go_enter Tryz.func83, Tryz.ntmps83
    go_wp2_with fail
    go_loop [13] (fun i => ∃ j : Nat, i = .int .i64 j ∧ j ≤ l.length ∧ Hid (l.all okNum = (l.drop j).all okNum)) (fun i => l.length - (intOf i).toNat)
    case atStart => exact ⟨0, rfl, Nat.zero_le _, Lib.hid (by simp)⟩
    case round =>
      obtain ⟨j, rfl, hj, HJ⟩ := hrel
      by_cases hlt : j < l.length
      · obtain ⟨b, off, rfl, hcell⟩ := HR.out (by intro e; have := congrArg List.length e; simp at this; simp [this] at hlt)
        obtain ⟨x, hx⟩ : ∃ x, l[j]? = some x := ⟨_, List.getElem?_eq_getElem hlt⟩
        have cx := hcell j (.int .i64 x) (by simp [intsV, hx])
        have hds : l.drop j = x :: l.drop (j + 1) := by
          rw [List.drop_eq_getElem_cons hlt]
          congr 1
          exact (List.getElem?_eq_some_iff.1 hx).2
        have HD := Lib.hid hds
        clear hx hds hcell
        by_cases h0 : x < 0
        · go_wp2_with fail
          go_ret
          refine ⟨retBool ?_, rfl⟩
          rw [HJ.out, HD.out, List.all_cons]
          have : okNum x = false := by unfold okNum; simp; omega
          rw [this]; rfl
        · by_cases h1 : (1099511627776 : Int) < x
          · go_wp2_with fail
            go_ret
            refine ⟨retBool ?_, rfl⟩
            rw [HJ.out, HD.out, List.all_cons]
            have : okNum x = false := by unfold okNum; simp; omega
            rw [this]; rfl
          · go_wp2_with fail
            go_round
            case rel =>
              refine ⟨j + 1, by go_num, by omega, Lib.hid ?_⟩
              rw [HJ.out, HD.out, List.all_cons]
              have : okNum x = true := by unfold okNum; simp; omega
              rw [this]; rfl
            case measure => simp [intOf]; omega
      · obtain rfl : j = l.length := by omega
        go_wp2_with fail
        go_ret
        refine ⟨retBool ?_, rfl⟩
        rw [HJ.out, List.drop_length]
        rfl
  · have hb1 : ((l.length : Int) != k) = true := by rw [bne_iff_ne]; exact hk
    have hg : goodB l k = false := by unfold goodB; rw [decide_eq_false hk]; rfl
    rw [hg]
    clear hg
    go_enter Tryz.func83, Tryz.ntmps83
    go_wp2_with fail
    go_ret
    exact ⟨rfl, rfl⟩

set_option maxRecDepth 100000 in
set_option maxHeartbeats 1000000 in
theorem sent_nil (a : Option Addr) (c : Nat) (w : World) :
    Calls Tryz.prog 84 #[.slice a 0 c] w fun e w' => e = .returned (.tuple #[.slice none 0 0, .bool true]) ∧ Ext NoB w w' := by
  go_enter Tryz.func84, Tryz.ntmps84
  go_wp2_with fail
  refine wp_loop_rounds 1 ?_
  rw [rounds_succ]
  go_wp2_with fail
  go_ret2
  exact ⟨rfl, (Ext.refl _ w).alloc _⟩
end Go.Proofs.YtgglbholbkdgfaaGreatDoor
/- Package raft: may. -/
namespace Go.Proofs.YtgglbholbkdgfaaGreatDoor
open Go.RowKit

theorem nums_cell {w : World} {a : Option Addr} {c : Nat} {l : List Int} (h : Rd w 1 (.slice a l.length c) (intsV l)) (hl : 0 < l.length) : ∃ b off, a = some ⟨b, off, none⟩ ∧ ∀ (j : Nat) (x : Int), l[j]? = some x → w.cell? ⟨b, off + j, none⟩ = some (.int .i64 x) := by
  obtain ⟨a', n', c', hv, _, _, _, _, hr⟩ := h
  cases hv
  obtain ⟨b, off, rfl, hc⟩ := hr (by intro e; have := congrArg List.length e; simp at this; simp [this] at hl)
  exact ⟨b, off, rfl, fun j x hx => hc j _ (by simp [intsV, hx])⟩
/-- What may of a kind asks of numbers and of how many bytes there are. -/
def mayB (kd : Int) (l : List Int) (dl : Nat) : Bool :=
  if kd = 1 then goodB l 3 && decide (dl = 0)
  else if kd = 2 then goodB l 2 && decide (l.getD 1 0 ≤ 1) && decide (dl = 0)
  else if kd = 3 then goodB l 4
  else if kd = 4 then goodB l 3 && decide (l.getD 1 0 ≤ 1) && decide (dl = 0)
  else false
def MayEnds (b : Bool) (w : World) (e : Ending) (w' : World) : Prop := e = .returned (.bool b) ∧ Ext NoB w w'

set_option maxRecDepth 100000 in
set_option maxHeartbeats 2000000 in
theorem may_1 (r d : Nat) (F : Nat → Prop) (N : PNode) (D : PDisk) (ps : List PSeg) (fr : Nat) (na da : Option Addr) (nc dl dc : Nat) (l : List Int) (w : World) (h : NodeIs w r d F N D ps) (hfr : fr < N.n) (hne : fr ≠ N.id)
    (hn : Rd w 1 (.slice na l.length nc) (intsV l)) (hl : l.length ≤ 1000000000) :
    Calls Tryz.prog 45 #[.pointer (some ⟨r, 0, none⟩), msgV fr N.id 1 (.slice na l.length nc) (.slice da dl dc)] w (MayEnds (mayB 1 l dl) w) := by
  obtain ⟨L, FD, FL, FR, tv, dl', hA, _⟩ := h
  have hb := hA.blk
  have c0 : w.cell? ⟨r, 0, none⟩ = some (.int .i64 N.id) := by rw [cell_of_blk hb]; rfl
  have c1 : w.cell? ⟨r, 1, none⟩ = some (.int .i64 N.n) := by rw [cell_of_blk hb]; rfl
  have hrl := lt_of_blk hb
  have hn5 := hA.idn.2
  have hb1 : ((N.id : Int) != (N.id : Int)) = false := by simp
  have hb2 : decide ((fr : Int) < 0) = false := decide_eq_false (by omega)
  have hb3 : decide ((N.n : Int) ≤ (fr : Int)) = false := decide_eq_false (by omega)
  have hb4 : ((fr : Int) == (N.id : Int)) = false := beq_eq_false_iff_ne.2 (by omega)
  have hgood := Lib.hid (fun (k : Int) (w' : World) (x : Ext NoB w w') => good_any na nc l k w' (hn.no x) hl)
  have HN := Lib.hid hn
  clear hA hb hn
  unfold msgV
  obtain ⟨g, hg⟩ : ∃ g, goodB l 3 = g := ⟨_, rfl⟩
  have hm : mayB 1 l dl = (g && decide (dl = 0)) := by unfold mayB; rw [if_pos rfl, hg]
  rw [hm]
  have Hg := Lib.hid hg
  clear hg hm
  cases g with
  | false =>
    go_enter Tryz.func45, Tryz.ntmps45
    go_wp2_with fail
    go_quiet (fail)
    go_wp2_with fail
    refine (hgood.out 3 _ (((Ext.refl NoB w).alloc _).drewN _)).mono ?_; rintro e w2 ⟨rfl, rfl⟩
    rw [Hg.out]
    go_wp2_with fail
    go_ret
    exact ⟨retBool rfl, ((Ext.refl NoB w).alloc _).drewN _⟩
  | true =>
    by_cases hd : dl = 0
    · subst hd
      go_enter Tryz.func45, Tryz.ntmps45
      go_wp2_with fail
      go_quiet (fail)
      go_wp2_with fail
      refine (hgood.out 3 _ (((Ext.refl NoB w).alloc _).drewN _)).mono ?_; rintro e w2 ⟨rfl, rfl⟩
      rw [Hg.out]
      go_wp2_with fail
      go_ret
      exact ⟨retBool rfl, ((Ext.refl NoB w).alloc _).drewN _⟩
    · have hb5 : ((dl : Int) == 0) = false := beq_eq_false_iff_ne.2 (by omega)
      have hb6 : decide (dl = 0) = false := decide_eq_false hd
      rw [hb6]
      clear hb6
      go_enter Tryz.func45, Tryz.ntmps45
      go_wp2_with fail
      go_quiet (fail)
      go_wp2_with fail
      refine (hgood.out 3 _ (((Ext.refl NoB w).alloc _).drewN _)).mono ?_; rintro e w2 ⟨rfl, rfl⟩
      rw [Hg.out]
      go_wp2_with fail
      go_ret
      exact ⟨retBool rfl, ((Ext.refl NoB w).alloc _).drewN _⟩

set_option maxRecDepth 100000 in
set_option maxHeartbeats 2000000 in
theorem may_2 (r d : Nat) (F : Nat → Prop) (N : PNode) (D : PDisk) (ps : List PSeg) (fr : Nat) (na da : Option Addr) (nc dc : Nat) (l : List Int) (w : World) (h : NodeIs w r d F N D ps) (hfr : fr < N.n) (hne : fr ≠ N.id)
    (hn : Rd w 1 (.slice na l.length nc) (intsV l)) (hl : l.length ≤ 1000000000) (hg : goodB l 2 = true) (y : Int) (hy : l[1]? = some y) (hy1 : y ≤ 1) :
    Calls Tryz.prog 45 #[.pointer (some ⟨r, 0, none⟩), msgV fr N.id 2 (.slice na l.length nc) (.slice da 0 dc)] w (MayEnds (true) w) := by
  obtain ⟨L, FD, FL, FR, tv, dl', hA, _⟩ := h
  have hb := hA.blk
  have c0 : w.cell? ⟨r, 0, none⟩ = some (.int .i64 N.id) := by rw [cell_of_blk hb]; rfl
  have c1 : w.cell? ⟨r, 1, none⟩ = some (.int .i64 N.n) := by rw [cell_of_blk hb]; rfl
  have hrl := lt_of_blk hb
  have hn5 := hA.idn.2
  have hb1 : ((N.id : Int) != (N.id : Int)) = false := by simp
  have hb2 : decide ((fr : Int) < 0) = false := decide_eq_false (by omega)
  have hb3 : decide ((N.n : Int) ≤ (fr : Int)) = false := decide_eq_false (by omega)
  have hb4 : ((fr : Int) == (N.id : Int)) = false := beq_eq_false_iff_ne.2 (by omega)
  have hgood := Lib.hid (fun (k : Int) (w' : World) (x : Ext NoB w w') => good_any na nc l k w' (hn.no x) hl)
  have HN := Lib.hid hn
  clear hA hb hn
  unfold msgV
  have hlen : l.length = 2 := by
    have h1 := hg
    unfold goodB at h1
    simp only [Bool.and_eq_true, decide_eq_true_eq] at h1
    omega
  have Hg := Lib.hid hg
  obtain ⟨nb, noff, rfl, hcell⟩ := nums_cell HN.out (by omega)
  have cy := hcell 1 y hy
  have hnl := World.block_lt_of_cell? w _ cy
  have h1l : (1 : Int) < (l.length : Int) := by omega
  clear hcell
  have Hlen := Lib.hid hlen
  clear hg hlen
  go_enter Tryz.func45, Tryz.ntmps45
  go_wp2_with fail
  go_quiet (fail)
  go_wp2_with fail
  refine (hgood.out 2 _ (((Ext.refl NoB w).alloc _).drewN _)).mono ?_; rintro e w2 ⟨rfl, rfl⟩
  rw [Hg.out]
  go_wp2_with fail
  go_ret
  exact ⟨retBool rfl, ((Ext.refl NoB w).alloc _).drewN _⟩

set_option maxRecDepth 100000 in
set_option maxHeartbeats 2000000 in
theorem may_3 (r d : Nat) (F : Nat → Prop) (N : PNode) (D : PDisk) (ps : List PSeg) (fr : Nat) (na da : Option Addr) (nc dc : Nat) (l : List Int) (w : World) (h : NodeIs w r d F N D ps) (hfr : fr < N.n) (hne : fr ≠ N.id)
    (hn : Rd w 1 (.slice na l.length nc) (intsV l)) (hl : l.length ≤ 1000000000) (hg : goodB l 4 = true) :
    Calls Tryz.prog 45 #[.pointer (some ⟨r, 0, none⟩), msgV fr N.id 3 (.slice na l.length nc) (.slice da 0 dc)] w (MayEnds (true) w) := by
  obtain ⟨L, FD, FL, FR, tv, dl', hA, _⟩ := h
  have hb := hA.blk
  have c0 : w.cell? ⟨r, 0, none⟩ = some (.int .i64 N.id) := by rw [cell_of_blk hb]; rfl
  have c1 : w.cell? ⟨r, 1, none⟩ = some (.int .i64 N.n) := by rw [cell_of_blk hb]; rfl
  have hrl := lt_of_blk hb
  have hn5 := hA.idn.2
  have hb1 : ((N.id : Int) != (N.id : Int)) = false := by simp
  have hb2 : decide ((fr : Int) < 0) = false := decide_eq_false (by omega)
  have hb3 : decide ((N.n : Int) ≤ (fr : Int)) = false := decide_eq_false (by omega)
  have hb4 : ((fr : Int) == (N.id : Int)) = false := beq_eq_false_iff_ne.2 (by omega)
  have hgood := Lib.hid (fun (k : Int) (w' : World) (x : Ext NoB w w') => good_any na nc l k w' (hn.no x) hl)
  have HN := Lib.hid hn
  clear hA hb hn
  unfold msgV
  have hlen : l.length = 4 := by
    have h1 := hg
    unfold goodB at h1
    simp only [Bool.and_eq_true, decide_eq_true_eq] at h1
    omega
  have Hg := Lib.hid hg
  have Hlen := Lib.hid hlen
  clear hg hlen
  go_enter Tryz.func45, Tryz.ntmps45
  go_wp2_with fail
  go_quiet (fail)
  go_wp2_with fail
  refine (sent_nil da dc _).mono ?_; rintro e w1 ⟨rfl, x1⟩
  have cB := x1.cell (p := ⟨w.heap.size, 3, none⟩) (v := .slice na l.length nc) (by rw [cell_of_blk (blk_drewN (blk_new w _) _)]; rfl) (fun h => h)
  have x01 : Ext NoB w w1 := (((Ext.refl NoB w).alloc _).drewN _).trans x1
  have Hx := Lib.hid x01
  clear x1 x01
  go_wp2_with fail
  refine (hgood.out 4 _ Hx.out).mono ?_; rintro e w2 ⟨rfl, rfl⟩
  rw [Hg.out]
  go_wp2_with fail
  go_ret
  exact ⟨retBool rfl, Hx.out⟩

set_option maxRecDepth 100000 in
set_option maxHeartbeats 2000000 in
theorem may_4 (r d : Nat) (F : Nat → Prop) (N : PNode) (D : PDisk) (ps : List PSeg) (fr : Nat) (na da : Option Addr) (nc dc : Nat) (l : List Int) (w : World) (h : NodeIs w r d F N D ps) (hfr : fr < N.n) (hne : fr ≠ N.id)
    (hn : Rd w 1 (.slice na l.length nc) (intsV l)) (hl : l.length ≤ 1000000000) (hg : goodB l 3 = true) (y : Int) (hy : l[1]? = some y) (hy1 : y ≤ 1) :
    Calls Tryz.prog 45 #[.pointer (some ⟨r, 0, none⟩), msgV fr N.id 4 (.slice na l.length nc) (.slice da 0 dc)] w (MayEnds (true) w) := by
  obtain ⟨L, FD, FL, FR, tv, dl', hA, _⟩ := h
  have hb := hA.blk
  have c0 : w.cell? ⟨r, 0, none⟩ = some (.int .i64 N.id) := by rw [cell_of_blk hb]; rfl
  have c1 : w.cell? ⟨r, 1, none⟩ = some (.int .i64 N.n) := by rw [cell_of_blk hb]; rfl
  have hrl := lt_of_blk hb
  have hn5 := hA.idn.2
  have hb1 : ((N.id : Int) != (N.id : Int)) = false := by simp
  have hb2 : decide ((fr : Int) < 0) = false := decide_eq_false (by omega)
  have hb3 : decide ((N.n : Int) ≤ (fr : Int)) = false := decide_eq_false (by omega)
  have hb4 : ((fr : Int) == (N.id : Int)) = false := beq_eq_false_iff_ne.2 (by omega)
  have hgood := Lib.hid (fun (k : Int) (w' : World) (x : Ext NoB w w') => good_any na nc l k w' (hn.no x) hl)
  have HN := Lib.hid hn
  clear hA hb hn
  unfold msgV
  have hlen : l.length = 3 := by
    have h1 := hg
    unfold goodB at h1
    simp only [Bool.and_eq_true, decide_eq_true_eq] at h1
    omega
  have Hg := Lib.hid hg
  obtain ⟨nb, noff, rfl, hcell⟩ := nums_cell HN.out (by omega)
  have cy := hcell 1 y hy
  have hnl := World.block_lt_of_cell? w _ cy
  have h1l : (1 : Int) < (l.length : Int) := by omega
  clear hcell
  have Hlen := Lib.hid hlen
  clear hg hlen
  go_enter Tryz.func45, Tryz.ntmps45
  go_wp2_with fail
  go_quiet (fail)
  go_wp2_with fail
  refine (hgood.out 3 _ (((Ext.refl NoB w).alloc _).drewN _)).mono ?_; rintro e w2 ⟨rfl, rfl⟩
  rw [Hg.out]
  go_wp2_with fail
  go_ret
  exact ⟨retBool rfl, ((Ext.refl NoB w).alloc _).drewN _⟩
end Go.Proofs.YtgglbholbkdgfaaGreatDoor
/- Package raft: an answer to entries (told$1). -/
namespace Go.Proofs.YtgglbholbkdgfaaGreatDoor
open Go.RowKit

/-- One message in memory. -/
theorem MsgsAre.one {w : World} {b : Nat} {m : List Value} {M : PMsg} {fr : Nat × Nat} (hb : w.heap[b]? = some (.cells m.toArray 37 (0, 0))) (h : MsgIs w m M) : MsgsAre w (.slice (some ⟨b, 0, none⟩) 1 1) [M] := by
  refine ⟨[m], MsgRows.snoc .nil h, ?_⟩
  have hl := h.one.1
  refine .inr ⟨b, 1, 1, _, rfl, hb, Nat.le_refl _, ?_, by unfold maxLen; omega, ?_, ?_⟩
  · simp [hl]
  · simp [hl]
  · simp only [List.flatten_cons, List.flatten_nil, List.append_nil]
    show m.take (1 * 5) = m
    rw [List.take_of_length_le (by omega)]
/-- What told answers. -/
def tookMsg (N : PNode) (fr : Int) (yes number : Int) : PMsg := ⟨N.id, fr, 4, [N.term, yes, number], []⟩

set_option maxRecDepth 100000 in
set_option maxHeartbeats 2000000 in
theorem answer_any (r BN BM L d : Nat) (tv : Value) (N : PNode) (fr yes number : Int) (w : World) (hb : w.heap[r]? = some (.cells (nodeArr N d L tv) 92 (0, 0)))
    (hN : w.cell? ⟨BN, 0, none⟩ = some (.pointer (some ⟨r, 0, none⟩))) (hM : w.cell? ⟨BM, 0, none⟩ = some (.int .i64 fr)) :
    Calls Tryz.prog 86 #[.int .i64 yes, .int .i64 number, .pointer (some ⟨BN, 0, none⟩), .pointer (some ⟨BM, 0, none⟩)] w (Many (fun _ => tookMsg N fr yes number) [0] w) := by
  have hz := zeroMsg
  have c0 : w.cell? ⟨r, 0, none⟩ = some (.int .i64 N.id) := by rw [cell_of_blk hb]; rfl
  have c5 : w.cell? ⟨r, 5, none⟩ = some (.int .i64 N.term) := by rw [cell_of_blk hb]; rfl
  clear hb
  go_enter Tryz.func86, Tryz.ntmps86
  go_wp2_with fail
  refine wp_region_N (fun w' => w'.cell? ⟨BN, 0, none⟩ = some (.pointer (some ⟨r, 0, none⟩)) ∧ w'.cell? ⟨BM, 0, none⟩ = some (.int .i64 fr) ∧ w'.cell? ⟨r, 5, none⟩ = some (.int .i64 N.term)) 11 (by kernel_rfl) ?_
  have hSd : w.drew.cell? ⟨BN, 0, none⟩ = some (.pointer (some ⟨r, 0, none⟩)) ∧ w.drew.cell? ⟨BM, 0, none⟩ = some (.int .i64 fr) ∧ w.drew.cell? ⟨r, 5, none⟩ = some (.int .i64 N.term) := ⟨hN, hM, c5⟩
  have xD : Ext NoB w w.drew := (Ext.refl _ w).drew
  generalize w.drew = wd at hSd xD ⊢
  refine wpAnyN_take 0 (v := ?_) (by kernel_rfl) rfl (fun _ _ _ h => h) hSd (by rfl) ?_ ?_; rotate_left; (focus (intro w hSw; (try dsimp only at hSw); go_simp; try with_reducible rfl)); (try simp only [Act.put]); (try simp only [List.setIfInBounds_toArray, List.set_cons_zero, List.set_cons_succ])
  refine wpAnyN_free 1 (v := ?_) (by kernel_rfl) rfl (fun _ _ _ h => h) hSd (by rfl) ?_ ?_; rotate_left; (focus (intro w; go_simp; try with_reducible rfl)); (try simp only [Act.put]); (try simp only [List.setIfInBounds_toArray, List.set_cons_zero, List.set_cons_succ])
  refine wpAnyN_take 2 (v := ?_) (by kernel_rfl) rfl (fun _ _ _ h => h) hSd (by rfl) ?_ ?_; rotate_left; (focus (intro w hSw; (try dsimp only at hSw); go_simp; try with_reducible rfl)); (try simp only [Act.put]); (try simp only [List.setIfInBounds_toArray, List.set_cons_zero, List.set_cons_succ])
  refine wpAnyN_take 3 (v := ?_) (by kernel_rfl) rfl (fun _ _ _ h => h) hSd (by rfl) ?_ ?_; rotate_left; (focus (intro w hSw; (try dsimp only at hSw); go_simp; try with_reducible rfl)); (try simp only [Act.put]); (try simp only [List.setIfInBounds_toArray, List.set_cons_zero, List.set_cons_succ])
  refine wpAnyN_free 4 (v := ?_) (by kernel_rfl) rfl (fun _ _ _ h => h) hSd (by rfl) ?_ ?_; rotate_left; (focus (intro w; go_simp; try with_reducible rfl)); (try simp only [Act.put]); (try simp only [List.setIfInBounds_toArray, List.set_cons_zero, List.set_cons_succ])
  refine wpAnyN_free 5 (v := ?_) (by kernel_rfl) rfl (fun _ _ _ h => h) hSd (by rfl) ?_ ?_; rotate_left; (focus (intro w; go_simp; try with_reducible rfl)); (try simp only [Act.put]); (try simp only [List.setIfInBounds_toArray, List.set_cons_zero, List.set_cons_succ])
  refine wpAnyN_take 6 (v := ?_) (by kernel_rfl) rfl (fun _ _ _ h => h) hSd (by rfl) ?_ ?_; rotate_left; (focus (intro w hSw; (try dsimp only at hSw); go_simp; try with_reducible rfl)); (try simp only [Act.put]); (try simp only [List.setIfInBounds_toArray, List.set_cons_zero, List.set_cons_succ])
  refine wpAnyN_free 7 (v := ?_) (by kernel_rfl) rfl (fun _ _ _ h => h) hSd (by rfl) ?_ ?_; rotate_left; (focus (intro w; go_simp; try with_reducible rfl)); (try simp only [Act.put]); (try simp only [List.setIfInBounds_toArray, List.set_cons_zero, List.set_cons_succ])
  refine wpAnyN_free 8 (v := ?_) (by kernel_rfl) rfl (fun _ _ _ h => h) hSd (by rfl) ?_ ?_; rotate_left; (focus (intro w; go_simp; try with_reducible rfl)); (try simp only [Act.put]); (try simp only [List.setIfInBounds_toArray, List.set_cons_zero, List.set_cons_succ])
  refine wpAnyN_one 9 (by kernel_rfl) (by simp only [List.getElem?_toArray, List.getElem?_cons_succ, List.getElem?_cons_zero] <;> rfl) (by rfl) (fun K hK => ?_)
  go_simp
  obtain ⟨w3, B, e3, e4, x3, b3, hs3⟩ := alloc_facts wd (.cells #[.int .i64 N.term, .int .i64 yes, .int .i64 number] 3)
  rw [e3, e4]
  have hS3 := And.intro (x3.cell hSd.1 (fun h => h)) (And.intro (x3.cell hSd.2.1 (fun h => h)) (x3.cell hSd.2.2 (fun h => h)))
  refine hK.out _ _ hS3 (fun hSd => ?_)
  clear hK K hSd
  have hSd := hS3
  (try simp only [Act.put]); (try simp only [List.setIfInBounds_toArray, List.set_cons_zero, List.set_cons_succ])
  refine wpAnyN_one 10 (by kernel_rfl) (by simp only [List.getElem?_toArray, List.getElem?_cons_succ, List.getElem?_cons_zero] <;> rfl) (by rfl) (fun K hK => ?_)
  go_simp
  have y3 : Ext NoB w w3 := xD.trans x3
  refine (msg_any r N.id fr 4 none (some ⟨B, 0, none⟩) 0 0 3 3 w3 (y3.cell c0 (fun h => h))).mono ?_; rintro e w4 ⟨rfl, x4⟩
  have hS4 := And.intro (x4.cell hSd.1 (fun h => h)) (And.intro (x4.cell hSd.2.1 (fun h => h)) (x4.cell hSd.2.2 (fun h => h)))
  unfold msgV
  go_wp2_with fail
  refine hK.out _ _ hS4 (fun hSd => ?_)
  clear hK K hSd
  (try simp only [Act.put]); (try simp only [List.setIfInBounds_toArray, List.set_cons_zero, List.set_cons_succ])
  refine wpAnyN_tail (by rfl) (by decide) (by kernel_rfl) (by kernel_rfl) ?_
  simp only [List.drop_succ_cons, List.drop_zero]
  have Hb4 := Lib.hid (x4.blk b3 (fun h => h))
  have Hy4 := Lib.hid (y3.trans x4)
  clear hS4 hS3 hSd x4 b3 y3 x3 e3
  go_wp2_with fail
  obtain ⟨w5, R, q1, q2, x5, b5, hs5⟩ := alloc_facts w4 (.cells #[.int .i64 N.id, .int .i64 fr, .int .i64 4, .slice (some ⟨B, 0, none⟩) 3 3, .slice none 0 0] 37)
  rw [q1, q2]
  have Hb5 := Lib.hid b5
  have Hx5 := Lib.hid x5
  have Hq2 := Lib.hid q2
  clear q1 q2 b5 x5 hs5
  go_wp2_with fail
  go_ret
  have x5 := Hx5.out
  refine ⟨_, rfl, MsgsAre.one (fr := (0, 0)) (m := [.int .i64 N.id, .int .i64 fr, .int .i64 4, .slice (some ⟨B, 0, none⟩) 3 3, .slice none 0 0]) Hb5.out ⟨_, _, rfl, .inr ⟨B, 3, 3, _, rfl, x5.blk Hb4.out (fun h => h), Nat.le_refl _, Nat.le_refl _, by unfold maxLen; omega, rfl, rfl⟩, Own.nil _ _ _⟩, fun g hg => ?_, Hy4.out.trans x5⟩
  simp [Value.ownBlock] at hg
  have := Hq2.out
  have := Hy4.out.size
  omega
end Go.Proofs.YtgglbholbkdgfaaGreatDoor
/- Package raft: told of an older term; told of no entries. -/
namespace Go.Proofs.YtgglbholbkdgfaaGreatDoor
open Go.RowKit

set_option maxRecDepth 100000 in
set_option maxHeartbeats 4000000 in
theorem told_old (r d : Nat) (F : Nat → Prop) (N : PNode) (room : Nat) (saved : Bool) (fr tt draw t0 : Int) (na da : Option Addr) (nc dl dc : Nat) (l : List Int) (w : World) (h : RaftIs w r d F N room saved)
    (hn : Rd w 1 (.slice na l.length nc) (intsV l)) (h0 : l[0]? = some t0) (hlt : t0 < N.term) :
    Calls Tryz.prog 49 #[.pointer (some ⟨r, 0, none⟩), msgV fr tt 3 (.slice na l.length nc) (.slice da dl dc), .int .i64 draw] w (Many (fun _ => tookMsg N fr 0 0) [0] w) := by
  obtain ⟨L, tv, hb, hi1, hi2, hc, hll⟩ := h.cells
  have hlpos : 0 < l.length := (List.getElem?_eq_some_iff.1 h0).1
  obtain ⟨nb, noff, rfl, hcell⟩ := nums_cell hn hlpos
  have cn0 : w.cell? ⟨nb, noff, none⟩ = some (.int .i64 t0) := hcell 0 t0 h0
  have c5 : w.cell? ⟨r, 5, none⟩ = some (.int .i64 N.term) := by rw [cell_of_blk hb]; rfl
  have hmf : ∀ (fn : Fn) (first cap : Array Value) (w : World), (Instr.makeFunc fn first cap).run Tryz.prog w = .ok (.func fn first cap) w := fun _ _ _ _ => rfl
  have hlp : (0 : Int) < (l.length : Int) := by omega
  have hrl := lt_of_blk hb
  have Hb := Lib.hid hb
  clear h hb hn hcell h0
  unfold msgV
  go_enter Tryz.func49, Tryz.ntmps49
  go_wp2_with fail
  obtain ⟨w1, BN, e1, e2, x1, b1, hs1⟩ := alloc_facts w (.cells #[.pointer (some ⟨r, 0, none⟩)] 27)
  obtain ⟨w2, BM, e3, e4, x2, b2, hs2⟩ := alloc_facts w1 (.cells #[.int .i64 fr, .int .i64 tt, .int .i64 3, .slice (some ⟨nb, noff, none⟩) l.length nc, .slice da dl dc] 37)
  obtain rfl : BM = BN + 1 := by omega
  rw [e1, e2, e3]
  have x02 := x1.trans x2
  have bN := x2.blk b1 (fun h => h)
  have dN : w2.cell? ⟨BN, 0, none⟩ = some (.pointer (some ⟨r, 0, none⟩)) := by rw [cell_of_blk bN]; rfl
  have dM0 : w2.cell? ⟨BN + 1, 0, none⟩ = some (.int .i64 fr) := by rw [cell_of_blk b2]; rfl
  have dM3 : w2.cell? ⟨BN + 1, 3, none⟩ = some (.slice (some ⟨nb, noff, none⟩) l.length nc) := by rw [cell_of_blk b2]; rfl
  have d5 := x02.cell c5 (fun h => h)
  have dn := x02.cell cn0 (fun h => h)
  have Hb2 := Lib.hid (x02.blk Hb.out (fun h => h))
  have Hx02 := Lib.hid x02
  clear e1 e2 e3 e4 x1 x2 b1 b2 hs1 hs2 bN x02 c5 cn0
  go_quiet (fail)
  go_wp2_with fail
  have xq : Ext NoB w2 (w2.drewN nq) := (Ext.refl _ w2).drewN _
  refine (answer_any r BN (BN + 1) L d tv N fr 0 0 _ (xq.blk Hb2.out (fun h => h)) (xq.cell dN (fun h => h)) (xq.cell dM0 (fun h => h))).mono ?_; rintro e w3 ⟨v, rfl, hm, hf, x3⟩
  obtain ⟨ms, hms, hown⟩ := hm
  obtain ⟨va, vn, vc, rfl, _⟩ := hown.rd
  have Hm := Lib.hid hms
  have Ho := Lib.hid hown
  have Hf := Lib.hid hf
  have Hx3 := Lib.hid x3
  clear hms hown hf x3
  go_wp2_with fail
  go_ret
  have hsz := Hx02.out.size
  exact ⟨_, rfl, ⟨ms, Hm.out, Ho.out⟩, fun g hg => Nat.le_trans hsz (Hf.out g hg), (Hx02.out.trans xq).trans Hx3.out⟩
end Go.Proofs.YtgglbholbkdgfaaGreatDoor
/- Package raft: told of no entries: what is ahead is there. -/
namespace Go.Proofs.YtgglbholbkdgfaaGreatDoor
open Go.RowKit

/-- One that follows. -/
def PNode.follows (N : PNode) (fr draw : Int) : PNode := { N with role := 0, leader := fr, wait := 10 + (max 0 draw) % 10 }
/-- .. and has been told what is committed. -/
def PNode.beat (N : PNode) (fr draw : Int) (c a : Nat) : PNode := { (N.follows fr draw) with committed := max N.committed (min c a) }

set_option maxRecDepth 100000 in
set_option maxHeartbeats 4000000 in
theorem told_beat (r d : Nat) (F : Nat → Prop) (N : PNode) (room : Nat) (saved : Bool) (fr tt draw : Int) (na da : Option Addr) (nc dc c3 a : Nat) (l : List Int) (w : World) (h : RaftIs w r d F N room saved)
    (hn : Rd w 1 (.slice na l.length nc) (intsV l)) (hoff : Off F (.slice na l.length nc)) (hl : l = [(N.term : Int), (a : Int), (N.termOf a : Int), (c3 : Int)]) (ha : a ≤ N.log.length) (hc3 : c3 ≤ 1099511627776) :
    Calls Tryz.prog 49 #[.pointer (some ⟨r, 0, none⟩), msgV fr tt 3 (.slice na l.length nc) (.slice da 0 dc), .int .i64 draw] w (Sends r d F w [tookMsg N fr 1 a] (N.beat fr draw c3 a) room saved) := by
  obtain ⟨L, tv, hb, hi1, hi2, hcm, hll⟩ := h.cells
  have hlt := h.lt
  have hlen : l.length = 4 := by rw [hl]; rfl
  obtain ⟨nb, noff, rfl, hcell⟩ := nums_cell hn (by omega)
  obtain ⟨tm, htm⟩ : ∃ tm, N.termOf a = tm := ⟨_, rfl⟩
  rw [htm] at hl
  have cn0 : w.cell? ⟨nb, noff, none⟩ = some (.int .i64 N.term) := hcell 0 _ (by rw [hl]; rfl)
  have cn1 : w.cell? ⟨nb, noff + 1, none⟩ = some (.int .i64 a) := hcell 1 _ (by rw [hl]; rfl)
  have cn2 : w.cell? ⟨nb, noff + 2, none⟩ = some (.int .i64 tm) := hcell 2 _ (by rw [hl]; rfl)
  have cn3 : w.cell? ⟨nb, noff + 3, none⟩ = some (.int .i64 c3) := hcell 3 _ (by rw [hl]; rfl)
  have hnbF : ¬ F nb := hoff nb rfl
  rw [hlen] at hn ⊢
  have c5 : w.cell? ⟨r, 5, none⟩ = some (.int .i64 N.term) := by rw [cell_of_blk hb]; rfl
  have hmf : ∀ (fn : Fn) (first cap : Array Value) (w : World), (Instr.makeFunc fn first cap).run Tryz.prog w = .ok (.func fn first cap) w := fun _ _ _ _ => rfl
  have hrl := lt_of_blk hb
  have H := Lib.hid h
  have Hb := Lib.hid hb
  have Hlt := Lib.hid hlt
  have Htm := Lib.hid htm
  have hrF : F r := by
    obtain ⟨_, _, ⟨_, _, _, _, _, _, k1, k2, _⟩, _, _⟩ := h.is
    exact k2 r (.inr (.inr k1.self))
  have hnr : nb ≠ r := fun e => hnbF (e ▸ hrF)
  clear h hb hn hcell hl hlt hlen hoff htm
  unfold msgV
  go_enter Tryz.func49, Tryz.ntmps49
  go_wp2_with fail
  obtain ⟨w1, BN, e1, e2, x1, b1, hs1⟩ := alloc_facts w (.cells #[.pointer (some ⟨r, 0, none⟩)] 27)
  obtain ⟨w2, BM, e3, e4, x2, b2, hs2⟩ := alloc_facts w1 (.cells #[.int .i64 fr, .int .i64 tt, .int .i64 3, .slice (some ⟨nb, noff, none⟩) 4 nc, .slice da 0 dc] 37)
  obtain rfl : BM = BN + 1 := by omega
  rw [e1, e2, e3]
  have x02 := x1.trans x2
  have bN := x2.blk b1 (fun h => h)
  have hsz : w.heap.size = BN := e2
  have hBNF : ¬ F BN := fun h => by have := Hlt.out BN h; omega
  have hBMF : ¬ F (BN + 1) := fun h => by have := Hlt.out (BN + 1) h; omega
  have hrBN : BN ≠ r ∧ BN + 1 ≠ r := by omega
  have dN : w2.cell? ⟨BN, 0, none⟩ = some (.pointer (some ⟨r, 0, none⟩)) := by rw [cell_of_blk bN]; rfl
  have dM0 : w2.cell? ⟨BN + 1, 0, none⟩ = some (.int .i64 fr) := by rw [cell_of_blk b2]; rfl
  have dM3 : w2.cell? ⟨BN + 1, 3, none⟩ = some (.slice (some ⟨nb, noff, none⟩) 4 nc) := by rw [cell_of_blk b2]; rfl
  have dM4 : w2.cell? ⟨BN + 1, 4, none⟩ = some (.slice da 0 dc) := by rw [cell_of_blk b2]; rfl
  have d5 := x02.cell c5 (fun h => h)
  have dn0 := x02.cell cn0 (fun h => h)
  have dn1 := x02.cell cn1 (fun h => h)
  have dn2 := x02.cell cn2 (fun h => h)
  have dn3 := x02.cell cn3 (fun h => h)
  have Hb2 := Lib.hid (x02.blk Hb.out (fun h => h))
  have Hx02 := Lib.hid x02
  clear e1 e2 e3 e4 x1 x2 b1 b2 hs1 hs2 bN x02 c5 cn0 cn1 cn2 cn3
  go_quiet (fail)
  go_wp2_with fail
  have xq : Ext NoB w2 (w2.drewN nq).drew := ((Ext.refl _ w2).drewN _).drew
  refine wp_region_N (fun w' => w'.cell? ⟨BN, 0, none⟩ = some (.pointer (some ⟨r, 0, none⟩)) ∧ w'.cell? ⟨BN + 1, 0, none⟩ = some (.int .i64 fr)) 10 (by kernel_rfl) ?_
  have hSd : (w2.drewN nq).drew.cell? ⟨BN, 0, none⟩ = some (.pointer (some ⟨r, 0, none⟩)) ∧ (w2.drewN nq).drew.cell? ⟨BN + 1, 0, none⟩ = some (.int .i64 fr) := ⟨xq.cell dN (fun h => h), xq.cell dM0 (fun h => h)⟩
  generalize (w2.drewN nq).drew = wd at hSd xq ⊢
  have bD : wd.heap[r]? = some (.cells (nodeArr N d L tv) 92 (0, 0)) := xq.blk Hb2.out (fun h => h)
  have d7 : wd.cell? ⟨r, 7, none⟩ = some (.int .i64 N.role) := by rw [cell_of_blk bD]; rfl
  have f7 : wd.frozen? ⟨r, 7, none⟩ = false := frozen_of_blk bD 7
  refine wpAnyN_take 0 (v := ?_) (by kernel_rfl) rfl (fun _ _ _ h => h) hSd (by rfl) ?_ ?_; rotate_left; (focus (intro w hSw; (try dsimp only at hSw); go_simp; try with_reducible rfl)); (try simp only [Act.put]); (try simp only [List.setIfInBounds_toArray, List.set_cons_zero, List.set_cons_succ])
  refine wpAnyN_take 1 (v := ?_) (by kernel_rfl) rfl (fun _ _ _ h => h) hSd (by rfl) ?_ ?_; rotate_left; (focus (intro w hSw; (try dsimp only at hSw); go_simp; try with_reducible rfl)); (try simp only [Act.put]); (try simp only [List.setIfInBounds_toArray, List.set_cons_zero, List.set_cons_succ])
  refine wpAnyN_free 2 (v := ?_) (by kernel_rfl) rfl (fun _ _ _ h => h) hSd (by rfl) ?_ ?_; rotate_left; (focus (intro w; go_simp; try with_reducible rfl)); (try simp only [Act.put]); (try simp only [List.setIfInBounds_toArray, List.set_cons_zero, List.set_cons_succ])
  refine wpAnyN_take 3 (v := ?_) (by kernel_rfl) rfl (fun _ _ _ h => h) hSd (by rfl) ?_ ?_; rotate_left; (focus (intro w hSw; (try dsimp only at hSw); go_simp; try with_reducible rfl)); (try simp only [Act.put]); (try simp only [List.setIfInBounds_toArray, List.set_cons_zero, List.set_cons_succ])
  refine wpAnyN_free 4 (v := ?_) (by kernel_rfl) rfl (fun _ _ _ h => h) hSd (by rfl) ?_ ?_; rotate_left; (focus (intro w; go_simp; try with_reducible rfl)); (try simp only [Act.put]); (try simp only [List.setIfInBounds_toArray, List.set_cons_zero, List.set_cons_succ])
  refine wpAnyN_free 5 (v := ?_) (by kernel_rfl) rfl (fun _ _ _ h => h) hSd (by rfl) ?_ ?_; rotate_left; (focus (intro w; go_simp; try with_reducible rfl)); (try simp only [Act.put]); (try simp only [List.setIfInBounds_toArray, List.set_cons_zero, List.set_cons_succ])
  refine wpAnyN_one 6 (by kernel_rfl) (by simp only [List.getElem?_toArray, List.getElem?_cons_succ, List.getElem?_cons_zero] <;> rfl) (by rfl) (fun K hK => ?_)
  go_simp
  have xs1 : Ext (fun b => b = r) wd (wd.setCell ⟨r, 7, none⟩ (.int .i64 0)) := (Ext.refl (fun b => b = r) wd).setCell (p := ⟨r, 7, none⟩) (.inl rfl) _
  have bD1 := blk_setCell bD 7 (.int .i64 0)
  generalize (wd.setCell ⟨r, 7, none⟩ (.int .i64 0)) = we at xs1 bD1 ⊢
  have hS1 := And.intro (xs1.cell hSd.1 hrBN.1) (xs1.cell hSd.2 hrBN.2)
  refine hK.out _ _ hS1 (fun hSd => ?_)
  clear hK K hSd d7 f7
  have hSd := hS1
  have d8 : we.cell? ⟨r, 8, none⟩ = some (.int .i64 N.leader) := by rw [cell_of_blk bD1]; rfl
  have f8 : we.frozen? ⟨r, 8, none⟩ = false := frozen_of_blk bD1 8
  (try simp only [Act.put]); (try simp only [List.setIfInBounds_toArray, List.set_cons_zero, List.set_cons_succ])
  refine wpAnyN_free 7 (v := ?_) (by kernel_rfl) rfl (fun _ _ _ h => h) hSd (by rfl) ?_ ?_; rotate_left; (focus (intro w; go_simp; try with_reducible rfl)); (try simp only [Act.put]); (try simp only [List.setIfInBounds_toArray, List.set_cons_zero, List.set_cons_succ])
  refine wpAnyN_free 8 (v := ?_) (by kernel_rfl) rfl (fun _ _ _ h => h) hSd (by rfl) ?_ ?_; rotate_left; (focus (intro w; go_simp; try with_reducible rfl)); (try simp only [Act.put]); (try simp only [List.setIfInBounds_toArray, List.set_cons_zero, List.set_cons_succ])
  refine wpAnyN_one 9 (by kernel_rfl) (by simp only [List.getElem?_toArray, List.getElem?_cons_succ, List.getElem?_cons_zero] <;> rfl) (by rfl) (fun K hK => ?_)
  go_simp
  have xs2 : Ext (fun b => b = r) we (we.setCell ⟨r, 8, none⟩ (.int .i64 fr)) := (Ext.refl (fun b => b = r) we).setCell (p := ⟨r, 8, none⟩) (.inl rfl) _
  have bD2 := blk_setCell bD1 8 (.int .i64 fr)
  generalize (we.setCell ⟨r, 8, none⟩ (.int .i64 fr)) = wf at xs2 bD2 ⊢
  have hS2 := And.intro (xs2.cell hSd.1 hrBN.1) (xs2.cell hSd.2 hrBN.2)
  refine hK.out _ _ hS2 (fun hSd => ?_)
  clear hK K hSd d8 f8
  (try simp only [Act.put]); (try simp only [List.setIfInBounds_toArray, List.set_cons_zero, List.set_cons_succ])
  refine wpAnyN_tail (by rfl) (by decide) (by kernel_rfl) (by kernel_rfl) ?_
  simp only [List.drop_succ_cons, List.drop_zero, List.drop_nil]
  have xv : Ext (fun b => b = r) w2 wf := (xq.of_no.trans xs1).trans xs2
  obtain ⟨r3, x3F⟩ := RaftIs.set (N' := { N with role := 0, leader := fr }) (H.out.no Hx02.out) xv (fun L' tv' hb' => by
    have e := Hb2.out.symm.trans hb'
    have e2 : nodeArr N d L tv = nodeArr N d L' tv' := by
      injection e with e; injection e
    have eL : L = L' ∧ tv = tv' := by
      have e3 := congrArg Array.toList e2
      simp only [nodeArr, List.cons.injEq, Value.pointer.injEq, Option.some.injEq, Addr.mk.injEq] at e3
      exact ⟨e3.2.2.2.1.1, e3.2.2.2.2.1⟩
    obtain ⟨rfl, rfl⟩ := eL
    exact bD2) rfl ⟨hi1, hi2⟩ hcm rfl rfl
  obtain ⟨D3, ps3, hN3, hrm3, hp3⟩ := r3.is
  have gN := xv.cell dN hrBN.1
  have gM0 := xv.cell dM0 hrBN.2
  have gM3 := xv.cell dM3 hrBN.2
  have gM4 := xv.cell dM4 hrBN.2
  have gn1 := xv.cell dn1 hnr
  have gn2 := xv.cell dn2 hnr
  have gn3 := xv.cell dn3 hnr
  have HN3 := Lib.hid hN3
  have Hr3 := Lib.hid r3
  have Hx3F := Lib.hid x3F
  have Hp3 := Lib.hid (And.intro hrm3 hp3)
  clear r3 x3F xs1 xs2 bD bD1 bD2 hS1 hS2 xv xq dN dM0 dM3 dM4 d5 dn0 dn1 dn2 dn3 hN3 hrm3 hp3 hSd
  go_wp2_with fail
  refine (anew_any r d F _ D3 ps3 draw wf HN3.out).mono ?_; rintro e w4 ⟨rfl, x4, n4⟩
  have kN := x4.cell gN hBNF
  have kM0 := x4.cell gM0 hBMF
  have kM3 := x4.cell gM3 hBMF
  have kM4 := x4.cell gM4 hBMF
  have kn1 := x4.cell gn1 hnbF
  have kn2 := x4.cell gn2 hnbF
  have kn3 := x4.cell gn3 hnbF
  have hterm := termOf_any r d F (N.follows fr draw) D3 ps3 a w4 n4 (by omega)
  have hta : (N.follows fr draw).termOf a = tm := Htm.out
  have hha : (N.follows fr draw).has (a : Int) = true := by unfold PNode.has; exact decide_eq_true ⟨by omega, by show (a : Int) ≤ (N.log.length : Int); omega⟩
  rw [hta, hha] at hterm
  have Hterm := Lib.hid hterm
  have Hn4 := Lib.hid n4
  have Hx4 := Lib.hid x4
  have Hk0 := Lib.hid kM0
  clear x4 n4 hterm hta hha gN gM0 gM3 gM4 gn1 gn2 gn3
  go_wp2_with fail
  refine Hterm.out.mono ?_; rintro e w5 ⟨rfl, rfl⟩
  go_wp2_with fail
  refine (sent_nil da dc w4).mono ?_; rintro e w5 ⟨rfl, x5⟩
  have mN := x5.cell kN (fun h => h)
  have mM0 := x5.cell kM0 (fun h => h)
  have mM3 := x5.cell kM3 (fun h => h)
  have mn3 := x5.cell kn3 (fun h => h)
  have Hx5 := Lib.hid x5
  clear x5 kN kM0 kM3 kM4 kn1 kn2 kn3
  go_wp2_with fail
  refine wp_loop_rounds 1 ?_
  rw [rounds_succ]
  go_wp2_with fail
  obtain ⟨L4, FD4, FL4, FR4, tv4, dl4, hA4, hF4, hlt4⟩ := Hn4.out
  have b4 := Hx5.out.blk hA4.blk (fun h => h)
  have m9 : w5.cell? ⟨r, 9, none⟩ = some (.int .i64 N.committed) := by rw [cell_of_blk b4]; rfl
  have x5d : Ext NoB w5 w5.drew := (Ext.refl _ w5).drew
  refine wp_region_N (fun w' => w'.cell? ⟨BN, 0, none⟩ = some (.pointer (some ⟨r, 0, none⟩)) ∧ w'.cell? ⟨r, 9, none⟩ = some (.int .i64 N.committed) ∧ w'.cell? ⟨BN + 1, 3, none⟩ = some (.slice (some ⟨nb, noff, none⟩) 4 nc) ∧ w'.cell? ⟨nb, noff + 3, none⟩ = some (.int .i64 c3)) 17 (by kernel_rfl) ?_
  have hSd : w5.drew.cell? ⟨BN, 0, none⟩ = some (.pointer (some ⟨r, 0, none⟩)) ∧ w5.drew.cell? ⟨r, 9, none⟩ = some (.int .i64 N.committed) ∧ w5.drew.cell? ⟨BN + 1, 3, none⟩ = some (.slice (some ⟨nb, noff, none⟩) 4 nc) ∧ w5.drew.cell? ⟨nb, noff + 3, none⟩ = some (.int .i64 c3) := ⟨mN, m9, mM3, mn3⟩
  generalize w5.drew = wg at hSd x5d ⊢
  refine wpAnyN_take 0 (v := ?_) (by kernel_rfl) rfl (fun _ _ _ h => h) hSd (by rfl) ?_ ?_; rotate_left; (focus (intro w hSw; (try dsimp only at hSw); go_simp; try with_reducible rfl)); (try simp only [Act.put]); (try simp only [List.setIfInBounds_toArray, List.set_cons_zero, List.set_cons_succ])
  refine wpAnyN_take 1 (v := ?_) (by kernel_rfl) rfl (fun _ _ _ h => h) hSd (by rfl) ?_ ?_; rotate_left; (focus (intro w hSw; (try dsimp only at hSw); go_simp; try with_reducible rfl)); (try simp only [Act.put]); (try simp only [List.setIfInBounds_toArray, List.set_cons_zero, List.set_cons_succ])
  refine wpAnyN_free 2 (v := ?_) (by kernel_rfl) rfl (fun _ _ _ h => h) hSd (by rfl) ?_ ?_; rotate_left; (focus (intro w; go_simp; try with_reducible rfl)); (try simp only [Act.put]); (try simp only [List.setIfInBounds_toArray, List.set_cons_zero, List.set_cons_succ])
  refine wpAnyN_free 3 (v := ?_) (by kernel_rfl) rfl (fun _ _ _ h => h) hSd (by rfl) ?_ ?_; rotate_left; (focus (intro w; go_simp; try with_reducible rfl)); (try simp only [Act.put]); (try simp only [List.setIfInBounds_toArray, List.set_cons_zero, List.set_cons_succ])
  refine wpAnyN_take 4 (v := ?_) (by kernel_rfl) rfl (fun _ _ _ h => h) hSd (by rfl) ?_ ?_; rotate_left; (focus (intro w hSw; (try dsimp only at hSw); go_simp; try with_reducible rfl)); (try simp only [Act.put]); (try simp only [List.setIfInBounds_toArray, List.set_cons_zero, List.set_cons_succ])
  refine wpAnyN_free 5 (v := ?_) (by kernel_rfl) rfl (fun _ _ _ h => h) hSd (by rfl) ?_ ?_; rotate_left; (focus (intro w; go_simp; try with_reducible rfl)); (try simp only [Act.put]); (try simp only [List.setIfInBounds_toArray, List.set_cons_zero, List.set_cons_succ])
  refine wpAnyN_take 6 (v := ?_) (by kernel_rfl) rfl (fun _ _ _ h => h) hSd (by rfl) ?_ ?_; rotate_left; (focus (intro w hSw; (try dsimp only at hSw); go_simp; try with_reducible rfl)); (try simp only [Act.put]); (try simp only [List.setIfInBounds_toArray, List.set_cons_zero, List.set_cons_succ])
  refine wpAnyN_free 7 (v := ?_) (by kernel_rfl) rfl (fun _ _ _ h => h) hSd (by rfl) ?_ ?_; rotate_left; (focus (intro w; go_simp; try with_reducible rfl)); (try simp only [Act.put]); (try simp only [List.setIfInBounds_toArray, List.set_cons_zero, List.set_cons_succ])
  refine wpAnyN_take 8 (v := ?_) (by kernel_rfl) rfl (fun _ _ _ h => h) hSd (by rfl) ?_ ?_; rotate_left; (focus (intro w hSw; (try dsimp only at hSw); go_simp; try with_reducible rfl)); (try simp only [Act.put]); (try simp only [List.setIfInBounds_toArray, List.set_cons_zero, List.set_cons_succ])
  refine wpAnyN_free 9 (v := ?_) (by kernel_rfl) rfl (fun _ _ _ h => h) hSd (by rfl) ?_ ?_; rotate_left; (focus (intro w; go_simp; try with_reducible rfl)); (try simp only [Act.put]); (try simp only [List.setIfInBounds_toArray, List.set_cons_zero, List.set_cons_succ])
  refine wpAnyN_free 10 (v := ?_) (by kernel_rfl) rfl (fun _ _ _ h => h) hSd (by rfl) ?_ ?_; rotate_left; (focus (intro w; go_simp; try with_reducible rfl)); (try simp only [Act.put]); (try simp only [List.setIfInBounds_toArray, List.set_cons_zero, List.set_cons_succ])
  refine wpAnyN_free 11 (v := ?_) (by kernel_rfl) rfl (fun _ _ _ h => h) hSd (by rfl) ?_ ?_; rotate_left; (focus (intro w; go_simp; try with_reducible rfl)); (try simp only [Act.put]); (try simp only [List.setIfInBounds_toArray, List.set_cons_zero, List.set_cons_succ])
  refine wpAnyN_free 12 (v := ?_) (by kernel_rfl) rfl (fun _ _ _ h => h) hSd (by rfl) ?_ ?_; rotate_left; (focus (intro w; go_simp; try with_reducible rfl)); (try simp only [Act.put]); (try simp only [List.setIfInBounds_toArray, List.set_cons_zero, List.set_cons_succ])
  refine wpAnyN_free 13 (v := ?_) (by kernel_rfl) rfl (fun _ _ _ h => h) hSd (by rfl) ?_ ?_; rotate_left; (focus (intro w; go_simp; try with_reducible rfl)); (try simp only [Act.put]); (try simp only [List.setIfInBounds_toArray, List.set_cons_zero, List.set_cons_succ])
  refine wpAnyN_free 14 (v := ?_) (by kernel_rfl) rfl (fun _ _ _ h => h) hSd (by rfl) ?_ ?_; rotate_left; (focus (intro w; go_simp; try with_reducible rfl)); (try simp only [Act.put]); (try simp only [List.setIfInBounds_toArray, List.set_cons_zero, List.set_cons_succ])
  refine wpAnyN_free 15 (v := ?_) (by kernel_rfl) rfl (fun _ _ _ h => h) hSd (by rfl) ?_ ?_; rotate_left; (focus (intro w; go_simp; try with_reducible rfl)); (try simp only [Act.put]); (try simp only [List.setIfInBounds_toArray, List.set_cons_zero, List.set_cons_succ])
  refine wpAnyN_free 16 (v := ?_) (by kernel_rfl) rfl (fun _ _ _ h => h) hSd (by rfl) ?_ ?_; rotate_left; (focus (intro w; go_simp; try with_reducible rfl)); (try simp only [Act.put]); (try simp only [List.setIfInBounds_toArray, List.set_cons_zero, List.set_cons_succ])
  refine wpAnyN_tail (by rfl) (by decide) (by kernel_rfl) (by kernel_rfl) ?_
  simp only [List.drop_succ_cons, List.drop_zero, List.drop_nil]
  obtain ⟨g0, g9, g3, gn⟩ := hSd
  have bG := x5d.blk b4 (fun h => h)
  have f9 : wg.frozen? ⟨r, 9, none⟩ = false := frozen_of_blk bG 9
  have y5 : Ext NoB w4 wg := Hx5.out.trans x5d
  have HbG := Lib.hid bG
  have Hy5 := Lib.hid y5
  have HA4 := Lib.hid (And.intro hA4 (And.intro hF4 hlt4))
  clear bG y5 hA4 hF4 hlt4 b4 m9 mN mM0 mM3 mn3 x5d
  go_wp2_with fail
  have hcv : max (N.committed : Int) (min (c3 : Int) (a : Int)) = ((max N.committed (min c3 a) : Nat) : Int) := by omega
  rw [hcv]
  have xs : Ext (fun b => b = r) wg (wg.setCell ⟨r, 9, none⟩ (.int .i64 (max N.committed (min c3 a) : Nat))) := (Ext.refl (fun b => b = r) wg).setCell (p := ⟨r, 9, none⟩) (.inl rfl) _
  have bh := blk_setCell HbG.out 9 (.int .i64 (max N.committed (min c3 a) : Nat))
  generalize (wg.setCell ⟨r, 9, none⟩ (.int .i64 (max N.committed (min c3 a) : Nat))) = wh at xs bh ⊢
  replace bh : wh.heap[r]? = some (.cells (nodeArr (N.beat fr draw c3 a) d L4 tv4) 92 (0, 0)) := bh
  obtain ⟨hA4, hF4, hlt4⟩ := HA4.out
  have x4h : Ext (fun b => b = r) w4 wh := (Hy5.out.of_no).trans xs
  have hNh : NodeIs wh r d F (N.beat fr draw c3 a) D3 ps3 := ⟨L4, FD4, FL4, FR4, tv4, dl4, hA4.set x4h bh rfl ⟨hi1, hi2⟩ (by show max N.committed (min c3 a) ≤ N.log.length; omega), hF4, fun b hb => Nat.lt_of_lt_of_le (hlt4 b hb) x4h.size⟩
  have uN := xs.cell g0 hrBN.1
  have uM := xs.cell (p := ⟨BN + 1, 0, none⟩) (v := .int .i64 fr) (by
    exact Hy5.out.cell Hk0.out (fun h => h)) hrBN.2
  have hans := answer_any r BN (BN + 1) L4 d tv4 (N.beat fr draw c3 a) fr 1 a wh bh uN uM
  have Hans := Lib.hid hans
  have HNh := Lib.hid hNh
  have Hx4h := Lib.hid x4h
  clear hans hNh x4h xs bh uN uM hA4 hF4 hlt4 hcv
  refine Hans.out.mono ?_; rintro e w6 ⟨v, rfl, hm, hf, x6⟩
  obtain ⟨ms, hms, hown⟩ := hm
  obtain ⟨va, vn, vc, rfl, _⟩ := hown.rd
  have Hm := Lib.hid hms
  have Ho := Lib.hid hown
  have Hf := Lib.hid hf
  have Hx6 := Lib.hid x6
  clear hms hown hf x6
  go_wp2_with fail
  go_ret
  have xF : Ext F w w6 := ((((Hx02.out.of_no).trans Hx3F.out).trans Hx4.out).trans (Hx4h.out.mono (fun b _ h => h ▸ hrF))).nextNo Hx6.out
  have s1 := Hx02.out.size
  have s2 := Hx3F.out.size
  have s3 := Hx4.out.size
  have s4 := Hx4h.out.size
  refine ⟨_, rfl, ⟨ms, Hm.out, Ho.out⟩, fun g hg => by have := Hf.out g hg; omega, xF, ?_⟩
  have hR : RaftIs w6 r d F (N.beat fr draw c3 a) room saved := ⟨⟨D3, ps3, HNh.out.no Hx6.out, Hp3.out.1, Hp3.out.2⟩, H.out.fresh, H.out.vote, H.out.term⟩
  exact hR.wide (fun b hb => .inl hb) (fun b hb => hb.elim (hR.lt b) (fun h => h.2))
end Go.Proofs.YtgglbholbkdgfaaGreatDoor
