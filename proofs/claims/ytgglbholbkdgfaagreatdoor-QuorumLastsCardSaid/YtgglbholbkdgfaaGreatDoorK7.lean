/- Joined texts: B31 B32 B33 B34 B35 B36 B37. Each has its own head. -/
import Derived.Test.YtgglbholbkdgfaaGreatDoorK6
set_option linter.unusedVariables false
set_option linter.unusedSimpArgs false
namespace Go.Proofs.YtgglbholbkdgfaaGreatDoor
open Go.RowKit
theorem zeroMsg (w : World) : (zeroValue 37).run Tryz.prog w = .ok (.agg #[.int .i64 0, .int .i64 0, .int .i64 0, .slice none 0 0, .slice none 0 0]) w := by kernel_rfl
def msgV (fr tt kd : Int) (nums data : Value) : Value := .agg #[.int .i64 fr, .int .i64 tt, .int .i64 kd, nums, data]
set_option maxRecDepth 100000 in
set_option maxHeartbeats 400000 in
theorem msg_any (r : Nat) (id tt kd : Int) (a b : Option Addr) (n c n' c' : Nat) (w : World) (h : w.cell? ⟨r, 0, none⟩ = some (.int .i64 id)) :
  Calls Tryz.prog 79 #[.pointer (some ⟨r, 0, none⟩), .int .i64 tt, .int .i64 kd, .slice a n c, .slice b n' c'] w fun e w' => e = .returned (msgV id tt kd (.slice b n' c') (.slice a n c)) ∧ Ext NoB w w' := by
 have hz := zeroMsg
 have h' := World.block_lt_of_cell? w _ h
 go_enter Tryz.func79, Tryz.ntmps79
 go_wp2_with fail
 go_returns
 exact ⟨rfl, (Ext.refl _ w).alloc _⟩
def AskEnds (N : PNode) (tm tt : Int) (w : World) (e : Ending) (w' : World) : Prop :=
 ∃ v, e = .returned (msgV N.id tt 1 v (.slice none 0 0)) ∧ Own w' 3 1 v [.int .i64 N.term, .int .i64 N.log.length, .int .i64 tm] ∧ Fresh w v ∧ Ext NoB w w'
set_option maxRecDepth 100000 in
set_option maxHeartbeats 2000000 in
theorem ask_any (r d BN BT : Nat) (F : Nat → Prop) (N : PNode) (D : PDisk) (ps : List PSeg) (tm tt : Int) (w : World) (h : NodeIs w r d F N D ps) (hN : w.cell? ⟨BN, 0, none⟩ = some (.pointer (some ⟨r, 0, none⟩))) (hT : w.cell? ⟨BT, 0, none⟩ = some (.int .i64 tm)) :
  Calls Tryz.prog 82 #[.int .i64 tt, .pointer (some ⟨BN, 0, none⟩), .pointer (some ⟨BT, 0, none⟩)] w (AskEnds N tm tt w) := by
 have hz := zeroMsg
 have hlast := Lib.hid (fun (w' : World) (x : Ext NoB w w') => rlast_any r d F N D ps w' (h.no x))
 obtain ⟨L, FD, FL, FR, tv, dl, h, _⟩ := h
 have c0 : w.cell? ⟨r, 0, none⟩ = some (.int .i64 N.id) := by rw [cell_of_blk h.blk]; rfl
 have c5 : w.cell? ⟨r, 5, none⟩ = some (.int .i64 N.term) := by rw [cell_of_blk h.blk]; rfl
 clear h
 go_enter Tryz.func82, Tryz.ntmps82
 go_wp2_with fail
 obtain ⟨w1, R, e1, e2, x1, b1, hs1⟩ := alloc_facts w (.cells #[.int .i64 0, .int .i64 0, .int .i64 0, .slice none 0 0, .slice none 0 0] 37)
 rw [e1, e2]
 have d0 := x1.cell hN (fun h => h)
 have d1 := x1.cell c5 (fun h => h)
 have d2 := x1.cell hT (fun h => h)
 refine wp_region_N (fun w' => w'.cell? ⟨BN, 0, none⟩ = some (.pointer (some ⟨r, 0, none⟩)) ∧ w'.cell? ⟨r, 5, none⟩ = some (.int .i64 N.term) ∧ w'.cell? ⟨BT, 0, none⟩ = some (.int .i64 tm)) 11 (by kernel_rfl) ?_
 have hSd : w1.drew.cell? ⟨BN, 0, none⟩ = some (.pointer (some ⟨r, 0, none⟩)) ∧ w1.drew.cell? ⟨r, 5, none⟩ = some (.int .i64 N.term) ∧ w1.drew.cell? ⟨BT, 0, none⟩ = some (.int .i64 tm) := ⟨d0, d1, d2⟩
 have x1d : Ext NoB w w1.drew := x1.drew
 have b1d : w1.drew.heap[R]? = some (.cells #[.int .i64 0, .int .i64 0, .int .i64 0, .slice none 0 0, .slice none 0 0] 37 (0, 0)) := b1
 generalize w1.drew = wd at hSd x1d b1d ⊢
 refine wpAnyN_take 0 (v := ?_) (by kernel_rfl) rfl (fun _ _ _ h => h) hSd (by rfl) ?_ ?_; rotate_left; (focus (intro w hSw; (try dsimp only at hSw); go_simp; try with_reducible rfl)); (try simp only [Act.put]); (try simp only [List.setIfInBounds_toArray, List.set_cons_zero, List.set_cons_succ])
 refine wpAnyN_free 1 (v := ?_) (by kernel_rfl) rfl (fun _ _ _ h => h) hSd (by rfl) ?_ ?_; rotate_left; (focus (intro w; go_simp; try with_reducible rfl)); (try simp only [Act.put]); (try simp only [List.setIfInBounds_toArray, List.set_cons_zero, List.set_cons_succ])
 refine wpAnyN_take 2 (v := ?_) (by kernel_rfl) rfl (fun _ _ _ h => h) hSd (by rfl) ?_ ?_; rotate_left; (focus (intro w hSw; (try dsimp only at hSw); go_simp; try with_reducible rfl)); (try simp only [Act.put]); (try simp only [List.setIfInBounds_toArray, List.set_cons_zero, List.set_cons_succ])
 refine wpAnyN_free 3 (v := ?_) (by kernel_rfl) rfl (fun _ _ _ h => h) hSd (by rfl) ?_ ?_; rotate_left; (focus (intro w; go_simp; try with_reducible rfl)); (try simp only [Act.put]); (try simp only [List.setIfInBounds_toArray, List.set_cons_zero, List.set_cons_succ])
 refine wpAnyN_free 4 (v := ?_) (by kernel_rfl) rfl (fun _ _ _ h => h) hSd (by rfl) ?_ ?_; rotate_left; (focus (intro w; go_simp; try with_reducible rfl)); (try simp only [Act.put]); (try simp only [List.setIfInBounds_toArray, List.set_cons_zero, List.set_cons_succ])
 refine wpAnyN_take 5 (v := ?_) (by kernel_rfl) rfl (fun _ _ _ h => h) hSd (by rfl) ?_ ?_; rotate_left; (focus (intro w hSw; (try dsimp only at hSw); go_simp; try with_reducible rfl)); (try simp only [Act.put]); (try simp only [List.setIfInBounds_toArray, List.set_cons_zero, List.set_cons_succ])
 refine wpAnyN_take 6 (v := ?_) (by kernel_rfl) rfl (fun _ _ _ h => h) hSd (by rfl) ?_ ?_; rotate_left; (focus (intro w hSw; (try dsimp only at hSw); go_simp; try with_reducible rfl)); (try simp only [Act.put]); (try simp only [List.setIfInBounds_toArray, List.set_cons_zero, List.set_cons_succ])
 refine wpAnyN_take 8 (v := ?_) (by kernel_rfl) rfl (fun _ _ _ h => h) hSd (by rfl) ?_ ?_; rotate_left; (focus (intro w hSw; (try dsimp only at hSw); go_simp; try with_reducible rfl)); (try simp only [Act.put]); (try simp only [List.setIfInBounds_toArray, List.set_cons_zero, List.set_cons_succ])
 refine wpAnyN_one 7 (by kernel_rfl) (by simp only [List.getElem?_toArray, List.getElem?_cons_succ, List.getElem?_cons_zero] <;> rfl) (by rfl) (fun K hK => ?_)
 go_simp
 refine (hlast.out wd x1d).mono ?_; rintro e w2 ⟨rfl, rfl⟩
 go_wp2_with fail
 refine hK.out _ _ hSd (fun hSd => ?_)
 clear hK K
 (try simp only [Act.put]); (try simp only [List.setIfInBounds_toArray, List.set_cons_zero, List.set_cons_succ])
 refine wpAnyN_one 9 (by kernel_rfl) (by simp only [List.getElem?_toArray, List.getElem?_cons_succ, List.getElem?_cons_zero] <;> rfl) (by rfl) (fun K hK => ?_)
 go_simp
 obtain ⟨w3, B, e3, e4, x3, b3, hs3⟩ := alloc_facts wd (.cells #[.int .i64 N.term, .int .i64 N.log.length, .int .i64 tm] 3)
 rw [e3, e4]
 have hSd3 := And.intro (x3.cell hSd.1 (fun h => h)) (And.intro (x3.cell hSd.2.1 (fun h => h)) (x3.cell hSd.2.2 (fun h => h)))
 refine hK.out _ _ hSd3 (fun hSd => ?_)
 clear hK K hSd
 have hSd := hSd3
 (try simp only [Act.put]); (try simp only [List.setIfInBounds_toArray, List.set_cons_zero, List.set_cons_succ])
 refine wpAnyN_one 10 (by kernel_rfl) (by simp only [List.getElem?_toArray, List.getElem?_cons_succ, List.getElem?_cons_zero] <;> rfl) (by rfl) (fun K hK => ?_)
 go_simp
 have y3 : Ext NoB w w3 := x1d.trans x3
 refine (msg_any r N.id tt 1 none (some ⟨B, 0, none⟩) 0 0 3 3 w3 (y3.cell c0 (fun h => h))).mono ?_; rintro e w4 ⟨rfl, x4⟩
 have hSd4 := And.intro (x4.cell hSd.1 (fun h => h)) (And.intro (x4.cell hSd.2.1 (fun h => h)) (x4.cell hSd.2.2 (fun h => h)))
 unfold msgV
 go_wp2_with fail
 refine hK.out _ _ hSd4 (fun hSd => ?_)
 clear hK K hSd hSd4 hSd3
 (try simp only [Act.put]); (try simp only [List.setIfInBounds_toArray, List.set_cons_zero, List.set_cons_succ])
 refine wpAnyN_tail (by rfl) (by decide) (by kernel_rfl) (by kernel_rfl) ?_
 simp only [List.drop_succ_cons, List.drop_zero]
 have bR : w4.heap[R]? = some (.cells #[.int .i64 0, .int .i64 0, .int .i64 0, .slice none 0 0, .slice none 0 0] 37 (0, 0)) := x4.blk (x3.blk b1d (fun h => h)) (fun h => h)
 have r0 : w4.cell? ⟨R, 0, none⟩ = some (.int .i64 0) := by rw [cell_of_blk bR]; rfl
 have r1 : w4.cell? ⟨R, 1, none⟩ = some (.int .i64 0) := by rw [cell_of_blk bR]; rfl
 have r2 : w4.cell? ⟨R, 2, none⟩ = some (.int .i64 0) := by rw [cell_of_blk bR]; rfl
 have r3 : w4.cell? ⟨R, 3, none⟩ = some (.slice none 0 0) := by rw [cell_of_blk bR]; rfl
 have r4 : w4.cell? ⟨R, 4, none⟩ = some (.slice none 0 0) := by rw [cell_of_blk bR]; rfl
 have q0 : ∀ o, w4.frozen? ⟨R, o, none⟩ = false := fun o => frozen_of_blk bR o
 go_wp2_with fail
 have kR := blk_setCell (blk_setCell (blk_setCell (blk_setCell (blk_setCell bR 0 (.int .i64 N.id)) 1 (.int .i64 tt)) 2 (.int .i64 1)) 3 (.slice (some ⟨B, 0, none⟩) 3 3)) 4 (.slice none 0 0)
 have xS : Ext (fun b => b = R) w4 (((((w4.setCell ⟨R, 0, none⟩ (.int .i64 N.id)).setCell ⟨R, 1, none⟩ (.int .i64 tt)).setCell ⟨R, 2, none⟩ (.int .i64 1)).setCell ⟨R, 3, none⟩ (.slice (some ⟨B, 0, none⟩) 3 3)).setCell ⟨R, 4, none⟩ (.slice none 0 0)) := (((((Ext.refl (fun b => b = R) w4).setCell (p := ⟨R, 0, none⟩) (.inl rfl) _).setCell (p := ⟨R, 1, none⟩) (.inl rfl) _).setCell (p := ⟨R, 2, none⟩) (.inl rfl) _).setCell (p := ⟨R, 3, none⟩) (.inl rfl) _).setCell (p := ⟨R, 4, none⟩) (.inl rfl) _
 generalize (((((w4.setCell ⟨R, 0, none⟩ (.int .i64 N.id)).setCell ⟨R, 1, none⟩ (.int .i64 tt)).setCell ⟨R, 2, none⟩ (.int .i64 1)).setCell ⟨R, 3, none⟩ (.slice (some ⟨B, 0, none⟩) 3 3)).setCell ⟨R, 4, none⟩ (.slice none 0 0)) = wF at kR xS ⊢
 have hBR : B ≠ R := by have := lt_of_blk b1d; omega
 have b3F := xS.blk (x4.blk b3 (fun h => h)) hBR
 have xF : Ext NoB w wF := by
  refine (y3.trans x4).trans' xS (fun _ _ h => h) (fun b hb h => ?_)
  subst h
  omega
 refine bodyPost_ret (results_cell_row rfl _ _ R _ #[.int .i64 N.id, .int .i64 tt, .int .i64 1, .slice (some ⟨B, 0, none⟩) 3 3, .slice none 0 0] _ _ rfl kR Tryz.underlying37 rfl (by kernel_rfl)) rfl ⟨_, rfl, .inr ⟨B, 3, 3, _, rfl, b3F, Nat.le_refl _, Nat.le_refl _, by unfold maxLen; omega, rfl, rfl⟩, fun g hg => ?_, xF⟩
 simp [Value.ownBlock] at hg
 have := x1d.size
 omega
end Go.Proofs.YtgglbholbkdgfaaGreatDoor
namespace Go.Proofs.YtgglbholbkdgfaaGreatDoor
open Go.RowKit
theorem unMsgs : Tryz.prog.underlying 30 = some (.slice 37) := Tryz.underlying30
theorem elMsg : ElemT Tryz.prog 37 5 72 := ElemT.of (z := .agg #[.int .i64 0, .int .i64 0, .int .i64 0, .slice none 0 0, .slice none 0 0]) (by kernel_rfl) rfl (by decide)
theorem Src.row {P : Program} {w : World} {tx e' : Nat} (hk : P.underlying tx = some (.slice e')) (b size : Nat) (cs : List Value) (t : TypeId) (fr : Nat × Nat) (hb : w.heap[b]? = some (.cells cs.toArray t fr)) (hl : cs.length = size) (h1 : ∀ u ∈ cs, u.oneCell' = true) : Src P size tx (.slice (some ⟨b, 0, none⟩) 1 1) 1 cs w := by
 refine Src.ofSlice w hk _ 1 1 cs (by omega) (fun j u hu => ?_) h1
 rw [Addr.add_lit, Nat.zero_add, cell_of_blk hb]
 simpa using hu
structure PMsg where
 fr : Int
 tt : Int
 kd : Int
 nums : List Int
 data : List UInt8
def MsgIs (w : World) (m : List Value) (M : PMsg) : Prop := ∃ nv dv, m = [.int .i64 M.fr, .int .i64 M.tt, .int .i64 M.kd, nv, dv] ∧ Own w 3 1 nv (intsV M.nums) ∧ Own w 5 1 dv (bytesV M.data)
theorem MsgIs.ext {w w' : World} {G : Nat → Prop} {m : List Value} {M : PMsg} (h : MsgIs w m M) (x : Ext G w w') (hG : ∀ g, G g → g < w.heap.size → ∃ cs fr, w.heap[g]? = some (.cells cs 37 fr)) : MsgIs w' m M := by
 obtain ⟨nv, dv, rfl, h1, h2⟩ := h
 refine ⟨nv, dv, rfl, h1.ext x (fun g hg hb => ?_), h2.ext x (fun g hg hb => ?_)⟩
 ·obtain ⟨cs, fr, hb⟩ := hG g hb (h1.lt g hg)
  exact h1.ne_blk hb (by decide) g hg rfl
 ·obtain ⟨cs, fr, hb⟩ := hG g hb (h2.lt g hg)
  exact h2.ne_blk hb (by decide) g hg rfl
theorem MsgIs.one {w : World} {m : List Value} {M : PMsg} (h : MsgIs w m M) : m.length = 5 ∧ ∀ u ∈ m, u.oneCell' = true := by
 obtain ⟨nv, dv, rfl, h1, h2⟩ := h
 obtain ⟨a, n, c, rfl, _⟩ := h1.rd
 obtain ⟨a', n', c', rfl, _⟩ := h2.rd
 exact ⟨rfl, by simp [Value.oneCell']⟩
inductive MsgRows (w : World) : List (List Value) → List PMsg → Prop
 | nil : MsgRows w [] []
 | snoc {ms : List (List Value)} {Ms : List PMsg} {m : List Value} {M : PMsg} : MsgRows w ms Ms → MsgIs w m M → MsgRows w (ms ++ [m]) (Ms ++ [M])
theorem MsgRows.ext {w w' : World} {G : Nat → Prop} {ms : List (List Value)} {Ms : List PMsg} (h : MsgRows w ms Ms) (x : Ext G w w') (hG : ∀ g, G g → g < w.heap.size → ∃ cs fr, w.heap[g]? = some (.cells cs 37 fr)) : MsgRows w' ms Ms := by
 induction h with
 | nil => exact .nil
 | snoc _ h2 ih => exact .snoc ih (h2.ext x hG)
theorem MsgRows.len {w : World} {ms : List (List Value)} {Ms : List PMsg} (h : MsgRows w ms Ms) : ms.flatten.length = Ms.length * 5 := by
 induction h with
 | nil => rfl
 | snoc _ h2 ih => simp only [List.flatten_append, List.length_append, ih, List.flatten_cons, List.flatten_nil, List.append_nil, h2.one.1, List.length_cons, List.length_nil]; omega
def MsgsAre (w : World) (v : Value) (Ms : List PMsg) : Prop := ∃ ms, MsgRows w ms Ms ∧ Own w 37 5 v ms.flatten
theorem own_type {w : World} {e s : Nat} {v : Value} {xs : List Value} (h : Own w e s v xs) : ∀ g, v.ownBlock = some g → ∃ cs fr, w.heap[g]? = some (.cells cs e fr) := by
 intro g hg
 rcases h with ⟨rfl, _⟩ | ⟨g', n, cap, cur, rfl, hb, _⟩
 ·cases hg
 ·simp [Value.ownBlock] at hg; subst hg; exact ⟨_, _, hb⟩
def tos (k id : Nat) : List Nat := (List.range k).filter (fun i => decide (i ≠ id))
theorem tos_succ (k id : Nat) : tos (k + 1) id = tos k id ++ (if k = id then [] else [k]) := by
 unfold tos
 rw [List.range_succ, List.filter_append]
 by_cases h : k = id <;> simp [h]
theorem tos_len (k id : Nat) : (tos k id).length ≤ k := by unfold tos; exact Nat.le_trans (List.length_filter_le _ _) (by simp)
def Many (mk : Nat → PMsg) (ts : List Nat) (w : World) (e : Ending) (w' : World) : Prop :=
 ∃ v, e = .returned v ∧ MsgsAre w' v (ts.map mk) ∧ Fresh w v ∧ Ext NoB w w'
set_option maxRecDepth 100000 in
set_option maxHeartbeats 4000000 in
theorem others_ask (r d BN BT : Nat) (F : Nat → Prop) (N : PNode) (D : PDisk) (ps : List PSeg) (w : World) (h : NodeIs w r d F N D ps) (mk : Nat → PMsg)
  (hf : ∀ (t : Nat) (w1 : World), Ext NoB w w1 → Calls Tryz.prog 82 #[.int .i64 t, .pointer (some ⟨BN, 0, none⟩), .pointer (some ⟨BT, 0, none⟩)] w1 fun e w2 => ∃ m, e = .returned (.agg m.toArray) ∧ Ext NoB w1 w2 ∧ MsgIs w2 m (mk t)) :
  Calls Tryz.prog 42 #[.pointer (some ⟨r, 0, none⟩), .func (.func 82) #[] #[.pointer (some ⟨BN, 0, none⟩), .pointer (some ⟨BT, 0, none⟩)]] w (Many mk (tos N.n N.id) w) := by
 obtain ⟨L, FD, FL, FR, tv, dl, h, _⟩ := h
 have c0 : w.cell? ⟨r, 0, none⟩ = some (.int .i64 N.id) := by rw [cell_of_blk h.blk]; rfl
 have c1 : w.cell? ⟨r, 1, none⟩ = some (.int .i64 N.n) := by rw [cell_of_blk h.blk]; rfl
 have hn5 := h.idn.2
 have Hf := Lib.hid hf
 obtain ⟨n, hn⟩ : ∃ n, N.n = n := ⟨_, rfl⟩
 obtain ⟨id, hid⟩ : ∃ id, N.id = id := ⟨_, rfl⟩
 rw [hn] at c1 hn5 ⊢
 rw [hid] at c0 ⊢
 clear h hf hn hid
 go_enter Tryz.func42, Tryz.ntmps42
 go_wp2_with fail
 go_loopw [5, 11] (fun v i wr => ∃ (k : Nat), i = .int .i64 k ∧ k ≤ n ∧ Hid (MsgsAre wr v ((tos k id).map mk)) ∧ Fresh w v ∧ Ext NoB w wr) (fun _ i _ => n - (intOf i).toNat)
 case atStart => exact ⟨0, rfl, by omega, Lib.hid ⟨[], .nil, Own.nil _ _ _⟩, Fresh.nil _ _ _, Ext.refl _ _⟩
 case round =>
  obtain ⟨k, rfl, hkn, HM, hfr, hx⟩ := hrel
  obtain ⟨ms, hms, hown⟩ := HM.out
  have hlen5 := hms.len
  obtain ⟨va, vn, vc, rfl, hvl, _, _, _, _⟩ := hown.rd
  have c0r := hx.cell c0 (fun h => h)
  by_cases hlt : k < n
  ·by_cases hki : k = id
   ·subst hki
    go_wp2_with fail
    go_roundw
    case rel => exact ⟨k + 1, by go_num, by omega, by rw [tos_succ, if_pos rfl, List.append_nil]; exact HM, hfr, hx⟩
    case measure => simp [intOf]; omega
   ·have hneq : ((k : Int) == (id : Int)) = false := beq_eq_false_iff_ne.2 (by omega)
    have HO := Lib.hid hown
    have HMs := Lib.hid hms
    have Hfr := Lib.hid hfr
    have Hx := Lib.hid hx
    have Hl5 := Lib.hid hlen5
    clear hown hms hfr hlen5 HM hvl
    go_wp2_with fail
    refine (Hf.out k _ Hx.out).mono ?_; rintro e w2 ⟨m, rfl, x2, m2⟩
    obtain ⟨nv, dv, rfl, on, od⟩ := m2
    have hm2 : MsgIs w2 [.int .i64 (mk k).fr, .int .i64 (mk k).tt, .int .i64 (mk k).kd, nv, dv] (mk k) := ⟨nv, dv, rfl, on, od⟩
    have hone := hm2.one.2
    have HM2 := Lib.hid hm2
    have Hone := Lib.hid hone
    clear on od hm2 hone
    have xA : Ext NoB w2 (w2.alloc (.cells #[.int .i64 (mk k).fr, .int .i64 (mk k).tt, .int .i64 (mk k).kd, nv, dv] 37)) := (Ext.refl _ w2).alloc _
    have hsrc := Src.row (P := Tryz.prog) unMsgs w2.heap.size 5 [.int .i64 (mk k).fr, .int .i64 (mk k).tt, .int .i64 (mk k).kd, nv, dv] 37 (0, 0) (blk_new w2 (.cells #[.int .i64 (mk k).fr, .int .i64 (mk k).tt, .int .i64 (mk k).kd, nv, dv] 37)) rfl Hone.out
    have Hsrc := Lib.hid hsrc
    have HoA := Lib.hid ((HO.out.no x2).no xA)
    have hbd : (ms.flatten.length + [Value.int .i64 (mk k).fr, .int .i64 (mk k).tt, .int .i64 (mk k).kd, nv, dv].length) * 72 ≤ 140737488355328 := by
     have := Hl5.out
     have h5 := tos_len k id
     simp only [List.length_map] at this
     rw [this]
     simp only [List.length_cons, List.length_nil]
     omega
    have Hbd := Lib.hid hbd
    clear hsrc hbd
    go_wp2_with (at_builtin; refine wpList_app _ rfl (.tmp 20) (.tmp 24) 30 30 rfl 37 5 72 unMsgs elMsg HoA.out Hsrc.out rfl rfl Hbd.out (by decide) ?_; intro v' w' o' x' h'; refine halt2 (fun _K HK => ?_))
    have xm : Ext (fun g => (Value.slice va vn vc).ownBlock = some g) w2 w' := (xA.of_no).trans x'
    have hty : ∀ g, (Value.slice va vn vc).ownBlock = some g → g < w2.heap.size → ∃ cs fr, w2.heap[g]? = some (.cells cs 37 fr) := fun g hg _ => own_type (HO.out.no x2) g hg
    have hrows : MsgRows w' (ms ++ [[.int .i64 (mk k).fr, .int .i64 (mk k).tt, .int .i64 (mk k).kd, nv, dv]]) ((tos (k + 1) id).map mk) := by
     rw [tos_succ, if_neg hki, List.map_append]
     exact .snoc ((HMs.out.ext x2 (fun _ h _ => h.elim)).ext xm hty) (HM2.out.ext xm hty)
    have hnew : MsgsAre w' v' ((tos (k + 1) id).map mk) := ⟨_, hrows, by rw [List.flatten_append, List.flatten_cons, List.flatten_nil, List.append_nil]; exact o'⟩
    have hx' : Ext NoB w w' := Hfr.out.ext (Hx.out.trans x2) xm
    have hf' : Fresh w v' := Hfr.out.app (Nat.le_trans (Hx.out.trans x2).size xA.size) h'
    obtain ⟨a', n', c', rfl, _⟩ := o'.rd
    have Hnew := Lib.hid hnew
    have Hx' := Lib.hid hx'
    have Hf' := Lib.hid hf'
    clear hnew hrows hx' hf' o' x' h' xm hty
    refine HK.out ?_; clear HK _K
    go_wp2_with fail
    go_roundw
    case rel => exact ⟨k + 1, by go_num, by omega, Hnew, Hf'.out, Hx'.out⟩
    case measure => simp [intOf]; omega
  ·obtain rfl : k = n := by omega
   go_wp2_with fail
   go_ret
   exact ⟨_, rfl, ⟨ms, hms, hown⟩, hfr, hx⟩
end Go.Proofs.YtgglbholbkdgfaaGreatDoor
namespace Go.Proofs.YtgglbholbkdgfaaGreatDoor
open Go.RowKit
set_option maxRecDepth 100000 in
set_option maxHeartbeats 4000000 in
theorem others_send (r d : Nat) (F : Nat → Prop) (N : PNode) (D : PDisk) (ps : List PSeg) (w : World) (h : NodeIs w r d F N D ps) (mk : Nat → PMsg)
  (hf : ∀ (t : Nat) (w1 : World), t < N.n → t ≠ N.id → Ext NoB w w1 → Calls Tryz.prog 43 #[.pointer (some ⟨r, 0, none⟩), .int .i64 t] w1 fun e w2 => ∃ m, e = .returned (.agg m.toArray) ∧ Ext NoB w1 w2 ∧ MsgIs w2 m (mk t)) :
  Calls Tryz.prog 42 #[.pointer (some ⟨r, 0, none⟩), .func (.func 43) #[.pointer (some ⟨r, 0, none⟩)] #[]] w (Many mk (tos N.n N.id) w) := by
 obtain ⟨L, FD, FL, FR, tv, dl, h, _⟩ := h
 have c0 : w.cell? ⟨r, 0, none⟩ = some (.int .i64 N.id) := by rw [cell_of_blk h.blk]; rfl
 have c1 : w.cell? ⟨r, 1, none⟩ = some (.int .i64 N.n) := by rw [cell_of_blk h.blk]; rfl
 have hn5 := h.idn.2
 obtain ⟨n, hn⟩ : ∃ n, N.n = n := ⟨_, rfl⟩
 obtain ⟨id, hid⟩ : ∃ id, N.id = id := ⟨_, rfl⟩
 rw [hn] at c1 hn5 hf ⊢
 rw [hid] at c0 hf ⊢
 have Hf := Lib.hid hf
 clear h hf hn hid
 go_enter Tryz.func42, Tryz.ntmps42
 go_wp2_with fail
 go_loopw [5, 11] (fun v i wr => ∃ (k : Nat), i = .int .i64 k ∧ k ≤ n ∧ Hid (MsgsAre wr v ((tos k id).map mk)) ∧ Fresh w v ∧ Ext NoB w wr) (fun _ i _ => n - (intOf i).toNat)
 case atStart => exact ⟨0, rfl, by omega, Lib.hid ⟨[], .nil, Own.nil _ _ _⟩, Fresh.nil _ _ _, Ext.refl _ _⟩
 case round =>
  obtain ⟨k, rfl, hkn, HM, hfr, hx⟩ := hrel
  obtain ⟨ms, hms, hown⟩ := HM.out
  have hlen5 := hms.len
  obtain ⟨va, vn, vc, rfl, hvl, _, _, _, _⟩ := hown.rd
  have c0r := hx.cell c0 (fun h => h)
  by_cases hlt : k < n
  ·by_cases hki : k = id
   ·subst hki
    go_wp2_with fail
    go_roundw
    case rel => exact ⟨k + 1, by go_num, by omega, by rw [tos_succ, if_pos rfl, List.append_nil]; exact HM, hfr, hx⟩
    case measure => simp [intOf]; omega
   ·have hneq : ((k : Int) == (id : Int)) = false := beq_eq_false_iff_ne.2 (by omega)
    have HO := Lib.hid hown
    have HMs := Lib.hid hms
    have Hfr := Lib.hid hfr
    have Hx := Lib.hid hx
    have Hl5 := Lib.hid hlen5
    clear hown hms hfr hlen5 HM hvl
    go_wp2_with fail
    refine (Hf.out k _ hlt hki Hx.out).mono ?_; rintro e w2 ⟨m, rfl, x2, m2⟩
    obtain ⟨nv, dv, rfl, on, od⟩ := m2
    have hm2 : MsgIs w2 [.int .i64 (mk k).fr, .int .i64 (mk k).tt, .int .i64 (mk k).kd, nv, dv] (mk k) := ⟨nv, dv, rfl, on, od⟩
    have hone := hm2.one.2
    have HM2 := Lib.hid hm2
    have Hone := Lib.hid hone
    clear on od hm2 hone
    have xA : Ext NoB w2 (w2.alloc (.cells #[.int .i64 (mk k).fr, .int .i64 (mk k).tt, .int .i64 (mk k).kd, nv, dv] 37)) := (Ext.refl _ w2).alloc _
    have hsrc := Src.row (P := Tryz.prog) unMsgs w2.heap.size 5 [.int .i64 (mk k).fr, .int .i64 (mk k).tt, .int .i64 (mk k).kd, nv, dv] 37 (0, 0) (blk_new w2 (.cells #[.int .i64 (mk k).fr, .int .i64 (mk k).tt, .int .i64 (mk k).kd, nv, dv] 37)) rfl Hone.out
    have Hsrc := Lib.hid hsrc
    have HoA := Lib.hid ((HO.out.no x2).no xA)
    have hbd : (ms.flatten.length + [Value.int .i64 (mk k).fr, .int .i64 (mk k).tt, .int .i64 (mk k).kd, nv, dv].length) * 72 ≤ 140737488355328 := by
     have := Hl5.out
     have h5 := tos_len k id
     simp only [List.length_map] at this
     rw [this]
     simp only [List.length_cons, List.length_nil]
     omega
    have Hbd := Lib.hid hbd
    clear hsrc hbd
    go_wp2_with (at_builtin; refine wpList_app _ rfl (.tmp 20) (.tmp 24) 30 30 rfl 37 5 72 unMsgs elMsg HoA.out Hsrc.out rfl rfl Hbd.out (by decide) ?_; intro v' w' o' x' h'; refine halt2 (fun _K HK => ?_))
    have xm : Ext (fun g => (Value.slice va vn vc).ownBlock = some g) w2 w' := (xA.of_no).trans x'
    have hty : ∀ g, (Value.slice va vn vc).ownBlock = some g → g < w2.heap.size → ∃ cs fr, w2.heap[g]? = some (.cells cs 37 fr) := fun g hg _ => own_type (HO.out.no x2) g hg
    have hrows : MsgRows w' (ms ++ [[.int .i64 (mk k).fr, .int .i64 (mk k).tt, .int .i64 (mk k).kd, nv, dv]]) ((tos (k + 1) id).map mk) := by
     rw [tos_succ, if_neg hki, List.map_append]
     exact .snoc ((HMs.out.ext x2 (fun _ h _ => h.elim)).ext xm hty) (HM2.out.ext xm hty)
    have hnew : MsgsAre w' v' ((tos (k + 1) id).map mk) := ⟨_, hrows, by rw [List.flatten_append, List.flatten_cons, List.flatten_nil, List.append_nil]; exact o'⟩
    have hx' : Ext NoB w w' := Hfr.out.ext (Hx.out.trans x2) xm
    have hf' : Fresh w v' := Hfr.out.app (Nat.le_trans (Hx.out.trans x2).size xA.size) h'
    obtain ⟨a', n', c', rfl, _⟩ := o'.rd
    have Hnew := Lib.hid hnew
    have Hx' := Lib.hid hx'
    have Hf' := Lib.hid hf'
    clear hnew hrows hx' hf' o' x' h' xm hty
    refine HK.out ?_; clear HK _K
    go_wp2_with fail
    go_roundw
    case rel => exact ⟨k + 1, by go_num, by omega, Hnew, Hf'.out, Hx'.out⟩
    case measure => simp [intOf]; omega
  ·obtain rfl : k = n := by omega
   go_wp2_with fail
   go_ret
   exact ⟨_, rfl, ⟨ms, hms, hown⟩, hfr, hx⟩
end Go.Proofs.YtgglbholbkdgfaaGreatDoor
namespace Go.Proofs.YtgglbholbkdgfaaGreatDoor
open Go.RowKit
theorem canon_room {w : World} {r L d : Nat} {FD FL FR : Nat → Prop} {tv : Value} {N : PNode} {D : PDisk} {ps : List PSeg} {dl saved : Bool} (hA : NodeAt w r L d FD FL FR tv N D ps dl) (hperm : D.files.Perm (canon (if saved then some (N.term, N.vote) else none) ps)) :
  usedL D.files ≤ 28 + N.bytes ∧ D.files.length < 256 := by
 have hused := hA.used
 have hcount := hA.count
 constructor
 ·rw [used_perm hperm, ← hused]
  unfold canon
  cases saved with
  | true =>
   simp only [if_true, termFs, List.singleton_append]
   rw [used_cons]
   show (enc _).length + _ ≤ _
   rw [enc_length]
   have := termB_len N.term N.vote
   omega
  | false => simp only [Bool.false_eq_true, if_false, termFs, List.nil_append]; omega
 ·rw [hperm.length_eq]
  unfold canon
  rw [List.length_append]
  have : (termFs (if saved then some (N.term, N.vote) else none)).length ≤ 1 := by cases saved <;> simp [termFs]
  have : (logFs ps).length = ps.length := by simp [logFs]
  omega
end Go.Proofs.YtgglbholbkdgfaaGreatDoor
namespace Go.Proofs.YtgglbholbkdgfaaGreatDoor
open Go.RowKit
theorem ruv_uvF : ∀ (k i n acc : Nat) (tl : List UInt8), i + k = 10 → i ≤ 8 → n < 2 ^ (7 * (9 - i)) → (i = 0 ∨ n ≠ 0) → ruv (uvF k n ++ tl) i acc = (acc + n * 2 ^ (7 * i), i + (uvF k n).length, 0) := by
 intro k
 induction k with
 | zero => intro i n acc tl h1 h2; omega
 | succ k ih =>
  intro i n acc tl h1 h2 h3 h4
  rw [uvF]
  by_cases hn : n < 128
  ·rw [if_pos hn]
   have hc : (UInt8.ofNat n).toNat = n := by rw [UInt8.toNat_ofNat']; omega
   rw [List.singleton_append, ruv, hc, if_neg (by omega), if_neg (by rintro (⟨h, h'⟩ | ⟨h, _⟩) <;> omega)]
   rfl
  ·rw [if_neg hn]
   have hc : (UInt8.ofNat (n % 128 + 128)).toNat = n % 128 + 128 := by rw [UInt8.toNat_ofNat']; omega
   have h8 : i < 8 := by
    rcases Nat.lt_or_ge i 8 with h | h
    ·exact h
    ·have : i = 8 := by omega
     subst this
     simp at h3
     omega
   rw [List.cons_append, ruv, hc, if_pos (by omega), if_neg (by omega)]
   have e1 : 2 ^ (7 * (9 - i)) = 128 * 2 ^ (7 * (9 - (i + 1))) := by
    have : 7 * (9 - i) = 7 + 7 * (9 - (i + 1)) := by omega
    rw [this, Nat.pow_add]
   rw [ih (i + 1) (n / 128) _ tl (by omega) (by omega) (by rw [e1] at h3; exact Nat.div_lt_of_lt_mul h3) (.inr (by omega))]
   have e2 : (n % 128 + 128) % 128 = n % 128 := by omega
   have e3 : 2 ^ (7 * (i + 1)) = 128 * 2 ^ (7 * i) := by rw [show 7 * (i + 1) = 7 + 7 * i by omega, Nat.pow_add]
   rw [e2, e3]
   refine Prod.ext ?_ (Prod.ext ?_ rfl)
   ·show acc + n % 128 * 2 ^ (7 * i) + n / 128 * (128 * 2 ^ (7 * i)) = acc + n * 2 ^ (7 * i)
    rw [← Nat.mul_assoc, Nat.add_assoc, ← Nat.add_mul]
    congr 2
    omega
   ·show i + 1 + _ = i + (_ :: _).length
    simp only [List.length_cons]
    omega
theorem ruv_uv (n : Nat) (tl : List UInt8) (h : n ≤ 1099511627776) : ruv (uv n ++ tl) 0 0 = (n, (uv n).length, 0) := by
 have h2 : (1099511627776 : Nat) < 2 ^ (7 * (9 - 0)) := by decide
 have := ruv_uvF 10 0 n 0 tl rfl (by omega) (Nat.lt_of_le_of_lt h h2) (.inl rfl)
 simpa [uv] using this
set_option maxRecDepth 100000 in
set_option maxHeartbeats 1000000 in
theorem number_ok (X n : Nat) (a : Option Addr) (c : Nat) (bl tl : List UInt8) (w : World) (hb : w.heap[X]? = some (.cells #[.slice a bl.length c, .bool false] 97 (0, 0))) (hr : RdB w (.slice a bl.length c) bl) (he : bl = uv n ++ tl) (hn : n ≤ 1099511627776) (hl : bl.length < 1000000000000) (hlc : bl.length ≤ c) :
  Calls Tryz.prog 37 #[.pointer (some ⟨X, 0, none⟩)] w fun e w' => e = .returned (.int .i64 n) ∧ Ext (fun b => b = X) w w' ∧
   w'.heap[X]? = some (.cells #[.slice (subA a (uv n).length c) (bl.length - (uv n).length) (c - (uv n).length), .bool false] 97 (0, 0)) := by
 have c0 : w.cell? ⟨X, 0, none⟩ = some (.slice a bl.length c) := by rw [cell_of_blk hb]; rfl
 have c1 : w.cell? ⟨X, 1, none⟩ = some (.bool false) := by rw [cell_of_blk hb]; rfl
 have f0 : w.frozen? ⟨X, 0, none⟩ = false := frozen_of_blk hb 0
 have hread := ReadUvarint_any (.slice a bl.length c) bl w hr hl
 have hru : ruv bl 0 0 = (n, (uv n).length, 0) := by rw [he]; exact ruv_uv n tl hn
 rw [hru] at hread
 have hk := uv_length n
 obtain ⟨k, hkk⟩ : ∃ k, (uv n).length = k := ⟨_, rfl⟩
 have hkl : k ≤ bl.length := by rw [he, List.length_append]; omega
 rw [hkk] at hread hk ⊢
 have hsub := fun (w : World) => run_sub_l (P := Tryz.prog) w 35 5 unBytes szByte a bl.length c .i64 (k : Int) (by omega) (by omega)
 have hq : ¬ ((1099511627776 : Int) < (n : Int)) := by omega
 have hwn : IntKind.i64.wrap (n : Int) = (n : Int) := IntWalk.i64_in _ (by omega)
 have Hread := Lib.hid hread
 have HB := Lib.hid hb
 clear hread hru hkk he hb hr hl
 go_enter Tryz.func37, Tryz.ntmps37
 go_wp2_with fail
 refine Hread.out.mono ?_; rintro e w1 ⟨rfl, rfl⟩
 unfold ruvV
 go_wp2_with fail
 go_ret
 exact ⟨rfl, (Ext.refl (fun b => b = X) w).setCell (p := ⟨X, 0, none⟩) (.inl rfl) _, blk_setCell HB.out 0 _⟩
end Go.Proofs.YtgglbholbkdgfaaGreatDoor
namespace Go.Proofs.YtgglbholbkdgfaaGreatDoor
open Go.RowKit
theorem chain_find : ∀ {n : Nat} {ps : List PSeg} {m i : Nat}, Chain n ps m → n ≤ i → i < m → ∃ (j : Nat) (p : PSeg), ps[j]? = some p ∧ p.first ≤ i ∧ i < p.next ∧ p.es[i - p.first]? = ((ps.map (·.es)).flatten)[i - n]?
 | n, [], m, i, h, h1, h2 => by
  have h : n = m := h
  omega
 | n, p :: ps, m, i, h, h1, h2 => by
  obtain ⟨a1, a2, a3⟩ := h
  by_cases hi : i < p.next
  ·refine ⟨0, p, rfl, by omega, hi, ?_⟩
   unfold PSeg.next at hi
   simp only [List.map_cons, List.flatten_cons]
   rw [List.getElem?_append_left (by omega), a1]
  ·unfold PSeg.next at hi
   obtain ⟨j, q, b1, b2, b3, b4⟩ := chain_find a3 (by omega) h2
   refine ⟨j + 1, q, by simpa using b1, b2, b3, ?_⟩
   simp only [List.map_cons, List.flatten_cons]
   rw [b4, List.getElem?_append_right (by omega)]
   congr 1
   omega
set_option maxRecDepth 100000 in
set_option maxHeartbeats 2000000 in
theorem entry_any (r d : Nat) (F : Nat → Prop) (N : PNode) (D : PDisk) (ps : List PSeg) (i t : Nat) (x : List UInt8) (w : World) (h : NodeIs w r d F N D ps) (hi : 1 ≤ i) (he : N.log[i - 1]? = some (t, x)) (ht : t ≤ 1099511627776) (hx : x.length ≤ 1000000) :
  Calls Tryz.prog 53 #[.pointer (some ⟨r, 0, none⟩), .int .i64 i] w fun e w' => ∃ v, e = .returned (.agg #[.int .i64 t, v]) ∧ Own w' 5 1 v (bytesV x) ∧ Fresh w v ∧ Ext NoB w w' := by
 obtain ⟨L, FD, FL, FR, tv, dl, h, _⟩ := h
 obtain ⟨sv, rs, l1, l2, _⟩ := h.store.log
 have hch := l1.chain
 rw [l2] at hch
 have hil := (List.getElem?_eq_some_iff.1 he).1
 obtain ⟨j, p, hj, hp1, hp2, hp3⟩ := chain_find (i := i) hch hi (by omega)
 rw [h.coh, List.getElem?_map, he] at hp3
 rw [← l2, List.getElem?_map] at hj
 obtain ⟨rr, hrr, rfl⟩ := Option.map_eq_some_iff.1 hj
 obtain ⟨el, hel⟩ : ∃ el, entB (t, x) = el := ⟨_, rfl⟩
 have hell : el.length ≤ 1000010 := by rw [← hel]; show (uv t ++ x).length ≤ _; rw [List.length_append]; have := uv_length t; omega
 have hp3 : rr.p.es[i - rr.p.first]? = some el := by rw [hp3, ← hel]; rfl
 have hget := Lib.hid (fun (w' : World) (y : Ext NoB w w') => Get_seg L d FL logPre sv rs _ w' (l1.no y) i j rr hrr hp1 hp2 el hp3 (by omega))
 have c3 : w.cell? ⟨r, 3, none⟩ = some (.pointer (some ⟨L, 0, none⟩)) := by rw [cell_of_blk h.blk]; rfl
 have hrl := lt_of_blk h.blk
 have hze := fun (w : World) => (show (zeroValue 50).run Tryz.prog w = .ok (.agg #[.int .i64 0, .slice none 0 0]) w by kernel_rfl)
 have hzr := fun (w : World) => (show (zeroValue 97).run Tryz.prog w = .ok (.agg #[.slice none 0 0, .bool false]) w by kernel_rfl)
 have Hel := Lib.hid hel
 have Hell := Lib.hid hell
 have Ht := Lib.hid ht
 clear h l1 l2 hch hil hj hp1 hp2 hp3 hrr he hell ht hel
 go_enter Tryz.func53, Tryz.ntmps53
 go_wp2_with fail
 obtain ⟨w1, R, e1, e2, x1, b1, hs1⟩ := alloc_facts w (.cells #[.int .i64 0, .slice none 0 0] 50)
 rw [e1, e2]
 have d3 := x1.cell c3 (fun h => h)
 refine (hget.out w1 x1).mono ?_; rintro e w2 ⟨v2, rfl, o2, f2, x2⟩
 obtain ⟨a2, k2, rfl, hn2, hk2⟩ := RdB.shape (l := el) o2.rd
 have HO2 := Lib.hid o2
 have Hb1 := Lib.hid b1
 clear o2 f2 e1 d3 b1
 go_wp2_with fail
 obtain ⟨w3, X, q1, q2, x3, b3, hs3⟩ := alloc_facts w2 (.cells #[.slice a2 el.length k2, .bool false] 97)
 rw [q1, q2]
 have r3 : RdB w3 (.slice a2 el.length k2) el := (HO2.out.no x3).rd
 have hel2 : el = uv t ++ x := Hel.out.symm
 refine (number_ok X t a2 k2 el x w3 b3 r3 hel2 Ht.out (by have := Hell.out; omega) hn2).mono ?_
 rintro e w4 ⟨rfl, x4, b4⟩
 obtain ⟨kk, hkk⟩ : ∃ kk, (uv t).length = kk := ⟨_, rfl⟩
 rw [hkk] at b4
 have hkl : kk ≤ el.length := by rw [hel2, List.length_append]; omega
 have hdrop : el.drop kk = x := by rw [hel2, ← hkk, List.drop_left]
 have hoff : Off (fun b => b = X) (.slice a2 el.length k2) := fun g hg h => by have := HO2.out.lt g hg; omega
 have r4 : RdB w4 (.slice (subA a2 kk k2) (el.length - kk) (k2 - kk)) x := by
  have h1 : RdB w4 (.slice a2 el.length k2) el := Rd.ext r3 x4 hoff
  have h2 := RdB.drop h1 kk hkl hn2
  rw [hdrop] at h2
  exact h2
 obtain ⟨ln, hln⟩ : ∃ ln, el.length - kk = ln := ⟨_, rfl⟩
 obtain ⟨cn, hcn⟩ : ∃ cn, k2 - kk = cn := ⟨_, rfl⟩
 obtain ⟨sa, hsa⟩ : ∃ sa, subA a2 kk k2 = sa := ⟨_, rfl⟩
 rw [hln, hcn, hsa] at r4 b4
 have cX : w4.cell? ⟨X, 0, none⟩ = some (.slice sa ln cn) := by rw [cell_of_blk b4]; rfl
 have hRX : R < X := by have := lt_of_blk Hb1.out; have := x2.size; omega
 have bR4 := x4.blk (x3.blk (x2.blk Hb1.out (fun h => h)) (fun h => h)) (show ¬ (R = X) by omega)
 have Hr4 := Lib.hid r4
 have HbR := Lib.hid bR4
 have Hx4 := Lib.hid x4
 have Hwx : Hid (w.heap.size ≤ X) := Lib.hid (by have := x1.size; have := x2.size; omega)
 clear r3 r4 b3 b4 bR4 x4 hdrop hel2 hkl hoff hln hcn hsa q1 hkk hRX hn2 hk2
 go_wp2_with fail
 refine (bytesClone_any _ x w4 Hr4.out (by omega)).mono ?_; rintro e w5 ⟨v5, rfl, o5, f5, x5⟩
 obtain ⟨a5, k5, rfl, hn5, hk5⟩ := RdB.shape (l := x) o5.rd
 have bR5 := x5.blk HbR.out (fun h => h)
 have r0 : w5.cell? ⟨R, 0, none⟩ = some (.int .i64 0) := by rw [cell_of_blk bR5]; rfl
 have r1 : w5.cell? ⟨R, 1, none⟩ = some (.slice none 0 0) := by rw [cell_of_blk bR5]; rfl
 have g0 : w5.frozen? ⟨R, 0, none⟩ = false := frozen_of_blk bR5 0
 have g1 : w5.frozen? ⟨R, 1, none⟩ = false := frozen_of_blk bR5 1
 have HO5 := Lib.hid o5
 have Hf5 := Lib.hid f5
 clear o5 f5 hn5 hk5
 go_wp2_with fail
 have kR := blk_setCell (blk_setCell bR5 0 (.int .i64 t)) 1 (.slice a5 x.length k5)
 have xS : Ext (fun b => b = R) w5 ((w5.setCell ⟨R, 0, none⟩ (.int .i64 t)).setCell ⟨R, 1, none⟩ (.slice a5 x.length k5)) := ((Ext.refl (fun b => b = R) w5).setCell (p := ⟨R, 0, none⟩) (.inl rfl) _).setCell (p := ⟨R, 1, none⟩) (.inl rfl) _
 generalize ((w5.setCell ⟨R, 0, none⟩ (.int .i64 t)).setCell ⟨R, 1, none⟩ (.slice a5 x.length k5)) = wF at kR xS ⊢
 have y3 := (x1.trans x2).trans x3
 have y4 : Ext NoB w w4 := y3.trans' Hx4.out (fun _ _ h => h) (fun b hb h => by have := Hwx.out; omega)
 have y5 := y4.trans x5
 have xF : Ext NoB w wF := y5.trans' xS (fun _ _ h => h) (fun b hb h => by omega)
 have hw4 := y4.size
 refine bodyPost_ret (results_cell_row rfl _ _ R _ #[.int .i64 t, .slice a5 x.length k5] _ _ rfl kR Tryz.underlying50 rfl (by kernel_rfl)) rfl ⟨_, rfl, HO5.out.ext xS (fun g hg h => HO5.out.ne_blk bR5 (by decide) g hg h.symm), fun g hg => ?_, xF⟩
 have := Hf5.out g hg
 omega
end Go.Proofs.YtgglbholbkdgfaaGreatDoor
namespace Go.Proofs.YtgglbholbkdgfaaGreatDoor
open Go.RowKit
theorem RaftIs.set {w w' : World} {r d : Nat} {F : Nat → Prop} {N N' : PNode} {room : Nat} {saved : Bool} (h : RaftIs w r d F N room saved) (x : Ext (fun b => b = r) w w')
  (hb : ∀ L tv, w.heap[r]? = some (.cells (nodeArr N d L tv) 92 (0, 0)) → w'.heap[r]? = some (.cells (nodeArr N' d L tv) 92 (0, 0))) (hl : N'.log = N.log) (hi : N'.id < N'.n ∧ N'.n ≤ 5) (hc : N'.committed ≤ N'.log.length)
  (ht : N'.term = N.term) (hv : N'.vote = N.vote) : RaftIs w' r d F N' room saved ∧ Ext F w w' := by
 obtain ⟨D, ps, ⟨L, FD, FL, FR, tv, dl, hA, hF, hlt⟩, hrm, hperm⟩ := h.is
 refine ⟨⟨⟨D, ps, ⟨L, FD, FL, FR, tv, dl, hA.set x (hb L tv hA.blk) hl hi hc, hF, fun b hb => Nat.lt_of_lt_of_le (hlt b hb) x.size⟩, hrm, by rw [ht, hv]; exact hperm⟩, by rw [ht, hv]; exact h.fresh, by rw [hv]; exact h.vote, by rw [ht]; exact h.term⟩, x.mono (fun b _ e => hF b (.inr (.inr (e ▸ hA.self))))⟩
theorem RaftIs.cells {w : World} {r d : Nat} {F : Nat → Prop} {N : PNode} {room : Nat} {saved : Bool} (h : RaftIs w r d F N room saved) : ∃ L tv, w.heap[r]? = some (.cells (nodeArr N d L tv) 92 (0, 0)) ∧ N.id < N.n ∧ N.n ≤ 5 ∧ N.committed ≤ N.log.length ∧ N.log.length < 100 := by
 obtain ⟨D, ps, ⟨L, FD, FL, FR, tv, dl, hA, hF, hlt⟩, hrm, hperm⟩ := h.is
 exact ⟨L, tv, hA.blk, hA.idn.1, hA.idn.2, hA.comm, hA.len⟩
set_option maxRecDepth 100000 in
set_option maxHeartbeats 1000000 in
theorem Tick_counts (r d : Nat) (F : Nat → Prop) (N : PNode) (room : Nat) (saved : Bool) (draw : Int) (w : World) (h : RaftIs w r d F N room saved) (hw : 1 < N.wait ∧ N.wait < 1000) :
  Calls Tryz.prog 17 #[.pointer (some ⟨r, 0, none⟩), .int .i64 draw] w fun e w' => e = .returned (.slice none 0 0) ∧ Ext F w w' ∧ RaftIs w' r d F { N with wait := N.wait - 1 } room saved := by
 obtain ⟨L, tv, hb, hi1, hi2, hc, _⟩ := h.cells
 obtain ⟨wt, hwt⟩ : ∃ wt, N.wait = wt := ⟨_, rfl⟩
 have c1 : w.cell? ⟨r, 23, none⟩ = some (.bool false) := by rw [cell_of_blk hb]; rfl
 have c2 : w.cell? ⟨r, 11, none⟩ = some (.int .i64 wt) := by rw [cell_of_blk hb, ← hwt]; rfl
 have f2 : w.frozen? ⟨r, 11, none⟩ = false := frozen_of_blk hb 11
 rw [hwt] at hw ⊢
 have hw1 : IntKind.i64.wrap (wt - 1) = wt - 1 := IntWalk.i64_in _ (by omega)
 have hw2 : (0 : Int) < wt - 1 := by omega
 have H := Lib.hid h
 clear h hb hwt
 go_enter Tryz.func17, Tryz.ntmps17
 go_wp2_with fail
 go_ret
 have hs := RaftIs.set (N' := { N with wait := wt - 1 }) H.out ((Ext.refl (fun b => b = r) w).setCell (p := ⟨r, 11, none⟩) (.inl rfl) (.int .i64 (wt - 1))) (fun L tv hb => blk_setCell hb 11 _) rfl ⟨hi1, hi2⟩ hc rfl rfl
 exact ⟨rfl, hs.2, hs.1⟩
end Go.Proofs.YtgglbholbkdgfaaGreatDoor
