/- Joined texts: B62 B63 B64 B65. Each has its own head. -/
import Derived.Test.YtgglbholbkdgfaaGreatDoorK11
set_option linter.unusedVariables false
set_option linter.unusedSimpArgs false
/- Package wal: number of a name that is no segment's; Open of a disk that holds the term's file alone. -/
namespace Go.Proofs.YtgglbholbkdgfaaGreatDoor
open Go.RowKit

set_option maxRecDepth 100000 in
set_option maxHeartbeats 1000000 in
theorem number_term (L : Nat) (w : World) (h : w.cell? ⟨L, 1, none⟩ = some (.string logPre)) :
    Calls Tryz.prog 72 #[.pointer (some ⟨L, 0, none⟩), .string termName] w fun e w' => e = .returned (.tuple #[.int .i64 0, .bool false]) ∧ Ext NoB w w' := by
  have hcut := fun (p : ByteArray) (w : World) => Tryz.strings_CutPrefix termName p w
  have Hcut := Lib.hid hcut
  clear hcut
  go_enter Tryz.func72, Tryz.ntmps72
  go_wp2_with fail
  have hfalse : Lib.hasPrefix [116, 101, 114, 109] (logPre ++ { data := #[46] }).data.toList = false := by
    rw [ByteArray.data_append]
    decide
  have hc := Hcut.out (logPre ++ { data := #[46] }) w
  rw [hfalse] at hc
  have Hc := Lib.hid hc
  clear hc hfalse Hcut
  refine Hc.out.mono ?_; rintro e w1 ⟨rfl, rfl⟩
  go_wp2_with fail
  go_ret2
  exact ⟨rfl, Ext.refl _ _⟩

set_option maxRecDepth 100000 in
set_option maxHeartbeats 4000000 in
theorem LogOpen_term (d : Nat) (F : Nat → Prop) (D : PDisk) (w : World) (hd : DiskIs w d F D) (f : PFile) (hf : D.files = [(termName, f)]) :
    Calls Tryz.prog 38 #[.pointer (some ⟨d, 0, none⟩), .string logPre] w fun e w' => ∃ L, e = .returned (.tuple #[.pointer (some ⟨L, 0, none⟩), .int .i64 0]) ∧ w.heap.size ≤ L ∧
      LogAt w' L d (fun b => b = L) logPre (.slice none 0 0) [] 1 ∧ Ext NoB w w' := by
  have hlist := Lib.hid (fun (w' : World) (x : Ext NoB w w') => List_any d F D w' (hd.no x))
  have hzs := fun (w : World) => (show (zeroValue 134).run Tryz.prog w = .ok (.agg #[.pointer none, .string { data := #[] }, .slice none 0 0, .int .i64 0]) w by kernel_rfl)
  clear hd
  go_enter Tryz.func38, Tryz.ntmps38
  go_wp2_with fail
  refine (hlist.out _ ((Ext.refl _ w).alloc _)).mono ?_; rintro e w1 ⟨v, rfl, o1, f1, x1⟩
  have hnm : names D.files = [termName.data.toList] := by rw [hf]; simp [names]
  rw [hnm] at o1
  obtain ⟨a, n, c, rfl, hln, hnc, hcm, _, hr⟩ := o1.rd
  have hn1 : n = 1 := by simp at hln; omega
  subst hn1
  obtain ⟨vb, off, rfl, hcell⟩ := hr (by simp)
  have ck : w1.cell? ⟨vb, off, none⟩ = some (.string termName) := hcell 0 _ rfl
  have b1 := x1.blk (blk_new w (.cells #[.pointer (some ⟨d, 0, none⟩), .string logPre, .slice none 0 0, .int .i64 1] 134)) (fun h => h)
  have hnum := Lib.hid (number_term w.heap.size w1 (by rw [cell_of_blk b1]; rfl))
  have Hb1 := Lib.hid b1
  have Hx1 := Lib.hid x1
  clear b1 x1 o1 f1 hcell hr hln
  go_wp2_with fail
  refine wp_loop_rounds 2 ?_
  rw [rounds_succ]
  go_wp2_with fail
  refine hnum.out.mono ?_; rintro e w2 ⟨rfl, x2⟩
  have b2 := x2.blk Hb1.out (fun h => h)
  have Hb2 := Lib.hid b2
  have Hx2 := Lib.hid x2
  clear b2 x2 hnm hf
  go_wp2_with fail
  rw [rounds_succ]
  go_wp2_with fail
  go_ret2
  refine ⟨w.heap.size, rfl, Nat.le_refl _, ⟨Hb2.out, rfl, Own.nil _ _ _, fun g hg => by (cases hg), by simp, by simp, rfl, fun b hb => ?_, by omega, by simp, by decide⟩, (((Ext.refl _ w).alloc _).trans Hx1.out).trans Hx2.out⟩
  subst hb
  exact lt_of_blk Hb2.out
end Go.Proofs.YtgglbholbkdgfaaGreatDoor
/- Package raft: Open of a node whose disk holds its term. -/
namespace Go.Proofs.YtgglbholbkdgfaaGreatDoor
open Go.RowKit

/-- A node that was started before, and has no entries. -/
def savedNode (id n : Nat) (draw : Int) (t : Nat) (v : Int) : PNode := { newNode id n draw with term := t, vote := v }

set_option maxRecDepth 100000 in
set_option maxHeartbeats 8000000 in
theorem Open_saved (id n d : Nat) (F : Nat → Prop) (D : PDisk) (draw : Int) (t : Nat) (v : Int) (w : World) (hd : DiskIs w d F D) (hf : D.files = [(termName, whole (enc (termB t v)))]) (hid : id < n) (hn : n = 3 ∨ n = 5)
    (ht : t ≤ 1099511627776) (hv : -1 ≤ v ∧ v < n) :
    Calls Tryz.prog 16 #[.int .i64 id, .int .i64 n, .pointer (some ⟨d, 0, none⟩), .int .i64 draw] w fun e w' => ∃ r, e = .returned (.tuple #[.pointer (some ⟨r, 0, none⟩), .int .i64 0]) ∧ Ext F w w' ∧
      RaftIs w' r d (Gr F w w') (savedNode id n draw t v) D.room true := by
  have hz := zeroNode
  have hzr := fun (w : World) => (show (zeroValue 97).run Tryz.prog w = .ok (.agg #[.slice none 0 0, .bool false]) w by kernel_rfl)
  obtain ⟨q, hq⟩ : ∃ q : Nat, v + 1 = (q : Int) := ⟨(v + 1).toNat, by omega⟩
  obtain ⟨bl, hbl⟩ : ∃ bl, termB t v = bl := ⟨_, rfl⟩
  have hbq : bl = uv t ++ (uv q ++ []) := by
    rw [← hbl, List.append_nil]
    unfold termB
    rw [hq]
    rfl
  have hll : bl.length ≤ 20 := by rw [← hbl]; exact termB_len t v
  rw [hbl] at hf
  have hload := Lib.hid (fun (w' : World) (x : Ext NoB w w') => Load_ok d F D termName w' (hd.no x) bl (enc bl).length (by omega) (by rw [hf]; unfold fsGet whole; simp))
  have hopen := Lib.hid (fun (w' : World) (x : Ext NoB w w') => LogOpen_term d F D w' (hd.no x) _ hf)
  have hi1 : ¬ ((id : Int) < 0) := by omega
  have hi2 : ¬ ((n : Int) ≤ (id : Int)) := by omega
  have hq1 : IntKind.i64.wrap ((q : Int) - 1) = v := by rw [IntWalk.i64_in _ (by omega)]; omega
  have hvn : ¬ ((n : Int) ≤ v) := by omega
  have hq40 : q ≤ 1099511627776 := by omega
  have HD := Lib.hid hd
  have HI := Lib.hid hid
  have HN := Lib.hid hn
  have Hf := Lib.hid hf
  have Hbl := Lib.hid hbl
  have Hbq := Lib.hid hbq
  have Hll := Lib.hid hll
  have Hq := Lib.hid hq
  clear hd hid hf hbl hbq hll hq
  rcases hn with rfl | rfl
  · have hi3 : ¬ ((3 : Int) ≤ (id : Int)) := by omega
    have hv3 : ¬ ((3 : Int) ≤ v) := by omega
    go_enter Tryz.func16, Tryz.ntmps16
    go_wp2_with fail
    obtain ⟨w1, r, e1, e2, x1, b1, hs1⟩ := alloc_facts w (.cells #[.int .i64 id, .int .i64 3, .pointer (some ⟨d, 0, none⟩), .pointer none, .slice none 0 0, .int .i64 0, .int .i64 (-1), .int .i64 0, .int .i64 (-1), .int .i64 0, .int .i64 0, .int .i64 0, .int .u8 0,
      .int .i64 0, .int .i64 0, .int .i64 0, .int .i64 0, .int .i64 0, .int .i64 0, .int .i64 0, .int .i64 0, .int .i64 0, .int .i64 0, .bool false] 92)
    rw [e1, e2]
    refine (hload.out w1 x1).mono ?_; rintro e wL ⟨vL, rfl, oL, fL, xL⟩
    obtain ⟨a2, k2, rfl, hn2, hk2⟩ := RdB.shape (l := bl) oL.rd
    have yL := x1.trans xL
    have bL := xL.blk b1 (fun h => h)
    have HbL := Lib.hid bL
    have Hr := Lib.hid e2
    have HoL := Lib.hid oL
    have HyL := Lib.hid yL
    clear e1 e2 b1 hs1 xL oL fL x1 bL yL
    go_wp2_with fail
    obtain ⟨w3, X, q1, q2, x3, b3, hs3⟩ := alloc_facts wL (.cells #[.slice a2 bl.length k2, .bool false] 97)
    rw [q1, q2]
    have r3 : RdB w3 (.slice a2 bl.length k2) bl := (HoL.out.no x3).rd
    have hrX : r ≠ X := by have := lt_of_blk HbL.out; omega
    have hwX : w.heap.size ≤ X := by have := HyL.out.size; omega
    refine (number_ok X t a2 k2 bl (uv q ++ []) w3 b3 r3 Hbq.out ht (by have := Hll.out; omega) hn2).mono ?_
    rintro e w4 ⟨rfl, x4, b4⟩
    obtain ⟨kk, hkk⟩ : ∃ kk, (uv t).length = kk := ⟨_, rfl⟩
    rw [hkk] at b4
    have hkl : kk ≤ bl.length := by rw [Hbq.out, List.length_append]; omega
    have hdrop : bl.drop kk = uv q ++ [] := by rw [Hbq.out, ← hkk, List.drop_left]
    have hoff : Off (fun b => b = X) (.slice a2 bl.length k2) := fun g hg h => by have := HoL.out.lt g hg; omega
    have hln : bl.length - kk = (uv q ++ ([] : List UInt8)).length := by rw [← hdrop, List.length_drop]
    have r4 : RdB w4 (.slice (subA a2 kk k2) (uv q ++ ([] : List UInt8)).length (k2 - kk)) (uv q ++ []) := by
      have h1 : RdB w4 (.slice a2 bl.length k2) bl := Rd.ext r3 x4 hoff
      have h2 := RdB.drop h1 kk hkl hn2
      rw [hdrop, hln] at h2
      exact h2
    rw [hln] at b4
    have hsn : Off (fun b => b = X) (.slice (subA a2 kk k2) (uv q ++ ([] : List UInt8)).length (k2 - kk)) := Off.sub (a := a2) (n := bl.length) (c := k2) hoff kk _ k2 _
    obtain ⟨sa, hsa⟩ : ∃ sa, subA a2 kk k2 = sa := ⟨_, rfl⟩
    obtain ⟨cn, hcn⟩ : ∃ cn, k2 - kk = cn := ⟨_, rfl⟩
    obtain ⟨l2, hl2⟩ : ∃ l2, uv q ++ ([] : List UInt8) = l2 := ⟨_, rfl⟩
    have hnc : l2.length ≤ cn := by rw [← hl2, ← hln, ← hcn]; omega
    have hl2n : l2.length ≤ 10 := by rw [← hl2, List.append_nil]; exact uv_length q
    rw [hsa, hcn, hl2] at r4 b4 hsn
    have bR4 := x4.blk (x3.blk HbL.out (fun h => h)) (show ¬ (r = X) from hrX)
    have Hr4 := Lib.hid r4
    have Hb4 := Lib.hid b4
    have HbR4 := Lib.hid bR4
    have Hl2 := Lib.hid hl2
    have x4w : Ext NoB w w4 := (HyL.out.trans x3).trans' x4 (fun _ _ h => h) (fun b hb h => by omega)
    have Hx4w := Lib.hid x4w
    clear r3 r4 b3 b4 bR4 x4 hdrop hkl hoff hln hkk hsa hcn hl2 q1 q2 x3 hs3 x4w hsn
    go_wp2_with fail
    refine (number_ok X q sa cn l2 [] w4 Hb4.out Hr4.out Hl2.out.symm hq40 (by omega) hnc).mono ?_
    rintro e w5 ⟨rfl, x5, b5⟩
    have hz5 : l2.length - (uv q).length = 0 := by rw [← Hl2.out]; simp
    rw [hz5] at b5
    obtain ⟨sb, hsb⟩ : ∃ sb, subA sa (uv q).length cn = sb := ⟨_, rfl⟩
    obtain ⟨cb, hcb⟩ : ∃ cb, cn - (uv q).length = cb := ⟨_, rfl⟩
    rw [hsb, hcb] at b5
    have bR5 := x5.blk HbR4.out (show ¬ (r = X) from hrX)
    have p5 : w5.cell? ⟨r, 5, none⟩ = some (.int .i64 0) := by rw [cell_of_blk bR5]; rfl
    have p6 : w5.cell? ⟨r, 6, none⟩ = some (.int .i64 (-1)) := by rw [cell_of_blk bR5]; rfl
    have f5 : w5.frozen? ⟨r, 5, none⟩ = false := frozen_of_blk bR5 5
    have f6 : w5.frozen? ⟨r, 6, none⟩ = false := frozen_of_blk bR5 6
    have pX0 : w5.cell? ⟨X, 0, none⟩ = some (.slice sb 0 cb) := by rw [cell_of_blk b5]; rfl
    have pX1 : w5.cell? ⟨X, 1, none⟩ = some (.bool false) := by rw [cell_of_blk b5]; rfl
    have hXr : X ≠ r := fun e => hrX e.symm
    have HbR5 := Lib.hid bR5
    have x5w : Ext NoB w w5 := Hx4w.out.trans' x5 (fun _ _ h => h) (fun b hb h => by omega)
    have Hx5w := Lib.hid x5w
    clear bR5 b5 x5 x5w hsb hcb hz5
    go_wp2_with fail
    have xs6 : Ext (fun b => b = r) w5 ((w5.setCell ⟨r, 5, none⟩ (.int .i64 t)).setCell ⟨r, 6, none⟩ (.int .i64 v)) := ((Ext.refl (fun b => b = r) w5).setCell (p := ⟨r, 5, none⟩) (.inl rfl) _).setCell (p := ⟨r, 6, none⟩) (.inl rfl) _
    have b6 := blk_setCell (blk_setCell HbR5.out 5 (.int .i64 t)) 6 (.int .i64 v)
    generalize ((w5.setCell ⟨r, 5, none⟩ (.int .i64 t)).setCell ⟨r, 6, none⟩ (.int .i64 v)) = w2 at xs6 b6 ⊢
    have hwr0 : w.heap.size = r := Hr.out
    have y2 : Ext NoB w w2 := Hx5w.out.trans' xs6 (fun _ _ h => h) (fun b hb h => by subst h; omega)
    have Hb2 := Lib.hid b6
    clear b6 xs6 p5 p6 f5 f6 pX0 pX1 hwr0
    refine (hopen.out w2 y2).mono ?_; rintro e w3 ⟨L, rfl, hL, l3, x3⟩
    have y3 := y2.trans x3
    have b3 := x3.blk Hb2.out (fun h => h)
    have c3 : w3.cell? ⟨r, 3, none⟩ = some (.pointer none) := by rw [cell_of_blk b3]; rfl
    have f3 : w3.frozen? ⟨r, 3, none⟩ = false := frozen_of_blk b3 3
    have hrL : r < L := Nat.lt_of_lt_of_le (lt_of_blk Hb2.out) hL
    have Hb3 := Lib.hid b3
    have Hl3 := Lib.hid l3
    have Hx3 := Lib.hid x3
    clear b3 l3 x3
    go_wp2_with fail
    have xs4 : Ext (fun b => b = r) w3 (w3.setCell ⟨r, 3, none⟩ (.pointer (some ⟨L, 0, none⟩))) := (Ext.refl (fun b => b = r) w3).setCell (p := ⟨r, 3, none⟩) (.inl rfl) _
    have b4 := blk_setCell Hb3.out 3 (.pointer (some ⟨L, 0, none⟩))
    generalize (w3.setCell ⟨r, 3, none⟩ (.pointer (some ⟨L, 0, none⟩))) = w4 at xs4 b4 ⊢
    have l4 := Hl3.out.ext xs4 (fun b hb h => by subst hb; omega)
    have hwr : w.heap.size = r := Hr.out
    have y4 : Ext NoB w w4 := by
      refine y3.trans' xs4 (fun _ _ h => h) (fun b hb h => ?_)
      subst h; omega
    have c4 : w4.cell? ⟨r, 3, none⟩ = some (.pointer (some ⟨L, 0, none⟩)) := by rw [cell_of_blk b4]; rfl
    have Hb4 := Lib.hid b4
    have Hl4 := Lib.hid l4
    clear c3 f3 b4 l4 xs4
    refine (Bounds_any L d _ logPre _ [] 1 w4 Hl4.out).mono ?_; rintro e w5 ⟨rfl, x5⟩
    have y5 := y4.trans x5
    have c5 := x5.cell c4 (fun h => h)
    have hNode : NodeIs w5 r d (Gr F w w5) { savedNode id 3 draw t v with wait := 0 } D [] := by
      have hd5 := HD.out.no y5
      have hlt := HD.out.lt
      have b5 := x5.blk Hb4.out (fun h => h)
      have l5 := Hl4.out.no x5
      have hL5 := l5.lt L rfl
      refine ⟨L, F, (fun b => b = L), (fun b => b = r), .slice none 0 0, false, ⟨b5, rfl, Own.nil _ _ _, fun g hg => (by cases hg), ⟨hd5, ⟨_, _, l5, rfl, by simp⟩, ?_⟩, ?_, ?_, ?_, rfl, ⟨HI.out, Nat.le_of_ble_eq_true rfl⟩, Nat.zero_le _⟩, ?_, ?_⟩
      · intro b hb h; subst h; have := hlt _ hb; omega
      · intro b hb h; subst hb; have := hlt _ h; omega
      · intro b hb h; subst hb; omega
      · intro b hb; subst hb; exact lt_of_blk b5
      · intro b hb
        rcases hb with hb | hb | hb
        · exact .inl hb
        · subst hb; exact .inr (by omega)
        · subst hb; exact .inr ⟨by omega, lt_of_blk b5⟩
      · intro b hb
        rcases hb with hb | hb
        · exact Nat.lt_of_lt_of_le (hlt b hb) y5.size
        · exact hb.2
    have Hnode := Lib.hid hNode
    have Hy5 := Lib.hid y5
    clear hNode c4
    go_wp2_with fail
    refine wp_loop_rounds 1 ?_
    rw [rounds_succ]
    go_wp2_with fail
    refine (anew_any r d _ _ _ [] draw w5 Hnode.out).mono ?_; rintro e w6 ⟨rfl, x6, n6⟩
    have Hn6 := Lib.hid n6
    have Hx6 := Lib.hid x6
    clear n6 x6
    go_wp2_with fail
    go_ret2
    have hsz := Hx6.out.size
    refine ⟨r, rfl, (Hy5.out.of_no).next Hx6.out (fun b h hb => h.elim (fun k => k) (fun h => by omega)), ⟨D, [], ?_, rfl, ?_⟩, fun h => (by cases h), (show -1 ≤ v ∧ v ≤ 5 by omega), ht⟩
    obtain ⟨L', FD, FL, FR, tv, dl, h1, h2, h3⟩ := Hn6.out
    refine ⟨L', FD, FL, FR, tv, dl, h1, fun b hb => ?_, fun b hb => ?_⟩
    · rcases h2 b hb with h | h
      · exact .inl h
      · exact .inr (by omega)
    · rcases hb with hb | hb
      · exact h3 b (.inl hb)
      · exact hb.2
    · rw [Hf.out, ← Hbl.out]
      exact .refl _
  · have hi3 : ¬ ((5 : Int) ≤ (id : Int)) := by omega
    have hv3 : ¬ ((5 : Int) ≤ v) := by omega
    go_enter Tryz.func16, Tryz.ntmps16
    go_wp2_with fail
    obtain ⟨w1, r, e1, e2, x1, b1, hs1⟩ := alloc_facts w (.cells #[.int .i64 id, .int .i64 5, .pointer (some ⟨d, 0, none⟩), .pointer none, .slice none 0 0, .int .i64 0, .int .i64 (-1), .int .i64 0, .int .i64 (-1), .int .i64 0, .int .i64 0, .int .i64 0, .int .u8 0,
      .int .i64 0, .int .i64 0, .int .i64 0, .int .i64 0, .int .i64 0, .int .i64 0, .int .i64 0, .int .i64 0, .int .i64 0, .int .i64 0, .bool false] 92)
    rw [e1, e2]
    refine (hload.out w1 x1).mono ?_; rintro e wL ⟨vL, rfl, oL, fL, xL⟩
    obtain ⟨a2, k2, rfl, hn2, hk2⟩ := RdB.shape (l := bl) oL.rd
    have yL := x1.trans xL
    have bL := xL.blk b1 (fun h => h)
    have HbL := Lib.hid bL
    have Hr := Lib.hid e2
    have HoL := Lib.hid oL
    have HyL := Lib.hid yL
    clear e1 e2 b1 hs1 xL oL fL x1 bL yL
    go_wp2_with fail
    obtain ⟨w3, X, q1, q2, x3, b3, hs3⟩ := alloc_facts wL (.cells #[.slice a2 bl.length k2, .bool false] 97)
    rw [q1, q2]
    have r3 : RdB w3 (.slice a2 bl.length k2) bl := (HoL.out.no x3).rd
    have hrX : r ≠ X := by have := lt_of_blk HbL.out; omega
    have hwX : w.heap.size ≤ X := by have := HyL.out.size; omega
    refine (number_ok X t a2 k2 bl (uv q ++ []) w3 b3 r3 Hbq.out ht (by have := Hll.out; omega) hn2).mono ?_
    rintro e w4 ⟨rfl, x4, b4⟩
    obtain ⟨kk, hkk⟩ : ∃ kk, (uv t).length = kk := ⟨_, rfl⟩
    rw [hkk] at b4
    have hkl : kk ≤ bl.length := by rw [Hbq.out, List.length_append]; omega
    have hdrop : bl.drop kk = uv q ++ [] := by rw [Hbq.out, ← hkk, List.drop_left]
    have hoff : Off (fun b => b = X) (.slice a2 bl.length k2) := fun g hg h => by have := HoL.out.lt g hg; omega
    have hln : bl.length - kk = (uv q ++ ([] : List UInt8)).length := by rw [← hdrop, List.length_drop]
    have r4 : RdB w4 (.slice (subA a2 kk k2) (uv q ++ ([] : List UInt8)).length (k2 - kk)) (uv q ++ []) := by
      have h1 : RdB w4 (.slice a2 bl.length k2) bl := Rd.ext r3 x4 hoff
      have h2 := RdB.drop h1 kk hkl hn2
      rw [hdrop, hln] at h2
      exact h2
    rw [hln] at b4
    have hsn : Off (fun b => b = X) (.slice (subA a2 kk k2) (uv q ++ ([] : List UInt8)).length (k2 - kk)) := Off.sub (a := a2) (n := bl.length) (c := k2) hoff kk _ k2 _
    obtain ⟨sa, hsa⟩ : ∃ sa, subA a2 kk k2 = sa := ⟨_, rfl⟩
    obtain ⟨cn, hcn⟩ : ∃ cn, k2 - kk = cn := ⟨_, rfl⟩
    obtain ⟨l2, hl2⟩ : ∃ l2, uv q ++ ([] : List UInt8) = l2 := ⟨_, rfl⟩
    have hnc : l2.length ≤ cn := by rw [← hl2, ← hln, ← hcn]; omega
    have hl2n : l2.length ≤ 10 := by rw [← hl2, List.append_nil]; exact uv_length q
    rw [hsa, hcn, hl2] at r4 b4 hsn
    have bR4 := x4.blk (x3.blk HbL.out (fun h => h)) (show ¬ (r = X) from hrX)
    have Hr4 := Lib.hid r4
    have Hb4 := Lib.hid b4
    have HbR4 := Lib.hid bR4
    have Hl2 := Lib.hid hl2
    have x4w : Ext NoB w w4 := (HyL.out.trans x3).trans' x4 (fun _ _ h => h) (fun b hb h => by omega)
    have Hx4w := Lib.hid x4w
    clear r3 r4 b3 b4 bR4 x4 hdrop hkl hoff hln hkk hsa hcn hl2 q1 q2 x3 hs3 x4w hsn
    go_wp2_with fail
    refine (number_ok X q sa cn l2 [] w4 Hb4.out Hr4.out Hl2.out.symm hq40 (by omega) hnc).mono ?_
    rintro e w5 ⟨rfl, x5, b5⟩
    have hz5 : l2.length - (uv q).length = 0 := by rw [← Hl2.out]; simp
    rw [hz5] at b5
    obtain ⟨sb, hsb⟩ : ∃ sb, subA sa (uv q).length cn = sb := ⟨_, rfl⟩
    obtain ⟨cb, hcb⟩ : ∃ cb, cn - (uv q).length = cb := ⟨_, rfl⟩
    rw [hsb, hcb] at b5
    have bR5 := x5.blk HbR4.out (show ¬ (r = X) from hrX)
    have p5 : w5.cell? ⟨r, 5, none⟩ = some (.int .i64 0) := by rw [cell_of_blk bR5]; rfl
    have p6 : w5.cell? ⟨r, 6, none⟩ = some (.int .i64 (-1)) := by rw [cell_of_blk bR5]; rfl
    have f5 : w5.frozen? ⟨r, 5, none⟩ = false := frozen_of_blk bR5 5
    have f6 : w5.frozen? ⟨r, 6, none⟩ = false := frozen_of_blk bR5 6
    have pX0 : w5.cell? ⟨X, 0, none⟩ = some (.slice sb 0 cb) := by rw [cell_of_blk b5]; rfl
    have pX1 : w5.cell? ⟨X, 1, none⟩ = some (.bool false) := by rw [cell_of_blk b5]; rfl
    have hXr : X ≠ r := fun e => hrX e.symm
    have HbR5 := Lib.hid bR5
    have x5w : Ext NoB w w5 := Hx4w.out.trans' x5 (fun _ _ h => h) (fun b hb h => by omega)
    have Hx5w := Lib.hid x5w
    clear bR5 b5 x5 x5w hsb hcb hz5
    go_wp2_with fail
    have xs6 : Ext (fun b => b = r) w5 ((w5.setCell ⟨r, 5, none⟩ (.int .i64 t)).setCell ⟨r, 6, none⟩ (.int .i64 v)) := ((Ext.refl (fun b => b = r) w5).setCell (p := ⟨r, 5, none⟩) (.inl rfl) _).setCell (p := ⟨r, 6, none⟩) (.inl rfl) _
    have b6 := blk_setCell (blk_setCell HbR5.out 5 (.int .i64 t)) 6 (.int .i64 v)
    generalize ((w5.setCell ⟨r, 5, none⟩ (.int .i64 t)).setCell ⟨r, 6, none⟩ (.int .i64 v)) = w2 at xs6 b6 ⊢
    have hwr0 : w.heap.size = r := Hr.out
    have y2 : Ext NoB w w2 := Hx5w.out.trans' xs6 (fun _ _ h => h) (fun b hb h => by subst h; omega)
    have Hb2 := Lib.hid b6
    clear b6 xs6 p5 p6 f5 f6 pX0 pX1 hwr0
    refine (hopen.out w2 y2).mono ?_; rintro e w3 ⟨L, rfl, hL, l3, x3⟩
    have y3 := y2.trans x3
    have b3 := x3.blk Hb2.out (fun h => h)
    have c3 : w3.cell? ⟨r, 3, none⟩ = some (.pointer none) := by rw [cell_of_blk b3]; rfl
    have f3 : w3.frozen? ⟨r, 3, none⟩ = false := frozen_of_blk b3 3
    have hrL : r < L := Nat.lt_of_lt_of_le (lt_of_blk Hb2.out) hL
    have Hb3 := Lib.hid b3
    have Hl3 := Lib.hid l3
    have Hx3 := Lib.hid x3
    clear b3 l3 x3
    go_wp2_with fail
    have xs4 : Ext (fun b => b = r) w3 (w3.setCell ⟨r, 3, none⟩ (.pointer (some ⟨L, 0, none⟩))) := (Ext.refl (fun b => b = r) w3).setCell (p := ⟨r, 3, none⟩) (.inl rfl) _
    have b4 := blk_setCell Hb3.out 3 (.pointer (some ⟨L, 0, none⟩))
    generalize (w3.setCell ⟨r, 3, none⟩ (.pointer (some ⟨L, 0, none⟩))) = w4 at xs4 b4 ⊢
    have l4 := Hl3.out.ext xs4 (fun b hb h => by subst hb; omega)
    have hwr : w.heap.size = r := Hr.out
    have y4 : Ext NoB w w4 := by
      refine y3.trans' xs4 (fun _ _ h => h) (fun b hb h => ?_)
      subst h; omega
    have c4 : w4.cell? ⟨r, 3, none⟩ = some (.pointer (some ⟨L, 0, none⟩)) := by rw [cell_of_blk b4]; rfl
    have Hb4 := Lib.hid b4
    have Hl4 := Lib.hid l4
    clear c3 f3 b4 l4 xs4
    refine (Bounds_any L d _ logPre _ [] 1 w4 Hl4.out).mono ?_; rintro e w5 ⟨rfl, x5⟩
    have y5 := y4.trans x5
    have c5 := x5.cell c4 (fun h => h)
    have hNode : NodeIs w5 r d (Gr F w w5) { savedNode id 5 draw t v with wait := 0 } D [] := by
      have hd5 := HD.out.no y5
      have hlt := HD.out.lt
      have b5 := x5.blk Hb4.out (fun h => h)
      have l5 := Hl4.out.no x5
      have hL5 := l5.lt L rfl
      refine ⟨L, F, (fun b => b = L), (fun b => b = r), .slice none 0 0, false, ⟨b5, rfl, Own.nil _ _ _, fun g hg => (by cases hg), ⟨hd5, ⟨_, _, l5, rfl, by simp⟩, ?_⟩, ?_, ?_, ?_, rfl, ⟨HI.out, Nat.le_of_ble_eq_true rfl⟩, Nat.zero_le _⟩, ?_, ?_⟩
      · intro b hb h; subst h; have := hlt _ hb; omega
      · intro b hb h; subst hb; have := hlt _ h; omega
      · intro b hb h; subst hb; omega
      · intro b hb; subst hb; exact lt_of_blk b5
      · intro b hb
        rcases hb with hb | hb | hb
        · exact .inl hb
        · subst hb; exact .inr (by omega)
        · subst hb; exact .inr ⟨by omega, lt_of_blk b5⟩
      · intro b hb
        rcases hb with hb | hb
        · exact Nat.lt_of_lt_of_le (hlt b hb) y5.size
        · exact hb.2
    have Hnode := Lib.hid hNode
    have Hy5 := Lib.hid y5
    clear hNode c4
    go_wp2_with fail
    refine wp_loop_rounds 1 ?_
    rw [rounds_succ]
    go_wp2_with fail
    refine (anew_any r d _ _ _ [] draw w5 Hnode.out).mono ?_; rintro e w6 ⟨rfl, x6, n6⟩
    have Hn6 := Lib.hid n6
    have Hx6 := Lib.hid x6
    clear n6 x6
    go_wp2_with fail
    go_ret2
    have hsz := Hx6.out.size
    refine ⟨r, rfl, (Hy5.out.of_no).next Hx6.out (fun b h hb => h.elim (fun k => k) (fun h => by omega)), ⟨D, [], ?_, rfl, ?_⟩, fun h => (by cases h), (show -1 ≤ v ∧ v ≤ 5 by omega), ht⟩
    obtain ⟨L', FD, FL, FR, tv, dl, h1, h2, h3⟩ := Hn6.out
    refine ⟨L', FD, FL, FR, tv, dl, h1, fun b hb => ?_, fun b hb => ?_⟩
    · rcases h2 b hb with h | h
      · exact .inl h
      · exact .inr (by omega)
    · rcases hb with hb | hb
      · exact h3 b (.inl hb)
      · exact hb.2
    · rw [Hf.out, ← Hbl.out]
      exact .refl _
end Go.Proofs.YtgglbholbkdgfaaGreatDoor
/- The law RaftVotes: what holds between two messages; a crash and a new start. -/
namespace Go.Proofs.YtgglbholbkdgfaaGreatDoor
open Go.RowKit

theorem canon_whole (tf : Option (Nat × Int)) (ps : List PSeg) : ∀ p ∈ canon tf ps, p.2.lasts = p.2.data.length := by
  intro p hp
  unfold canon at hp
  rcases List.mem_append.1 hp with h | h
  · cases tf with
    | none => simp [termFs] at h
    | some q =>
      simp only [termFs, List.mem_singleton] at h
      subst h
      rfl
  · obtain ⟨s, _, e⟩ := List.mem_map.1 h
    subst e
    rfl
theorem NodeAt.noSegs {w : World} {r L d : Nat} {FD FL FR : Nat → Prop} {tv : Value} {N : PNode} {D : PDisk} {ps : List PSeg} {dl : Bool} (h : NodeAt w r L d FD FL FR tv N D ps dl) (hl : N.log = []) : ps = [] := by
  obtain ⟨sv, rs, l1, l2, _⟩ := h.store.log
  have hc := l1.chain.count
  rw [hl] at hc
  simp only [List.length_nil, List.length_map] at hc
  have : rs = [] := List.eq_nil_of_length_eq_zero (by omega)
  rw [← l2, this]
  rfl
/-- The disk of a node without entries, behind a crash. -/
def BareDisk (D : PDisk) (N : PNode) (room : Nat) (s : Bool) : Prop := D.room = room ∧ (s = false → D.files = []) ∧ (s = true → D.files = [(termName, whole (enc (termB N.term N.vote)))])
theorem Crash_node (r d : Nat) (F : Nat → Prop) (N : PNode) (room : Nat) (s : Bool) (draw : Int) (w : World) (h : RaftIs w r d F N room s) (hl : N.log = []) :
    Calls Tryz.prog 20 #[.pointer (some ⟨d, 0, none⟩), .int .i64 draw] w fun e w' => e = .returned (.tuple #[]) ∧ Ext F w w' ∧ ∃ D, DiskIs w' d (Gr F w w') D ∧ BareDisk D N room s := by
  obtain ⟨D, ps, ⟨L, FD, FL, FR, tv, dl, hA, hF, hlt⟩, hrm, hperm⟩ := h.is
  have hps := hA.noSegs hl
  subst hps
  have hcnt := (canon_room hA hperm).2
  refine (Crash_whole d FD D draw w hA.store.disk (fun p hp => canon_whole _ _ p (hperm.mem_iff.1 hp)) hcnt).mono ?_
  rintro e w' ⟨rfl, x, hd⟩
  refine ⟨rfl, x.mono (fun b _ hb => hF b (.inl hb)), D, hd.wide (fun b hb => hb.elim (fun h => .inl (hF b (.inl h))) .inr) (fun b hb => hb.elim (fun h => Nat.lt_of_lt_of_le (hlt b h) x.size) (fun h => h.2)), hrm, fun hs => ?_, fun hs => ?_⟩
  · rw [hs] at hperm
    have : D.files.Perm [] := hperm
    exact this.eq_nil
  · rw [hs] at hperm
    have : D.files.Perm [(termName, whole (enc (termB N.term N.vote)))] := hperm
    exact List.perm_singleton.1 this

/-- What was recorded: of each term whom the vote went to. -/
def RecOk (N : PNode) (rec : List (Nat × Int)) : Prop := ∀ p ∈ rec, p.1 ≤ N.term ∧ (p.1 = N.term → N.vote = p.2) ∧ 0 ≤ p.2
/-- A node of five without entries. -/
def Bare (N : PNode) : Prop := N.id = 0 ∧ N.n = 5 ∧ N.log = []
theorem Bare.bytes {N : PNode} (h : Bare N) : N.bytes = 0 := by unfold PNode.bytes; rw [h.2.2]; rfl
/-- The node that starts anew, where its term was written and where it was not. -/
theorem Open_again (id d : Nat) (F : Nat → Prop) (D : PDisk) (N : PNode) (room : Nat) (s : Bool) (draw : Int) (w : World) (hd : DiskIs w d F D) (hb : BareDisk D N room s) (hN : Bare N) (hf : s = false → N.term = 0 ∧ N.vote = -1) (ht : N.term ≤ 1099511627776) (hv : -1 ≤ N.vote ∧ N.vote < 5) :
    Calls Tryz.prog 16 #[.int .i64 (0 : Nat), .int .i64 (5 : Nat), .pointer (some ⟨d, 0, none⟩), .int .i64 draw] w fun e w' => ∃ r N' s', e = .returned (.tuple #[.pointer (some ⟨r, 0, none⟩), .int .i64 0]) ∧ Ext F w w' ∧
      RaftIs w' r d (Gr F w w') N' room s' ∧ Bare N' ∧ N'.term = N.term ∧ N'.vote = N.vote := by
  obtain ⟨b1, b2, b3⟩ := hb
  cases s with
  | true =>
    refine (Open_saved 0 5 d F D draw N.term N.vote w hd (b3 rfl) (by omega) (.inr rfl) ht hv).mono ?_
    rintro e w' ⟨r, rfl, x, hR⟩
    rw [b1] at hR
    exact ⟨r, _, _, rfl, x, hR, ⟨rfl, rfl, rfl⟩, rfl, rfl⟩
  | false =>
    have hD : D = ⟨room, []⟩ := by
      obtain ⟨rm, fs⟩ := D
      have e1 : rm = room := b1
      have e2 : fs = [] := b2 rfl
      rw [e1, e2]
    rw [hD] at hd
    refine (Open_new 0 5 d F room draw w hd (by omega) (.inr (.inr rfl))).mono ?_
    rintro e w' ⟨r, rfl, x, hR⟩
    exact ⟨r, _, _, rfl, x, hR, ⟨rfl, rfl, rfl⟩, (hf rfl).1.symm, (hf rfl).2.symm⟩

/-- What a message that asks does to what was recorded: each vote that is given fits. -/
theorem hears_rec (N : PNode) (fr draw : Int) (nums : List Int) (dl : Nat) (rec : List (Nat × Int)) (hN : Bare N) (hv : -1 ≤ N.vote) (h : RecOk N rec) :
    Bare (N.hears fr draw nums dl).2 ∧ RecOk (N.hears fr draw nums dl).2 rec ∧
      ((N.hears fr draw nums dl).1 = [] ∨ ∃ y, (N.hears fr draw nums dl).1 = [voteMsg (N.hears fr draw nums dl).2 fr y] ∧ (y = 1 → (N.hears fr draw nums dl).2.vote = fr ∧ 0 ≤ fr) ∧ (y = 0 ∨ y = 1)) := by
  unfold PNode.hears
  by_cases h1 : fr < 0 ∨ (N.n : Int) ≤ fr ∨ fr = N.id ∨ mayB 1 nums dl = false
  · rw [if_pos h1]
    exact ⟨hN, h, .inl rfl⟩
  · rw [if_neg h1]
    have hfr : 0 ≤ fr := by omega
    have key : ∀ N1 : PNode, Bare N1 → RecOk N1 rec → Bare (if N1.grants fr (nums.getD 0 0) (nums.getD 1 0) (nums.getD 2 0) then ([voteMsg N1 fr 1], N1.gives fr draw) else ([voteMsg N1 fr 0], N1)).2 ∧
        RecOk (if N1.grants fr (nums.getD 0 0) (nums.getD 1 0) (nums.getD 2 0) then ([voteMsg N1 fr 1], N1.gives fr draw) else ([voteMsg N1 fr 0], N1)).2 rec ∧
        ((if N1.grants fr (nums.getD 0 0) (nums.getD 1 0) (nums.getD 2 0) then ([voteMsg N1 fr 1], N1.gives fr draw) else ([voteMsg N1 fr 0], N1)).1 = [] ∨
          ∃ y, (if N1.grants fr (nums.getD 0 0) (nums.getD 1 0) (nums.getD 2 0) then ([voteMsg N1 fr 1], N1.gives fr draw) else ([voteMsg N1 fr 0], N1)).1 = [voteMsg (if N1.grants fr (nums.getD 0 0) (nums.getD 1 0) (nums.getD 2 0) then ([voteMsg N1 fr 1], N1.gives fr draw) else ([voteMsg N1 fr 0], N1)).2 fr y] ∧
            (y = 1 → (if N1.grants fr (nums.getD 0 0) (nums.getD 1 0) (nums.getD 2 0) then ([voteMsg N1 fr 1], N1.gives fr draw) else ([voteMsg N1 fr 0], N1)).2.vote = fr ∧ 0 ≤ fr) ∧ (y = 0 ∨ y = 1)) := by
      intro N1 hB hR
      cases hg : N1.grants fr (nums.getD 0 0) (nums.getD 1 0) (nums.getD 2 0) with
      | false => exact ⟨hB, hR, Or.inr ⟨0, rfl, (fun h => by omega), Or.inl rfl⟩⟩
      | true =>
        refine ⟨hB, fun p hp => ?_, Or.inr ⟨1, rfl, (fun _ => ⟨rfl, hfr⟩), Or.inr rfl⟩⟩
        obtain ⟨k1, k2, k3⟩ := hR p hp
        refine ⟨k1, fun e => ?_, k3⟩
        have hvv := k2 e
        unfold PNode.grants at hg
        simp only [Bool.and_eq_true, Bool.or_eq_true, decide_eq_true_eq] at hg
        show fr = p.2
        rcases hg.1.2 with h | h <;> omega
    by_cases h2 : (N.term : Int) < nums.getD 0 0
    · simp only [if_pos h2]
      refine key (N.newer_ (nums.getD 0 0).toNat) ⟨hN.1, hN.2.1, hN.2.2⟩ (fun p hp => ?_)
      obtain ⟨k1, k2, k3⟩ := h p hp
      have : p.1 < (nums.getD 0 0).toNat := by omega
      exact ⟨Nat.le_of_lt this, fun e => by exact absurd e (by show ¬ (p.1 = (nums.getD 0 0).toNat); omega), k3⟩
    · simp only [if_neg h2]
      exact key N hN h
end Go.Proofs.YtgglbholbkdgfaaGreatDoor
/- Package raft: Hear of one that asks, whatever its numbers are. -/
namespace Go.Proofs.YtgglbholbkdgfaaGreatDoor
open Go.RowKit

set_option maxRecDepth 100000 in
set_option maxHeartbeats 400000 in
theorem good_short (a : Option Addr) (n c : Nat) (k : Int) (w : World) (h : (n : Int) ≠ k) : Calls Tryz.prog 83 #[.slice a n c, .int .i64 k] w fun e w' => e = .returned (.bool false) ∧ w = w' := by
  have hb1 : ((n : Int) != k) = true := by rw [bne_iff_ne]; exact h
  go_enter Tryz.func83, Tryz.ntmps83
  go_wp2_with fail
  go_ret
  exact ⟨rfl, rfl⟩

set_option maxRecDepth 100000 in
set_option maxHeartbeats 2000000 in
theorem may_short (r d : Nat) (F : Nat → Prop) (N : PNode) (D : PDisk) (ps : List PSeg) (fr : Nat) (na da : Option Addr) (nn nc dl dc : Nat) (w : World) (h : NodeIs w r d F N D ps) (hfr : fr < N.n) (hne : fr ≠ N.id) (hn : nn ≠ 3) :
    Calls Tryz.prog 45 #[.pointer (some ⟨r, 0, none⟩), msgV fr N.id 1 (.slice na nn nc) (.slice da dl dc)] w (MayEnds false w) := by
  obtain ⟨L, FD, FL, FR, tv, dl', hA, _⟩ := h
  have hb := hA.blk
  have c0 : w.cell? ⟨r, 0, none⟩ = some (.int .i64 N.id) := by rw [cell_of_blk hb]; rfl
  have c1 : w.cell? ⟨r, 1, none⟩ = some (.int .i64 N.n) := by rw [cell_of_blk hb]; rfl
  have hrl := lt_of_blk hb
  have hb1 : ((N.id : Int) != (N.id : Int)) = false := by simp
  have hb2 : decide ((fr : Int) < 0) = false := decide_eq_false (by omega)
  have hb3 : decide ((N.n : Int) ≤ (fr : Int)) = false := decide_eq_false (by omega)
  have hb4 : ((fr : Int) == (N.id : Int)) = false := beq_eq_false_iff_ne.2 (by omega)
  have hgood := Lib.hid (fun (w' : World) => good_short na nn nc 3 w' (by omega))
  clear hA hb
  unfold msgV
  go_enter Tryz.func45, Tryz.ntmps45
  go_wp2_with fail
  go_quiet (fail)
  go_wp2_with fail
  refine (hgood.out _).mono ?_; rintro e w2 ⟨rfl, rfl⟩
  go_wp2_with fail
  go_ret
  exact ⟨retBool rfl, ((Ext.refl NoB w).alloc _).drewN _⟩

theorem hears_none (N : PNode) (fr draw : Int) (dl : Nat) : N.hears fr draw [] dl = ([], N) := by
  unfold PNode.hears
  rw [if_pos (.inr (.inr (.inr rfl)))]
theorem Hear_all (r d : Nat) (F : Nat → Prop) (N : PNode) (room : Nat) (saved : Bool) (fr draw : Int) (na da : Option Addr) (nn nc dl dc : Nat) (w : World) (h : RaftIs w r d F N room saved)
    (h3 : nn = 3 → ∃ a b c : Int, Rd w 1 (.slice na 3 nc) (intsV [a, b, c]) ∧ Off F (.slice na 3 nc)) (hroom : N.bytes + 100 ≤ room) :
    Calls Tryz.prog 19 #[.pointer (some ⟨r, 0, none⟩), msgV fr N.id 1 (.slice na nn nc) (.slice da dl dc), .int .i64 draw] w (fun e w' => ∃ nums, SendsE r d F w (N.hears fr draw nums dl).1 (N.hears fr draw nums dl).2 room e w') := by
  by_cases hn : nn = 3
  · subst hn
    obtain ⟨a, b, c, hR, hO⟩ := h3 rfl
    exact (Hear_asks r d F N room saved fr draw na da nc dl dc [a, b, c] w h hR hO (by show 3 ≤ _; omega) hroom).mono (fun e w' hq => ⟨_, hq⟩)
  · obtain ⟨L, tv, hb, hi1, hi2, hcm, _⟩ := h.cells
    refine (Hear_refused r d F N room saved fr N.id 1 draw na da nn nc dl dc w h (fun w1 x => ?_)).mono (fun e w' hm => ⟨[], saved, by rw [hears_none]; exact hm⟩)
    obtain ⟨D, ps, hN, _, _⟩ := (h.no x).is
    by_cases hfr : fr < 0 ∨ (N.n : Int) ≤ fr ∨ fr = N.id
    · exact may_from r d F N D ps fr 1 na da nn nc dl dc w1 hN hfr
    · obtain ⟨f, rfl⟩ := Int.eq_ofNat_of_zero_le (a := fr) (by omega)
      exact may_short r d F N D ps f na da nn nc dl dc w1 hN (by omega) (by omega) hn
end Go.Proofs.YtgglbholbkdgfaaGreatDoor
