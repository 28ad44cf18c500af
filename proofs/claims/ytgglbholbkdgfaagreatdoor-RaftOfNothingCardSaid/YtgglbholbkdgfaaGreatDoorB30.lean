/- Package raft: Open of a new node; Open that is refused. -/
import Derived.Test.YtgglbholbkdgfaaGreatDoorB29
namespace Go.Proofs.YtgglbholbkdgfaaGreatDoor
open Go.RowKit

theorem zeroNode (w : World) : (zeroValue 92).run Tryz.prog w = .ok (.agg #[.int .i64 0, .int .i64 0, .pointer none, .pointer none, .slice none 0 0, .int .i64 0, .int .i64 0, .int .i64 0, .int .i64 0, .int .i64 0, .int .i64 0, .int .i64 0, .int .u8 0,
    .int .i64 0, .int .i64 0, .int .i64 0, .int .i64 0, .int .i64 0, .int .i64 0, .int .i64 0, .int .i64 0, .int .i64 0, .int .i64 0, .bool false]) w := by kernel_rfl

set_option maxRecDepth 100000 in
set_option maxHeartbeats 1000000 in
theorem Open_nodisk (draw : Int) (w : World) : Calls Tryz.prog 16 #[.int .i64 0, .int .i64 1, .pointer none, .int .i64 draw] w fun e w' => e = .returned (.tuple #[.pointer none, .int .i64 1]) ∧ Ext NoB w w' := by
  go_enter Tryz.func16, Tryz.ntmps16
  go_wp2_with fail
  go_ret2
  exact ⟨rfl, Ext.refl _ w⟩
set_option maxRecDepth 100000 in
set_option maxHeartbeats 1000000 in
theorem Open_two (d : Nat) (draw : Int) (w : World) : Calls Tryz.prog 16 #[.int .i64 0, .int .i64 2, .pointer (some ⟨d, 0, none⟩), .int .i64 draw] w fun e w' => e = .returned (.tuple #[.pointer none, .int .i64 1]) ∧ Ext NoB w w' := by
  go_enter Tryz.func16, Tryz.ntmps16
  go_wp2_with fail
  go_ret2
  exact ⟨rfl, Ext.refl _ w⟩

/-- A node that was never started before. -/
def newNode (id n : Nat) (draw : Int) : PNode := ⟨id, n, 0, -1, 0, -1, 0, 0, 10 + (max 0 draw) % 10, 0, fun _ => 0, fun _ => 0, []⟩

set_option maxRecDepth 100000 in
set_option maxHeartbeats 4000000 in
theorem Open_new (id n d : Nat) (F : Nat → Prop) (room : Nat) (draw : Int) (w : World) (hd : DiskIs w d F ⟨room, []⟩) (hid : id < n) (hn : n = 1 ∨ n = 3 ∨ n = 5) :
    Calls Tryz.prog 16 #[.int .i64 id, .int .i64 n, .pointer (some ⟨d, 0, none⟩), .int .i64 draw] w fun e w' => ∃ r, e = .returned (.tuple #[.pointer (some ⟨r, 0, none⟩), .int .i64 0]) ∧ Ext F w w' ∧
      RaftIs w' r d (Gr F w w') (newNode id n draw) room false := by
  have hz := zeroNode
  have hload := Lib.hid (fun (w' : World) (x : Ext NoB w w') => Load_none d F ⟨room, []⟩ termName w' (hd.no x) rfl)
  have hopen := Lib.hid (fun (w' : World) (x : Ext NoB w w') => LogOpen_empty d F ⟨room, []⟩ logPre w' (hd.no x) rfl (by decide))
  have hi1 : ¬ ((id : Int) < 0) := by omega
  have hi2 : ¬ ((n : Int) ≤ (id : Int)) := by omega
  have HD := Lib.hid hd
  have HI := Lib.hid hid
  have HN := Lib.hid hn
  clear hd hid
  rcases hn with rfl | rfl | rfl
  · go_enter Tryz.func16, Tryz.ntmps16
    go_wp2_with fail
    obtain ⟨w1, r, e1, e2, x1, b1, hs1⟩ := alloc_facts w (.cells #[.int .i64 id, .int .i64 1, .pointer (some ⟨d, 0, none⟩), .pointer none, .slice none 0 0, .int .i64 0, .int .i64 (-1), .int .i64 0, .int .i64 (-1), .int .i64 0, .int .i64 0, .int .i64 0, .int .u8 0,
      .int .i64 0, .int .i64 0, .int .i64 0, .int .i64 0, .int .i64 0, .int .i64 0, .int .i64 0, .int .i64 0, .int .i64 0, .int .i64 0, .bool false] 92)
    rw [e1, e2]
    refine (hload.out w1 x1).mono ?_; rintro e w2 ⟨rfl, x2⟩
    have y2 := x1.trans x2
    have b2 := x2.blk b1 (fun h => h)
    have Hb2 := Lib.hid b2
    have Hr := Lib.hid e2
    clear e1 e2 b1 b2 hs1
    go_wp2_with fail
    refine (hopen.out w2 y2).mono ?_; rintro e w3 ⟨L, rfl, hL, l3, x3⟩
    have y3 := y2.trans x3
    have b3 := x3.blk Hb2.out (fun h => h)
    have c3 : w3.cell? ⟨r, 3, none⟩ = some (.pointer none) := by rw [cell_of_blk b3]; rfl
    have f3 : w3.frozen? ⟨r, 3, none⟩ = false := frozen_of_blk b3 3
    have hrL : r < L := Nat.lt_of_lt_of_le (lt_of_blk Hb2.out) hL
    have Hb3 := Lib.hid b3
    have Hl3 := Lib.hid l3
    have Hx3 := Lib.hid x3
    clear b3 l3 x3
    go_wp2_with fail
    have xs4 : Ext (fun b => b = r) w3 (w3.setCell ⟨r, 3, none⟩ (.pointer (some ⟨L, 0, none⟩))) := (Ext.refl (fun b => b = r) w3).setCell (p := ⟨r, 3, none⟩) (.inl rfl) _
    have b4 := blk_setCell Hb3.out 3 (.pointer (some ⟨L, 0, none⟩))
    generalize (w3.setCell ⟨r, 3, none⟩ (.pointer (some ⟨L, 0, none⟩))) = w4 at xs4 b4 ⊢
    have l4 := Hl3.out.ext xs4 (fun b hb h => by subst hb; omega)
    have hwr : w.heap.size = r := Hr.out
    have y4 : Ext NoB w w4 := by
      refine y3.trans' xs4 (fun _ _ h => h) (fun b hb h => ?_)
      subst h; omega
    have c4 : w4.cell? ⟨r, 3, none⟩ = some (.pointer (some ⟨L, 0, none⟩)) := by rw [cell_of_blk b4]; rfl
    have Hb4 := Lib.hid b4
    have Hl4 := Lib.hid l4
    clear c3 f3 b4 l4 xs4
    refine (Bounds_any L d _ logPre _ [] 1 w4 Hl4.out).mono ?_; rintro e w5 ⟨rfl, x5⟩
    have y5 := y4.trans x5
    have c5 := x5.cell c4 (fun h => h)
    have hNode : NodeIs w5 r d (Gr F w w5) { newNode id 1 draw with wait := 0 } ⟨room, []⟩ [] := by
      have hd5 := HD.out.no y5
      have hlt := HD.out.lt
      have b5 := x5.blk Hb4.out (fun h => h)
      have l5 := Hl4.out.no x5
      have hL5 := l5.lt L rfl
      refine ⟨L, F, (fun b => b = L), (fun b => b = r), .slice none 0 0, false, ⟨b5, rfl, Own.nil _ _ _, fun g hg => (by cases hg), ⟨hd5, ⟨_, _, l5, rfl, by simp⟩, ?_⟩, ?_, ?_, ?_, rfl, ⟨HI.out, Nat.le_of_ble_eq_true rfl⟩, Nat.zero_le _⟩, ?_, ?_⟩
      · intro b hb h; subst h; have := hlt _ hb; omega
      · intro b hb h; subst hb; have := hlt _ h; omega
      · intro b hb h; subst hb; omega
      · intro b hb; subst hb; exact lt_of_blk b5
      · intro b hb
        rcases hb with hb | hb | hb
        · exact .inl hb
        · subst hb; exact .inr (by omega)
        · subst hb; exact .inr ⟨by omega, lt_of_blk b5⟩
      · intro b hb
        rcases hb with hb | hb
        · exact Nat.lt_of_lt_of_le (hlt b hb) y5.size
        · exact hb.2
    have Hnode := Lib.hid hNode
    have Hy5 := Lib.hid y5
    clear hNode c4
    go_wp2_with fail
    refine wp_loop_rounds 1 ?_
    rw [rounds_succ]
    go_wp2_with fail
    refine (anew_any r d _ _ _ [] draw w5 Hnode.out).mono ?_; rintro e w6 ⟨rfl, x6, n6⟩
    have Hn6 := Lib.hid n6
    have Hx6 := Lib.hid x6
    clear n6 x6
    go_wp2_with fail
    go_ret2
    have hsz := Hx6.out.size
    refine ⟨r, rfl, (Hy5.out.of_no).next Hx6.out (fun b h hb => h.elim (fun k => k) (fun h => by omega)), ⟨⟨room, []⟩, [], ?_, rfl, .refl _⟩, fun _ => ⟨rfl, rfl⟩, (show (-1 : Int) ≤ -1 ∧ (-1 : Int) ≤ 5 by decide), Nat.zero_le _⟩
    obtain ⟨L', FD, FL, FR, tv, dl, h1, h2, h3⟩ := Hn6.out
    refine ⟨L', FD, FL, FR, tv, dl, h1, fun b hb => ?_, fun b hb => ?_⟩
    · rcases h2 b hb with h | h
      · exact .inl h
      · exact .inr (by omega)
    · rcases hb with hb | hb
      · exact h3 b (.inl hb)
      · exact hb.2
  · go_enter Tryz.func16, Tryz.ntmps16
    go_wp2_with fail
    obtain ⟨w1, r, e1, e2, x1, b1, hs1⟩ := alloc_facts w (.cells #[.int .i64 id, .int .i64 3, .pointer (some ⟨d, 0, none⟩), .pointer none, .slice none 0 0, .int .i64 0, .int .i64 (-1), .int .i64 0, .int .i64 (-1), .int .i64 0, .int .i64 0, .int .i64 0, .int .u8 0,
      .int .i64 0, .int .i64 0, .int .i64 0, .int .i64 0, .int .i64 0, .int .i64 0, .int .i64 0, .int .i64 0, .int .i64 0, .int .i64 0, .bool false] 92)
    rw [e1, e2]
    refine (hload.out w1 x1).mono ?_; rintro e w2 ⟨rfl, x2⟩
    have y2 := x1.trans x2
    have b2 := x2.blk b1 (fun h => h)
    have Hb2 := Lib.hid b2
    have Hr := Lib.hid e2
    clear e1 e2 b1 b2 hs1
    go_wp2_with fail
    refine (hopen.out w2 y2).mono ?_; rintro e w3 ⟨L, rfl, hL, l3, x3⟩
    have y3 := y2.trans x3
    have b3 := x3.blk Hb2.out (fun h => h)
    have c3 : w3.cell? ⟨r, 3, none⟩ = some (.pointer none) := by rw [cell_of_blk b3]; rfl
    have f3 : w3.frozen? ⟨r, 3, none⟩ = false := frozen_of_blk b3 3
    have hrL : r < L := Nat.lt_of_lt_of_le (lt_of_blk Hb2.out) hL
    have Hb3 := Lib.hid b3
    have Hl3 := Lib.hid l3
    have Hx3 := Lib.hid x3
    clear b3 l3 x3
    go_wp2_with fail
    have xs4 : Ext (fun b => b = r) w3 (w3.setCell ⟨r, 3, none⟩ (.pointer (some ⟨L, 0, none⟩))) := (Ext.refl (fun b => b = r) w3).setCell (p := ⟨r, 3, none⟩) (.inl rfl) _
    have b4 := blk_setCell Hb3.out 3 (.pointer (some ⟨L, 0, none⟩))
    generalize (w3.setCell ⟨r, 3, none⟩ (.pointer (some ⟨L, 0, none⟩))) = w4 at xs4 b4 ⊢
    have l4 := Hl3.out.ext xs4 (fun b hb h => by subst hb; omega)
    have hwr : w.heap.size = r := Hr.out
    have y4 : Ext NoB w w4 := by
      refine y3.trans' xs4 (fun _ _ h => h) (fun b hb h => ?_)
      subst h; omega
    have c4 : w4.cell? ⟨r, 3, none⟩ = some (.pointer (some ⟨L, 0, none⟩)) := by rw [cell_of_blk b4]; rfl
    have Hb4 := Lib.hid b4
    have Hl4 := Lib.hid l4
    clear c3 f3 b4 l4 xs4
    refine (Bounds_any L d _ logPre _ [] 1 w4 Hl4.out).mono ?_; rintro e w5 ⟨rfl, x5⟩
    have y5 := y4.trans x5
    have c5 := x5.cell c4 (fun h => h)
    have hNode : NodeIs w5 r d (Gr F w w5) { newNode id 3 draw with wait := 0 } ⟨room, []⟩ [] := by
      have hd5 := HD.out.no y5
      have hlt := HD.out.lt
      have b5 := x5.blk Hb4.out (fun h => h)
      have l5 := Hl4.out.no x5
      have hL5 := l5.lt L rfl
      refine ⟨L, F, (fun b => b = L), (fun b => b = r), .slice none 0 0, false, ⟨b5, rfl, Own.nil _ _ _, fun g hg => (by cases hg), ⟨hd5, ⟨_, _, l5, rfl, by simp⟩, ?_⟩, ?_, ?_, ?_, rfl, ⟨HI.out, Nat.le_of_ble_eq_true rfl⟩, Nat.zero_le _⟩, ?_, ?_⟩
      · intro b hb h; subst h; have := hlt _ hb; omega
      · intro b hb h; subst hb; have := hlt _ h; omega
      · intro b hb h; subst hb; omega
      · intro b hb; subst hb; exact lt_of_blk b5
      · intro b hb
        rcases hb with hb | hb | hb
        · exact .inl hb
        · subst hb; exact .inr (by omega)
        · subst hb; exact .inr ⟨by omega, lt_of_blk b5⟩
      · intro b hb
        rcases hb with hb | hb
        · exact Nat.lt_of_lt_of_le (hlt b hb) y5.size
        · exact hb.2
    have Hnode := Lib.hid hNode
    have Hy5 := Lib.hid y5
    clear hNode c4
    go_wp2_with fail
    refine wp_loop_rounds 1 ?_
    rw [rounds_succ]
    go_wp2_with fail
    refine (anew_any r d _ _ _ [] draw w5 Hnode.out).mono ?_; rintro e w6 ⟨rfl, x6, n6⟩
    have Hn6 := Lib.hid n6
    have Hx6 := Lib.hid x6
    clear n6 x6
    go_wp2_with fail
    go_ret2
    have hsz := Hx6.out.size
    refine ⟨r, rfl, (Hy5.out.of_no).next Hx6.out (fun b h hb => h.elim (fun k => k) (fun h => by omega)), ⟨⟨room, []⟩, [], ?_, rfl, .refl _⟩, fun _ => ⟨rfl, rfl⟩, (show (-1 : Int) ≤ -1 ∧ (-1 : Int) ≤ 5 by decide), Nat.zero_le _⟩
    obtain ⟨L', FD, FL, FR, tv, dl, h1, h2, h3⟩ := Hn6.out
    refine ⟨L', FD, FL, FR, tv, dl, h1, fun b hb => ?_, fun b hb => ?_⟩
    · rcases h2 b hb with h | h
      · exact .inl h
      · exact .inr (by omega)
    · rcases hb with hb | hb
      · exact h3 b (.inl hb)
      · exact hb.2
  · go_enter Tryz.func16, Tryz.ntmps16
    go_wp2_with fail
    obtain ⟨w1, r, e1, e2, x1, b1, hs1⟩ := alloc_facts w (.cells #[.int .i64 id, .int .i64 5, .pointer (some ⟨d, 0, none⟩), .pointer none, .slice none 0 0, .int .i64 0, .int .i64 (-1), .int .i64 0, .int .i64 (-1), .int .i64 0, .int .i64 0, .int .i64 0, .int .u8 0,
      .int .i64 0, .int .i64 0, .int .i64 0, .int .i64 0, .int .i64 0, .int .i64 0, .int .i64 0, .int .i64 0, .int .i64 0, .int .i64 0, .bool false] 92)
    rw [e1, e2]
    refine (hload.out w1 x1).mono ?_; rintro e w2 ⟨rfl, x2⟩
    have y2 := x1.trans x2
    have b2 := x2.blk b1 (fun h => h)
    have Hb2 := Lib.hid b2
    have Hr := Lib.hid e2
    clear e1 e2 b1 b2 hs1
    go_wp2_with fail
    refine (hopen.out w2 y2).mono ?_; rintro e w3 ⟨L, rfl, hL, l3, x3⟩
    have y3 := y2.trans x3
    have b3 := x3.blk Hb2.out (fun h => h)
    have c3 : w3.cell? ⟨r, 3, none⟩ = some (.pointer none) := by rw [cell_of_blk b3]; rfl
    have f3 : w3.frozen? ⟨r, 3, none⟩ = false := frozen_of_blk b3 3
    have hrL : r < L := Nat.lt_of_lt_of_le (lt_of_blk Hb2.out) hL
    have Hb3 := Lib.hid b3
    have Hl3 := Lib.hid l3
    have Hx3 := Lib.hid x3
    clear b3 l3 x3
    go_wp2_with fail
    have xs4 : Ext (fun b => b = r) w3 (w3.setCell ⟨r, 3, none⟩ (.pointer (some ⟨L, 0, none⟩))) := (Ext.refl (fun b => b = r) w3).setCell (p := ⟨r, 3, none⟩) (.inl rfl) _
    have b4 := blk_setCell Hb3.out 3 (.pointer (some ⟨L, 0, none⟩))
    generalize (w3.setCell ⟨r, 3, none⟩ (.pointer (some ⟨L, 0, none⟩))) = w4 at xs4 b4 ⊢
    have l4 := Hl3.out.ext xs4 (fun b hb h => by subst hb; omega)
    have hwr : w.heap.size = r := Hr.out
    have y4 : Ext NoB w w4 := by
      refine y3.trans' xs4 (fun _ _ h => h) (fun b hb h => ?_)
      subst h; omega
    have c4 : w4.cell? ⟨r, 3, none⟩ = some (.pointer (some ⟨L, 0, none⟩)) := by rw [cell_of_blk b4]; rfl
    have Hb4 := Lib.hid b4
    have Hl4 := Lib.hid l4
    clear c3 f3 b4 l4 xs4
    refine (Bounds_any L d _ logPre _ [] 1 w4 Hl4.out).mono ?_; rintro e w5 ⟨rfl, x5⟩
    have y5 := y4.trans x5
    have c5 := x5.cell c4 (fun h => h)
    have hNode : NodeIs w5 r d (Gr F w w5) { newNode id 5 draw with wait := 0 } ⟨room, []⟩ [] := by
      have hd5 := HD.out.no y5
      have hlt := HD.out.lt
      have b5 := x5.blk Hb4.out (fun h => h)
      have l5 := Hl4.out.no x5
      have hL5 := l5.lt L rfl
      refine ⟨L, F, (fun b => b = L), (fun b => b = r), .slice none 0 0, false, ⟨b5, rfl, Own.nil _ _ _, fun g hg => (by cases hg), ⟨hd5, ⟨_, _, l5, rfl, by simp⟩, ?_⟩, ?_, ?_, ?_, rfl, ⟨HI.out, Nat.le_of_ble_eq_true rfl⟩, Nat.zero_le _⟩, ?_, ?_⟩
      · intro b hb h; subst h; have := hlt _ hb; omega
      · intro b hb h; subst hb; have := hlt _ h; omega
      · intro b hb h; subst hb; omega
      · intro b hb; subst hb; exact lt_of_blk b5
      · intro b hb
        rcases hb with hb | hb | hb
        · exact .inl hb
        · subst hb; exact .inr (by omega)
        · subst hb; exact .inr ⟨by omega, lt_of_blk b5⟩
      · intro b hb
        rcases hb with hb | hb
        · exact Nat.lt_of_lt_of_le (hlt b hb) y5.size
        · exact hb.2
    have Hnode := Lib.hid hNode
    have Hy5 := Lib.hid y5
    clear hNode c4
    go_wp2_with fail
    refine wp_loop_rounds 1 ?_
    rw [rounds_succ]
    go_wp2_with fail
    refine (anew_any r d _ _ _ [] draw w5 Hnode.out).mono ?_; rintro e w6 ⟨rfl, x6, n6⟩
    have Hn6 := Lib.hid n6
    have Hx6 := Lib.hid x6
    clear n6 x6
    go_wp2_with fail
    go_ret2
    have hsz := Hx6.out.size
    refine ⟨r, rfl, (Hy5.out.of_no).next Hx6.out (fun b h hb => h.elim (fun k => k) (fun h => by omega)), ⟨⟨room, []⟩, [], ?_, rfl, .refl _⟩, fun _ => ⟨rfl, rfl⟩, (show (-1 : Int) ≤ -1 ∧ (-1 : Int) ≤ 5 by decide), Nat.zero_le _⟩
    obtain ⟨L', FD, FL, FR, tv, dl, h1, h2, h3⟩ := Hn6.out
    refine ⟨L', FD, FL, FR, tv, dl, h1, fun b hb => ?_, fun b hb => ?_⟩
    · rcases h2 b hb with h | h
      · exact .inl h
      · exact .inr (by omega)
    · rcases hb with hb | hb
      · exact h3 b (.inl hb)
      · exact hb.2
end Go.Proofs.YtgglbholbkdgfaaGreatDoor
