/- Joined texts: B82 B83. Each has its own head. -/
import Derived.Test.YtgglbholbkdgfaaGreatDoorK15
import Derived.Test.YtgglbholbkdgfaaGreatDoorK12
import Derived.Test.YtgglbholbkdgfaaGreatDoorK14
set_option linter.unusedVariables false
set_option linter.unusedSimpArgs false
namespace Go.Proofs.YtgglbholbkdgfaaGreatDoor
open Go.RowKit
end Go.Proofs.YtgglbholbkdgfaaGreatDoor
namespace Go.Proofs.YtgglbholbkdgfaaGreatDoor
open Go.RowKit
set_option maxRecDepth 100000 in
set_option maxHeartbeats 4000000 in
theorem Hear_new2 (r d : Nat) (F : Nat → Prop) (N N' : PNode) (room : Nat) (saved : Bool) (Ms : List PMsg) (fr tt draw : Int) (t0 : Nat) (na da : Option Addr) (nc dl dc : Nat) (l : List Int) (w : World) (h : RaftIs w r d F N room saved)
    (hn : Rd w 1 (.slice na l.length nc) (intsV l)) (hoff : Off F (.slice na l.length nc)) (h0 : l[0]? = some (t0 : Int)) (hgt : N.term < t0) (ht0 : t0 ≤ 1099511627776) (hroom : N.bytes + 100 ≤ room)
    (hmay : ∀ w1, Ext NoB w w1 → Calls Tryz.prog 45 #[.pointer (some ⟨r, 0, none⟩), msgV fr tt 2 (.slice na l.length nc) (.slice da dl dc)] w1 (MayEnds true w1))
    (hdo : ∀ w1 F1, Ext F w w1 → (∀ b, F1 b → F b ∨ w.heap.size ≤ b) → RaftIs w1 r d F1 (N.newer_ t0) room true → Calls Tryz.prog 48 #[.pointer (some ⟨r, 0, none⟩), msgV fr tt 2 (.slice na l.length nc) (.slice da dl dc)] w1 (Sends r d F1 w1 Ms N' room true)) :
    Calls Tryz.prog 19 #[.pointer (some ⟨r, 0, none⟩), msgV fr tt 2 (.slice na l.length nc) (.slice da dl dc), .int .i64 draw] w (Sends r d F w Ms N' room true) := by
  obtain ⟨L, tv, hb, hi1, hi2, hcm, hll⟩ := h.cells
  have hlp : 0 < l.length := (List.getElem?_eq_some_iff.1 h0).1
  obtain ⟨nb, noff, rfl, hcell⟩ := nums_cell hn hlp
  have hnbF : ¬ F nb := hoff nb rfl
  have cn0 : w.cell? ⟨nb, noff, none⟩ = some (.int .i64 t0) := hcell 0 t0 h0
  have hnbl : nb < w.heap.size := World.block_lt_of_cell? w _ cn0
  have c5 : w.cell? ⟨r, 5, none⟩ = some (.int .i64 N.term) := by rw [cell_of_blk hb]; rfl
  have c23 : w.cell? ⟨r, 23, none⟩ = some (.bool false) := by rw [cell_of_blk hb]; rfl
  have hlp2 : (0 : Int) < (l.length : Int) := by omega
  have hgt2 : (N.term : Int) < (t0 : Int) := by omega
  have hrl := lt_of_blk hb
  have H := Lib.hid h
  have Hn := Lib.hid hn
  have Hmay := Lib.hid hmay
  have Hdo := Lib.hid hdo
  have Hturn := Lib.hid (fun (w' : World) (x : Ext NoB w w') => turns_any r d F N room saved t0 (-1) w' (h.no x) ht0 (by omega) hroom)
  clear h hb hn hcell h0 hmay hdo hoff
  unfold msgV
  go_enter Tryz.func19, Tryz.ntmps19
  go_wp2_with fail
  obtain ⟨w1, BM, e1, e2, x1, b1, hs1⟩ := alloc_facts w (.cells #[.int .i64 fr, .int .i64 tt, .int .i64 2, .slice (some ⟨nb, noff, none⟩) l.length nc, .slice da dl dc] 37)
  rw [e1, e2]
  have hBMF : ¬ F BM := fun hf => by have := H.out.lt BM hf; omega
  refine (Hmay.out w1 x1).mono ?_; rintro e w2 ⟨rfl, x2⟩
  have x02 := x1.trans x2
  have b2 := x2.blk b1 (fun h => h)
  have dM3 : w2.cell? ⟨BM, 3, none⟩ = some (.slice (some ⟨nb, noff, none⟩) l.length nc) := by rw [cell_of_blk b2]; rfl
  have d5 := x02.cell c5 (fun h => h)
  have dn0 := x02.cell cn0 (fun h => h)
  have Hx02 := Lib.hid x02
  have Hb2 := Lib.hid b2
  have hBM2 : BM < w2.heap.size := lt_of_blk b2
  clear e1 x1 b1 hs1 x2 x02 b2 c5 cn0 c23
  go_wp2_with fail
  refine (Hturn.out w2 Hx02.out).mono ?_; rintro e w3 ⟨rfl, x3, r3⟩
  have b3 := x3.blk Hb2.out hBMF
  obtain ⟨L3, tv3, hb3, _, _, _, _⟩ := r3.cells
  have d7 : w3.cell? ⟨r, 7, none⟩ = some (.int .i64 N.role) := by rw [cell_of_blk hb3]; rfl
  have d8 : w3.cell? ⟨r, 8, none⟩ = some (.int .i64 N.leader) := by rw [cell_of_blk hb3]; rfl
  have f7 : w3.frozen? ⟨r, 7, none⟩ = false := frozen_of_blk hb3 7
  have f8 : w3.frozen? ⟨r, 8, none⟩ = false := frozen_of_blk hb3 8
  have hBMr : BM ≠ r := by omega
  have m0 : w3.cell? ⟨BM, 0, none⟩ = some (.int .i64 fr) := by rw [cell_of_blk b3]; rfl
  have m1 : w3.cell? ⟨BM, 1, none⟩ = some (.int .i64 tt) := by rw [cell_of_blk b3]; rfl
  have m2 : w3.cell? ⟨BM, 2, none⟩ = some (.int .i64 2) := by rw [cell_of_blk b3]; rfl
  have m3 : w3.cell? ⟨BM, 3, none⟩ = some (.slice (some ⟨nb, noff, none⟩) l.length nc) := by rw [cell_of_blk b3]; rfl
  have m4 : w3.cell? ⟨BM, 4, none⟩ = some (.slice da dl dc) := by rw [cell_of_blk b3]; rfl
  have hnbr : nb ≠ r := fun e => hnbF (by
    obtain ⟨_, _, ⟨_, _, _, _, _, _, k1, k2, _⟩, _, _⟩ := H.out.is
    exact e ▸ k2 r (.inr (.inr k1.self)))
  have xs : Ext (fun b => b = r) w3 ((w3.setCell ⟨r, 7, none⟩ (.int .i64 0)).setCell ⟨r, 8, none⟩ (.int .i64 (-1))) := ((Ext.refl (fun b => b = r) w3).setCell (p := ⟨r, 7, none⟩) (.inl rfl) _).setCell (p := ⟨r, 8, none⟩) (.inl rfl) _
  have r4 := RaftIs.set (N' := N.newer_ t0) r3 xs (fun L tv hb => blk_setCell (blk_setCell hb 7 _) 8 _) rfl ⟨hi1, hi2⟩ hcm rfl rfl
  have b4 := xs.blk b3 hBMr
  have Hb4 := Lib.hid b4
  have Hr4 := Lib.hid r4.1
  have Hx4 := Lib.hid r4.2
  have Hx3 := Lib.hid x3
  have hFF : ∀ b, Gr F w2 w3 b → b < w.heap.size → F b := fun b hb hl => hb.elim (fun h => h) (fun h => by have := Hx02.out.size; omega)
  have hgn : ¬ Gr F w2 w3 nb := fun hg => hnbF (hFF nb hg hnbl)
  have hn4 : Rd ((w3.setCell ⟨r, 7, none⟩ (.int .i64 0)).setCell ⟨r, 8, none⟩ (.int .i64 (-1))) 1 (.slice (some ⟨nb, noff, none⟩) l.length nc) (intsV l) := ((Hn.out.no Hx02.out).ext x3 (fun g hg => by cases hg; exact hnbF)).ext xs (fun g hg => by cases hg; exact hnbr)
  have Hn4 := Lib.hid hn4
  clear r4 r3 b3 hb3 b4 x3 xs dM3 d5 dn0 hn4
  go_wp2_with fail
  have y04 := (((Hx02.out.of_no).trans Hx3.out)).next Hx4.out (fun b h hb => hFF b h hb)
  refine (Hdo.out _ _ y04 (fun b hb => hb.elim .inl (fun h => .inr (by have := Hx02.out.size; omega))) Hr4.out).mono ?_; rintro e w5 hS
  have hltG := Hr4.out.lt
  obtain ⟨v, rfl, hm, hf, hx, hR⟩ := hS
  obtain ⟨ms, hms, hown⟩ := hm
  obtain ⟨va, vn, vc, rfl, _⟩ := hown.rd
  have Hm := Lib.hid hms
  have Ho := Lib.hid hown
  have Hf := Lib.hid hf
  have Hx := Lib.hid hx
  have HR := Lib.hid hR
  clear hms hown hf hx hR hltG
  go_wp2_with fail
  go_ret
  have x03 : Ext F w w3 := (Hx02.out.of_no).trans Hx3.out
  have x04 := x03.next Hx4.out (fun b h hb => hFF b h hb)
  have x05 := x04.next Hx.out (fun b h hb => hFF b h hb)
  have s3 := x03.size
  have s4 := x04.size
  have s45 := Hx.out.size
  have s34 := Hx4.out.size
  have s02 := Hx02.out.size
  have s23 := Hx3.out.size
  refine ⟨_, rfl, ⟨ms, Hm.out, Ho.out⟩, fun g hg => by have := Hf.out g hg; omega, x05, HR.out.wide (fun b hb => ?_) (fun b hb => ?_)⟩
  · rcases hb with (hb | hb) | hb
    · exact .inl hb
    · exact .inr (by omega)
    · exact .inr ⟨by omega, hb.2⟩
  · rcases hb with hb | hb
    · exact Nat.lt_of_lt_of_le (H.out.lt b hb) x05.size
    · exact hb.2
set_option maxRecDepth 100000 in
set_option maxHeartbeats 4000000 in
theorem Hear_new3 (r d : Nat) (F : Nat → Prop) (N N' : PNode) (room : Nat) (saved : Bool) (Ms : List PMsg) (fr tt draw : Int) (t0 : Nat) (na da : Option Addr) (nc dl dc : Nat) (l : List Int) (w : World) (h : RaftIs w r d F N room saved)
    (hn : Rd w 1 (.slice na l.length nc) (intsV l)) (hoff : Off F (.slice na l.length nc)) (h0 : l[0]? = some (t0 : Int)) (hgt : N.term < t0) (ht0 : t0 ≤ 1099511627776) (hroom : N.bytes + 100 ≤ room)
    (hmay : ∀ w1, Ext NoB w w1 → Calls Tryz.prog 45 #[.pointer (some ⟨r, 0, none⟩), msgV fr tt 3 (.slice na l.length nc) (.slice da dl dc)] w1 (MayEnds true w1))
    (hdo : ∀ w1 F1, Ext F w w1 → (∀ b, F1 b → F b ∨ w.heap.size ≤ b) → RaftIs w1 r d F1 (N.newer_ t0) room true → Calls Tryz.prog 49 #[.pointer (some ⟨r, 0, none⟩), msgV fr tt 3 (.slice na l.length nc) (.slice da dl dc), .int .i64 draw] w1 (Sends r d F1 w1 Ms N' room true)) :
    Calls Tryz.prog 19 #[.pointer (some ⟨r, 0, none⟩), msgV fr tt 3 (.slice na l.length nc) (.slice da dl dc), .int .i64 draw] w (Sends r d F w Ms N' room true) := by
  obtain ⟨L, tv, hb, hi1, hi2, hcm, hll⟩ := h.cells
  have hlp : 0 < l.length := (List.getElem?_eq_some_iff.1 h0).1
  obtain ⟨nb, noff, rfl, hcell⟩ := nums_cell hn hlp
  have hnbF : ¬ F nb := hoff nb rfl
  have cn0 : w.cell? ⟨nb, noff, none⟩ = some (.int .i64 t0) := hcell 0 t0 h0
  have hnbl : nb < w.heap.size := World.block_lt_of_cell? w _ cn0
  have c5 : w.cell? ⟨r, 5, none⟩ = some (.int .i64 N.term) := by rw [cell_of_blk hb]; rfl
  have c23 : w.cell? ⟨r, 23, none⟩ = some (.bool false) := by rw [cell_of_blk hb]; rfl
  have hlp2 : (0 : Int) < (l.length : Int) := by omega
  have hgt2 : (N.term : Int) < (t0 : Int) := by omega
  have hrl := lt_of_blk hb
  have H := Lib.hid h
  have Hn := Lib.hid hn
  have Hmay := Lib.hid hmay
  have Hdo := Lib.hid hdo
  have Hturn := Lib.hid (fun (w' : World) (x : Ext NoB w w') => turns_any r d F N room saved t0 (-1) w' (h.no x) ht0 (by omega) hroom)
  clear h hb hn hcell h0 hmay hdo hoff
  unfold msgV
  go_enter Tryz.func19, Tryz.ntmps19
  go_wp2_with fail
  obtain ⟨w1, BM, e1, e2, x1, b1, hs1⟩ := alloc_facts w (.cells #[.int .i64 fr, .int .i64 tt, .int .i64 3, .slice (some ⟨nb, noff, none⟩) l.length nc, .slice da dl dc] 37)
  rw [e1, e2]
  have hBMF : ¬ F BM := fun hf => by have := H.out.lt BM hf; omega
  refine (Hmay.out w1 x1).mono ?_; rintro e w2 ⟨rfl, x2⟩
  have x02 := x1.trans x2
  have b2 := x2.blk b1 (fun h => h)
  have dM3 : w2.cell? ⟨BM, 3, none⟩ = some (.slice (some ⟨nb, noff, none⟩) l.length nc) := by rw [cell_of_blk b2]; rfl
  have d5 := x02.cell c5 (fun h => h)
  have dn0 := x02.cell cn0 (fun h => h)
  have Hx02 := Lib.hid x02
  have Hb2 := Lib.hid b2
  have hBM2 : BM < w2.heap.size := lt_of_blk b2
  clear e1 x1 b1 hs1 x2 x02 b2 c5 cn0 c23
  go_wp2_with fail
  refine (Hturn.out w2 Hx02.out).mono ?_; rintro e w3 ⟨rfl, x3, r3⟩
  have b3 := x3.blk Hb2.out hBMF
  obtain ⟨L3, tv3, hb3, _, _, _, _⟩ := r3.cells
  have d7 : w3.cell? ⟨r, 7, none⟩ = some (.int .i64 N.role) := by rw [cell_of_blk hb3]; rfl
  have d8 : w3.cell? ⟨r, 8, none⟩ = some (.int .i64 N.leader) := by rw [cell_of_blk hb3]; rfl
  have f7 : w3.frozen? ⟨r, 7, none⟩ = false := frozen_of_blk hb3 7
  have f8 : w3.frozen? ⟨r, 8, none⟩ = false := frozen_of_blk hb3 8
  have hBMr : BM ≠ r := by omega
  have m0 : w3.cell? ⟨BM, 0, none⟩ = some (.int .i64 fr) := by rw [cell_of_blk b3]; rfl
  have m1 : w3.cell? ⟨BM, 1, none⟩ = some (.int .i64 tt) := by rw [cell_of_blk b3]; rfl
  have m2 : w3.cell? ⟨BM, 2, none⟩ = some (.int .i64 3) := by rw [cell_of_blk b3]; rfl
  have m3 : w3.cell? ⟨BM, 3, none⟩ = some (.slice (some ⟨nb, noff, none⟩) l.length nc) := by rw [cell_of_blk b3]; rfl
  have m4 : w3.cell? ⟨BM, 4, none⟩ = some (.slice da dl dc) := by rw [cell_of_blk b3]; rfl
  have hnbr : nb ≠ r := fun e => hnbF (by
    obtain ⟨_, _, ⟨_, _, _, _, _, _, k1, k2, _⟩, _, _⟩ := H.out.is
    exact e ▸ k2 r (.inr (.inr k1.self)))
  have xs : Ext (fun b => b = r) w3 ((w3.setCell ⟨r, 7, none⟩ (.int .i64 0)).setCell ⟨r, 8, none⟩ (.int .i64 (-1))) := ((Ext.refl (fun b => b = r) w3).setCell (p := ⟨r, 7, none⟩) (.inl rfl) _).setCell (p := ⟨r, 8, none⟩) (.inl rfl) _
  have r4 := RaftIs.set (N' := N.newer_ t0) r3 xs (fun L tv hb => blk_setCell (blk_setCell hb 7 _) 8 _) rfl ⟨hi1, hi2⟩ hcm rfl rfl
  have b4 := xs.blk b3 hBMr
  have Hb4 := Lib.hid b4
  have Hr4 := Lib.hid r4.1
  have Hx4 := Lib.hid r4.2
  have Hx3 := Lib.hid x3
  have hFF : ∀ b, Gr F w2 w3 b → b < w.heap.size → F b := fun b hb hl => hb.elim (fun h => h) (fun h => by have := Hx02.out.size; omega)
  have hgn : ¬ Gr F w2 w3 nb := fun hg => hnbF (hFF nb hg hnbl)
  have hn4 : Rd ((w3.setCell ⟨r, 7, none⟩ (.int .i64 0)).setCell ⟨r, 8, none⟩ (.int .i64 (-1))) 1 (.slice (some ⟨nb, noff, none⟩) l.length nc) (intsV l) := ((Hn.out.no Hx02.out).ext x3 (fun g hg => by cases hg; exact hnbF)).ext xs (fun g hg => by cases hg; exact hnbr)
  have Hn4 := Lib.hid hn4
  clear r4 r3 b3 hb3 b4 x3 xs dM3 d5 dn0 hn4
  go_wp2_with fail
  have y04 := (((Hx02.out.of_no).trans Hx3.out)).next Hx4.out (fun b h hb => hFF b h hb)
  refine (Hdo.out _ _ y04 (fun b hb => hb.elim .inl (fun h => .inr (by have := Hx02.out.size; omega))) Hr4.out).mono ?_; rintro e w5 hS
  have hltG := Hr4.out.lt
  obtain ⟨v, rfl, hm, hf, hx, hR⟩ := hS
  obtain ⟨ms, hms, hown⟩ := hm
  obtain ⟨va, vn, vc, rfl, _⟩ := hown.rd
  have Hm := Lib.hid hms
  have Ho := Lib.hid hown
  have Hf := Lib.hid hf
  have Hx := Lib.hid hx
  have HR := Lib.hid hR
  clear hms hown hf hx hR hltG
  go_wp2_with fail
  go_ret
  have x03 : Ext F w w3 := (Hx02.out.of_no).trans Hx3.out
  have x04 := x03.next Hx4.out (fun b h hb => hFF b h hb)
  have x05 := x04.next Hx.out (fun b h hb => hFF b h hb)
  have s3 := x03.size
  have s4 := x04.size
  have s45 := Hx.out.size
  have s34 := Hx4.out.size
  have s02 := Hx02.out.size
  have s23 := Hx3.out.size
  refine ⟨_, rfl, ⟨ms, Hm.out, Ho.out⟩, fun g hg => by have := Hf.out g hg; omega, x05, HR.out.wide (fun b hb => ?_) (fun b hb => ?_)⟩
  · rcases hb with (hb | hb) | hb
    · exact .inl hb
    · exact .inr (by omega)
    · exact .inr ⟨by omega, hb.2⟩
  · rcases hb with hb | hb
    · exact Nat.lt_of_lt_of_le (H.out.lt b hb) x05.size
    · exact hb.2
set_option maxRecDepth 100000 in
set_option maxHeartbeats 4000000 in
theorem Hear_new4 (r d : Nat) (F : Nat → Prop) (N N' : PNode) (room : Nat) (saved : Bool) (Ms : List PMsg) (fr tt draw : Int) (t0 : Nat) (na da : Option Addr) (nc dl dc : Nat) (l : List Int) (w : World) (h : RaftIs w r d F N room saved)
    (hn : Rd w 1 (.slice na l.length nc) (intsV l)) (hoff : Off F (.slice na l.length nc)) (h0 : l[0]? = some (t0 : Int)) (hgt : N.term < t0) (ht0 : t0 ≤ 1099511627776) (hroom : N.bytes + 100 ≤ room)
    (hmay : ∀ w1, Ext NoB w w1 → Calls Tryz.prog 45 #[.pointer (some ⟨r, 0, none⟩), msgV fr tt 4 (.slice na l.length nc) (.slice da dl dc)] w1 (MayEnds true w1))
    (hdo : ∀ w1 F1, Ext F w w1 → (∀ b, F1 b → F b ∨ w.heap.size ≤ b) → RaftIs w1 r d F1 (N.newer_ t0) room true → Calls Tryz.prog 50 #[.pointer (some ⟨r, 0, none⟩), msgV fr tt 4 (.slice na l.length nc) (.slice da dl dc)] w1 (Sends r d F1 w1 Ms N' room true)) :
    Calls Tryz.prog 19 #[.pointer (some ⟨r, 0, none⟩), msgV fr tt 4 (.slice na l.length nc) (.slice da dl dc), .int .i64 draw] w (Sends r d F w Ms N' room true) := by
  obtain ⟨L, tv, hb, hi1, hi2, hcm, hll⟩ := h.cells
  have hlp : 0 < l.length := (List.getElem?_eq_some_iff.1 h0).1
  obtain ⟨nb, noff, rfl, hcell⟩ := nums_cell hn hlp
  have hnbF : ¬ F nb := hoff nb rfl
  have cn0 : w.cell? ⟨nb, noff, none⟩ = some (.int .i64 t0) := hcell 0 t0 h0
  have hnbl : nb < w.heap.size := World.block_lt_of_cell? w _ cn0
  have c5 : w.cell? ⟨r, 5, none⟩ = some (.int .i64 N.term) := by rw [cell_of_blk hb]; rfl
  have c23 : w.cell? ⟨r, 23, none⟩ = some (.bool false) := by rw [cell_of_blk hb]; rfl
  have hlp2 : (0 : Int) < (l.length : Int) := by omega
  have hgt2 : (N.term : Int) < (t0 : Int) := by omega
  have hrl := lt_of_blk hb
  have H := Lib.hid h
  have Hn := Lib.hid hn
  have Hmay := Lib.hid hmay
  have Hdo := Lib.hid hdo
  have Hturn := Lib.hid (fun (w' : World) (x : Ext NoB w w') => turns_any r d F N room saved t0 (-1) w' (h.no x) ht0 (by omega) hroom)
  clear h hb hn hcell h0 hmay hdo hoff
  unfold msgV
  go_enter Tryz.func19, Tryz.ntmps19
  go_wp2_with fail
  obtain ⟨w1, BM, e1, e2, x1, b1, hs1⟩ := alloc_facts w (.cells #[.int .i64 fr, .int .i64 tt, .int .i64 4, .slice (some ⟨nb, noff, none⟩) l.length nc, .slice da dl dc] 37)
  rw [e1, e2]
  have hBMF : ¬ F BM := fun hf => by have := H.out.lt BM hf; omega
  refine (Hmay.out w1 x1).mono ?_; rintro e w2 ⟨rfl, x2⟩
  have x02 := x1.trans x2
  have b2 := x2.blk b1 (fun h => h)
  have dM3 : w2.cell? ⟨BM, 3, none⟩ = some (.slice (some ⟨nb, noff, none⟩) l.length nc) := by rw [cell_of_blk b2]; rfl
  have d5 := x02.cell c5 (fun h => h)
  have dn0 := x02.cell cn0 (fun h => h)
  have Hx02 := Lib.hid x02
  have Hb2 := Lib.hid b2
  have hBM2 : BM < w2.heap.size := lt_of_blk b2
  clear e1 x1 b1 hs1 x2 x02 b2 c5 cn0 c23
  go_wp2_with fail
  refine (Hturn.out w2 Hx02.out).mono ?_; rintro e w3 ⟨rfl, x3, r3⟩
  have b3 := x3.blk Hb2.out hBMF
  obtain ⟨L3, tv3, hb3, _, _, _, _⟩ := r3.cells
  have d7 : w3.cell? ⟨r, 7, none⟩ = some (.int .i64 N.role) := by rw [cell_of_blk hb3]; rfl
  have d8 : w3.cell? ⟨r, 8, none⟩ = some (.int .i64 N.leader) := by rw [cell_of_blk hb3]; rfl
  have f7 : w3.frozen? ⟨r, 7, none⟩ = false := frozen_of_blk hb3 7
  have f8 : w3.frozen? ⟨r, 8, none⟩ = false := frozen_of_blk hb3 8
  have hBMr : BM ≠ r := by omega
  have m0 : w3.cell? ⟨BM, 0, none⟩ = some (.int .i64 fr) := by rw [cell_of_blk b3]; rfl
  have m1 : w3.cell? ⟨BM, 1, none⟩ = some (.int .i64 tt) := by rw [cell_of_blk b3]; rfl
  have m2 : w3.cell? ⟨BM, 2, none⟩ = some (.int .i64 4) := by rw [cell_of_blk b3]; rfl
  have m3 : w3.cell? ⟨BM, 3, none⟩ = some (.slice (some ⟨nb, noff, none⟩) l.length nc) := by rw [cell_of_blk b3]; rfl
  have m4 : w3.cell? ⟨BM, 4, none⟩ = some (.slice da dl dc) := by rw [cell_of_blk b3]; rfl
  have hnbr : nb ≠ r := fun e => hnbF (by
    obtain ⟨_, _, ⟨_, _, _, _, _, _, k1, k2, _⟩, _, _⟩ := H.out.is
    exact e ▸ k2 r (.inr (.inr k1.self)))
  have xs : Ext (fun b => b = r) w3 ((w3.setCell ⟨r, 7, none⟩ (.int .i64 0)).setCell ⟨r, 8, none⟩ (.int .i64 (-1))) := ((Ext.refl (fun b => b = r) w3).setCell (p := ⟨r, 7, none⟩) (.inl rfl) _).setCell (p := ⟨r, 8, none⟩) (.inl rfl) _
  have r4 := RaftIs.set (N' := N.newer_ t0) r3 xs (fun L tv hb => blk_setCell (blk_setCell hb 7 _) 8 _) rfl ⟨hi1, hi2⟩ hcm rfl rfl
  have b4 := xs.blk b3 hBMr
  have Hb4 := Lib.hid b4
  have Hr4 := Lib.hid r4.1
  have Hx4 := Lib.hid r4.2
  have Hx3 := Lib.hid x3
  have hFF : ∀ b, Gr F w2 w3 b → b < w.heap.size → F b := fun b hb hl => hb.elim (fun h => h) (fun h => by have := Hx02.out.size; omega)
  have hgn : ¬ Gr F w2 w3 nb := fun hg => hnbF (hFF nb hg hnbl)
  have hn4 : Rd ((w3.setCell ⟨r, 7, none⟩ (.int .i64 0)).setCell ⟨r, 8, none⟩ (.int .i64 (-1))) 1 (.slice (some ⟨nb, noff, none⟩) l.length nc) (intsV l) := ((Hn.out.no Hx02.out).ext x3 (fun g hg => by cases hg; exact hnbF)).ext xs (fun g hg => by cases hg; exact hnbr)
  have Hn4 := Lib.hid hn4
  clear r4 r3 b3 hb3 b4 x3 xs dM3 d5 dn0 hn4
  go_wp2_with fail
  have y04 := (((Hx02.out.of_no).trans Hx3.out)).next Hx4.out (fun b h hb => hFF b h hb)
  refine (Hdo.out _ _ y04 (fun b hb => hb.elim .inl (fun h => .inr (by have := Hx02.out.size; omega))) Hr4.out).mono ?_; rintro e w5 hS
  have hltG := Hr4.out.lt
  obtain ⟨v, rfl, hm, hf, hx, hR⟩ := hS
  obtain ⟨ms, hms, hown⟩ := hm
  obtain ⟨va, vn, vc, rfl, _⟩ := hown.rd
  have Hm := Lib.hid hms
  have Ho := Lib.hid hown
  have Hf := Lib.hid hf
  have Hx := Lib.hid hx
  have HR := Lib.hid hR
  clear hms hown hf hx hR hltG
  go_wp2_with fail
  go_ret
  have x03 : Ext F w w3 := (Hx02.out.of_no).trans Hx3.out
  have x04 := x03.next Hx4.out (fun b h hb => hFF b h hb)
  have x05 := x04.next Hx.out (fun b h hb => hFF b h hb)
  have s3 := x03.size
  have s4 := x04.size
  have s45 := Hx.out.size
  have s34 := Hx4.out.size
  have s02 := Hx02.out.size
  have s23 := Hx3.out.size
  refine ⟨_, rfl, ⟨ms, Hm.out, Ho.out⟩, fun g hg => by have := Hf.out g hg; omega, x05, HR.out.wide (fun b hb => ?_) (fun b hb => ?_)⟩
  · rcases hb with (hb | hb) | hb
    · exact .inl hb
    · exact .inr (by omega)
    · exact .inr ⟨by omega, hb.2⟩
  · rcases hb with hb | hb
    · exact Nat.lt_of_lt_of_le (H.out.lt b hb) x05.size
    · exact hb.2
set_option maxRecDepth 100000 in
set_option maxHeartbeats 2000000 in
theorem may_ents (r d : Nat) (F : Nat → Prop) (N : PNode) (D : PDisk) (ps : List PSeg) (fr : Nat) (na da : Option Addr) (nc dl dc b : Nat) (es : List (Nat × List UInt8)) (l : List Int) (w : World) (h : NodeIs w r d F N D ps) (hfr : fr < N.n) (hne : fr ≠ N.id)
    (hn : Rd w 1 (.slice na l.length nc) (intsV l)) (hl : l.length ≤ 1000000000) (hg : goodB l 4 = true) (hsent : ∀ w', Ext NoB w w' → Calls Tryz.prog 84 #[.slice da dl dc] w' (SentEnds b es w')) :
    Calls Tryz.prog 45 #[.pointer (some ⟨r, 0, none⟩), msgV fr N.id 3 (.slice na l.length nc) (.slice da dl dc)] w (MayEnds (true) w) := by
  obtain ⟨L, FD, FL, FR, tv, dl', hA, _⟩ := h
  have hb := hA.blk
  have c0 : w.cell? ⟨r, 0, none⟩ = some (.int .i64 N.id) := by rw [cell_of_blk hb]; rfl
  have c1 : w.cell? ⟨r, 1, none⟩ = some (.int .i64 N.n) := by rw [cell_of_blk hb]; rfl
  have hrl := lt_of_blk hb
  have hn5 := hA.idn.2
  have hb1 : ((N.id : Int) != (N.id : Int)) = false := by simp
  have hb2 : decide ((fr : Int) < 0) = false := decide_eq_false (by omega)
  have hb3 : decide ((N.n : Int) ≤ (fr : Int)) = false := decide_eq_false (by omega)
  have hb4 : ((fr : Int) == (N.id : Int)) = false := beq_eq_false_iff_ne.2 (by omega)
  have hgood := Lib.hid (fun (k : Int) (w' : World) (x : Ext NoB w w') => good_any na nc l k w' (hn.no x) hl)
  have HN := Lib.hid hn
  have Hsent := Lib.hid hsent
  clear hA hb hn hsent
  unfold msgV
  have hlen : l.length = 4 := by
    have h1 := hg
    unfold goodB at h1
    simp only [Bool.and_eq_true, decide_eq_true_eq] at h1
    omega
  have Hg := Lib.hid hg
  have Hlen := Lib.hid hlen
  clear hg hlen
  go_enter Tryz.func45, Tryz.ntmps45
  go_wp2_with fail
  go_quiet (fail)
  go_wp2_with fail
  refine (Hsent.out _ (((Ext.refl NoB w).alloc _).drewN _)).mono ?_; rintro e w1 ⟨v5, ms, rfl, _, hown, _, x1⟩
  obtain ⟨va, vn, vc, rfl, _⟩ := hown.rd
  clear hown
  have cB := x1.cell (p := ⟨w.heap.size, 3, none⟩) (v := .slice na l.length nc) (by rw [cell_of_blk (blk_drewN (blk_new w _) _)]; rfl) (fun h => h)
  have x01 : Ext NoB w w1 := (((Ext.refl NoB w).alloc _).drewN _).trans x1
  have Hx := Lib.hid x01
  clear x1 x01
  go_wp2_with fail
  refine (hgood.out 4 _ Hx.out).mono ?_; rintro e w2 ⟨rfl, rfl⟩
  rw [Hg.out]
  go_wp2_with fail
  go_ret
  exact ⟨retBool rfl, Hx.out⟩
/-- The files that a node's disk holds. -/
def NodeDisk (D : PDisk) (N : PNode) (room : Nat) (s : Bool) (ps : List PSeg) : Prop :=
  D.room = room ∧ D.files.Perm (canon (if s then some (N.term, N.vote) else none) ps) ∧ Chain 1 ps (N.log.length + 1) ∧ N.log.length < 100 ∧ (ps.map (·.es)).flatten = N.log.map entB
end Go.Proofs.YtgglbholbkdgfaaGreatDoor
