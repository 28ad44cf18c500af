/- Joined texts: B87 B88 B89 B90 B91 B92. Each has its own head. -/
import Derived.Test.YtgglbholbkdgfaaGreatDoorK16
set_option linter.unusedVariables false
set_option linter.unusedSimpArgs false
namespace Go.Proofs.YtgglbholbkdgfaaGreatDoor
open Go.RowKit
abbrev Ent := Nat × List UInt8
structure QMsg where
 fr : Nat
 tt : Nat
 kd : Nat
 nums : List Nat
 es : List Ent
def PNode.sendQ (N : PNode) (t : Nat) : QMsg := ⟨N.id, t, 3, [N.term, N.ahead t, N.termOf (N.ahead t), N.committed], (N.log.drop (N.ahead t)).take 8⟩
def PNode.askQ (N : PNode) (t : Nat) : QMsg := ⟨N.id, t, 1, [N.term, N.log.length, N.termOf N.log.length], []⟩
def PNode.voteQ (N : PNode) (fr yes : Nat) : QMsg := ⟨N.id, fr, 2, [N.term, yes], []⟩
def PNode.tookQ (N : PNode) (fr yes number : Nat) : QMsg := ⟨N.id, fr, 4, [N.term, yes, number], []⟩
def fitI (N : PNode) (i : Nat) : Bool := Nat.ble (N.next i) 1000 && (Nat.ble (N.mt i) 1000 && (!Nat.beq N.role 2 || (Nat.ble N.n i || Nat.ble 1 (N.next i))))
def PNode.fit (N : PNode) : Bool := Nat.ble N.log.length 97 && (Nat.ble N.term 1000000000 && ((match N.wait with | .ofNat k => Nat.ble k 99 | .negSucc k => Nat.ble k 98) && (Nat.ble N.committed N.log.length && (Nat.ble N.taken N.committed && (Nat.blt N.id N.n && ((Nat.beq N.n 1 || (Nat.beq N.n 3 || Nat.beq N.n 5)) &&
 ((match N.vote with | .ofNat k => Nat.blt k N.n | .negSucc k => Nat.beq k 0) && (Nat.blt N.voted 32 && (N.log.all (fun e => Nat.ble e.1 1000000000) && (fitI N 0 && (fitI N 1 && (fitI N 2 && (fitI N 3 && fitI N 4)))))))))))))
def PNode.turn (N : PNode) (t0 : Nat) : PNode := if N.term < t0 then N.newer_ t0 else N
def PNode.adds (N : PNode) (fr : Nat) : PNode := { N with voted := N.voted ||| 2 ^ fr }
def PNode.backs (N : PNode) (fr number : Nat) : PNode := { N with next := fun i => if i = fr then max number (N.mt fr) + 1 else N.next i }
def PNode.heeds (N : PNode) (fr number : Nat) : PNode := { N with mt := fun i => if i = fr then max (N.mt fr) number else N.mt i, next := fun i => if i = fr then max (N.next fr) (number + 1) else N.next i }
def PNode.tickP (N : PNode) (draw : Nat) : Option (List QMsg × PNode) :=
 if !N.fit then none
 else if 1 < N.wait then some ([], { N with wait := N.wait - 1 })
 else if N.role = 2 then some ((tos N.n N.id).map { N with wait := 3 }.sendQ, { N with wait := 3 })
 else if N.n = 1 then some ([], (N.asks draw).wins)
 else some ((tos N.n N.id).map (N.asks draw).askQ, N.asks draw)
def PNode.hearP (N : PNode) (m : QMsg) (draw : Nat) : Option (List QMsg × PNode) :=
 if !N.fit || decide (m.tt ≠ N.id) || decide (N.n ≤ m.fr) || decide (m.fr = N.id) then none
 else match m.kd, m.nums with
 | 1, [t0, i1, t2] =>
  if 1000000000 < t0 ∨ 1000000000 < i1 ∨ 1000000000 < t2 ∨ m.es ≠ [] then none else
  if (N.turn t0).grants m.fr t0 i1 t2 then some ([(N.turn t0).voteQ m.fr 1], (N.turn t0).gives m.fr draw) else some ([(N.turn t0).voteQ m.fr 0], N.turn t0)
 | 2, [t0, y] =>
  if 1000000000 < t0 ∨ 1 < y ∨ m.es ≠ [] then none else
  if (N.turn t0).role ≠ 1 ∨ t0 ≠ (N.turn t0).term ∨ y ≠ 1 then some ([], N.turn t0)
  else if mostOf N.n ((N.turn t0).adds m.fr).voted then some ((tos N.n N.id).map ((N.turn t0).adds m.fr).wins.sendQ, ((N.turn t0).adds m.fr).wins)
  else some ([], (N.turn t0).adds m.fr)
 | 3, [t0, a, ta, c3] =>
  if 1000000000 < t0 ∨ t0 = 0 ∨ 1000000000 < a ∨ 1000000000 < ta ∨ 1000000000 < c3 ∨ 8 < m.es.length ∨ !(m.es.all fun e => decide (e.1 ≤ 1000000000)) then none else
  if t0 < (N.turn t0).term then some ([(N.turn t0).tookQ m.fr 0 0], N.turn t0)
  else if a ≤ N.log.length ∧ N.termOf a = ta then
   match toldL N.log a m.es with
   | none => none
   | some lg => if 97 < lg.length then none else some ([(N.turn t0).tookQ m.fr 1 (a + m.es.length)], (N.turn t0).told m.fr draw c3 (a + m.es.length) lg)
  else some ([(N.turn t0).tookQ m.fr 0 (min N.log.length (a - 1))], (N.turn t0).follows m.fr draw)
 | 4, [t0, y, number] =>
  if 1000000000 < t0 ∨ 1 < y ∨ 1000000000 < number ∨ m.es ≠ [] then none else
  if (N.turn t0).role ≠ 2 ∨ t0 ≠ (N.turn t0).term ∨ N.log.length < number then some ([], N.turn t0)
  else if y = 0 then some ([((N.turn t0).backs m.fr number).sendQ m.fr], (N.turn t0).backs m.fr number)
  else if ((N.turn t0).heeds m.fr number).committed < ((N.turn t0).heeds m.fr number).commits.committed ∨ ((N.turn t0).heeds m.fr number).commits.next m.fr ≤ N.log.length then
   some ([((N.turn t0).heeds m.fr number).commits.sendQ m.fr], ((N.turn t0).heeds m.fr number).commits)
  else some ([], ((N.turn t0).heeds m.fr number).commits)
 | _, _ => none
def PNode.proposeP (N : PNode) (p : List UInt8) : Option (Nat × List QMsg × PNode × Nat) :=
 if !N.fit then none
 else if N.role ≠ 2 then some (0, [], N, 13)
 else some (N.log.length + 1, (tos N.n N.id).map (N.lays (N.term, p)).commits.sendQ, (N.lays (N.term, p)).commits, 0)
structure PMem where
 up : Bool
 N : PNode
 took : List Ent
structure PGroup where
 n : Nat
 mem : List PMem
 row : List QMsg
 draws : Nat
def PGroup.stir (G : PGroup) : PGroup := { G with draws := (G.draws * 1103515245 + 12345) % 2147483648 }
def PGroup.draw (G : PGroup) : Nat := G.stir.draws / 256
def PGroup.went (G : PGroup) (i : Nat) (m : PMem) (l : List QMsg) (N : PNode) : Option PGroup :=
 if 4000 < G.row.length + l.length ∨ !N.fit ∨ 1000 < m.took.length ∨ !(l.all fun m => decide (m.nums.length ≤ 4) && decide (m.es.length ≤ 8) && m.es.all fun e => decide (e.1 ≤ 1000000000)) then none
 else some { G with row := G.row ++ l, mem := G.mem.set i { m with N := N.takes N.committed, took := m.took ++ (N.log.take N.committed).drop N.taken } }
def PGroup.tick (G : PGroup) (i : Nat) : Option PGroup :=
 match G.mem[i]? with
 | none => none
 | some m => if m.up then (match m.N.tickP G.draw with | none => none | some (l, N) => G.stir.went i m l N) else some G
def PGroup.ticksN (G : PGroup) : Nat → Nat → Option PGroup
 | 0, _ => some G
 | k + 1, i => match G.tick i with | none => none | some G => G.ticksN k (i + 1)
def PGroup.give (G : PGroup) : Option (Bool × PGroup) :=
 match G.row with
 | [] => some (false, G)
 | x :: l =>
  match G.mem[x.tt]? with
  | none => none
  | some m => if m.up then (match m.N.hearP x G.draw with | none => none | some (ms, N) => (match ({ G with row := l } : PGroup).stir.went x.tt m ms N with | none => none | some G => some (true, G))) else some (true, { G with row := l })
def PGroup.gives : Nat → PGroup → Option PGroup
 | 0, G => some G
 | k + 1, G => match G.give with | none => none | some (false, G) => some G | some (true, G) => PGroup.gives k G
def PGroup.settle : Nat → PGroup → Option PGroup
 | 0, G => some G
 | k + 1, G => match G.ticksN G.n 0 with | none => none | some G => (match PGroup.gives 2000 G with | none => none | some G => PGroup.settle k G)
end Go.Proofs.YtgglbholbkdgfaaGreatDoor
namespace Go.Proofs.YtgglbholbkdgfaaGreatDoor
open Go.RowKit
set_option maxRecDepth 100000 in
set_option maxHeartbeats 2000000 in
theorem Tick_leads (r d : Nat) (F : Nat → Prop) (N : PNode) (room : Nat) (saved : Bool) (draw : Int) (w : World) (h : RaftIs w r d F N room saved) (hw : -1000 < N.wait ∧ N.wait ≤ 1) (hr : N.role = 2) (hok : N.Ok) (hnx : ∀ t, t < N.n → 1 ≤ N.next t ∧ N.next t ≤ 1099511627776) :
  Calls Tryz.prog 17 #[.pointer (some ⟨r, 0, none⟩), .int .i64 draw] w (Sends r d F w ((tos N.n N.id).map (sendMsg { N with wait := 3 })) { N with wait := 3 } room saved) := by
 obtain ⟨L, tv, hb, hi1, hi2, hc, _⟩ := h.cells
 obtain ⟨wt, hwt⟩ : ∃ wt, N.wait = wt := ⟨_, rfl⟩
 have c1 : w.cell? ⟨r, 23, none⟩ = some (.bool false) := by rw [cell_of_blk hb]; rfl
 have c2 : w.cell? ⟨r, 11, none⟩ = some (.int .i64 wt) := by rw [cell_of_blk hb, ← hwt]; rfl
 have c7 : w.cell? ⟨r, 7, none⟩ = some (.int .i64 N.role) := by rw [cell_of_blk hb]; rfl
 have f2 : w.frozen? ⟨r, 11, none⟩ = false := frozen_of_blk hb 11
 have hb1 : ((N.role : Int) == 2) = true := beq_iff_eq.2 (by omega)
 rw [hwt] at hw
 have hw1 : IntKind.i64.wrap (wt - 1) = wt - 1 := IntWalk.i64_in _ (by omega)
 have hw2 : ¬ ((0 : Int) < wt - 1) := by omega
 have hmf : ∀ (fn : Fn) (first cap : Array Value) (w : World), (Instr.makeFunc fn first cap).run Tryz.prog w = .ok (.func fn first cap) w := fun _ _ _ _ => rfl
 have H := Lib.hid h
 have Hok := Lib.hid hok
 have Hnx := Lib.hid hnx
 have HB := Lib.hid hb
 clear h hb hwt hok hnx
 go_enter Tryz.func17, Tryz.ntmps17
 go_wp2_with fail
 have xs : Ext (fun b => b = r) w ((w.setCell ⟨r, 11, none⟩ (.int .i64 (wt - 1))).setCell ⟨r, 11, none⟩ (.int .i64 3)) := (((Ext.refl (fun b => b = r) w).setCell (p := ⟨r, 11, none⟩) (.inl rfl) (.int .i64 (wt - 1))).setCell (p := ⟨r, 11, none⟩) (.inl rfl) (.int .i64 3))
 obtain ⟨hR, hX⟩ := RaftIs.set (N' := { N with wait := 3 }) H.out xs (fun L tv hb => by
  have := blk_setCell (blk_setCell hb 11 (.int .i64 (wt - 1))) 11 (.int .i64 3)
  exact this) rfl ⟨hi1, hi2⟩ hc rfl rfl
 obtain ⟨D, ps, hN, hrm, hperm⟩ := hR.is
 have hoth := fun w' (x : Ext NoB ((w.setCell ⟨r, 11, none⟩ (.int .i64 (wt - 1))).setCell ⟨r, 11, none⟩ (.int .i64 3)) w') => others_send r d _ { N with wait := 3 } D ps w' (hN.no x) (sendMsg { N with wait := 3 }) (fun t w1 ht _ x1 => sends_any r d _ { N with wait := 3 } D ps t w1 (hN.no (x.trans x1)) Hok.out (by show t < 5; have : t < N.n := ht; omega) (Hnx.out t ht))
 have Hoth := Lib.hid hoth
 have HR := Lib.hid hR
 have HX := Lib.hid hX
 clear hoth hR hX hN hrm hperm
 refine (Hoth.out _ (Ext.refl _ _)).mono ?_; rintro e w4 ⟨v, rfl, hm4, hf4, x4⟩
 have Hm4 := Lib.hid hm4
 have Hf4 := Lib.hid hf4
 have Hx4 := Lib.hid x4
 clear hm4 hf4 x4
 go_wp2_with fail
 go_ret
 have s1 := HX.out.size
 have hR4 := HR.out.no Hx4.out
 refine ⟨v, rfl, Hm4.out, fun g hg => by have := Hf4.out g hg; omega, HX.out.nextNo Hx4.out, hR4.wide (fun b hb => .inl hb) (fun b hb => hb.elim (hR4.lt b) (fun h => h.2))⟩
theorem or_bit (a k : Nat) (ha : a < 32) (hk : k < 5) : bits BinOp.or IntKind.u8 (a : Int) (2 ^ k % 256) = ((a ||| 2 ^ k : Nat) : Int) := or_pow a k ha hk
set_option maxRecDepth 100000 in
set_option maxHeartbeats 4000000 in
theorem elects_not (r d : Nat) (F : Nat → Prop) (N : PNode) (room : Nat) (saved : Bool) (fr tt kd t0 y : Int) (na da : Option Addr) (nc dl dc : Nat) (l : List Int) (w : World) (h : RaftIs w r d F N room saved)
  (hn : Rd w 1 (.slice na l.length nc) (intsV l)) (hl : l = [t0, y]) (hr : N.role = 1) (hno : t0 ≠ N.term ∨ y ≠ 1) :
  Calls Tryz.prog 48 #[.pointer (some ⟨r, 0, none⟩), msgV fr tt kd (.slice na l.length nc) (.slice da dl dc)] w (Sends r d F w [] N room saved) := by
 obtain ⟨L, tv, hb, hi1, hi2, hc, _⟩ := h.cells
 have hlen : l.length = 2 := by rw [hl]; rfl
 obtain ⟨nb, noff, rfl, hcell⟩ := nums_cell hn (by omega)
 have cn0 : w.cell? ⟨nb, noff, none⟩ = some (.int .i64 t0) := hcell 0 _ (by rw [hl]; rfl)
 have cn1 : w.cell? ⟨nb, noff + 1, none⟩ = some (.int .i64 y) := hcell 1 _ (by rw [hl]; rfl)
 have c7 : w.cell? ⟨r, 7, none⟩ = some (.int .i64 N.role) := by rw [cell_of_blk hb]; rfl
 have c5 : w.cell? ⟨r, 5, none⟩ = some (.int .i64 N.term) := by rw [cell_of_blk hb]; rfl
 have hb1 : ((N.role : Int) != 1) = false := by rw [hr]; rfl
 have hrl := lt_of_blk hb
 rw [hlen]
 have H := Lib.hid h
 clear h hb hn hcell hl hlen
 by_cases h0 : t0 = (N.term : Int)
 ·have hb2 : (t0 != (N.term : Int)) = false := by rw [h0]; simp
  have hb3 : (y != 1) = true := by rw [bne_iff_ne]; rcases hno with h | h; exact absurd h0 h; exact h
  clear hno h0
  unfold msgV
  go_enter Tryz.func48, Tryz.ntmps48
  go_wp2_with fail
  obtain ⟨w1, BM, e1, e2, x1, b1, hs1⟩ := alloc_facts w (.cells #[.int .i64 fr, .int .i64 tt, .int .i64 kd, .slice (some ⟨nb, noff, none⟩) 2 nc, .slice da dl dc] 37)
  rw [e1, e2]
  have d7 := x1.cell c7 (fun h => h)
  have d5 := x1.cell c5 (fun h => h)
  have dn0 := x1.cell cn0 (fun h => h)
  have dn1 := x1.cell cn1 (fun h => h)
  have dM3 : w1.cell? ⟨BM, 3, none⟩ = some (.slice (some ⟨nb, noff, none⟩) 2 nc) := by rw [cell_of_blk b1]; rfl
  clear e1 e2 hs1 b1 c7 c5 cn0 cn1
  go_quiet (fail)
  go_wp2_with fail
  go_ret
  have xx := x1.trans ((Ext.refl NoB w1).drewN nq)
  exact Sends.none xx H.out
 ·have hb2 : (t0 != (N.term : Int)) = true := by rw [bne_iff_ne]; exact h0
  clear hno h0
  unfold msgV
  go_enter Tryz.func48, Tryz.ntmps48
  go_wp2_with fail
  obtain ⟨w1, BM, e1, e2, x1, b1, hs1⟩ := alloc_facts w (.cells #[.int .i64 fr, .int .i64 tt, .int .i64 kd, .slice (some ⟨nb, noff, none⟩) 2 nc, .slice da dl dc] 37)
  rw [e1, e2]
  have d7 := x1.cell c7 (fun h => h)
  have d5 := x1.cell c5 (fun h => h)
  have dn0 := x1.cell cn0 (fun h => h)
  have dn1 := x1.cell cn1 (fun h => h)
  have dM3 : w1.cell? ⟨BM, 3, none⟩ = some (.slice (some ⟨nb, noff, none⟩) 2 nc) := by rw [cell_of_blk b1]; rfl
  clear e1 e2 hs1 b1 c7 c5 cn0 cn1
  go_quiet (fail)
  go_wp2_with fail
  go_ret
  have xx := x1.trans ((Ext.refl NoB w1).drewN nq)
  exact Sends.none xx H.out
set_option maxRecDepth 100000 in
set_option maxHeartbeats 4000000 in
theorem elects_yes (r d fr : Nat) (F : Nat → Prop) (N : PNode) (room : Nat) (saved : Bool) (tt kd : Int) (na da : Option Addr) (nc dl dc : Nat) (l : List Int) (Ms : List PMsg) (N' : PNode) (w : World) (h : RaftIs w r d F N room saved)
  (hn : Rd w 1 (.slice na l.length nc) (intsV l)) (hl : l = [(N.term : Int), 1]) (hr : N.role = 1) (hfr : fr < 5) (hv : N.voted < 32)
  (hnot : mostOf N.n (N.voted ||| 2 ^ fr) = false → Ms = [] ∧ N' = N.adds fr)
  (hwin : mostOf N.n (N.voted ||| 2 ^ fr) = true → ∀ w1, Ext F w w1 → RaftIs w1 r d F (N.adds fr) room saved → Calls Tryz.prog 81 #[.pointer (some ⟨r, 0, none⟩)] w1 (Sends r d F w1 Ms N' room saved)) :
  Calls Tryz.prog 48 #[.pointer (some ⟨r, 0, none⟩), msgV fr tt kd (.slice na l.length nc) (.slice da dl dc)] w (Sends r d F w Ms N' room saved) := by
 obtain ⟨L, tv, hb, hi1, hi2, hc, _⟩ := h.cells
 have hlen : l.length = 2 := by rw [hl]; rfl
 obtain ⟨nb, noff, rfl, hcell⟩ := nums_cell hn (by omega)
 have cn0 : w.cell? ⟨nb, noff, none⟩ = some (.int .i64 N.term) := hcell 0 _ (by rw [hl]; rfl)
 have cn1 : w.cell? ⟨nb, noff + 1, none⟩ = some (.int .i64 1) := hcell 1 _ (by rw [hl]; rfl)
 have c7 : w.cell? ⟨r, 7, none⟩ = some (.int .i64 N.role) := by rw [cell_of_blk hb]; rfl
 have c5 : w.cell? ⟨r, 5, none⟩ = some (.int .i64 N.term) := by rw [cell_of_blk hb]; rfl
 have c12 : w.cell? ⟨r, 12, none⟩ = some (.int .u8 N.voted) := by rw [cell_of_blk hb]; rfl
 have hb1 : ((N.role : Int) != 1) = false := by rw [hr]; rfl
 have hb2 : ((N.term : Int) != (N.term : Int)) = false := by simp
 have hrl := lt_of_blk hb
 rw [hlen]
 have H := Lib.hid h
 have HB := Lib.hid hb
 have Hnot := Lib.hid hnot
 have Hwin := Lib.hid hwin
 have hor := or_bit N.voted fr hv hfr
 have hfr0 : ¬ ((fr : Int) < 0) := by omega
 clear h hb hn hcell hl hlen hnot hwin
 unfold msgV
 go_enter Tryz.func48, Tryz.ntmps48
 go_wp2_with fail
 obtain ⟨w1, BM, e1, e2, x1, b1, hs1⟩ := alloc_facts w (.cells #[.int .i64 fr, .int .i64 tt, .int .i64 kd, .slice (some ⟨nb, noff, none⟩) 2 nc, .slice da dl dc] 37)
 rw [e1, e2]
 have d7 := x1.cell c7 (fun h => h)
 have d5 := x1.cell c5 (fun h => h)
 have d12 := x1.cell c12 (fun h => h)
 have dn0 := x1.cell cn0 (fun h => h)
 have dn1 := x1.cell cn1 (fun h => h)
 have dM0 : w1.cell? ⟨BM, 0, none⟩ = some (.int .i64 fr) := by rw [cell_of_blk b1]; rfl
 have dM3 : w1.cell? ⟨BM, 3, none⟩ = some (.slice (some ⟨nb, noff, none⟩) 2 nc) := by rw [cell_of_blk b1]; rfl
 have hBMr : BM ≠ r := by omega
 have Hx1 := Lib.hid x1
 clear e1 e2 hs1 x1 b1 c7 c5 c12 cn0 cn1
 go_quiet (fail)
 go_wp2_with fail
 have xq : Ext NoB w1 (w1.drewN nq) := (Ext.refl _ w1).drewN _
 generalize w1.drewN nq = wq at xq ⊢
 have k12 := xq.cell d12 (fun h => h)
 have kM0 := xq.cell dM0 (fun h => h)
 have Hxq := Lib.hid (Hx1.out.trans xq)
 clear d7 d5 d12 dn0 dn1 dM0 dM3 xq
 refine wp_region_N (fun w' => w'.cell? ⟨r, 12, none⟩ = some (.int .u8 N.voted) ∧ w'.cell? ⟨BM, 0, none⟩ = some (.int .i64 fr)) 8 (by kernel_rfl) ?_
 have hSd : wq.drew.cell? ⟨r, 12, none⟩ = some (.int .u8 N.voted) ∧ wq.drew.cell? ⟨BM, 0, none⟩ = some (.int .i64 fr) := ⟨k12, kM0⟩
 have xd : Ext NoB wq wq.drew := (Ext.refl _ wq).drew
 generalize wq.drew = wd at hSd xd ⊢
 refine wpAnyN_free 0 (v := ?_) (by kernel_rfl) rfl (fun _ _ _ h => h) hSd (by rfl) ?_ ?_; rotate_left; (focus (intro w; go_simp; try with_reducible rfl)); (try simp only [Act.put]); (try simp only [List.setIfInBounds_toArray, List.set_cons_zero, List.set_cons_succ])
 refine wpAnyN_free 1 (v := ?_) (by kernel_rfl) rfl (fun _ _ _ h => h) hSd (by rfl) ?_ ?_; rotate_left; (focus (intro w; go_simp; try with_reducible rfl)); (try simp only [Act.put]); (try simp only [List.setIfInBounds_toArray, List.set_cons_zero, List.set_cons_succ])
 refine wpAnyN_free 2 (v := ?_) (by kernel_rfl) rfl (fun _ _ _ h => h) hSd (by rfl) ?_ ?_; rotate_left; (focus (intro w; go_simp; try with_reducible rfl)); (try simp only [Act.put]); (try simp only [List.setIfInBounds_toArray, List.set_cons_zero, List.set_cons_succ])
 refine wpAnyN_take 3 (v := ?_) (by kernel_rfl) rfl (fun _ _ _ h => h) hSd (by rfl) ?_ ?_; rotate_left; (focus (intro w hSw; (try dsimp only at hSw); go_simp; try with_reducible rfl)); (try simp only [Act.put]); (try simp only [List.setIfInBounds_toArray, List.set_cons_zero, List.set_cons_succ])
 refine wpAnyN_free 4 (v := ?_) (by kernel_rfl) rfl (fun _ _ _ h => h) hSd (by rfl) ?_ ?_; rotate_left; (focus (intro w; go_simp; try with_reducible rfl)); (try simp only [Act.put]); (try simp only [List.setIfInBounds_toArray, List.set_cons_zero, List.set_cons_succ])
 refine wpAnyN_take 5 (v := ?_) (by kernel_rfl) rfl (fun _ _ _ h => h) hSd (by rfl) ?_ ?_; rotate_left; (focus (intro w hSw; (try dsimp only at hSw); go_simp; try with_reducible rfl)); (try simp only [Act.put]); (try simp only [List.setIfInBounds_toArray, List.set_cons_zero, List.set_cons_succ])
 refine wpAnyN_free 6 (v := ?_) (by kernel_rfl) rfl (fun _ _ _ h => h) hSd (by rfl) ?_ ?_; rotate_left; (focus (intro w; go_simp; try with_reducible rfl)); (try simp only [Act.put]); (try simp only [List.setIfInBounds_toArray, List.set_cons_zero, List.set_cons_succ])
 refine wpAnyN_free 7 (v := ?_) (by kernel_rfl) rfl (fun _ _ _ h => h) hSd (by rfl) ?_ ?_; rotate_left; (focus (intro w; go_simp; try with_reducible rfl)); (try simp only [Act.put]); (try simp only [List.setIfInBounds_toArray, List.set_cons_zero, List.set_cons_succ])
 refine wpAnyN_tail (by rfl) (by decide) (by kernel_rfl) (by kernel_rfl) ?_
 simp only [List.drop_succ_cons, List.drop_zero, List.drop_nil]
 have y1 : Ext NoB w wd := Hxq.out.trans xd
 have bd := y1.blk HB.out (fun h => h)
 have f12 : wd.frozen? ⟨r, 12, none⟩ = false := frozen_of_blk bd 12
 obtain ⟨s12, s0⟩ := hSd
 have Hbd := Lib.hid bd
 have Hy1 := Lib.hid y1
 clear k12 kM0 xd y1 bd
 obtain ⟨vo, hvo⟩ : ∃ vo, N.voted ||| 2 ^ fr = vo := ⟨_, rfl⟩
 rw [hvo] at hor
 have hvo2 : vo < 32 := by rw [← hvo]; exact Nat.or_lt_two_pow (n := 5) hv (Nat.pow_lt_pow_right (by decide) hfr)
 have Hvo := Lib.hid (And.intro hvo hvo2)
 clear hvo hvo2
 go_wp2_with fail
 have xs : Ext (fun b => b = r) wd (wd.setCell ⟨r, 12, none⟩ (.int .u8 vo)) := (Ext.refl (fun b => b = r) wd).setCell (p := ⟨r, 12, none⟩) (.inl rfl) _
 obtain ⟨hR, hX⟩ := RaftIs.set (N' := N.adds fr) (H.out.no Hy1.out) xs (fun L tv hb => by
  have e : nodeArr (N.adds fr) d L tv = (nodeArr N d L tv).setIfInBounds 12 (.int .u8 vo) := by rw [← Hvo.out.1]; rfl
  rw [e]
  exact blk_setCell hb 12 (.int .u8 vo)) rfl ⟨hi1, hi2⟩ hc rfl rfl
 obtain ⟨D, ps, hN, _, _⟩ := hR.is
 have hmost := fun w' (x : Ext NoB (wd.setCell ⟨r, 12, none⟩ (.int .u8 vo)) w') => most_any r d F (N.adds fr) D ps vo (by have := Hvo.out.2; omega) w' (hN.no x)
 have hnn : (N.adds fr).n = N.n := rfl
 rw [hnn] at hmost
 have Hmost := Lib.hid hmost
 have HR := Lib.hid hR
 have HX := Lib.hid ((Hy1.out.of_no).trans hX)
 clear hmost hnn hN hR hX xs
 refine (Hmost.out _ (Ext.refl _ _)).mono ?_; rintro e w2 ⟨rfl, x2⟩
 have Hx2 := Lib.hid x2
 clear x2
 cases hm : mostOf N.n vo with
 | false =>
  go_wp2_with fail
  go_ret
  obtain ⟨rfl, rfl⟩ := Hnot.out (by rw [Hvo.out.1]; exact hm)
  have hR2 := HR.out.no Hx2.out
  have s1 := HX.out.size
  have s2 := Hx2.out.size
  exact ⟨_, rfl, ⟨[], .nil, Own.nil _ _ _⟩, Fresh.nil _ _ _, HX.out.nextNo Hx2.out, hR2.wide (fun b hb => .inl hb) (fun b hb => hb.elim (hR2.lt b) (fun h => h.2))⟩
 | true =>
  go_wp2_with fail
  have hw := Hwin.out (by rw [Hvo.out.1]; exact hm) w2 (HX.out.nextNo Hx2.out) (HR.out.no Hx2.out)
  refine hw.mono ?_; rintro e w3 hS
  have hS := hS.behind (HX.out.nextNo Hx2.out) H.out.lt
  obtain ⟨v, rfl, hm, hf, hx, hR3⟩ := hS
  have Hm := Lib.hid hm
  have Hf := Lib.hid hf
  have Hx := Lib.hid hx
  have HR3 := Lib.hid hR3
  obtain ⟨ms, hms, hown⟩ := hm
  obtain ⟨va, vn, vc, rfl, _⟩ := hown.rd
  clear hms hown hf hx hR3 hw
  go_wp2_with fail
  go_ret
  exact ⟨_, rfl, Hm.out, Hf.out, Hx.out, HR3.out⟩
end Go.Proofs.YtgglbholbkdgfaaGreatDoor
namespace Go.Proofs.YtgglbholbkdgfaaGreatDoor
open Go.RowKit
set_option maxRecDepth 100000 in
set_option maxHeartbeats 4000000 in
theorem counts_not (r d : Nat) (F : Nat → Prop) (N : PNode) (room : Nat) (saved : Bool) (fr tt kd t0 y : Int) (number : Nat) (na da : Option Addr) (nc dl dc : Nat) (l : List Int) (w : World) (h : RaftIs w r d F N room saved)
  (hn : Rd w 1 (.slice na l.length nc) (intsV l)) (hl : l = [t0, y, (number : Int)]) (hr : N.role = 2) (hno : t0 ≠ N.term ∨ N.log.length < number) :
  Calls Tryz.prog 50 #[.pointer (some ⟨r, 0, none⟩), msgV fr tt kd (.slice na l.length nc) (.slice da dl dc)] w (Sends r d F w [] N room saved) := by
 obtain ⟨L, tv, hb, hi1, hi2, hc, _⟩ := h.cells
 obtain ⟨D, ps, hN, _, _⟩ := h.is
 have hlen : l.length = 3 := by rw [hl]; rfl
 obtain ⟨nb, noff, rfl, hcell⟩ := nums_cell hn (by omega)
 have cn0 : w.cell? ⟨nb, noff, none⟩ = some (.int .i64 t0) := hcell 0 _ (by rw [hl]; rfl)
 have cn2 : w.cell? ⟨nb, noff + 2, none⟩ = some (.int .i64 (number : Int)) := hcell 2 _ (by rw [hl]; rfl)
 have c7 : w.cell? ⟨r, 7, none⟩ = some (.int .i64 N.role) := by rw [cell_of_blk hb]; rfl
 have c5 : w.cell? ⟨r, 5, none⟩ = some (.int .i64 N.term) := by rw [cell_of_blk hb]; rfl
 have hb1 : ((N.role : Int) != 2) = false := by rw [hr]; rfl
 have hrl := lt_of_blk hb
 have hnl := World.block_lt_of_cell? w _ cn2
 have hlast := fun (w' : World) (x : Ext NoB w w') => (rlast_any r d F N D ps w' (hN.no x)).mono (fun e w'' (h : e = .returned (.int .i64 N.log.length) ∧ w' = w'') => And.intro h.1 h.2.symm)
 rw [hlen]
 have H := Lib.hid h
 have Hlast := Lib.hid hlast
 clear h hb hn hcell hl hlen hlast hN
 by_cases h0 : t0 = (N.term : Int)
 ·have hb2 : (t0 != (N.term : Int)) = false := by rw [h0]; simp
  have hnum : (N.log.length : Int) < (number : Int) := by rcases hno with h | h; exact absurd h0 h; omega
  clear hno h0
  unfold msgV
  go_enter Tryz.func50, Tryz.ntmps50
  go_wp2_with fail
  obtain ⟨w1, BM, e1, e2, x1, b1, hs1⟩ := alloc_facts w (.cells #[.int .i64 fr, .int .i64 tt, .int .i64 kd, .slice (some ⟨nb, noff, none⟩) 3 nc, .slice da dl dc] 37)
  rw [e1, e2]
  have d7 := x1.cell c7 (fun h => h)
  have d5 := x1.cell c5 (fun h => h)
  have dn0 := x1.cell cn0 (fun h => h)
  have dn2 := x1.cell cn2 (fun h => h)
  have dM3 : w1.cell? ⟨BM, 3, none⟩ = some (.slice (some ⟨nb, noff, none⟩) 3 nc) := by rw [cell_of_blk b1]; rfl
  have Hl1 := Lib.hid (fun n => Hlast.out (w1.drewN n) (x1.trans ((Ext.refl _ w1).drewN n)))
  clear e1 e2 hs1 b1 c7 c5 cn0 cn2
  go_quiet (first | (go_at_call 54; exact Calls.quiet_of_same (Hl1.out _)))
  go_wp2_with fail
  go_ret
  have xx := x1.trans ((Ext.refl NoB w1).drewN nq)
  exact Sends.none xx H.out
 ·have hb2 : (t0 != (N.term : Int)) = true := by rw [bne_iff_ne]; exact h0
  clear hno h0
  unfold msgV
  go_enter Tryz.func50, Tryz.ntmps50
  go_wp2_with fail
  obtain ⟨w1, BM, e1, e2, x1, b1, hs1⟩ := alloc_facts w (.cells #[.int .i64 fr, .int .i64 tt, .int .i64 kd, .slice (some ⟨nb, noff, none⟩) 3 nc, .slice da dl dc] 37)
  rw [e1, e2]
  have d7 := x1.cell c7 (fun h => h)
  have d5 := x1.cell c5 (fun h => h)
  have dn0 := x1.cell cn0 (fun h => h)
  have dn2 := x1.cell cn2 (fun h => h)
  have dM3 : w1.cell? ⟨BM, 3, none⟩ = some (.slice (some ⟨nb, noff, none⟩) 3 nc) := by rw [cell_of_blk b1]; rfl
  clear e1 e2 hs1 b1 c7 c5 cn0 cn2
  go_quiet (fail)
  go_wp2_with fail
  go_ret
  have xx := x1.trans ((Ext.refl NoB w1).drewN nq)
  exact Sends.none xx H.out
end Go.Proofs.YtgglbholbkdgfaaGreatDoor
namespace Go.Proofs.YtgglbholbkdgfaaGreatDoor
open Go.RowKit
theorem backs_set (N : PNode) (d L : Nat) (tv : Value) (fr number : Nat) (h : fr < 5) : (nodeArr N d L tv).setIfInBounds (13 + fr) (.int .i64 ((max number (N.mt fr) + 1 : Nat) : Int)) = nodeArr (N.backs fr number) d L tv := by
 match fr, h with
 | 0, _ => rfl
 | 1, _ => rfl
 | 2, _ => rfl
 | 3, _ => rfl
 | 4, _ => rfl
theorem heeds_set (N : PNode) (d L : Nat) (tv : Value) (fr number : Nat) (h : fr < 5) : ((nodeArr N d L tv).setIfInBounds (18 + fr) (.int .i64 ((max (N.mt fr) number : Nat) : Int))).setIfInBounds (13 + fr) (.int .i64 ((max (N.next fr) (number + 1) : Nat) : Int)) = nodeArr (N.heeds fr number) d L tv := by
 match fr, h with
 | 0, _ => rfl
 | 1, _ => rfl
 | 2, _ => rfl
 | 3, _ => rfl
 | 4, _ => rfl
set_option maxRecDepth 100000 in
set_option maxHeartbeats 4000000 in
theorem counts_back (r d fr number : Nat) (F : Nat → Prop) (N : PNode) (room : Nat) (saved : Bool) (tt kd : Int) (na da : Option Addr) (nc dl dc : Nat) (l : List Int) (w : World) (h : RaftIs w r d F N room saved)
  (hn : Rd w 1 (.slice na l.length nc) (intsV l)) (hl : l = [(N.term : Int), 0, (number : Int)]) (hr : N.role = 2) (hnum : number ≤ N.log.length) (hfr : fr < 5) (hmt : N.mt fr ≤ 1000000 ∧ N.next fr ≤ 1000000) (hok : N.Ok) :
  Calls Tryz.prog 50 #[.pointer (some ⟨r, 0, none⟩), msgV fr tt kd (.slice na l.length nc) (.slice da dl dc)] w (Sends r d F w [sendMsg (N.backs fr number) fr] (N.backs fr number) room saved) := by
 obtain ⟨L, tv, hb, hi1, hi2, hc, h100⟩ := h.cells
 obtain ⟨D, ps, hN, _, _⟩ := h.is
 have hlen : l.length = 3 := by rw [hl]; rfl
 obtain ⟨nb, noff, rfl, hcell⟩ := nums_cell hn (by omega)
 have cn0 : w.cell? ⟨nb, noff, none⟩ = some (.int .i64 N.term) := hcell 0 _ (by rw [hl]; rfl)
 have cn1 : w.cell? ⟨nb, noff + 1, none⟩ = some (.int .i64 0) := hcell 1 _ (by rw [hl]; rfl)
 have cn2 : w.cell? ⟨nb, noff + 2, none⟩ = some (.int .i64 (number : Int)) := hcell 2 _ (by rw [hl]; rfl)
 have c7 : w.cell? ⟨r, 7, none⟩ = some (.int .i64 N.role) := by rw [cell_of_blk hb]; rfl
 have c5 : w.cell? ⟨r, 5, none⟩ = some (.int .i64 N.term) := by rw [cell_of_blk hb]; rfl
 have cnx : w.cell? ⟨r, 13 + fr, none⟩ = some (.int .i64 (N.next fr)) := by
  rw [cell_of_blk hb]
  match fr, hfr with
  | 0, _ => rfl
  | 1, _ => rfl
  | 2, _ => rfl
  | 3, _ => rfl
  | 4, _ => rfl
 have cmt : w.cell? ⟨r, 18 + fr, none⟩ = some (.int .i64 (N.mt fr)) := by
  rw [cell_of_blk hb]
  match fr, hfr with
  | 0, _ => rfl
  | 1, _ => rfl
  | 2, _ => rfl
  | 3, _ => rfl
  | 4, _ => rfl
 obtain ⟨nx, hnx⟩ : ∃ nx, N.next fr = nx := ⟨_, rfl⟩
 obtain ⟨mt, hmt'⟩ : ∃ mt, N.mt fr = mt := ⟨_, rfl⟩
 rw [hnx] at cnx hmt
 rw [hmt'] at cmt hmt
 have hb1 : ((N.role : Int) != 2) = false := by rw [hr]; rfl
 have hb2 : ((N.term : Int) != (N.term : Int)) = false := by simp
 have hnumI : ¬ ((N.log.length : Int) < (number : Int)) := by omega
 have hfr0 : (0 : Int) ≤ (fr : Int) := by omega
 have hfr5 : (fr : Int) < 5 := by omega
 have hfrn : ((fr : Int)).toNat = fr := by omega
 have hrl := lt_of_blk hb
 have hnl := World.block_lt_of_cell? w _ cn2
 have hlast := fun (w' : World) (x : Ext NoB w w') => (rlast_any r d F N D ps w' (hN.no x)).mono (fun e w'' (h : e = .returned (.int .i64 N.log.length) ∧ w' = w'') => And.intro h.1 h.2.symm)
 rw [hlen]
 have H := Lib.hid h
 have HB := Lib.hid hb
 have Hlast := Lib.hid hlast
 have Hok := Lib.hid hok
 have Hnm := Lib.hid (And.intro hnx (And.intro hmt' (And.intro hmt hnum)))
 clear h hb hn hcell hl hlen hlast hN hok hnx hmt' hmt
 unfold msgV
 go_enter Tryz.func50, Tryz.ntmps50
 go_wp2_with fail
 obtain ⟨w1, BM, e1, e2, x1, b1, hs1⟩ := alloc_facts w (.cells #[.int .i64 fr, .int .i64 tt, .int .i64 kd, .slice (some ⟨nb, noff, none⟩) 3 nc, .slice da dl dc] 37)
 rw [e1, e2]
 have d7 := x1.cell c7 (fun h => h)
 have d5 := x1.cell c5 (fun h => h)
 have dn0 := x1.cell cn0 (fun h => h)
 have dM3 : w1.cell? ⟨BM, 3, none⟩ = some (.slice (some ⟨nb, noff, none⟩) 3 nc) := by rw [cell_of_blk b1]; rfl
 have dM0 : w1.cell? ⟨BM, 0, none⟩ = some (.int .i64 fr) := by rw [cell_of_blk b1]; rfl
 have Hl1 := Lib.hid (fun n => Hlast.out (w1.drewN n) (x1.trans ((Ext.refl _ w1).drewN n)))
 have hBM : w.heap.size = BM := e2
 clear e1 hs1 b1
 go_quiet (first | (go_at_call 54; exact Calls.quiet_of_same (Hl1.out _)))
 go_wp2_with fail
 have xq : Ext NoB w1 (w1.drewN nq) := (Ext.refl _ w1).drewN _
 generalize w1.drewN nq = wq at xq ⊢
 have qM0 := xq.cell dM0 (fun h => h)
 have qM3 := xq.cell dM3 (fun h => h)
 have qn1 := (x1.trans xq).cell cn1 (fun h => h)
 have q18 := (x1.trans xq).cell cmt (fun h => h)
 have q13 := (x1.trans xq).cell cnx (fun h => h)
 have bq := (x1.trans xq).blk HB.out (fun h => h)
 have f13 : wq.frozen? ⟨r, 13 + fr, none⟩ = false := frozen_of_blk bq (13 + fr)
 have f18 : wq.frozen? ⟨r, 18 + fr, none⟩ = false := frozen_of_blk bq (18 + fr)
 have Hbq := Lib.hid bq
 have Hxq := Lib.hid (x1.trans xq)
 obtain ⟨vx, hvx⟩ : ∃ vx, max number mt + 1 = vx := ⟨_, rfl⟩
 have hwm : IntKind.i64.wrap (max (number : Int) (mt : Int) + 1) = (vx : Int) := by rw [IntWalk.i64_in _ (by have := Hnm.out; omega)]; omega
 have Hvx := Lib.hid hvx
 clear hvx
 clear d7 d5 dn0 dM0 dM3 Hl1 xq x1 bq c7 c5 cn0 cn1 cn2 cnx cmt
 go_quiet (fail)
 go_wp2_with fail
 have x0q : Ext NoB w (wq.drewN nq) := Hxq.out.trans ((Ext.refl _ wq).drewN nq)
 have xs : Ext (fun b => b = r) (wq.drewN nq) ((wq.drewN nq).setCell ⟨r, 13 + fr, none⟩ (.int .i64 vx)) := (Ext.refl (fun b => b = r) (wq.drewN nq)).setCell (p := ⟨r, 13 + fr, none⟩) (.inl rfl) _
 obtain ⟨hR, hX⟩ := RaftIs.set (N' := N.backs fr number) (H.out.no x0q) xs (fun L tv hb => by
  rw [← backs_set N d L tv fr number hfr, Hnm.out.2.1, Hvx.out]
  exact blk_setCell hb (13 + fr) (.int .i64 vx)) rfl ⟨hi1, hi2⟩ hc rfl rfl
 obtain ⟨D2, ps2, hN2, _, _⟩ := hR.is
 have hsend := sends_any r d F (N.backs fr number) D2 ps2 fr _ hN2 Hok.out hfr (by
  have e : (N.backs fr number).next fr = vx := by show (if fr = fr then max number (N.mt fr) + 1 else _) = vx; rw [if_pos rfl, Hnm.out.2.1, Hvx.out]
  rw [e]
  have := Hnm.out; have := Hvx.out; omega)
 have Hsend := Lib.hid hsend
 have HR := Lib.hid hR
 have HX := Lib.hid ((x0q.of_no).trans hX)
 clear hsend hR hX hN2 xs x0q
 refine Hsend.out.mono ?_; rintro _ w4 ⟨m, rfl, x4, hm4⟩
 obtain ⟨nv, dv, rfl, hnv, hdv⟩ := hm4
 obtain ⟨nva, nvn, nvc, rfl, _⟩ := hnv.rd
 obtain ⟨dva, dvn, dvc, rfl, _⟩ := hdv.rd
 have Hx4 := Lib.hid x4
 have Hnv := Lib.hid hnv
 have Hdv := Lib.hid hdv
 clear x4 hnv hdv
 go_wp2_with fail
 go_ret
 have hR4 := HR.out.no Hx4.out
 have xa : Ext NoB w4 (w4.alloc (.cells #[.int .i64 (N.backs fr number).id, .int .i64 fr, .int .i64 3, .slice nva nvn nvc, .slice dva dvn dvc] 37)) := (Ext.refl _ w4).alloc _
 have hmi : MsgIs (w4.alloc (.cells #[.int .i64 (N.backs fr number).id, .int .i64 fr, .int .i64 3, .slice nva nvn nvc, .slice dva dvn dvc] 37)) [.int .i64 (N.backs fr number).id, .int .i64 fr, .int .i64 3, .slice nva nvn nvc, .slice dva dvn dvc] (sendMsg (N.backs fr number) fr) := ⟨_, _, rfl, Hnv.out.no xa, Hdv.out.no xa⟩
 have xF := (HX.out.nextNo Hx4.out).nextNo xa
 have hR5 := hR4.no xa
 have hb5 := blk_new w4 (.cells #[.int .i64 (N.backs fr number).id, .int .i64 fr, .int .i64 3, .slice nva nvn nvc, .slice dva dvn dvc] 37)
 refine ⟨_, rfl, MsgsAre.one (fr := (0, 0)) hb5 hmi, fun g hg => ?_, xF, hR5.wide (fun b hb => .inl hb) (fun b hb => hb.elim (hR5.lt b) (fun h => h.2))⟩
 have : w4.heap.size = g := by simpa [Value.ownBlock] using hg
 have h1 := HX.out.size
 have h2 := Hx4.out.size
 omega
set_option maxRecDepth 100000 in
set_option maxHeartbeats 8000000 in
theorem counts_heed (r d fr number : Nat) (F : Nat → Prop) (N : PNode) (room : Nat) (saved : Bool) (tt kd : Int) (na da : Option Addr) (nc dl dc : Nat) (l : List Int) (Ms : List PMsg) (w : World) (h : RaftIs w r d F N room saved)
  (hn : Rd w 1 (.slice na l.length nc) (intsV l)) (hl : l = [(N.term : Int), 1, (number : Int)]) (hr : N.role = 2) (hnum : number ≤ N.log.length) (hfr : fr < 5) (hmt : N.mt fr ≤ 1000000 ∧ N.next fr ≤ 1000000) (hok : N.Ok) (hnx1 : 1 ≤ N.next fr)
  (hM1 : ((N.heeds fr number).committed < (N.heeds fr number).commits.committed ∨ (N.heeds fr number).commits.next fr ≤ N.log.length) → Ms = [sendMsg (N.heeds fr number).commits fr]) (hM2 : ¬ ((N.heeds fr number).committed < (N.heeds fr number).commits.committed ∨ (N.heeds fr number).commits.next fr ≤ N.log.length) → Ms = []) :
  Calls Tryz.prog 50 #[.pointer (some ⟨r, 0, none⟩), msgV fr tt kd (.slice na l.length nc) (.slice da dl dc)] w (Sends r d F w Ms (N.heeds fr number).commits room saved) := by
 obtain ⟨L, tv, hb, hi1, hi2, hc, h100⟩ := h.cells
 obtain ⟨D, ps, hN, _, _⟩ := h.is
 have hlen : l.length = 3 := by rw [hl]; rfl
 obtain ⟨nb, noff, rfl, hcell⟩ := nums_cell hn (by omega)
 have cn0 : w.cell? ⟨nb, noff, none⟩ = some (.int .i64 N.term) := hcell 0 _ (by rw [hl]; rfl)
 have cn1 : w.cell? ⟨nb, noff + 1, none⟩ = some (.int .i64 1) := hcell 1 _ (by rw [hl]; rfl)
 have cn2 : w.cell? ⟨nb, noff + 2, none⟩ = some (.int .i64 (number : Int)) := hcell 2 _ (by rw [hl]; rfl)
 have c7 : w.cell? ⟨r, 7, none⟩ = some (.int .i64 N.role) := by rw [cell_of_blk hb]; rfl
 have c5 : w.cell? ⟨r, 5, none⟩ = some (.int .i64 N.term) := by rw [cell_of_blk hb]; rfl
 have cnx : w.cell? ⟨r, 13 + fr, none⟩ = some (.int .i64 (N.next fr)) := by
  rw [cell_of_blk hb]
  match fr, hfr with
  | 0, _ => rfl
  | 1, _ => rfl
  | 2, _ => rfl
  | 3, _ => rfl
  | 4, _ => rfl
 have cmt : w.cell? ⟨r, 18 + fr, none⟩ = some (.int .i64 (N.mt fr)) := by
  rw [cell_of_blk hb]
  match fr, hfr with
  | 0, _ => rfl
  | 1, _ => rfl
  | 2, _ => rfl
  | 3, _ => rfl
  | 4, _ => rfl
 obtain ⟨nx, hnx⟩ : ∃ nx, N.next fr = nx := ⟨_, rfl⟩
 obtain ⟨mt, hmt'⟩ : ∃ mt, N.mt fr = mt := ⟨_, rfl⟩
 rw [hnx] at cnx hmt
 rw [hmt'] at cmt hmt
 have hb1 : ((N.role : Int) != 2) = false := by rw [hr]; rfl
 have hb2 : ((N.term : Int) != (N.term : Int)) = false := by simp
 have hnumI : ¬ ((N.log.length : Int) < (number : Int)) := by omega
 have hfr0 : (0 : Int) ≤ (fr : Int) := by omega
 have hfr5 : (fr : Int) < 5 := by omega
 have hfrn : ((fr : Int)).toNat = fr := by omega
 have hrl := lt_of_blk hb
 have hnl := World.block_lt_of_cell? w _ cn2
 have hlast := fun (w' : World) (x : Ext NoB w w') => (rlast_any r d F N D ps w' (hN.no x)).mono (fun e w'' (h : e = .returned (.int .i64 N.log.length) ∧ w' = w'') => And.intro h.1 h.2.symm)
 rw [hlen]
 have H := Lib.hid h
 have HB := Lib.hid hb
 have Hlast := Lib.hid hlast
 have Hok := Lib.hid hok
 have HM1 := Lib.hid hM1
 have HM2 := Lib.hid hM2
 have Hnm := Lib.hid (And.intro hnx (And.intro hmt' (And.intro hmt hnum)))
 clear h hb hn hcell hl hlen hlast hN hok hnx hmt' hmt hM1 hM2
 unfold msgV
 go_enter Tryz.func50, Tryz.ntmps50
 go_wp2_with fail
 obtain ⟨w1, BM, e1, e2, x1, b1, hs1⟩ := alloc_facts w (.cells #[.int .i64 fr, .int .i64 tt, .int .i64 kd, .slice (some ⟨nb, noff, none⟩) 3 nc, .slice da dl dc] 37)
 rw [e1, e2]
 have d7 := x1.cell c7 (fun h => h)
 have d5 := x1.cell c5 (fun h => h)
 have dn0 := x1.cell cn0 (fun h => h)
 have dM3 : w1.cell? ⟨BM, 3, none⟩ = some (.slice (some ⟨nb, noff, none⟩) 3 nc) := by rw [cell_of_blk b1]; rfl
 have dM0 : w1.cell? ⟨BM, 0, none⟩ = some (.int .i64 fr) := by rw [cell_of_blk b1]; rfl
 have Hl1 := Lib.hid (fun n => Hlast.out (w1.drewN n) (x1.trans ((Ext.refl _ w1).drewN n)))
 have hBM : w.heap.size = BM := e2
 clear e1 hs1 b1
 go_quiet (first | (go_at_call 54; exact Calls.quiet_of_same (Hl1.out _)))
 go_wp2_with fail
 have xq : Ext NoB w1 (w1.drewN nq) := (Ext.refl _ w1).drewN _
 generalize w1.drewN nq = wq at xq ⊢
 have qM0 := xq.cell dM0 (fun h => h)
 have qM3 := xq.cell dM3 (fun h => h)
 have qn1 := (x1.trans xq).cell cn1 (fun h => h)
 have q18 := (x1.trans xq).cell cmt (fun h => h)
 have q13 := (x1.trans xq).cell cnx (fun h => h)
 have bq := (x1.trans xq).blk HB.out (fun h => h)
 have f13 : wq.frozen? ⟨r, 13 + fr, none⟩ = false := frozen_of_blk bq (13 + fr)
 have f18 : wq.frozen? ⟨r, 18 + fr, none⟩ = false := frozen_of_blk bq (18 + fr)
 have Hbq := Lib.hid bq
 have Hxq := Lib.hid (x1.trans xq)
 obtain ⟨vm, hvm⟩ : ∃ vm, max mt number = vm := ⟨_, rfl⟩
 obtain ⟨vx, hvx⟩ : ∃ vx, max nx (number + 1) = vx := ⟨_, rfl⟩
 have hwn : IntKind.i64.wrap ((number : Int) + 1) = (number : Int) + 1 := IntWalk.i64_in _ (by have := Hnm.out; omega)
 have hwm : max (mt : Int) (number : Int) = (vm : Int) := by omega
 have hwx : max (nx : Int) ((number : Int) + 1) = (vx : Int) := by omega
 have Hvx := Lib.hid (And.intro hvx hvm)
 clear hvx hvm
 clear d7 d5 dn0 dM0 dM3 Hl1 xq x1 bq c7 c5 cn0 cn1 cn2 cnx cmt
 go_quiet (fail)
 go_wp2_with fail
 have x0q : Ext NoB w (wq.drewN nq) := Hxq.out.trans ((Ext.refl _ wq).drewN nq)
 have p18 : (wq.drewN nq).cell? ⟨r, 18 + fr, none⟩ = some (.int .i64 mt) := q18
 have p13 : (wq.drewN nq).cell? ⟨r, 13 + fr, none⟩ = some (.int .i64 nx) := q13
 have bp : (wq.drewN nq).heap[r]? = some (.cells (nodeArr N d L tv) 92 (0, 0)) := Hbq.out
 have pM0 : (wq.drewN nq).cell? ⟨BM, 0, none⟩ = some (.int .i64 fr) := qM0
 generalize wq.drewN nq = wp at x0q p18 p13 bp pM0 ⊢
 refine wp_region_N (fun w' => w'.cell? ⟨r, 18 + fr, none⟩ = some (.int .i64 mt) ∧ w'.cell? ⟨r, 13 + fr, none⟩ = some (.int .i64 nx)) 13 (by kernel_rfl) ?_
 have hSd : wp.drew.cell? ⟨r, 18 + fr, none⟩ = some (.int .i64 mt) ∧ wp.drew.cell? ⟨r, 13 + fr, none⟩ = some (.int .i64 nx) := ⟨p18, p13⟩
 have xd : Ext NoB wp wp.drew := (Ext.refl _ wp).drew
 generalize wp.drew = wd at hSd xd ⊢
 refine wpAnyN_free 0 (v := ?_) (by kernel_rfl) rfl (fun _ _ _ h => h) hSd (by rfl) ?_ ?_; rotate_left; (focus (intro w; go_simp; try with_reducible rfl)); (try simp only [Act.put]); (try simp only [List.setIfInBounds_toArray, List.set_cons_zero, List.set_cons_succ])
 refine wpAnyN_free 1 (v := ?_) (by kernel_rfl) rfl (fun _ _ _ h => h) hSd (by rfl) ?_ ?_; rotate_left; (focus (intro w; go_simp; try with_reducible rfl)); (try simp only [Act.put]); (try simp only [List.setIfInBounds_toArray, List.set_cons_zero, List.set_cons_succ])
 refine wpAnyN_free 2 (v := ?_) (by kernel_rfl) rfl (fun _ _ _ h => h) hSd (by rfl) ?_ ?_; rotate_left; (focus (intro w; go_simp; try with_reducible rfl)); (try simp only [Act.put]); (try simp only [List.setIfInBounds_toArray, List.set_cons_zero, List.set_cons_succ])
 refine wpAnyN_free 3 (v := ?_) (by kernel_rfl) rfl (fun _ _ _ h => h) hSd (by rfl) ?_ ?_; rotate_left; (focus (intro w; go_simp; try with_reducible rfl)); (try simp only [Act.put]); (try simp only [List.setIfInBounds_toArray, List.set_cons_zero, List.set_cons_succ])
 refine wpAnyN_take 4 (v := ?_) (by kernel_rfl) rfl (fun _ _ _ h => h) hSd (by rfl) ?_ ?_; rotate_left; (focus (intro w hSw; (try dsimp only at hSw); go_simp; try with_reducible rfl)); (try simp only [Act.put]); (try simp only [List.setIfInBounds_toArray, List.set_cons_zero, List.set_cons_succ])
 refine wpAnyN_free 5 (v := ?_) (by kernel_rfl) rfl (fun _ _ _ h => h) hSd (by rfl) ?_ ?_; rotate_left; (focus (intro w; go_simp; try with_reducible rfl)); (try simp only [Act.put]); (try simp only [List.setIfInBounds_toArray, List.set_cons_zero, List.set_cons_succ])
 refine wpAnyN_free 6 (v := ?_) (by kernel_rfl) rfl (fun _ _ _ h => h) hSd (by rfl) ?_ ?_; rotate_left; (focus (intro w; go_simp; try with_reducible rfl)); (try simp only [Act.put]); (try simp only [List.setIfInBounds_toArray, List.set_cons_zero, List.set_cons_succ])
 refine wpAnyN_free 7 (v := ?_) (by kernel_rfl) rfl (fun _ _ _ h => h) hSd (by rfl) ?_ ?_; rotate_left; (focus (intro w; go_simp; try with_reducible rfl)); (try simp only [Act.put]); (try simp only [List.setIfInBounds_toArray, List.set_cons_zero, List.set_cons_succ])
 refine wpAnyN_free 8 (v := ?_) (by kernel_rfl) rfl (fun _ _ _ h => h) hSd (by rfl) ?_ ?_; rotate_left; (focus (intro w; go_simp; try with_reducible rfl)); (try simp only [Act.put]); (try simp only [List.setIfInBounds_toArray, List.set_cons_zero, List.set_cons_succ])
 refine wpAnyN_take 9 (v := ?_) (by kernel_rfl) rfl (fun _ _ _ h => h) hSd (by rfl) ?_ ?_; rotate_left; (focus (intro w hSw; (try dsimp only at hSw); go_simp; try with_reducible rfl)); (try simp only [Act.put]); (try simp only [List.setIfInBounds_toArray, List.set_cons_zero, List.set_cons_succ])
 refine wpAnyN_free 10 (v := ?_) (by kernel_rfl) rfl (fun _ _ _ h => h) hSd (by rfl) ?_ ?_; rotate_left; (focus (intro w; go_simp; try with_reducible rfl)); (try simp only [Act.put]); (try simp only [List.setIfInBounds_toArray, List.set_cons_zero, List.set_cons_succ])
 refine wpAnyN_free 11 (v := ?_) (by kernel_rfl) rfl (fun _ _ _ h => h) hSd (by rfl) ?_ ?_; rotate_left; (focus (intro w; go_simp; try with_reducible rfl)); (try simp only [Act.put]); (try simp only [List.setIfInBounds_toArray, List.set_cons_zero, List.set_cons_succ])
 refine wpAnyN_free 12 (v := ?_) (by kernel_rfl) rfl (fun _ _ _ h => h) hSd (by rfl) ?_ ?_; rotate_left; (focus (intro w; go_simp; try with_reducible rfl)); (try simp only [Act.put]); (try simp only [List.setIfInBounds_toArray, List.set_cons_zero, List.set_cons_succ])
 refine wpAnyN_tail (by rfl) (by decide) (by kernel_rfl) (by kernel_rfl) ?_
 simp only [List.drop_succ_cons, List.drop_zero, List.drop_nil]
 obtain ⟨g18, g13⟩ := hSd
 have bd := xd.blk bp (fun h => h)
 have h18 : wd.frozen? ⟨r, 18 + fr, none⟩ = false := frozen_of_blk bd (18 + fr)
 have h13 : wd.frozen? ⟨r, 13 + fr, none⟩ = false := frozen_of_blk bd (13 + fr)
 have Hx0d := Lib.hid (x0q.trans xd)
 have gM0 := xd.cell pM0 (fun h => h)
 clear p18 p13 bp xd x0q bd q18 q13 qn1 f13 f18 pM0
 go_wp2_with fail
 have xs : Ext (fun b => b = r) wd ((wd.setCell ⟨r, 18 + fr, none⟩ (.int .i64 vm)).setCell ⟨r, 13 + fr, none⟩ (.int .i64 vx)) := ((Ext.refl (fun b => b = r) wd).setCell (p := ⟨r, 18 + fr, none⟩) (.inl rfl) _).setCell (p := ⟨r, 13 + fr, none⟩) (.inl rfl) _
 obtain ⟨hR, hX⟩ := RaftIs.set (N' := N.heeds fr number) (H.out.no Hx0d.out) xs (fun L tv hb => by
  rw [← heeds_set N d L tv fr number hfr, Hnm.out.2.1, Hnm.out.1, Hvx.out.1, Hvx.out.2]
  exact blk_setCell (blk_setCell hb (18 + fr) (.int .i64 vm)) (13 + fr) (.int .i64 vx)) rfl ⟨hi1, hi2⟩ hc rfl rfl
 have hBMr : BM ≠ r := by omega
 have hM0s := xs.cell gM0 hBMr
 obtain ⟨D2, ps2, hN2, hrm2, hpm2⟩ := hR.is
 have hBMF : ¬ F BM := fun h => by have := H.out.lt BM h; omega
 have hnxv : (N.heeds fr number).commits.next fr = vx := by show (if fr = fr then max (N.next fr) (number + 1) else _) = vx; rw [if_pos rfl, Hnm.out.1, Hvx.out.1]
 obtain ⟨NH, hNH⟩ : ∃ NH, N.heeds fr number = NH := ⟨_, rfl⟩
 have hid1 : NH.commits.id = N.id := by rw [← hNH]; rfl
 have hnn1 : NH.commits.n = N.n := by rw [← hNH]; rfl
 have hlog1 : NH.commits.log = N.log := by rw [← hNH]; rfl
 rw [hNH] at hN2 hR hnxv hpm2
 have hcm := commits_any r d F NH D2 ps2 _ hN2
 have Hcm := Lib.hid hcm
 have HR := Lib.hid hR
 have HX := Lib.hid ((Hx0d.out.of_no).trans hX)
 have Hp2 := Lib.hid (And.intro hrm2 hpm2)
 have HNH := Lib.hid hNH
 have Hcon := Lib.hid (And.intro hid1 (And.intro hnn1 (And.intro hlog1 hnxv)))
 have HM0s := Lib.hid hM0s
 have Hterms := Lib.hid (And.intro hR.fresh (And.intro hR.vote hR.term))
 clear hcm hR hX hrm2 hpm2 hNH hid1 hnn1 hlog1 hnxv hM0s gM0 xs hN2 g18 g13 h18 h13 qM0 qM3
 refine Hcm.out.mono ?_; rintro _ w3 ⟨rfl, x3, n3⟩
 have kM0 := x3.cell HM0s.out hBMF
 have k13 : w3.cell? ⟨r, 13 + fr, none⟩ = some (.int .i64 vx) := by
  obtain ⟨_, _, _, _, _, _, hA3, _⟩ := n3
  rw [cell_of_blk hA3.blk, ← Hcon.out.2.2.2]
  match fr, hfr with
  | 0, _ => rfl
  | 1, _ => rfl
  | 2, _ => rfl
  | 3, _ => rfl
  | 4, _ => rfl
 have hlq := fun (n : Nat) => (rlast_any r d F NH.commits D2 ps2 (w3.drewN n) (n3.no ((Ext.refl _ w3).drewN n))).mono (fun e w'' (h : e = .returned (.int .i64 NH.commits.log.length) ∧ w3.drewN n = w'') => And.intro h.1 h.2.symm)
 rw [Hcon.out.2.2.1] at hlq
 have Hlq := Lib.hid hlq
 have HR3 : Hid (RaftIs w3 r d F NH.commits room saved) := Lib.hid ⟨⟨D2, ps2, n3, Hp2.out.1, Hp2.out.2⟩, Hterms.out.1, Hterms.out.2.1, Hterms.out.2.2⟩
 have HX3 := Lib.hid (HX.out.trans x3)
 have hok3 : NH.commits.Ok := by intro e he; rw [Hcon.out.2.2.1] at he; exact Hok.out e he
 have hsend := fun w' (x : Ext NoB w3 w') => sends_any r d F NH.commits D2 ps2 fr w' (n3.no x) hok3 hfr (by rw [Hcon.out.2.2.2]; have := Hnm.out; have := Hvx.out; omega)
 have Hsend3 := Lib.hid hsend
 clear n3 x3 hlq hok3 hsend
 by_cases hgrew : NH.committed < NH.commits.committed
 ·have hg : decide (NH.committed < NH.commits.committed) = true := decide_eq_true hgrew
  rw [hg]
  have hMs := HM1.out (by rw [HNH.out]; exact .inl hgrew)
  rw [HNH.out] at hMs
  subst hMs
  clear hgrew hg
  go_wp2_with fail
  go_quiet (fail)
  have xz : Ext NoB w3 (w3.drewN nq) := (Ext.refl _ w3).drewN nq
  have zM0 : (w3.drewN nq).cell? ⟨BM, 0, none⟩ = some (.int .i64 fr) := kM0
  have Hsend := Lib.hid (Hsend3.out _ xz)
  have HR := Lib.hid (HR3.out.no xz)
  have HX := Lib.hid (HX3.out.nextNo xz)
  generalize w3.drewN nq = wz at zM0 Hsend HR HX ⊢
  go_wp2_with fail
  refine Hsend.out.mono ?_; rintro _ w4 ⟨m, rfl, x4, hm4⟩
  obtain ⟨nv, dv, rfl, hnv, hdv⟩ := hm4
  have hidv : (sendMsg NH.commits fr).fr = (N.id : Int) := by show ((NH.commits.id : Nat) : Int) = _; rw [Hcon.out.1]
  have htv : (sendMsg NH.commits fr).tt = (fr : Int) := rfl
  have hkv : (sendMsg NH.commits fr).kd = 3 := rfl
  rw [hidv, htv, hkv]
  clear hidv htv hkv
  obtain ⟨nva, nvn, nvc, rfl, _⟩ := hnv.rd
  obtain ⟨dva, dvn, dvc, rfl, _⟩ := hdv.rd
  have Hx4 := Lib.hid x4
  have Hnv := Lib.hid hnv
  have Hdv := Lib.hid hdv
  clear x4 hnv hdv
  go_wp2_with fail
  go_ret
  have hR4 := HR.out.no Hx4.out
  have xa : Ext NoB w4 (w4.alloc (.cells #[.int .i64 N.id, .int .i64 fr, .int .i64 3, .slice nva nvn nvc, .slice dva dvn dvc] 37)) := (Ext.refl _ w4).alloc _
  have hmi : MsgIs (w4.alloc (.cells #[.int .i64 N.id, .int .i64 fr, .int .i64 3, .slice nva nvn nvc, .slice dva dvn dvc] 37)) [.int .i64 N.id, .int .i64 fr, .int .i64 3, .slice nva nvn nvc, .slice dva dvn dvc] (sendMsg NH.commits fr) := ⟨_, _, by rw [← Hcon.out.1]; rfl, Hnv.out.no xa, Hdv.out.no xa⟩
  have xF := (HX.out.nextNo Hx4.out).nextNo xa
  have hR5 := hR4.no xa
  have hb5 := blk_new w4 (.cells #[.int .i64 N.id, .int .i64 fr, .int .i64 3, .slice nva nvn nvc, .slice dva dvn dvc] 37)
  rw [HNH.out]
  refine ⟨_, rfl, MsgsAre.one (fr := (0, 0)) hb5 hmi, fun g hg => ?_, xF, hR5.wide (fun b hb => .inl hb) (fun b hb => hb.elim (hR5.lt b) (fun h => h.2))⟩
  have : w4.heap.size = g := by simpa [Value.ownBlock] using hg
  have h1 := HX.out.size
  have h2 := Hx4.out.size
  omega
 ·have hg : decide (NH.committed < NH.commits.committed) = false := decide_eq_false hgrew
  rw [hg]
  by_cases hle : vx ≤ N.log.length
  ·have hMs := HM1.out (by rw [HNH.out]; exact .inr (by rw [Hcon.out.2.2.2]; exact hle))
   rw [HNH.out] at hMs
   subst hMs
   have hleI : (vx : Int) ≤ (N.log.length : Int) := by omega
   clear hgrew hg hle
   go_wp2_with fail
   go_quiet (first | (go_at_call 54; exact Calls.quiet_of_same (Hlq.out _)))
   have xz : Ext NoB w3 (w3.drewN nq) := (Ext.refl _ w3).drewN nq
   have zM0 : (w3.drewN nq).cell? ⟨BM, 0, none⟩ = some (.int .i64 fr) := kM0
   have Hsend := Lib.hid (Hsend3.out _ xz)
   have HR := Lib.hid (HR3.out.no xz)
   have HX := Lib.hid (HX3.out.nextNo xz)
   generalize w3.drewN nq = wz at zM0 Hsend HR HX ⊢
   go_wp2_with fail
   refine Hsend.out.mono ?_; rintro _ w4 ⟨m, rfl, x4, hm4⟩
   obtain ⟨nv, dv, rfl, hnv, hdv⟩ := hm4
   have hidv : (sendMsg NH.commits fr).fr = (N.id : Int) := by show ((NH.commits.id : Nat) : Int) = _; rw [Hcon.out.1]
   have htv : (sendMsg NH.commits fr).tt = (fr : Int) := rfl
   have hkv : (sendMsg NH.commits fr).kd = 3 := rfl
   rw [hidv, htv, hkv]
   clear hidv htv hkv
   obtain ⟨nva, nvn, nvc, rfl, _⟩ := hnv.rd
   obtain ⟨dva, dvn, dvc, rfl, _⟩ := hdv.rd
   have Hx4 := Lib.hid x4
   have Hnv := Lib.hid hnv
   have Hdv := Lib.hid hdv
   clear x4 hnv hdv
   go_wp2_with fail
   go_ret
   have hR4 := HR.out.no Hx4.out
   have xa : Ext NoB w4 (w4.alloc (.cells #[.int .i64 N.id, .int .i64 fr, .int .i64 3, .slice nva nvn nvc, .slice dva dvn dvc] 37)) := (Ext.refl _ w4).alloc _
   have hmi : MsgIs (w4.alloc (.cells #[.int .i64 N.id, .int .i64 fr, .int .i64 3, .slice nva nvn nvc, .slice dva dvn dvc] 37)) [.int .i64 N.id, .int .i64 fr, .int .i64 3, .slice nva nvn nvc, .slice dva dvn dvc] (sendMsg NH.commits fr) := ⟨_, _, by rw [← Hcon.out.1]; rfl, Hnv.out.no xa, Hdv.out.no xa⟩
   have xF := (HX.out.nextNo Hx4.out).nextNo xa
   have hR5 := hR4.no xa
   have hb5 := blk_new w4 (.cells #[.int .i64 N.id, .int .i64 fr, .int .i64 3, .slice nva nvn nvc, .slice dva dvn dvc] 37)
   rw [HNH.out]
   refine ⟨_, rfl, MsgsAre.one (fr := (0, 0)) hb5 hmi, fun g hg => ?_, xF, hR5.wide (fun b hb => .inl hb) (fun b hb => hb.elim (hR5.lt b) (fun h => h.2))⟩
   have : w4.heap.size = g := by simpa [Value.ownBlock] using hg
   have h1 := HX.out.size
   have h2 := Hx4.out.size
   omega
  ·have hMs := HM2.out (by rw [HNH.out]; rintro (h | h); exact hgrew h; (rw [Hcon.out.2.2.2] at h; exact hle h))
   subst hMs
   have hleI : ¬ ((vx : Int) ≤ (N.log.length : Int)) := by omega
   clear hgrew hg hle
   go_wp2_with fail
   go_quiet (first | (go_at_call 54; exact Calls.quiet_of_same (Hlq.out _)))
   go_wp2_with fail
   go_ret
   have xz : Ext NoB w3 (w3.drewN nq) := (Ext.refl _ w3).drewN nq
   have hR4 := HR3.out.no xz
   have s1 := HX3.out.size
   have s2 := xz.size
   rw [HNH.out]
   exact ⟨_, rfl, ⟨[], .nil, Own.nil _ _ _⟩, Fresh.nil _ _ _, HX3.out.nextNo xz, hR4.wide (fun b hb => .inl hb) (fun b hb => hb.elim (hR4.lt b) (fun h => h.2))⟩
end Go.Proofs.YtgglbholbkdgfaaGreatDoor
namespace Go.Proofs.YtgglbholbkdgfaaGreatDoor
open Go.RowKit
set_option maxRecDepth 100000 in
set_option maxHeartbeats 4000000 in
theorem told_miss (r d : Nat) (F : Nat → Prop) (N : PNode) (room : Nat) (saved : Bool) (fr tt draw : Int) (na da : Option Addr) (nc dl dc c3 a ta : Nat) (l : List Int) (w : World) (h : RaftIs w r d F N room saved)
  (hn : Rd w 1 (.slice na l.length nc) (intsV l)) (hoff : Off F (.slice na l.length nc)) (hl : l = [(N.term : Int), (a : Int), (ta : Int), (c3 : Int)]) (hmiss : ¬ (a ≤ N.log.length ∧ N.termOf a = ta)) (ha : a ≤ 1099511627776) (hc3 : c3 ≤ 1099511627776) :
  Calls Tryz.prog 49 #[.pointer (some ⟨r, 0, none⟩), msgV fr tt 3 (.slice na l.length nc) (.slice da dl dc), .int .i64 draw] w (Sends r d F w [tookMsg N fr 0 (min N.log.length (a - 1) : Nat)] (N.follows fr draw) room saved) := by
 obtain ⟨L, tv, hb, hi1, hi2, hcm, hll⟩ := h.cells
 have hlt := h.lt
 have hlen : l.length = 4 := by rw [hl]; rfl
 obtain ⟨nb, noff, rfl, hcell⟩ := nums_cell hn (by omega)
 obtain ⟨tm, htm⟩ : ∃ tm, N.termOf a = tm := ⟨_, rfl⟩
 have cn0 : w.cell? ⟨nb, noff, none⟩ = some (.int .i64 N.term) := hcell 0 _ (by rw [hl]; rfl)
 have cn1 : w.cell? ⟨nb, noff + 1, none⟩ = some (.int .i64 a) := hcell 1 _ (by rw [hl]; rfl)
 have cn2 : w.cell? ⟨nb, noff + 2, none⟩ = some (.int .i64 ta) := hcell 2 _ (by rw [hl]; rfl)
 have cn3 : w.cell? ⟨nb, noff + 3, none⟩ = some (.int .i64 c3) := hcell 3 _ (by rw [hl]; rfl)
 have hnbF : ¬ F nb := hoff nb rfl
 rw [hlen] at hn ⊢
 have c5 : w.cell? ⟨r, 5, none⟩ = some (.int .i64 N.term) := by rw [cell_of_blk hb]; rfl
 have hmf : ∀ (fn : Fn) (first cap : Array Value) (w : World), (Instr.makeFunc fn first cap).run Tryz.prog w = .ok (.func fn first cap) w := fun _ _ _ _ => rfl
 have hrl := lt_of_blk hb
 have H := Lib.hid h
 have Hb := Lib.hid hb
 have Hlt := Lib.hid hlt
 have Htm := Lib.hid htm
 have hrF : F r := by
  obtain ⟨_, _, ⟨_, _, _, _, _, _, k1, k2, _⟩, _, _⟩ := h.is
  exact k2 r (.inr (.inr k1.self))
 have hnr : nb ≠ r := fun e => hnbF (e ▸ hrF)
 clear h hb hn hcell hl hlt hlen hoff htm
 unfold msgV
 go_enter Tryz.func49, Tryz.ntmps49
 go_wp2_with fail
 obtain ⟨w1, BN, e1, e2, x1, b1, hs1⟩ := alloc_facts w (.cells #[.pointer (some ⟨r, 0, none⟩)] 27)
 obtain ⟨w2, BM, e3, e4, x2, b2, hs2⟩ := alloc_facts w1 (.cells #[.int .i64 fr, .int .i64 tt, .int .i64 3, .slice (some ⟨nb, noff, none⟩) 4 nc, .slice da dl dc] 37)
 obtain rfl : BM = BN + 1 := by omega
 rw [e1, e2, e3]
 have x02 := x1.trans x2
 have bN := x2.blk b1 (fun h => h)
 have hsz : w.heap.size = BN := e2
 have hBNF : ¬ F BN := fun h => by have := Hlt.out BN h; omega
 have hBMF : ¬ F (BN + 1) := fun h => by have := Hlt.out (BN + 1) h; omega
 have hrBN : BN ≠ r ∧ BN + 1 ≠ r := by omega
 have dN : w2.cell? ⟨BN, 0, none⟩ = some (.pointer (some ⟨r, 0, none⟩)) := by rw [cell_of_blk bN]; rfl
 have dM0 : w2.cell? ⟨BN + 1, 0, none⟩ = some (.int .i64 fr) := by rw [cell_of_blk b2]; rfl
 have dM3 : w2.cell? ⟨BN + 1, 3, none⟩ = some (.slice (some ⟨nb, noff, none⟩) 4 nc) := by rw [cell_of_blk b2]; rfl
 have dM4 : w2.cell? ⟨BN + 1, 4, none⟩ = some (.slice da dl dc) := by rw [cell_of_blk b2]; rfl
 have d5 := x02.cell c5 (fun h => h)
 have dn0 := x02.cell cn0 (fun h => h)
 have dn1 := x02.cell cn1 (fun h => h)
 have dn2 := x02.cell cn2 (fun h => h)
 have dn3 := x02.cell cn3 (fun h => h)
 have Hb2 := Lib.hid (x02.blk Hb.out (fun h => h))
 have Hx02 := Lib.hid x02
 clear e1 e2 e3 e4 x1 x2 b1 b2 hs1 hs2 bN x02 c5 cn0 cn1 cn2 cn3
 go_quiet (fail)
 go_wp2_with fail
 have xq : Ext NoB w2 (w2.drewN nq).drew := ((Ext.refl _ w2).drewN _).drew
 refine wp_region_N (fun w' => w'.cell? ⟨BN, 0, none⟩ = some (.pointer (some ⟨r, 0, none⟩)) ∧ w'.cell? ⟨BN + 1, 0, none⟩ = some (.int .i64 fr)) 10 (by kernel_rfl) ?_
 have hSd : (w2.drewN nq).drew.cell? ⟨BN, 0, none⟩ = some (.pointer (some ⟨r, 0, none⟩)) ∧ (w2.drewN nq).drew.cell? ⟨BN + 1, 0, none⟩ = some (.int .i64 fr) := ⟨xq.cell dN (fun h => h), xq.cell dM0 (fun h => h)⟩
 generalize (w2.drewN nq).drew = wd at hSd xq ⊢
 have bD : wd.heap[r]? = some (.cells (nodeArr N d L tv) 92 (0, 0)) := xq.blk Hb2.out (fun h => h)
 have d7 : wd.cell? ⟨r, 7, none⟩ = some (.int .i64 N.role) := by rw [cell_of_blk bD]; rfl
 have f7 : wd.frozen? ⟨r, 7, none⟩ = false := frozen_of_blk bD 7
 refine wpAnyN_take 0 (v := ?_) (by kernel_rfl) rfl (fun _ _ _ h => h) hSd (by rfl) ?_ ?_; rotate_left; (focus (intro w hSw; (try dsimp only at hSw); go_simp; try with_reducible rfl)); (try simp only [Act.put]); (try simp only [List.setIfInBounds_toArray, List.set_cons_zero, List.set_cons_succ])
 refine wpAnyN_take 1 (v := ?_) (by kernel_rfl) rfl (fun _ _ _ h => h) hSd (by rfl) ?_ ?_; rotate_left; (focus (intro w hSw; (try dsimp only at hSw); go_simp; try with_reducible rfl)); (try simp only [Act.put]); (try simp only [List.setIfInBounds_toArray, List.set_cons_zero, List.set_cons_succ])
 refine wpAnyN_free 2 (v := ?_) (by kernel_rfl) rfl (fun _ _ _ h => h) hSd (by rfl) ?_ ?_; rotate_left; (focus (intro w; go_simp; try with_reducible rfl)); (try simp only [Act.put]); (try simp only [List.setIfInBounds_toArray, List.set_cons_zero, List.set_cons_succ])
 refine wpAnyN_take 3 (v := ?_) (by kernel_rfl) rfl (fun _ _ _ h => h) hSd (by rfl) ?_ ?_; rotate_left; (focus (intro w hSw; (try dsimp only at hSw); go_simp; try with_reducible rfl)); (try simp only [Act.put]); (try simp only [List.setIfInBounds_toArray, List.set_cons_zero, List.set_cons_succ])
 refine wpAnyN_free 4 (v := ?_) (by kernel_rfl) rfl (fun _ _ _ h => h) hSd (by rfl) ?_ ?_; rotate_left; (focus (intro w; go_simp; try with_reducible rfl)); (try simp only [Act.put]); (try simp only [List.setIfInBounds_toArray, List.set_cons_zero, List.set_cons_succ])
 refine wpAnyN_free 5 (v := ?_) (by kernel_rfl) rfl (fun _ _ _ h => h) hSd (by rfl) ?_ ?_; rotate_left; (focus (intro w; go_simp; try with_reducible rfl)); (try simp only [Act.put]); (try simp only [List.setIfInBounds_toArray, List.set_cons_zero, List.set_cons_succ])
 refine wpAnyN_one 6 (by kernel_rfl) (by simp only [List.getElem?_toArray, List.getElem?_cons_succ, List.getElem?_cons_zero] <;> rfl) (by rfl) (fun K hK => ?_)
 go_simp
 have xs1 : Ext (fun b => b = r) wd (wd.setCell ⟨r, 7, none⟩ (.int .i64 0)) := (Ext.refl (fun b => b = r) wd).setCell (p := ⟨r, 7, none⟩) (.inl rfl) _
 have bD1 := blk_setCell bD 7 (.int .i64 0)
 generalize (wd.setCell ⟨r, 7, none⟩ (.int .i64 0)) = we at xs1 bD1 ⊢
 have hS1 := And.intro (xs1.cell hSd.1 hrBN.1) (xs1.cell hSd.2 hrBN.2)
 refine hK.out _ _ hS1 (fun hSd => ?_)
 clear hK K hSd d7 f7
 have hSd := hS1
 have d8 : we.cell? ⟨r, 8, none⟩ = some (.int .i64 N.leader) := by rw [cell_of_blk bD1]; rfl
 have f8 : we.frozen? ⟨r, 8, none⟩ = false := frozen_of_blk bD1 8
 (try simp only [Act.put]); (try simp only [List.setIfInBounds_toArray, List.set_cons_zero, List.set_cons_succ])
 refine wpAnyN_free 7 (v := ?_) (by kernel_rfl) rfl (fun _ _ _ h => h) hSd (by rfl) ?_ ?_; rotate_left; (focus (intro w; go_simp; try with_reducible rfl)); (try simp only [Act.put]); (try simp only [List.setIfInBounds_toArray, List.set_cons_zero, List.set_cons_succ])
 refine wpAnyN_free 8 (v := ?_) (by kernel_rfl) rfl (fun _ _ _ h => h) hSd (by rfl) ?_ ?_; rotate_left; (focus (intro w; go_simp; try with_reducible rfl)); (try simp only [Act.put]); (try simp only [List.setIfInBounds_toArray, List.set_cons_zero, List.set_cons_succ])
 refine wpAnyN_one 9 (by kernel_rfl) (by simp only [List.getElem?_toArray, List.getElem?_cons_succ, List.getElem?_cons_zero] <;> rfl) (by rfl) (fun K hK => ?_)
 go_simp
 have xs2 : Ext (fun b => b = r) we (we.setCell ⟨r, 8, none⟩ (.int .i64 fr)) := (Ext.refl (fun b => b = r) we).setCell (p := ⟨r, 8, none⟩) (.inl rfl) _
 have bD2 := blk_setCell bD1 8 (.int .i64 fr)
 generalize (we.setCell ⟨r, 8, none⟩ (.int .i64 fr)) = wf at xs2 bD2 ⊢
 have hS2 := And.intro (xs2.cell hSd.1 hrBN.1) (xs2.cell hSd.2 hrBN.2)
 refine hK.out _ _ hS2 (fun hSd => ?_)
 clear hK K hSd d8 f8
 (try simp only [Act.put]); (try simp only [List.setIfInBounds_toArray, List.set_cons_zero, List.set_cons_succ])
 refine wpAnyN_tail (by rfl) (by decide) (by kernel_rfl) (by kernel_rfl) ?_
 simp only [List.drop_succ_cons, List.drop_zero, List.drop_nil]
 have xv : Ext (fun b => b = r) w2 wf := (xq.of_no.trans xs1).trans xs2
 obtain ⟨r3, x3F⟩ := RaftIs.set (N' := { N with role := 0, leader := fr }) (H.out.no Hx02.out) xv (fun L' tv' hb' => by
  have e := Hb2.out.symm.trans hb'
  have e2 : nodeArr N d L tv = nodeArr N d L' tv' := by
   injection e with e; injection e
  have eL : L = L' ∧ tv = tv' := by
   have e3 := congrArg Array.toList e2
   simp only [nodeArr, List.cons.injEq, Value.pointer.injEq, Option.some.injEq, Addr.mk.injEq] at e3
   exact ⟨e3.2.2.2.1.1, e3.2.2.2.2.1⟩
  obtain ⟨rfl, rfl⟩ := eL
  exact bD2) rfl ⟨hi1, hi2⟩ hcm rfl rfl
 obtain ⟨D3, ps3, hN3, hrm3, hp3⟩ := r3.is
 have gN := xv.cell dN hrBN.1
 have gM0 := xv.cell dM0 hrBN.2
 have gM3 := xv.cell dM3 hrBN.2
 have gM4 := xv.cell dM4 hrBN.2
 have gn1 := xv.cell dn1 hnr
 have gn2 := xv.cell dn2 hnr
 have gn3 := xv.cell dn3 hnr
 have HN3 := Lib.hid hN3
 have Hr3 := Lib.hid r3
 have Hx3F := Lib.hid x3F
 have Hp3 := Lib.hid (And.intro hrm3 hp3)
 clear r3 x3F xs1 xs2 bD bD1 bD2 hS1 hS2 xv xq dN dM0 dM3 dM4 d5 dn0 dn1 dn2 dn3 hN3 hrm3 hp3 hSd
 go_wp2_with fail
 refine (anew_any r d F _ D3 ps3 draw wf HN3.out).mono ?_; rintro e w4 ⟨rfl, x4, n4⟩
 have kN := x4.cell gN hBNF
 have kM0 := x4.cell gM0 hBMF
 have kM3 := x4.cell gM3 hBMF
 have kM4 := x4.cell gM4 hBMF
 have kn1 := x4.cell gn1 hnbF
 have kn2 := x4.cell gn2 hnbF
 have kn3 := x4.cell gn3 hnbF
 have hterm := termOf_any r d F (N.follows fr draw) D3 ps3 a w4 n4 (by omega)
 have hta : (N.follows fr draw).termOf a = tm := Htm.out
 obtain ⟨ok, hok⟩ : ∃ ok, (N.follows fr draw).has (a : Int) = ok := ⟨_, rfl⟩
 rw [hta, hok] at hterm
 have Hterm := Lib.hid hterm
 have Hn4 := Lib.hid n4
 have Hx4 := Lib.hid x4
 have Hk0 := Lib.hid kM0
 have hlastq : Hid (Calls Tryz.prog 54 #[.pointer (some ⟨r, 0, none⟩)] w4 fun e w' => e = .returned (.int .i64 N.log.length) ∧ w4 = w') := Lib.hid (rlast_any r d F (N.follows fr draw) D3 ps3 w4 n4)
 have hcase : (ok = false) ∨ (ok = true ∧ ((tm : Int) != (ta : Int)) = true) := by
  cases ok with
  | false => exact .inl rfl
  | true =>
   refine .inr ⟨rfl, ?_⟩
   rw [bne_iff_ne]
   intro h
   unfold PNode.has at hok
   have h2 := of_decide_eq_true hok
   have h3 : (a : Int) ≤ (N.log.length : Int) := h2.2
   exact hmiss ⟨by omega, by have := Htm.out; omega⟩
 have hwa : IntKind.i64.wrap ((a : Int) - 1) = (a : Int) - 1 := IntWalk.i64_in _ (by omega)
 have hmx : max (0 : Int) (min (N.log.length : Int) ((a : Int) - 1)) = ((min N.log.length (a - 1) : Nat) : Int) := by omega
 obtain ⟨vv, hvv⟩ : ∃ vv, min N.log.length (a - 1) = vv := ⟨_, rfl⟩
 rw [hvv] at hmx
 have Hvv := Lib.hid hvv
 clear hvv
 clear x4 n4 hterm hta hok hmiss gN gM0 gM3 gM4 gn1 gn2 gn3
 go_wp2_with fail
 refine Hterm.out.mono ?_; rintro e w5 ⟨rfl, rfl⟩
 rcases hcase with rfl | ⟨rfl, hne⟩
 all_goals
  go_wp2_with fail
  refine hlastq.out.mono ?_; rintro e w5 ⟨rfl, rfl⟩
  obtain ⟨L4, FD4, FL4, FR4, tv4, dl4, hA4, hF4, hlt4⟩ := Hn4.out
  have hans := answer_any r BN (BN + 1) L4 d tv4 (N.follows fr draw) fr 0 vv w4 hA4.blk kN Hk0.out
  have Hans := Lib.hid hans
  clear hans hA4 hF4 hlt4
  go_wp2_with fail
  refine Hans.out.mono ?_; rintro e w6 ⟨v, rfl, hm, hf, x6⟩
  obtain ⟨ms, hms, hown⟩ := hm
  obtain ⟨va, vn, vc, rfl, _⟩ := hown.rd
  have Hm := Lib.hid hms
  have Ho := Lib.hid hown
  have Hf := Lib.hid hf
  have Hx6 := Lib.hid x6
  clear hms hown hf x6
  go_wp2_with fail
  go_ret
  have xF : Ext F w w6 := (((Hx02.out.of_no).trans Hx3F.out).trans Hx4.out).nextNo Hx6.out
  have s1 := Hx02.out.size
  have s2 := Hx3F.out.size
  have s3 := Hx4.out.size
  rw [Hvv.out]
  refine ⟨_, rfl, ⟨ms, Hm.out, Ho.out⟩, fun g hg => by have := Hf.out g hg; omega, xF, ?_⟩
  have hR : RaftIs w6 r d F (N.follows fr draw) room saved := ⟨⟨D3, ps3, Hn4.out.no Hx6.out, Hp3.out.1, Hp3.out.2⟩, H.out.fresh, H.out.vote, H.out.term⟩
  exact hR.wide (fun b hb => .inl hb) (fun b hb => hb.elim (hR.lt b) (fun h => h.2))
end Go.Proofs.YtgglbholbkdgfaaGreatDoor
namespace Go.Proofs.YtgglbholbkdgfaaGreatDoor
open Go.RowKit
set_option maxRecDepth 100000 in
set_option maxHeartbeats 2000000 in
theorem Propose_not (r d : Nat) (F : Nat → Prop) (N : PNode) (room : Nat) (saved : Bool) (pa : Option Addr) (pn pc : Nat) (w : World) (h : RaftIs w r d F N room saved) (hr : N.role ≠ 2) :
  Calls Tryz.prog 24 #[.pointer (some ⟨r, 0, none⟩), .slice pa pn pc] w fun e w' => e = .returned (.tuple #[.int .i64 0, .slice none 0 0, .int .i64 13]) ∧ Ext NoB w w' := by
 obtain ⟨L, tv, hb, hi1, hi2, hc, _⟩ := h.cells
 have c23 : w.cell? ⟨r, 23, none⟩ = some (.bool false) := by rw [cell_of_blk hb]; rfl
 have c7 : w.cell? ⟨r, 7, none⟩ = some (.int .i64 N.role) := by rw [cell_of_blk hb]; rfl
 have hb1 : ((N.role : Int) != 2) = true := by rw [bne_iff_ne]; omega
 clear h hb
 go_enter Tryz.func24, Tryz.ntmps24
 go_wp2_with fail
 go_ret3
 exact ⟨rfl, Ext.refl _ _⟩
def Proposed (r d : Nat) (F : Nat → Prop) (w : World) (n : Nat) (Ms : List PMsg) (N' : PNode) (room : Nat) (saved : Bool) (e : Ending) (w' : World) : Prop :=
 ∃ v, e = .returned (.tuple #[.int .i64 n, v, .int .i64 0]) ∧ MsgsAre w' v Ms ∧ Fresh w v ∧ Ext F w w' ∧ RaftIs w' r d (Gr F w w') N' room saved
set_option maxRecDepth 100000 in
set_option maxHeartbeats 4000000 in
theorem Propose_leads (r d : Nat) (F : Nat → Prop) (N : PNode) (room : Nat) (saved : Bool) (pa : Option Addr) (pc : Nat) (x : List UInt8) (w : World) (h : RaftIs w r d F N room saved) (hr : N.role = 2) (hx : RdB w (.slice pa x.length pc) x) (hoff : Off F (.slice pa x.length pc)) (hx1 : 1 ≤ x.length ∧ x.length ≤ 65536)
  (hlay : LayOk N.log room N.term x) (hok : N.Ok) (hnx : ∀ t, t < N.n → 1 ≤ N.next t ∧ N.next t ≤ 1099511627776) :
  Calls Tryz.prog 24 #[.pointer (some ⟨r, 0, none⟩), .slice pa x.length pc] w (Proposed r d F w (N.log.length + 1) ((tos N.n N.id).map (sendMsg (N.lays (N.term, x)).commits)) (N.lays (N.term, x)).commits room saved) := by
 obtain ⟨L, tv, hb, hi1, hi2, hc, _⟩ := h.cells
 have c23 : w.cell? ⟨r, 23, none⟩ = some (.bool false) := by rw [cell_of_blk hb]; rfl
 have c7 : w.cell? ⟨r, 7, none⟩ = some (.int .i64 N.role) := by rw [cell_of_blk hb]; rfl
 have c5 : w.cell? ⟨r, 5, none⟩ = some (.int .i64 N.term) := by rw [cell_of_blk hb]; rfl
 have hb1 : ((N.role : Int) != 2) = false := by rw [hr]; rfl
 have hl1 : ¬ ((x.length : Int) < 1) := by omega
 have hl2 : ¬ ((65536 : Int) < (x.length : Int)) := by omega
 have hmf : ∀ (fn : Fn) (first cap : Array Value) (w : World), (Instr.makeFunc fn first cap).run Tryz.prog w = .ok (.func fn first cap) w := fun _ _ _ _ => rfl
 have hterm := h.term
 have hlays := Lib.hid (hlay r d F N saved _ w h rfl hx hoff)
 have H := Lib.hid h
 have Hok := Lib.hid hok
 have Hnx := Lib.hid hnx
 have Hx1 := Lib.hid hx1
 clear h hb hx hoff hlay hok hnx hx1
 have hze := fun (w : World) => (show (zeroValue 50).run Tryz.prog w = .ok (.agg #[.int .i64 0, .slice none 0 0]) w by kernel_rfl)
 go_enter Tryz.func24, Tryz.ntmps24
 go_wp2_with fail
 refine hlays.out.mono ?_; rintro e w2 ⟨rfl, x2, r2⟩
 obtain ⟨N2, hN2⟩ : ∃ N2, ({ N with log := N.log ++ [(N.term, x)] } : PNode) = N2 := ⟨_, rfl⟩
 rw [hN2] at r2
 obtain ⟨D2, ps2, hn2, hrm2, hperm2⟩ := r2.is
 have hll : N2.log.length = N.log.length + 1 := by rw [← hN2]; simp
 have hlast := rlast_any r d _ N2 D2 ps2 w2 hn2
 obtain ⟨nl, hnl⟩ : ∃ nl, N.log.length + 1 = nl := ⟨_, rfl⟩
 rw [hll, hnl] at hlast
 have Hlast := Lib.hid hlast
 have Hr2 := Lib.hid r2
 have HN2 := Lib.hid hN2
 have Hx2 := Lib.hid x2
 have Hn2 := Lib.hid hn2
 have Hhp := Lib.hid (And.intro hrm2 hperm2)
 have Hnl := Lib.hid hnl
 clear r2 hN2 x2 hn2 hrm2 hperm2 hlast hll hnl
 go_wp2_with fail
 refine Hlast.out.mono ?_; rintro e w2' ⟨rfl, rfl⟩
 go_wp2_with fail
 refine (commits_any r d _ N2 D2 ps2 w2 Hn2.out).mono ?_; rintro e w3 ⟨rfl, x3, n3⟩
 have Hn3 := Lib.hid n3
 have Hx3 := Lib.hid x3
 clear n3 x3
 go_wp2_with fail
 have hid2 : N2.commits.id = N.id := by rw [← HN2.out]; rfl
 have hnn2 : N2.commits.n = N.n := by rw [← HN2.out]; rfl
 have hok2 : N2.commits.Ok := by
  have e : N2.commits.log = N.log ++ [(N.term, x)] := by rw [← HN2.out]; rfl
  intro y hy
  rw [e, List.mem_append, List.mem_singleton] at hy
  rcases hy with hy | hy
  ·exact Hok.out y hy
  ·subst hy; exact ⟨hterm, by have := Hx1.out; show x.length ≤ _; omega⟩
 have hnx2 : ∀ t, t < N.n → 1 ≤ N2.commits.next t ∧ N2.commits.next t ≤ 1099511627776 := by
  intro t ht
  have e : N2.commits.next t = N.next t := by rw [← HN2.out]; rfl
  rw [e]; exact Hnx.out t ht
 have hoth := others_send r d _ N2.commits D2 ps2 w3 Hn3.out (sendMsg N2.commits) (fun t w1 ht _ y => sends_any r d _ N2.commits D2 ps2 t w1 (Hn3.out.no y) hok2 (by omega) (hnx2 t (by omega)))
 rw [hid2, hnn2] at hoth
 refine hoth.mono ?_; rintro e w4 ⟨v, rfl, hm4, hf4, x4⟩
 have Hm4 := Lib.hid hm4
 have Hf4 := Lib.hid hf4
 have Hx4 := Lib.hid x4
 obtain ⟨ms, hms, hown⟩ := hm4
 obtain ⟨va, vn, vc, rfl, _⟩ := hown.rd
 clear hms hown hf4 x4 hoth hok2 hnx2 hid2 hnn2
 go_wp2_with fail
 go_ret3
 have hn4 := Hn3.out.no Hx4.out
 have s2 := Hx2.out.size
 have s3 := Hx3.out.size
 have s4 := Hx4.out.size
 have x3F : Ext F w w3 := Hx2.out.next Hx3.out (fun b h hb => h.elim (fun h => h) (fun h => by omega))
 have hres : (N.lays (N.term, x)).commits = N2.commits := by rw [← HN2.out]; rfl
 rw [hres, Hnl.out]
 refine ⟨_, rfl, Hm4.out, fun g hg => by have := Hf4.out g hg; omega, x3F.nextNo Hx4.out, ?_⟩
 obtain ⟨L8, FD8, FL8, FR8, tv8, dl8, k1, k2, k3⟩ := hn4
 refine ⟨⟨D2, ps2, ⟨L8, FD8, FL8, FR8, tv8, dl8, k1, fun b hb => ?_, fun b hb => ?_⟩, Hhp.out.1, Hhp.out.2⟩, Hr2.out.fresh, Hr2.out.vote, Hr2.out.term⟩
 ·rcases k2 b hb with h | h
  ·exact .inl h
  ·exact .inr (by omega)
 ·rcases hb with hb | hb
  ·exact k3 b (.inl hb)
  ·exact hb.2
end Go.Proofs.YtgglbholbkdgfaaGreatDoor
