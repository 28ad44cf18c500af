/- Joined texts: B100 B101 B102 B103 B104. Each has its own head. -/
import Derived.Test.YtgglbholbkdgfaaGreatDoorK19
set_option linter.unusedVariables false
set_option linter.unusedSimpArgs false
namespace Go.Proofs.YtgglbholbkdgfaaGreatDoor
open Go.RowKit
theorem results_row_tmp {P : Program} {fn : Func} {p u : Tmp} {ty : TypeId} (h : fn.results = #[.cell p ty, .tmp u]) (tmps : Array Value) (w : World) (g : Nat) (t : TypeId) (cs : Array Value) (fr : Nat × Nat) (d : TypeDesc)
  (hp : tmps.getD p undef = .pointer (some ⟨g, 0, none⟩)) (hg : w.heap[g]? = some (.cells cs t fr))
  (hu : P.underlying ty = some d) (hd : (match d with | .struct _ | .array _ _ => true | _ => false) = true) (hi : (P.info? ty).map (·.size) = some cs.size) :
  (results fn tmps).run P w = .ok (.tuple #[.agg cs, tmps.getD u undef]) w := by
 rw [results_cell_tmp h, hp]
 simp [asAddr, run_loadVar_row w g t ty cs fr d hg hu hd hi, Result.andThen]
theorem RowsF.get {w : World} {F : Nat → Prop} : ∀ {ms : List (List Value)} {Ms : List PMsg} {i : Nat} {M : PMsg}, RowsF w F ms Ms → Ms[i]? = some M → ∃ m, ms[i]? = some m ∧ MsgF w F m M
 | [], [], _, _, _, h => by cases h
 | m :: _, _ :: _, 0, M, h, hi => by
  cases hi
  exact ⟨m, rfl, h.1⟩
 | _ :: _, _ :: _, i + 1, M, h, hi => RowsF.get (i := i) h.2 hi
theorem RowsF.erase {w : World} {F : Nat → Prop} : ∀ {ms : List (List Value)} {Ms : List PMsg} (i : Nat), RowsF w F ms Ms → RowsF w F (ms.eraseIdx i) (Ms.eraseIdx i)
 | [], [], _, _ => trivial
 | _ :: _, _ :: _, 0, h => h.2
 | _ :: _, _ :: _, i + 1, h => ⟨h.1, RowsF.erase i h.2⟩
theorem RowsF.five {w : World} {F : Nat → Prop} : ∀ {ms : List (List Value)} {Ms : List PMsg}, RowsF w F ms Ms → ∀ m ∈ ms, m.length = 5 ∧ ∀ u ∈ m, u.oneCell' = true
 | [], [], _ => fun m hm => by cases hm
 | _ :: _, _ :: _, h => fun m hm => by
  rcases List.mem_cons.1 hm with rfl | hm
  ·exact h.1.is.one
  ·exact RowsF.five h.2 m hm
theorem flat5_get : ∀ {ms : List (List Value)} (_ : ∀ m ∈ ms, m.length = 5) {i k : Nat} {m : List Value}, ms[i]? = some m → k < 5 → ms.flatten[i * 5 + k]? = m[k]?
 | [], _, _, _, _, h, _ => by cases h
 | x :: ms, h5, 0, k, m, h, hk => by
  cases h
  have := h5 x (by simp)
  rw [List.flatten_cons, Nat.zero_mul, Nat.zero_add, List.getElem?_append_left (by omega)]
 | x :: ms, h5, i + 1, k, m, h, hk => by
  have h1 := h5 x (by simp)
  rw [List.flatten_cons, List.getElem?_append_right (by omega), h1, show (i + 1) * 5 + k - 5 = i * 5 + k by omega]
  exact flat5_get (fun y hy => h5 y (by simp [hy])) h hk
theorem flat5_erase : ∀ {ms : List (List Value)} (_ : ∀ m ∈ ms, m.length = 5) (i : Nat), ms.flatten.take (i * 5) ++ ms.flatten.drop ((i + 1) * 5) = (ms.eraseIdx i).flatten
 | [], _, i => by simp
 | x :: ms, h5, 0 => by
  have h1 := h5 x (by simp)
  rw [List.flatten_cons, List.eraseIdx_zero, Nat.zero_mul, List.take_zero, List.nil_append, List.tail_cons]
  rw [show (0 + 1) * 5 = x.length by omega, List.drop_left]
 | x :: ms, h5, i + 1 => by
  have h1 := h5 x (by simp)
  have := flat5_erase (ms := ms) (fun y hy => h5 y (by simp [hy])) i
  rw [List.flatten_cons, List.eraseIdx_cons_succ, List.flatten_cons, ← this, List.take_append, List.take_of_length_le (by omega), h1, List.drop_append, List.drop_of_length_le (by omega), h1, List.nil_append, List.append_assoc, show (i + 1) * 5 - 5 = i * 5 by omega, show (i + 1 + 1) * 5 - 5 = (i + 1) * 5 by omega]
set_option maxRecDepth 100000 in
theorem has_yes (g : Nat) (ra : Option Addr) (rn rc i : Nat) (w : World) (hc : w.cell? ⟨g, 6, none⟩ = some (.slice ra rn rc)) (hi : i < rn) :
  Calls Tryz.prog 123 #[.pointer (some ⟨g, 6, none⟩), .int .i64 (i : Int)] w fun e w' => e = .returned (.bool true) ∧ w' = w := by
 have h1 : (0 : Int) ≤ (i : Int) := by omega
 have h2 : (i : Int) < (rn : Int) := by omega
 go_enter Tryz.func123, Tryz.ntmps123
 go_wp2_with fail
 go_ret
 exact ⟨rfl, rfl⟩
set_option maxRecDepth 100000 in
theorem has_no (g : Nat) (ra : Option Addr) (rn rc i : Nat) (w : World) (hc : w.cell? ⟨g, 6, none⟩ = some (.slice ra rn rc)) (hi : ¬ i < rn) :
  Calls Tryz.prog 123 #[.pointer (some ⟨g, 6, none⟩), .int .i64 (i : Int)] w fun e w' => e = .returned (.bool false) ∧ w' = w := by
 have h1 : (0 : Int) ≤ (i : Int) := by omega
 have h2 : ¬ (i : Int) < (rn : Int) := by omega
 go_enter Tryz.func123, Tryz.ntmps123
 go_wp2_with fail
 go_ret
 exact ⟨rfl, rfl⟩
set_option maxRecDepth 100000 in
set_option maxHeartbeats 4000000 in
theorem At_yes (g i : Nat) (F : Nat → Prop) (rv : Value) (Ms : List PMsg) (M : PMsg) (w : World) (hc : w.cell? ⟨g, 6, none⟩ = some rv) (hR : RowAt w F rv Ms) (hi : Ms[i]? = some M) (hl : Ms.length ≤ 100000) :
  Calls Tryz.prog 94 #[.pointer (some ⟨g, 6, none⟩), .int .i64 (i : Int)] w fun e w' => ∃ l, e = .returned (.tuple #[.agg l.toArray, .bool true]) ∧ MsgNew w w' l M ∧ Ext NoB w w' := by
 obtain ⟨ra, rc, rfl⟩ := hR.shape
 obtain ⟨ms, hms, hown, hrF⟩ := hR
 obtain ⟨m, hm, hmF⟩ := hms.get hi
 have h5 := fun x hx => (hms.five x hx).1
 have hlt : i < Ms.length := by
  rcases Nat.lt_or_ge i Ms.length with h | h
  ·exact h
  ·rw [List.getElem?_eq_none h] at hi; cases hi
 obtain ⟨rn, hrn⟩ : ∃ rn, Ms.length = rn := ⟨_, rfl⟩
 rw [hrn] at hc hown hlt hl
 obtain ⟨nv, dv, rfl, on, od, _, _, hl1, hl2⟩ := hmF
 obtain ⟨na, nn, nc, rfl, _⟩ := on.rd
 obtain ⟨da, dn, dc, rfl, _⟩ := od.rd
 obtain ⟨_, _, _, hv, _, _, _, _, hr⟩ := hown.rd
 cases hv
 have hne : ms.flatten ≠ [] := by
  intro e
  have := flat5_get (k := 0) h5 hm (by omega)
  rw [e] at this
  cases this
 obtain ⟨b, off, rfl, hcell⟩ := hr hne
 have c0 : w.cell? ⟨b, off + (i * 5 + 0), none⟩ = some (.int .i64 M.fr) := hcell _ _ (flat5_get (k := 0) h5 hm (by omega))
 have c1 : w.cell? ⟨b, off + (i * 5 + 1), none⟩ = some (.int .i64 M.tt) := hcell _ _ (flat5_get (k := 1) h5 hm (by omega))
 have c2 : w.cell? ⟨b, off + (i * 5 + 2), none⟩ = some (.int .i64 M.kd) := hcell _ _ (flat5_get (k := 2) h5 hm (by omega))
 have c3 : w.cell? ⟨b, off + (i * 5 + 3), none⟩ = some (.slice na nn nc) := hcell _ _ (flat5_get (k := 3) h5 hm (by omega))
 have c4 : w.cell? ⟨b, off + (i * 5 + 4), none⟩ = some (.slice da dn dc) := hcell _ _ (flat5_get (k := 4) h5 hm (by omega))
 have Hm := Lib.hid (fun (w' : World) (x : Ext NoB w w') => own_any (msgV M.fr M.tt M.kd (.slice na nn nc) (.slice da dn dc)) M w' ⟨_, _, _, _, _, _, rfl, on.rd.no x, Rd.no od.rd x, hl1, hl2⟩)
 clear hms hown hrF hm h5 on od hl1 hl2 hr hne hcell hi hrn
 obtain ⟨q, hq⟩ : ∃ q, off + i * 5 = q := ⟨_, rfl⟩
 simp only [← Nat.add_assoc, hq, Nat.add_zero] at c0 c1 c2 c3 c4
 have hi0 : (0 : Int) ≤ (i : Int) := by omega
 have hi1 : (i : Int) < (rn : Int) := by omega
 have hin : ((i : Int)).toNat = i := by omega
 have hbw := World.block_lt_of_cell? w _ c0
 have hgw := World.block_lt_of_cell? w _ hc
 go_enter Tryz.func94, Tryz.ntmps94
 go_wp2_with fail
 obtain ⟨w1, C, e1, e2, x1, b1, hs1⟩ := alloc_facts w (.cells #[.int .i64 0, .int .i64 0, .int .i64 0, .slice none 0 0, .slice none 0 0] 37)
 rw [e1, e2]
 have d6 := x1.cell hc (fun h => h)
 have d0 := x1.cell c0 (fun h => h)
 have d1 := x1.cell c1 (fun h => h)
 have d2 := x1.cell c2 (fun h => h)
 have d3 := x1.cell c3 (fun h => h)
 have d4 := x1.cell c4 (fun h => h)
 have Hx1 := Lib.hid x1
 have Hb1 := Lib.hid b1
 have HC := Lib.hid e2
 clear e1 e2 x1 b1 hs1 hc c0 c1 c2 c3 c4
 refine (has_yes g (some ⟨b, off, none⟩) rn rc i w1 d6 hlt).mono ?_; rintro e w2 ⟨rfl, rfl⟩
 go_wp2_with fail
 refine (Hm.out w2 Hx1.out).mono ?_; rintro e w3 ⟨l3, rfl, m3, x3⟩
 obtain ⟨v3, u3, rfl, o3, p3, f3, g3⟩ := m3
 obtain ⟨a3, n3, k3, rfl, _⟩ := o3.rd
 obtain ⟨a4, n4, k4, rfl, _⟩ := p3.rd
 have C3 := x3.blk Hb1.out (fun h => h)
 have fC0 : w3.frozen? ⟨C, 0, none⟩ = false := frozen_of_blk C3 0
 have fC1 : w3.frozen? ⟨C, 1, none⟩ = false := frozen_of_blk C3 1
 have fC2 : w3.frozen? ⟨C, 2, none⟩ = false := frozen_of_blk C3 2
 have fC3 : w3.frozen? ⟨C, 3, none⟩ = false := frozen_of_blk C3 3
 have fC4 : w3.frozen? ⟨C, 4, none⟩ = false := frozen_of_blk C3 4
 have k0 : w3.cell? ⟨C, 0, none⟩ = some (.int .i64 0) := by rw [cell_of_blk C3]; rfl
 have k1 : w3.cell? ⟨C, 1, none⟩ = some (.int .i64 0) := by rw [cell_of_blk C3]; rfl
 have k2 : w3.cell? ⟨C, 2, none⟩ = some (.int .i64 0) := by rw [cell_of_blk C3]; rfl
 have k3' : w3.cell? ⟨C, 3, none⟩ = some (.slice none 0 0) := by rw [cell_of_blk C3]; rfl
 have k4' : w3.cell? ⟨C, 4, none⟩ = some (.slice none 0 0) := by rw [cell_of_blk C3]; rfl
 have HC3 := Lib.hid C3
 have Ho := Lib.hid (And.intro o3 (And.intro p3 (And.intro f3 g3)))
 have Hx3 := Lib.hid x3
 clear C3 o3 p3 f3 g3 x3 d0 d1 d2 d3 d4 d6
 go_wp2_with fail
 have kR := blk_setCell (blk_setCell (blk_setCell (blk_setCell (blk_setCell HC3.out 0 (.int .i64 M.fr)) 1 (.int .i64 M.tt)) 2 (.int .i64 M.kd)) 3 (.slice a3 n3 k3)) 4 (.slice a4 n4 k4)
 have x5 := ((((((Ext.refl (fun b => b = C) w3).setCell (p := ⟨C, 0, none⟩) (.inl rfl) (.int .i64 M.fr)).setCell (p := ⟨C, 1, none⟩) (.inl rfl) (.int .i64 M.tt)).setCell (p := ⟨C, 2, none⟩) (.inl rfl) (.int .i64 M.kd)).setCell (p := ⟨C, 3, none⟩) (.inl rfl) (.slice a3 n3 k3)).setCell (p := ⟨C, 4, none⟩) (.inl rfl) (.slice a4 n4 k4))
 generalize (((((w3.setCell ⟨C, 0, none⟩ (.int .i64 M.fr)).setCell ⟨C, 1, none⟩ (.int .i64 M.tt)).setCell ⟨C, 2, none⟩ (.int .i64 M.kd)).setCell ⟨C, 3, none⟩ (.slice a3 n3 k3)).setCell ⟨C, 4, none⟩ (.slice a4 n4 k4)) = w5 at kR x5 ⊢
 have hC := HC.out
 obtain ⟨o3, p3, f3, g3⟩ := Ho.out
 have s1 := Hx1.out.size
 have hCw : C < w2.heap.size := lt_of_blk Hb1.out
 refine bodyPost_ret (results_row_tmp rfl _ _ C _ #[.int .i64 M.fr, .int .i64 M.tt, .int .i64 M.kd, .slice a3 n3 k3, .slice a4 n4 k4] _ _ rfl kR Tryz.underlying37 rfl (by kernel_rfl)) rfl ⟨[.int .i64 M.fr, .int .i64 M.tt, .int .i64 M.kd, .slice a3 n3 k3, .slice a4 n4 k4], rfl, ⟨_, _, rfl, o3.ext x5 (fun g hg hb => ?_), p3.ext x5 (fun g hg hb => ?_), fun g hg => ?_, fun g hg => ?_⟩, (Hx1.out.trans Hx3.out).next x5 (fun b hb hl => ?_)⟩
 ·have := f3 g hg
  have hb' : g = C := hb
  omega
 ·have := g3 g hg
  have hb' : g = C := hb
  omega
 ·have := f3 g hg
  omega
 ·have := g3 g hg
  omega
 ·have hb' : b = C := hb
  omega
end Go.Proofs.YtgglbholbkdgfaaGreatDoor
namespace Go.Proofs.YtgglbholbkdgfaaGreatDoor
open Go.RowKit
theorem agg5 {m : List Value} {M : PMsg} {w w' : World} (h : MsgNew w w' m M) : ∃ na nn nc da dn dc, m = [.int .i64 M.fr, .int .i64 M.tt, .int .i64 M.kd, .slice na nn nc, .slice da dn dc] ∧ Own w' 3 1 (.slice na nn nc) (intsV M.nums) ∧ Own w' 5 1 (.slice da dn dc) (bytesV M.data) ∧ Fresh w (.slice na nn nc) ∧ Fresh w (.slice da dn dc) := by
 obtain ⟨v3, u3, rfl, o3, p3, f3, g3⟩ := h
 obtain ⟨a3, n3, k3, rfl, _⟩ := o3.rd
 obtain ⟨a4, n4, k4, rfl, _⟩ := p3.rd
 exact ⟨_, _, _, _, _, _, rfl, o3, p3, f3, g3⟩
def TakeEnds (g i : Nat) (F : Nat → Prop) (gs : Array Value) (t : TypeId) (rv0 : Value) (Ms : List PMsg) (M : PMsg) (w : World) (e : Ending) (w' : World) : Prop :=
 ∃ l, e = .returned (.tuple #[.agg l.toArray, .bool true]) ∧ MsgNew w w' l M ∧ Ext (fun b => b = g ∨ rv0.ownBlock = some b) w w' ∧ ∃ rv, w'.heap[g]? = some (.cells (gs.setIfInBounds 6 rv) t (0, 0)) ∧ RowAt w' F rv (Ms.eraseIdx i)
set_option maxRecDepth 100000 in
set_option maxHeartbeats 4000000 in
theorem Take_yes (g i : Nat) (F : Nat → Prop) (gs : Array Value) (t : TypeId) (rv : Value) (Ms : List PMsg) (M : PMsg) (w : World) (hb : w.heap[g]? = some (.cells gs t (0, 0))) (ht : t ≠ 37 ∧ t ≠ 3 ∧ t ≠ 5) (hrv : gs[6]? = some rv) (hg : F g) (hF : ∀ b, F b → b < w.heap.size) (hR : RowAt w F rv Ms) (hi : Ms[i]? = some M) (hl : Ms.length ≤ 100000) :
  Calls Tryz.prog 63 #[.pointer (some ⟨g, 6, none⟩), .int .i64 (i : Int)] w (TakeEnds g i F gs t rv Ms M w) := by
 have hat := fun (w' : World) (x : Ext NoB w w') => At_yes g i F rv Ms M w' (x.cell (by rw [cell_of_blk hb]; exact hrv) (fun h => h)) (hR.off x (fun _ _ h => h)) hi hl
 obtain ⟨ra, rc, rfl⟩ := hR.shape
 have hlt : i < Ms.length := by
  rcases Nat.lt_or_ge i Ms.length with h | h
  ·exact h
  ·rw [List.getElem?_eq_none h] at hi; cases hi
 have c6 : w.cell? ⟨g, 6, none⟩ = some (.slice ra Ms.length rc) := by rw [cell_of_blk hb]; exact hrv
 obtain ⟨rn, hrn⟩ : ∃ rn, Ms.length = rn := ⟨_, rfl⟩
 have HR := Lib.hid (And.intro hR hrn)
 have Hat := Lib.hid hat
 have Hb := Lib.hid hb
 have Ht := Lib.hid ht
 have HF := Lib.hid (And.intro hg hF)
 rw [hrn] at c6 hlt hl
 clear hat hR hb ht hg hF hi hrv hrn
 have hwi : IntKind.i64.wrap ((i : Int) + 1) = (i : Int) + 1 := IntWalk.i64_in _ (by omega)
 go_enter Tryz.func63, Tryz.ntmps63
 go_wp2_with fail
 obtain ⟨w1, C, e1, e2, x1, b1, hs1⟩ := alloc_facts w (.cells #[.int .i64 0, .int .i64 0, .int .i64 0, .slice none 0 0, .slice none 0 0] 37)
 rw [e1, e2]
 have Hx1 := Lib.hid x1
 have Hb1 := Lib.hid b1
 have HC := Lib.hid e2
 have d6 := x1.cell c6 (fun h => h)
 clear e1 e2 x1 b1 hs1 c6
 refine (Hat.out w1 Hx1.out).mono ?_; rintro e w2 ⟨l2, rfl, m2, x2⟩
 obtain ⟨a3, n3, k3, a4, n4, k4, rfl, o3, p3, f3, g3⟩ := agg5 m2
 have e6 := x2.cell d6 (fun h => h)
 have Hb2 := Lib.hid (x2.blk Hb1.out (fun h => h))
 have Hx2 := Lib.hid (Hx1.out.trans x2)
 have Ho2 := Lib.hid (And.intro o3 (And.intro p3 (And.intro f3 g3)))
 have Hs12 := Lib.hid (And.intro Hx1.out.size x2.size)
 clear m2 o3 p3 f3 g3 x2 d6
 have hgw2 := World.block_lt_of_cell? w2 _ e6
 have hCw2 := lt_of_blk Hb2.out
 go_wp2_with fail
 obtain ⟨w3, B, q1, q2, x3, b3, hs3⟩ := alloc_facts w2 (.cells #[.int .i64 M.fr, .int .i64 M.tt, .int .i64 M.kd, .slice a3 n3 k3, .slice a4 n4 k4] 37)
 rw [q1, q2]
 obtain ⟨hR, hrn⟩ := HR.out
 obtain ⟨ms, hms, hown, hrF⟩ := hR
 rw [hrn] at hown hrF
 have hml := hms.len.1
 have hown3 := (hown.no Hx2.out).no x3
 obtain ⟨rg, rnn, rcap, cur, hsl, hrb, hnc, hcs, hmx, hxl, htk⟩ : ∃ rg n cap cur, Value.slice ra rn rc = .slice (some ⟨rg, 0, none⟩) n cap ∧ w3.heap[rg]? = some (.cells cur 37 (0, 0)) ∧ n ≤ cap ∧ cap * 5 ≤ cur.size ∧ cap ≤ maxLen ∧ ms.flatten.length = n * 5 ∧ cur.toList.take (n * 5) = ms.flatten := by
  rcases hown3 with ⟨h1, h2⟩ | h
  ·rw [h2] at hml
   simp at hml
   omega
  ·exact h
 cases hsl
 have hrgF : F rg := hrF rg rfl
 have hdel := Delete_at rg rn rc i ((i : Int) + 1) cur ms.flatten w3 hrb hcs hnc htk hxl (fun u hu => by
  obtain ⟨m, hm, hu⟩ := List.mem_flatten.1 hu
  exact (hms.five m hm).2 u hu) hlt rfl hl
 have e6' := x3.cell e6 (fun h => h)
 have Hb3 := Lib.hid b3
 have Hg3 := Lib.hid (x3.blk (Hx2.out.blk Hb.out (fun h => h)) (fun h => h))
 have HC3 := Lib.hid (x3.blk Hb2.out (fun h => h))
 have Hx3 := Lib.hid (Hx2.out.trans x3)
 have Hms := Lib.hid (And.intro hms hrgF)
 have Hsz := Lib.hid (And.intro q2 (And.intro hs3 (And.intro hgw2 hCw2)))
 have hrgg : g ≠ rg := fun e => by
  have h1 := Hg3.out
  rw [e, hrb] at h1
  cases h1
  exact Ht.out.1 rfl
 have hrgC : rg ≠ C := fun e => by
  have := HF.out.2 rg hrgF
  have := HC.out
  omega
 have hrgB : rg ≠ B := fun e => by
  have := HF.out.2 rg hrgF
  have := Hx2.out.size
  omega
 have Hrb := Lib.hid hrb
 have Hmx := Lib.hid (And.intro hmx hnc)
 have Hy3 := Lib.hid x3
 clear hms hown hrF hml hown3 hrb hnc hcs hmx hxl htk b3 x3 q1 q2 hs3 e6 hgw2 hCw2 hrn
 refine hdel.mono ?_; rintro e w4 ⟨rfl, x4, cur', hb4, hcs4, htk4⟩
 have Hx4 := Lib.hid x4
 have hg4 := x4.blk Hg3.out hrgg
 have hB4 := x4.blk Hb3.out (fun h => hrgB h.symm)
 have hC4 := x4.blk HC3.out (fun h => hrgC h.symm)
 have Hg4 := Lib.hid hg4
 have HB4 := Lib.hid hB4
 have HC4 := Lib.hid hC4
 have H4 := Lib.hid (And.intro hb4 (And.intro hcs4 htk4))
 have hcg : w4.cell? ⟨g, 6, none⟩ = some (.slice (some ⟨rg, 0, none⟩) rn rc) := by rw [x4.cell e6' hrgg]
 have hfg : w4.frozen? ⟨g, 6, none⟩ = false := frozen_of_blk hg4 6
 have b0 : w4.cell? ⟨B, 0, none⟩ = some (.int .i64 M.fr) := by rw [cell_of_blk hB4]; rfl
 have b1 : w4.cell? ⟨B, 1, none⟩ = some (.int .i64 M.tt) := by rw [cell_of_blk hB4]; rfl
 have b2 : w4.cell? ⟨B, 2, none⟩ = some (.int .i64 M.kd) := by rw [cell_of_blk hB4]; rfl
 have b3 : w4.cell? ⟨B, 3, none⟩ = some (.slice a3 n3 k3) := by rw [cell_of_blk hB4]; rfl
 have b4 : w4.cell? ⟨B, 4, none⟩ = some (.slice a4 n4 k4) := by rw [cell_of_blk hB4]; rfl
 have fC0 : w4.frozen? ⟨C, 0, none⟩ = false := frozen_of_blk hC4 0
 have fC1 : w4.frozen? ⟨C, 1, none⟩ = false := frozen_of_blk hC4 1
 have fC2 : w4.frozen? ⟨C, 2, none⟩ = false := frozen_of_blk hC4 2
 have fC3 : w4.frozen? ⟨C, 3, none⟩ = false := frozen_of_blk hC4 3
 have fC4 : w4.frozen? ⟨C, 4, none⟩ = false := frozen_of_blk hC4 4
 have k0 : w4.cell? ⟨C, 0, none⟩ = some (.int .i64 0) := by rw [cell_of_blk hC4]; rfl
 have k1 : w4.cell? ⟨C, 1, none⟩ = some (.int .i64 0) := by rw [cell_of_blk hC4]; rfl
 have k2 : w4.cell? ⟨C, 2, none⟩ = some (.int .i64 0) := by rw [cell_of_blk hC4]; rfl
 have k3' : w4.cell? ⟨C, 3, none⟩ = some (.slice none 0 0) := by rw [cell_of_blk hC4]; rfl
 have k4' : w4.cell? ⟨C, 4, none⟩ = some (.slice none 0 0) := by rw [cell_of_blk hC4]; rfl
 have hgw : g < w.heap.size := lt_of_blk Hb.out
 have hgB : B ≠ g := by have := Hsz.out.1; have := Hx2.out.size; omega
 have hgC : C ≠ g := by have := HC.out; omega
 have hgB' : g ≠ B := fun h => hgB h.symm
 have hgC' : g ≠ C := fun h => hgC h.symm
 have hBC : B ≠ C := by have h1 := Hsz.out.1; have h2 := Hsz.out.2.2.2; omega
 have hCB : C ≠ B := fun h => hBC h.symm
 clear hb4 hcs4 htk4 x4 hg4 hB4 hC4 hdel e6'
 go_wp2_with fail
 have kg := blk_setCell_ne (p := ⟨C, 4, none⟩) (blk_setCell_ne (p := ⟨C, 3, none⟩) (blk_setCell_ne (p := ⟨C, 2, none⟩) (blk_setCell_ne (p := ⟨C, 1, none⟩) (blk_setCell_ne (p := ⟨C, 0, none⟩) (blk_setCell Hg4.out 6 (.slice (some ⟨rg, 0, none⟩) (rn - 1) rc)) hgC' (.int .i64 M.fr)) hgC' (.int .i64 M.tt)) hgC' (.int .i64 M.kd)) hgC' (.slice a3 n3 k3)) hgC' (.slice a4 n4 k4)
 have kr := blk_setCell_ne (p := ⟨C, 4, none⟩) (blk_setCell_ne (p := ⟨C, 3, none⟩) (blk_setCell_ne (p := ⟨C, 2, none⟩) (blk_setCell_ne (p := ⟨C, 1, none⟩) (blk_setCell_ne (p := ⟨C, 0, none⟩) (blk_setCell_ne (p := ⟨g, 6, none⟩) H4.out.1 (fun h => hrgg h.symm) (.slice (some ⟨rg, 0, none⟩) (rn - 1) rc)) hrgC (.int .i64 M.fr)) hrgC (.int .i64 M.tt)) hrgC (.int .i64 M.kd)) hrgC (.slice a3 n3 k3)) hrgC (.slice a4 n4 k4)
 have kC := blk_setCell (blk_setCell (blk_setCell (blk_setCell (blk_setCell (blk_setCell_ne (p := ⟨g, 6, none⟩) HC4.out hgC (.slice (some ⟨rg, 0, none⟩) (rn - 1) rc)) 0 (.int .i64 M.fr)) 1 (.int .i64 M.tt)) 2 (.int .i64 M.kd)) 3 (.slice a3 n3 k3)) 4 (.slice a4 n4 k4)
 have x5 := (((((((Ext.refl (fun b => b = g ∨ b = C) w4).setCell (p := ⟨g, 6, none⟩) (.inl (.inl rfl)) (.slice (some ⟨rg, 0, none⟩) (rn - 1) rc)).setCell (p := ⟨C, 0, none⟩) (.inl (.inr rfl)) (.int .i64 M.fr)).setCell (p := ⟨C, 1, none⟩) (.inl (.inr rfl)) (.int .i64 M.tt)).setCell (p := ⟨C, 2, none⟩) (.inl (.inr rfl)) (.int .i64 M.kd)).setCell (p := ⟨C, 3, none⟩) (.inl (.inr rfl)) (.slice a3 n3 k3)).setCell (p := ⟨C, 4, none⟩) (.inl (.inr rfl)) (.slice a4 n4 k4))
 generalize ((((((w4.setCell ⟨g, 6, none⟩ (.slice (some ⟨rg, 0, none⟩) (rn - 1) rc)).setCell ⟨C, 0, none⟩ (.int .i64 M.fr)).setCell ⟨C, 1, none⟩ (.int .i64 M.tt)).setCell ⟨C, 2, none⟩ (.int .i64 M.kd)).setCell ⟨C, 3, none⟩ (.slice a3 n3 k3)).setCell ⟨C, 4, none⟩ (.slice a4 n4 k4)) = w5 at kg kr kC x5 ⊢
 obtain ⟨o3, p3, f3, g3⟩ := Ho2.out
 obtain ⟨q2, hs3, hgw2, hCw2⟩ := Hsz.out
 have hC := HC.out
 have hs1 := Hs12.out
 have hF := HF.out
 have x4 := Hx4.out
 have x3 := Hx3.out
 obtain ⟨hms, hrgF⟩ := Hms.out
 have hl1 : w.heap.size + 1 ≤ w1.heap.size := by
  have := lt_of_blk Hb1.out
  omega
 have xAll : Ext (fun b => b = g ∨ (Value.slice (some ⟨rg, 0, none⟩) Ms.length rc).ownBlock = some b) w w5 := ((x3.of_no).trans (x4.mono (fun b _ h => .inr (by obtain rfl : b = rg := h; rfl)))).next x5 (fun b hb hl => by
  rcases hb with h | h
  ·exact .inl h
  ·omega)
 have hrow : RowsF w5 F ms Ms := ((hms.ext x3 (fun _ h _ => h.elim)).ext x4 (fun b hb _ => ⟨_, _, _, hb ▸ Hrb.out, by decide, by decide⟩)).ext x5 (fun b hb hbF => by
  rcases hb with h | h
  ·exact ⟨_, _, _, h ▸ Hg4.out, Ht.out.2.1, Ht.out.2.2⟩
  ·have := hF.2 b hbF
   omega)
 have hMl : Ms.length = rn := HR.out.2
 have h5 := fun x hx => (hms.five x hx).1
 have hcur := H4.out
 have hx24 : Ext (fun b => b = rg) w2 w4 := (Hy3.out.of_no).trans x4
 refine bodyPost_ret (results_row_tmp rfl _ _ C _ #[.int .i64 M.fr, .int .i64 M.tt, .int .i64 M.kd, .slice a3 n3 k3, .slice a4 n4 k4] _ _ rfl kC Tryz.underlying37 rfl (by kernel_rfl)) rfl ⟨[.int .i64 M.fr, .int .i64 M.tt, .int .i64 M.kd, .slice a3 n3 k3, .slice a4 n4 k4], rfl, ⟨_, _, rfl, ?_, ?_, fun b hb => ?_, fun b hb => ?_⟩, xAll, _, kg, ms.eraseIdx i, hrow.erase i, ?_, fun b hb => ?_⟩
 ·refine (o3.ext hx24 (fun b hb hb' => ?_)).ext x5 (fun b hb hb' => ?_)
  ·have h1 := f3 b hb
   obtain rfl : b = rg := hb'
   have := hF.2 b hrgF
   omega
  ·have h1 := f3 b hb
   have hb2 : b = g ∨ b = C := hb'
   have := lt_of_blk Hb1.out
   omega
 ·refine (p3.ext hx24 (fun b hb hb' => ?_)).ext x5 (fun b hb hb' => ?_)
  ·have h1 := g3 b hb
   obtain rfl : b = rg := hb'
   have := hF.2 b hrgF
   omega
  ·have h1 := g3 b hb
   have hb2 : b = g ∨ b = C := hb'
   have := lt_of_blk Hb1.out
   omega
 ·have := f3 b hb
  omega
 ·have := g3 b hb
  omega
 ·refine .inr ⟨rg, rn - 1, rc, cur', rfl, kr, by have := Hmx.out.2; omega, hcur.2.1, ?_, ?_, ?_⟩
  ·exact Hmx.out.1
  ·have h7 : (ms.eraseIdx i).length = ms.length - 1 := by rw [List.length_eraseIdx, if_pos (by have := hms.len.2; omega)]
   have h8 := (hms.erase i).len
   have h9 : (Ms.eraseIdx i).length = Ms.length - 1 := by rw [List.length_eraseIdx, if_pos (by omega)]
   rw [h8.1, h9, hMl]
  ·rw [hcur.2.2, flat5_erase h5 i]
 ·obtain rfl : rg = b := by simpa [Value.ownBlock] using hb
  exact hrgF
end Go.Proofs.YtgglbholbkdgfaaGreatDoor
namespace Go.Proofs.YtgglbholbkdgfaaGreatDoor
open Go.RowKit
set_option maxRecDepth 100000 in
set_option maxHeartbeats 4000000 in
theorem At_no (g i : Nat) (ra : Option Addr) (rn rc : Nat) (w : World) (hc : w.cell? ⟨g, 6, none⟩ = some (.slice ra rn rc)) (hi : ¬ i < rn) :
  Calls Tryz.prog 94 #[.pointer (some ⟨g, 6, none⟩), .int .i64 (i : Int)] w fun e w' => e = .returned (.tuple #[.agg #[.int .i64 0, .int .i64 0, .int .i64 0, .slice none 0 0, .slice none 0 0], .bool false]) ∧ Ext NoB w w' := by
 have hgw := World.block_lt_of_cell? w _ hc
 go_enter Tryz.func94, Tryz.ntmps94
 go_wp2_with fail
 obtain ⟨w1, C, e1, e2, x1, b1, hs1⟩ := alloc_facts w (.cells #[.int .i64 0, .int .i64 0, .int .i64 0, .slice none 0 0, .slice none 0 0] 37)
 rw [e1, e2]
 have d6 := x1.cell hc (fun h => h)
 have Hx1 := Lib.hid x1
 have Hb1 := Lib.hid b1
 have HC := Lib.hid e2
 clear e1 e2 x1 hs1 hc
 refine (has_no g ra rn rc i w1 d6 hi).mono ?_; rintro e w2 ⟨rfl, rfl⟩
 have fC0 : w2.frozen? ⟨C, 0, none⟩ = false := frozen_of_blk b1 0
 have fC1 : w2.frozen? ⟨C, 1, none⟩ = false := frozen_of_blk b1 1
 have fC2 : w2.frozen? ⟨C, 2, none⟩ = false := frozen_of_blk b1 2
 have fC3 : w2.frozen? ⟨C, 3, none⟩ = false := frozen_of_blk b1 3
 have fC4 : w2.frozen? ⟨C, 4, none⟩ = false := frozen_of_blk b1 4
 have k0 : w2.cell? ⟨C, 0, none⟩ = some (.int .i64 0) := by rw [cell_of_blk b1]; rfl
 have k1 : w2.cell? ⟨C, 1, none⟩ = some (.int .i64 0) := by rw [cell_of_blk b1]; rfl
 have k2 : w2.cell? ⟨C, 2, none⟩ = some (.int .i64 0) := by rw [cell_of_blk b1]; rfl
 have k3' : w2.cell? ⟨C, 3, none⟩ = some (.slice none 0 0) := by rw [cell_of_blk b1]; rfl
 have k4' : w2.cell? ⟨C, 4, none⟩ = some (.slice none 0 0) := by rw [cell_of_blk b1]; rfl
 clear b1
 go_wp2_with fail
 have kC := blk_setCell (blk_setCell (blk_setCell (blk_setCell (blk_setCell Hb1.out 0 (.int .i64 0)) 1 (.int .i64 0)) 2 (.int .i64 0)) 3 (.slice none 0 0)) 4 (.slice none 0 0)
 have x5 := (((((Ext.refl (fun b => b = C) w2).setCell (p := ⟨C, 0, none⟩) (.inl rfl) (.int .i64 0)).setCell (p := ⟨C, 1, none⟩) (.inl rfl) (.int .i64 0)).setCell (p := ⟨C, 2, none⟩) (.inl rfl) (.int .i64 0)).setCell (p := ⟨C, 3, none⟩) (.inl rfl) (.slice none 0 0)).setCell (p := ⟨C, 4, none⟩) (.inl rfl) (.slice none 0 0)
 generalize (((((w2.setCell ⟨C, 0, none⟩ (.int .i64 0)).setCell ⟨C, 1, none⟩ (.int .i64 0)).setCell ⟨C, 2, none⟩ (.int .i64 0)).setCell ⟨C, 3, none⟩ (.slice none 0 0)).setCell ⟨C, 4, none⟩ (.slice none 0 0)) = w5 at kC x5 ⊢
 refine bodyPost_ret (results_row_tmp rfl _ _ C _ #[.int .i64 0, .int .i64 0, .int .i64 0, .slice none 0 0, .slice none 0 0] _ _ rfl kC Tryz.underlying37 rfl (by kernel_rfl)) rfl ⟨rfl, Hx1.out.next x5 (fun b hb hl => ?_)⟩
 have := HC.out
 have hb' : b = C := hb
 omega
set_option maxRecDepth 100000 in
set_option maxHeartbeats 4000000 in
theorem Take_no (g i : Nat) (ra : Option Addr) (rn rc : Nat) (w : World) (hc : w.cell? ⟨g, 6, none⟩ = some (.slice ra rn rc)) (hi : ¬ i < rn) :
  Calls Tryz.prog 63 #[.pointer (some ⟨g, 6, none⟩), .int .i64 (i : Int)] w fun e w' => e = .returned (.tuple #[.agg #[.int .i64 0, .int .i64 0, .int .i64 0, .slice none 0 0, .slice none 0 0], .bool false]) ∧ Ext NoB w w' := by
 have Hat := Lib.hid (fun (w' : World) (x : Ext NoB w w') => At_no g i ra rn rc w' (x.cell hc (fun h => h)) hi)
 clear hc
 go_enter Tryz.func63, Tryz.ntmps63
 go_wp2_with fail
 obtain ⟨w1, C, e1, e2, x1, b1, hs1⟩ := alloc_facts w (.cells #[.int .i64 0, .int .i64 0, .int .i64 0, .slice none 0 0, .slice none 0 0] 37)
 rw [e1, e2]
 have Hx1 := Lib.hid x1
 have Hb1 := Lib.hid b1
 have HC := Lib.hid e2
 clear e1 e2 x1 b1 hs1
 refine (Hat.out w1 Hx1.out).mono ?_; rintro e w2 ⟨rfl, x2⟩
 have b2 := x2.blk Hb1.out (fun h => h)
 have Hx2 := Lib.hid x2
 have Hb2 := Lib.hid b2
 have hCw := lt_of_blk b2
 have fC0 : w2.frozen? ⟨C, 0, none⟩ = false := frozen_of_blk b2 0
 have fC1 : w2.frozen? ⟨C, 1, none⟩ = false := frozen_of_blk b2 1
 have fC2 : w2.frozen? ⟨C, 2, none⟩ = false := frozen_of_blk b2 2
 have fC3 : w2.frozen? ⟨C, 3, none⟩ = false := frozen_of_blk b2 3
 have fC4 : w2.frozen? ⟨C, 4, none⟩ = false := frozen_of_blk b2 4
 have k0 : w2.cell? ⟨C, 0, none⟩ = some (.int .i64 0) := by rw [cell_of_blk b2]; rfl
 have k1 : w2.cell? ⟨C, 1, none⟩ = some (.int .i64 0) := by rw [cell_of_blk b2]; rfl
 have k2 : w2.cell? ⟨C, 2, none⟩ = some (.int .i64 0) := by rw [cell_of_blk b2]; rfl
 have k3' : w2.cell? ⟨C, 3, none⟩ = some (.slice none 0 0) := by rw [cell_of_blk b2]; rfl
 have k4' : w2.cell? ⟨C, 4, none⟩ = some (.slice none 0 0) := by rw [cell_of_blk b2]; rfl
 clear x2 b2
 go_wp2_with fail
 have kC := blk_alloc (blk_setCell (blk_setCell (blk_setCell (blk_setCell (blk_setCell Hb2.out 0 (.int .i64 0)) 1 (.int .i64 0)) 2 (.int .i64 0)) 3 (.slice none 0 0)) 4 (.slice none 0 0)) (.cells #[.int .i64 0, .int .i64 0, .int .i64 0, .slice none 0 0, .slice none 0 0] 37)
 have x5 := ((((((Ext.refl (fun b => b = C) w2).setCell (p := ⟨C, 0, none⟩) (.inl rfl) (.int .i64 0)).setCell (p := ⟨C, 1, none⟩) (.inl rfl) (.int .i64 0)).setCell (p := ⟨C, 2, none⟩) (.inl rfl) (.int .i64 0)).setCell (p := ⟨C, 3, none⟩) (.inl rfl) (.slice none 0 0)).setCell (p := ⟨C, 4, none⟩) (.inl rfl) (.slice none 0 0)).alloc (.cells #[.int .i64 0, .int .i64 0, .int .i64 0, .slice none 0 0, .slice none 0 0] 37)
 generalize (((((w2.setCell ⟨C, 0, none⟩ (.int .i64 0)).setCell ⟨C, 1, none⟩ (.int .i64 0)).setCell ⟨C, 2, none⟩ (.int .i64 0)).setCell ⟨C, 3, none⟩ (.slice none 0 0)).setCell ⟨C, 4, none⟩ (.slice none 0 0)).alloc (.cells #[.int .i64 0, .int .i64 0, .int .i64 0, .slice none 0 0, .slice none 0 0] 37) = w5 at kC x5 ⊢
 refine bodyPost_ret (results_row_tmp rfl _ _ C _ #[.int .i64 0, .int .i64 0, .int .i64 0, .slice none 0 0, .slice none 0 0] _ _ rfl kC Tryz.underlying37 rfl (by kernel_rfl)) rfl ⟨rfl, (Hx1.out.trans Hx2.out).next x5 (fun b hb hl => ?_)⟩
 have := HC.out
 have hb' : b = C := hb
 omega
end Go.Proofs.YtgglbholbkdgfaaGreatDoor
namespace Go.Proofs.YtgglbholbkdgfaaGreatDoor
open Go.RowKit
def stirN (d : Nat) : Nat := (d * 1103515245 + 12345) % 2147483648
set_option maxRecDepth 100000 in
set_option maxHeartbeats 2000000 in
theorem draw_any (g dr : Nat) (gs : Array Value) (w : World) (hb : w.heap[g]? = some (.cells gs 118 (0, 0))) (hd : gs[7]? = some (.int .u32 dr)) (hlt : dr < 2147483648) :
  Calls Tryz.prog 66 #[.pointer (some ⟨g, 0, none⟩)] w fun e w' => e = .returned (.int .i64 (stirN dr / 256 : Nat)) ∧ w'.heap[g]? = some (.cells (gs.setIfInBounds 7 (.int .u32 (stirN dr))) 118 (0, 0)) ∧ Ext (fun b => b = g) w w' := by
 have c7 : w.cell? ⟨g, 7, none⟩ = some (.int .u32 dr) := by rw [cell_of_blk hb]; exact hd
 have f7 : w.frozen? ⟨g, 7, none⟩ = false := frozen_of_blk hb 7
 have Hb := Lib.hid hb
 clear hb hd
 go_enter Tryz.func66, Tryz.ntmps66
 go_wp2_with fail
 have hst : bits BinOp.and IntKind.u32 (((dr : Int) * 1103515245 + 12345) % 4294967296) 2147483647 = ((stirN dr : Nat) : Int) := by
  have h1 : (((dr : Int) * 1103515245 + 12345) % 4294967296) = (((dr * 1103515245 + 12345) % 4294967296 : Nat) : Int) := by omega
  have h2 := u32_and_nat ((dr * 1103515245 + 12345) % 4294967296) 2147483647 (Nat.mod_lt _ (by decide)) (by decide)
  rw [h1]
  refine h2.trans ?_
  have h3 : ((dr * 1103515245 + 12345) % 4294967296) &&& 2147483647 = ((dr * 1103515245 + 12345) % 4294967296) % 2147483648 := Nat.and_two_pow_sub_one_eq_mod _ 31
  rw [h3]
  unfold stirN
  congr 1
  omega
 rw [hst]
 have hsl : stirN dr < 2147483648 := Nat.mod_lt _ (by decide)
 have hw : wrap64 (((stirN dr : Nat) : Int) / 256) = ((stirN dr / 256 : Nat) : Int) := by
  rw [show ((stirN dr : Nat) : Int) / 256 = ((stirN dr / 256 : Nat) : Int) by omega]
  exact wrap64_in _ (by omega)
 rw [hw]
 have kg := blk_setCell Hb.out 7 (.int .u32 ((stirN dr : Nat) : Int))
 have x1 : Ext (fun b => b = g) w (w.setCell ⟨g, 7, none⟩ (.int .u32 ((stirN dr : Nat) : Int))) := (Ext.refl (fun b => b = g) w).setCell (p := ⟨g, 7, none⟩) (.inl rfl) _
 go_ret
 exact ⟨rfl, kg, x1⟩
end Go.Proofs.YtgglbholbkdgfaaGreatDoor
namespace Go.Proofs.YtgglbholbkdgfaaGreatDoor
open Go.RowKit
theorem set_self {α : Type} (gs : Array α) (i : Nat) (v : α) (h : gs[i]? = some v) : gs.setIfInBounds i v = gs := by
 apply Array.ext_getElem?
 intro j
 rw [Array.getElem?_setIfInBounds]
 split
 ·next hij =>
  subst hij
  split
  ·exact h.symm
  ·next hh => rw [Array.getElem?_eq_none (by omega)]
 ·rfl
theorem MsgRows.toF {w : World} {ms : List (List Value)} {Ms : List PMsg} (h : MsgRows w ms Ms) (hs : ∀ M ∈ Ms, M.nums.length ≤ 1000 ∧ M.data.length ≤ 10000000) : RowsF w (fun _ => True) ms Ms := by
 induction h with
 | nil => trivial
 | snoc _ h2 ih =>
  obtain ⟨nv, dv, h3, h4, h5⟩ := h2
  have hM := hs _ (List.mem_append_right _ (List.mem_singleton.2 rfl))
  exact RowsF.snoc ⟨nv, dv, h3, h4, h5, fun _ _ => trivial, fun _ _ => trivial, hM⟩ (ih fun M hM => hs M (List.mem_append_left _ hM))
theorem MsgsAre.toF {w : World} {v : Value} {Ms : List PMsg} (h : MsgsAre w v Ms) (hs : ∀ M ∈ Ms, M.nums.length ≤ 1000 ∧ M.data.length ≤ 10000000) : RowAt w (fun _ => True) v Ms := by
 obtain ⟨ms, h1, h2⟩ := h
 exact ⟨ms, h1.toF hs, h2, fun _ _ => trivial⟩
def TakenAt (w : World) (F : Nat → Prop) (v : Value) (es : List (Nat × List UInt8)) : Prop := ∃ ms, EntRows w ms es ∧ Own w 50 2 v ms.flatten ∧ (∀ g, v.ownBlock = some g → F g) ∧ ∀ u ∈ ms.flatten, ∀ g, u.ownBlock = some g → F g
theorem TakenAt.off {w w' : World} {F G : Nat → Prop} {v : Value} {es : List (Nat × List UInt8)} (h : TakenAt w F v es) (x : Ext G w w') (hG : ∀ b, F b → ¬ G b) : TakenAt w' F v es := by
 obtain ⟨ms, h1, h2, h3, h4⟩ := h
 exact ⟨ms, h1.ext' x (fun u hu g hg => hG g (h4 u hu g hg)), h2.ext x (fun g hg => hG g (h3 g hg)), h3, h4⟩
theorem TakenAt.mono {w : World} {F G : Nat → Prop} {v : Value} {es : List (Nat × List UInt8)} (h : TakenAt w F v es) (hs : ∀ b, F b → G b) : TakenAt w G v es := by
 obtain ⟨ms, h1, h2, h3, h4⟩ := h
 exact ⟨ms, h1, h2, fun g hg => hs g (h3 g hg), fun u hu g hg => hs g (h4 u hu g hg)⟩
theorem EntRows.ty {w w' : World} {G : Nat → Prop} {ms : List (List Value)} {es : List (Nat × List UInt8)} (h : EntRows w ms es) (x : Ext G w w') (hG : ∀ g, G g → ∃ cs t fr, w.heap[g]? = some (.cells cs t fr) ∧ t ≠ 5) : EntRows w' ms es := by
 induction h with
 | nil => exact .nil
 | snoc _ h2 ih =>
  obtain ⟨dv, rfl, ho⟩ := h2
  refine .snoc ih ⟨dv, rfl, ho.ext x (fun g hg hb => ?_)⟩
  obtain ⟨cs, t, fr, hb, ht⟩ := hG g hb
  exact ho.ne_blk hb ht g hg rfl
theorem TakenAt.ty {w w' : World} {F G : Nat → Prop} {v : Value} {es : List (Nat × List UInt8)} (h : TakenAt w F v es) (x : Ext G w w') (hG : ∀ g, G g → ∃ cs t fr, w.heap[g]? = some (.cells cs t fr) ∧ t ≠ 5 ∧ t ≠ 50) : TakenAt w' F v es := by
 obtain ⟨ms, h1, h2, h3, h4⟩ := h
 refine ⟨ms, h1.ty x (fun g hg => ?_), h2.ext x (fun g hg hb => ?_), h3, h4⟩
 ·obtain ⟨cs, t, fr, hb, ht, _⟩ := hG g hg
  exact ⟨cs, t, fr, hb, ht⟩
 ·obtain ⟨cs, t, fr, hb, _, ht⟩ := hG g hb
  exact h2.ne_blk hb ht g hg rfl
theorem RowAt.ty {w w' : World} {F G : Nat → Prop} {v : Value} {Ms : List PMsg} (h : RowAt w F v Ms) (x : Ext G w w') (hG : ∀ g, G g → F g → ∃ cs t fr, w.heap[g]? = some (.cells cs t fr) ∧ t ≠ 3 ∧ t ≠ 5) (hv : ∀ g, v.ownBlock = some g → ¬ G g) : RowAt w' F v Ms := by
 obtain ⟨ms, h1, h2, h3⟩ := h
 exact ⟨ms, h1.ext x hG, h2.ext x hv, h3⟩
theorem RowAt.cells {w : World} {F : Nat → Prop} {a : Option Addr} {n c i : Nat} {Ms : List PMsg} {M : PMsg} (h : RowAt w F (.slice a n c) Ms) (hi : Ms[i]? = some M) : ∃ b off na nn nc da dn dc, a = some ⟨b, off, none⟩ ∧ w.cell? ⟨b, off + (i * 5 + 0), none⟩ = some (.int .i64 M.fr) ∧ w.cell? ⟨b, off + (i * 5 + 1), none⟩ = some (.int .i64 M.tt) ∧ w.cell? ⟨b, off + (i * 5 + 2), none⟩ = some (.int .i64 M.kd) ∧ w.cell? ⟨b, off + (i * 5 + 3), none⟩ = some (.slice na nn nc) ∧ w.cell? ⟨b, off + (i * 5 + 4), none⟩ = some (.slice da dn dc) ∧ MsgRd w (msgV M.fr M.tt M.kd (.slice na nn nc) (.slice da dn dc)) M := by
 obtain ⟨ms, hms, hown, hrF⟩ := h
 obtain ⟨m, hm, hmF⟩ := hms.get hi
 have h5 := fun x hx => (hms.five x hx).1
 obtain ⟨nv, dv, rfl, on, od, _, _, hl1, hl2⟩ := hmF
 obtain ⟨na, nn, nc, rfl, _⟩ := on.rd
 obtain ⟨da, dn, dc, rfl, _⟩ := od.rd
 obtain ⟨_, _, _, hv, _, _, _, _, hr⟩ := hown.rd
 cases hv
 have hne : ms.flatten ≠ [] := by
  intro e
  have := flat5_get (k := 0) h5 hm (by omega)
  rw [e] at this
  cases this
 obtain ⟨b, off, rfl, hcell⟩ := hr hne
 exact ⟨b, off, na, nn, nc, da, dn, dc, rfl, hcell _ _ (flat5_get (k := 0) h5 hm (by omega)), hcell _ _ (flat5_get (k := 1) h5 hm (by omega)), hcell _ _ (flat5_get (k := 2) h5 hm (by omega)), hcell _ _ (flat5_get (k := 3) h5 hm (by omega)), hcell _ _ (flat5_get (k := 4) h5 hm (by omega)), _, _, _, _, _, _, rfl, on.rd, od.rd, hl1, hl2⟩
theorem EntRows.lt {w : World} {ms : List (List Value)} {es : List (Nat × List UInt8)} (h : EntRows w ms es) : ∀ u ∈ ms.flatten, ∀ g, u.ownBlock = some g → g < w.heap.size := by
 induction h with
 | nil => intro u hu; cases hu
 | snoc _ h2 ih =>
  intro u hu g hg
  rw [List.flatten_append, List.flatten_cons, List.flatten_nil, List.append_nil, List.mem_append] at hu
  rcases hu with hu | hu
  ·exact ih u hu g hg
  ·obtain ⟨dv, rfl, ho⟩ := h2
   simp only [List.mem_cons, List.not_mem_nil, or_false] at hu
   rcases hu with rfl | rfl
   ·cases hg
   ·exact ho.lt g hg
theorem EntRows.one {w : World} {ms : List (List Value)} {es : List (Nat × List UInt8)} (h : EntRows w ms es) : ∀ u ∈ ms.flatten, u.oneCell' = true := by
 induction h with
 | nil => intro u hu; cases hu
 | snoc _ h2 ih =>
  intro u hu
  rw [List.flatten_append, List.flatten_cons, List.flatten_nil, List.append_nil, List.mem_append] at hu
  exact hu.elim (ih u) (h2.one.2 u)
theorem EntRows.append {w : World} {ms ns : List (List Value)} {es fs : List (Nat × List UInt8)} (h : EntRows w ms es) (h' : EntRows w ns fs) : EntRows w (ms ++ ns) (es ++ fs) := by
 induction h' with
 | nil => rw [List.append_nil, List.append_nil]; exact h
 | snoc _ h2 ih =>
  rw [← List.append_assoc, ← List.append_assoc]
  exact .snoc ih h2
def memArr (d r : Nat) (tk : Value) : Array Value := #[.pointer (some ⟨d, 0, none⟩), .pointer (some ⟨r, 0, none⟩), tk]
def WentEnds (g r d mb : Nat) (F0 F : Nat → Prop) (rv0 tk0 : Value) (φ : List UInt8 → List UInt8) (T : PNode) (gs : Array Value) (Ms : List PMsg) (es : List (Nat × List UInt8)) (w : World) (e : Ending) (w' : World) : Prop :=
 e = .returned (.tuple #[]) ∧ Ext (fun b => (b = g ∨ rv0.ownBlock = some b ∨ b = mb ∨ tk0.ownBlock = some b) ∨ F b) w w' ∧ ∃ rv tk, w'.heap[g]? = some (.cells (gs.setIfInBounds 6 rv) 118 (0, 0)) ∧ RowAt w' (Gr F0 w w') rv Ms ∧ NodeQ w' r d F φ (T.takes T.committed) ∧
  w'.heap[mb]? = some (.cells (memArr d r tk) 120 (0, 0)) ∧ TakenAt w' (Gr F0 w w') tk (es ++ ((T.log.take T.committed).drop T.taken).map (subE φ)) ∧ ∀ b, tk.ownBlock = some b → tk0.ownBlock = some b ∨ w.heap.size ≤ b
set_option maxRecDepth 100000 in
set_option maxHeartbeats 4000000 in
theorem went_any {φ : List UInt8 → List UInt8} (hφ : Tok φ) (g r d mb : Nat) (F0 F : Nat → Prop) (T : PNode) (gs : Array Value) (rv tk v : Value) (Ms0 Ms : List PMsg) (es : List (Nat × List UInt8)) (w : World)
  (hb : w.heap[g]? = some (.cells gs 118 (0, 0))) (h6 : gs[6]? = some rv) (hg : F0 g) (hF0 : ∀ b, F0 b → b < w.heap.size) (hap : ∀ b, F b → ¬ F0 b) (hR : RowAt w F0 rv Ms0) (hN : NodeQ w r d F φ T) (hfit : T.fit = true)
  (hmb : w.heap[mb]? = some (.cells (memArr d r tk) 120 (0, 0))) (hmF : F0 mb) (htk : TakenAt w F0 tk es) (hel : es.length ≤ 1000000) (hm : RowAt w (fun _ => True) v Ms) (hoff : Off F0 v) (hlen : Ms0.length + Ms.length ≤ 4000) :
  Calls Tryz.prog 59 #[.pointer (some ⟨g, 0, none⟩), .pointer (some ⟨mb, 0, none⟩), v] w (WentEnds g r d mb F0 F rv tk φ T gs (Ms0 ++ Ms) es w) := by
 obtain ⟨va, vc, rfl⟩ := hm.shape
 obtain ⟨vn, hvn⟩ : ∃ vn, Ms.length = vn := ⟨_, rfl⟩
 rw [hvn] at hm hoff
 have hmg : mb ≠ g := fun e => by rw [e, hb] at hmb; cases hmb
 have hgw := lt_of_blk hb
 have Hb := Lib.hid (And.intro hb (And.intro h6 hR))
 have HF0 := Lib.hid (And.intro hg (And.intro hF0 (And.intro hap (And.intro hmF hoff))))
 have HN := Lib.hid (And.intro hN hfit)
 have Hmb := Lib.hid hmb
 have Htk := Lib.hid (And.intro htk hel)
 have Hm := Lib.hid hm
 have Hlen := Lib.hid (And.intro hlen hvn)
 rw [hvn]
 clear hb h6 hR hg hF0 hap hmF hoff hN hfit hmb htk hel hm hlen hvn
 go_enter Tryz.func59, Tryz.ntmps59
 go_wp2_with fail
 go_loopw [10] (fun i wr => ∃ (k : Nat) (rk : Value), i = .int .i64 (k : Int) ∧ k ≤ vn ∧ Hid (wr.heap[g]? = some (.cells (gs.setIfInBounds 6 rk) 118 (0, 0))) ∧ Hid (RowAt wr (Gr F0 w wr) rk (Ms0 ++ Ms.take k)) ∧ Hid (Ext (fun b => b = g ∨ rv.ownBlock = some b) w wr) ∧ Hid (∀ b, rk.ownBlock = some b → rv.ownBlock = some b ∨ w.heap.size ≤ b)) (fun i _ => vn - (intOf i).toNat)
 case atStart => exact ⟨0, rv, rfl, by omega, Lib.hid (by rw [set_self gs 6 rv Hb.out.2.1]; exact Hb.out.1), Lib.hid (by rw [List.take_zero, List.append_nil]; exact Hb.out.2.2.mono (fun b hb => .inl hb)), Lib.hid (Ext.refl _ _), Lib.hid (fun b hb => .inl hb)⟩
 case round =>
  obtain ⟨k, rk, rfl, hk, Hbk, HRk, HX, Hrk⟩ := hrel
  by_cases hlt : k < vn
  ·obtain ⟨M, hM⟩ : ∃ M, Ms[k]? = some M := ⟨_, List.getElem?_eq_getElem (by have := Hlen.out.2; omega)⟩
   have hrvF : ∀ b, rv.ownBlock = some b → F0 b := by
    obtain ⟨_, _, _, h⟩ := Hb.out.2.2
    exact h
   have hrvT : ∀ b, rv.ownBlock = some b → ∃ cs fr, w.heap[b]? = some (.cells cs 37 fr) := by
    obtain ⟨_, _, h, _⟩ := Hb.out.2.2
    exact own_type h
   have hoff := HF0.out.2.2.2.2
   have hvr : RowAt wr (fun _ => True) (.slice va vn vc) Ms := by
    refine Hm.out.ty HX.out (fun b hb _ => ?_) (fun b hb hb' => ?_)
    ·rcases hb with h | h
     ·exact ⟨_, _, _, h ▸ Hb.out.1, by decide, by decide⟩
     ·obtain ⟨cs, fr, h⟩ := hrvT b h
      exact ⟨cs, _, fr, h, by decide, by decide⟩
    ·have hv : ¬ F0 b := hoff b hb
     rcases hb' with h | h
     ·exact hv (h ▸ HF0.out.1)
     ·exact hv (hrvF b h)
   obtain ⟨b, off, na, nn, nc, da, dn, dc, rfl, c0, c1, c2, c3, c4, hrd⟩ := hvr.cells hM
   obtain ⟨q, hq⟩ : ∃ q, off + k * 5 = q := ⟨_, rfl⟩
   simp only [← Nat.add_assoc, hq, Nat.add_zero] at c0 c1 c2 c3 c4
   have hi0 : (0 : Int) ≤ (k : Int) := by omega
   have hi1 : (k : Int) < (vn : Int) := by omega
   have hin : ((k : Int)).toNat = k := by omega
   have hbw := World.block_lt_of_cell? wr _ c0
   have hgwr : g < wr.heap.size := lt_of_blk Hbk.out
   have hwk : IntKind.i64.wrap ((k : Int) + 1) = (k : Int) + 1 := IntWalk.i64_in _ (by have := Hlen.out; omega)
   have HM := Lib.hid hM
   have Hrd := Lib.hid hrd
   have Hrv := Lib.hid (And.intro hrvF hrvT)
   clear hM hrvF hrvT hoff hvr hrd
   go_wp2_with fail
   obtain ⟨w1, B, e1, e2, x1, b1, hs1⟩ := alloc_facts wr (.cells #[.int .i64 M.fr, .int .i64 M.tt, .int .i64 M.kd, .slice na nn nc, .slice da dn dc] 37)
   rw [e1, e2]
   have Hx1 := Lib.hid x1
   have Hb1 := Lib.hid b1
   have s0 : w1.cell? ⟨B, 0, none⟩ = some (.int .i64 M.fr) := by rw [cell_of_blk b1]; rfl
   have s1 : w1.cell? ⟨B, 1, none⟩ = some (.int .i64 M.tt) := by rw [cell_of_blk b1]; rfl
   have s2 : w1.cell? ⟨B, 2, none⟩ = some (.int .i64 M.kd) := by rw [cell_of_blk b1]; rfl
   have s3 : w1.cell? ⟨B, 3, none⟩ = some (.slice na nn nc) := by rw [cell_of_blk b1]; rfl
   have s4 : w1.cell? ⟨B, 4, none⟩ = some (.slice da dn dc) := by rw [cell_of_blk b1]; rfl
   clear e1 x1 b1 c0 c1 c2 c3 c4
   refine wp_region_N (fun w' => w'.cell? ⟨B, 0, none⟩ = some (.int .i64 M.fr) ∧ w'.cell? ⟨B, 1, none⟩ = some (.int .i64 M.tt) ∧ w'.cell? ⟨B, 2, none⟩ = some (.int .i64 M.kd) ∧ w'.cell? ⟨B, 3, none⟩ = some (.slice na nn nc) ∧ w'.cell? ⟨B, 4, none⟩ = some (.slice da dn dc)) 4 (by kernel_rfl) ?_
   have hSd : w1.drew.cell? ⟨B, 0, none⟩ = some (.int .i64 M.fr) ∧ w1.drew.cell? ⟨B, 1, none⟩ = some (.int .i64 M.tt) ∧ w1.drew.cell? ⟨B, 2, none⟩ = some (.int .i64 M.kd) ∧ w1.drew.cell? ⟨B, 3, none⟩ = some (.slice na nn nc) ∧ w1.drew.cell? ⟨B, 4, none⟩ = some (.slice da dn dc) := ⟨s0, s1, s2, s3, s4⟩
   have xd : Ext NoB w1 w1.drew := (Ext.refl _ w1).drew
   generalize w1.drew = wd at hSd xd ⊢
   clear s0 s1 s2 s3 s4
   refine wpAnyN_free 0 (v := ?_) (by kernel_rfl) rfl (fun _ _ _ h => h) hSd (by rfl) ?_ ?_; rotate_left; (focus (intro w; go_simp; try with_reducible rfl)); (try simp only [Act.put]); (try simp only [List.setIfInBounds_toArray, List.set_cons_zero, List.set_cons_succ])
   refine wpAnyN_free 1 (v := ?_) (by kernel_rfl) rfl (fun _ _ _ h => h) hSd (by rfl) ?_ ?_; rotate_left; (focus (intro w; go_simp; try with_reducible rfl)); (try simp only [Act.put]); (try simp only [List.setIfInBounds_toArray, List.set_cons_zero, List.set_cons_succ])
   refine wpAnyN_free 2 (v := ?_) (by kernel_rfl) rfl (fun _ _ _ h => h) hSd (by rfl) ?_ ?_; rotate_left; (focus (intro w; go_simp; try with_reducible rfl)); (try simp only [Act.put]); (try simp only [List.setIfInBounds_toArray, List.set_cons_zero, List.set_cons_succ])
   refine wpAnyN_take 3 (v := ?_) (by kernel_rfl) rfl (fun _ _ _ h => h) hSd (by rfl) ?_ ?_; rotate_left; (focus (intro w hSw; (try dsimp only at hSw); go_simp; try with_reducible rfl)); (try simp only [Act.put]); (try simp only [List.setIfInBounds_toArray, List.set_cons_zero, List.set_cons_succ])
   refine wpAnyN_tail (by rfl) (by decide) (by kernel_rfl) (by kernel_rfl) ?_
   simp only [List.drop_succ_cons, List.drop_zero]
   have Hxd := Lib.hid (Hx1.out.trans xd)
   clear hSd xd
   go_wp2_with fail
   have hgs6 : 6 < gs.size := by
    have := Hb.out.2.1
    rcases Nat.lt_or_ge 6 gs.size with h | h
    ·exact h
    ·rw [Array.getElem?_eq_none h] at this; cases this
   have hFk : ∀ b, Gr F0 w wr b → b < wr.heap.size := fun b hb => hb.elim (fun h => Nat.lt_of_lt_of_le (HF0.out.2.1 b h) HX.out.size) (fun h => h.2)
   have hsend := Send_any g (Gr F0 w wr) (gs.setIfInBounds 6 rk) 118 rk (msgV M.fr M.tt M.kd (.slice na nn nc) (.slice da dn dc)) (Ms0 ++ Ms.take k) M wd (Hxd.out.blk Hbk.out (fun h => h)) (by decide) (by rw [Array.getElem?_setIfInBounds_self_of_lt hgs6]) (.inl HF0.out.1) (fun b hb => Nat.lt_of_lt_of_le (hFk b hb) Hxd.out.size) (HRk.out.off Hxd.out (fun _ _ h => h)) (by
    obtain ⟨na', nn', nc', da', dn', dc', e, h1, h2, h3⟩ := Hrd.out
    exact ⟨na', nn', nc', da', dn', dc', e, h1.no Hxd.out, Rd.no h2 Hxd.out, h3⟩) (by
    have := Hlen.out
    rw [List.length_append, List.length_take]
    omega)
   unfold msgV at hsend
   have Hsend := Lib.hid hsend
   clear hsend
   refine Hsend.out.mono ?_; rintro e w2 ⟨rfl, x2, rk2, hb2, hr2, ho2⟩
   have xA : Ext (fun b => b = g ∨ rv.ownBlock = some b) w w2 := (HX.out.trans Hxd.out.of_no).next x2 (fun b hb hl => hb.elim .inl (fun h => (Hrk.out b h).elim .inr (fun h => by omega)))
   have sA := (HX.out.trans Hxd.out.of_no).size
   have sB := HX.out.size
   have sC := Hxd.out.size
   have sD := x2.size
   have hrow : RowAt w2 (Gr F0 w w2) rk2 (Ms0 ++ Ms.take (k + 1)) := by
    have e : Ms0 ++ Ms.take (k + 1) = (Ms0 ++ Ms.take k) ++ [M] := by
     obtain ⟨hk', hM'⟩ := List.getElem?_eq_some_iff.1 HM.out
     rw [List.take_succ_eq_append_getElem hk', hM', List.append_assoc]
    rw [e]
    refine hr2.mono (fun b hb => ?_)
    rcases hb with (h | h) | h
    ·exact .inl h
    ·exact .inr ⟨h.1, by omega⟩
    ·exact .inr ⟨by omega, h.2⟩
   rw [Array.setIfInBounds_setIfInBounds] at hb2
   have HH := Lib.hid (And.intro hb2 (And.intro hrow (And.intro xA (show ∀ b, rk2.ownBlock = some b → rv.ownBlock = some b ∨ w.heap.size ≤ b from fun b hb => (ho2 b hb).elim (fun h => Hrk.out b h) (fun h => .inr (by omega))))))
   clear hb2 hr2 ho2 hrow xA x2 Hsend
   go_wp2_with fail
   go_roundw
   case rel => exact ⟨k + 1, rk2, by go_num, by omega, Lib.hid HH.out.1, Lib.hid HH.out.2.1, Lib.hid HH.out.2.2.1, Lib.hid HH.out.2.2.2⟩
   case measure => simp [intOf]; omega
  ·obtain rfl : k = vn := by omega
   have hrvF : ∀ b, rv.ownBlock = some b → F0 b := by
    obtain ⟨_, _, _, h⟩ := Hb.out.2.2
    exact h
   have hrvT : ∀ b, rv.ownBlock = some b → ∃ cs fr, w.heap[b]? = some (.cells cs 37 fr) := by
    obtain ⟨_, _, h, _⟩ := Hb.out.2.2
    exact own_type h
   have hty : ∀ b, (b = g ∨ rv.ownBlock = some b) → ∃ cs t fr, w.heap[b]? = some (.cells cs t fr) ∧ t ≠ 5 ∧ t ≠ 50 ∧ t ≠ 120 := fun b hb => by
    rcases hb with h | h
    ·exact ⟨_, _, _, h ▸ Hb.out.1, by decide, by decide, by decide⟩
    ·obtain ⟨cs, fr, h⟩ := hrvT b h
     exact ⟨cs, _, fr, h, by decide, by decide, by decide⟩
   have hsub : ∀ b, (b = g ∨ rv.ownBlock = some b) → F0 b := fun b hb => hb.elim (fun h => h ▸ HF0.out.1) (hrvF b)
   have hmbr : wr.heap[mb]? = some (.cells (memArr d r tk) 120 (0, 0)) := HX.out.blk Hmb.out (fun hb => by
    obtain ⟨cs, t, fr, h1, _, _, h2⟩ := hty mb hb
    rw [Hmb.out] at h1
    cases h1
    exact h2 rfl)
   have hNr : NodeQ wr r d F φ T := HN.out.1.ext HX.out (fun b hb hb' => HF0.out.2.2.1 b hb (hsub b hb'))
   have htkr : TakenAt wr F0 tk es := Htk.out.1.ty HX.out (fun b hb => by
    obtain ⟨cs, t, fr, h1, h2, h3, _⟩ := hty b hb
    exact ⟨cs, t, fr, h1, h2, h3⟩)
   obtain ⟨ms, hms, hown, htkF, htkU⟩ := htkr
   obtain ⟨ta, tn, tc, rfl, htl, _⟩ := hown.rd
   have c1 : wr.cell? ⟨mb, 1, none⟩ = some (.pointer (some ⟨r, 0, none⟩)) := by rw [cell_of_blk hmbr]; rfl
   have c2 : wr.cell? ⟨mb, 2, none⟩ = some (.slice ta tn tc) := by rw [cell_of_blk hmbr]; rfl
   have hml := hms.len
   have HmS := Lib.hid (And.intro hms (And.intro hown (And.intro htkF (And.intro htkU (And.intro hml htl)))))
   have Hmbr := Lib.hid hmbr
   have HNr := Lib.hid hNr
   have Hsub := Lib.hid hsub
   clear hrvF hrvT hty hsub hmbr hNr hms hown htkF htkU htl hml
   go_wp2_with fail
   refine wp_region_N (fun w' => w'.cell? ⟨mb, 1, none⟩ = some (.pointer (some ⟨r, 0, none⟩)) ∧ w'.cell? ⟨mb, 2, none⟩ = some (.slice ta tn tc)) 10 (by kernel_rfl) ?_
   have hSd : wr.drew.cell? ⟨mb, 1, none⟩ = some (.pointer (some ⟨r, 0, none⟩)) ∧ wr.drew.cell? ⟨mb, 2, none⟩ = some (.slice ta tn tc) := ⟨c1, c2⟩
   have xd : Ext NoB wr wr.drew := (Ext.refl _ wr).drew
   generalize wr.drew = wd at hSd xd ⊢
   clear c1 c2
   refine wpAnyN_free 0 (v := ?_) (by kernel_rfl) rfl (fun _ _ _ h => h) hSd (by rfl) ?_ ?_; rotate_left; (focus (intro w; go_simp; try with_reducible rfl)); (try simp only [Act.put]); (try simp only [List.setIfInBounds_toArray, List.set_cons_zero, List.set_cons_succ])
   refine wpAnyN_free 1 (v := ?_) (by kernel_rfl) rfl (fun _ _ _ h => h) hSd (by rfl) ?_ ?_; rotate_left; (focus (intro w; go_simp; try with_reducible rfl)); (try simp only [Act.put]); (try simp only [List.setIfInBounds_toArray, List.set_cons_zero, List.set_cons_succ])
   refine wpAnyN_free 2 (v := ?_) (by kernel_rfl) rfl (fun _ _ _ h => h) hSd (by rfl) ?_ ?_; rotate_left; (focus (intro w; go_simp; try with_reducible rfl)); (try simp only [Act.put]); (try simp only [List.setIfInBounds_toArray, List.set_cons_zero, List.set_cons_succ])
   refine wpAnyN_free 3 (v := ?_) (by kernel_rfl) rfl (fun _ _ _ h => h) hSd (by rfl) ?_ ?_; rotate_left; (focus (intro w; go_simp; try with_reducible rfl)); (try simp only [Act.put]); (try simp only [List.setIfInBounds_toArray, List.set_cons_zero, List.set_cons_succ])
   refine wpAnyN_take 4 (v := ?_) (by kernel_rfl) rfl (fun _ _ _ h => h) hSd (by rfl) ?_ ?_; rotate_left; (focus (intro w hSw; (try dsimp only at hSw); go_simp; try with_reducible rfl)); (try simp only [Act.put]); (try simp only [List.setIfInBounds_toArray, List.set_cons_zero, List.set_cons_succ])
   refine wpAnyN_free 5 (v := ?_) (by kernel_rfl) rfl (fun _ _ _ h => h) hSd (by rfl) ?_ ?_; rotate_left; (focus (intro w; go_simp; try with_reducible rfl)); (try simp only [Act.put]); (try simp only [List.setIfInBounds_toArray, List.set_cons_zero, List.set_cons_succ])
   refine wpAnyN_free 6 (v := ?_) (by kernel_rfl) rfl (fun _ _ _ h => h) hSd (by rfl) ?_ ?_; rotate_left; (focus (intro w; go_simp; try with_reducible rfl)); (try simp only [Act.put]); (try simp only [List.setIfInBounds_toArray, List.set_cons_zero, List.set_cons_succ])
   refine wpAnyN_free 7 (v := ?_) (by kernel_rfl) rfl (fun _ _ _ h => h) hSd (by rfl) ?_ ?_; rotate_left; (focus (intro w; go_simp; try with_reducible rfl)); (try simp only [Act.put]); (try simp only [List.setIfInBounds_toArray, List.set_cons_zero, List.set_cons_succ])
   refine wpAnyN_take 8 (v := ?_) (by kernel_rfl) rfl (fun _ _ _ h => h) hSd (by rfl) ?_ ?_; rotate_left; (focus (intro w hSw; (try dsimp only at hSw); go_simp; try with_reducible rfl)); (try simp only [Act.put]); (try simp only [List.setIfInBounds_toArray, List.set_cons_zero, List.set_cons_succ])
   refine wpAnyN_one 9 (by kernel_rfl) (by simp only [List.getElem?_toArray, List.getElem?_cons_succ, List.getElem?_cons_zero] <;> rfl) (by rfl) (fun K hK => ?_)
   go_simp
   have hFlt := HNr.out.lt
   have hapF : ∀ b, F0 b → ¬ F b := fun b h h' => HF0.out.2.2.1 b h' h
   refine (Take_Q hφ r d F T wd (HNr.out.no xd) HN.out.2).mono ?_; rintro e w3 ⟨v9, rfl, hE, hf9, x9, hN9⟩
   obtain ⟨ms9, hms9, hown9, hnew9⟩ := hE
   obtain ⟨a9, n9, k9, rfl, hl9, _⟩ := hown9.rd
   have hmF := HF0.out.2.2.2.1
   have hS3 := And.intro (x9.cell hSd.1 (hapF mb hmF)) (x9.cell hSd.2 (hapF mb hmF))
   go_wp2_with fail
   refine hK.out _ _ hS3 (fun hSd => ?_)
   clear hK K hSd
   (try simp only [Act.put]); (try simp only [List.setIfInBounds_toArray, List.set_cons_zero, List.set_cons_succ])
   refine wpAnyN_tail (by rfl) (by decide) (by kernel_rfl) (by kernel_rfl) ?_
   simp only [List.drop_succ_cons, List.drop_zero]
   obtain ⟨hms, hown, htkF, htkU, hml, htl⟩ := HmS.out
   have hown3 := (hown.no xd).ext x9 (fun b hb => hapF b (htkF b hb))
   have hms3 := (hms.ext' xd (fun _ _ _ _ h => h)).ext' x9 (fun u hu b hb => hapF b (htkU u hu b hb))
   have hsrc := Rd.src (P := Tryz.prog) unEnts hown9.rd hms9.one (by decide)
   have hml9 := hms9.len
   have Hmb3 := Lib.hid (x9.blk (xd.blk Hmbr.out (fun h => h)) (hapF mb hmF))
   have Hg3 := Lib.hid (x9.blk (xd.blk Hbk.out (fun h => h)) (hapF g HF0.out.1))
   have HR3 := Lib.hid ((HRk.out.off xd (fun _ _ h => h)).off x9 (fun b hb hF => by
    rcases hb with h | h
    ·exact hapF b h hF
    ·have := HN.out.1.lt b hF
     omega))
   have Hown3 := Lib.hid hown3
   have Hms3 := Lib.hid (And.intro hms3 (And.intro htkF htkU))
   have Hms9 := Lib.hid (And.intro hms9 (And.intro hown9 hnew9))
   have Hsrc := Lib.hid hsrc
   have HN9 := Lib.hid hN9
   have Hx3 := Lib.hid (And.intro xd x9)
   have Hbd : Hid ((ms.flatten.length + ms9.flatten.length) * 32 ≤ 140737488355328) := Lib.hid (by
    have h1 := Htk.out.2
    have h2 := (fit_of HN.out.2).len
    rw [hml, hml9]
    simp only [List.length_map, List.length_drop, List.length_take]
    omega)
   have hsd := hS3
   clear hms hown htkF htkU hml htl hown3 hms3 hsrc hms9 hown9 hnew9 hl9 hml9 hN9 xd x9 hS3 HmS hf9
   go_wp2_with (at_builtin; refine wpList_app _ rfl (.tmp 24) (.tmp 29) 45 45 rfl 50 2 32 unEnts elEnt Hown3.out Hsrc.out rfl rfl Hbd.out (by decide) ?_; intro v' w' o' x' h'; refine halt2 (fun _K HK => ?_))
   obtain ⟨a', n', c', rfl, _⟩ := o'.rd
   have hgm : ¬ ((Value.slice ta tn tc).ownBlock = some mb) := fun h => Hown3.out.ne_blk Hmb3.out (by decide) mb h rfl
   have hgg : ¬ ((Value.slice ta tn tc).ownBlock = some g) := fun h => Hown3.out.ne_blk Hg3.out (by decide) g h rfl
   have hmb4 := x'.blk Hmb3.out hgm
   have hg4 := x'.blk Hg3.out hgg
   have k2 : w'.cell? ⟨mb, 2, none⟩ = some (.slice ta tn tc) := by rw [cell_of_blk hmb4]; rfl
   have f2 : w'.frozen? ⟨mb, 2, none⟩ = false := frozen_of_blk hmb4 2
   have Hmb4 := Lib.hid hmb4
   have Hg4 := Lib.hid hg4
   have Hx4 := Lib.hid x'
   have Ho4 := Lib.hid o'
   have Hh4 := Lib.hid h'
   clear hmb4 hg4 x' o' h' hgm hgg
   refine HK.out ?_; clear HK _K
   go_wp2_with fail
   go_end0
   have kb := blk_setCell Hmb4.out 2 (.slice a' n' c')
   have kg := blk_setCell_ne (p := ⟨mb, 2, none⟩) Hg4.out (fun h => hmg h.symm) (.slice a' n' c')
   have xs : Ext (fun b => b = mb) w' (w'.setCell ⟨mb, 2, none⟩ (.slice a' n' c')) := (Ext.refl (fun b => b = mb) w').setCell (p := ⟨mb, 2, none⟩) (.inl rfl) _
   generalize (w'.setCell ⟨mb, 2, none⟩ (.slice a' n' c')) = wF at kb kg xs ⊢
   obtain ⟨xd, x9⟩ := Hx3.out
   have x4 := Hx4.out
   obtain ⟨hms3, htkF, htkU⟩ := Hms3.out
   obtain ⟨hms9, hown9, hnew9⟩ := Hms9.out
   have hF0 := HF0.out
   have sX := HX.out.size
   have s1 := xd.size
   have s2 := x9.size
   have s3 := x4.size
   have s4 := xs.size
   have htyE : ∀ b, (Value.slice ta tn tc).ownBlock = some b → ∃ cs fr, w3.heap[b]? = some (.cells cs 50 fr) := own_type Hown3.out
   have xAll : Ext (fun b => (b = g ∨ rv.ownBlock = some b ∨ b = mb ∨ (Value.slice ta tn tc).ownBlock = some b) ∨ F b) w wF := (((HX.out.mono (fun b _ h => .inl (h.elim .inl (fun h => .inr (.inl h))))).trans (xd.of_no)).trans (x9.mono (fun b _ h => .inr h))).trans ((x4.mono (fun b _ h => .inl (.inr (.inr (.inr h))))).trans (xs.mono (fun b _ h => .inl (.inr (.inr (.inl h))))))
   have hrow : RowAt wF (Gr F0 w wr) rk (Ms0 ++ Ms.take k) := by
    have hty : ∀ b, rk.ownBlock = some b → ∃ cs fr, w3.heap[b]? = some (.cells cs 37 fr) := by
     obtain ⟨_, _, h, _⟩ := HR3.out
     exact own_type h
    have hR4 : RowAt w' (Gr F0 w wr) rk (Ms0 ++ Ms.take k) := HR3.out.ty x4 (fun b hb _ => by
     obtain ⟨cs, fr, h⟩ := htyE b hb
     exact ⟨cs, _, fr, h, by decide, by decide⟩) (fun b hb hb' => by
     obtain ⟨cs, fr, h⟩ := hty b hb
     obtain ⟨cs', fr', h'⟩ := htyE b hb'
     rw [h] at h'
     cases h')
    refine hR4.ty xs (fun b hb _ => ?_) (fun b hb hb' => ?_)
    ·obtain rfl : b = mb := hb
     exact ⟨_, _, _, Hmb4.out, by decide, by decide⟩
    ·obtain rfl : b = mb := hb'
     obtain ⟨ms', _, h, _⟩ := hR4
     exact h.ne_blk Hmb4.out (by decide) b hb rfl
   have hNF : NodeQ wF r d F φ (T.takes T.committed) := (HN9.out.ext x4 (fun b hb hb' => hF0.2.2.1 b hb (htkF b hb'))).ext xs (fun b hb hb' => hF0.2.2.1 b hb (by obtain rfl : b = mb := hb'; exact hF0.2.2.2.1))
   have htr : ∀ {ms' : List (List Value)} {es' : List (Nat × List UInt8)}, EntRows w3 ms' es' → EntRows wF ms' es' := fun h => (h.ty x4 (fun b hb => by
    obtain ⟨cs, fr, h⟩ := htyE b hb
    exact ⟨cs, _, fr, h, by decide⟩)).ty xs (fun b hb => by
    obtain rfl : b = mb := hb
    exact ⟨_, _, _, Hmb4.out, by decide⟩)
   have hlt9 := hms9.lt
   refine ⟨rfl, xAll, rk, .slice a' n' c', kg, ?_, hNF, kb, ⟨ms ++ ms9, (htr hms3).append (htr hms9), ?_, fun b hb => ?_, fun u hu b hb => ?_⟩, fun b hb => ?_⟩
   ·rw [List.take_of_length_le (by have := Hlen.out.2; omega)] at hrow
    exact hrow.mono (fun b hb => hb.elim .inl (fun h => .inr ⟨h.1, by omega⟩))
   ·rw [List.flatten_append]
    exact Ho4.out.ext xs (fun b hb hb' => by
     obtain rfl : b = mb := hb'
     exact Ho4.out.ne_blk Hmb4.out (by decide) b hb rfl)
   ·rcases Hh4.out with h | ⟨q, h, h2⟩
    ·exact .inl (htkF b (h ▸ hb))
    ·have hbq : b = q := by rw [h] at hb; exact (Option.some.inj hb).symm
     have := Ho4.out.lt b hb
     exact .inr ⟨by omega, by omega⟩
   ·rw [List.flatten_append, List.mem_append] at hu
    rcases hu with hu | hu
    ·exact .inl (htkU u hu b hb)
    ·have h1 := hnew9 u hu b hb
     have h2 := hlt9 u hu b hb
     exact .inr ⟨by omega, by omega⟩
   ·rcases Hh4.out with h | ⟨q, h, h2⟩
    ·exact .inl (h ▸ hb)
    ·have hbq : b = q := by rw [h] at hb; exact (Option.some.inj hb).symm
     exact .inr (by omega)
end Go.Proofs.YtgglbholbkdgfaaGreatDoor
