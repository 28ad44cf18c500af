/- Package raft: entry. -/
import Derived.Test.YtgglbholbkdgfaaGreatDoorB35
namespace Go.Proofs.YtgglbholbkdgfaaGreatDoor
open Go.RowKit

theorem chain_find : ∀ {n : Nat} {ps : List PSeg} {m i : Nat}, Chain n ps m → n ≤ i → i < m → ∃ (j : Nat) (p : PSeg), ps[j]? = some p ∧ p.first ≤ i ∧ i < p.next ∧ p.es[i - p.first]? = ((ps.map (·.es)).flatten)[i - n]?
  | n, [], m, i, h, h1, h2 => by
    have h : n = m := h
    omega
  | n, p :: ps, m, i, h, h1, h2 => by
    obtain ⟨a1, a2, a3⟩ := h
    by_cases hi : i < p.next
    · refine ⟨0, p, rfl, by omega, hi, ?_⟩
      unfold PSeg.next at hi
      simp only [List.map_cons, List.flatten_cons]
      rw [List.getElem?_append_left (by omega), a1]
    · unfold PSeg.next at hi
      obtain ⟨j, q, b1, b2, b3, b4⟩ := chain_find a3 (by omega) h2
      refine ⟨j + 1, q, by simpa using b1, b2, b3, ?_⟩
      simp only [List.map_cons, List.flatten_cons]
      rw [b4, List.getElem?_append_right (by omega)]
      congr 1
      omega

set_option maxRecDepth 100000 in
set_option maxHeartbeats 2000000 in
theorem entry_any (r d : Nat) (F : Nat → Prop) (N : PNode) (D : PDisk) (ps : List PSeg) (i t : Nat) (x : List UInt8) (w : World) (h : NodeIs w r d F N D ps) (hi : 1 ≤ i) (he : N.log[i - 1]? = some (t, x)) (ht : t ≤ 1099511627776) (hx : x.length ≤ 1000000) :
    Calls Tryz.prog 53 #[.pointer (some ⟨r, 0, none⟩), .int .i64 i] w fun e w' => ∃ v, e = .returned (.agg #[.int .i64 t, v]) ∧ Own w' 5 1 v (bytesV x) ∧ Fresh w v ∧ Ext NoB w w' := by
  obtain ⟨L, FD, FL, FR, tv, dl, h, _⟩ := h
  obtain ⟨sv, rs, l1, l2, _⟩ := h.store.log
  have hch := l1.chain
  rw [l2] at hch
  have hil := (List.getElem?_eq_some_iff.1 he).1
  obtain ⟨j, p, hj, hp1, hp2, hp3⟩ := chain_find (i := i) hch hi (by omega)
  rw [h.coh, List.getElem?_map, he] at hp3
  rw [← l2, List.getElem?_map] at hj
  obtain ⟨rr, hrr, rfl⟩ := Option.map_eq_some_iff.1 hj
  obtain ⟨el, hel⟩ : ∃ el, entB (t, x) = el := ⟨_, rfl⟩
  have hell : el.length ≤ 1000010 := by rw [← hel]; show (uv t ++ x).length ≤ _; rw [List.length_append]; have := uv_length t; omega
  have hp3 : rr.p.es[i - rr.p.first]? = some el := by rw [hp3, ← hel]; rfl
  have hget := Lib.hid (fun (w' : World) (y : Ext NoB w w') => Get_seg L d FL logPre sv rs _ w' (l1.no y) i j rr hrr hp1 hp2 el hp3 (by omega))
  have c3 : w.cell? ⟨r, 3, none⟩ = some (.pointer (some ⟨L, 0, none⟩)) := by rw [cell_of_blk h.blk]; rfl
  have hrl := lt_of_blk h.blk
  have hze := fun (w : World) => (show (zeroValue 50).run Tryz.prog w = .ok (.agg #[.int .i64 0, .slice none 0 0]) w by kernel_rfl)
  have hzr := fun (w : World) => (show (zeroValue 97).run Tryz.prog w = .ok (.agg #[.slice none 0 0, .bool false]) w by kernel_rfl)
  have Hel := Lib.hid hel
  have Hell := Lib.hid hell
  have Ht := Lib.hid ht
  clear h l1 l2 hch hil hj hp1 hp2 hp3 hrr he hell ht hel
  go_enter Tryz.func53, Tryz.ntmps53
  go_wp2_with fail
  obtain ⟨w1, R, e1, e2, x1, b1, hs1⟩ := alloc_facts w (.cells #[.int .i64 0, .slice none 0 0] 50)
  rw [e1, e2]
  have d3 := x1.cell c3 (fun h => h)
  refine (hget.out w1 x1).mono ?_; rintro e w2 ⟨v2, rfl, o2, f2, x2⟩
  obtain ⟨a2, k2, rfl, hn2, hk2⟩ := RdB.shape (l := el) o2.rd
  have HO2 := Lib.hid o2
  have Hb1 := Lib.hid b1
  clear o2 f2 e1 d3 b1
  go_wp2_with fail
  obtain ⟨w3, X, q1, q2, x3, b3, hs3⟩ := alloc_facts w2 (.cells #[.slice a2 el.length k2, .bool false] 97)
  rw [q1, q2]
  have r3 : RdB w3 (.slice a2 el.length k2) el := (HO2.out.no x3).rd
  have hel2 : el = uv t ++ x := Hel.out.symm
  refine (number_ok X t a2 k2 el x w3 b3 r3 hel2 Ht.out (by have := Hell.out; omega) hn2).mono ?_
  rintro e w4 ⟨rfl, x4, b4⟩
  obtain ⟨kk, hkk⟩ : ∃ kk, (uv t).length = kk := ⟨_, rfl⟩
  rw [hkk] at b4
  have hkl : kk ≤ el.length := by rw [hel2, List.length_append]; omega
  have hdrop : el.drop kk = x := by rw [hel2, ← hkk, List.drop_left]
  have hoff : Off (fun b => b = X) (.slice a2 el.length k2) := fun g hg h => by have := HO2.out.lt g hg; omega
  have r4 : RdB w4 (.slice (subA a2 kk k2) (el.length - kk) (k2 - kk)) x := by
    have h1 : RdB w4 (.slice a2 el.length k2) el := Rd.ext r3 x4 hoff
    have h2 := RdB.drop h1 kk hkl hn2
    rw [hdrop] at h2
    exact h2
  obtain ⟨ln, hln⟩ : ∃ ln, el.length - kk = ln := ⟨_, rfl⟩
  obtain ⟨cn, hcn⟩ : ∃ cn, k2 - kk = cn := ⟨_, rfl⟩
  obtain ⟨sa, hsa⟩ : ∃ sa, subA a2 kk k2 = sa := ⟨_, rfl⟩
  rw [hln, hcn, hsa] at r4 b4
  have cX : w4.cell? ⟨X, 0, none⟩ = some (.slice sa ln cn) := by rw [cell_of_blk b4]; rfl
  have hRX : R < X := by have := lt_of_blk Hb1.out; have := x2.size; omega
  have bR4 := x4.blk (x3.blk (x2.blk Hb1.out (fun h => h)) (fun h => h)) (show ¬ (R = X) by omega)
  have Hr4 := Lib.hid r4
  have HbR := Lib.hid bR4
  have Hx4 := Lib.hid x4
  have Hwx : Hid (w.heap.size ≤ X) := Lib.hid (by have := x1.size; have := x2.size; omega)
  clear r3 r4 b3 b4 bR4 x4 hdrop hel2 hkl hoff hln hcn hsa q1 hkk hRX hn2 hk2
  go_wp2_with fail
  refine (bytesClone_any _ x w4 Hr4.out (by omega)).mono ?_; rintro e w5 ⟨v5, rfl, o5, f5, x5⟩
  obtain ⟨a5, k5, rfl, hn5, hk5⟩ := RdB.shape (l := x) o5.rd
  have bR5 := x5.blk HbR.out (fun h => h)
  have r0 : w5.cell? ⟨R, 0, none⟩ = some (.int .i64 0) := by rw [cell_of_blk bR5]; rfl
  have r1 : w5.cell? ⟨R, 1, none⟩ = some (.slice none 0 0) := by rw [cell_of_blk bR5]; rfl
  have g0 : w5.frozen? ⟨R, 0, none⟩ = false := frozen_of_blk bR5 0
  have g1 : w5.frozen? ⟨R, 1, none⟩ = false := frozen_of_blk bR5 1
  have HO5 := Lib.hid o5
  have Hf5 := Lib.hid f5
  clear o5 f5 hn5 hk5
  go_wp2_with fail
  have kR := blk_setCell (blk_setCell bR5 0 (.int .i64 t)) 1 (.slice a5 x.length k5)
  have xS : Ext (fun b => b = R) w5 ((w5.setCell ⟨R, 0, none⟩ (.int .i64 t)).setCell ⟨R, 1, none⟩ (.slice a5 x.length k5)) := ((Ext.refl (fun b => b = R) w5).setCell (p := ⟨R, 0, none⟩) (.inl rfl) _).setCell (p := ⟨R, 1, none⟩) (.inl rfl) _
  generalize ((w5.setCell ⟨R, 0, none⟩ (.int .i64 t)).setCell ⟨R, 1, none⟩ (.slice a5 x.length k5)) = wF at kR xS ⊢
  have y3 := (x1.trans x2).trans x3
  have y4 : Ext NoB w w4 := y3.trans' Hx4.out (fun _ _ h => h) (fun b hb h => by have := Hwx.out; omega)
  have y5 := y4.trans x5
  have xF : Ext NoB w wF := y5.trans' xS (fun _ _ h => h) (fun b hb h => by omega)
  have hw4 := y4.size
  refine bodyPost_ret (results_cell_row rfl _ _ R _ #[.int .i64 t, .slice a5 x.length k5] _ _ rfl kR Tryz.underlying50 rfl (by kernel_rfl)) rfl ⟨_, rfl, HO5.out.ext xS (fun g hg h => HO5.out.ne_blk bR5 (by decide) g hg h.symm), fun g hg => ?_, xF⟩
  have := Hf5.out g hg
  omega
end Go.Proofs.YtgglbholbkdgfaaGreatDoor
