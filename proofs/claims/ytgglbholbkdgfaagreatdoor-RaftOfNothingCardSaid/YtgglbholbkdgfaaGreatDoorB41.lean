/- Package raft: wins. -/
import Derived.Test.YtgglbholbkdgfaaGreatDoorB40
namespace Go.Proofs.YtgglbholbkdgfaaGreatDoor
open Go.RowKit

/-- An entry can be laid behind a log, in a room. -/
def LayOk (log : List (Nat × List UInt8)) (room t : Nat) (x : List UInt8) : Prop :=
  ∀ (r d : Nat) (F : Nat → Prop) (N : PNode) (saved : Bool) (dv : Value) (w : World), RaftIs w r d F N room saved → N.log = log → RdB w dv x → Off F dv →
    Calls Tryz.prog 55 #[.pointer (some ⟨r, 0, none⟩), .agg #[.int .i64 t, dv]] w fun e w' => e = .returned (.bool true) ∧ Ext F w w' ∧ RaftIs w' r d (Gr F w w') { N with log := log ++ [(t, x)] } room saved
theorem layOk_first (room t : Nat) (x : List UInt8) (hx : x.length ≤ 65536) (ht : t ≤ 1099511627776) (hroom : x.length + 200 ≤ room) : LayOk [] room t x := by
  intro r d F N saved dv w h hl hr ho
  have := lay_first r d F N room saved t dv x w h hl hr ho hx ht hroom
  rwa [List.nil_append]

/-- One that leads, ahead of its first entry: what it knows of the first k. -/
def PNode.knows (N : PNode) (k : Nat) : PNode := { N with role := 2, leader := N.id, wait := 3, next := fun i => if i < k then N.log.length + 1 else N.next i, mt := fun i => if i < k then 0 else N.mt i }
def PNode.lays (N : PNode) (e : Nat × List UInt8) : PNode := { N with log := N.log ++ [e] }
def PNode.wins (N : PNode) : PNode := ((N.knows N.n).lays (N.term, [])).commits

theorem knows_set (N : PNode) (d L : Nat) (tv : Value) (k : Nat) (hk : k < 5) :
    ((nodeArr (N.knows k) d L tv).setIfInBounds (13 + k) (.int .i64 ((N.log.length : Int) + 1))).setIfInBounds (18 + k) (.int .i64 0) = nodeArr (N.knows (k + 1)) d L tv := by
  match k, hk with
  | 0, _ => rfl
  | 1, _ => rfl
  | 2, _ => rfl
  | 3, _ => rfl
  | 4, _ => rfl

set_option maxRecDepth 100000 in
set_option maxHeartbeats 4000000 in
theorem wins_any (r d : Nat) (F : Nat → Prop) (N : PNode) (room : Nat) (saved : Bool) (w : World) (h : RaftIs w r d F N room saved) (hlay : LayOk N.log room N.term []) (hok : N.Ok) :
    Calls Tryz.prog 81 #[.pointer (some ⟨r, 0, none⟩)] w fun e w' => ∃ v, e = .returned v ∧ MsgsAre w' v ((tos N.n N.id).map (sendMsg N.wins)) ∧ Fresh w v ∧ Ext F w w' ∧ RaftIs w' r d (Gr F w w') N.wins room saved := by
  have H := Lib.hid h
  have hterm := h.term
  obtain ⟨D, ps, ⟨L, FD, FL, FR, tv, dl, hA, hF, hlt⟩, hrm, hperm⟩ := h.is
  have hl100 := hA.len
  have hi1 := hA.idn.1
  have hi2 := hA.idn.2
  have hcm := hA.comm
  have hb := hA.blk
  have c0 : w.cell? ⟨r, 0, none⟩ = some (.int .i64 N.id) := by rw [cell_of_blk hb]; rfl
  have c1 : w.cell? ⟨r, 1, none⟩ = some (.int .i64 N.n) := by rw [cell_of_blk hb]; rfl
  have c7 : w.cell? ⟨r, 7, none⟩ = some (.int .i64 N.role) := by rw [cell_of_blk hb]; rfl
  have c8 : w.cell? ⟨r, 8, none⟩ = some (.int .i64 N.leader) := by rw [cell_of_blk hb]; rfl
  have c11 : w.cell? ⟨r, 11, none⟩ = some (.int .i64 N.wait) := by rw [cell_of_blk hb]; rfl
  have f7 : w.frozen? ⟨r, 7, none⟩ = false := frozen_of_blk hb 7
  have f8 : w.frozen? ⟨r, 8, none⟩ = false := frozen_of_blk hb 8
  have f11 : w.frozen? ⟨r, 11, none⟩ = false := frozen_of_blk hb 11
  have HA := Lib.hid hA
  have HF := Lib.hid hF
  have Hlt := Lib.hid hlt
  have Hb := Lib.hid hb
  have Hrm := Lib.hid hrm
  have Hperm := Lib.hid hperm
  have Hlay := Lib.hid hlay
  clear h hA hb hF hlt hrm hperm hlay
  go_enter Tryz.func81, Tryz.ntmps81
  go_wp2_with fail
  have xw : Ext (fun b => b = r) w (((w.setCell ⟨r, 7, none⟩ (.int .i64 2)).setCell ⟨r, 8, none⟩ (.int .i64 N.id)).setCell ⟨r, 11, none⟩ (.int .i64 3)) := (((Ext.refl (fun b => b = r) w).setCell (p := ⟨r, 7, none⟩) (.inl rfl) _).setCell (p := ⟨r, 8, none⟩) (.inl rfl) _).setCell (p := ⟨r, 11, none⟩) (.inl rfl) _
  have bw : (((w.setCell ⟨r, 7, none⟩ (.int .i64 2)).setCell ⟨r, 8, none⟩ (.int .i64 N.id)).setCell ⟨r, 11, none⟩ (.int .i64 3)).heap[r]? = some (.cells (nodeArr (N.knows 0) d L tv) 92 (0, 0)) := (blk_setCell (blk_setCell (blk_setCell Hb.out 7 (.int .i64 2)) 8 (.int .i64 N.id)) 11 (.int .i64 3)).trans rfl
  generalize (((w.setCell ⟨r, 7, none⟩ (.int .i64 2)).setCell ⟨r, 8, none⟩ (.int .i64 N.id)).setCell ⟨r, 11, none⟩ (.int .i64 3)) = ws at xw bw ⊢
  have Hbw := Lib.hid bw
  clear bw c0 c1 c7 c8 c11 f7 f8 f11
  go_loopw [21] (fun i wr => ∃ k : Nat, i = .int .i64 k ∧ k ≤ N.n ∧ Hid (wr.heap[r]? = some (.cells (nodeArr (N.knows k) d L tv) 92 (0, 0))) ∧ Ext (fun b => b = r) w wr) (fun i _ => N.n - (intOf i).toNat)
  case atStart => exact ⟨0, rfl, Nat.zero_le _, Hbw, xw⟩
  case round =>
    obtain ⟨k, rfl, hk, HB, hx⟩ := hrel
    have hN : NodeIs wr r d F (N.knows k) D ps := ⟨L, FD, FL, FR, tv, dl, HA.out.set hx HB.out rfl ⟨hi1, hi2⟩ hcm, HF.out, fun b hb => Nat.lt_of_lt_of_le (Hlt.out b hb) hx.size⟩
    by_cases hkn : k < N.n
    · have hlast := Lib.hid (fun (w' : World) (x : Ext NoB wr w') => rlast_any r d F (N.knows k) D ps w' (hN.no x))
      have hnl : (N.knows k).log.length = N.log.length := rfl
      rw [hnl] at hlast
      have hk5 : k < 5 := by omega
      have hk5i : (k : Int) < 5 := by omega
      clear hN hnl
      go_wp2_with fail
      refine wp_region_N (fun _ => True) 14 (by kernel_rfl) ?_
      have hSd : True := trivial
      have xD : Ext NoB wr wr.drew := (Ext.refl _ wr).drew
      have bD : wr.drew.heap[r]? = some (.cells (nodeArr (N.knows k) d L tv) 92 (0, 0)) := HB.out
      generalize wr.drew = wd at hSd xD bD ⊢
      refine wpAnyN_free 0 (v := ?_) (by kernel_rfl) rfl (fun _ _ _ h => h) hSd (by rfl) ?_ ?_; rotate_left; (focus (intro w; go_simp; try with_reducible rfl)); (try simp only [Act.put, List.setIfInBounds_toArray, List.set_cons_zero, List.set_cons_succ])
      refine wpAnyN_free 1 (v := ?_) (by kernel_rfl) rfl (fun _ _ _ h => h) hSd (by rfl) ?_ ?_; rotate_left; (focus (intro w; go_simp; try with_reducible rfl)); (try simp only [Act.put, List.setIfInBounds_toArray, List.set_cons_zero, List.set_cons_succ])
      refine wpAnyN_free 2 (v := ?_) (by kernel_rfl) rfl (fun _ _ _ h => h) hSd (by rfl) ?_ ?_; rotate_left; (focus (intro w; go_simp; try with_reducible rfl)); (try simp only [Act.put, List.setIfInBounds_toArray, List.set_cons_zero, List.set_cons_succ])
      refine wpAnyN_free 3 (v := ?_) (by kernel_rfl) rfl (fun _ _ _ h => h) hSd (by rfl) ?_ ?_; rotate_left; (focus (intro w; go_simp; try with_reducible rfl)); (try simp only [Act.put, List.setIfInBounds_toArray, List.set_cons_zero, List.set_cons_succ])
      refine wpAnyN_free 4 (v := ?_) (by kernel_rfl) rfl (fun _ _ _ h => h) hSd (by rfl) ?_ ?_; rotate_left; (focus (intro w; go_simp; try with_reducible rfl)); (try simp only [Act.put, List.setIfInBounds_toArray, List.set_cons_zero, List.set_cons_succ])
      refine wpAnyN_free 7 (v := ?_) (by kernel_rfl) rfl (fun _ _ _ h => h) hSd (by rfl) ?_ ?_; rotate_left; (focus (intro w; go_simp; try with_reducible rfl)); (try simp only [Act.put, List.setIfInBounds_toArray, List.set_cons_zero, List.set_cons_succ])
      refine wpAnyN_free 8 (v := ?_) (by kernel_rfl) rfl (fun _ _ _ h => h) hSd (by rfl) ?_ ?_; rotate_left; (focus (intro w; go_simp; try with_reducible rfl)); (try simp only [Act.put, List.setIfInBounds_toArray, List.set_cons_zero, List.set_cons_succ])
      refine wpAnyN_free 11 (v := ?_) (by kernel_rfl) rfl (fun _ _ _ h => h) hSd (by rfl) ?_ ?_; rotate_left; (focus (intro w; go_simp; try with_reducible rfl)); (try simp only [Act.put, List.setIfInBounds_toArray, List.set_cons_zero, List.set_cons_succ])
      refine wpAnyN_free 12 (v := ?_) (by kernel_rfl) rfl (fun _ _ _ h => h) hSd (by rfl) ?_ ?_; rotate_left; (focus (intro w; go_simp; try with_reducible rfl)); (try simp only [Act.put, List.setIfInBounds_toArray, List.set_cons_zero, List.set_cons_succ])
      refine wpAnyN_one 5 (by kernel_rfl) (by simp only [List.getElem?_toArray, List.getElem?_cons_succ, List.getElem?_cons_zero] <;> rfl) (by rfl) (fun K hK => ?_)
      go_simp
      refine (hlast.out wd xD).mono ?_; rintro e w2 ⟨rfl, rfl⟩
      go_wp2_with fail
      refine hK.out _ _ trivial (fun hSd => ?_)
      clear hK K
      (try simp only [Act.put, List.setIfInBounds_toArray, List.set_cons_zero, List.set_cons_succ])
      refine wpAnyN_free 6 (v := ?_) (by kernel_rfl) rfl (fun _ _ _ h => h) hSd (by rfl) ?_ ?_; rotate_left; (focus (intro w; go_simp; try with_reducible rfl)); (try simp only [Act.put, List.setIfInBounds_toArray, List.set_cons_zero, List.set_cons_succ])
      refine wpAnyN_free 9 (v := ?_) (by kernel_rfl) rfl (fun _ _ _ h => h) hSd (by rfl) ?_ ?_; rotate_left; (focus (intro w; go_simp; try with_reducible rfl)); (try simp only [Act.put, List.setIfInBounds_toArray, List.set_cons_zero, List.set_cons_succ])
      have hwl : IntKind.i64.wrap ((N.log.length : Int) + 1) = ((N.log.length + 1 : Nat) : Int) := by rw [IntWalk.i64_in _ (by omega)]; omega
      have d13 : wd.cell? ⟨r, 13 + k, none⟩ = some (.int .i64 ((N.knows k).next k)) := by
        rw [cell_of_blk bD]
        match k, hk5 with
        | 0, _ => rfl
        | 1, _ => rfl
        | 2, _ => rfl
        | 3, _ => rfl
        | 4, _ => rfl
      have f13 : wd.frozen? ⟨r, 13 + k, none⟩ = false := frozen_of_blk bD _
      refine wpAnyN_one 10 (by kernel_rfl) (by simp only [List.getElem?_toArray, List.getElem?_cons_succ, List.getElem?_cons_zero] <;> rfl) (by rfl) (fun K hK => ?_)
      go_simp
      have xs1 : Ext (fun b => b = r) wd (wd.setCell ⟨r, 13 + k, none⟩ (.int .i64 ((N.log.length : Int) + 1))) := (Ext.refl (fun b => b = r) wd).setCell (p := ⟨r, 13 + k, none⟩) (.inl rfl) _
      have b1 := blk_setCell bD (13 + k) (.int .i64 ((N.log.length : Int) + 1))
      have d18 : (wd.setCell ⟨r, 13 + k, none⟩ (.int .i64 ((N.log.length : Int) + 1))).cell? ⟨r, 18 + k, none⟩ = some (.int .i64 ((N.knows k).mt k)) := by
        rw [cell_of_blk b1]
        match k, hk5 with
        | 0, _ => rfl
        | 1, _ => rfl
        | 2, _ => rfl
        | 3, _ => rfl
        | 4, _ => rfl
      generalize (wd.setCell ⟨r, 13 + k, none⟩ (.int .i64 ((N.log.length : Int) + 1))) = we at xs1 b1 d18 ⊢
      refine hK.out _ _ trivial (fun hSd => ?_)
      clear hK K d13 f13
      (try simp only [Act.put, List.setIfInBounds_toArray, List.set_cons_zero, List.set_cons_succ])
      refine wpAnyN_free 13 (v := ?_) (by kernel_rfl) rfl (fun _ _ _ h => h) hSd (by rfl) ?_ ?_; rotate_left; (focus (intro w; go_simp; try with_reducible rfl)); (try simp only [Act.put, List.setIfInBounds_toArray, List.set_cons_zero, List.set_cons_succ])
      refine wpAnyN_tail (by rfl) (by decide) (by kernel_rfl) (by kernel_rfl) ?_
      simp only [List.drop_succ_cons, List.drop_zero]
      have f18 : we.frozen? ⟨r, 18 + k, none⟩ = false := frozen_of_blk b1 _
      have Hb1 := Lib.hid b1
      clear bD b1
      go_wp2_with fail
      have b2 := blk_setCell Hb1.out (18 + k) (.int .i64 0)
      rw [knows_set N d L tv k hk5] at b2
      have xs2 : Ext (fun b => b = r) we (we.setCell ⟨r, 18 + k, none⟩ (.int .i64 0)) := (Ext.refl (fun b => b = r) we).setCell (p := ⟨r, 18 + k, none⟩) (.inl rfl) _
      refine ⟨⟨k + 1, by go_num, by omega, Lib.hid b2, ((hx.trans (xD.of_no)).trans xs1).trans xs2⟩, by simp [intOf]; omega⟩
    · obtain rfl : k = N.n := by omega
      have c5 : wr.cell? ⟨r, 5, none⟩ = some (.int .i64 N.term) := by rw [cell_of_blk HB.out]; rfl
      go_wp2_with fail
      have xF : Ext F w wr := hx.mono (fun b _ h => HF.out b (.inr (.inr (h ▸ HA.out.self))))
      have hR : RaftIs wr r d F (N.knows N.n) room saved := ⟨⟨D, ps, hN, Hrm.out, Hperm.out⟩, H.out.fresh, H.out.vote, H.out.term⟩
      refine (Hlay.out r d F (N.knows N.n) saved _ wr hR rfl (Rd.nil _ _) (fun g hg => by cases hg)).mono ?_; rintro e w2 ⟨rfl, x2, r2⟩
      obtain ⟨N2, hN2⟩ : ∃ N2, ({ (N.knows N.n) with log := N.log ++ [(N.term, [])] } : PNode) = N2 := ⟨_, rfl⟩
      rw [hN2] at r2
      have Hr2 := Lib.hid r2
      have HN2 := Lib.hid hN2
      have Hx2 := Lib.hid x2
      have HxF := Lib.hid xF
      clear r2 hN2 x2 hN hR c5 xF
      go_wp2_with fail
      obtain ⟨D2, ps2, hn2, hrm2, hperm2⟩ := Hr2.out.is
      refine (commits_any r d _ N2 D2 ps2 w2 hn2).mono ?_; rintro e w3 ⟨rfl, x3, n3⟩
      have hwins : N.wins = N2.commits := by rw [← HN2.out]; rfl
      have hmf : ∀ (fn : Fn) (first cap : Array Value) (w : World), (Instr.makeFunc fn first cap).run Tryz.prog w = .ok (.func fn first cap) w := fun _ _ _ _ => rfl
      have Hn3 := Lib.hid n3
      have Hx3 := Lib.hid x3
      have Hwins := Lib.hid hwins
      have Hhp := Lib.hid (And.intro hrm2 hperm2)
      clear n3 x3 hwins hn2 hrm2 hperm2
      go_wp2_with fail
      have hid2 : N2.commits.id = N.id := by rw [← HN2.out]; rfl
      have hnn2 : N2.commits.n = N.n := by rw [← HN2.out]; rfl
      have hok2 : N2.commits.Ok := by
        have e : N2.commits.log = N.log ++ [(N.term, [])] := by rw [← HN2.out]; rfl
        intro x hx
        rw [e, List.mem_append, List.mem_singleton] at hx
        rcases hx with hx | hx
        · exact hok x hx
        · subst hx; exact ⟨hterm, Nat.zero_le _⟩
      have hnx2 : ∀ t, t < N.n → 1 ≤ N2.commits.next t ∧ N2.commits.next t ≤ 1099511627776 := by
        intro t ht
        have e : N2.commits.next t = if t < N.n then N.log.length + 1 else N.next t := by rw [← HN2.out]; rfl
        rw [e, if_pos ht]; omega
      have hoth := others_send r d _ N2.commits D2 ps2 w3 Hn3.out (sendMsg N2.commits) (fun t w1 ht _ x => sends_any r d _ N2.commits D2 ps2 t w1 (Hn3.out.no x) hok2 (by omega) (hnx2 t (by omega)))
      rw [hid2, hnn2] at hoth
      refine hoth.mono ?_; rintro e w4 ⟨v, rfl, hm4, hf4, x4⟩
      have Hm4 := Lib.hid hm4
      have Hf4 := Lib.hid hf4
      have Hx4 := Lib.hid x4
      clear hm4 hf4 x4 hoth hok2 hnx2 hid2 hnn2
      go_wp2_with fail
      go_ret
      have hn4 := Hn3.out.no Hx4.out
      have s0 := HxF.out.size
      have s2 := Hx2.out.size
      have s3 := Hx3.out.size
      have s4 := Hx4.out.size
      have x3F : Ext F w w3 := ((HxF.out).trans' Hx2.out (fun _ _ h => h) (fun b _ h => h)).next Hx3.out (fun b h hb => h.elim (fun h => h) (fun h => by omega))
      rw [Hwins.out]
      refine ⟨v, rfl, Hm4.out, fun g hg => by have := Hf4.out g hg; omega, x3F.nextNo Hx4.out, ?_⟩
      obtain ⟨L8, FD8, FL8, FR8, tv8, dl8, k1, k2, k3⟩ := hn4
      refine ⟨⟨D2, ps2, ⟨L8, FD8, FL8, FR8, tv8, dl8, k1, fun b hb => ?_, fun b hb => ?_⟩, Hhp.out.1, ?_⟩, ?_, ?_, ?_⟩
      · rcases k2 b hb with h | h
        · exact .inl h
        · exact .inr (by omega)
      · rcases hb with hb | hb
        · exact k3 b (.inl hb)
        · exact hb.2
      · exact Hhp.out.2
      · exact Hr2.out.fresh
      · exact Hr2.out.vote
      · exact Hr2.out.term
end Go.Proofs.YtgglbholbkdgfaaGreatDoor
