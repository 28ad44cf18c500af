/- Package raft: sends. -/
import Derived.Test.YtgglbholbkdgfaaGreatDoorB39
namespace Go.Proofs.YtgglbholbkdgfaaGreatDoor
open Go.RowKit

/-- Entries as a message bears them. -/
def entsB (l : List (Nat × List UInt8)) : List UInt8 := (l.map (fun e => uv e.1 ++ (uv e.2.length ++ e.2))).flatten
theorem entsB_snoc (l : List (Nat × List UInt8)) (e : Nat × List UInt8) : entsB (l ++ [e]) = ((entsB l ++ uv e.1) ++ uv e.2.length) ++ e.2 := by
  simp [entsB, List.append_assoc]
theorem entsB_len (l : List (Nat × List UInt8)) (h : ∀ e ∈ l, e.1 ≤ 1099511627776 ∧ e.2.length ≤ 1000000) : (entsB l).length ≤ l.length * 1000020 := by
  induction l with
  | nil => simp [entsB]
  | cons e l ih =>
    have := ih (fun x hx => h x (List.mem_cons_of_mem _ hx))
    have h1 := (h e (List.mem_cons_self)).2
    have h2 := uv_length e.1
    have h3 := uv_length e.2.length
    unfold entsB at this ⊢
    simp only [List.map_cons, List.flatten_cons, List.length_append, List.length_cons]
    omega
/-- The log's entries are such as can be laid. -/
def PNode.Ok (N : PNode) : Prop := ∀ e ∈ N.log, e.1 ≤ 1099511627776 ∧ e.2.length ≤ 1000000
def PNode.ahead (N : PNode) (t : Nat) : Nat := N.next t - 1
/-- What a leader sends to another one. -/
def sendMsg (N : PNode) (t : Nat) : PMsg := ⟨N.id, t, 3, [N.term, N.ahead t, N.termOf (N.ahead t), N.committed], entsB ((N.log.drop (N.ahead t)).take 8)⟩

theorem take_drop_snoc {α : Type} (l : List α) (a k : Nat) (e : α) (h : l[a + k]? = some e) : (l.drop a).take (k + 1) = (l.drop a).take k ++ [e] := by
  have h1 : (l.drop a)[k]? = some e := by rw [List.getElem?_drop]; exact h
  obtain ⟨hk, he⟩ := List.getElem?_eq_some_iff.1 h1
  rw [List.take_succ_eq_append_getElem hk, he]

set_option maxRecDepth 100000 in
set_option maxHeartbeats 4000000 in
theorem sends_any (r d : Nat) (F : Nat → Prop) (N : PNode) (D : PDisk) (ps : List PSeg) (t : Nat) (w : World) (h : NodeIs w r d F N D ps) (hok : N.Ok) (ht : t < 5) (hnx : 1 ≤ N.next t ∧ N.next t ≤ 1099511627776) :
    Calls Tryz.prog 43 #[.pointer (some ⟨r, 0, none⟩), .int .i64 t] w fun e w' => ∃ m, e = .returned (.agg m.toArray) ∧ Ext NoB w w' ∧ MsgIs w' m (sendMsg N t) := by
  have hz := zeroMsg
  have hlast := Lib.hid (fun (w' : World) (x : Ext NoB w w') => rlast_any r d F N D ps w' (h.no x))
  have hterm := Lib.hid (fun (i : Nat) (hi : i < 4611686018427387904) (w' : World) (x : Ext NoB w w') => termOf_any r d F N D ps i w' (h.no x) hi)
  have hentry := Lib.hid (fun (i t : Nat) (x : List UInt8) (hi : 1 ≤ i) (he : N.log[i - 1]? = some (t, x)) (w' : World) (y : Ext NoB w w') => entry_any r d F N D ps i t x w' (h.no y) hi he (hok (t, x) (List.mem_of_getElem? he)).1 (hok (t, x) (List.mem_of_getElem? he)).2)
  have Hok := Lib.hid hok
  obtain ⟨L, FD, FL, FR, tv, dl, hA, hF, hlt⟩ := h
  have hl100 := hA.len
  have hb := hA.blk
  have hrl := lt_of_blk hb
  have c0 : w.cell? ⟨r, 0, none⟩ = some (.int .i64 N.id) := by rw [cell_of_blk hb]; rfl
  have c5 : w.cell? ⟨r, 5, none⟩ = some (.int .i64 N.term) := by rw [cell_of_blk hb]; rfl
  have c9 : w.cell? ⟨r, 9, none⟩ = some (.int .i64 N.committed) := by rw [cell_of_blk hb]; rfl
  have cn : w.cell? ⟨r, 13 + t, none⟩ = some (.int .i64 (N.next t)) := by
    rw [cell_of_blk hb]
    match t, ht with
    | 0, _ => rfl
    | 1, _ => rfl
    | 2, _ => rfl
    | 3, _ => rfl
    | 4, _ => rfl
  obtain ⟨ah, hah⟩ : ∃ ah, N.ahead t = ah := ⟨_, rfl⟩
  have hah2 : ah ≤ 1099511627776 := by rw [← hah]; unfold PNode.ahead; omega
  have hw1 : IntKind.i64.wrap ((N.next t : Int) - 1) = (ah : Int) := by rw [IntWalk.i64_in _ (by omega), ← hah]; unfold PNode.ahead; omega
  obtain ⟨nx, hnx'⟩ : ∃ nx, N.next t = nx := ⟨_, rfl⟩
  rw [hnx'] at cn hw1 hnx
  have Hah := Lib.hid hah
  clear hA hF hlt hb hok hah hnx'
  go_enter Tryz.func43, Tryz.ntmps43
  go_wp2_with fail
  obtain ⟨w1, R, e1, e2, x1, b1, hs1⟩ := alloc_facts w (.cells #[.int .i64 0, .int .i64 0, .int .i64 0, .slice none 0 0, .slice none 0 0] 37)
  rw [e1, e2]
  have Hb1 := Lib.hid b1
  clear b1
  refine (hterm.out ah (by omega) w1 x1).mono ?_; rintro e w2 ⟨rfl, rfl⟩
  go_wp2_with fail
  go_loopw [8, 9] (fun v i wr => ∃ k : Nat, i = .int .i64 ((ah + 1 + k : Nat) : Int) ∧ k ≤ 8 ∧ Hid (Own wr 5 1 v (bytesV (entsB ((N.log.drop ah).take k)))) ∧ Fresh w1 v ∧ Ext NoB w1 wr) (fun _ i _ => ah + 9 - (intOf i).toNat)
  case atStart => exact ⟨0, by go_num, by omega, Lib.hid (Own.nil _ _ _), Fresh.nil _ _ _, Ext.refl _ _⟩
  case round =>
    obtain ⟨k, rfl, hk, HO, hfr, hx⟩ := hrel
    have hown := HO.out
    obtain ⟨va, vc, rfl, hv1, hv2⟩ := RdB.shape (l := entsB ((N.log.drop ah).take k)) hown.rd
    have xr := x1.trans hx
    by_cases hgo : ah + 1 + k ≤ N.log.length ∧ k < 8
    · obtain ⟨hg1, hg2⟩ := hgo
      obtain ⟨⟨et, ed⟩, hent⟩ : ∃ e, N.log[ah + k]? = some e := ⟨_, List.getElem?_eq_getElem (by omega)⟩
      have Hsn := Lib.hid (take_drop_snoc N.log ah k (et, ed) hent)
      obtain ⟨het, hed⟩ := Hok.out (et, ed) (List.mem_of_getElem? hent)
      have Hent := Lib.hid (hentry.out (ah + 1 + k) et ed (by omega) (by rw [show ah + 1 + k - 1 = ah + k by omega]; exact hent) _ xr)
      have hlen : (entsB ((N.log.drop ah).take k)).length ≤ 8000160 := by
        have h1 := entsB_len ((N.log.drop ah).take k) (fun e he => Hok.out e (List.mem_of_mem_drop (List.mem_of_mem_take he)))
        have h2 : ((N.log.drop ah).take k).length ≤ k := List.length_take_le _ _
        omega
      have Hlen := Lib.hid hlen
      clear hlen
      obtain ⟨l0, hl0⟩ : ∃ l0, entsB ((N.log.drop ah).take k) = l0 := ⟨_, rfl⟩
      rw [hl0] at hown hv1 Hlen hfr ⊢
      have Hl0 := Lib.hid hl0
      have Hown := Lib.hid hown
      have Hfr := Lib.hid hfr
      have Hx := Lib.hid hx
      have Hxr := Lib.hid xr
      have hg3 : ((ah + 1 + k : Nat) : Int) ≤ (N.log.length : Int) := by omega
      have hg4 : ((ah + 1 + k : Nat) : Int) ≤ (ah : Int) + 8 := by omega
      have Hll := Lib.hid hlast
      clear hown hfr hx hl0 HO hent hv1
      go_wp2_with fail
      refine (hlast.out _ Hxr.out).mono ?_; rintro e w2 ⟨rfl, rfl⟩
      go_wp2_with fail
      refine Hent.out.mono ?_; rintro e w2 ⟨dv, rfl, od, fd, x2⟩
      obtain ⟨da, dc, rfl, hd1, hd2⟩ := RdB.shape (l := ed) od.rd
      have Hod := Lib.hid od
      have Hfd := Lib.hid fd
      have Hx2 := Lib.hid x2
      have HUt := Lib.hid (fun w' => Uvarint_any et (Lib.hid (by unfold U64; omega)) w')
      have HUd := Lib.hid (fun w' => Uvarint_any ed.length (Lib.hid (by unfold U64; omega)) w')
      have hu1 := uv_length et
      have hu2 := uv_length ed.length
      have hwE : IntKind.u64.wrap (et : Int) = (et : Int) := by rw [IntKind.wrap_u64]; omega
      have hwD : IntKind.u64.wrap (ed.length : Int) = (ed.length : Int) := by rw [IntKind.wrap_u64]; omega
      have Hsz := Lib.hid (And.intro hu1 hu2)
      clear od fd x2 hu1 hu2
      go_wp2_with fail
      obtain ⟨w3, E, q1, q2, x3, b3, hs3⟩ := alloc_facts w2 (.cells #[.int .i64 et, .slice da ed.length dc] 50)
      rw [q1, q2]
      have e30 : w3.cell? ⟨E, 0, none⟩ = some (.int .i64 et) := by rw [cell_of_blk b3]; rfl
      have e31 : w3.cell? ⟨E, 1, none⟩ = some (.slice da ed.length dc) := by rw [cell_of_blk b3]; rfl
      have Hq2 := Lib.hid q2
      have Hb3 := Lib.hid b3
      clear q1 q2 b3
      refine (HUt.out w3).mono ?_; rintro e w4 ⟨s4, rfl, o4, f4, x4⟩
      obtain ⟨a4, k4, rfl, hn4, hk4⟩ := RdB.shape (l := uv et) o4.rd
      have y24 := x3.trans x4
      have y4 := Hx2.out.trans y24
      have hb5 : ((bytesV l0).length + (bytesV (uv et)).length) * 1 ≤ 140737488355328 := by have h1 := Hsz.out; have h2 := Hlen.out; simp only [bytesV_length]; omega
      have Ho4 := Lib.hid o4
      have Hown4 := Lib.hid (Hown.out.no y4)
      have Hb5 := Lib.hid hb5
      have e41 := x4.cell e31 (fun h => h)
      clear o4 f4 hn4 hk4 hb5 e31 e30
      go_wp2_with (at_builtin; refine wpList_app _ rfl (.tmp 41) (.tmp 45) 35 35 rfl 5 1 1 unBytes elByte Hown4.out (Rd.src unBytes Ho4.out.rd (bytesV_one _) (by decide)) rfl rfl Hb5.out (by decide) ?_; intro v5 w5 o5 x5 h5; refine halt2 (fun _K HK => ?_))
      rw [← bytesV_append] at o5
      obtain ⟨l5, hl5⟩ : ∃ l5, l0 ++ uv et = l5 := ⟨_, rfl⟩
      rw [hl5] at o5
      have hl5n : l5.length ≤ 8000200 := by have h1 := Hsz.out; have h2 := Hlen.out; rw [← hl5, List.length_append]; omega
      obtain ⟨a5, k5, rfl, _, _⟩ := RdB.shape (l := l5) o5.rd
      have z1 := Hx2.out.size
      have z2 := x3.size
      have z3 := x4.size
      have hEq := Hq2.out
      have hvE : ∀ g, (Value.slice va l0.length vc).ownBlock = some g → g < wr.heap.size := fun g hg => Hown.out.lt g hg
      have e51 := x5.cell e41 (fun h => by have := hvE E h; omega)
      have od5 := ((Hod.out.no x3).no x4).ext x5 (fun g hg h => by have := hvE g h; have := Hfd.out g hg; omega)
      have hv5 : ∀ g, (Value.slice a5 l5.length k5).ownBlock = some g → g < wr.heap.size ∨ w4.heap.size ≤ g := fun g hg => by
        rcases h5 with h | ⟨g', h, h'⟩
        · exact .inl (hvE g (h ▸ hg))
        · replace h : (Value.slice a5 l5.length k5).ownBlock = some g' := h
          rw [h] at hg; cases hg; exact .inr h'
      have y15 : Ext NoB w1 w5 := Hfr.out.ext (Hx.out.trans y4) x5
      have f5 : Fresh w1 (.slice a5 l5.length k5) := Hfr.out.app (Hx.out.trans y4).size h5
      have Ho5 := Lib.hid o5
      have Hl5 := Lib.hid hl5
      have Hod5 := Lib.hid od5
      have Hv5 := Lib.hid hv5
      have Hy15 := Lib.hid y15
      have Hf5 := Lib.hid f5
      have Hz := Lib.hid (And.intro z1 (And.intro z2 (And.intro z3 hEq)))
      have Hx5 := Lib.hid x5
      have Hl5n := Lib.hid hl5n
      have Hx3 := Lib.hid x3
      have Hx4 := Lib.hid x4
      clear o5 x5 h5 hl5 od5 hv5 y15 f5 z1 z2 z3 hEq hvE e41 hl5n y24 y4 x3 x4 hs3
      refine HK.out ?_; clear HK _K
      go_wp2_with fail
      refine (HUd.out w5).mono ?_; rintro e w6 ⟨s6, rfl, o6, f6, x6⟩
      obtain ⟨a6, k6, rfl, hn6, hk6⟩ := RdB.shape (l := uv ed.length) o6.rd
      have hb7 : ((bytesV l5).length + (bytesV (uv ed.length)).length) * 1 ≤ 140737488355328 := by have h1 := Hsz.out; have h2 := Hl5n.out; simp only [bytesV_length]; omega
      have Ho6 := Lib.hid o6
      have Hown6 := Lib.hid (Ho5.out.no x6)
      have Hb7 := Lib.hid hb7
      have e61 := x6.cell e51 (fun h => h)
      clear o6 f6 hn6 hk6 hb7 e51
      go_wp2_with (at_builtin; refine wpList_app _ rfl (.tmp 47) (.tmp 52) 35 35 rfl 5 1 1 unBytes elByte Hown6.out (Rd.src unBytes Ho6.out.rd (bytesV_one _) (by decide)) rfl rfl Hb7.out (by decide) ?_; intro v7 w7 o7 x7 h7; refine halt2 (fun _K HK => ?_))
      rw [← bytesV_append] at o7
      obtain ⟨l7, hl7⟩ : ∃ l7, l5 ++ uv ed.length = l7 := ⟨_, rfl⟩
      rw [hl7] at o7
      have hl7n : l7.length ≤ 8000300 := by have h1 := Hsz.out; have h2 := Hl5n.out; rw [← hl7, List.length_append]; omega
      obtain ⟨a7, k7, rfl, _, _⟩ := RdB.shape (l := l7) o7.rd
      obtain ⟨z1, z2, z3, hEq⟩ := Hz.out
      have z5 := Hx5.out.size
      have z6 := x6.size
      have hdl := Hod.out.lt
      have hEl := lt_of_blk Hb3.out
      have e71 := x7.cell e61 (fun h => by have := Hv5.out E h; omega)
      have od7 := (Hod5.out.no x6).ext x7 (fun g hg h => by have := Hv5.out g h; have := Hfd.out g hg; have := hdl g hg; omega)
      have hv7 : ∀ g, (Value.slice a7 l7.length k7).ownBlock = some g → g < wr.heap.size ∨ w4.heap.size ≤ g := fun g hg => by
        rcases h7 with h | ⟨g', h, h'⟩
        · exact Hv5.out g (h ▸ hg)
        · replace h : (Value.slice a7 l7.length k7).ownBlock = some g' := h
          rw [h] at hg; cases hg; exact .inr (by omega)
      have y17 : Ext NoB w1 w7 := Hf5.out.ext (Hy15.out.trans x6) x7
      have f7 : Fresh w1 (.slice a7 l7.length k7) := Hf5.out.app (Hy15.out.trans x6).size h7
      have hb8 : ((bytesV l7).length + (bytesV ed).length) * 1 ≤ 140737488355328 := by simp only [bytesV_length]; omega
      have Ho7 := Lib.hid o7
      have Hl7 := Lib.hid hl7
      have Hod7 := Lib.hid od7
      have Hy17 := Lib.hid y17
      have Hf7 := Lib.hid f7
      have Hb8 := Lib.hid hb8
      clear o7 x7 h7 hl7 od7 hv7 y17 f7 z1 z2 z3 z5 z6 hEq hdl hEl e61 hl7n hb8 x6
      refine HK.out ?_; clear HK _K
      go_wp2_with (at_builtin; refine wpList_app _ rfl (.tmp 54) (.tmp 56) 35 35 rfl 5 1 1 unBytes elByte Ho7.out (Rd.src unBytes Hod7.out.rd (bytesV_one _) (by decide)) rfl rfl Hb8.out (by decide) ?_; intro v8 w8 o8 x8 h8; refine halt2 (fun _K HK => ?_))
      rw [← bytesV_append] at o8
      have hnew : Own w8 5 1 v8 (bytesV (entsB ((N.log.drop ah).take (k + 1)))) := by
        rw [Hsn.out, entsB_snoc, Hl0.out]
        show Own w8 _ 1 v8 (bytesV (((l0 ++ uv et) ++ uv ed.length) ++ ed))
        rw [Hl5.out, Hl7.out]
        exact o8
      have y18 : Ext NoB w1 w8 := Hf7.out.ext Hy17.out x8
      have f8 : Fresh w1 v8 := Hf7.out.app Hy17.out.size h8
      obtain ⟨a8, n8, k8, rfl, _⟩ := o8.rd
      have Hnew := Lib.hid hnew
      have Hy18 := Lib.hid y18
      have Hf8 := Lib.hid f8
      clear hnew y18 f8 o8 x8 h8 e71
      refine HK.out ?_; clear HK _K
      go_wp2_with fail
      go_roundw
      case rel => exact ⟨k + 1, by go_num, by omega, Hnew, Hf8.out, Hy18.out⟩
      case measure => simp [intOf]; omega
    · have hdone : (N.log.drop ah).take k = (N.log.drop ah).take 8 := by
        by_cases hk8 : k = 8
        · rw [hk8]
        · rw [List.take_of_length_le (by simp; omega), List.take_of_length_le (by simp; omega)]
      have Hsnd : Hid ((sendMsg N t).data = entsB ((N.log.drop ah).take k)) := Lib.hid (by show entsB ((N.log.drop (N.ahead t)).take 8) = _; rw [Hah.out, hdone])
      obtain ⟨l0, hl0⟩ : ∃ l0, entsB ((N.log.drop ah).take k) = l0 := ⟨_, rfl⟩
      rw [hl0] at hown hv1 Hsnd ⊢
      obtain ⟨tma, htma⟩ : ∃ tma, N.termOf ah = tma := ⟨_, rfl⟩
      have Htma := Lib.hid htma
      have Hown := Lib.hid hown
      have Hxr := Lib.hid xr
      have Hx := Lib.hid hx
      have d0 := xr.cell c0 (fun h => h)
      have d5 := xr.cell c5 (fun h => h)
      have d9 := xr.cell c9 (fun h => h)
      rw [htma]
      clear hown hfr hl0 HO hdone hv1 hx htma
      go_wp2_with fail
      refine (hlast.out _ Hxr.out).mono ?_; rintro e w2 ⟨rfl, rfl⟩
      go_wp2_with fail
      all_goals
        refine wp_region_N (fun w' => w'.cell? ⟨r, 5, none⟩ = some (.int .i64 N.term) ∧ w'.cell? ⟨r, 9, none⟩ = some (.int .i64 N.committed)) 15 (by kernel_rfl) ?_
        have hSd : wr.drew.cell? ⟨r, 5, none⟩ = some (.int .i64 N.term) ∧ wr.drew.cell? ⟨r, 9, none⟩ = some (.int .i64 N.committed) := ⟨d5, d9⟩
        have xD : Ext NoB wr wr.drew := (Ext.refl _ wr).drew
        generalize wr.drew = wd at hSd xD ⊢
        refine wpAnyN_free 0 (v := ?_) (by kernel_rfl) rfl (fun _ _ _ h => h) hSd (by rfl) ?_ ?_; rotate_left; (focus (intro w; go_simp; try with_reducible rfl)); (try simp only [Act.put, List.setIfInBounds_toArray, List.set_cons_zero, List.set_cons_succ])
        refine wpAnyN_free 1 (v := ?_) (by kernel_rfl) rfl (fun _ _ _ h => h) hSd (by rfl) ?_ ?_; rotate_left; (focus (intro w; go_simp; try with_reducible rfl)); (try simp only [Act.put, List.setIfInBounds_toArray, List.set_cons_zero, List.set_cons_succ])
        refine wpAnyN_free 2 (v := ?_) (by kernel_rfl) rfl (fun _ _ _ h => h) hSd (by rfl) ?_ ?_; rotate_left; (focus (intro w; go_simp; try with_reducible rfl)); (try simp only [Act.put, List.setIfInBounds_toArray, List.set_cons_zero, List.set_cons_succ])
        refine wpAnyN_free 3 (v := ?_) (by kernel_rfl) rfl (fun _ _ _ h => h) hSd (by rfl) ?_ ?_; rotate_left; (focus (intro w; go_simp; try with_reducible rfl)); (try simp only [Act.put, List.setIfInBounds_toArray, List.set_cons_zero, List.set_cons_succ])
        refine wpAnyN_free 4 (v := ?_) (by kernel_rfl) rfl (fun _ _ _ h => h) hSd (by rfl) ?_ ?_; rotate_left; (focus (intro w; go_simp; try with_reducible rfl)); (try simp only [Act.put, List.setIfInBounds_toArray, List.set_cons_zero, List.set_cons_succ])
        refine wpAnyN_free 5 (v := ?_) (by kernel_rfl) rfl (fun _ _ _ h => h) hSd (by rfl) ?_ ?_; rotate_left; (focus (intro w; go_simp; try with_reducible rfl)); (try simp only [Act.put, List.setIfInBounds_toArray, List.set_cons_zero, List.set_cons_succ])
        refine wpAnyN_take 6 (v := ?_) (by kernel_rfl) rfl (fun _ _ _ h => h) hSd (by rfl) ?_ ?_; rotate_left; (focus (intro w hSw; (try dsimp only at hSw); go_simp; try with_reducible rfl)); (try simp only [Act.put, List.setIfInBounds_toArray, List.set_cons_zero, List.set_cons_succ])
        refine wpAnyN_free 7 (v := ?_) (by kernel_rfl) rfl (fun _ _ _ h => h) hSd (by rfl) ?_ ?_; rotate_left; (focus (intro w; go_simp; try with_reducible rfl)); (try simp only [Act.put, List.setIfInBounds_toArray, List.set_cons_zero, List.set_cons_succ])
        refine wpAnyN_free 8 (v := ?_) (by kernel_rfl) rfl (fun _ _ _ h => h) hSd (by rfl) ?_ ?_; rotate_left; (focus (intro w; go_simp; try with_reducible rfl)); (try simp only [Act.put, List.setIfInBounds_toArray, List.set_cons_zero, List.set_cons_succ])
        refine wpAnyN_free 9 (v := ?_) (by kernel_rfl) rfl (fun _ _ _ h => h) hSd (by rfl) ?_ ?_; rotate_left; (focus (intro w; go_simp; try with_reducible rfl)); (try simp only [Act.put, List.setIfInBounds_toArray, List.set_cons_zero, List.set_cons_succ])
        refine wpAnyN_free 10 (v := ?_) (by kernel_rfl) rfl (fun _ _ _ h => h) hSd (by rfl) ?_ ?_; rotate_left; (focus (intro w; go_simp; try with_reducible rfl)); (try simp only [Act.put, List.setIfInBounds_toArray, List.set_cons_zero, List.set_cons_succ])
        refine wpAnyN_free 11 (v := ?_) (by kernel_rfl) rfl (fun _ _ _ h => h) hSd (by rfl) ?_ ?_; rotate_left; (focus (intro w; go_simp; try with_reducible rfl)); (try simp only [Act.put, List.setIfInBounds_toArray, List.set_cons_zero, List.set_cons_succ])
        refine wpAnyN_take 12 (v := ?_) (by kernel_rfl) rfl (fun _ _ _ h => h) hSd (by rfl) ?_ ?_; rotate_left; (focus (intro w hSw; (try dsimp only at hSw); go_simp; try with_reducible rfl)); (try simp only [Act.put, List.setIfInBounds_toArray, List.set_cons_zero, List.set_cons_succ])
        refine wpAnyN_one 13 (by kernel_rfl) (by simp only [List.getElem?_toArray, List.getElem?_cons_succ, List.getElem?_cons_zero] <;> rfl) (by rfl) (fun K hK => ?_)
        go_simp
        obtain ⟨w3, B, e3, e4, x3, b3, hs3⟩ := alloc_facts wd (.cells #[.int .i64 N.term, .int .i64 ah, .int .i64 tma, .int .i64 N.committed] 3)
        rw [e3, e4]
        have hSd3 := And.intro (x3.cell hSd.1 (fun h => h)) (x3.cell hSd.2 (fun h => h))
        refine hK.out _ _ hSd3 (fun hSd => ?_)
        clear hK K hSd
        have hSd := hSd3
        (try simp only [Act.put, List.setIfInBounds_toArray, List.set_cons_zero, List.set_cons_succ])
        refine wpAnyN_one 14 (by kernel_rfl) (by simp only [List.getElem?_toArray, List.getElem?_cons_succ, List.getElem?_cons_zero] <;> rfl) (by rfl) (fun K hK => ?_)
        go_simp
        have y3 : Ext NoB w w3 := (Hxr.out.trans xD).trans x3
        refine (msg_any r N.id t 3 va (some ⟨B, 0, none⟩) l0.length vc 4 4 w3 (y3.cell c0 (fun h => h))).mono ?_; rintro e w4 ⟨rfl, x4⟩
        have hSd4 := And.intro (x4.cell hSd.1 (fun h => h)) (x4.cell hSd.2 (fun h => h))
        unfold msgV
        go_wp2_with fail
        refine hK.out _ _ hSd4 (fun hSd => ?_)
        clear hK K hSd hSd4 hSd3
        (try simp only [Act.put, List.setIfInBounds_toArray, List.set_cons_zero, List.set_cons_succ])
        refine wpAnyN_tail (by rfl) (by decide) (by kernel_rfl) (by kernel_rfl) ?_
        simp only [List.drop_succ_cons, List.drop_zero]
        have hxo := (Hx.out.trans xD).trans (x3.trans x4)
        have bR : w4.heap[R]? = some (.cells #[.int .i64 0, .int .i64 0, .int .i64 0, .slice none 0 0, .slice none 0 0] 37 (0, 0)) := hxo.blk Hb1.out (fun h => h)
        have r0 : w4.cell? ⟨R, 0, none⟩ = some (.int .i64 0) := by rw [cell_of_blk bR]; rfl
        have r1 : w4.cell? ⟨R, 1, none⟩ = some (.int .i64 0) := by rw [cell_of_blk bR]; rfl
        have r2 : w4.cell? ⟨R, 2, none⟩ = some (.int .i64 0) := by rw [cell_of_blk bR]; rfl
        have r3 : w4.cell? ⟨R, 3, none⟩ = some (.slice none 0 0) := by rw [cell_of_blk bR]; rfl
        have r4 : w4.cell? ⟨R, 4, none⟩ = some (.slice none 0 0) := by rw [cell_of_blk bR]; rfl
        have q0 : ∀ o, w4.frozen? ⟨R, o, none⟩ = false := fun o => frozen_of_blk bR o
        have HbR := Lib.hid bR
        have y4 := Lib.hid (y3.trans x4)
        have o4 := Lib.hid (((Hown.out.no xD).no x3).no x4)
        have b4 := Lib.hid (x4.blk b3 (fun h => h))
        have hRB : R ≠ B := by have := (Hx.out.trans xD).size; omega
        clear bR hxo y3 b3
        go_wp2_with fail
        have bR := HbR.out
        have kR := blk_setCell (blk_setCell (blk_setCell (blk_setCell (blk_setCell bR 0 (.int .i64 N.id)) 1 (.int .i64 t)) 2 (.int .i64 3)) 3 (.slice (some ⟨B, 0, none⟩) 4 4)) 4 (.slice va l0.length vc)
        have xS : Ext (fun b => b = R) w4 (((((w4.setCell ⟨R, 0, none⟩ (.int .i64 N.id)).setCell ⟨R, 1, none⟩ (.int .i64 t)).setCell ⟨R, 2, none⟩ (.int .i64 3)).setCell ⟨R, 3, none⟩ (.slice (some ⟨B, 0, none⟩) 4 4)).setCell ⟨R, 4, none⟩ (.slice va l0.length vc)) := (((((Ext.refl (fun b => b = R) w4).setCell (p := ⟨R, 0, none⟩) (.inl rfl) _).setCell (p := ⟨R, 1, none⟩) (.inl rfl) _).setCell (p := ⟨R, 2, none⟩) (.inl rfl) _).setCell (p := ⟨R, 3, none⟩) (.inl rfl) _).setCell (p := ⟨R, 4, none⟩) (.inl rfl) _
        generalize (((((w4.setCell ⟨R, 0, none⟩ (.int .i64 N.id)).setCell ⟨R, 1, none⟩ (.int .i64 t)).setCell ⟨R, 2, none⟩ (.int .i64 3)).setCell ⟨R, 3, none⟩ (.slice (some ⟨B, 0, none⟩) 4 4)).setCell ⟨R, 4, none⟩ (.slice va l0.length vc)) = wF at kR xS ⊢
        have b3F := xS.blk b4.out (fun h => hRB h.symm)
        have oF := o4.out.ext xS (fun g hg h => o4.out.ne_blk bR (by decide) g hg h.symm)
        have xF : Ext NoB w wF := by
          refine y4.out.trans' xS (fun _ _ h => h) (fun b hb h => ?_)
          subst h
          omega
        refine bodyPost_ret (results_cell_row rfl _ _ R _ #[.int .i64 N.id, .int .i64 t, .int .i64 3, .slice (some ⟨B, 0, none⟩) 4 4, .slice va l0.length vc] _ _ rfl kR Tryz.underlying37 rfl (by kernel_rfl)) rfl ⟨[.int .i64 N.id, .int .i64 t, .int .i64 3, .slice (some ⟨B, 0, none⟩) 4 4, .slice va l0.length vc], rfl, xF, _, _, rfl, ?_, ?_⟩
        · refine .inr ⟨B, 4, 4, _, rfl, b3F, Nat.le_refl _, Nat.le_refl _, by unfold maxLen; omega, rfl, ?_⟩
          show _ = intsV [(N.term : Int), (N.ahead t : Int), (N.termOf (N.ahead t) : Int), (N.committed : Int)]
          rw [Hah.out, Htma.out]
          rfl
        · rw [Hsnd.out]; exact oF
end Go.Proofs.YtgglbholbkdgfaaGreatDoor
