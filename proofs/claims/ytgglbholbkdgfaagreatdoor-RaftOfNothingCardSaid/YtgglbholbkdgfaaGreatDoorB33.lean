/- Package raft: others, of what is sent by sends. -/
import Derived.Test.YtgglbholbkdgfaaGreatDoorB32
namespace Go.Proofs.YtgglbholbkdgfaaGreatDoor
open Go.RowKit

set_option maxRecDepth 100000 in
set_option maxHeartbeats 4000000 in
theorem others_send (r d : Nat) (F : Nat → Prop) (N : PNode) (D : PDisk) (ps : List PSeg) (w : World) (h : NodeIs w r d F N D ps) (mk : Nat → PMsg)
    (hf : ∀ (t : Nat) (w1 : World), t < N.n → t ≠ N.id → Ext NoB w w1 → Calls Tryz.prog 43 #[.pointer (some ⟨r, 0, none⟩), .int .i64 t] w1 fun e w2 => ∃ m, e = .returned (.agg m.toArray) ∧ Ext NoB w1 w2 ∧ MsgIs w2 m (mk t)) :
    Calls Tryz.prog 42 #[.pointer (some ⟨r, 0, none⟩), .func (.func 43) #[.pointer (some ⟨r, 0, none⟩)] #[]] w (Many mk (tos N.n N.id) w) := by
  obtain ⟨L, FD, FL, FR, tv, dl, h, _⟩ := h
  have c0 : w.cell? ⟨r, 0, none⟩ = some (.int .i64 N.id) := by rw [cell_of_blk h.blk]; rfl
  have c1 : w.cell? ⟨r, 1, none⟩ = some (.int .i64 N.n) := by rw [cell_of_blk h.blk]; rfl
  have hn5 := h.idn.2
  obtain ⟨n, hn⟩ : ∃ n, N.n = n := ⟨_, rfl⟩
  obtain ⟨id, hid⟩ : ∃ id, N.id = id := ⟨_, rfl⟩
  rw [hn] at c1 hn5 hf ⊢
  rw [hid] at c0 hf ⊢
  have Hf := Lib.hid hf
  clear h hf hn hid
  go_enter Tryz.func42, Tryz.ntmps42
  go_wp2_with fail
  go_loopw [5, 11] (fun v i wr => ∃ (k : Nat), i = .int .i64 k ∧ k ≤ n ∧ Hid (MsgsAre wr v ((tos k id).map mk)) ∧ Fresh w v ∧ Ext NoB w wr) (fun _ i _ => n - (intOf i).toNat)
  case atStart => exact ⟨0, rfl, by omega, Lib.hid ⟨[], .nil, Own.nil _ _ _⟩, Fresh.nil _ _ _, Ext.refl _ _⟩
  case round =>
    obtain ⟨k, rfl, hkn, HM, hfr, hx⟩ := hrel
    obtain ⟨ms, hms, hown⟩ := HM.out
    have hlen5 := hms.len
    obtain ⟨va, vn, vc, rfl, hvl, _, _, _, _⟩ := hown.rd
    have c0r := hx.cell c0 (fun h => h)
    by_cases hlt : k < n
    · by_cases hki : k = id
      · subst hki
        go_wp2_with fail
        go_roundw
        case rel => exact ⟨k + 1, by go_num, by omega, by rw [tos_succ, if_pos rfl, List.append_nil]; exact HM, hfr, hx⟩
        case measure => simp [intOf]; omega
      · have hneq : ((k : Int) == (id : Int)) = false := beq_eq_false_iff_ne.2 (by omega)
        have HO := Lib.hid hown
        have HMs := Lib.hid hms
        have Hfr := Lib.hid hfr
        have Hx := Lib.hid hx
        have Hl5 := Lib.hid hlen5
        clear hown hms hfr hlen5 HM hvl
        go_wp2_with fail
        refine (Hf.out k _ hlt hki Hx.out).mono ?_; rintro e w2 ⟨m, rfl, x2, m2⟩
        obtain ⟨nv, dv, rfl, on, od⟩ := m2
        have hm2 : MsgIs w2 [.int .i64 (mk k).fr, .int .i64 (mk k).tt, .int .i64 (mk k).kd, nv, dv] (mk k) := ⟨nv, dv, rfl, on, od⟩
        have hone := hm2.one.2
        have HM2 := Lib.hid hm2
        have Hone := Lib.hid hone
        clear on od hm2 hone
        have xA : Ext NoB w2 (w2.alloc (.cells #[.int .i64 (mk k).fr, .int .i64 (mk k).tt, .int .i64 (mk k).kd, nv, dv] 37)) := (Ext.refl _ w2).alloc _
        have hsrc := Src.row (P := Tryz.prog) unMsgs w2.heap.size 5 [.int .i64 (mk k).fr, .int .i64 (mk k).tt, .int .i64 (mk k).kd, nv, dv] 37 (0, 0) (blk_new w2 (.cells #[.int .i64 (mk k).fr, .int .i64 (mk k).tt, .int .i64 (mk k).kd, nv, dv] 37)) rfl Hone.out
        have Hsrc := Lib.hid hsrc
        have HoA := Lib.hid ((HO.out.no x2).no xA)
        have hbd : (ms.flatten.length + [Value.int .i64 (mk k).fr, .int .i64 (mk k).tt, .int .i64 (mk k).kd, nv, dv].length) * 72 ≤ 140737488355328 := by
          have := Hl5.out
          have h5 := tos_len k id
          simp only [List.length_map] at this
          rw [this]
          simp only [List.length_cons, List.length_nil]
          omega
        have Hbd := Lib.hid hbd
        clear hsrc hbd
        go_wp2_with (at_builtin; refine wpList_app _ rfl (.tmp 20) (.tmp 24) 30 30 rfl 37 5 72 unMsgs elMsg HoA.out Hsrc.out rfl rfl Hbd.out (by decide) ?_; intro v' w' o' x' h'; refine halt2 (fun _K HK => ?_))
        have xm : Ext (fun g => (Value.slice va vn vc).ownBlock = some g) w2 w' := (xA.of_no).trans x'
        have hty : ∀ g, (Value.slice va vn vc).ownBlock = some g → g < w2.heap.size → ∃ cs fr, w2.heap[g]? = some (.cells cs 37 fr) := fun g hg _ => own_type (HO.out.no x2) g hg
        have hrows : MsgRows w' (ms ++ [[.int .i64 (mk k).fr, .int .i64 (mk k).tt, .int .i64 (mk k).kd, nv, dv]]) ((tos (k + 1) id).map mk) := by
          rw [tos_succ, if_neg hki, List.map_append]
          exact .snoc ((HMs.out.ext x2 (fun _ h _ => h.elim)).ext xm hty) (HM2.out.ext xm hty)
        have hnew : MsgsAre w' v' ((tos (k + 1) id).map mk) := ⟨_, hrows, by rw [List.flatten_append, List.flatten_cons, List.flatten_nil, List.append_nil]; exact o'⟩
        have hx' : Ext NoB w w' := Hfr.out.ext (Hx.out.trans x2) xm
        have hf' : Fresh w v' := Hfr.out.app (Nat.le_trans (Hx.out.trans x2).size xA.size) h'
        obtain ⟨a', n', c', rfl, _⟩ := o'.rd
        have Hnew := Lib.hid hnew
        have Hx' := Lib.hid hx'
        have Hf' := Lib.hid hf'
        clear hnew hrows hx' hf' o' x' h' xm hty
        refine HK.out ?_; clear HK _K
        go_wp2_with fail
        go_roundw
        case rel => exact ⟨k + 1, by go_num, by omega, Hnew, Hf'.out, Hx'.out⟩
        case measure => simp [intOf]; omega
    · obtain rfl : k = n := by omega
      go_wp2_with fail
      go_ret
      exact ⟨_, rfl, ⟨ms, hms, hown⟩, hfr, hx⟩
end Go.Proofs.YtgglbholbkdgfaaGreatDoor
