/- Package raft: lay of the first entry. -/
import Derived.Test.YtgglbholbkdgfaaGreatDoorB33
namespace Go.Proofs.YtgglbholbkdgfaaGreatDoor
open Go.RowKit

theorem canon_room {w : World} {r L d : Nat} {FD FL FR : Nat → Prop} {tv : Value} {N : PNode} {D : PDisk} {ps : List PSeg} {dl saved : Bool} (hA : NodeAt w r L d FD FL FR tv N D ps dl) (hperm : D.files.Perm (canon (if saved then some (N.term, N.vote) else none) ps)) :
    usedL D.files ≤ 28 + N.bytes ∧ D.files.length < 256 := by
  have hused := hA.used
  have hcount := hA.count
  constructor
  · rw [used_perm hperm, ← hused]
    unfold canon
    cases saved with
    | true =>
      simp only [if_true, termFs, List.singleton_append]
      rw [used_cons]
      show (enc _).length + _ ≤ _
      rw [enc_length]
      have := termB_len N.term N.vote
      omega
    | false => simp only [Bool.false_eq_true, if_false, termFs, List.nil_append]; omega
  · rw [hperm.length_eq]
    unfold canon
    rw [List.length_append]
    have : (termFs (if saved then some (N.term, N.vote) else none)).length ≤ 1 := by cases saved <;> simp [termFs]
    have : (logFs ps).length = ps.length := by simp [logFs]
    omega
set_option maxRecDepth 100000 in
set_option maxHeartbeats 4000000 in
theorem lay_first (r d : Nat) (F : Nat → Prop) (N : PNode) (room : Nat) (saved : Bool) (t : Nat) (dv : Value) (x : List UInt8) (w : World) (h : RaftIs w r d F N room saved) (hlog : N.log = []) (hx : RdB w dv x) (hoff : Off F dv) (hxl : x.length ≤ 65536) (ht : t ≤ 1099511627776)
    (hroom : x.length + 200 ≤ room) :
    Calls Tryz.prog 55 #[.pointer (some ⟨r, 0, none⟩), .agg #[.int .i64 t, dv]] w fun e w' => e = .returned (.bool true) ∧ Ext F w w' ∧ RaftIs w' r d (Gr F w w') { N with log := [(t, x)] } room saved := by
  obtain ⟨D, ps, ⟨L, FD, FL, FR, tv, dl, hA, hF, hlt⟩, hrm, hperm⟩ := h.is
  obtain ⟨ax, cx, rfl, hxn, hxc⟩ := hx.shape
  have c3 : w.cell? ⟨r, 3, none⟩ = some (.pointer (some ⟨L, 0, none⟩)) := by rw [cell_of_blk hA.blk]; rfl
  have hw1 : IntKind.u64.wrap (t : Int) = (t : Int) := by rw [IntKind.wrap_u64]; omega
  have HA := Lib.hid hA
  have HF := Lib.hid hF
  have Hlt := Lib.hid hlt
  have HX := Lib.hid hx
  have Hoff := Lib.hid hoff
  have HU := Lib.hid (fun w' => Uvarint_any t (Lib.hid (by unfold U64; omega)) w')
  have HR := Lib.hid h
  have Hrm := Lib.hid hrm
  have Hperm := Lib.hid hperm
  have Hroom := Lib.hid hroom
  have Hxl := Lib.hid hxl
  have Hlog := Lib.hid hlog
  clear h hA hF hlt hx hoff hrm hperm hroom ht hxl hxn hxc hlog
  go_enter Tryz.func55, Tryz.ntmps55
  go_wp2_with fail
  obtain ⟨w1, E, e1, e2, x1, b1, hs1⟩ := alloc_facts w (.cells #[.int .i64 t, .slice ax x.length cx] 50)
  rw [e1, e2]
  have d0 := x1.cell c3 (fun h => h)
  have d1 : w1.cell? ⟨E, 0, none⟩ = some (.int .i64 t) := by rw [cell_of_blk b1]; rfl
  have d2 : w1.cell? ⟨E, 1, none⟩ = some (.slice ax x.length cx) := by rw [cell_of_blk b1]; rfl
  refine wp_region_N (fun w' => w'.cell? ⟨r, 3, none⟩ = some (.pointer (some ⟨L, 0, none⟩)) ∧ w'.cell? ⟨E, 0, none⟩ = some (.int .i64 t) ∧ w'.cell? ⟨E, 1, none⟩ = some (.slice ax x.length cx)) 17 (by kernel_rfl) ?_
  have hSd : w1.drew.cell? ⟨r, 3, none⟩ = some (.pointer (some ⟨L, 0, none⟩)) ∧ w1.drew.cell? ⟨E, 0, none⟩ = some (.int .i64 t) ∧ w1.drew.cell? ⟨E, 1, none⟩ = some (.slice ax x.length cx) := ⟨d0, d1, d2⟩
  have x1d : Ext NoB w w1.drew := x1.drew
  have b1d : w1.drew.heap[E]? = some (.cells #[.int .i64 t, .slice ax x.length cx] 50 (0, 0)) := b1
  have hEw : w.heap.size = E := e2
  generalize w1.drew = wd at hSd x1d b1d ⊢
  have hSw := hSd
  clear e1 e2 b1 d0 d1 d2
  refine wpAnyN_free 0 (v := ?_) (by kernel_rfl) rfl (fun _ _ _ h => h) hSd (by rfl) ?_ ?_; rotate_left; (focus (intro w; go_simp; try with_reducible rfl)); (try simp only [Act.put, List.setIfInBounds_toArray, List.set_cons_zero, List.set_cons_succ])
  refine wpAnyN_free 1 (v := ?_) (by kernel_rfl) rfl (fun _ _ _ h => h) hSd (by rfl) ?_ ?_; rotate_left; (focus (intro w; go_simp; try with_reducible rfl)); (try simp only [Act.put, List.setIfInBounds_toArray, List.set_cons_zero, List.set_cons_succ])
  refine wpAnyN_free 2 (v := ?_) (by kernel_rfl) rfl (fun _ _ _ h => h) hSd (by rfl) ?_ ?_; rotate_left; (focus (intro w; go_simp; try with_reducible rfl)); (try simp only [Act.put, List.setIfInBounds_toArray, List.set_cons_zero, List.set_cons_succ])
  refine wpAnyN_take 3 (v := ?_) (by kernel_rfl) rfl (fun _ _ _ h => h) hSd (by rfl) ?_ ?_; rotate_left; (focus (intro w hSw; (try dsimp only at hSw); go_simp; try with_reducible rfl)); (try simp only [Act.put, List.setIfInBounds_toArray, List.set_cons_zero, List.set_cons_succ])
  refine wpAnyN_free 4 (v := ?_) (by kernel_rfl) rfl (fun _ _ _ h => h) hSd (by rfl) ?_ ?_; rotate_left; (focus (intro w; go_simp; try with_reducible rfl)); (try simp only [Act.put, List.setIfInBounds_toArray, List.set_cons_zero, List.set_cons_succ])
  refine wpAnyN_take 5 (v := ?_) (by kernel_rfl) rfl (fun _ _ _ h => h) hSd (by rfl) ?_ ?_; rotate_left; (focus (intro w hSw; (try dsimp only at hSw); go_simp; try with_reducible rfl)); (try simp only [Act.put, List.setIfInBounds_toArray, List.set_cons_zero, List.set_cons_succ])
  refine wpAnyN_free 6 (v := ?_) (by kernel_rfl) rfl (fun _ _ _ h => h) hSd (by rfl) ?_ ?_; rotate_left; (focus (intro w; go_simp; try with_reducible rfl)); (try simp only [Act.put, List.setIfInBounds_toArray, List.set_cons_zero, List.set_cons_succ])
  refine wpAnyN_free 8 (v := ?_) (by kernel_rfl) rfl (fun _ _ _ h => h) hSd (by rfl) ?_ ?_; rotate_left; (focus (intro w; go_simp; try with_reducible rfl)); (try simp only [Act.put, List.setIfInBounds_toArray, List.set_cons_zero, List.set_cons_succ])
  refine wpAnyN_take 9 (v := ?_) (by kernel_rfl) rfl (fun _ _ _ h => h) hSd (by rfl) ?_ ?_; rotate_left; (focus (intro w hSw; (try dsimp only at hSw); go_simp; try with_reducible rfl)); (try simp only [Act.put, List.setIfInBounds_toArray, List.set_cons_zero, List.set_cons_succ])
  refine wpAnyN_one 7 (by kernel_rfl) (by simp only [List.getElem?_toArray, List.getElem?_cons_succ, List.getElem?_cons_zero] <;> rfl) (by rfl) (fun K hK => ?_)
  go_simp
  refine (HU.out wd).mono ?_; rintro e w2 ⟨s2, rfl, o2, f2, x2⟩
  obtain ⟨a2, k2, rfl, hn2, hk2⟩ := RdB.shape (l := uv t) o2.rd
  have hS2 := And.intro (x2.cell hSd.1 (fun h => h)) (And.intro (x2.cell hSd.2.1 (fun h => h)) (x2.cell hSd.2.2 (fun h => h)))
  go_wp2_with fail
  refine hK.out _ _ hS2 (fun hSd => ?_)
  clear hK K hSd
  have hSd := hS2
  (try simp only [Act.put, List.setIfInBounds_toArray, List.set_cons_zero, List.set_cons_succ])
  refine wpAnyN_one 10 (by kernel_rfl) (by simp only [List.getElem?_toArray, List.getElem?_cons_succ, List.getElem?_cons_zero] <;> rfl) (by rfl) (fun K hK => ?_)
  have hb3 : ((bytesV (uv t)).length + (bytesV x).length) * 1 ≤ 140737488355328 := by have := uv_length t; have := Hxl.out; simp only [bytesV_length]; omega
  refine wp_app _ (.tmp 15) (.tmp 17) 35 35 rfl 5 1 1 unBytes elByte _ o2 _ _ (Rd.src unBytes ((Rd.no HX.out x1d).no x2) (bytesV_one _) (by decide)) hb3 (by decide) ?_
  intro v3 w3 o3 x3 h3
  have y3 : Ext NoB wd w3 := f2.ext x2 x3
  have hS3 := And.intro (y3.cell hSw.1 (fun h => h)) (And.intro (y3.cell hSw.2.1 (fun h => h)) (y3.cell hSw.2.2 (fun h => h)))
  rw [← bytesV_append] at o3
  obtain ⟨el, hel⟩ : ∃ el, uv t ++ x = el := ⟨_, rfl⟩
  have hell : el.length ≤ 65546 := by rw [← hel, List.length_append]; have := uv_length t; have := Hxl.out; omega
  rw [hel] at o3
  obtain ⟨a3, k3, rfl, hn3, hk3⟩ := RdB.shape (l := el) o3.rd
  have hf3 : Fresh wd (.slice a3 el.length k3) := f2.app x2.size h3
  refine hK.out _ _ hS3 (fun hSd => ?_)
  clear hK K hSd
  have hSd := hS3
  (try simp only [Act.put, List.setIfInBounds_toArray, List.set_cons_zero, List.set_cons_succ])
  refine wpAnyN_one 11 (by kernel_rfl) (by simp only [List.getElem?_toArray, List.getElem?_cons_succ, List.getElem?_cons_zero] <;> rfl) (by rfl) (fun K hK => ?_)
  go_simp
  have hA := HA.out
  have z3 : Ext NoB w w3 := x1d.trans y3
  obtain ⟨sv, rs, l1, l2, l3⟩ := hA.store.log
  have hm1 : N.log.length + 1 = 1 := by rw [Hlog.out]; rfl
  rw [hm1] at l1
  have hrs : rs = [] := by
    have := l1.chain.count
    simp only [List.length_map] at this
    exact List.eq_nil_of_length_eq_zero (by omega)
  subst hrs
  have hps : ps = [] := by rw [← l2]; rfl
  obtain ⟨hu1, hu2⟩ := canon_room hA Hperm.out
  have hNb : N.bytes = 0 := by unfold PNode.bytes; rw [Hlog.out]; rfl
  have hlen1 : (uv 1).length ≤ 10 := uv_length 1
  have helen : (enc (uv 1 ++ el)).length ≤ el.length + 18 := by rw [enc_length, List.length_append]; omega
  have happ := LogAppend_first L d FD FL D logPre sv 1 (.slice a3 el.length k3) el w3 (l1.no z3) (hA.store.disk.no z3) hA.store.apart o3.rd
    (fun g hg hb => by have := hf3 g hg; have := hA.store.disk.lt g hb; have := x1d.size; omega) (fun g hg hb => by have := hf3 g hg; have := l1.lt g hb; have := x1d.size; omega)
    (by omega) (by omega) (by have h1 := Hroom.out; have h2 := Hrm.out; have h3 : el.length ≤ x.length + 10 := by (rw [← hel, List.length_append]; have := uv_length t; omega)
                              omega) hu2 (by show (segBytes 1 [el]).length ≤ _; simp only [segBytes, List.append_nil]; omega)
  have Happ := Lib.hid happ
  have Hel := Lib.hid hel
  have Hz3 := Lib.hid z3
  have Hps := Lib.hid hps
  clear happ hel hell hf3 o3 x3 h3 o2 f2 l1 l2 l3 hA hb3 hn2 hk2 hn3 hk3 hu1 hu2 hNb hlen1 helen
  refine Happ.out.mono ?_; rintro e w4 ⟨rfl, s4⟩
  obtain ⟨x4, FD', FL', sub1, sub2, st4⟩ := s4
  have hA := HA.out
  have hrx : ¬ (FD r ∨ FL r) := fun h => h.elim (fun h => hA.apD r hA.self h) (fun h => hA.apL r hA.self h)
  have hEx : ¬ (FD E ∨ FL E) := fun h => by have := Hlt.out E (HF.out E (h.elim .inl (fun h => .inr (.inl h)))); omega
  have hS4 := And.intro (x4.cell hSd.1 hrx) (And.intro (x4.cell hSd.2.1 hEx) (x4.cell hSd.2.2 hEx))
  have Hx4 := Lib.hid x4
  have Hsub1 := Lib.hid sub1
  have Hsub2 := Lib.hid sub2
  have Hst4 := Lib.hid st4
  have HrX := Lib.hid hrx
  have HeX := Lib.hid hEx
  clear x4 sub1 sub2 st4 hA hrx hEx Happ
  go_wp2_with fail
  refine hK.out _ _ hS4 (fun hSd => ?_)
  clear hK K hSd hS3 hS2 hSw
  have hSd := hS4
  (try simp only [Act.put, List.setIfInBounds_toArray, List.set_cons_zero, List.set_cons_succ])
  refine wpAnyN_free 12 (v := ?_) (by kernel_rfl) rfl (fun _ _ _ h => h) hSd (by rfl) ?_ ?_; rotate_left; (focus (intro w; go_simp; try with_reducible rfl)); (try simp only [Act.put, List.setIfInBounds_toArray, List.set_cons_zero, List.set_cons_succ])
  refine wpAnyN_free 13 (v := ?_) (by kernel_rfl) rfl (fun _ _ _ h => h) hSd (by rfl) ?_ ?_; rotate_left; (focus (intro w; go_simp; try with_reducible rfl)); (try simp only [Act.put, List.setIfInBounds_toArray, List.set_cons_zero, List.set_cons_succ])
  refine wpAnyN_free 14 (v := ?_) (by kernel_rfl) rfl (fun _ _ _ h => h) hSd (by rfl) ?_ ?_; rotate_left; (focus (intro w; go_simp; try with_reducible rfl)); (try simp only [Act.put, List.setIfInBounds_toArray, List.set_cons_zero, List.set_cons_succ])
  refine wpAnyN_free 15 (v := ?_) (by kernel_rfl) rfl (fun _ _ _ h => h) hSd (by rfl) ?_ ?_; rotate_left; (focus (intro w; go_simp; try with_reducible rfl)); (try simp only [Act.put, List.setIfInBounds_toArray, List.set_cons_zero, List.set_cons_succ])
  refine wpAnyN_free 16 (v := ?_) (by kernel_rfl) rfl (fun _ _ _ h => h) hSd (by rfl) ?_ ?_; rotate_left; (focus (intro w; go_simp; try with_reducible rfl)); (try simp only [Act.put, List.setIfInBounds_toArray, List.set_cons_zero, List.set_cons_succ])
  refine wpAnyN_tail (by rfl) (by decide) (by kernel_rfl) (by kernel_rfl) ?_
  simp only [List.drop_succ_cons, List.drop_zero, List.drop_nil]
  obtain ⟨e0, e1, e2⟩ := hSd
  obtain ⟨sv4, rs4, l4, hm4, hdl4⟩ := Hst4.out.log
  obtain ⟨ini, r4, hrs4, hd4⟩ := hdl4 rfl
  have hini : ini = [] ∧ r4.p = ⟨1, [el]⟩ := by
    rw [hrs4, List.map_append] at hm4
    cases ini with
    | nil => exact ⟨rfl, by simpa using hm4⟩
    | cons a l => simp at hm4
  obtain ⟨rfl, hr4p⟩ := hini
  simp only [List.nil_append] at hrs4
  subst hrs4
  have hsync := fun (w' : World) (y : Ext NoB w4 w') => LogSync_one L d FD' FL' _ logPre sv4 r4 2 w' (l4.no y) (Hst4.out.disk.no y) Hst4.out.apart hd4 _ (by rw [hr4p]; exact fsGet_put _ _ _)
  have Hsync := Lib.hid hsync
  have Hr4p := Lib.hid hr4p
  clear l4 hm4 hdl4 hd4 hsync hr4p hS4
  go_wp2_with fail
  refine (Hsync.out w4 (Ext.refl _ _)).mono ?_; rintro e w5 ⟨rfl, s5⟩
  obtain ⟨x5, FD2, FL2, sub3, sub4, st5⟩ := s5
  have hA := HA.out
  have hsz3 := Hz3.out.size
  have hE3 : E < w3.heap.size := Nat.lt_of_lt_of_le (lt_of_blk b1d) y3.size
  have x05 : Ext (fun b => FD b ∨ FL b) w w5 := ((Hz3.out.of_no).trans Hx4.out).next x5 (fun b h hb => by
    rcases h with h | h
    · rcases Hsub1.out b h with h | h
      · exact .inl h
      · omega
    · rcases Hsub2.out b h with h | h
      · exact .inr h
      · omega)
  have b5 := x05.blk hA.blk HrX.out
  have o5 := hA.terms.ext x05 (fun g hg h => h.elim (fun h => hA.apD g (hA.termsF g hg) h) (fun h => hA.apL g (hA.termsF g hg) h))
  have hterms : natsV N.terms = [] := by unfold PNode.terms; rw [Hlog.out]; rfl
  rw [hterms] at o5
  obtain ⟨ta, tc, htv, _, htc⟩ := Rd.shape o5.rd
  have hE5 : ¬ (FD' E ∨ FL' E) := by
    rintro (h | h)
    · rcases Hsub1.out E h with h | h
      · exact HeX.out (.inl h)
      · omega
    · rcases Hsub2.out E h with h | h
      · exact HeX.out (.inr h)
      · omega
  have e1' := x5.cell e1 hE5
  have hbE5 := x5.blk (Hx4.out.blk (y3.blk b1d (fun h => h)) HeX.out) hE5
  have c4 : w5.cell? ⟨r, 4, none⟩ = some (.slice ta 0 tc) := by rw [cell_of_blk b5, ← List.length_nil (α := Value), ← htv]; rfl
  have f4 : w5.frozen? ⟨r, 4, none⟩ = false := frozen_of_blk b5 4
  have o5' : Own w5 3 1 (.slice ta 0 tc) [] := by have := o5; rw [htv] at this; exact this
  have Ho5 := Lib.hid o5'
  have Hb5 := Lib.hid b5
  have Hx05 := Lib.hid x05
  have Hsub3 := Lib.hid sub3
  have Hsub4 := Lib.hid sub4
  have Hst5 := Lib.hid st5
  have Hx5 := Lib.hid x5
  have Htv := Lib.hid htv
  clear x5 sub3 sub4 st5 b5 o5 o5' x05 hE5 hA e0 e2 htv hterms e1
  go_wp2_with fail
  refine wp_region_N (fun w' => w'.cell? ⟨r, 4, none⟩ = some (.slice ta 0 tc) ∧ w'.cell? ⟨E, 0, none⟩ = some (.int .i64 t)) 9 (by kernel_rfl) ?_
  have hSd : w5.drew.cell? ⟨r, 4, none⟩ = some (.slice ta 0 tc) ∧ w5.drew.cell? ⟨E, 0, none⟩ = some (.int .i64 t) := ⟨c4, e1'⟩
  have xD : Ext NoB w5 w5.drew := (Ext.refl _ w5).drew
  have bE5 : w5.drew.heap[E]? = some (.cells #[.int .i64 t, .slice ax x.length cx] 50 (0, 0)) := hbE5
  generalize w5.drew = wD at hSd xD bE5 ⊢
  refine wpAnyN_free 0 (v := ?_) (by kernel_rfl) rfl (fun _ _ _ h => h) hSd (by rfl) ?_ ?_; rotate_left; (focus (intro w; go_simp; try with_reducible rfl)); (try simp only [Act.put, List.setIfInBounds_toArray, List.set_cons_zero, List.set_cons_succ])
  refine wpAnyN_free 1 (v := ?_) (by kernel_rfl) rfl (fun _ _ _ h => h) hSd (by rfl) ?_ ?_; rotate_left; (focus (intro w; go_simp; try with_reducible rfl)); (try simp only [Act.put, List.setIfInBounds_toArray, List.set_cons_zero, List.set_cons_succ])
  refine wpAnyN_free 2 (v := ?_) (by kernel_rfl) rfl (fun _ _ _ h => h) hSd (by rfl) ?_ ?_; rotate_left; (focus (intro w; go_simp; try with_reducible rfl)); (try simp only [Act.put, List.setIfInBounds_toArray, List.set_cons_zero, List.set_cons_succ])
  refine wpAnyN_free 3 (v := ?_) (by kernel_rfl) rfl (fun _ _ _ h => h) hSd (by rfl) ?_ ?_; rotate_left; (focus (intro w; go_simp; try with_reducible rfl)); (try simp only [Act.put, List.setIfInBounds_toArray, List.set_cons_zero, List.set_cons_succ])
  refine wpAnyN_take 4 (v := ?_) (by kernel_rfl) rfl (fun _ _ _ h => h) hSd (by rfl) ?_ ?_; rotate_left; (focus (intro w hSw; (try dsimp only at hSw); go_simp; try with_reducible rfl)); (try simp only [Act.put, List.setIfInBounds_toArray, List.set_cons_zero, List.set_cons_succ])
  refine wpAnyN_free 5 (v := ?_) (by kernel_rfl) rfl (fun _ _ _ h => h) hSd (by rfl) ?_ ?_; rotate_left; (focus (intro w; go_simp; try with_reducible rfl)); (try simp only [Act.put, List.setIfInBounds_toArray, List.set_cons_zero, List.set_cons_succ])
  refine wpAnyN_take 6 (v := ?_) (by kernel_rfl) rfl (fun _ _ _ h => h) hSd (by rfl) ?_ ?_; rotate_left; (focus (intro w hSw; (try dsimp only at hSw); go_simp; try with_reducible rfl)); (try simp only [Act.put, List.setIfInBounds_toArray, List.set_cons_zero, List.set_cons_succ])
  refine wpAnyN_one 7 (by kernel_rfl) (by simp only [List.getElem?_toArray, List.getElem?_cons_succ, List.getElem?_cons_zero] <;> rfl) (by rfl) (fun K hK => ?_)
  go_simp
  obtain ⟨w6, B6, q1, q2, x6, b6, hs6⟩ := alloc_facts wD (.cells #[.int .i64 t] 3)
  rw [q1, q2]
  have hS6 := And.intro (x6.cell hSd.1 (fun h => h)) (x6.cell hSd.2 (fun h => h))
  refine hK.out _ _ hS6 (fun hSd => ?_)
  clear hK K hSd q1
  have hSd := hS6
  (try simp only [Act.put, List.setIfInBounds_toArray, List.set_cons_zero, List.set_cons_succ])
  refine wpAnyN_one 8 (by kernel_rfl) (by simp only [List.getElem?_toArray, List.getElem?_cons_succ, List.getElem?_cons_zero] <;> rfl) (by rfl) (fun K hK => ?_)
  have y6 := xD.trans x6
  have o6 := Ho5.out.no y6
  refine wp_app _ (.tmp 36) (.tmp 39) 34 34 rfl 3 1 8 unInts' elInt _ o6 1 _ (Src.one unInts' B6 _ _ _ b6 rfl) (by simp) (by decide) ?_
  intro v7 w7 o7 x7 h7
  obtain ⟨a7, c7, rfl, _, hc7⟩ := Rd.shape o7.rd
  have b6r := y6.blk Hb5.out (fun h => h)
  have hvr : ¬ ((Value.slice ta 0 tc).ownBlock = some r) := fun hg => o6.ne_blk b6r (by decide) r hg rfl
  have hvE : ¬ ((Value.slice ta 0 tc).ownBlock = some E) := fun hg => o6.ne_blk (x6.blk bE5 (fun h => h)) (by decide) E hg rfl
  have hS7 := And.intro (x7.cell hSd.1 hvr) (x7.cell hSd.2 hvE)
  refine hK.out _ _ hS7 (fun hSd => ?_)
  clear hK K hSd
  (try simp only [Act.put, List.setIfInBounds_toArray, List.set_cons_zero, List.set_cons_succ])
  refine wpAnyN_tail (by rfl) (by decide) (by kernel_rfl) (by kernel_rfl) ?_
  simp only [List.drop_succ_cons, List.drop_zero]
  have b7r := x7.blk b6r hvr
  have f7 : w7.frozen? ⟨r, 4, none⟩ = false := frozen_of_blk b7r 4
  have d7 := hS7.1
  go_wp2_with fail
  go_ret
  have hA := HA.out
  have kr := blk_setCell b7r 4 (.slice a7 1 c7)
  have xs : Ext (fun b => b = r) w7 (w7.setCell ⟨r, 4, none⟩ (.slice a7 1 c7)) := (Ext.refl (fun b => b = r) w7).setCell (p := ⟨r, 4, none⟩) (.inl rfl) _
  generalize (w7.setCell ⟨r, 4, none⟩ (.slice a7 1 c7)) = wF at kr xs ⊢
  have htv : tv = .slice ta 0 tc := Htv.out
  have x5F : Ext (fun b => tv.ownBlock = some b ∨ b = r) w5 wF := by
    rw [htv]
    exact ((y6.of_no).trans (x7.mono (fun _ _ h => .inl h))).next xs (fun b h _ => .inr h)
  have hGR : ∀ b, (tv.ownBlock = some b ∨ b = r) → FR b := fun b h => h.elim (hA.termsF b) (fun h => h ▸ hA.self)
  have hltF := Hlt.out
  have hFF := HF.out
  have s3 := Hz3.out.size
  have s4 := Hx4.out.size
  have s5 := Hx5.out.size
  have sF := x5F.size
  have hD2 : ∀ b, FD2 b → FD b ∨ (w3.heap.size ≤ b ∧ b < w5.heap.size) := fun b hb => by
    rcases Hsub3.out b hb with h | h
    · rcases Hsub1.out b h with h | h
      · exact .inl h
      · exact .inr (by omega)
    · exact .inr (by omega)
  have hL2 : ∀ b, FL2 b → FL b ∨ (w3.heap.size ≤ b ∧ b < w5.heap.size) := fun b hb => by
    rcases Hsub4.out b hb with h | h
    · rcases Hsub2.out b h with h | h
      · exact .inl h
      · exact .inr (by omega)
    · exact .inr (by omega)
  have st5 := Hst5.out
  have hap : ∀ b, FR b → ¬ (FD2 b ∨ FL2 b) := fun b hb h => by
    have h1 := hltF b (hFF b (.inr (.inr hb)))
    rcases h with h | h
    · rcases hD2 b h with h | h
      · exact hA.apD b hb h
      · omega
    · rcases hL2 b h with h | h
      · exact hA.apL b hb h
      · omega
  have hst := st5.ext x5F (fun b hb hG => hap b (hGR b hG) hb)
  have o7F := o7.ext xs (fun g hg h => o7.ne_blk b7r (by decide) g hg h.symm)
  have hlt5 : ∀ b, (FD2 b ∨ FL2 b) → b < w5.heap.size := fun b h => h.elim (st5.disk.lt b) (fun h => by
    obtain ⟨_, _, l, _⟩ := st5.log
    exact l.lt b h)
  have hcomm : N.committed = 0 := by have := hA.comm; rw [Hlog.out] at this; simpa using this
  have hNode : NodeAt wF r L d FD2 FL2 (fun b => FR b ∨ (w5.heap.size ≤ b ∧ b < wF.heap.size)) (.slice a7 1 c7) { N with log := [(t, x)] } ⟨D.room, fsPut (fsPut D.files (segName logPre 1) (fApp (fsGet D.files (segName logPre 1)) (enc (uv 1 ++ el)))) (segName logPre r4.p.first) ⟨(fApp (fsGet D.files (segName logPre 1)) (enc (uv 1 ++ el))).data, (fApp (fsGet D.files (segName logPre 1)) (enc (uv 1 ++ el))).data.length⟩⟩ [r4.p] false := by
    refine ⟨kr, .inl hA.self, o7F, fun g hg => ?_, hst, fun b hb h => ?_, fun b hb h => ?_, fun b hb => ?_, ?_, hA.idn, by show N.committed ≤ 1; omega⟩
    · rcases h7 with h | ⟨g', h1, h2⟩
      · replace h : (Value.slice a7 1 c7).ownBlock = (Value.slice ta 0 tc).ownBlock := h
        exact .inl (hA.termsF g (by rw [htv]; exact h.symm.trans hg))
      · replace h1 : (Value.slice a7 1 c7).ownBlock = some g' := h1
        rw [h1] at hg; cases hg
        refine .inr ⟨Nat.le_trans y6.size h2, o7F.lt g h1⟩
    · rcases hb with hb | hb
      · exact hap b hb (.inl h)
      · have := hlt5 b (.inl h); omega
    · rcases hb with hb | hb
      · exact hap b hb (.inr h)
      · have := hlt5 b (.inr h); omega
    · rcases hb with hb | hb
      · exact Nat.lt_of_lt_of_le (hltF b (hFF b (.inr (.inr hb)))) (by omega)
      · exact hb.2
    · rw [Hr4p.out, ← Hel.out]; rfl
  have xF : Ext F w wF := (Hx05.out.mono (fun b _ h => hFF b (h.elim .inl (fun h => .inr (.inl h))))).next x5F (fun b h _ => hFF b (.inr (.inr (hGR b h))))
  refine ⟨rfl, xF, ⟨⟨_, [r4.p], ⟨L, FD2, FL2, _, _, false, hNode, ?_, ?_⟩, Hrm.out, ?_⟩, HR.out.fresh, HR.out.vote, HR.out.term⟩⟩
  · intro b hb
    rcases hb with hb | hb | hb | hb
    · rcases hD2 b hb with h | h
      · exact .inl (hFF b (.inl h))
      · exact .inr (by omega)
    · rcases hL2 b hb with h | h
      · exact .inl (hFF b (.inr (.inl h)))
      · exact .inr (by omega)
    · exact .inl (hFF b (.inr (.inr hb)))
    · exact .inr (by omega)
  · intro b hb
    rcases hb with hb | hb
    · exact Nat.lt_of_lt_of_le (hltF b hb) xF.size
    · exact hb.2
  · have hp := Hperm.out
    rw [Hps.out] at hp
    have hs1 : segName logPre 1 ∉ nm (canon (if saved then some (N.term, N.vote) else none) []) := by
      unfold canon nm
      intro hm
      cases saved with
      | true =>
        have : segName logPre 1 = termName := by simpa [termFs, logFs] using hm
        have h1 := congrArg ByteArray.size this
        rw [segName_size 1 (by omega), termName_size] at h1
        omega
      | false => simp [termFs, logFs] at hm
    have hg : fsGet D.files (segName logPre 1) = none := fsGet_none'.2 (fun h' => hs1 ((nm_perm hp).mem_iff.1 h'))
    rw [hg, Hr4p.out]
    have q1 := put_perm_new (f := fApp none (enc (uv 1 ++ el))) hp hs1
    have q2 := put_perm_old (f := whole (enc (uv 1 ++ el))) q1 hs1
    refine q2.trans ?_
    have e : canon (if saved then some (N.term, N.vote) else none) [⟨1, [el]⟩] = canon (if saved then some (N.term, N.vote) else none) [] ++ [(segName logPre 1, whole (enc (uv 1 ++ el)))] := by
      unfold canon logFs PSeg.bytes
      simp [segBytes]
    show List.Perm _ (canon (if saved then some (N.term, N.vote) else none) [⟨1, [el]⟩])
    rw [e]
    exact (List.perm_append_comm (l₁ := [_])).symm.symm
end Go.Proofs.YtgglbholbkdgfaaGreatDoor
