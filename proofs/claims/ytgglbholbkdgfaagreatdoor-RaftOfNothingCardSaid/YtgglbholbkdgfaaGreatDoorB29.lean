/- Package raft: turns. -/
import Derived.Test.YtgglbholbkdgfaaGreatDoorB28
namespace Go.Proofs.YtgglbholbkdgfaaGreatDoor
open Go.RowKit

theorem nodup_canon {w : World} {d : Nat} {F : Nat → Prop} {D : PDisk} {gs : Files} (h : DiskIs w d F D) (hp : D.files.Perm gs) : (nm gs).Nodup := by
  obtain ⟨mo, rs, h1, h2⟩ := h
  refine (nm_perm hp).nodup_iff.1 ?_
  rw [h2]
  unfold nm
  rw [List.map_map]
  exact h1.nodup
theorem RaftIs.first100 {w : World} {r L d : Nat} {FD FL FR : Nat → Prop} {tv : Value} {N : PNode} {D : PDisk} {ps : List PSeg} {dl : Bool} (h : NodeAt w r L d FD FL FR tv N D ps dl) : ∀ p ∈ ps, p.first < 100 := by
  obtain ⟨sv, rs, h1, h2, _⟩ := h.store.log
  intro p hp
  have hc := h1.chain
  rw [h2] at hc
  have h3 := (hc.le).2 p hp
  have h4 := hc.pos p hp
  have := h1.m100
  omega
theorem NodeAt.used {w : World} {r L d : Nat} {FD FL FR : Nat → Prop} {tv : Value} {N : PNode} {D : PDisk} {ps : List PSeg} {dl : Bool} (h : NodeAt w r L d FD FL FR tv N D ps dl) : usedL (logFs ps) = N.bytes := by
  obtain ⟨sv, rs, h1, h2, _⟩ := h.store.log
  have hc := h1.chain
  rw [h2] at hc
  rw [used_logFs, chain_bytes hc, h.coh]
  rfl
theorem NodeAt.count {w : World} {r L d : Nat} {FD FL FR : Nat → Prop} {tv : Value} {N : PNode} {D : PDisk} {ps : List PSeg} {dl : Bool} (h : NodeAt w r L d FD FL FR tv N D ps dl) : ps.length < 100 := by
  obtain ⟨sv, rs, h1, h2, _⟩ := h.store.log
  have hc := h1.chain
  rw [h2] at hc
  have := hc.count
  have := h1.m100
  omega

set_option maxRecDepth 100000 in
set_option maxHeartbeats 4000000 in
theorem turns_any (r d : Nat) (F : Nat → Prop) (N : PNode) (room : Nat) (saved : Bool) (t : Nat) (v : Int) (w : World) (h : RaftIs w r d F N room saved) (ht : t ≤ 1099511627776) (hv : -1 ≤ v ∧ v ≤ 5) (hroom : N.bytes + 100 ≤ room) :
    Calls Tryz.prog 46 #[.pointer (some ⟨r, 0, none⟩), .int .i64 t, .int .i64 v] w fun e w' => e = .returned (.bool true) ∧ Ext F w w' ∧ RaftIs w' r d (Gr F w w') { N with term := t, vote := v } room true := by
  obtain ⟨D, ps, ⟨L, FD, FL, FR, tv, dl, hA, hF, hlt⟩, hrm, hperm⟩ := h.is
  have hd := hA.store.disk
  have h100 := RaftIs.first100 hA
  have hcan := nodup_canon hd hperm
  have hused := hA.used
  have hcount := hA.count
  obtain ⟨q, hq⟩ : ∃ q : Nat, v + 1 = (q : Int) := ⟨(v + 1).toNat, by omega⟩
  have hsh : (termName ++ tilde) ∉ nm (canon (if saved then some (N.term, N.vote) else none) ps) := by
    unfold canon nm
    rw [List.map_append, List.mem_append]
    rintro (h1 | h1)
    · have h2 : (termName ++ tilde) = termName := by
        cases saved with
        | true => simpa [termFs] using h1
        | false => simp [termFs] at h1
      have := congrArg ByteArray.size h2
      rw [shadow_size, termName_size] at this
      omega
    · exact logFs_ne h100 _ (by rw [shadow_size]; decide) h1
  have hdel : fsDel D.files (termName ++ tilde) = D.files := del_perm hperm hsh
  have htl : termName ∉ nm (logFs ps) := logFs_ne h100 _ (by rw [termName_size]; decide)
  have hu2 : usedL D.files ≤ 28 + N.bytes := by
    rw [used_perm hperm, ← hused]
    unfold canon
    cases saved with
    | true =>
      simp only [if_true, termFs, List.singleton_append]
      rw [used_cons]
      show (enc _).length + _ ≤ _
      rw [enc_length]
      have := termB_len N.term N.vote
      omega
    | false => simp only [Bool.false_eq_true, if_false, termFs, List.nil_append]; omega
  have hc2 : D.files.length < 256 := by
    rw [hperm.length_eq]
    unfold canon
    rw [List.length_append]
    have : (termFs (if saved then some (N.term, N.vote) else none)).length ≤ 1 := by cases saved <;> simp [termFs]
    have : (logFs ps).length = ps.length := by simp [logFs]
    omega
  have hnew : (fsPut D.files termName (whole (enc (termB t v)))).Perm (canon (some (t, v)) ps) := by
    cases saved with
    | true => exact put_perm_old hperm htl
    | false => exact put_perm_new hperm (by simpa [canon, termFs] using htl)
  have c2 : w.cell? ⟨r, 2, none⟩ = some (.pointer (some ⟨d, 0, none⟩)) := by rw [cell_of_blk hA.blk]; rfl
  have hw1 : IntKind.u64.wrap (t : Int) = (t : Int) := by rw [IntKind.wrap_u64]; omega
  have hw2 : IntKind.i64.wrap (v + 1) = (q : Int) := by rw [hq]; exact IntWalk.i64_in _ (by omega)
  have hw3 : IntKind.u64.wrap (q : Int) = (q : Int) := by rw [IntKind.wrap_u64]; omega
  have hq7 : q ≤ 6 := by omega
  have HA := Lib.hid hA
  have HF := Lib.hid hF
  have Hlt := Lib.hid hlt
  have HU1 := Lib.hid (fun w' => Uvarint_any t (Lib.hid (by unfold U64; omega)) w')
  have HU2 := Lib.hid (fun w' => Uvarint_any q (Lib.hid (by unfold U64; omega)) w')
  have HD := Lib.hid hd
  have Hdel := Lib.hid hdel
  have Hnew := Lib.hid hnew
  have Hu2 := Lib.hid hu2
  have Hc2 := Lib.hid hc2
  have Hrm := Lib.hid hrm
  have Hroom := Lib.hid hroom
  have HQ := Lib.hid hq
  have HR := Lib.hid h
  have HT := Lib.hid ht
  have HV := Lib.hid hv
  have f5 : ∀ w' : World, (w'.heap[r]? = some (.cells (nodeArr N d L tv) 92 (0, 0))) → w'.frozen? ⟨r, 5, none⟩ = false := fun w' hb => frozen_of_blk hb 5
  clear hA hd h100 hcan hused hcount hq hsh hdel htl hu2 hc2 hnew hrm hperm h ht hv hroom hF hlt hq7 f5
  go_enter Tryz.func46, Tryz.ntmps46
  go_wp2_with fail
  refine (HU1.out w).mono ?_; rintro e w1 ⟨s1, rfl, o1, f1, x1⟩
  obtain ⟨a1, k1, rfl, hn1, hk1⟩ := RdB.shape (l := uv t) o1.rd
  have Ho1 := Lib.hid o1
  have Hf1 := Lib.hid f1
  clear o1 f1 hn1 hk1
  go_wp2_with fail
  refine (HU2.out w1).mono ?_; rintro e w2 ⟨s2, rfl, o2, f2, x2⟩
  obtain ⟨a2, k2, rfl, hn2, hk2⟩ := RdB.shape (l := uv q) o2.rd
  have hb2 : ((bytesV (uv t)).length + (bytesV (uv q)).length) * 1 ≤ 140737488355328 := by have := uv_length t; have := uv_length q; simp only [bytesV_length]; omega
  have Hb2 := Lib.hid hb2
  have Ho2 := Lib.hid o2
  clear hb2 o2 f2 hn2 hk2
  go_wp2_with (at_builtin; refine wpList_app _ rfl (.tmp 10) (.tmp 14) 35 35 rfl 5 1 1 unBytes elByte (Ho1.out.no x2) (Rd.src unBytes Ho2.out.rd (bytesV_one _) (by decide)) rfl rfl Hb2.out (by decide) ?_; intro v3 w3 o3 x3 h3; refine halt2 (fun _K HK => ?_))
  have y3 : Ext NoB w w3 := Hf1.out.ext (x1.trans x2) x3
  rw [← bytesV_append] at o3
  obtain ⟨bl, hbl⟩ : ∃ bl, uv t ++ uv q = bl := ⟨_, rfl⟩
  rw [hbl] at o3
  have hblt : termB t v = bl := by
    unfold termB
    rw [HQ.out, ← hbl]
    rfl
  have hbll : bl.length ≤ 20 := by rw [← hblt]; exact termB_len t v
  obtain ⟨a3, k3, rfl, hn3, hk3⟩ := RdB.shape (l := bl) o3.rd
  have hsave := Save_ok d FD D termName _ bl w3 (HD.out.no y3) o3.rd (by omega) (by rw [termName_size]; omega) (by rw [Hdel.out]; have := Hu2.out; have := Hroom.out; have := Hrm.out; omega) (by rw [Hdel.out]; exact Hc2.out)
  rw [Hdel.out] at hsave
  have Hsave := Lib.hid hsave
  have Hblt := Lib.hid hblt
  have c2 := y3.cell c2 (fun h => h)
  have Hy3 := Lib.hid y3
  clear hsave hblt hbll hbl o3 x3 h3 hn3 hk3 x1 x2 Ho1 Ho2 y3
  refine HK.out ?_; clear HK _K
  go_wp2_with fail
  refine Hsave.out.mono ?_; rintro e w4 ⟨rfl, x4, d4⟩
  have hA := HA.out
  have x04 : Ext FD w w4 := (Hy3.out.of_no).trans x4
  have b4 := x04.blk hA.blk (fun h => hA.apD r hA.self h)
  have c5 : w4.cell? ⟨r, 5, none⟩ = some (.int .i64 N.term) := by rw [cell_of_blk b4]; rfl
  have c6 : w4.cell? ⟨r, 6, none⟩ = some (.int .i64 N.vote) := by rw [cell_of_blk b4]; rfl
  have f5 : w4.frozen? ⟨r, 5, none⟩ = false := frozen_of_blk b4 5
  have f6 : w4.frozen? ⟨r, 6, none⟩ = false := frozen_of_blk b4 6
  have Hd4 := Lib.hid d4
  have Hx4 := Lib.hid x4
  have Hx04 := Lib.hid x04
  have Hb4 := Lib.hid b4
  clear d4 x4 x04 b4 hA c2
  go_wp2_with fail
  go_ret
  have hA := HA.out
  have hx34 := Hx4.out.size
  have hx03 := Hy3.out.size
  have xS : Ext (fun b => b = r) w4 ((w4.setCell ⟨r, 5, none⟩ (.int .i64 t)).setCell ⟨r, 6, none⟩ (.int .i64 v)) := ((Ext.refl (fun b => b = r) w4).setCell (p := ⟨r, 5, none⟩) (.inl rfl) _).setCell (p := ⟨r, 6, none⟩) (.inl rfl) _
  have hS := xS.size
  have hA4 : NodeAt w4 r L d (Gr FD w3 w4) FL FR tv N ⟨D.room, fsPut D.files termName (whole (enc bl))⟩ ps dl := by
    obtain ⟨sv, rs, l1, l2, l3⟩ := hA.store.log
    refine ⟨Hb4.out, hA.self, hA.terms.ext Hx04.out (fun g hg hb => hA.apD g (hA.termsF g hg) hb), hA.termsF, ⟨Hd4.out, ⟨sv, rs, l1.ext Hx04.out (fun b hb h => hA.store.apart b h hb), l2, l3⟩, ?_⟩, ?_, hA.apL, fun b hb => Nat.lt_of_lt_of_le (hA.lt b hb) Hx04.out.size, hA.coh, hA.idn, hA.comm⟩
    · intro b hb hb2
      rcases hb with hb | hb
      · exact hA.store.apart b hb hb2
      · have := l1.lt b hb2; omega
    · intro b hb hb2
      rcases hb2 with hb2 | hb2
      · exact hA.apD b hb hb2
      · have := hA.lt b hb; omega
  have hA5 := hA4.set (N' := { N with term := t, vote := v }) xS (blk_setCell (blk_setCell Hb4.out 5 (.int .i64 t)) 6 (.int .i64 v)) rfl hA.idn hA.comm
  have xF : Ext F w ((w4.setCell ⟨r, 5, none⟩ (.int .i64 t)).setCell ⟨r, 6, none⟩ (.int .i64 v)) :=
    (Hx04.out.mono (fun b _ h => HF.out b (.inl h))).next xS (fun b h _ => HF.out b (.inr (.inr (h ▸ hA.self))))
  refine ⟨rfl, xF, ⟨⟨_, ps, ⟨L, Gr FD w3 w4, FL, FR, tv, dl, hA5, ?_, ?_⟩, Hrm.out, ?_⟩, fun h => (by cases h), HV.out, HT.out⟩⟩
  · intro b hb
    rcases hb with (hb | hb) | hb
    · exact .inl (HF.out b (.inl hb))
    · exact .inr (by omega)
    · exact .inl (HF.out b (.inr hb))
  · intro b hb
    rcases hb with hb | hb
    · exact Nat.lt_of_lt_of_le (Hlt.out b hb) xF.size
    · exact hb.2
  · have := Hnew.out
    rw [Hblt.out] at this
    exact this
end Go.Proofs.YtgglbholbkdgfaaGreatDoor
