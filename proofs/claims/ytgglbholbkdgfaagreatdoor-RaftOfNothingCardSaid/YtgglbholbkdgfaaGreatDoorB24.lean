/- Package wal: Sync of a log of one segment that is dirty. -/
import Derived.Test.YtgglbholbkdgfaaGreatDoorB23
namespace Go.Proofs.YtgglbholbkdgfaaGreatDoor
open Go.RowKit

theorem LogAt.clean {w w' : World} {L d : Nat} {F : Nat → Prop} {pre : ByteArray} {sv : Value} {ini : List RSeg} {r : RSeg} {m : Nat} (h : LogAt w L d F pre sv (ini ++ [r]) m)
    (x : Ext (fun b => b = r.sg) w w') (hbS : w'.heap[r.sg]? = some (.cells #[.int .i64 r.p.first, r.ev, r.nv, .bool false] 139 (0, 0))) :
    LogAt w' L d F pre sv (ini ++ [⟨r.sg, r.p, r.ev, r.nv, r.xs, false⟩]) m := by
  have hr := h.each r (by simp)
  have hap := h.apart
  rw [List.pairwise_append] at hap
  obtain ⟨ap1, _, ap2⟩ := hap
  have hu : ∀ g, F g → ∀ cs fr, w.heap[g]? = some (.cells cs 5 fr) → ¬ (g = r.sg) := by
    intro g _ cs fr hg hG
    subst hG
    exact absurd (blk_cells_inj hg hr.blk) (by decide)
  have hLr : L ≠ r.sg := fun e => absurd (blk_cells_inj (e ▸ h.blk) hr.blk) (by decide)
  refine ⟨x.blk h.blk hLr, h.self, ?_, h.segsF, ?_, ?_, ?_, fun b hb => Nat.lt_of_lt_of_le (h.lt b hb) x.size, h.m100, ?_, h.preL⟩
  · have := h.segs.ext x (fun g hg hG => h.segs.ne_blk hr.blk (by decide) g hg hG.symm)
    simp only [List.map_append, List.map_cons, List.map_nil, RSeg.ptr] at this ⊢
    exact this
  · intro q hq
    rcases List.mem_append.1 hq with hq | hq
    · have hqs := h.each q (by simp [hq])
      obtain ⟨a1, _, _⟩ := ap2 q hq r (by simp)
      exact hqs.ext2 x a1 (fun g hg hG => hqs.ents.ne_blk hr.blk (by decide) g hg hG.symm) (fun g hg hG => hqs.ends.ne_blk hr.blk (by decide) g hg hG.symm) hu (fun _ h => h)
    · have : q = ⟨r.sg, r.p, r.ev, r.nv, r.xs, false⟩ := by simpa using hq
      subst this
      exact ⟨hbS, hr.self, hr.ents.ext x (fun g hg hG => hr.ents.ne_blk hr.blk (by decide) g hg hG.symm), hr.entsF, hr.ends.ext x (fun g hg hG => hr.ends.ne_blk hr.blk (by decide) g hg hG.symm), hr.endsF, hr.rows.ext x hu⟩
  · rw [List.pairwise_append]
    refine ⟨ap1, by simp, fun a ha b hb => ?_⟩
    have : b = ⟨r.sg, r.p, r.ev, r.nv, r.xs, false⟩ := by simpa using hb
    subst this
    exact ap2 a ha r (by simp)
  · have := h.chain
    simp only [List.map_append, List.map_cons, List.map_nil] at this ⊢
    exact this
  · intro q hq
    rcases List.mem_append.1 hq with hq | hq
    · exact h.bytes30 q (by simp [hq])
    · have : q = ⟨r.sg, r.p, r.ev, r.nv, r.xs, false⟩ := by simpa using hq
      subst this
      exact h.bytes30 r (by simp)

set_option maxRecDepth 100000 in
set_option maxHeartbeats 4000000 in
theorem LogSync_one (L d : Nat) (FD FL : Nat → Prop) (D : PDisk) (pre : ByteArray) (sv : Value) (r : RSeg) (m : Nat) (w : World)
    (hL : LogAt w L d FL pre sv [r] m) (hd : DiskIs w d FD D) (hdis : ∀ b, FD b → ¬ FL b) (hdirty : r.dirty = true) (f : PFile) (hf : fsGet D.files (segName pre r.p.first) = some f) :
    Calls Tryz.prog 91 #[.pointer (some ⟨L, 0, none⟩)] w fun e w' => e = .returned (.int .i64 0) ∧
      StoreEnds w L d FD FL pre ⟨D.room, fsPut D.files (segName pre r.p.first) ⟨f.data, f.data.length⟩⟩ [r.p] m false w' := by
  have hseg := hL.each r (by simp)
  obtain ⟨b, off, c, rfl, hn, hc, hcell⟩ := hL.seg (by simp)
  have c2 : w.cell? ⟨L, 2, none⟩ = some (.slice (some ⟨b, off, none⟩) 1 c) := by rw [cell_of_blk hL.blk]; rfl
  have ce : w.cell? ⟨b, off, none⟩ = some (.pointer (some ⟨r.sg, 0, none⟩)) := by simpa [RSeg.ptr] using hcell 0 r rfl
  have cd : w.cell? ⟨r.sg, 3, none⟩ = some (.bool true) := by rw [cell_of_blk hseg.blk, hdirty]; rfl
  have c0 : w.cell? ⟨L, 0, none⟩ = some (.pointer (some ⟨d, 0, none⟩)) := by rw [cell_of_blk hL.blk]; rfl
  have cs : w.cell? ⟨r.sg, 0, none⟩ = some (.int .i64 r.p.first) := by rw [cell_of_blk hseg.blk]; rfl
  have hfn : r.p.first < 100 := by
    have h1 := ((hL.chain.le).2 r.p (by simp)).2
    have h2 := hL.chain.pos r.p (by simp)
    have := hL.m100
    omega
  have hname := Lib.hid (fun (w' : World) (x : Ext NoB w w') => name_any L pre r.p.first w' hfn (by have := hL.preL; omega) (x.cell (by rw [cell_of_blk hL.blk]; rfl) (fun h => h)))
  have hsync := Lib.hid (fun (w' : World) (x : Ext NoB w w') => Sync_ok d FD D (segName pre r.p.first) w' (hd.no x) f hf)
  have hnL : ¬ FD L := fun h => hdis L h hL.self
  have hnS : ¬ FD r.sg := fun h => hdis r.sg h hseg.self
  have HL := Lib.hid hL
  have HS := Lib.hid hseg
  have HD := Lib.hid hd
  have Hdis := Lib.hid hdis
  have HnL := Lib.hid hnL
  have HnS := Lib.hid hnS
  clear hL hseg hd hdis hnL hnS hcell hfn hf hn hc hdirty
  go_enter Tryz.func91, Tryz.ntmps91
  go_wp2_with fail
  refine wp_loop_rounds 2 ?_
  rw [rounds_succ]
  go_wp2_with fail
  go_region_held3 (fun w' => w'.cell? ⟨L, 0, none⟩ = some (.pointer (some ⟨d, 0, none⟩)) ∧ w'.cell? ⟨r.sg, 0, none⟩ = some (.int .i64 r.p.first))
    (first | exact ⟨c0, cs⟩ | assumption)
    (first
      | (go_at_call 100; refine (hname.out _ (Ext.refl NoB _).drew).mono ?_; rintro e w6 ⟨rfl, x6⟩; have y6 : Ext NoB w w6 := (Ext.refl NoB w).drew.trans x6; have z6 := And.intro (y6.cell c0 (fun h => h)) (y6.cell cs (fun h => h)))
      | (go_at_call 112; refine (hsync.out w6 y6).mono ?_; rintro e w7 ⟨rfl, x7, d7⟩; have z7 := And.intro (x7.cell z6.1 HnL.out) (x7.cell z6.2 HnS.out)))
  have x27 : Ext FD w w7 := (y6.of_no).trans x7
  have hL7 := HL.out.ext x27 (fun b hb h => Hdis.out b h hb)
  have hS7 := HS.out.ext x27 (fun b hb h => Hdis.out b h hb)
  have cd7 := x27.cell cd HnS.out
  have fd7 : w7.frozen? ⟨r.sg, 3, none⟩ = false := frozen_of_blk hS7.blk 3
  have HL7 := Lib.hid hL7
  have HS7 := Lib.hid hS7
  have Hd7 := Lib.hid d7
  clear hL7 hS7 d7 c0 cs z6 z7 c2 ce cd
  go_wp2_with fail
  rw [rounds_succ]
  go_wp2_with fail
  go_ret
  have hL7 := HL7.out
  have hS7 := HS7.out
  have d7 := Hd7.out
  have xS : Ext (fun b => b = r.sg) w7 (w7.setCell ⟨r.sg, 3, none⟩ (.bool false)) := (Ext.refl (fun b => b = r.sg) w7).setCell (p := ⟨r.sg, 3, none⟩) (.inl rfl) _
  have hlogF := LogAt.clean (ini := []) hL7 xS (blk_setCell hS7.blk 3 (.bool false))
  have h1 := y6.size
  have h2 := x7.size
  have h3 := xS.size
  refine ⟨rfl, (x27.mono (fun _ _ h => .inl h)).next xS (fun b h _ => .inr (h ▸ HS.out.self)), Gr FD w6 w7, FL, ?_, fun b hb => .inl hb, ?_, ⟨_, _, hlogF, rfl, by simp⟩, ?_⟩
  · intro b hb
    rcases hb with hb | hb
    · exact .inl hb
    · exact .inr (by omega)
  · refine d7.ext xS (fun b hb hG => ?_)
    rcases hb with hb | hb
    · exact HnS.out (hG ▸ hb)
    · have := HL.out.lt r.sg HS.out.self
      subst hG; omega
  · intro b hb hb2
    rcases hb with hb | hb
    · exact Hdis.out b hb hb2
    · have := HL.out.lt b hb2; omega
end Go.Proofs.YtgglbholbkdgfaaGreatDoor
