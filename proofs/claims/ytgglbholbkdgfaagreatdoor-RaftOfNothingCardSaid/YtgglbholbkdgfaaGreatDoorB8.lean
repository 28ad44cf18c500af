/- Package disk, the writing side: New, Append, Sync, Remove, lay, Rename, Cut. -/
import Derived.Test.YtgglbholbkdgfaaGreatDoorB7L
import Derived.StillTailTactics
namespace Go.Proofs.YtgglbholbkdgfaaGreatDoor
open Go.RowKit

theorem New_any (room : Nat) (h : room ≤ 1073741824) (w : World) :
    Calls Tryz.prog 15 #[.int .i64 room] w fun e w' => ∃ d, e = .returned (.tuple #[.pointer (some ⟨d, 0, none⟩), .int .i64 0]) ∧ w.heap.size ≤ d ∧ DiskIs w' d (Gr NoB w w') ⟨room, []⟩ ∧ Ext NoB w w' := by
  go_enter Tryz.func15, Tryz.ntmps15
  go_wp2_with fail
  go_ret2
  refine ⟨w.heap.size, rfl, Nat.le_refl _, ⟨none, [], ⟨blk_new w _, .inr ⟨Nat.le_refl _, by simp⟩, .inl ⟨rfl, rfl⟩, ⟨by simp, by simp, by simp⟩, ?_, h, by simp [usedL], by simp, by simp⟩, rfl⟩, (Ext.refl _ w).alloc _⟩
  intro b hb
  rcases hb with hb | hb
  · exact hb.elim
  · exact hb.2

/-- A block of another kind stands behind an append. -/
theorem app_blk {w w' : World} {e size b : Nat} {v : Value} {xs : List Value} (h : Own w e size v xs) (x : Ext (fun k => v.ownBlock = some k) w w') {cs : Array Value} {t : TypeId} {fr : Nat × Nat} (hb : w.heap[b]? = some (.cells cs t fr)) (hne : t ≠ e) : w'.heap[b]? = some (.cells cs t fr) :=
  x.blk hb (fun hg => h.ne_blk hb hne b hg rfl)
theorem app_map {w w' : World} {e size m : Nat} {v : Value} {xs : List Value} (h : Own w e size v xs) (x : Ext (fun k => v.ownBlock = some k) w w') {kv : List (ByteArray × Value)} (hm : MapIs w m kv) : MapIs w' m kv :=
  hm.ext x (fun hg => hm.ne_own h m hg rfl)

set_option maxRecDepth 100000 in
set_option maxHeartbeats 1000000 in
theorem Append_found (d : Nat) (F : Nat → Prop) (room : Nat) (mo : Option Nat) (rs : List RFile) (s : ByteArray) (p : Value) (l : List UInt8) (w : World) (hd : DiskAt w d F room mo rs) (hp : RdB w p l) (hoff : Off F p)
    (hn : isNm s = true) (r : RFile) (hs : rsGet rs s = some r) (hfit : l.length + usedL (rs.map RFile.pf) ≤ room) :
    Calls Tryz.prog 110 #[.pointer (some ⟨d, 0, none⟩), .string s, p] w fun e w' => e = .returned (.int .i64 0) ∧ Ext F w w' ∧
      ∃ v mo', DiskAt w' d (Gr F w w') room mo' (rsPut rs ⟨s, v, ⟨r.f.data ++ l, r.f.lasts⟩⟩) := by
  obtain ⟨m, rfl, hmF, hmap⟩ : ∃ m, mo = some m ∧ F m ∧ MapIs w m (rs.map RFile.kv) := by
    rcases hd.map with ⟨_, rfl⟩ | h
    · cases hs
    · exact h
  obtain ⟨us, hus⟩ : ∃ u, usedL (rs.map RFile.pf) = u := ⟨_, rfl⟩
  have hblk := hd.blk
  rw [hus] at hfit hblk
  have c0 : w.cell? ⟨d, 0, none⟩ = some (.int .i64 room) := by rw [cell_of_blk hblk]; rfl
  have c1 : w.cell? ⟨d, 1, none⟩ = some (.int .i64 us) := by rw [cell_of_blk hblk]; rfl
  have c2 : w.cell? ⟨d, 2, none⟩ = some (.map (some m)) := by rw [cell_of_blk hblk]; rfl
  have f1 : w.frozen? ⟨d, 1, none⟩ = false := frozen_of_blk hblk 1
  have hdl := lt_of_blk hblk
  have hl := ((hd.look s).2 r hs _ (Ext.refl NoB w)).1
  have hown := hd.rows.own r (rsGet_mem hs).1
  obtain ⟨a, c, hv, hnv, hcm⟩ := RdB.shape (l := r.f.data) hown.rd
  obtain ⟨a', c', rfl, hnp, hcp⟩ := RdB.shape hp
  rw [hv] at hl
  have hr30 := hd.room30
  have hw1 : IntKind.i64.wrap ((room : Int) - (us : Int)) = (room : Int) - (us : Int) := IntWalk.i64_in _ (by omega)
  have HD := Lib.hid hd
  have HS := Lib.hid hs
  have Hus := Lib.hid hus
  have Hmap := Lib.hid hmap
  have Hblk := Lib.hid hblk
  have Hown := Lib.hid hown
  have Hv := Lib.hid hv
  clear hd hs hus hmap hblk hown hv
  go_enter Tryz.func110, Tryz.ntmps110
  go_wp2_with (go_at_call 131; refine (isName_any _ _).mono ?_; rintro e w' ⟨rfl, rfl⟩; rw [hn])
  go_quiet (fail)
  have x1 : Ext NoB w ((w.alloc (.cells #[.slice a r.f.data.length c, .int .i64 r.f.lasts] 109)).drewN nq) := ((Ext.refl _ w).alloc _).drewN _
  have b1 : ((w.alloc (.cells #[.slice a r.f.data.length c, .int .i64 r.f.lasts] 109)).drewN nq).heap[w.heap.size]? = some (.cells #[.slice a r.f.data.length c, .int .i64 r.f.lasts] 109 (0, 0)) := blk_new w _
  generalize (w.alloc (.cells #[.slice a r.f.data.length c, .int .i64 r.f.lasts] 109)).drewN nq = W at x1 b1 ⊢
  have hbx : d < w.heap.size := hdl
  obtain ⟨B, hB⟩ : ∃ B, w.heap.size = B := ⟨_, rfl⟩
  have HB := Lib.hid hB
  rw [hB] at b1 hbx ⊢
  clear hB
  have g0 : W.cell? ⟨B, 0, none⟩ = some (.slice a r.f.data.length c) := by rw [cell_of_blk b1]; rfl
  have ho1 : Own W 5 1 (.slice a r.f.data.length c) (bytesV r.f.data) := by rw [← Hv.out]; exact Hown.out.no x1
  have s1 := Lib.hid (Rd.src (P := Tryz.prog) unBytes (hp.no x1) (bytesV_one l) (by decide))
  have hub := Lib.hid (used_mem (rsGet_mem HS.out).1)
  have Hb1 := Lib.hid b1
  clear b1 c0 c1 c2 f1
  have hmn := fun (w : World) => run_eql_map_nil (P := Tryz.prog) w 85 _ _ (some m) unMap
  have e1 : (((r.f.data.length + l.length : Nat) : Nat) : Int) = (r.f.data.length : Int) + l.length := by omega
  have hblk1 := x1.blk Hblk.out (fun h => h)
  have Hblk1 := Lib.hid hblk1
  have Hmap1 := Lib.hid (Hmap.out.ext x1 (fun h => h))
  clear hblk1
  go_wp2_with (at_builtin; refine wpList_app _ rfl (.tmp 50) (.tmp 51) 35 35 rfl 5 1 1 unBytes elByte ho1 s1.out rfl rfl (by simp only [bytesV_length]; have := hub.out; rw [Hus.out] at this; omega) (by decide) ?_; intro v2 w2 o2 x2 h2; refine halt2 (fun _K HK => ?_))
  clear g0
  rw [← bytesV_append] at o2
  obtain ⟨a2, c2, rfl, hn2, hc2⟩ := RdB.shape o2.rd
  have Hb2 := Lib.hid (app_blk ho1 x2 Hb1.out (by decide))
  have Hd2 := Lib.hid (app_blk ho1 x2 Hblk1.out (by decide))
  have Hm2 := Lib.hid (app_map ho1 x2 Hmap1.out)
  have Hx2 := Lib.hid x2
  have Ho2 := Lib.hid o2
  have Hh2 := Lib.hid h2
  have Ho1 := Lib.hid ho1
  clear x2 o2 h2 ho1
  have g0 : w2.cell? ⟨B, 0, none⟩ = some (.slice a r.f.data.length c) := by rw [cell_of_blk Hb2.out]; rfl
  have g1 : w2.cell? ⟨B, 1, none⟩ = some (.int .i64 r.f.lasts) := by rw [cell_of_blk Hb2.out]; rfl
  have fz0 : w2.frozen? ⟨B, 0, none⟩ = false := frozen_of_blk Hb2.out 0
  have d1 : w2.cell? ⟨d, 1, none⟩ = some (.int .i64 us) := by rw [cell_of_blk Hd2.out]; rfl
  have d2 : w2.cell? ⟨d, 2, none⟩ = some (.map (some m)) := by rw [cell_of_blk Hd2.out]; rfl
  have fz1 : w2.frozen? ⟨d, 1, none⟩ = false := frozen_of_blk Hd2.out 1
  have hdB : d ≠ B := Nat.ne_of_lt hbx
  have hBd : B ≠ d := Ne.symm hdB
  refine HK.out ?_; clear HK _K
  go_wp2_with fail
  have Hb3 := Lib.hid (blk_setCell_ne (blk_setCell Hb2.out 0 (.slice a2 (r.f.data.length + l.length) c2)) (p := ⟨d, 1, none⟩) hBd (.int .i64 ((us : Int) + (l.length : Int))))
  have Hd3 := Lib.hid (blk_setCell (blk_setCell_ne Hd2.out (p := ⟨B, 0, none⟩) hdB (.slice a2 (r.f.data.length + l.length) c2)) 1 (.int .i64 ((us : Int) + (l.length : Int))))
  have X3 : Ext (fun b => b = B ∨ b = d) w2 ((w2.setCell ⟨B, 0, none⟩ (.slice a2 (r.f.data.length + l.length) c2)).setCell ⟨d, 1, none⟩ (.int .i64 ((us : Int) + (l.length : Int)))) := ((Ext.refl _ w2).setCell (.inl (.inl rfl)) _).setCell (.inl (.inr rfl)) _
  generalize ((w2.setCell ⟨B, 0, none⟩ (.slice a2 (r.f.data.length + l.length) c2)).setCell ⟨d, 1, none⟩ (.int .i64 ((us : Int) + (l.length : Int)))) = w3 at Hb3 Hd3 X3 ⊢
  simp at Hb3 Hd3
  have hm3 : MapIs w3 m (rs.map RFile.kv) := Hm2.out.ext X3 (fun h => h.elim (Hm2.out.ne_blk Hb2.out) (Hm2.out.ne_blk Hd2.out))
  have ho3 : Own w3 5 1 (.slice a2 (r.f.data ++ l).length c2) (bytesV (r.f.data ++ l)) := Ho2.out.ext X3 (fun g hg h => h.elim (fun e => Ho2.out.ne_blk Hb2.out (by decide) g hg e.symm) (fun e => Ho2.out.ne_blk Hd2.out (by decide) g hg e.symm))
  clear g0 g1 fz0 d1 d2 fz1
  have g0 : w3.cell? ⟨B, 0, none⟩ = some (.slice a2 (r.f.data.length + l.length) c2) := by rw [cell_of_blk Hb3.out]; rfl
  have g1 : w3.cell? ⟨B, 1, none⟩ = some (.int .i64 r.f.lasts) := by rw [cell_of_blk Hb3.out]; rfl
  have d2 : w3.cell? ⟨d, 2, none⟩ = some (.map (some m)) := by rw [cell_of_blk Hd3.out]; rfl
  have hm3' : MapIs w3.drew m (rs.map RFile.kv) := hm3
  obtain ⟨w4, hput, hm4, x4, hsz4⟩ := run_put (P := Tryz.prog) unMap unString hm3' s (.agg #[.slice a2 (r.f.data.length + l.length) c2, .int .i64 r.f.lasts])
  have Hm4 := Lib.hid hm4
  have Hx4 := Lib.hid x4
  have Hsz4 := Lib.hid hsz4
  have Hm3 := Lib.hid hm3
  have Ho3 := Lib.hid ho3
  have HX3 := Lib.hid X3
  clear hm4 x4 hsz4 hm3 ho3 hm3' X3
  go_still_tail 6, (by kernel_rfl)
  change wpList _ _ _ _ _ w3.drew
  go_wp2_with fail
  go_ret
  have hd := HD.out
  have hrm := rsGet_mem HS.out
  have hsn := hrm.2
  have hB := HB.out
  have hdF := hd.self
  have hlt := hd.lt
  have xW4 : Ext (fun b => r.v.ownBlock = some b ∨ b = d ∨ b = m) w w4 :=
    ((((x1.of_no).next Hx2.out (fun x hx _ => .inl (by rw [Hv.out]; exact hx))).next HX3.out (fun x hx hl => hx.elim (fun e => by omega) (fun e => .inr (.inl e)))).drew).next Hx4.out (fun x hx _ => .inr (.inr hx))
  have hGF : ∀ b, (r.v.ownBlock = some b ∨ b = d ∨ b = m) → F b := fun b hb => hb.elim (hd.rows.foot r hrm.1 b) (fun h => h.elim (fun e => e ▸ hdF) (fun e => e ▸ hmF))
  have hoff' : ∀ y ∈ rs, y.name ≠ s → Off (fun b => r.v.ownBlock = some b ∨ b = d ∨ b = m) y.v := by
    intro y hy hne g hg hb
    rcases hb with hb | rfl | rfl
    · exact apart_sym hd.rows.apart hy hrm.1 (by rw [hsn]; exact hne) g hg hb
    · exact (hd.rows.own y hy).ne_blk hd.blk (by decide) g hg rfl
    · exact Hmap.out.ne_own (hd.rows.own y hy) g hg rfl
  have hv2 : ∀ g, (Value.slice a2 (r.f.data.length + l.length) c2).ownBlock = some g → (F g ∨ w.heap.size ≤ g) ∧ ∀ y ∈ rs, y.name ≠ s → y.v.ownBlock ≠ some g := by
    intro g hg
    have hg' : (Value.slice a2 (r.f.data ++ l).length c2).ownBlock = some g := by rw [List.length_append]; exact hg
    rcases Hh2.out with h | ⟨g', h1, h2⟩
    · rw [h, ← Hv.out] at hg'
      exact ⟨.inl (hd.rows.foot r hrm.1 g hg'), fun y hy hne hyg => apart_sym hd.rows.apart hy hrm.1 (by rw [hsn]; exact hne) g hyg hg'⟩
    · rw [h1] at hg'; cases hg'
      have := x1.size
      exact ⟨.inr (by omega), fun y hy _ hyg => by have := (hd.rows.own y hy).lt g hyg; omega⟩
  have hus := used_put_found (r := ⟨s, .slice a2 (r.f.data.length + l.length) c2, ⟨r.f.data ++ l, r.f.lasts⟩⟩) hd.nodup HS.out
  simp only [List.length_append, Hus.out] at hus
  have hxl : Own w4 5 1 (.slice a2 (r.f.data.length + l.length) c2) (bytesV (r.f.data ++ l)) := by
    have h3 := Ho3.out
    rw [List.length_append] at h3
    have h3' : Own w3.drew 5 1 (.slice a2 (r.f.data.length + l.length) c2) (bytesV (r.f.data ++ l)) := h3
    exact h3'.ext Hx4.out (fun g hg e => Hm3.out.ne_own h3 g hg (Eq.symm e))
  have hb4 : w4.heap[d]? = some (.cells #[.int .i64 room, .int .i64 (us + l.length : Nat), .map (some m)] 87 (0, 0)) := by
    have hd3 : w3.drew.heap[d]? = some (.cells #[.int .i64 room, .int .i64 ((us : Int) + (l.length : Int)), .map (some m)] 87 (0, 0)) := Hd3.out
    have := Hx4.out.blk hd3 (fun e => Hm3.out.ne_blk Hd3.out (Eq.symm e))
    simpa using this
  exact ⟨rfl, xW4.mono (fun b _ hb => hGF b hb), _, _, hd.put (r := ⟨s, .slice a2 (r.f.data.length + l.length) c2, ⟨r.f.data ++ l, r.f.lasts⟩⟩) xW4 hGF hoff' hb4 (by omega) (by omega) Hm4.out (.inl hmF) hxl hv2 hn (by rw [length_rsPut_found HS.out]; exact hd.count)⟩
end Go.Proofs.YtgglbholbkdgfaaGreatDoor
