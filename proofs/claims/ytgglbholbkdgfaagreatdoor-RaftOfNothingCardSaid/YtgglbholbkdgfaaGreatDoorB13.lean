/- Package disk: lay, Rename. -/
import Derived.Test.YtgglbholbkdgfaaGreatDoorB12
namespace Go.Proofs.YtgglbholbkdgfaaGreatDoor
open Go.RowKit

theorem field_file (x y : Value) (w : World) : (Instr.field 109 (.agg #[x, y]) 0).run Tryz.prog w = .ok x w := by kernel_rfl

set_option maxRecDepth 100000 in
set_option maxHeartbeats 1000000 in
theorem lay_at (d : Nat) (F : Nat → Prop) (room m : Nat) (rs : List RFile) (s : ByteArray) (v : Value) (f : PFile) (w : World) (hd : DiskAt w d F room (some m) rs) (old : Value) (oldn oldl : Nat)
    (hlook : (rsGet rs s = none ∧ old = .slice none 0 0 ∧ oldn = 0 ∧ oldl = 0) ∨ ∃ r, rsGet rs s = some r ∧ old = r.v ∧ oldn = r.f.data.length ∧ oldl = r.f.lasts)
    (ho : Own w 5 1 v (bytesV f.data)) (hv : ∀ g, v.ownBlock = some g → F g ∧ ∀ y ∈ rs, y.name ≠ s → y.v.ownBlock ≠ some g)
    (hn : isNm s = true) (hfit : f.data.length + usedL (rs.map RFile.pf) ≤ room + oldn) (hcnt : rs.length < 256) (hfl : f.data.length ≤ 1073741824) :
    Calls Tryz.prog 52 #[.pointer (some ⟨d, 0, none⟩), .string s, .agg #[v, .int .i64 f.lasts]] w fun e w' => e = .returned (.tuple #[]) ∧ Ext F w w' ∧
      DiskAt w' d (Gr F w w') room (some m) (rsPut rs ⟨s, v, f⟩) := by
  obtain ⟨hmF, hmap⟩ : F m ∧ MapIs w m (rs.map RFile.kv) := by
    rcases hd.map with ⟨h, _⟩ | ⟨m', h, h'⟩
    · cases h
    · cases h; exact h'
  obtain ⟨us, hus⟩ : ∃ u, usedL (rs.map RFile.pf) = u := ⟨_, rfl⟩
  have hblk := hd.blk
  have hfits := hd.fits
  rw [hus] at hfit hblk hfits
  have hr30 := hd.room30
  obtain ⟨a, c, rfl, hnv, hcm⟩ := RdB.shape (l := f.data) ho.rd
  have hus2 : us + f.data.length = usedL ((rsPut rs ⟨s, .slice a f.data.length c, f⟩).map RFile.pf) + oldn := by
    rcases hlook with ⟨h1, _, h2, _⟩ | ⟨r, h1, _, h2, _⟩
    · rw [used_put_new (r := ⟨s, .slice a f.data.length c, f⟩) h1, hus, h2]; rfl
    · have := used_put_found (r := ⟨s, .slice a f.data.length c, f⟩) hd.nodup h1
      rw [hus] at this; rw [h2]; simp only at this; omega
  have hold : oldn ≤ us := by
    rcases hlook with ⟨_, _, h2, _⟩ | ⟨r, h1, _, h2, _⟩
    · omega
    · have := used_mem (rsGet_mem h1).1; rw [hus] at this; omega
  obtain ⟨oa, oc, hov⟩ : ∃ oa oc, old = .slice oa oldn oc := by
    rcases hlook with ⟨_, h1, h2, _⟩ | ⟨r, h1, h2, h3, _⟩
    · exact ⟨none, 0, by rw [h1, h2]⟩
    · obtain ⟨a, c, hv, _⟩ := RdB.shape (l := r.f.data) (hd.rows.own r (rsGet_mem h1).1).rd
      exact ⟨a, c, by rw [h2, h3, hv]⟩
  have hl : ∀ w', Ext NoB w w' → (Instr.lookup 85 (.map (some m)) (.string s) false).run Tryz.prog w' = .ok (.agg #[.slice oa oldn oc, .int .i64 oldl]) w' := by
    intro w' x
    rw [← hov]
    rcases hlook with ⟨h1, h2, _, h3⟩ | ⟨r, h1, h2, _, h3⟩
    · rw [h2, h3]; exact ((hd.look s).1 h1 w' x).2
    · rw [h2, h3]; exact ((hd.look s).2 r h1 w' x).2
  have hcnt2 : (rsPut rs ⟨s, .slice a f.data.length c, f⟩).length ≤ 256 := by
    rcases hlook with ⟨h1, _⟩ | ⟨r, h1, _⟩
    · rw [length_rsPut_new (r := ⟨s, .slice a f.data.length c, f⟩) h1]; omega
    · rw [length_rsPut_found (r := ⟨s, .slice a f.data.length c, f⟩) h1]; omega
  have hw1 : IntKind.i64.wrap ((f.data.length : Int) - (oldn : Int)) = (f.data.length : Int) - (oldn : Int) := IntWalk.i64_in _ (by omega)
  have hw2 : IntKind.i64.wrap ((us : Int) + ((f.data.length : Int) - (oldn : Int))) = (us : Int) + ((f.data.length : Int) - (oldn : Int)) := IntWalk.i64_in _ (by omega)
  have hmn := fun (w : World) => run_eql_map_nil (P := Tryz.prog) w 85 _ _ (some m) unMap
  have c2 : w.cell? ⟨d, 2, none⟩ = some (.map (some m)) := by rw [cell_of_blk hblk]; rfl
  have hdl := lt_of_blk hblk
  have HL := Lib.hid hl
  have HD := Lib.hid hd
  have Hlook := Lib.hid hlook
  have Hus := Lib.hid hus
  have Hus2 := Lib.hid hus2
  have Hmap := Lib.hid hmap
  have Hblk := Lib.hid hblk
  have Ho := Lib.hid ho
  have Hv := Lib.hid hv
  clear hl hd hlook hus hus2 hmap hblk ho hv hov
  go_enter Tryz.func52, Tryz.ntmps52
  go_wp2_with fail
  have x1 : Ext NoB w (w.alloc (.cells #[.slice a f.data.length c, .int .i64 f.lasts] 109)) := (Ext.refl _ w).alloc _
  have b1 : (w.alloc (.cells #[.slice a f.data.length c, .int .i64 f.lasts] 109)).heap[w.heap.size]? = some (.cells #[.slice a f.data.length c, .int .i64 f.lasts] 109 (0, 0)) := blk_new w _
  generalize (w.alloc (.cells #[.slice a f.data.length c, .int .i64 f.lasts] 109)) = W at x1 b1 ⊢
  obtain ⟨B, hB⟩ : ∃ B, w.heap.size = B := ⟨_, rfl⟩
  rw [hB] at b1 ⊢ hdl
  have HB := Lib.hid hB
  clear hB c2
  have hblk := x1.blk Hblk.out (fun h => h)
  have d1 : W.cell? ⟨d, 1, none⟩ = some (.int .i64 us) := by rw [cell_of_blk hblk]; rfl
  have d2 : W.cell? ⟨d, 2, none⟩ = some (.map (some m)) := by rw [cell_of_blk hblk]; rfl
  have f1 : W.frozen? ⟨d, 1, none⟩ = false := frozen_of_blk hblk 1
  have g0 : W.cell? ⟨B, 0, none⟩ = some (.slice a f.data.length c) := by rw [cell_of_blk b1]; rfl
  have g1 : W.cell? ⟨B, 1, none⟩ = some (.int .i64 f.lasts) := by rw [cell_of_blk b1]; rfl
  have hlk := HL.out W.drew x1.drew
  have hfd := field_file
  have Hm1 := Lib.hid (Hmap.out.ext x1 (fun h => h))
  have Hblk1 := Lib.hid hblk
  have hdB : d ≠ B := Nat.ne_of_lt hdl
  have hBd : B ≠ d := Ne.symm hdB
  have Hb1 := Lib.hid b1
  clear hblk b1
  go_still_tail 19, (by kernel_rfl)
  change wpList _ _ _ _ _ W.drew
  go_wp2_with fail
  have X3 : Ext (fun b => b = d) W ((W.setCell ⟨d, 1, none⟩ (.int .i64 ((us : Int) + ((f.data.length : Int) - (oldn : Int))))).drew) := ((Ext.refl (fun b => b = d) W).setCell (p := ⟨d, 1, none⟩) (.inl rfl) _).drew
  have Hb3 : Hid (((W.setCell ⟨d, 1, none⟩ (.int .i64 ((us : Int) + ((f.data.length : Int) - (oldn : Int))))).drew).heap[B]? = some (.cells #[.slice a f.data.length c, .int .i64 f.lasts] 109 (0, 0))) := Lib.hid (blk_setCell_ne Hb1.out (p := ⟨d, 1, none⟩) hBd _)
  have Hd3 := Lib.hid (blk_setCell Hblk1.out 1 (.int .i64 ((us : Int) + ((f.data.length : Int) - (oldn : Int)))))
  have Hd3 : Hid (((W.setCell ⟨d, 1, none⟩ (.int .i64 ((us : Int) + ((f.data.length : Int) - (oldn : Int))))).drew).heap[d]? = _) := Hd3
  generalize ((W.setCell ⟨d, 1, none⟩ (.int .i64 ((us : Int) + ((f.data.length : Int) - (oldn : Int))))).drew) = w3 at Hb3 Hd3 X3 ⊢
  simp at Hd3
  have hm3 : MapIs w3 m (rs.map RFile.kv) := Hm1.out.ext X3 (Hm1.out.ne_blk Hblk1.out)
  clear g0 g1 d1 d2 f1
  have g0 : w3.cell? ⟨B, 0, none⟩ = some (.slice a f.data.length c) := by rw [cell_of_blk Hb3.out]; rfl
  have g1 : w3.cell? ⟨B, 1, none⟩ = some (.int .i64 f.lasts) := by rw [cell_of_blk Hb3.out]; rfl
  have d2 : w3.cell? ⟨d, 2, none⟩ = some (.map (some m)) := by rw [cell_of_blk Hd3.out]; rfl
  have hm3' : MapIs w3.drew m (rs.map RFile.kv) := hm3
  obtain ⟨w4, hput, hm4, x4, hsz4⟩ := run_put (P := Tryz.prog) unMap unString hm3' s (.agg #[.slice a f.data.length c, .int .i64 f.lasts])
  have Hm4 := Lib.hid hm4
  have Hx4 := Lib.hid x4
  have Hm3 := Lib.hid hm3
  have HX3 := Lib.hid X3
  clear hm4 x4 hsz4 hm3 hm3' X3
  go_still_tail 6, (by kernel_rfl)
  change wpList _ _ _ _ _ w3.drew
  go_wp2_with fail
  go_end0
  have hd := HD.out
  have xW4 : Ext (fun b => b = d ∨ b = m) w w4 := (((x1.of_no).next HX3.out (fun x hx _ => .inl hx)).drew).next Hx4.out (fun x hx _ => .inr hx)
  have hGF : ∀ b, (b = d ∨ b = m) → F b := fun b hb => hb.elim (fun e => e ▸ hd.self) (fun e => e ▸ hmF)
  have hoff' : ∀ y ∈ rs, y.name ≠ s → Off (fun b => b = d ∨ b = m) y.v := by
    intro y hy hne g hg hb
    rcases hb with rfl | rfl
    · exact (hd.rows.own y hy).ne_blk hd.blk (by decide) g hg rfl
    · exact Hmap.out.ne_own (hd.rows.own y hy) g hg rfl
  have hoffv : Off (fun b => b = d ∨ b = m) (.slice a f.data.length c) := by
    intro g hg hb
    rcases hb with rfl | rfl
    · exact Ho.out.ne_blk hd.blk (by decide) g hg rfl
    · exact Hmap.out.ne_own Ho.out g hg rfl
  have hus2 := Hus2.out
  have hb4 : w4.heap[d]? = some (.cells #[.int .i64 room, .int .i64 (us + f.data.length - oldn : Nat), .map (some m)] 87 (0, 0)) := by
    have hd3 : w3.drew.heap[d]? = some (.cells #[.int .i64 room, .int .i64 ((us : Int) + ((f.data.length : Int) - (oldn : Int))), .map (some m)] 87 (0, 0)) := Hd3.out
    have := Hx4.out.blk hd3 (fun e => Hm3.out.ne_blk Hd3.out (Eq.symm e))
    rw [this]
    have e : ((us + f.data.length - oldn : Nat) : Int) = (us : Int) + ((f.data.length : Int) - (oldn : Int)) := by omega
    rw [e]
  exact ⟨rfl, xW4.mono (fun b _ hb => hGF b hb), hd.put (r := ⟨s, .slice a f.data.length c, f⟩) xW4 hGF hoff' hb4 (by omega) (by omega) Hm4.out (.inl hmF) (Ho.out.ext xW4 hoffv) (fun g hg => ⟨.inl (Hv.out g hg).1, (Hv.out g hg).2⟩) hn hcnt2⟩
end Go.Proofs.YtgglbholbkdgfaaGreatDoor
