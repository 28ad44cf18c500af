/- Package disk: Sync. -/
import Derived.Test.YtgglbholbkdgfaaGreatDoorB10
namespace Go.Proofs.YtgglbholbkdgfaaGreatDoor
open Go.RowKit

theorem DiskAt.mapSome {w : World} {d : Nat} {F : Nat → Prop} {room : Nat} {mo : Option Nat} {rs : List RFile} (hd : DiskAt w d F room mo rs) {s : ByteArray} {r : RFile} (hs : rsGet rs s = some r) : ∃ m, mo = some m ∧ F m ∧ MapIs w m (rs.map RFile.kv) := by
  rcases hd.map with ⟨_, rfl⟩ | h
  · cases hs
  · exact h

set_option maxRecDepth 100000 in
set_option maxHeartbeats 1000000 in
theorem Sync_at (d : Nat) (F : Nat → Prop) (room : Nat) (mo : Option Nat) (rs : List RFile) (s : ByteArray) (w : World) (hd : DiskAt w d F room mo rs) (r : RFile) (hs : rsGet rs s = some r) :
    Calls Tryz.prog 112 #[.pointer (some ⟨d, 0, none⟩), .string s] w fun e w' => e = .returned (.int .i64 0) ∧ Ext F w w' ∧
      ∃ mo', DiskAt w' d (Gr F w w') room mo' (rsPut rs ⟨s, r.v, ⟨r.f.data, r.f.data.length⟩⟩) := by
  obtain ⟨m, rfl, hmF, hmap⟩ := hd.mapSome hs
  have hof := Lib.hid (of_some d F room (some m) rs s w hd r hs)
  have hdl := lt_of_blk hd.blk
  have hown := hd.rows.own r (rsGet_mem hs).1
  obtain ⟨a, c, hv, hnv, hcm⟩ := RdB.shape (l := r.f.data) hown.rd
  rw [hv] at hof
  have hlB := used_mem (rsGet_mem hs).1
  have hfits := hd.fits
  have hr30 := hd.room30
  have hll : r.f.data.length ≤ 1073741824 := by omega
  have HD := Lib.hid hd
  have HS := Lib.hid hs
  have Hmap := Lib.hid hmap
  have Hv := Lib.hid hv
  clear hd hs hmap hown hv hlB hfits
  go_enter Tryz.func112, Tryz.ntmps112
  go_wp2_with fail
  refine hof.out.mono ?_; rintro e w1 ⟨rfl, x1⟩
  go_wp2_with fail
  have x2 : Ext NoB w (w1.alloc (.cells #[.slice a r.f.data.length c, .int .i64 r.f.data.length] 109)) := x1.alloc _
  have b1 : (w1.alloc (.cells #[.slice a r.f.data.length c, .int .i64 r.f.data.length] 109)).heap[w1.heap.size]? = some (.cells #[.slice a r.f.data.length c, .int .i64 r.f.data.length] 109 (0, 0)) := blk_new w1 _
  generalize (w1.alloc (.cells #[.slice a r.f.data.length c, .int .i64 r.f.data.length] 109)) = W at x2 b1 ⊢
  obtain ⟨B, hB⟩ : ∃ B, w1.heap.size = B := ⟨_, rfl⟩
  rw [hB] at b1 ⊢
  have HB := Lib.hid hB
  clear hB
  have hblk := x2.blk HD.out.blk (fun h => h)
  have d2 : W.cell? ⟨d, 2, none⟩ = some (.map (some m)) := by rw [cell_of_blk hblk]; rfl
  have g0 : W.cell? ⟨B, 0, none⟩ = some (.slice a r.f.data.length c) := by rw [cell_of_blk b1]; rfl
  have g1 : W.cell? ⟨B, 1, none⟩ = some (.int .i64 r.f.data.length) := by rw [cell_of_blk b1]; rfl
  have hm1 := Hmap.out.ext x2 (fun h => h)
  have hm1' : MapIs W.drew m (rs.map RFile.kv) := hm1
  obtain ⟨w4, hput, hm4, x4, hsz4⟩ := run_put (P := Tryz.prog) unMap unString hm1' s (.agg #[.slice a r.f.data.length c, .int .i64 r.f.data.length])
  have Hm4 := Lib.hid hm4
  have Hx4 := Lib.hid x4
  have Hb1 := Lib.hid b1
  have Hblk := Lib.hid hblk
  clear hm4 x4 hsz4 hm1 hm1' b1 hblk
  go_still_tail 6, (by kernel_rfl)
  change wpList _ _ _ _ _ W.drew
  go_wp2_with fail
  go_ret
  have hd := HD.out
  have hrm := rsGet_mem HS.out
  have hsn := hrm.2
  have xW4 : Ext (fun b => b = m) w w4 := ((x2.of_no).drew).next Hx4.out (fun x hx _ => hx)
  have hGF : ∀ b, b = m → F b := fun b e => e ▸ hmF
  have hus := used_put_found (r := ⟨s, r.v, ⟨r.f.data, r.f.data.length⟩⟩) hd.nodup HS.out
  have hb4 : w4.heap[d]? = some (.cells #[.int .i64 room, .int .i64 (usedL (rs.map RFile.pf)), .map (some m)] 87 (0, 0)) := by
    have hd3 : W.drew.heap[d]? = some (.cells #[.int .i64 room, .int .i64 (usedL (rs.map RFile.pf)), .map (some m)] 87 (0, 0)) := Hblk.out
    exact Hx4.out.blk hd3 (fun e => Hmap.out.ne_blk hd.blk (Eq.symm e))
  have hfits := hd.fits
  rw [← Hv.out] at Hm4
  exact ⟨rfl, xW4.mono (fun b _ hb => hGF b hb), _, hd.put (r := ⟨s, r.v, ⟨r.f.data, r.f.data.length⟩⟩) xW4 hGF (fun y hy _ g hg e => Hmap.out.ne_own (hd.rows.own y hy) g hg (Eq.symm e)) hb4 (by simp only at hus; omega) hfits Hm4.out (.inl hmF)
    ((hd.rows.own r hrm.1).ext xW4 (fun g hg e => Hmap.out.ne_own (hd.rows.own r hrm.1) g hg (Eq.symm e))) (fun g hg => ⟨.inl (hd.rows.foot r hrm.1 g hg), fun y hy hne hyg => apart_sym hd.rows.apart hy hrm.1 (by rw [hsn]; exact hne) g hyg hg⟩)
    (by have := hd.names r hrm.1; rw [hsn] at this; unfold isNm; simpa using this) (by rw [length_rsPut_found HS.out]; exact hd.count)⟩

theorem Sync_ok (d : Nat) (F : Nat → Prop) (D : PDisk) (s : ByteArray) (w : World) (hd : DiskIs w d F D) (f : PFile) (hs : fsGet D.files s = some f) :
    Calls Tryz.prog 112 #[.pointer (some ⟨d, 0, none⟩), .string s] w fun e w' => e = .returned (.int .i64 0) ∧ Ext F w w' ∧ DiskIs w' d (Gr F w w') ⟨D.room, fsPut D.files s ⟨f.data, f.data.length⟩⟩ := by
  obtain ⟨mo, rs, hd, e⟩ := hd
  rw [e, rsGet_pf] at hs
  cases hr : rsGet rs s with
  | none => rw [hr] at hs; cases hs
  | some r =>
  rw [hr] at hs
  obtain rfl : r.f = f := by simpa using hs
  refine (Sync_at d F D.room mo rs s w hd r hr).mono ?_
  rintro e' w' ⟨h1, h2, mo', h3⟩
  exact ⟨h1, h2, mo', _, h3, by rw [rsPut_pf, e]⟩
end Go.Proofs.YtgglbholbkdgfaaGreatDoor
