/- Package disk: Remove. -/
import Derived.Test.YtgglbholbkdgfaaGreatDoorB11
import Derived.Maps.OwnSet
namespace Go.Proofs.YtgglbholbkdgfaaGreatDoor
open Go.RowKit

set_option maxRecDepth 100000 in
set_option maxHeartbeats 1000000 in
theorem Remove_none (d : Nat) (F : Nat → Prop) (room : Nat) (mo : Option Nat) (rs : List RFile) (s : ByteArray) (w : World) (hd : DiskAt w d F room mo rs) (hs : rsGet rs s = none) :
    Calls Tryz.prog 73 #[.pointer (some ⟨d, 0, none⟩), .string s] w fun e w' => e = .returned (.int .i64 7) ∧ Ext NoB w w' := by
  have hof := Lib.hid (of_none d F room mo rs s w hd hs)
  clear hd hs
  go_enter Tryz.func73, Tryz.ntmps73
  go_wp2_with fail
  refine hof.out.mono ?_; rintro e w1 ⟨rfl, x1⟩
  go_wp2_with fail
  go_ret
  exact ⟨rfl, x1.alloc _⟩

set_option maxRecDepth 100000 in
set_option maxHeartbeats 1000000 in
theorem Remove_at (d : Nat) (F : Nat → Prop) (room : Nat) (mo : Option Nat) (rs : List RFile) (s : ByteArray) (w : World) (hd : DiskAt w d F room mo rs) (r : RFile) (hs : rsGet rs s = some r) :
    Calls Tryz.prog 73 #[.pointer (some ⟨d, 0, none⟩), .string s] w fun e w' => e = .returned (.int .i64 0) ∧ Ext F w w' ∧
      ∃ mo', DiskAt w' d (Gr F w w') room mo' (rsDel rs s) ∧ Own w' 5 1 r.v (bytesV r.f.data) ∧ mo'.isSome = true := by
  obtain ⟨m, rfl, hmF, hmap⟩ := hd.mapSome hs
  have hof := Lib.hid (of_some d F room (some m) rs s w hd r hs)
  have hdl := lt_of_blk hd.blk
  have hown := hd.rows.own r (rsGet_mem hs).1
  obtain ⟨a, c, hv, hnv, hcm⟩ := RdB.shape (l := r.f.data) hown.rd
  rw [hv] at hof
  obtain ⟨us, hus⟩ : ∃ u, usedL (rs.map RFile.pf) = u := ⟨_, rfl⟩
  have hlB := used_mem (rsGet_mem hs).1
  have hfits := hd.fits
  have hr30 := hd.room30
  rw [hus] at hlB hfits
  have hw1 : IntKind.i64.wrap ((us : Int) - (r.f.data.length : Int)) = (us : Int) - (r.f.data.length : Int) := IntWalk.i64_in _ (by omega)
  have HD := Lib.hid hd
  have HS := Lib.hid hs
  have Hus := Lib.hid hus
  have Hmap := Lib.hid hmap
  have Hv := Lib.hid hv
  clear hd hs hmap hown hv hus
  go_enter Tryz.func73, Tryz.ntmps73
  go_wp2_with fail
  refine hof.out.mono ?_; rintro e w1 ⟨rfl, x1⟩
  go_wp2_with fail
  have x2 : Ext NoB w (w1.alloc (.cells #[.slice a r.f.data.length c, .int .i64 r.f.lasts] 109)) := x1.alloc _
  have b1 : (w1.alloc (.cells #[.slice a r.f.data.length c, .int .i64 r.f.lasts] 109)).heap[w1.heap.size]? = some (.cells #[.slice a r.f.data.length c, .int .i64 r.f.lasts] 109 (0, 0)) := blk_new w1 _
  generalize (w1.alloc (.cells #[.slice a r.f.data.length c, .int .i64 r.f.lasts] 109)) = W at x2 b1 ⊢
  obtain ⟨B, hB⟩ : ∃ B, w1.heap.size = B := ⟨_, rfl⟩
  rw [hB] at b1 ⊢
  clear hB
  have hblk := x2.blk HD.out.blk (fun h => h)
  rw [Hus.out] at hblk
  have d1 : W.cell? ⟨d, 1, none⟩ = some (.int .i64 us) := by rw [cell_of_blk hblk]; rfl
  have d2 : W.cell? ⟨d, 2, none⟩ = some (.map (some m)) := by rw [cell_of_blk hblk]; rfl
  have f1 : W.frozen? ⟨d, 1, none⟩ = false := frozen_of_blk hblk 1
  have g0 : W.cell? ⟨B, 0, none⟩ = some (.slice a r.f.data.length c) := by rw [cell_of_blk b1]; rfl
  have hm1 := Hmap.out.ext x2 (fun h => h)
  have Hm1 := Lib.hid hm1
  have Hblk := Lib.hid hblk
  clear hm1 b1
  go_still_tail 10, (by kernel_rfl)
  change wpList _ _ _ _ _ W.drew
  go_wp2_with (at_delete; refine wpList_del unMap unString rfl (.tmp 28) (.tmp 29) rfl (MapIs.setCell (w := W.drew) Hm1.out (Hm1.out.ne_blk Hblk.out) _) s rfl rfl ?_; intro w4 hm4 x4 hsz4; refine halt2 (fun _K HK => ?_))
  have Hm4 := Lib.hid hm4
  have Hx4 := Lib.hid x4
  clear hm4 x4 hsz4
  refine HK.out ?_; clear HK _K
  go_wp2_with fail
  go_ret
  have hd := HD.out
  have hrm := rsGet_mem HS.out
  have xW4 : Ext (fun b => b = d ∨ b = m) w w4 := (((x2.of_no).setCell (p := ⟨d, 1, none⟩) (.inl (.inl rfl)) (.int .i64 ((us : Int) - (r.f.data.length : Int)))).drew).next Hx4.out (fun x hx _ => .inr hx)
  have hGF : ∀ b, (b = d ∨ b = m) → F b := fun b hb => hb.elim (fun e => e ▸ hd.self) (fun e => e ▸ hmF)
  have hoff : ∀ y ∈ rs, Off (fun b => b = d ∨ b = m) y.v := fun y hy g hg hb => hb.elim (fun e => (hd.rows.own y hy).ne_blk hd.blk (by decide) g hg e.symm) (fun e => Hmap.out.ne_own (hd.rows.own y hy) g hg e.symm)
  have hus := used_del hd.nodup HS.out
  rw [Hus.out] at hus
  have hb4 : w4.heap[d]? = some (.cells #[.int .i64 room, .int .i64 (us - r.f.data.length : Nat), .map (some m)] 87 (0, 0)) := by
    have h1 : ((W.setCell ⟨d, 1, none⟩ (.int .i64 ((us : Int) - (r.f.data.length : Int)))).drew).heap[d]? = some (.cells (#[.int .i64 room, .int .i64 us, .map (some m)].setIfInBounds 1 (.int .i64 ((us : Int) - (r.f.data.length : Int)))) 87 (0, 0)) := blk_setCell Hblk.out 1 _
    have := Hx4.out.blk h1 (fun e => Hmap.out.ne_blk hd.blk (Eq.symm e))
    rw [this]
    have e : ((us - r.f.data.length : Nat) : Int) = (us : Int) - (r.f.data.length : Int) := by omega
    rw [e]; rfl
  exact ⟨rfl, xW4.mono (fun b _ hb => hGF b hb), _, hd.del xW4 hoff hb4 (by omega) (by omega) Hm4.out hmF, (hd.rows.own r hrm.1).ext xW4 (hoff r hrm.1), rfl⟩

theorem fsDel_none {fs : List (ByteArray × PFile)} {s : ByteArray} (h : fsGet fs s = none) : fsDel fs s = fs := by
  unfold fsDel
  rw [List.filter_eq_self]
  intro p hp
  unfold fsGet at h
  have := List.find?_eq_none.1 (Option.map_eq_none_iff.1 h) p hp
  simpa using this
/-- Remove as the world sees it: the file is gone, whether it was there or not. -/
theorem Remove_any (d : Nat) (F : Nat → Prop) (D : PDisk) (s : ByteArray) (w : World) (hd : DiskIs w d F D) :
    Calls Tryz.prog 73 #[.pointer (some ⟨d, 0, none⟩), .string s] w fun e w' => (∃ x, e = .returned (.int .i64 x)) ∧ Ext F w w' ∧ DiskIs w' d (Gr F w w') ⟨D.room, fsDel D.files s⟩ := by
  obtain ⟨mo, rs, hd, e⟩ := hd
  cases hr : rsGet rs s with
  | none =>
    refine (Remove_none d F D.room mo rs s w hd hr).mono ?_
    rintro e' w' ⟨h1, h2⟩
    have h3 := hd.no h2
    have hn : fsGet D.files s = none := by rw [e, rsGet_pf, hr]; rfl
    refine ⟨⟨_, h1⟩, h2.of_no, mo, rs, ⟨h3.blk, .inl h3.self, ?_, ⟨h3.rows.own, fun r hr g hg => .inl (h3.rows.foot r hr g hg), h3.rows.apart⟩, ?_, h3.room30, h3.fits, h3.names, h3.count⟩, by rw [fsDel_none hn]; exact e⟩
    · rcases h3.map with h | ⟨m, h4, h5, h6⟩
      · exact .inl h
      · exact .inr ⟨m, h4, .inl h5, h6⟩
    · intro b hb
      rcases hb with hb | hb
      · exact h3.lt b hb
      · exact hb.2
  | some r =>
    refine (Remove_at d F D.room mo rs s w hd r hr).mono ?_
    rintro e' w' ⟨h1, h2, mo', h3, _, _⟩
    exact ⟨⟨_, h1⟩, h2, mo', _, h3, by rw [rsDel_pf, e]⟩
end Go.Proofs.YtgglbholbkdgfaaGreatDoor
