/- Joined texts: B11 B12 B13 B14 B15. Each has its own head. -/
import Derived.Maps.OwnSet
import Derived.Laws.Strings
import Derived.Test.YtgglbholbkdgfaaGreatDoorK2
set_option linter.unusedVariables false
set_option linter.unusedSimpArgs false
namespace Go.Proofs.YtgglbholbkdgfaaGreatDoor
open Go.RowKit
theorem DiskAt.mapSome {w : World} {d : Nat} {F : Nat → Prop} {room : Nat} {mo : Option Nat} {rs : List RFile} (hd : DiskAt w d F room mo rs) {s : ByteArray} {r : RFile} (hs : rsGet rs s = some r) : ∃ m, mo = some m ∧ F m ∧ MapIs w m (rs.map RFile.kv) := by
 rcases hd.map with ⟨_, rfl⟩ | h
 ·cases hs
 ·exact h
set_option maxRecDepth 100000 in
set_option maxHeartbeats 1000000 in
theorem Sync_at (d : Nat) (F : Nat → Prop) (room : Nat) (mo : Option Nat) (rs : List RFile) (s : ByteArray) (w : World) (hd : DiskAt w d F room mo rs) (r : RFile) (hs : rsGet rs s = some r) :
  Calls Tryz.prog 112 #[.pointer (some ⟨d, 0, none⟩), .string s] w fun e w' => e = .returned (.int .i64 0) ∧ Ext F w w' ∧
   ∃ mo', DiskAt w' d (Gr F w w') room mo' (rsPut rs ⟨s, r.v, ⟨r.f.data, r.f.data.length⟩⟩) := by
 obtain ⟨m, rfl, hmF, hmap⟩ := hd.mapSome hs
 have hof := Lib.hid (of_some d F room (some m) rs s w hd r hs)
 have hdl := lt_of_blk hd.blk
 have hown := hd.rows.own r (rsGet_mem hs).1
 obtain ⟨a, c, hv, hnv, hcm⟩ := RdB.shape (l := r.f.data) hown.rd
 rw [hv] at hof
 have hlB := used_mem (rsGet_mem hs).1
 have hfits := hd.fits
 have hr30 := hd.room30
 have hll : r.f.data.length ≤ 1073741824 := by omega
 have HD := Lib.hid hd
 have HS := Lib.hid hs
 have Hmap := Lib.hid hmap
 have Hv := Lib.hid hv
 clear hd hs hmap hown hv hlB hfits
 go_enter Tryz.func112, Tryz.ntmps112
 go_wp2_with fail
 refine hof.out.mono ?_; rintro e w1 ⟨rfl, x1⟩
 go_wp2_with fail
 have x2 : Ext NoB w (w1.alloc (.cells #[.slice a r.f.data.length c, .int .i64 r.f.data.length] 109)) := x1.alloc _
 have b1 : (w1.alloc (.cells #[.slice a r.f.data.length c, .int .i64 r.f.data.length] 109)).heap[w1.heap.size]? = some (.cells #[.slice a r.f.data.length c, .int .i64 r.f.data.length] 109 (0, 0)) := blk_new w1 _
 generalize (w1.alloc (.cells #[.slice a r.f.data.length c, .int .i64 r.f.data.length] 109)) = W at x2 b1 ⊢
 obtain ⟨B, hB⟩ : ∃ B, w1.heap.size = B := ⟨_, rfl⟩
 rw [hB] at b1 ⊢
 have HB := Lib.hid hB
 clear hB
 have hblk := x2.blk HD.out.blk (fun h => h)
 have d2 : W.cell? ⟨d, 2, none⟩ = some (.map (some m)) := by rw [cell_of_blk hblk]; rfl
 have g0 : W.cell? ⟨B, 0, none⟩ = some (.slice a r.f.data.length c) := by rw [cell_of_blk b1]; rfl
 have g1 : W.cell? ⟨B, 1, none⟩ = some (.int .i64 r.f.data.length) := by rw [cell_of_blk b1]; rfl
 have hm1 := Hmap.out.ext x2 (fun h => h)
 have hm1' : MapIs W.drew m (rs.map RFile.kv) := hm1
 obtain ⟨w4, hput, hm4, x4, hsz4⟩ := run_put (P := Tryz.prog) unMap unString hm1' s (.agg #[.slice a r.f.data.length c, .int .i64 r.f.data.length])
 have Hm4 := Lib.hid hm4
 have Hx4 := Lib.hid x4
 have Hb1 := Lib.hid b1
 have Hblk := Lib.hid hblk
 clear hm4 x4 hsz4 hm1 hm1' b1 hblk
 go_still_tail 6, (by kernel_rfl)
 change wpList _ _ _ _ _ W.drew
 go_wp2_with fail
 go_ret
 have hd := HD.out
 have hrm := rsGet_mem HS.out
 have hsn := hrm.2
 have xW4 : Ext (fun b => b = m) w w4 := ((x2.of_no).drew).next Hx4.out (fun x hx _ => hx)
 have hGF : ∀ b, b = m → F b := fun b e => e ▸ hmF
 have hus := used_put_found (r := ⟨s, r.v, ⟨r.f.data, r.f.data.length⟩⟩) hd.nodup HS.out
 have hb4 : w4.heap[d]? = some (.cells #[.int .i64 room, .int .i64 (usedL (rs.map RFile.pf)), .map (some m)] 87 (0, 0)) := by
  have hd3 : W.drew.heap[d]? = some (.cells #[.int .i64 room, .int .i64 (usedL (rs.map RFile.pf)), .map (some m)] 87 (0, 0)) := Hblk.out
  exact Hx4.out.blk hd3 (fun e => Hmap.out.ne_blk hd.blk (Eq.symm e))
 have hfits := hd.fits
 rw [← Hv.out] at Hm4
 exact ⟨rfl, xW4.mono (fun b _ hb => hGF b hb), _, hd.put (r := ⟨s, r.v, ⟨r.f.data, r.f.data.length⟩⟩) xW4 hGF (fun y hy _ g hg e => Hmap.out.ne_own (hd.rows.own y hy) g hg (Eq.symm e)) hb4 (by simp only at hus; omega) hfits Hm4.out (.inl hmF)
  ((hd.rows.own r hrm.1).ext xW4 (fun g hg e => Hmap.out.ne_own (hd.rows.own r hrm.1) g hg (Eq.symm e))) (fun g hg => ⟨.inl (hd.rows.foot r hrm.1 g hg), fun y hy hne hyg => apart_sym hd.rows.apart hy hrm.1 (by rw [hsn]; exact hne) g hyg hg⟩)
  (by have := hd.names r hrm.1; rw [hsn] at this; unfold isNm; simpa using this) (by rw [length_rsPut_found HS.out]; exact hd.count)⟩
theorem Sync_ok (d : Nat) (F : Nat → Prop) (D : PDisk) (s : ByteArray) (w : World) (hd : DiskIs w d F D) (f : PFile) (hs : fsGet D.files s = some f) :
  Calls Tryz.prog 112 #[.pointer (some ⟨d, 0, none⟩), .string s] w fun e w' => e = .returned (.int .i64 0) ∧ Ext F w w' ∧ DiskIs w' d (Gr F w w') ⟨D.room, fsPut D.files s ⟨f.data, f.data.length⟩⟩ := by
 obtain ⟨mo, rs, hd, e⟩ := hd
 rw [e, rsGet_pf] at hs
 cases hr : rsGet rs s with
 | none => rw [hr] at hs; cases hs
 | some r =>
 rw [hr] at hs
 obtain rfl : r.f = f := by simpa using hs
 refine (Sync_at d F D.room mo rs s w hd r hr).mono ?_
 rintro e' w' ⟨h1, h2, mo', h3⟩
 exact ⟨h1, h2, mo', _, h3, by rw [rsPut_pf, e]⟩
end Go.Proofs.YtgglbholbkdgfaaGreatDoor
namespace Go.Proofs.YtgglbholbkdgfaaGreatDoor
open Go.RowKit
set_option maxRecDepth 100000 in
set_option maxHeartbeats 1000000 in
theorem Remove_none (d : Nat) (F : Nat → Prop) (room : Nat) (mo : Option Nat) (rs : List RFile) (s : ByteArray) (w : World) (hd : DiskAt w d F room mo rs) (hs : rsGet rs s = none) :
  Calls Tryz.prog 73 #[.pointer (some ⟨d, 0, none⟩), .string s] w fun e w' => e = .returned (.int .i64 7) ∧ Ext NoB w w' := by
 have hof := Lib.hid (of_none d F room mo rs s w hd hs)
 clear hd hs
 go_enter Tryz.func73, Tryz.ntmps73
 go_wp2_with fail
 refine hof.out.mono ?_; rintro e w1 ⟨rfl, x1⟩
 go_wp2_with fail
 go_ret
 exact ⟨rfl, x1.alloc _⟩
set_option maxRecDepth 100000 in
set_option maxHeartbeats 1000000 in
theorem Remove_at (d : Nat) (F : Nat → Prop) (room : Nat) (mo : Option Nat) (rs : List RFile) (s : ByteArray) (w : World) (hd : DiskAt w d F room mo rs) (r : RFile) (hs : rsGet rs s = some r) :
  Calls Tryz.prog 73 #[.pointer (some ⟨d, 0, none⟩), .string s] w fun e w' => e = .returned (.int .i64 0) ∧ Ext F w w' ∧
   ∃ mo', DiskAt w' d (Gr F w w') room mo' (rsDel rs s) ∧ Own w' 5 1 r.v (bytesV r.f.data) ∧ mo'.isSome = true := by
 obtain ⟨m, rfl, hmF, hmap⟩ := hd.mapSome hs
 have hof := Lib.hid (of_some d F room (some m) rs s w hd r hs)
 have hdl := lt_of_blk hd.blk
 have hown := hd.rows.own r (rsGet_mem hs).1
 obtain ⟨a, c, hv, hnv, hcm⟩ := RdB.shape (l := r.f.data) hown.rd
 rw [hv] at hof
 obtain ⟨us, hus⟩ : ∃ u, usedL (rs.map RFile.pf) = u := ⟨_, rfl⟩
 have hlB := used_mem (rsGet_mem hs).1
 have hfits := hd.fits
 have hr30 := hd.room30
 rw [hus] at hlB hfits
 have hw1 : IntKind.i64.wrap ((us : Int) - (r.f.data.length : Int)) = (us : Int) - (r.f.data.length : Int) := IntWalk.i64_in _ (by omega)
 have HD := Lib.hid hd
 have HS := Lib.hid hs
 have Hus := Lib.hid hus
 have Hmap := Lib.hid hmap
 have Hv := Lib.hid hv
 clear hd hs hmap hown hv hus
 go_enter Tryz.func73, Tryz.ntmps73
 go_wp2_with fail
 refine hof.out.mono ?_; rintro e w1 ⟨rfl, x1⟩
 go_wp2_with fail
 have x2 : Ext NoB w (w1.alloc (.cells #[.slice a r.f.data.length c, .int .i64 r.f.lasts] 109)) := x1.alloc _
 have b1 : (w1.alloc (.cells #[.slice a r.f.data.length c, .int .i64 r.f.lasts] 109)).heap[w1.heap.size]? = some (.cells #[.slice a r.f.data.length c, .int .i64 r.f.lasts] 109 (0, 0)) := blk_new w1 _
 generalize (w1.alloc (.cells #[.slice a r.f.data.length c, .int .i64 r.f.lasts] 109)) = W at x2 b1 ⊢
 obtain ⟨B, hB⟩ : ∃ B, w1.heap.size = B := ⟨_, rfl⟩
 rw [hB] at b1 ⊢
 clear hB
 have hblk := x2.blk HD.out.blk (fun h => h)
 rw [Hus.out] at hblk
 have d1 : W.cell? ⟨d, 1, none⟩ = some (.int .i64 us) := by rw [cell_of_blk hblk]; rfl
 have d2 : W.cell? ⟨d, 2, none⟩ = some (.map (some m)) := by rw [cell_of_blk hblk]; rfl
 have f1 : W.frozen? ⟨d, 1, none⟩ = false := frozen_of_blk hblk 1
 have g0 : W.cell? ⟨B, 0, none⟩ = some (.slice a r.f.data.length c) := by rw [cell_of_blk b1]; rfl
 have hm1 := Hmap.out.ext x2 (fun h => h)
 have Hm1 := Lib.hid hm1
 have Hblk := Lib.hid hblk
 clear hm1 b1
 go_still_tail 10, (by kernel_rfl)
 change wpList _ _ _ _ _ W.drew
 go_wp2_with (at_delete; refine wpList_del unMap unString rfl (.tmp 28) (.tmp 29) rfl (MapIs.setCell (w := W.drew) Hm1.out (Hm1.out.ne_blk Hblk.out) _) s rfl rfl ?_; intro w4 hm4 x4 hsz4; refine halt2 (fun _K HK => ?_))
 have Hm4 := Lib.hid hm4
 have Hx4 := Lib.hid x4
 clear hm4 x4 hsz4
 refine HK.out ?_; clear HK _K
 go_wp2_with fail
 go_ret
 have hd := HD.out
 have hrm := rsGet_mem HS.out
 have xW4 : Ext (fun b => b = d ∨ b = m) w w4 := (((x2.of_no).setCell (p := ⟨d, 1, none⟩) (.inl (.inl rfl)) (.int .i64 ((us : Int) - (r.f.data.length : Int)))).drew).next Hx4.out (fun x hx _ => .inr hx)
 have hGF : ∀ b, (b = d ∨ b = m) → F b := fun b hb => hb.elim (fun e => e ▸ hd.self) (fun e => e ▸ hmF)
 have hoff : ∀ y ∈ rs, Off (fun b => b = d ∨ b = m) y.v := fun y hy g hg hb => hb.elim (fun e => (hd.rows.own y hy).ne_blk hd.blk (by decide) g hg e.symm) (fun e => Hmap.out.ne_own (hd.rows.own y hy) g hg e.symm)
 have hus := used_del hd.nodup HS.out
 rw [Hus.out] at hus
 have hb4 : w4.heap[d]? = some (.cells #[.int .i64 room, .int .i64 (us - r.f.data.length : Nat), .map (some m)] 87 (0, 0)) := by
  have h1 : ((W.setCell ⟨d, 1, none⟩ (.int .i64 ((us : Int) - (r.f.data.length : Int)))).drew).heap[d]? = some (.cells (#[.int .i64 room, .int .i64 us, .map (some m)].setIfInBounds 1 (.int .i64 ((us : Int) - (r.f.data.length : Int)))) 87 (0, 0)) := blk_setCell Hblk.out 1 _
  have := Hx4.out.blk h1 (fun e => Hmap.out.ne_blk hd.blk (Eq.symm e))
  rw [this]
  have e : ((us - r.f.data.length : Nat) : Int) = (us : Int) - (r.f.data.length : Int) := by omega
  rw [e]; rfl
 exact ⟨rfl, xW4.mono (fun b _ hb => hGF b hb), _, hd.del xW4 hoff hb4 (by omega) (by omega) Hm4.out hmF, (hd.rows.own r hrm.1).ext xW4 (hoff r hrm.1), rfl⟩
theorem fsDel_none {fs : List (ByteArray × PFile)} {s : ByteArray} (h : fsGet fs s = none) : fsDel fs s = fs := by
 unfold fsDel
 rw [List.filter_eq_self]
 intro p hp
 unfold fsGet at h
 have := List.find?_eq_none.1 (Option.map_eq_none_iff.1 h) p hp
 simpa using this
theorem Remove_any (d : Nat) (F : Nat → Prop) (D : PDisk) (s : ByteArray) (w : World) (hd : DiskIs w d F D) :
  Calls Tryz.prog 73 #[.pointer (some ⟨d, 0, none⟩), .string s] w fun e w' => (∃ x, e = .returned (.int .i64 x)) ∧ Ext F w w' ∧ DiskIs w' d (Gr F w w') ⟨D.room, fsDel D.files s⟩ := by
 obtain ⟨mo, rs, hd, e⟩ := hd
 cases hr : rsGet rs s with
 | none =>
  refine (Remove_none d F D.room mo rs s w hd hr).mono ?_
  rintro e' w' ⟨h1, h2⟩
  have h3 := hd.no h2
  have hn : fsGet D.files s = none := by rw [e, rsGet_pf, hr]; rfl
  refine ⟨⟨_, h1⟩, h2.of_no, mo, rs, ⟨h3.blk, .inl h3.self, ?_, ⟨h3.rows.own, fun r hr g hg => .inl (h3.rows.foot r hr g hg), h3.rows.apart⟩, ?_, h3.room30, h3.fits, h3.names, h3.count⟩, by rw [fsDel_none hn]; exact e⟩
  ·rcases h3.map with h | ⟨m, h4, h5, h6⟩
   ·exact .inl h
   ·exact .inr ⟨m, h4, .inl h5, h6⟩
  ·intro b hb
   rcases hb with hb | hb
   ·exact h3.lt b hb
   ·exact hb.2
 | some r =>
  refine (Remove_at d F D.room mo rs s w hd r hr).mono ?_
  rintro e' w' ⟨h1, h2, mo', h3, _, _⟩
  exact ⟨⟨_, h1⟩, h2, mo', _, h3, by rw [rsDel_pf, e]⟩
end Go.Proofs.YtgglbholbkdgfaaGreatDoor
namespace Go.Proofs.YtgglbholbkdgfaaGreatDoor
open Go.RowKit
theorem field_file (x y : Value) (w : World) : (Instr.field 109 (.agg #[x, y]) 0).run Tryz.prog w = .ok x w := by kernel_rfl
set_option maxRecDepth 100000 in
set_option maxHeartbeats 1000000 in
theorem lay_at (d : Nat) (F : Nat → Prop) (room m : Nat) (rs : List RFile) (s : ByteArray) (v : Value) (f : PFile) (w : World) (hd : DiskAt w d F room (some m) rs) (old : Value) (oldn oldl : Nat)
  (hlook : (rsGet rs s = none ∧ old = .slice none 0 0 ∧ oldn = 0 ∧ oldl = 0) ∨ ∃ r, rsGet rs s = some r ∧ old = r.v ∧ oldn = r.f.data.length ∧ oldl = r.f.lasts)
  (ho : Own w 5 1 v (bytesV f.data)) (hv : ∀ g, v.ownBlock = some g → F g ∧ ∀ y ∈ rs, y.name ≠ s → y.v.ownBlock ≠ some g)
  (hn : isNm s = true) (hfit : f.data.length + usedL (rs.map RFile.pf) ≤ room + oldn) (hcnt : rs.length < 256) (hfl : f.data.length ≤ 1073741824) :
  Calls Tryz.prog 52 #[.pointer (some ⟨d, 0, none⟩), .string s, .agg #[v, .int .i64 f.lasts]] w fun e w' => e = .returned (.tuple #[]) ∧ Ext F w w' ∧
   DiskAt w' d (Gr F w w') room (some m) (rsPut rs ⟨s, v, f⟩) := by
 obtain ⟨hmF, hmap⟩ : F m ∧ MapIs w m (rs.map RFile.kv) := by
  rcases hd.map with ⟨h, _⟩ | ⟨m', h, h'⟩
  ·cases h
  ·cases h; exact h'
 obtain ⟨us, hus⟩ : ∃ u, usedL (rs.map RFile.pf) = u := ⟨_, rfl⟩
 have hblk := hd.blk
 have hfits := hd.fits
 rw [hus] at hfit hblk hfits
 have hr30 := hd.room30
 obtain ⟨a, c, rfl, hnv, hcm⟩ := RdB.shape (l := f.data) ho.rd
 have hus2 : us + f.data.length = usedL ((rsPut rs ⟨s, .slice a f.data.length c, f⟩).map RFile.pf) + oldn := by
  rcases hlook with ⟨h1, _, h2, _⟩ | ⟨r, h1, _, h2, _⟩
  ·rw [used_put_new (r := ⟨s, .slice a f.data.length c, f⟩) h1, hus, h2]; rfl
  ·have := used_put_found (r := ⟨s, .slice a f.data.length c, f⟩) hd.nodup h1
   rw [hus] at this; rw [h2]; simp only at this; omega
 have hold : oldn ≤ us := by
  rcases hlook with ⟨_, _, h2, _⟩ | ⟨r, h1, _, h2, _⟩
  ·omega
  ·have := used_mem (rsGet_mem h1).1; rw [hus] at this; omega
 obtain ⟨oa, oc, hov⟩ : ∃ oa oc, old = .slice oa oldn oc := by
  rcases hlook with ⟨_, h1, h2, _⟩ | ⟨r, h1, h2, h3, _⟩
  ·exact ⟨none, 0, by rw [h1, h2]⟩
  ·obtain ⟨a, c, hv, _⟩ := RdB.shape (l := r.f.data) (hd.rows.own r (rsGet_mem h1).1).rd
   exact ⟨a, c, by rw [h2, h3, hv]⟩
 have hl : ∀ w', Ext NoB w w' → (Instr.lookup 85 (.map (some m)) (.string s) false).run Tryz.prog w' = .ok (.agg #[.slice oa oldn oc, .int .i64 oldl]) w' := by
  intro w' x
  rw [← hov]
  rcases hlook with ⟨h1, h2, _, h3⟩ | ⟨r, h1, h2, _, h3⟩
  ·rw [h2, h3]; exact ((hd.look s).1 h1 w' x).2
  ·rw [h2, h3]; exact ((hd.look s).2 r h1 w' x).2
 have hcnt2 : (rsPut rs ⟨s, .slice a f.data.length c, f⟩).length ≤ 256 := by
  rcases hlook with ⟨h1, _⟩ | ⟨r, h1, _⟩
  ·rw [length_rsPut_new (r := ⟨s, .slice a f.data.length c, f⟩) h1]; omega
  ·rw [length_rsPut_found (r := ⟨s, .slice a f.data.length c, f⟩) h1]; omega
 have hw1 : IntKind.i64.wrap ((f.data.length : Int) - (oldn : Int)) = (f.data.length : Int) - (oldn : Int) := IntWalk.i64_in _ (by omega)
 have hw2 : IntKind.i64.wrap ((us : Int) + ((f.data.length : Int) - (oldn : Int))) = (us : Int) + ((f.data.length : Int) - (oldn : Int)) := IntWalk.i64_in _ (by omega)
 have hmn := fun (w : World) => run_eql_map_nil (P := Tryz.prog) w 85 _ _ (some m) unMap
 have c2 : w.cell? ⟨d, 2, none⟩ = some (.map (some m)) := by rw [cell_of_blk hblk]; rfl
 have hdl := lt_of_blk hblk
 have HL := Lib.hid hl
 have HD := Lib.hid hd
 have Hlook := Lib.hid hlook
 have Hus := Lib.hid hus
 have Hus2 := Lib.hid hus2
 have Hmap := Lib.hid hmap
 have Hblk := Lib.hid hblk
 have Ho := Lib.hid ho
 have Hv := Lib.hid hv
 clear hl hd hlook hus hus2 hmap hblk ho hv hov
 go_enter Tryz.func52, Tryz.ntmps52
 go_wp2_with fail
 have x1 : Ext NoB w (w.alloc (.cells #[.slice a f.data.length c, .int .i64 f.lasts] 109)) := (Ext.refl _ w).alloc _
 have b1 : (w.alloc (.cells #[.slice a f.data.length c, .int .i64 f.lasts] 109)).heap[w.heap.size]? = some (.cells #[.slice a f.data.length c, .int .i64 f.lasts] 109 (0, 0)) := blk_new w _
 generalize (w.alloc (.cells #[.slice a f.data.length c, .int .i64 f.lasts] 109)) = W at x1 b1 ⊢
 obtain ⟨B, hB⟩ : ∃ B, w.heap.size = B := ⟨_, rfl⟩
 rw [hB] at b1 ⊢ hdl
 have HB := Lib.hid hB
 clear hB c2
 have hblk := x1.blk Hblk.out (fun h => h)
 have d1 : W.cell? ⟨d, 1, none⟩ = some (.int .i64 us) := by rw [cell_of_blk hblk]; rfl
 have d2 : W.cell? ⟨d, 2, none⟩ = some (.map (some m)) := by rw [cell_of_blk hblk]; rfl
 have f1 : W.frozen? ⟨d, 1, none⟩ = false := frozen_of_blk hblk 1
 have g0 : W.cell? ⟨B, 0, none⟩ = some (.slice a f.data.length c) := by rw [cell_of_blk b1]; rfl
 have g1 : W.cell? ⟨B, 1, none⟩ = some (.int .i64 f.lasts) := by rw [cell_of_blk b1]; rfl
 have hlk := HL.out W.drew x1.drew
 have hfd := field_file
 have Hm1 := Lib.hid (Hmap.out.ext x1 (fun h => h))
 have Hblk1 := Lib.hid hblk
 have hdB : d ≠ B := Nat.ne_of_lt hdl
 have hBd : B ≠ d := Ne.symm hdB
 have Hb1 := Lib.hid b1
 clear hblk b1
 go_still_tail 19, (by kernel_rfl)
 change wpList _ _ _ _ _ W.drew
 go_wp2_with fail
 have X3 : Ext (fun b => b = d) W ((W.setCell ⟨d, 1, none⟩ (.int .i64 ((us : Int) + ((f.data.length : Int) - (oldn : Int))))).drew) := ((Ext.refl (fun b => b = d) W).setCell (p := ⟨d, 1, none⟩) (.inl rfl) _).drew
 have Hb3 : Hid (((W.setCell ⟨d, 1, none⟩ (.int .i64 ((us : Int) + ((f.data.length : Int) - (oldn : Int))))).drew).heap[B]? = some (.cells #[.slice a f.data.length c, .int .i64 f.lasts] 109 (0, 0))) := Lib.hid (blk_setCell_ne Hb1.out (p := ⟨d, 1, none⟩) hBd _)
 have Hd3 := Lib.hid (blk_setCell Hblk1.out 1 (.int .i64 ((us : Int) + ((f.data.length : Int) - (oldn : Int)))))
 have Hd3 : Hid (((W.setCell ⟨d, 1, none⟩ (.int .i64 ((us : Int) + ((f.data.length : Int) - (oldn : Int))))).drew).heap[d]? = _) := Hd3
 generalize ((W.setCell ⟨d, 1, none⟩ (.int .i64 ((us : Int) + ((f.data.length : Int) - (oldn : Int))))).drew) = w3 at Hb3 Hd3 X3 ⊢
 simp at Hd3
 have hm3 : MapIs w3 m (rs.map RFile.kv) := Hm1.out.ext X3 (Hm1.out.ne_blk Hblk1.out)
 clear g0 g1 d1 d2 f1
 have g0 : w3.cell? ⟨B, 0, none⟩ = some (.slice a f.data.length c) := by rw [cell_of_blk Hb3.out]; rfl
 have g1 : w3.cell? ⟨B, 1, none⟩ = some (.int .i64 f.lasts) := by rw [cell_of_blk Hb3.out]; rfl
 have d2 : w3.cell? ⟨d, 2, none⟩ = some (.map (some m)) := by rw [cell_of_blk Hd3.out]; rfl
 have hm3' : MapIs w3.drew m (rs.map RFile.kv) := hm3
 obtain ⟨w4, hput, hm4, x4, hsz4⟩ := run_put (P := Tryz.prog) unMap unString hm3' s (.agg #[.slice a f.data.length c, .int .i64 f.lasts])
 have Hm4 := Lib.hid hm4
 have Hx4 := Lib.hid x4
 have Hm3 := Lib.hid hm3
 have HX3 := Lib.hid X3
 clear hm4 x4 hsz4 hm3 hm3' X3
 go_still_tail 6, (by kernel_rfl)
 change wpList _ _ _ _ _ w3.drew
 go_wp2_with fail
 go_end0
 have hd := HD.out
 have xW4 : Ext (fun b => b = d ∨ b = m) w w4 := (((x1.of_no).next HX3.out (fun x hx _ => .inl hx)).drew).next Hx4.out (fun x hx _ => .inr hx)
 have hGF : ∀ b, (b = d ∨ b = m) → F b := fun b hb => hb.elim (fun e => e ▸ hd.self) (fun e => e ▸ hmF)
 have hoff' : ∀ y ∈ rs, y.name ≠ s → Off (fun b => b = d ∨ b = m) y.v := by
  intro y hy hne g hg hb
  rcases hb with rfl | rfl
  ·exact (hd.rows.own y hy).ne_blk hd.blk (by decide) g hg rfl
  ·exact Hmap.out.ne_own (hd.rows.own y hy) g hg rfl
 have hoffv : Off (fun b => b = d ∨ b = m) (.slice a f.data.length c) := by
  intro g hg hb
  rcases hb with rfl | rfl
  ·exact Ho.out.ne_blk hd.blk (by decide) g hg rfl
  ·exact Hmap.out.ne_own Ho.out g hg rfl
 have hus2 := Hus2.out
 have hb4 : w4.heap[d]? = some (.cells #[.int .i64 room, .int .i64 (us + f.data.length - oldn : Nat), .map (some m)] 87 (0, 0)) := by
  have hd3 : w3.drew.heap[d]? = some (.cells #[.int .i64 room, .int .i64 ((us : Int) + ((f.data.length : Int) - (oldn : Int))), .map (some m)] 87 (0, 0)) := Hd3.out
  have := Hx4.out.blk hd3 (fun e => Hm3.out.ne_blk Hd3.out (Eq.symm e))
  rw [this]
  have e : ((us + f.data.length - oldn : Nat) : Int) = (us : Int) + ((f.data.length : Int) - (oldn : Int)) := by omega
  rw [e]
 exact ⟨rfl, xW4.mono (fun b _ hb => hGF b hb), hd.put (r := ⟨s, .slice a f.data.length c, f⟩) xW4 hGF hoff' hb4 (by omega) (by omega) Hm4.out (.inl hmF) (Ho.out.ext xW4 hoffv) (fun g hg => ⟨.inl (Hv.out g hg).1, (Hv.out g hg).2⟩) hn hcnt2⟩
end Go.Proofs.YtgglbholbkdgfaaGreatDoor
namespace Go.Proofs.YtgglbholbkdgfaaGreatDoor
open Go.RowKit
theorem DiskAt.wider {w : World} {d : Nat} {F F' : Nat → Prop} {room : Nat} {mo : Option Nat} {rs : List RFile} (h : DiskAt w d F room mo rs) (hF : ∀ b, F b → F' b) (hlt : ∀ b, F' b → b < w.heap.size) : DiskAt w d F' room mo rs :=
 ⟨h.blk, hF _ h.self, by rcases h.map with h | ⟨m, h1, h2, h3⟩; exact .inl h; exact .inr ⟨m, h1, hF _ h2, h3⟩, ⟨h.rows.own, fun r hr g hg => hF _ (h.rows.foot r hr g hg), h.rows.apart⟩, hlt, h.room30, h.fits, h.names, h.count⟩
theorem DiskIs.wider {w : World} {d : Nat} {F F' : Nat → Prop} {D : PDisk} (h : DiskIs w d F D) (hF : ∀ b, F b → F' b) (hlt : ∀ b, F' b → b < w.heap.size) : DiskIs w d F' D := by
 obtain ⟨mo, rs, h, e⟩ := h
 exact ⟨mo, rs, h.wider hF hlt, e⟩
theorem look_cases (rs : List RFile) (s : ByteArray) : ∃ old oldn oldl, (rsGet rs s = none ∧ old = Value.slice none 0 0 ∧ oldn = 0 ∧ oldl = 0) ∨ ∃ r, rsGet rs s = some r ∧ old = r.v ∧ oldn = r.f.data.length ∧ oldl = r.f.lasts := by
 cases h : rsGet rs s with
 | none => exact ⟨_, _, _, .inl ⟨rfl, rfl, rfl, rfl⟩⟩
 | some r => exact ⟨_, _, _, .inr ⟨r, rfl, rfl, rfl, rfl⟩⟩
set_option maxRecDepth 100000 in
set_option maxHeartbeats 1000000 in
theorem Rename_at (d : Nat) (F : Nat → Prop) (D : PDisk) (s s' : ByteArray) (w : World) (hd : DiskIs w d F D) (f : PFile) (hs : fsGet D.files s = some f) (hne : s ≠ s') (hn : isNm s' = true) :
  Calls Tryz.prog 114 #[.pointer (some ⟨d, 0, none⟩), .string s, .string s'] w fun e w' => e = .returned (.int .i64 0) ∧ Ext F w w' ∧
   DiskIs w' d (Gr F w w') ⟨D.room, fsPut (fsDel D.files s) s' f⟩ := by
 obtain ⟨mo, rs, hd, he⟩ := hd
 rw [he, rsGet_pf] at hs
 obtain ⟨r, hr, rfl⟩ : ∃ r, rsGet rs s = some r ∧ r.f = f := by
  cases hr : rsGet rs s with
  | none => rw [hr] at hs; cases hs
  | some r => rw [hr] at hs; exact ⟨r, rfl, by simpa using hs⟩
 have hof := fun w' (x : Ext NoB w w') => of_some d F D.room mo rs s w' (hd.no x) r hr
 have hown := hd.rows.own r (rsGet_mem hr).1
 obtain ⟨a, c, hv, hnv, hcm⟩ := RdB.shape (l := r.f.data) hown.rd
 rw [hv] at hof
 have hss : (s.toList == s'.toList) = false := by
  rw [ByteArray.toList_eq, ByteArray.toList_eq]
  refine beq_false_of_ne (fun h => hne ?_)
  cases s; cases s'
  simpa using congrArg List.toArray h
 have HD := Lib.hid hd
 have HR := Lib.hid hr
 have He := Lib.hid he
 have HO := Lib.hid hof
 have HV := Lib.hid hv
 clear hd hs hr he hof hown hv
 go_enter Tryz.func114, Tryz.ntmps114
 go_wp2_with fail
 refine (isName_any s' _).mono ?_; rintro e w1 ⟨rfl, rfl⟩
 rw [hn]
 go_wp2_with fail
 refine (HO.out w (Ext.refl _ w)).mono ?_; rintro e w1 ⟨rfl, x1⟩
 go_wp2_with fail
 have x2 : Ext NoB w (w1.alloc (.cells #[.slice a r.f.data.length c, .int .i64 r.f.lasts] 109)) := x1.alloc _
 have b1 : (w1.alloc (.cells #[.slice a r.f.data.length c, .int .i64 r.f.lasts] 109)).heap[w1.heap.size]? = some (.cells #[.slice a r.f.data.length c, .int .i64 r.f.lasts] 109 (0, 0)) := blk_new w1 _
 generalize (w1.alloc (.cells #[.slice a r.f.data.length c, .int .i64 r.f.lasts] 109)) = W at x2 b1 ⊢
 obtain ⟨B, hB⟩ : ∃ B, w1.heap.size = B := ⟨_, rfl⟩
 rw [hB] at b1 ⊢
 have HB := Lib.hid (show w.heap.size ≤ B from hB ▸ x1.size)
 have HB2 := Lib.hid b1
 clear hB b1 x1
 refine (Remove_at d F D.room mo rs s W (HD.out.no x2) r HR.out).mono ?_
 rintro e w3 ⟨rfl, x3, mo', d3, o3, hm3⟩
 obtain ⟨m, rfl⟩ := Option.isSome_iff_exists.1 hm3
 have b3 := x3.blk HB2.out (fun h => absurd (HD.out.lt B h) (Nat.not_lt.2 HB.out))
 have g0 : w3.cell? ⟨B, 0, none⟩ = some (.slice a r.f.data.length c) := by rw [cell_of_blk b3]; rfl
 have g1 : w3.cell? ⟨B, 1, none⟩ = some (.int .i64 r.f.lasts) := by rw [cell_of_blk b3]; rfl
 clear b3 hm3
 have D3 := Lib.hid d3
 have O3 := Lib.hid o3
 have X3 := Lib.hid x3
 have X2 := Lib.hid x2
 clear d3 o3 x3 x2
 go_wp2_with fail
 have hd := HD.out
 have hr := HR.out
 have hrm := rsGet_mem hr
 have d3 := D3.out
 have hdel : (rsDel rs s).length < 256 := by
  have h1 : (rsDel rs s).length < rs.length := by
   unfold rsDel
   rw [List.length_filter_lt_length_iff_exists]
   exact ⟨r, hrm.1, by simp [hrm.2]⟩
  have := hd.count
  omega
 obtain ⟨old, oldn, oldl, hlook⟩ := look_cases (rsDel rs s) s'
 have hus := used_del hd.nodup hr
 have hfits := hd.fits
 have hr30 := hd.room30
 have h4 := lay_at d _ D.room m (rsDel rs s) s' r.v r.f w3 d3 old oldn oldl hlook O3.out ?_ hn (by omega) hdel (by omega)
 ·rw [HV.out] at h4
  refine h4.mono ?_
  rintro e w4 ⟨rfl, x4, d4⟩
  have X4 := Lib.hid x4
  have D4 := Lib.hid d4
  clear x4 d4 h4 d3 hd hr hrm hlook hus
  go_wp2_with fail
  go_ret
  have x3 := X3.out
  have x2 := X2.out
  have xW : Ext F w w4 := ((x2.of_no).trans x3).next X4.out (fun b hb hl => hb.elim id (fun h => by have := x2.size; omega))
  refine ⟨rfl, xW, _, _, D4.out.wider (F' := Gr F w w4) ?_ ?_, ?_⟩
  ·intro b hb
   have h1 := x2.size; have h3 := x3.size; have h4 := X4.out.size
   rcases hb with (hb | hb) | hb
   ·exact .inl hb
   ·exact .inr (by omega)
   ·exact .inr (by omega)
  ·intro b hb
   rcases hb with hb | hb
   ·exact Nat.lt_of_lt_of_le (HD.out.lt b hb) xW.size
   ·exact hb.2
  ·show fsPut (fsDel D.files s) s' r.f = _
   rw [rsPut_pf, rsDel_pf, He.out]
 ·intro g hg
  refine ⟨.inl (hd.rows.foot r hrm.1 g hg), fun y hy _ => ?_⟩
  have hy' : y ∈ rs ∧ y.name ≠ s := by
   unfold rsDel at hy
   simpa using hy
  have := apart_sym hd.rows.apart hrm.1 hy'.1 (by rw [hrm.2]; exact Ne.symm hy'.2) g hg
  exact this
end Go.Proofs.YtgglbholbkdgfaaGreatDoor
namespace Go.Proofs.YtgglbholbkdgfaaGreatDoor
open Go.RowKit
theorem alloc_facts (w : World) (o : Obj) : ∃ W B, w.alloc o = W ∧ w.heap.size = B ∧ Ext NoB w W ∧ W.heap[B]? = some o ∧ W.heap.size = B + 1 :=
 ⟨_, _, rfl, rfl, (Ext.refl _ w).alloc _, blk_new w o, by simp⟩
theorem fsGet_put (fs : List (ByteArray × PFile)) (s : ByteArray) (f : PFile) : fsGet (fsPut fs s f) s = some f := by
 unfold fsPut
 cases h : fsGet fs s with
 | none =>
  simp only [Option.isSome_none, Bool.false_eq_true, if_false]
  unfold fsGet at h ⊢
  rw [List.find?_append]
  have h' : fs.find? (fun p => decide (p.1 = s)) = none := by simpa using h
  rw [h']
  simp
 | some g =>
  simp only [Option.isSome_some, if_true]
  unfold fsGet at h ⊢
  induction fs with
  | nil => cases h
  | cons p fs ih =>
   simp only [List.map_cons, List.find?_cons] at h ⊢
   by_cases e : p.1 = s
   ·simp [e]
   ·simp only [e, if_false, decide_false] at h ⊢
    exact ih h
theorem fsDel_put (fs : List (ByteArray × PFile)) (s : ByteArray) (f : PFile) : fsDel (fsPut fs s f) s = fsDel fs s := by
 have h : fsDel (fs.map (fun p => if p.1 = s then (s, f) else p)) s = fsDel fs s := by
  unfold fsDel
  induction fs with
  | nil => rfl
  | cons p fs ih => by_cases e : p.1 = s <;> simp_all
 unfold fsPut
 split
 ·exact h
 ·unfold fsDel; simp
theorem fsDel_del (fs : List (ByteArray × PFile)) (s : ByteArray) : fsDel (fsDel fs s) s = fsDel fs s := by
 unfold fsDel
 simp
theorem fsGet_del (fs : List (ByteArray × PFile)) (s : ByteArray) : fsGet (fsDel fs s) s = none := by
 unfold fsGet fsDel
 simp
abbrev tilde : ByteArray := { data := #[126] }
theorem save1 (d B3 B9 B7 : Nat) (s : ByteArray) (v : Value) (w : World) (a : Option Addr) (n c : Nat) (hv : v = .slice a n c)
  (h3 : w.cell? ⟨B3, 0, none⟩ = some (.pointer (some ⟨d, 0, none⟩))) (h9 : w.cell? ⟨B9, 0, none⟩ = some (.string s)) (h7 : w.cell? ⟨B7, 0, none⟩ = some v) (R : World → Prop)
  (h : Calls Tryz.prog 110 #[.pointer (some ⟨d, 0, none⟩), .string s, v] w fun e w' => e = .returned (.int .i64 0) ∧ R w') :
  Calls Tryz.prog 109 #[.pointer (some ⟨B3, 0, none⟩), .pointer (some ⟨B9, 0, none⟩), .pointer (some ⟨B7, 0, none⟩)] w fun e w' => e = .returned (.int .i64 0) ∧ R w' := by
 subst hv
 have H := Lib.hid h
 clear h
 go_enter Tryz.func109, Tryz.ntmps109
 go_wp2_with fail
 refine H.out.mono ?_; rintro e w1 ⟨rfl, x1⟩
 go_wp2_with fail
 go_ret
 exact ⟨rfl, x1⟩
theorem save2 (d B3 B9 : Nat) (s : ByteArray) (w : World)
  (h3 : w.cell? ⟨B3, 0, none⟩ = some (.pointer (some ⟨d, 0, none⟩))) (h9 : w.cell? ⟨B9, 0, none⟩ = some (.string s)) (R : World → Prop)
  (h : Calls Tryz.prog 112 #[.pointer (some ⟨d, 0, none⟩), .string s] w fun e w' => e = .returned (.int .i64 0) ∧ R w') :
  Calls Tryz.prog 111 #[.pointer (some ⟨B3, 0, none⟩), .pointer (some ⟨B9, 0, none⟩)] w fun e w' => e = .returned (.int .i64 0) ∧ R w' := by
 have H := Lib.hid h
 clear h
 go_enter Tryz.func111, Tryz.ntmps111
 go_wp2_with fail
 refine H.out.mono ?_; rintro e w1 ⟨rfl, x1⟩
 go_wp2_with fail
 go_ret
 exact ⟨rfl, x1⟩
theorem save3 (d B3 B9 B4 : Nat) (s s' : ByteArray) (w : World)
  (h3 : w.cell? ⟨B3, 0, none⟩ = some (.pointer (some ⟨d, 0, none⟩))) (h9 : w.cell? ⟨B9, 0, none⟩ = some (.string s)) (h4 : w.cell? ⟨B4, 0, none⟩ = some (.string s')) (R : World → Prop)
  (h : Calls Tryz.prog 114 #[.pointer (some ⟨d, 0, none⟩), .string s, .string s'] w fun e w' => e = .returned (.int .i64 0) ∧ R w') :
  Calls Tryz.prog 113 #[.pointer (some ⟨B3, 0, none⟩), .pointer (some ⟨B9, 0, none⟩), .pointer (some ⟨B4, 0, none⟩)] w fun e w' => e = .returned (.int .i64 0) ∧ R w' := by
 have H := Lib.hid h
 clear h
 go_enter Tryz.func113, Tryz.ntmps113
 go_wp2_with fail
 refine H.out.mono ?_; rintro e w1 ⟨rfl, x1⟩
 go_wp2_with fail
 go_ret
 exact ⟨rfl, x1⟩
set_option maxRecDepth 100000 in
set_option maxHeartbeats 1000000 in
theorem Save_ok (d : Nat) (F : Nat → Prop) (D : PDisk) (s : ByteArray) (p : Value) (l : List UInt8) (w : World) (hd : DiskIs w d F D) (hp : RdB w p l) (hl : l.length ≤ 1048576) (hs : 1 ≤ s.size ∧ s.size ≤ 63)
  (hfit : l.length + 8 + usedL (fsDel D.files (s ++ tilde)) ≤ D.room) (hcnt : (fsDel D.files (s ++ tilde)).length < 256) :
  Calls Tryz.prog 85 #[.pointer (some ⟨d, 0, none⟩), .string s, p] w fun e w' => e = .returned (.int .i64 0) ∧ Ext F w w' ∧
   DiskIs w' d (Gr F w w') ⟨D.room, fsPut (fsDel D.files (s ++ tilde)) s ⟨enc l, (enc l).length⟩⟩ := by
 obtain ⟨a, c, rfl, hn, hc⟩ := hp.shape
 have henc := fun w' (x : Ext NoB w w') => Encode_any (.slice a l.length c) l w' (Rd.no hp x) hl
 have HD := Lib.hid hd
 have HE := Lib.hid henc
 have hmf : ∀ (fn : Fn) (first cap : Array Value) (w : World), (Instr.makeFunc fn first cap).run Tryz.prog w = .ok (.func fn first cap) w := fun _ _ _ _ => rfl
 clear hd hp henc
 go_enter Tryz.func85, Tryz.ntmps85
 go_wp2_with fail
 have x1 : Ext NoB w ((w.alloc (.cells #[.pointer (some ⟨d, 0, none⟩)] 23)).alloc (.cells #[.string s] 9)) := ((Ext.refl _ w).alloc _).alloc _
 have b3 : ((w.alloc (.cells #[.pointer (some ⟨d, 0, none⟩)] 23)).alloc (.cells #[.string s] 9)).heap[w.heap.size]? = some (.cells #[.pointer (some ⟨d, 0, none⟩)] 23 (0, 0)) := blk_alloc (blk_new w _) _
 have b4 : ((w.alloc (.cells #[.pointer (some ⟨d, 0, none⟩)] 23)).alloc (.cells #[.string s] 9)).heap[w.heap.size + 1]? = some (.cells #[.string s] 9 (0, 0)) := by
  have := blk_new (w.alloc (.cells #[.pointer (some ⟨d, 0, none⟩)] 23)) (.cells #[.string s] 9)
  simpa using this
 generalize ((w.alloc (.cells #[.pointer (some ⟨d, 0, none⟩)] 23)).alloc (.cells #[.string s] 9)) = w1 at x1 b3 b4 ⊢
 obtain ⟨B3, hB3⟩ : ∃ B, w.heap.size = B := ⟨_, rfl⟩
 obtain ⟨B4, hB4⟩ : ∃ B, w.heap.size + 1 = B := ⟨_, rfl⟩
 rw [hB3] at b3 ⊢
 rw [← hB3, hB4]
 rw [hB4] at b4
 rw [hB3]
 refine (HE.out w1 x1).mono ?_; rintro e w2 ⟨v2, rfl, o2, f2, x2⟩
 obtain ⟨a2, c2, rfl, hn2, hc2⟩ := RdB.shape (l := enc l) o2.rd
 have b3 := x2.blk b3 (fun h => h)
 have b4 := x2.blk b4 (fun h => h)
 have c3 : w2.cell? ⟨B3, 0, none⟩ = some (.pointer (some ⟨d, 0, none⟩)) := by rw [cell_of_blk b3]; rfl
 have c4 : w2.cell? ⟨B4, 0, none⟩ = some (.string s) := by rw [cell_of_blk b4]; rfl
 have l3 := lt_of_blk b3
 have l4 := lt_of_blk b4
 have HB3 := Lib.hid b3
 have HB4 := Lib.hid b4
 have HO2 := Lib.hid o2
 have HF2 := Lib.hid f2
 have HX2 := Lib.hid (x1.trans x2)
 have HX1 := Lib.hid x1
 have HhB3 := Lib.hid hB3
 have HhB4 := Lib.hid hB4
 clear x1 b3 b4 o2 f2 x2 hB3 hB4
 go_wp2_with fail
 obtain ⟨W4, B7, e1, e2, x4, b7, hs4⟩ := alloc_facts w2 (.cells #[.slice a2 (enc l).length c2] 35)
 obtain ⟨W5, B9, e3, e4, x5, b9, hs5⟩ := alloc_facts W4 (.cells #[.string (s ++ tilde)] 9)
 rw [hs4] at e4
 rw [e1, e2, e3, e4]
 have b3 := x5.blk (x4.blk HB3.out (fun h => h)) (fun h => h)
 have b4 := x5.blk (x4.blk HB4.out (fun h => h)) (fun h => h)
 have b7 := x5.blk b7 (fun h => h)
 have o5 := (HO2.out.no x4).no x5
 have xw5 := (HX2.out.trans x4).trans x5
 have hd5 := HD.out.no xw5
 have HD5 := Lib.hid hd5
 have hsz : w.heap.size ≤ B7 := e2 ▸ HX2.out.size
 have hF : ∀ b, F b → b < w.heap.size := HD.out.lt
 have hB3 := HhB3.out
 have hB4 := HhB4.out
 refine (Remove_any d F D (s ++ tilde) W5 hd5).mono ?_; rintro e w6 ⟨⟨xr, rfl⟩, x6, d6⟩
 have b3 := x6.blk b3 (fun h => by have := hF _ h; omega)
 have b4 := x6.blk b4 (fun h => by have := hF _ h; omega)
 have b7 := x6.blk b7 (fun h => by have := hF _ h; omega)
 have b9 := x6.blk b9 (fun h => by have := hF _ h; omega)
 have o6 := o5.ext x6 (fun g hg h => by have := HF2.out g hg; have := hF _ h; have := HX1.out.size; omega)
 clear c3 c4 l3 l4
 have c3 : w6.cell? ⟨B3, 0, none⟩ = some (.pointer (some ⟨d, 0, none⟩)) := by rw [cell_of_blk b3]; rfl
 have c9 : w6.cell? ⟨B9, 0, none⟩ = some (.string (s ++ tilde)) := by rw [cell_of_blk b9]; rfl
 have HB3 := Lib.hid b3
 have HB4 := Lib.hid b4
 have HB7 := Lib.hid b7
 have HB9 := Lib.hid b9
 have HO6 := Lib.hid o6
 have HD6 := Lib.hid d6
 have HX5 := Lib.hid xw5
 have HX6 := Lib.hid x6
 have HsF := Lib.hid hF
 have HhB := Lib.hid (And.intro hB3 (And.intro hB4 (And.intro hsz (And.intro e4 (And.intro hs5 e2)))))
 clear b3 b4 b7 b9 o6 d6 xw5 x6 hF hB3 hB4 hsz e1 e2 e3 e4 hs4 hs5 x4 x5 o5 hd5
 go_wp2_with fail
 obtain ⟨W7, BF, e1, e2, x7, bF, hs7⟩ := alloc_facts w6 (.cells #[.func (.func 109) #[] #[.pointer (some ⟨B3, 0, none⟩), .pointer (some ⟨B9, 0, none⟩), .pointer (some ⟨B7, 0, none⟩)],
  .func (.func 111) #[] #[.pointer (some ⟨B3, 0, none⟩), .pointer (some ⟨B9, 0, none⟩)], .func (.func 113) #[] #[.pointer (some ⟨B3, 0, none⟩), .pointer (some ⟨B9, 0, none⟩), .pointer (some ⟨B4, 0, none⟩)]] 159)
 rw [e1, e2]
 have b3 := x7.blk HB3.out (fun h => h)
 have b7 := x7.blk HB7.out (fun h => h)
 have b9 := x7.blk HB9.out (fun h => h)
 obtain ⟨hB3, hB4, hsz, e4, hs5, hs2⟩ := HhB.out
 have hF := HsF.out
 have h69 : B9 < BF := by have := HX6.out.size; omega
 have hww : w.heap.size ≤ W7.heap.size := by omega
 obtain ⟨G, hGd⟩ : ∃ G : Nat → Nat → Prop, G = fun k b => F b ∨ (B9 < b ∧ b ≠ BF ∧ b < k) := ⟨_, rfl⟩
 have hGn : ∀ k, ¬ G k B3 ∧ ¬ G k B4 ∧ ¬ G k B7 ∧ ¬ G k B9 ∧ ¬ G k BF := by
  intro k
  subst hGd
  have hF' : ∀ b, w.heap.size ≤ b → (b ≤ B9 ∨ b = BF) → ¬ (F b ∨ (B9 < b ∧ b ≠ BF ∧ b < k)) := by
   intro b h1 h2 h
   rcases h with h | h
   ·have := hF _ h; omega
   ·omega
  exact ⟨hF' _ (by omega) (by omega), hF' _ (by omega) (by omega), hF' _ (by omega) (by omega), hF' _ (by omega) (by omega), hF' _ (by omega) (by omega)⟩
 have hGv : ∀ k, Off (G k) (.slice a2 (enc l).length c2) := by
  intro k g hg h
  have h1 := HF2.out g hg
  have h2 := HX1.out.size
  have h3 := HO2.out.lt g hg
  subst hGd
  rcases h with h | h
  ·have := hF _ h; omega
  ·have := HX2.out.size; omega
 have hGw : ∀ k b, b < w.heap.size → G k b → F b := by
  intro k b hb h
  subst hGd
  exact h.elim id (fun h => by omega)
 have hd7 : DiskIs W7 d (G BF) ⟨D.room, fsDel D.files (s ++ tilde)⟩ := (HD6.out.no x7).wider (by
  subst hGd
  rintro b (h | h)
  ·exact .inl h
  ·exact .inr (by omega)) (by
  subst hGd
  rintro b (h | h)
  ·have := hF _ h; omega
  ·omega)
 have hst : ∀ k W W' D', k ≤ W.heap.size → BF < W.heap.size → Ext (G k) W W' → DiskIs W' d (Gr (G k) W W') D' → DiskIs W' d (G W'.heap.size) D' := by
  subst hGd
  intro k W W' D' h1 h2 x h
  have := x.size
  refine h.wider ?_ ?_
  ·rintro b ((h | h) | h)
   ·exact .inl h
   ·exact .inr (by omega)
   ·exact .inr (by omega)
  ·rintro b (h | h)
   ·have := hF _ h; omega
   ·omega
 have hnm : isNm (s ++ tilde) = true := by
  unfold isNm
  have : (s ++ tilde).size = s.size + 1 := by rw [ByteArray.size_append]; rfl
  simp only [this, decide_eq_true_eq]
  omega
 have o7 := HO6.out.no x7
 have h8 := Append_ok d (G BF) ⟨D.room, fsDel D.files (s ++ tilde)⟩ (s ++ tilde) _ (enc l) W7 hd7 o7.rd (hGv _) hnm (by rw [enc_length]; exact hfit) hcnt
 clear c3 c9
 have c3 : W7.cell? ⟨B3, 0, none⟩ = some (.pointer (some ⟨d, 0, none⟩)) := by rw [cell_of_blk b3]; rfl
 have c9 : W7.cell? ⟨B9, 0, none⟩ = some (.string (s ++ tilde)) := by rw [cell_of_blk b9]; rfl
 have c7 : W7.cell? ⟨B7, 0, none⟩ = some (.slice a2 (enc l).length c2) := by rw [cell_of_blk b7]; rfl
 have cF : W7.cell? ⟨BF, 0, none⟩ = some (.func (.func 109) #[] #[.pointer (some ⟨B3, 0, none⟩), .pointer (some ⟨B9, 0, none⟩), .pointer (some ⟨B7, 0, none⟩)]) := by rw [cell_of_blk bF]; rfl
 have H8 := Lib.hid (save1 d B3 B9 B7 (s ++ tilde) _ W7 a2 _ c2 rfl c3 c9 c7 _ h8)
 have HB4 := Lib.hid (x7.blk HB4.out (fun h => h))
 have HB3 := Lib.hid b3
 have HB9 := Lib.hid b9
 have HBF := Lib.hid bF
 have HGn := Lib.hid hGn
 have HGw := Lib.hid hGw
 have Hst := Lib.hid hst
 have Hs7 := Lib.hid (And.intro hs7 (And.intro h69 hww))
 have HW7 := Lib.hid (((HX5.out.of_no (F := F)).trans HX6.out).trans (x7.of_no))
 have Hsh := Lib.hid hnm
 clear c3 c9 c7 b3 b7 b9 bF hGn hGw hst hs7 h69 hww h8 hd7 hGv hGd o7 hnm hF hB3 hB4 hsz e4 hs5 hs2 e1 e2 x7 hfit hcnt
 refine wp_loop_rounds 4 ?_
 rw [rounds_succ]
 go_wp2_with fail
 refine H8.out.mono ?_; rintro e w8 ⟨rfl, x8, d8⟩
 rw [fsGet_del] at d8
 have hnn := HGn.out
 obtain ⟨hs7, h69, hww⟩ := Hs7.out
 have b3 := x8.blk HB3.out (hnn _).1
 have b9 := x8.blk HB9.out (hnn _).2.2.2.1
 have bF := x8.blk HBF.out (hnn _).2.2.2.2
 have d8 := Hst.out _ _ _ _ (by omega) (by omega) x8 d8
 have h9 := Sync_ok d _ _ (s ++ tilde) w8 d8 _ (fsGet_put _ _ _)
 have c3 : w8.cell? ⟨B3, 0, none⟩ = some (.pointer (some ⟨d, 0, none⟩)) := by rw [cell_of_blk b3]; rfl
 have c9 : w8.cell? ⟨B9, 0, none⟩ = some (.string (s ++ tilde)) := by rw [cell_of_blk b9]; rfl
 have cF : w8.cell? ⟨BF, 1, none⟩ = some (.func (.func 111) #[] #[.pointer (some ⟨B3, 0, none⟩), .pointer (some ⟨B9, 0, none⟩)]) := by rw [cell_of_blk bF]; rfl
 have H9 := Lib.hid (save2 d B3 B9 (s ++ tilde) w8 c3 c9 _ h9)
 have HB8_4 := Lib.hid (x8.blk HB4.out (hnn _).2.1)
 have HB8_3 := Lib.hid b3
 have HB8_9 := Lib.hid b9
 have HB8_F := Lib.hid bF
 have HX8 := Lib.hid (HW7.out.next x8 (fun b h1 h2 => HGw.out _ b h2 h1))
 have Hs8 := Lib.hid x8.size
 clear c3 c9 b3 b9 bF d8 h9 x8 hnn hs7 h69 hww
 go_wp2_with fail
 rw [rounds_succ]
 go_wp2_with fail
 refine H9.out.mono ?_; rintro e w9 ⟨rfl, x9, d9⟩
 have hnn := HGn.out
 obtain ⟨hs7, h69, hww⟩ := Hs7.out
 have hs8 := Hs8.out
 have b3 := x9.blk HB8_3.out (hnn _).1
 have b4 := x9.blk HB8_4.out (hnn _).2.1
 have b9 := x9.blk HB8_9.out (hnn _).2.2.2.1
 have bF := x9.blk HB8_F.out (hnn _).2.2.2.2
 have d9 := Hst.out _ _ _ _ (by omega) (by omega) x9 d9
 have hne : s ++ tilde ≠ s := by
  intro e
  have := congrArg ByteArray.size e
  rw [ByteArray.size_append] at this
  have h1 : tilde.size = 1 := rfl
  omega
 have h10 := Rename_at d _ _ (s ++ tilde) s w9 d9 _ (fsGet_put _ _ _) hne (by unfold isNm; simp only [decide_eq_true_eq]; omega)
 have c3 : w9.cell? ⟨B3, 0, none⟩ = some (.pointer (some ⟨d, 0, none⟩)) := by rw [cell_of_blk b3]; rfl
 have c9 : w9.cell? ⟨B9, 0, none⟩ = some (.string (s ++ tilde)) := by rw [cell_of_blk b9]; rfl
 have c4 : w9.cell? ⟨B4, 0, none⟩ = some (.string s) := by rw [cell_of_blk b4]; rfl
 have cF : w9.cell? ⟨BF, 2, none⟩ = some (.func (.func 113) #[] #[.pointer (some ⟨B3, 0, none⟩), .pointer (some ⟨B9, 0, none⟩), .pointer (some ⟨B4, 0, none⟩)]) := by rw [cell_of_blk bF]; rfl
 have H10 := Lib.hid (save3 d B3 B9 B4 (s ++ tilde) s w9 c3 c9 c4 _ h10)
 have HX9 := Lib.hid (HX8.out.next x9 (fun b h1 h2 => HGw.out _ b h2 h1))
 clear c3 c9 c4 b3 b4 b9 bF d9 h10 x9 hnn hs7 h69 hww hs8 hne
 go_wp2_with fail
 rw [rounds_succ]
 go_wp2_with fail
 refine H10.out.mono ?_; rintro e w10 ⟨rfl, x10, d10⟩
 have X10 := Lib.hid x10
 have D10 := Lib.hid d10
 clear x10 d10
 go_wp2_with fail
 rw [rounds_succ]
 go_wp2_with fail
 go_ret
 have xw := HX9.out.next X10.out (fun b h1 h2 => HGw.out _ b h2 h1)
 have d10 := D10.out
 rw [fsDel_put, fsDel_put, fsDel_del] at d10
 refine ⟨rfl, xw, d10.wider ?_ ?_⟩
 ·intro b hb
  by_cases h : b < w.heap.size
  ·rcases hb with hb | hb
   ·exact .inl (HGw.out _ b h hb)
   ·exact absurd (Nat.lt_of_lt_of_le h HX9.out.size) (Nat.not_lt.2 hb.1)
  ·exact .inr ⟨Nat.not_lt.1 h, d10.lt b hb⟩
 ·intro b hb
  rcases hb with hb | hb
  ·exact Nat.lt_of_lt_of_le (HsF.out b hb) xw.size
  ·exact hb.2
end Go.Proofs.YtgglbholbkdgfaaGreatDoor
