/- Package disk: Append of a new file. -/
import Derived.Test.YtgglbholbkdgfaaGreatDoorB8
namespace Go.Proofs.YtgglbholbkdgfaaGreatDoor
open Go.RowKit

theorem run_len_kv {w : World} {m : Nat} {kv : List (ByteArray × Value)} (h : MapIs w m kv) (ty : TypeId) : (Builtin.len_ #[85] ty #[.map (some m)]).run Tryz.prog w = .ok (.int .i64 kv.length) w := by
  obtain ⟨es, c, hb, _, he⟩ := h
  have := MapIs.len he
  simp [Builtin.len_, MapKept.run_getObj_map hb, Result.andThen, goInt, this]

set_option maxRecDepth 100000 in
set_option maxHeartbeats 1000000 in
theorem Append_new (d : Nat) (F : Nat → Prop) (room m : Nat) (rs : List RFile) (s : ByteArray) (p : Value) (l : List UInt8) (w : World) (hd : DiskAt w d F room (some m) rs) (hp : RdB w p l) (hoff : Off F p)
    (hn : isNm s = true) (hs : rsGet rs s = none) (hfit : l.length + usedL (rs.map RFile.pf) ≤ room) (hcnt : rs.length < 256) :
    Calls Tryz.prog 110 #[.pointer (some ⟨d, 0, none⟩), .string s, p] w fun e w' => e = .returned (.int .i64 0) ∧ Ext F w w' ∧
      ∃ v mo', DiskAt w' d (Gr F w w') room mo' (rsPut rs ⟨s, v, ⟨l, 0⟩⟩) := by
  obtain ⟨hmF, hmap⟩ : F m ∧ MapIs w m (rs.map RFile.kv) := by
    rcases hd.map with ⟨h, _⟩ | ⟨m', h, h'⟩
    · cases h
    · cases h; exact h'
  obtain ⟨us, hus⟩ : ∃ u, usedL (rs.map RFile.pf) = u := ⟨_, rfl⟩
  have hblk := hd.blk
  rw [hus] at hfit hblk
  have c0 : w.cell? ⟨d, 0, none⟩ = some (.int .i64 room) := by rw [cell_of_blk hblk]; rfl
  have c1 : w.cell? ⟨d, 1, none⟩ = some (.int .i64 us) := by rw [cell_of_blk hblk]; rfl
  have c2 : w.cell? ⟨d, 2, none⟩ = some (.map (some m)) := by rw [cell_of_blk hblk]; rfl
  have f1 : w.frozen? ⟨d, 1, none⟩ = false := frozen_of_blk hblk 1
  have hdl := lt_of_blk hblk
  have hl := ((hd.look s).1 hs _ (Ext.refl NoB w)).1
  obtain ⟨a', c', rfl, hnp, hcp⟩ := RdB.shape hp
  have hr30 := hd.room30
  have hw1 : IntKind.i64.wrap ((room : Int) - (us : Int)) = (room : Int) - (us : Int) := IntWalk.i64_in _ (by omega)
  have hlen : ∀ nq ty, (Builtin.len_ #[85] ty #[.map (some m)]).run Tryz.prog ((w.alloc (.cells #[.slice none 0 0, .int .i64 0] 109)).drewN nq) = .ok (.int .i64 rs.length) ((w.alloc (.cells #[.slice none 0 0, .int .i64 0] 109)).drewN nq) := fun nq ty => by
    have := run_len_kv (hmap.ext (((Ext.refl NoB w).alloc (.cells #[.slice none 0 0, .int .i64 0] 109)).drewN nq) (fun h => h)) ty
    simpa using this
  have hlt256 : (rs.length : Int) < 256 := by omega
  have HD := Lib.hid hd
  have HS := Lib.hid hs
  have Hus := Lib.hid hus
  have Hmap := Lib.hid hmap
  have Hblk := Lib.hid hblk
  clear hd hs hus hmap hblk
  go_enter Tryz.func110, Tryz.ntmps110
  go_wp2_with (go_at_call 131; refine (isName_any _ _).mono ?_; rintro e w' ⟨rfl, rfl⟩; rw [hn])
  go_quiet (fail)
  have x1 : Ext NoB w ((w.alloc (.cells #[.slice none 0 0, .int .i64 0] 109)).drewN nq) := ((Ext.refl _ w).alloc _).drewN _
  have b1 : ((w.alloc (.cells #[.slice none 0 0, .int .i64 0] 109)).drewN nq).heap[w.heap.size]? = some (.cells #[.slice none 0 0, .int .i64 0] 109 (0, 0)) := blk_new w _
  generalize (w.alloc (.cells #[.slice none 0 0, .int .i64 0] 109)).drewN nq = W at x1 b1 ⊢
  have hbx : d < w.heap.size := hdl
  obtain ⟨B, hB⟩ : ∃ B, w.heap.size = B := ⟨_, rfl⟩
  have HB := Lib.hid hB
  rw [hB] at b1 hbx ⊢
  clear hB
  have g0 : W.cell? ⟨B, 0, none⟩ = some (.slice none 0 0) := by rw [cell_of_blk b1]; rfl
  have s1 := Lib.hid (Rd.src (P := Tryz.prog) unBytes (hp.no x1) (bytesV_one l) (by decide))
  have Hb1 := Lib.hid b1
  clear b1 c0 c1 c2 f1 hlen
  have hmn := fun (w : World) => run_eql_map_nil (P := Tryz.prog) w 85 _ _ (some m) unMap
  have hblk1 := x1.blk Hblk.out (fun h => h)
  have Hblk1 := Lib.hid hblk1
  clear hblk1
  go_wp2_with (at_builtin; refine wpList_app _ rfl (.tmp 50) (.tmp 51) 35 35 rfl 5 1 1 unBytes elByte (Own.nil W _ _) s1.out rfl rfl (by simp; omega) (by decide) ?_; intro v2 w2 o2 x2 h2; refine halt2 (fun _K HK => ?_))
  clear g0
  have x2' : Ext NoB W w2 := x2.mono (fun _ _ h => by cases h)
  simp only [List.nil_append] at o2
  obtain ⟨a2, c2, rfl, hn2, hc2⟩ := RdB.shape o2.rd
  have Hb2 := Lib.hid (x2'.blk Hb1.out (fun h => h))
  have Hd2 := Lib.hid (x2'.blk Hblk1.out (fun h => h))
  have Hx2 := Lib.hid (x1.trans x2')
  have Ho2 := Lib.hid o2
  have Hh2 := Lib.hid h2
  clear x2 x2' o2 h2
  have g0 : w2.cell? ⟨B, 0, none⟩ = some (.slice none 0 0) := by rw [cell_of_blk Hb2.out]; rfl
  have g1 : w2.cell? ⟨B, 1, none⟩ = some (.int .i64 0) := by rw [cell_of_blk Hb2.out]; rfl
  have fz0 : w2.frozen? ⟨B, 0, none⟩ = false := frozen_of_blk Hb2.out 0
  have d1 : w2.cell? ⟨d, 1, none⟩ = some (.int .i64 us) := by rw [cell_of_blk Hd2.out]; rfl
  have d2 : w2.cell? ⟨d, 2, none⟩ = some (.map (some m)) := by rw [cell_of_blk Hd2.out]; rfl
  have fz1 : w2.frozen? ⟨d, 1, none⟩ = false := frozen_of_blk Hd2.out 1
  have hdB : d ≠ B := Nat.ne_of_lt hbx
  have hBd : B ≠ d := Ne.symm hdB
  refine HK.out ?_; clear HK _K
  go_wp2_with fail
  have Hb3 := Lib.hid (blk_setCell_ne (blk_setCell Hb2.out 0 (.slice a2 l.length c2)) (p := ⟨d, 1, none⟩) hBd (.int .i64 ((us : Int) + (l.length : Int))))
  have Hd3 := Lib.hid (blk_setCell (blk_setCell_ne Hd2.out (p := ⟨B, 0, none⟩) hdB (.slice a2 l.length c2)) 1 (.int .i64 ((us : Int) + (l.length : Int))))
  have X3 : Ext (fun b => b = B ∨ b = d) w2 ((w2.setCell ⟨B, 0, none⟩ (.slice a2 l.length c2)).setCell ⟨d, 1, none⟩ (.int .i64 ((us : Int) + (l.length : Int)))) := ((Ext.refl _ w2).setCell (.inl (.inl rfl)) _).setCell (.inl (.inr rfl)) _
  generalize ((w2.setCell ⟨B, 0, none⟩ (.slice a2 l.length c2)).setCell ⟨d, 1, none⟩ (.int .i64 ((us : Int) + (l.length : Int)))) = w3 at Hb3 Hd3 X3 ⊢
  simp at Hb3 Hd3
  have hm2 := Hmap.out.ext Hx2.out (fun h => h)
  have hm3 : MapIs w3 m (rs.map RFile.kv) := hm2.ext X3 (fun h => h.elim (hm2.ne_blk Hb2.out) (hm2.ne_blk Hd2.out))
  have ho3 : Own w3 5 1 (.slice a2 l.length c2) (bytesV l) := Ho2.out.ext X3 (fun g hg h => h.elim (fun e => Ho2.out.ne_blk Hb2.out (by decide) g hg e.symm) (fun e => Ho2.out.ne_blk Hd2.out (by decide) g hg e.symm))
  clear g0 g1 fz0 d1 d2 fz1 hm2
  have g0 : w3.cell? ⟨B, 0, none⟩ = some (.slice a2 l.length c2) := by rw [cell_of_blk Hb3.out]; rfl
  have g1 : w3.cell? ⟨B, 1, none⟩ = some (.int .i64 0) := by rw [cell_of_blk Hb3.out]; rfl
  have d2 : w3.cell? ⟨d, 2, none⟩ = some (.map (some m)) := by rw [cell_of_blk Hd3.out]; rfl
  have hm3' : MapIs w3.drew m (rs.map RFile.kv) := hm3
  obtain ⟨w4, hput, hm4, x4, hsz4⟩ := run_put (P := Tryz.prog) unMap unString hm3' s (.agg #[.slice a2 l.length c2, .int .i64 0])
  have Hm4 := Lib.hid hm4
  have Hx4 := Lib.hid x4
  have Hm3 := Lib.hid hm3
  have Ho3 := Lib.hid ho3
  have HX3 := Lib.hid X3
  clear hm4 x4 hsz4 hm3 ho3 hm3' X3
  go_still_tail 6, (by kernel_rfl)
  change wpList _ _ _ _ _ w3.drew
  go_wp2_with fail
  go_ret
  have hd := HD.out
  have hB := HB.out
  have hdF := hd.self
  have hlt := hd.lt
  have xW4 : Ext (fun b => b = d ∨ b = m) w w4 :=
    (((Hx2.out.of_no).next HX3.out (fun x hx hl => hx.elim (fun e => by omega) (fun e => .inl e))).drew).next Hx4.out (fun x hx _ => .inr hx)
  have hGF : ∀ b, (b = d ∨ b = m) → F b := fun b hb => hb.elim (fun e => e ▸ hdF) (fun e => e ▸ hmF)
  have hoff' : ∀ y ∈ rs, y.name ≠ s → Off (fun b => b = d ∨ b = m) y.v := by
    intro y hy _ g hg hb
    rcases hb with rfl | rfl
    · exact (hd.rows.own y hy).ne_blk hd.blk (by decide) g hg rfl
    · exact Hmap.out.ne_own (hd.rows.own y hy) g hg rfl
  have hv2 : ∀ g, (Value.slice a2 l.length c2).ownBlock = some g → (F g ∨ w.heap.size ≤ g) ∧ ∀ y ∈ rs, y.name ≠ s → y.v.ownBlock ≠ some g := by
    intro g hg
    rcases Hh2.out with h | ⟨g', h1, h2⟩
    · rw [h] at hg; cases hg
    · rw [h1] at hg; cases hg
      have := x1.size
      exact ⟨.inr (by omega), fun y hy _ hyg => by have := (hd.rows.own y hy).lt g hyg; omega⟩
  have hus := used_put_new (r := ⟨s, .slice a2 l.length c2, ⟨l, 0⟩⟩) HS.out
  simp only [Hus.out] at hus
  have hxl : Own w4 5 1 (.slice a2 l.length c2) (bytesV l) := by
    have h3' : Own w3.drew 5 1 (.slice a2 l.length c2) (bytesV l) := Ho3.out
    exact h3'.ext Hx4.out (fun g hg e => Hm3.out.ne_own Ho3.out g hg (Eq.symm e))
  have hb4 : w4.heap[d]? = some (.cells #[.int .i64 room, .int .i64 (us + l.length : Nat), .map (some m)] 87 (0, 0)) := by
    have hd3 : w3.drew.heap[d]? = some (.cells #[.int .i64 room, .int .i64 ((us : Int) + (l.length : Int)), .map (some m)] 87 (0, 0)) := Hd3.out
    have := Hx4.out.blk hd3 (fun e => Hm3.out.ne_blk Hd3.out (Eq.symm e))
    simpa using this
  exact ⟨rfl, xW4.mono (fun b _ hb => hGF b hb), _, _, hd.put (r := ⟨s, .slice a2 l.length c2, ⟨l, 0⟩⟩) xW4 hGF hoff' hb4 hus.symm (by omega) Hm4.out (.inl hmF) hxl hv2 hn (by rw [length_rsPut_new HS.out]; omega)⟩

set_option maxRecDepth 100000 in
set_option maxHeartbeats 1000000 in
theorem Append_first (d : Nat) (F : Nat → Prop) (room : Nat) (s : ByteArray) (p : Value) (l : List UInt8) (w : World) (hd : DiskAt w d F room none []) (hp : RdB w p l) (hoff : Off F p)
    (hn : isNm s = true) (hfit : l.length ≤ room) :
    Calls Tryz.prog 110 #[.pointer (some ⟨d, 0, none⟩), .string s, p] w fun e w' => e = .returned (.int .i64 0) ∧ Ext F w w' ∧
      ∃ v mo', DiskAt w' d (Gr F w w') room mo' (rsPut [] ⟨s, v, ⟨l, 0⟩⟩) := by
  have hblk := hd.blk
  have c0 : w.cell? ⟨d, 0, none⟩ = some (.int .i64 room) := by rw [cell_of_blk hblk]; rfl
  have c1 : w.cell? ⟨d, 1, none⟩ = some (.int .i64 (0 : Nat)) := by rw [cell_of_blk hblk]; rfl
  have c2 : w.cell? ⟨d, 2, none⟩ = some (.map none) := by rw [cell_of_blk hblk]; rfl
  have f1 : w.frozen? ⟨d, 1, none⟩ = false := frozen_of_blk hblk 1
  have hdl := lt_of_blk hblk
  have hl := ((hd.look s).1 rfl _ (Ext.refl NoB w)).1
  obtain ⟨a', c', rfl, hnp, hcp⟩ := RdB.shape hp
  have hr30 := hd.room30
  have HD := Lib.hid hd
  have Hblk := Lib.hid hblk
  clear hd hblk
  go_enter Tryz.func110, Tryz.ntmps110
  go_wp2_with (go_at_call 131; refine (isName_any _ _).mono ?_; rintro e w' ⟨rfl, rfl⟩; rw [hn])
  go_quiet (fail)
  have x1 : Ext NoB w ((w.alloc (.cells #[.slice none 0 0, .int .i64 0] 109)).drewN nq) := ((Ext.refl _ w).alloc _).drewN _
  have b1 : ((w.alloc (.cells #[.slice none 0 0, .int .i64 0] 109)).drewN nq).heap[w.heap.size]? = some (.cells #[.slice none 0 0, .int .i64 0] 109 (0, 0)) := blk_new w _
  generalize (w.alloc (.cells #[.slice none 0 0, .int .i64 0] 109)).drewN nq = W at x1 b1 ⊢
  have hbx : d < w.heap.size := hdl
  obtain ⟨B, hB⟩ : ∃ B, w.heap.size = B := ⟨_, rfl⟩
  have HB := Lib.hid hB
  rw [hB] at b1 hbx ⊢
  clear hB
  have g0 : W.cell? ⟨B, 0, none⟩ = some (.slice none 0 0) := by rw [cell_of_blk b1]; rfl
  have s1 := Lib.hid (Rd.src (P := Tryz.prog) unBytes (hp.no x1) (bytesV_one l) (by decide))
  have Hb1 := Lib.hid b1
  clear b1 c0 c1 c2 f1
  have hmn := fun (w : World) => run_eql_map_nil (P := Tryz.prog) w 85 _ _ none unMap
  have hblk1 := x1.blk Hblk.out (fun h => h)
  have Hblk1 := Lib.hid hblk1
  clear hblk1
  go_wp2_with (at_builtin; refine wpList_app _ rfl (.tmp 50) (.tmp 51) 35 35 rfl 5 1 1 unBytes elByte (Own.nil W _ _) s1.out rfl rfl (by simp; omega) (by decide) ?_; intro v2 w2 o2 x2 h2; refine halt2 (fun _K HK => ?_))
  clear g0
  have x2' : Ext NoB W w2 := x2.mono (fun _ _ h => by cases h)
  simp only [List.nil_append] at o2
  obtain ⟨a2, c2, rfl, hn2, hc2⟩ := RdB.shape o2.rd
  have Hb2 := Lib.hid (x2'.blk Hb1.out (fun h => h))
  have Hd2 := Lib.hid (x2'.blk Hblk1.out (fun h => h))
  have Hx2 := Lib.hid (x1.trans x2')
  have Ho2 := Lib.hid o2
  have Hh2 := Lib.hid h2
  clear x2 x2' o2 h2
  have g0 : w2.cell? ⟨B, 0, none⟩ = some (.slice none 0 0) := by rw [cell_of_blk Hb2.out]; rfl
  have g1 : w2.cell? ⟨B, 1, none⟩ = some (.int .i64 0) := by rw [cell_of_blk Hb2.out]; rfl
  have fz0 : w2.frozen? ⟨B, 0, none⟩ = false := frozen_of_blk Hb2.out 0
  have d1 : w2.cell? ⟨d, 1, none⟩ = some (.int .i64 0) := by rw [cell_of_blk Hd2.out]; rfl
  have d2 : w2.cell? ⟨d, 2, none⟩ = some (.map none) := by rw [cell_of_blk Hd2.out]; rfl
  have fz1 : w2.frozen? ⟨d, 1, none⟩ = false := frozen_of_blk Hd2.out 1
  have fz2 : w2.frozen? ⟨d, 2, none⟩ = false := frozen_of_blk Hd2.out 2
  have hmm := @run_makeMap Tryz.prog
  have hdl2 : d < w2.heap.size := lt_of_blk Hd2.out
  have hBl2 : B < w2.heap.size := lt_of_blk Hb2.out
  have hdB : d ≠ B := Nat.ne_of_lt hbx
  have hBd : B ≠ d := Ne.symm hdB
  refine HK.out ?_; clear HK _K
  go_wp2_with fail
  obtain ⟨M, hM⟩ : ∃ M, w2.heap.size = M := ⟨_, rfl⟩
  have HM := Lib.hid hM
  have Hb3 := Lib.hid (blk_alloc (blk_setCell_ne (blk_setCell_ne (blk_setCell Hb2.out 0 (.slice a2 l.length c2)) (p := ⟨d, 1, none⟩) hBd (.int .i64 (l.length : Int))) (p := ⟨d, 2, none⟩) hBd (.map (some w2.heap.size))) (.map #[] 0))
  have Hd3 := Lib.hid (blk_alloc (blk_setCell (blk_setCell (blk_setCell_ne Hd2.out (p := ⟨B, 0, none⟩) hdB (.slice a2 l.length c2)) 1 (.int .i64 (l.length : Int))) 2 (.map (some w2.heap.size))) (.map #[] 0))
  have X3 : Ext (fun b => b = B ∨ b = d) w2 ((((w2.setCell ⟨B, 0, none⟩ (.slice a2 l.length c2)).setCell ⟨d, 1, none⟩ (.int .i64 (l.length : Int))).setCell ⟨d, 2, none⟩ (.map (some w2.heap.size))).alloc (.map #[] 0)) := ((((Ext.refl _ w2).setCell (.inl (.inl rfl)) _).setCell (.inl (.inr rfl)) _).setCell (.inl (.inr rfl)) _).alloc _
  have hm3 : MapIs ((((w2.setCell ⟨B, 0, none⟩ (.slice a2 l.length c2)).setCell ⟨d, 1, none⟩ (.int .i64 (l.length : Int))).setCell ⟨d, 2, none⟩ (.map (some w2.heap.size))).alloc (.map #[] 0)) w2.heap.size [] := ⟨#[], 0, by simpa using blk_new (((w2.setCell ⟨B, 0, none⟩ (.slice a2 l.length c2)).setCell ⟨d, 1, none⟩ (.int .i64 (l.length : Int))).setCell ⟨d, 2, none⟩ (.map (some w2.heap.size))) (.map #[] 0), MapKept.stamped_empty 0, rfl⟩
  generalize ((((w2.setCell ⟨B, 0, none⟩ (.slice a2 l.length c2)).setCell ⟨d, 1, none⟩ (.int .i64 (l.length : Int))).setCell ⟨d, 2, none⟩ (.map (some w2.heap.size))).alloc (.map #[] 0)) = w3 at Hb3 Hd3 X3 hm3 ⊢
  rw [hM] at Hd3 hm3
  clear hM hdl2 hBl2
  simp at Hb3 Hd3
  have ho3 : Own w3 5 1 (.slice a2 l.length c2) (bytesV l) := Ho2.out.ext X3 (fun g hg h => h.elim (fun e => Ho2.out.ne_blk Hb2.out (by decide) g hg e.symm) (fun e => Ho2.out.ne_blk Hd2.out (by decide) g hg e.symm))
  clear g0 g1 fz0 d1 d2 fz1 fz2
  have g0 : w3.cell? ⟨B, 0, none⟩ = some (.slice a2 l.length c2) := by rw [cell_of_blk Hb3.out]; rfl
  have g1 : w3.cell? ⟨B, 1, none⟩ = some (.int .i64 0) := by rw [cell_of_blk Hb3.out]; rfl
  have d2 : w3.cell? ⟨d, 2, none⟩ = some (.map (some M)) := by rw [cell_of_blk Hd3.out]; rfl
  have hm3' : MapIs w3.drew M [] := hm3
  obtain ⟨w4, hput, hm4, x4, hsz4⟩ := run_put (P := Tryz.prog) unMap unString hm3' s (.agg #[.slice a2 l.length c2, .int .i64 0])
  have Hm4 := Lib.hid hm4
  have Hx4 := Lib.hid x4
  have Hm3 := Lib.hid hm3
  have Ho3 := Lib.hid ho3
  have HX3 := Lib.hid X3
  clear hm4 x4 hsz4 hm3 ho3 hm3' X3
  go_still_tail 6, (by kernel_rfl)
  change wpList _ _ _ _ _ w3.drew
  go_wp2_with fail
  go_ret
  have hd := HD.out
  have hB := HB.out
  have hM := HM.out
  have hdF := hd.self
  have hlt := hd.lt
  have hs2 := Hx2.out.size
  have xW4 : Ext (fun b => b = d) w w4 :=
    (((Hx2.out.of_no).next HX3.out (fun x hx hl => hx.elim (fun e => by omega) (fun e => e))).drew).next Hx4.out (fun x hx hl => by have : x = M := hx; omega)
  have hGF : ∀ b, b = d → F b := fun b e => e ▸ hdF
  have hv2 : ∀ g, (Value.slice a2 l.length c2).ownBlock = some g → (F g ∨ w.heap.size ≤ g) ∧ ∀ y ∈ ([] : List RFile), y.name ≠ s → y.v.ownBlock ≠ some g := by
    intro g hg
    rcases Hh2.out with h | ⟨g', h1, h2⟩
    · rw [h] at hg; cases hg
    · rw [h1] at hg; cases hg
      have := x1.size
      exact ⟨.inr (by omega), fun y hy => by cases hy⟩
  have hxl : Own w4 5 1 (.slice a2 l.length c2) (bytesV l) := by
    have h3' : Own w3.drew 5 1 (.slice a2 l.length c2) (bytesV l) := Ho3.out
    exact h3'.ext Hx4.out (fun g hg e => Hm3.out.ne_own Ho3.out g hg (Eq.symm e))
  have hb4 : w4.heap[d]? = some (.cells #[.int .i64 room, .int .i64 (l.length : Nat), .map (some M)] 87 (0, 0)) := by
    have hd3 : w3.drew.heap[d]? = some (.cells #[.int .i64 room, .int .i64 (l.length : Int), .map (some M)] 87 (0, 0)) := Hd3.out
    exact Hx4.out.blk hd3 (fun e => Hm3.out.ne_blk Hd3.out (Eq.symm e))
  exact ⟨rfl, xW4.mono (fun b _ hb => hGF b hb), _, _, hd.put (r := ⟨s, .slice a2 l.length c2, ⟨l, 0⟩⟩) xW4 hGF (by intro y hy; cases hy) hb4 (by simp [rsPut, rsGet, usedL, RFile.pf]) (by omega) Hm4.out (.inr (by omega)) hxl hv2 hn (by simp [rsPut, rsGet])⟩
end Go.Proofs.YtgglbholbkdgfaaGreatDoor
