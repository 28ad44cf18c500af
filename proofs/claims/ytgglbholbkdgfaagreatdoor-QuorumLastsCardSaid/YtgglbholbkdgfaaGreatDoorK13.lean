/- Joined texts: B67 B68 B69 B70 B71 B72 B73. Each has its own head. -/
import Derived.Test.YtgglbholbkdgfaaGreatDoorK6
import Derived.Test.YtgglbholbkdgfaaGreatDoorK12
set_option linter.unusedVariables false
set_option linter.unusedSimpArgs false
namespace Go.Proofs.YtgglbholbkdgfaaGreatDoor
open Go.RowKit
set_option maxRecDepth 100000 in
set_option maxHeartbeats 8000000 in
theorem LogAppend_next (L d : Nat) (FD FL : Nat → Prop) (D : PDisk) (pre : ByteArray) (sv : Value) (ini : List RSeg) (r : RSeg) (m : Nat) (p : Value) (l : List UInt8) (w : World)
  (hL : LogAt w L d FL pre sv (ini ++ [r]) m) (hd : DiskIs w d FD D) (hdis : ∀ b, FD b → ¬ FL b) (hp : RdB w p l) (hpo : Off FD p) (hpo2 : Off FL p) (hl : l.length ≤ 1048566) (hm : m < 100) (hsz : 1024 ≤ r.p.bytes.length)
  (hfit : (enc (uv m ++ l)).length + usedL D.files ≤ D.room) (hcnt : D.files.length < 256) (hb30 : (PSeg.bytes ⟨m, [l]⟩).length ≤ 1073741824) :
  Calls Tryz.prog 90 #[.pointer (some ⟨L, 0, none⟩), p] w fun e w' => e = .returned (.tuple #[.int .i64 m, .int .i64 0]) ∧
   StoreEnds w L d FD FL pre ⟨D.room, fsPut D.files (segName pre m) (fApp (fsGet D.files (segName pre m)) (enc (uv m ++ l)))⟩ ((ini ++ [r]).map (·.p) ++ [⟨m, [l]⟩]) (m + 1) true w' := by
 have hseg := hL.each r (by simp)
 have hlast := fun (w' : World) (x : Ext NoB w w') => last_some L d FL pre sv (ini ++ [r]) m w' (hL.no x) r (by simp)
 have hsize := fun (w' : World) (x : Ext NoB w w') => size_any FL r w' (hseg.ext x (fun _ _ h => h))
 have hnum : (ini ++ [r]).length < 100 := by
  have h1 := hL.chain.count
  rw [List.length_map] at h1
  omega
 have hb1024 := hL.bytes30 r (by simp)
 have c3 : w.cell? ⟨L, 3, none⟩ = some (.int .i64 m) := by rw [cell_of_blk hL.blk]; rfl
 have hw1 : IntKind.u64.wrap (m : Int) = (m : Int) := by rw [IntKind.wrap_u64]; omega
 obtain ⟨ap, cp, rfl, hpn, hpc⟩ := hp.shape
 have hul := uv_length m
 have HL := Lib.hid hL
 have HD := Lib.hid hd
 have Hlast := Lib.hid hlast
 have Hsize := Lib.hid hsize
 have Hsz := Lib.hid hsz
 have Hnum := Lib.hid hnum
 have Hb1024 := Lib.hid hb1024
 have Hdis := Lib.hid hdis
 have HP := Lib.hid hp
 have HPO := Lib.hid hpo
 have HPO2 := Lib.hid hpo2
 have HU := Lib.hid (fun w' => Uvarint_any m (Lib.hid (by unfold U64; omega)) w')
 have hq1 : ¬ ((1048566 : Int) < (l.length : Int)) := by omega
 have hq2 : ¬ ((99999999 : Int) ≤ (m : Int)) := by omega
 have HM := Lib.hid hm
 have Hl := Lib.hid hl
 have Hul := Lib.hid hul
 have Hpn := Lib.hid hpn
 have Hpc := Lib.hid hpc
 have Hfit := Lib.hid hfit
 have Hcnt := Lib.hid hcnt
 have Hb30 := Lib.hid hb30
 clear hL hd hseg hlast hsize hsz hnum hb1024 hdis hp hpo hpo2 hm hl hul hpn hpc hfit hcnt hb30
 go_enter Tryz.func90, Tryz.ntmps90
 go_wp2_with fail
 refine (HU.out w).mono ?_; rintro e w1 ⟨s1, rfl, o1, f1, x1⟩
 obtain ⟨a1, k1, rfl, hn1, hk1⟩ := RdB.shape (l := uv m) o1.rd
 have hp1 := Rd.no HP.out x1
 have hb1 : ((bytesV (uv m)).length + (bytesV l).length) * 1 ≤ 140737488355328 := by have := Hul.out; have := Hl.out; simp only [bytesV_length]; omega
 have Hb1 := Lib.hid hb1
 clear hb1
 go_wp2_with (at_builtin; refine wpList_app _ rfl (.tmp 30) (.tmp 31) 35 35 rfl 5 1 1 unBytes elByte o1 (Rd.src unBytes hp1 (bytesV_one _) (by decide)) rfl rfl Hb1.out (by decide) ?_; intro v2 w2 o2 x2 h2; refine halt2 (fun _K HK => ?_))
 have y2 : Ext NoB w w2 := f1.ext x1 x2
 rw [← bytesV_append] at o2
 obtain ⟨ul, hul⟩ : ∃ ul, uv m ++ l = ul := ⟨_, rfl⟩
 have hulen : ul.length ≤ 1048576 := by rw [← hul]; have := Hul.out; have := Hl.out; simp only [List.length_append]; omega
 rw [hul] at o2
 obtain ⟨a2, k2, rfl, hn2, hk2⟩ := RdB.shape (l := ul) o2.rd
 have Henc := Lib.hid (Encode_any _ ul w2 o2.rd hulen)
 have Hful := Lib.hid hul
 have Hulen := Lib.hid hulen
 clear hulen hul
 clear o2 x2 h2 hn2 hk2 x1 o1 f1 hn1 hk1 hp1
 refine HK.out ?_; clear HK _K
 go_wp2_with fail
 refine Henc.out.mono ?_; rintro e w3 ⟨v3, rfl, o3, f3, x3⟩
 obtain ⟨fr, hfr⟩ : ∃ fr, enc ul = fr := ⟨_, rfl⟩
 rw [hfr] at o3
 obtain ⟨a3, k3, rfl, hn3, hk3⟩ := RdB.shape (l := fr) o3.rd
 have y3 := y2.trans x3
 have HO3 := Lib.hid o3
 have HF3 := Lib.hid f3
 have Hn3 := Lib.hid hn3
 have Hfr := Lib.hid hfr
 have Hfl := Lib.hid (show fr.length ≤ 1048584 by rw [← hfr, enc_length]; have := Hulen.out; omega)
 have Hy2 := Lib.hid y2
 clear o3 f3 hn3 hk3 x3 y2 hfr Henc
 go_wp2_with fail
 refine (Hlast.out w3 y3).mono ?_; rintro e w4a ⟨rfl, x4a⟩
 have y4a := y3.trans x4a
 have HO4a := Lib.hid (HO3.out.no x4a)
 clear HO3 y3 x4a hq1 hq2 hw1
 unfold RSeg.ptr at Hsize ⊢
 obtain ⟨z, hz⟩ : ∃ z, r.p.bytes.length = z := ⟨_, rfl⟩
 have hsz' : (1024 : Int) ≤ (z : Int) := by have := Hsz.out; omega
 rw [hz] at Hsize
 have Hz := Lib.hid hz
 clear hz
 go_wp2_with fail
 refine (Hsize.out w4a y4a).mono ?_; rintro e w4 ⟨rfl, x4⟩
 have y4 := y4a.trans x4
 have HO4 := Lib.hid (HO4a.out.no x4)
 clear HO4a y4a x4
 have c3 := y4.cell c3 (fun h => h)
 have hzs := fun (w : World) => (show (zeroValue 139).run Tryz.prog w = .ok (.agg #[.int .i64 0, .slice none 0 0, .slice none 0 0, .bool false]) w by kernel_rfl)
 go_wp2_with fail
 obtain ⟨w5, sg, e1, e2, x5, bsg, hs5⟩ := alloc_facts w4 (.cells #[.int .i64 m, .slice none 0 0, .slice none 0 0, .bool false] 139)
 rw [e1, e2]
 clear e1
 have y5 := y4.trans x5
 have HO5 := Lib.hid (HO4.out.no x5)
 have hL := HL.out
 have bL := y5.blk hL.blk (fun h => h)
 have hfn : m < 100 := HM.out
 clear c3
 have c0 : w5.cell? ⟨L, 0, none⟩ = some (.pointer (some ⟨d, 0, none⟩)) := by rw [cell_of_blk bL]; rfl
 have c1 : ∀ w', Ext NoB w5 w' → w'.cell? ⟨L, 1, none⟩ = some (.string pre) := fun w' x => x.cell (by rw [cell_of_blk bL]; rfl) (fun h => h)
 have cs : w5.cell? ⟨sg, 0, none⟩ = some (.int .i64 m) := by rw [cell_of_blk bsg]; rfl
 have hname := Lib.hid (fun (w' : World) (x : Ext NoB w5 w') => name_any L pre m w' hfn (by have := hL.preL; omega) (c1 w' x))
 have happ := Lib.hid (fun (w' : World) (x : Ext NoB w5 w') => Append_ok d FD D (segName pre m) _ fr w' ((HD.out.no y5).no x) ((HO5.out.no x).rd) (HF3.out.off (fun b hb => Nat.lt_of_lt_of_le (HD.out.lt b hb) Hy2.out.size)) (isNm_seg pre _ hL.preL hfn) (by rw [← Hfr.out, ← Hful.out]; exact Hfit.out) Hcnt.out)
 have hnL : ¬ FD L := fun h => Hdis.out L h hL.self
 have hwsg : w.heap.size ≤ sg := e2 ▸ y4.size
 have hnS : ¬ FD sg := fun h => by have := HD.out.lt sg h; omega
 have HBL := Lib.hid bL
 have HBS := Lib.hid bsg
 have HnL := Lib.hid hnL
 have HnS := Lib.hid hnS
 have Hsg := Lib.hid (And.intro hwsg hs5)
 clear hL bL bsg c1 hfn hnL hnS e2 hwsg hs5
 go_region_held3 (fun w' => w'.cell? ⟨L, 0, none⟩ = some (.pointer (some ⟨d, 0, none⟩)) ∧ w'.cell? ⟨sg, 0, none⟩ = some (.int .i64 m))
  (first | exact ⟨c0, cs⟩ | assumption)
  (first
   | (go_at_call 100; refine (hname.out _ (Ext.refl NoB _).drew).mono ?_; rintro e w6 ⟨rfl, x6⟩; have y6 : Ext NoB w5 w6 := (Ext.refl NoB w5).drew.trans x6; have z6 := And.intro (y6.cell c0 (fun h => h)) (y6.cell cs (fun h => h)))
   | (go_at_call 110; refine (happ.out w6 y6).mono ?_; rintro e w7 ⟨rfl, x7, d7⟩; have z7 := And.intro (x7.cell z6.1 HnL.out) (x7.cell z6.2 HnS.out)))
 have x27 : Ext FD w w7 := (y5.trans y6).of_no.trans x7
 have hL7 := HL.out.ext x27 (fun b hb h => Hdis.out b h hb)
 have hp7 := Rd.ext HP.out x27 HPO.out
 have bS7 := x7.blk (y6.blk HBS.out (fun h => h)) HnS.out
 obtain ⟨pl, hpl⟩ : ∃ pl, (ini ++ [r]).map RSeg.ptr = pl := ⟨_, rfl⟩
 obtain ⟨k, hk⟩ : ∃ k, pl.length = k := ⟨_, rfl⟩
 have hkl : k < 100 := by rw [← hk, ← hpl, List.length_map]; exact Hnum.out
 have hsegs := hL7.segs
 rw [hpl] at hsegs
 obtain ⟨sa, sc, hsv, hsn, hsc⟩ := Rd.shape hsegs.rd
 rw [hk] at hsv hsn
 have bL7 := hL7.blk
 rw [hsv] at bL7
 have cL2 : w7.cell? ⟨L, 2, none⟩ = some (.slice sa k sc) := by rw [cell_of_blk bL7]; rfl
 have onsv : Own w7 140 1 (.slice sa k sc) pl := by rw [← hsv]; exact hsegs
 have HbL7 := Lib.hid bL7
 have HbS7 := Lib.hid bS7
 have HL7 := Lib.hid hL7
 have Honsv := Lib.hid onsv
 clear c0 cs z6 z7 bL7 bS7 hL7 onsv
 go_wp2_with (at_builtin; refine wpList_app1 _ rfl (.tmp 75) (.tmp 77) 132 rfl 140 8 unSegs elSeg Honsv.out rfl rfl rfl (by rw [hk]; omega) (by decide) ?_; intro vs w8 os x8 h8; refine halt2 (fun _K HK => ?_))
 obtain ⟨sa2, sc2, hvs, hsn2, hsc2⟩ := Rd.shape os.rd
 have hk2 : (pl ++ [Value.pointer (some ⟨sg, 0, none⟩)]).length = k + 1 := by rw [List.length_append, hk]; rfl
 rw [hk2] at hvs hsn2
 subst hvs
 have hsvL : Off (fun b => b = L) (.slice sa k sc) := fun g hg h => Honsv.out.ne_blk HbL7.out (by decide) g hg h.symm
 have hsvS : Off (fun b => b = sg) (.slice sa k sc) := fun g hg h => Honsv.out.ne_blk HbS7.out (by decide) g hg h.symm
 have bL8 := x8.blk HbL7.out (fun h => hsvL _ h rfl)
 have bS8 := x8.blk HbS7.out (fun h => hsvS _ h rfl)
 have cL2 : w8.cell? ⟨L, 2, none⟩ = some (.slice sa k sc) := by rw [cell_of_blk bL8]; rfl
 have fL2 : w8.frozen? ⟨L, 2, none⟩ = false := frozen_of_blk bL8 2
 have Hos := Lib.hid os
 have Hh8 := Lib.hid h8
 have Hx8 := Lib.hid x8
 have HbL8 := Lib.hid bL8
 have HbS8 := Lib.hid bS8
 clear os h8 x8 bL8 bS8 hsn2 hsc2
 refine HK.out ?_; clear HK _K
 go_wp2_with fail
 have hLs : L ≠ sg := fun e => by have := blk_cells_inj HbL8.out (e ▸ HbS8.out); exact absurd this (by decide)
 have hsL : sg ≠ L := Ne.symm hLs
 have bL9 := blk_setCell HbL8.out 2 (.slice sa2 (k + 1) sc2)
 have b7 := blk_setCell_ne HbS8.out (p := ⟨L, 2, none⟩) hsL (.slice sa2 (k + 1) sc2)
 have xS9 : Ext (fun b => b = L) w8 (w8.setCell ⟨L, 2, none⟩ (.slice sa2 (k + 1) sc2)) := (Ext.refl (fun b => b = L) w8).setCell (p := ⟨L, 2, none⟩) (.inl rfl) _
 generalize (w8.setCell ⟨L, 2, none⟩ (.slice sa2 (k + 1) sc2)) = wS at bL9 b7 xS9 ⊢
 have x7S : Ext (fun b => (Value.slice sa k sc).ownBlock = some b ∨ b = L) w7 wS := (Hx8.out.mono (fun _ _ h => .inl h)).next xS9 (fun _ h _ => .inr h)
 have hltL := HL.out.lt
 have hpS : RdB wS (.slice ap l.length cp) l := Rd.ext hp7 x7S (fun g hg h => by
  rcases h with h | h
  ·have h1 := HL7.out.segsF g (by rw [hsv]; exact h)
   exact HPO2.out g hg h1
  ·exact HPO2.out g hg (h ▸ HL7.out.self))
 have hosS : Own wS 140 1 (.slice sa2 (k + 1) sc2) (pl ++ [.pointer (some ⟨sg, 0, none⟩)]) := Hos.out.ext xS9 (fun g hg h => Hos.out.ne_blk HbL8.out (by decide) g hg h.symm)
 have HosS := Lib.hid hosS
 have HbL9 := Lib.hid bL9
 have Hb7 := Lib.hid b7
 have c1 : wS.cell? ⟨sg, 1, none⟩ = some (.slice none 0 0) := by rw [cell_of_blk b7]; rfl
 have c2 : wS.cell? ⟨sg, 2, none⟩ = some (.slice none 0 0) := by rw [cell_of_blk b7]; rfl
 clear hosS bL9 b7 xS9 cL2 fL2
 refine wp_region_N (fun w' => w'.cell? ⟨sg, 1, none⟩ = some (.slice none 0 0) ∧ w'.cell? ⟨sg, 2, none⟩ = some (.slice none 0 0)) 22 (by kernel_rfl) ?_
 have hSd : wS.drew.cell? ⟨sg, 1, none⟩ = some (.slice none 0 0) ∧ wS.drew.cell? ⟨sg, 2, none⟩ = some (.slice none 0 0) := ⟨c1, c2⟩
 refine wpAnyN_free 0 (v := ?_) (by kernel_rfl) rfl (fun _ _ _ h => h) hSd (by rfl) ?_ ?_; rotate_left; (focus (intro w; go_simp; try with_reducible rfl)); (try simp only [Act.put]); (try simp only [List.setIfInBounds_toArray, List.set_cons_zero, List.set_cons_succ])
 refine wpAnyN_free 1 (v := ?_) (by kernel_rfl) rfl (fun _ _ _ h => h) hSd (by rfl) ?_ ?_; rotate_left; (focus (intro w; go_simp; try with_reducible rfl)); (try simp only [Act.put]); (try simp only [List.setIfInBounds_toArray, List.set_cons_zero, List.set_cons_succ])
 refine wpAnyN_free 2 (v := ?_) (by kernel_rfl) rfl (fun _ _ _ h => h) hSd (by rfl) ?_ ?_; rotate_left; (focus (intro w; go_simp; try with_reducible rfl)); (try simp only [Act.put]); (try simp only [List.setIfInBounds_toArray, List.set_cons_zero, List.set_cons_succ])
 refine wpAnyN_free 3 (v := ?_) (by kernel_rfl) rfl (fun _ _ _ h => h) hSd (by rfl) ?_ ?_; rotate_left; (focus (intro w; go_simp; try with_reducible rfl)); (try simp only [Act.put]); (try simp only [List.setIfInBounds_toArray, List.set_cons_zero, List.set_cons_succ])
 refine wpAnyN_free 4 (v := ?_) (by kernel_rfl) rfl (fun _ _ _ h => h) hSd (by rfl) ?_ ?_; rotate_left; (focus (intro w; go_simp; try with_reducible rfl)); (try simp only [Act.put]); (try simp only [List.setIfInBounds_toArray, List.set_cons_zero, List.set_cons_succ])
 refine wpAnyN_free 5 (v := ?_) (by kernel_rfl) rfl (fun _ _ _ h => h) hSd (by rfl) ?_ ?_; rotate_left; (focus (intro w; go_simp; try with_reducible rfl)); (try simp only [Act.put]); (try simp only [List.setIfInBounds_toArray, List.set_cons_zero, List.set_cons_succ])
 refine wpAnyN_take 6 (v := ?_) (by kernel_rfl) rfl (fun _ _ _ h => h) hSd (by rfl) ?_ ?_; rotate_left; (focus (intro w hSw; (try dsimp only at hSw); go_simp; try with_reducible rfl)); (try simp only [Act.put]); (try simp only [List.setIfInBounds_toArray, List.set_cons_zero, List.set_cons_succ])
 refine wpAnyN_free 7 (v := ?_) (by kernel_rfl) rfl (fun _ _ _ h => h) hSd (by rfl) ?_ ?_; rotate_left; (focus (intro w; go_simp; try with_reducible rfl)); (try simp only [Act.put]); (try simp only [List.setIfInBounds_toArray, List.set_cons_zero, List.set_cons_succ])
 refine wpAnyN_free 11 (v := ?_) (by kernel_rfl) rfl (fun _ _ _ h => h) hSd (by rfl) ?_ ?_; rotate_left; (focus (intro w; go_simp; try with_reducible rfl)); (try simp only [Act.put]); (try simp only [List.setIfInBounds_toArray, List.set_cons_zero, List.set_cons_succ])
 refine wpAnyN_free 12 (v := ?_) (by kernel_rfl) rfl (fun _ _ _ h => h) hSd (by rfl) ?_ ?_; rotate_left; (focus (intro w; go_simp; try with_reducible rfl)); (try simp only [Act.put]); (try simp only [List.setIfInBounds_toArray, List.set_cons_zero, List.set_cons_succ])
 refine wpAnyN_free 13 (v := ?_) (by kernel_rfl) rfl (fun _ _ _ h => h) hSd (by rfl) ?_ ?_; rotate_left; (focus (intro w; go_simp; try with_reducible rfl)); (try simp only [Act.put]); (try simp only [List.setIfInBounds_toArray, List.set_cons_zero, List.set_cons_succ])
 refine wpAnyN_take 14 (v := ?_) (by kernel_rfl) rfl (fun _ _ _ h => h) hSd (by rfl) ?_ ?_; rotate_left; (focus (intro w hSw; (try dsimp only at hSw); go_simp; try with_reducible rfl)); (try simp only [Act.put]); (try simp only [List.setIfInBounds_toArray, List.set_cons_zero, List.set_cons_succ])
 refine wpAnyN_free 15 (v := ?_) (by kernel_rfl) rfl (fun _ _ _ h => h) hSd (by rfl) ?_ ?_; rotate_left; (focus (intro w; go_simp; try with_reducible rfl)); (try simp only [Act.put]); (try simp only [List.setIfInBounds_toArray, List.set_cons_zero, List.set_cons_succ])
 refine wpAnyN_free 17 (v := ?_) (by kernel_rfl) rfl (fun _ _ _ h => h) hSd (by rfl) ?_ ?_; rotate_left; (focus (intro w; go_simp; try with_reducible rfl)); (try simp only [Act.put]); (try simp only [List.setIfInBounds_toArray, List.set_cons_zero, List.set_cons_succ])
 refine wpAnyN_free 18 (v := ?_) (by kernel_rfl) rfl (fun _ _ _ h => h) hSd (by rfl) ?_ ?_; rotate_left; (focus (intro w; go_simp; try with_reducible rfl)); (try simp only [Act.put]); (try simp only [List.setIfInBounds_toArray, List.set_cons_zero, List.set_cons_succ])
 refine wpAnyN_one 8 (by kernel_rfl) (by simp only [List.getElem?_toArray, List.getElem?_cons_succ, List.getElem?_cons_zero] <;> rfl) (by rfl) (fun K hK => ?_)
 go_simp
 have hpSd : RdB wS.drew (.slice ap l.length cp) l := hpS
 refine (bytesClone_any _ l wS.drew hpSd (by have := Hl.out; omega)).mono ?_; rintro e w9 ⟨v9, rfl, o9, f9, x9⟩
 obtain ⟨a9, k9, rfl, hn9, hk9⟩ := RdB.shape (l := l) o9.rd
 have y9 : Ext NoB wS w9 := (Ext.refl NoB wS).drew.trans x9
 go_wp2_with fail
 refine hK.out _ _ ⟨y9.cell c1 (fun h => h), y9.cell c2 (fun h => h)⟩ (fun hSd => ?_)
 clear hK K
 (try simp only [Act.put]); (try simp only [List.setIfInBounds_toArray, List.set_cons_zero, List.set_cons_succ])
 refine wpAnyN_one 9 (by kernel_rfl) (by simp only [List.getElem?_toArray, List.getElem?_cons_succ, List.getElem?_cons_zero] <;> rfl) (by rfl) (fun K hK => ?_)
 go_simp
 obtain ⟨w10, B10, e1, e2, x10, b10, hs10⟩ := alloc_facts w9 (.cells #[.slice a9 l.length k9] 35)
 rw [e1, e2]
 have y10 := y9.trans x10
 refine hK.out _ _ ⟨y10.cell c1 (fun h => h), y10.cell c2 (fun h => h)⟩ (fun hSd => ?_)
 clear hK K e1 hSd
 have hSd := And.intro (y10.cell c1 (fun h => h)) (y10.cell c2 (fun h => h))
 (try simp only [Act.put]); (try simp only [List.setIfInBounds_toArray, List.set_cons_zero, List.set_cons_succ])
 refine wpAnyN_one 10 (by kernel_rfl) (by simp only [List.getElem?_toArray, List.getElem?_cons_succ, List.getElem?_cons_zero] <;> rfl) (by rfl) (fun K hK => ?_)
 refine wp_app _ (.tmp 87) (.tmp 90) 44 44 rfl 35 1 24 unBB elBytes [] (Own.nil _ _ _) 1 _ (Src.one unBB B10 _ _ _ b10 rfl) (by simp) (by decide) ?_
 intro v11 w11 o11 x11 h11
 obtain ⟨ea2, ec2, rfl, hen2, hec2⟩ := Rd.shape o11.rd
 have x11n : Ext NoB w10 w11 := x11.mono (fun b _ h => by cases h)
 have y11 := y10.trans x11n
 refine hK.out _ _ ⟨y11.cell c1 (fun h => h), y11.cell c2 (fun h => h)⟩ (fun hSd => ?_)
 clear hK K hSd
 have hSd := And.intro (y11.cell c1 (fun h => h)) (y11.cell c2 (fun h => h))
 (try simp only [Act.put]); (try simp only [List.setIfInBounds_toArray, List.set_cons_zero, List.set_cons_succ])
 refine wpAnyN_one 16 (by kernel_rfl) (by simp only [List.getElem?_toArray, List.getElem?_cons_succ, List.getElem?_cons_zero] <;> rfl) (by rfl) (fun K hK => ?_)
 go_simp
 have hz0 : PSeg.bytes ⟨m, []⟩ = [] := rfl
 refine (size_of sg _ ⟨m, []⟩ w11 hSd.2 (Own.nil _ _ _)).mono ?_; rintro e w12 ⟨rfl, x12⟩
 rw [hz0]
 have hadd : IntKind.i64.wrap (fr.length : Int) = (fr.length : Int) := IntWalk.i64_in _ (by have := Hfl.out; omega)
 have y12 := y11.trans x12
 go_wp2_with fail
 refine hK.out _ _ ⟨y12.cell c1 (fun h => h), y12.cell c2 (fun h => h)⟩ (fun hSd => ?_)
 clear hK K hSd
 have hSd := And.intro (y12.cell c1 (fun h => h)) (y12.cell c2 (fun h => h))
 (try simp only [Act.put]); (try simp only [List.setIfInBounds_toArray, List.set_cons_zero, List.set_cons_succ])
 refine wpAnyN_free 19 (v := ?_) (by kernel_rfl) rfl (fun _ _ _ h => h) hSd (by rfl) ?_ ?_; rotate_left; (focus (intro w; go_simp; try with_reducible rfl)); (try simp only [Act.put]); (try simp only [List.setIfInBounds_toArray, List.set_cons_zero, List.set_cons_succ])
 refine wpAnyN_one 20 (by kernel_rfl) (by simp only [List.getElem?_toArray, List.getElem?_cons_succ, List.getElem?_cons_zero] <;> rfl) (by rfl) (fun K hK => ?_)
 go_simp
 obtain ⟨w13, B13, e1, e2, x13, b13, hs13⟩ := alloc_facts w12 (.cells #[.int .i64 (fr.length : Int)] 3)
 rw [e1, e2]
 have y13 := y12.trans x13
 refine hK.out _ _ ⟨y13.cell c1 (fun h => h), y13.cell c2 (fun h => h)⟩ (fun hSd => ?_)
 clear hK K e1 hSd
 have hSd := And.intro (y13.cell c1 (fun h => h)) (y13.cell c2 (fun h => h))
 (try simp only [Act.put]); (try simp only [List.setIfInBounds_toArray, List.set_cons_zero, List.set_cons_succ])
 refine wpAnyN_one 21 (by kernel_rfl) (by simp only [List.getElem?_toArray, List.getElem?_cons_succ, List.getElem?_cons_zero] <;> rfl) (by rfl) (fun K hK => ?_)
 refine wp_app _ (.tmp 95) (.tmp 101) 34 34 rfl 3 1 8 unInts' elInt [] (Own.nil _ _ _) 1 _ (Src.one unInts' B13 _ _ _ b13 rfl) (by simp) (by decide) ?_
 intro v14 w14 o14 x14 h14
 obtain ⟨na2, nc2, rfl, hnn2, hnc2⟩ := Rd.shape o14.rd
 have x14n : Ext NoB w13 w14 := x14.mono (fun b _ h => by cases h)
 have y14 := y13.trans x14n
 refine hK.out _ _ ⟨y14.cell c1 (fun h => h), y14.cell c2 (fun h => h)⟩ (fun hSd => ?_)
 clear hK K hSd
 (try simp only [Act.put]); (try simp only [List.setIfInBounds_toArray, List.set_cons_zero, List.set_cons_succ])
 refine wpAnyN_tail (by rfl) (by decide) (by kernel_rfl) (by kernel_rfl) ?_
 simp only [List.drop_succ_cons, List.drop_zero]
 have bS14 := y14.blk Hb7.out (fun h => h)
 have bL14 := y14.blk HbL9.out (fun h => h)
 have f1 : w14.frozen? ⟨sg, 1, none⟩ = false := frozen_of_blk bS14 1
 have f2 : w14.frozen? ⟨sg, 2, none⟩ = false := frozen_of_blk bS14 2
 have f3 : w14.frozen? ⟨sg, 3, none⟩ = false := frozen_of_blk bS14 3
 have d1 := y14.cell c1 (fun h => h)
 have d2 := y14.cell c2 (fun h => h)
 have d3 : w14.cell? ⟨sg, 3, none⟩ = some (.bool false) := by rw [cell_of_blk bS14]; rfl
 have cL3 : w14.cell? ⟨L, 3, none⟩ = some (.int .i64 m) := by rw [cell_of_blk bL14]; rfl
 have fL3 : w14.frozen? ⟨L, 3, none⟩ = false := frozen_of_blk bL14 3
 have hwm : IntKind.i64.wrap ((m : Int) + 1) = (m : Int) + 1 := IntWalk.i64_in _ (by have := HM.out; omega)
 have hwm2 : IntKind.i64.wrap ((m : Int) + 1 - 1) = (m : Int) := by rw [IntWalk.i64_in _ (by have := HM.out; omega)]; omega
 have Hb14 := Lib.hid bS14
 have HbL14 := Lib.hid bL14
 have Ho14 := Lib.hid o14
 have Ho11 := Lib.hid o11
 have Ho9 := Lib.hid o9
 have Hh11 := Lib.hid h11
 have Hh14 := Lib.hid h14
 have Hf9 := Lib.hid f9
 clear bS14 bL14 o14 o11 o9 h11 h14 f9 hadd hSd
 go_wp2_with fail
 go_ret2
 refine ⟨ret2i (wrap64_in m (by have := HM.out; omega)) rfl, ?_⟩
 have bS14 := Hb14.out
 have bL14 := HbL14.out
 have xS : Ext (fun b => b = sg ∨ b = L) w14 ((((w14.setCell ⟨sg, 1, none⟩ (.slice ea2 1 ec2)).setCell ⟨sg, 2, none⟩ (.slice na2 1 nc2)).setCell ⟨sg, 3, none⟩ (.bool true)).setCell ⟨L, 3, none⟩ (.int .i64 ((m : Int) + 1))) :=
  ((((Ext.refl (fun b => b = sg ∨ b = L) w14).setCell (p := ⟨sg, 1, none⟩) (.inl (.inl rfl)) _).setCell (p := ⟨sg, 2, none⟩) (.inl (.inl rfl)) _).setCell (p := ⟨sg, 3, none⟩) (.inl (.inl rfl)) _).setCell (p := ⟨L, 3, none⟩) (.inl (.inr rfl)) _
 have k4 := blk_setCell_ne (blk_setCell (blk_setCell (blk_setCell bS14 1 (.slice ea2 1 ec2)) 2 (.slice na2 1 nc2)) 3 (.bool true)) (p := ⟨L, 3, none⟩) hsL (.int .i64 ((m : Int) + 1))
 have kL := blk_setCell (blk_setCell_ne (blk_setCell_ne (blk_setCell_ne bL14 (p := ⟨sg, 1, none⟩) hLs (.slice ea2 1 ec2)) (p := ⟨sg, 2, none⟩) hLs (.slice na2 1 nc2)) (p := ⟨sg, 3, none⟩) hLs (.bool true)) 3 (.int .i64 ((m : Int) + 1))
 generalize ((((w14.setCell ⟨sg, 1, none⟩ (.slice ea2 1 ec2)).setCell ⟨sg, 2, none⟩ (.slice na2 1 nc2)).setCell ⟨sg, 3, none⟩ (.bool true)).setCell ⟨L, 3, none⟩ (.int .i64 ((m : Int) + 1))) = wF at xS k4 kL ⊢
 have xSF : Ext (fun b => b = sg ∨ b = L) wS wF := (y14.of_no).trans xS
 have xF : Ext (fun b => sv.ownBlock = some b ∨ b = sg ∨ b = L) w7 wF := by
  rw [hsv]
  exact (x7S.mono (fun _ _ h => h.elim .inl (fun h => .inr (.inr h)))).next xSF (fun b h _ => .inr h)
 have hltD := HD.out.lt
 have h56 := y6.size
 have h05 := y5.size
 have h67 := x7.size
 have h7S := x7S.size
 have h7F := xF.size
 obtain ⟨hsg1, hsg2⟩ := Hsg.out
 have hsgF : ¬ FL sg := fun h => by have := hltL sg h; omega
 have hlogF := LogAt.added (sg := sg) (v := .slice a9 l.length k9) (ev' := .slice ea2 1 ec2) (nv' := .slice na2 1 nc2) (sv' := .slice sa2 (k + 1) sc2) (l := l) HL7.out xF hsgF (by omega)
  (by rw [show ((m + 1 : Nat) : Int) = (m : Int) + 1 by omega]; exact kL) ?_ ?_ k4 ?_ ?_ ?_ ?_ ?_ ?_ HM.out Hb30.out
 ·refine ⟨((x27.mono (fun _ _ h => .inl h)).next xF (fun b h hb => .inr ?_)), Gr FD w6 w7, (fun b => Gr FL w7 wF b ∨ b = sg), ?_, ?_, ?_, ⟨_, _, hlogF, by simp, fun _ => ⟨ini ++ [r], _, rfl, rfl⟩⟩, ?_⟩
  ·rcases h with h | h | h
   ·exact HL7.out.segsF b h
   ·omega
   ·exact h ▸ HL7.out.self
  ·intro b hb
   rcases hb with hb | hb
   ·exact .inl hb
   ·exact .inr (by omega)
  ·intro b hb
   rcases hb with (hb | hb) | hb
   ·exact .inl hb
   ·exact .inr (by omega)
   ·exact .inr (by omega)
  ·rw [Hful.out, Hfr.out]
   refine d7.ext xF (fun b hb hG => ?_)
   have hb2 : FL b ∨ b = sg := by
    rcases hG with h | h | h
    ·exact .inl (HL7.out.segsF b h)
    ·exact .inr h
    ·exact .inl (h ▸ HL7.out.self)
   rcases hb with hb | hb
   ·rcases hb2 with hb2 | hb2
    ·exact Hdis.out b hb hb2
    ·have := hltD b hb; omega
   ·rcases hb2 with hb2 | hb2
    ·have := hltL b hb2; omega
    ·omega
  ·intro b hb hb2
   rcases hb with hb | hb
   ·rcases hb2 with (hb2 | hb2) | hb2
    ·exact Hdis.out b hb hb2
    ·have := hltD b hb; omega
    ·have := hltD b hb; omega
   ·rcases hb2 with (hb2 | hb2) | hb2
    ·have := hltL b hb2; omega
    ·omega
    ·omega
 ·rw [hpl]
  exact HosS.out.ext xSF (fun g hg h => h.elim (fun h => HosS.out.ne_blk Hb7.out (by decide) g hg h.symm) (fun h => HosS.out.ne_blk HbL9.out (by decide) g hg h.symm))
 ·intro g hg
  rw [hsv]
  rcases Hh8.out with h | ⟨g', h1, h2⟩
  ·exact .inl (h ▸ hg)
  ·replace h1 : (Value.slice sa2 (k + 1) sc2).ownBlock = some g' := h1
   rw [h1] at hg; cases hg; exact .inr h2
 ·have ho := Ho11.out.no ((x12.trans x13).trans x14n)
  exact ho.ext xS (fun g hg h => h.elim (fun h => ho.ne_blk bS14 (by decide) g hg h.symm) (fun h => ho.ne_blk bL14 (by decide) g hg h.symm))
 ·have e : natsV (PSeg.ends ⟨m, [l]⟩) = [.int .i64 (fr.length : Int)] := by
   show natsV (segEnds m 0 [l]) = _
   simp only [segEnds, Nat.zero_add]
   rw [Hful.out, Hfr.out]
   rfl
  rw [e]
  exact Ho14.out.ext xS (fun g hg h => h.elim (fun h => Ho14.out.ne_blk bS14 (by decide) g hg h.symm) (fun h => Ho14.out.ne_blk bL14 (by decide) g hg h.symm))
 ·have ho := Ho9.out.no ((((x10.trans x11n).trans x12).trans x13).trans x14n)
  refine RdU.of_own (ho.ext xS (fun g hg h => h.elim (fun h => ho.ne_blk bS14 (by decide) g hg h.symm) (fun h => ho.ne_blk bL14 (by decide) g hg h.symm)))
 ·intro g hg
  have h1 : wS.heap.size ≤ g := Hf9.out g hg
  omega
 ·intro g hg
  rcases Hh11.out with h | ⟨g', h1, h2⟩
  ·replace h : (Value.slice ea2 1 ec2).ownBlock = none := h
   rw [h] at hg; cases hg
  ·replace h1 : (Value.slice ea2 1 ec2).ownBlock = some g' := h1
   rw [h1] at hg; cases hg; have := y10.size; omega
 ·intro g hg
  rcases Hh14.out with h | ⟨g', h1, h2⟩
  ·replace h : (Value.slice na2 1 nc2).ownBlock = none := h
   rw [h] at hg; cases hg
  ·replace h1 : (Value.slice na2 1 nc2).ownBlock = some g' := h1
   rw [h1] at hg; cases hg; have := y13.size; omega
end Go.Proofs.YtgglbholbkdgfaaGreatDoor
namespace Go.Proofs.YtgglbholbkdgfaaGreatDoor
open Go.RowKit
def RSeg.clean (r : RSeg) : RSeg := ⟨r.sg, r.p, r.ev, r.nv, r.xs, false⟩
theorem LogAt.cleanAt {w w' : World} {L d : Nat} {F : Nat → Prop} {pre : ByteArray} {sv : Value} {ini post : List RSeg} {r : RSeg} {m : Nat} (h : LogAt w L d F pre sv (ini ++ r :: post) m)
  (x : Ext (fun b => b = r.sg) w w') (hbS : w'.heap[r.sg]? = some (.cells #[.int .i64 r.p.first, r.ev, r.nv, .bool false] 139 (0, 0))) :
  LogAt w' L d F pre sv (ini ++ r.clean :: post) m := by
 have hr := h.each r (by simp)
 have hap := h.apart
 rw [List.pairwise_append, List.pairwise_cons] at hap
 obtain ⟨ap1, ⟨ap3, ap4⟩, ap2⟩ := hap
 have hu : ∀ g, F g → ∀ cs fr, w.heap[g]? = some (.cells cs 5 fr) → ¬ (g = r.sg) := by
  intro g _ cs fr hg hG
  subst hG
  exact absurd (blk_cells_inj hg hr.blk) (by decide)
 have hLr : L ≠ r.sg := fun e => absurd (blk_cells_inj (e ▸ h.blk) hr.blk) (by decide)
 have other : ∀ q, q ∈ ini ++ r :: post → q.sg ≠ r.sg → SegAt w' F q := fun q hq hne => by
  have hqs := h.each q hq
  exact hqs.ext2 x hne (fun g hg hG => hqs.ents.ne_blk hr.blk (by decide) g hg hG.symm) (fun g hg hG => hqs.ends.ne_blk hr.blk (by decide) g hg hG.symm) hu (fun _ h => h)
 refine ⟨x.blk h.blk hLr, h.self, ?_, h.segsF, ?_, ?_, ?_, fun b hb => Nat.lt_of_lt_of_le (h.lt b hb) x.size, h.m100, ?_, h.preL⟩
 ·have := h.segs.ext x (fun g hg hG => h.segs.ne_blk hr.blk (by decide) g hg hG.symm)
  simp only [List.map_append, List.map_cons, RSeg.ptr, RSeg.clean] at this ⊢
  exact this
 ·intro q hq
  rcases List.mem_append.1 hq with hq | hq
  ·exact other q (by simp [hq]) (ap2 q hq r (by simp)).1
  ·rcases List.mem_cons.1 hq with rfl | hq
   ·exact ⟨hbS, hr.self, hr.ents.ext x (fun g hg hG => hr.ents.ne_blk hr.blk (by decide) g hg hG.symm), hr.entsF, hr.ends.ext x (fun g hg hG => hr.ends.ne_blk hr.blk (by decide) g hg hG.symm), hr.endsF, hr.rows.ext x hu⟩
   ·exact other q (by simp [hq]) (Ne.symm (ap3 q hq).1)
 ·rw [List.pairwise_append, List.pairwise_cons]
  refine ⟨ap1, ⟨fun a ha => ap3 a ha, ap4⟩, fun a ha b hb => ?_⟩
  rcases List.mem_cons.1 hb with rfl | hb
  ·exact ap2 a ha r (by simp)
  ·exact ap2 a ha b (by simp [hb])
 ·have := h.chain
  simp only [List.map_append, List.map_cons, RSeg.clean] at this ⊢
  exact this
 ·intro q hq
  rcases List.mem_append.1 hq with hq | hq
  ·exact h.bytes30 q (by simp [hq])
  ·rcases List.mem_cons.1 hq with rfl | hq
   ·exact h.bytes30 r (by simp)
   ·exact h.bytes30 q (by simp [hq])
end Go.Proofs.YtgglbholbkdgfaaGreatDoor
namespace Go.Proofs.YtgglbholbkdgfaaGreatDoor
open Go.RowKit
def syncSeg (pre : ByteArray) (fs : List (ByteArray × PFile)) (r : RSeg) : List (ByteArray × PFile) :=
 if r.dirty then (match fsGet fs (segName pre r.p.first) with | some f => fsPut fs (segName pre r.p.first) ⟨f.data, f.data.length⟩ | none => fs) else fs
theorem RSeg.clean_of {r : RSeg} (h : r.dirty = false) : r.clean = r := by
 cases r; simp only at h; subst h; rfl
set_option maxRecDepth 100000 in
set_option maxHeartbeats 4000000 in
theorem LogSync_any (L d : Nat) (FD FL : Nat → Prop) (D : PDisk) (pre : ByteArray) (sv : Value) (rs : List RSeg) (m : Nat) (w : World)
  (hL : LogAt w L d FL pre sv rs m) (hd : DiskIs w d FD D) (hdis : ∀ b, FD b → ¬ FL b) (hne : rs ≠ []) (hall : ∀ (i : Nat) (r : RSeg), rs[i]? = some r → ∃ f, fsGet ((rs.take i).foldl (syncSeg pre) D.files) (segName pre r.p.first) = some f) :
  Calls Tryz.prog 91 #[.pointer (some ⟨L, 0, none⟩)] w fun e w' => e = .returned (.int .i64 0) ∧
   StoreEnds w L d FD FL pre ⟨D.room, rs.foldl (syncSeg pre) D.files⟩ (rs.map (·.p)) m false w' := by
 obtain ⟨b, off, c, rfl, hn, hc, hcell⟩ := hL.seg hne
 have c2 : w.cell? ⟨L, 2, none⟩ = some (.slice (some ⟨b, off, none⟩) rs.length c) := by rw [cell_of_blk hL.blk]; rfl
 have hlt100 : rs.length ≤ 100 := by have := hL.chain.count; have := hL.m100; simp only [List.length_map] at *; omega
 have HL := Lib.hid hL
 have HD := Lib.hid hd
 have Hdis := Lib.hid hdis
 have Hall := Lib.hid hall
 clear hL hcell hd hdis hall hn hc hne
 go_enter Tryz.func91, Tryz.ntmps91
 go_wp2_with fail
 go_loopw [12] (fun vi wr => ∃ (i : Nat) (FDi : Nat → Prop), vi = .int .i64 i ∧ i ≤ rs.length ∧ (∀ b, FDi b → Gr FD w wr b) ∧ Ext (fun b => FD b ∨ FL b) w wr ∧ (∀ b, FDi b → ¬ FL b) ∧
   Hid (LogAt wr L d FL pre (.slice (some ⟨b, off, none⟩) rs.length c) ((rs.take i).map RSeg.clean ++ rs.drop i) m) ∧ Hid (DiskIs wr d FDi ⟨D.room, (rs.take i).foldl (syncSeg pre) D.files⟩)) (fun vi _ => rs.length - (intOf vi).toNat)
 case atStart => exact ⟨0, FD, rfl, Nat.zero_le _, fun b hb => .inl hb, Ext.refl _ _, Hdis.out, HL, HD⟩
 case round =>
  obtain ⟨i, FDi, rfl, hi, hsub, hx, hdi, HLi, HDi⟩ := hrel
  by_cases hlt : i < rs.length
  ·have hltI : (i : Int) < (rs.length : Int) := by omega
   obtain ⟨r, hr⟩ : ∃ r, rs[i]? = some r := ⟨_, List.getElem?_eq_getElem hlt⟩
   have hdrop : rs.drop i = r :: rs.drop (i + 1) := by rw [List.drop_eq_getElem_cons hlt]; rw [List.getElem?_eq_getElem hlt] at hr; rw [Option.some.inj hr]
   have htake : rs.take (i + 1) = rs.take i ++ [r] := by rw [List.take_add_one, hr]; rfl
   obtain ⟨fs, hfs⟩ : ∃ fs, (rs.take i).foldl (syncSeg pre) D.files = fs := ⟨_, rfl⟩
   have hfs1 : (rs.take (i + 1)).foldl (syncSeg pre) D.files = syncSeg pre fs r := by rw [htake, List.foldl_append, hfs]; rfl
   obtain ⟨f, hf⟩ := Hall.out i r hr
   rw [hfs] at hf HDi
   obtain ⟨ini, hini⟩ : ∃ ini, (rs.take i).map RSeg.clean = ini := ⟨_, rfl⟩
   obtain ⟨post, hpost⟩ : ∃ post, rs.drop (i + 1) = post := ⟨_, rfl⟩
   have hinil : ini.length = i := by rw [← hini, List.length_map, List.length_take]; omega
   rw [hdrop, hini, hpost] at HLi
   have hnew : (rs.take (i + 1)).map RSeg.clean ++ rs.drop (i + 1) = ini ++ r.clean :: post := by rw [htake, List.map_append, hini, hpost]; simp
   have hL := HLi.out
   have hseg := hL.each r (by simp)
   obtain ⟨b', off', c', hsv, _, _, hcell⟩ := hL.seg (by simp)
   injection hsv with hsv1 hsv2 hsv3
   injection hsv1 with hsv1
   injection hsv1 with hsv1 hsv4
   subst hsv1 hsv4
   have ce : wr.cell? ⟨b, off + i, none⟩ = some (.pointer (some ⟨r.sg, 0, none⟩)) := by simpa [RSeg.ptr] using hcell i r (by rw [List.getElem?_append_right (by omega), hinil, Nat.sub_self]; rfl)
   have hHnew := Lib.hid hnew
   have hHfs1 := Lib.hid hfs1
   clear hdrop htake hfs hini hpost hcell hsv2 hsv3 hnew hfs1
   cases hdirty : r.dirty with
   | false =>
    have cd : wr.cell? ⟨r.sg, 3, none⟩ = some (.bool false) := by rw [cell_of_blk hseg.blk, hdirty]; rfl
    clear hseg hL
    go_wp2_with fail
    go_roundw
    case rel =>
     refine ⟨i + 1, FDi, by go_num, by omega, hsub, hx, hdi, ?_, ?_⟩
     ·rw [hHnew.out, RSeg.clean_of hdirty]; exact HLi
     ·rw [hHfs1.out]
      unfold syncSeg
      rw [hdirty]
      exact HDi
    case measure => simp [intOf]; omega
   | true =>
    have cd : wr.cell? ⟨r.sg, 3, none⟩ = some (.bool true) := by rw [cell_of_blk hseg.blk, hdirty]; rfl
    have c0 : wr.cell? ⟨L, 0, none⟩ = some (.pointer (some ⟨d, 0, none⟩)) := by rw [cell_of_blk hL.blk]; rfl
    have cs : wr.cell? ⟨r.sg, 0, none⟩ = some (.int .i64 r.p.first) := by rw [cell_of_blk hseg.blk]; rfl
    have hfn : r.p.first < 100 := by
     have h1 := ((hL.chain.le).2 r.p (by simp)).2
     have h2 := hL.chain.pos r.p (by simp)
     have := hL.m100
     omega
    have hname := Lib.hid (fun (w' : World) (x : Ext NoB wr w') => name_any L pre r.p.first w' hfn (by have := hL.preL; omega) (x.cell (by rw [cell_of_blk hL.blk]; rfl) (fun h => h)))
    have hsync := Lib.hid (fun (w' : World) (x : Ext NoB wr w') => Sync_ok d FDi _ (segName pre r.p.first) w' (HDi.out.no x) f hf)
    have hnL : ¬ FDi L := fun h => hdi L h hL.self
    have hnS : ¬ FDi r.sg := fun h => hdi r.sg h hseg.self
    have HS := Lib.hid hseg
    have Hdi := Lib.hid hdi
    have Hf := Lib.hid hf
    have Hsub := Lib.hid hsub
    have Hx := Lib.hid hx
    have HnL := Lib.hid hnL
    have HnS := Lib.hid hnS
    clear hL hseg hdi hnL hnS hfn hf hsub hx
    go_wp2_with fail
    go_region_held3 (fun w' => w'.cell? ⟨L, 0, none⟩ = some (.pointer (some ⟨d, 0, none⟩)) ∧ w'.cell? ⟨r.sg, 0, none⟩ = some (.int .i64 r.p.first))
     (first | exact ⟨c0, cs⟩ | assumption)
     (first
      | (go_at_call 100; refine (hname.out _ (Ext.refl NoB _).drew).mono ?_; rintro e w6 ⟨rfl, x6⟩; have y6 : Ext NoB wr w6 := (Ext.refl NoB wr).drew.trans x6; have z6 := And.intro (y6.cell c0 (fun h => h)) (y6.cell cs (fun h => h)))
      | (go_at_call 112; refine (hsync.out w6 y6).mono ?_; rintro e w7 ⟨rfl, x7, d7⟩; have z7 := And.intro (x7.cell z6.1 HnL.out) (x7.cell z6.2 HnS.out)))
    have x27 : Ext FDi wr w7 := (y6.of_no).trans x7
    have hL7 := HLi.out.ext x27 (fun b hb h => Hdi.out b h hb)
    have hS7 := HS.out.ext x27 (fun b hb h => Hdi.out b h hb)
    have cd7 := x27.cell cd HnS.out
    have fd7 : w7.frozen? ⟨r.sg, 3, none⟩ = false := frozen_of_blk hS7.blk 3
    have HL7 := Lib.hid hL7
    have HS7 := Lib.hid hS7
    have Hd7 := Lib.hid d7
    clear hL7 hS7 d7 c0 cs z6 z7 ce cd
    go_wp2_with fail
    have xS : Ext (fun b => b = r.sg) w7 (w7.setCell ⟨r.sg, 3, none⟩ (.bool false)) := (Ext.refl (fun b => b = r.sg) w7).setCell (p := ⟨r.sg, 3, none⟩) (.inl rfl) _
    have hlogF := LogAt.cleanAt HL7.out xS (blk_setCell HS7.out.blk 3 (.bool false))
    have h1 := y6.size
    have h2 := x7.size
    have h3 := xS.size
    have h4 := Hx.out.size
    have hdF : DiskIs (w7.setCell ⟨r.sg, 3, none⟩ (.bool false)) d (Gr FDi w6 w7) ⟨D.room, syncSeg pre fs r⟩ := by
     have e : syncSeg pre fs r = fsPut fs (segName pre r.p.first) ⟨f.data, f.data.length⟩ := by
      unfold syncSeg
      rw [hdirty, Hf.out]
      rfl
     rw [e]
     refine Hd7.out.ext xS (fun b hb hG => ?_)
     rcases hb with hb | hb
     ·exact HnS.out (hG ▸ hb)
     ·have := HLi.out.lt r.sg HS.out.self
      subst hG; omega
    have HlogF := Lib.hid hlogF
    have HdF := Lib.hid hdF
    clear hlogF hdF
    go_roundw
    case rel =>
     refine ⟨i + 1, Gr FDi w6 w7, by go_num, by omega, ?_, ?_, ?_, ?_, ?_⟩
     ·intro b hb
      rcases hb with hb | hb
      ·rcases Hsub.out b hb with h | h
       ·exact .inl h
       ·exact .inr (by omega)
      ·exact .inr (by omega)
     ·refine (Hx.out.next x27 (fun b hb hlt => ?_)).next xS (fun b h _ => .inr (h ▸ HS.out.self))
      rcases Hsub.out b hb with h | h
      ·exact .inl h
      ·omega
     ·intro b hb hb2
      rcases hb with hb | hb
      ·exact Hdi.out b hb hb2
      ·have := HLi.out.lt b hb2; omega
     ·rw [hHnew.out]; exact HlogF
     ·rw [hHfs1.out]; exact HdF
    case measure => simp [intOf]; omega
  ·obtain rfl : i = rs.length := by omega
   have hLi := HLi.out
   have hDi := HDi.out
   rw [List.take_length, List.drop_length, List.append_nil] at hLi
   rw [List.take_length] at hDi
   have HLe := Lib.hid hLi
   have HDe := Lib.hid hDi
   clear hLi hDi HLi HDi
   go_wp2_with fail
   go_ret
   refine ⟨rfl, hx, FDi, FL, hsub, fun b hb => .inl hb, HDe.out, ⟨_, _, HLe.out, ?_, by simp⟩, hdi⟩
   rw [List.map_map]
   rfl
end Go.Proofs.YtgglbholbkdgfaaGreatDoor
namespace Go.Proofs.YtgglbholbkdgfaaGreatDoor
open Go.RowKit
theorem put_perm_same {fs base : Files} {s : ByteArray} {f : PFile} (h : fs.Perm base) (hn : (nm base).Nodup) (hm : (s, f) ∈ base) : (fsPut fs s f).Perm base := by
 obtain ⟨l1, l2, rfl⟩ := List.append_of_mem hm
 have hp : (l1 ++ (s, f) :: l2).Perm ((s, f) :: (l1 ++ l2)) := List.perm_middle
 have hn2 := (nm_perm hp).nodup_iff.1 hn
 exact (put_perm_old (h.trans hp) (List.nodup_cons.1 hn2).1).trans hp.symm
theorem syncSeg_nm (pre : ByteArray) (fs : Files) (r : RSeg) : nm (syncSeg pre fs r) = nm fs := by
 unfold syncSeg
 cases r.dirty with
 | false => rfl
 | true =>
  cases hf : fsGet fs (segName pre r.p.first) with
  | none => rfl
  | some f =>
   simp only [if_true]
   unfold fsPut
   rw [hf]
   simp only [Option.isSome_some, if_true, nm, List.map_map]
   refine List.map_congr_left fun p _ => ?_
   simp only [Function.comp]
   split
   ·next h => exact h.symm
   ·rfl
theorem syncs_nm (pre : ByteArray) : ∀ (rs : List RSeg) (fs : Files), nm (rs.foldl (syncSeg pre) fs) = nm fs
 | [], _ => rfl
 | r :: rs, fs => (syncs_nm pre rs _).trans (syncSeg_nm pre fs r)
theorem syncs_get {pre : ByteArray} {fs : Files} {s : ByteArray} (rs : List RSeg) (h : s ∈ nm fs) : ∃ f, fsGet (rs.foldl (syncSeg pre) fs) s = some f := by
 cases hg : fsGet (rs.foldl (syncSeg pre) fs) s with
 | none => exact absurd (syncs_nm pre rs fs ▸ h) (fsGet_none'.1 hg)
 | some f => exact ⟨f, rfl⟩
theorem syncSeg_perm {pre : ByteArray} {fs base : Files} {r : RSeg} (h : fs.Perm base) (hn : (nm base).Nodup) (hm : (segName pre r.p.first, whole r.p.bytes) ∈ base) : (syncSeg pre fs r).Perm base := by
 unfold syncSeg
 cases r.dirty with
 | false => exact h
 | true =>
  have hg : fsGet fs (segName pre r.p.first) = some (whole r.p.bytes) := (fsGet_mem ((nm_perm h).nodup_iff.2 hn)).2 (h.mem_iff.2 hm)
  rw [hg]
  exact put_perm_same h hn hm
theorem syncs_perm {pre : ByteArray} {base : Files} (hn : (nm base).Nodup) : ∀ (rs : List RSeg) (fs : Files), fs.Perm base → (∀ r ∈ rs, (segName pre r.p.first, whole r.p.bytes) ∈ base) → (rs.foldl (syncSeg pre) fs).Perm base
 | [], _, h, _ => h
 | r :: rs, _, h, hm => syncs_perm hn rs _ (syncSeg_perm h hn (hm r (by simp))) (fun q hq => hm q (by simp [hq]))
end Go.Proofs.YtgglbholbkdgfaaGreatDoor
namespace Go.Proofs.YtgglbholbkdgfaaGreatDoor
open Go.RowKit
theorem segName_inj' : ∀ a, a < 100 → ∀ b, b < 100 → segName logPre a = segName logPre b → a = b := by decide +kernel
theorem segName_ne_term : ∀ a, a < 100 → segName logPre a ≠ termName := by decide +kernel
end Go.Proofs.YtgglbholbkdgfaaGreatDoor
namespace Go.Proofs.YtgglbholbkdgfaaGreatDoor
open Go.RowKit
theorem canon_snoc (tf : Option (Nat × Int)) (ini : List PSeg) (p : PSeg) : canon tf (ini ++ [p]) = canon tf ini ++ [(segName logPre p.first, whole p.bytes)] := by
 unfold canon logFs
 simp
theorem nm_canon (tf : Option (Nat × Int)) (ps : List PSeg) : nm (canon tf ps) = nm (termFs tf) ++ ps.map (fun p => segName logPre p.first) := by
 unfold canon logFs nm
 simp
theorem termFs_mem {tf : Option (Nat × Int)} {s : ByteArray} (h : s ∈ nm (termFs tf)) : s = termName := by
 cases tf with
 | none => simp [termFs, nm] at h
 | some p => simpa [termFs, nm] using h
theorem termFs_nodup (tf : Option (Nat × Int)) : (nm (termFs tf)).Nodup := by
 cases tf <;> simp [termFs, nm]
theorem Chain.first_lt {n : Nat} {ps : List PSeg} {m : Nat} (h : Chain n ps m) {p : PSeg} (hp : p ∈ ps) : n ≤ p.first ∧ p.first < m := by
 have h1 := h.le.2 p hp
 have h2 := h.pos p hp
 omega
theorem Chain.split : ∀ {n : Nat} {ps : List PSeg} {p : PSeg} {m : Nat}, Chain n (ps ++ [p]) m → Chain n ps p.first
 | n, [], p, m, h => h.1.symm
 | n, q :: ps, p, m, h => ⟨h.1, h.2.1, Chain.split h.2.2⟩
theorem seg_new {tf : Option (Nat × Int)} {ps : List PSeg} {m : Nat} (h : Chain 1 ps m) (hm : m < 100) : segName logPre m ∉ nm (canon tf ps) := by
 rw [nm_canon, List.mem_append]
 rintro (h1 | h1)
 ·exact segName_ne_term m hm (termFs_mem h1)
 ·obtain ⟨p, hp, he⟩ := List.mem_map.1 h1
  have h2 := (h.first_lt hp).2
  have := segName_inj' p.first (by omega) m hm he
  omega
theorem segs_nodup : ∀ {n : Nat} {ps : List PSeg} {m : Nat}, Chain n ps m → m ≤ 100 → (ps.map (fun p => segName logPre p.first)).Nodup
 | _, [], _, _, _ => List.nodup_nil
 | n, p :: ps, m, h, hm => by
  have hp := h.first_lt (p := p) (by simp)
  obtain ⟨h1, h2, h3⟩ := h
  rw [List.map_cons, List.nodup_cons]
  refine ⟨fun hmem => ?_, segs_nodup h3 hm⟩
  obtain ⟨q, hq, he⟩ := List.mem_map.1 hmem
  have hql := h3.first_lt hq
  have := segName_inj' q.first (by omega) p.first (by omega) he
  have := List.length_pos_iff.2 h2
  omega
theorem canon_nodup {tf : Option (Nat × Int)} {ps : List PSeg} {n m : Nat} (h : Chain n ps m) (hm : m ≤ 100) : (nm (canon tf ps)).Nodup := by
 rw [nm_canon, List.nodup_append]
 refine ⟨termFs_nodup tf, segs_nodup h hm, fun a ha b hb e => ?_⟩
 obtain ⟨p, hp, he⟩ := List.mem_map.1 hb
 have := (h.first_lt hp).2
 exact segName_ne_term p.first (by omega) (he.trans (e.symm.trans (termFs_mem ha)))
def Almost (tf : Option (Nat × Int)) (ps : List PSeg) (fs : Files) : Prop := ∃ ini p g, ps = ini ++ [p] ∧ g.data = p.bytes ∧ fs.Perm ((segName logPre p.first, g) :: canon tf ini)
def esOf (ps : List PSeg) : List (List UInt8) := (ps.map (·.es)).flatten
theorem esOf_snoc (ps : List PSeg) (p : PSeg) : esOf (ps ++ [p]) = esOf ps ++ p.es := by simp [esOf]
def Appended (w : World) (L d : Nat) (FD FL : Nat → Prop) (D : PDisk) (ps : List PSeg) (m : Nat) (l : List UInt8) (tf : Option (Nat × Int)) (w' : World) : Prop :=
 ∃ D' ps', StoreEnds w L d FD FL logPre D' ps' (m + 1) true w' ∧ D'.room = D.room ∧ esOf ps' = esOf ps ++ [l] ∧ Almost tf ps' D'.files
theorem LogAppend_any (L d : Nat) (FD FL : Nat → Prop) (D : PDisk) (sv : Value) (rs : List RSeg) (m : Nat) (p : Value) (l : List UInt8) (tf : Option (Nat × Int)) (w : World)
  (hL : LogAt w L d FL logPre sv rs m) (hd : DiskIs w d FD D) (hdis : ∀ b, FD b → ¬ FL b) (hp : RdB w p l) (hpo : Off FD p) (hpo2 : Off FL p) (hl : l.length ≤ 1048566) (hm : m < 100)
  (hfit : (enc (uv m ++ l)).length + usedL D.files ≤ D.room) (hcnt : D.files.length < 256) (hperm : D.files.Perm (canon tf (rs.map (·.p)))) :
  Calls Tryz.prog 90 #[.pointer (some ⟨L, 0, none⟩), p] w fun e w' => e = .returned (.tuple #[.int .i64 m, .int .i64 0]) ∧ Appended w L d FD FL D (rs.map (·.p)) m l tf w' := by
 have hel : (enc (uv m ++ l)).length ≤ 1048594 := by rw [enc_length, List.length_append]; have := uv_length m; omega
 have hch := hL.chain
 rcases List.eq_nil_or_concat rs with rfl | ⟨ini, r, rfl⟩
 ·refine (LogAppend_first L d FD FL D logPre sv m p l w hL hd hdis hp hpo hpo2 hl hm hfit hcnt (by show (segBytes m [l]).length ≤ _; simp only [segBytes, List.append_nil]; omega)).mono ?_
  rintro e w' ⟨rfl, h⟩
  refine ⟨rfl, _, _, h, rfl, by simp [esOf], [], ⟨m, [l]⟩, _, rfl, ?_, put_perm_new hperm (seg_new hch hm)⟩
  have hg : fsGet D.files (segName logPre m) = none := fsGet_none'.2 (fun h' => seg_new hch hm ((nm_perm hperm).mem_iff.1 h'))
  rw [hg]
  simp [fApp, PSeg.bytes, segBytes]
 ·rw [List.concat_eq_append] at hL hperm hch ⊢
  rw [List.map_append, List.map_cons, List.map_nil] at hch hperm
  have hsplit := hch.split
  have hlt := (hch.first_lt (p := r.p) (by simp)).2
  have hnew := seg_new (tf := tf) hsplit (by omega)
  by_cases hsz : r.p.bytes.length < 1024
  ·have hnext := hch.last_next
   have hby : PSeg.bytes ⟨r.p.first, r.p.es ++ [l]⟩ = r.p.bytes ++ enc (uv m ++ l) := by
    unfold PSeg.bytes
    rw [segBytes_append]
    simp only [segBytes, List.append_nil]
    unfold PSeg.next at hnext
    rw [hnext]
   refine (LogAppend_more L d FD FL D logPre sv ini r m p l w hL hd hdis hp hpo hpo2 hl hm hsz hfit hcnt (by rw [hby, List.length_append]; omega)).mono ?_
   rintro e w' ⟨rfl, h⟩
   rw [canon_snoc] at hperm
   have hp2 := hperm.trans List.perm_append_comm
   have hnd : (nm (canon tf (ini.map (·.p)))).Nodup := canon_nodup hsplit (by omega)
   have hg := get_perm (rest := canon tf (ini.map (·.p))) hp2 hnew hnd
   refine ⟨rfl, _, _, h, rfl, ?_, ini.map (·.p), ⟨r.p.first, r.p.es ++ [l]⟩, _, rfl, ?_, put_perm_old hp2 hnew⟩
   ·rw [List.map_append, List.map_cons, List.map_nil, esOf_snoc, esOf_snoc, List.append_assoc]
   ·rw [hg, hby]; rfl
  ·refine (LogAppend_next L d FD FL D logPre sv ini r m p l w hL hd hdis hp hpo hpo2 hl hm (by omega) hfit hcnt (by show (segBytes m [l]).length ≤ _; simp only [segBytes, List.append_nil]; omega)).mono ?_
   rintro e w' ⟨rfl, h⟩
   have hnm := seg_new (tf := tf) hch hm
   refine ⟨rfl, _, _, h, rfl, by rw [esOf_snoc], (ini ++ [r]).map (·.p), ⟨m, [l]⟩, _, rfl, ?_, by rw [List.map_append, List.map_cons, List.map_nil]; exact put_perm_new hperm hnm⟩
   have hg : fsGet D.files (segName logPre m) = none := fsGet_none'.2 (fun h' => hnm ((nm_perm hperm).mem_iff.1 h'))
   rw [hg]
   simp [fApp, PSeg.bytes, segBytes]
theorem syncSeg_dirty {pre : ByteArray} {fs : Files} {r : RSeg} {g : PFile} (hd : r.dirty = true) (hg : fsGet fs (segName pre r.p.first) = some g) : syncSeg pre fs r = fsPut fs (segName pre r.p.first) ⟨g.data, g.data.length⟩ := by
 unfold syncSeg
 rw [hd, hg]
 rfl
theorem LogSync_almost (L d : Nat) (FD FL : Nat → Prop) (D : PDisk) (sv : Value) (rs : List RSeg) (m : Nat) (tf : Option (Nat × Int)) (w : World)
  (hL : LogAt w L d FL logPre sv rs m) (hd : DiskIs w d FD D) (hdis : ∀ b, FD b → ¬ FL b) (hdl : ∃ ini r, rs = ini ++ [r] ∧ r.dirty = true) (ha : Almost tf (rs.map (·.p)) D.files) :
  Calls Tryz.prog 91 #[.pointer (some ⟨L, 0, none⟩)] w fun e w' => e = .returned (.int .i64 0) ∧ ∃ D', StoreEnds w L d FD FL logPre D' (rs.map (·.p)) m false w' ∧ D'.room = D.room ∧ D'.files.Perm (canon tf (rs.map (·.p))) := by
 obtain ⟨ini, r, rfl, hdirty⟩ := hdl
 obtain ⟨pini, p, g, he, hg, hperm⟩ := ha
 rw [List.map_append, List.map_cons, List.map_nil] at he
 obtain ⟨rfl, h2⟩ := List.append_inj' he rfl
 obtain rfl : r.p = p := by simpa using h2
 have hch := hL.chain
 rw [List.map_append, List.map_cons, List.map_nil] at hch
 have hm := hL.m100
 have hsplit := hch.split
 have hlt := (hch.first_lt (p := r.p) (by simp)).2
 have hnew := seg_new (tf := tf) hsplit (by omega)
 have hnd : (nm (canon tf (ini.map (·.p)))).Nodup := canon_nodup hsplit (by omega)
 have hmem : ∀ q ∈ ini, (segName logPre q.p.first, whole q.p.bytes) ∈ canon tf (ini.map (·.p)) := fun q hq => by
  unfold canon logFs
  rw [List.map_map]
  exact List.mem_append_right _ (List.mem_map.2 ⟨q, hq, rfl⟩)
 refine (LogSync_any L d FD FL D logPre sv (ini ++ [r]) m w hL hd hdis (by simp) ?_).mono ?_
 ·intro i q hi
  refine syncs_get _ ((nm_perm hperm).mem_iff.2 ?_)
  rcases List.mem_append.1 (List.mem_of_getElem? hi) with hq | hq
  ·exact List.mem_cons_of_mem _ (List.mem_map.2 ⟨_, hmem q hq, rfl⟩)
  ·obtain rfl : q = r := by simpa using hq
   exact List.mem_cons_self
 ·rintro e w' ⟨rfl, h⟩
  refine ⟨rfl, _, h, rfl, ?_⟩
  show List.Perm ((ini ++ [r]).foldl (syncSeg logPre) D.files) _
  rw [List.foldl_append, List.map_append, List.map_cons, List.map_nil, canon_snoc]
  have h1 := syncs_perm (pre := logPre) (base := (segName logPre r.p.first, g) :: canon tf (ini.map (·.p))) (by
   show (segName logPre r.p.first :: nm (canon tf (ini.map (·.p)))).Nodup
   exact List.nodup_cons.2 ⟨hnew, hnd⟩) ini D.files hperm (fun q hq => List.mem_cons_of_mem _ (hmem q hq))
  have h2 := get_perm h1 hnew hnd
  show List.Perm (syncSeg logPre (ini.foldl (syncSeg logPre) D.files) r) _
  rw [syncSeg_dirty hdirty h2, hg]
  exact (put_perm_old (f := whole r.p.bytes) h1 hnew).trans (List.perm_append_comm (l₁ := [_]))
end Go.Proofs.YtgglbholbkdgfaaGreatDoor
namespace Go.Proofs.YtgglbholbkdgfaaGreatDoor
open Go.RowKit
set_option maxRecDepth 100000 in
set_option maxHeartbeats 4000000 in
theorem lay_any (r d : Nat) (F : Nat → Prop) (N : PNode) (room : Nat) (saved : Bool) (t : Nat) (dv : Value) (x : List UInt8) (w : World) (h : RaftIs w r d F N room saved) (hlog : N.log.length < 99) (hx : RdB w dv x) (hoff : Off F dv) (hxl : x.length ≤ 65536) (ht : t ≤ 1099511627776)
    (hroom : N.bytes + x.length + 200 ≤ room) :
    Calls Tryz.prog 55 #[.pointer (some ⟨r, 0, none⟩), .agg #[.int .i64 t, dv]] w fun e w' => e = .returned (.bool true) ∧ Ext F w w' ∧ RaftIs w' r d (Gr F w w') { N with log := N.log ++ [(t, x)] } room saved := by
  obtain ⟨D, ps, ⟨L, FD, FL, FR, tv, dl, hA, hF, hlt⟩, hrm, hperm⟩ := h.is
  obtain ⟨ax, cx, rfl, hxn, hxc⟩ := hx.shape
  have c3 : w.cell? ⟨r, 3, none⟩ = some (.pointer (some ⟨L, 0, none⟩)) := by rw [cell_of_blk hA.blk]; rfl
  have hw1 : IntKind.u64.wrap (t : Int) = (t : Int) := by rw [IntKind.wrap_u64]; omega
  have HA := Lib.hid hA
  have HF := Lib.hid hF
  have Hlt := Lib.hid hlt
  have HX := Lib.hid hx
  have Hoff := Lib.hid hoff
  have HU := Lib.hid (fun w' => Uvarint_any t (Lib.hid (by unfold U64; omega)) w')
  have HR := Lib.hid h
  have Hrm := Lib.hid hrm
  have Hperm := Lib.hid hperm
  have Hroom := Lib.hid hroom
  have Hxl := Lib.hid hxl
  have Hlog := Lib.hid hlog
  clear h hA hF hlt hx hoff hrm hperm hroom ht hxl hxn hxc hlog
  go_enter Tryz.func55, Tryz.ntmps55
  go_wp2_with fail
  obtain ⟨w1, E, e1, e2, x1, b1, hs1⟩ := alloc_facts w (.cells #[.int .i64 t, .slice ax x.length cx] 50)
  rw [e1, e2]
  have d0 := x1.cell c3 (fun h => h)
  have d1 : w1.cell? ⟨E, 0, none⟩ = some (.int .i64 t) := by rw [cell_of_blk b1]; rfl
  have d2 : w1.cell? ⟨E, 1, none⟩ = some (.slice ax x.length cx) := by rw [cell_of_blk b1]; rfl
  refine wp_region_N (fun w' => w'.cell? ⟨r, 3, none⟩ = some (.pointer (some ⟨L, 0, none⟩)) ∧ w'.cell? ⟨E, 0, none⟩ = some (.int .i64 t) ∧ w'.cell? ⟨E, 1, none⟩ = some (.slice ax x.length cx)) 17 (by kernel_rfl) ?_
  have hSd : w1.drew.cell? ⟨r, 3, none⟩ = some (.pointer (some ⟨L, 0, none⟩)) ∧ w1.drew.cell? ⟨E, 0, none⟩ = some (.int .i64 t) ∧ w1.drew.cell? ⟨E, 1, none⟩ = some (.slice ax x.length cx) := ⟨d0, d1, d2⟩
  have x1d : Ext NoB w w1.drew := x1.drew
  have b1d : w1.drew.heap[E]? = some (.cells #[.int .i64 t, .slice ax x.length cx] 50 (0, 0)) := b1
  have hEw : w.heap.size = E := e2
  generalize w1.drew = wd at hSd x1d b1d ⊢
  have hSw := hSd
  clear e1 e2 b1 d0 d1 d2
  refine wpAnyN_free 0 (v := ?_) (by kernel_rfl) rfl (fun _ _ _ h => h) hSd (by rfl) ?_ ?_; rotate_left; (focus (intro w; go_simp; try with_reducible rfl)); (try simp only [Act.put]); (try simp only [List.setIfInBounds_toArray, List.set_cons_zero, List.set_cons_succ])
  refine wpAnyN_free 1 (v := ?_) (by kernel_rfl) rfl (fun _ _ _ h => h) hSd (by rfl) ?_ ?_; rotate_left; (focus (intro w; go_simp; try with_reducible rfl)); (try simp only [Act.put]); (try simp only [List.setIfInBounds_toArray, List.set_cons_zero, List.set_cons_succ])
  refine wpAnyN_free 2 (v := ?_) (by kernel_rfl) rfl (fun _ _ _ h => h) hSd (by rfl) ?_ ?_; rotate_left; (focus (intro w; go_simp; try with_reducible rfl)); (try simp only [Act.put]); (try simp only [List.setIfInBounds_toArray, List.set_cons_zero, List.set_cons_succ])
  refine wpAnyN_take 3 (v := ?_) (by kernel_rfl) rfl (fun _ _ _ h => h) hSd (by rfl) ?_ ?_; rotate_left; (focus (intro w hSw; (try dsimp only at hSw); go_simp; try with_reducible rfl)); (try simp only [Act.put]); (try simp only [List.setIfInBounds_toArray, List.set_cons_zero, List.set_cons_succ])
  refine wpAnyN_free 4 (v := ?_) (by kernel_rfl) rfl (fun _ _ _ h => h) hSd (by rfl) ?_ ?_; rotate_left; (focus (intro w; go_simp; try with_reducible rfl)); (try simp only [Act.put]); (try simp only [List.setIfInBounds_toArray, List.set_cons_zero, List.set_cons_succ])
  refine wpAnyN_take 5 (v := ?_) (by kernel_rfl) rfl (fun _ _ _ h => h) hSd (by rfl) ?_ ?_; rotate_left; (focus (intro w hSw; (try dsimp only at hSw); go_simp; try with_reducible rfl)); (try simp only [Act.put]); (try simp only [List.setIfInBounds_toArray, List.set_cons_zero, List.set_cons_succ])
  refine wpAnyN_free 6 (v := ?_) (by kernel_rfl) rfl (fun _ _ _ h => h) hSd (by rfl) ?_ ?_; rotate_left; (focus (intro w; go_simp; try with_reducible rfl)); (try simp only [Act.put]); (try simp only [List.setIfInBounds_toArray, List.set_cons_zero, List.set_cons_succ])
  refine wpAnyN_free 8 (v := ?_) (by kernel_rfl) rfl (fun _ _ _ h => h) hSd (by rfl) ?_ ?_; rotate_left; (focus (intro w; go_simp; try with_reducible rfl)); (try simp only [Act.put]); (try simp only [List.setIfInBounds_toArray, List.set_cons_zero, List.set_cons_succ])
  refine wpAnyN_take 9 (v := ?_) (by kernel_rfl) rfl (fun _ _ _ h => h) hSd (by rfl) ?_ ?_; rotate_left; (focus (intro w hSw; (try dsimp only at hSw); go_simp; try with_reducible rfl)); (try simp only [Act.put]); (try simp only [List.setIfInBounds_toArray, List.set_cons_zero, List.set_cons_succ])
  refine wpAnyN_one 7 (by kernel_rfl) (by simp only [List.getElem?_toArray, List.getElem?_cons_succ, List.getElem?_cons_zero] <;> rfl) (by rfl) (fun K hK => ?_)
  go_simp
  refine (HU.out wd).mono ?_; rintro e w2 ⟨s2, rfl, o2, f2, x2⟩
  obtain ⟨a2, k2, rfl, hn2, hk2⟩ := RdB.shape (l := uv t) o2.rd
  have hS2 := And.intro (x2.cell hSd.1 (fun h => h)) (And.intro (x2.cell hSd.2.1 (fun h => h)) (x2.cell hSd.2.2 (fun h => h)))
  go_wp2_with fail
  refine hK.out _ _ hS2 (fun hSd => ?_)
  clear hK K hSd
  have hSd := hS2
  (try simp only [Act.put]); (try simp only [List.setIfInBounds_toArray, List.set_cons_zero, List.set_cons_succ])
  refine wpAnyN_one 10 (by kernel_rfl) (by simp only [List.getElem?_toArray, List.getElem?_cons_succ, List.getElem?_cons_zero] <;> rfl) (by rfl) (fun K hK => ?_)
  have hb3 : ((bytesV (uv t)).length + (bytesV x).length) * 1 ≤ 140737488355328 := by have := uv_length t; have := Hxl.out; simp only [bytesV_length]; omega
  refine wp_app _ (.tmp 15) (.tmp 17) 35 35 rfl 5 1 1 unBytes elByte _ o2 _ _ (Rd.src unBytes ((Rd.no HX.out x1d).no x2) (bytesV_one _) (by decide)) hb3 (by decide) ?_
  intro v3 w3 o3 x3 h3
  have y3 : Ext NoB wd w3 := f2.ext x2 x3
  have hS3 := And.intro (y3.cell hSw.1 (fun h => h)) (And.intro (y3.cell hSw.2.1 (fun h => h)) (y3.cell hSw.2.2 (fun h => h)))
  rw [← bytesV_append] at o3
  obtain ⟨el, hel⟩ : ∃ el, uv t ++ x = el := ⟨_, rfl⟩
  have hell : el.length ≤ 65546 := by rw [← hel, List.length_append]; have := uv_length t; have := Hxl.out; omega
  rw [hel] at o3
  obtain ⟨a3, k3, rfl, hn3, hk3⟩ := RdB.shape (l := el) o3.rd
  have hf3 : Fresh wd (.slice a3 el.length k3) := f2.app x2.size h3
  refine hK.out _ _ hS3 (fun hSd => ?_)
  clear hK K hSd
  have hSd := hS3
  (try simp only [Act.put]); (try simp only [List.setIfInBounds_toArray, List.set_cons_zero, List.set_cons_succ])
  refine wpAnyN_one 11 (by kernel_rfl) (by simp only [List.getElem?_toArray, List.getElem?_cons_succ, List.getElem?_cons_zero] <;> rfl) (by rfl) (fun K hK => ?_)
  go_simp
  have hA := HA.out
  have z3 : Ext NoB w w3 := x1d.trans y3
  obtain ⟨sv, rs, l1, l2, l3⟩ := hA.store.log
  have hperm0 := Hperm.out
  rw [← l2] at hperm0
  obtain ⟨hu1, hu2⟩ := canon_room hA Hperm.out
  have hlen1 : (uv (N.log.length + 1)).length ≤ 10 := uv_length _
  have helen : (enc (uv (N.log.length + 1) ++ el)).length ≤ el.length + 18 := by rw [enc_length, List.length_append]; omega
  have happ := LogAppend_any L d FD FL D sv rs (N.log.length + 1) (.slice a3 el.length k3) el (if saved then some (N.term, N.vote) else none) w3 (l1.no z3) (hA.store.disk.no z3) hA.store.apart o3.rd
    (fun g hg hb => by have := hf3 g hg; have := hA.store.disk.lt g hb; have := x1d.size; omega) (fun g hg hb => by have := hf3 g hg; have := l1.lt g hb; have := x1d.size; omega)
    (by omega) (by have := Hlog.out; omega) (by have h1 := Hroom.out; have h2 := Hrm.out; have h3 : el.length ≤ x.length + 10 := by (rw [← hel, List.length_append]; have := uv_length t; omega)
                                                omega) hu2 hperm0
  rw [l2] at happ
  have Happ := Lib.hid happ
  have Hel := Lib.hid hel
  have Hz3 := Lib.hid z3
  clear happ hel hell hf3 o3 x3 h3 o2 f2 l1 l2 l3 hA hb3 hn2 hk2 hn3 hk3 hu1 hu2 hlen1 helen hperm0
  refine Happ.out.mono ?_; rintro e w4 ⟨rfl, D4, ps4, s4, hr4, he4, ha4⟩
  obtain ⟨x4, FD', FL', sub1, sub2, st4⟩ := s4
  have hA := HA.out
  have hrx : ¬ (FD r ∨ FL r) := fun h => h.elim (fun h => hA.apD r hA.self h) (fun h => hA.apL r hA.self h)
  have hEx : ¬ (FD E ∨ FL E) := fun h => by have := Hlt.out E (HF.out E (h.elim .inl (fun h => .inr (.inl h)))); omega
  have hS4 := And.intro (x4.cell hSd.1 hrx) (And.intro (x4.cell hSd.2.1 hEx) (x4.cell hSd.2.2 hEx))
  have Hx4 := Lib.hid x4
  have Hsub1 := Lib.hid sub1
  have Hsub2 := Lib.hid sub2
  have Hst4 := Lib.hid st4
  have HrX := Lib.hid hrx
  have HeX := Lib.hid hEx
  clear x4 sub1 sub2 st4 hA hrx hEx Happ
  go_wp2_with fail
  refine hK.out _ _ hS4 (fun hSd => ?_)
  clear hK K hSd hS3 hS2 hSw
  have hSd := hS4
  (try simp only [Act.put]); (try simp only [List.setIfInBounds_toArray, List.set_cons_zero, List.set_cons_succ])
  refine wpAnyN_free 12 (v := ?_) (by kernel_rfl) rfl (fun _ _ _ h => h) hSd (by rfl) ?_ ?_; rotate_left; (focus (intro w; go_simp; try with_reducible rfl)); (try simp only [Act.put]); (try simp only [List.setIfInBounds_toArray, List.set_cons_zero, List.set_cons_succ])
  refine wpAnyN_free 13 (v := ?_) (by kernel_rfl) rfl (fun _ _ _ h => h) hSd (by rfl) ?_ ?_; rotate_left; (focus (intro w; go_simp; try with_reducible rfl)); (try simp only [Act.put]); (try simp only [List.setIfInBounds_toArray, List.set_cons_zero, List.set_cons_succ])
  refine wpAnyN_free 14 (v := ?_) (by kernel_rfl) rfl (fun _ _ _ h => h) hSd (by rfl) ?_ ?_; rotate_left; (focus (intro w; go_simp; try with_reducible rfl)); (try simp only [Act.put]); (try simp only [List.setIfInBounds_toArray, List.set_cons_zero, List.set_cons_succ])
  refine wpAnyN_free 15 (v := ?_) (by kernel_rfl) rfl (fun _ _ _ h => h) hSd (by rfl) ?_ ?_; rotate_left; (focus (intro w; go_simp; try with_reducible rfl)); (try simp only [Act.put]); (try simp only [List.setIfInBounds_toArray, List.set_cons_zero, List.set_cons_succ])
  refine wpAnyN_free 16 (v := ?_) (by kernel_rfl) rfl (fun _ _ _ h => h) hSd (by rfl) ?_ ?_; rotate_left; (focus (intro w; go_simp; try with_reducible rfl)); (try simp only [Act.put]); (try simp only [List.setIfInBounds_toArray, List.set_cons_zero, List.set_cons_succ])
  refine wpAnyN_tail (by rfl) (by decide) (by kernel_rfl) (by kernel_rfl) ?_
  simp only [List.drop_succ_cons, List.drop_zero, List.drop_nil]
  obtain ⟨e0, e1, e2⟩ := hSd
  obtain ⟨sv4, rs4, l4, hm4, hdl4⟩ := Hst4.out.log
  have hdl4 := hdl4 rfl
  have hsync := fun (w' : World) (y : Ext NoB w4 w') => LogSync_almost L d FD' FL' D4 sv4 rs4 (N.log.length + 1 + 1) (if saved then some (N.term, N.vote) else none) w' (l4.no y) (Hst4.out.disk.no y) Hst4.out.apart hdl4 (by rw [hm4]; exact ha4)
  rw [hm4] at hsync
  have Hsync := Lib.hid hsync
  have Hr4 := Lib.hid hr4
  have He4 := Lib.hid he4
  clear l4 hm4 hdl4 hsync hr4 he4 ha4 hS4
  go_wp2_with fail
  refine (Hsync.out w4 (Ext.refl _ _)).mono ?_; rintro e w5 ⟨rfl, D5, s5, hr5, hp5⟩
  obtain ⟨x5, FD2, FL2, sub3, sub4, st5⟩ := s5
  have hA := HA.out
  have hsz3 := Hz3.out.size
  have hE3 : E < w3.heap.size := Nat.lt_of_lt_of_le (lt_of_blk b1d) y3.size
  have x05 : Ext (fun b => FD b ∨ FL b) w w5 := ((Hz3.out.of_no).trans Hx4.out).next x5 (fun b h hb => by
    rcases h with h | h
    · rcases Hsub1.out b h with h | h
      · exact .inl h
      · omega
    · rcases Hsub2.out b h with h | h
      · exact .inr h
      · omega)
  have b5 := x05.blk hA.blk HrX.out
  have o5 := hA.terms.ext x05 (fun g hg h => h.elim (fun h => hA.apD g (hA.termsF g hg) h) (fun h => hA.apL g (hA.termsF g hg) h))
  obtain ⟨ta, tc, htv, _, htc⟩ := Rd.shape o5.rd
  obtain ⟨nl, hnl⟩ : ∃ nl, (natsV N.terms).length = nl := ⟨_, rfl⟩
  have hnl2 : nl ≤ 100 := by rw [← hnl]; simp only [natsV, PNode.terms, List.length_map]; have := Hlog.out; omega
  rw [hnl] at htv
  have hE5 : ¬ (FD' E ∨ FL' E) := by
    rintro (h | h)
    · rcases Hsub1.out E h with h | h
      · exact HeX.out (.inl h)
      · omega
    · rcases Hsub2.out E h with h | h
      · exact HeX.out (.inr h)
      · omega
  have e1' := x5.cell e1 hE5
  have hbE5 := x5.blk (Hx4.out.blk (y3.blk b1d (fun h => h)) HeX.out) hE5
  have c4 : w5.cell? ⟨r, 4, none⟩ = some (.slice ta nl tc) := by rw [cell_of_blk b5, ← htv]; rfl
  have f4 : w5.frozen? ⟨r, 4, none⟩ = false := frozen_of_blk b5 4
  have o5' : Own w5 3 1 (.slice ta nl tc) (natsV N.terms) := by have := o5; rw [htv] at this; exact this
  have Ho5 := Lib.hid o5'
  have Hb5 := Lib.hid b5
  have Hx05 := Lib.hid x05
  have Hsub3 := Lib.hid sub3
  have Hsub4 := Lib.hid sub4
  have Hst5 := Lib.hid st5
  have Hx5 := Lib.hid x5
  have Htv := Lib.hid htv
  have Hnl2 := Lib.hid (And.intro hnl hnl2)
  have Hr5 := Lib.hid hr5
  have Hp5 := Lib.hid hp5
  clear x5 sub3 sub4 st5 b5 o5 o5' x05 hE5 hA e0 e2 htv e1 hnl hnl2 hr5 hp5
  go_wp2_with fail
  refine wp_region_N (fun w' => w'.cell? ⟨r, 4, none⟩ = some (.slice ta nl tc) ∧ w'.cell? ⟨E, 0, none⟩ = some (.int .i64 t)) 9 (by kernel_rfl) ?_
  have hSd : w5.drew.cell? ⟨r, 4, none⟩ = some (.slice ta nl tc) ∧ w5.drew.cell? ⟨E, 0, none⟩ = some (.int .i64 t) := ⟨c4, e1'⟩
  have xD : Ext NoB w5 w5.drew := (Ext.refl _ w5).drew
  have bE5 : w5.drew.heap[E]? = some (.cells #[.int .i64 t, .slice ax x.length cx] 50 (0, 0)) := hbE5
  generalize w5.drew = wD at hSd xD bE5 ⊢
  refine wpAnyN_free 0 (v := ?_) (by kernel_rfl) rfl (fun _ _ _ h => h) hSd (by rfl) ?_ ?_; rotate_left; (focus (intro w; go_simp; try with_reducible rfl)); (try simp only [Act.put]); (try simp only [List.setIfInBounds_toArray, List.set_cons_zero, List.set_cons_succ])
  refine wpAnyN_free 1 (v := ?_) (by kernel_rfl) rfl (fun _ _ _ h => h) hSd (by rfl) ?_ ?_; rotate_left; (focus (intro w; go_simp; try with_reducible rfl)); (try simp only [Act.put]); (try simp only [List.setIfInBounds_toArray, List.set_cons_zero, List.set_cons_succ])
  refine wpAnyN_free 2 (v := ?_) (by kernel_rfl) rfl (fun _ _ _ h => h) hSd (by rfl) ?_ ?_; rotate_left; (focus (intro w; go_simp; try with_reducible rfl)); (try simp only [Act.put]); (try simp only [List.setIfInBounds_toArray, List.set_cons_zero, List.set_cons_succ])
  refine wpAnyN_free 3 (v := ?_) (by kernel_rfl) rfl (fun _ _ _ h => h) hSd (by rfl) ?_ ?_; rotate_left; (focus (intro w; go_simp; try with_reducible rfl)); (try simp only [Act.put]); (try simp only [List.setIfInBounds_toArray, List.set_cons_zero, List.set_cons_succ])
  refine wpAnyN_take 4 (v := ?_) (by kernel_rfl) rfl (fun _ _ _ h => h) hSd (by rfl) ?_ ?_; rotate_left; (focus (intro w hSw; (try dsimp only at hSw); go_simp; try with_reducible rfl)); (try simp only [Act.put]); (try simp only [List.setIfInBounds_toArray, List.set_cons_zero, List.set_cons_succ])
  refine wpAnyN_free 5 (v := ?_) (by kernel_rfl) rfl (fun _ _ _ h => h) hSd (by rfl) ?_ ?_; rotate_left; (focus (intro w; go_simp; try with_reducible rfl)); (try simp only [Act.put]); (try simp only [List.setIfInBounds_toArray, List.set_cons_zero, List.set_cons_succ])
  refine wpAnyN_take 6 (v := ?_) (by kernel_rfl) rfl (fun _ _ _ h => h) hSd (by rfl) ?_ ?_; rotate_left; (focus (intro w hSw; (try dsimp only at hSw); go_simp; try with_reducible rfl)); (try simp only [Act.put]); (try simp only [List.setIfInBounds_toArray, List.set_cons_zero, List.set_cons_succ])
  refine wpAnyN_one 7 (by kernel_rfl) (by simp only [List.getElem?_toArray, List.getElem?_cons_succ, List.getElem?_cons_zero] <;> rfl) (by rfl) (fun K hK => ?_)
  go_simp
  obtain ⟨w6, B6, q1, q2, x6, b6, hs6⟩ := alloc_facts wD (.cells #[.int .i64 t] 3)
  rw [q1, q2]
  have hS6 := And.intro (x6.cell hSd.1 (fun h => h)) (x6.cell hSd.2 (fun h => h))
  refine hK.out _ _ hS6 (fun hSd => ?_)
  clear hK K hSd q1
  have hSd := hS6
  (try simp only [Act.put]); (try simp only [List.setIfInBounds_toArray, List.set_cons_zero, List.set_cons_succ])
  refine wpAnyN_one 8 (by kernel_rfl) (by simp only [List.getElem?_toArray, List.getElem?_cons_succ, List.getElem?_cons_zero] <;> rfl) (by rfl) (fun K hK => ?_)
  have y6 := xD.trans x6
  have o6 := Ho5.out.no y6
  refine wp_app _ (.tmp 36) (.tmp 39) 34 34 rfl 3 1 8 unInts' elInt _ o6 1 _ (Src.one unInts' B6 _ _ _ b6 rfl) (by have := Hnl2.out; rw [this.1]; simp only [List.length_singleton]; omega) (by decide) ?_
  intro v7 w7 o7 x7 h7
  obtain ⟨tl, htl⟩ : ∃ tl, natsV N.terms ++ [.int .i64 (t : Int)] = tl := ⟨_, rfl⟩
  have htl2 : natsV (PNode.terms { N with log := N.log ++ [(t, x)] }) = tl := by rw [← htl]; simp [natsV, PNode.terms]
  rw [htl] at o7
  obtain ⟨a7, c7, rfl, _, hc7⟩ := Rd.shape o7.rd
  obtain ⟨tn, htn⟩ : ∃ tn, tl.length = tn := ⟨_, rfl⟩
  rw [htn] at o7 h7 ⊢
  have b6r := y6.blk Hb5.out (fun h => h)
  have hvr : ¬ ((Value.slice ta nl tc).ownBlock = some r) := fun hg => o6.ne_blk b6r (by decide) r hg rfl
  have hvE : ¬ ((Value.slice ta nl tc).ownBlock = some E) := fun hg => o6.ne_blk (x6.blk bE5 (fun h => h)) (by decide) E hg rfl
  have hS7 := And.intro (x7.cell hSd.1 hvr) (x7.cell hSd.2 hvE)
  refine hK.out _ _ hS7 (fun hSd => ?_)
  clear hK K hSd
  (try simp only [Act.put]); (try simp only [List.setIfInBounds_toArray, List.set_cons_zero, List.set_cons_succ])
  refine wpAnyN_tail (by rfl) (by decide) (by kernel_rfl) (by kernel_rfl) ?_
  simp only [List.drop_succ_cons, List.drop_zero]
  have b7r := x7.blk b6r hvr
  have f7 : w7.frozen? ⟨r, 4, none⟩ = false := frozen_of_blk b7r 4
  have d7 := hS7.1
  go_wp2_with fail
  go_ret
  have hA := HA.out
  have kr := blk_setCell b7r 4 (.slice a7 tn c7)
  have xs : Ext (fun b => b = r) w7 (w7.setCell ⟨r, 4, none⟩ (.slice a7 tn c7)) := (Ext.refl (fun b => b = r) w7).setCell (p := ⟨r, 4, none⟩) (.inl rfl) _
  generalize (w7.setCell ⟨r, 4, none⟩ (.slice a7 tn c7)) = wF at kr xs ⊢
  have htv : tv = .slice ta nl tc := Htv.out
  have x5F : Ext (fun b => tv.ownBlock = some b ∨ b = r) w5 wF := by
    rw [htv]
    exact ((y6.of_no).trans (x7.mono (fun _ _ h => .inl h))).next xs (fun b h _ => .inr h)
  have hGR : ∀ b, (tv.ownBlock = some b ∨ b = r) → FR b := fun b h => h.elim (hA.termsF b) (fun h => h ▸ hA.self)
  have hltF := Hlt.out
  have hFF := HF.out
  have s3 := Hz3.out.size
  have s4 := Hx4.out.size
  have s5 := Hx5.out.size
  have sF := x5F.size
  have hD2 : ∀ b, FD2 b → FD b ∨ (w3.heap.size ≤ b ∧ b < w5.heap.size) := fun b hb => by
    rcases Hsub3.out b hb with h | h
    · rcases Hsub1.out b h with h | h
      · exact .inl h
      · exact .inr (by omega)
    · exact .inr (by omega)
  have hL2 : ∀ b, FL2 b → FL b ∨ (w3.heap.size ≤ b ∧ b < w5.heap.size) := fun b hb => by
    rcases Hsub4.out b hb with h | h
    · rcases Hsub2.out b h with h | h
      · exact .inl h
      · exact .inr (by omega)
    · exact .inr (by omega)
  have st5 := Hst5.out
  have hap : ∀ b, FR b → ¬ (FD2 b ∨ FL2 b) := fun b hb h => by
    have h1 := hltF b (hFF b (.inr (.inr hb)))
    rcases h with h | h
    · rcases hD2 b h with h | h
      · exact hA.apD b hb h
      · omega
    · rcases hL2 b h with h | h
      · exact hA.apL b hb h
      · omega
  have hst := st5.ext x5F (fun b hb hG => hap b (hGR b hG) hb)
  have o7F := o7.ext xs (fun g hg h => o7.ne_blk b7r (by decide) g hg h.symm)
  have hlt5 : ∀ b, (FD2 b ∨ FL2 b) → b < w5.heap.size := fun b h => h.elim (st5.disk.lt b) (fun h => by
    obtain ⟨_, _, l, _⟩ := st5.log
    exact l.lt b h)
  have hNode : NodeAt wF r L d FD2 FL2 (fun b => FR b ∨ (w5.heap.size ≤ b ∧ b < wF.heap.size)) (.slice a7 tn c7) { N with log := N.log ++ [(t, x)] } D5 ps4 false := by
    refine ⟨kr, .inl hA.self, by rw [htl2]; exact o7F, fun g hg => ?_, by rw [List.length_append]; exact hst, fun b hb h => ?_, fun b hb h => ?_, fun b hb => ?_, ?_, hA.idn, by show N.committed ≤ (N.log ++ [(t, x)]).length; have := hA.comm; rw [List.length_append]; omega⟩
    · rcases h7 with h | ⟨g', h1, h2⟩
      · replace h : (Value.slice a7 tn c7).ownBlock = (Value.slice ta nl tc).ownBlock := h
        exact .inl (hA.termsF g (by rw [htv]; exact h.symm.trans hg))
      · replace h1 : (Value.slice a7 tn c7).ownBlock = some g' := h1
        rw [h1] at hg; cases hg
        refine .inr ⟨Nat.le_trans y6.size h2, o7F.lt g h1⟩
    · rcases hb with hb | hb
      · exact hap b hb (.inl h)
      · have := hlt5 b (.inl h); omega
    · rcases hb with hb | hb
      · exact hap b hb (.inr h)
      · have := hlt5 b (.inr h); omega
    · rcases hb with hb | hb
      · exact Nat.lt_of_lt_of_le (hltF b (hFF b (.inr (.inr hb)))) (by omega)
      · exact hb.2
    · show esOf ps4 = _
      rw [He4.out, ← Hel.out, List.map_append]
      show (ps.map (·.es)).flatten ++ _ = _
      rw [hA.coh]; rfl
  have xF : Ext F w wF := (Hx05.out.mono (fun b _ h => hFF b (h.elim .inl (fun h => .inr (.inl h))))).next x5F (fun b h _ => hFF b (.inr (.inr (hGR b h))))
  refine ⟨rfl, xF, ⟨⟨D5, ps4, ⟨L, FD2, FL2, _, _, false, hNode, ?_, ?_⟩, Hr5.out.trans (Hr4.out.trans Hrm.out), Hp5.out⟩, HR.out.fresh, HR.out.vote, HR.out.term⟩⟩
  · intro b hb
    rcases hb with hb | hb | hb | hb
    · rcases hD2 b hb with h | h
      · exact .inl (hFF b (.inl h))
      · exact .inr (by omega)
    · rcases hL2 b hb with h | h
      · exact .inl (hFF b (.inr (.inl h)))
      · exact .inr (by omega)
    · exact .inl (hFF b (.inr (.inr hb)))
    · exact .inr (by omega)
  · intro b hb
    rcases hb with hb | hb
    · exact Nat.lt_of_lt_of_le (hltF b hb) xF.size
    · exact hb.2
theorem layOk_any (log : List (Nat × List UInt8)) (room t : Nat) (x : List UInt8) (hx : x.length ≤ 65536) (ht : t ≤ 1099511627776) (hl : log.length < 99) (hroom : (segBytes 1 (log.map entB)).length + x.length + 200 ≤ room) : LayOk log room t x := by
 intro r d F N saved dv w h hlog hr ho
 subst hlog
 exact lay_any r d F N room saved t dv x w h hl hr ho hx ht hroom
end Go.Proofs.YtgglbholbkdgfaaGreatDoor
