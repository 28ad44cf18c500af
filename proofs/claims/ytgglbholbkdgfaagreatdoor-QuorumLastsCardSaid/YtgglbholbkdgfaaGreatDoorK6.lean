/- Joined texts: B23 B24 B25 B26 B27 B28 B29 B30. Each has its own head. -/
import Derived.Test.YtgglbholbkdgfaaGreatDoorK5
set_option linter.unusedVariables false
set_option linter.unusedSimpArgs false
namespace Go.Proofs.YtgglbholbkdgfaaGreatDoor
open Go.RowKit
theorem elSeg : ElemT Tryz.prog 140 1 8 := ElemT.of (z := .pointer none) (by kernel_rfl) rfl (by decide)
theorem unSegs : Tryz.prog.underlying 132 = some (.slice 140) := Tryz.underlying132
set_option maxRecDepth 100000 in
set_option maxHeartbeats 8000000 in
theorem LogAppend_first (L d : Nat) (FD FL : Nat → Prop) (D : PDisk) (pre : ByteArray) (sv : Value) (m : Nat) (p : Value) (l : List UInt8) (w : World)
  (hL : LogAt w L d FL pre sv [] m) (hd : DiskIs w d FD D) (hdis : ∀ b, FD b → ¬ FL b) (hp : RdB w p l) (hpo : Off FD p) (hpo2 : Off FL p) (hl : l.length ≤ 1048566) (hm : m < 100)
  (hfit : (enc (uv m ++ l)).length + usedL D.files ≤ D.room) (hcnt : D.files.length < 256) (hb30 : (PSeg.bytes ⟨m, [l]⟩).length ≤ 1073741824) :
  Calls Tryz.prog 90 #[.pointer (some ⟨L, 0, none⟩), p] w fun e w' => e = .returned (.tuple #[.int .i64 m, .int .i64 0]) ∧
   StoreEnds w L d FD FL pre ⟨D.room, fsPut D.files (segName pre m) (fApp (fsGet D.files (segName pre m)) (enc (uv m ++ l)))⟩ [⟨m, [l]⟩] (m + 1) true w' := by
 have hlast := fun (w' : World) (x : Ext NoB w w') => last_none L d FL pre sv m w' (hL.no x)
 have c3 : w.cell? ⟨L, 3, none⟩ = some (.int .i64 m) := by rw [cell_of_blk hL.blk]; rfl
 have hw1 : IntKind.u64.wrap (m : Int) = (m : Int) := by rw [IntKind.wrap_u64]; omega
 obtain ⟨ap, cp, rfl, hpn, hpc⟩ := hp.shape
 have hul := uv_length m
 have HL := Lib.hid hL
 have HD := Lib.hid hd
 have Hlast := Lib.hid hlast
 have Hdis := Lib.hid hdis
 have HP := Lib.hid hp
 have HPO := Lib.hid hpo
 have HPO2 := Lib.hid hpo2
 have HU := Lib.hid (fun w' => Uvarint_any m (Lib.hid (by unfold U64; omega)) w')
 have hq1 : ¬ ((1048566 : Int) < (l.length : Int)) := by omega
 have hq2 : ¬ ((99999999 : Int) ≤ (m : Int)) := by omega
 have HM := Lib.hid hm
 have Hl := Lib.hid hl
 have Hul := Lib.hid hul
 have Hpn := Lib.hid hpn
 have Hpc := Lib.hid hpc
 have Hfit := Lib.hid hfit
 have Hcnt := Lib.hid hcnt
 have Hb30 := Lib.hid hb30
 clear hL hd hlast hdis hp hpo hpo2 hm hl hul hpn hpc hfit hcnt hb30
 go_enter Tryz.func90, Tryz.ntmps90
 go_wp2_with fail
 refine (HU.out w).mono ?_; rintro e w1 ⟨s1, rfl, o1, f1, x1⟩
 obtain ⟨a1, k1, rfl, hn1, hk1⟩ := RdB.shape (l := uv m) o1.rd
 have hp1 := Rd.no HP.out x1
 have hb1 : ((bytesV (uv m)).length + (bytesV l).length) * 1 ≤ 140737488355328 := by have := Hul.out; have := Hl.out; simp only [bytesV_length]; omega
 have Hb1 := Lib.hid hb1
 clear hb1
 go_wp2_with (at_builtin; refine wpList_app _ rfl (.tmp 30) (.tmp 31) 35 35 rfl 5 1 1 unBytes elByte o1 (Rd.src unBytes hp1 (bytesV_one _) (by decide)) rfl rfl Hb1.out (by decide) ?_; intro v2 w2 o2 x2 h2; refine halt2 (fun _K HK => ?_))
 have y2 : Ext NoB w w2 := f1.ext x1 x2
 rw [← bytesV_append] at o2
 obtain ⟨ul, hul⟩ : ∃ ul, uv m ++ l = ul := ⟨_, rfl⟩
 have hulen : ul.length ≤ 1048576 := by rw [← hul]; have := Hul.out; have := Hl.out; simp only [List.length_append]; omega
 rw [hul] at o2
 obtain ⟨a2, k2, rfl, hn2, hk2⟩ := RdB.shape (l := ul) o2.rd
 have Henc := Lib.hid (Encode_any _ ul w2 o2.rd hulen)
 have Hful := Lib.hid hul
 have Hulen := Lib.hid hulen
 clear hulen hul
 clear o2 x2 h2 hn2 hk2 x1 o1 f1 hn1 hk1 hp1
 refine HK.out ?_; clear HK _K
 go_wp2_with fail
 refine Henc.out.mono ?_; rintro e w3 ⟨v3, rfl, o3, f3, x3⟩
 obtain ⟨fr, hfr⟩ : ∃ fr, enc ul = fr := ⟨_, rfl⟩
 rw [hfr] at o3
 obtain ⟨a3, k3, rfl, hn3, hk3⟩ := RdB.shape (l := fr) o3.rd
 have y3 := y2.trans x3
 have HO3 := Lib.hid o3
 have HF3 := Lib.hid f3
 have Hn3 := Lib.hid hn3
 have Hfr := Lib.hid hfr
 have Hfl := Lib.hid (show fr.length ≤ 1048584 by rw [← hfr, enc_length]; have := Hulen.out; omega)
 have Hy2 := Lib.hid y2
 clear o3 f3 hn3 hk3 x3 y2 hfr Henc
 go_wp2_with fail
 refine (Hlast.out w3 y3).mono ?_; rintro e w4 ⟨rfl, x4⟩
 have y4 := y3.trans x4
 have HO4 := Lib.hid (HO3.out.no x4)
 clear HO3 y3 x4 hq1 hq2 hw1
 have c3 := y4.cell c3 (fun h => h)
 have hzs := fun (w : World) => (show (zeroValue 139).run Tryz.prog w = .ok (.agg #[.int .i64 0, .slice none 0 0, .slice none 0 0, .bool false]) w by kernel_rfl)
 go_wp2_with fail
 obtain ⟨w5, sg, e1, e2, x5, bsg, hs5⟩ := alloc_facts w4 (.cells #[.int .i64 m, .slice none 0 0, .slice none 0 0, .bool false] 139)
 rw [e1, e2]
 clear e1
 have y5 := y4.trans x5
 have HO5 := Lib.hid (HO4.out.no x5)
 have hL := HL.out
 have bL := y5.blk hL.blk (fun h => h)
 have hfn : m < 100 := HM.out
 clear c3
 have c0 : w5.cell? ⟨L, 0, none⟩ = some (.pointer (some ⟨d, 0, none⟩)) := by rw [cell_of_blk bL]; rfl
 have c1 : ∀ w', Ext NoB w5 w' → w'.cell? ⟨L, 1, none⟩ = some (.string pre) := fun w' x => x.cell (by rw [cell_of_blk bL]; rfl) (fun h => h)
 have cs : w5.cell? ⟨sg, 0, none⟩ = some (.int .i64 m) := by rw [cell_of_blk bsg]; rfl
 have hname := Lib.hid (fun (w' : World) (x : Ext NoB w5 w') => name_any L pre m w' hfn (by have := hL.preL; omega) (c1 w' x))
 have happ := Lib.hid (fun (w' : World) (x : Ext NoB w5 w') => Append_ok d FD D (segName pre m) _ fr w' ((HD.out.no y5).no x) ((HO5.out.no x).rd) (HF3.out.off (fun b hb => Nat.lt_of_lt_of_le (HD.out.lt b hb) Hy2.out.size)) (isNm_seg pre _ hL.preL hfn) (by rw [← Hfr.out, ← Hful.out]; exact Hfit.out) Hcnt.out)
 have hnL : ¬ FD L := fun h => Hdis.out L h hL.self
 have hwsg : w.heap.size ≤ sg := e2 ▸ y4.size
 have hnS : ¬ FD sg := fun h => by have := HD.out.lt sg h; omega
 have HBL := Lib.hid bL
 have HBS := Lib.hid bsg
 have HnL := Lib.hid hnL
 have HnS := Lib.hid hnS
 have Hsg := Lib.hid (And.intro hwsg hs5)
 clear hL bL bsg c1 hfn hnL hnS e2 hwsg hs5
 go_region_held3 (fun w' => w'.cell? ⟨L, 0, none⟩ = some (.pointer (some ⟨d, 0, none⟩)) ∧ w'.cell? ⟨sg, 0, none⟩ = some (.int .i64 m))
  (first | exact ⟨c0, cs⟩ | assumption)
  (first
   | (go_at_call 100; refine (hname.out _ (Ext.refl NoB _).drew).mono ?_; rintro e w6 ⟨rfl, x6⟩; have y6 : Ext NoB w5 w6 := (Ext.refl NoB w5).drew.trans x6; have z6 := And.intro (y6.cell c0 (fun h => h)) (y6.cell cs (fun h => h)))
   | (go_at_call 110; refine (happ.out w6 y6).mono ?_; rintro e w7 ⟨rfl, x7, d7⟩; have z7 := And.intro (x7.cell z6.1 HnL.out) (x7.cell z6.2 HnS.out)))
 have x27 : Ext FD w w7 := (y5.trans y6).of_no.trans x7
 have hL7 := HL.out.ext x27 (fun b hb h => Hdis.out b h hb)
 have hp7 := Rd.ext HP.out x27 HPO.out
 have bS7 := x7.blk (y6.blk HBS.out (fun h => h)) HnS.out
 obtain ⟨sa, sc, hsv, hsn, hsc⟩ := Rd.shape hL7.segs.rd
 have bL7 := hL7.blk
 rw [hsv] at bL7
 have cL2 : w7.cell? ⟨L, 2, none⟩ = some (.slice sa 0 sc) := by rw [cell_of_blk bL7]; rfl
 have onsv : Own w7 140 1 (.slice sa 0 sc) [] := by have := hL7.segs; rw [hsv] at this; exact this
 have HbL7 := Lib.hid bL7
 have HbS7 := Lib.hid bS7
 have HL7 := Lib.hid hL7
 have Honsv := Lib.hid onsv
 clear c0 cs z6 z7 bL7 bS7 hL7 onsv
 go_wp2_with (at_builtin; refine wpList_app1 _ rfl (.tmp 75) (.tmp 77) 132 rfl 140 8 unSegs elSeg Honsv.out rfl rfl rfl (by decide) (by decide) ?_; intro vs w8 os x8 h8; refine halt2 (fun _K HK => ?_))
 obtain ⟨sa2, sc2, rfl, hsn2, hsc2⟩ := Rd.shape os.rd
 have hsvL : Off (fun b => b = L) (.slice sa 0 sc) := fun g hg h => Honsv.out.ne_blk HbL7.out (by decide) g hg h.symm
 have hsvS : Off (fun b => b = sg) (.slice sa 0 sc) := fun g hg h => Honsv.out.ne_blk HbS7.out (by decide) g hg h.symm
 have bL8 := x8.blk HbL7.out (fun h => hsvL _ h rfl)
 have bS8 := x8.blk HbS7.out (fun h => hsvS _ h rfl)
 have cL2 : w8.cell? ⟨L, 2, none⟩ = some (.slice sa 0 sc) := by rw [cell_of_blk bL8]; rfl
 have fL2 : w8.frozen? ⟨L, 2, none⟩ = false := frozen_of_blk bL8 2
 have Hos := Lib.hid os
 have Hh8 := Lib.hid h8
 have Hx8 := Lib.hid x8
 have HbL8 := Lib.hid bL8
 have HbS8 := Lib.hid bS8
 clear os h8 x8 bL8 bS8 hsn2 hsc2
 refine HK.out ?_; clear HK _K
 go_wp2_with fail
 have hLs : L ≠ sg := fun e => by have := blk_cells_inj HbL8.out (e ▸ HbS8.out); exact absurd this (by decide)
 have hsL : sg ≠ L := Ne.symm hLs
 have bL9 := blk_setCell HbL8.out 2 (.slice sa2 1 sc2)
 have b7 := blk_setCell_ne HbS8.out (p := ⟨L, 2, none⟩) hsL (.slice sa2 1 sc2)
 have xS9 : Ext (fun b => b = L) w8 (w8.setCell ⟨L, 2, none⟩ (.slice sa2 1 sc2)) := (Ext.refl (fun b => b = L) w8).setCell (p := ⟨L, 2, none⟩) (.inl rfl) _
 generalize (w8.setCell ⟨L, 2, none⟩ (.slice sa2 1 sc2)) = wS at bL9 b7 xS9 ⊢
 have x7S : Ext (fun b => (Value.slice sa 0 sc).ownBlock = some b ∨ b = L) w7 wS := (Hx8.out.mono (fun _ _ h => .inl h)).next xS9 (fun _ h _ => .inr h)
 have hltL := HL.out.lt
 have hpS : RdB wS (.slice ap l.length cp) l := Rd.ext hp7 x7S (fun g hg h => by
  rcases h with h | h
  ·have h1 := HL7.out.segsF g (by rw [hsv]; exact h)
   exact HPO2.out g hg h1
  ·exact HPO2.out g hg (h ▸ HL7.out.self))
 have hosS : Own wS 140 1 (.slice sa2 1 sc2) [.pointer (some ⟨sg, 0, none⟩)] := Hos.out.ext xS9 (fun g hg h => Hos.out.ne_blk HbL8.out (by decide) g hg h.symm)
 have HosS := Lib.hid hosS
 have HbL9 := Lib.hid bL9
 have Hb7 := Lib.hid b7
 have c1 : wS.cell? ⟨sg, 1, none⟩ = some (.slice none 0 0) := by rw [cell_of_blk b7]; rfl
 have c2 : wS.cell? ⟨sg, 2, none⟩ = some (.slice none 0 0) := by rw [cell_of_blk b7]; rfl
 clear hosS bL9 b7 xS9 cL2 fL2
 refine wp_region_N (fun w' => w'.cell? ⟨sg, 1, none⟩ = some (.slice none 0 0) ∧ w'.cell? ⟨sg, 2, none⟩ = some (.slice none 0 0)) 22 (by kernel_rfl) ?_
 have hSd : wS.drew.cell? ⟨sg, 1, none⟩ = some (.slice none 0 0) ∧ wS.drew.cell? ⟨sg, 2, none⟩ = some (.slice none 0 0) := ⟨c1, c2⟩
 refine wpAnyN_free 0 (v := ?_) (by kernel_rfl) rfl (fun _ _ _ h => h) hSd (by rfl) ?_ ?_; rotate_left; (focus (intro w; go_simp; try with_reducible rfl)); (try simp only [Act.put]); (try simp only [List.setIfInBounds_toArray, List.set_cons_zero, List.set_cons_succ])
 refine wpAnyN_free 1 (v := ?_) (by kernel_rfl) rfl (fun _ _ _ h => h) hSd (by rfl) ?_ ?_; rotate_left; (focus (intro w; go_simp; try with_reducible rfl)); (try simp only [Act.put]); (try simp only [List.setIfInBounds_toArray, List.set_cons_zero, List.set_cons_succ])
 refine wpAnyN_free 2 (v := ?_) (by kernel_rfl) rfl (fun _ _ _ h => h) hSd (by rfl) ?_ ?_; rotate_left; (focus (intro w; go_simp; try with_reducible rfl)); (try simp only [Act.put]); (try simp only [List.setIfInBounds_toArray, List.set_cons_zero, List.set_cons_succ])
 refine wpAnyN_free 3 (v := ?_) (by kernel_rfl) rfl (fun _ _ _ h => h) hSd (by rfl) ?_ ?_; rotate_left; (focus (intro w; go_simp; try with_reducible rfl)); (try simp only [Act.put]); (try simp only [List.setIfInBounds_toArray, List.set_cons_zero, List.set_cons_succ])
 refine wpAnyN_free 4 (v := ?_) (by kernel_rfl) rfl (fun _ _ _ h => h) hSd (by rfl) ?_ ?_; rotate_left; (focus (intro w; go_simp; try with_reducible rfl)); (try simp only [Act.put]); (try simp only [List.setIfInBounds_toArray, List.set_cons_zero, List.set_cons_succ])
 refine wpAnyN_free 5 (v := ?_) (by kernel_rfl) rfl (fun _ _ _ h => h) hSd (by rfl) ?_ ?_; rotate_left; (focus (intro w; go_simp; try with_reducible rfl)); (try simp only [Act.put]); (try simp only [List.setIfInBounds_toArray, List.set_cons_zero, List.set_cons_succ])
 refine wpAnyN_take 6 (v := ?_) (by kernel_rfl) rfl (fun _ _ _ h => h) hSd (by rfl) ?_ ?_; rotate_left; (focus (intro w hSw; (try dsimp only at hSw); go_simp; try with_reducible rfl)); (try simp only [Act.put]); (try simp only [List.setIfInBounds_toArray, List.set_cons_zero, List.set_cons_succ])
 refine wpAnyN_free 7 (v := ?_) (by kernel_rfl) rfl (fun _ _ _ h => h) hSd (by rfl) ?_ ?_; rotate_left; (focus (intro w; go_simp; try with_reducible rfl)); (try simp only [Act.put]); (try simp only [List.setIfInBounds_toArray, List.set_cons_zero, List.set_cons_succ])
 refine wpAnyN_free 11 (v := ?_) (by kernel_rfl) rfl (fun _ _ _ h => h) hSd (by rfl) ?_ ?_; rotate_left; (focus (intro w; go_simp; try with_reducible rfl)); (try simp only [Act.put]); (try simp only [List.setIfInBounds_toArray, List.set_cons_zero, List.set_cons_succ])
 refine wpAnyN_free 12 (v := ?_) (by kernel_rfl) rfl (fun _ _ _ h => h) hSd (by rfl) ?_ ?_; rotate_left; (focus (intro w; go_simp; try with_reducible rfl)); (try simp only [Act.put]); (try simp only [List.setIfInBounds_toArray, List.set_cons_zero, List.set_cons_succ])
 refine wpAnyN_free 13 (v := ?_) (by kernel_rfl) rfl (fun _ _ _ h => h) hSd (by rfl) ?_ ?_; rotate_left; (focus (intro w; go_simp; try with_reducible rfl)); (try simp only [Act.put]); (try simp only [List.setIfInBounds_toArray, List.set_cons_zero, List.set_cons_succ])
 refine wpAnyN_take 14 (v := ?_) (by kernel_rfl) rfl (fun _ _ _ h => h) hSd (by rfl) ?_ ?_; rotate_left; (focus (intro w hSw; (try dsimp only at hSw); go_simp; try with_reducible rfl)); (try simp only [Act.put]); (try simp only [List.setIfInBounds_toArray, List.set_cons_zero, List.set_cons_succ])
 refine wpAnyN_free 15 (v := ?_) (by kernel_rfl) rfl (fun _ _ _ h => h) hSd (by rfl) ?_ ?_; rotate_left; (focus (intro w; go_simp; try with_reducible rfl)); (try simp only [Act.put]); (try simp only [List.setIfInBounds_toArray, List.set_cons_zero, List.set_cons_succ])
 refine wpAnyN_free 17 (v := ?_) (by kernel_rfl) rfl (fun _ _ _ h => h) hSd (by rfl) ?_ ?_; rotate_left; (focus (intro w; go_simp; try with_reducible rfl)); (try simp only [Act.put]); (try simp only [List.setIfInBounds_toArray, List.set_cons_zero, List.set_cons_succ])
 refine wpAnyN_free 18 (v := ?_) (by kernel_rfl) rfl (fun _ _ _ h => h) hSd (by rfl) ?_ ?_; rotate_left; (focus (intro w; go_simp; try with_reducible rfl)); (try simp only [Act.put]); (try simp only [List.setIfInBounds_toArray, List.set_cons_zero, List.set_cons_succ])
 refine wpAnyN_one 8 (by kernel_rfl) (by simp only [List.getElem?_toArray, List.getElem?_cons_succ, List.getElem?_cons_zero] <;> rfl) (by rfl) (fun K hK => ?_)
 go_simp
 have hpSd : RdB wS.drew (.slice ap l.length cp) l := hpS
 refine (bytesClone_any _ l wS.drew hpSd (by have := Hl.out; omega)).mono ?_; rintro e w9 ⟨v9, rfl, o9, f9, x9⟩
 obtain ⟨a9, k9, rfl, hn9, hk9⟩ := RdB.shape (l := l) o9.rd
 have y9 : Ext NoB wS w9 := (Ext.refl NoB wS).drew.trans x9
 go_wp2_with fail
 refine hK.out _ _ ⟨y9.cell c1 (fun h => h), y9.cell c2 (fun h => h)⟩ (fun hSd => ?_)
 clear hK K
 (try simp only [Act.put]); (try simp only [List.setIfInBounds_toArray, List.set_cons_zero, List.set_cons_succ])
 refine wpAnyN_one 9 (by kernel_rfl) (by simp only [List.getElem?_toArray, List.getElem?_cons_succ, List.getElem?_cons_zero] <;> rfl) (by rfl) (fun K hK => ?_)
 go_simp
 obtain ⟨w10, B10, e1, e2, x10, b10, hs10⟩ := alloc_facts w9 (.cells #[.slice a9 l.length k9] 35)
 rw [e1, e2]
 have y10 := y9.trans x10
 refine hK.out _ _ ⟨y10.cell c1 (fun h => h), y10.cell c2 (fun h => h)⟩ (fun hSd => ?_)
 clear hK K e1 hSd
 have hSd := And.intro (y10.cell c1 (fun h => h)) (y10.cell c2 (fun h => h))
 (try simp only [Act.put]); (try simp only [List.setIfInBounds_toArray, List.set_cons_zero, List.set_cons_succ])
 refine wpAnyN_one 10 (by kernel_rfl) (by simp only [List.getElem?_toArray, List.getElem?_cons_succ, List.getElem?_cons_zero] <;> rfl) (by rfl) (fun K hK => ?_)
 refine wp_app _ (.tmp 87) (.tmp 90) 44 44 rfl 35 1 24 unBB elBytes [] (Own.nil _ _ _) 1 _ (Src.one unBB B10 _ _ _ b10 rfl) (by simp) (by decide) ?_
 intro v11 w11 o11 x11 h11
 obtain ⟨ea2, ec2, rfl, hen2, hec2⟩ := Rd.shape o11.rd
 have x11n : Ext NoB w10 w11 := x11.mono (fun b _ h => by cases h)
 have y11 := y10.trans x11n
 refine hK.out _ _ ⟨y11.cell c1 (fun h => h), y11.cell c2 (fun h => h)⟩ (fun hSd => ?_)
 clear hK K hSd
 have hSd := And.intro (y11.cell c1 (fun h => h)) (y11.cell c2 (fun h => h))
 (try simp only [Act.put]); (try simp only [List.setIfInBounds_toArray, List.set_cons_zero, List.set_cons_succ])
 refine wpAnyN_one 16 (by kernel_rfl) (by simp only [List.getElem?_toArray, List.getElem?_cons_succ, List.getElem?_cons_zero] <;> rfl) (by rfl) (fun K hK => ?_)
 go_simp
 have hz0 : PSeg.bytes ⟨m, []⟩ = [] := rfl
 refine (size_of sg _ ⟨m, []⟩ w11 hSd.2 (Own.nil _ _ _)).mono ?_; rintro e w12 ⟨rfl, x12⟩
 rw [hz0]
 have hadd : IntKind.i64.wrap (fr.length : Int) = (fr.length : Int) := IntWalk.i64_in _ (by have := Hfl.out; omega)
 have y12 := y11.trans x12
 go_wp2_with fail
 refine hK.out _ _ ⟨y12.cell c1 (fun h => h), y12.cell c2 (fun h => h)⟩ (fun hSd => ?_)
 clear hK K hSd
 have hSd := And.intro (y12.cell c1 (fun h => h)) (y12.cell c2 (fun h => h))
 (try simp only [Act.put]); (try simp only [List.setIfInBounds_toArray, List.set_cons_zero, List.set_cons_succ])
 refine wpAnyN_free 19 (v := ?_) (by kernel_rfl) rfl (fun _ _ _ h => h) hSd (by rfl) ?_ ?_; rotate_left; (focus (intro w; go_simp; try with_reducible rfl)); (try simp only [Act.put]); (try simp only [List.setIfInBounds_toArray, List.set_cons_zero, List.set_cons_succ])
 refine wpAnyN_one 20 (by kernel_rfl) (by simp only [List.getElem?_toArray, List.getElem?_cons_succ, List.getElem?_cons_zero] <;> rfl) (by rfl) (fun K hK => ?_)
 go_simp
 obtain ⟨w13, B13, e1, e2, x13, b13, hs13⟩ := alloc_facts w12 (.cells #[.int .i64 (fr.length : Int)] 3)
 rw [e1, e2]
 have y13 := y12.trans x13
 refine hK.out _ _ ⟨y13.cell c1 (fun h => h), y13.cell c2 (fun h => h)⟩ (fun hSd => ?_)
 clear hK K e1 hSd
 have hSd := And.intro (y13.cell c1 (fun h => h)) (y13.cell c2 (fun h => h))
 (try simp only [Act.put]); (try simp only [List.setIfInBounds_toArray, List.set_cons_zero, List.set_cons_succ])
 refine wpAnyN_one 21 (by kernel_rfl) (by simp only [List.getElem?_toArray, List.getElem?_cons_succ, List.getElem?_cons_zero] <;> rfl) (by rfl) (fun K hK => ?_)
 refine wp_app _ (.tmp 95) (.tmp 101) 34 34 rfl 3 1 8 unInts' elInt [] (Own.nil _ _ _) 1 _ (Src.one unInts' B13 _ _ _ b13 rfl) (by simp) (by decide) ?_
 intro v14 w14 o14 x14 h14
 obtain ⟨na2, nc2, rfl, hnn2, hnc2⟩ := Rd.shape o14.rd
 have x14n : Ext NoB w13 w14 := x14.mono (fun b _ h => by cases h)
 have y14 := y13.trans x14n
 refine hK.out _ _ ⟨y14.cell c1 (fun h => h), y14.cell c2 (fun h => h)⟩ (fun hSd => ?_)
 clear hK K hSd
 (try simp only [Act.put]); (try simp only [List.setIfInBounds_toArray, List.set_cons_zero, List.set_cons_succ])
 refine wpAnyN_tail (by rfl) (by decide) (by kernel_rfl) (by kernel_rfl) ?_
 simp only [List.drop_succ_cons, List.drop_zero]
 have bS14 := y14.blk Hb7.out (fun h => h)
 have bL14 := y14.blk HbL9.out (fun h => h)
 have f1 : w14.frozen? ⟨sg, 1, none⟩ = false := frozen_of_blk bS14 1
 have f2 : w14.frozen? ⟨sg, 2, none⟩ = false := frozen_of_blk bS14 2
 have f3 : w14.frozen? ⟨sg, 3, none⟩ = false := frozen_of_blk bS14 3
 have d1 := y14.cell c1 (fun h => h)
 have d2 := y14.cell c2 (fun h => h)
 have d3 : w14.cell? ⟨sg, 3, none⟩ = some (.bool false) := by rw [cell_of_blk bS14]; rfl
 have cL3 : w14.cell? ⟨L, 3, none⟩ = some (.int .i64 m) := by rw [cell_of_blk bL14]; rfl
 have fL3 : w14.frozen? ⟨L, 3, none⟩ = false := frozen_of_blk bL14 3
 have hwm : IntKind.i64.wrap ((m : Int) + 1) = (m : Int) + 1 := IntWalk.i64_in _ (by have := HM.out; omega)
 have hwm2 : IntKind.i64.wrap ((m : Int) + 1 - 1) = (m : Int) := by rw [IntWalk.i64_in _ (by have := HM.out; omega)]; omega
 have Hb14 := Lib.hid bS14
 have HbL14 := Lib.hid bL14
 have Ho14 := Lib.hid o14
 have Ho11 := Lib.hid o11
 have Ho9 := Lib.hid o9
 have Hh11 := Lib.hid h11
 have Hh14 := Lib.hid h14
 have Hf9 := Lib.hid f9
 clear bS14 bL14 o14 o11 o9 h11 h14 f9 hadd hSd
 go_wp2_with fail
 go_ret2
 refine ⟨ret2i (wrap64_in m (by have := HM.out; omega)) rfl, ?_⟩
 have bS14 := Hb14.out
 have bL14 := HbL14.out
 have xS : Ext (fun b => b = sg ∨ b = L) w14 ((((w14.setCell ⟨sg, 1, none⟩ (.slice ea2 1 ec2)).setCell ⟨sg, 2, none⟩ (.slice na2 1 nc2)).setCell ⟨sg, 3, none⟩ (.bool true)).setCell ⟨L, 3, none⟩ (.int .i64 ((m : Int) + 1))) :=
  ((((Ext.refl (fun b => b = sg ∨ b = L) w14).setCell (p := ⟨sg, 1, none⟩) (.inl (.inl rfl)) _).setCell (p := ⟨sg, 2, none⟩) (.inl (.inl rfl)) _).setCell (p := ⟨sg, 3, none⟩) (.inl (.inl rfl)) _).setCell (p := ⟨L, 3, none⟩) (.inl (.inr rfl)) _
 have k4 := blk_setCell_ne (blk_setCell (blk_setCell (blk_setCell bS14 1 (.slice ea2 1 ec2)) 2 (.slice na2 1 nc2)) 3 (.bool true)) (p := ⟨L, 3, none⟩) hsL (.int .i64 ((m : Int) + 1))
 have kL := blk_setCell (blk_setCell_ne (blk_setCell_ne (blk_setCell_ne bL14 (p := ⟨sg, 1, none⟩) hLs (.slice ea2 1 ec2)) (p := ⟨sg, 2, none⟩) hLs (.slice na2 1 nc2)) (p := ⟨sg, 3, none⟩) hLs (.bool true)) 3 (.int .i64 ((m : Int) + 1))
 generalize ((((w14.setCell ⟨sg, 1, none⟩ (.slice ea2 1 ec2)).setCell ⟨sg, 2, none⟩ (.slice na2 1 nc2)).setCell ⟨sg, 3, none⟩ (.bool true)).setCell ⟨L, 3, none⟩ (.int .i64 ((m : Int) + 1))) = wF at xS k4 kL ⊢
 have xSF : Ext (fun b => b = sg ∨ b = L) wS wF := (y14.of_no).trans xS
 have xF : Ext (fun b => sv.ownBlock = some b ∨ b = sg ∨ b = L) w7 wF := by
  rw [hsv]
  exact (x7S.mono (fun _ _ h => h.elim .inl (fun h => .inr (.inr h)))).next xSF (fun b h _ => .inr h)
 have hltD := HD.out.lt
 have h56 := y6.size
 have h05 := y5.size
 have h67 := x7.size
 have h7S := x7S.size
 have h7F := xF.size
 obtain ⟨hsg1, hsg2⟩ := Hsg.out
 have hsgF : ¬ FL sg := fun h => by have := hltL sg h; omega
 have hlogF := LogAt.added (sg := sg) (v := .slice a9 l.length k9) (ev' := .slice ea2 1 ec2) (nv' := .slice na2 1 nc2) (sv' := .slice sa2 1 sc2) (l := l) HL7.out xF hsgF (by omega)
  (by rw [show ((m + 1 : Nat) : Int) = (m : Int) + 1 by omega]; exact kL) ?_ ?_ k4 ?_ ?_ ?_ ?_ ?_ ?_ HM.out Hb30.out
 ·refine ⟨((x27.mono (fun _ _ h => .inl h)).next xF (fun b h hb => .inr ?_)), Gr FD w6 w7, (fun b => Gr FL w7 wF b ∨ b = sg), ?_, ?_, ?_, ⟨_, _, hlogF, rfl, fun _ => ⟨[], _, rfl, rfl⟩⟩, ?_⟩
  ·rcases h with h | h | h
   ·exact HL7.out.segsF b h
   ·omega
   ·exact h ▸ HL7.out.self
  ·intro b hb
   rcases hb with hb | hb
   ·exact .inl hb
   ·exact .inr (by omega)
  ·intro b hb
   rcases hb with (hb | hb) | hb
   ·exact .inl hb
   ·exact .inr (by omega)
   ·exact .inr (by omega)
  ·rw [Hful.out, Hfr.out]
   refine d7.ext xF (fun b hb hG => ?_)
   have hb2 : FL b ∨ b = sg := by
    rcases hG with h | h | h
    ·exact .inl (HL7.out.segsF b h)
    ·exact .inr h
    ·exact .inl (h ▸ HL7.out.self)
   rcases hb with hb | hb
   ·rcases hb2 with hb2 | hb2
    ·exact Hdis.out b hb hb2
    ·have := hltD b hb; omega
   ·rcases hb2 with hb2 | hb2
    ·have := hltL b hb2; omega
    ·omega
  ·intro b hb hb2
   rcases hb with hb | hb
   ·rcases hb2 with (hb2 | hb2) | hb2
    ·exact Hdis.out b hb hb2
    ·have := hltD b hb; omega
    ·have := hltD b hb; omega
   ·rcases hb2 with (hb2 | hb2) | hb2
    ·have := hltL b hb2; omega
    ·omega
    ·omega
 ·exact HosS.out.ext xSF (fun g hg h => h.elim (fun h => HosS.out.ne_blk Hb7.out (by decide) g hg h.symm) (fun h => HosS.out.ne_blk HbL9.out (by decide) g hg h.symm))
 ·intro g hg
  rw [hsv]
  rcases Hh8.out with h | ⟨g', h1, h2⟩
  ·exact .inl (h ▸ hg)
  ·replace h1 : (Value.slice sa2 1 sc2).ownBlock = some g' := h1
   rw [h1] at hg; cases hg; exact .inr h2
 ·have ho := Ho11.out.no ((x12.trans x13).trans x14n)
  exact ho.ext xS (fun g hg h => h.elim (fun h => ho.ne_blk bS14 (by decide) g hg h.symm) (fun h => ho.ne_blk bL14 (by decide) g hg h.symm))
 ·have e : natsV (PSeg.ends ⟨m, [l]⟩) = [.int .i64 (fr.length : Int)] := by
   show natsV (segEnds m 0 [l]) = _
   simp only [segEnds, Nat.zero_add]
   rw [Hful.out, Hfr.out]
   rfl
  rw [e]
  exact Ho14.out.ext xS (fun g hg h => h.elim (fun h => Ho14.out.ne_blk bS14 (by decide) g hg h.symm) (fun h => Ho14.out.ne_blk bL14 (by decide) g hg h.symm))
 ·have ho := Ho9.out.no ((((x10.trans x11n).trans x12).trans x13).trans x14n)
  refine RdU.of_own (ho.ext xS (fun g hg h => h.elim (fun h => ho.ne_blk bS14 (by decide) g hg h.symm) (fun h => ho.ne_blk bL14 (by decide) g hg h.symm)))
 ·intro g hg
  have h1 : wS.heap.size ≤ g := Hf9.out g hg
  omega
 ·intro g hg
  rcases Hh11.out with h | ⟨g', h1, h2⟩
  ·replace h : (Value.slice ea2 1 ec2).ownBlock = none := h
   rw [h] at hg; cases hg
  ·replace h1 : (Value.slice ea2 1 ec2).ownBlock = some g' := h1
   rw [h1] at hg; cases hg; have := y10.size; omega
 ·intro g hg
  rcases Hh14.out with h | ⟨g', h1, h2⟩
  ·replace h : (Value.slice na2 1 nc2).ownBlock = none := h
   rw [h] at hg; cases hg
  ·replace h1 : (Value.slice na2 1 nc2).ownBlock = some g' := h1
   rw [h1] at hg; cases hg; have := y13.size; omega
end Go.Proofs.YtgglbholbkdgfaaGreatDoor
namespace Go.Proofs.YtgglbholbkdgfaaGreatDoor
open Go.RowKit
end Go.Proofs.YtgglbholbkdgfaaGreatDoor
namespace Go.Proofs.YtgglbholbkdgfaaGreatDoor
open Go.RowKit
set_option maxRecDepth 100000 in
set_option maxHeartbeats 4000000 in
theorem LogOpen_empty (d : Nat) (F : Nat → Prop) (D : PDisk) (pre : ByteArray) (w : World) (hd : DiskIs w d F D) (hf : D.files = []) (hp : 1 ≤ pre.size ∧ pre.size ≤ 55) :
  Calls Tryz.prog 38 #[.pointer (some ⟨d, 0, none⟩), .string pre] w fun e w' => ∃ L, e = .returned (.tuple #[.pointer (some ⟨L, 0, none⟩), .int .i64 0]) ∧ w.heap.size ≤ L ∧
   LogAt w' L d (fun b => b = L) pre (.slice none 0 0) [] 1 ∧ Ext NoB w w' := by
 have hlist := Lib.hid (fun (w' : World) (x : Ext NoB w w') => List_any d F D w' (hd.no x))
 have hzs := fun (w : World) => (show (zeroValue 134).run Tryz.prog w = .ok (.agg #[.pointer none, .string { data := #[] }, .slice none 0 0, .int .i64 0]) w by kernel_rfl)
 have hq1 : ¬ ((pre.size : Int) < 1) := by omega
 have hq2 : ¬ ((55 : Int) < (pre.size : Int)) := by omega
 have Hp := Lib.hid hp
 clear hd hp
 go_enter Tryz.func38, Tryz.ntmps38
 go_wp2_with fail
 refine (hlist.out _ ((Ext.refl _ w).alloc _)).mono ?_; rintro e w1 ⟨v, rfl, o1, f1, x1⟩
 have hnm : names D.files = [] := by rw [hf]; simp [names]
 rw [hnm] at o1
 obtain ⟨a, c, rfl, _, _⟩ := Rd.shape o1.rd
 have b1 := x1.blk (blk_new w (.cells #[.pointer (some ⟨d, 0, none⟩), .string pre, .slice none 0 0, .int .i64 1] 134)) (fun h => h)
 have Hb1 := Lib.hid b1
 have Hx1 := Lib.hid x1
 clear b1 x1 o1 f1
 go_wp2_with fail
 refine wp_loop_rounds 1 ?_
 rw [rounds_succ]
 go_wp2_with fail
 go_ret2
 refine ⟨w.heap.size, rfl, Nat.le_refl _, ⟨Hb1.out, rfl, Own.nil _ _ _, fun g hg => by (cases hg), by simp, by simp, rfl, fun b hb => ?_, by omega, by simp, Hp.out.2⟩, ((Ext.refl _ w).alloc _).trans Hx1.out⟩
 subst hb
 exact lt_of_blk Hb1.out
end Go.Proofs.YtgglbholbkdgfaaGreatDoor
namespace Go.Proofs.YtgglbholbkdgfaaGreatDoor
open Go.RowKit
structure PNode where
 id : Nat
 n : Nat
 term : Nat
 vote : Int
 role : Nat
 leader : Int
 committed : Nat
 taken : Nat
 wait : Int
 voted : Nat
 next : Nat → Nat
 mt : Nat → Nat
 log : List (Nat × List UInt8)
def PNode.terms (N : PNode) : List Nat := N.log.map (·.1)
def entB (e : Nat × List UInt8) : List UInt8 := uv e.1 ++ e.2
def nodeArr (N : PNode) (d L : Nat) (tv : Value) : Array Value :=
 #[.int .i64 N.id, .int .i64 N.n, .pointer (some ⟨d, 0, none⟩), .pointer (some ⟨L, 0, none⟩), tv, .int .i64 N.term, .int .i64 N.vote, .int .i64 N.role, .int .i64 N.leader, .int .i64 N.committed, .int .i64 N.taken, .int .i64 N.wait, .int .u8 N.voted,
  .int .i64 (N.next 0), .int .i64 (N.next 1), .int .i64 (N.next 2), .int .i64 (N.next 3), .int .i64 (N.next 4), .int .i64 (N.mt 0), .int .i64 (N.mt 1), .int .i64 (N.mt 2), .int .i64 (N.mt 3), .int .i64 (N.mt 4), .bool false]
abbrev logPre : ByteArray := { data := #[108, 111, 103] }
abbrev termName : ByteArray := { data := #[116, 101, 114, 109] }
structure NodeAt (w : World) (r L d : Nat) (FD FL FR : Nat → Prop) (tv : Value) (N : PNode) (D : PDisk) (ps : List PSeg) (dl : Bool) : Prop where
 blk : w.heap[r]? = some (.cells (nodeArr N d L tv) 92 (0, 0))
 self : FR r
 terms : Own w 3 1 tv (natsV N.terms)
 termsF : ∀ g, tv.ownBlock = some g → FR g
 store : Store w L d FD FL logPre D ps (N.log.length + 1) dl
 apD : ∀ b, FR b → ¬ FD b
 apL : ∀ b, FR b → ¬ FL b
 lt : ∀ b, FR b → b < w.heap.size
 coh : (ps.map (·.es)).flatten = N.log.map entB
 idn : N.id < N.n ∧ N.n ≤ 5
 comm : N.committed ≤ N.log.length
theorem Store.ext {w w' : World} {L d : Nat} {FD FL G : Nat → Prop} {pre : ByteArray} {D : PDisk} {ps : List PSeg} {m : Nat} {dl : Bool} (h : Store w L d FD FL pre D ps m dl) (x : Ext G w w') (hG : ∀ b, (FD b ∨ FL b) → ¬ G b) : Store w' L d FD FL pre D ps m dl := by
 obtain ⟨sv, rs, h1, h2, h3⟩ := h.log
 exact ⟨h.disk.ext x (fun b hb => hG b (.inl hb)), ⟨sv, rs, h1.ext x (fun b hb => hG b (.inr hb)), h2, h3⟩, h.apart⟩
theorem NodeAt.ext {w w' : World} {r L d : Nat} {FD FL FR G : Nat → Prop} {tv : Value} {N : PNode} {D : PDisk} {ps : List PSeg} {dl : Bool} (h : NodeAt w r L d FD FL FR tv N D ps dl) (x : Ext G w w') (hG : ∀ b, (FD b ∨ FL b ∨ FR b) → ¬ G b) : NodeAt w' r L d FD FL FR tv N D ps dl :=
 ⟨x.blk h.blk (hG _ (.inr (.inr h.self))), h.self, h.terms.ext x (fun g hg => hG g (.inr (.inr (h.termsF g hg)))), h.termsF, h.store.ext x (fun b hb => hG b (hb.elim .inl (fun h => .inr (.inl h)))), h.apD, h.apL, fun b hb => Nat.lt_of_lt_of_le (h.lt b hb) x.size, h.coh, h.idn, h.comm⟩
theorem NodeAt.len {w : World} {r L d : Nat} {FD FL FR : Nat → Prop} {tv : Value} {N : PNode} {D : PDisk} {ps : List PSeg} {dl : Bool} (h : NodeAt w r L d FD FL FR tv N D ps dl) : N.log.length < 100 := by
 obtain ⟨_, _, h1, _, _⟩ := h.store.log
 have := h1.m100
 omega
def NodeIs (w : World) (r d : Nat) (F : Nat → Prop) (N : PNode) (D : PDisk) (ps : List PSeg) : Prop :=
 ∃ L FD FL FR tv dl, NodeAt w r L d FD FL FR tv N D ps dl ∧ (∀ b, (FD b ∨ FL b ∨ FR b) → F b) ∧ ∀ b, F b → b < w.heap.size
theorem NodeIs.ext {w w' : World} {r d : Nat} {F G : Nat → Prop} {N : PNode} {D : PDisk} {ps : List PSeg} (h : NodeIs w r d F N D ps) (x : Ext G w w') (hG : ∀ b, F b → ¬ G b) : NodeIs w' r d F N D ps := by
 obtain ⟨L, FD, FL, FR, tv, dl, h1, h2, h3⟩ := h
 exact ⟨L, FD, FL, FR, tv, dl, h1.ext x (fun b hb => hG b (h2 b hb)), h2, fun b hb => Nat.lt_of_lt_of_le (h3 b hb) x.size⟩
theorem NodeIs.no {w w' : World} {r d : Nat} {F : Nat → Prop} {N : PNode} {D : PDisk} {ps : List PSeg} (h : NodeIs w r d F N D ps) (x : Ext NoB w w') : NodeIs w' r d F N D ps := h.ext x (fun _ _ h => h)
set_option maxRecDepth 100000 in
set_option maxHeartbeats 400000 in
theorem rlast_any (r d : Nat) (F : Nat → Prop) (N : PNode) (D : PDisk) (ps : List PSeg) (w : World) (h : NodeIs w r d F N D ps) :
  Calls Tryz.prog 54 #[.pointer (some ⟨r, 0, none⟩)] w fun e w' => e = .returned (.int .i64 N.log.length) ∧ w = w' := by
 obtain ⟨L, FD, FL, FR, tv, dl, h, _⟩ := h
 obtain ⟨a, c, rfl, hn, hc⟩ := Rd.shape h.terms.rd
 have c4 : w.cell? ⟨r, 4, none⟩ = some (.slice a (natsV N.terms).length c) := by rw [cell_of_blk h.blk]; rfl
 have hl : (natsV N.terms).length = N.log.length := by simp [natsV, PNode.terms]
 rw [hl] at c4
 clear h
 go_enter Tryz.func54, Tryz.ntmps54
 go_wp2_with fail
 go_ret
 exact ⟨rfl, rfl⟩
def PNode.termOf (N : PNode) (i : Nat) : Nat := if i = 0 then 0 else (N.terms[i - 1]?).getD 0
def PNode.has (N : PNode) (i : Int) : Bool := decide (0 ≤ i ∧ i ≤ N.log.length)
set_option maxRecDepth 100000 in
set_option maxHeartbeats 1000000 in
theorem termOf_any (r d : Nat) (F : Nat → Prop) (N : PNode) (D : PDisk) (ps : List PSeg) (i : Nat) (w : World) (h : NodeIs w r d F N D ps) (hi : i < 4611686018427387904) :
  Calls Tryz.prog 77 #[.pointer (some ⟨r, 0, none⟩), .int .i64 i] w fun e w' => e = .returned (.tuple #[.int .i64 (N.termOf i), .bool (N.has i)]) ∧ w = w' := by
 have hlast := Lib.hid (rlast_any r d F N D ps w h)
 obtain ⟨L, FD, FL, FR, tv, dl, h, _⟩ := h
 have hlen := h.len
 by_cases h0 : i = 0
 ·subst h0
  have e1 : N.termOf 0 = 0 := rfl
  have e2 : N.has ((0 : Nat) : Int) = true := by unfold PNode.has; simp
  rw [e1, e2]
  clear h
  go_enter Tryz.func77, Tryz.ntmps77
  go_wp2_with fail
  go_ret2
  exact ⟨rfl, rfl⟩
 ·by_cases hgt : N.log.length < i
  ·have e1 : N.termOf i = 0 := by
    unfold PNode.termOf
    rw [if_neg h0, List.getElem?_eq_none (by simp [PNode.terms]; omega)]
    rfl
   have e2 : N.has (i : Int) = false := by unfold PNode.has; simp; omega
   rw [e1, e2]
   have hq1 : ¬ ((i : Int) < 1) := by omega
   have hq2 : (N.log.length : Int) < (i : Int) := by omega
   have hq3 : ((i : Int) == 0) = false := beq_eq_false_iff_ne.2 (by omega)
   clear h
   go_enter Tryz.func77, Tryz.ntmps77
   go_wp2_with fail
   refine hlast.out.mono ?_; rintro e w1 ⟨rfl, rfl⟩
   go_wp2_with fail
   go_ret2
   exact ⟨rfl, rfl⟩
  ·obtain ⟨a, n', c, rfl, hl, hn, hc, _, hr⟩ := h.terms.rd
   have hl' : n' = N.log.length := by simpa [natsV, PNode.terms] using hl.symm
   subst hl'
   have c4 : w.cell? ⟨r, 4, none⟩ = some (.slice a N.log.length c) := by rw [cell_of_blk h.blk]; rfl
   have hlt : i - 1 < N.terms.length := by simp [PNode.terms]; omega
   obtain ⟨b, off, rfl, hr2⟩ := hr (by intro e; have := congrArg List.length e; simp [natsV, PNode.terms] at this; simp [this] at hgt; omega)
   have ce : w.cell? ⟨b, off + (i - 1), none⟩ = some (.int .i64 (N.termOf i)) := by
    refine hr2 _ _ ?_
    unfold natsV PNode.termOf
    rw [if_neg h0, List.getElem?_map, List.getElem?_eq_getElem hlt]
    rfl
   have e2 : N.has (i : Int) = true := by unfold PNode.has; simp; omega
   rw [e2]
   obtain ⟨t, ht⟩ : ∃ t, N.termOf i = t := ⟨_, rfl⟩
   rw [ht] at ce ⊢
   have hq1 : ¬ ((i : Int) < 1) := by omega
   have hq2 : ¬ ((N.log.length : Int) < (i : Int)) := by omega
   have hq3 : ((i : Int) == 0) = false := beq_eq_false_iff_ne.2 (by omega)
   have hw : IntKind.i64.wrap ((i : Int) - 1) = ((i - 1 : Nat) : Int) := by rw [IntWalk.i64_in _ (by omega)]; omega
   have hr0 : (0 : Int) ≤ ((i - 1 : Nat) : Int) := by omega
   have hr1 : ((i - 1 : Nat) : Int) < (N.log.length : Int) := by omega
   have hrn : (((i - 1 : Nat) : Int)).toNat = i - 1 := by omega
   clear h hr hr2 hl hlt ht e2
   go_enter Tryz.func77, Tryz.ntmps77
   go_wp2_with fail
   refine hlast.out.mono ?_; rintro e w1 ⟨rfl, rfl⟩
   go_wp2_with fail
   go_ret2
   exact ⟨rfl, rfl⟩
end Go.Proofs.YtgglbholbkdgfaaGreatDoor
namespace Go.Proofs.YtgglbholbkdgfaaGreatDoor
open Go.RowKit
theorem NodeAt.set {w w' : World} {r L d : Nat} {FD FL FR : Nat → Prop} {tv : Value} {N N' : PNode} {D : PDisk} {ps : List PSeg} {dl : Bool} (h : NodeAt w r L d FD FL FR tv N D ps dl) (x : Ext (fun b => b = r) w w')
  (hb : w'.heap[r]? = some (.cells (nodeArr N' d L tv) 92 (0, 0))) (hl : N'.log = N.log) (hi : N'.id < N'.n ∧ N'.n ≤ 5) (hc : N'.committed ≤ N'.log.length) : NodeAt w' r L d FD FL FR tv N' D ps dl := by
 have hne : ∀ g, tv.ownBlock = some g → ¬ (g = r) := fun g hg e => h.terms.ne_blk h.blk (by decide) g hg e.symm
 have ht := h.terms.ext x hne
 have hs := h.store.ext x (fun b hb' e => by subst e; exact hb'.elim (fun k => h.apD _ h.self k) (fun k => h.apL _ h.self k))
 refine ⟨hb, h.self, by unfold PNode.terms; rw [hl]; exact ht, h.termsF, by rw [hl]; exact hs, h.apD, h.apL, fun b hb => Nat.lt_of_lt_of_le (h.lt b hb) x.size, by rw [hl]; exact h.coh, hi, hc⟩
set_option maxRecDepth 100000 in
set_option maxHeartbeats 400000 in
theorem State_any (r d : Nat) (F : Nat → Prop) (N : PNode) (D : PDisk) (ps : List PSeg) (w : World) (h : NodeIs w r d F N D ps) :
  Calls Tryz.prog 18 #[.pointer (some ⟨r, 0, none⟩)] w fun e w' => e = .returned (.tuple #[.int .i64 N.role, .int .i64 N.term, .int .i64 N.leader]) ∧ Ext NoB w w' := by
 obtain ⟨L, FD, FL, FR, tv, dl, h, _⟩ := h
 have c1 : w.cell? ⟨r, 23, none⟩ = some (.bool false) := by rw [cell_of_blk h.blk]; rfl
 have c2 : w.cell? ⟨r, 7, none⟩ = some (.int .i64 N.role) := by rw [cell_of_blk h.blk]; rfl
 have c3 : w.cell? ⟨r, 5, none⟩ = some (.int .i64 N.term) := by rw [cell_of_blk h.blk]; rfl
 have c4 : w.cell? ⟨r, 8, none⟩ = some (.int .i64 N.leader) := by rw [cell_of_blk h.blk]; rfl
 clear h
 go_enter Tryz.func18, Tryz.ntmps18
 go_wp2_with fail
 go_quiet (fail)
 go_wp2_with fail
 go_ret3
 exact ⟨rfl, (Ext.refl _ w).drewN _⟩
def mostOf (n s : Nat) : Bool := decide (n / 2 < Lib.onesCount s)
set_option maxRecDepth 100000 in
set_option maxHeartbeats 400000 in
theorem most_any (r d : Nat) (F : Nat → Prop) (N : PNode) (D : PDisk) (ps : List PSeg) (s : Nat) (hs : s ≤ 255) (w : World) (h : NodeIs w r d F N D ps) :
  Calls Tryz.prog 80 #[.pointer (some ⟨r, 0, none⟩), .int .u8 s] w fun e w' => e = .returned (.bool (mostOf N.n s)) ∧ Ext NoB w w' := by
 obtain ⟨L, FD, FL, FR, tv, dl, h, _⟩ := h
 have c1 : w.cell? ⟨r, 1, none⟩ = some (.int .i64 N.n) := by rw [cell_of_blk h.blk]; rfl
 have hn := h.idn.2
 have hones := Lib.hid (fun w' => Tryz.bits_OnesCount8 (s : Int) w' (by omega) (by omega))
 have e1 : ((s : Int)).toNat = s := by omega
 rw [e1] at hones
 have hdiv : ((N.n : Int)).tdiv 2 = ((N.n / 2 : Nat) : Int) := by rw [Int.tdiv_eq_ediv_of_nonneg (by omega)]; omega
 have hw : IntKind.i64.wrap (((N.n : Int)).tdiv 2) = ((N.n / 2 : Nat) : Int) := by rw [hdiv, IntWalk.i64_in _ (by omega)]
 obtain ⟨q, hq⟩ : ∃ q, Lib.onesCount s = q := ⟨_, rfl⟩
 unfold mostOf
 rw [hq] at hones ⊢
 have Hn := Lib.hid hn
 clear h hn e1 hdiv
 go_enter Tryz.func80, Tryz.ntmps80
 go_wp2_with fail
 go_quiet (first | (go_at_call 106; exact Calls.quiet_of_same (hones.out _)))
 go_wp2_with fail
 go_ret
 have hw2 : wrap64 ((N.n : Int) / 2) = ((N.n / 2 : Nat) : Int) := by have := Hn.out; unfold wrap64; omega
 refine ⟨retBool ?_, (Ext.refl _ w).drewN _⟩
 show decide (wrap64 ((N.n : Int) / 2) < (q : Int)) = _
 rw [hw2]
 exact decide_eq_decide.2 (by omega)
set_option maxRecDepth 100000 in
set_option maxHeartbeats 400000 in
theorem anew_any (r d : Nat) (F : Nat → Prop) (N : PNode) (D : PDisk) (ps : List PSeg) (draw : Int) (w : World) (h : NodeIs w r d F N D ps) :
  Calls Tryz.prog 41 #[.pointer (some ⟨r, 0, none⟩), .int .i64 draw] w fun e w' => e = .returned (.tuple #[]) ∧ Ext F w w' ∧ NodeIs w' r d F { N with wait := 10 + (max 0 draw) % 10 } D ps := by
 obtain ⟨L, FD, FL, FR, tv, dl, h, hF, hlt⟩ := h
 have c1 : w.cell? ⟨r, 11, none⟩ = some (.int .i64 N.wait) := by rw [cell_of_blk h.blk]; rfl
 have f1 : w.frozen? ⟨r, 11, none⟩ = false := frozen_of_blk h.blk 11
 have H := Lib.hid h
 clear h
 go_enter Tryz.func41, Tryz.ntmps41
 go_wp2_with fail
 go_end0
 have h := H.out
 have x : Ext (fun b => b = r) w (w.setCell ⟨r, 11, none⟩ (.int .i64 (10 + max 0 draw % 10))) := (Ext.refl (fun b => b = r) w).setCell (p := ⟨r, 11, none⟩) (.inl rfl) _
 exact ⟨rfl, x.mono (fun b _ e => hF b (.inr (.inr (e ▸ h.self)))), L, FD, FL, FR, tv, dl, h.set (N' := { N with wait := 10 + max 0 draw % 10 }) x (blk_setCell h.blk 11 _) rfl h.idn h.comm, hF, fun b hb => Nat.lt_of_lt_of_le (hlt b hb) x.size⟩
end Go.Proofs.YtgglbholbkdgfaaGreatDoor
namespace Go.Proofs.YtgglbholbkdgfaaGreatDoor
open Go.RowKit
abbrev Files := List (ByteArray × PFile)
def nm (fs : Files) : List ByteArray := fs.map (·.1)
theorem fsGet_mem {fs : Files} (hn : (nm fs).Nodup) {s : ByteArray} {f : PFile} : fsGet fs s = some f ↔ (s, f) ∈ fs := by
 unfold fsGet
 induction fs with
 | nil => simp
 | cons p fs ih =>
  simp only [nm, List.map_cons, List.nodup_cons] at hn
  rw [List.find?_cons]
  by_cases e : p.1 = s
  ·simp only [e, decide_true, Option.map_some, List.mem_cons]
   constructor
   ·intro h; left; obtain ⟨a, b⟩ := p; simp at h e; rw [h, e]
   ·rintro (h | h)
    ·rw [← h]
    ·exact (hn.1 (e ▸ List.mem_map.2 ⟨_, h, rfl⟩)).elim
  ·simp only [e, decide_false, List.mem_cons]
   rw [ih hn.2]
   constructor
   ·exact .inr
   ·rintro (h | h)
    ·exact (e (by rw [← h])).elim
    ·exact h
theorem fsGet_none' {fs : Files} {s : ByteArray} : fsGet fs s = none ↔ s ∉ nm fs := by
 unfold fsGet nm
 simp only [Option.map_eq_none_iff, List.find?_eq_none, decide_eq_true_eq, List.mem_map, not_exists, not_and]
theorem nm_perm {fs gs : Files} (h : fs.Perm gs) : (nm fs).Perm (nm gs) := h.map _
theorem put_perm_new {fs rest : Files} {s : ByteArray} {f : PFile} (h : fs.Perm rest) (hs : s ∉ nm rest) : (fsPut fs s f).Perm ((s, f) :: rest) := by
 have h1 : fsGet fs s = none := fsGet_none'.2 (fun h' => hs ((nm_perm h).mem_iff.1 h'))
 unfold fsPut
 rw [h1]
 simp only [Option.isSome_none, Bool.false_eq_true, if_false]
 exact (List.perm_append_comm.trans (List.Perm.refl _)).trans (h.cons _)
theorem put_perm_old {fs rest : Files} {s : ByteArray} {f0 f : PFile} (h : fs.Perm ((s, f0) :: rest)) (hs : s ∉ nm rest) : (fsPut fs s f).Perm ((s, f) :: rest) := by
 have hmem : s ∈ nm fs := (nm_perm h).mem_iff.2 (by simp [nm])
 have h1 : (fsGet fs s).isSome = true := by
  cases h' : fsGet fs s with
  | none => exact (fsGet_none'.1 h' hmem).elim
  | some _ => rfl
 unfold fsPut
 rw [if_pos h1]
 refine (h.map _).trans ?_
 simp only [List.map_cons, if_true]
 have : rest.map (fun p => if p.1 = s then (s, f) else p) = rest := by
  conv => rhs; rw [← List.map_id rest]
  apply List.map_congr_left
  intro p hp
  have : p.1 ≠ s := fun e => hs (e ▸ List.mem_map.2 ⟨p, hp, rfl⟩)
  simp [this]
 rw [this]
theorem get_perm {fs rest : Files} {s : ByteArray} {f : PFile} (h : fs.Perm ((s, f) :: rest)) (hs : s ∉ nm rest) (hn : (nm rest).Nodup) : fsGet fs s = some f := by
 have h1 : (nm fs).Nodup := (nm_perm h).nodup_iff.2 (by simp only [nm, List.map_cons, List.nodup_cons] at hs hn ⊢; exact ⟨hs, hn⟩)
 exact (fsGet_mem h1).2 (h.mem_iff.2 (by simp))
theorem used_perm {fs gs : Files} (h : fs.Perm gs) : usedL fs = usedL gs := by
 unfold usedL
 exact (h.map _).sum_nat
theorem used_cons (p : ByteArray × PFile) (fs : Files) : usedL (p :: fs) = p.2.data.length + usedL fs := by simp [usedL]
theorem del_perm {fs rest : Files} {s : ByteArray} (h : fs.Perm rest) (hs : s ∉ nm rest) : fsDel fs s = fs := fsDel_none (fsGet_none'.2 (fun h' => hs ((nm_perm h).mem_iff.1 h')))
def whole (l : List UInt8) : PFile := ⟨l, l.length⟩
def termB (t : Nat) (v : Int) : List UInt8 := uv t ++ uv (v + 1).toNat
def termFs (tf : Option (Nat × Int)) : Files := match tf with | some (t, v) => [(termName, whole (enc (termB t v)))] | none => []
def logFs (ps : List PSeg) : Files := ps.map (fun p => (segName logPre p.first, whole p.bytes))
def canon (tf : Option (Nat × Int)) (ps : List PSeg) : Files := termFs tf ++ logFs ps
theorem segName_size (n : Nat) (hn : n < 100) : (segName logPre n).size = 12 := by
 have hd := digits_small n hn
 have hrl : (⟨(Lib.repeatL zeroS.data.toList (8 - (Lib.decDigits n).length)).toArray⟩ : ByteArray).size = 8 - (Lib.decDigits n).length := by
  show (List.toArray _).size = _
  rw [List.size_toArray, Lib.repeatL_length]
  have : zeroS.data.toList.length = 1 := rfl
  rw [this]; omega
 have hdl : (⟨(Lib.decDigits n).toArray⟩ : ByteArray).size = (Lib.decDigits n).length := by
  show (List.toArray _).size = _
  rw [List.size_toArray]
 have h1 : dot.size = 1 := rfl
 have h2 : logPre.size = 3 := rfl
 unfold segName
 rw [ByteArray.size_append, ByteArray.size_append, ByteArray.size_append, hrl, hdl, h1, h2]
 omega
theorem logFs_ne {ps : List PSeg} (h : ∀ p ∈ ps, p.first < 100) (s : ByteArray) (hs : s.size ≠ 12) : s ∉ nm (logFs ps) := by
 intro hm
 unfold nm logFs at hm
 rw [List.map_map] at hm
 obtain ⟨p, hp, e⟩ := List.mem_map.1 hm
 have := segName_size p.first (h p hp)
 simp only [Function.comp] at e
 rw [e] at this
 exact hs this
theorem termName_size : termName.size = 4 := rfl
theorem shadow_size : (termName ++ tilde).size = 5 := by rw [ByteArray.size_append]; rfl
theorem uvF_pos (k n : Nat) (hk : 0 < k) : 1 ≤ (uvF k n).length := by
 cases k with
 | zero => omega
 | succ k => rw [uvF]; split <;> simp
theorem termB_len (t : Nat) (v : Int) : (termB t v).length ≤ 20 := by
 unfold termB
 have h1 := uv_length t
 have h2 := uv_length (v + 1).toNat
 simp only [List.length_append]; omega
structure RaftIs (w : World) (r d : Nat) (F : Nat → Prop) (N : PNode) (room : Nat) (saved : Bool) : Prop where
 is : ∃ D ps, NodeIs w r d F N D ps ∧ D.room = room ∧ D.files.Perm (canon (if saved then some (N.term, N.vote) else none) ps)
 fresh : saved = false → N.term = 0 ∧ N.vote = -1
 vote : -1 ≤ N.vote ∧ N.vote ≤ 5
 term : N.term ≤ 1099511627776
theorem RaftIs.ext {w w' : World} {r d : Nat} {F G : Nat → Prop} {N : PNode} {room : Nat} {saved : Bool} (h : RaftIs w r d F N room saved) (x : Ext G w w') (hG : ∀ b, F b → ¬ G b) : RaftIs w' r d F N room saved := by
 obtain ⟨D, ps, h1, h2, h3⟩ := h.is
 exact ⟨⟨D, ps, h1.ext x hG, h2, h3⟩, h.fresh, h.vote, h.term⟩
theorem RaftIs.no {w w' : World} {r d : Nat} {F : Nat → Prop} {N : PNode} {room : Nat} {saved : Bool} (h : RaftIs w r d F N room saved) (x : Ext NoB w w') : RaftIs w' r d F N room saved := h.ext x (fun _ _ h => h)
def PNode.bytes (N : PNode) : Nat := (segBytes 1 (N.log.map entB)).length
theorem chain_bytes : ∀ {n : Nat} {ps : List PSeg} {m : Nat}, Chain n ps m → (ps.map (·.bytes)).flatten = segBytes n (ps.map (·.es)).flatten
 | n, [], m, h => rfl
 | n, p :: ps, m, h => by
  obtain ⟨h1, h2, h3⟩ := h
  simp only [List.map_cons, List.flatten_cons]
  rw [segBytes_append, chain_bytes h3, PSeg.bytes, h1]
theorem used_logFs (ps : List PSeg) : usedL (logFs ps) = ((ps.map (·.bytes)).flatten).length := by
 induction ps with
 | nil => rfl
 | cons p ps ih =>
  unfold logFs at ih ⊢
  simp only [List.map_cons, List.flatten_cons, List.length_append]
  rw [used_cons, ih]
  rfl
end Go.Proofs.YtgglbholbkdgfaaGreatDoor
namespace Go.Proofs.YtgglbholbkdgfaaGreatDoor
open Go.RowKit
theorem nodup_canon {w : World} {d : Nat} {F : Nat → Prop} {D : PDisk} {gs : Files} (h : DiskIs w d F D) (hp : D.files.Perm gs) : (nm gs).Nodup := by
 obtain ⟨mo, rs, h1, h2⟩ := h
 refine (nm_perm hp).nodup_iff.1 ?_
 rw [h2]
 unfold nm
 rw [List.map_map]
 exact h1.nodup
theorem RaftIs.first100 {w : World} {r L d : Nat} {FD FL FR : Nat → Prop} {tv : Value} {N : PNode} {D : PDisk} {ps : List PSeg} {dl : Bool} (h : NodeAt w r L d FD FL FR tv N D ps dl) : ∀ p ∈ ps, p.first < 100 := by
 obtain ⟨sv, rs, h1, h2, _⟩ := h.store.log
 intro p hp
 have hc := h1.chain
 rw [h2] at hc
 have h3 := (hc.le).2 p hp
 have h4 := hc.pos p hp
 have := h1.m100
 omega
theorem NodeAt.used {w : World} {r L d : Nat} {FD FL FR : Nat → Prop} {tv : Value} {N : PNode} {D : PDisk} {ps : List PSeg} {dl : Bool} (h : NodeAt w r L d FD FL FR tv N D ps dl) : usedL (logFs ps) = N.bytes := by
 obtain ⟨sv, rs, h1, h2, _⟩ := h.store.log
 have hc := h1.chain
 rw [h2] at hc
 rw [used_logFs, chain_bytes hc, h.coh]
 rfl
theorem NodeAt.count {w : World} {r L d : Nat} {FD FL FR : Nat → Prop} {tv : Value} {N : PNode} {D : PDisk} {ps : List PSeg} {dl : Bool} (h : NodeAt w r L d FD FL FR tv N D ps dl) : ps.length < 100 := by
 obtain ⟨sv, rs, h1, h2, _⟩ := h.store.log
 have hc := h1.chain
 rw [h2] at hc
 have := hc.count
 have := h1.m100
 omega
set_option maxRecDepth 100000 in
set_option maxHeartbeats 4000000 in
theorem turns_any (r d : Nat) (F : Nat → Prop) (N : PNode) (room : Nat) (saved : Bool) (t : Nat) (v : Int) (w : World) (h : RaftIs w r d F N room saved) (ht : t ≤ 1099511627776) (hv : -1 ≤ v ∧ v ≤ 5) (hroom : N.bytes + 100 ≤ room) :
  Calls Tryz.prog 46 #[.pointer (some ⟨r, 0, none⟩), .int .i64 t, .int .i64 v] w fun e w' => e = .returned (.bool true) ∧ Ext F w w' ∧ RaftIs w' r d (Gr F w w') { N with term := t, vote := v } room true := by
 obtain ⟨D, ps, ⟨L, FD, FL, FR, tv, dl, hA, hF, hlt⟩, hrm, hperm⟩ := h.is
 have hd := hA.store.disk
 have h100 := RaftIs.first100 hA
 have hcan := nodup_canon hd hperm
 have hused := hA.used
 have hcount := hA.count
 obtain ⟨q, hq⟩ : ∃ q : Nat, v + 1 = (q : Int) := ⟨(v + 1).toNat, by omega⟩
 have hsh : (termName ++ tilde) ∉ nm (canon (if saved then some (N.term, N.vote) else none) ps) := by
  unfold canon nm
  rw [List.map_append, List.mem_append]
  rintro (h1 | h1)
  ·have h2 : (termName ++ tilde) = termName := by
    cases saved with
    | true => simpa [termFs] using h1
    | false => simp [termFs] at h1
   have := congrArg ByteArray.size h2
   rw [shadow_size, termName_size] at this
   omega
  ·exact logFs_ne h100 _ (by rw [shadow_size]; decide) h1
 have hdel : fsDel D.files (termName ++ tilde) = D.files := del_perm hperm hsh
 have htl : termName ∉ nm (logFs ps) := logFs_ne h100 _ (by rw [termName_size]; decide)
 have hu2 : usedL D.files ≤ 28 + N.bytes := by
  rw [used_perm hperm, ← hused]
  unfold canon
  cases saved with
  | true =>
   simp only [if_true, termFs, List.singleton_append]
   rw [used_cons]
   show (enc _).length + _ ≤ _
   rw [enc_length]
   have := termB_len N.term N.vote
   omega
  | false => simp only [Bool.false_eq_true, if_false, termFs, List.nil_append]; omega
 have hc2 : D.files.length < 256 := by
  rw [hperm.length_eq]
  unfold canon
  rw [List.length_append]
  have : (termFs (if saved then some (N.term, N.vote) else none)).length ≤ 1 := by cases saved <;> simp [termFs]
  have : (logFs ps).length = ps.length := by simp [logFs]
  omega
 have hnew : (fsPut D.files termName (whole (enc (termB t v)))).Perm (canon (some (t, v)) ps) := by
  cases saved with
  | true => exact put_perm_old hperm htl
  | false => exact put_perm_new hperm (by simpa [canon, termFs] using htl)
 have c2 : w.cell? ⟨r, 2, none⟩ = some (.pointer (some ⟨d, 0, none⟩)) := by rw [cell_of_blk hA.blk]; rfl
 have hw1 : IntKind.u64.wrap (t : Int) = (t : Int) := by rw [IntKind.wrap_u64]; omega
 have hw2 : IntKind.i64.wrap (v + 1) = (q : Int) := by rw [hq]; exact IntWalk.i64_in _ (by omega)
 have hw3 : IntKind.u64.wrap (q : Int) = (q : Int) := by rw [IntKind.wrap_u64]; omega
 have hq7 : q ≤ 6 := by omega
 have HA := Lib.hid hA
 have HF := Lib.hid hF
 have Hlt := Lib.hid hlt
 have HU1 := Lib.hid (fun w' => Uvarint_any t (Lib.hid (by unfold U64; omega)) w')
 have HU2 := Lib.hid (fun w' => Uvarint_any q (Lib.hid (by unfold U64; omega)) w')
 have HD := Lib.hid hd
 have Hdel := Lib.hid hdel
 have Hnew := Lib.hid hnew
 have Hu2 := Lib.hid hu2
 have Hc2 := Lib.hid hc2
 have Hrm := Lib.hid hrm
 have Hroom := Lib.hid hroom
 have HQ := Lib.hid hq
 have HR := Lib.hid h
 have HT := Lib.hid ht
 have HV := Lib.hid hv
 have f5 : ∀ w' : World, (w'.heap[r]? = some (.cells (nodeArr N d L tv) 92 (0, 0))) → w'.frozen? ⟨r, 5, none⟩ = false := fun w' hb => frozen_of_blk hb 5
 clear hA hd h100 hcan hused hcount hq hsh hdel htl hu2 hc2 hnew hrm hperm h ht hv hroom hF hlt hq7 f5
 go_enter Tryz.func46, Tryz.ntmps46
 go_wp2_with fail
 refine (HU1.out w).mono ?_; rintro e w1 ⟨s1, rfl, o1, f1, x1⟩
 obtain ⟨a1, k1, rfl, hn1, hk1⟩ := RdB.shape (l := uv t) o1.rd
 have Ho1 := Lib.hid o1
 have Hf1 := Lib.hid f1
 clear o1 f1 hn1 hk1
 go_wp2_with fail
 refine (HU2.out w1).mono ?_; rintro e w2 ⟨s2, rfl, o2, f2, x2⟩
 obtain ⟨a2, k2, rfl, hn2, hk2⟩ := RdB.shape (l := uv q) o2.rd
 have hb2 : ((bytesV (uv t)).length + (bytesV (uv q)).length) * 1 ≤ 140737488355328 := by have := uv_length t; have := uv_length q; simp only [bytesV_length]; omega
 have Hb2 := Lib.hid hb2
 have Ho2 := Lib.hid o2
 clear hb2 o2 f2 hn2 hk2
 go_wp2_with (at_builtin; refine wpList_app _ rfl (.tmp 10) (.tmp 14) 35 35 rfl 5 1 1 unBytes elByte (Ho1.out.no x2) (Rd.src unBytes Ho2.out.rd (bytesV_one _) (by decide)) rfl rfl Hb2.out (by decide) ?_; intro v3 w3 o3 x3 h3; refine halt2 (fun _K HK => ?_))
 have y3 : Ext NoB w w3 := Hf1.out.ext (x1.trans x2) x3
 rw [← bytesV_append] at o3
 obtain ⟨bl, hbl⟩ : ∃ bl, uv t ++ uv q = bl := ⟨_, rfl⟩
 rw [hbl] at o3
 have hblt : termB t v = bl := by
  unfold termB
  rw [HQ.out, ← hbl]
  rfl
 have hbll : bl.length ≤ 20 := by rw [← hblt]; exact termB_len t v
 obtain ⟨a3, k3, rfl, hn3, hk3⟩ := RdB.shape (l := bl) o3.rd
 have hsave := Save_ok d FD D termName _ bl w3 (HD.out.no y3) o3.rd (by omega) (by rw [termName_size]; omega) (by rw [Hdel.out]; have := Hu2.out; have := Hroom.out; have := Hrm.out; omega) (by rw [Hdel.out]; exact Hc2.out)
 rw [Hdel.out] at hsave
 have Hsave := Lib.hid hsave
 have Hblt := Lib.hid hblt
 have c2 := y3.cell c2 (fun h => h)
 have Hy3 := Lib.hid y3
 clear hsave hblt hbll hbl o3 x3 h3 hn3 hk3 x1 x2 Ho1 Ho2 y3
 refine HK.out ?_; clear HK _K
 go_wp2_with fail
 refine Hsave.out.mono ?_; rintro e w4 ⟨rfl, x4, d4⟩
 have hA := HA.out
 have x04 : Ext FD w w4 := (Hy3.out.of_no).trans x4
 have b4 := x04.blk hA.blk (fun h => hA.apD r hA.self h)
 have c5 : w4.cell? ⟨r, 5, none⟩ = some (.int .i64 N.term) := by rw [cell_of_blk b4]; rfl
 have c6 : w4.cell? ⟨r, 6, none⟩ = some (.int .i64 N.vote) := by rw [cell_of_blk b4]; rfl
 have f5 : w4.frozen? ⟨r, 5, none⟩ = false := frozen_of_blk b4 5
 have f6 : w4.frozen? ⟨r, 6, none⟩ = false := frozen_of_blk b4 6
 have Hd4 := Lib.hid d4
 have Hx4 := Lib.hid x4
 have Hx04 := Lib.hid x04
 have Hb4 := Lib.hid b4
 clear d4 x4 x04 b4 hA c2
 go_wp2_with fail
 go_ret
 have hA := HA.out
 have hx34 := Hx4.out.size
 have hx03 := Hy3.out.size
 have xS : Ext (fun b => b = r) w4 ((w4.setCell ⟨r, 5, none⟩ (.int .i64 t)).setCell ⟨r, 6, none⟩ (.int .i64 v)) := ((Ext.refl (fun b => b = r) w4).setCell (p := ⟨r, 5, none⟩) (.inl rfl) _).setCell (p := ⟨r, 6, none⟩) (.inl rfl) _
 have hS := xS.size
 have hA4 : NodeAt w4 r L d (Gr FD w3 w4) FL FR tv N ⟨D.room, fsPut D.files termName (whole (enc bl))⟩ ps dl := by
  obtain ⟨sv, rs, l1, l2, l3⟩ := hA.store.log
  refine ⟨Hb4.out, hA.self, hA.terms.ext Hx04.out (fun g hg hb => hA.apD g (hA.termsF g hg) hb), hA.termsF, ⟨Hd4.out, ⟨sv, rs, l1.ext Hx04.out (fun b hb h => hA.store.apart b h hb), l2, l3⟩, ?_⟩, ?_, hA.apL, fun b hb => Nat.lt_of_lt_of_le (hA.lt b hb) Hx04.out.size, hA.coh, hA.idn, hA.comm⟩
  ·intro b hb hb2
   rcases hb with hb | hb
   ·exact hA.store.apart b hb hb2
   ·have := l1.lt b hb2; omega
  ·intro b hb hb2
   rcases hb2 with hb2 | hb2
   ·exact hA.apD b hb hb2
   ·have := hA.lt b hb; omega
 have hA5 := hA4.set (N' := { N with term := t, vote := v }) xS (blk_setCell (blk_setCell Hb4.out 5 (.int .i64 t)) 6 (.int .i64 v)) rfl hA.idn hA.comm
 have xF : Ext F w ((w4.setCell ⟨r, 5, none⟩ (.int .i64 t)).setCell ⟨r, 6, none⟩ (.int .i64 v)) :=
  (Hx04.out.mono (fun b _ h => HF.out b (.inl h))).next xS (fun b h _ => HF.out b (.inr (.inr (h ▸ hA.self))))
 refine ⟨rfl, xF, ⟨⟨_, ps, ⟨L, Gr FD w3 w4, FL, FR, tv, dl, hA5, ?_, ?_⟩, Hrm.out, ?_⟩, fun h => (by cases h), HV.out, HT.out⟩⟩
 ·intro b hb
  rcases hb with (hb | hb) | hb
  ·exact .inl (HF.out b (.inl hb))
  ·exact .inr (by omega)
  ·exact .inl (HF.out b (.inr hb))
 ·intro b hb
  rcases hb with hb | hb
  ·exact Nat.lt_of_lt_of_le (Hlt.out b hb) xF.size
  ·exact hb.2
 ·have := Hnew.out
  rw [Hblt.out] at this
  exact this
end Go.Proofs.YtgglbholbkdgfaaGreatDoor
namespace Go.Proofs.YtgglbholbkdgfaaGreatDoor
open Go.RowKit
theorem zeroNode (w : World) : (zeroValue 92).run Tryz.prog w = .ok (.agg #[.int .i64 0, .int .i64 0, .pointer none, .pointer none, .slice none 0 0, .int .i64 0, .int .i64 0, .int .i64 0, .int .i64 0, .int .i64 0, .int .i64 0, .int .i64 0, .int .u8 0,
  .int .i64 0, .int .i64 0, .int .i64 0, .int .i64 0, .int .i64 0, .int .i64 0, .int .i64 0, .int .i64 0, .int .i64 0, .int .i64 0, .bool false]) w := by kernel_rfl
def newNode (id n : Nat) (draw : Int) : PNode := ⟨id, n, 0, -1, 0, -1, 0, 0, 10 + (max 0 draw) % 10, 0, fun _ => 0, fun _ => 0, []⟩
set_option maxRecDepth 100000 in
set_option maxHeartbeats 4000000 in
theorem Open_new (id n d : Nat) (F : Nat → Prop) (room : Nat) (draw : Int) (w : World) (hd : DiskIs w d F ⟨room, []⟩) (hid : id < n) (hn : n = 1 ∨ n = 3 ∨ n = 5) :
  Calls Tryz.prog 16 #[.int .i64 id, .int .i64 n, .pointer (some ⟨d, 0, none⟩), .int .i64 draw] w fun e w' => ∃ r, e = .returned (.tuple #[.pointer (some ⟨r, 0, none⟩), .int .i64 0]) ∧ Ext F w w' ∧
   RaftIs w' r d (Gr F w w') (newNode id n draw) room false := by
 have hz := zeroNode
 have hload := Lib.hid (fun (w' : World) (x : Ext NoB w w') => Load_none d F ⟨room, []⟩ termName w' (hd.no x) rfl)
 have hopen := Lib.hid (fun (w' : World) (x : Ext NoB w w') => LogOpen_empty d F ⟨room, []⟩ logPre w' (hd.no x) rfl (by decide))
 have hi1 : ¬ ((id : Int) < 0) := by omega
 have hi2 : ¬ ((n : Int) ≤ (id : Int)) := by omega
 have HD := Lib.hid hd
 have HI := Lib.hid hid
 have HN := Lib.hid hn
 clear hd hid
 rcases hn with rfl | rfl | rfl
 ·go_enter Tryz.func16, Tryz.ntmps16
  go_wp2_with fail
  obtain ⟨w1, r, e1, e2, x1, b1, hs1⟩ := alloc_facts w (.cells #[.int .i64 id, .int .i64 1, .pointer (some ⟨d, 0, none⟩), .pointer none, .slice none 0 0, .int .i64 0, .int .i64 (-1), .int .i64 0, .int .i64 (-1), .int .i64 0, .int .i64 0, .int .i64 0, .int .u8 0,
   .int .i64 0, .int .i64 0, .int .i64 0, .int .i64 0, .int .i64 0, .int .i64 0, .int .i64 0, .int .i64 0, .int .i64 0, .int .i64 0, .bool false] 92)
  rw [e1, e2]
  refine (hload.out w1 x1).mono ?_; rintro e w2 ⟨rfl, x2⟩
  have y2 := x1.trans x2
  have b2 := x2.blk b1 (fun h => h)
  have Hb2 := Lib.hid b2
  have Hr := Lib.hid e2
  clear e1 e2 b1 b2 hs1
  go_wp2_with fail
  refine (hopen.out w2 y2).mono ?_; rintro e w3 ⟨L, rfl, hL, l3, x3⟩
  have y3 := y2.trans x3
  have b3 := x3.blk Hb2.out (fun h => h)
  have c3 : w3.cell? ⟨r, 3, none⟩ = some (.pointer none) := by rw [cell_of_blk b3]; rfl
  have f3 : w3.frozen? ⟨r, 3, none⟩ = false := frozen_of_blk b3 3
  have hrL : r < L := Nat.lt_of_lt_of_le (lt_of_blk Hb2.out) hL
  have Hb3 := Lib.hid b3
  have Hl3 := Lib.hid l3
  have Hx3 := Lib.hid x3
  clear b3 l3 x3
  go_wp2_with fail
  have xs4 : Ext (fun b => b = r) w3 (w3.setCell ⟨r, 3, none⟩ (.pointer (some ⟨L, 0, none⟩))) := (Ext.refl (fun b => b = r) w3).setCell (p := ⟨r, 3, none⟩) (.inl rfl) _
  have b4 := blk_setCell Hb3.out 3 (.pointer (some ⟨L, 0, none⟩))
  generalize (w3.setCell ⟨r, 3, none⟩ (.pointer (some ⟨L, 0, none⟩))) = w4 at xs4 b4 ⊢
  have l4 := Hl3.out.ext xs4 (fun b hb h => by subst hb; omega)
  have hwr : w.heap.size = r := Hr.out
  have y4 : Ext NoB w w4 := by
   refine y3.trans' xs4 (fun _ _ h => h) (fun b hb h => ?_)
   subst h; omega
  have c4 : w4.cell? ⟨r, 3, none⟩ = some (.pointer (some ⟨L, 0, none⟩)) := by rw [cell_of_blk b4]; rfl
  have Hb4 := Lib.hid b4
  have Hl4 := Lib.hid l4
  clear c3 f3 b4 l4 xs4
  refine (Bounds_any L d _ logPre _ [] 1 w4 Hl4.out).mono ?_; rintro e w5 ⟨rfl, x5⟩
  have y5 := y4.trans x5
  have c5 := x5.cell c4 (fun h => h)
  have hNode : NodeIs w5 r d (Gr F w w5) { newNode id 1 draw with wait := 0 } ⟨room, []⟩ [] := by
   have hd5 := HD.out.no y5
   have hlt := HD.out.lt
   have b5 := x5.blk Hb4.out (fun h => h)
   have l5 := Hl4.out.no x5
   have hL5 := l5.lt L rfl
   refine ⟨L, F, (fun b => b = L), (fun b => b = r), .slice none 0 0, false, ⟨b5, rfl, Own.nil _ _ _, fun g hg => (by cases hg), ⟨hd5, ⟨_, _, l5, rfl, by simp⟩, ?_⟩, ?_, ?_, ?_, rfl, ⟨HI.out, Nat.le_of_ble_eq_true rfl⟩, Nat.zero_le _⟩, ?_, ?_⟩
   ·intro b hb h; subst h; have := hlt _ hb; omega
   ·intro b hb h; subst hb; have := hlt _ h; omega
   ·intro b hb h; subst hb; omega
   ·intro b hb; subst hb; exact lt_of_blk b5
   ·intro b hb
    rcases hb with hb | hb | hb
    ·exact .inl hb
    ·subst hb; exact .inr (by omega)
    ·subst hb; exact .inr ⟨by omega, lt_of_blk b5⟩
   ·intro b hb
    rcases hb with hb | hb
    ·exact Nat.lt_of_lt_of_le (hlt b hb) y5.size
    ·exact hb.2
  have Hnode := Lib.hid hNode
  have Hy5 := Lib.hid y5
  clear hNode c4
  go_wp2_with fail
  refine wp_loop_rounds 1 ?_
  rw [rounds_succ]
  go_wp2_with fail
  refine (anew_any r d _ _ _ [] draw w5 Hnode.out).mono ?_; rintro e w6 ⟨rfl, x6, n6⟩
  have Hn6 := Lib.hid n6
  have Hx6 := Lib.hid x6
  clear n6 x6
  go_wp2_with fail
  go_ret2
  have hsz := Hx6.out.size
  refine ⟨r, rfl, (Hy5.out.of_no).next Hx6.out (fun b h hb => h.elim (fun k => k) (fun h => by omega)), ⟨⟨room, []⟩, [], ?_, rfl, .refl _⟩, fun _ => ⟨rfl, rfl⟩, (show (-1 : Int) ≤ -1 ∧ (-1 : Int) ≤ 5 by decide), Nat.zero_le _⟩
  obtain ⟨L', FD, FL, FR, tv, dl, h1, h2, h3⟩ := Hn6.out
  refine ⟨L', FD, FL, FR, tv, dl, h1, fun b hb => ?_, fun b hb => ?_⟩
  ·rcases h2 b hb with h | h
   ·exact .inl h
   ·exact .inr (by omega)
  ·rcases hb with hb | hb
   ·exact h3 b (.inl hb)
   ·exact hb.2
 ·go_enter Tryz.func16, Tryz.ntmps16
  go_wp2_with fail
  obtain ⟨w1, r, e1, e2, x1, b1, hs1⟩ := alloc_facts w (.cells #[.int .i64 id, .int .i64 3, .pointer (some ⟨d, 0, none⟩), .pointer none, .slice none 0 0, .int .i64 0, .int .i64 (-1), .int .i64 0, .int .i64 (-1), .int .i64 0, .int .i64 0, .int .i64 0, .int .u8 0,
   .int .i64 0, .int .i64 0, .int .i64 0, .int .i64 0, .int .i64 0, .int .i64 0, .int .i64 0, .int .i64 0, .int .i64 0, .int .i64 0, .bool false] 92)
  rw [e1, e2]
  refine (hload.out w1 x1).mono ?_; rintro e w2 ⟨rfl, x2⟩
  have y2 := x1.trans x2
  have b2 := x2.blk b1 (fun h => h)
  have Hb2 := Lib.hid b2
  have Hr := Lib.hid e2
  clear e1 e2 b1 b2 hs1
  go_wp2_with fail
  refine (hopen.out w2 y2).mono ?_; rintro e w3 ⟨L, rfl, hL, l3, x3⟩
  have y3 := y2.trans x3
  have b3 := x3.blk Hb2.out (fun h => h)
  have c3 : w3.cell? ⟨r, 3, none⟩ = some (.pointer none) := by rw [cell_of_blk b3]; rfl
  have f3 : w3.frozen? ⟨r, 3, none⟩ = false := frozen_of_blk b3 3
  have hrL : r < L := Nat.lt_of_lt_of_le (lt_of_blk Hb2.out) hL
  have Hb3 := Lib.hid b3
  have Hl3 := Lib.hid l3
  have Hx3 := Lib.hid x3
  clear b3 l3 x3
  go_wp2_with fail
  have xs4 : Ext (fun b => b = r) w3 (w3.setCell ⟨r, 3, none⟩ (.pointer (some ⟨L, 0, none⟩))) := (Ext.refl (fun b => b = r) w3).setCell (p := ⟨r, 3, none⟩) (.inl rfl) _
  have b4 := blk_setCell Hb3.out 3 (.pointer (some ⟨L, 0, none⟩))
  generalize (w3.setCell ⟨r, 3, none⟩ (.pointer (some ⟨L, 0, none⟩))) = w4 at xs4 b4 ⊢
  have l4 := Hl3.out.ext xs4 (fun b hb h => by subst hb; omega)
  have hwr : w.heap.size = r := Hr.out
  have y4 : Ext NoB w w4 := by
   refine y3.trans' xs4 (fun _ _ h => h) (fun b hb h => ?_)
   subst h; omega
  have c4 : w4.cell? ⟨r, 3, none⟩ = some (.pointer (some ⟨L, 0, none⟩)) := by rw [cell_of_blk b4]; rfl
  have Hb4 := Lib.hid b4
  have Hl4 := Lib.hid l4
  clear c3 f3 b4 l4 xs4
  refine (Bounds_any L d _ logPre _ [] 1 w4 Hl4.out).mono ?_; rintro e w5 ⟨rfl, x5⟩
  have y5 := y4.trans x5
  have c5 := x5.cell c4 (fun h => h)
  have hNode : NodeIs w5 r d (Gr F w w5) { newNode id 3 draw with wait := 0 } ⟨room, []⟩ [] := by
   have hd5 := HD.out.no y5
   have hlt := HD.out.lt
   have b5 := x5.blk Hb4.out (fun h => h)
   have l5 := Hl4.out.no x5
   have hL5 := l5.lt L rfl
   refine ⟨L, F, (fun b => b = L), (fun b => b = r), .slice none 0 0, false, ⟨b5, rfl, Own.nil _ _ _, fun g hg => (by cases hg), ⟨hd5, ⟨_, _, l5, rfl, by simp⟩, ?_⟩, ?_, ?_, ?_, rfl, ⟨HI.out, Nat.le_of_ble_eq_true rfl⟩, Nat.zero_le _⟩, ?_, ?_⟩
   ·intro b hb h; subst h; have := hlt _ hb; omega
   ·intro b hb h; subst hb; have := hlt _ h; omega
   ·intro b hb h; subst hb; omega
   ·intro b hb; subst hb; exact lt_of_blk b5
   ·intro b hb
    rcases hb with hb | hb | hb
    ·exact .inl hb
    ·subst hb; exact .inr (by omega)
    ·subst hb; exact .inr ⟨by omega, lt_of_blk b5⟩
   ·intro b hb
    rcases hb with hb | hb
    ·exact Nat.lt_of_lt_of_le (hlt b hb) y5.size
    ·exact hb.2
  have Hnode := Lib.hid hNode
  have Hy5 := Lib.hid y5
  clear hNode c4
  go_wp2_with fail
  refine wp_loop_rounds 1 ?_
  rw [rounds_succ]
  go_wp2_with fail
  refine (anew_any r d _ _ _ [] draw w5 Hnode.out).mono ?_; rintro e w6 ⟨rfl, x6, n6⟩
  have Hn6 := Lib.hid n6
  have Hx6 := Lib.hid x6
  clear n6 x6
  go_wp2_with fail
  go_ret2
  have hsz := Hx6.out.size
  refine ⟨r, rfl, (Hy5.out.of_no).next Hx6.out (fun b h hb => h.elim (fun k => k) (fun h => by omega)), ⟨⟨room, []⟩, [], ?_, rfl, .refl _⟩, fun _ => ⟨rfl, rfl⟩, (show (-1 : Int) ≤ -1 ∧ (-1 : Int) ≤ 5 by decide), Nat.zero_le _⟩
  obtain ⟨L', FD, FL, FR, tv, dl, h1, h2, h3⟩ := Hn6.out
  refine ⟨L', FD, FL, FR, tv, dl, h1, fun b hb => ?_, fun b hb => ?_⟩
  ·rcases h2 b hb with h | h
   ·exact .inl h
   ·exact .inr (by omega)
  ·rcases hb with hb | hb
   ·exact h3 b (.inl hb)
   ·exact hb.2
 ·go_enter Tryz.func16, Tryz.ntmps16
  go_wp2_with fail
  obtain ⟨w1, r, e1, e2, x1, b1, hs1⟩ := alloc_facts w (.cells #[.int .i64 id, .int .i64 5, .pointer (some ⟨d, 0, none⟩), .pointer none, .slice none 0 0, .int .i64 0, .int .i64 (-1), .int .i64 0, .int .i64 (-1), .int .i64 0, .int .i64 0, .int .i64 0, .int .u8 0,
   .int .i64 0, .int .i64 0, .int .i64 0, .int .i64 0, .int .i64 0, .int .i64 0, .int .i64 0, .int .i64 0, .int .i64 0, .int .i64 0, .bool false] 92)
  rw [e1, e2]
  refine (hload.out w1 x1).mono ?_; rintro e w2 ⟨rfl, x2⟩
  have y2 := x1.trans x2
  have b2 := x2.blk b1 (fun h => h)
  have Hb2 := Lib.hid b2
  have Hr := Lib.hid e2
  clear e1 e2 b1 b2 hs1
  go_wp2_with fail
  refine (hopen.out w2 y2).mono ?_; rintro e w3 ⟨L, rfl, hL, l3, x3⟩
  have y3 := y2.trans x3
  have b3 := x3.blk Hb2.out (fun h => h)
  have c3 : w3.cell? ⟨r, 3, none⟩ = some (.pointer none) := by rw [cell_of_blk b3]; rfl
  have f3 : w3.frozen? ⟨r, 3, none⟩ = false := frozen_of_blk b3 3
  have hrL : r < L := Nat.lt_of_lt_of_le (lt_of_blk Hb2.out) hL
  have Hb3 := Lib.hid b3
  have Hl3 := Lib.hid l3
  have Hx3 := Lib.hid x3
  clear b3 l3 x3
  go_wp2_with fail
  have xs4 : Ext (fun b => b = r) w3 (w3.setCell ⟨r, 3, none⟩ (.pointer (some ⟨L, 0, none⟩))) := (Ext.refl (fun b => b = r) w3).setCell (p := ⟨r, 3, none⟩) (.inl rfl) _
  have b4 := blk_setCell Hb3.out 3 (.pointer (some ⟨L, 0, none⟩))
  generalize (w3.setCell ⟨r, 3, none⟩ (.pointer (some ⟨L, 0, none⟩))) = w4 at xs4 b4 ⊢
  have l4 := Hl3.out.ext xs4 (fun b hb h => by subst hb; omega)
  have hwr : w.heap.size = r := Hr.out
  have y4 : Ext NoB w w4 := by
   refine y3.trans' xs4 (fun _ _ h => h) (fun b hb h => ?_)
   subst h; omega
  have c4 : w4.cell? ⟨r, 3, none⟩ = some (.pointer (some ⟨L, 0, none⟩)) := by rw [cell_of_blk b4]; rfl
  have Hb4 := Lib.hid b4
  have Hl4 := Lib.hid l4
  clear c3 f3 b4 l4 xs4
  refine (Bounds_any L d _ logPre _ [] 1 w4 Hl4.out).mono ?_; rintro e w5 ⟨rfl, x5⟩
  have y5 := y4.trans x5
  have c5 := x5.cell c4 (fun h => h)
  have hNode : NodeIs w5 r d (Gr F w w5) { newNode id 5 draw with wait := 0 } ⟨room, []⟩ [] := by
   have hd5 := HD.out.no y5
   have hlt := HD.out.lt
   have b5 := x5.blk Hb4.out (fun h => h)
   have l5 := Hl4.out.no x5
   have hL5 := l5.lt L rfl
   refine ⟨L, F, (fun b => b = L), (fun b => b = r), .slice none 0 0, false, ⟨b5, rfl, Own.nil _ _ _, fun g hg => (by cases hg), ⟨hd5, ⟨_, _, l5, rfl, by simp⟩, ?_⟩, ?_, ?_, ?_, rfl, ⟨HI.out, Nat.le_of_ble_eq_true rfl⟩, Nat.zero_le _⟩, ?_, ?_⟩
   ·intro b hb h; subst h; have := hlt _ hb; omega
   ·intro b hb h; subst hb; have := hlt _ h; omega
   ·intro b hb h; subst hb; omega
   ·intro b hb; subst hb; exact lt_of_blk b5
   ·intro b hb
    rcases hb with hb | hb | hb
    ·exact .inl hb
    ·subst hb; exact .inr (by omega)
    ·subst hb; exact .inr ⟨by omega, lt_of_blk b5⟩
   ·intro b hb
    rcases hb with hb | hb
    ·exact Nat.lt_of_lt_of_le (hlt b hb) y5.size
    ·exact hb.2
  have Hnode := Lib.hid hNode
  have Hy5 := Lib.hid y5
  clear hNode c4
  go_wp2_with fail
  refine wp_loop_rounds 1 ?_
  rw [rounds_succ]
  go_wp2_with fail
  refine (anew_any r d _ _ _ [] draw w5 Hnode.out).mono ?_; rintro e w6 ⟨rfl, x6, n6⟩
  have Hn6 := Lib.hid n6
  have Hx6 := Lib.hid x6
  clear n6 x6
  go_wp2_with fail
  go_ret2
  have hsz := Hx6.out.size
  refine ⟨r, rfl, (Hy5.out.of_no).next Hx6.out (fun b h hb => h.elim (fun k => k) (fun h => by omega)), ⟨⟨room, []⟩, [], ?_, rfl, .refl _⟩, fun _ => ⟨rfl, rfl⟩, (show (-1 : Int) ≤ -1 ∧ (-1 : Int) ≤ 5 by decide), Nat.zero_le _⟩
  obtain ⟨L', FD, FL, FR, tv, dl, h1, h2, h3⟩ := Hn6.out
  refine ⟨L', FD, FL, FR, tv, dl, h1, fun b hb => ?_, fun b hb => ?_⟩
  ·rcases h2 b hb with h | h
   ·exact .inl h
   ·exact .inr (by omega)
  ·rcases hb with hb | hb
   ·exact h3 b (.inl hb)
   ·exact hb.2
end Go.Proofs.YtgglbholbkdgfaaGreatDoor
