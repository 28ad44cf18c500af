/- Package wal: Append that begins a segment. -/
import Derived.Test.YtgglbholbkdgfaaGreatDoorB22
namespace Go.Proofs.YtgglbholbkdgfaaGreatDoor
open Go.RowKit

theorem elSeg : ElemT Tryz.prog 140 1 8 := ElemT.of (z := .pointer none) (by kernel_rfl) rfl (by decide)
theorem unSegs : Tryz.prog.underlying 132 = some (.slice 140) := Tryz.underlying132
set_option maxRecDepth 100000 in
set_option maxHeartbeats 8000000 in
theorem LogAppend_first (L d : Nat) (FD FL : Nat → Prop) (D : PDisk) (pre : ByteArray) (sv : Value) (m : Nat) (p : Value) (l : List UInt8) (w : World)
    (hL : LogAt w L d FL pre sv [] m) (hd : DiskIs w d FD D) (hdis : ∀ b, FD b → ¬ FL b) (hp : RdB w p l) (hpo : Off FD p) (hpo2 : Off FL p) (hl : l.length ≤ 1048566) (hm : m < 100)
    (hfit : (enc (uv m ++ l)).length + usedL D.files ≤ D.room) (hcnt : D.files.length < 256) (hb30 : (PSeg.bytes ⟨m, [l]⟩).length ≤ 1073741824) :
    Calls Tryz.prog 90 #[.pointer (some ⟨L, 0, none⟩), p] w fun e w' => e = .returned (.tuple #[.int .i64 m, .int .i64 0]) ∧
      StoreEnds w L d FD FL pre ⟨D.room, fsPut D.files (segName pre m) (fApp (fsGet D.files (segName pre m)) (enc (uv m ++ l)))⟩ [⟨m, [l]⟩] (m + 1) true w' := by
  have hlast := fun (w' : World) (x : Ext NoB w w') => last_none L d FL pre sv m w' (hL.no x)
  have c3 : w.cell? ⟨L, 3, none⟩ = some (.int .i64 m) := by rw [cell_of_blk hL.blk]; rfl
  have hw1 : IntKind.u64.wrap (m : Int) = (m : Int) := by rw [IntKind.wrap_u64]; omega
  obtain ⟨ap, cp, rfl, hpn, hpc⟩ := hp.shape
  have hul := uv_length m
  have HL := Lib.hid hL
  have HD := Lib.hid hd
  have Hlast := Lib.hid hlast
  have Hdis := Lib.hid hdis
  have HP := Lib.hid hp
  have HPO := Lib.hid hpo
  have HPO2 := Lib.hid hpo2
  have HU := Lib.hid (fun w' => Uvarint_any m (Lib.hid (by unfold U64; omega)) w')
  have hq1 : ¬ ((1048566 : Int) < (l.length : Int)) := by omega
  have hq2 : ¬ ((99999999 : Int) ≤ (m : Int)) := by omega
  have HM := Lib.hid hm
  have Hl := Lib.hid hl
  have Hul := Lib.hid hul
  have Hpn := Lib.hid hpn
  have Hpc := Lib.hid hpc
  have Hfit := Lib.hid hfit
  have Hcnt := Lib.hid hcnt
  have Hb30 := Lib.hid hb30
  clear hL hd hlast hdis hp hpo hpo2 hm hl hul hpn hpc hfit hcnt hb30
  go_enter Tryz.func90, Tryz.ntmps90
  go_wp2_with fail
  refine (HU.out w).mono ?_; rintro e w1 ⟨s1, rfl, o1, f1, x1⟩
  obtain ⟨a1, k1, rfl, hn1, hk1⟩ := RdB.shape (l := uv m) o1.rd
  have hp1 := Rd.no HP.out x1
  have hb1 : ((bytesV (uv m)).length + (bytesV l).length) * 1 ≤ 140737488355328 := by have := Hul.out; have := Hl.out; simp only [bytesV_length]; omega
  have Hb1 := Lib.hid hb1
  clear hb1
  go_wp2_with (at_builtin; refine wpList_app _ rfl (.tmp 30) (.tmp 31) 35 35 rfl 5 1 1 unBytes elByte o1 (Rd.src unBytes hp1 (bytesV_one _) (by decide)) rfl rfl Hb1.out (by decide) ?_; intro v2 w2 o2 x2 h2; refine halt2 (fun _K HK => ?_))
  have y2 : Ext NoB w w2 := f1.ext x1 x2
  rw [← bytesV_append] at o2
  obtain ⟨ul, hul⟩ : ∃ ul, uv m ++ l = ul := ⟨_, rfl⟩
  have hulen : ul.length ≤ 1048576 := by rw [← hul]; have := Hul.out; have := Hl.out; simp only [List.length_append]; omega
  rw [hul] at o2
  obtain ⟨a2, k2, rfl, hn2, hk2⟩ := RdB.shape (l := ul) o2.rd
  have Henc := Lib.hid (Encode_any _ ul w2 o2.rd hulen)
  have Hful := Lib.hid hul
  have Hulen := Lib.hid hulen
  clear hulen hul
  clear o2 x2 h2 hn2 hk2 x1 o1 f1 hn1 hk1 hp1
  refine HK.out ?_; clear HK _K
  go_wp2_with fail
  refine Henc.out.mono ?_; rintro e w3 ⟨v3, rfl, o3, f3, x3⟩
  obtain ⟨fr, hfr⟩ : ∃ fr, enc ul = fr := ⟨_, rfl⟩
  rw [hfr] at o3
  obtain ⟨a3, k3, rfl, hn3, hk3⟩ := RdB.shape (l := fr) o3.rd
  have y3 := y2.trans x3
  have HO3 := Lib.hid o3
  have HF3 := Lib.hid f3
  have Hn3 := Lib.hid hn3
  have Hfr := Lib.hid hfr
  have Hfl := Lib.hid (show fr.length ≤ 1048584 by rw [← hfr, enc_length]; have := Hulen.out; omega)
  have Hy2 := Lib.hid y2
  clear o3 f3 hn3 hk3 x3 y2 hfr Henc
  go_wp2_with fail
  refine (Hlast.out w3 y3).mono ?_; rintro e w4 ⟨rfl, x4⟩
  have y4 := y3.trans x4
  have HO4 := Lib.hid (HO3.out.no x4)
  clear HO3 y3 x4 hq1 hq2 hw1
  have c3 := y4.cell c3 (fun h => h)
  have hzs := fun (w : World) => (show (zeroValue 139).run Tryz.prog w = .ok (.agg #[.int .i64 0, .slice none 0 0, .slice none 0 0, .bool false]) w by kernel_rfl)
  go_wp2_with fail
  obtain ⟨w5, sg, e1, e2, x5, bsg, hs5⟩ := alloc_facts w4 (.cells #[.int .i64 m, .slice none 0 0, .slice none 0 0, .bool false] 139)
  rw [e1, e2]
  clear e1
  have y5 := y4.trans x5
  have HO5 := Lib.hid (HO4.out.no x5)
  have hL := HL.out
  have bL := y5.blk hL.blk (fun h => h)
  have hfn : m < 100 := HM.out
  clear c3
  have c0 : w5.cell? ⟨L, 0, none⟩ = some (.pointer (some ⟨d, 0, none⟩)) := by rw [cell_of_blk bL]; rfl
  have c1 : ∀ w', Ext NoB w5 w' → w'.cell? ⟨L, 1, none⟩ = some (.string pre) := fun w' x => x.cell (by rw [cell_of_blk bL]; rfl) (fun h => h)
  have cs : w5.cell? ⟨sg, 0, none⟩ = some (.int .i64 m) := by rw [cell_of_blk bsg]; rfl
  have hname := Lib.hid (fun (w' : World) (x : Ext NoB w5 w') => name_any L pre m w' hfn (by have := hL.preL; omega) (c1 w' x))
  have happ := Lib.hid (fun (w' : World) (x : Ext NoB w5 w') => Append_ok d FD D (segName pre m) _ fr w' ((HD.out.no y5).no x) ((HO5.out.no x).rd) (HF3.out.off (fun b hb => Nat.lt_of_lt_of_le (HD.out.lt b hb) Hy2.out.size)) (isNm_seg pre _ hL.preL hfn) (by rw [← Hfr.out, ← Hful.out]; exact Hfit.out) Hcnt.out)
  have hnL : ¬ FD L := fun h => Hdis.out L h hL.self
  have hwsg : w.heap.size ≤ sg := e2 ▸ y4.size
  have hnS : ¬ FD sg := fun h => by have := HD.out.lt sg h; omega
  have HBL := Lib.hid bL
  have HBS := Lib.hid bsg
  have HnL := Lib.hid hnL
  have HnS := Lib.hid hnS
  have Hsg := Lib.hid (And.intro hwsg hs5)
  clear hL bL bsg c1 hfn hnL hnS e2 hwsg hs5
  go_region_held3 (fun w' => w'.cell? ⟨L, 0, none⟩ = some (.pointer (some ⟨d, 0, none⟩)) ∧ w'.cell? ⟨sg, 0, none⟩ = some (.int .i64 m))
    (first | exact ⟨c0, cs⟩ | assumption)
    (first
      | (go_at_call 100; refine (hname.out _ (Ext.refl NoB _).drew).mono ?_; rintro e w6 ⟨rfl, x6⟩; have y6 : Ext NoB w5 w6 := (Ext.refl NoB w5).drew.trans x6; have z6 := And.intro (y6.cell c0 (fun h => h)) (y6.cell cs (fun h => h)))
      | (go_at_call 110; refine (happ.out w6 y6).mono ?_; rintro e w7 ⟨rfl, x7, d7⟩; have z7 := And.intro (x7.cell z6.1 HnL.out) (x7.cell z6.2 HnS.out)))
  have x27 : Ext FD w w7 := (y5.trans y6).of_no.trans x7
  have hL7 := HL.out.ext x27 (fun b hb h => Hdis.out b h hb)
  have hp7 := Rd.ext HP.out x27 HPO.out
  have bS7 := x7.blk (y6.blk HBS.out (fun h => h)) HnS.out
  obtain ⟨sa, sc, hsv, hsn, hsc⟩ := Rd.shape hL7.segs.rd
  have bL7 := hL7.blk
  rw [hsv] at bL7
  have cL2 : w7.cell? ⟨L, 2, none⟩ = some (.slice sa 0 sc) := by rw [cell_of_blk bL7]; rfl
  have onsv : Own w7 140 1 (.slice sa 0 sc) [] := by have := hL7.segs; rw [hsv] at this; exact this
  have HbL7 := Lib.hid bL7
  have HbS7 := Lib.hid bS7
  have HL7 := Lib.hid hL7
  have Honsv := Lib.hid onsv
  clear c0 cs z6 z7 bL7 bS7 hL7 onsv
  go_wp2_with (at_builtin; refine wpList_app1 _ rfl (.tmp 75) (.tmp 77) 132 rfl 140 8 unSegs elSeg Honsv.out rfl rfl rfl (by decide) (by decide) ?_; intro vs w8 os x8 h8; refine halt2 (fun _K HK => ?_))
  obtain ⟨sa2, sc2, rfl, hsn2, hsc2⟩ := Rd.shape os.rd
  have hsvL : Off (fun b => b = L) (.slice sa 0 sc) := fun g hg h => Honsv.out.ne_blk HbL7.out (by decide) g hg h.symm
  have hsvS : Off (fun b => b = sg) (.slice sa 0 sc) := fun g hg h => Honsv.out.ne_blk HbS7.out (by decide) g hg h.symm
  have bL8 := x8.blk HbL7.out (fun h => hsvL _ h rfl)
  have bS8 := x8.blk HbS7.out (fun h => hsvS _ h rfl)
  have cL2 : w8.cell? ⟨L, 2, none⟩ = some (.slice sa 0 sc) := by rw [cell_of_blk bL8]; rfl
  have fL2 : w8.frozen? ⟨L, 2, none⟩ = false := frozen_of_blk bL8 2
  have Hos := Lib.hid os
  have Hh8 := Lib.hid h8
  have Hx8 := Lib.hid x8
  have HbL8 := Lib.hid bL8
  have HbS8 := Lib.hid bS8
  clear os h8 x8 bL8 bS8 hsn2 hsc2
  refine HK.out ?_; clear HK _K
  go_wp2_with fail
  have hLs : L ≠ sg := fun e => by have := blk_cells_inj HbL8.out (e ▸ HbS8.out); exact absurd this (by decide)
  have hsL : sg ≠ L := Ne.symm hLs
  have bL9 := blk_setCell HbL8.out 2 (.slice sa2 1 sc2)
  have b7 := blk_setCell_ne HbS8.out (p := ⟨L, 2, none⟩) hsL (.slice sa2 1 sc2)
  have xS9 : Ext (fun b => b = L) w8 (w8.setCell ⟨L, 2, none⟩ (.slice sa2 1 sc2)) := (Ext.refl (fun b => b = L) w8).setCell (p := ⟨L, 2, none⟩) (.inl rfl) _
  generalize (w8.setCell ⟨L, 2, none⟩ (.slice sa2 1 sc2)) = wS at bL9 b7 xS9 ⊢
  have x7S : Ext (fun b => (Value.slice sa 0 sc).ownBlock = some b ∨ b = L) w7 wS := (Hx8.out.mono (fun _ _ h => .inl h)).next xS9 (fun _ h _ => .inr h)
  have hltL := HL.out.lt
  have hpS : RdB wS (.slice ap l.length cp) l := Rd.ext hp7 x7S (fun g hg h => by
    rcases h with h | h
    · have h1 := HL7.out.segsF g (by rw [hsv]; exact h)
      exact HPO2.out g hg h1
    · exact HPO2.out g hg (h ▸ HL7.out.self))
  have hosS : Own wS 140 1 (.slice sa2 1 sc2) [.pointer (some ⟨sg, 0, none⟩)] := Hos.out.ext xS9 (fun g hg h => Hos.out.ne_blk HbL8.out (by decide) g hg h.symm)
  have HosS := Lib.hid hosS
  have HbL9 := Lib.hid bL9
  have Hb7 := Lib.hid b7
  have c1 : wS.cell? ⟨sg, 1, none⟩ = some (.slice none 0 0) := by rw [cell_of_blk b7]; rfl
  have c2 : wS.cell? ⟨sg, 2, none⟩ = some (.slice none 0 0) := by rw [cell_of_blk b7]; rfl
  clear hosS bL9 b7 xS9 cL2 fL2
  refine wp_region_N (fun w' => w'.cell? ⟨sg, 1, none⟩ = some (.slice none 0 0) ∧ w'.cell? ⟨sg, 2, none⟩ = some (.slice none 0 0)) 22 (by kernel_rfl) ?_
  have hSd : wS.drew.cell? ⟨sg, 1, none⟩ = some (.slice none 0 0) ∧ wS.drew.cell? ⟨sg, 2, none⟩ = some (.slice none 0 0) := ⟨c1, c2⟩
  refine wpAnyN_free 0 (v := ?_) (by kernel_rfl) rfl (fun _ _ _ h => h) hSd (by rfl) ?_ ?_; rotate_left; (focus (intro w; go_simp; try with_reducible rfl)); (try simp only [Act.put, List.setIfInBounds_toArray, List.set_cons_zero, List.set_cons_succ])
  refine wpAnyN_free 1 (v := ?_) (by kernel_rfl) rfl (fun _ _ _ h => h) hSd (by rfl) ?_ ?_; rotate_left; (focus (intro w; go_simp; try with_reducible rfl)); (try simp only [Act.put, List.setIfInBounds_toArray, List.set_cons_zero, List.set_cons_succ])
  refine wpAnyN_free 2 (v := ?_) (by kernel_rfl) rfl (fun _ _ _ h => h) hSd (by rfl) ?_ ?_; rotate_left; (focus (intro w; go_simp; try with_reducible rfl)); (try simp only [Act.put, List.setIfInBounds_toArray, List.set_cons_zero, List.set_cons_succ])
  refine wpAnyN_free 3 (v := ?_) (by kernel_rfl) rfl (fun _ _ _ h => h) hSd (by rfl) ?_ ?_; rotate_left; (focus (intro w; go_simp; try with_reducible rfl)); (try simp only [Act.put, List.setIfInBounds_toArray, List.set_cons_zero, List.set_cons_succ])
  refine wpAnyN_free 4 (v := ?_) (by kernel_rfl) rfl (fun _ _ _ h => h) hSd (by rfl) ?_ ?_; rotate_left; (focus (intro w; go_simp; try with_reducible rfl)); (try simp only [Act.put, List.setIfInBounds_toArray, List.set_cons_zero, List.set_cons_succ])
  refine wpAnyN_free 5 (v := ?_) (by kernel_rfl) rfl (fun _ _ _ h => h) hSd (by rfl) ?_ ?_; rotate_left; (focus (intro w; go_simp; try with_reducible rfl)); (try simp only [Act.put, List.setIfInBounds_toArray, List.set_cons_zero, List.set_cons_succ])
  refine wpAnyN_take 6 (v := ?_) (by kernel_rfl) rfl (fun _ _ _ h => h) hSd (by rfl) ?_ ?_; rotate_left; (focus (intro w hSw; (try dsimp only at hSw); go_simp; try with_reducible rfl)); (try simp only [Act.put, List.setIfInBounds_toArray, List.set_cons_zero, List.set_cons_succ])
  refine wpAnyN_free 7 (v := ?_) (by kernel_rfl) rfl (fun _ _ _ h => h) hSd (by rfl) ?_ ?_; rotate_left; (focus (intro w; go_simp; try with_reducible rfl)); (try simp only [Act.put, List.setIfInBounds_toArray, List.set_cons_zero, List.set_cons_succ])
  refine wpAnyN_free 11 (v := ?_) (by kernel_rfl) rfl (fun _ _ _ h => h) hSd (by rfl) ?_ ?_; rotate_left; (focus (intro w; go_simp; try with_reducible rfl)); (try simp only [Act.put, List.setIfInBounds_toArray, List.set_cons_zero, List.set_cons_succ])
  refine wpAnyN_free 12 (v := ?_) (by kernel_rfl) rfl (fun _ _ _ h => h) hSd (by rfl) ?_ ?_; rotate_left; (focus (intro w; go_simp; try with_reducible rfl)); (try simp only [Act.put, List.setIfInBounds_toArray, List.set_cons_zero, List.set_cons_succ])
  refine wpAnyN_free 13 (v := ?_) (by kernel_rfl) rfl (fun _ _ _ h => h) hSd (by rfl) ?_ ?_; rotate_left; (focus (intro w; go_simp; try with_reducible rfl)); (try simp only [Act.put, List.setIfInBounds_toArray, List.set_cons_zero, List.set_cons_succ])
  refine wpAnyN_take 14 (v := ?_) (by kernel_rfl) rfl (fun _ _ _ h => h) hSd (by rfl) ?_ ?_; rotate_left; (focus (intro w hSw; (try dsimp only at hSw); go_simp; try with_reducible rfl)); (try simp only [Act.put, List.setIfInBounds_toArray, List.set_cons_zero, List.set_cons_succ])
  refine wpAnyN_free 15 (v := ?_) (by kernel_rfl) rfl (fun _ _ _ h => h) hSd (by rfl) ?_ ?_; rotate_left; (focus (intro w; go_simp; try with_reducible rfl)); (try simp only [Act.put, List.setIfInBounds_toArray, List.set_cons_zero, List.set_cons_succ])
  refine wpAnyN_free 17 (v := ?_) (by kernel_rfl) rfl (fun _ _ _ h => h) hSd (by rfl) ?_ ?_; rotate_left; (focus (intro w; go_simp; try with_reducible rfl)); (try simp only [Act.put, List.setIfInBounds_toArray, List.set_cons_zero, List.set_cons_succ])
  refine wpAnyN_free 18 (v := ?_) (by kernel_rfl) rfl (fun _ _ _ h => h) hSd (by rfl) ?_ ?_; rotate_left; (focus (intro w; go_simp; try with_reducible rfl)); (try simp only [Act.put, List.setIfInBounds_toArray, List.set_cons_zero, List.set_cons_succ])
  refine wpAnyN_one 8 (by kernel_rfl) (by simp only [List.getElem?_toArray, List.getElem?_cons_succ, List.getElem?_cons_zero] <;> rfl) (by rfl) (fun K hK => ?_)
  go_simp
  have hpSd : RdB wS.drew (.slice ap l.length cp) l := hpS
  refine (bytesClone_any _ l wS.drew hpSd (by have := Hl.out; omega)).mono ?_; rintro e w9 ⟨v9, rfl, o9, f9, x9⟩
  obtain ⟨a9, k9, rfl, hn9, hk9⟩ := RdB.shape (l := l) o9.rd
  have y9 : Ext NoB wS w9 := (Ext.refl NoB wS).drew.trans x9
  go_wp2_with fail
  refine hK.out _ _ ⟨y9.cell c1 (fun h => h), y9.cell c2 (fun h => h)⟩ (fun hSd => ?_)
  clear hK K
  (try simp only [Act.put, List.setIfInBounds_toArray, List.set_cons_zero, List.set_cons_succ])
  refine wpAnyN_one 9 (by kernel_rfl) (by simp only [List.getElem?_toArray, List.getElem?_cons_succ, List.getElem?_cons_zero] <;> rfl) (by rfl) (fun K hK => ?_)
  go_simp
  obtain ⟨w10, B10, e1, e2, x10, b10, hs10⟩ := alloc_facts w9 (.cells #[.slice a9 l.length k9] 35)
  rw [e1, e2]
  have y10 := y9.trans x10
  refine hK.out _ _ ⟨y10.cell c1 (fun h => h), y10.cell c2 (fun h => h)⟩ (fun hSd => ?_)
  clear hK K e1 hSd
  have hSd := And.intro (y10.cell c1 (fun h => h)) (y10.cell c2 (fun h => h))
  (try simp only [Act.put, List.setIfInBounds_toArray, List.set_cons_zero, List.set_cons_succ])
  refine wpAnyN_one 10 (by kernel_rfl) (by simp only [List.getElem?_toArray, List.getElem?_cons_succ, List.getElem?_cons_zero] <;> rfl) (by rfl) (fun K hK => ?_)
  refine wp_app _ (.tmp 87) (.tmp 90) 44 44 rfl 35 1 24 unBB elBytes [] (Own.nil _ _ _) 1 _ (Src.one unBB B10 _ _ _ b10 rfl) (by simp) (by decide) ?_
  intro v11 w11 o11 x11 h11
  obtain ⟨ea2, ec2, rfl, hen2, hec2⟩ := Rd.shape o11.rd
  have x11n : Ext NoB w10 w11 := x11.mono (fun b _ h => by cases h)
  have y11 := y10.trans x11n
  refine hK.out _ _ ⟨y11.cell c1 (fun h => h), y11.cell c2 (fun h => h)⟩ (fun hSd => ?_)
  clear hK K hSd
  have hSd := And.intro (y11.cell c1 (fun h => h)) (y11.cell c2 (fun h => h))
  (try simp only [Act.put, List.setIfInBounds_toArray, List.set_cons_zero, List.set_cons_succ])
  refine wpAnyN_one 16 (by kernel_rfl) (by simp only [List.getElem?_toArray, List.getElem?_cons_succ, List.getElem?_cons_zero] <;> rfl) (by rfl) (fun K hK => ?_)
  go_simp
  have hz0 : PSeg.bytes ⟨m, []⟩ = [] := rfl
  refine (size_of sg _ ⟨m, []⟩ w11 hSd.2 (Own.nil _ _ _)).mono ?_; rintro e w12 ⟨rfl, x12⟩
  rw [hz0]
  have hadd : IntKind.i64.wrap (fr.length : Int) = (fr.length : Int) := IntWalk.i64_in _ (by have := Hfl.out; omega)
  have y12 := y11.trans x12
  go_wp2_with fail
  refine hK.out _ _ ⟨y12.cell c1 (fun h => h), y12.cell c2 (fun h => h)⟩ (fun hSd => ?_)
  clear hK K hSd
  have hSd := And.intro (y12.cell c1 (fun h => h)) (y12.cell c2 (fun h => h))
  (try simp only [Act.put, List.setIfInBounds_toArray, List.set_cons_zero, List.set_cons_succ])
  refine wpAnyN_free 19 (v := ?_) (by kernel_rfl) rfl (fun _ _ _ h => h) hSd (by rfl) ?_ ?_; rotate_left; (focus (intro w; go_simp; try with_reducible rfl)); (try simp only [Act.put, List.setIfInBounds_toArray, List.set_cons_zero, List.set_cons_succ])
  refine wpAnyN_one 20 (by kernel_rfl) (by simp only [List.getElem?_toArray, List.getElem?_cons_succ, List.getElem?_cons_zero] <;> rfl) (by rfl) (fun K hK => ?_)
  go_simp
  obtain ⟨w13, B13, e1, e2, x13, b13, hs13⟩ := alloc_facts w12 (.cells #[.int .i64 (fr.length : Int)] 3)
  rw [e1, e2]
  have y13 := y12.trans x13
  refine hK.out _ _ ⟨y13.cell c1 (fun h => h), y13.cell c2 (fun h => h)⟩ (fun hSd => ?_)
  clear hK K e1 hSd
  have hSd := And.intro (y13.cell c1 (fun h => h)) (y13.cell c2 (fun h => h))
  (try simp only [Act.put, List.setIfInBounds_toArray, List.set_cons_zero, List.set_cons_succ])
  refine wpAnyN_one 21 (by kernel_rfl) (by simp only [List.getElem?_toArray, List.getElem?_cons_succ, List.getElem?_cons_zero] <;> rfl) (by rfl) (fun K hK => ?_)
  refine wp_app _ (.tmp 95) (.tmp 101) 34 34 rfl 3 1 8 unInts' elInt [] (Own.nil _ _ _) 1 _ (Src.one unInts' B13 _ _ _ b13 rfl) (by simp) (by decide) ?_
  intro v14 w14 o14 x14 h14
  obtain ⟨na2, nc2, rfl, hnn2, hnc2⟩ := Rd.shape o14.rd
  have x14n : Ext NoB w13 w14 := x14.mono (fun b _ h => by cases h)
  have y14 := y13.trans x14n
  refine hK.out _ _ ⟨y14.cell c1 (fun h => h), y14.cell c2 (fun h => h)⟩ (fun hSd => ?_)
  clear hK K hSd
  (try simp only [Act.put, List.setIfInBounds_toArray, List.set_cons_zero, List.set_cons_succ])
  refine wpAnyN_tail (by rfl) (by decide) (by kernel_rfl) (by kernel_rfl) ?_
  simp only [List.drop_succ_cons, List.drop_zero]
  have bS14 := y14.blk Hb7.out (fun h => h)
  have bL14 := y14.blk HbL9.out (fun h => h)
  have f1 : w14.frozen? ⟨sg, 1, none⟩ = false := frozen_of_blk bS14 1
  have f2 : w14.frozen? ⟨sg, 2, none⟩ = false := frozen_of_blk bS14 2
  have f3 : w14.frozen? ⟨sg, 3, none⟩ = false := frozen_of_blk bS14 3
  have d1 := y14.cell c1 (fun h => h)
  have d2 := y14.cell c2 (fun h => h)
  have d3 : w14.cell? ⟨sg, 3, none⟩ = some (.bool false) := by rw [cell_of_blk bS14]; rfl
  have cL3 : w14.cell? ⟨L, 3, none⟩ = some (.int .i64 m) := by rw [cell_of_blk bL14]; rfl
  have fL3 : w14.frozen? ⟨L, 3, none⟩ = false := frozen_of_blk bL14 3
  have hwm : IntKind.i64.wrap ((m : Int) + 1) = (m : Int) + 1 := IntWalk.i64_in _ (by have := HM.out; omega)
  have hwm2 : IntKind.i64.wrap ((m : Int) + 1 - 1) = (m : Int) := by rw [IntWalk.i64_in _ (by have := HM.out; omega)]; omega
  have Hb14 := Lib.hid bS14
  have HbL14 := Lib.hid bL14
  have Ho14 := Lib.hid o14
  have Ho11 := Lib.hid o11
  have Ho9 := Lib.hid o9
  have Hh11 := Lib.hid h11
  have Hh14 := Lib.hid h14
  have Hf9 := Lib.hid f9
  clear bS14 bL14 o14 o11 o9 h11 h14 f9 hadd hSd
  go_wp2_with fail
  go_ret2
  refine ⟨ret2i (wrap64_in m (by have := HM.out; omega)) rfl, ?_⟩
  have bS14 := Hb14.out
  have bL14 := HbL14.out
  have xS : Ext (fun b => b = sg ∨ b = L) w14 ((((w14.setCell ⟨sg, 1, none⟩ (.slice ea2 1 ec2)).setCell ⟨sg, 2, none⟩ (.slice na2 1 nc2)).setCell ⟨sg, 3, none⟩ (.bool true)).setCell ⟨L, 3, none⟩ (.int .i64 ((m : Int) + 1))) :=
    ((((Ext.refl (fun b => b = sg ∨ b = L) w14).setCell (p := ⟨sg, 1, none⟩) (.inl (.inl rfl)) _).setCell (p := ⟨sg, 2, none⟩) (.inl (.inl rfl)) _).setCell (p := ⟨sg, 3, none⟩) (.inl (.inl rfl)) _).setCell (p := ⟨L, 3, none⟩) (.inl (.inr rfl)) _
  have k4 := blk_setCell_ne (blk_setCell (blk_setCell (blk_setCell bS14 1 (.slice ea2 1 ec2)) 2 (.slice na2 1 nc2)) 3 (.bool true)) (p := ⟨L, 3, none⟩) hsL (.int .i64 ((m : Int) + 1))
  have kL := blk_setCell (blk_setCell_ne (blk_setCell_ne (blk_setCell_ne bL14 (p := ⟨sg, 1, none⟩) hLs (.slice ea2 1 ec2)) (p := ⟨sg, 2, none⟩) hLs (.slice na2 1 nc2)) (p := ⟨sg, 3, none⟩) hLs (.bool true)) 3 (.int .i64 ((m : Int) + 1))
  generalize ((((w14.setCell ⟨sg, 1, none⟩ (.slice ea2 1 ec2)).setCell ⟨sg, 2, none⟩ (.slice na2 1 nc2)).setCell ⟨sg, 3, none⟩ (.bool true)).setCell ⟨L, 3, none⟩ (.int .i64 ((m : Int) + 1))) = wF at xS k4 kL ⊢
  have xSF : Ext (fun b => b = sg ∨ b = L) wS wF := (y14.of_no).trans xS
  have xF : Ext (fun b => sv.ownBlock = some b ∨ b = sg ∨ b = L) w7 wF := by
    rw [hsv]
    exact (x7S.mono (fun _ _ h => h.elim .inl (fun h => .inr (.inr h)))).next xSF (fun b h _ => .inr h)
  have hltD := HD.out.lt
  have h56 := y6.size
  have h05 := y5.size
  have h67 := x7.size
  have h7S := x7S.size
  have h7F := xF.size
  obtain ⟨hsg1, hsg2⟩ := Hsg.out
  have hsgF : ¬ FL sg := fun h => by have := hltL sg h; omega
  have hlogF := LogAt.added (sg := sg) (v := .slice a9 l.length k9) (ev' := .slice ea2 1 ec2) (nv' := .slice na2 1 nc2) (sv' := .slice sa2 1 sc2) (l := l) HL7.out xF hsgF (by omega)
    (by rw [show ((m + 1 : Nat) : Int) = (m : Int) + 1 by omega]; exact kL) ?_ ?_ k4 ?_ ?_ ?_ ?_ ?_ ?_ HM.out Hb30.out
  · refine ⟨((x27.mono (fun _ _ h => .inl h)).next xF (fun b h hb => .inr ?_)), Gr FD w6 w7, (fun b => Gr FL w7 wF b ∨ b = sg), ?_, ?_, ?_, ⟨_, _, hlogF, rfl, fun _ => ⟨[], _, rfl, rfl⟩⟩, ?_⟩
    · rcases h with h | h | h
      · exact HL7.out.segsF b h
      · omega
      · exact h ▸ HL7.out.self
    · intro b hb
      rcases hb with hb | hb
      · exact .inl hb
      · exact .inr (by omega)
    · intro b hb
      rcases hb with (hb | hb) | hb
      · exact .inl hb
      · exact .inr (by omega)
      · exact .inr (by omega)
    · rw [Hful.out, Hfr.out]
      refine d7.ext xF (fun b hb hG => ?_)
      have hb2 : FL b ∨ b = sg := by
        rcases hG with h | h | h
        · exact .inl (HL7.out.segsF b h)
        · exact .inr h
        · exact .inl (h ▸ HL7.out.self)
      rcases hb with hb | hb
      · rcases hb2 with hb2 | hb2
        · exact Hdis.out b hb hb2
        · have := hltD b hb; omega
      · rcases hb2 with hb2 | hb2
        · have := hltL b hb2; omega
        · omega
    · intro b hb hb2
      rcases hb with hb | hb
      · rcases hb2 with (hb2 | hb2) | hb2
        · exact Hdis.out b hb hb2
        · have := hltD b hb; omega
        · have := hltD b hb; omega
      · rcases hb2 with (hb2 | hb2) | hb2
        · have := hltL b hb2; omega
        · omega
        · omega
  · exact HosS.out.ext xSF (fun g hg h => h.elim (fun h => HosS.out.ne_blk Hb7.out (by decide) g hg h.symm) (fun h => HosS.out.ne_blk HbL9.out (by decide) g hg h.symm))
  · intro g hg
    rw [hsv]
    rcases Hh8.out with h | ⟨g', h1, h2⟩
    · exact .inl (h ▸ hg)
    · replace h1 : (Value.slice sa2 1 sc2).ownBlock = some g' := h1
      rw [h1] at hg; cases hg; exact .inr h2
  · have ho := Ho11.out.no ((x12.trans x13).trans x14n)
    exact ho.ext xS (fun g hg h => h.elim (fun h => ho.ne_blk bS14 (by decide) g hg h.symm) (fun h => ho.ne_blk bL14 (by decide) g hg h.symm))
  · have e : natsV (PSeg.ends ⟨m, [l]⟩) = [.int .i64 (fr.length : Int)] := by
      show natsV (segEnds m 0 [l]) = _
      simp only [segEnds, Nat.zero_add]
      rw [Hful.out, Hfr.out]
      rfl
    rw [e]
    exact Ho14.out.ext xS (fun g hg h => h.elim (fun h => Ho14.out.ne_blk bS14 (by decide) g hg h.symm) (fun h => Ho14.out.ne_blk bL14 (by decide) g hg h.symm))
  · have ho := Ho9.out.no ((((x10.trans x11n).trans x12).trans x13).trans x14n)
    refine RdU.of_own (ho.ext xS (fun g hg h => h.elim (fun h => ho.ne_blk bS14 (by decide) g hg h.symm) (fun h => ho.ne_blk bL14 (by decide) g hg h.symm)))
  · intro g hg
    have h1 : wS.heap.size ≤ g := Hf9.out g hg
    omega
  · intro g hg
    rcases Hh11.out with h | ⟨g', h1, h2⟩
    · replace h : (Value.slice ea2 1 ec2).ownBlock = none := h
      rw [h] at hg; cases hg
    · replace h1 : (Value.slice ea2 1 ec2).ownBlock = some g' := h1
      rw [h1] at hg; cases hg; have := y10.size; omega
  · intro g hg
    rcases Hh14.out with h | ⟨g', h1, h2⟩
    · replace h : (Value.slice na2 1 nc2).ownBlock = none := h
      rw [h] at hg; cases hg
    · replace h1 : (Value.slice na2 1 nc2).ownBlock = some g' := h1
      rw [h1] at hg; cases hg; have := y13.size; omega
end Go.Proofs.YtgglbholbkdgfaaGreatDoor
