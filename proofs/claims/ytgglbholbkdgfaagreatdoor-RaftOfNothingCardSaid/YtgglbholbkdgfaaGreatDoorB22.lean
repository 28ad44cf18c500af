/- Package wal: Append to the last segment. -/
import Derived.Test.YtgglbholbkdgfaaGreatDoorB22L
import Derived.Test.YtgglbholbkdgfaaGreatDoorBN
namespace Go.Proofs.YtgglbholbkdgfaaGreatDoor
open Go.RowKit

theorem RdU.of_own {w : World} {v : Value} {l : List UInt8} (h : Own w 5 1 v (bytesV l)) : RdU w v l := by
  refine ⟨h.rd, fun g hg => ?_⟩
  rcases h with ⟨rfl, _⟩ | ⟨g', n, cap, cur, rfl, hb, _⟩
  · cases hg
  · simp [Value.ownBlock] at hg; subst hg; exact ⟨_, _, hb⟩
theorem Chain.last_next : ∀ {n : Nat} {ps : List PSeg} {p : PSeg} {m : Nat}, Chain n (ps ++ [p]) m → p.next = m
  | n, [], p, m, h => by
    obtain ⟨h1, h2, h3⟩ := h
    have h3 : n + p.es.length = m := h3
    unfold PSeg.next; omega
  | n, q :: ps, p, m, h => Chain.last_next h.2.2
theorem PSeg.ends_snoc (p : PSeg) (l : List UInt8) : PSeg.ends ⟨p.first, p.es ++ [l]⟩ = p.ends ++ [p.bytes.length + (enc (uv p.next ++ l)).length] := by
  unfold PSeg.ends PSeg.bytes PSeg.next
  simp only [segEnds_append, segEnds, Nat.zero_add]
theorem ret2i {a b c e : Int} (h : a = b) (h' : c = e) : Ending.returned (.tuple #[.int .i64 a, .int .i64 c]) = Ending.returned (.tuple #[.int .i64 b, .int .i64 e]) := by rw [h, h']
theorem wrap64_in (n : Nat) (h : n < 9223372036854775808) : wrap64 (n : Int) = n := by unfold wrap64; omega
theorem unBB : Tryz.prog.underlying 44 = some (.slice 35) := Tryz.underlying44
theorem unInts' : Tryz.prog.underlying 34 = some (.slice 3) := Tryz.underlying34
theorem uvF_length : ∀ (k n : Nat), (uvF k n).length ≤ k := by
  intro k
  induction k with
  | zero => intro n; simp [uvF]
  | succ k ih => intro n; rw [uvF]; split <;> simp <;> have := ih (n / 128) <;> omega
theorem uv_length (n : Nat) : (uv n).length ≤ 10 := uvF_length 10 n

theorem isNm_seg (pre : ByteArray) (n : Nat) (hp : pre.size ≤ 55) (hn : n < 100) : isNm (segName pre n) = true := by
  have hd := digits_small n hn
  have hrl : (⟨(Lib.repeatL zeroS.data.toList (8 - (Lib.decDigits n).length)).toArray⟩ : ByteArray).size = 8 - (Lib.decDigits n).length := by
    show (List.toArray _).size = _
    rw [List.size_toArray, Lib.repeatL_length]
    have : zeroS.data.toList.length = 1 := rfl
    rw [this]; omega
  have hdl : (⟨(Lib.decDigits n).toArray⟩ : ByteArray).size = (Lib.decDigits n).length := by
    show (List.toArray _).size = _
    rw [List.size_toArray]
  have hdot : dot.size = 1 := rfl
  unfold isNm segName
  rw [ByteArray.size_append, ByteArray.size_append, ByteArray.size_append, hrl, hdl, hdot]
  simp only [decide_eq_true_eq]
  omega

/-- A disk and a log on it, side by side. -/
structure Store (w : World) (L d : Nat) (FD FL : Nat → Prop) (pre : ByteArray) (D : PDisk) (ps : List PSeg) (m : Nat) (dl : Bool) : Prop where
  disk : DiskIs w d FD D
  log : ∃ sv rs, LogAt w L d FL pre sv rs m ∧ rs.map (·.p) = ps ∧ (dl = true → ∃ ini r, rs = ini ++ [r] ∧ r.dirty = true)
  apart : ∀ b, FD b → ¬ FL b
/-- What is said of a log's ending: its disk and its log behind it, in the old blocks and in new ones. -/
def StoreEnds (w : World) (L d : Nat) (FD FL : Nat → Prop) (pre : ByteArray) (D : PDisk) (ps : List PSeg) (m : Nat) (dl : Bool) (w' : World) : Prop :=
  Ext (fun b => FD b ∨ FL b) w w' ∧ ∃ FD' FL', (∀ b, FD' b → Gr FD w w' b) ∧ (∀ b, FL' b → Gr FL w w' b) ∧ Store w' L d FD' FL' pre D ps m dl

set_option maxRecDepth 100000 in
set_option maxHeartbeats 8000000 in
theorem LogAppend_more (L d : Nat) (FD FL : Nat → Prop) (D : PDisk) (pre : ByteArray) (sv : Value) (ini : List RSeg) (r : RSeg) (m : Nat) (p : Value) (l : List UInt8) (w : World)
    (hL : LogAt w L d FL pre sv (ini ++ [r]) m) (hd : DiskIs w d FD D) (hdis : ∀ b, FD b → ¬ FL b) (hp : RdB w p l) (hpo : Off FD p) (hpo2 : Off FL p) (hl : l.length ≤ 1048566) (hm : m < 100) (hsz : r.p.bytes.length < 1024)
    (hfit : (enc (uv m ++ l)).length + usedL D.files ≤ D.room) (hcnt : D.files.length < 256) (hb30 : (PSeg.bytes ⟨r.p.first, r.p.es ++ [l]⟩).length ≤ 1073741824) :
    Calls Tryz.prog 90 #[.pointer (some ⟨L, 0, none⟩), p] w fun e w' => e = .returned (.tuple #[.int .i64 m, .int .i64 0]) ∧
      StoreEnds w L d FD FL pre ⟨D.room, fsPut D.files (segName pre r.p.first) (fApp (fsGet D.files (segName pre r.p.first)) (enc (uv m ++ l)))⟩ (ini.map (·.p) ++ [⟨r.p.first, r.p.es ++ [l]⟩]) (m + 1) true w' := by
  have hseg := hL.each r (by simp)
  have hlast := fun (w' : World) (x : Ext NoB w w') => last_some L d FL pre sv (ini ++ [r]) m w' (hL.no x) r (by simp)
  have hsize := fun (w' : World) (x : Ext NoB w w') => size_any FL r w' (hseg.ext x (fun _ _ h => h))
  have c3 : w.cell? ⟨L, 3, none⟩ = some (.int .i64 m) := by rw [cell_of_blk hL.blk]; rfl
  have hw1 : IntKind.u64.wrap (m : Int) = (m : Int) := by rw [IntKind.wrap_u64]; omega
  obtain ⟨ap, cp, rfl, hpn, hpc⟩ := hp.shape
  have hul := uv_length m
  have HL := Lib.hid hL
  have HD := Lib.hid hd
  have HS := Lib.hid hseg
  have Hlast := Lib.hid hlast
  have Hsize := Lib.hid hsize
  have Hdis := Lib.hid hdis
  have HP := Lib.hid hp
  have HPO := Lib.hid hpo
  have HPO2 := Lib.hid hpo2
  have HU := Lib.hid (fun w' => Uvarint_any m (Lib.hid (by unfold U64; omega)) w')
  have hq1 : ¬ ((1048566 : Int) < (l.length : Int)) := by omega
  have hq2 : ¬ ((99999999 : Int) ≤ (m : Int)) := by omega
  have HM := Lib.hid hm
  have Hl := Lib.hid hl
  have Hsz := Lib.hid hsz
  have Hul := Lib.hid hul
  have Hpn := Lib.hid hpn
  have Hpc := Lib.hid hpc
  have Hfit := Lib.hid hfit
  have Hcnt := Lib.hid hcnt
  have Hb30 := Lib.hid hb30
  clear hL hd hseg hlast hsize hdis hp hpo hpo2 hm hl hsz hul hpn hpc hfit hcnt hb30
  go_enter Tryz.func90, Tryz.ntmps90
  go_wp2_with fail
  refine (HU.out w).mono ?_; rintro e w1 ⟨s1, rfl, o1, f1, x1⟩
  obtain ⟨a1, k1, rfl, hn1, hk1⟩ := RdB.shape (l := uv m) o1.rd
  have hp1 := Rd.no HP.out x1
  have hb1 : ((bytesV (uv m)).length + (bytesV l).length) * 1 ≤ 140737488355328 := by have := Hul.out; have := Hl.out; simp only [bytesV_length]; omega
  have Hb1 := Lib.hid hb1
  clear hb1
  go_wp2_with (at_builtin; refine wpList_app _ rfl (.tmp 30) (.tmp 31) 35 35 rfl 5 1 1 unBytes elByte o1 (Rd.src unBytes hp1 (bytesV_one _) (by decide)) rfl rfl Hb1.out (by decide) ?_; intro v2 w2 o2 x2 h2; refine halt2 (fun _K HK => ?_))
  have y2 : Ext NoB w w2 := f1.ext x1 x2
  rw [← bytesV_append] at o2
  obtain ⟨ul, hul⟩ : ∃ ul, uv m ++ l = ul := ⟨_, rfl⟩
  have hulen : ul.length ≤ 1048576 := by rw [← hul]; have := Hul.out; have := Hl.out; simp only [List.length_append]; omega
  rw [hul] at o2
  obtain ⟨a2, k2, rfl, hn2, hk2⟩ := RdB.shape (l := ul) o2.rd
  have Henc := Lib.hid (Encode_any _ ul w2 o2.rd hulen)
  have Hful := Lib.hid hul
  have Hulen := Lib.hid hulen
  clear hulen hul
  clear o2 x2 h2 hn2 hk2 x1 o1 f1 hn1 hk1 hp1
  refine HK.out ?_; clear HK _K
  go_wp2_with fail
  refine Henc.out.mono ?_; rintro e w3 ⟨v3, rfl, o3, f3, x3⟩
  obtain ⟨fr, hfr⟩ : ∃ fr, enc ul = fr := ⟨_, rfl⟩
  rw [hfr] at o3
  obtain ⟨a3, k3, rfl, hn3, hk3⟩ := RdB.shape (l := fr) o3.rd
  have y3 := y2.trans x3
  have HO3 := Lib.hid o3
  have HF3 := Lib.hid f3
  have Hn3 := Lib.hid hn3
  have Hfr := Lib.hid hfr
  have Hfl := Lib.hid (show fr.length ≤ 1048584 by rw [← hfr, enc_length]; have := Hulen.out; omega)
  have Hy2 := Lib.hid y2
  clear o3 f3 hn3 hk3 x3 y2 hfr Henc c3
  go_wp2_with fail
  refine (Hlast.out w3 y3).mono ?_; rintro e w4 ⟨rfl, x4⟩
  have y4 := y3.trans x4
  have HO4 := Lib.hid (HO3.out.no x4)
  clear HO3 y3 x4
  unfold RSeg.ptr at Hsize ⊢
  obtain ⟨z, hz⟩ : ∃ z, r.p.bytes.length = z := ⟨_, rfl⟩
  have hsz' : ¬ ((1024 : Int) ≤ (z : Int)) := by have := Hsz.out; omega
  rw [hz] at Hsize
  have Hz := Lib.hid hz
  clear hz hq1 hq2 hw1
  go_wp2_with fail
  refine (Hsize.out w4 y4).mono ?_; rintro e w5 ⟨rfl, x5⟩
  have y5 := y4.trans x5
  have HO5 := Lib.hid (HO4.out.no x5)
  clear HO4 y4 x5
  go_wp2_with fail
  have hL := HL.out
  have hseg := HS.out
  have hfn : r.p.first < 100 := by
    have h1 := ((hL.chain.le).2 r.p (by simp)).2
    have h2 := hL.chain.pos r.p (by simp)
    have := HM.out
    omega
  have bL := y5.blk hL.blk (fun h => h)
  have bS := y5.blk hseg.blk (fun h => h)
  have c0 : w5.cell? ⟨L, 0, none⟩ = some (.pointer (some ⟨d, 0, none⟩)) := by rw [cell_of_blk bL]; rfl
  have c1 : ∀ w', Ext NoB w5 w' → w'.cell? ⟨L, 1, none⟩ = some (.string pre) := fun w' x => x.cell (by rw [cell_of_blk bL]; rfl) (fun h => h)
  have cs : w5.cell? ⟨r.sg, 0, none⟩ = some (.int .i64 r.p.first) := by rw [cell_of_blk bS]; rfl
  have hname := Lib.hid (fun (w' : World) (x : Ext NoB w5 w') => name_any L pre r.p.first w' hfn (by have := hL.preL; omega) (c1 w' x))
  have happ := Lib.hid (fun (w' : World) (x : Ext NoB w5 w') => Append_ok d FD D (segName pre r.p.first) _ fr w' ((HD.out.no y5).no x) ((HO5.out.no x).rd) (HF3.out.off (fun b hb => Nat.lt_of_lt_of_le (HD.out.lt b hb) Hy2.out.size)) (isNm_seg pre _ hL.preL hfn) (by rw [← Hfr.out, ← Hful.out]; exact Hfit.out) Hcnt.out)
  have hnL : ¬ FD L := fun h => Hdis.out L h hL.self
  have hnS : ¬ FD r.sg := fun h => Hdis.out r.sg h hseg.self
  have HBL := Lib.hid bL
  have HBS := Lib.hid bS
  have Hfn := Lib.hid hfn
  have hxl : r.xs.length ≤ 100 := by
    have h1 := ((hL.chain.le).2 r.p (by simp)).2
    have h2 := hseg.rows.length
    have := HM.out
    unfold PSeg.next at h1
    omega
  have Hxl := Lib.hid hxl
  have HnL := Lib.hid hnL
  have HnS := Lib.hid hnS
  clear hL hseg bL bS c1 hfn hnL hnS hxl
  go_region_held3 (fun w' => w'.cell? ⟨L, 0, none⟩ = some (.pointer (some ⟨d, 0, none⟩)) ∧ w'.cell? ⟨r.sg, 0, none⟩ = some (.int .i64 r.p.first))
    (first | exact ⟨c0, cs⟩ | assumption)
    (first
      | (go_at_call 100; refine (hname.out _ (Ext.refl NoB _).drew).mono ?_; rintro e w6 ⟨rfl, x6⟩; have y6 : Ext NoB w5 w6 := (Ext.refl NoB w5).drew.trans x6; have z6 := And.intro (y6.cell c0 (fun h => h)) (y6.cell cs (fun h => h)))
      | (go_at_call 110; refine (happ.out w6 y6).mono ?_; rintro e w7 ⟨rfl, x7, d7⟩; have z7 := And.intro (x7.cell z6.1 HnL.out) (x7.cell z6.2 HnS.out)))
  go_wp2_with fail
  have x27 : Ext FD w w7 := (y5.trans y6).of_no.trans x7
  have hL7 := HL.out.ext x27 (fun b hb h => Hdis.out b h hb)
  have hS7 := HS.out.ext x27 (fun b hb h => Hdis.out b h hb)
  have hp7 := Rd.ext HP.out x27 HPO.out
  obtain ⟨ea, ec, hev, hen, hec⟩ := Rd.shape hS7.ents.rd
  obtain ⟨na, nc, hnv, hnn, hnc⟩ := Rd.shape hS7.ends.rd
  have b7 := hS7.blk
  rw [hev, hnv] at b7
  have c1 : w7.cell? ⟨r.sg, 1, none⟩ = some (.slice ea r.xs.length ec) := by rw [cell_of_blk b7]; rfl
  have c2 : w7.cell? ⟨r.sg, 2, none⟩ = some (.slice na (natsV r.p.ends).length nc) := by rw [cell_of_blk b7]; rfl
  refine wp_region_N (fun w' => w'.cell? ⟨r.sg, 1, none⟩ = some (.slice ea r.xs.length ec) ∧ w'.cell? ⟨r.sg, 2, none⟩ = some (.slice na (natsV r.p.ends).length nc)) 22 (by kernel_rfl) ?_
  have hSd : w7.drew.cell? ⟨r.sg, 1, none⟩ = some (.slice ea r.xs.length ec) ∧ w7.drew.cell? ⟨r.sg, 2, none⟩ = some (.slice na (natsV r.p.ends).length nc) := ⟨c1, c2⟩
  refine wpAnyN_free 0 (v := ?_) (by kernel_rfl) rfl (fun _ _ _ h => h) hSd (by rfl) ?_ ?_; rotate_left; (focus (intro w; go_simp; try with_reducible rfl)); (try simp only [Act.put, List.setIfInBounds_toArray, List.set_cons_zero, List.set_cons_succ])
  refine wpAnyN_free 1 (v := ?_) (by kernel_rfl) rfl (fun _ _ _ h => h) hSd (by rfl) ?_ ?_; rotate_left; (focus (intro w; go_simp; try with_reducible rfl)); (try simp only [Act.put, List.setIfInBounds_toArray, List.set_cons_zero, List.set_cons_succ])
  refine wpAnyN_free 2 (v := ?_) (by kernel_rfl) rfl (fun _ _ _ h => h) hSd (by rfl) ?_ ?_; rotate_left; (focus (intro w; go_simp; try with_reducible rfl)); (try simp only [Act.put, List.setIfInBounds_toArray, List.set_cons_zero, List.set_cons_succ])
  refine wpAnyN_free 3 (v := ?_) (by kernel_rfl) rfl (fun _ _ _ h => h) hSd (by rfl) ?_ ?_; rotate_left; (focus (intro w; go_simp; try with_reducible rfl)); (try simp only [Act.put, List.setIfInBounds_toArray, List.set_cons_zero, List.set_cons_succ])
  refine wpAnyN_free 4 (v := ?_) (by kernel_rfl) rfl (fun _ _ _ h => h) hSd (by rfl) ?_ ?_; rotate_left; (focus (intro w; go_simp; try with_reducible rfl)); (try simp only [Act.put, List.setIfInBounds_toArray, List.set_cons_zero, List.set_cons_succ])
  refine wpAnyN_free 5 (v := ?_) (by kernel_rfl) rfl (fun _ _ _ h => h) hSd (by rfl) ?_ ?_; rotate_left; (focus (intro w; go_simp; try with_reducible rfl)); (try simp only [Act.put, List.setIfInBounds_toArray, List.set_cons_zero, List.set_cons_succ])
  refine wpAnyN_take 6 (v := ?_) (by kernel_rfl) rfl (fun _ _ _ h => h) hSd (by rfl) ?_ ?_; rotate_left; (focus (intro w hSw; (try dsimp only at hSw); go_simp; try with_reducible rfl)); (try simp only [Act.put, List.setIfInBounds_toArray, List.set_cons_zero, List.set_cons_succ])
  refine wpAnyN_free 7 (v := ?_) (by kernel_rfl) rfl (fun _ _ _ h => h) hSd (by rfl) ?_ ?_; rotate_left; (focus (intro w; go_simp; try with_reducible rfl)); (try simp only [Act.put, List.setIfInBounds_toArray, List.set_cons_zero, List.set_cons_succ])
  refine wpAnyN_free 11 (v := ?_) (by kernel_rfl) rfl (fun _ _ _ h => h) hSd (by rfl) ?_ ?_; rotate_left; (focus (intro w; go_simp; try with_reducible rfl)); (try simp only [Act.put, List.setIfInBounds_toArray, List.set_cons_zero, List.set_cons_succ])
  refine wpAnyN_free 12 (v := ?_) (by kernel_rfl) rfl (fun _ _ _ h => h) hSd (by rfl) ?_ ?_; rotate_left; (focus (intro w; go_simp; try with_reducible rfl)); (try simp only [Act.put, List.setIfInBounds_toArray, List.set_cons_zero, List.set_cons_succ])
  refine wpAnyN_free 13 (v := ?_) (by kernel_rfl) rfl (fun _ _ _ h => h) hSd (by rfl) ?_ ?_; rotate_left; (focus (intro w; go_simp; try with_reducible rfl)); (try simp only [Act.put, List.setIfInBounds_toArray, List.set_cons_zero, List.set_cons_succ])
  refine wpAnyN_take 14 (v := ?_) (by kernel_rfl) rfl (fun _ _ _ h => h) hSd (by rfl) ?_ ?_; rotate_left; (focus (intro w hSw; (try dsimp only at hSw); go_simp; try with_reducible rfl)); (try simp only [Act.put, List.setIfInBounds_toArray, List.set_cons_zero, List.set_cons_succ])
  refine wpAnyN_free 15 (v := ?_) (by kernel_rfl) rfl (fun _ _ _ h => h) hSd (by rfl) ?_ ?_; rotate_left; (focus (intro w; go_simp; try with_reducible rfl)); (try simp only [Act.put, List.setIfInBounds_toArray, List.set_cons_zero, List.set_cons_succ])
  refine wpAnyN_free 17 (v := ?_) (by kernel_rfl) rfl (fun _ _ _ h => h) hSd (by rfl) ?_ ?_; rotate_left; (focus (intro w; go_simp; try with_reducible rfl)); (try simp only [Act.put, List.setIfInBounds_toArray, List.set_cons_zero, List.set_cons_succ])
  refine wpAnyN_free 18 (v := ?_) (by kernel_rfl) rfl (fun _ _ _ h => h) hSd (by rfl) ?_ ?_; rotate_left; (focus (intro w; go_simp; try with_reducible rfl)); (try simp only [Act.put, List.setIfInBounds_toArray, List.set_cons_zero, List.set_cons_succ])
  refine wpAnyN_one 8 (by kernel_rfl) (by simp only [List.getElem?_toArray, List.getElem?_cons_succ, List.getElem?_cons_zero] <;> rfl) (by rfl) (fun K hK => ?_)
  go_simp
  have hp7d : RdB w7.drew (.slice ap l.length cp) l := hp7
  refine (bytesClone_any _ l w7.drew hp7d (by have := Hl.out; omega)).mono ?_; rintro e w8 ⟨v8, rfl, o8, f8, x8⟩
  obtain ⟨a8, k8, rfl, hn8, hk8⟩ := RdB.shape (l := l) o8.rd
  have y8 : Ext NoB w7 w8 := (Ext.refl NoB w7).drew.trans x8
  go_wp2_with fail
  refine hK.out _ _ ⟨y8.cell c1 (fun h => h), y8.cell c2 (fun h => h)⟩ (fun hSd => ?_)
  clear hK K
  (try simp only [Act.put, List.setIfInBounds_toArray, List.set_cons_zero, List.set_cons_succ])
  refine wpAnyN_one 9 (by kernel_rfl) (by simp only [List.getElem?_toArray, List.getElem?_cons_succ, List.getElem?_cons_zero] <;> rfl) (by rfl) (fun K hK => ?_)
  go_simp
  obtain ⟨w9, B9, e1, e2, x9, b9, hs9⟩ := alloc_facts w8 (.cells #[.slice a8 l.length k8] 35)
  rw [e1, e2]
  have y9 := y8.trans x9
  refine hK.out _ _ ⟨y9.cell c1 (fun h => h), y9.cell c2 (fun h => h)⟩ (fun hSd => ?_)
  clear hK K e1 hSd
  have hSd := And.intro (y9.cell c1 (fun h => h)) (y9.cell c2 (fun h => h))
  (try simp only [Act.put, List.setIfInBounds_toArray, List.set_cons_zero, List.set_cons_succ])
  refine wpAnyN_one 10 (by kernel_rfl) (by simp only [List.getElem?_toArray, List.getElem?_cons_succ, List.getElem?_cons_zero] <;> rfl) (by rfl) (fun K hK => ?_)
  have oev : Own w9 35 1 (.slice ea r.xs.length ec) r.xs := by rw [← hev]; exact hS7.ents.no y9
  refine wp_app _ (.tmp 87) (.tmp 90) 44 44 rfl 35 1 24 unBB elBytes _ oev 1 _ (Src.one unBB B9 _ _ _ b9 rfl) (by have := Hxl.out; simp; omega) (by decide) ?_
  intro v10 w10 o10 x10 h10
  obtain ⟨ea2, ec2, rfl, hen2, hec2⟩ := Rd.shape o10.rd
  have Ho10 := Lib.hid o10
  have Hh10 := Lib.hid h10
  have Hx10 := Lib.hid x10
  have Ho8 := Lib.hid o8
  have Hf8 := Lib.hid f8
  have hevF : Off (fun b => b = r.sg) (.slice ea r.xs.length ec) := fun g hg h => oev.ne_blk (y9.blk b7 (fun h => h)) (by decide) g hg h.symm
  have x7a : Ext (fun k => (Value.slice ea r.xs.length ec).ownBlock = some k) w7 w10 := (y9.of_no).trans x10
  have c1a := x7a.cell c1 (fun h => hevF _ h rfl)
  have c2a := x7a.cell c2 (fun h => hevF _ h rfl)
  refine hK.out _ _ ⟨c1a, c2a⟩ (fun hSd => ?_)
  clear hK K hSd
  have hSd := And.intro c1a c2a
  (try simp only [Act.put, List.setIfInBounds_toArray, List.set_cons_zero, List.set_cons_succ])
  have onv0 : Own w7 3 1 (.slice na (natsV r.p.ends).length nc) (natsV r.p.ends) := by rw [← hnv]; exact hS7.ends
  have onv10 : Own w10 3 1 (.slice na (natsV r.p.ends).length nc) (natsV r.p.ends) := (onv0.no y9).ext x10 (own_apart oev (onv0.no y9) (by decide))
  refine wpAnyN_one 16 (by kernel_rfl) (by simp only [List.getElem?_toArray, List.getElem?_cons_succ, List.getElem?_cons_zero] <;> rfl) (by rfl) (fun K hK => ?_)
  go_simp
  refine (size_of r.sg _ r.p w10 c2a onv10).mono ?_; rintro e w11 ⟨rfl, x11⟩
  rw [Hz.out]
  have hadd : IntKind.i64.wrap ((z : Int) + (fr.length : Int)) = (z : Int) + (fr.length : Int) := IntWalk.i64_in _ (by have := Hsz.out; have := Hz.out; have := Hfl.out; omega)
  go_wp2_with fail
  refine hK.out _ _ ⟨x11.cell c1a (fun h => h), x11.cell c2a (fun h => h)⟩ (fun hSd => ?_)
  clear hK K hSd
  have hSd := And.intro (x11.cell c1a (fun h => h)) (x11.cell c2a (fun h => h))
  (try simp only [Act.put, List.setIfInBounds_toArray, List.set_cons_zero, List.set_cons_succ])
  refine wpAnyN_free 19 (v := ?_) (by kernel_rfl) rfl (fun _ _ _ h => h) hSd (by rfl) ?_ ?_; rotate_left; (focus (intro w; go_simp; try with_reducible rfl)); (try simp only [Act.put, List.setIfInBounds_toArray, List.set_cons_zero, List.set_cons_succ])
  refine wpAnyN_one 20 (by kernel_rfl) (by simp only [List.getElem?_toArray, List.getElem?_cons_succ, List.getElem?_cons_zero] <;> rfl) (by rfl) (fun K hK => ?_)
  go_simp
  obtain ⟨w12, B12, e1, e2, x12, b12, hs12⟩ := alloc_facts w11 (.cells #[.int .i64 ((z : Int) + (fr.length : Int))] 3)
  rw [e1, e2]
  have y12 : Ext NoB w10 w12 := x11.trans x12
  refine hK.out _ _ ⟨y12.cell c1a (fun h => h), y12.cell c2a (fun h => h)⟩ (fun hSd => ?_)
  clear hK K e1 hSd
  have hSd := And.intro (y12.cell c1a (fun h => h)) (y12.cell c2a (fun h => h))
  (try simp only [Act.put, List.setIfInBounds_toArray, List.set_cons_zero, List.set_cons_succ])
  refine wpAnyN_one 21 (by kernel_rfl) (by simp only [List.getElem?_toArray, List.getElem?_cons_succ, List.getElem?_cons_zero] <;> rfl) (by rfl) (fun K hK => ?_)
  have onv12 := onv10.no y12
  refine wp_app _ (.tmp 95) (.tmp 101) 34 34 rfl 3 1 8 unInts' elInt _ onv12 1 _ (Src.one unInts' B12 _ _ _ b12 rfl) (by have := Hxl.out; have := hS7.rows.length; simp only [natsV, PSeg.ends, List.length_map, segEnds_length, List.length_singleton]; omega) (by decide) ?_
  intro v13 w13 o13 x13 h13
  obtain ⟨na2, nc2, rfl, hnn2, hnc2⟩ := Rd.shape o13.rd
  have Ho13 := Lib.hid o13
  have Hh13 := Lib.hid h13
  have hnvF : Off (fun b => b = r.sg) (.slice na (natsV r.p.ends).length nc) := fun g hg h => onv0.ne_blk b7 (by decide) g hg h.symm
  have x10d : Ext (fun k => (Value.slice na (natsV r.p.ends).length nc).ownBlock = some k) w10 w13 := (y12.of_no).trans x13
  have c1b := x10d.cell c1a (fun h => hnvF _ h rfl)
  have c2b := x10d.cell c2a (fun h => hnvF _ h rfl)
  refine hK.out _ _ ⟨c1b, c2b⟩ (fun hSd => ?_)
  clear hK K hSd
  (try simp only [Act.put, List.setIfInBounds_toArray, List.set_cons_zero, List.set_cons_succ])
  refine wpAnyN_tail (by rfl) (by decide) (by kernel_rfl) (by kernel_rfl) ?_
  simp only [List.drop_succ_cons, List.drop_zero]
  have x713 : Ext (fun k => (Value.slice ea r.xs.length ec).ownBlock = some k ∨ (Value.slice na (natsV r.p.ends).length nc).ownBlock = some k) w7 w13 := (x7a.mono (fun _ _ h => .inl h)).trans' x10d (fun _ _ h => h) (fun _ _ h => .inr h)
  have b13 := x713.blk b7 (fun h => h.elim (fun h => hevF _ h rfl) (fun h => hnvF _ h rfl))
  have f1 : w13.frozen? ⟨r.sg, 1, none⟩ = false := frozen_of_blk b13 1
  have f2 : w13.frozen? ⟨r.sg, 2, none⟩ = false := frozen_of_blk b13 2
  have f3 : w13.frozen? ⟨r.sg, 3, none⟩ = false := frozen_of_blk b13 3
  have c3b : w13.cell? ⟨r.sg, 3, none⟩ = some (.bool r.dirty) := by rw [cell_of_blk b13]; rfl
  have bL7 := hL7.blk
  have hLs : L ≠ r.sg := by
    intro e
    rw [e, b7] at bL7
    injection bL7 with h1
    injection h1 with h2 h3
    exact absurd h3 (by decide)
  have hsL : r.sg ≠ L := Ne.symm hLs
  have hevL : Off (fun b => b = L) (.slice ea r.xs.length ec) := fun g hg h => oev.ne_blk (y9.blk bL7 (fun h => h)) (by decide) g hg h.symm
  have hnvL : Off (fun b => b = L) (.slice na (natsV r.p.ends).length nc) := fun g hg h => onv0.ne_blk bL7 (by decide) g hg h.symm
  have bL13 := x713.blk bL7 (fun h => h.elim (fun h => hevL _ h rfl) (fun h => hnvL _ h rfl))
  have cL3 : w13.cell? ⟨L, 3, none⟩ = some (.int .i64 m) := by rw [cell_of_blk bL13]; rfl
  have fL3 : w13.frozen? ⟨L, 3, none⟩ = false := frozen_of_blk bL13 3
  have hwm : IntKind.i64.wrap ((m : Int) + 1) = (m : Int) + 1 := IntWalk.i64_in _ (by have := HM.out; omega)
  have hwm2 : IntKind.i64.wrap ((m : Int) + 1 - 1) = (m : Int) := by rw [IntWalk.i64_in _ (by have := HM.out; omega)]; omega
  have Hb7 := Lib.hid b7
  have HbL7 := Lib.hid bL7
  have HL7 := Lib.hid hL7
  clear b7 bL7 hL7
  go_wp2_with fail
  go_ret2
  refine ⟨ret2i (wrap64_in m (by have := HM.out; omega)) rfl, ?_⟩
  have b7 := Hb7.out
  have bL7 := HbL7.out
  have hL7 := HL7.out
  have xS : Ext (fun b => b = r.sg ∨ b = L) w13 ((((w13.setCell ⟨r.sg, 1, none⟩ (.slice ea2 (r.xs ++ [Value.slice a8 l.length k8]).length ec2)).setCell ⟨r.sg, 2, none⟩ (.slice na2 (natsV r.p.ends ++ [Value.int .i64 ((z : Int) + (fr.length : Int))]).length nc2)).setCell ⟨r.sg, 3, none⟩ (.bool true)).setCell ⟨L, 3, none⟩ (.int .i64 ((m : Int) + 1))) :=
    ((((Ext.refl (fun b => b = r.sg ∨ b = L) w13).setCell (p := ⟨r.sg, 1, none⟩) (.inl (.inl rfl)) _).setCell (p := ⟨r.sg, 2, none⟩) (.inl (.inl rfl)) _).setCell (p := ⟨r.sg, 3, none⟩) (.inl (.inl rfl)) _).setCell (p := ⟨L, 3, none⟩) (.inl (.inr rfl)) _
  have k4 := blk_setCell_ne (blk_setCell (blk_setCell (blk_setCell b13 1 (.slice ea2 (r.xs ++ [Value.slice a8 l.length k8]).length ec2)) 2 (.slice na2 (natsV r.p.ends ++ [Value.int .i64 ((z : Int) + (fr.length : Int))]).length nc2)) 3 (.bool true)) (p := ⟨L, 3, none⟩) hsL (.int .i64 ((m : Int) + 1))
  have kL := blk_setCell (blk_setCell_ne (blk_setCell_ne (blk_setCell_ne bL13 (p := ⟨r.sg, 1, none⟩) hLs (.slice ea2 (r.xs ++ [Value.slice a8 l.length k8]).length ec2)) (p := ⟨r.sg, 2, none⟩) hLs (.slice na2 (natsV r.p.ends ++ [Value.int .i64 ((z : Int) + (fr.length : Int))]).length nc2)) (p := ⟨r.sg, 3, none⟩) hLs (.bool true)) 3 (.int .i64 ((m : Int) + 1))
  have elen1 : (r.xs ++ [Value.slice a8 l.length k8]).length = r.xs.length + 1 := by simp
  have elen2 : (natsV r.p.ends ++ [Value.int .i64 ((z : Int) + (fr.length : Int))]).length = (natsV r.p.ends).length + 1 := by simp
  rw [← elen1, ← elen2]
  generalize ((((w13.setCell ⟨r.sg, 1, none⟩ (.slice ea2 (r.xs ++ [Value.slice a8 l.length k8]).length ec2)).setCell ⟨r.sg, 2, none⟩ (.slice na2 (natsV r.p.ends ++ [Value.int .i64 ((z : Int) + (fr.length : Int))]).length nc2)).setCell ⟨r.sg, 3, none⟩ (.bool true)).setCell ⟨L, 3, none⟩ (.int .i64 ((m : Int) + 1))) = wF at xS k4 kL ⊢
  have xF : Ext (fun b => r.ev.ownBlock = some b ∨ r.nv.ownBlock = some b ∨ b = r.sg ∨ b = L) w7 wF := by
    rw [hev, hnv]
    exact (x713.mono (fun _ _ h => h.elim .inl (fun h => .inr (.inl h)))).next xS (fun b h _ => .inr (.inr h))
  have hGL : ∀ b, (r.ev.ownBlock = some b ∨ r.nv.ownBlock = some b ∨ b = r.sg ∨ b = L) → FL b := fun b h => by
    rcases h with h | h | h | h
    · exact hS7.entsF b h
    · exact hS7.endsF b h
    · exact h ▸ hS7.self
    · exact h ▸ hL7.self
  have hltL := HL.out.lt
  have hltD := HD.out.lt
  have h56 := y6.size
  have h05 := y5.size
  have h67 := x7.size
  have h7F := xF.size
  have hmnext := hL7.chain
  simp only [List.map_append, List.map_cons, List.map_nil] at hmnext
  have hnext := hmnext.last_next
  have x8F : Ext (fun b => r.ev.ownBlock = some b ∨ r.nv.ownBlock = some b ∨ b = r.sg ∨ b = L) w8 wF := by
    rw [hev, hnv]
    exact (((x9.of_no).trans (Hx10.out.mono (fun _ _ h => .inl h))).trans (x10d.mono (fun _ _ h => .inr (.inl h)))).trans (xS.mono (fun _ _ h => .inr (.inr h)))
  have hlogF := LogAt.more (v := .slice a8 l.length k8) (ev' := .slice ea2 (r.xs ++ [Value.slice a8 l.length k8]).length ec2) (nv' := .slice na2 (natsV r.p.ends ++ [Value.int .i64 ((z : Int) + (fr.length : Int))]).length nc2) (l := l) hL7 xF
    (by rw [show ((m + 1 : Nat) : Int) = (m : Int) + 1 by omega]; exact kL) k4 ?_ ?_ ?_ ?_ ?_ ?_ HM.out Hb30.out
  · refine ⟨((x27.mono (fun _ _ h => .inl h)).next xF (fun b h hb => .inr (hGL b h))), Gr FD w6 w7, Gr FL w7 wF, ?_, ?_, ?_, ⟨_, _, hlogF, by simp, fun _ => ⟨ini, _, rfl, rfl⟩⟩, ?_⟩
    · intro b hb
      rcases hb with hb | hb
      · exact .inl hb
      · exact .inr (by omega)
    · intro b hb
      rcases hb with hb | hb
      · exact .inl hb
      · exact .inr (by omega)
    · rw [Hful.out, Hfr.out]
      refine d7.ext xF (fun b hb hG => ?_)
      have hb2 := hGL b hG
      rcases hb with hb | hb
      · exact Hdis.out b hb hb2
      · have := hltL b hb2; omega
    · intro b hb hb2
      rcases hb with hb | hb
      · rcases hb2 with hb2 | hb2
        · exact Hdis.out b hb hb2
        · have := hltD b hb; omega
      · rcases hb2 with hb2 | hb2
        · have := hltL b hb2; omega
        · omega
  · exact (Ho10.out.ext x10d (own_apart onv10 Ho10.out (by decide))).ext xS (fun g hg h => h.elim
      (fun h => (Ho10.out.ext x10d (own_apart onv10 Ho10.out (by decide))).ne_blk b13 (by decide) g hg h.symm)
      (fun h => (Ho10.out.ext x10d (own_apart onv10 Ho10.out (by decide))).ne_blk bL13 (by decide) g hg h.symm))
  · have e : natsV (PSeg.ends ⟨r.p.first, r.p.es ++ [l]⟩) = natsV r.p.ends ++ [.int .i64 ((z : Int) + (fr.length : Int))] := by
      rw [PSeg.ends_snoc, hnext, Hful.out, Hfr.out, Hz.out]
      simp [natsV]
    rw [e]
    exact Ho13.out.ext xS (fun g hg h => h.elim (fun h => Ho13.out.ne_blk b13 (by decide) g hg h.symm) (fun h => Ho13.out.ne_blk bL13 (by decide) g hg h.symm))
  · refine RdU.of_own (Ho8.out.ext x8F (fun g hg hG => ?_))
    have h1 : w7.heap.size ≤ g := Hf8.out g hg
    have h2 := hltL g (hGL g hG)
    omega
  · exact fun g hg => Hf8.out g hg
  · intro g hg
    rw [hev]
    rcases Hh10.out with h | ⟨g', h1, h2⟩
    · exact .inl (h ▸ hg)
    · rw [h1] at hg; cases hg; exact .inr (Nat.le_trans y9.size h2)
  · intro g hg
    rw [hnv]
    rcases Hh13.out with h | ⟨g', h1, h2⟩
    · exact .inl (h ▸ hg)
    · rw [h1] at hg; cases hg; exact .inr (Nat.le_trans (Nat.le_trans x7a.size y12.size) h2)
end Go.Proofs.YtgglbholbkdgfaaGreatDoor
