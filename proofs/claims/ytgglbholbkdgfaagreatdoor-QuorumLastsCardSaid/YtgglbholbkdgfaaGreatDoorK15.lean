/- Joined texts: B79 B80 B81. Each has its own head. -/
import Derived.Test.YtgglbholbkdgfaaGreatDoorK14
import Derived.Test.YtgglbholbkdgfaaGreatDoorK12
set_option linter.unusedVariables false
set_option linter.unusedSimpArgs false
namespace Go.Proofs.YtgglbholbkdgfaaGreatDoor
open Go.RowKit
theorem segBytes_take {es : List (List UInt8)} {j n : Nat} {e : List UInt8} (h : es[j]? = some e) : segBytes n (es.take (j + 1)) = segBytes n (es.take j) ++ enc (uv (n + j) ++ e) := by
 have hl : (es.take j).length = j := by rw [List.length_take]; have := (List.getElem?_eq_some_iff.1 h).1; omega
 rw [take_succ_some h, segBytes_append, hl]
 simp [segBytes]
theorem segEnds_take {es : List (List UInt8)} {j n : Nat} {e : List UInt8} (h : es[j]? = some e) : segEnds n 0 (es.take (j + 1)) = segEnds n 0 (es.take j) ++ [(segBytes n (es.take (j + 1))).length] := by
 have hl : (es.take j).length = j := by rw [List.length_take]; have := (List.getElem?_eq_some_iff.1 h).1; omega
 rw [segBytes_take h, take_succ_some h, segEnds_append, hl]
 simp [segEnds]
theorem segBytes_drop {es : List (List UInt8)} {j n : Nat} {e : List UInt8} (h : es[j]? = some e) : segBytes n es = segBytes n (es.take j) ++ (enc (uv (n + j) ++ e) ++ segBytes (n + j + 1) (es.drop (j + 1))) := by
 have hl : (es.take j).length = j := by rw [List.length_take]; have := (List.getElem?_eq_some_iff.1 h).1; omega
 have := segBytes_append (es.take j) (es.drop j) n
 rw [List.take_append_drop, hl, drop_some h] at this
 rw [this]; rfl
theorem natsV_append (a b : List Nat) : natsV (a ++ b) = natsV a ++ natsV b := by simp [natsV]
structure Both (w w' : World) (ev nv v1 v2 : Value) (xs ys : List Value) : Prop where
 o1 : Own w' 35 1 v1 xs
 o2 : Own w' 3 1 v2 ys
 x : Ext (fun b => ev.ownBlock = some b ∨ nv.ownBlock = some b) w w'
 h1 : ∀ g, v1.ownBlock = some g → ev.ownBlock = some g ∨ w.heap.size ≤ g
 h2 : ∀ g, v2.ownBlock = some g → nv.ownBlock = some g ∨ w.heap.size ≤ g
theorem Both.of {w wa wb wc wd : World} {ev nv v1 v2 : Value} {xs ys zs : List Value} (xa : Ext NoB w wa) (x1 : Ext (fun b => ev.ownBlock = some b) wa wb) (xb : Ext NoB wb wc) (x2 : Ext (fun b => nv.ownBlock = some b) wc wd) (o1 : Own wb 35 1 v1 xs)
  (on : Own wc 3 1 nv zs) (o2 : Own wd 3 1 v2 ys) (h1 : v1.ownBlock = ev.ownBlock ∨ ∃ g, v1.ownBlock = some g ∧ wa.heap.size ≤ g) (h2 : v2.ownBlock = nv.ownBlock ∨ ∃ g, v2.ownBlock = some g ∧ wc.heap.size ≤ g) : Both w wd ev nv v1 v2 xs ys := by
 have s1 := xa.size
 have s2 := x1.size
 have s3 := xb.size
 refine ⟨(o1.no xb).ext x2 (own_apart on (o1.no xb) (by decide)), o2, (((xa.of_no).trans (x1.mono (fun _ _ h => .inl h))).trans xb.of_no).trans (x2.mono (fun _ _ h => .inr h)), fun g hg => ?_, fun g hg => ?_⟩
 ·rcases h1 with h | ⟨g', h, h'⟩
  ·exact .inl (h ▸ hg)
  ·rw [h] at hg; cases hg; exact .inr (by omega)
 ·rcases h2 with h | ⟨g', h, h'⟩
  ·exact .inl (h ▸ hg)
  ·rw [h] at hg; cases hg; exact .inr (by omega)
set_option maxRecDepth 100000 in
set_option maxHeartbeats 8000000 in
theorem read_more (L d : Nat) (FD FL : Nat → Prop) (D : PDisk) (sv : Value) (rs : List RSeg) (m : Nat) (p : PSeg) (f : PFile) (w : World) (hL : LogAt w L d FL logPre sv rs m) (hd : DiskIs w d FD D) (hf : fsGet D.files (segName logPre m) = some f)
  (hfd : f.data = p.bytes) (hpf : p.first = m) (hne : p.es ≠ []) (hm : m + p.es.length ≤ 100) (hes : ∀ e ∈ p.es, e.length ≤ 1048566) (hrs : rs ≠ []) (hb30 : p.bytes.length ≤ 1073741824) :
  Calls Tryz.prog 74 #[.pointer (some ⟨L, 0, none⟩), .int .i64 m] w fun e w' => e = .returned (.bool true) ∧ Ext FL w w' ∧ ∃ sv' r, LogAt w' L d (Gr FL w w') logPre sv' (rs ++ [r]) (m + p.es.length) ∧ r.p = p := by
 have hpl := List.length_pos_iff.2 hne
 have hm1 : 1 ≤ m := (hL.chain.le).1
 obtain ⟨sa, sc, hsv, hsn, hsc⟩ := Rd.shape hL.segs.rd
 obtain ⟨sn, hsnn⟩ : ∃ sn, (rs.map RSeg.ptr).length = sn := ⟨_, rfl⟩
 have hpos : (0 : Int) < (sn : Int) := by rw [← hsnn, List.length_map]; have := List.length_pos_iff.2 hrs; omega
 rw [hsnn] at hsv hsn
 have c2 : w.cell? ⟨L, 2, none⟩ = some (.slice sa sn sc) := by rw [cell_of_blk hL.blk, ← hsv]; rfl
 have c3 : w.cell? ⟨L, 3, none⟩ = some (.int .i64 m) := by rw [cell_of_blk hL.blk]; rfl
 have c0 : w.cell? ⟨L, 0, none⟩ = some (.pointer (some ⟨d, 0, none⟩)) := by rw [cell_of_blk hL.blk]; rfl
 have hname := Lib.hid (fun (w' : World) (x : Ext NoB w w') => name_any L logPre m w' (by omega) (by decide) (x.cell (by rw [cell_of_blk hL.blk]; rfl) (fun h => h)))
 have hread := Lib.hid (fun (w' : World) (x : Ext NoB w w') => Read_some d FD D (segName logPre m) w' (hd.no x) f hf)
 have hq1 : ¬ ((m : Int) < 1) := by omega
 have HL := Lib.hid hL
 have Hfd := Lib.hid hfd
 have Hp := Lib.hid (And.intro hpf (And.intro hne hm))
 have Hes := Lib.hid hes
 have Hsv := Lib.hid hsv
 have Hb30 := Lib.hid hb30
 have Hsn := Lib.hid (And.intro hsnn (And.intro hsn hsc))
 have Hm1 := Lib.hid (And.intro hm1 hpl)
 have hzs := fun (w : World) => (show (zeroValue 139).run Tryz.prog w = .ok (.agg #[.int .i64 0, .slice none 0 0, .slice none 0 0, .bool false]) w by kernel_rfl)
 clear hL hd hf hfd hpf hne hm hes hsv hsnn hsn hsc hrs hm1 hpl hb30
 go_enter Tryz.func74, Tryz.ntmps74
 go_wp2_with fail
 refine (hname.out w (Ext.refl _ _)).mono ?_; rintro e w1 ⟨rfl, x1⟩
 have d0 := x1.cell c0 (fun h => h)
 have d2 := x1.cell c2 (fun h => h)
 have d3 := x1.cell c3 (fun h => h)
 have Hx1 := Lib.hid x1
 clear c0 c2 c3 x1
 go_wp2_with fail
 refine (hread.out w1 Hx1.out).mono ?_; rintro e w2 ⟨vb, rfl, ob, fb, x2⟩
 rw [Hfd.out] at ob
 obtain ⟨ba, bc, rfl, hbn, hbc⟩ := RdB.shape (l := p.bytes) ob.rd
 obtain ⟨bn, hbnn⟩ : ∃ bn, p.bytes.length = bn := ⟨_, rfl⟩
 rw [hbnn] at ob hbn ⊢
 have Hob := Lib.hid ob
 have Hfb := Lib.hid fb
 have Hbn := Lib.hid (And.intro hbnn (And.intro hbn hbc))
 have Hx2 := Lib.hid (Hx1.out.trans x2)
 clear ob fb x2 d0 d2 d3 hbn hbc hbnn
 go_wp2_with fail
 obtain ⟨w3, sg, e1, e2, x3, b3, hs3⟩ := alloc_facts w2 (.cells #[.int .i64 m, .slice none 0 0, .slice none 0 0, .bool true] 139)
 rw [e1, e2]
 have Hx3 := Lib.hid (Hx2.out.trans x3)
 have Hsg : Hid (sg = w2.heap.size) := Lib.hid (by omega)
 have Hb3 := Lib.hid b3
 have Ho3 := Lib.hid (Hob.out.no x3)
 clear e1 e2 x3 b3 hs3
 go_wp2_with fail
 go_loopw [9] (fun v wr => ∃ j ev nv xs, v = .int .i64 ((segBytes m (p.es.take j)).length : Nat) ∧ j ≤ p.es.length ∧ Hid (wr.heap[sg]? = some (.cells #[.int .i64 m, ev, nv, .bool true] 139 (0, 0))) ∧
  Hid (Own wr 35 1 ev xs) ∧ Hid (Own wr 3 1 nv (natsV (segEnds m 0 (p.es.take j)))) ∧ Hid (Rows3 wr (fun g => w2.heap.size ≤ g ∧ g < wr.heap.size) xs (p.es.take j)) ∧ Hid (Fresh w3 ev) ∧ Hid (Fresh w3 nv) ∧ Hid (Ext (fun b => b = sg) w3 wr)) (fun v _ => bn - (intOf v).toNat)
 case atStart => exact ⟨0, _, _, [], rfl, by omega, Hb3, Lib.hid (Own.nil _ _ _), Lib.hid (Own.nil _ _ _), Lib.hid .nil, Lib.hid (Fresh.nil _ _ _), Lib.hid (Fresh.nil _ _ _), Lib.hid (Ext.refl _ _)⟩
 case round =>
  obtain ⟨j, ev, nv, xs, rfl, hj, HbS, Hev, Hnv, Hrows, Hfe, Hfn, HX⟩ := hrel
  have hbnE : bn = (segBytes m p.es).length := by rw [← Hbn.out.1]; unfold PSeg.bytes; rw [Hp.out.1]
  have hbn30 : bn ≤ 1073741824 := by rw [← Hbn.out.1]; exact Hb30.out
  have hw3r := HX.out.size
  by_cases hlt : j < p.es.length
  ·obtain ⟨e0, he0⟩ : ∃ e, p.es[j]? = some e := ⟨_, List.getElem?_eq_getElem hlt⟩
   have hel := Hes.out e0 (List.mem_of_getElem? he0)
   have hsplit := segBytes_drop (n := m) he0
   have htake := segBytes_take (n := m) he0
   have hends := segEnds_take (n := m) he0
   obtain ⟨ul, hul⟩ : ∃ ul, uv (m + j) ++ e0 = ul := ⟨_, rfl⟩
   rw [hul] at hsplit htake
   obtain ⟨rest, hrest⟩ : ∃ rest, segBytes (m + j + 1) (p.es.drop (j + 1)) = rest := ⟨_, rfl⟩
   rw [hrest] at hsplit
   obtain ⟨A, hA⟩ : ∃ A, (segBytes m (p.es.take j)).length = A := ⟨_, rfl⟩
   have huvl := uv_length (m + j)
   have hull : ul.length ≤ 1048576 := by rw [← hul, List.length_append]; omega
   have hlen : bn = A + (ul.length + 8 + rest.length) := by rw [hbnE, hsplit, List.length_append, List.length_append, enc_length, hA]
   have hA2 : (segBytes m (p.es.take (j + 1))).length = A + (ul.length + 8) := by rw [htake, List.length_append, enc_length, hA]
   have hdrop : p.bytes.drop A = enc ul ++ rest := by
    unfold PSeg.bytes
    rw [Hp.out.1, hsplit, ← hA, List.drop_left]
   have hlt1 : (A : Int) < (bn : Int) := by omega
   have hsub := fun (w : World) => run_sub_l (P := Tryz.prog) w 35 5 unBytes szByte ba bn bc .i64 (A : Int) (by omega) (by omega)
   have hrb : RdB wr (.slice ba bn bc) p.bytes := ((Ho3.out.ext HX.out (fun g hg h => Ho3.out.ne_blk Hb3.out (by decide) g hg h.symm))).rd
   have hrs : RdB wr (.slice (subA ba A bc) (bn - A) (bc - A)) (enc ul ++ rest) := by
    have := RdB.drop (l := p.bytes) (by rw [Hbn.out.1]; exact hrb) A (by rw [Hbn.out.1]; omega) (by rw [Hbn.out.1]; exact Hbn.out.2.1)
    rw [hdrop, Hbn.out.1] at this
    exact this
   have hdecl : (enc ul ++ rest).length < 1000000000000 := by rw [List.length_append, enc_length]; omega
   have hdec := Decode_any _ _ wr hrs hdecl
   unfold DecEnds at hdec
   rw [dec_enc_app ul rest hull] at hdec
   have hAn : ((A : Int)).toNat = A := by omega
   rw [hAn] at hsub
   obtain ⟨xa, hxa⟩ : ∃ xa, subA ba A bc = xa := ⟨_, rfl⟩
   obtain ⟨xn, hxn⟩ : ∃ xn, bn - A = xn := ⟨_, rfl⟩
   obtain ⟨xc, hxc⟩ : ∃ xc, bc - A = xc := ⟨_, rfl⟩
   rw [hxa, hxn, hxc] at hsub hdec
   rw [hA]
   have hmj : m + j ≤ 100 := by have := Hp.out.2.2; omega
   have Hdec := Lib.hid hdec
   have HA := Lib.hid (And.intro hA hA2)
   have Hul := Lib.hid (And.intro hul hull)
   have He0 := Lib.hid he0
   have Hends := Lib.hid hends
   have Hlen := Lib.hid hlen
   have Hlt := Lib.hid hlt
   have Hmj := Lib.hid hmj
   have HbnE := Lib.hid (And.intro hbnE hbn30)
   clear hsplit htake hrest hdrop hrb hrs hdecl hdec hA hA2 hul hull he0 hends hlen hlt hel huvl hxa hxn hxc hbnE hbn30 hmj
   go_wp2_with fail
   refine Hdec.out.mono ?_; rintro _ w4 ⟨vp, rfl, op, fp, x4⟩
   obtain ⟨pa, pc, rfl, hpn, hpc⟩ := RdB.shape (l := ul) op.rd
   obtain ⟨un, hun⟩ : ∃ un, ul.length = un := ⟨_, rfl⟩
   rw [hun] at op hpn ⊢
   have hread := ReadUvarint_any _ ul w4 op.rd (by have := Hul.out.2; omega)
   rw [← Hul.out.1, ruv_uv (m + j) e0 (by have := Hmj.out; omega)] at hread
   unfold ruvV at hread
   dsimp only at hread
   rw [show (((0 : Nat) : Int)) = 0 from rfl] at hread
   obtain ⟨kk, hkk⟩ : ∃ kk, (uv (m + j)).length = kk := ⟨_, rfl⟩
   rw [hkk] at hread
   have Hread := Lib.hid hread
   have Hop := Lib.hid op
   have Hfp := Lib.hid fp
   have Hun := Lib.hid (And.intro hun (And.intro hpn (And.intro hpc hkk)))
   have Hx4 := Lib.hid x4
   clear hread op fp hun hpn hpc hkk x4
   go_wp2_with fail
   refine Hread.out.mono ?_; rintro _ w5 ⟨rfl, rfl⟩
   have hseg : SegAt w4 (fun _ => True) ⟨sg, ⟨m, p.es.take j⟩, ev, nv, xs, true⟩ := ⟨Hx4.out.blk HbS.out (fun h => h), trivial, Hev.out.no Hx4.out, fun _ _ => trivial, Hnv.out.no Hx4.out, fun _ _ => trivial, (Hrows.out.ext Hx4.out (fun _ _ _ _ _ h => h)).mono (fun _ _ => trivial)⟩
   have hnx : PSeg.next ⟨m, p.es.take j⟩ = m + j := by unfold PSeg.next; rw [List.length_take]; have := Hlt.out; show m + _ = _; omega
   have hnext := next_any (fun _ => True) _ w4 hseg (by show PSeg.next ⟨m, p.es.take j⟩ ≤ 100; rw [hnx]; exact Hmj.out)
   replace hnext : Calls Tryz.prog 101 #[.pointer (some ⟨sg, 0, none⟩)] w4 fun e w' => e = .returned (.int .i64 (m + j : Nat)) ∧ Ext NoB w4 w' := by rw [← hnx]; exact hnext
   have hwn : IntKind.u64.wrap ((m + j : Nat) : Int) = ((m + j : Nat) : Int) := by rw [IntKind.wrap_u64]; have := Hmj.out; omega
   obtain ⟨q, hq⟩ : ∃ q, m + j = q := ⟨_, rfl⟩
   rw [hq] at hnext hwn ⊢
   have Hnext := Lib.hid hnext
   have Hq := Lib.hid hq
   clear hseg hnx hnext hq
   go_wp2_with fail
   refine Hnext.out.mono ?_; rintro _ w5 ⟨rfl, x5⟩
   have Hx5 := Lib.hid (Hx4.out.trans x5)
   have Hop5 := Lib.hid (Hop.out.no x5)
   have hadd : IntKind.i64.wrap ((A : Int) + ((un : Int) + 8)) = (A : Int) + ((un : Int) + 8) := IntWalk.i64_in _ (by have := Hlen.out; have := HbnE.out; have := Hun.out.1; omega)
   clear x5
   go_wp2_with fail
   have hbS5 := Hx5.out.blk HbS.out (fun h => h)
   have oev := Hev.out.no Hx5.out
   have onv := Hnv.out.no Hx5.out
   obtain ⟨ea, ec, hevS, hen, hec⟩ := Rd.shape oev.rd
   obtain ⟨na, nc, hnvS, hnn, hnc⟩ := Rd.shape onv.rd
   have hxsl : xs.length ≤ 100 := by rw [Hrows.out.length, List.length_take]; have := Hmj.out; have := Hlt.out; have := Hq.out; omega
   obtain ⟨ys, hys⟩ : ∃ ys, natsV (segEnds m 0 (p.es.take j)) = ys := ⟨_, rfl⟩
   have hysl : ys.length ≤ 100 := by rw [← hys]; unfold natsV; rw [List.length_map, segEnds_length, List.length_take]; have := Hmj.out; have := Hlt.out; have := Hq.out; omega
   rw [hys] at hnvS onv
   obtain ⟨el, hel⟩ : ∃ el, xs.length = el := ⟨_, rfl⟩
   obtain ⟨nl, hnl⟩ : ∃ nl, ys.length = nl := ⟨_, rfl⟩
   rw [hel] at hevS
   rw [hnl] at hnvS
   have hbSx := hbS5
   rw [hevS, hnvS] at hbSx
   have c1 : w5.cell? ⟨sg, 1, none⟩ = some (.slice ea el ec) := by rw [cell_of_blk hbSx]; rfl
   have c2 : w5.cell? ⟨sg, 2, none⟩ = some (.slice na nl nc) := by rw [cell_of_blk hbSx]; rfl
   have hkn : kk ≤ un := by have h1 := Hun.out.1; have h2 := Hun.out.2.2.2; have h3 := congrArg List.length Hul.out.1; rw [List.length_append] at h3; omega
   have hsub2 := fun (w : World) => run_sub_l (P := Tryz.prog) w 35 5 unBytes szByte pa un pc .i64 (kk : Int) (by omega) (by omega)
   have hkkn : ((kk : Int)).toNat = kk := by omega
   rw [hkkn] at hsub2
   have hrdu : RdU w5 (.slice (subA pa kk pc) (un - kk) (pc - kk)) e0 := by
    have := RdU.drop (RdU.of_own Hop5.out) Hun.out.1.symm kk (by rw [Hun.out.1]; exact hkn) (by rw [Hun.out.1]; exact Hun.out.2.1)
    have hdr : ul.drop kk = e0 := by
     have hkq : (uv q).length = kk := by rw [← Hq.out]; exact Hun.out.2.2.2
     rw [← Hul.out.1, Hq.out, ← hkq, List.drop_left]
    rwa [hdr] at this
   obtain ⟨ya, hya⟩ : ∃ ya, subA pa kk pc = ya := ⟨_, rfl⟩
   obtain ⟨yn, hyn⟩ : ∃ yn, un - kk = yn := ⟨_, rfl⟩
   obtain ⟨yc, hyc⟩ : ∃ yc, pc - kk = yc := ⟨_, rfl⟩
   have hyb : ∀ g, (Value.slice ya yn yc).ownBlock = some g → (Value.slice pa ul.length pc).ownBlock = some g := by rw [← hya]; exact sub_block
   rw [hya, hyn, hyc] at hsub2 hrdu
   have Hrdu := Lib.hid hrdu
   have Hyb := Lib.hid hyb
   have HevS := Lib.hid (And.intro hevS (And.intro hel (And.intro hxsl hen)))
   have HnvS := Lib.hid (And.intro hnvS (And.intro hnl (And.intro hysl hys)))
   have HbS5 := Lib.hid hbS5
   have oev' : Own w5 35 1 (.slice ea el ec) xs := by rw [← hevS]; exact oev
   have onv' : Own w5 3 1 (.slice na nl nc) ys := by rw [← hnvS]; exact onv
   have Hoev := Lib.hid oev'
   have Honv := Lib.hid onv'
   have Hhsub := Lib.hid hsub2
   clear hrdu hyb hevS hnvS hel hnl hxsl hysl hys hen hnn hbS5 hbSx oev onv oev' onv' hya hyn hyc hkn hkkn
   refine wp_region_N (fun w' => w'.cell? ⟨sg, 1, none⟩ = some (.slice ea el ec) ∧ w'.cell? ⟨sg, 2, none⟩ = some (.slice na nl nc)) 18 (by kernel_rfl) ?_
   have hSd : w5.drew.cell? ⟨sg, 1, none⟩ = some (.slice ea el ec) ∧ w5.drew.cell? ⟨sg, 2, none⟩ = some (.slice na nl nc) := ⟨c1, c2⟩
   have x5d : Ext NoB w5 w5.drew := (Ext.refl _ w5).drew
   generalize w5.drew = wd at hSd x5d ⊢
   refine wpAnyN_free 0 (v := ?_) (by kernel_rfl) rfl (fun _ _ _ h => h) hSd (by rfl) ?_ ?_; rotate_left; (focus (intro w; go_simp; try with_reducible rfl)); (try simp only [Act.put]); (try simp only [List.setIfInBounds_toArray, List.set_cons_zero, List.set_cons_succ])
   refine wpAnyN_free 1 (v := ?_) (by kernel_rfl) rfl (fun _ _ _ h => h) hSd (by rfl) ?_ ?_; rotate_left; (focus (intro w; go_simp; try with_reducible rfl)); (try simp only [Act.put]); (try simp only [List.setIfInBounds_toArray, List.set_cons_zero, List.set_cons_succ])
   refine wpAnyN_free 2 (v := ?_) (by kernel_rfl) rfl (fun _ _ _ h => h) hSd (by rfl) ?_ ?_; rotate_left; (focus (intro w; go_simp; try with_reducible rfl)); (try simp only [Act.put]); (try simp only [List.setIfInBounds_toArray, List.set_cons_zero, List.set_cons_succ])
   refine wpAnyN_free 3 (v := ?_) (by kernel_rfl) rfl (fun _ _ _ h => h) hSd (by rfl) ?_ ?_; rotate_left; (focus (intro w; go_simp; try with_reducible rfl)); (try simp only [Act.put]); (try simp only [List.setIfInBounds_toArray, List.set_cons_zero, List.set_cons_succ])
   refine wpAnyN_free 4 (v := ?_) (by kernel_rfl) rfl (fun _ _ _ h => h) hSd (by rfl) ?_ ?_; rotate_left; (focus (intro w; go_simp; try with_reducible rfl)); (try simp only [Act.put]); (try simp only [List.setIfInBounds_toArray, List.set_cons_zero, List.set_cons_succ])
   refine wpAnyN_take 5 (v := ?_) (by kernel_rfl) rfl (fun _ _ _ h => h) hSd (by rfl) ?_ ?_; rotate_left; (focus (intro w hSw; (try dsimp only at hSw); go_simp; try with_reducible rfl)); (try simp only [Act.put]); (try simp only [List.setIfInBounds_toArray, List.set_cons_zero, List.set_cons_succ])
   refine wpAnyN_free 6 (v := ?_) (by kernel_rfl) rfl (fun _ _ _ h => h) hSd (by rfl) ?_ ?_; rotate_left; (focus (intro w; go_simp; try with_reducible rfl)); (try simp only [Act.put]); (try simp only [List.setIfInBounds_toArray, List.set_cons_zero, List.set_cons_succ])
   refine wpAnyN_free 7 (v := ?_) (by kernel_rfl) rfl (fun _ _ _ h => h) hSd (by rfl) ?_ ?_; rotate_left; (focus (intro w; go_simp; try with_reducible rfl)); (try simp only [Act.put]); (try simp only [List.setIfInBounds_toArray, List.set_cons_zero, List.set_cons_succ])
   refine wpAnyN_free 8 (v := ?_) (by kernel_rfl) rfl (fun _ _ _ h => h) hSd (by rfl) ?_ ?_; rotate_left; (focus (intro w; go_simp; try with_reducible rfl)); (try simp only [Act.put]); (try simp only [List.setIfInBounds_toArray, List.set_cons_zero, List.set_cons_succ])
   refine wpAnyN_free 11 (v := ?_) (by kernel_rfl) rfl (fun _ _ _ h => h) hSd (by rfl) ?_ ?_; rotate_left; (focus (intro w; go_simp; try with_reducible rfl)); (try simp only [Act.put]); (try simp only [List.setIfInBounds_toArray, List.set_cons_zero, List.set_cons_succ])
   refine wpAnyN_free 12 (v := ?_) (by kernel_rfl) rfl (fun _ _ _ h => h) hSd (by rfl) ?_ ?_; rotate_left; (focus (intro w; go_simp; try with_reducible rfl)); (try simp only [Act.put]); (try simp only [List.setIfInBounds_toArray, List.set_cons_zero, List.set_cons_succ])
   refine wpAnyN_free 13 (v := ?_) (by kernel_rfl) rfl (fun _ _ _ h => h) hSd (by rfl) ?_ ?_; rotate_left; (focus (intro w; go_simp; try with_reducible rfl)); (try simp only [Act.put]); (try simp only [List.setIfInBounds_toArray, List.set_cons_zero, List.set_cons_succ])
   refine wpAnyN_take 14 (v := ?_) (by kernel_rfl) rfl (fun _ _ _ h => h) hSd (by rfl) ?_ ?_; rotate_left; (focus (intro w hSw; (try dsimp only at hSw); go_simp; try with_reducible rfl)); (try simp only [Act.put]); (try simp only [List.setIfInBounds_toArray, List.set_cons_zero, List.set_cons_succ])
   refine wpAnyN_free 15 (v := ?_) (by kernel_rfl) rfl (fun _ _ _ h => h) hSd (by rfl) ?_ ?_; rotate_left; (focus (intro w; go_simp; try with_reducible rfl)); (try simp only [Act.put]); (try simp only [List.setIfInBounds_toArray, List.set_cons_zero, List.set_cons_succ])
   have hSw := hSd
   refine wpAnyN_two 9 16 (by kernel_rfl) (by simp only [List.getElem?_toArray, List.getElem?_cons_succ, List.getElem?_cons_zero] <;> rfl) (by simp only [List.getElem?_toArray, List.getElem?_cons_succ, List.getElem?_cons_zero] <;> rfl) (by rfl) (by rfl) (fun K hK => ?brA) (fun K hK => ?brB)
   case' brA =>
    go_simp
    obtain ⟨wa, Ba, q1, q2, xwa, bwa, q3⟩ := alloc_facts wd (.cells #[.slice ya yn yc] 35)
    rw [q1, q2]
    have Qwa := Lib.hid q2
    clear q1 q2 q3
    have ya0 := x5d.trans xwa
    have sa0 := (And.intro (xwa.cell hSw.1 (fun h => h)) (xwa.cell hSw.2 (fun h => h)))
    refine hK.out _ _ sa0 (fun hSd => ?_)
    clear hK K hSd
    have hSd := sa0
    (try simp only [Act.put]); (try simp only [List.setIfInBounds_toArray, List.set_cons_zero, List.set_cons_succ])
    refine wpAnyN_two 10 16 (by kernel_rfl) (by simp only [List.getElem?_toArray, List.getElem?_cons_succ, List.getElem?_cons_zero] <;> rfl) (by simp only [List.getElem?_toArray, List.getElem?_cons_succ, List.getElem?_cons_zero] <;> rfl) (by rfl) (by rfl) (fun K hK => ?brC) (fun K hK => ?brD)
   case' brC =>
    refine wp_app _ (.tmp 92) (.tmp 96) 44 44 rfl 35 1 24 unBB elBytes _ (Hoev.out.no ya0) 1 _ (Src.one unBB Ba _ _ _ bwa rfl) (by have := HevS.out; simp only [List.length_singleton]; omega) (by decide) ?_
    intro v1 wb o1 x1 h1
    have hne1 : ¬ ((Value.slice ea el ec).ownBlock = some sg) := (fun h => (Hoev.out.no ya0).ne_blk (ya0.blk HbS5.out (fun h => h)) (by decide) sg h rfl)
    have sb0 := (And.intro (x1.cell sa0.1 hne1) (x1.cell sa0.2 hne1))
    refine hK.out _ _ sb0 (fun hSd => ?_)
    clear hK K hSd
    have hSd := sb0
    (try simp only [Act.put]); (try simp only [List.setIfInBounds_toArray, List.set_cons_zero, List.set_cons_succ])
    refine wpAnyN_one 16 (by kernel_rfl) (by simp only [List.getElem?_toArray, List.getElem?_cons_succ, List.getElem?_cons_zero] <;> rfl) (by rfl) (fun K hK => ?_)
    go_simp
    obtain ⟨wc, Bc, q1, q2, xwc, bwc, q3⟩ := alloc_facts wb (.cells #[.int .i64 ((A : Int) + ((un : Int) + 8))] 3)
    rw [q1, q2]
    have Qwc := Lib.hid q2
    clear q1 q2 q3
    have sc0 := (And.intro (xwc.cell sb0.1 (fun h => h)) (xwc.cell sb0.2 (fun h => h)))
    refine hK.out _ _ sc0 (fun hSd => ?_)
    clear hK K hSd
    have hSd := sc0
    (try simp only [Act.put]); (try simp only [List.setIfInBounds_toArray, List.set_cons_zero, List.set_cons_succ])
    refine wpAnyN_one 17 (by kernel_rfl) (by simp only [List.getElem?_toArray, List.getElem?_cons_succ, List.getElem?_cons_zero] <;> rfl) (by rfl) (fun K hK => ?_)
    have onvc := (((Honv.out.no ya0).ext x1 (own_apart (Hoev.out.no ya0) (Honv.out.no ya0) (by decide))).no xwc)
    refine wp_app _ (.tmp 101) (.tmp 103) 34 34 rfl 3 1 8 unInts' elInt _ onvc 1 _ (Src.one unInts' Bc _ _ _ bwc rfl) (by have := HnvS.out; simp only [List.length_singleton]; omega) (by decide) ?_
    intro v2 we o2 x2 h2
    have hboth : Both w5 we (.slice ea el ec) (.slice na nl nc) v1 v2 _ _ := Both.of ya0 x1 xwc x2 o1 onvc o2 h1 h2
    have hbwc := xwc.blk (x1.blk (ya0.blk HbS5.out (fun h => h)) hne1) (fun h => h)
    have hne2 : ¬ ((Value.slice na nl nc).ownBlock = some sg) := fun h => onvc.ne_blk hbwc (by decide) sg h rfl
    have se0 := (And.intro (x2.cell sc0.1 hne2) (x2.cell sc0.2 hne2))
    refine hK.out _ _ se0 (fun hSd => ?_)
    clear hK K hSd o1 o2 x1 x2 h1 h2 xwa xwc
   case' brD =>
    go_simp
    obtain ⟨wc, Bc, q1, q2, xwc, bwc, q3⟩ := alloc_facts wa (.cells #[.int .i64 ((A : Int) + ((un : Int) + 8))] 3)
    rw [q1, q2]
    have Qwc := Lib.hid q2
    clear q1 q2 q3
    have ya1 := ya0.trans xwc
    have sc0 := (And.intro ((xwa.trans xwc).cell hSw.1 (fun h => h)) ((xwa.trans xwc).cell hSw.2 (fun h => h)))
    refine hK.out _ _ sc0 (fun hSd => ?_)
    clear hK K hSd
    have hSd := sc0
    (try simp only [Act.put]); (try simp only [List.setIfInBounds_toArray, List.set_cons_zero, List.set_cons_succ])
    refine wpAnyN_one 10 (by kernel_rfl) (by simp only [List.getElem?_toArray, List.getElem?_cons_succ, List.getElem?_cons_zero] <;> rfl) (by rfl) (fun K hK => ?_)
    refine wp_app _ (.tmp 92) (.tmp 96) 44 44 rfl 35 1 24 unBB elBytes _ (Hoev.out.no ya1) 1 _ (Src.one unBB Ba _ _ _ (xwc.blk bwa (fun h => h)) rfl) (by have := HevS.out; simp only [List.length_singleton]; omega) (by decide) ?_
    intro v1 wb o1 x1 h1
    have hne1 : ¬ ((Value.slice ea el ec).ownBlock = some sg) := (fun h => (Hoev.out.no ya1).ne_blk (ya1.blk HbS5.out (fun h => h)) (by decide) sg h rfl)
    have sb0 := (And.intro (x1.cell sc0.1 hne1) (x1.cell sc0.2 hne1))
    refine hK.out _ _ sb0 (fun hSd => ?_)
    clear hK K hSd
    have hSd := sb0
    (try simp only [Act.put]); (try simp only [List.setIfInBounds_toArray, List.set_cons_zero, List.set_cons_succ])
    refine wpAnyN_one 17 (by kernel_rfl) (by simp only [List.getElem?_toArray, List.getElem?_cons_succ, List.getElem?_cons_zero] <;> rfl) (by rfl) (fun K hK => ?_)
    have onvc := ((Honv.out.no ya1).ext x1 (own_apart (Hoev.out.no ya1) (Honv.out.no ya1) (by decide)))
    have hbc2 := x1.blk bwc (fun h => by have := (Hoev.out.no ya0).lt Bc h; have := Qwc.out; omega)
    refine wp_app _ (.tmp 101) (.tmp 103) 34 34 rfl 3 1 8 unInts' elInt _ onvc 1 _ (Src.one unInts' Bc _ _ _ hbc2 rfl) (by have := HnvS.out; simp only [List.length_singleton]; omega) (by decide) ?_
    intro v2 we o2 x2 h2
    have hboth : Both w5 we (.slice ea el ec) (.slice na nl nc) v1 v2 _ _ := Both.of ya1 x1 (Ext.refl _ _) x2 o1 onvc o2 h1 h2
    have hbwc := x1.blk (ya1.blk HbS5.out (fun h => h)) hne1
    have hne2 : ¬ ((Value.slice na nl nc).ownBlock = some sg) := fun h => onvc.ne_blk hbwc (by decide) sg h rfl
    have se0 := (And.intro (x2.cell sb0.1 hne2) (x2.cell sb0.2 hne2))
    refine hK.out _ _ se0 (fun hSd => ?_)
    clear hK K hSd o1 o2 x1 x2 h1 h2 xwa xwc
   case' brB =>
    go_simp
    obtain ⟨wa, Ba, q1, q2, xwa, bwa, q3⟩ := alloc_facts wd (.cells #[.int .i64 ((A : Int) + ((un : Int) + 8))] 3)
    rw [q1, q2]
    have Qwa := Lib.hid q2
    clear q1 q2 q3
    have ya0 := x5d.trans xwa
    have sa0 := (And.intro (xwa.cell hSw.1 (fun h => h)) (xwa.cell hSw.2 (fun h => h)))
    refine hK.out _ _ sa0 (fun hSd => ?_)
    clear hK K hSd
    have hSd := sa0
    (try simp only [Act.put]); (try simp only [List.setIfInBounds_toArray, List.set_cons_zero, List.set_cons_succ])
    refine wpAnyN_one 9 (by kernel_rfl) (by simp only [List.getElem?_toArray, List.getElem?_cons_succ, List.getElem?_cons_zero] <;> rfl) (by rfl) (fun K hK => ?_)
    go_simp
    obtain ⟨wc, Bc, q1, q2, xwc, bwc, q3⟩ := alloc_facts wa (.cells #[.slice ya yn yc] 35)
    rw [q1, q2]
    have Qwc := Lib.hid q2
    clear q1 q2 q3
    have ya1 := ya0.trans xwc
    have sc0 := (And.intro ((xwa.trans xwc).cell hSw.1 (fun h => h)) ((xwa.trans xwc).cell hSw.2 (fun h => h)))
    refine hK.out _ _ sc0 (fun hSd => ?_)
    clear hK K hSd
    have hSd := sc0
    (try simp only [Act.put]); (try simp only [List.setIfInBounds_toArray, List.set_cons_zero, List.set_cons_succ])
    refine wpAnyN_one 10 (by kernel_rfl) (by simp only [List.getElem?_toArray, List.getElem?_cons_succ, List.getElem?_cons_zero] <;> rfl) (by rfl) (fun K hK => ?_)
    refine wp_app _ (.tmp 92) (.tmp 96) 44 44 rfl 35 1 24 unBB elBytes _ (Hoev.out.no ya1) 1 _ (Src.one unBB Bc _ _ _ bwc rfl) (by have := HevS.out; simp only [List.length_singleton]; omega) (by decide) ?_
    intro v1 wb o1 x1 h1
    have hne1 : ¬ ((Value.slice ea el ec).ownBlock = some sg) := (fun h => (Hoev.out.no ya1).ne_blk (ya1.blk HbS5.out (fun h => h)) (by decide) sg h rfl)
    have sb0 := (And.intro (x1.cell sc0.1 hne1) (x1.cell sc0.2 hne1))
    refine hK.out _ _ sb0 (fun hSd => ?_)
    clear hK K hSd
    have hSd := sb0
    (try simp only [Act.put]); (try simp only [List.setIfInBounds_toArray, List.set_cons_zero, List.set_cons_succ])
    refine wpAnyN_one 17 (by kernel_rfl) (by simp only [List.getElem?_toArray, List.getElem?_cons_succ, List.getElem?_cons_zero] <;> rfl) (by rfl) (fun K hK => ?_)
    have onvc := ((Honv.out.no ya1).ext x1 (own_apart (Hoev.out.no ya1) (Honv.out.no ya1) (by decide)))
    have hbc2 := x1.blk (xwc.blk bwa (fun h => h)) (fun h => by have := (Hoev.out.no x5d).lt Ba h; have := Qwa.out; omega)
    refine wp_app _ (.tmp 101) (.tmp 103) 34 34 rfl 3 1 8 unInts' elInt _ onvc 1 _ (Src.one unInts' Ba _ _ _ hbc2 rfl) (by have := HnvS.out; simp only [List.length_singleton]; omega) (by decide) ?_
    intro v2 we o2 x2 h2
    have hboth : Both w5 we (.slice ea el ec) (.slice na nl nc) v1 v2 _ _ := Both.of ya1 x1 (Ext.refl _ _) x2 o1 onvc o2 h1 h2
    have hbwc := x1.blk (ya1.blk HbS5.out (fun h => h)) hne1
    have hne2 : ¬ ((Value.slice na nl nc).ownBlock = some sg) := fun h => onvc.ne_blk hbwc (by decide) sg h rfl
    have se0 := (And.intro (x2.cell sb0.1 hne2) (x2.cell sb0.2 hne2))
    refine hK.out _ _ se0 (fun hSd => ?_)
    clear hK K hSd o1 o2 x1 x2 h1 h2 xwa xwc
   all_goals
    (try simp only [Act.put]); (try simp only [List.setIfInBounds_toArray, List.set_cons_zero, List.set_cons_succ])
    refine wpAnyN_tail (by rfl) (by decide) (by kernel_rfl) (by kernel_rfl) ?_
    simp only [List.drop_succ_cons, List.drop_zero]
    have hn1 : ¬ ((Value.slice ea el ec).ownBlock = some sg ∨ (Value.slice na nl nc).ownBlock = some sg) := fun h => h.elim (fun h => Hoev.out.ne_blk HbS5.out (by decide) sg h rfl) (fun h => Honv.out.ne_blk HbS5.out (by decide) sg h rfl)
    have hbE := hboth.x.blk HbS5.out hn1
    have f1 : we.frozen? ⟨sg, 1, none⟩ = false := frozen_of_blk hbE 1
    have f2 : we.frozen? ⟨sg, 2, none⟩ = false := frozen_of_blk hbE 2
    obtain ⟨se1, se2⟩ := se0
    have hpay : RdU we (.slice ya yn yc) e0 ∧ ∀ g, (Value.slice ya yn yc).ownBlock = some g → w2.heap.size ≤ g ∧ g < we.heap.size := by
     have hlt5 : ∀ g, (Value.slice ya yn yc).ownBlock = some g → w2.heap.size ≤ g ∧ g < w5.heap.size := fun g hg => by
      obtain ⟨cs, fr, hb⟩ := Hrdu.out.2 g hg
      have h1 := Hfp.out g (Hyb.out g hg)
      have h2 := HX.out.size
      have h3 := lt_of_blk Hb3.out
      have h4 := Hsg.out
      exact ⟨by omega, lt_of_blk hb⟩
     refine ⟨RdU.ext (F := fun _ => True) Hrdu.out hboth.x (fun g hg h => ?_), fun g hg => ⟨(hlt5 g hg).1, Nat.lt_of_lt_of_le (hlt5 g hg).2 hboth.x.size⟩⟩
     obtain ⟨cs, fr, hb⟩ := Hrdu.out.2 g hg
     exact h.elim (fun h => Hoev.out.ne_blk hb (by decide) g h rfl) (fun h => Honv.out.ne_blk hb (by decide) g h rfl)
    have hrowsE : Rows3 we (fun g => w2.heap.size ≤ g ∧ g < we.heap.size) (xs ++ [.slice ya yn yc]) (p.es.take (j + 1)) := by
     rw [take_succ_some He0.out]
     refine Rows3.append ?_ (.cons hpay.1 hpay.2 .nil)
     have h1 := (Hrows.out.ext Hx5.out (fun _ _ _ _ _ h => h)).ext hboth.x (fun g _ cs fr hb h => h.elim (fun h => Hoev.out.ne_blk hb (by decide) g h rfl) (fun h => Honv.out.ne_blk hb (by decide) g h rfl))
     exact h1.mono (fun g hg => ⟨hg.1, by have := Hx5.out.size; have := hboth.x.size; omega⟩)
    have HrowsE := Lib.hid hrowsE
    have Hboth := Lib.hid hboth
    have HbE := Lib.hid hbE
    obtain ⟨a1, m1, k1, rfl, _⟩ := hboth.o1.rd
    obtain ⟨a2, m2, k2, rfl, _⟩ := hboth.o2.rd
    clear hrowsE hboth hbE hpay hn1
    go_wp2_with fail
    have xS : Ext (fun b => b = sg) we ((we.setCell ⟨sg, 1, none⟩ (.slice a1 m1 k1)).setCell ⟨sg, 2, none⟩ (.slice a2 m2 k2)) := ((Ext.refl (fun b => b = sg) we).setCell (p := ⟨sg, 1, none⟩) (.inl rfl) _).setCell (p := ⟨sg, 2, none⟩) (.inl rfl) _
    have kS := blk_setCell (blk_setCell HbE.out 1 (.slice a1 m1 k1)) 2 (.slice a2 m2 k2)
    generalize ((we.setCell ⟨sg, 1, none⟩ (.slice a1 m1 k1)).setCell ⟨sg, 2, none⟩ (.slice a2 m2 k2)) = wF at xS kS ⊢
    have hboth := Hboth.out
    have hevE := HevS.out.1
    have hnvE := HnvS.out.1
    have s5 := Hx5.out.size
    have sX := HX.out.size
    have hAl : (A : Int) + ((un : Int) + 8) = (((segBytes m (p.es.take (j + 1))).length : Nat) : Int) := by rw [HA.out.2, Hun.out.1]; omega
    have ho2 : Own wF 3 1 (.slice a2 m2 k2) (natsV (segEnds m 0 (p.es.take (j + 1)))) := by
     rw [Hends.out, natsV_append, HnvS.out.2.2.2]
     have := hboth.o2
     rw [hAl] at this
     exact this.ext xS (fun g hg h => this.ne_blk HbE.out (by decide) g hg h.symm)
    refine ⟨⟨j + 1, _, _, _, by rw [hAl], by have := Hlt.out; omega, Lib.hid kS, Lib.hid (hboth.o1.ext xS (fun g hg h => hboth.o1.ne_blk HbE.out (by decide) g hg h.symm)), Lib.hid ho2, Lib.hid ?_, Lib.hid ?_, Lib.hid ?_, Lib.hid ?_⟩, ?_⟩
    ·have := HrowsE.out.ext xS (fun g _ cs fr hb h => absurd (blk_cells_inj hb (h ▸ HbE.out)) (by decide))
     exact this.mono (fun g hg => ⟨hg.1, Nat.lt_of_lt_of_le hg.2 xS.size⟩)
    ·intro g hg
     rcases hboth.h1 g hg with h | h
     ·exact Hfe.out g (by rw [hevE]; exact h)
     ·omega
    ·intro g hg
     rcases hboth.h2 g hg with h | h
     ·exact Hfn.out g (by rw [hnvE]; exact h)
     ·omega
    ·refine ((HX.out.nextNo Hx5.out).next hboth.x (fun g hg hl => ?_)).next xS (fun b h _ => h)
     rcases hg with h | h
     ·have := Hfe.out g (by rw [hevE]; exact h); omega
     ·have := Hfn.out g (by rw [hnvE]; exact h); omega
    ·show bn - ((A : Int) + ((un : Int) + 8)).toNat < bn - ((A : Int)).toNat
     omega
  ·obtain rfl : j = p.es.length := by omega
   rw [List.take_length] at *
   have hnlt : ¬ (((segBytes m p.es).length : Nat) : Int) < (bn : Int) := by rw [hbnE]; omega
   rw [← hbnE] at *
   have hbS := HbS.out
   have HbnE := Lib.hid (And.intro hbnE hbn30)
   clear hbnE hbn30 hlt hj
   have hx2r : Ext NoB w wr := (Hx3.out.of_no (F := NoB)).next HX.out (fun b h hl => by have := Hsg.out; have := Hx2.out.size; omega)
   have hbL := hx2r.blk HL.out.blk (fun h => h)
   have hbLx := hbL
   rw [Hsv.out] at hbLx
   have cL2 : wr.cell? ⟨L, 2, none⟩ = some (.slice sa sn sc) := by rw [cell_of_blk hbLx]; rfl
   obtain ⟨pl, hpl⟩ : ∃ pl, rs.map RSeg.ptr = pl := ⟨_, rfl⟩
   have hpln : pl.length = sn := by rw [← hpl]; exact Hsn.out.1
   have hsn100 : sn < 100 := by
    have h1 := HL.out.chain.count
    have h2 := Hsn.out.1
    have h3 := HL.out.m100
    rw [List.length_map] at h1 h2
    have := Hm1.out; have := Hp.out.2.2; omega
   have onsv : Own wr 140 1 (.slice sa sn sc) pl := by
    have := HL.out.segs.no hx2r
    rw [hpl, Hsv.out] at this
    exact this
   have Honsv := Lib.hid onsv
   have HbL := Lib.hid hbL
   have HbS' := Lib.hid hbS
   have Hx2r := Lib.hid hx2r
   have Hpl := Lib.hid (And.intro hpl (And.intro hpln hsn100))
   clear onsv hbL hbLx hbS hx2r hpl hpln hsn100 hq1 hpos
   go_wp2_with (at_builtin; refine wpList_app1 _ rfl (.tmp 138) (.tmp 140) 132 rfl 140 8 unSegs elSeg Honsv.out rfl rfl rfl (by rw [Hpl.out.2.1]; have := Hpl.out.2.2; omega) (by decide) ?_; intro vs w8 os x8 h8; refine halt2 (fun _K HK => ?_))
   obtain ⟨sa2, m2, sc2, rfl, hsl, hsn2, hsc2, _⟩ := os.rd
   have hsvL : Off (fun b => b = L) (.slice sa sn sc) := fun g hg h => Honsv.out.ne_blk HbL.out (by decide) g hg h.symm
   have hsvS : Off (fun b => b = sg) (.slice sa sn sc) := fun g hg h => Honsv.out.ne_blk HbS'.out (by decide) g hg h.symm
   have bL8 := x8.blk HbL.out (fun h => hsvL _ h rfl)
   have bS8 := x8.blk HbS'.out (fun h => hsvS _ h rfl)
   have cL2 : w8.cell? ⟨L, 2, none⟩ = some sv := by rw [cell_of_blk bL8]; rfl
   have fL2 : w8.frozen? ⟨L, 2, none⟩ = false := frozen_of_blk bL8 2
   have hLs : L ≠ sg := fun e => by have := blk_cells_inj bL8 (e ▸ bS8); exact absurd this (by decide)
   have hsL : sg ≠ L := Ne.symm hLs
   have Hos := Lib.hid os
   have Hh8 := Lib.hid h8
   have Hx8 := Lib.hid x8
   have HbL8 := Lib.hid bL8
   have HbS8 := Lib.hid bS8
   clear os h8 x8 bL8 bS8 hsl hsn2 hsc2
   refine HK.out ?_; clear HK _K
   go_wp2_with fail
   have bL9 := blk_setCell HbL8.out 2 (.slice sa2 m2 sc2)
   have bS9 := blk_setCell_ne HbS8.out (p := ⟨L, 2, none⟩) hsL (.slice sa2 m2 sc2)
   have xS9 : Ext (fun b => b = L) w8 (w8.setCell ⟨L, 2, none⟩ (.slice sa2 m2 sc2)) := (Ext.refl (fun b => b = L) w8).setCell (p := ⟨L, 2, none⟩) (.inl rfl) _
   generalize (w8.setCell ⟨L, 2, none⟩ (.slice sa2 m2 sc2)) = w9 at bL9 bS9 xS9 ⊢
   have x8n : ∀ e {s : Nat} {v : Value} {ys : List Value}, e ≠ 140 → Own wr e s v ys → Own w8 e s v ys := fun e s v ys he ho => ho.ext Hx8.out (own_apart Honsv.out ho (Ne.symm he))
   have oe8 := x8n 35 (by decide) Hev.out
   have on8 := x8n 3 (by decide) Hnv.out
   have oe9 := oe8.ext xS9 (fun g hg h => oe8.ne_blk HbL8.out (by decide) g hg h.symm)
   have on9 := on8.ext xS9 (fun g hg h => on8.ne_blk HbL8.out (by decide) g hg h.symm)
   have hr9 : Rows3 w9 (fun g => w2.heap.size ≤ g ∧ g < wr.heap.size) xs p.es := (Hrows.out.ext Hx8.out (fun g _ cs fr hb h => Honsv.out.ne_blk hb (by decide) g h rfl)).ext xS9 (fun g _ cs fr hb h => absurd (blk_cells_inj hb (h ▸ HbL8.out)) (by decide))
   have hseg : SegAt w9 (fun _ => True) ⟨sg, ⟨m, p.es⟩, ev, nv, xs, true⟩ := ⟨bS9, trivial, oe9, fun _ _ => trivial, on9, fun _ _ => trivial, hr9.mono (fun _ _ => trivial)⟩
   have hnext := next_any (fun _ => True) _ w9 hseg (by show m + p.es.length ≤ 100; exact Hp.out.2.2)
   replace hnext : Calls Tryz.prog 101 #[.pointer (some ⟨sg, 0, none⟩)] w9 fun e w' => e = .returned (.int .i64 (m + p.es.length : Nat)) ∧ Ext NoB w9 w' := hnext
   have Hnext := Lib.hid hnext
   have Ho9 := Lib.hid (And.intro oe9 on9)
   have Hr9 := Lib.hid hr9
   have HbL9 := Lib.hid bL9
   have HbS9 := Lib.hid bS9
   have HxS9 := Lib.hid xS9
   clear hnext hseg hr9 oe9 on9 oe8 on8 x8n bL9 bS9 xS9
   refine Hnext.out.mono ?_; rintro _ w10 ⟨rfl, x10⟩
   have bL10 := x10.blk HbL9.out (fun h => h)
   have cL3 : w10.cell? ⟨L, 3, none⟩ = some (.int .i64 m) := by rw [cell_of_blk bL10]; rfl
   have fL3 : w10.frozen? ⟨L, 3, none⟩ = false := frozen_of_blk bL10 3
   obtain ⟨mn, hmn⟩ : ∃ mn, m + p.es.length = mn := ⟨_, rfl⟩
   rw [hmn]
   have Hmn := Lib.hid hmn
   have HbL10 := Lib.hid bL10
   clear bL10 hmn
   go_wp2_with fail
   go_ret
   have xS : Ext (fun b => b = L) w10 (w10.setCell ⟨L, 3, none⟩ (.int .i64 (mn : Nat))) := (Ext.refl (fun b => b = L) w10).setCell (p := ⟨L, 3, none⟩) (.inl rfl) _
   have kL := blk_setCell HbL10.out 3 (.int .i64 (mn : Nat))
   have kS := blk_setCell_ne (x10.blk HbS9.out (fun h => h)) (p := ⟨L, 3, none⟩) hsL (.int .i64 (mn : Nat))
   generalize (w10.setCell ⟨L, 3, none⟩ (.int .i64 (mn : Nat))) = wF at xS kL kS ⊢
   have x9F : Ext (fun b => b = L) w9 wF := (x10.of_no).trans xS
   have xF : Ext (fun b => sv.ownBlock = some b ∨ b = L) w wF := by
    rw [Hsv.out]
    exact (((Hx2r.out.of_no).trans (Hx8.out.mono (fun _ _ h => .inl h))).trans (HxS9.out.mono (fun _ _ h => .inr h))).trans (x9F.mono (fun _ _ h => .inr h))
   have hsz1 := Hx2.out.size
   have hsz2 := Hx3.out.size
   have hsz3 := HX.out.size
   have hsz4 := Hx8.out.size
   have hsz5 := HxS9.out.size
   have hsz6 := x9F.size
   have hsgv := Hsg.out
   obtain ⟨oe9, on9⟩ := Ho9.out
   have hos9 := Hos.out.ext HxS9.out (fun g hg h => Hos.out.ne_blk HbL8.out (by decide) g hg h.symm)
   have hjoin := HL.out.joined (p := p) (sv' := .slice sa2 m2 sc2) (xs := xs) (ev' := ev) (nv' := nv) (dirty := true) (sg := sg) xF (by omega) (by rw [Hmn.out]; exact kL)
    (by rw [Hpl.out.1]; exact hos9.ext x9F (fun g hg h => hos9.ne_blk HbL9.out (by decide) g hg h.symm))
    (fun g hg => by
     rw [Hsv.out]
     rcases Hh8.out with h | ⟨g', h, h'⟩
     ·exact .inl (h ▸ hg)
     ·rw [h] at hg; cases hg; exact .inr (by omega))
    kS (oe9.ext x9F (fun g hg h => oe9.ne_blk HbL9.out (by decide) g hg h.symm)) (fun g hg => by have := Hfe.out g hg; omega)
    (by
     have := on9.ext x9F (fun g hg h => on9.ne_blk HbL9.out (by decide) g hg h.symm)
     unfold PSeg.ends
     rw [Hp.out.1]
     exact this) (fun g hg => by have := Hfn.out g hg; omega)
    ((Hr9.out.ext x9F (fun g _ cs fr hb h => absurd (blk_cells_inj hb (h ▸ HbL9.out)) (by decide))).mono (fun g hg => ⟨by omega, by omega⟩)) Hp.out.1 Hp.out.2.1 Hp.out.2.2 Hb30.out
   exact ⟨rfl, xF.mono (fun b _ h => h.elim (fun h => HL.out.segsF b h) (fun h => h ▸ HL.out.self)), _, _, hjoin, rfl⟩
end Go.Proofs.YtgglbholbkdgfaaGreatDoor
namespace Go.Proofs.YtgglbholbkdgfaaGreatDoor
open Go.RowKit
set_option maxRecDepth 100000 in
set_option maxHeartbeats 8000000 in
theorem read_first (L d : Nat) (FD FL : Nat → Prop) (D : PDisk) (sv : Value) (rs : List RSeg) (m : Nat) (p : PSeg) (f : PFile) (w : World) (hL : LogAt w L d FL logPre sv rs m) (hd : DiskIs w d FD D) (hf : fsGet D.files (segName logPre m) = some f)
  (hfd : f.data = p.bytes) (hpf : p.first = m) (hne : p.es ≠ []) (hm : m + p.es.length ≤ 100) (hes : ∀ e ∈ p.es, e.length ≤ 1048566) (hrs : rs = []) (hb30 : p.bytes.length ≤ 1073741824) :
  Calls Tryz.prog 74 #[.pointer (some ⟨L, 0, none⟩), .int .i64 m] w fun e w' => e = .returned (.bool true) ∧ Ext FL w w' ∧ ∃ sv' r, LogAt w' L d (Gr FL w w') logPre sv' (rs ++ [r]) (m + p.es.length) ∧ r.p = p := by
 have hpl := List.length_pos_iff.2 hne
 have hm1 : 1 ≤ m := (hL.chain.le).1
 obtain ⟨sa, sc, hsv, hsn, hsc⟩ := Rd.shape hL.segs.rd
 obtain ⟨sn, hsnn⟩ : ∃ sn, (rs.map RSeg.ptr).length = sn := ⟨_, rfl⟩
 have hpos : ¬ ((0 : Int) < (sn : Int)) := by rw [← hsnn, List.length_map, hrs]; simp
 rw [hsnn] at hsv hsn
 have c2 : w.cell? ⟨L, 2, none⟩ = some (.slice sa sn sc) := by rw [cell_of_blk hL.blk, ← hsv]; rfl
 have c3 : w.cell? ⟨L, 3, none⟩ = some (.int .i64 m) := by rw [cell_of_blk hL.blk]; rfl
 have c0 : w.cell? ⟨L, 0, none⟩ = some (.pointer (some ⟨d, 0, none⟩)) := by rw [cell_of_blk hL.blk]; rfl
 have hname := Lib.hid (fun (w' : World) (x : Ext NoB w w') => name_any L logPre m w' (by omega) (by decide) (x.cell (by rw [cell_of_blk hL.blk]; rfl) (fun h => h)))
 have hread := Lib.hid (fun (w' : World) (x : Ext NoB w w') => Read_some d FD D (segName logPre m) w' (hd.no x) f hf)
 have hq1 : ¬ ((m : Int) < 1) := by omega
 have HL := Lib.hid hL
 have Hfd := Lib.hid hfd
 have Hp := Lib.hid (And.intro hpf (And.intro hne hm))
 have Hes := Lib.hid hes
 have Hsv := Lib.hid hsv
 have Hb30 := Lib.hid hb30
 have Hsn := Lib.hid (And.intro hsnn (And.intro hsn hsc))
 have Hm1 := Lib.hid (And.intro hm1 hpl)
 have hzs := fun (w : World) => (show (zeroValue 139).run Tryz.prog w = .ok (.agg #[.int .i64 0, .slice none 0 0, .slice none 0 0, .bool false]) w by kernel_rfl)
 clear hL hd hf hfd hpf hne hm hes hsv hsnn hsn hsc hrs hm1 hpl hb30
 go_enter Tryz.func74, Tryz.ntmps74
 go_wp2_with fail
 refine (hname.out w (Ext.refl _ _)).mono ?_; rintro e w1 ⟨rfl, x1⟩
 have d0 := x1.cell c0 (fun h => h)
 have d2 := x1.cell c2 (fun h => h)
 have d3 := x1.cell c3 (fun h => h)
 have Hx1 := Lib.hid x1
 clear c0 c2 c3 x1
 go_wp2_with fail
 refine (hread.out w1 Hx1.out).mono ?_; rintro e w2 ⟨vb, rfl, ob, fb, x2⟩
 rw [Hfd.out] at ob
 obtain ⟨ba, bc, rfl, hbn, hbc⟩ := RdB.shape (l := p.bytes) ob.rd
 obtain ⟨bn, hbnn⟩ : ∃ bn, p.bytes.length = bn := ⟨_, rfl⟩
 rw [hbnn] at ob hbn ⊢
 have Hob := Lib.hid ob
 have Hfb := Lib.hid fb
 have Hbn := Lib.hid (And.intro hbnn (And.intro hbn hbc))
 have Hx2 := Lib.hid (Hx1.out.trans x2)
 clear ob fb x2 d0 d2 d3 hbn hbc hbnn
 go_wp2_with fail
 obtain ⟨w3, sg, e1, e2, x3, b3, hs3⟩ := alloc_facts w2 (.cells #[.int .i64 m, .slice none 0 0, .slice none 0 0, .bool true] 139)
 rw [e1, e2]
 have Hx3 := Lib.hid (Hx2.out.trans x3)
 have Hsg : Hid (sg = w2.heap.size) := Lib.hid (by omega)
 have Hb3 := Lib.hid b3
 have Ho3 := Lib.hid (Hob.out.no x3)
 clear e1 e2 x3 b3 hs3
 go_wp2_with fail
 go_loopw [9] (fun v wr => ∃ j ev nv xs, v = .int .i64 ((segBytes m (p.es.take j)).length : Nat) ∧ j ≤ p.es.length ∧ Hid (wr.heap[sg]? = some (.cells #[.int .i64 m, ev, nv, .bool true] 139 (0, 0))) ∧
  Hid (Own wr 35 1 ev xs) ∧ Hid (Own wr 3 1 nv (natsV (segEnds m 0 (p.es.take j)))) ∧ Hid (Rows3 wr (fun g => w2.heap.size ≤ g ∧ g < wr.heap.size) xs (p.es.take j)) ∧ Hid (Fresh w3 ev) ∧ Hid (Fresh w3 nv) ∧ Hid (Ext (fun b => b = sg) w3 wr)) (fun v _ => bn - (intOf v).toNat)
 case atStart => exact ⟨0, _, _, [], rfl, by omega, Hb3, Lib.hid (Own.nil _ _ _), Lib.hid (Own.nil _ _ _), Lib.hid .nil, Lib.hid (Fresh.nil _ _ _), Lib.hid (Fresh.nil _ _ _), Lib.hid (Ext.refl _ _)⟩
 case round =>
  obtain ⟨j, ev, nv, xs, rfl, hj, HbS, Hev, Hnv, Hrows, Hfe, Hfn, HX⟩ := hrel
  have hbnE : bn = (segBytes m p.es).length := by rw [← Hbn.out.1]; unfold PSeg.bytes; rw [Hp.out.1]
  have hbn30 : bn ≤ 1073741824 := by rw [← Hbn.out.1]; exact Hb30.out
  have hw3r := HX.out.size
  by_cases hlt : j < p.es.length
  ·obtain ⟨e0, he0⟩ : ∃ e, p.es[j]? = some e := ⟨_, List.getElem?_eq_getElem hlt⟩
   have hel := Hes.out e0 (List.mem_of_getElem? he0)
   have hsplit := segBytes_drop (n := m) he0
   have htake := segBytes_take (n := m) he0
   have hends := segEnds_take (n := m) he0
   obtain ⟨ul, hul⟩ : ∃ ul, uv (m + j) ++ e0 = ul := ⟨_, rfl⟩
   rw [hul] at hsplit htake
   obtain ⟨rest, hrest⟩ : ∃ rest, segBytes (m + j + 1) (p.es.drop (j + 1)) = rest := ⟨_, rfl⟩
   rw [hrest] at hsplit
   obtain ⟨A, hA⟩ : ∃ A, (segBytes m (p.es.take j)).length = A := ⟨_, rfl⟩
   have huvl := uv_length (m + j)
   have hull : ul.length ≤ 1048576 := by rw [← hul, List.length_append]; omega
   have hlen : bn = A + (ul.length + 8 + rest.length) := by rw [hbnE, hsplit, List.length_append, List.length_append, enc_length, hA]
   have hA2 : (segBytes m (p.es.take (j + 1))).length = A + (ul.length + 8) := by rw [htake, List.length_append, enc_length, hA]
   have hdrop : p.bytes.drop A = enc ul ++ rest := by
    unfold PSeg.bytes
    rw [Hp.out.1, hsplit, ← hA, List.drop_left]
   have hlt1 : (A : Int) < (bn : Int) := by omega
   have hsub := fun (w : World) => run_sub_l (P := Tryz.prog) w 35 5 unBytes szByte ba bn bc .i64 (A : Int) (by omega) (by omega)
   have hrb : RdB wr (.slice ba bn bc) p.bytes := ((Ho3.out.ext HX.out (fun g hg h => Ho3.out.ne_blk Hb3.out (by decide) g hg h.symm))).rd
   have hrs : RdB wr (.slice (subA ba A bc) (bn - A) (bc - A)) (enc ul ++ rest) := by
    have := RdB.drop (l := p.bytes) (by rw [Hbn.out.1]; exact hrb) A (by rw [Hbn.out.1]; omega) (by rw [Hbn.out.1]; exact Hbn.out.2.1)
    rw [hdrop, Hbn.out.1] at this
    exact this
   have hdecl : (enc ul ++ rest).length < 1000000000000 := by rw [List.length_append, enc_length]; omega
   have hdec := Decode_any _ _ wr hrs hdecl
   unfold DecEnds at hdec
   rw [dec_enc_app ul rest hull] at hdec
   have hAn : ((A : Int)).toNat = A := by omega
   rw [hAn] at hsub
   obtain ⟨xa, hxa⟩ : ∃ xa, subA ba A bc = xa := ⟨_, rfl⟩
   obtain ⟨xn, hxn⟩ : ∃ xn, bn - A = xn := ⟨_, rfl⟩
   obtain ⟨xc, hxc⟩ : ∃ xc, bc - A = xc := ⟨_, rfl⟩
   rw [hxa, hxn, hxc] at hsub hdec
   rw [hA]
   have hmj : m + j ≤ 100 := by have := Hp.out.2.2; omega
   have Hdec := Lib.hid hdec
   have HA := Lib.hid (And.intro hA hA2)
   have Hul := Lib.hid (And.intro hul hull)
   have He0 := Lib.hid he0
   have Hends := Lib.hid hends
   have Hlen := Lib.hid hlen
   have Hlt := Lib.hid hlt
   have Hmj := Lib.hid hmj
   have HbnE := Lib.hid (And.intro hbnE hbn30)
   clear hsplit htake hrest hdrop hrb hrs hdecl hdec hA hA2 hul hull he0 hends hlen hlt hel huvl hxa hxn hxc hbnE hbn30 hmj
   go_wp2_with fail
   refine Hdec.out.mono ?_; rintro _ w4 ⟨vp, rfl, op, fp, x4⟩
   obtain ⟨pa, pc, rfl, hpn, hpc⟩ := RdB.shape (l := ul) op.rd
   obtain ⟨un, hun⟩ : ∃ un, ul.length = un := ⟨_, rfl⟩
   rw [hun] at op hpn ⊢
   have hread := ReadUvarint_any _ ul w4 op.rd (by have := Hul.out.2; omega)
   rw [← Hul.out.1, ruv_uv (m + j) e0 (by have := Hmj.out; omega)] at hread
   unfold ruvV at hread
   dsimp only at hread
   rw [show (((0 : Nat) : Int)) = 0 from rfl] at hread
   obtain ⟨kk, hkk⟩ : ∃ kk, (uv (m + j)).length = kk := ⟨_, rfl⟩
   rw [hkk] at hread
   have Hread := Lib.hid hread
   have Hop := Lib.hid op
   have Hfp := Lib.hid fp
   have Hun := Lib.hid (And.intro hun (And.intro hpn (And.intro hpc hkk)))
   have Hx4 := Lib.hid x4
   clear hread op fp hun hpn hpc hkk x4
   go_wp2_with fail
   refine Hread.out.mono ?_; rintro _ w5 ⟨rfl, rfl⟩
   have hseg : SegAt w4 (fun _ => True) ⟨sg, ⟨m, p.es.take j⟩, ev, nv, xs, true⟩ := ⟨Hx4.out.blk HbS.out (fun h => h), trivial, Hev.out.no Hx4.out, fun _ _ => trivial, Hnv.out.no Hx4.out, fun _ _ => trivial, (Hrows.out.ext Hx4.out (fun _ _ _ _ _ h => h)).mono (fun _ _ => trivial)⟩
   have hnx : PSeg.next ⟨m, p.es.take j⟩ = m + j := by unfold PSeg.next; rw [List.length_take]; have := Hlt.out; show m + _ = _; omega
   have hnext := next_any (fun _ => True) _ w4 hseg (by show PSeg.next ⟨m, p.es.take j⟩ ≤ 100; rw [hnx]; exact Hmj.out)
   replace hnext : Calls Tryz.prog 101 #[.pointer (some ⟨sg, 0, none⟩)] w4 fun e w' => e = .returned (.int .i64 (m + j : Nat)) ∧ Ext NoB w4 w' := by rw [← hnx]; exact hnext
   have hwn : IntKind.u64.wrap ((m + j : Nat) : Int) = ((m + j : Nat) : Int) := by rw [IntKind.wrap_u64]; have := Hmj.out; omega
   obtain ⟨q, hq⟩ : ∃ q, m + j = q := ⟨_, rfl⟩
   rw [hq] at hnext hwn ⊢
   have Hnext := Lib.hid hnext
   have Hq := Lib.hid hq
   clear hseg hnx hnext hq
   go_wp2_with fail
   refine Hnext.out.mono ?_; rintro _ w5 ⟨rfl, x5⟩
   have Hx5 := Lib.hid (Hx4.out.trans x5)
   have Hop5 := Lib.hid (Hop.out.no x5)
   have hadd : IntKind.i64.wrap ((A : Int) + ((un : Int) + 8)) = (A : Int) + ((un : Int) + 8) := IntWalk.i64_in _ (by have := Hlen.out; have := HbnE.out; have := Hun.out.1; omega)
   clear x5
   go_wp2_with fail
   have hbS5 := Hx5.out.blk HbS.out (fun h => h)
   have oev := Hev.out.no Hx5.out
   have onv := Hnv.out.no Hx5.out
   obtain ⟨ea, ec, hevS, hen, hec⟩ := Rd.shape oev.rd
   obtain ⟨na, nc, hnvS, hnn, hnc⟩ := Rd.shape onv.rd
   have hxsl : xs.length ≤ 100 := by rw [Hrows.out.length, List.length_take]; have := Hmj.out; have := Hlt.out; have := Hq.out; omega
   obtain ⟨ys, hys⟩ : ∃ ys, natsV (segEnds m 0 (p.es.take j)) = ys := ⟨_, rfl⟩
   have hysl : ys.length ≤ 100 := by rw [← hys]; unfold natsV; rw [List.length_map, segEnds_length, List.length_take]; have := Hmj.out; have := Hlt.out; have := Hq.out; omega
   rw [hys] at hnvS onv
   obtain ⟨el, hel⟩ : ∃ el, xs.length = el := ⟨_, rfl⟩
   obtain ⟨nl, hnl⟩ : ∃ nl, ys.length = nl := ⟨_, rfl⟩
   rw [hel] at hevS
   rw [hnl] at hnvS
   have hbSx := hbS5
   rw [hevS, hnvS] at hbSx
   have c1 : w5.cell? ⟨sg, 1, none⟩ = some (.slice ea el ec) := by rw [cell_of_blk hbSx]; rfl
   have c2 : w5.cell? ⟨sg, 2, none⟩ = some (.slice na nl nc) := by rw [cell_of_blk hbSx]; rfl
   have hkn : kk ≤ un := by have h1 := Hun.out.1; have h2 := Hun.out.2.2.2; have h3 := congrArg List.length Hul.out.1; rw [List.length_append] at h3; omega
   have hsub2 := fun (w : World) => run_sub_l (P := Tryz.prog) w 35 5 unBytes szByte pa un pc .i64 (kk : Int) (by omega) (by omega)
   have hkkn : ((kk : Int)).toNat = kk := by omega
   rw [hkkn] at hsub2
   have hrdu : RdU w5 (.slice (subA pa kk pc) (un - kk) (pc - kk)) e0 := by
    have := RdU.drop (RdU.of_own Hop5.out) Hun.out.1.symm kk (by rw [Hun.out.1]; exact hkn) (by rw [Hun.out.1]; exact Hun.out.2.1)
    have hdr : ul.drop kk = e0 := by
     have hkq : (uv q).length = kk := by rw [← Hq.out]; exact Hun.out.2.2.2
     rw [← Hul.out.1, Hq.out, ← hkq, List.drop_left]
    rwa [hdr] at this
   obtain ⟨ya, hya⟩ : ∃ ya, subA pa kk pc = ya := ⟨_, rfl⟩
   obtain ⟨yn, hyn⟩ : ∃ yn, un - kk = yn := ⟨_, rfl⟩
   obtain ⟨yc, hyc⟩ : ∃ yc, pc - kk = yc := ⟨_, rfl⟩
   have hyb : ∀ g, (Value.slice ya yn yc).ownBlock = some g → (Value.slice pa ul.length pc).ownBlock = some g := by rw [← hya]; exact sub_block
   rw [hya, hyn, hyc] at hsub2 hrdu
   have Hrdu := Lib.hid hrdu
   have Hyb := Lib.hid hyb
   have HevS := Lib.hid (And.intro hevS (And.intro hel (And.intro hxsl hen)))
   have HnvS := Lib.hid (And.intro hnvS (And.intro hnl (And.intro hysl hys)))
   have HbS5 := Lib.hid hbS5
   have oev' : Own w5 35 1 (.slice ea el ec) xs := by rw [← hevS]; exact oev
   have onv' : Own w5 3 1 (.slice na nl nc) ys := by rw [← hnvS]; exact onv
   have Hoev := Lib.hid oev'
   have Honv := Lib.hid onv'
   have Hhsub := Lib.hid hsub2
   clear hrdu hyb hevS hnvS hel hnl hxsl hysl hys hen hnn hbS5 hbSx oev onv oev' onv' hya hyn hyc hkn hkkn
   refine wp_region_N (fun w' => w'.cell? ⟨sg, 1, none⟩ = some (.slice ea el ec) ∧ w'.cell? ⟨sg, 2, none⟩ = some (.slice na nl nc)) 18 (by kernel_rfl) ?_
   have hSd : w5.drew.cell? ⟨sg, 1, none⟩ = some (.slice ea el ec) ∧ w5.drew.cell? ⟨sg, 2, none⟩ = some (.slice na nl nc) := ⟨c1, c2⟩
   have x5d : Ext NoB w5 w5.drew := (Ext.refl _ w5).drew
   generalize w5.drew = wd at hSd x5d ⊢
   refine wpAnyN_free 0 (v := ?_) (by kernel_rfl) rfl (fun _ _ _ h => h) hSd (by rfl) ?_ ?_; rotate_left; (focus (intro w; go_simp; try with_reducible rfl)); (try simp only [Act.put]); (try simp only [List.setIfInBounds_toArray, List.set_cons_zero, List.set_cons_succ])
   refine wpAnyN_free 1 (v := ?_) (by kernel_rfl) rfl (fun _ _ _ h => h) hSd (by rfl) ?_ ?_; rotate_left; (focus (intro w; go_simp; try with_reducible rfl)); (try simp only [Act.put]); (try simp only [List.setIfInBounds_toArray, List.set_cons_zero, List.set_cons_succ])
   refine wpAnyN_free 2 (v := ?_) (by kernel_rfl) rfl (fun _ _ _ h => h) hSd (by rfl) ?_ ?_; rotate_left; (focus (intro w; go_simp; try with_reducible rfl)); (try simp only [Act.put]); (try simp only [List.setIfInBounds_toArray, List.set_cons_zero, List.set_cons_succ])
   refine wpAnyN_free 3 (v := ?_) (by kernel_rfl) rfl (fun _ _ _ h => h) hSd (by rfl) ?_ ?_; rotate_left; (focus (intro w; go_simp; try with_reducible rfl)); (try simp only [Act.put]); (try simp only [List.setIfInBounds_toArray, List.set_cons_zero, List.set_cons_succ])
   refine wpAnyN_free 4 (v := ?_) (by kernel_rfl) rfl (fun _ _ _ h => h) hSd (by rfl) ?_ ?_; rotate_left; (focus (intro w; go_simp; try with_reducible rfl)); (try simp only [Act.put]); (try simp only [List.setIfInBounds_toArray, List.set_cons_zero, List.set_cons_succ])
   refine wpAnyN_take 5 (v := ?_) (by kernel_rfl) rfl (fun _ _ _ h => h) hSd (by rfl) ?_ ?_; rotate_left; (focus (intro w hSw; (try dsimp only at hSw); go_simp; try with_reducible rfl)); (try simp only [Act.put]); (try simp only [List.setIfInBounds_toArray, List.set_cons_zero, List.set_cons_succ])
   refine wpAnyN_free 6 (v := ?_) (by kernel_rfl) rfl (fun _ _ _ h => h) hSd (by rfl) ?_ ?_; rotate_left; (focus (intro w; go_simp; try with_reducible rfl)); (try simp only [Act.put]); (try simp only [List.setIfInBounds_toArray, List.set_cons_zero, List.set_cons_succ])
   refine wpAnyN_free 7 (v := ?_) (by kernel_rfl) rfl (fun _ _ _ h => h) hSd (by rfl) ?_ ?_; rotate_left; (focus (intro w; go_simp; try with_reducible rfl)); (try simp only [Act.put]); (try simp only [List.setIfInBounds_toArray, List.set_cons_zero, List.set_cons_succ])
   refine wpAnyN_free 8 (v := ?_) (by kernel_rfl) rfl (fun _ _ _ h => h) hSd (by rfl) ?_ ?_; rotate_left; (focus (intro w; go_simp; try with_reducible rfl)); (try simp only [Act.put]); (try simp only [List.setIfInBounds_toArray, List.set_cons_zero, List.set_cons_succ])
   refine wpAnyN_free 11 (v := ?_) (by kernel_rfl) rfl (fun _ _ _ h => h) hSd (by rfl) ?_ ?_; rotate_left; (focus (intro w; go_simp; try with_reducible rfl)); (try simp only [Act.put]); (try simp only [List.setIfInBounds_toArray, List.set_cons_zero, List.set_cons_succ])
   refine wpAnyN_free 12 (v := ?_) (by kernel_rfl) rfl (fun _ _ _ h => h) hSd (by rfl) ?_ ?_; rotate_left; (focus (intro w; go_simp; try with_reducible rfl)); (try simp only [Act.put]); (try simp only [List.setIfInBounds_toArray, List.set_cons_zero, List.set_cons_succ])
   refine wpAnyN_free 13 (v := ?_) (by kernel_rfl) rfl (fun _ _ _ h => h) hSd (by rfl) ?_ ?_; rotate_left; (focus (intro w; go_simp; try with_reducible rfl)); (try simp only [Act.put]); (try simp only [List.setIfInBounds_toArray, List.set_cons_zero, List.set_cons_succ])
   refine wpAnyN_take 14 (v := ?_) (by kernel_rfl) rfl (fun _ _ _ h => h) hSd (by rfl) ?_ ?_; rotate_left; (focus (intro w hSw; (try dsimp only at hSw); go_simp; try with_reducible rfl)); (try simp only [Act.put]); (try simp only [List.setIfInBounds_toArray, List.set_cons_zero, List.set_cons_succ])
   refine wpAnyN_free 15 (v := ?_) (by kernel_rfl) rfl (fun _ _ _ h => h) hSd (by rfl) ?_ ?_; rotate_left; (focus (intro w; go_simp; try with_reducible rfl)); (try simp only [Act.put]); (try simp only [List.setIfInBounds_toArray, List.set_cons_zero, List.set_cons_succ])
   have hSw := hSd
   refine wpAnyN_two 9 16 (by kernel_rfl) (by simp only [List.getElem?_toArray, List.getElem?_cons_succ, List.getElem?_cons_zero] <;> rfl) (by simp only [List.getElem?_toArray, List.getElem?_cons_succ, List.getElem?_cons_zero] <;> rfl) (by rfl) (by rfl) (fun K hK => ?brA) (fun K hK => ?brB)
   case' brA =>
    go_simp
    obtain ⟨wa, Ba, q1, q2, xwa, bwa, q3⟩ := alloc_facts wd (.cells #[.slice ya yn yc] 35)
    rw [q1, q2]
    have Qwa := Lib.hid q2
    clear q1 q2 q3
    have ya0 := x5d.trans xwa
    have sa0 := (And.intro (xwa.cell hSw.1 (fun h => h)) (xwa.cell hSw.2 (fun h => h)))
    refine hK.out _ _ sa0 (fun hSd => ?_)
    clear hK K hSd
    have hSd := sa0
    (try simp only [Act.put]); (try simp only [List.setIfInBounds_toArray, List.set_cons_zero, List.set_cons_succ])
    refine wpAnyN_two 10 16 (by kernel_rfl) (by simp only [List.getElem?_toArray, List.getElem?_cons_succ, List.getElem?_cons_zero] <;> rfl) (by simp only [List.getElem?_toArray, List.getElem?_cons_succ, List.getElem?_cons_zero] <;> rfl) (by rfl) (by rfl) (fun K hK => ?brC) (fun K hK => ?brD)
   case' brC =>
    refine wp_app _ (.tmp 92) (.tmp 96) 44 44 rfl 35 1 24 unBB elBytes _ (Hoev.out.no ya0) 1 _ (Src.one unBB Ba _ _ _ bwa rfl) (by have := HevS.out; simp only [List.length_singleton]; omega) (by decide) ?_
    intro v1 wb o1 x1 h1
    have hne1 : ¬ ((Value.slice ea el ec).ownBlock = some sg) := (fun h => (Hoev.out.no ya0).ne_blk (ya0.blk HbS5.out (fun h => h)) (by decide) sg h rfl)
    have sb0 := (And.intro (x1.cell sa0.1 hne1) (x1.cell sa0.2 hne1))
    refine hK.out _ _ sb0 (fun hSd => ?_)
    clear hK K hSd
    have hSd := sb0
    (try simp only [Act.put]); (try simp only [List.setIfInBounds_toArray, List.set_cons_zero, List.set_cons_succ])
    refine wpAnyN_one 16 (by kernel_rfl) (by simp only [List.getElem?_toArray, List.getElem?_cons_succ, List.getElem?_cons_zero] <;> rfl) (by rfl) (fun K hK => ?_)
    go_simp
    obtain ⟨wc, Bc, q1, q2, xwc, bwc, q3⟩ := alloc_facts wb (.cells #[.int .i64 ((A : Int) + ((un : Int) + 8))] 3)
    rw [q1, q2]
    have Qwc := Lib.hid q2
    clear q1 q2 q3
    have sc0 := (And.intro (xwc.cell sb0.1 (fun h => h)) (xwc.cell sb0.2 (fun h => h)))
    refine hK.out _ _ sc0 (fun hSd => ?_)
    clear hK K hSd
    have hSd := sc0
    (try simp only [Act.put]); (try simp only [List.setIfInBounds_toArray, List.set_cons_zero, List.set_cons_succ])
    refine wpAnyN_one 17 (by kernel_rfl) (by simp only [List.getElem?_toArray, List.getElem?_cons_succ, List.getElem?_cons_zero] <;> rfl) (by rfl) (fun K hK => ?_)
    have onvc := (((Honv.out.no ya0).ext x1 (own_apart (Hoev.out.no ya0) (Honv.out.no ya0) (by decide))).no xwc)
    refine wp_app _ (.tmp 101) (.tmp 103) 34 34 rfl 3 1 8 unInts' elInt _ onvc 1 _ (Src.one unInts' Bc _ _ _ bwc rfl) (by have := HnvS.out; simp only [List.length_singleton]; omega) (by decide) ?_
    intro v2 we o2 x2 h2
    have hboth : Both w5 we (.slice ea el ec) (.slice na nl nc) v1 v2 _ _ := Both.of ya0 x1 xwc x2 o1 onvc o2 h1 h2
    have hbwc := xwc.blk (x1.blk (ya0.blk HbS5.out (fun h => h)) hne1) (fun h => h)
    have hne2 : ¬ ((Value.slice na nl nc).ownBlock = some sg) := fun h => onvc.ne_blk hbwc (by decide) sg h rfl
    have se0 := (And.intro (x2.cell sc0.1 hne2) (x2.cell sc0.2 hne2))
    refine hK.out _ _ se0 (fun hSd => ?_)
    clear hK K hSd o1 o2 x1 x2 h1 h2 xwa xwc
   case' brD =>
    go_simp
    obtain ⟨wc, Bc, q1, q2, xwc, bwc, q3⟩ := alloc_facts wa (.cells #[.int .i64 ((A : Int) + ((un : Int) + 8))] 3)
    rw [q1, q2]
    have Qwc := Lib.hid q2
    clear q1 q2 q3
    have ya1 := ya0.trans xwc
    have sc0 := (And.intro ((xwa.trans xwc).cell hSw.1 (fun h => h)) ((xwa.trans xwc).cell hSw.2 (fun h => h)))
    refine hK.out _ _ sc0 (fun hSd => ?_)
    clear hK K hSd
    have hSd := sc0
    (try simp only [Act.put]); (try simp only [List.setIfInBounds_toArray, List.set_cons_zero, List.set_cons_succ])
    refine wpAnyN_one 10 (by kernel_rfl) (by simp only [List.getElem?_toArray, List.getElem?_cons_succ, List.getElem?_cons_zero] <;> rfl) (by rfl) (fun K hK => ?_)
    refine wp_app _ (.tmp 92) (.tmp 96) 44 44 rfl 35 1 24 unBB elBytes _ (Hoev.out.no ya1) 1 _ (Src.one unBB Ba _ _ _ (xwc.blk bwa (fun h => h)) rfl) (by have := HevS.out; simp only [List.length_singleton]; omega) (by decide) ?_
    intro v1 wb o1 x1 h1
    have hne1 : ¬ ((Value.slice ea el ec).ownBlock = some sg) := (fun h => (Hoev.out.no ya1).ne_blk (ya1.blk HbS5.out (fun h => h)) (by decide) sg h rfl)
    have sb0 := (And.intro (x1.cell sc0.1 hne1) (x1.cell sc0.2 hne1))
    refine hK.out _ _ sb0 (fun hSd => ?_)
    clear hK K hSd
    have hSd := sb0
    (try simp only [Act.put]); (try simp only [List.setIfInBounds_toArray, List.set_cons_zero, List.set_cons_succ])
    refine wpAnyN_one 17 (by kernel_rfl) (by simp only [List.getElem?_toArray, List.getElem?_cons_succ, List.getElem?_cons_zero] <;> rfl) (by rfl) (fun K hK => ?_)
    have onvc := ((Honv.out.no ya1).ext x1 (own_apart (Hoev.out.no ya1) (Honv.out.no ya1) (by decide)))
    have hbc2 := x1.blk bwc (fun h => by have := (Hoev.out.no ya0).lt Bc h; have := Qwc.out; omega)
    refine wp_app _ (.tmp 101) (.tmp 103) 34 34 rfl 3 1 8 unInts' elInt _ onvc 1 _ (Src.one unInts' Bc _ _ _ hbc2 rfl) (by have := HnvS.out; simp only [List.length_singleton]; omega) (by decide) ?_
    intro v2 we o2 x2 h2
    have hboth : Both w5 we (.slice ea el ec) (.slice na nl nc) v1 v2 _ _ := Both.of ya1 x1 (Ext.refl _ _) x2 o1 onvc o2 h1 h2
    have hbwc := x1.blk (ya1.blk HbS5.out (fun h => h)) hne1
    have hne2 : ¬ ((Value.slice na nl nc).ownBlock = some sg) := fun h => onvc.ne_blk hbwc (by decide) sg h rfl
    have se0 := (And.intro (x2.cell sb0.1 hne2) (x2.cell sb0.2 hne2))
    refine hK.out _ _ se0 (fun hSd => ?_)
    clear hK K hSd o1 o2 x1 x2 h1 h2 xwa xwc
   case' brB =>
    go_simp
    obtain ⟨wa, Ba, q1, q2, xwa, bwa, q3⟩ := alloc_facts wd (.cells #[.int .i64 ((A : Int) + ((un : Int) + 8))] 3)
    rw [q1, q2]
    have Qwa := Lib.hid q2
    clear q1 q2 q3
    have ya0 := x5d.trans xwa
    have sa0 := (And.intro (xwa.cell hSw.1 (fun h => h)) (xwa.cell hSw.2 (fun h => h)))
    refine hK.out _ _ sa0 (fun hSd => ?_)
    clear hK K hSd
    have hSd := sa0
    (try simp only [Act.put]); (try simp only [List.setIfInBounds_toArray, List.set_cons_zero, List.set_cons_succ])
    refine wpAnyN_one 9 (by kernel_rfl) (by simp only [List.getElem?_toArray, List.getElem?_cons_succ, List.getElem?_cons_zero] <;> rfl) (by rfl) (fun K hK => ?_)
    go_simp
    obtain ⟨wc, Bc, q1, q2, xwc, bwc, q3⟩ := alloc_facts wa (.cells #[.slice ya yn yc] 35)
    rw [q1, q2]
    have Qwc := Lib.hid q2
    clear q1 q2 q3
    have ya1 := ya0.trans xwc
    have sc0 := (And.intro ((xwa.trans xwc).cell hSw.1 (fun h => h)) ((xwa.trans xwc).cell hSw.2 (fun h => h)))
    refine hK.out _ _ sc0 (fun hSd => ?_)
    clear hK K hSd
    have hSd := sc0
    (try simp only [Act.put]); (try simp only [List.setIfInBounds_toArray, List.set_cons_zero, List.set_cons_succ])
    refine wpAnyN_one 10 (by kernel_rfl) (by simp only [List.getElem?_toArray, List.getElem?_cons_succ, List.getElem?_cons_zero] <;> rfl) (by rfl) (fun K hK => ?_)
    refine wp_app _ (.tmp 92) (.tmp 96) 44 44 rfl 35 1 24 unBB elBytes _ (Hoev.out.no ya1) 1 _ (Src.one unBB Bc _ _ _ bwc rfl) (by have := HevS.out; simp only [List.length_singleton]; omega) (by decide) ?_
    intro v1 wb o1 x1 h1
    have hne1 : ¬ ((Value.slice ea el ec).ownBlock = some sg) := (fun h => (Hoev.out.no ya1).ne_blk (ya1.blk HbS5.out (fun h => h)) (by decide) sg h rfl)
    have sb0 := (And.intro (x1.cell sc0.1 hne1) (x1.cell sc0.2 hne1))
    refine hK.out _ _ sb0 (fun hSd => ?_)
    clear hK K hSd
    have hSd := sb0
    (try simp only [Act.put]); (try simp only [List.setIfInBounds_toArray, List.set_cons_zero, List.set_cons_succ])
    refine wpAnyN_one 17 (by kernel_rfl) (by simp only [List.getElem?_toArray, List.getElem?_cons_succ, List.getElem?_cons_zero] <;> rfl) (by rfl) (fun K hK => ?_)
    have onvc := ((Honv.out.no ya1).ext x1 (own_apart (Hoev.out.no ya1) (Honv.out.no ya1) (by decide)))
    have hbc2 := x1.blk (xwc.blk bwa (fun h => h)) (fun h => by have := (Hoev.out.no x5d).lt Ba h; have := Qwa.out; omega)
    refine wp_app _ (.tmp 101) (.tmp 103) 34 34 rfl 3 1 8 unInts' elInt _ onvc 1 _ (Src.one unInts' Ba _ _ _ hbc2 rfl) (by have := HnvS.out; simp only [List.length_singleton]; omega) (by decide) ?_
    intro v2 we o2 x2 h2
    have hboth : Both w5 we (.slice ea el ec) (.slice na nl nc) v1 v2 _ _ := Both.of ya1 x1 (Ext.refl _ _) x2 o1 onvc o2 h1 h2
    have hbwc := x1.blk (ya1.blk HbS5.out (fun h => h)) hne1
    have hne2 : ¬ ((Value.slice na nl nc).ownBlock = some sg) := fun h => onvc.ne_blk hbwc (by decide) sg h rfl
    have se0 := (And.intro (x2.cell sb0.1 hne2) (x2.cell sb0.2 hne2))
    refine hK.out _ _ se0 (fun hSd => ?_)
    clear hK K hSd o1 o2 x1 x2 h1 h2 xwa xwc
   all_goals
    (try simp only [Act.put]); (try simp only [List.setIfInBounds_toArray, List.set_cons_zero, List.set_cons_succ])
    refine wpAnyN_tail (by rfl) (by decide) (by kernel_rfl) (by kernel_rfl) ?_
    simp only [List.drop_succ_cons, List.drop_zero]
    have hn1 : ¬ ((Value.slice ea el ec).ownBlock = some sg ∨ (Value.slice na nl nc).ownBlock = some sg) := fun h => h.elim (fun h => Hoev.out.ne_blk HbS5.out (by decide) sg h rfl) (fun h => Honv.out.ne_blk HbS5.out (by decide) sg h rfl)
    have hbE := hboth.x.blk HbS5.out hn1
    have f1 : we.frozen? ⟨sg, 1, none⟩ = false := frozen_of_blk hbE 1
    have f2 : we.frozen? ⟨sg, 2, none⟩ = false := frozen_of_blk hbE 2
    obtain ⟨se1, se2⟩ := se0
    have hpay : RdU we (.slice ya yn yc) e0 ∧ ∀ g, (Value.slice ya yn yc).ownBlock = some g → w2.heap.size ≤ g ∧ g < we.heap.size := by
     have hlt5 : ∀ g, (Value.slice ya yn yc).ownBlock = some g → w2.heap.size ≤ g ∧ g < w5.heap.size := fun g hg => by
      obtain ⟨cs, fr, hb⟩ := Hrdu.out.2 g hg
      have h1 := Hfp.out g (Hyb.out g hg)
      have h2 := HX.out.size
      have h3 := lt_of_blk Hb3.out
      have h4 := Hsg.out
      exact ⟨by omega, lt_of_blk hb⟩
     refine ⟨RdU.ext (F := fun _ => True) Hrdu.out hboth.x (fun g hg h => ?_), fun g hg => ⟨(hlt5 g hg).1, Nat.lt_of_lt_of_le (hlt5 g hg).2 hboth.x.size⟩⟩
     obtain ⟨cs, fr, hb⟩ := Hrdu.out.2 g hg
     exact h.elim (fun h => Hoev.out.ne_blk hb (by decide) g h rfl) (fun h => Honv.out.ne_blk hb (by decide) g h rfl)
    have hrowsE : Rows3 we (fun g => w2.heap.size ≤ g ∧ g < we.heap.size) (xs ++ [.slice ya yn yc]) (p.es.take (j + 1)) := by
     rw [take_succ_some He0.out]
     refine Rows3.append ?_ (.cons hpay.1 hpay.2 .nil)
     have h1 := (Hrows.out.ext Hx5.out (fun _ _ _ _ _ h => h)).ext hboth.x (fun g _ cs fr hb h => h.elim (fun h => Hoev.out.ne_blk hb (by decide) g h rfl) (fun h => Honv.out.ne_blk hb (by decide) g h rfl))
     exact h1.mono (fun g hg => ⟨hg.1, by have := Hx5.out.size; have := hboth.x.size; omega⟩)
    have HrowsE := Lib.hid hrowsE
    have Hboth := Lib.hid hboth
    have HbE := Lib.hid hbE
    obtain ⟨a1, m1, k1, rfl, _⟩ := hboth.o1.rd
    obtain ⟨a2, m2, k2, rfl, _⟩ := hboth.o2.rd
    clear hrowsE hboth hbE hpay hn1
    go_wp2_with fail
    have xS : Ext (fun b => b = sg) we ((we.setCell ⟨sg, 1, none⟩ (.slice a1 m1 k1)).setCell ⟨sg, 2, none⟩ (.slice a2 m2 k2)) := ((Ext.refl (fun b => b = sg) we).setCell (p := ⟨sg, 1, none⟩) (.inl rfl) _).setCell (p := ⟨sg, 2, none⟩) (.inl rfl) _
    have kS := blk_setCell (blk_setCell HbE.out 1 (.slice a1 m1 k1)) 2 (.slice a2 m2 k2)
    generalize ((we.setCell ⟨sg, 1, none⟩ (.slice a1 m1 k1)).setCell ⟨sg, 2, none⟩ (.slice a2 m2 k2)) = wF at xS kS ⊢
    have hboth := Hboth.out
    have hevE := HevS.out.1
    have hnvE := HnvS.out.1
    have s5 := Hx5.out.size
    have sX := HX.out.size
    have hAl : (A : Int) + ((un : Int) + 8) = (((segBytes m (p.es.take (j + 1))).length : Nat) : Int) := by rw [HA.out.2, Hun.out.1]; omega
    have ho2 : Own wF 3 1 (.slice a2 m2 k2) (natsV (segEnds m 0 (p.es.take (j + 1)))) := by
     rw [Hends.out, natsV_append, HnvS.out.2.2.2]
     have := hboth.o2
     rw [hAl] at this
     exact this.ext xS (fun g hg h => this.ne_blk HbE.out (by decide) g hg h.symm)
    refine ⟨⟨j + 1, _, _, _, by rw [hAl], by have := Hlt.out; omega, Lib.hid kS, Lib.hid (hboth.o1.ext xS (fun g hg h => hboth.o1.ne_blk HbE.out (by decide) g hg h.symm)), Lib.hid ho2, Lib.hid ?_, Lib.hid ?_, Lib.hid ?_, Lib.hid ?_⟩, ?_⟩
    ·have := HrowsE.out.ext xS (fun g _ cs fr hb h => absurd (blk_cells_inj hb (h ▸ HbE.out)) (by decide))
     exact this.mono (fun g hg => ⟨hg.1, Nat.lt_of_lt_of_le hg.2 xS.size⟩)
    ·intro g hg
     rcases hboth.h1 g hg with h | h
     ·exact Hfe.out g (by rw [hevE]; exact h)
     ·omega
    ·intro g hg
     rcases hboth.h2 g hg with h | h
     ·exact Hfn.out g (by rw [hnvE]; exact h)
     ·omega
    ·refine ((HX.out.nextNo Hx5.out).next hboth.x (fun g hg hl => ?_)).next xS (fun b h _ => h)
     rcases hg with h | h
     ·have := Hfe.out g (by rw [hevE]; exact h); omega
     ·have := Hfn.out g (by rw [hnvE]; exact h); omega
    ·show bn - ((A : Int) + ((un : Int) + 8)).toNat < bn - ((A : Int)).toNat
     omega
  ·obtain rfl : j = p.es.length := by omega
   rw [List.take_length] at *
   have hnlt : ¬ (((segBytes m p.es).length : Nat) : Int) < (bn : Int) := by rw [hbnE]; omega
   rw [← hbnE] at *
   have hbS := HbS.out
   have HbnE := Lib.hid (And.intro hbnE hbn30)
   clear hbnE hbn30 hlt hj
   have hx2r : Ext NoB w wr := (Hx3.out.of_no (F := NoB)).next HX.out (fun b h hl => by have := Hsg.out; have := Hx2.out.size; omega)
   have hbL := hx2r.blk HL.out.blk (fun h => h)
   have hbLx := hbL
   rw [Hsv.out] at hbLx
   have cL2 : wr.cell? ⟨L, 2, none⟩ = some (.slice sa sn sc) := by rw [cell_of_blk hbLx]; rfl
   obtain ⟨pl, hpl⟩ : ∃ pl, rs.map RSeg.ptr = pl := ⟨_, rfl⟩
   have hpln : pl.length = sn := by rw [← hpl]; exact Hsn.out.1
   have hsn100 : sn < 100 := by
    have h1 := HL.out.chain.count
    have h2 := Hsn.out.1
    have h3 := HL.out.m100
    rw [List.length_map] at h1 h2
    have := Hm1.out; have := Hp.out.2.2; omega
   have onsv : Own wr 140 1 (.slice sa sn sc) pl := by
    have := HL.out.segs.no hx2r
    rw [hpl, Hsv.out] at this
    exact this
   have Honsv := Lib.hid onsv
   have HbL := Lib.hid hbL
   have HbS' := Lib.hid hbS
   have Hx2r := Lib.hid hx2r
   have Hpl := Lib.hid (And.intro hpl (And.intro hpln hsn100))
   clear onsv hbL hbLx hbS hx2r hpl hpln hsn100 hq1 hpos
   go_wp2_with (at_builtin; refine wpList_app1 _ rfl (.tmp 138) (.tmp 140) 132 rfl 140 8 unSegs elSeg Honsv.out rfl rfl rfl (by rw [Hpl.out.2.1]; have := Hpl.out.2.2; omega) (by decide) ?_; intro vs w8 os x8 h8; refine halt2 (fun _K HK => ?_))
   obtain ⟨sa2, m2, sc2, rfl, hsl, hsn2, hsc2, _⟩ := os.rd
   have hsvL : Off (fun b => b = L) (.slice sa sn sc) := fun g hg h => Honsv.out.ne_blk HbL.out (by decide) g hg h.symm
   have hsvS : Off (fun b => b = sg) (.slice sa sn sc) := fun g hg h => Honsv.out.ne_blk HbS'.out (by decide) g hg h.symm
   have bL8 := x8.blk HbL.out (fun h => hsvL _ h rfl)
   have bS8 := x8.blk HbS'.out (fun h => hsvS _ h rfl)
   have cL2 : w8.cell? ⟨L, 2, none⟩ = some sv := by rw [cell_of_blk bL8]; rfl
   have fL2 : w8.frozen? ⟨L, 2, none⟩ = false := frozen_of_blk bL8 2
   have hLs : L ≠ sg := fun e => by have := blk_cells_inj bL8 (e ▸ bS8); exact absurd this (by decide)
   have hsL : sg ≠ L := Ne.symm hLs
   have Hos := Lib.hid os
   have Hh8 := Lib.hid h8
   have Hx8 := Lib.hid x8
   have HbL8 := Lib.hid bL8
   have HbS8 := Lib.hid bS8
   clear os h8 x8 bL8 bS8 hsl hsn2 hsc2
   refine HK.out ?_; clear HK _K
   go_wp2_with fail
   have bL9 := blk_setCell HbL8.out 2 (.slice sa2 m2 sc2)
   have bS9 := blk_setCell_ne HbS8.out (p := ⟨L, 2, none⟩) hsL (.slice sa2 m2 sc2)
   have xS9 : Ext (fun b => b = L) w8 (w8.setCell ⟨L, 2, none⟩ (.slice sa2 m2 sc2)) := (Ext.refl (fun b => b = L) w8).setCell (p := ⟨L, 2, none⟩) (.inl rfl) _
   generalize (w8.setCell ⟨L, 2, none⟩ (.slice sa2 m2 sc2)) = w9 at bL9 bS9 xS9 ⊢
   have x8n : ∀ e {s : Nat} {v : Value} {ys : List Value}, e ≠ 140 → Own wr e s v ys → Own w8 e s v ys := fun e s v ys he ho => ho.ext Hx8.out (own_apart Honsv.out ho (Ne.symm he))
   have oe8 := x8n 35 (by decide) Hev.out
   have on8 := x8n 3 (by decide) Hnv.out
   have oe9 := oe8.ext xS9 (fun g hg h => oe8.ne_blk HbL8.out (by decide) g hg h.symm)
   have on9 := on8.ext xS9 (fun g hg h => on8.ne_blk HbL8.out (by decide) g hg h.symm)
   have hr9 : Rows3 w9 (fun g => w2.heap.size ≤ g ∧ g < wr.heap.size) xs p.es := (Hrows.out.ext Hx8.out (fun g _ cs fr hb h => Honsv.out.ne_blk hb (by decide) g h rfl)).ext xS9 (fun g _ cs fr hb h => absurd (blk_cells_inj hb (h ▸ HbL8.out)) (by decide))
   have hseg : SegAt w9 (fun _ => True) ⟨sg, ⟨m, p.es⟩, ev, nv, xs, true⟩ := ⟨bS9, trivial, oe9, fun _ _ => trivial, on9, fun _ _ => trivial, hr9.mono (fun _ _ => trivial)⟩
   have hnext := next_any (fun _ => True) _ w9 hseg (by show m + p.es.length ≤ 100; exact Hp.out.2.2)
   replace hnext : Calls Tryz.prog 101 #[.pointer (some ⟨sg, 0, none⟩)] w9 fun e w' => e = .returned (.int .i64 (m + p.es.length : Nat)) ∧ Ext NoB w9 w' := hnext
   have Hnext := Lib.hid hnext
   have Ho9 := Lib.hid (And.intro oe9 on9)
   have Hr9 := Lib.hid hr9
   have HbL9 := Lib.hid bL9
   have HbS9 := Lib.hid bS9
   have HxS9 := Lib.hid xS9
   clear hnext hseg hr9 oe9 on9 oe8 on8 x8n bL9 bS9 xS9
   refine Hnext.out.mono ?_; rintro _ w10 ⟨rfl, x10⟩
   have bL10 := x10.blk HbL9.out (fun h => h)
   have cL3 : w10.cell? ⟨L, 3, none⟩ = some (.int .i64 m) := by rw [cell_of_blk bL10]; rfl
   have fL3 : w10.frozen? ⟨L, 3, none⟩ = false := frozen_of_blk bL10 3
   obtain ⟨mn, hmn⟩ : ∃ mn, m + p.es.length = mn := ⟨_, rfl⟩
   rw [hmn]
   have Hmn := Lib.hid hmn
   have HbL10 := Lib.hid bL10
   clear bL10 hmn
   go_wp2_with fail
   go_ret
   have xS : Ext (fun b => b = L) w10 (w10.setCell ⟨L, 3, none⟩ (.int .i64 (mn : Nat))) := (Ext.refl (fun b => b = L) w10).setCell (p := ⟨L, 3, none⟩) (.inl rfl) _
   have kL := blk_setCell HbL10.out 3 (.int .i64 (mn : Nat))
   have kS := blk_setCell_ne (x10.blk HbS9.out (fun h => h)) (p := ⟨L, 3, none⟩) hsL (.int .i64 (mn : Nat))
   generalize (w10.setCell ⟨L, 3, none⟩ (.int .i64 (mn : Nat))) = wF at xS kL kS ⊢
   have x9F : Ext (fun b => b = L) w9 wF := (x10.of_no).trans xS
   have xF : Ext (fun b => sv.ownBlock = some b ∨ b = L) w wF := by
    rw [Hsv.out]
    exact (((Hx2r.out.of_no).trans (Hx8.out.mono (fun _ _ h => .inl h))).trans (HxS9.out.mono (fun _ _ h => .inr h))).trans (x9F.mono (fun _ _ h => .inr h))
   have hsz1 := Hx2.out.size
   have hsz2 := Hx3.out.size
   have hsz3 := HX.out.size
   have hsz4 := Hx8.out.size
   have hsz5 := HxS9.out.size
   have hsz6 := x9F.size
   have hsgv := Hsg.out
   obtain ⟨oe9, on9⟩ := Ho9.out
   have hos9 := Hos.out.ext HxS9.out (fun g hg h => Hos.out.ne_blk HbL8.out (by decide) g hg h.symm)
   have hjoin := HL.out.joined (p := p) (sv' := .slice sa2 m2 sc2) (xs := xs) (ev' := ev) (nv' := nv) (dirty := true) (sg := sg) xF (by omega) (by rw [Hmn.out]; exact kL)
    (by rw [Hpl.out.1]; exact hos9.ext x9F (fun g hg h => hos9.ne_blk HbL9.out (by decide) g hg h.symm))
    (fun g hg => by
     rw [Hsv.out]
     rcases Hh8.out with h | ⟨g', h, h'⟩
     ·exact .inl (h ▸ hg)
     ·rw [h] at hg; cases hg; exact .inr (by omega))
    kS (oe9.ext x9F (fun g hg h => oe9.ne_blk HbL9.out (by decide) g hg h.symm)) (fun g hg => by have := Hfe.out g hg; omega)
    (by
     have := on9.ext x9F (fun g hg h => on9.ne_blk HbL9.out (by decide) g hg h.symm)
     unfold PSeg.ends
     rw [Hp.out.1]
     exact this) (fun g hg => by have := Hfn.out g hg; omega)
    ((Hr9.out.ext x9F (fun g _ cs fr hb h => absurd (blk_cells_inj hb (h ▸ HbL9.out)) (by decide))).mono (fun g hg => ⟨by omega, by omega⟩)) Hp.out.1 Hp.out.2.1 Hp.out.2.2 Hb30.out
   exact ⟨rfl, xF.mono (fun b _ h => h.elim (fun h => HL.out.segsF b h) (fun h => h ▸ HL.out.self)), _, _, hjoin, rfl⟩
end Go.Proofs.YtgglbholbkdgfaaGreatDoor
namespace Go.Proofs.YtgglbholbkdgfaaGreatDoor
open Go.RowKit
theorem Chain.det : ∀ {n : Nat} {ps : List PSeg} {m m' : Nat}, Chain n ps m → Chain n ps m' → m = m'
 | n, [], m, m', h, h' => by have h1 : n = m := h; have h2 : n = m' := h'; omega
 | n, p :: ps, m, m', h, h' => Chain.det h.2.2 h'.2.2
theorem Chain.at : ∀ {n : Nat} {ps : List PSeg} {m i mi : Nat} {p : PSeg}, Chain n ps m → Chain n (ps.take i) mi → ps[i]? = some p → p.first = mi ∧ p.es ≠ [] ∧ mi + p.es.length ≤ m
 | n, q :: ps, m, 0, mi, p, h, h', hp => by
  have h1 : n = mi := h'
  obtain rfl : q = p := by simpa using hp
  exact ⟨h.1.trans h1, h.2.1, by have := h.2.2.le.1; omega⟩
 | n, q :: ps, m, i + 1, mi, p, h, h', hp => Chain.at h.2.2 h'.2.2 (by simpa using hp)
theorem mem_used {fs : Files} {p : ByteArray × PFile} (h : p ∈ fs) : p.2.data.length ≤ usedL fs := by
 unfold usedL
 induction fs with
 | nil => cases h
 | cons x fs ih =>
  simp only [List.map_cons, List.sum_cons]
  cases h with
  | head => omega
  | tail _ h => have := ih h; omega
theorem DiskIs.small {w : World} {d : Nat} {F : Nat → Prop} {D : PDisk} (h : DiskIs w d F D) : usedL D.files ≤ 1073741824 := by
 obtain ⟨mo, rs, h1, h2⟩ := h
 rw [h2]
 exact Nat.le_trans h1.fits h1.room30
theorem encSeg (n : Nat) (hn : n < 100) : encStr ([108, 111, 103, 46] ++ segBy n) = .string (segName logPre n) := by
 rw [← segName_bytes n hn]
def OpenEnds (d : Nat) (ps : List PSeg) (m : Nat) (w : World) (e : Ending) (w' : World) : Prop :=
 ∃ L FL sv rs, e = .returned (.tuple #[.pointer (some ⟨L, 0, none⟩), .int .i64 0]) ∧ LogAt w' L d FL logPre sv rs m ∧ rs.map (·.p) = ps ∧ (∀ b, FL b → w.heap.size ≤ b) ∧ Ext NoB w w'
set_option maxRecDepth 100000 in
set_option maxHeartbeats 8000000 in
theorem LogOpen_any (d : Nat) (F : Nat → Prop) (D : PDisk) (tf : Option (Nat × Int)) (ps : List PSeg) (m : Nat) (w : World) (hd : DiskIs w d F D) (hp : D.files.Perm (canon tf ps)) (hc : Chain 1 ps m) (hm : m ≤ 100) (hes : ∀ p ∈ ps, ∀ e ∈ p.es, e.length ≤ 1048566) :
  Calls Tryz.prog 38 #[.pointer (some ⟨d, 0, none⟩), .string logPre] w (OpenEnds d ps m w) := by
 have hlist := Lib.hid (fun (w' : World) (x : Ext NoB w w') => List_any d F D w' (hd.no x))
 have hzs := fun (w : World) => (show (zeroValue 134).run Tryz.prog w = .ok (.agg #[.pointer none, .string { data := #[] }, .slice none 0 0, .int .i64 0]) w by kernel_rfl)
 have hsm := hd.small
 have hcnt := hc.count
 have HD := Lib.hid hd
 have Hp := Lib.hid hp
 have Hc := Lib.hid hc
 have Hes := Lib.hid hes
 have Hsm := Lib.hid hsm
 clear hd hp hc hes hsm
 go_enter Tryz.func38, Tryz.ntmps38
 go_wp2_with fail
 obtain ⟨w1, L, e1, e2, x1, b1, hs1⟩ := alloc_facts w (.cells #[.pointer (some ⟨d, 0, none⟩), .string logPre, .slice none 0 0, .int .i64 1] 134)
 rw [e1, e2]
 refine (hlist.out w1 x1).mono ?_; rintro e w2 ⟨v, rfl, o2, f2, x2⟩
 rw [names_canon Hp.out Hc.out hm] at o2
 obtain ⟨nms, hnms⟩ : ∃ nms, (canonNames tf ps).map encStr = nms := ⟨_, rfl⟩
 rw [hnms] at o2
 obtain ⟨va, nn, vc, rfl, hln, hnc, hcm, _, hr⟩ := o2.rd
 rw [Nat.mul_one] at hln
 have hcell : ∀ (i : Nat) (u : Value), nms[i]? = some u → ∃ vb off, va = some ⟨vb, off, none⟩ ∧ w2.cell? ⟨vb, off + i, none⟩ = some u := fun i u hu => by
  obtain ⟨vb, off, h1, h2⟩ := hr (by rintro rfl; cases hu)
  exact ⟨vb, off, h1, h2 i u hu⟩
 have hnl : nms.length = ps.length + (if tf.isSome then 1 else 0) := by
  rw [← hnms]
  unfold canonNames
  rw [List.length_map, List.length_append, List.length_map]
  split <;> rfl
 have hnn : nn ≤ 102 := by rw [← hln, hnl]; split <;> omega
 have hL2 : LogAt w2 L d (fun b => b = L) logPre (.slice none 0 0) [] 1 := by
  have b2 := x2.blk b1 (fun h => h)
  refine ⟨b2, rfl, Own.nil _ _ _, fun g hg => by (cases hg), by simp, by simp, rfl, fun b hb => ?_, by omega, by simp, by decide⟩
  subst hb
  exact lt_of_blk b2
 have hvL : ∀ g, (Value.slice va nn vc).ownBlock = some g → g ≠ L := fun g hg h => by have := f2 g hg; have := lt_of_blk b1; omega
 have HL2 := Lib.hid hL2
 have Hcell := Lib.hid hcell
 have Hx2 := Lib.hid (x1.trans x2)
 have HvL := Lib.hid hvL
 have Hnms := Lib.hid hnms
 have HLw : Hid (w.heap.size = L) := Lib.hid e2
 clear o2 f2 hr hcell hL2 x2 b1 e1 e2 hs1 x1 hvL hnms
 go_wp2_with fail
 go_loopw [7, 31] (fun g i wr => ∃ (k : Nat) (FLi : Nat → Prop) (sv : Value) (rs : List RSeg) (mi : Nat), i = .int .i64 (k : Int) ∧ g = .bool true ∧ k ≤ nn ∧ Hid (LogAt wr L d FLi logPre sv rs mi) ∧ Hid (rs.map (·.p) = ps.take k) ∧
  Hid (∀ b, FLi b → b = L ∨ w2.heap.size ≤ b) ∧ Hid (Ext (fun b => b = L) w2 wr)) (fun _ i _ => nn - (intOf i).toNat)
 case atStart => exact ⟨0, _, _, [], 1, rfl, rfl, by omega, HL2, Lib.hid rfl, Lib.hid (fun b hb => .inl hb), Lib.hid (Ext.refl _ _)⟩
 case round =>
  obtain ⟨k, FLi, sv, rs, mi, rfl, rfl, hk, HL, Hrs, HF, HX⟩ := hrel
  by_cases hlt : k < nn
  ·obtain ⟨u, hu⟩ : ∃ u, nms[k]? = some u := ⟨_, List.getElem?_eq_getElem (by omega)⟩
   obtain ⟨vb, off, hva, hck⟩ := Hcell.out k u hu
   subst hva
   have hckr := HX.out.cell hck (fun h => HvL.out vb rfl h)
   have hk0 : (0 : Int) ≤ (k : Int) := by omega
   have hk1 : (k : Int) < (nn : Int) := by omega
   have hkn : ((k : Int)).toNat = k := by omega
   have hw5 : IntKind.i64.wrap ((k : Int) + 1) = (k : Int) + 1 := IntWalk.i64_in _ (by omega)
   by_cases hseg : k < ps.length
   ·obtain ⟨p, hp⟩ : ∃ p, ps[k]? = some p := ⟨_, List.getElem?_eq_getElem hseg⟩
    have hch := HL.out.chain
    rw [Hrs.out] at hch
    obtain ⟨hpf, hpne, hple⟩ := Hc.out.at hch hp
    have hpl := List.length_pos_iff.2 hpne
    have hpf100 : p.first < 100 := by omega
    have hu2 : u = .string (segName logPre p.first) := by
     rw [← encSeg p.first hpf100]
     have := hu
     rw [← Hnms.out, List.getElem?_map] at this
     unfold canonNames at this
     rw [List.getElem?_append_left (by simpa using hseg), List.getElem?_map, hp] at this
     simpa using this.symm
    subst hu2
    have hf : fsGet D.files (segName logPre mi) = some (whole p.bytes) := by
     refine (fsGet_mem ((nm_perm Hp.out).nodup_iff.2 (nodup_canon HD.out Hp.out))).2 (Hp.out.mem_iff.2 ?_)
     unfold canon logFs
     exact List.mem_append_right _ (List.mem_map.2 ⟨p, List.mem_of_getElem? hp, by rw [hpf]⟩)
    have hb30 : p.bytes.length ≤ 1073741824 := by
     have h1 := mem_used ((fsGet_mem ((nm_perm Hp.out).nodup_iff.2 (nodup_canon HD.out Hp.out))).1 hf)
     have h2 : (whole p.bytes).data.length = p.bytes.length := rfl
     have h3 := Hsm.out
     simp only at h1
     omega
    have hLF : ¬ F L := fun h => by have := HD.out.lt L h; have := HLw.out; omega
    have hread : ∀ w3, Ext NoB wr w3 → Calls Tryz.prog 74 #[.pointer (some ⟨L, 0, none⟩), .int .i64 mi] w3 fun e w' => e = .returned (.bool true) ∧ Ext FLi w3 w' ∧ ∃ sv' r, LogAt w' L d (Gr FLi w3 w') logPre sv' (rs ++ [r]) (mi + p.es.length) ∧ r.p = p := fun w3 x3 => by
     have hd3 : DiskIs w3 d F D := ((HD.out.no Hx2.out).ext HX.out (fun b hb h => hLF (h ▸ hb))).no x3
     by_cases hrs : rs = []
     ·exact read_first L d F FLi D sv rs mi p _ w3 (HL.out.no x3) hd3 hf rfl hpf hpne (by omega) (fun e he => Hes.out p (List.mem_of_getElem? hp) e he) hrs hb30
     ·exact read_more L d F FLi D sv rs mi p _ w3 (HL.out.no x3) hd3 hf rfl hpf hpne (by omega) (fun e he => Hes.out p (List.mem_of_getElem? hp) e he) hrs hb30
    have hnum := number_seg L p.first wr hpf100 (by rw [cell_of_blk HL.out.blk]; rfl)
    rw [hpf] at hnum hckr
    have Hread := Lib.hid hread
    have Hnum := Lib.hid hnum
    have Hpk := Lib.hid hp
    clear hread hnum hf hb30 hLF hch hpne hple hpl hu hck hp
    go_wp2_with fail
    refine Hnum.out.mono ?_; rintro e w3 ⟨rfl, x3⟩
    have Hx3 := Lib.hid x3
    clear x3
    go_wp2_with fail
    refine (Hread.out w3 Hx3.out).mono ?_; rintro e w4 ⟨rfl, x4, sv', r, l4, hr4⟩
    have Hx4 := Lib.hid x4
    have Hl4 := Lib.hid l4
    clear x4 l4
    go_wp2_with fail
    have s1 := HX.out.size
    have s2 := Hx3.out.size
    refine ⟨⟨k + 1, _, sv', rs ++ [r], _, by go_num, rfl, by omega, Hl4, Lib.hid ?_, Lib.hid ?_, Lib.hid ?_⟩, ?_⟩
    ·rw [List.map_append, Hrs.out, take_succ_some Hpk.out]
     simp [hr4]
    ·intro b hb
     rcases hb with hb | hb
     ·exact HF.out b hb
     ·exact .inr (by omega)
    ·exact (HX.out.nextNo Hx3.out).next Hx4.out (fun b hb hl => (HF.out b hb).elim id (fun h => by omega))
    ·show nn - ((k : Int) + 1).toNat < nn - ((k : Int)).toNat
     omega
   ·have htf : tf.isSome = true := by
     cases h : tf.isSome with
     | true => rfl
     | false => rw [h] at hnl; simp at hnl; omega
    have hkp : k = ps.length := by rw [htf] at hnl; simp at hnl; omega
    have hu2 : u = .string termName := by
     have := hu
     rw [← Hnms.out, List.getElem?_map] at this
     unfold canonNames at this
     rw [List.getElem?_append_right (by simp; omega), htf, List.length_map, hkp, Nat.sub_self] at this
     simp at this
     rw [← this]
    subst hu2
    have hnum := number_term L wr (by rw [cell_of_blk HL.out.blk]; rfl)
    have Hnum := Lib.hid hnum
    have Hkp := Lib.hid hkp
    clear hnum hck hu hkp
    go_wp2_with fail
    refine Hnum.out.mono ?_; rintro e w3 ⟨rfl, x3⟩
    have Hx3 := Lib.hid x3
    clear x3
    go_wp2_with fail
    have hkp := Hkp.out
    refine ⟨⟨k + 1, FLi, sv, rs, mi, by go_num, rfl, by omega, Lib.hid (HL.out.no Hx3.out), Lib.hid ?_, HF, Lib.hid (HX.out.nextNo Hx3.out)⟩, ?_⟩
    ·rw [Hrs.out, List.take_of_length_le (by omega), List.take_of_length_le (by omega)]
    ·show nn - ((k : Int) + 1).toNat < nn - ((k : Int)).toNat
     omega
  ·have hfull : ps.take k = ps := List.take_of_length_le (by (have : ps.length ≤ nn := by rw [← hln, hnl]; omega); omega)
   have hch := HL.out.chain
   rw [Hrs.out, hfull] at hch
   have hmi := hch.det Hc.out
   subst hmi
   go_wp2_with fail
   go_ret2
   have s0 := Hx2.out.size
   have hlw := HLw.out
   refine ⟨L, FLi, sv, rs, rfl, HL.out, by rw [Hrs.out, hfull], fun b hb => (HF.out b hb).elim (fun h => by omega) (fun h => by omega), (Hx2.out.of_no (F := NoB)).next HX.out (fun b h hl => by omega)⟩
end Go.Proofs.YtgglbholbkdgfaaGreatDoor
